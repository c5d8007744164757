/- The reference's Earliest. -/
import Derived.Test.YtofkhcgkahkagaaGreatRApi
namespace Go.Proofs.YtofkhcgkahkagaaGreat
open Go.RowKit Go.Proofs.YtofkhcgkahkagaaGreatW.PrintWords Go.Proofs.YtofkhcgkahkagaaGreatW.PrintLast Go.Proofs.YtofkhcgkahkagaaGreatW.PrintMore Go.Proofs.YtofkhcgkahkagaaGreat.PPromiseShort
set_option linter.unusedVariables false
set_option linter.unusedSimpArgs false

def atStep (q : Int) (a : Int) (x : S111) : Int := if x.f1 < q then -1 else if a < 0 then x.f0 else a
def rearlyF (s : List S111) (q : Int) : Int × Int := if s.foldl (atStep q) (-1) < 0 then (0, 3) else (s.foldl (atStep q) (-1), 0)
noncomputable def rearlyA (l0 : List S165) (l1 : List S172) (l2 : List S176) (ops : Int) (l3 : List S103) (sku : ByteArray) (q : Int) : Int × Int :=
  if q < 0 then (0, 1) else if (rlineA l0 l1 l2 ops l3 sku).2 ≠ 0 then (0, (rlineA l0 l1 l2 ops l3 sku).2) else rearlyF (rlineA l0 l1 l2 ops l3 sku).1 q

end Go.Proofs.YtofkhcgkahkagaaGreat

