/- The laws PromiseLines and PromiseEarliest, walked over an awake that returns true. -/
import Derived.Test.YtofkhcgkahkagaaGreatLaws
import Derived.Test.YtofkhcgkahkagaaGreatPCheck
import Derived.Test.YtofkhcgkahkagaaGreatREarly
namespace Go.Proofs.YtofkhcgkahkagaaGreat
open Go.RowKit Go.Proofs.YtofkhcgkahkagaaGreatW.PrintWords Go.Proofs.YtofkhcgkahkagaaGreatW.PrintLast Go.Proofs.YtofkhcgkahkagaaGreatW.PrintMore Go.Proofs.YtofkhcgkahkagaaGreat.PPromiseShort
set_option linter.unusedVariables false
set_option linter.unusedSimpArgs false

/-- awake returns true, wherever it is called. -/
def AwakeLaw : Prop := ∀ w : World, Calls Tryz.prog 16 #[] w fun e w' => e = .returned (.bool true) ∧ Below w.heap.size w w'

section
variable (l0 : List S165) (l1 : List S172) (l2 : List S176) (A0 : Option Addr) (c0 : Nat) (A1 : Option Addr) (c1 : Nat) (A2 : Option Addr) (c2 : Nat) (ops : Int) (A3 : Option Addr) (c3 : Nat) (l3 : List S103) (sku : ByteArray) (qty time : Int) (w : World)

/-- The laws' two boxes. -/
structure LwW (V : World) : Prop where
  low : Below w.heap.size w V
  led : V.heap[w.heap.size]? = some (.cells #[.slice A0 l0.length c0, .slice A1 l1.length c1, .slice A2 l2.length c2, .int .i64 ops] 55 (0, 0))
  rcp : V.heap[w.heap.size + 1]? = some (.cells #[.string sku, .int .i64 qty, .int .i64 time] 103 (0, 0))
end
section
variable {l0 : List S165} {l1 : List S172} {l2 : List S176} {A0 : Option Addr} {c0 : Nat} {A1 : Option Addr} {c1 : Nat} {A2 : Option Addr} {c2 : Nat} {ops : Int} {sku : ByteArray} {qty time : Int} {w V V' : World}
theorem LwW.below (h : LwW l0 l1 l2 A0 c0 A1 c1 A2 c2 ops sku qty time w V) (hb : Below V.heap.size V V') : LwW l0 l1 l2 A0 c0 A1 c1 A2 c2 ops sku qty time w V' :=
  ⟨below_w h.low hb, (hb.block _ (blk_lt h.led)).trans h.led, (hb.block _ (blk_lt h.rcp)).trans h.rcp⟩
end
section
variable (l0 : List S165) (l1 : List S172) (l2 : List S176) (A0 : Option Addr) (c0 : Nat) (A1 : Option Addr) (c1 : Nat) (A2 : Option Addr) (c2 : Nat) (ops : Int) (A3 : Option Addr) (c3 : Nat) (l3 : List S103) (sku : ByteArray) (qty time : Int) (w : World)

end
end Go.Proofs.YtofkhcgkahkagaaGreat

