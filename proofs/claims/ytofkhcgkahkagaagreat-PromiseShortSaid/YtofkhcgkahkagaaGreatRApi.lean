/- The reference's Line, At and Earliest. -/
import Derived.Test.YtofkhcgkahkagaaGreatRMay
import Derived.Test.YtofkhcgkahkagaaGreatRLine
import Derived.Test.YtofkhcgkahkagaaGreatQ15
import Derived.Test.YtofkhcgkahkagaaGreatQ18
namespace Go.Proofs.YtofkhcgkahkagaaGreat
open Go.RowKit Go.Proofs.YtofkhcgkahkagaaGreatW.PrintWords Go.Proofs.YtofkhcgkahkagaaGreatW.PrintLast Go.Proofs.YtofkhcgkahkagaaGreatW.PrintMore Go.Proofs.YtofkhcgkahkagaaGreat.PPromiseShort
set_option linter.unusedVariables false
set_option linter.unusedSimpArgs false

theorem rmayR_loop (l : List S103) (hn : l.length ≤ 1000) : ∀ d k i : Nat, i + d = l.length → d < k → quaysideref33_May.l0 k l (i : Int) = some ((l.drop i).all recB) := by
  intro d
  induction d with
  | zero =>
    intro k i h1 h2
    obtain ⟨k, rfl⟩ : ∃ m, k = m + 1 := ⟨k - 1, by omega⟩
    rw [quaysideref33_May.l0, if_neg (by omega), List.drop_of_length_le (by omega), decide_eq_true (by omega)]
    rfl
  | succ d ih =>
    intro k i h1 h2
    obtain ⟨k, rfl⟩ : ∃ m, k = m + 1 := ⟨k - 1, by omega⟩
    have hi : i < l.length := by omega
    have hI := ih k (i + 1) (by omega) (by omega)
    rw [quaysideref33_May.l0, if_pos (by omega), if_pos (by omega), rd_R hi, wrap_next hi (by omega), name6_f, Option.bind_some, List.drop_eq_getElem_cons hi, List.all_cons]
    unfold recB
    by_cases c1 : nameB l[i].f0 = true
    · rw [if_pos c1]
      by_cases c2 : l[i].f1 < 1
      · rw [if_pos c2]
        have : ¬ 1 ≤ l[i].f1 := by omega
        simp [c1, this]
      · rw [if_neg c2]
        have c2' : 1 ≤ l[i].f1 := by omega
        by_cases c3 : l[i].f2 < 0
        · rw [if_pos c3]
          have : ¬ 0 ≤ l[i].f2 := by omega
          simp [c1, c2', this]
        · rw [if_neg c3, hI]
          have c3' : 0 ≤ l[i].f2 := by omega
          simp [c1, c2', c3']
          rfl
    · rw [if_neg c1]
      simp [c1]
theorem rmayR_law (l : List S103) (hn : l.length ≤ 20) : quaysideref33_May.f 1000 l = some (mayB l) := by
  have := rmayR_loop l (by omega) l.length 1000 0 (by omega) (by omega)
  unfold quaysideref33_May.f mayB
  rw [decide_eq_true (show l.length ≤ 1000 by omega), Bool.true_and]
  exact this

/-- What is free at a time, without what is taken; and the line of it. -/
def fR (l0 : List S165) (l1 : List S172) (l3 : List S103) (sku : ByteArray) (t : Int) : Int × Int := sumOf (frL l0 l1 l3 [] sku t)
noncomputable def rlineA (l0 : List S165) (l1 : List S172) (l2 : List S176) (ops : Int) (l3 : List S103) (sku : ByteArray) : List S111 × Int :=
  if ckB l0 l1 l2 ops = true ∧ mayB l3 = true then lineG (fR l0 l1 l3 sku) (timesR l1 l3 []) [] else ([], 1)
noncomputable def ratA (l0 : List S165) (l1 : List S172) (l2 : List S176) (ops : Int) (l3 : List S103) (sku : ByteArray) (time : Int) : Int × Int :=
  if ckB l0 l1 l2 ops = true ∧ mayB l3 = true ∧ 0 ≤ time then fR l0 l1 l3 sku time else (0, 1)

section
variable (l0 : List S165) (l1 : List S172) (l2 : List S176) (A0 : Option Addr) (c0 : Nat) (A1 : Option Addr) (c1 : Nat) (A2 : Option Addr) (c2 : Nat) (ops : Int) (A3 : Option Addr) (c3 : Nat) (l3 : List S103) (sku : ByteArray) (w : World)
end
end Go.Proofs.YtofkhcgkahkagaaGreat

