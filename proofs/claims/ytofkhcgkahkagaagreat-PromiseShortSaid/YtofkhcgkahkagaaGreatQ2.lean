/- Contracts of the reference's functions, printed by print.sh for PromiseShort, cut by a program to those that the claim uses. -/
import Derived.Test.YtofkhcgkahkagaaGreatQ0
namespace Go.Proofs.YtofkhcgkahkagaaGreat.PPromiseShort
open Go.RowKit Go.Proofs.YtofkhcgkahkagaaGreatW.PrintWords Go.Proofs.YtofkhcgkahkagaaGreatW.PrintLast Go.Proofs.YtofkhcgkahkagaaGreatW.PrintMore
attribute [local go_sem] max2_int min2_int max_two min_two max_three min_three max_four min_four   -- for this text's walks alone
set_option linter.unusedVariables false
set_option linter.unusedSimpArgs false

-- NOT PRINTED: function 81 (num_Sum)

-- NOT PRINTED: function 39 (ledger_Check)

-- NOT PRINTED: function 137 (api_Receipt_137)

-- NOT PRINTED: function 82 (api_Receipt_82)

-- NOT PRINTED: function 40 (promise_may)

-- NOT PRINTED: function 41 (promise_told)

-- NOT PRINTED: function 85 (promise_work_times)

-- NOT PRINTED: function 86 (promise_work_free)

-- NOT PRINTED: function 42 (promise_work_line)

-- NOT PRINTED: function 36 (promise_Line)

/-! ### quaysideref06_Name: function 90 -/
def quaysideref06_Name.f (a0 : ByteArray) : Option (Bool) := if (a0.size : Int) ≥ 1 then (some (decide ((a0.size : Int) ≤ 64))) else (some false)
set_option maxHeartbeats 8000000 in
set_option maxRecDepth 100000 in
theorem quaysideref06_Name.calls (a0 : ByteArray) (r : Bool) (w : World) (h : quaysideref06_Name.f a0 = some r) :
    Calls Tryz.prog 90 #[.string a0] w fun e w' => e = .returned (.bool r) ∧ Drawn0 w w' := by
  have H : (if (a0.size : Int) ≥ 1 then (some (decide ((a0.size : Int) ≤ 64))) else (some false)) = some r := h
  clear h
  by_cases c2 : (a0.size : Int) ≥ 1
  · rw [if_pos c2] at H
    have c2b0 : decide (1 ≤ (a0.size : Int)) = true := decide_eq_true c2
    have c2b1 : decide (1 ≤ a0.size) = true := decide_eq_true (by omega)
    clear c2
    obtain rfl := Option.some.inj H
    go_enter Tryz.func90, Tryz.ntmps90
    go_wp2
    go_ret
    exact ⟨by first | rfl | (simp; done) | (simp [*]; done), by repeat (first | exact Drawn0.refl _ | apply Drawn0.step)⟩
  · rw [if_neg c2] at H
    have c2b0 : decide (1 ≤ (a0.size : Int)) = false := decide_eq_false c2
    have c2b1 : decide (1 ≤ a0.size) = false := decide_eq_false (by omega)
    clear c2
    obtain rfl := Option.some.inj H
    go_enter Tryz.func90, Tryz.ntmps90
    go_wp2
    go_ret
    exact ⟨by first | rfl | (simp; done) | (simp [*]; done), by repeat (first | exact Drawn0.refl _ | apply Drawn0.step)⟩

end Go.Proofs.YtofkhcgkahkagaaGreat.PPromiseShort
