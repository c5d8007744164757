/- Contracts of the reference's functions, printed by print.sh for PromiseLines, cut by a program to those that the claim uses. -/
import Derived.Test.YtofkhcgkahkagaaQ0
namespace Go.Proofs.Ytofkhcgkahkagaa.PPromiseLines
open Go.RowKit Go.Proofs.YtofkhcgkahkagaaW.PrintWords Go.Proofs.YtofkhcgkahkagaaW.PrintLast Go.Proofs.YtofkhcgkahkagaaW.PrintMore
attribute [local go_sem] max2_int min2_int max_two min_two max_three min_three max_four min_four   -- for this text's walks alone
set_option linter.unusedVariables false
set_option linter.unusedSimpArgs false

-- NOT PRINTED: function 58 (num_Sum)

-- NOT PRINTED: function 38 (ledger_Check)

-- NOT PRINTED: function 78 (api_Receipt_78)

-- NOT PRINTED: function 59 (api_Receipt_59)

-- NOT PRINTED: function 39 (promise_may)

-- NOT PRINTED: function 40 (promise_told)

-- NOT PRINTED: function 44 (promise_work_free)

-- NOT PRINTED: function 62 (promise_work_times)

-- NOT PRINTED: function 41 (promise_work_line)

-- NOT PRINTED: function 20 (promise_Line)

-- NOT PRINTED: function 18 (promise_Earliest)

/-! ### quaysideref06_Name: function 47 -/
def quaysideref06_Name.f (a0 : ByteArray) : Option (Bool) := if (a0.size : Int) ≥ 1 then (some (decide ((a0.size : Int) ≤ 64))) else (some false)
set_option maxHeartbeats 8000000 in
set_option maxRecDepth 100000 in
theorem quaysideref06_Name.calls (a0 : ByteArray) (r : Bool) (w : World) (h : quaysideref06_Name.f a0 = some r) :
    Calls Try.prog 47 #[.string a0] w fun e w' => e = .returned (.bool r) ∧ Drawn0 w w' := by
  have H : (if (a0.size : Int) ≥ 1 then (some (decide ((a0.size : Int) ≤ 64))) else (some false)) = some r := h
  clear h
  by_cases c2 : (a0.size : Int) ≥ 1
  · rw [if_pos c2] at H
    have c2b0 : decide (1 ≤ (a0.size : Int)) = true := decide_eq_true c2
    have c2b1 : decide (1 ≤ a0.size) = true := decide_eq_true (by omega)
    clear c2
    obtain rfl := Option.some.inj H
    go_enter Try.func47, Try.ntmps47
    go_wp2
    go_ret
    exact ⟨by first | rfl | (simp; done) | (simp [*]; done), by repeat (first | exact Drawn0.refl _ | apply Drawn0.step)⟩
  · rw [if_neg c2] at H
    have c2b0 : decide (1 ≤ (a0.size : Int)) = false := decide_eq_false c2
    have c2b1 : decide (1 ≤ a0.size) = false := decide_eq_false (by omega)
    clear c2
    obtain rfl := Option.some.inj H
    go_enter Try.func47, Try.ntmps47
    go_wp2
    go_ret
    exact ⟨by first | rfl | (simp; done) | (simp [*]; done), by repeat (first | exact Drawn0.refl _ | apply Drawn0.step)⟩

end Go.Proofs.Ytofkhcgkahkagaa.PPromiseLines
