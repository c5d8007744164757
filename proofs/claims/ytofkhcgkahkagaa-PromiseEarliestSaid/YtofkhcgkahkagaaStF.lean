/- The reference's op.May for two kinds; does for two kinds. -/
import Derived.Test.YtofkhcgkahkagaaStE
import Derived.Test.YtofkhcgkahkagaaRMay
namespace Go.Proofs.Ytofkhcgkahkagaa
open Go.RowKit Go.Proofs.YtofkhcgkahkagaaW.PrintWords Go.Proofs.YtofkhcgkahkagaaW.PrintLast Go.Proofs.YtofkhcgkahkagaaW.PrintMore Go.Proofs.Ytofkhcgkahkagaa.PPromiseLines
set_option linter.unusedVariables false
set_option linter.unusedSimpArgs false

theorem name_ne {s : ByteArray} (h : nameB s = true) : s.toList.isEmpty = false := by
  cases e : s.toList with
  | cons x l => rfl
  | nil =>
    have e2 : s.toList = (⟨#[]⟩ : ByteArray).toList := by rw [e]; exact (Lib.toList_data ⟨#[]⟩).symm
    rw [str_eq.1 e2] at h
    revert h
    decide
set_option maxRecDepth 100000 in
set_option maxHeartbeats 2000000 in
theorem may6_receive (sku loc : ByteArray) (q : Int) (hs : nameB sku = true) (hc : nameB loc = true) (hq : 1 ≤ q) (w : World) :
    Calls Try.prog 69 #[.agg #[.int .i64 1, .string sku, .string loc, .string ⟨#[]⟩, .int .i64 q, .int .i64 0, .int .i64 0]] w fun e w' => e = .returned (.bool true) ∧ Below w.heap.size w w' := by
  have hu := Try.underlying88
  have hq1 : decide (1 ≤ q) = true := decide_eq_true hq
  have hbox := fun o => (Below.refl w.heap.size w).alloc (Nat.le_refl _) o
  have hn1 := fun V => name6_calls sku V
  have hn2 := fun V => name6_calls loc V
  rw [hs] at hn1
  rw [hc] at hn2
  go_enter Try.func69, Try.ntmps69
  have hs0 := name_ne hs
  go_wp2_with fail
  refine (hn1 _).mono ?_
  rintro e w1 ⟨rfl, rfl⟩
  go_wp2_with fail
  refine (hn2 _).mono ?_
  rintro e w2 ⟨rfl, rfl⟩
  go_wp2
  go_ret
  exact ⟨rfl, hbox _⟩
set_option maxRecDepth 100000 in
set_option maxHeartbeats 2000000 in
theorem may6_hold (sku loc : ByteArray) (q due : Int) (hs : nameB sku = true) (hc : nameB loc = true) (hq : 1 ≤ q) (hd : 0 ≤ due) (w : World) :
    Calls Try.prog 69 #[.agg #[.int .i64 2, .string sku, .string loc, .string ⟨#[]⟩, .int .i64 q, .int .i64 0, .int .i64 due]] w fun e w' => e = .returned (.bool true) ∧ Below w.heap.size w w' := by
  have hu := Try.underlying88
  have hq1 : decide (1 ≤ q) = true := decide_eq_true hq
  have hd1 : decide (0 ≤ due) = true := decide_eq_true hd
  have hbox := fun o => (Below.refl w.heap.size w).alloc (Nat.le_refl _) o
  have hn1 := fun V => name6_calls sku V
  have hn2 := fun V => name6_calls loc V
  rw [hs] at hn1
  rw [hc] at hn2
  go_enter Try.func69, Try.ntmps69
  have hs0 := name_ne hs
  go_wp2_with fail
  refine (hn1 _).mono ?_
  rintro e w1 ⟨rfl, rfl⟩
  go_wp2_with fail
  refine (hn2 _).mono ?_
  rintro e w2 ⟨rfl, rfl⟩
  go_wp2
  go_ret
  exact ⟨rfl, hbox _⟩
end Go.Proofs.Ytofkhcgkahkagaa
