/- ledger's small functions: a name, a stock's place, which of two places stands first. -/
import Derived.Test.YtofkhcgkahkagaaGreatPMap
import Derived.Test.YtofkhcgkahkagaaGreatPMay
import Derived.Test.YtofkhcgkahkagaaGreatQ1
import Derived.Lib.Bytealg
import Derived.Lib.Hide
import Derived.StillTailTactics
import Derived.Deep.QuietTactic
import Derived.BigQuiet
namespace Go.Proofs.YtofkhcgkahkagaaGreat
open Go.RowKit Go.Proofs.YtofkhcgkahkagaaGreatW.PrintWords Go.Proofs.YtofkhcgkahkagaaGreatW.PrintLast Go.Proofs.YtofkhcgkahkagaaGreatW.PrintMore Go.Proofs.YtofkhcgkahkagaaGreat.PPromiseShort
set_option linter.unusedVariables false
set_option linter.unusedSimpArgs false

theorem name_calls (s : ByteArray) (w : World) : Calls Tryz.prog 76 #[.string s] w fun e w' => e = .returned (.bool (nameB s)) ∧ w = w' := by
  by_cases h1 : 1 ≤ s.size
  · have h1b : decide (1 ≤ (s.size : Int)) = true := decide_eq_true (by omega)
    have h1c : decide (1 ≤ s.size) = true := decide_eq_true h1
    have hn : nameB s = decide ((s.size : Int) ≤ 64) := by unfold nameB; rw [decide_eq_decide]; omega
    rw [hn]
    clear h1 hn
    go_enter Tryz.func76, Tryz.ntmps76
    go_wp2
    go_ret
    exact ⟨rfl, rfl⟩
  · have h1b : decide (1 ≤ (s.size : Int)) = false := decide_eq_false (by omega)
    have h1c : decide (1 ≤ s.size) = false := decide_eq_false h1
    have hn : nameB s = false := by unfold nameB; rw [decide_eq_false_iff_not]; omega
    rw [hn]
    clear h1 hn
    go_enter Tryz.func76, Tryz.ntmps76
    go_wp2
    go_ret
    exact ⟨rfl, rfl⟩

theorem of_calls (a b : ByteArray) (x y : Int) (w : World) : Calls Tryz.prog 78 #[.agg #[.string a, .string b, .int .i64 x, .int .i64 y]] w fun e w' => e = .returned (.agg #[.string a, .string b]) ∧ Below w.heap.size w w' := by
  have hu := Tryz.underlying165
  have hu2 := Tryz.underlying169
  go_enter Tryz.func78, Tryz.ntmps78
  go_wp2
  exact bodyPost_ret (v := .agg #[.string a, .string b]) (by simp [results, Tryz.results78, go_sem]) rfl ⟨rfl, ((Below.refl _ _).alloc (Nat.le_refl _) _).alloc (by simp) _⟩

theorem cmpin_calls (a b : ByteArray) (w : World) : Calls Tryz.prog 176 #[.string a, .string b] w fun e w' => e = .returned (.int .i64 (Lib.compareBytes a.data.toList b.data.toList)) ∧ w = w' := by
  have hc : ∀ w : World, (callFunc 219 #[.string a, .string b]).run Tryz.prog w = .ok (.value (.int .i64 (Lib.compareBytes a.data.toList b.data.toList))) w := fun w => by
    rw [run_callFunc_extern Tryz.func219 (by kernel_rfl) (by kernel_rfl) (by kernel_rfl) (e := Extern.BytealgCompare.compare) (by kernel_rfl), Lib.run_compareString]
    simp only [Result.andThen]
  go_enter Tryz.func176, Tryz.ntmps176
  go_wp2_with (simp only [hc])
  go_ret
  exact ⟨rfl, rfl⟩
theorem cmpstr_calls (a b : ByteArray) (w : World) : Calls Tryz.prog 135 #[.string a, .string b] w fun e w' => e = .returned (.int .i64 (Lib.compareBytes a.data.toList b.data.toList)) ∧ w = w' := by
  go_enter Tryz.func135, Tryz.ntmps135
  go_wp2_with fail
  refine (cmpin_calls a b _).mono ?_
  rintro e w' ⟨rfl, rfl⟩
  go_wp2
  go_ret
  exact ⟨rfl, rfl⟩

/-- Which of two places stands first. -/
def ordP (p q : Plc) : Int := if Lib.compareBytes p.1.data.toList q.1.data.toList = 0 then Lib.compareBytes p.2.data.toList q.2.data.toList else Lib.compareBytes p.1.data.toList q.1.data.toList

theorem two_ints (x y : Int) (W : World) : Kd.C (Kd.int .i64) (W.alloc (.cells #[.int .i64 x, .int .i64 y] 3)) (some ⟨W.heap.size, 0, none⟩) [x, y].length [x, y] := by
  have ho : (W.alloc (.cells #[.int .i64 x, .int .i64 y] 3)).ownsRow 0 3 1 (.slice (some ⟨W.heap.size, 0, none⟩) 2 2) 2 (encs (Value.int .i64) [x, y]) :=
    ⟨rfl, .inr ⟨W.heap.size, 2, #[.int .i64 x, .int .i64 y], rfl, Nat.zero_le _, heap_alloc_new W _, Nat.le_refl _, by decide, rfl, rfl⟩⟩
  exact (Kd.R_reads' (Kd.R_of_own (xs := [x, y]) (ok := fun _ => True) ho (fun _ _ => trivial))).2.2
theorem or_two (x y : Int) : cmp_Or_int.f 3 [x, y] = some (if x = 0 then y else x) := by
  unfold cmp_Or_int.f
  by_cases hx : x = 0
  · by_cases hy : y = 0
    · simp [cmp_Or_int.l0, rd, hx, hy, wrap64]
    · simp [cmp_Or_int.l0, rd, hx, hy, wrap64]
  · simp [cmp_Or_int.l0, rd, hx]

set_option maxRecDepth 100000 in
theorem order_calls (p q : Plc) (w : World) : Calls Tryz.prog 77 #[.agg #[.string p.1, .string p.2], .agg #[.string q.1, .string q.2]] w fun e w' => e = .returned (.int .i64 (ordP p q)) ∧ Below w.heap.size w w' := by
  have hu := Tryz.underlying169
  go_enter Tryz.func77, Tryz.ntmps77
  go_wp2
  obtain ⟨W, hW⟩ : ∃ W, (w.alloc (.cells #[.string p.1, .string p.2] 169)).alloc (.cells #[.string q.1, .string q.2] 169) = W := ⟨_, rfl⟩
  have h00 : W.cell? ⟨w.heap.size, 0, none⟩ = some (.string p.1) := by rw [← hW]; simp
  have h01 : W.cell? ⟨w.heap.size, 1, none⟩ = some (.string p.2) := by rw [← hW]; simp
  have h10 : W.cell? ⟨w.heap.size + 1, 0, none⟩ = some (.string q.1) := by rw [← hW]; simp
  have h11 : W.cell? ⟨w.heap.size + 1, 1, none⟩ = some (.string q.2) := by rw [← hW]; simp
  have hB : Below w.heap.size w W := by rw [← hW]; exact ((Below.refl _ _).alloc (Nat.le_refl _) _).alloc (by simp) _
  rw [hW]
  clear hW
  have hcmp := fun (a b : ByteArray) (w : World) => (cmpstr_calls a b w).mono (fun _ _ h => (⟨h.1, h.2.symm⟩ : _ ∧ _))
  go_still_tail 10, (by kernel_rfl)
  still_call (hcmp _ _ _)
  repeat still_step
  still_call (hcmp _ _ _)
  refine wpStill_nil ?_
  change wpList _ _ _ _ _ W.drew
  have hB2 : Below w.heap.size w W.drew := below_drew1 hB
  generalize W.drew = W2 at *
  clear h00 h01 h10 h11 hcmp
  have HO := Lib.hid (show (if Lib.compareBytes p.1.data.toList q.1.data.toList = 0 then Lib.compareBytes p.2.data.toList q.2.data.toList else Lib.compareBytes p.1.data.toList q.1.data.toList) = ordP p q from rfl)
  generalize Lib.compareBytes p.1.data.toList q.1.data.toList = c1 at *
  generalize Lib.compareBytes p.2.data.toList q.2.data.toList = c2 at *
  go_wp2_with fail
  refine (cmp_Or_int.calls 3 (some ⟨W2.heap.size, 0, none⟩) 2 [c1, c2] _ _ (two_ints c1 c2 W2) (Nat.le_refl _) (or_two c1 c2)).mono ?_
  rintro e w' ⟨rfl, ⟨nd, rfl⟩⟩
  have he : (if c1 = 0 then c2 else c1) = ordP p q := HO.out
  rw [he]
  go_wp2
  go_ret
  exact ⟨rfl, pw_below_drewN (below_alloc hB2 _) nd⟩
end Go.Proofs.YtofkhcgkahkagaaGreat

