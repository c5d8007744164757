/- work.free sums what has changed by a time. -/
import Derived.Test.YtofkhcgkahkagaaPTold
import Derived.Test.YtofkhcgkahkagaaPSum
namespace Go.Proofs.Ytofkhcgkahkagaa
open Go.RowKit Go.Proofs.YtofkhcgkahkagaaW.PrintWords Go.Proofs.YtofkhcgkahkagaaW.PrintLast Go.Proofs.YtofkhcgkahkagaaW.PrintMore Go.Proofs.Ytofkhcgkahkagaa.PPromiseLines
set_option linter.unusedVariables false
set_option linter.unusedSimpArgs false

/-- What has changed by a time. -/
def freeL (t : Int) (xs : List (Int × Int)) : List Int := (xs.filter (fun x => decide (x.1 ≤ t))).map (fun x => x.2)
theorem freeL_snoc (t : Int) (xs : List (Int × Int)) (x : Int × Int) : freeL t (xs ++ [x]) = freeL t xs ++ (if x.1 ≤ t then [x.2] else []) := by
  unfold freeL
  rw [List.filter_append, List.map_append]
  split <;> rename_i h <;> simp [h]
theorem freeL_len (t : Int) (xs : List (Int × Int)) : (freeL t xs).length ≤ xs.length := by
  unfold freeL
  rw [List.length_map]
  exact List.length_filter_le _ _
def Ch64 (xs : List (Int × Int)) : Prop := ∀ x ∈ xs, -9223372036854775808 ≤ x.2 ∧ x.2 ≤ 9223372036854775807
theorem freeL_64 {t : Int} {xs : List (Int × Int)} (h : Ch64 xs) : In64 (freeL t xs) := by
  intro n hn
  obtain ⟨x, hx, rfl⟩ := List.mem_map.1 hn
  exact h x (List.mem_filter.1 hx).1

/-- Reading one change. -/
theorem at_ch {w : World} {A : Option Addr} {xs : List (Int × Int)} (h : Kd.C kCh w A xs.length xs) {k : Nat} (hk : k < xs.length) :
    ∃ ad, A = some ad ∧ w.cell? (ad.add (k * 2)) = some (.int .i64 (xs[k]).1) ∧ w.cell? ⟨(ad.add (k * 2)).block, (ad.add (k * 2)).off + 1, none⟩ = some (.int .i64 (xs[k]).2) := by
  obtain ⟨ad, e, hc⟩ := h.2.2 (by omega)
  obtain ⟨c, hs, ⟨c0, c1, rfl, h0, h1⟩, hcell⟩ := hc k xs[k] (List.getElem?_eq_getElem hk)
  obtain rfl : c0 = [.int .i64 (xs[k]).1] := h0
  obtain rfl : c1 = [.int .i64 (xs[k]).2] := h1
  refine ⟨ad, e, hcell 0 _ rfl, ?_⟩
  have := hcell 1 _ rfl
  rw [add_field _ _ 1 (by omega)] at this
  exact this

set_option maxRecDepth 100000 in
theorem free_calls (A : Option Addr) (c : Nat) (xs : List (Int × Int)) (t : Int) (w : World) (hC : Kd.C kCh w A xs.length xs) (hc : xs.length ≤ c) (hx : Ch64 xs) (hn : xs.length ≤ 100000) :
    Calls Try.prog 44 #[.agg #[.slice A xs.length c], .int .i64 t] w fun e w' => e = .returned (.tuple #[.int .i64 (sumOf (freeL t xs)).1, .int .i64 (sumOf (freeL t xs)).2]) ∧ Below w.heap.size w w' := by
  have hu := Try.underlying81
  have hu2 := Try.underlying117
  go_enter Try.func44, Try.ntmps44
  go_wp2
  have hW0 : Below w.heap.size w (w.alloc (.cells #[.slice A xs.length c] 81)) := (Below.refl _ w).alloc (Nat.le_refl _) _
  go_loopw [6, 12] (fun v i wr => ∃ k : Nat, k ≤ xs.length ∧ i = .int .i64 k ∧ Kd.R (Kd.int .i64) 3 wr w.heap.size (fun _ => True) v (freeL t (xs.take k)) ∧ Below w.heap.size w wr)
    (fun _ i _ => xs.length - (intOf i).toNat)
  case atStart => exact ⟨0, Nat.zero_le _, rfl, Kd.R_nil _ _ _ _ _, hW0⟩
  case round =>
    obtain ⟨k, hk, rfl, hR, hB⟩ := hrel
    by_cases hlt : k < xs.length
    · have hd : decide ((k : Int) < (xs.length : Int)) = true := decide_eq_true (by omega)
      obtain ⟨ad, rfl, hx0, hx1⟩ := at_ch hC hlt
      have hy0 := (hB.cell (World.block_lt_of_cell? w _ hx0)).trans hx0
      have hy1 := (hB.cell (World.block_lt_of_cell? w _ hx1)).trans hx1
      obtain ⟨y, hyy⟩ : ∃ y, y = xs[k] := ⟨_, rfl⟩
      rw [← hyy] at hy0 hy1
      have Hy := Aside0.mk hyy
      clear hyy hx0 hx1
      have hz := hB.size
      have hB2 := fun o => hB.alloc hz o
      have hR2 := fun o => Kd.R_alloc hR o
      have hlen := freeL_len t (xs.take k)
      have hlen2 := List.length_take_le' k xs
      by_cases hle : y.1 ≤ t
      · have hd2 : decide (y.1 ≤ t) = true := decide_eq_true hle
        have Hle := Aside0.mk hle
        clear hle
        go_wp2_with ((with_reducible refine gate_builtin (b := .append) (xs := #[.tmp 20, .tmp 23]) rfl ?_); at_builtin; refine Kd.R_append (Kd.int .i64) (w0 := w) w.heap.size rfl (.tmp 20) (.tmp 23) 105 3 (.int .i64 0) 8 rfl Try.underlying105 info3 rfl (by decide) (by decide) _ (freeL t (xs.take k)) y.2 [.int .i64 y.2] (fun _ => True) (fun _ => False) rfl ?hx ?aP (fun k hk => hk.elim) (fun k hk => trivial) ?aO ?aB ?aS ?aL ?_; (case hx => rw [World.size_alloc]; rfl); (case aP => exact rfl); (case aO => exact hR2 _); (case aB => exact hB2 _); (case aS => rw [World.size_alloc]; omega); (case aL => omega); intro v1 w1 hR1 hB1 hg1 hat1)
        refine ⟨⟨k + 1, by omega, by simp, ?_, hB1⟩, by simp [intOf]; omega⟩
        rw [take_snoc hlt, freeL_snoc, ← Hy.out, if_pos Hle.out]
        exact hR1
      · have hd2 : decide (y.1 ≤ t) = false := decide_eq_false hle
        have Hle := Aside0.mk hle
        clear hle
        go_wp2
        refine ⟨⟨k + 1, by omega, by simp, ?_, hB2 _⟩, by simp [intOf]; omega⟩
        rw [take_snoc hlt, freeL_snoc, ← Hy.out, if_neg Hle.out, List.append_nil]
        exact hR2 _
    · obtain rfl : k = xs.length := by omega
      have hd : decide ((xs.length : Int) < (xs.length : Int)) = false := decide_eq_false (by omega)
      rw [List.take_length] at hR
      obtain ⟨Av, cv, rfl⟩ := Kd.R_slice hR
      have hrd := Kd.R_reads' hR
      have hsum := sum_calls Av cv (freeL t xs) wr hrd.2.2 hrd.2.1 (freeL_64 hx)
      go_wp2_with fail
      refine hsum.mono ?_
      rintro e w2 ⟨rfl, rfl⟩
      go_wp2
      go_ret2
      exact ⟨rfl, hB⟩
end Go.Proofs.Ytofkhcgkahkagaa
