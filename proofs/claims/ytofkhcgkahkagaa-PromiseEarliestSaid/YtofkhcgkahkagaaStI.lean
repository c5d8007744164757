/- The reference's Step, over what answers for May and does. -/
import Derived.Test.YtofkhcgkahkagaaStH
namespace Go.Proofs.Ytofkhcgkahkagaa
open Go.RowKit Go.Proofs.YtofkhcgkahkagaaW.PrintWords Go.Proofs.YtofkhcgkahkagaaW.PrintLast Go.Proofs.YtofkhcgkahkagaaW.PrintMore Go.Proofs.Ytofkhcgkahkagaa.PPromiseLines
set_option linter.unusedVariables false
set_option linter.unusedSimpArgs false

section
variable (l0 : List S100) (l1 : List S107) (l2 : List S111) (A0 : Option Addr) (c0 : Nat) (A1 : Option Addr) (c1 : Nat) (A2 : Option Addr) (c2 : Nat) (ops : Int) (w : World)
set_option maxRecDepth 100000 in
set_option maxHeartbeats 2000000 in
theorem step_calls (kind q id due : Int) (sku loc dst : ByteArray) (m0 : List S100) (m1 : List S107) (m2 : List S111) (hL : LedgerAt l0 l1 l2 A0 c0 A1 c1 A2 c2 w)
    (hmay : ∀ V, Calls Try.prog 69 #[.agg #[.int .i64 kind, .string sku, .string loc, .string dst, .int .i64 q, .int .i64 id, .int .i64 due]] V fun e w' => e = .returned (.bool true) ∧ Below V.heap.size V w')
    (hdoes : ∀ V, LedgerAt l0 l1 l2 A0 c0 A1 c1 A2 c2 V → Calls Try.prog 70 #[.agg #[.slice A0 l0.length c0, .slice A1 l1.length c1, .slice A2 l2.length c2, .int .i64 ops], .agg #[.int .i64 kind, .string sku, .string loc, .string dst, .int .i64 q, .int .i64 id, .int .i64 due]] V (LedEnd2 m0 m1 m2 ops 0 V))
    (hm : m0.length ≤ 4096 ∧ m1.length ≤ 4096 ∧ m2.length ≤ 4096) (ho : 0 ≤ ops ∧ ops < 4611686018427387904) :
    Calls Try.prog 46 #[.agg #[.slice A0 l0.length c0, .slice A1 l1.length c1, .slice A2 l2.length c2, .int .i64 ops], .agg #[.int .i64 kind, .string sku, .string loc, .string dst, .int .i64 q, .int .i64 id, .int .i64 due]] w (LedEnd2 m0 m1 m2 (ops + 1) 0 w) := by
  have hu := Try.underlying41
  have huo := Try.underlying88
  obtain ⟨W0, hW0⟩ : ∃ W0, ((w.alloc (.cells #[.slice A0 l0.length c0, .slice A1 l1.length c1, .slice A2 l2.length c2, .int .i64 ops] 41)).alloc (.cells #[.int .i64 kind, .string sku, .string loc, .string dst, .int .i64 q, .int .i64 id, .int .i64 due] 88)).alloc (.cells #[.slice none 0 0, .slice none 0 0, .slice none 0 0, .int .i64 0] 41) = W0 := ⟨_, rfl⟩
  obtain ⟨hB, h0, h1, h2⟩ : Below w.heap.size w W0 ∧ W0.heap[w.heap.size]? = some (.cells #[.slice A0 l0.length c0, .slice A1 l1.length c1, .slice A2 l2.length c2, .int .i64 ops] 41 (0, 0)) ∧ W0.heap[w.heap.size + 1]? = some (.cells #[.int .i64 kind, .string sku, .string loc, .string dst, .int .i64 q, .int .i64 id, .int .i64 due] 88 (0, 0)) ∧ W0.heap[w.heap.size + 2]? = some (.cells #[.slice none 0 0, .slice none 0 0, .slice none 0 0, .int .i64 0] 41 (0, 0)) := by rw [← hW0]; exact three_boxes
  have hgo : decide ((4611686018427387904 : Int) ≤ ops) = false := decide_eq_false (by omega)
  have hwr : wrap64 (ops + 1) = ops + 1 := by unfold wrap64; omega
  have hd0 : W0.cell? ⟨w.heap.size, 0, none⟩ = some (.slice A0 l0.length c0) := (blk_cell h0 0).trans rfl
  have hd1 : W0.cell? ⟨w.heap.size, 1, none⟩ = some (.slice A1 l1.length c1) := (blk_cell h0 1).trans rfl
  have hd2 : W0.cell? ⟨w.heap.size, 2, none⟩ = some (.slice A2 l2.length c2) := (blk_cell h0 2).trans rfl
  have hd3 : W0.cell? ⟨w.heap.size, 3, none⟩ = some (.int .i64 ops) := (blk_cell h0 3).trans rfl
  have hp0 : W0.cell? ⟨w.heap.size + 1, 0, none⟩ = some (.int .i64 kind) := (blk_cell h1 0).trans rfl
  have hp1 : W0.cell? ⟨w.heap.size + 1, 1, none⟩ = some (.string sku) := (blk_cell h1 1).trans rfl
  have hp2 : W0.cell? ⟨w.heap.size + 1, 2, none⟩ = some (.string loc) := (blk_cell h1 2).trans rfl
  have hp3 : W0.cell? ⟨w.heap.size + 1, 3, none⟩ = some (.string dst) := (blk_cell h1 3).trans rfl
  have hp4 : W0.cell? ⟨w.heap.size + 1, 4, none⟩ = some (.int .i64 q) := (blk_cell h1 4).trans rfl
  have hp5 : W0.cell? ⟨w.heap.size + 1, 5, none⟩ = some (.int .i64 id) := (blk_cell h1 5).trans rfl
  have hp6 : W0.cell? ⟨w.heap.size + 1, 6, none⟩ = some (.int .i64 due) := (blk_cell h1 6).trans rfl
  go_enter Try.func46, Try.ntmps46
  go_wp2_with fail
  refine (hmay _).mono ?_
  clear hmay hW0 hd0 hd1 hd2 hd3 hp0 hp1 hp2 hp3 hp4 hp5 hp6
  rintro e W1 ⟨rfl, hb1⟩
  have k0 := blk_below h0 hb1
  have k1 := blk_below h1 hb1
  have k2 := blk_below h2 hb1
  have hB1 := hB.trans (hb1.mono hB.size)
  have hcall := hdoes W1 (hL.below hB1)
  clear hdoes h0 h1 h2
  have hd0 : W1.cell? ⟨w.heap.size, 0, none⟩ = some (.slice A0 l0.length c0) := (blk_cell k0 0).trans rfl
  have hd1 : W1.cell? ⟨w.heap.size, 1, none⟩ = some (.slice A1 l1.length c1) := (blk_cell k0 1).trans rfl
  have hd2 : W1.cell? ⟨w.heap.size, 2, none⟩ = some (.slice A2 l2.length c2) := (blk_cell k0 2).trans rfl
  have hd3 : W1.cell? ⟨w.heap.size, 3, none⟩ = some (.int .i64 ops) := (blk_cell k0 3).trans rfl
  have hp0 : W1.cell? ⟨w.heap.size + 1, 0, none⟩ = some (.int .i64 kind) := (blk_cell k1 0).trans rfl
  have hp1 : W1.cell? ⟨w.heap.size + 1, 1, none⟩ = some (.string sku) := (blk_cell k1 1).trans rfl
  have hp2 : W1.cell? ⟨w.heap.size + 1, 2, none⟩ = some (.string loc) := (blk_cell k1 2).trans rfl
  have hp3 : W1.cell? ⟨w.heap.size + 1, 3, none⟩ = some (.string dst) := (blk_cell k1 3).trans rfl
  have hp4 : W1.cell? ⟨w.heap.size + 1, 4, none⟩ = some (.int .i64 q) := (blk_cell k1 4).trans rfl
  have hp5 : W1.cell? ⟨w.heap.size + 1, 5, none⟩ = some (.int .i64 id) := (blk_cell k1 5).trans rfl
  have hp6 : W1.cell? ⟨w.heap.size + 1, 6, none⟩ = some (.int .i64 due) := (blk_cell k1 6).trans rfl
  go_wp2_with fail
  refine hcall.mono ?_
  clear hcall hd0 hd1 hd2 hd3 hp0 hp1 hp2 hp3 hp4 hp5 hp6
  rintro e W2 ⟨A, c, A1', c1', A2', c2', rfl, hL2, hb2⟩
  obtain ⟨W3, hW3⟩ : ∃ W3, W2.alloc (.cells #[.slice A m0.length c, .slice A1' m1.length c1', .slice A2' m2.length c2', .int .i64 ops] 41) = W3 := ⟨_, rfl⟩
  have hb3 : Below W2.heap.size W2 W3 := by rw [← hW3]; exact (Below.refl _ _).alloc (Nat.le_refl _) _
  have hB2 := below_w hB1 hb2
  have hB3 := below_w hB2 hb3
  have q0 := blk_below (blk_below k0 hb2) hb3
  have q2 := blk_below (blk_below k2 hb2) hb3
  have qn : W3.heap[W2.heap.size]? = some (.cells #[.slice A m0.length c, .slice A1' m1.length c1', .slice A2' m2.length c2', .int .i64 ops] 41 (0, 0)) := by rw [← hW3]; exact blk_new _ _
  have hL3 := hL2.below hb3
  have hlt : w.heap.size + 2 < W2.heap.size := blk_lt (blk_below k2 hb2)
  have hfull := full_calls m0 m1 m2 A c A1' c1' A2' c2' ops W3 hm
  have hs0 : W3.cell? ⟨W2.heap.size, 0, none⟩ = some (.slice A m0.length c) := (blk_cell qn 0).trans rfl
  have hs1 : W3.cell? ⟨W2.heap.size, 1, none⟩ = some (.slice A1' m1.length c1') := (blk_cell qn 1).trans rfl
  have hs2 : W3.cell? ⟨W2.heap.size, 2, none⟩ = some (.slice A2' m2.length c2') := (blk_cell qn 2).trans rfl
  have hs3 : W3.cell? ⟨W2.heap.size, 3, none⟩ = some (.int .i64 ops) := (blk_cell qn 3).trans rfl
  go_wp2_with fail
  refine hfull.mono ?_
  clear hfull hW3 hs0 hs1 hs2 hs3
  rintro e W4 ⟨rfl, hb4⟩
  have r0 := blk_below q0 hb4
  have r2 := blk_below q2 hb4
  have rn := blk_below qn hb4
  have hL4 := hL3.below hb4
  have hB4 := below_w hB3 hb4
  have hs0 : W4.cell? ⟨W2.heap.size, 0, none⟩ = some (.slice A m0.length c) := (blk_cell rn 0).trans rfl
  have hs1 : W4.cell? ⟨W2.heap.size, 1, none⟩ = some (.slice A1' m1.length c1') := (blk_cell rn 1).trans rfl
  have hs2 : W4.cell? ⟨W2.heap.size, 2, none⟩ = some (.slice A2' m2.length c2') := (blk_cell rn 2).trans rfl
  have hs3 : W4.cell? ⟨W2.heap.size, 3, none⟩ = some (.int .i64 ops) := (blk_cell rn 3).trans rfl
  have hd3 : W4.cell? ⟨w.heap.size, 3, none⟩ = some (.int .i64 ops) := (blk_cell r0 3).trans rfl
  have hfn := blk_frozen rn 3
  have hr0 : W4.cell? ⟨w.heap.size + 1 + 1, 0, none⟩ = some (.slice none 0 0) := (blk_cell r2 0).trans rfl
  have hf0 := blk_frozen r2 0
  have hr1 : W4.cell? ⟨w.heap.size + 1 + 1, 1, none⟩ = some (.slice none 0 0) := (blk_cell r2 1).trans rfl
  have hf1 := blk_frozen r2 1
  have hr2 : W4.cell? ⟨w.heap.size + 1 + 1, 2, none⟩ = some (.slice none 0 0) := (blk_cell r2 2).trans rfl
  have hf2 := blk_frozen r2 2
  have hr3 : W4.cell? ⟨w.heap.size + 1 + 1, 3, none⟩ = some (.int .i64 0) := (blk_cell r2 3).trans rfl
  have hf3 := blk_frozen r2 3
  have hn1 : ¬ (w.heap.size + 1 + 1 = W2.heap.size) := by omega
  have hn2 : ¬ (W2.heap.size = w.heap.size + 1 + 1) := by omega
  go_wp2
  have zf := blk_far (p := ⟨W2.heap.size, 3, none⟩) r2 (by show w.heap.size + 2 ≠ W2.heap.size; omega) (.int .i64 (ops + 1))
  refine bodyPost_ret (results_ct rfl _ _ (w.heap.size + 1 + 1) 41 #[.slice A m0.length c, .slice A1' m1.length c1', .slice A2' m2.length c2', .int .i64 (ops + 1)] (0, 0) _ rfl (put4_blk zf _ _ _ _) hu rfl (by kernel_rfl)) rfl ?_
  exact ⟨A, c, A1', c1', A2', c2', rfl, (hL4.set rn (noStr_box _ _ _ _ _ _ _ _ _ _) 3 (.int .i64 (ops + 1))).put4 zf (noStr_box _ _ _ _ _ _ _ _ _ _) (fun _ h => by cases h) (fun _ h => by cases h) (fun _ h => by cases h), put4_below (below_set hB4 (by omega)) (by omega) _ _ _ _⟩
end
end Go.Proofs.Ytofkhcgkahkagaa
