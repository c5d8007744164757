/- Texts behind the row of PromiseKeeps, part 12. -/
import Derived.Test.YtofkhcgkahkagaaU11
/- The reference's does: what it refuses, what goes elsewhere, what is set right. -/
namespace Go.Proofs.Ytofkhcgkahkagaa
open Go.RowKit Go.Proofs.YtofkhcgkahkagaaW.PrintWords Go.Proofs.YtofkhcgkahkagaaW.PrintLast Go.Proofs.YtofkhcgkahkagaaW.PrintMore Go.Proofs.Ytofkhcgkahkagaa.PPromiseLines
set_option linter.unusedVariables false
set_option linter.unusedSimpArgs false

theorem sum_over {a b : Int} (h : ¬ (-9223372036854775808 ≤ a + b ∧ a + b ≤ 9223372036854775807)) : sumOf [a + b] = (0, 10) := by
  unfold sumOf
  rw [show ([a + b] : List Int).sum = a + b by simp, if_neg h]
theorem field_st3 (s : S100) (V : World) : (Instr.field 100 (.agg #[.string s.f0, .string s.f1, .int .i64 s.f2, .int .i64 s.f3]) 3).run Try.prog V = .ok (.int .i64 s.f3) V := by kernel_rfl

section
variable (l0 : List S100) (l1 : List S107) (l2 : List S111) (A0 : Option Addr) (c0 : Nat) (A1 : Option Addr) (c1 : Nat) (A2 : Option Addr) (c2 : Nat) (ops : Int) (w : World)
set_option maxRecDepth 100000 in
set_option maxHeartbeats 2000000 in
theorem does_over1 (sku loc dst : ByteArray) (q id due : Int) (hq : i64B q) (hL : LedgerAt l0 l1 l2 A0 c0 A1 c1 A2 c2 w) (hl : l0.length ≤ 4000) (hl1 : l1.length ≤ 4000) (hl2 : l2.length ≤ 4000) (hg : i64B (findF l0 (sku, loc)).f2) (hsum : ¬ (-9223372036854775808 ≤ (findF l0 (sku, loc)).f2 + q ∧ (findF l0 (sku, loc)).f2 + q ≤ 9223372036854775807)) :
    Calls Try.prog 70 #[.agg #[.slice A0 l0.length c0, .slice A1 l1.length c1, .slice A2 l2.length c2, .int .i64 ops], .agg #[.int .i64 1, .string sku, .string loc, .string dst, .int .i64 q, .int .i64 id, .int .i64 due]] w (LedEnd2 l0 l1 l2 ops 10 w) := by
  have hu := Try.underlying41
  have huo := Try.underlying88
  have hus := Try.underlying100
  have hum := Try.underlying111
  obtain ⟨W3, hW3⟩ : ∃ W3, ((w.alloc (.cells #[.slice A0 l0.length c0, .slice A1 l1.length c1, .slice A2 l2.length c2, .int .i64 ops] 41)).alloc (.cells #[.int .i64 1, .string sku, .string loc, .string dst, .int .i64 q, .int .i64 id, .int .i64 due] 88)).alloc (.cells #[.slice none 0 0, .slice none 0 0, .slice none 0 0, .int .i64 0] 41) = W3 := ⟨_, rfl⟩
  obtain ⟨hB3, g0, g1, g2⟩ : Below w.heap.size w W3 ∧ W3.heap[w.heap.size]? = some (.cells #[.slice A0 l0.length c0, .slice A1 l1.length c1, .slice A2 l2.length c2, .int .i64 ops] 41 (0, 0)) ∧ W3.heap[w.heap.size + 1]? = some (.cells #[.int .i64 1, .string sku, .string loc, .string dst, .int .i64 q, .int .i64 id, .int .i64 due] 88 (0, 0)) ∧ W3.heap[w.heap.size + 2]? = some (.cells #[.slice none 0 0, .slice none 0 0, .slice none 0 0, .int .i64 0] 41 (0, 0)) := by rw [← hW3]; exact three_boxes
  have hx1 : W3.cell? ⟨w.heap.size + 1, 1, none⟩ = some (.string sku) := (blk_cell g1 1).trans rfl
  have hx2 : W3.cell? ⟨w.heap.size + 1, 2, none⟩ = some (.string loc) := (blk_cell g1 2).trans rfl
  have hB := hB3.alloc hB3.size (.cells #[.string sku, .string loc, .int .i64 0, .int .i64 0] 100)
  have h0 := blk_alloc g0 (.cells #[.string sku, .string loc, .int .i64 0, .int .i64 0] 100)
  have h1 := blk_alloc g1 (.cells #[.string sku, .string loc, .int .i64 0, .int .i64 0] 100)
  have h2 := blk_alloc g2 (.cells #[.string sku, .string loc, .int .i64 0, .int .i64 0] 100)
  have h3 := blk_new W3 (.cells #[.string sku, .string loc, .int .i64 0, .int .i64 0] 100)
  have hmore := more_calls l0 l1 l2 A0 c0 A1 c1 A2 c2 ops (W3.alloc (.cells #[.string sku, .string loc, .int .i64 0, .int .i64 0] 100)) sku loc q hq (hL.below hB) (by omega) hg
  rw [sum_over hsum] at hmore
  dsimp only at hmore
  clear hsum hg
  have hd0 : (W3.alloc (.cells #[.string sku, .string loc, .int .i64 0, .int .i64 0] 100)).cell? ⟨w.heap.size, 0, none⟩ = some (.slice A0 l0.length c0) := (blk_cell h0 0).trans rfl
  have hd1 : (W3.alloc (.cells #[.string sku, .string loc, .int .i64 0, .int .i64 0] 100)).cell? ⟨w.heap.size, 1, none⟩ = some (.slice A1 l1.length c1) := (blk_cell h0 1).trans rfl
  have hd2 : (W3.alloc (.cells #[.string sku, .string loc, .int .i64 0, .int .i64 0] 100)).cell? ⟨w.heap.size, 2, none⟩ = some (.slice A2 l2.length c2) := (blk_cell h0 2).trans rfl
  have hd3 : (W3.alloc (.cells #[.string sku, .string loc, .int .i64 0, .int .i64 0] 100)).cell? ⟨w.heap.size, 3, none⟩ = some (.int .i64 ops) := (blk_cell h0 3).trans rfl
  have hp0 : (W3.alloc (.cells #[.string sku, .string loc, .int .i64 0, .int .i64 0] 100)).cell? ⟨w.heap.size + 1, 0, none⟩ = some (.int .i64 1) := (blk_cell h1 0).trans rfl
  have hp1 : (W3.alloc (.cells #[.string sku, .string loc, .int .i64 0, .int .i64 0] 100)).cell? ⟨w.heap.size + 1, 1, none⟩ = some (.string sku) := (blk_cell h1 1).trans rfl
  have hp2 : (W3.alloc (.cells #[.string sku, .string loc, .int .i64 0, .int .i64 0] 100)).cell? ⟨w.heap.size + 1, 2, none⟩ = some (.string loc) := (blk_cell h1 2).trans rfl
  have hp3 : (W3.alloc (.cells #[.string sku, .string loc, .int .i64 0, .int .i64 0] 100)).cell? ⟨w.heap.size + 1, 3, none⟩ = some (.string dst) := (blk_cell h1 3).trans rfl
  have hp4 : (W3.alloc (.cells #[.string sku, .string loc, .int .i64 0, .int .i64 0] 100)).cell? ⟨w.heap.size + 1, 4, none⟩ = some (.int .i64 q) := (blk_cell h1 4).trans rfl
  have hp5 : (W3.alloc (.cells #[.string sku, .string loc, .int .i64 0, .int .i64 0] 100)).cell? ⟨w.heap.size + 1, 5, none⟩ = some (.int .i64 id) := (blk_cell h1 5).trans rfl
  have hp6 : (W3.alloc (.cells #[.string sku, .string loc, .int .i64 0, .int .i64 0] 100)).cell? ⟨w.heap.size + 1, 6, none⟩ = some (.int .i64 due) := (blk_cell h1 6).trans rfl
  have ha0 : (W3.alloc (.cells #[.string sku, .string loc, .int .i64 0, .int .i64 0] 100)).cell? ⟨W3.heap.size, 0, none⟩ = some (.string sku) := (blk_cell h3 0).trans rfl
  have ha1 : (W3.alloc (.cells #[.string sku, .string loc, .int .i64 0, .int .i64 0] 100)).cell? ⟨W3.heap.size, 1, none⟩ = some (.string loc) := (blk_cell h3 1).trans rfl
  have ha2 : (W3.alloc (.cells #[.string sku, .string loc, .int .i64 0, .int .i64 0] 100)).cell? ⟨W3.heap.size, 2, none⟩ = some (.int .i64 0) := (blk_cell h3 2).trans rfl
  have ha3 : (W3.alloc (.cells #[.string sku, .string loc, .int .i64 0, .int .i64 0] 100)).cell? ⟨W3.heap.size, 3, none⟩ = some (.int .i64 0) := (blk_cell h3 3).trans rfl
  go_enter Try.func70, Try.ntmps70
  go_wp2_with fail
  refine hmore.mono ?_
  clear hmore hd0 hd1 hd2 hd3 hp0 hp1 hp2 hp3 hp4 hp5 hp6 ha0 ha1 ha2 ha3 hW3 hx1 hx2 g0 g1 g2 hB3
  rintro e W1 ⟨rfl, hb1⟩
  have k0 := blk_below h0 hb1
  have k1 := blk_below h1 hb1
  have k2 := blk_below h2 hb1
  have k3 := blk_below h3 hb1
  have hB1 := below_w hB hb1
  clear h0 h1 h2 h3
  have hr0 : W1.cell? ⟨w.heap.size + 1 + 1, 0, none⟩ = some (.slice none 0 0) := (blk_cell k2 0).trans rfl
  have hf0 := blk_frozen k2 0
  have hr1 : W1.cell? ⟨w.heap.size + 1 + 1, 1, none⟩ = some (.slice none 0 0) := (blk_cell k2 1).trans rfl
  have hf1 := blk_frozen k2 1
  have hr2 : W1.cell? ⟨w.heap.size + 1 + 1, 2, none⟩ = some (.slice none 0 0) := (blk_cell k2 2).trans rfl
  have hf2 := blk_frozen k2 2
  have hr3 : W1.cell? ⟨w.heap.size + 1 + 1, 3, none⟩ = some (.int .i64 0) := (blk_cell k2 3).trans rfl
  have hf3 := blk_frozen k2 3
  have hd0 : W1.cell? ⟨w.heap.size, 0, none⟩ = some (.slice A0 l0.length c0) := (blk_cell k0 0).trans rfl
  have hd1 : W1.cell? ⟨w.heap.size, 1, none⟩ = some (.slice A1 l1.length c1) := (blk_cell k0 1).trans rfl
  have hd2 : W1.cell? ⟨w.heap.size, 2, none⟩ = some (.slice A2 l2.length c2) := (blk_cell k0 2).trans rfl
  have hd3 : W1.cell? ⟨w.heap.size, 3, none⟩ = some (.int .i64 ops) := (blk_cell k0 3).trans rfl
  go_wp2
  refine bodyPost_ret (results_ct rfl _ _ (w.heap.size + 1 + 1) 41 #[.slice A0 l0.length c0, .slice A1 l1.length c1, .slice A2 l2.length c2, .int .i64 ops] (0, 0) _ rfl (put4_blk k2 _ _ _ _) hu rfl (by kernel_rfl)) rfl ?_
  exact ⟨A0, c0, A1, c1, A2, c2, rfl, (hL.below hB1).put4 k2 (noStr_box _ _ _ _ _ _ _ _ _ _) (fun _ h => by cases h) (fun _ h => by cases h) (fun _ h => by cases h), put4_below hB1 (by omega) _ _ _ _⟩
set_option maxRecDepth 100000 in
set_option maxHeartbeats 2000000 in
theorem does_stock2 (sku loc dst : ByteArray) (q id due : Int) (hq : i64B q) (hL : LedgerAt l0 l1 l2 A0 c0 A1 c1 A2 c2 w) (hl : l0.length ≤ 4000) (hl1 : l1.length ≤ 4000) (hl2 : l2.length ≤ 4000) (hgf : i64B (findF l0 (sku, loc)).f2 ∧ i64B (findF l0 (sku, loc)).f3) (hfree : (sumOf [(findF l0 (sku, loc)).f2 - (findF l0 (sku, loc)).f3]).1 < q) :
    Calls Try.prog 70 #[.agg #[.slice A0 l0.length c0, .slice A1 l1.length c1, .slice A2 l2.length c2, .int .i64 ops], .agg #[.int .i64 2, .string sku, .string loc, .string dst, .int .i64 q, .int .i64 id, .int .i64 due]] w (LedEnd2 l0 l1 l2 ops 70 w) := by
  have hu := Try.underlying41
  have huo := Try.underlying88
  have hus := Try.underlying100
  have hum := Try.underlying111
  obtain ⟨W3, hW3⟩ : ∃ W3, ((w.alloc (.cells #[.slice A0 l0.length c0, .slice A1 l1.length c1, .slice A2 l2.length c2, .int .i64 ops] 41)).alloc (.cells #[.int .i64 2, .string sku, .string loc, .string dst, .int .i64 q, .int .i64 id, .int .i64 due] 88)).alloc (.cells #[.slice none 0 0, .slice none 0 0, .slice none 0 0, .int .i64 0] 41) = W3 := ⟨_, rfl⟩
  obtain ⟨hB3, g0, g1, g2⟩ : Below w.heap.size w W3 ∧ W3.heap[w.heap.size]? = some (.cells #[.slice A0 l0.length c0, .slice A1 l1.length c1, .slice A2 l2.length c2, .int .i64 ops] 41 (0, 0)) ∧ W3.heap[w.heap.size + 1]? = some (.cells #[.int .i64 2, .string sku, .string loc, .string dst, .int .i64 q, .int .i64 id, .int .i64 due] 88 (0, 0)) ∧ W3.heap[w.heap.size + 2]? = some (.cells #[.slice none 0 0, .slice none 0 0, .slice none 0 0, .int .i64 0] 41 (0, 0)) := by rw [← hW3]; exact three_boxes
  have hx1 : W3.cell? ⟨w.heap.size + 1, 1, none⟩ = some (.string sku) := (blk_cell g1 1).trans rfl
  have hx2 : W3.cell? ⟨w.heap.size + 1, 2, none⟩ = some (.string loc) := (blk_cell g1 2).trans rfl
  have hB := hB3.alloc hB3.size (.cells #[.string sku, .string loc, .int .i64 0, .int .i64 0] 100)
  have h0 := blk_alloc g0 (.cells #[.string sku, .string loc, .int .i64 0, .int .i64 0] 100)
  have h1 := blk_alloc g1 (.cells #[.string sku, .string loc, .int .i64 0, .int .i64 0] 100)
  have h2 := blk_alloc g2 (.cells #[.string sku, .string loc, .int .i64 0, .int .i64 0] 100)
  have h3 := blk_new W3 (.cells #[.string sku, .string loc, .int .i64 0, .int .i64 0] 100)
  have hFree := fun V (hV : Below w.heap.size w V) => rFree_calls l0 l1 l2 A0 c0 A1 c1 A2 c2 ops V sku loc (hL.below hV) (by omega) hgf
  obtain ⟨t, ht⟩ : ∃ t, (sumOf [(findF l0 (sku, loc)).f2 - (findF l0 (sku, loc)).f3]).1 = t := ⟨_, rfl⟩
  rw [ht] at hFree hfree
  have htq : decide (t < q) = true := decide_eq_true (by omega)
  have HF := Lib.hid hFree
  clear ht hgf hfree hFree
  have hd0 : (W3.alloc (.cells #[.string sku, .string loc, .int .i64 0, .int .i64 0] 100)).cell? ⟨w.heap.size, 0, none⟩ = some (.slice A0 l0.length c0) := (blk_cell h0 0).trans rfl
  have hd1 : (W3.alloc (.cells #[.string sku, .string loc, .int .i64 0, .int .i64 0] 100)).cell? ⟨w.heap.size, 1, none⟩ = some (.slice A1 l1.length c1) := (blk_cell h0 1).trans rfl
  have hd2 : (W3.alloc (.cells #[.string sku, .string loc, .int .i64 0, .int .i64 0] 100)).cell? ⟨w.heap.size, 2, none⟩ = some (.slice A2 l2.length c2) := (blk_cell h0 2).trans rfl
  have hd3 : (W3.alloc (.cells #[.string sku, .string loc, .int .i64 0, .int .i64 0] 100)).cell? ⟨w.heap.size, 3, none⟩ = some (.int .i64 ops) := (blk_cell h0 3).trans rfl
  have hp0 : (W3.alloc (.cells #[.string sku, .string loc, .int .i64 0, .int .i64 0] 100)).cell? ⟨w.heap.size + 1, 0, none⟩ = some (.int .i64 2) := (blk_cell h1 0).trans rfl
  have hp1 : (W3.alloc (.cells #[.string sku, .string loc, .int .i64 0, .int .i64 0] 100)).cell? ⟨w.heap.size + 1, 1, none⟩ = some (.string sku) := (blk_cell h1 1).trans rfl
  have hp2 : (W3.alloc (.cells #[.string sku, .string loc, .int .i64 0, .int .i64 0] 100)).cell? ⟨w.heap.size + 1, 2, none⟩ = some (.string loc) := (blk_cell h1 2).trans rfl
  have hp3 : (W3.alloc (.cells #[.string sku, .string loc, .int .i64 0, .int .i64 0] 100)).cell? ⟨w.heap.size + 1, 3, none⟩ = some (.string dst) := (blk_cell h1 3).trans rfl
  have hp4 : (W3.alloc (.cells #[.string sku, .string loc, .int .i64 0, .int .i64 0] 100)).cell? ⟨w.heap.size + 1, 4, none⟩ = some (.int .i64 q) := (blk_cell h1 4).trans rfl
  have hp5 : (W3.alloc (.cells #[.string sku, .string loc, .int .i64 0, .int .i64 0] 100)).cell? ⟨w.heap.size + 1, 5, none⟩ = some (.int .i64 id) := (blk_cell h1 5).trans rfl
  have hp6 : (W3.alloc (.cells #[.string sku, .string loc, .int .i64 0, .int .i64 0] 100)).cell? ⟨w.heap.size + 1, 6, none⟩ = some (.int .i64 due) := (blk_cell h1 6).trans rfl
  have ha0 : (W3.alloc (.cells #[.string sku, .string loc, .int .i64 0, .int .i64 0] 100)).cell? ⟨W3.heap.size, 0, none⟩ = some (.string sku) := (blk_cell h3 0).trans rfl
  have ha1 : (W3.alloc (.cells #[.string sku, .string loc, .int .i64 0, .int .i64 0] 100)).cell? ⟨W3.heap.size, 1, none⟩ = some (.string loc) := (blk_cell h3 1).trans rfl
  have ha2 : (W3.alloc (.cells #[.string sku, .string loc, .int .i64 0, .int .i64 0] 100)).cell? ⟨W3.heap.size, 2, none⟩ = some (.int .i64 0) := (blk_cell h3 2).trans rfl
  have ha3 : (W3.alloc (.cells #[.string sku, .string loc, .int .i64 0, .int .i64 0] 100)).cell? ⟨W3.heap.size, 3, none⟩ = some (.int .i64 0) := (blk_cell h3 3).trans rfl
  go_enter Try.func70, Try.ntmps70
  go_wp2
  clear hd0 hd1 hd2 hd3 hp0 hp1 hp2 hp3 hp4 hp5 hp6 ha0 ha1 ha2 ha3
  obtain ⟨W4, hW4⟩ : ∃ W4, W3.alloc (.cells #[.string sku, .string loc, .int .i64 0, .int .i64 0] 100) = W4 := ⟨_, rfl⟩
  rw [hW4] at h0 h1 h2 h3 hB
  rw [hW4]
  clear hW4 hW3 hx1 hx2 g0 g1 g2 hB3
  have hd0x : W4.cell? ⟨w.heap.size, 0, none⟩ = some (.slice A0 l0.length c0) := (blk_cell h0 0).trans rfl
  have hd1x : W4.cell? ⟨w.heap.size, 1, none⟩ = some (.slice A1 l1.length c1) := (blk_cell h0 1).trans rfl
  have hd2x : W4.cell? ⟨w.heap.size, 2, none⟩ = some (.slice A2 l2.length c2) := (blk_cell h0 2).trans rfl
  have hd3x : W4.cell? ⟨w.heap.size, 3, none⟩ = some (.int .i64 ops) := (blk_cell h0 3).trans rfl
  have hp1x : W4.cell? ⟨w.heap.size + 1, 1, none⟩ = some (.string sku) := (blk_cell h1 1).trans rfl
  have hp2x : W4.cell? ⟨w.heap.size + 1, 2, none⟩ = some (.string loc) := (blk_cell h1 2).trans rfl
  have hp4x : W4.cell? ⟨w.heap.size + 1, 4, none⟩ = some (.int .i64 q) := (blk_cell h1 4).trans rfl
  go_region_held3 (fun V => V.cell? ⟨w.heap.size, 0, none⟩ = some (.slice A0 l0.length c0) ∧ V.cell? ⟨w.heap.size, 1, none⟩ = some (.slice A1 l1.length c1) ∧ V.cell? ⟨w.heap.size, 2, none⟩ = some (.slice A2 l2.length c2) ∧ V.cell? ⟨w.heap.size, 3, none⟩ = some (.int .i64 ops) ∧ V.cell? ⟨w.heap.size + 1, 1, none⟩ = some (.string sku) ∧ V.cell? ⟨w.heap.size + 1, 2, none⟩ = some (.string loc) ∧ V.cell? ⟨w.heap.size + 1, 4, none⟩ = some (.int .i64 q))
    (first | assumption | exact ⟨cell_below (below_drew (Below.refl _ _)) hd0x, cell_below (below_drew (Below.refl _ _)) hd1x, cell_below (below_drew (Below.refl _ _)) hd2x, cell_below (below_drew (Below.refl _ _)) hd3x, cell_below (below_drew (Below.refl _ _)) hp1x, cell_below (below_drew (Below.refl _ _)) hp2x, cell_below (below_drew (Below.refl _ _)) hp4x⟩ | exact ⟨cell_below hbw hd0x, cell_below hbw hd1x, cell_below hbw hd2x, cell_below hbw hd3x, cell_below hbw hp1x, cell_below hbw hp2x, cell_below hbw hp4x⟩)
    (first | (go_at_call 88; refine (HF.out _ (below_w hB (below_drew (Below.refl _ _)))).mono ?_; rintro e w' ⟨rfl, hbn⟩; have hbw : Below W4.heap.size W4 w' := below_chain (below_drew (Below.refl _ _)) hbn))
  clear hd0x hd1x hd2x hd3x hp1x hp2x hp4x
  go_split_ands
  have k0 := blk_below h0 hbw
  have k1 := blk_below h1 hbw
  have k2 := blk_below h2 hbw
  have k3 := blk_below h3 hbw
  have hB1 := below_w hB hbw
  clear h0 h1 h2 h3
  have hr0 : w'.cell? ⟨w.heap.size + 1 + 1, 0, none⟩ = some (.slice none 0 0) := (blk_cell k2 0).trans rfl
  have hf0 := blk_frozen k2 0
  have hr1 : w'.cell? ⟨w.heap.size + 1 + 1, 1, none⟩ = some (.slice none 0 0) := (blk_cell k2 1).trans rfl
  have hf1 := blk_frozen k2 1
  have hr2 : w'.cell? ⟨w.heap.size + 1 + 1, 2, none⟩ = some (.slice none 0 0) := (blk_cell k2 2).trans rfl
  have hf2 := blk_frozen k2 2
  have hr3 : w'.cell? ⟨w.heap.size + 1 + 1, 3, none⟩ = some (.int .i64 0) := (blk_cell k2 3).trans rfl
  have hf3 := blk_frozen k2 3
  have hd0 : w'.cell? ⟨w.heap.size, 0, none⟩ = some (.slice A0 l0.length c0) := (blk_cell k0 0).trans rfl
  have hd1 : w'.cell? ⟨w.heap.size, 1, none⟩ = some (.slice A1 l1.length c1) := (blk_cell k0 1).trans rfl
  have hd2 : w'.cell? ⟨w.heap.size, 2, none⟩ = some (.slice A2 l2.length c2) := (blk_cell k0 2).trans rfl
  have hd3 : w'.cell? ⟨w.heap.size, 3, none⟩ = some (.int .i64 ops) := (blk_cell k0 3).trans rfl
  go_wp2
  refine bodyPost_ret (results_ct rfl _ _ (w.heap.size + 1 + 1) 41 #[.slice A0 l0.length c0, .slice A1 l1.length c1, .slice A2 l2.length c2, .int .i64 ops] (0, 0) _ rfl (put4_blk k2 _ _ _ _) hu rfl (by kernel_rfl)) rfl ?_
  exact ⟨A0, c0, A1, c1, A2, c2, rfl, (hL.below hB1).put4 k2 (noStr_box _ _ _ _ _ _ _ _ _ _) (fun _ h => by cases h) (fun _ h => by cases h) (fun _ h => by cases h), put4_below hB1 (by omega) _ _ _ _⟩
set_option maxRecDepth 100000 in
set_option maxHeartbeats 2000000 in
theorem does_stock6 (sku loc dst : ByteArray) (q id due : Int) (hq : i64B q) (hL : LedgerAt l0 l1 l2 A0 c0 A1 c1 A2 c2 w) (hl : l0.length ≤ 4000) (hl1 : l1.length ≤ 4000) (hl2 : l2.length ≤ 4000) (hgf : i64B (findF l0 (sku, loc)).f2 ∧ i64B (findF l0 (sku, loc)).f3) (hfree : (sumOf [(findF l0 (sku, loc)).f2 - (findF l0 (sku, loc)).f3]).1 < q) :
    Calls Try.prog 70 #[.agg #[.slice A0 l0.length c0, .slice A1 l1.length c1, .slice A2 l2.length c2, .int .i64 ops], .agg #[.int .i64 6, .string sku, .string loc, .string dst, .int .i64 q, .int .i64 id, .int .i64 due]] w (LedEnd2 l0 l1 l2 ops 70 w) := by
  have hu := Try.underlying41
  have huo := Try.underlying88
  have hus := Try.underlying100
  have hum := Try.underlying111
  obtain ⟨W3, hW3⟩ : ∃ W3, ((w.alloc (.cells #[.slice A0 l0.length c0, .slice A1 l1.length c1, .slice A2 l2.length c2, .int .i64 ops] 41)).alloc (.cells #[.int .i64 6, .string sku, .string loc, .string dst, .int .i64 q, .int .i64 id, .int .i64 due] 88)).alloc (.cells #[.slice none 0 0, .slice none 0 0, .slice none 0 0, .int .i64 0] 41) = W3 := ⟨_, rfl⟩
  obtain ⟨hB3, g0, g1, g2⟩ : Below w.heap.size w W3 ∧ W3.heap[w.heap.size]? = some (.cells #[.slice A0 l0.length c0, .slice A1 l1.length c1, .slice A2 l2.length c2, .int .i64 ops] 41 (0, 0)) ∧ W3.heap[w.heap.size + 1]? = some (.cells #[.int .i64 6, .string sku, .string loc, .string dst, .int .i64 q, .int .i64 id, .int .i64 due] 88 (0, 0)) ∧ W3.heap[w.heap.size + 2]? = some (.cells #[.slice none 0 0, .slice none 0 0, .slice none 0 0, .int .i64 0] 41 (0, 0)) := by rw [← hW3]; exact three_boxes
  have hx1 : W3.cell? ⟨w.heap.size + 1, 1, none⟩ = some (.string sku) := (blk_cell g1 1).trans rfl
  have hx2 : W3.cell? ⟨w.heap.size + 1, 2, none⟩ = some (.string loc) := (blk_cell g1 2).trans rfl
  have hB := hB3.alloc hB3.size (.cells #[.string sku, .string loc, .int .i64 0, .int .i64 0] 100)
  have h0 := blk_alloc g0 (.cells #[.string sku, .string loc, .int .i64 0, .int .i64 0] 100)
  have h1 := blk_alloc g1 (.cells #[.string sku, .string loc, .int .i64 0, .int .i64 0] 100)
  have h2 := blk_alloc g2 (.cells #[.string sku, .string loc, .int .i64 0, .int .i64 0] 100)
  have h3 := blk_new W3 (.cells #[.string sku, .string loc, .int .i64 0, .int .i64 0] 100)
  have hFree := fun V (hV : Below w.heap.size w V) => rFree_calls l0 l1 l2 A0 c0 A1 c1 A2 c2 ops V sku loc (hL.below hV) (by omega) hgf
  obtain ⟨t, ht⟩ : ∃ t, (sumOf [(findF l0 (sku, loc)).f2 - (findF l0 (sku, loc)).f3]).1 = t := ⟨_, rfl⟩
  rw [ht] at hFree hfree
  have htq : decide (t < q) = true := decide_eq_true (by omega)
  have HF := Lib.hid hFree
  clear ht hgf hfree hFree
  have hd0 : (W3.alloc (.cells #[.string sku, .string loc, .int .i64 0, .int .i64 0] 100)).cell? ⟨w.heap.size, 0, none⟩ = some (.slice A0 l0.length c0) := (blk_cell h0 0).trans rfl
  have hd1 : (W3.alloc (.cells #[.string sku, .string loc, .int .i64 0, .int .i64 0] 100)).cell? ⟨w.heap.size, 1, none⟩ = some (.slice A1 l1.length c1) := (blk_cell h0 1).trans rfl
  have hd2 : (W3.alloc (.cells #[.string sku, .string loc, .int .i64 0, .int .i64 0] 100)).cell? ⟨w.heap.size, 2, none⟩ = some (.slice A2 l2.length c2) := (blk_cell h0 2).trans rfl
  have hd3 : (W3.alloc (.cells #[.string sku, .string loc, .int .i64 0, .int .i64 0] 100)).cell? ⟨w.heap.size, 3, none⟩ = some (.int .i64 ops) := (blk_cell h0 3).trans rfl
  have hp0 : (W3.alloc (.cells #[.string sku, .string loc, .int .i64 0, .int .i64 0] 100)).cell? ⟨w.heap.size + 1, 0, none⟩ = some (.int .i64 6) := (blk_cell h1 0).trans rfl
  have hp1 : (W3.alloc (.cells #[.string sku, .string loc, .int .i64 0, .int .i64 0] 100)).cell? ⟨w.heap.size + 1, 1, none⟩ = some (.string sku) := (blk_cell h1 1).trans rfl
  have hp2 : (W3.alloc (.cells #[.string sku, .string loc, .int .i64 0, .int .i64 0] 100)).cell? ⟨w.heap.size + 1, 2, none⟩ = some (.string loc) := (blk_cell h1 2).trans rfl
  have hp3 : (W3.alloc (.cells #[.string sku, .string loc, .int .i64 0, .int .i64 0] 100)).cell? ⟨w.heap.size + 1, 3, none⟩ = some (.string dst) := (blk_cell h1 3).trans rfl
  have hp4 : (W3.alloc (.cells #[.string sku, .string loc, .int .i64 0, .int .i64 0] 100)).cell? ⟨w.heap.size + 1, 4, none⟩ = some (.int .i64 q) := (blk_cell h1 4).trans rfl
  have hp5 : (W3.alloc (.cells #[.string sku, .string loc, .int .i64 0, .int .i64 0] 100)).cell? ⟨w.heap.size + 1, 5, none⟩ = some (.int .i64 id) := (blk_cell h1 5).trans rfl
  have hp6 : (W3.alloc (.cells #[.string sku, .string loc, .int .i64 0, .int .i64 0] 100)).cell? ⟨w.heap.size + 1, 6, none⟩ = some (.int .i64 due) := (blk_cell h1 6).trans rfl
  have ha0 : (W3.alloc (.cells #[.string sku, .string loc, .int .i64 0, .int .i64 0] 100)).cell? ⟨W3.heap.size, 0, none⟩ = some (.string sku) := (blk_cell h3 0).trans rfl
  have ha1 : (W3.alloc (.cells #[.string sku, .string loc, .int .i64 0, .int .i64 0] 100)).cell? ⟨W3.heap.size, 1, none⟩ = some (.string loc) := (blk_cell h3 1).trans rfl
  have ha2 : (W3.alloc (.cells #[.string sku, .string loc, .int .i64 0, .int .i64 0] 100)).cell? ⟨W3.heap.size, 2, none⟩ = some (.int .i64 0) := (blk_cell h3 2).trans rfl
  have ha3 : (W3.alloc (.cells #[.string sku, .string loc, .int .i64 0, .int .i64 0] 100)).cell? ⟨W3.heap.size, 3, none⟩ = some (.int .i64 0) := (blk_cell h3 3).trans rfl
  go_enter Try.func70, Try.ntmps70
  go_wp2
  clear hd0 hd1 hd2 hd3 hp0 hp1 hp2 hp3 hp4 hp5 hp6 ha0 ha1 ha2 ha3
  obtain ⟨W4, hW4⟩ : ∃ W4, W3.alloc (.cells #[.string sku, .string loc, .int .i64 0, .int .i64 0] 100) = W4 := ⟨_, rfl⟩
  rw [hW4] at h0 h1 h2 h3 hB
  rw [hW4]
  clear hW4 hW3 hx1 hx2 g0 g1 g2 hB3
  have hd0x : W4.cell? ⟨w.heap.size, 0, none⟩ = some (.slice A0 l0.length c0) := (blk_cell h0 0).trans rfl
  have hd1x : W4.cell? ⟨w.heap.size, 1, none⟩ = some (.slice A1 l1.length c1) := (blk_cell h0 1).trans rfl
  have hd2x : W4.cell? ⟨w.heap.size, 2, none⟩ = some (.slice A2 l2.length c2) := (blk_cell h0 2).trans rfl
  have hd3x : W4.cell? ⟨w.heap.size, 3, none⟩ = some (.int .i64 ops) := (blk_cell h0 3).trans rfl
  have hp1x : W4.cell? ⟨w.heap.size + 1, 1, none⟩ = some (.string sku) := (blk_cell h1 1).trans rfl
  have hp2x : W4.cell? ⟨w.heap.size + 1, 2, none⟩ = some (.string loc) := (blk_cell h1 2).trans rfl
  have hp4x : W4.cell? ⟨w.heap.size + 1, 4, none⟩ = some (.int .i64 q) := (blk_cell h1 4).trans rfl
  go_region_held3 (fun V => V.cell? ⟨w.heap.size, 0, none⟩ = some (.slice A0 l0.length c0) ∧ V.cell? ⟨w.heap.size, 1, none⟩ = some (.slice A1 l1.length c1) ∧ V.cell? ⟨w.heap.size, 2, none⟩ = some (.slice A2 l2.length c2) ∧ V.cell? ⟨w.heap.size, 3, none⟩ = some (.int .i64 ops) ∧ V.cell? ⟨w.heap.size + 1, 1, none⟩ = some (.string sku) ∧ V.cell? ⟨w.heap.size + 1, 2, none⟩ = some (.string loc) ∧ V.cell? ⟨w.heap.size + 1, 4, none⟩ = some (.int .i64 q))
    (first | assumption | exact ⟨cell_below (below_drew (Below.refl _ _)) hd0x, cell_below (below_drew (Below.refl _ _)) hd1x, cell_below (below_drew (Below.refl _ _)) hd2x, cell_below (below_drew (Below.refl _ _)) hd3x, cell_below (below_drew (Below.refl _ _)) hp1x, cell_below (below_drew (Below.refl _ _)) hp2x, cell_below (below_drew (Below.refl _ _)) hp4x⟩ | exact ⟨cell_below hbw hd0x, cell_below hbw hd1x, cell_below hbw hd2x, cell_below hbw hd3x, cell_below hbw hp1x, cell_below hbw hp2x, cell_below hbw hp4x⟩)
    (first | (go_at_call 88; refine (HF.out _ (below_w hB (below_drew (Below.refl _ _)))).mono ?_; rintro e w' ⟨rfl, hbn⟩; have hbw : Below W4.heap.size W4 w' := below_chain (below_drew (Below.refl _ _)) hbn))
  clear hd0x hd1x hd2x hd3x hp1x hp2x hp4x
  go_split_ands
  have k0 := blk_below h0 hbw
  have k1 := blk_below h1 hbw
  have k2 := blk_below h2 hbw
  have k3 := blk_below h3 hbw
  have hB1 := below_w hB hbw
  clear h0 h1 h2 h3
  have hr0 : w'.cell? ⟨w.heap.size + 1 + 1, 0, none⟩ = some (.slice none 0 0) := (blk_cell k2 0).trans rfl
  have hf0 := blk_frozen k2 0
  have hr1 : w'.cell? ⟨w.heap.size + 1 + 1, 1, none⟩ = some (.slice none 0 0) := (blk_cell k2 1).trans rfl
  have hf1 := blk_frozen k2 1
  have hr2 : w'.cell? ⟨w.heap.size + 1 + 1, 2, none⟩ = some (.slice none 0 0) := (blk_cell k2 2).trans rfl
  have hf2 := blk_frozen k2 2
  have hr3 : w'.cell? ⟨w.heap.size + 1 + 1, 3, none⟩ = some (.int .i64 0) := (blk_cell k2 3).trans rfl
  have hf3 := blk_frozen k2 3
  have hd0 : w'.cell? ⟨w.heap.size, 0, none⟩ = some (.slice A0 l0.length c0) := (blk_cell k0 0).trans rfl
  have hd1 : w'.cell? ⟨w.heap.size, 1, none⟩ = some (.slice A1 l1.length c1) := (blk_cell k0 1).trans rfl
  have hd2 : w'.cell? ⟨w.heap.size, 2, none⟩ = some (.slice A2 l2.length c2) := (blk_cell k0 2).trans rfl
  have hd3 : w'.cell? ⟨w.heap.size, 3, none⟩ = some (.int .i64 ops) := (blk_cell k0 3).trans rfl
  go_wp2
  refine bodyPost_ret (results_ct rfl _ _ (w.heap.size + 1 + 1) 41 #[.slice A0 l0.length c0, .slice A1 l1.length c1, .slice A2 l2.length c2, .int .i64 ops] (0, 0) _ rfl (put4_blk k2 _ _ _ _) hu rfl (by kernel_rfl)) rfl ?_
  exact ⟨A0, c0, A1, c1, A2, c2, rfl, (hL.below hB1).put4 k2 (noStr_box _ _ _ _ _ _ _ _ _ _) (fun _ h => by cases h) (fun _ h => by cases h) (fun _ h => by cases h), put4_below hB1 (by omega) _ _ _ _⟩
set_option maxRecDepth 100000 in
set_option maxHeartbeats 2000000 in
theorem does_over6 (sku loc dst : ByteArray) (q id due : Int) (hq : i64B q) (hL : LedgerAt l0 l1 l2 A0 c0 A1 c1 A2 c2 w) (hl : l0.length ≤ 4000) (hl1 : l1.length ≤ 4000) (hl2 : l2.length ≤ 4000) (hgf : i64B (findF l0 (sku, loc)).f2 ∧ i64B (findF l0 (sku, loc)).f3) (hfree : q ≤ (sumOf [(findF l0 (sku, loc)).f2 - (findF l0 (sku, loc)).f3]).1) (hg : i64B (findF l0 (sku, dst)).f2) (hsum : ¬ (-9223372036854775808 ≤ (findF l0 (sku, dst)).f2 + q ∧ (findF l0 (sku, dst)).f2 + q ≤ 9223372036854775807)) :
    Calls Try.prog 70 #[.agg #[.slice A0 l0.length c0, .slice A1 l1.length c1, .slice A2 l2.length c2, .int .i64 ops], .agg #[.int .i64 6, .string sku, .string loc, .string dst, .int .i64 q, .int .i64 id, .int .i64 due]] w (LedEnd2 l0 l1 l2 ops 10 w) := by
  have hu := Try.underlying41
  have huo := Try.underlying88
  have hus := Try.underlying100
  have hum := Try.underlying111
  obtain ⟨W3, hW3⟩ : ∃ W3, ((w.alloc (.cells #[.slice A0 l0.length c0, .slice A1 l1.length c1, .slice A2 l2.length c2, .int .i64 ops] 41)).alloc (.cells #[.int .i64 6, .string sku, .string loc, .string dst, .int .i64 q, .int .i64 id, .int .i64 due] 88)).alloc (.cells #[.slice none 0 0, .slice none 0 0, .slice none 0 0, .int .i64 0] 41) = W3 := ⟨_, rfl⟩
  obtain ⟨hB3, g0, g1, g2⟩ : Below w.heap.size w W3 ∧ W3.heap[w.heap.size]? = some (.cells #[.slice A0 l0.length c0, .slice A1 l1.length c1, .slice A2 l2.length c2, .int .i64 ops] 41 (0, 0)) ∧ W3.heap[w.heap.size + 1]? = some (.cells #[.int .i64 6, .string sku, .string loc, .string dst, .int .i64 q, .int .i64 id, .int .i64 due] 88 (0, 0)) ∧ W3.heap[w.heap.size + 2]? = some (.cells #[.slice none 0 0, .slice none 0 0, .slice none 0 0, .int .i64 0] 41 (0, 0)) := by rw [← hW3]; exact three_boxes
  have hx1 : W3.cell? ⟨w.heap.size + 1, 1, none⟩ = some (.string sku) := (blk_cell g1 1).trans rfl
  have hx2 : W3.cell? ⟨w.heap.size + 1, 2, none⟩ = some (.string loc) := (blk_cell g1 2).trans rfl
  have hB := hB3.alloc hB3.size (.cells #[.string sku, .string loc, .int .i64 0, .int .i64 0] 100)
  have h0 := blk_alloc g0 (.cells #[.string sku, .string loc, .int .i64 0, .int .i64 0] 100)
  have h1 := blk_alloc g1 (.cells #[.string sku, .string loc, .int .i64 0, .int .i64 0] 100)
  have h2 := blk_alloc g2 (.cells #[.string sku, .string loc, .int .i64 0, .int .i64 0] 100)
  have h3 := blk_new W3 (.cells #[.string sku, .string loc, .int .i64 0, .int .i64 0] 100)
  have hFree := fun V (hV : Below w.heap.size w V) => rFree_calls l0 l1 l2 A0 c0 A1 c1 A2 c2 ops V sku loc (hL.below hV) (by omega) hgf
  obtain ⟨t, ht⟩ : ∃ t, (sumOf [(findF l0 (sku, loc)).f2 - (findF l0 (sku, loc)).f3]).1 = t := ⟨_, rfl⟩
  rw [ht] at hFree hfree
  have htq : decide (t < q) = false := decide_eq_false (by omega)
  have HF := Lib.hid hFree
  clear ht hgf hfree hFree
  have hd0 : (W3.alloc (.cells #[.string sku, .string loc, .int .i64 0, .int .i64 0] 100)).cell? ⟨w.heap.size, 0, none⟩ = some (.slice A0 l0.length c0) := (blk_cell h0 0).trans rfl
  have hd1 : (W3.alloc (.cells #[.string sku, .string loc, .int .i64 0, .int .i64 0] 100)).cell? ⟨w.heap.size, 1, none⟩ = some (.slice A1 l1.length c1) := (blk_cell h0 1).trans rfl
  have hd2 : (W3.alloc (.cells #[.string sku, .string loc, .int .i64 0, .int .i64 0] 100)).cell? ⟨w.heap.size, 2, none⟩ = some (.slice A2 l2.length c2) := (blk_cell h0 2).trans rfl
  have hd3 : (W3.alloc (.cells #[.string sku, .string loc, .int .i64 0, .int .i64 0] 100)).cell? ⟨w.heap.size, 3, none⟩ = some (.int .i64 ops) := (blk_cell h0 3).trans rfl
  have hp0 : (W3.alloc (.cells #[.string sku, .string loc, .int .i64 0, .int .i64 0] 100)).cell? ⟨w.heap.size + 1, 0, none⟩ = some (.int .i64 6) := (blk_cell h1 0).trans rfl
  have hp1 : (W3.alloc (.cells #[.string sku, .string loc, .int .i64 0, .int .i64 0] 100)).cell? ⟨w.heap.size + 1, 1, none⟩ = some (.string sku) := (blk_cell h1 1).trans rfl
  have hp2 : (W3.alloc (.cells #[.string sku, .string loc, .int .i64 0, .int .i64 0] 100)).cell? ⟨w.heap.size + 1, 2, none⟩ = some (.string loc) := (blk_cell h1 2).trans rfl
  have hp3 : (W3.alloc (.cells #[.string sku, .string loc, .int .i64 0, .int .i64 0] 100)).cell? ⟨w.heap.size + 1, 3, none⟩ = some (.string dst) := (blk_cell h1 3).trans rfl
  have hp4 : (W3.alloc (.cells #[.string sku, .string loc, .int .i64 0, .int .i64 0] 100)).cell? ⟨w.heap.size + 1, 4, none⟩ = some (.int .i64 q) := (blk_cell h1 4).trans rfl
  have hp5 : (W3.alloc (.cells #[.string sku, .string loc, .int .i64 0, .int .i64 0] 100)).cell? ⟨w.heap.size + 1, 5, none⟩ = some (.int .i64 id) := (blk_cell h1 5).trans rfl
  have hp6 : (W3.alloc (.cells #[.string sku, .string loc, .int .i64 0, .int .i64 0] 100)).cell? ⟨w.heap.size + 1, 6, none⟩ = some (.int .i64 due) := (blk_cell h1 6).trans rfl
  have ha0 : (W3.alloc (.cells #[.string sku, .string loc, .int .i64 0, .int .i64 0] 100)).cell? ⟨W3.heap.size, 0, none⟩ = some (.string sku) := (blk_cell h3 0).trans rfl
  have ha1 : (W3.alloc (.cells #[.string sku, .string loc, .int .i64 0, .int .i64 0] 100)).cell? ⟨W3.heap.size, 1, none⟩ = some (.string loc) := (blk_cell h3 1).trans rfl
  have ha2 : (W3.alloc (.cells #[.string sku, .string loc, .int .i64 0, .int .i64 0] 100)).cell? ⟨W3.heap.size, 2, none⟩ = some (.int .i64 0) := (blk_cell h3 2).trans rfl
  have ha3 : (W3.alloc (.cells #[.string sku, .string loc, .int .i64 0, .int .i64 0] 100)).cell? ⟨W3.heap.size, 3, none⟩ = some (.int .i64 0) := (blk_cell h3 3).trans rfl
  go_enter Try.func70, Try.ntmps70
  go_wp2
  clear hd0 hd1 hd2 hd3 hp0 hp1 hp2 hp3 hp4 hp5 hp6 ha0 ha1 ha2 ha3
  obtain ⟨W4, hW4⟩ : ∃ W4, W3.alloc (.cells #[.string sku, .string loc, .int .i64 0, .int .i64 0] 100) = W4 := ⟨_, rfl⟩
  rw [hW4] at h0 h1 h2 h3 hB
  rw [hW4]
  clear hW4 hW3 hx1 hx2 g0 g1 g2 hB3
  have hd0x : W4.cell? ⟨w.heap.size, 0, none⟩ = some (.slice A0 l0.length c0) := (blk_cell h0 0).trans rfl
  have hd1x : W4.cell? ⟨w.heap.size, 1, none⟩ = some (.slice A1 l1.length c1) := (blk_cell h0 1).trans rfl
  have hd2x : W4.cell? ⟨w.heap.size, 2, none⟩ = some (.slice A2 l2.length c2) := (blk_cell h0 2).trans rfl
  have hd3x : W4.cell? ⟨w.heap.size, 3, none⟩ = some (.int .i64 ops) := (blk_cell h0 3).trans rfl
  have hp1x : W4.cell? ⟨w.heap.size + 1, 1, none⟩ = some (.string sku) := (blk_cell h1 1).trans rfl
  have hp2x : W4.cell? ⟨w.heap.size + 1, 2, none⟩ = some (.string loc) := (blk_cell h1 2).trans rfl
  have hp4x : W4.cell? ⟨w.heap.size + 1, 4, none⟩ = some (.int .i64 q) := (blk_cell h1 4).trans rfl
  go_region_held3 (fun V => V.cell? ⟨w.heap.size, 0, none⟩ = some (.slice A0 l0.length c0) ∧ V.cell? ⟨w.heap.size, 1, none⟩ = some (.slice A1 l1.length c1) ∧ V.cell? ⟨w.heap.size, 2, none⟩ = some (.slice A2 l2.length c2) ∧ V.cell? ⟨w.heap.size, 3, none⟩ = some (.int .i64 ops) ∧ V.cell? ⟨w.heap.size + 1, 1, none⟩ = some (.string sku) ∧ V.cell? ⟨w.heap.size + 1, 2, none⟩ = some (.string loc) ∧ V.cell? ⟨w.heap.size + 1, 4, none⟩ = some (.int .i64 q))
    (first | assumption | exact ⟨cell_below (below_drew (Below.refl _ _)) hd0x, cell_below (below_drew (Below.refl _ _)) hd1x, cell_below (below_drew (Below.refl _ _)) hd2x, cell_below (below_drew (Below.refl _ _)) hd3x, cell_below (below_drew (Below.refl _ _)) hp1x, cell_below (below_drew (Below.refl _ _)) hp2x, cell_below (below_drew (Below.refl _ _)) hp4x⟩ | exact ⟨cell_below hbw hd0x, cell_below hbw hd1x, cell_below hbw hd2x, cell_below hbw hd3x, cell_below hbw hp1x, cell_below hbw hp2x, cell_below hbw hp4x⟩)
    (first | (go_at_call 88; refine (HF.out _ (below_w hB (below_drew (Below.refl _ _)))).mono ?_; rintro e w' ⟨rfl, hbn⟩; have hbw : Below W4.heap.size W4 w' := below_chain (below_drew (Below.refl _ _)) hbn))
  clear hd0x hd1x hd2x hd3x hp1x hp2x hp4x
  go_split_ands
  have k0 := blk_below h0 hbw
  have k1 := blk_below h1 hbw
  have k2 := blk_below h2 hbw
  have k3 := blk_below h3 hbw
  have hB1 := below_w hB hbw
  clear h0 h1 h2 h3
  have hmore := more_calls l0 l1 l2 A0 c0 A1 c1 A2 c2 ops w' sku dst q hq (hL.below hB1) (by omega) hg
  rw [sum_over hsum] at hmore
  dsimp only at hmore
  clear hsum hg
  have hd0 : w'.cell? ⟨w.heap.size, 0, none⟩ = some (.slice A0 l0.length c0) := (blk_cell k0 0).trans rfl
  have hd1 : w'.cell? ⟨w.heap.size, 1, none⟩ = some (.slice A1 l1.length c1) := (blk_cell k0 1).trans rfl
  have hd2 : w'.cell? ⟨w.heap.size, 2, none⟩ = some (.slice A2 l2.length c2) := (blk_cell k0 2).trans rfl
  have hd3 : w'.cell? ⟨w.heap.size, 3, none⟩ = some (.int .i64 ops) := (blk_cell k0 3).trans rfl
  have hp0 : w'.cell? ⟨w.heap.size + 1, 0, none⟩ = some (.int .i64 6) := (blk_cell k1 0).trans rfl
  have hp1 : w'.cell? ⟨w.heap.size + 1, 1, none⟩ = some (.string sku) := (blk_cell k1 1).trans rfl
  have hp2 : w'.cell? ⟨w.heap.size + 1, 2, none⟩ = some (.string loc) := (blk_cell k1 2).trans rfl
  have hp3 : w'.cell? ⟨w.heap.size + 1, 3, none⟩ = some (.string dst) := (blk_cell k1 3).trans rfl
  have hp4 : w'.cell? ⟨w.heap.size + 1, 4, none⟩ = some (.int .i64 q) := (blk_cell k1 4).trans rfl
  have hp5 : w'.cell? ⟨w.heap.size + 1, 5, none⟩ = some (.int .i64 id) := (blk_cell k1 5).trans rfl
  have hp6 : w'.cell? ⟨w.heap.size + 1, 6, none⟩ = some (.int .i64 due) := (blk_cell k1 6).trans rfl
  have ha0 : w'.cell? ⟨W3.heap.size, 0, none⟩ = some (.string sku) := (blk_cell k3 0).trans rfl
  have ha1 : w'.cell? ⟨W3.heap.size, 1, none⟩ = some (.string loc) := (blk_cell k3 1).trans rfl
  have ha2 : w'.cell? ⟨W3.heap.size, 2, none⟩ = some (.int .i64 0) := (blk_cell k3 2).trans rfl
  have ha3 : w'.cell? ⟨W3.heap.size, 3, none⟩ = some (.int .i64 0) := (blk_cell k3 3).trans rfl
  go_wp2_with fail
  refine hmore.mono ?_
  clear hmore hd0 hd1 hd2 hd3 hp0 hp1 hp2 hp3 hp4 hp5 hp6 ha0 ha1 ha2 ha3
  rintro e W1 ⟨rfl, hb1⟩
  have j0 := blk_below k0 hb1
  have j1 := blk_below k1 hb1
  have j2 := blk_below k2 hb1
  have j3 := blk_below k3 hb1
  have hB2 := below_w hB1 hb1
  clear k0 k1 k2 k3
  have hr0 : W1.cell? ⟨w.heap.size + 1 + 1, 0, none⟩ = some (.slice none 0 0) := (blk_cell j2 0).trans rfl
  have hf0 := blk_frozen j2 0
  have hr1 : W1.cell? ⟨w.heap.size + 1 + 1, 1, none⟩ = some (.slice none 0 0) := (blk_cell j2 1).trans rfl
  have hf1 := blk_frozen j2 1
  have hr2 : W1.cell? ⟨w.heap.size + 1 + 1, 2, none⟩ = some (.slice none 0 0) := (blk_cell j2 2).trans rfl
  have hf2 := blk_frozen j2 2
  have hr3 : W1.cell? ⟨w.heap.size + 1 + 1, 3, none⟩ = some (.int .i64 0) := (blk_cell j2 3).trans rfl
  have hf3 := blk_frozen j2 3
  have hd0 : W1.cell? ⟨w.heap.size, 0, none⟩ = some (.slice A0 l0.length c0) := (blk_cell j0 0).trans rfl
  have hd1 : W1.cell? ⟨w.heap.size, 1, none⟩ = some (.slice A1 l1.length c1) := (blk_cell j0 1).trans rfl
  have hd2 : W1.cell? ⟨w.heap.size, 2, none⟩ = some (.slice A2 l2.length c2) := (blk_cell j0 2).trans rfl
  have hd3 : W1.cell? ⟨w.heap.size, 3, none⟩ = some (.int .i64 ops) := (blk_cell j0 3).trans rfl
  go_wp2
  refine bodyPost_ret (results_ct rfl _ _ (w.heap.size + 1 + 1) 41 #[.slice A0 l0.length c0, .slice A1 l1.length c1, .slice A2 l2.length c2, .int .i64 ops] (0, 0) _ rfl (put4_blk j2 _ _ _ _) hu rfl (by kernel_rfl)) rfl ?_
  exact ⟨A0, c0, A1, c1, A2, c2, rfl, (hL.below hB2).put4 j2 (noStr_box _ _ _ _ _ _ _ _ _ _) (fun _ h => by cases h) (fun _ h => by cases h) (fun _ h => by cases h), put4_below hB2 (by omega) _ _ _ _⟩
set_option maxRecDepth 100000 in
set_option maxHeartbeats 2000000 in
theorem does_over7 (sku loc dst : ByteArray) (q id due : Int) (hq : i64B q) (hL : LedgerAt l0 l1 l2 A0 c0 A1 c1 A2 c2 w) (hl : l0.length ≤ 4000) (hl1 : l1.length ≤ 4000) (hl2 : l2.length ≤ 4000) (hg : i64B (findF l0 (sku, loc)).f2) (hsum : ¬ (-9223372036854775808 ≤ (findF l0 (sku, loc)).f2 + q ∧ (findF l0 (sku, loc)).f2 + q ≤ 9223372036854775807)) :
    Calls Try.prog 70 #[.agg #[.slice A0 l0.length c0, .slice A1 l1.length c1, .slice A2 l2.length c2, .int .i64 ops], .agg #[.int .i64 7, .string sku, .string loc, .string dst, .int .i64 q, .int .i64 id, .int .i64 due]] w (LedEnd2 l0 l1 l2 ops 10 w) := by
  have hu := Try.underlying41
  have huo := Try.underlying88
  have hus := Try.underlying100
  have hum := Try.underlying111
  obtain ⟨W3, hW3⟩ : ∃ W3, ((w.alloc (.cells #[.slice A0 l0.length c0, .slice A1 l1.length c1, .slice A2 l2.length c2, .int .i64 ops] 41)).alloc (.cells #[.int .i64 7, .string sku, .string loc, .string dst, .int .i64 q, .int .i64 id, .int .i64 due] 88)).alloc (.cells #[.slice none 0 0, .slice none 0 0, .slice none 0 0, .int .i64 0] 41) = W3 := ⟨_, rfl⟩
  obtain ⟨hB3, g0, g1, g2⟩ : Below w.heap.size w W3 ∧ W3.heap[w.heap.size]? = some (.cells #[.slice A0 l0.length c0, .slice A1 l1.length c1, .slice A2 l2.length c2, .int .i64 ops] 41 (0, 0)) ∧ W3.heap[w.heap.size + 1]? = some (.cells #[.int .i64 7, .string sku, .string loc, .string dst, .int .i64 q, .int .i64 id, .int .i64 due] 88 (0, 0)) ∧ W3.heap[w.heap.size + 2]? = some (.cells #[.slice none 0 0, .slice none 0 0, .slice none 0 0, .int .i64 0] 41 (0, 0)) := by rw [← hW3]; exact three_boxes
  have hx1 : W3.cell? ⟨w.heap.size + 1, 1, none⟩ = some (.string sku) := (blk_cell g1 1).trans rfl
  have hx2 : W3.cell? ⟨w.heap.size + 1, 2, none⟩ = some (.string loc) := (blk_cell g1 2).trans rfl
  have hB := hB3.alloc hB3.size (.cells #[.string sku, .string loc, .int .i64 0, .int .i64 0] 100)
  have h0 := blk_alloc g0 (.cells #[.string sku, .string loc, .int .i64 0, .int .i64 0] 100)
  have h1 := blk_alloc g1 (.cells #[.string sku, .string loc, .int .i64 0, .int .i64 0] 100)
  have h2 := blk_alloc g2 (.cells #[.string sku, .string loc, .int .i64 0, .int .i64 0] 100)
  have h3 := blk_new W3 (.cells #[.string sku, .string loc, .int .i64 0, .int .i64 0] 100)
  have hmore := more_calls l0 l1 l2 A0 c0 A1 c1 A2 c2 ops (W3.alloc (.cells #[.string sku, .string loc, .int .i64 0, .int .i64 0] 100)) sku loc q hq (hL.below hB) (by omega) hg
  rw [sum_over hsum] at hmore
  dsimp only at hmore
  clear hsum hg
  have hd0 : (W3.alloc (.cells #[.string sku, .string loc, .int .i64 0, .int .i64 0] 100)).cell? ⟨w.heap.size, 0, none⟩ = some (.slice A0 l0.length c0) := (blk_cell h0 0).trans rfl
  have hd1 : (W3.alloc (.cells #[.string sku, .string loc, .int .i64 0, .int .i64 0] 100)).cell? ⟨w.heap.size, 1, none⟩ = some (.slice A1 l1.length c1) := (blk_cell h0 1).trans rfl
  have hd2 : (W3.alloc (.cells #[.string sku, .string loc, .int .i64 0, .int .i64 0] 100)).cell? ⟨w.heap.size, 2, none⟩ = some (.slice A2 l2.length c2) := (blk_cell h0 2).trans rfl
  have hd3 : (W3.alloc (.cells #[.string sku, .string loc, .int .i64 0, .int .i64 0] 100)).cell? ⟨w.heap.size, 3, none⟩ = some (.int .i64 ops) := (blk_cell h0 3).trans rfl
  have hp0 : (W3.alloc (.cells #[.string sku, .string loc, .int .i64 0, .int .i64 0] 100)).cell? ⟨w.heap.size + 1, 0, none⟩ = some (.int .i64 7) := (blk_cell h1 0).trans rfl
  have hp1 : (W3.alloc (.cells #[.string sku, .string loc, .int .i64 0, .int .i64 0] 100)).cell? ⟨w.heap.size + 1, 1, none⟩ = some (.string sku) := (blk_cell h1 1).trans rfl
  have hp2 : (W3.alloc (.cells #[.string sku, .string loc, .int .i64 0, .int .i64 0] 100)).cell? ⟨w.heap.size + 1, 2, none⟩ = some (.string loc) := (blk_cell h1 2).trans rfl
  have hp3 : (W3.alloc (.cells #[.string sku, .string loc, .int .i64 0, .int .i64 0] 100)).cell? ⟨w.heap.size + 1, 3, none⟩ = some (.string dst) := (blk_cell h1 3).trans rfl
  have hp4 : (W3.alloc (.cells #[.string sku, .string loc, .int .i64 0, .int .i64 0] 100)).cell? ⟨w.heap.size + 1, 4, none⟩ = some (.int .i64 q) := (blk_cell h1 4).trans rfl
  have hp5 : (W3.alloc (.cells #[.string sku, .string loc, .int .i64 0, .int .i64 0] 100)).cell? ⟨w.heap.size + 1, 5, none⟩ = some (.int .i64 id) := (blk_cell h1 5).trans rfl
  have hp6 : (W3.alloc (.cells #[.string sku, .string loc, .int .i64 0, .int .i64 0] 100)).cell? ⟨w.heap.size + 1, 6, none⟩ = some (.int .i64 due) := (blk_cell h1 6).trans rfl
  have ha0 : (W3.alloc (.cells #[.string sku, .string loc, .int .i64 0, .int .i64 0] 100)).cell? ⟨W3.heap.size, 0, none⟩ = some (.string sku) := (blk_cell h3 0).trans rfl
  have ha1 : (W3.alloc (.cells #[.string sku, .string loc, .int .i64 0, .int .i64 0] 100)).cell? ⟨W3.heap.size, 1, none⟩ = some (.string loc) := (blk_cell h3 1).trans rfl
  have ha2 : (W3.alloc (.cells #[.string sku, .string loc, .int .i64 0, .int .i64 0] 100)).cell? ⟨W3.heap.size, 2, none⟩ = some (.int .i64 0) := (blk_cell h3 2).trans rfl
  have ha3 : (W3.alloc (.cells #[.string sku, .string loc, .int .i64 0, .int .i64 0] 100)).cell? ⟨W3.heap.size, 3, none⟩ = some (.int .i64 0) := (blk_cell h3 3).trans rfl
  go_enter Try.func70, Try.ntmps70
  go_wp2_with fail
  refine hmore.mono ?_
  clear hmore hd0 hd1 hd2 hd3 hp0 hp1 hp2 hp3 hp4 hp5 hp6 ha0 ha1 ha2 ha3 hW3 hx1 hx2 g0 g1 g2 hB3
  rintro e W1 ⟨rfl, hb1⟩
  have k0 := blk_below h0 hb1
  have k1 := blk_below h1 hb1
  have k2 := blk_below h2 hb1
  have k3 := blk_below h3 hb1
  have hB1 := below_w hB hb1
  clear h0 h1 h2 h3
  have hr0 : W1.cell? ⟨w.heap.size + 1 + 1, 0, none⟩ = some (.slice none 0 0) := (blk_cell k2 0).trans rfl
  have hf0 := blk_frozen k2 0
  have hr1 : W1.cell? ⟨w.heap.size + 1 + 1, 1, none⟩ = some (.slice none 0 0) := (blk_cell k2 1).trans rfl
  have hf1 := blk_frozen k2 1
  have hr2 : W1.cell? ⟨w.heap.size + 1 + 1, 2, none⟩ = some (.slice none 0 0) := (blk_cell k2 2).trans rfl
  have hf2 := blk_frozen k2 2
  have hr3 : W1.cell? ⟨w.heap.size + 1 + 1, 3, none⟩ = some (.int .i64 0) := (blk_cell k2 3).trans rfl
  have hf3 := blk_frozen k2 3
  have hd0 : W1.cell? ⟨w.heap.size, 0, none⟩ = some (.slice A0 l0.length c0) := (blk_cell k0 0).trans rfl
  have hd1 : W1.cell? ⟨w.heap.size, 1, none⟩ = some (.slice A1 l1.length c1) := (blk_cell k0 1).trans rfl
  have hd2 : W1.cell? ⟨w.heap.size, 2, none⟩ = some (.slice A2 l2.length c2) := (blk_cell k0 2).trans rfl
  have hd3 : W1.cell? ⟨w.heap.size, 3, none⟩ = some (.int .i64 ops) := (blk_cell k0 3).trans rfl
  go_wp2
  refine bodyPost_ret (results_ct rfl _ _ (w.heap.size + 1 + 1) 41 #[.slice A0 l0.length c0, .slice A1 l1.length c1, .slice A2 l2.length c2, .int .i64 ops] (0, 0) _ rfl (put4_blk k2 _ _ _ _) hu rfl (by kernel_rfl)) rfl ?_
  exact ⟨A0, c0, A1, c1, A2, c2, rfl, (hL.below hB1).put4 k2 (noStr_box _ _ _ _ _ _ _ _ _ _) (fun _ h => by cases h) (fun _ h => by cases h) (fun _ h => by cases h), put4_below hB1 (by omega) _ _ _ _⟩
set_option maxRecDepth 100000 in
set_option maxHeartbeats 2000000 in
theorem does_stock7 (sku loc dst : ByteArray) (q id due : Int) (hq : i64B q) (hL : LedgerAt l0 l1 l2 A0 c0 A1 c1 A2 c2 w) (hl : l0.length ≤ 4000) (hl1 : l1.length ≤ 4000) (hl2 : l2.length ≤ 4000) (hg : i64B (findF l0 (sku, loc)).f2) (hsum : -9223372036854775808 ≤ (findF l0 (sku, loc)).f2 + q ∧ (findF l0 (sku, loc)).f2 + q ≤ 9223372036854775807) (hcmp : (findF l0 (sku, loc)).f2 + q < (findF l0 (sku, loc)).f3) :
    Calls Try.prog 70 #[.agg #[.slice A0 l0.length c0, .slice A1 l1.length c1, .slice A2 l2.length c2, .int .i64 ops], .agg #[.int .i64 7, .string sku, .string loc, .string dst, .int .i64 q, .int .i64 id, .int .i64 due]] w (LedEnd2 l0 l1 l2 ops 70 w) := by
  have hu := Try.underlying41
  have huo := Try.underlying88
  have hus := Try.underlying100
  have hum := Try.underlying111
  obtain ⟨W3, hW3⟩ : ∃ W3, ((w.alloc (.cells #[.slice A0 l0.length c0, .slice A1 l1.length c1, .slice A2 l2.length c2, .int .i64 ops] 41)).alloc (.cells #[.int .i64 7, .string sku, .string loc, .string dst, .int .i64 q, .int .i64 id, .int .i64 due] 88)).alloc (.cells #[.slice none 0 0, .slice none 0 0, .slice none 0 0, .int .i64 0] 41) = W3 := ⟨_, rfl⟩
  obtain ⟨hB3, g0, g1, g2⟩ : Below w.heap.size w W3 ∧ W3.heap[w.heap.size]? = some (.cells #[.slice A0 l0.length c0, .slice A1 l1.length c1, .slice A2 l2.length c2, .int .i64 ops] 41 (0, 0)) ∧ W3.heap[w.heap.size + 1]? = some (.cells #[.int .i64 7, .string sku, .string loc, .string dst, .int .i64 q, .int .i64 id, .int .i64 due] 88 (0, 0)) ∧ W3.heap[w.heap.size + 2]? = some (.cells #[.slice none 0 0, .slice none 0 0, .slice none 0 0, .int .i64 0] 41 (0, 0)) := by rw [← hW3]; exact three_boxes
  have hx1 : W3.cell? ⟨w.heap.size + 1, 1, none⟩ = some (.string sku) := (blk_cell g1 1).trans rfl
  have hx2 : W3.cell? ⟨w.heap.size + 1, 2, none⟩ = some (.string loc) := (blk_cell g1 2).trans rfl
  have hB := hB3.alloc hB3.size (.cells #[.string sku, .string loc, .int .i64 0, .int .i64 0] 100)
  have h0 := blk_alloc g0 (.cells #[.string sku, .string loc, .int .i64 0, .int .i64 0] 100)
  have h1 := blk_alloc g1 (.cells #[.string sku, .string loc, .int .i64 0, .int .i64 0] 100)
  have h2 := blk_alloc g2 (.cells #[.string sku, .string loc, .int .i64 0, .int .i64 0] 100)
  have h3 := blk_new W3 (.cells #[.string sku, .string loc, .int .i64 0, .int .i64 0] 100)
  have hmore := more_calls l0 l1 l2 A0 c0 A1 c1 A2 c2 ops (W3.alloc (.cells #[.string sku, .string loc, .int .i64 0, .int .i64 0] 100)) sku loc q hq (hL.below hB) (by omega) hg
  rw [sum_pair hsum] at hmore
  dsimp only at hmore
  have hfind := fun V (hV : Below w.heap.size w V) => find_calls l0 l1 l2 A0 c0 A1 c1 A2 c2 ops V sku loc (hL.below hV) (by omega)
  have hfd := fun V => field_st3 (findF l0 (sku, loc)) V
  unfold stV at hfind
  obtain ⟨f, hf⟩ : ∃ f, findF l0 (sku, loc) = f := ⟨_, rfl⟩
  obtain ⟨t, ht⟩ : ∃ t, (findF l0 (sku, loc)).f2 + q = t := ⟨_, rfl⟩
  rw [ht] at hmore hcmp
  rw [hf] at hfind hfd hcmp
  have HFI := Lib.hid hfind
  have hcb : decide (t < f.f3) = true := decide_eq_true hcmp
  clear hsum hg hf ht hcmp hfind
  have hd0 : (W3.alloc (.cells #[.string sku, .string loc, .int .i64 0, .int .i64 0] 100)).cell? ⟨w.heap.size, 0, none⟩ = some (.slice A0 l0.length c0) := (blk_cell h0 0).trans rfl
  have hd1 : (W3.alloc (.cells #[.string sku, .string loc, .int .i64 0, .int .i64 0] 100)).cell? ⟨w.heap.size, 1, none⟩ = some (.slice A1 l1.length c1) := (blk_cell h0 1).trans rfl
  have hd2 : (W3.alloc (.cells #[.string sku, .string loc, .int .i64 0, .int .i64 0] 100)).cell? ⟨w.heap.size, 2, none⟩ = some (.slice A2 l2.length c2) := (blk_cell h0 2).trans rfl
  have hd3 : (W3.alloc (.cells #[.string sku, .string loc, .int .i64 0, .int .i64 0] 100)).cell? ⟨w.heap.size, 3, none⟩ = some (.int .i64 ops) := (blk_cell h0 3).trans rfl
  have hp0 : (W3.alloc (.cells #[.string sku, .string loc, .int .i64 0, .int .i64 0] 100)).cell? ⟨w.heap.size + 1, 0, none⟩ = some (.int .i64 7) := (blk_cell h1 0).trans rfl
  have hp1 : (W3.alloc (.cells #[.string sku, .string loc, .int .i64 0, .int .i64 0] 100)).cell? ⟨w.heap.size + 1, 1, none⟩ = some (.string sku) := (blk_cell h1 1).trans rfl
  have hp2 : (W3.alloc (.cells #[.string sku, .string loc, .int .i64 0, .int .i64 0] 100)).cell? ⟨w.heap.size + 1, 2, none⟩ = some (.string loc) := (blk_cell h1 2).trans rfl
  have hp3 : (W3.alloc (.cells #[.string sku, .string loc, .int .i64 0, .int .i64 0] 100)).cell? ⟨w.heap.size + 1, 3, none⟩ = some (.string dst) := (blk_cell h1 3).trans rfl
  have hp4 : (W3.alloc (.cells #[.string sku, .string loc, .int .i64 0, .int .i64 0] 100)).cell? ⟨w.heap.size + 1, 4, none⟩ = some (.int .i64 q) := (blk_cell h1 4).trans rfl
  have hp5 : (W3.alloc (.cells #[.string sku, .string loc, .int .i64 0, .int .i64 0] 100)).cell? ⟨w.heap.size + 1, 5, none⟩ = some (.int .i64 id) := (blk_cell h1 5).trans rfl
  have hp6 : (W3.alloc (.cells #[.string sku, .string loc, .int .i64 0, .int .i64 0] 100)).cell? ⟨w.heap.size + 1, 6, none⟩ = some (.int .i64 due) := (blk_cell h1 6).trans rfl
  have ha0 : (W3.alloc (.cells #[.string sku, .string loc, .int .i64 0, .int .i64 0] 100)).cell? ⟨W3.heap.size, 0, none⟩ = some (.string sku) := (blk_cell h3 0).trans rfl
  have ha1 : (W3.alloc (.cells #[.string sku, .string loc, .int .i64 0, .int .i64 0] 100)).cell? ⟨W3.heap.size, 1, none⟩ = some (.string loc) := (blk_cell h3 1).trans rfl
  have ha2 : (W3.alloc (.cells #[.string sku, .string loc, .int .i64 0, .int .i64 0] 100)).cell? ⟨W3.heap.size, 2, none⟩ = some (.int .i64 0) := (blk_cell h3 2).trans rfl
  have ha3 : (W3.alloc (.cells #[.string sku, .string loc, .int .i64 0, .int .i64 0] 100)).cell? ⟨W3.heap.size, 3, none⟩ = some (.int .i64 0) := (blk_cell h3 3).trans rfl
  go_enter Try.func70, Try.ntmps70
  go_wp2_with fail
  refine hmore.mono ?_
  clear hmore hd0 hd1 hd2 hd3 hp0 hp1 hp2 hp3 hp4 hp5 hp6 ha0 ha1 ha2 ha3 hW3 hx1 hx2 g0 g1 g2 hB3
  rintro e W1 ⟨rfl, hb1⟩
  have k0 := blk_below h0 hb1
  have k1 := blk_below h1 hb1
  have k2 := blk_below h2 hb1
  have k3 := blk_below h3 hb1
  have hB1 := below_w hB hb1
  clear h0 h1 h2 h3
  have hfind := HFI.out W1 hB1
  have hd0 : W1.cell? ⟨w.heap.size, 0, none⟩ = some (.slice A0 l0.length c0) := (blk_cell k0 0).trans rfl
  have hd1 : W1.cell? ⟨w.heap.size, 1, none⟩ = some (.slice A1 l1.length c1) := (blk_cell k0 1).trans rfl
  have hd2 : W1.cell? ⟨w.heap.size, 2, none⟩ = some (.slice A2 l2.length c2) := (blk_cell k0 2).trans rfl
  have hd3 : W1.cell? ⟨w.heap.size, 3, none⟩ = some (.int .i64 ops) := (blk_cell k0 3).trans rfl
  have hp0 : W1.cell? ⟨w.heap.size + 1, 0, none⟩ = some (.int .i64 7) := (blk_cell k1 0).trans rfl
  have hp1 : W1.cell? ⟨w.heap.size + 1, 1, none⟩ = some (.string sku) := (blk_cell k1 1).trans rfl
  have hp2 : W1.cell? ⟨w.heap.size + 1, 2, none⟩ = some (.string loc) := (blk_cell k1 2).trans rfl
  have hp3 : W1.cell? ⟨w.heap.size + 1, 3, none⟩ = some (.string dst) := (blk_cell k1 3).trans rfl
  have hp4 : W1.cell? ⟨w.heap.size + 1, 4, none⟩ = some (.int .i64 q) := (blk_cell k1 4).trans rfl
  have hp5 : W1.cell? ⟨w.heap.size + 1, 5, none⟩ = some (.int .i64 id) := (blk_cell k1 5).trans rfl
  have hp6 : W1.cell? ⟨w.heap.size + 1, 6, none⟩ = some (.int .i64 due) := (blk_cell k1 6).trans rfl
  have ha0 : W1.cell? ⟨W3.heap.size, 0, none⟩ = some (.string sku) := (blk_cell k3 0).trans rfl
  have ha1 : W1.cell? ⟨W3.heap.size, 1, none⟩ = some (.string loc) := (blk_cell k3 1).trans rfl
  have ha2 : W1.cell? ⟨W3.heap.size, 2, none⟩ = some (.int .i64 0) := (blk_cell k3 2).trans rfl
  have ha3 : W1.cell? ⟨W3.heap.size, 3, none⟩ = some (.int .i64 0) := (blk_cell k3 3).trans rfl
  go_wp2_with fail
  refine hfind.mono ?_
  clear hfind hd0 hd1 hd2 hd3 hp0 hp1 hp2 hp3 hp4 hp5 hp6 ha0 ha1 ha2 ha3
  rintro e W2 ⟨rfl, hb2⟩
  have j0 := blk_below k0 hb2
  have j1 := blk_below k1 hb2
  have j2 := blk_below k2 hb2
  have j3 := blk_below k3 hb2
  have hB2 := below_w hB1 hb2
  clear k0 k1 k2 k3
  have hr0 : W2.cell? ⟨w.heap.size + 1 + 1, 0, none⟩ = some (.slice none 0 0) := (blk_cell j2 0).trans rfl
  have hf0 := blk_frozen j2 0
  have hr1 : W2.cell? ⟨w.heap.size + 1 + 1, 1, none⟩ = some (.slice none 0 0) := (blk_cell j2 1).trans rfl
  have hf1 := blk_frozen j2 1
  have hr2 : W2.cell? ⟨w.heap.size + 1 + 1, 2, none⟩ = some (.slice none 0 0) := (blk_cell j2 2).trans rfl
  have hf2 := blk_frozen j2 2
  have hr3 : W2.cell? ⟨w.heap.size + 1 + 1, 3, none⟩ = some (.int .i64 0) := (blk_cell j2 3).trans rfl
  have hf3 := blk_frozen j2 3
  have hd0 : W2.cell? ⟨w.heap.size, 0, none⟩ = some (.slice A0 l0.length c0) := (blk_cell j0 0).trans rfl
  have hd1 : W2.cell? ⟨w.heap.size, 1, none⟩ = some (.slice A1 l1.length c1) := (blk_cell j0 1).trans rfl
  have hd2 : W2.cell? ⟨w.heap.size, 2, none⟩ = some (.slice A2 l2.length c2) := (blk_cell j0 2).trans rfl
  have hd3 : W2.cell? ⟨w.heap.size, 3, none⟩ = some (.int .i64 ops) := (blk_cell j0 3).trans rfl
  go_wp2
  refine bodyPost_ret (results_ct rfl _ _ (w.heap.size + 1 + 1) 41 #[.slice A0 l0.length c0, .slice A1 l1.length c1, .slice A2 l2.length c2, .int .i64 ops] (0, 0) _ rfl (put4_blk j2 _ _ _ _) hu rfl (by kernel_rfl)) rfl ?_
  exact ⟨A0, c0, A1, c1, A2, c2, rfl, (hL.below hB2).put4 j2 (noStr_box _ _ _ _ _ _ _ _ _ _) (fun _ h => by cases h) (fun _ h => by cases h) (fun _ h => by cases h), put4_below hB2 (by omega) _ _ _ _⟩
set_option maxRecDepth 100000 in
set_option maxHeartbeats 2000000 in
theorem does_adjust (sku loc dst : ByteArray) (q id due : Int) (hq : i64B q) (hL : LedgerAt l0 l1 l2 A0 c0 A1 c1 A2 c2 w) (hl : l0.length ≤ 4000) (hl1 : l1.length ≤ 4000) (hl2 : l2.length ≤ 4000) (hg : i64B (findF l0 (sku, loc)).f2) (hsum : -9223372036854775808 ≤ (findF l0 (sku, loc)).f2 + q ∧ (findF l0 (sku, loc)).f2 + q ≤ 9223372036854775807) (hcmp : (findF l0 (sku, loc)).f3 ≤ (findF l0 (sku, loc)).f2 + q) :
    Calls Try.prog 70 #[.agg #[.slice A0 l0.length c0, .slice A1 l1.length c1, .slice A2 l2.length c2, .int .i64 ops], .agg #[.int .i64 7, .string sku, .string loc, .string dst, .int .i64 q, .int .i64 id, .int .i64 due]] w (LedEnd2 (movedS l0 (sku, loc) q) l1 (movedM l2 (sku, loc) q 7 0) ops 0 w) := by
  have hu := Try.underlying41
  have huo := Try.underlying88
  have hus := Try.underlying100
  have hum := Try.underlying111
  obtain ⟨W3, hW3⟩ : ∃ W3, ((w.alloc (.cells #[.slice A0 l0.length c0, .slice A1 l1.length c1, .slice A2 l2.length c2, .int .i64 ops] 41)).alloc (.cells #[.int .i64 7, .string sku, .string loc, .string dst, .int .i64 q, .int .i64 id, .int .i64 due] 88)).alloc (.cells #[.slice none 0 0, .slice none 0 0, .slice none 0 0, .int .i64 0] 41) = W3 := ⟨_, rfl⟩
  obtain ⟨hB3, g0, g1, g2⟩ : Below w.heap.size w W3 ∧ W3.heap[w.heap.size]? = some (.cells #[.slice A0 l0.length c0, .slice A1 l1.length c1, .slice A2 l2.length c2, .int .i64 ops] 41 (0, 0)) ∧ W3.heap[w.heap.size + 1]? = some (.cells #[.int .i64 7, .string sku, .string loc, .string dst, .int .i64 q, .int .i64 id, .int .i64 due] 88 (0, 0)) ∧ W3.heap[w.heap.size + 2]? = some (.cells #[.slice none 0 0, .slice none 0 0, .slice none 0 0, .int .i64 0] 41 (0, 0)) := by rw [← hW3]; exact three_boxes
  have hx1 : W3.cell? ⟨w.heap.size + 1, 1, none⟩ = some (.string sku) := (blk_cell g1 1).trans rfl
  have hx2 : W3.cell? ⟨w.heap.size + 1, 2, none⟩ = some (.string loc) := (blk_cell g1 2).trans rfl
  have hB := hB3.alloc hB3.size (.cells #[.string sku, .string loc, .int .i64 0, .int .i64 0] 100)
  have h0 := blk_alloc g0 (.cells #[.string sku, .string loc, .int .i64 0, .int .i64 0] 100)
  have h1 := blk_alloc g1 (.cells #[.string sku, .string loc, .int .i64 0, .int .i64 0] 100)
  have h2 := blk_alloc g2 (.cells #[.string sku, .string loc, .int .i64 0, .int .i64 0] 100)
  have h3 := blk_new W3 (.cells #[.string sku, .string loc, .int .i64 0, .int .i64 0] 100)
  have hmoved := fun V (hV : Below w.heap.size w V) => moved_calls l0 l1 l2 A0 c0 A1 c1 A2 c2 ops V ⟨sku, loc, 0, 0⟩ q ⟨0, ⟨#[]⟩, ⟨#[]⟩, 0, 7, 0⟩ (hL.below hV) (by omega) (by omega)
  unfold stV moV at hmoved
  dsimp only at hmoved
  obtain ⟨R, hR⟩ : ∃ R, movedS l0 (sku, loc) q = R := ⟨_, rfl⟩
  obtain ⟨M, hM⟩ : ∃ M, movedM l2 (sku, loc) q 7 0 = M := ⟨_, rfl⟩
  rw [hR, hM] at hmoved ⊢
  have HMV := Lib.hid hmoved
  clear hR hM hmoved
  have hmore := more_calls l0 l1 l2 A0 c0 A1 c1 A2 c2 ops (W3.alloc (.cells #[.string sku, .string loc, .int .i64 0, .int .i64 0] 100)) sku loc q hq (hL.below hB) (by omega) hg
  rw [sum_pair hsum] at hmore
  dsimp only at hmore
  have hfind := fun V (hV : Below w.heap.size w V) => find_calls l0 l1 l2 A0 c0 A1 c1 A2 c2 ops V sku loc (hL.below hV) (by omega)
  have hfd := fun V => field_st3 (findF l0 (sku, loc)) V
  unfold stV at hfind
  obtain ⟨f, hf⟩ : ∃ f, findF l0 (sku, loc) = f := ⟨_, rfl⟩
  obtain ⟨t, ht⟩ : ∃ t, (findF l0 (sku, loc)).f2 + q = t := ⟨_, rfl⟩
  rw [ht] at hmore hcmp
  rw [hf] at hfind hfd hcmp
  have HFI := Lib.hid hfind
  have hcb : decide (t < f.f3) = false := decide_eq_false (by omega)
  clear hsum hg hf ht hcmp hfind
  have hd0 : (W3.alloc (.cells #[.string sku, .string loc, .int .i64 0, .int .i64 0] 100)).cell? ⟨w.heap.size, 0, none⟩ = some (.slice A0 l0.length c0) := (blk_cell h0 0).trans rfl
  have hd1 : (W3.alloc (.cells #[.string sku, .string loc, .int .i64 0, .int .i64 0] 100)).cell? ⟨w.heap.size, 1, none⟩ = some (.slice A1 l1.length c1) := (blk_cell h0 1).trans rfl
  have hd2 : (W3.alloc (.cells #[.string sku, .string loc, .int .i64 0, .int .i64 0] 100)).cell? ⟨w.heap.size, 2, none⟩ = some (.slice A2 l2.length c2) := (blk_cell h0 2).trans rfl
  have hd3 : (W3.alloc (.cells #[.string sku, .string loc, .int .i64 0, .int .i64 0] 100)).cell? ⟨w.heap.size, 3, none⟩ = some (.int .i64 ops) := (blk_cell h0 3).trans rfl
  have hp0 : (W3.alloc (.cells #[.string sku, .string loc, .int .i64 0, .int .i64 0] 100)).cell? ⟨w.heap.size + 1, 0, none⟩ = some (.int .i64 7) := (blk_cell h1 0).trans rfl
  have hp1 : (W3.alloc (.cells #[.string sku, .string loc, .int .i64 0, .int .i64 0] 100)).cell? ⟨w.heap.size + 1, 1, none⟩ = some (.string sku) := (blk_cell h1 1).trans rfl
  have hp2 : (W3.alloc (.cells #[.string sku, .string loc, .int .i64 0, .int .i64 0] 100)).cell? ⟨w.heap.size + 1, 2, none⟩ = some (.string loc) := (blk_cell h1 2).trans rfl
  have hp3 : (W3.alloc (.cells #[.string sku, .string loc, .int .i64 0, .int .i64 0] 100)).cell? ⟨w.heap.size + 1, 3, none⟩ = some (.string dst) := (blk_cell h1 3).trans rfl
  have hp4 : (W3.alloc (.cells #[.string sku, .string loc, .int .i64 0, .int .i64 0] 100)).cell? ⟨w.heap.size + 1, 4, none⟩ = some (.int .i64 q) := (blk_cell h1 4).trans rfl
  have hp5 : (W3.alloc (.cells #[.string sku, .string loc, .int .i64 0, .int .i64 0] 100)).cell? ⟨w.heap.size + 1, 5, none⟩ = some (.int .i64 id) := (blk_cell h1 5).trans rfl
  have hp6 : (W3.alloc (.cells #[.string sku, .string loc, .int .i64 0, .int .i64 0] 100)).cell? ⟨w.heap.size + 1, 6, none⟩ = some (.int .i64 due) := (blk_cell h1 6).trans rfl
  have ha0 : (W3.alloc (.cells #[.string sku, .string loc, .int .i64 0, .int .i64 0] 100)).cell? ⟨W3.heap.size, 0, none⟩ = some (.string sku) := (blk_cell h3 0).trans rfl
  have ha1 : (W3.alloc (.cells #[.string sku, .string loc, .int .i64 0, .int .i64 0] 100)).cell? ⟨W3.heap.size, 1, none⟩ = some (.string loc) := (blk_cell h3 1).trans rfl
  have ha2 : (W3.alloc (.cells #[.string sku, .string loc, .int .i64 0, .int .i64 0] 100)).cell? ⟨W3.heap.size, 2, none⟩ = some (.int .i64 0) := (blk_cell h3 2).trans rfl
  have ha3 : (W3.alloc (.cells #[.string sku, .string loc, .int .i64 0, .int .i64 0] 100)).cell? ⟨W3.heap.size, 3, none⟩ = some (.int .i64 0) := (blk_cell h3 3).trans rfl
  go_enter Try.func70, Try.ntmps70
  go_wp2_with fail
  refine hmore.mono ?_
  clear hmore hd0 hd1 hd2 hd3 hp0 hp1 hp2 hp3 hp4 hp5 hp6 ha0 ha1 ha2 ha3 hW3 hx1 hx2 g0 g1 g2 hB3
  rintro e W1 ⟨rfl, hb1⟩
  have k0 := blk_below h0 hb1
  have k1 := blk_below h1 hb1
  have k2 := blk_below h2 hb1
  have k3 := blk_below h3 hb1
  have hB1 := below_w hB hb1
  clear h0 h1 h2 h3
  have hfind := HFI.out W1 hB1
  have hd0 : W1.cell? ⟨w.heap.size, 0, none⟩ = some (.slice A0 l0.length c0) := (blk_cell k0 0).trans rfl
  have hd1 : W1.cell? ⟨w.heap.size, 1, none⟩ = some (.slice A1 l1.length c1) := (blk_cell k0 1).trans rfl
  have hd2 : W1.cell? ⟨w.heap.size, 2, none⟩ = some (.slice A2 l2.length c2) := (blk_cell k0 2).trans rfl
  have hd3 : W1.cell? ⟨w.heap.size, 3, none⟩ = some (.int .i64 ops) := (blk_cell k0 3).trans rfl
  have hp0 : W1.cell? ⟨w.heap.size + 1, 0, none⟩ = some (.int .i64 7) := (blk_cell k1 0).trans rfl
  have hp1 : W1.cell? ⟨w.heap.size + 1, 1, none⟩ = some (.string sku) := (blk_cell k1 1).trans rfl
  have hp2 : W1.cell? ⟨w.heap.size + 1, 2, none⟩ = some (.string loc) := (blk_cell k1 2).trans rfl
  have hp3 : W1.cell? ⟨w.heap.size + 1, 3, none⟩ = some (.string dst) := (blk_cell k1 3).trans rfl
  have hp4 : W1.cell? ⟨w.heap.size + 1, 4, none⟩ = some (.int .i64 q) := (blk_cell k1 4).trans rfl
  have hp5 : W1.cell? ⟨w.heap.size + 1, 5, none⟩ = some (.int .i64 id) := (blk_cell k1 5).trans rfl
  have hp6 : W1.cell? ⟨w.heap.size + 1, 6, none⟩ = some (.int .i64 due) := (blk_cell k1 6).trans rfl
  have ha0 : W1.cell? ⟨W3.heap.size, 0, none⟩ = some (.string sku) := (blk_cell k3 0).trans rfl
  have ha1 : W1.cell? ⟨W3.heap.size, 1, none⟩ = some (.string loc) := (blk_cell k3 1).trans rfl
  have ha2 : W1.cell? ⟨W3.heap.size, 2, none⟩ = some (.int .i64 0) := (blk_cell k3 2).trans rfl
  have ha3 : W1.cell? ⟨W3.heap.size, 3, none⟩ = some (.int .i64 0) := (blk_cell k3 3).trans rfl
  go_wp2_with fail
  refine hfind.mono ?_
  clear hfind hd0 hd1 hd2 hd3 hp0 hp1 hp2 hp3 hp4 hp5 hp6 ha0 ha1 ha2 ha3
  rintro e W2 ⟨rfl, hb2⟩
  have j0 := blk_below k0 hb2
  have j1 := blk_below k1 hb2
  have j2 := blk_below k2 hb2
  have j3 := blk_below k3 hb2
  have hB2 := below_w hB1 hb2
  clear k0 k1 k2 k3
  have hcall := HMV.out W2 hB2
  have hd0 : W2.cell? ⟨w.heap.size, 0, none⟩ = some (.slice A0 l0.length c0) := (blk_cell j0 0).trans rfl
  have hd1 : W2.cell? ⟨w.heap.size, 1, none⟩ = some (.slice A1 l1.length c1) := (blk_cell j0 1).trans rfl
  have hd2 : W2.cell? ⟨w.heap.size, 2, none⟩ = some (.slice A2 l2.length c2) := (blk_cell j0 2).trans rfl
  have hd3 : W2.cell? ⟨w.heap.size, 3, none⟩ = some (.int .i64 ops) := (blk_cell j0 3).trans rfl
  have hp0 : W2.cell? ⟨w.heap.size + 1, 0, none⟩ = some (.int .i64 7) := (blk_cell j1 0).trans rfl
  have hp1 : W2.cell? ⟨w.heap.size + 1, 1, none⟩ = some (.string sku) := (blk_cell j1 1).trans rfl
  have hp2 : W2.cell? ⟨w.heap.size + 1, 2, none⟩ = some (.string loc) := (blk_cell j1 2).trans rfl
  have hp3 : W2.cell? ⟨w.heap.size + 1, 3, none⟩ = some (.string dst) := (blk_cell j1 3).trans rfl
  have hp4 : W2.cell? ⟨w.heap.size + 1, 4, none⟩ = some (.int .i64 q) := (blk_cell j1 4).trans rfl
  have hp5 : W2.cell? ⟨w.heap.size + 1, 5, none⟩ = some (.int .i64 id) := (blk_cell j1 5).trans rfl
  have hp6 : W2.cell? ⟨w.heap.size + 1, 6, none⟩ = some (.int .i64 due) := (blk_cell j1 6).trans rfl
  have ha0 : W2.cell? ⟨W3.heap.size, 0, none⟩ = some (.string sku) := (blk_cell j3 0).trans rfl
  have ha1 : W2.cell? ⟨W3.heap.size, 1, none⟩ = some (.string loc) := (blk_cell j3 1).trans rfl
  have ha2 : W2.cell? ⟨W3.heap.size, 2, none⟩ = some (.int .i64 0) := (blk_cell j3 2).trans rfl
  have ha3 : W2.cell? ⟨W3.heap.size, 3, none⟩ = some (.int .i64 0) := (blk_cell j3 3).trans rfl
  go_wp2_with fail
  refine hcall.mono ?_
  clear hcall hd0 hd1 hd2 hd3 hp0 hp1 hp2 hp3 hp4 hp5 hp6 ha0 ha1 ha2 ha3
  rintro e W5 ⟨A, c, A1', c1', A2', c2', rfl, hL5, hb5⟩
  have q2 := blk_below j2 hb5
  have hB5 := below_w hB2 hb5
  have hr0 : W5.cell? ⟨w.heap.size + 1 + 1, 0, none⟩ = some (.slice none 0 0) := (blk_cell q2 0).trans rfl
  have hf0 := blk_frozen q2 0
  have hr1 : W5.cell? ⟨w.heap.size + 1 + 1, 1, none⟩ = some (.slice none 0 0) := (blk_cell q2 1).trans rfl
  have hf1 := blk_frozen q2 1
  have hr2 : W5.cell? ⟨w.heap.size + 1 + 1, 2, none⟩ = some (.slice none 0 0) := (blk_cell q2 2).trans rfl
  have hf2 := blk_frozen q2 2
  have hr3 : W5.cell? ⟨w.heap.size + 1 + 1, 3, none⟩ = some (.int .i64 0) := (blk_cell q2 3).trans rfl
  have hf3 := blk_frozen q2 3
  go_wp2
  refine bodyPost_ret (results_ct rfl _ _ (w.heap.size + 1 + 1) 41 #[.slice A R.length c, .slice A1' l1.length c1', .slice A2' M.length c2', .int .i64 ops] (0, 0) _ rfl (put4_blk q2 _ _ _ _) hu rfl (by kernel_rfl)) rfl ?_
  exact ⟨A, c, A1', c1', A2', c2', rfl, hL5.put4 q2 (noStr_box _ _ _ _ _ _ _ _ _ _) (fun _ h => by cases h) (fun _ h => by cases h) (fun _ h => by cases h), put4_below hB5 (by omega) _ _ _ _⟩
set_option maxRecDepth 100000 in
set_option maxHeartbeats 2000000 in
theorem does_transfer (sku loc dst : ByteArray) (q id due : Int) (hq : i64B q) (hL : LedgerAt l0 l1 l2 A0 c0 A1 c1 A2 c2 w) (hl : l0.length ≤ 4000) (hl1 : l1.length ≤ 4000) (hl2 : l2.length ≤ 4000) (hgf : i64B (findF l0 (sku, loc)).f2 ∧ i64B (findF l0 (sku, loc)).f3) (hfree : q ≤ (sumOf [(findF l0 (sku, loc)).f2 - (findF l0 (sku, loc)).f3]).1) (hg : i64B (findF l0 (sku, dst)).f2) (hsum : -9223372036854775808 ≤ (findF l0 (sku, dst)).f2 + q ∧ (findF l0 (sku, dst)).f2 + q ≤ 9223372036854775807) :
    Calls Try.prog 70 #[.agg #[.slice A0 l0.length c0, .slice A1 l1.length c1, .slice A2 l2.length c2, .int .i64 ops], .agg #[.int .i64 6, .string sku, .string loc, .string dst, .int .i64 q, .int .i64 id, .int .i64 due]] w (LedEnd2 (movedS (movedS l0 (sku, loc) (wrap64 (-q))) (sku, dst) q) l1 (movedM (movedM l2 (sku, loc) (wrap64 (-q)) 6 0) (sku, dst) q 6 0) ops 0 w) := by
  have hu := Try.underlying41
  have huo := Try.underlying88
  have hus := Try.underlying100
  have hum := Try.underlying111
  obtain ⟨W3, hW3⟩ : ∃ W3, ((w.alloc (.cells #[.slice A0 l0.length c0, .slice A1 l1.length c1, .slice A2 l2.length c2, .int .i64 ops] 41)).alloc (.cells #[.int .i64 6, .string sku, .string loc, .string dst, .int .i64 q, .int .i64 id, .int .i64 due] 88)).alloc (.cells #[.slice none 0 0, .slice none 0 0, .slice none 0 0, .int .i64 0] 41) = W3 := ⟨_, rfl⟩
  obtain ⟨hB3, g0, g1, g2⟩ : Below w.heap.size w W3 ∧ W3.heap[w.heap.size]? = some (.cells #[.slice A0 l0.length c0, .slice A1 l1.length c1, .slice A2 l2.length c2, .int .i64 ops] 41 (0, 0)) ∧ W3.heap[w.heap.size + 1]? = some (.cells #[.int .i64 6, .string sku, .string loc, .string dst, .int .i64 q, .int .i64 id, .int .i64 due] 88 (0, 0)) ∧ W3.heap[w.heap.size + 2]? = some (.cells #[.slice none 0 0, .slice none 0 0, .slice none 0 0, .int .i64 0] 41 (0, 0)) := by rw [← hW3]; exact three_boxes
  have hx1 : W3.cell? ⟨w.heap.size + 1, 1, none⟩ = some (.string sku) := (blk_cell g1 1).trans rfl
  have hx2 : W3.cell? ⟨w.heap.size + 1, 2, none⟩ = some (.string loc) := (blk_cell g1 2).trans rfl
  have hB := hB3.alloc hB3.size (.cells #[.string sku, .string loc, .int .i64 0, .int .i64 0] 100)
  have h0 := blk_alloc g0 (.cells #[.string sku, .string loc, .int .i64 0, .int .i64 0] 100)
  have h1 := blk_alloc g1 (.cells #[.string sku, .string loc, .int .i64 0, .int .i64 0] 100)
  have h2 := blk_alloc g2 (.cells #[.string sku, .string loc, .int .i64 0, .int .i64 0] 100)
  have h3 := blk_new W3 (.cells #[.string sku, .string loc, .int .i64 0, .int .i64 0] 100)
  have hmoved := fun V (hV : Below w.heap.size w V) => moved_calls l0 l1 l2 A0 c0 A1 c1 A2 c2 ops V ⟨sku, loc, 0, 0⟩ (wrap64 (-q)) ⟨0, ⟨#[]⟩, ⟨#[]⟩, 0, 6, 0⟩ (hL.below hV) (by omega) (by omega)
  unfold stV moV at hmoved
  dsimp only at hmoved
  obtain ⟨R, hR⟩ : ∃ R, movedS l0 (sku, loc) (wrap64 (-q)) = R := ⟨_, rfl⟩
  obtain ⟨M, hM⟩ : ∃ M, movedM l2 (sku, loc) (wrap64 (-q)) 6 0 = M := ⟨_, rfl⟩
  have hRl : R.length ≤ 2 * l0.length + 1 := by
    rw [← hR]
    unfold movedS putF
    have := putA_len ⟨(findF l0 (sku, loc)).f0, (findF l0 (sku, loc)).f1, wrap64 ((findF l0 (sku, loc)).f2 + wrap64 (-q)), (findF l0 (sku, loc)).f3⟩ l0 ([], false)
    rw [List.length_nil] at this
    split
    · omega
    · rw [List.length_append, List.length_singleton]; omega
  have hMl : M.length = l2.length + 1 := by rw [← hM]; unfold movedM; simp
  rw [hR, hM] at hmoved ⊢
  have HMV := Lib.hid hmoved
  have HM2 := Lib.hid (fun (A : Option Addr) (c : Nat) (A1 : Option Addr) (c1 : Nat) (A2 : Option Addr) (c2 : Nat) V (hV : LedgerAt R l1 M A c A1 c1 A2 c2 V) => moved_calls R l1 M A c A1 c1 A2 c2 ops V ⟨sku, dst, 0, 0⟩ q ⟨0, ⟨#[]⟩, ⟨#[]⟩, 0, 6, 0⟩ hV (by omega) (by omega))
  obtain ⟨R2, hR2⟩ : ∃ R2, movedS R (sku, dst) q = R2 := ⟨_, rfl⟩
  obtain ⟨M2, hM2⟩ : ∃ M2, movedM M (sku, dst) q 6 0 = M2 := ⟨_, rfl⟩
  rw [hR2, hM2]
  have HR2 := Lib.hid (And.intro hR2 hM2)
  clear hR hM hmoved hR2 hM2 hRl hMl
  have HSU := Lib.hid hsum
  clear hsum
  have hFree := fun V (hV : Below w.heap.size w V) => rFree_calls l0 l1 l2 A0 c0 A1 c1 A2 c2 ops V sku loc (hL.below hV) (by omega) hgf
  obtain ⟨t, ht⟩ : ∃ t, (sumOf [(findF l0 (sku, loc)).f2 - (findF l0 (sku, loc)).f3]).1 = t := ⟨_, rfl⟩
  rw [ht] at hFree hfree
  have htq : decide (t < q) = false := decide_eq_false (by omega)
  have HF := Lib.hid hFree
  clear ht hgf hfree hFree
  have hd0 : (W3.alloc (.cells #[.string sku, .string loc, .int .i64 0, .int .i64 0] 100)).cell? ⟨w.heap.size, 0, none⟩ = some (.slice A0 l0.length c0) := (blk_cell h0 0).trans rfl
  have hd1 : (W3.alloc (.cells #[.string sku, .string loc, .int .i64 0, .int .i64 0] 100)).cell? ⟨w.heap.size, 1, none⟩ = some (.slice A1 l1.length c1) := (blk_cell h0 1).trans rfl
  have hd2 : (W3.alloc (.cells #[.string sku, .string loc, .int .i64 0, .int .i64 0] 100)).cell? ⟨w.heap.size, 2, none⟩ = some (.slice A2 l2.length c2) := (blk_cell h0 2).trans rfl
  have hd3 : (W3.alloc (.cells #[.string sku, .string loc, .int .i64 0, .int .i64 0] 100)).cell? ⟨w.heap.size, 3, none⟩ = some (.int .i64 ops) := (blk_cell h0 3).trans rfl
  have hp0 : (W3.alloc (.cells #[.string sku, .string loc, .int .i64 0, .int .i64 0] 100)).cell? ⟨w.heap.size + 1, 0, none⟩ = some (.int .i64 6) := (blk_cell h1 0).trans rfl
  have hp1 : (W3.alloc (.cells #[.string sku, .string loc, .int .i64 0, .int .i64 0] 100)).cell? ⟨w.heap.size + 1, 1, none⟩ = some (.string sku) := (blk_cell h1 1).trans rfl
  have hp2 : (W3.alloc (.cells #[.string sku, .string loc, .int .i64 0, .int .i64 0] 100)).cell? ⟨w.heap.size + 1, 2, none⟩ = some (.string loc) := (blk_cell h1 2).trans rfl
  have hp3 : (W3.alloc (.cells #[.string sku, .string loc, .int .i64 0, .int .i64 0] 100)).cell? ⟨w.heap.size + 1, 3, none⟩ = some (.string dst) := (blk_cell h1 3).trans rfl
  have hp4 : (W3.alloc (.cells #[.string sku, .string loc, .int .i64 0, .int .i64 0] 100)).cell? ⟨w.heap.size + 1, 4, none⟩ = some (.int .i64 q) := (blk_cell h1 4).trans rfl
  have hp5 : (W3.alloc (.cells #[.string sku, .string loc, .int .i64 0, .int .i64 0] 100)).cell? ⟨w.heap.size + 1, 5, none⟩ = some (.int .i64 id) := (blk_cell h1 5).trans rfl
  have hp6 : (W3.alloc (.cells #[.string sku, .string loc, .int .i64 0, .int .i64 0] 100)).cell? ⟨w.heap.size + 1, 6, none⟩ = some (.int .i64 due) := (blk_cell h1 6).trans rfl
  have ha0 : (W3.alloc (.cells #[.string sku, .string loc, .int .i64 0, .int .i64 0] 100)).cell? ⟨W3.heap.size, 0, none⟩ = some (.string sku) := (blk_cell h3 0).trans rfl
  have ha1 : (W3.alloc (.cells #[.string sku, .string loc, .int .i64 0, .int .i64 0] 100)).cell? ⟨W3.heap.size, 1, none⟩ = some (.string loc) := (blk_cell h3 1).trans rfl
  have ha2 : (W3.alloc (.cells #[.string sku, .string loc, .int .i64 0, .int .i64 0] 100)).cell? ⟨W3.heap.size, 2, none⟩ = some (.int .i64 0) := (blk_cell h3 2).trans rfl
  have ha3 : (W3.alloc (.cells #[.string sku, .string loc, .int .i64 0, .int .i64 0] 100)).cell? ⟨W3.heap.size, 3, none⟩ = some (.int .i64 0) := (blk_cell h3 3).trans rfl
  go_enter Try.func70, Try.ntmps70
  go_wp2
  clear hd0 hd1 hd2 hd3 hp0 hp1 hp2 hp3 hp4 hp5 hp6 ha0 ha1 ha2 ha3
  obtain ⟨W4, hW4⟩ : ∃ W4, W3.alloc (.cells #[.string sku, .string loc, .int .i64 0, .int .i64 0] 100) = W4 := ⟨_, rfl⟩
  rw [hW4] at h0 h1 h2 h3 hB
  rw [hW4]
  clear hW4 hW3 hx1 hx2 g0 g1 g2 hB3
  have hd0x : W4.cell? ⟨w.heap.size, 0, none⟩ = some (.slice A0 l0.length c0) := (blk_cell h0 0).trans rfl
  have hd1x : W4.cell? ⟨w.heap.size, 1, none⟩ = some (.slice A1 l1.length c1) := (blk_cell h0 1).trans rfl
  have hd2x : W4.cell? ⟨w.heap.size, 2, none⟩ = some (.slice A2 l2.length c2) := (blk_cell h0 2).trans rfl
  have hd3x : W4.cell? ⟨w.heap.size, 3, none⟩ = some (.int .i64 ops) := (blk_cell h0 3).trans rfl
  have hp1x : W4.cell? ⟨w.heap.size + 1, 1, none⟩ = some (.string sku) := (blk_cell h1 1).trans rfl
  have hp2x : W4.cell? ⟨w.heap.size + 1, 2, none⟩ = some (.string loc) := (blk_cell h1 2).trans rfl
  have hp4x : W4.cell? ⟨w.heap.size + 1, 4, none⟩ = some (.int .i64 q) := (blk_cell h1 4).trans rfl
  go_region_held3 (fun V => V.cell? ⟨w.heap.size, 0, none⟩ = some (.slice A0 l0.length c0) ∧ V.cell? ⟨w.heap.size, 1, none⟩ = some (.slice A1 l1.length c1) ∧ V.cell? ⟨w.heap.size, 2, none⟩ = some (.slice A2 l2.length c2) ∧ V.cell? ⟨w.heap.size, 3, none⟩ = some (.int .i64 ops) ∧ V.cell? ⟨w.heap.size + 1, 1, none⟩ = some (.string sku) ∧ V.cell? ⟨w.heap.size + 1, 2, none⟩ = some (.string loc) ∧ V.cell? ⟨w.heap.size + 1, 4, none⟩ = some (.int .i64 q))
    (first | assumption | exact ⟨cell_below (below_drew (Below.refl _ _)) hd0x, cell_below (below_drew (Below.refl _ _)) hd1x, cell_below (below_drew (Below.refl _ _)) hd2x, cell_below (below_drew (Below.refl _ _)) hd3x, cell_below (below_drew (Below.refl _ _)) hp1x, cell_below (below_drew (Below.refl _ _)) hp2x, cell_below (below_drew (Below.refl _ _)) hp4x⟩ | exact ⟨cell_below hbw hd0x, cell_below hbw hd1x, cell_below hbw hd2x, cell_below hbw hd3x, cell_below hbw hp1x, cell_below hbw hp2x, cell_below hbw hp4x⟩)
    (first | (go_at_call 88; refine (HF.out _ (below_w hB (below_drew (Below.refl _ _)))).mono ?_; rintro e w' ⟨rfl, hbn⟩; have hbw : Below W4.heap.size W4 w' := below_chain (below_drew (Below.refl _ _)) hbn))
  clear hd0x hd1x hd2x hd3x hp1x hp2x hp4x
  go_split_ands
  have k0 := blk_below h0 hbw
  have k1 := blk_below h1 hbw
  have k2 := blk_below h2 hbw
  have k3 := blk_below h3 hbw
  have hB1 := below_w hB hbw
  clear h0 h1 h2 h3
  have hmore := more_calls l0 l1 l2 A0 c0 A1 c1 A2 c2 ops w' sku dst q hq (hL.below hB1) (by omega) hg
  rw [sum_pair HSU.out] at hmore
  dsimp only at hmore
  obtain ⟨tt, htt⟩ : ∃ tt, (findF l0 (sku, dst)).f2 + q = tt := ⟨_, rfl⟩
  rw [htt] at hmore
  clear hg htt
  have hd0 : w'.cell? ⟨w.heap.size, 0, none⟩ = some (.slice A0 l0.length c0) := (blk_cell k0 0).trans rfl
  have hd1 : w'.cell? ⟨w.heap.size, 1, none⟩ = some (.slice A1 l1.length c1) := (blk_cell k0 1).trans rfl
  have hd2 : w'.cell? ⟨w.heap.size, 2, none⟩ = some (.slice A2 l2.length c2) := (blk_cell k0 2).trans rfl
  have hd3 : w'.cell? ⟨w.heap.size, 3, none⟩ = some (.int .i64 ops) := (blk_cell k0 3).trans rfl
  have hp0 : w'.cell? ⟨w.heap.size + 1, 0, none⟩ = some (.int .i64 6) := (blk_cell k1 0).trans rfl
  have hp1 : w'.cell? ⟨w.heap.size + 1, 1, none⟩ = some (.string sku) := (blk_cell k1 1).trans rfl
  have hp2 : w'.cell? ⟨w.heap.size + 1, 2, none⟩ = some (.string loc) := (blk_cell k1 2).trans rfl
  have hp3 : w'.cell? ⟨w.heap.size + 1, 3, none⟩ = some (.string dst) := (blk_cell k1 3).trans rfl
  have hp4 : w'.cell? ⟨w.heap.size + 1, 4, none⟩ = some (.int .i64 q) := (blk_cell k1 4).trans rfl
  have hp5 : w'.cell? ⟨w.heap.size + 1, 5, none⟩ = some (.int .i64 id) := (blk_cell k1 5).trans rfl
  have hp6 : w'.cell? ⟨w.heap.size + 1, 6, none⟩ = some (.int .i64 due) := (blk_cell k1 6).trans rfl
  have ha0 : w'.cell? ⟨W3.heap.size, 0, none⟩ = some (.string sku) := (blk_cell k3 0).trans rfl
  have ha1 : w'.cell? ⟨W3.heap.size, 1, none⟩ = some (.string loc) := (blk_cell k3 1).trans rfl
  have ha2 : w'.cell? ⟨W3.heap.size, 2, none⟩ = some (.int .i64 0) := (blk_cell k3 2).trans rfl
  have ha3 : w'.cell? ⟨W3.heap.size, 3, none⟩ = some (.int .i64 0) := (blk_cell k3 3).trans rfl
  go_wp2_with fail
  refine hmore.mono ?_
  clear hmore hd0 hd1 hd2 hd3 hp0 hp1 hp2 hp3 hp4 hp5 hp6 ha0 ha1 ha2 ha3
  rintro e W1 ⟨rfl, hb1⟩
  have j0 := blk_below k0 hb1
  have j1 := blk_below k1 hb1
  have j2 := blk_below k2 hb1
  have j3 := blk_below k3 hb1
  have hB2 := below_w hB1 hb1
  clear k0 k1 k2 k3
  have hcall := HMV.out W1 hB2
  have hd0 : W1.cell? ⟨w.heap.size, 0, none⟩ = some (.slice A0 l0.length c0) := (blk_cell j0 0).trans rfl
  have hd1 : W1.cell? ⟨w.heap.size, 1, none⟩ = some (.slice A1 l1.length c1) := (blk_cell j0 1).trans rfl
  have hd2 : W1.cell? ⟨w.heap.size, 2, none⟩ = some (.slice A2 l2.length c2) := (blk_cell j0 2).trans rfl
  have hd3 : W1.cell? ⟨w.heap.size, 3, none⟩ = some (.int .i64 ops) := (blk_cell j0 3).trans rfl
  have hp0 : W1.cell? ⟨w.heap.size + 1, 0, none⟩ = some (.int .i64 6) := (blk_cell j1 0).trans rfl
  have hp1 : W1.cell? ⟨w.heap.size + 1, 1, none⟩ = some (.string sku) := (blk_cell j1 1).trans rfl
  have hp2 : W1.cell? ⟨w.heap.size + 1, 2, none⟩ = some (.string loc) := (blk_cell j1 2).trans rfl
  have hp3 : W1.cell? ⟨w.heap.size + 1, 3, none⟩ = some (.string dst) := (blk_cell j1 3).trans rfl
  have hp4 : W1.cell? ⟨w.heap.size + 1, 4, none⟩ = some (.int .i64 q) := (blk_cell j1 4).trans rfl
  have hp5 : W1.cell? ⟨w.heap.size + 1, 5, none⟩ = some (.int .i64 id) := (blk_cell j1 5).trans rfl
  have hp6 : W1.cell? ⟨w.heap.size + 1, 6, none⟩ = some (.int .i64 due) := (blk_cell j1 6).trans rfl
  have ha0 : W1.cell? ⟨W3.heap.size, 0, none⟩ = some (.string sku) := (blk_cell j3 0).trans rfl
  have ha1 : W1.cell? ⟨W3.heap.size, 1, none⟩ = some (.string loc) := (blk_cell j3 1).trans rfl
  have ha2 : W1.cell? ⟨W3.heap.size, 2, none⟩ = some (.int .i64 0) := (blk_cell j3 2).trans rfl
  have ha3 : W1.cell? ⟨W3.heap.size, 3, none⟩ = some (.int .i64 0) := (blk_cell j3 3).trans rfl
  go_wp2_with fail
  refine hcall.mono ?_
  clear hcall hd0 hd1 hd2 hd3 hp0 hp1 hp2 hp3 hp4 hp5 hp6 ha0 ha1 ha2 ha3
  rintro e W5 ⟨A, c, A1', c1', A2', c2', rfl, hL5, hb5⟩
  have q0 := blk_below j0 hb5
  have q1 := blk_below j1 hb5
  have q2 := blk_below j2 hb5
  have hB5 := below_w hB2 hb5
  clear j0 j1 j2 j3
  have hd0 : W5.cell? ⟨w.heap.size, 0, none⟩ = some (.slice A0 l0.length c0) := (blk_cell q0 0).trans rfl
  have hz0 := blk_frozen q0 0
  have hd1 : W5.cell? ⟨w.heap.size, 1, none⟩ = some (.slice A1 l1.length c1) := (blk_cell q0 1).trans rfl
  have hz1 := blk_frozen q0 1
  have hd2 : W5.cell? ⟨w.heap.size, 2, none⟩ = some (.slice A2 l2.length c2) := (blk_cell q0 2).trans rfl
  have hz2 := blk_frozen q0 2
  have hd3 : W5.cell? ⟨w.heap.size, 3, none⟩ = some (.int .i64 ops) := (blk_cell q0 3).trans rfl
  have hz3 := blk_frozen q0 3
  obtain ⟨V3, hV3⟩ : ∃ V3, put4 W5 w.heap.size (.slice A R.length c) (.slice A1' l1.length c1') (.slice A2' M.length c2') (.int .i64 ops) = V3 := ⟨_, rfl⟩
  have hne : ∀ j : Nat, 0 < j → w.heap.size + j ≠ w.heap.size := fun j hj => by omega
  have p0 : V3.heap[w.heap.size]? = some (.cells #[.slice A R.length c, .slice A1' l1.length c1', .slice A2' M.length c2', .int .i64 ops] 41 (0, 0)) := by rw [← hV3]; exact put4_blk q0 _ _ _ _
  have p1 : V3.heap[w.heap.size + 1]? = some (.cells #[.int .i64 6, .string sku, .string loc, .string dst, .int .i64 q, .int .i64 id, .int .i64 due] 88 (0, 0)) := by rw [← hV3]; exact put4_far q1 (hne 1 (by omega)) _ _ _ _
  have p2 : V3.heap[w.heap.size + 2]? = some (.cells #[.slice none 0 0, .slice none 0 0, .slice none 0 0, .int .i64 0] 41 (0, 0)) := by rw [← hV3]; exact put4_far q2 (hne 2 (by omega)) _ _ _ _
  have hLV : LedgerAt R l1 M A c A1' c1' A2' c2' V3 := by rw [← hV3]; exact hL5.put4 q0 (noStr_box _ _ _ _ _ _ _ _ _ _) (fun _ h => by cases h) (fun _ h => by cases h) (fun _ h => by cases h)
  have hBV : Below w.heap.size w V3 := by rw [← hV3]; exact put4_below hB5 (Nat.le_refl _) _ _ _ _
  unfold put4 at hV3
  clear q0 q1 q2 hL5 hB5 hb5 hne
  have hcall := HM2.out A c A1' c1' A2' c2' V3 hLV
  unfold stV moV at hcall
  dsimp only at hcall
  rw [HR2.out.1, HR2.out.2] at hcall
  have hm0 : V3.cell? ⟨w.heap.size, 0, none⟩ = some (.slice A R.length c) := (blk_cell p0 0).trans rfl
  have hm1 : V3.cell? ⟨w.heap.size, 1, none⟩ = some (.slice A1' l1.length c1') := (blk_cell p0 1).trans rfl
  have hm2 : V3.cell? ⟨w.heap.size, 2, none⟩ = some (.slice A2' M.length c2') := (blk_cell p0 2).trans rfl
  have hm3 : V3.cell? ⟨w.heap.size, 3, none⟩ = some (.int .i64 ops) := (blk_cell p0 3).trans rfl
  have hn0 : V3.cell? ⟨w.heap.size + 1, 0, none⟩ = some (.int .i64 6) := (blk_cell p1 0).trans rfl
  have hn1 : V3.cell? ⟨w.heap.size + 1, 1, none⟩ = some (.string sku) := (blk_cell p1 1).trans rfl
  have hn2 : V3.cell? ⟨w.heap.size + 1, 2, none⟩ = some (.string loc) := (blk_cell p1 2).trans rfl
  have hn3 : V3.cell? ⟨w.heap.size + 1, 3, none⟩ = some (.string dst) := (blk_cell p1 3).trans rfl
  have hn4 : V3.cell? ⟨w.heap.size + 1, 4, none⟩ = some (.int .i64 q) := (blk_cell p1 4).trans rfl
  have hn5 : V3.cell? ⟨w.heap.size + 1, 5, none⟩ = some (.int .i64 id) := (blk_cell p1 5).trans rfl
  have hn6 : V3.cell? ⟨w.heap.size + 1, 6, none⟩ = some (.int .i64 due) := (blk_cell p1 6).trans rfl
  go_wp2_with fail
  refine hcall.mono ?_
  clear hcall hm0 hm1 hm2 hm3 hn0 hn1 hn2 hn3 hn4 hn5 hn6 hd0 hd1 hd2 hd3 hz0 hz1 hz2 hz3 hV3 p0 p1
  rintro e W6 ⟨A, c, A1', c1', A2', c2', rfl, hL6, hb6⟩
  have q2 := blk_below p2 hb6
  have hB6 := below_w hBV hb6
  have hr0 : W6.cell? ⟨w.heap.size + 1 + 1, 0, none⟩ = some (.slice none 0 0) := (blk_cell q2 0).trans rfl
  have hf0 := blk_frozen q2 0
  have hr1 : W6.cell? ⟨w.heap.size + 1 + 1, 1, none⟩ = some (.slice none 0 0) := (blk_cell q2 1).trans rfl
  have hf1 := blk_frozen q2 1
  have hr2 : W6.cell? ⟨w.heap.size + 1 + 1, 2, none⟩ = some (.slice none 0 0) := (blk_cell q2 2).trans rfl
  have hf2 := blk_frozen q2 2
  have hr3 : W6.cell? ⟨w.heap.size + 1 + 1, 3, none⟩ = some (.int .i64 0) := (blk_cell q2 3).trans rfl
  have hf3 := blk_frozen q2 3
  go_wp2
  refine bodyPost_ret (results_ct rfl _ _ (w.heap.size + 1 + 1) 41 #[.slice A R2.length c, .slice A1' l1.length c1', .slice A2' M2.length c2', .int .i64 ops] (0, 0) _ rfl (put4_blk q2 _ _ _ _) hu rfl (by kernel_rfl)) rfl ?_
  exact ⟨A, c, A1', c1', A2', c2', rfl, hL6.put4 q2 (noStr_box _ _ _ _ _ _ _ _ _ _) (fun _ h => by cases h) (fun _ h => by cases h) (fun _ h => by cases h), put4_below hB6 (by omega) _ _ _ _⟩
end
end Go.Proofs.Ytofkhcgkahkagaa
