/- Texts behind the row of PromiseKeeps, part 14. -/
import Derived.Test.YtofkhcgkahkagaaU12
import Derived.Test.YtofkhcgkahkagaaU13
/- The reference's does: of a hold, and expire. -/
namespace Go.Proofs.Ytofkhcgkahkagaa
open Go.RowKit Go.Proofs.YtofkhcgkahkagaaW.PrintWords Go.Proofs.YtofkhcgkahkagaaW.PrintLast Go.Proofs.YtofkhcgkahkagaaW.PrintMore Go.Proofs.Ytofkhcgkahkagaa.PPromiseLines
set_option linter.unusedVariables false
set_option linter.unusedSimpArgs false

section
variable (l0 : List S100) (l1 : List S107) (l2 : List S111) (A0 : Option Addr) (c0 : Nat) (A1 : Option Addr) (c1 : Nat) (A2 : Option Addr) (c2 : Nat) (ops : Int) (w : World)
set_option maxRecDepth 100000 in
set_option maxHeartbeats 2000000 in
theorem does_call3 (sku loc dst : ByteArray) (q id due : Int) (hq : i64B q) (hL : LedgerAt l0 l1 l2 A0 c0 A1 c1 A2 c2 w) (hl : l0.length ≤ 4000) (hl1 : l1.length ≤ 4000) (hl2 : l2.length ≤ 4000) (m0 : List S100) (m1 : List S107) (m2 : List S111) (er : Int) (hover : ∀ V, LedgerAt l0 l1 l2 A0 c0 A1 c1 A2 c2 V → Calls Try.prog 90 #[.agg #[.slice A0 l0.length c0, .slice A1 l1.length c1, .slice A2 l2.length c2, .int .i64 ops], .agg #[.int .i64 3, .string sku, .string loc, .string dst, .int .i64 q, .int .i64 id, .int .i64 due]] V (LedEnd2 m0 m1 m2 ops er V)) :
    Calls Try.prog 70 #[.agg #[.slice A0 l0.length c0, .slice A1 l1.length c1, .slice A2 l2.length c2, .int .i64 ops], .agg #[.int .i64 3, .string sku, .string loc, .string dst, .int .i64 q, .int .i64 id, .int .i64 due]] w (LedEnd2 m0 m1 m2 ops er w) := by
  have hu := Try.underlying41
  have huo := Try.underlying88
  have hus := Try.underlying100
  have hum := Try.underlying111
  obtain ⟨W3, hW3⟩ : ∃ W3, ((w.alloc (.cells #[.slice A0 l0.length c0, .slice A1 l1.length c1, .slice A2 l2.length c2, .int .i64 ops] 41)).alloc (.cells #[.int .i64 3, .string sku, .string loc, .string dst, .int .i64 q, .int .i64 id, .int .i64 due] 88)).alloc (.cells #[.slice none 0 0, .slice none 0 0, .slice none 0 0, .int .i64 0] 41) = W3 := ⟨_, rfl⟩
  obtain ⟨hB3, g0, g1, g2⟩ : Below w.heap.size w W3 ∧ W3.heap[w.heap.size]? = some (.cells #[.slice A0 l0.length c0, .slice A1 l1.length c1, .slice A2 l2.length c2, .int .i64 ops] 41 (0, 0)) ∧ W3.heap[w.heap.size + 1]? = some (.cells #[.int .i64 3, .string sku, .string loc, .string dst, .int .i64 q, .int .i64 id, .int .i64 due] 88 (0, 0)) ∧ W3.heap[w.heap.size + 2]? = some (.cells #[.slice none 0 0, .slice none 0 0, .slice none 0 0, .int .i64 0] 41 (0, 0)) := by rw [← hW3]; exact three_boxes
  have hx1 : W3.cell? ⟨w.heap.size + 1, 1, none⟩ = some (.string sku) := (blk_cell g1 1).trans rfl
  have hx2 : W3.cell? ⟨w.heap.size + 1, 2, none⟩ = some (.string loc) := (blk_cell g1 2).trans rfl
  have hB := hB3.alloc hB3.size (.cells #[.string sku, .string loc, .int .i64 0, .int .i64 0] 100)
  have h0 := blk_alloc g0 (.cells #[.string sku, .string loc, .int .i64 0, .int .i64 0] 100)
  have h1 := blk_alloc g1 (.cells #[.string sku, .string loc, .int .i64 0, .int .i64 0] 100)
  have h2 := blk_alloc g2 (.cells #[.string sku, .string loc, .int .i64 0, .int .i64 0] 100)
  have h3 := blk_new W3 (.cells #[.string sku, .string loc, .int .i64 0, .int .i64 0] 100)
  have hcall := hover (W3.alloc (.cells #[.string sku, .string loc, .int .i64 0, .int .i64 0] 100)) (hL.below hB)
  clear hover
  have hd0 : (W3.alloc (.cells #[.string sku, .string loc, .int .i64 0, .int .i64 0] 100)).cell? ⟨w.heap.size, 0, none⟩ = some (.slice A0 l0.length c0) := (blk_cell h0 0).trans rfl
  have hd1 : (W3.alloc (.cells #[.string sku, .string loc, .int .i64 0, .int .i64 0] 100)).cell? ⟨w.heap.size, 1, none⟩ = some (.slice A1 l1.length c1) := (blk_cell h0 1).trans rfl
  have hd2 : (W3.alloc (.cells #[.string sku, .string loc, .int .i64 0, .int .i64 0] 100)).cell? ⟨w.heap.size, 2, none⟩ = some (.slice A2 l2.length c2) := (blk_cell h0 2).trans rfl
  have hd3 : (W3.alloc (.cells #[.string sku, .string loc, .int .i64 0, .int .i64 0] 100)).cell? ⟨w.heap.size, 3, none⟩ = some (.int .i64 ops) := (blk_cell h0 3).trans rfl
  have hp0 : (W3.alloc (.cells #[.string sku, .string loc, .int .i64 0, .int .i64 0] 100)).cell? ⟨w.heap.size + 1, 0, none⟩ = some (.int .i64 3) := (blk_cell h1 0).trans rfl
  have hp1 : (W3.alloc (.cells #[.string sku, .string loc, .int .i64 0, .int .i64 0] 100)).cell? ⟨w.heap.size + 1, 1, none⟩ = some (.string sku) := (blk_cell h1 1).trans rfl
  have hp2 : (W3.alloc (.cells #[.string sku, .string loc, .int .i64 0, .int .i64 0] 100)).cell? ⟨w.heap.size + 1, 2, none⟩ = some (.string loc) := (blk_cell h1 2).trans rfl
  have hp3 : (W3.alloc (.cells #[.string sku, .string loc, .int .i64 0, .int .i64 0] 100)).cell? ⟨w.heap.size + 1, 3, none⟩ = some (.string dst) := (blk_cell h1 3).trans rfl
  have hp4 : (W3.alloc (.cells #[.string sku, .string loc, .int .i64 0, .int .i64 0] 100)).cell? ⟨w.heap.size + 1, 4, none⟩ = some (.int .i64 q) := (blk_cell h1 4).trans rfl
  have hp5 : (W3.alloc (.cells #[.string sku, .string loc, .int .i64 0, .int .i64 0] 100)).cell? ⟨w.heap.size + 1, 5, none⟩ = some (.int .i64 id) := (blk_cell h1 5).trans rfl
  have hp6 : (W3.alloc (.cells #[.string sku, .string loc, .int .i64 0, .int .i64 0] 100)).cell? ⟨w.heap.size + 1, 6, none⟩ = some (.int .i64 due) := (blk_cell h1 6).trans rfl
  have ha0 : (W3.alloc (.cells #[.string sku, .string loc, .int .i64 0, .int .i64 0] 100)).cell? ⟨W3.heap.size, 0, none⟩ = some (.string sku) := (blk_cell h3 0).trans rfl
  have ha1 : (W3.alloc (.cells #[.string sku, .string loc, .int .i64 0, .int .i64 0] 100)).cell? ⟨W3.heap.size, 1, none⟩ = some (.string loc) := (blk_cell h3 1).trans rfl
  have ha2 : (W3.alloc (.cells #[.string sku, .string loc, .int .i64 0, .int .i64 0] 100)).cell? ⟨W3.heap.size, 2, none⟩ = some (.int .i64 0) := (blk_cell h3 2).trans rfl
  have ha3 : (W3.alloc (.cells #[.string sku, .string loc, .int .i64 0, .int .i64 0] 100)).cell? ⟨W3.heap.size, 3, none⟩ = some (.int .i64 0) := (blk_cell h3 3).trans rfl
  go_enter Try.func70, Try.ntmps70
  go_wp2_with fail
  refine hcall.mono ?_
  clear hcall hd0 hd1 hd2 hd3 hp0 hp1 hp2 hp3 hp4 hp5 hp6 ha0 ha1 ha2 ha3 hW3 hx1 hx2 g0 g1 g2 hB3
  rintro e W1 ⟨A, c, A1', c1', A2', c2', rfl, hL1, hb1⟩
  have k0 := blk_below h0 hb1
  have k1 := blk_below h1 hb1
  have k2 := blk_below h2 hb1
  have k3 := blk_below h3 hb1
  have hB1 := below_w hB hb1
  clear h0 h1 h2 h3
  have hr0 : W1.cell? ⟨w.heap.size + 1 + 1, 0, none⟩ = some (.slice none 0 0) := (blk_cell k2 0).trans rfl
  have hf0 := blk_frozen k2 0
  have hr1 : W1.cell? ⟨w.heap.size + 1 + 1, 1, none⟩ = some (.slice none 0 0) := (blk_cell k2 1).trans rfl
  have hf1 := blk_frozen k2 1
  have hr2 : W1.cell? ⟨w.heap.size + 1 + 1, 2, none⟩ = some (.slice none 0 0) := (blk_cell k2 2).trans rfl
  have hf2 := blk_frozen k2 2
  have hr3 : W1.cell? ⟨w.heap.size + 1 + 1, 3, none⟩ = some (.int .i64 0) := (blk_cell k2 3).trans rfl
  have hf3 := blk_frozen k2 3
  go_wp2
  refine bodyPost_ret (results_ct rfl _ _ (w.heap.size + 1 + 1) 41 #[.slice A m0.length c, .slice A1' m1.length c1', .slice A2' m2.length c2', .int .i64 ops] (0, 0) _ rfl (put4_blk k2 _ _ _ _) hu rfl (by kernel_rfl)) rfl ?_
  exact ⟨A, c, A1', c1', A2', c2', rfl, hL1.put4 k2 (noStr_box _ _ _ _ _ _ _ _ _ _) (fun _ h => by cases h) (fun _ h => by cases h) (fun _ h => by cases h), put4_below hB1 (by omega) _ _ _ _⟩
set_option maxRecDepth 100000 in
set_option maxHeartbeats 2000000 in
theorem does_call4 (sku loc dst : ByteArray) (q id due : Int) (hq : i64B q) (hL : LedgerAt l0 l1 l2 A0 c0 A1 c1 A2 c2 w) (hl : l0.length ≤ 4000) (hl1 : l1.length ≤ 4000) (hl2 : l2.length ≤ 4000) (m0 : List S100) (m1 : List S107) (m2 : List S111) (er : Int) (hover : ∀ V, LedgerAt l0 l1 l2 A0 c0 A1 c1 A2 c2 V → Calls Try.prog 90 #[.agg #[.slice A0 l0.length c0, .slice A1 l1.length c1, .slice A2 l2.length c2, .int .i64 ops], .agg #[.int .i64 4, .string sku, .string loc, .string dst, .int .i64 q, .int .i64 id, .int .i64 due]] V (LedEnd2 m0 m1 m2 ops er V)) :
    Calls Try.prog 70 #[.agg #[.slice A0 l0.length c0, .slice A1 l1.length c1, .slice A2 l2.length c2, .int .i64 ops], .agg #[.int .i64 4, .string sku, .string loc, .string dst, .int .i64 q, .int .i64 id, .int .i64 due]] w (LedEnd2 m0 m1 m2 ops er w) := by
  have hu := Try.underlying41
  have huo := Try.underlying88
  have hus := Try.underlying100
  have hum := Try.underlying111
  obtain ⟨W3, hW3⟩ : ∃ W3, ((w.alloc (.cells #[.slice A0 l0.length c0, .slice A1 l1.length c1, .slice A2 l2.length c2, .int .i64 ops] 41)).alloc (.cells #[.int .i64 4, .string sku, .string loc, .string dst, .int .i64 q, .int .i64 id, .int .i64 due] 88)).alloc (.cells #[.slice none 0 0, .slice none 0 0, .slice none 0 0, .int .i64 0] 41) = W3 := ⟨_, rfl⟩
  obtain ⟨hB3, g0, g1, g2⟩ : Below w.heap.size w W3 ∧ W3.heap[w.heap.size]? = some (.cells #[.slice A0 l0.length c0, .slice A1 l1.length c1, .slice A2 l2.length c2, .int .i64 ops] 41 (0, 0)) ∧ W3.heap[w.heap.size + 1]? = some (.cells #[.int .i64 4, .string sku, .string loc, .string dst, .int .i64 q, .int .i64 id, .int .i64 due] 88 (0, 0)) ∧ W3.heap[w.heap.size + 2]? = some (.cells #[.slice none 0 0, .slice none 0 0, .slice none 0 0, .int .i64 0] 41 (0, 0)) := by rw [← hW3]; exact three_boxes
  have hx1 : W3.cell? ⟨w.heap.size + 1, 1, none⟩ = some (.string sku) := (blk_cell g1 1).trans rfl
  have hx2 : W3.cell? ⟨w.heap.size + 1, 2, none⟩ = some (.string loc) := (blk_cell g1 2).trans rfl
  have hB := hB3.alloc hB3.size (.cells #[.string sku, .string loc, .int .i64 0, .int .i64 0] 100)
  have h0 := blk_alloc g0 (.cells #[.string sku, .string loc, .int .i64 0, .int .i64 0] 100)
  have h1 := blk_alloc g1 (.cells #[.string sku, .string loc, .int .i64 0, .int .i64 0] 100)
  have h2 := blk_alloc g2 (.cells #[.string sku, .string loc, .int .i64 0, .int .i64 0] 100)
  have h3 := blk_new W3 (.cells #[.string sku, .string loc, .int .i64 0, .int .i64 0] 100)
  have hcall := hover (W3.alloc (.cells #[.string sku, .string loc, .int .i64 0, .int .i64 0] 100)) (hL.below hB)
  clear hover
  have hd0 : (W3.alloc (.cells #[.string sku, .string loc, .int .i64 0, .int .i64 0] 100)).cell? ⟨w.heap.size, 0, none⟩ = some (.slice A0 l0.length c0) := (blk_cell h0 0).trans rfl
  have hd1 : (W3.alloc (.cells #[.string sku, .string loc, .int .i64 0, .int .i64 0] 100)).cell? ⟨w.heap.size, 1, none⟩ = some (.slice A1 l1.length c1) := (blk_cell h0 1).trans rfl
  have hd2 : (W3.alloc (.cells #[.string sku, .string loc, .int .i64 0, .int .i64 0] 100)).cell? ⟨w.heap.size, 2, none⟩ = some (.slice A2 l2.length c2) := (blk_cell h0 2).trans rfl
  have hd3 : (W3.alloc (.cells #[.string sku, .string loc, .int .i64 0, .int .i64 0] 100)).cell? ⟨w.heap.size, 3, none⟩ = some (.int .i64 ops) := (blk_cell h0 3).trans rfl
  have hp0 : (W3.alloc (.cells #[.string sku, .string loc, .int .i64 0, .int .i64 0] 100)).cell? ⟨w.heap.size + 1, 0, none⟩ = some (.int .i64 4) := (blk_cell h1 0).trans rfl
  have hp1 : (W3.alloc (.cells #[.string sku, .string loc, .int .i64 0, .int .i64 0] 100)).cell? ⟨w.heap.size + 1, 1, none⟩ = some (.string sku) := (blk_cell h1 1).trans rfl
  have hp2 : (W3.alloc (.cells #[.string sku, .string loc, .int .i64 0, .int .i64 0] 100)).cell? ⟨w.heap.size + 1, 2, none⟩ = some (.string loc) := (blk_cell h1 2).trans rfl
  have hp3 : (W3.alloc (.cells #[.string sku, .string loc, .int .i64 0, .int .i64 0] 100)).cell? ⟨w.heap.size + 1, 3, none⟩ = some (.string dst) := (blk_cell h1 3).trans rfl
  have hp4 : (W3.alloc (.cells #[.string sku, .string loc, .int .i64 0, .int .i64 0] 100)).cell? ⟨w.heap.size + 1, 4, none⟩ = some (.int .i64 q) := (blk_cell h1 4).trans rfl
  have hp5 : (W3.alloc (.cells #[.string sku, .string loc, .int .i64 0, .int .i64 0] 100)).cell? ⟨w.heap.size + 1, 5, none⟩ = some (.int .i64 id) := (blk_cell h1 5).trans rfl
  have hp6 : (W3.alloc (.cells #[.string sku, .string loc, .int .i64 0, .int .i64 0] 100)).cell? ⟨w.heap.size + 1, 6, none⟩ = some (.int .i64 due) := (blk_cell h1 6).trans rfl
  have ha0 : (W3.alloc (.cells #[.string sku, .string loc, .int .i64 0, .int .i64 0] 100)).cell? ⟨W3.heap.size, 0, none⟩ = some (.string sku) := (blk_cell h3 0).trans rfl
  have ha1 : (W3.alloc (.cells #[.string sku, .string loc, .int .i64 0, .int .i64 0] 100)).cell? ⟨W3.heap.size, 1, none⟩ = some (.string loc) := (blk_cell h3 1).trans rfl
  have ha2 : (W3.alloc (.cells #[.string sku, .string loc, .int .i64 0, .int .i64 0] 100)).cell? ⟨W3.heap.size, 2, none⟩ = some (.int .i64 0) := (blk_cell h3 2).trans rfl
  have ha3 : (W3.alloc (.cells #[.string sku, .string loc, .int .i64 0, .int .i64 0] 100)).cell? ⟨W3.heap.size, 3, none⟩ = some (.int .i64 0) := (blk_cell h3 3).trans rfl
  go_enter Try.func70, Try.ntmps70
  go_wp2_with fail
  refine hcall.mono ?_
  clear hcall hd0 hd1 hd2 hd3 hp0 hp1 hp2 hp3 hp4 hp5 hp6 ha0 ha1 ha2 ha3 hW3 hx1 hx2 g0 g1 g2 hB3
  rintro e W1 ⟨A, c, A1', c1', A2', c2', rfl, hL1, hb1⟩
  have k0 := blk_below h0 hb1
  have k1 := blk_below h1 hb1
  have k2 := blk_below h2 hb1
  have k3 := blk_below h3 hb1
  have hB1 := below_w hB hb1
  clear h0 h1 h2 h3
  have hr0 : W1.cell? ⟨w.heap.size + 1 + 1, 0, none⟩ = some (.slice none 0 0) := (blk_cell k2 0).trans rfl
  have hf0 := blk_frozen k2 0
  have hr1 : W1.cell? ⟨w.heap.size + 1 + 1, 1, none⟩ = some (.slice none 0 0) := (blk_cell k2 1).trans rfl
  have hf1 := blk_frozen k2 1
  have hr2 : W1.cell? ⟨w.heap.size + 1 + 1, 2, none⟩ = some (.slice none 0 0) := (blk_cell k2 2).trans rfl
  have hf2 := blk_frozen k2 2
  have hr3 : W1.cell? ⟨w.heap.size + 1 + 1, 3, none⟩ = some (.int .i64 0) := (blk_cell k2 3).trans rfl
  have hf3 := blk_frozen k2 3
  go_wp2
  refine bodyPost_ret (results_ct rfl _ _ (w.heap.size + 1 + 1) 41 #[.slice A m0.length c, .slice A1' m1.length c1', .slice A2' m2.length c2', .int .i64 ops] (0, 0) _ rfl (put4_blk k2 _ _ _ _) hu rfl (by kernel_rfl)) rfl ?_
  exact ⟨A, c, A1', c1', A2', c2', rfl, hL1.put4 k2 (noStr_box _ _ _ _ _ _ _ _ _ _) (fun _ h => by cases h) (fun _ h => by cases h) (fun _ h => by cases h), put4_below hB1 (by omega) _ _ _ _⟩
set_option maxRecDepth 100000 in
set_option maxHeartbeats 2000000 in
theorem does_expire (sku loc dst : ByteArray) (q id due : Int) (hq : i64B q) (hL : LedgerAt l0 l1 l2 A0 c0 A1 c1 A2 c2 w) (hl : l0.length ≤ 4000) (hl1 : l1.length ≤ 4000) (hl2 : l2.length ≤ 4000) (hI : LInv l0 l1 l2) :
    Calls Try.prog 70 #[.agg #[.slice A0 l0.length c0, .slice A1 l1.length c1, .slice A2 l2.length c2, .int .i64 ops], .agg #[.int .i64 5, .string sku, .string loc, .string dst, .int .i64 q, .int .i64 id, .int .i64 due]] w (fun e w' => ∃ m0 m1, LedEnd2 m0 m1 l2 ops 0 w e w' ∧ LInv m0 m1 l2 ∧ m0.length = l0.length ∧ m1.length = l1.length) := by
  have hu := Try.underlying41
  have huo := Try.underlying88
  have hus := Try.underlying100
  have hum := Try.underlying111
  obtain ⟨W3, hW3⟩ : ∃ W3, ((w.alloc (.cells #[.slice A0 l0.length c0, .slice A1 l1.length c1, .slice A2 l2.length c2, .int .i64 ops] 41)).alloc (.cells #[.int .i64 5, .string sku, .string loc, .string dst, .int .i64 q, .int .i64 id, .int .i64 due] 88)).alloc (.cells #[.slice none 0 0, .slice none 0 0, .slice none 0 0, .int .i64 0] 41) = W3 := ⟨_, rfl⟩
  obtain ⟨hB3, g0, g1, g2⟩ : Below w.heap.size w W3 ∧ W3.heap[w.heap.size]? = some (.cells #[.slice A0 l0.length c0, .slice A1 l1.length c1, .slice A2 l2.length c2, .int .i64 ops] 41 (0, 0)) ∧ W3.heap[w.heap.size + 1]? = some (.cells #[.int .i64 5, .string sku, .string loc, .string dst, .int .i64 q, .int .i64 id, .int .i64 due] 88 (0, 0)) ∧ W3.heap[w.heap.size + 2]? = some (.cells #[.slice none 0 0, .slice none 0 0, .slice none 0 0, .int .i64 0] 41 (0, 0)) := by rw [← hW3]; exact three_boxes
  have hx1 : W3.cell? ⟨w.heap.size + 1, 1, none⟩ = some (.string sku) := (blk_cell g1 1).trans rfl
  have hx2 : W3.cell? ⟨w.heap.size + 1, 2, none⟩ = some (.string loc) := (blk_cell g1 2).trans rfl
  have hB := hB3.alloc hB3.size (.cells #[.string sku, .string loc, .int .i64 0, .int .i64 0] 100)
  have h0 := blk_alloc g0 (.cells #[.string sku, .string loc, .int .i64 0, .int .i64 0] 100)
  have h1 := blk_alloc g1 (.cells #[.string sku, .string loc, .int .i64 0, .int .i64 0] 100)
  have h2 := blk_alloc g2 (.cells #[.string sku, .string loc, .int .i64 0, .int .i64 0] 100)
  have h3 := blk_new W3 (.cells #[.string sku, .string loc, .int .i64 0, .int .i64 0] 100)
  have hcall := expire_calls l0 l1 l2 A0 c0 A1 c1 A2 c2 ops (W3.alloc (.cells #[.string sku, .string loc, .int .i64 0, .int .i64 0] 100)) due (hL.below hB) hI hl hl1 hl2
  have hd0 : (W3.alloc (.cells #[.string sku, .string loc, .int .i64 0, .int .i64 0] 100)).cell? ⟨w.heap.size, 0, none⟩ = some (.slice A0 l0.length c0) := (blk_cell h0 0).trans rfl
  have hd1 : (W3.alloc (.cells #[.string sku, .string loc, .int .i64 0, .int .i64 0] 100)).cell? ⟨w.heap.size, 1, none⟩ = some (.slice A1 l1.length c1) := (blk_cell h0 1).trans rfl
  have hd2 : (W3.alloc (.cells #[.string sku, .string loc, .int .i64 0, .int .i64 0] 100)).cell? ⟨w.heap.size, 2, none⟩ = some (.slice A2 l2.length c2) := (blk_cell h0 2).trans rfl
  have hd3 : (W3.alloc (.cells #[.string sku, .string loc, .int .i64 0, .int .i64 0] 100)).cell? ⟨w.heap.size, 3, none⟩ = some (.int .i64 ops) := (blk_cell h0 3).trans rfl
  have hp0 : (W3.alloc (.cells #[.string sku, .string loc, .int .i64 0, .int .i64 0] 100)).cell? ⟨w.heap.size + 1, 0, none⟩ = some (.int .i64 5) := (blk_cell h1 0).trans rfl
  have hp1 : (W3.alloc (.cells #[.string sku, .string loc, .int .i64 0, .int .i64 0] 100)).cell? ⟨w.heap.size + 1, 1, none⟩ = some (.string sku) := (blk_cell h1 1).trans rfl
  have hp2 : (W3.alloc (.cells #[.string sku, .string loc, .int .i64 0, .int .i64 0] 100)).cell? ⟨w.heap.size + 1, 2, none⟩ = some (.string loc) := (blk_cell h1 2).trans rfl
  have hp3 : (W3.alloc (.cells #[.string sku, .string loc, .int .i64 0, .int .i64 0] 100)).cell? ⟨w.heap.size + 1, 3, none⟩ = some (.string dst) := (blk_cell h1 3).trans rfl
  have hp4 : (W3.alloc (.cells #[.string sku, .string loc, .int .i64 0, .int .i64 0] 100)).cell? ⟨w.heap.size + 1, 4, none⟩ = some (.int .i64 q) := (blk_cell h1 4).trans rfl
  have hp5 : (W3.alloc (.cells #[.string sku, .string loc, .int .i64 0, .int .i64 0] 100)).cell? ⟨w.heap.size + 1, 5, none⟩ = some (.int .i64 id) := (blk_cell h1 5).trans rfl
  have hp6 : (W3.alloc (.cells #[.string sku, .string loc, .int .i64 0, .int .i64 0] 100)).cell? ⟨w.heap.size + 1, 6, none⟩ = some (.int .i64 due) := (blk_cell h1 6).trans rfl
  have ha0 : (W3.alloc (.cells #[.string sku, .string loc, .int .i64 0, .int .i64 0] 100)).cell? ⟨W3.heap.size, 0, none⟩ = some (.string sku) := (blk_cell h3 0).trans rfl
  have ha1 : (W3.alloc (.cells #[.string sku, .string loc, .int .i64 0, .int .i64 0] 100)).cell? ⟨W3.heap.size, 1, none⟩ = some (.string loc) := (blk_cell h3 1).trans rfl
  have ha2 : (W3.alloc (.cells #[.string sku, .string loc, .int .i64 0, .int .i64 0] 100)).cell? ⟨W3.heap.size, 2, none⟩ = some (.int .i64 0) := (blk_cell h3 2).trans rfl
  have ha3 : (W3.alloc (.cells #[.string sku, .string loc, .int .i64 0, .int .i64 0] 100)).cell? ⟨W3.heap.size, 3, none⟩ = some (.int .i64 0) := (blk_cell h3 3).trans rfl
  go_enter Try.func70, Try.ntmps70
  go_wp2_with fail
  refine hcall.mono ?_
  clear hcall hd0 hd1 hd2 hd3 hp0 hp1 hp2 hp3 hp4 hp5 hp6 ha0 ha1 ha2 ha3 hW3 hx1 hx2 g0 g1 g2 hB3
  rintro e W1 ⟨m0, m1, ⟨A, c, A1', c1', A2', c2', rfl, hL1, hb1⟩, hI1⟩
  have HI1 := Lib.hid hI1
  clear hI1
  have k0 := blk_below h0 hb1
  have k1 := blk_below h1 hb1
  have k2 := blk_below h2 hb1
  have k3 := blk_below h3 hb1
  have hB1 := below_w hB hb1
  clear h0 h1 h2 h3
  have hr0 : W1.cell? ⟨w.heap.size + 1 + 1, 0, none⟩ = some (.slice none 0 0) := (blk_cell k2 0).trans rfl
  have hf0 := blk_frozen k2 0
  have hr1 : W1.cell? ⟨w.heap.size + 1 + 1, 1, none⟩ = some (.slice none 0 0) := (blk_cell k2 1).trans rfl
  have hf1 := blk_frozen k2 1
  have hr2 : W1.cell? ⟨w.heap.size + 1 + 1, 2, none⟩ = some (.slice none 0 0) := (blk_cell k2 2).trans rfl
  have hf2 := blk_frozen k2 2
  have hr3 : W1.cell? ⟨w.heap.size + 1 + 1, 3, none⟩ = some (.int .i64 0) := (blk_cell k2 3).trans rfl
  have hf3 := blk_frozen k2 3
  go_wp2
  refine bodyPost_ret (results_ct rfl _ _ (w.heap.size + 1 + 1) 41 #[.slice A m0.length c, .slice A1' m1.length c1', .slice A2' l2.length c2', .int .i64 ops] (0, 0) _ rfl (put4_blk k2 _ _ _ _) hu rfl (by kernel_rfl)) rfl ?_
  exact ⟨m0, m1, ⟨A, c, A1', c1', A2', c2', rfl, hL1.put4 k2 (noStr_box _ _ _ _ _ _ _ _ _ _) (fun _ h => by cases h) (fun _ h => by cases h) (fun _ h => by cases h), put4_below hB1 (by omega) _ _ _ _⟩, HI1.out⟩
end
end Go.Proofs.Ytofkhcgkahkagaa
/- The reference's over: an operation of a hold. -/
namespace Go.Proofs.Ytofkhcgkahkagaa
open Go.RowKit Go.Proofs.YtofkhcgkahkagaaW.PrintWords Go.Proofs.YtofkhcgkahkagaaW.PrintLast Go.Proofs.YtofkhcgkahkagaaW.PrintMore Go.Proofs.Ytofkhcgkahkagaa.PPromiseLines
set_option linter.unusedVariables false
set_option linter.unusedSimpArgs false

section
variable (l0 : List S100) (l1 : List S107) (l2 : List S111) (A0 : Option Addr) (c0 : Nat) (A1 : Option Addr) (c1 : Nat) (A2 : Option Addr) (c2 : Nat) (ops : Int) (w : World)
set_option maxRecDepth 100000 in
set_option maxHeartbeats 2000000 in
theorem over_far (kind : Int) (sku loc dst : ByteArray) (q due : Int) (id : Int) (hL : LedgerAt l0 l1 l2 A0 c0 A1 c1 A2 c2 w) (hl : l0.length ≤ 4000) (hl1 : l1.length ≤ 4000) (hl2 : l2.length ≤ 4000) (hid : (l1.length : Int) < id) :
    Calls Try.prog 90 #[.agg #[.slice A0 l0.length c0, .slice A1 l1.length c1, .slice A2 l2.length c2, .int .i64 ops], .agg #[.int .i64 kind, .string sku, .string loc, .string dst, .int .i64 q, .int .i64 id, .int .i64 due]] w (LedEnd2 l0 l1 l2 ops 71 w) := by
  have hu := Try.underlying41
  have huo := Try.underlying88
  have hus := Try.underlying100
  have huh := Try.underlying107
  have hum := Try.underlying111
  obtain ⟨W3, hW3⟩ : ∃ W3, ((w.alloc (.cells #[.slice A0 l0.length c0, .slice A1 l1.length c1, .slice A2 l2.length c2, .int .i64 ops] 41)).alloc (.cells #[.int .i64 kind, .string sku, .string loc, .string dst, .int .i64 q, .int .i64 id, .int .i64 due] 88)).alloc (.cells #[.slice none 0 0, .slice none 0 0, .slice none 0 0, .int .i64 0] 41) = W3 := ⟨_, rfl⟩
  obtain ⟨hB, h0, h1, h2⟩ : Below w.heap.size w W3 ∧ W3.heap[w.heap.size]? = some (.cells #[.slice A0 l0.length c0, .slice A1 l1.length c1, .slice A2 l2.length c2, .int .i64 ops] 41 (0, 0)) ∧ W3.heap[w.heap.size + 1]? = some (.cells #[.int .i64 kind, .string sku, .string loc, .string dst, .int .i64 q, .int .i64 id, .int .i64 due] 88 (0, 0)) ∧ W3.heap[w.heap.size + 2]? = some (.cells #[.slice none 0 0, .slice none 0 0, .slice none 0 0, .int .i64 0] 41 (0, 0)) := by rw [← hW3]; exact three_boxes
  have hk3 : decide ((l1.length : Int) < id) = true := decide_eq_true hid
  have hmaxl : l1.length ≤ 9223372036854775807 := by omega
  clear hid
  have hd0 : W3.cell? ⟨w.heap.size, 0, none⟩ = some (.slice A0 l0.length c0) := (blk_cell h0 0).trans rfl
  have hd1 : W3.cell? ⟨w.heap.size, 1, none⟩ = some (.slice A1 l1.length c1) := (blk_cell h0 1).trans rfl
  have hd2 : W3.cell? ⟨w.heap.size, 2, none⟩ = some (.slice A2 l2.length c2) := (blk_cell h0 2).trans rfl
  have hd3 : W3.cell? ⟨w.heap.size, 3, none⟩ = some (.int .i64 ops) := (blk_cell h0 3).trans rfl
  have hp0 : W3.cell? ⟨w.heap.size + 1, 0, none⟩ = some (.int .i64 kind) := (blk_cell h1 0).trans rfl
  have hp1 : W3.cell? ⟨w.heap.size + 1, 1, none⟩ = some (.string sku) := (blk_cell h1 1).trans rfl
  have hp2 : W3.cell? ⟨w.heap.size + 1, 2, none⟩ = some (.string loc) := (blk_cell h1 2).trans rfl
  have hp3 : W3.cell? ⟨w.heap.size + 1, 3, none⟩ = some (.string dst) := (blk_cell h1 3).trans rfl
  have hp4 : W3.cell? ⟨w.heap.size + 1, 4, none⟩ = some (.int .i64 q) := (blk_cell h1 4).trans rfl
  have hp5 : W3.cell? ⟨w.heap.size + 1, 5, none⟩ = some (.int .i64 id) := (blk_cell h1 5).trans rfl
  have hp6 : W3.cell? ⟨w.heap.size + 1, 6, none⟩ = some (.int .i64 due) := (blk_cell h1 6).trans rfl
  have hr0 : W3.cell? ⟨w.heap.size + 1 + 1, 0, none⟩ = some (.slice none 0 0) := (blk_cell h2 0).trans rfl
  have hf0 := blk_frozen h2 0
  have hr1 : W3.cell? ⟨w.heap.size + 1 + 1, 1, none⟩ = some (.slice none 0 0) := (blk_cell h2 1).trans rfl
  have hf1 := blk_frozen h2 1
  have hr2 : W3.cell? ⟨w.heap.size + 1 + 1, 2, none⟩ = some (.slice none 0 0) := (blk_cell h2 2).trans rfl
  have hf2 := blk_frozen h2 2
  have hr3 : W3.cell? ⟨w.heap.size + 1 + 1, 3, none⟩ = some (.int .i64 0) := (blk_cell h2 3).trans rfl
  have hf3 := blk_frozen h2 3
  go_enter Try.func90, Try.ntmps90
  go_wp2
  refine bodyPost_ret (results_ct rfl _ _ (w.heap.size + 1 + 1) 41 #[.slice A0 l0.length c0, .slice A1 l1.length c1, .slice A2 l2.length c2, .int .i64 ops] (0, 0) _ rfl (put4_blk h2 _ _ _ _) hu rfl (by kernel_rfl)) rfl ?_
  exact ⟨A0, c0, A1, c1, A2, c2, rfl, (hL.below hB).put4 h2 (noStr_box _ _ _ _ _ _ _ _ _ _) (fun _ h => by cases h) (fun _ h => by cases h) (fun _ h => by cases h), put4_below hB (by omega) _ _ _ _⟩
set_option maxRecDepth 100000 in
set_option maxHeartbeats 2000000 in
theorem over_gone (kind : Int) (sku loc dst : ByteArray) (q due : Int) (k : Nat) (hL : LedgerAt l0 l1 l2 A0 c0 A1 c1 A2 c2 w) (hl : l0.length ≤ 4000) (hl1 : l1.length ≤ 4000) (hl2 : l2.length ≤ 4000) (hk : k < l1.length) (h4 : l1[k].f4 ≠ 0) :
    Calls Try.prog 90 #[.agg #[.slice A0 l0.length c0, .slice A1 l1.length c1, .slice A2 l2.length c2, .int .i64 ops], .agg #[.int .i64 kind, .string sku, .string loc, .string dst, .int .i64 q, .int .i64 ((k : Int) + 1), .int .i64 due]] w (LedEnd2 l0 l1 l2 ops 71 w) := by
  have hu := Try.underlying41
  have huo := Try.underlying88
  have hus := Try.underlying100
  have huh := Try.underlying107
  have hum := Try.underlying111
  obtain ⟨ad, rfl, x0, x1, x2, x3, x4, x5⟩ := at_T107 hL.r1 (k : Int) (by omega) (by omega)
  rw [Int.toNat_natCast] at x0 x1 x2 x3 x4 x5
  have hr : rd_T107 l1 k = l1[k] := rd_H hk
  rw [hr] at x0 x1 x2 x3 x4 x5
  have hw1 : wrap64 (k : Int) = (k : Int) := by unfold wrap64; omega
  have hw2 : wrap64 ((k : Int) + 1 - 1) = (k : Int) := by unfold wrap64; omega
  have hk1 : (k : Int) < (l1.length : Int) := by omega
  have hk2 : (0 : Int) ≤ (k : Int) := Int.natCast_nonneg _
  have hk3 : decide ((l1.length : Int) < (k : Int) + 1) = false := decide_eq_false (by omega)
  have hmaxl : l1.length ≤ 9223372036854775807 := by omega
  obtain ⟨W3, hW3⟩ : ∃ W3, ((w.alloc (.cells #[.slice A0 l0.length c0, .slice (some ad) l1.length c1, .slice A2 l2.length c2, .int .i64 ops] 41)).alloc (.cells #[.int .i64 kind, .string sku, .string loc, .string dst, .int .i64 q, .int .i64 ((k : Int) + 1), .int .i64 due] 88)).alloc (.cells #[.slice none 0 0, .slice none 0 0, .slice none 0 0, .int .i64 0] 41) = W3 := ⟨_, rfl⟩
  obtain ⟨hB, h0, h1, h2⟩ : Below w.heap.size w W3 ∧ W3.heap[w.heap.size]? = some (.cells #[.slice A0 l0.length c0, .slice (some ad) l1.length c1, .slice A2 l2.length c2, .int .i64 ops] 41 (0, 0)) ∧ W3.heap[w.heap.size + 1]? = some (.cells #[.int .i64 kind, .string sku, .string loc, .string dst, .int .i64 q, .int .i64 ((k : Int) + 1), .int .i64 due] 88 (0, 0)) ∧ W3.heap[w.heap.size + 2]? = some (.cells #[.slice none 0 0, .slice none 0 0, .slice none 0 0, .int .i64 0] 41 (0, 0)) := by rw [← hW3]; exact three_boxes
  have h4b : (l1[k].f4 != 0) = true := by simpa using h4
  obtain ⟨h, hh⟩ : ∃ h, l1[k] = h := ⟨_, rfl⟩
  rw [hh] at x0 x1 x2 x3 x4 x5 h4b
  clear h4 hr hh
  have y0 := cell_below hB x0
  have y1 := cell_below hB x1
  have y2 := cell_below hB x2
  have y3 := cell_below hB x3
  have y4 := cell_below hB x4
  have y5 := cell_below hB x5
  have hd0 : W3.cell? ⟨w.heap.size, 0, none⟩ = some (.slice A0 l0.length c0) := (blk_cell h0 0).trans rfl
  have hd1 : W3.cell? ⟨w.heap.size, 1, none⟩ = some (.slice (some ad) l1.length c1) := (blk_cell h0 1).trans rfl
  have hd2 : W3.cell? ⟨w.heap.size, 2, none⟩ = some (.slice A2 l2.length c2) := (blk_cell h0 2).trans rfl
  have hd3 : W3.cell? ⟨w.heap.size, 3, none⟩ = some (.int .i64 ops) := (blk_cell h0 3).trans rfl
  have hp0 : W3.cell? ⟨w.heap.size + 1, 0, none⟩ = some (.int .i64 kind) := (blk_cell h1 0).trans rfl
  have hp1 : W3.cell? ⟨w.heap.size + 1, 1, none⟩ = some (.string sku) := (blk_cell h1 1).trans rfl
  have hp2 : W3.cell? ⟨w.heap.size + 1, 2, none⟩ = some (.string loc) := (blk_cell h1 2).trans rfl
  have hp3 : W3.cell? ⟨w.heap.size + 1, 3, none⟩ = some (.string dst) := (blk_cell h1 3).trans rfl
  have hp4 : W3.cell? ⟨w.heap.size + 1, 4, none⟩ = some (.int .i64 q) := (blk_cell h1 4).trans rfl
  have hp5 : W3.cell? ⟨w.heap.size + 1, 5, none⟩ = some (.int .i64 ((k : Int) + 1)) := (blk_cell h1 5).trans rfl
  have hp6 : W3.cell? ⟨w.heap.size + 1, 6, none⟩ = some (.int .i64 due) := (blk_cell h1 6).trans rfl
  have hr0 : W3.cell? ⟨w.heap.size + 1 + 1, 0, none⟩ = some (.slice none 0 0) := (blk_cell h2 0).trans rfl
  have hf0 := blk_frozen h2 0
  have hr1 : W3.cell? ⟨w.heap.size + 1 + 1, 1, none⟩ = some (.slice none 0 0) := (blk_cell h2 1).trans rfl
  have hf1 := blk_frozen h2 1
  have hr2 : W3.cell? ⟨w.heap.size + 1 + 1, 2, none⟩ = some (.slice none 0 0) := (blk_cell h2 2).trans rfl
  have hf2 := blk_frozen h2 2
  have hr3 : W3.cell? ⟨w.heap.size + 1 + 1, 3, none⟩ = some (.int .i64 0) := (blk_cell h2 3).trans rfl
  have hf3 := blk_frozen h2 3
  go_enter Try.func90, Try.ntmps90
  go_wp2
  refine bodyPost_ret (results_ct rfl _ _ (w.heap.size + 1 + 1) 41 #[.slice A0 l0.length c0, .slice (some ad) l1.length c1, .slice A2 l2.length c2, .int .i64 ops] (0, 0) _ rfl (put4_blk h2 _ _ _ _) hu rfl (by kernel_rfl)) rfl ?_
  exact ⟨A0, c0, (some ad), c1, A2, c2, rfl, (hL.below hB).put4 h2 (noStr_box _ _ _ _ _ _ _ _ _ _) (fun _ h => by cases h) (fun _ h => by cases h) (fun _ h => by cases h), put4_below hB (by omega) _ _ _ _⟩
set_option maxRecDepth 100000 in
set_option maxHeartbeats 2000000 in
theorem over_release (sku loc dst : ByteArray) (q due : Int) (k : Nat) (hL : LedgerAt l0 l1 l2 A0 c0 A1 c1 A2 c2 w) (hl : l0.length ≤ 4000) (hl1 : l1.length ≤ 4000) (hl2 : l2.length ≤ 4000) (hk : k < l1.length) (h4 : l1[k].f4 = 0) :
    Calls Try.prog 90 #[.agg #[.slice A0 l0.length c0, .slice A1 l1.length c1, .slice A2 l2.length c2, .int .i64 ops], .agg #[.int .i64 4, .string sku, .string loc, .string dst, .int .i64 q, .int .i64 ((k : Int) + 1), .int .i64 due]] w (LedEnd2 (heldF2 l0 (hoP l1[k]) (wrap64 (-l1[k].f3))) (stateF l1 k 2) l2 ops 0 w) := by
  have hu := Try.underlying41
  have huo := Try.underlying88
  have hus := Try.underlying100
  have huh := Try.underlying107
  have hum := Try.underlying111
  obtain ⟨ad, rfl, x0, x1, x2, x3, x4, x5⟩ := at_T107 hL.r1 (k : Int) (by omega) (by omega)
  rw [Int.toNat_natCast] at x0 x1 x2 x3 x4 x5
  have hr : rd_T107 l1 k = l1[k] := rd_H hk
  rw [hr] at x0 x1 x2 x3 x4 x5
  have hw1 : wrap64 (k : Int) = (k : Int) := by unfold wrap64; omega
  have hw2 : wrap64 ((k : Int) + 1 - 1) = (k : Int) := by unfold wrap64; omega
  have hk1 : (k : Int) < (l1.length : Int) := by omega
  have hk2 : (0 : Int) ≤ (k : Int) := Int.natCast_nonneg _
  have hk3 : decide ((l1.length : Int) < (k : Int) + 1) = false := decide_eq_false (by omega)
  have hmaxl : l1.length ≤ 9223372036854775807 := by omega
  obtain ⟨W3, hW3⟩ : ∃ W3, ((w.alloc (.cells #[.slice A0 l0.length c0, .slice (some ad) l1.length c1, .slice A2 l2.length c2, .int .i64 ops] 41)).alloc (.cells #[.int .i64 4, .string sku, .string loc, .string dst, .int .i64 q, .int .i64 ((k : Int) + 1), .int .i64 due] 88)).alloc (.cells #[.slice none 0 0, .slice none 0 0, .slice none 0 0, .int .i64 0] 41) = W3 := ⟨_, rfl⟩
  obtain ⟨hB, h0, h1, h2⟩ : Below w.heap.size w W3 ∧ W3.heap[w.heap.size]? = some (.cells #[.slice A0 l0.length c0, .slice (some ad) l1.length c1, .slice A2 l2.length c2, .int .i64 ops] 41 (0, 0)) ∧ W3.heap[w.heap.size + 1]? = some (.cells #[.int .i64 4, .string sku, .string loc, .string dst, .int .i64 q, .int .i64 ((k : Int) + 1), .int .i64 due] 88 (0, 0)) ∧ W3.heap[w.heap.size + 2]? = some (.cells #[.slice none 0 0, .slice none 0 0, .slice none 0 0, .int .i64 0] 41 (0, 0)) := by rw [← hW3]; exact three_boxes
  have h4b : (l1[k].f4 != 0) = false := by simp [h4]
  obtain ⟨h, hh⟩ : ∃ h, l1[k] = h := ⟨_, rfl⟩
  rw [hh] at x0 x1 x2 x3 x4 x5 h4b ⊢
  clear h4 hr
  have y0 := cell_below hB x0
  have y1 := cell_below hB x1
  have y2 := cell_below hB x2
  have y3 := cell_below hB x3
  have y4 := cell_below hB x4
  have y5 := cell_below hB x5
  have hd0 : W3.cell? ⟨w.heap.size, 0, none⟩ = some (.slice A0 l0.length c0) := (blk_cell h0 0).trans rfl
  have hd1 : W3.cell? ⟨w.heap.size, 1, none⟩ = some (.slice (some ad) l1.length c1) := (blk_cell h0 1).trans rfl
  have hd2 : W3.cell? ⟨w.heap.size, 2, none⟩ = some (.slice A2 l2.length c2) := (blk_cell h0 2).trans rfl
  have hd3 : W3.cell? ⟨w.heap.size, 3, none⟩ = some (.int .i64 ops) := (blk_cell h0 3).trans rfl
  have hp0 : W3.cell? ⟨w.heap.size + 1, 0, none⟩ = some (.int .i64 4) := (blk_cell h1 0).trans rfl
  have hp1 : W3.cell? ⟨w.heap.size + 1, 1, none⟩ = some (.string sku) := (blk_cell h1 1).trans rfl
  have hp2 : W3.cell? ⟨w.heap.size + 1, 2, none⟩ = some (.string loc) := (blk_cell h1 2).trans rfl
  have hp3 : W3.cell? ⟨w.heap.size + 1, 3, none⟩ = some (.string dst) := (blk_cell h1 3).trans rfl
  have hp4 : W3.cell? ⟨w.heap.size + 1, 4, none⟩ = some (.int .i64 q) := (blk_cell h1 4).trans rfl
  have hp5 : W3.cell? ⟨w.heap.size + 1, 5, none⟩ = some (.int .i64 ((k : Int) + 1)) := (blk_cell h1 5).trans rfl
  have hp6 : W3.cell? ⟨w.heap.size + 1, 6, none⟩ = some (.int .i64 due) := (blk_cell h1 6).trans rfl
  obtain ⟨hb4, n3, n4⟩ : Below W3.heap.size W3 ((W3.alloc (.cells #[.int .i64 h.f0, .string h.f1, .string h.f2, .int .i64 h.f3, .int .i64 h.f4, .int .i64 h.f5] 107)).alloc (.cells #[.string h.f1, .string h.f2, .int .i64 0, .int .i64 0] 100)) ∧ ((W3.alloc (.cells #[.int .i64 h.f0, .string h.f1, .string h.f2, .int .i64 h.f3, .int .i64 h.f4, .int .i64 h.f5] 107)).alloc (.cells #[.string h.f1, .string h.f2, .int .i64 0, .int .i64 0] 100)).heap[W3.heap.size]? = some (.cells #[.int .i64 h.f0, .string h.f1, .string h.f2, .int .i64 h.f3, .int .i64 h.f4, .int .i64 h.f5] 107 (0, 0)) ∧ ((W3.alloc (.cells #[.int .i64 h.f0, .string h.f1, .string h.f2, .int .i64 h.f3, .int .i64 h.f4, .int .i64 h.f5] 107)).alloc (.cells #[.string h.f1, .string h.f2, .int .i64 0, .int .i64 0] 100)).heap[W3.heap.size + 1]? = some (.cells #[.string h.f1, .string h.f2, .int .i64 0, .int .i64 0] 100 (0, 0)) := two_boxes
  have q0 := blk_below h0 hb4
  have q1 := blk_below h1 hb4
  have q2 := blk_below h2 hb4
  have hB4 := below_w hB hb4
  have hlt3 : w.heap.size + 2 < W3.heap.size := blk_lt h2
  have hcall := held_calls l0 l1 l2 A0 c0 (some ad) c1 A2 c2 ops ((W3.alloc (.cells #[.int .i64 h.f0, .string h.f1, .string h.f2, .int .i64 h.f3, .int .i64 h.f4, .int .i64 h.f5] 107)).alloc (.cells #[.string h.f1, .string h.f2, .int .i64 0, .int .i64 0] 100)) ⟨h.f1, h.f2, 0, 0⟩ (wrap64 (-h.f3)) (hL.below hB4) (by omega)
  unfold stV at hcall
  dsimp only at hcall
  have e1 : hoP h = (h.f1, h.f2) := rfl
  rw [e1]
  obtain ⟨R, hR⟩ : ∃ R, heldF2 l0 (h.f1, h.f2) (wrap64 (-h.f3)) = R := ⟨_, rfl⟩
  have hRl : R.length ≤ 2 * l0.length + 1 := by
    rw [← hR]
    unfold heldF2 putF
    have := putA_len ⟨(findF l0 (h.f1, h.f2)).f0, (findF l0 (h.f1, h.f2)).f1, (findF l0 (h.f1, h.f2)).f2, wrap64 ((findF l0 (h.f1, h.f2)).f3 + wrap64 (-h.f3))⟩ l0 ([], false)
    rw [List.length_nil] at this
    split
    · omega
    · rw [List.length_append, List.length_singleton]; omega
  rw [hR] at hcall ⊢
  obtain ⟨S, hS⟩ : ∃ S, stateF l1 k 2 = S := ⟨_, rfl⟩
  rw [hS]
  have HS := Lib.hid hS
  clear hS
  have hg0 : ((W3.alloc (.cells #[.int .i64 h.f0, .string h.f1, .string h.f2, .int .i64 h.f3, .int .i64 h.f4, .int .i64 h.f5] 107)).alloc (.cells #[.string h.f1, .string h.f2, .int .i64 0, .int .i64 0] 100)).cell? ⟨W3.heap.size, 0, none⟩ = some (.int .i64 h.f0) := (blk_cell n3 0).trans rfl
  have hg1 : ((W3.alloc (.cells #[.int .i64 h.f0, .string h.f1, .string h.f2, .int .i64 h.f3, .int .i64 h.f4, .int .i64 h.f5] 107)).alloc (.cells #[.string h.f1, .string h.f2, .int .i64 0, .int .i64 0] 100)).cell? ⟨W3.heap.size, 1, none⟩ = some (.string h.f1) := (blk_cell n3 1).trans rfl
  have hg2 : ((W3.alloc (.cells #[.int .i64 h.f0, .string h.f1, .string h.f2, .int .i64 h.f3, .int .i64 h.f4, .int .i64 h.f5] 107)).alloc (.cells #[.string h.f1, .string h.f2, .int .i64 0, .int .i64 0] 100)).cell? ⟨W3.heap.size, 2, none⟩ = some (.string h.f2) := (blk_cell n3 2).trans rfl
  have hg3 : ((W3.alloc (.cells #[.int .i64 h.f0, .string h.f1, .string h.f2, .int .i64 h.f3, .int .i64 h.f4, .int .i64 h.f5] 107)).alloc (.cells #[.string h.f1, .string h.f2, .int .i64 0, .int .i64 0] 100)).cell? ⟨W3.heap.size, 3, none⟩ = some (.int .i64 h.f3) := (blk_cell n3 3).trans rfl
  have hg4 : ((W3.alloc (.cells #[.int .i64 h.f0, .string h.f1, .string h.f2, .int .i64 h.f3, .int .i64 h.f4, .int .i64 h.f5] 107)).alloc (.cells #[.string h.f1, .string h.f2, .int .i64 0, .int .i64 0] 100)).cell? ⟨W3.heap.size, 4, none⟩ = some (.int .i64 h.f4) := (blk_cell n3 4).trans rfl
  have hg5 : ((W3.alloc (.cells #[.int .i64 h.f0, .string h.f1, .string h.f2, .int .i64 h.f3, .int .i64 h.f4, .int .i64 h.f5] 107)).alloc (.cells #[.string h.f1, .string h.f2, .int .i64 0, .int .i64 0] 100)).cell? ⟨W3.heap.size, 5, none⟩ = some (.int .i64 h.f5) := (blk_cell n3 5).trans rfl
  have ha0 : ((W3.alloc (.cells #[.int .i64 h.f0, .string h.f1, .string h.f2, .int .i64 h.f3, .int .i64 h.f4, .int .i64 h.f5] 107)).alloc (.cells #[.string h.f1, .string h.f2, .int .i64 0, .int .i64 0] 100)).cell? ⟨W3.heap.size + 1, 0, none⟩ = some (.string h.f1) := (blk_cell n4 0).trans rfl
  have ha1 : ((W3.alloc (.cells #[.int .i64 h.f0, .string h.f1, .string h.f2, .int .i64 h.f3, .int .i64 h.f4, .int .i64 h.f5] 107)).alloc (.cells #[.string h.f1, .string h.f2, .int .i64 0, .int .i64 0] 100)).cell? ⟨W3.heap.size + 1, 1, none⟩ = some (.string h.f2) := (blk_cell n4 1).trans rfl
  have ha2 : ((W3.alloc (.cells #[.int .i64 h.f0, .string h.f1, .string h.f2, .int .i64 h.f3, .int .i64 h.f4, .int .i64 h.f5] 107)).alloc (.cells #[.string h.f1, .string h.f2, .int .i64 0, .int .i64 0] 100)).cell? ⟨W3.heap.size + 1, 2, none⟩ = some (.int .i64 0) := (blk_cell n4 2).trans rfl
  have ha3 : ((W3.alloc (.cells #[.int .i64 h.f0, .string h.f1, .string h.f2, .int .i64 h.f3, .int .i64 h.f4, .int .i64 h.f5] 107)).alloc (.cells #[.string h.f1, .string h.f2, .int .i64 0, .int .i64 0] 100)).cell? ⟨W3.heap.size + 1, 3, none⟩ = some (.int .i64 0) := (blk_cell n4 3).trans rfl
  have id0 : ((W3.alloc (.cells #[.int .i64 h.f0, .string h.f1, .string h.f2, .int .i64 h.f3, .int .i64 h.f4, .int .i64 h.f5] 107)).alloc (.cells #[.string h.f1, .string h.f2, .int .i64 0, .int .i64 0] 100)).cell? ⟨w.heap.size, 0, none⟩ = some (.slice A0 l0.length c0) := (blk_cell q0 0).trans rfl
  have id1 : ((W3.alloc (.cells #[.int .i64 h.f0, .string h.f1, .string h.f2, .int .i64 h.f3, .int .i64 h.f4, .int .i64 h.f5] 107)).alloc (.cells #[.string h.f1, .string h.f2, .int .i64 0, .int .i64 0] 100)).cell? ⟨w.heap.size, 1, none⟩ = some (.slice (some ad) l1.length c1) := (blk_cell q0 1).trans rfl
  have id2 : ((W3.alloc (.cells #[.int .i64 h.f0, .string h.f1, .string h.f2, .int .i64 h.f3, .int .i64 h.f4, .int .i64 h.f5] 107)).alloc (.cells #[.string h.f1, .string h.f2, .int .i64 0, .int .i64 0] 100)).cell? ⟨w.heap.size, 2, none⟩ = some (.slice A2 l2.length c2) := (blk_cell q0 2).trans rfl
  have id3 : ((W3.alloc (.cells #[.int .i64 h.f0, .string h.f1, .string h.f2, .int .i64 h.f3, .int .i64 h.f4, .int .i64 h.f5] 107)).alloc (.cells #[.string h.f1, .string h.f2, .int .i64 0, .int .i64 0] 100)).cell? ⟨w.heap.size, 3, none⟩ = some (.int .i64 ops) := (blk_cell q0 3).trans rfl
  have ip0 : ((W3.alloc (.cells #[.int .i64 h.f0, .string h.f1, .string h.f2, .int .i64 h.f3, .int .i64 h.f4, .int .i64 h.f5] 107)).alloc (.cells #[.string h.f1, .string h.f2, .int .i64 0, .int .i64 0] 100)).cell? ⟨w.heap.size + 1, 0, none⟩ = some (.int .i64 4) := (blk_cell q1 0).trans rfl
  have ip1 : ((W3.alloc (.cells #[.int .i64 h.f0, .string h.f1, .string h.f2, .int .i64 h.f3, .int .i64 h.f4, .int .i64 h.f5] 107)).alloc (.cells #[.string h.f1, .string h.f2, .int .i64 0, .int .i64 0] 100)).cell? ⟨w.heap.size + 1, 1, none⟩ = some (.string sku) := (blk_cell q1 1).trans rfl
  have ip2 : ((W3.alloc (.cells #[.int .i64 h.f0, .string h.f1, .string h.f2, .int .i64 h.f3, .int .i64 h.f4, .int .i64 h.f5] 107)).alloc (.cells #[.string h.f1, .string h.f2, .int .i64 0, .int .i64 0] 100)).cell? ⟨w.heap.size + 1, 2, none⟩ = some (.string loc) := (blk_cell q1 2).trans rfl
  have ip3 : ((W3.alloc (.cells #[.int .i64 h.f0, .string h.f1, .string h.f2, .int .i64 h.f3, .int .i64 h.f4, .int .i64 h.f5] 107)).alloc (.cells #[.string h.f1, .string h.f2, .int .i64 0, .int .i64 0] 100)).cell? ⟨w.heap.size + 1, 3, none⟩ = some (.string dst) := (blk_cell q1 3).trans rfl
  have ip4 : ((W3.alloc (.cells #[.int .i64 h.f0, .string h.f1, .string h.f2, .int .i64 h.f3, .int .i64 h.f4, .int .i64 h.f5] 107)).alloc (.cells #[.string h.f1, .string h.f2, .int .i64 0, .int .i64 0] 100)).cell? ⟨w.heap.size + 1, 4, none⟩ = some (.int .i64 q) := (blk_cell q1 4).trans rfl
  have ip5 : ((W3.alloc (.cells #[.int .i64 h.f0, .string h.f1, .string h.f2, .int .i64 h.f3, .int .i64 h.f4, .int .i64 h.f5] 107)).alloc (.cells #[.string h.f1, .string h.f2, .int .i64 0, .int .i64 0] 100)).cell? ⟨w.heap.size + 1, 5, none⟩ = some (.int .i64 ((k : Int) + 1)) := (blk_cell q1 5).trans rfl
  have ip6 : ((W3.alloc (.cells #[.int .i64 h.f0, .string h.f1, .string h.f2, .int .i64 h.f3, .int .i64 h.f4, .int .i64 h.f5] 107)).alloc (.cells #[.string h.f1, .string h.f2, .int .i64 0, .int .i64 0] 100)).cell? ⟨w.heap.size + 1, 6, none⟩ = some (.int .i64 due) := (blk_cell q1 6).trans rfl
  clear h0 h1 h2 hR e1
  go_enter Try.func90, Try.ntmps90
  go_wp2_with fail
  refine hcall.mono ?_
  clear hcall hW3 hd0 hd1 hd2 hd3 hp0 hp1 hp2 hp3 hp4 hp5 hp6 id0 id1 id2 id3 ip0 ip1 ip2 ip3 ip4 ip5 ip6 hg0 hg1 hg2 hg3 hg4 hg5 ha0 ha1 ha2 ha3 y0 y1 y2 y3 y4 y5 x0 x1 x2 x3 x4 x5
  rintro e W5 ⟨A, c, A1', c1', A2', c2', rfl, hL5, hb5⟩
  have p0 := blk_below q0 hb5
  have p1 := blk_below q1 hb5
  have p2 := blk_below q2 hb5
  have p3 := blk_below n3 hb5
  have p4 := blk_below n4 hb5
  have hB5 := below_w hB4 hb5
  clear q0 q1 q2 n3 n4
  have hd0 : W5.cell? ⟨w.heap.size, 0, none⟩ = some (.slice A0 l0.length c0) := (blk_cell p0 0).trans rfl
  have hz0 := blk_frozen p0 0
  have hd1 : W5.cell? ⟨w.heap.size, 1, none⟩ = some (.slice (some ad) l1.length c1) := (blk_cell p0 1).trans rfl
  have hz1 := blk_frozen p0 1
  have hd2 : W5.cell? ⟨w.heap.size, 2, none⟩ = some (.slice A2 l2.length c2) := (blk_cell p0 2).trans rfl
  have hz2 := blk_frozen p0 2
  have hd3 : W5.cell? ⟨w.heap.size, 3, none⟩ = some (.int .i64 ops) := (blk_cell p0 3).trans rfl
  have hz3 := blk_frozen p0 3
  obtain ⟨V3, hV3⟩ : ∃ V3, put4 W5 w.heap.size (.slice A R.length c) (.slice A1' l1.length c1') (.slice A2' l2.length c2') (.int .i64 ops) = V3 := ⟨_, rfl⟩
  have hne : ∀ j : Nat, 0 < j → w.heap.size + j ≠ w.heap.size := fun j hj => by omega
  have r0 : V3.heap[w.heap.size]? = some (.cells #[.slice A R.length c, .slice A1' l1.length c1', .slice A2' l2.length c2', .int .i64 ops] 41 (0, 0)) := by rw [← hV3]; exact put4_blk p0 _ _ _ _
  have r1 : V3.heap[w.heap.size + 1]? = some (.cells #[.int .i64 4, .string sku, .string loc, .string dst, .int .i64 q, .int .i64 ((k : Int) + 1), .int .i64 due] 88 (0, 0)) := by rw [← hV3]; exact put4_far p1 (hne 1 (by omega)) _ _ _ _
  have r2 : V3.heap[w.heap.size + 2]? = some (.cells #[.slice none 0 0, .slice none 0 0, .slice none 0 0, .int .i64 0] 41 (0, 0)) := by rw [← hV3]; exact put4_far p2 (hne 2 (by omega)) _ _ _ _
  have r3 : V3.heap[W3.heap.size]? = some (.cells #[.int .i64 h.f0, .string h.f1, .string h.f2, .int .i64 h.f3, .int .i64 h.f4, .int .i64 h.f5] 107 (0, 0)) := by rw [← hV3]; exact put4_far p3 (by omega) _ _ _ _
  have r4 : V3.heap[W3.heap.size + 1]? = some (.cells #[.string h.f1, .string h.f2, .int .i64 0, .int .i64 0] 100 (0, 0)) := by rw [← hV3]; exact put4_far p4 (by omega) _ _ _ _
  have hLV : LedgerAt R l1 l2 A c A1' c1' A2' c2' V3 := by rw [← hV3]; exact hL5.put4 p0 (noStr_box _ _ _ _ _ _ _ _ _ _) (fun _ h => by cases h) (fun _ h => by cases h) (fun _ h => by cases h)
  have hBV : Below w.heap.size w V3 := by rw [← hV3]; exact put4_below hB5 (Nat.le_refl _) _ _ _ _
  unfold put4 at hV3
  clear p0 p1 p2 p3 p4 hL5 hB5 hb5 hne
  have hm0 : V3.cell? ⟨w.heap.size, 0, none⟩ = some (.slice A R.length c) := (blk_cell r0 0).trans rfl
  have hm1 : V3.cell? ⟨w.heap.size, 1, none⟩ = some (.slice A1' l1.length c1') := (blk_cell r0 1).trans rfl
  have hm2 : V3.cell? ⟨w.heap.size, 2, none⟩ = some (.slice A2' l2.length c2') := (blk_cell r0 2).trans rfl
  have hm3 : V3.cell? ⟨w.heap.size, 3, none⟩ = some (.int .i64 ops) := (blk_cell r0 3).trans rfl
  have hn0 : V3.cell? ⟨w.heap.size + 1, 0, none⟩ = some (.int .i64 4) := (blk_cell r1 0).trans rfl
  have hn1 : V3.cell? ⟨w.heap.size + 1, 1, none⟩ = some (.string sku) := (blk_cell r1 1).trans rfl
  have hn2 : V3.cell? ⟨w.heap.size + 1, 2, none⟩ = some (.string loc) := (blk_cell r1 2).trans rfl
  have hn3 : V3.cell? ⟨w.heap.size + 1, 3, none⟩ = some (.string dst) := (blk_cell r1 3).trans rfl
  have hn4 : V3.cell? ⟨w.heap.size + 1, 4, none⟩ = some (.int .i64 q) := (blk_cell r1 4).trans rfl
  have hn5 : V3.cell? ⟨w.heap.size + 1, 5, none⟩ = some (.int .i64 ((k : Int) + 1)) := (blk_cell r1 5).trans rfl
  have hn6 : V3.cell? ⟨w.heap.size + 1, 6, none⟩ = some (.int .i64 due) := (blk_cell r1 6).trans rfl
  have hcall := state_calls R l1 l2 A c A1' c1' A2' c2' ops V3 k 2 hk hl1 hLV
  rw [HS.out] at hcall
  go_wp2_with fail
  refine hcall.mono ?_
  clear hcall hV3 hm0 hm1 hm2 hm3 hn0 hn1 hn2 hn3 hn4 hn5 hn6 hd0 hd1 hd2 hd3 hz0 hz1 hz2 hz3
  rintro e W6 ⟨A, c, A1', c1', A2', c2', rfl, hL6, hb6⟩
  have s2 := blk_below r2 hb6
  have hB6 := below_w hBV hb6
  clear r0 r1 r2 r3 r4
  have hr0 : W6.cell? ⟨w.heap.size + 1 + 1, 0, none⟩ = some (.slice none 0 0) := (blk_cell s2 0).trans rfl
  have hf0 := blk_frozen s2 0
  have hr1 : W6.cell? ⟨w.heap.size + 1 + 1, 1, none⟩ = some (.slice none 0 0) := (blk_cell s2 1).trans rfl
  have hf1 := blk_frozen s2 1
  have hr2 : W6.cell? ⟨w.heap.size + 1 + 1, 2, none⟩ = some (.slice none 0 0) := (blk_cell s2 2).trans rfl
  have hf2 := blk_frozen s2 2
  have hr3 : W6.cell? ⟨w.heap.size + 1 + 1, 3, none⟩ = some (.int .i64 0) := (blk_cell s2 3).trans rfl
  have hf3 := blk_frozen s2 3
  go_wp2
  refine bodyPost_ret (results_ct rfl _ _ (w.heap.size + 1 + 1) 41 #[.slice A R.length c, .slice A1' S.length c1', .slice A2' l2.length c2', .int .i64 ops] (0, 0) _ rfl (put4_blk s2 _ _ _ _) hu rfl (by kernel_rfl)) rfl ?_
  exact ⟨A, c, A1', c1', A2', c2', rfl, hL6.put4 s2 (noStr_box _ _ _ _ _ _ _ _ _ _) (fun _ h => by cases h) (fun _ h => by cases h) (fun _ h => by cases h), put4_below hB6 (by omega) _ _ _ _⟩
end
end Go.Proofs.Ytofkhcgkahkagaa
