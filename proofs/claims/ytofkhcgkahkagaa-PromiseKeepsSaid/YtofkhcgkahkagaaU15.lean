/- Texts behind the row of PromiseKeeps, part 15. -/
import Derived.Test.YtofkhcgkahkagaaU14
/- The reference's over: a hold goes out. -/
namespace Go.Proofs.Ytofkhcgkahkagaa
open Go.RowKit Go.Proofs.YtofkhcgkahkagaaW.PrintWords Go.Proofs.YtofkhcgkahkagaaW.PrintLast Go.Proofs.YtofkhcgkahkagaaW.PrintMore Go.Proofs.Ytofkhcgkahkagaa.PPromiseLines
set_option linter.unusedVariables false
set_option linter.unusedSimpArgs false

section
variable (l0 : List S100) (l1 : List S107) (l2 : List S111) (A0 : Option Addr) (c0 : Nat) (A1 : Option Addr) (c1 : Nat) (A2 : Option Addr) (c2 : Nat) (ops : Int) (w : World)
set_option maxRecDepth 100000 in
set_option maxHeartbeats 8000000 in
theorem over_commit (sku loc dst : ByteArray) (q due : Int) (k : Nat) (hL : LedgerAt l0 l1 l2 A0 c0 A1 c1 A2 c2 w) (hl : l0.length ≤ 4000) (hl1 : l1.length ≤ 4000) (hl2 : l2.length ≤ 4000) (hk : k < l1.length) (h4 : l1[k].f4 = 0) :
    Calls Try.prog 90 #[.agg #[.slice A0 l0.length c0, .slice A1 l1.length c1, .slice A2 l2.length c2, .int .i64 ops], .agg #[.int .i64 3, .string sku, .string loc, .string dst, .int .i64 q, .int .i64 ((k : Int) + 1), .int .i64 due]] w (LedEnd2 (movedS (heldF2 l0 (hoP l1[k]) (wrap64 (-l1[k].f3))) (hoP l1[k]) (wrap64 (-l1[k].f3))) (stateF l1 k 1) (movedM l2 (hoP l1[k]) (wrap64 (-l1[k].f3)) 3 l1[k].f0) ops 0 w) := by
  have hu := Try.underlying41
  have huo := Try.underlying88
  have hus := Try.underlying100
  have huh := Try.underlying107
  have hum := Try.underlying111
  obtain ⟨ad, rfl, x0, x1, x2, x3, x4, x5⟩ := at_T107 hL.r1 (k : Int) (by omega) (by omega)
  rw [Int.toNat_natCast] at x0 x1 x2 x3 x4 x5
  have hr : rd_T107 l1 k = l1[k] := rd_H hk
  rw [hr] at x0 x1 x2 x3 x4 x5
  have hw1 : wrap64 (k : Int) = (k : Int) := by unfold wrap64; omega
  have hw2 : wrap64 ((k : Int) + 1 - 1) = (k : Int) := by unfold wrap64; omega
  have hk1 : (k : Int) < (l1.length : Int) := by omega
  have hk2 : (0 : Int) ≤ (k : Int) := Int.natCast_nonneg _
  have hk3 : decide ((l1.length : Int) < (k : Int) + 1) = false := decide_eq_false (by omega)
  have hmaxl : l1.length ≤ 9223372036854775807 := by omega
  obtain ⟨W3, hW3⟩ : ∃ W3, ((w.alloc (.cells #[.slice A0 l0.length c0, .slice (some ad) l1.length c1, .slice A2 l2.length c2, .int .i64 ops] 41)).alloc (.cells #[.int .i64 3, .string sku, .string loc, .string dst, .int .i64 q, .int .i64 ((k : Int) + 1), .int .i64 due] 88)).alloc (.cells #[.slice none 0 0, .slice none 0 0, .slice none 0 0, .int .i64 0] 41) = W3 := ⟨_, rfl⟩
  obtain ⟨hB, h0, h1, h2⟩ : Below w.heap.size w W3 ∧ W3.heap[w.heap.size]? = some (.cells #[.slice A0 l0.length c0, .slice (some ad) l1.length c1, .slice A2 l2.length c2, .int .i64 ops] 41 (0, 0)) ∧ W3.heap[w.heap.size + 1]? = some (.cells #[.int .i64 3, .string sku, .string loc, .string dst, .int .i64 q, .int .i64 ((k : Int) + 1), .int .i64 due] 88 (0, 0)) ∧ W3.heap[w.heap.size + 2]? = some (.cells #[.slice none 0 0, .slice none 0 0, .slice none 0 0, .int .i64 0] 41 (0, 0)) := by rw [← hW3]; exact three_boxes
  have h4b : (l1[k].f4 != 0) = false := by simp [h4]
  obtain ⟨h, hh⟩ : ∃ h, l1[k] = h := ⟨_, rfl⟩
  rw [hh] at x0 x1 x2 x3 x4 x5 h4b ⊢
  clear h4 hr
  have y0 := cell_below hB x0
  have y1 := cell_below hB x1
  have y2 := cell_below hB x2
  have y3 := cell_below hB x3
  have y4 := cell_below hB x4
  have y5 := cell_below hB x5
  have hd0 : W3.cell? ⟨w.heap.size, 0, none⟩ = some (.slice A0 l0.length c0) := (blk_cell h0 0).trans rfl
  have hd1 : W3.cell? ⟨w.heap.size, 1, none⟩ = some (.slice (some ad) l1.length c1) := (blk_cell h0 1).trans rfl
  have hd2 : W3.cell? ⟨w.heap.size, 2, none⟩ = some (.slice A2 l2.length c2) := (blk_cell h0 2).trans rfl
  have hd3 : W3.cell? ⟨w.heap.size, 3, none⟩ = some (.int .i64 ops) := (blk_cell h0 3).trans rfl
  have hp0 : W3.cell? ⟨w.heap.size + 1, 0, none⟩ = some (.int .i64 3) := (blk_cell h1 0).trans rfl
  have hp1 : W3.cell? ⟨w.heap.size + 1, 1, none⟩ = some (.string sku) := (blk_cell h1 1).trans rfl
  have hp2 : W3.cell? ⟨w.heap.size + 1, 2, none⟩ = some (.string loc) := (blk_cell h1 2).trans rfl
  have hp3 : W3.cell? ⟨w.heap.size + 1, 3, none⟩ = some (.string dst) := (blk_cell h1 3).trans rfl
  have hp4 : W3.cell? ⟨w.heap.size + 1, 4, none⟩ = some (.int .i64 q) := (blk_cell h1 4).trans rfl
  have hp5 : W3.cell? ⟨w.heap.size + 1, 5, none⟩ = some (.int .i64 ((k : Int) + 1)) := (blk_cell h1 5).trans rfl
  have hp6 : W3.cell? ⟨w.heap.size + 1, 6, none⟩ = some (.int .i64 due) := (blk_cell h1 6).trans rfl
  obtain ⟨hb4, n3, n4⟩ : Below W3.heap.size W3 ((W3.alloc (.cells #[.int .i64 h.f0, .string h.f1, .string h.f2, .int .i64 h.f3, .int .i64 h.f4, .int .i64 h.f5] 107)).alloc (.cells #[.string h.f1, .string h.f2, .int .i64 0, .int .i64 0] 100)) ∧ ((W3.alloc (.cells #[.int .i64 h.f0, .string h.f1, .string h.f2, .int .i64 h.f3, .int .i64 h.f4, .int .i64 h.f5] 107)).alloc (.cells #[.string h.f1, .string h.f2, .int .i64 0, .int .i64 0] 100)).heap[W3.heap.size]? = some (.cells #[.int .i64 h.f0, .string h.f1, .string h.f2, .int .i64 h.f3, .int .i64 h.f4, .int .i64 h.f5] 107 (0, 0)) ∧ ((W3.alloc (.cells #[.int .i64 h.f0, .string h.f1, .string h.f2, .int .i64 h.f3, .int .i64 h.f4, .int .i64 h.f5] 107)).alloc (.cells #[.string h.f1, .string h.f2, .int .i64 0, .int .i64 0] 100)).heap[W3.heap.size + 1]? = some (.cells #[.string h.f1, .string h.f2, .int .i64 0, .int .i64 0] 100 (0, 0)) := two_boxes
  have q0 := blk_below h0 hb4
  have q1 := blk_below h1 hb4
  have q2 := blk_below h2 hb4
  have hB4 := below_w hB hb4
  have hlt3 : w.heap.size + 2 < W3.heap.size := blk_lt h2
  have hcall := held_calls l0 l1 l2 A0 c0 (some ad) c1 A2 c2 ops ((W3.alloc (.cells #[.int .i64 h.f0, .string h.f1, .string h.f2, .int .i64 h.f3, .int .i64 h.f4, .int .i64 h.f5] 107)).alloc (.cells #[.string h.f1, .string h.f2, .int .i64 0, .int .i64 0] 100)) ⟨h.f1, h.f2, 0, 0⟩ (wrap64 (-h.f3)) (hL.below hB4) (by omega)
  unfold stV at hcall
  dsimp only at hcall
  have e1 : hoP h = (h.f1, h.f2) := rfl
  rw [e1]
  obtain ⟨R, hR⟩ : ∃ R, heldF2 l0 (h.f1, h.f2) (wrap64 (-h.f3)) = R := ⟨_, rfl⟩
  have hRl : R.length ≤ 2 * l0.length + 1 := by
    rw [← hR]
    unfold heldF2 putF
    have := putA_len ⟨(findF l0 (h.f1, h.f2)).f0, (findF l0 (h.f1, h.f2)).f1, (findF l0 (h.f1, h.f2)).f2, wrap64 ((findF l0 (h.f1, h.f2)).f3 + wrap64 (-h.f3))⟩ l0 ([], false)
    rw [List.length_nil] at this
    split
    · omega
    · rw [List.length_append, List.length_singleton]; omega
  rw [hR] at hcall ⊢
  obtain ⟨S, hS⟩ : ∃ S, stateF l1 k 1 = S := ⟨_, rfl⟩
  rw [hS]
  have HS := Lib.hid hS
  clear hS
  obtain ⟨R2, hR2⟩ : ∃ R2, movedS R (h.f1, h.f2) (wrap64 (-h.f3)) = R2 := ⟨_, rfl⟩
  obtain ⟨M2, hM2⟩ : ∃ M2, movedM l2 (h.f1, h.f2) (wrap64 (-h.f3)) 3 h.f0 = M2 := ⟨_, rfl⟩
  rw [hR2, hM2]
  have HRM := Lib.hid (And.intro hR2 hM2)
  clear hR2 hM2
  have hg0 : ((W3.alloc (.cells #[.int .i64 h.f0, .string h.f1, .string h.f2, .int .i64 h.f3, .int .i64 h.f4, .int .i64 h.f5] 107)).alloc (.cells #[.string h.f1, .string h.f2, .int .i64 0, .int .i64 0] 100)).cell? ⟨W3.heap.size, 0, none⟩ = some (.int .i64 h.f0) := (blk_cell n3 0).trans rfl
  have hg1 : ((W3.alloc (.cells #[.int .i64 h.f0, .string h.f1, .string h.f2, .int .i64 h.f3, .int .i64 h.f4, .int .i64 h.f5] 107)).alloc (.cells #[.string h.f1, .string h.f2, .int .i64 0, .int .i64 0] 100)).cell? ⟨W3.heap.size, 1, none⟩ = some (.string h.f1) := (blk_cell n3 1).trans rfl
  have hg2 : ((W3.alloc (.cells #[.int .i64 h.f0, .string h.f1, .string h.f2, .int .i64 h.f3, .int .i64 h.f4, .int .i64 h.f5] 107)).alloc (.cells #[.string h.f1, .string h.f2, .int .i64 0, .int .i64 0] 100)).cell? ⟨W3.heap.size, 2, none⟩ = some (.string h.f2) := (blk_cell n3 2).trans rfl
  have hg3 : ((W3.alloc (.cells #[.int .i64 h.f0, .string h.f1, .string h.f2, .int .i64 h.f3, .int .i64 h.f4, .int .i64 h.f5] 107)).alloc (.cells #[.string h.f1, .string h.f2, .int .i64 0, .int .i64 0] 100)).cell? ⟨W3.heap.size, 3, none⟩ = some (.int .i64 h.f3) := (blk_cell n3 3).trans rfl
  have hg4 : ((W3.alloc (.cells #[.int .i64 h.f0, .string h.f1, .string h.f2, .int .i64 h.f3, .int .i64 h.f4, .int .i64 h.f5] 107)).alloc (.cells #[.string h.f1, .string h.f2, .int .i64 0, .int .i64 0] 100)).cell? ⟨W3.heap.size, 4, none⟩ = some (.int .i64 h.f4) := (blk_cell n3 4).trans rfl
  have hg5 : ((W3.alloc (.cells #[.int .i64 h.f0, .string h.f1, .string h.f2, .int .i64 h.f3, .int .i64 h.f4, .int .i64 h.f5] 107)).alloc (.cells #[.string h.f1, .string h.f2, .int .i64 0, .int .i64 0] 100)).cell? ⟨W3.heap.size, 5, none⟩ = some (.int .i64 h.f5) := (blk_cell n3 5).trans rfl
  have ha0 : ((W3.alloc (.cells #[.int .i64 h.f0, .string h.f1, .string h.f2, .int .i64 h.f3, .int .i64 h.f4, .int .i64 h.f5] 107)).alloc (.cells #[.string h.f1, .string h.f2, .int .i64 0, .int .i64 0] 100)).cell? ⟨W3.heap.size + 1, 0, none⟩ = some (.string h.f1) := (blk_cell n4 0).trans rfl
  have ha1 : ((W3.alloc (.cells #[.int .i64 h.f0, .string h.f1, .string h.f2, .int .i64 h.f3, .int .i64 h.f4, .int .i64 h.f5] 107)).alloc (.cells #[.string h.f1, .string h.f2, .int .i64 0, .int .i64 0] 100)).cell? ⟨W3.heap.size + 1, 1, none⟩ = some (.string h.f2) := (blk_cell n4 1).trans rfl
  have ha2 : ((W3.alloc (.cells #[.int .i64 h.f0, .string h.f1, .string h.f2, .int .i64 h.f3, .int .i64 h.f4, .int .i64 h.f5] 107)).alloc (.cells #[.string h.f1, .string h.f2, .int .i64 0, .int .i64 0] 100)).cell? ⟨W3.heap.size + 1, 2, none⟩ = some (.int .i64 0) := (blk_cell n4 2).trans rfl
  have ha3 : ((W3.alloc (.cells #[.int .i64 h.f0, .string h.f1, .string h.f2, .int .i64 h.f3, .int .i64 h.f4, .int .i64 h.f5] 107)).alloc (.cells #[.string h.f1, .string h.f2, .int .i64 0, .int .i64 0] 100)).cell? ⟨W3.heap.size + 1, 3, none⟩ = some (.int .i64 0) := (blk_cell n4 3).trans rfl
  have id0 : ((W3.alloc (.cells #[.int .i64 h.f0, .string h.f1, .string h.f2, .int .i64 h.f3, .int .i64 h.f4, .int .i64 h.f5] 107)).alloc (.cells #[.string h.f1, .string h.f2, .int .i64 0, .int .i64 0] 100)).cell? ⟨w.heap.size, 0, none⟩ = some (.slice A0 l0.length c0) := (blk_cell q0 0).trans rfl
  have id1 : ((W3.alloc (.cells #[.int .i64 h.f0, .string h.f1, .string h.f2, .int .i64 h.f3, .int .i64 h.f4, .int .i64 h.f5] 107)).alloc (.cells #[.string h.f1, .string h.f2, .int .i64 0, .int .i64 0] 100)).cell? ⟨w.heap.size, 1, none⟩ = some (.slice (some ad) l1.length c1) := (blk_cell q0 1).trans rfl
  have id2 : ((W3.alloc (.cells #[.int .i64 h.f0, .string h.f1, .string h.f2, .int .i64 h.f3, .int .i64 h.f4, .int .i64 h.f5] 107)).alloc (.cells #[.string h.f1, .string h.f2, .int .i64 0, .int .i64 0] 100)).cell? ⟨w.heap.size, 2, none⟩ = some (.slice A2 l2.length c2) := (blk_cell q0 2).trans rfl
  have id3 : ((W3.alloc (.cells #[.int .i64 h.f0, .string h.f1, .string h.f2, .int .i64 h.f3, .int .i64 h.f4, .int .i64 h.f5] 107)).alloc (.cells #[.string h.f1, .string h.f2, .int .i64 0, .int .i64 0] 100)).cell? ⟨w.heap.size, 3, none⟩ = some (.int .i64 ops) := (blk_cell q0 3).trans rfl
  have ip0 : ((W3.alloc (.cells #[.int .i64 h.f0, .string h.f1, .string h.f2, .int .i64 h.f3, .int .i64 h.f4, .int .i64 h.f5] 107)).alloc (.cells #[.string h.f1, .string h.f2, .int .i64 0, .int .i64 0] 100)).cell? ⟨w.heap.size + 1, 0, none⟩ = some (.int .i64 3) := (blk_cell q1 0).trans rfl
  have ip1 : ((W3.alloc (.cells #[.int .i64 h.f0, .string h.f1, .string h.f2, .int .i64 h.f3, .int .i64 h.f4, .int .i64 h.f5] 107)).alloc (.cells #[.string h.f1, .string h.f2, .int .i64 0, .int .i64 0] 100)).cell? ⟨w.heap.size + 1, 1, none⟩ = some (.string sku) := (blk_cell q1 1).trans rfl
  have ip2 : ((W3.alloc (.cells #[.int .i64 h.f0, .string h.f1, .string h.f2, .int .i64 h.f3, .int .i64 h.f4, .int .i64 h.f5] 107)).alloc (.cells #[.string h.f1, .string h.f2, .int .i64 0, .int .i64 0] 100)).cell? ⟨w.heap.size + 1, 2, none⟩ = some (.string loc) := (blk_cell q1 2).trans rfl
  have ip3 : ((W3.alloc (.cells #[.int .i64 h.f0, .string h.f1, .string h.f2, .int .i64 h.f3, .int .i64 h.f4, .int .i64 h.f5] 107)).alloc (.cells #[.string h.f1, .string h.f2, .int .i64 0, .int .i64 0] 100)).cell? ⟨w.heap.size + 1, 3, none⟩ = some (.string dst) := (blk_cell q1 3).trans rfl
  have ip4 : ((W3.alloc (.cells #[.int .i64 h.f0, .string h.f1, .string h.f2, .int .i64 h.f3, .int .i64 h.f4, .int .i64 h.f5] 107)).alloc (.cells #[.string h.f1, .string h.f2, .int .i64 0, .int .i64 0] 100)).cell? ⟨w.heap.size + 1, 4, none⟩ = some (.int .i64 q) := (blk_cell q1 4).trans rfl
  have ip5 : ((W3.alloc (.cells #[.int .i64 h.f0, .string h.f1, .string h.f2, .int .i64 h.f3, .int .i64 h.f4, .int .i64 h.f5] 107)).alloc (.cells #[.string h.f1, .string h.f2, .int .i64 0, .int .i64 0] 100)).cell? ⟨w.heap.size + 1, 5, none⟩ = some (.int .i64 ((k : Int) + 1)) := (blk_cell q1 5).trans rfl
  have ip6 : ((W3.alloc (.cells #[.int .i64 h.f0, .string h.f1, .string h.f2, .int .i64 h.f3, .int .i64 h.f4, .int .i64 h.f5] 107)).alloc (.cells #[.string h.f1, .string h.f2, .int .i64 0, .int .i64 0] 100)).cell? ⟨w.heap.size + 1, 6, none⟩ = some (.int .i64 due) := (blk_cell q1 6).trans rfl
  clear h0 h1 h2 hR e1
  go_enter Try.func90, Try.ntmps90
  go_wp2_with fail
  refine hcall.mono ?_
  clear hcall hW3 hd0 hd1 hd2 hd3 hp0 hp1 hp2 hp3 hp4 hp5 hp6 id0 id1 id2 id3 ip0 ip1 ip2 ip3 ip4 ip5 ip6 hg0 hg1 hg2 hg3 hg4 hg5 ha0 ha1 ha2 ha3 y0 y1 y2 y3 y4 y5 x0 x1 x2 x3 x4 x5
  rintro e W5 ⟨A, c, A1', c1', A2', c2', rfl, hL5, hb5⟩
  have p0 := blk_below q0 hb5
  have p1 := blk_below q1 hb5
  have p2 := blk_below q2 hb5
  have p3 := blk_below n3 hb5
  have p4 := blk_below n4 hb5
  have hB5 := below_w hB4 hb5
  clear q0 q1 q2 n3 n4
  have hd0 : W5.cell? ⟨w.heap.size, 0, none⟩ = some (.slice A0 l0.length c0) := (blk_cell p0 0).trans rfl
  have hz0 := blk_frozen p0 0
  have hd1 : W5.cell? ⟨w.heap.size, 1, none⟩ = some (.slice (some ad) l1.length c1) := (blk_cell p0 1).trans rfl
  have hz1 := blk_frozen p0 1
  have hd2 : W5.cell? ⟨w.heap.size, 2, none⟩ = some (.slice A2 l2.length c2) := (blk_cell p0 2).trans rfl
  have hz2 := blk_frozen p0 2
  have hd3 : W5.cell? ⟨w.heap.size, 3, none⟩ = some (.int .i64 ops) := (blk_cell p0 3).trans rfl
  have hz3 := blk_frozen p0 3
  obtain ⟨V3, hV3⟩ : ∃ V3, put4 W5 w.heap.size (.slice A R.length c) (.slice A1' l1.length c1') (.slice A2' l2.length c2') (.int .i64 ops) = V3 := ⟨_, rfl⟩
  have hne : ∀ j : Nat, 0 < j → w.heap.size + j ≠ w.heap.size := fun j hj => by omega
  have r0 : V3.heap[w.heap.size]? = some (.cells #[.slice A R.length c, .slice A1' l1.length c1', .slice A2' l2.length c2', .int .i64 ops] 41 (0, 0)) := by rw [← hV3]; exact put4_blk p0 _ _ _ _
  have r1 : V3.heap[w.heap.size + 1]? = some (.cells #[.int .i64 3, .string sku, .string loc, .string dst, .int .i64 q, .int .i64 ((k : Int) + 1), .int .i64 due] 88 (0, 0)) := by rw [← hV3]; exact put4_far p1 (hne 1 (by omega)) _ _ _ _
  have r2 : V3.heap[w.heap.size + 2]? = some (.cells #[.slice none 0 0, .slice none 0 0, .slice none 0 0, .int .i64 0] 41 (0, 0)) := by rw [← hV3]; exact put4_far p2 (hne 2 (by omega)) _ _ _ _
  have r3 : V3.heap[W3.heap.size]? = some (.cells #[.int .i64 h.f0, .string h.f1, .string h.f2, .int .i64 h.f3, .int .i64 h.f4, .int .i64 h.f5] 107 (0, 0)) := by rw [← hV3]; exact put4_far p3 (by omega) _ _ _ _
  have r4 : V3.heap[W3.heap.size + 1]? = some (.cells #[.string h.f1, .string h.f2, .int .i64 0, .int .i64 0] 100 (0, 0)) := by rw [← hV3]; exact put4_far p4 (by omega) _ _ _ _
  have hLV : LedgerAt R l1 l2 A c A1' c1' A2' c2' V3 := by rw [← hV3]; exact hL5.put4 p0 (noStr_box _ _ _ _ _ _ _ _ _ _) (fun _ h => by cases h) (fun _ h => by cases h) (fun _ h => by cases h)
  have hBV : Below w.heap.size w V3 := by rw [← hV3]; exact put4_below hB5 (Nat.le_refl _) _ _ _ _
  unfold put4 at hV3
  clear p0 p1 p2 p3 p4 hL5 hB5 hb5 hne
  have hm0 : V3.cell? ⟨w.heap.size, 0, none⟩ = some (.slice A R.length c) := (blk_cell r0 0).trans rfl
  have hm1 : V3.cell? ⟨w.heap.size, 1, none⟩ = some (.slice A1' l1.length c1') := (blk_cell r0 1).trans rfl
  have hm2 : V3.cell? ⟨w.heap.size, 2, none⟩ = some (.slice A2' l2.length c2') := (blk_cell r0 2).trans rfl
  have hm3 : V3.cell? ⟨w.heap.size, 3, none⟩ = some (.int .i64 ops) := (blk_cell r0 3).trans rfl
  have hn0 : V3.cell? ⟨w.heap.size + 1, 0, none⟩ = some (.int .i64 3) := (blk_cell r1 0).trans rfl
  have hn1 : V3.cell? ⟨w.heap.size + 1, 1, none⟩ = some (.string sku) := (blk_cell r1 1).trans rfl
  have hn2 : V3.cell? ⟨w.heap.size + 1, 2, none⟩ = some (.string loc) := (blk_cell r1 2).trans rfl
  have hn3 : V3.cell? ⟨w.heap.size + 1, 3, none⟩ = some (.string dst) := (blk_cell r1 3).trans rfl
  have hn4 : V3.cell? ⟨w.heap.size + 1, 4, none⟩ = some (.int .i64 q) := (blk_cell r1 4).trans rfl
  have hn5 : V3.cell? ⟨w.heap.size + 1, 5, none⟩ = some (.int .i64 ((k : Int) + 1)) := (blk_cell r1 5).trans rfl
  have hn6 : V3.cell? ⟨w.heap.size + 1, 6, none⟩ = some (.int .i64 due) := (blk_cell r1 6).trans rfl
  have hst := (fun V (hV : Below V3.heap.size V3 V) => state_calls R l1 l2 A c A1' c1' A2' c2' ops V k 1 hk hl1 (hLV.below hV))
  have hmv := fun (A : Option Addr) (c : Nat) (A1 : Option Addr) (c1 : Nat) (A2 : Option Addr) (c2 : Nat) V (hV : LedgerAt R (stateF l1 k 1) l2 A c A1 c1 A2 c2 V) => moved_calls R (stateF l1 k 1) l2 A c A1 c1 A2 c2 ops V ⟨h.f1, h.f2, 0, 0⟩ (wrap64 (-h.f3)) ⟨0, ⟨#[]⟩, ⟨#[]⟩, 0, 3, h.f0⟩ hV (by omega) (by omega)
  unfold stV moV at hmv
  dsimp only at hmv
  rw [HS.out] at hst hmv
  rw [HRM.out.1, HRM.out.2] at hmv
  have HMV := Lib.hid hmv
  have hst := Lib.hid hst
  clear hmv
  go_wp2
  clear hd0 hd1 hd2 hd3 hz0 hz1 hz2 hz3 hm0 hm1 hm2 hm3 hn0 hn1 hn2 hn3 hn4 hn5 hn6 hV3
  have hm0x : V3.cell? ⟨w.heap.size, 0, none⟩ = some (.slice A R.length c) := (blk_cell r0 0).trans rfl
  have hm1x : V3.cell? ⟨w.heap.size, 1, none⟩ = some (.slice A1' l1.length c1') := (blk_cell r0 1).trans rfl
  have hm2x : V3.cell? ⟨w.heap.size, 2, none⟩ = some (.slice A2' l2.length c2') := (blk_cell r0 2).trans rfl
  have hm3x : V3.cell? ⟨w.heap.size, 3, none⟩ = some (.int .i64 ops) := (blk_cell r0 3).trans rfl
  have hn0x : V3.cell? ⟨w.heap.size + 1, 0, none⟩ = some (.int .i64 3) := (blk_cell r1 0).trans rfl
  have hn5x : V3.cell? ⟨w.heap.size + 1, 5, none⟩ = some (.int .i64 ((k : Int) + 1)) := (blk_cell r1 5).trans rfl
  have ht0x : V3.cell? ⟨W3.heap.size, 0, none⟩ = some (.int .i64 h.f0) := (blk_cell r3 0).trans rfl
  have ht3x : V3.cell? ⟨W3.heap.size, 3, none⟩ = some (.int .i64 h.f3) := (blk_cell r3 3).trans rfl
  have hu0x : V3.cell? ⟨W3.heap.size + 1, 0, none⟩ = some (.string h.f1) := (blk_cell r4 0).trans rfl
  have hu1x : V3.cell? ⟨W3.heap.size + 1, 1, none⟩ = some (.string h.f2) := (blk_cell r4 1).trans rfl
  have hu2x : V3.cell? ⟨W3.heap.size + 1, 2, none⟩ = some (.int .i64 0) := (blk_cell r4 2).trans rfl
  have hu3x : V3.cell? ⟨W3.heap.size + 1, 3, none⟩ = some (.int .i64 0) := (blk_cell r4 3).trans rfl
  have hw3 : IntKind.i64.wrap (k : Int) = (k : Int) := by rw [IntKind.wrap_i64]; omega
  have hw4 : IntKind.i64.wrap (-h.f3) = wrap64 (-h.f3) := by rw [IntKind.wrap_i64]; unfold wrap64; rfl
  have hS0 : World.cell? V3.drew ⟨w.heap.size, 0, none⟩ = some (.slice A R.length c) ∧ World.cell? V3.drew ⟨w.heap.size, 1, none⟩ = some (.slice A1' l1.length c1') ∧ World.cell? V3.drew ⟨w.heap.size, 2, none⟩ = some (.slice A2' l2.length c2') ∧ World.cell? V3.drew ⟨w.heap.size, 3, none⟩ = some (.int .i64 ops) ∧ World.cell? V3.drew ⟨w.heap.size + 1, 0, none⟩ = some (.int .i64 3) ∧ World.cell? V3.drew ⟨w.heap.size + 1, 5, none⟩ = some (.int .i64 ((k : Int) + 1)) ∧ World.cell? V3.drew ⟨W3.heap.size, 0, none⟩ = some (.int .i64 h.f0) ∧ World.cell? V3.drew ⟨W3.heap.size, 3, none⟩ = some (.int .i64 h.f3) ∧ World.cell? V3.drew ⟨W3.heap.size + 1, 0, none⟩ = some (.string h.f1) ∧ World.cell? V3.drew ⟨W3.heap.size + 1, 1, none⟩ = some (.string h.f2) ∧ World.cell? V3.drew ⟨W3.heap.size + 1, 2, none⟩ = some (.int .i64 0) ∧ World.cell? V3.drew ⟨W3.heap.size + 1, 3, none⟩ = some (.int .i64 0) := ⟨cell_below (below_drew (Below.refl _ _)) hm0x, cell_below (below_drew (Below.refl _ _)) hm1x, cell_below (below_drew (Below.refl _ _)) hm2x, cell_below (below_drew (Below.refl _ _)) hm3x, cell_below (below_drew (Below.refl _ _)) hn0x, cell_below (below_drew (Below.refl _ _)) hn5x, cell_below (below_drew (Below.refl _ _)) ht0x, cell_below (below_drew (Below.refl _ _)) ht3x, cell_below (below_drew (Below.refl _ _)) hu0x, cell_below (below_drew (Below.refl _ _)) hu1x, cell_below (below_drew (Below.refl _ _)) hu2x, cell_below (below_drew (Below.refl _ _)) hu3x⟩
  refine wp_region_held_drew (S := (fun V => V.cell? ⟨w.heap.size, 0, none⟩ = some (.slice A R.length c) ∧ V.cell? ⟨w.heap.size, 1, none⟩ = some (.slice A1' l1.length c1') ∧ V.cell? ⟨w.heap.size, 2, none⟩ = some (.slice A2' l2.length c2') ∧ V.cell? ⟨w.heap.size, 3, none⟩ = some (.int .i64 ops) ∧ V.cell? ⟨w.heap.size + 1, 0, none⟩ = some (.int .i64 3) ∧ V.cell? ⟨w.heap.size + 1, 5, none⟩ = some (.int .i64 ((k : Int) + 1)) ∧ V.cell? ⟨W3.heap.size, 0, none⟩ = some (.int .i64 h.f0) ∧ V.cell? ⟨W3.heap.size, 3, none⟩ = some (.int .i64 h.f3) ∧ V.cell? ⟨W3.heap.size + 1, 0, none⟩ = some (.string h.f1) ∧ V.cell? ⟨W3.heap.size + 1, 1, none⟩ = some (.string h.f2) ∧ V.cell? ⟨W3.heap.size + 1, 2, none⟩ = some (.int .i64 0) ∧ V.cell? ⟨W3.heap.size + 1, 3, none⟩ = some (.int .i64 0))) (by kernel_rfl) hS0 (fun hS => ?_)
  refine wpAnyH_take (i := 0) (oi := { dst := some 52, op := Op.load 41 (Operand.tmp 2), type := 41, pos := "ref.go:177", after := #[], guard := none }) (v := ?_) rfl (by kernel_rfl) (by kernel_rfl) (by kernel_rfl) (fun _ _ _ h => h) (Or.inl ⟨by rfl, ?_⟩) hS ?_
  rotate_left
  · intro w hSw; (try dsimp only at hSw); go_simp; with_reducible rfl
  try simp only [Act.put, List.setIfInBounds_toArray, List.set_cons_zero, List.set_cons_succ]
  refine wpAnyH_take (i := 1) (oi := { dst := some 53, op := Op.fieldAddr 88 (Operand.tmp 3) 5, type := 0, pos := "ref.go:177", after := #[], guard := none }) (v := ?_) rfl (by kernel_rfl) (by kernel_rfl) (by kernel_rfl) (fun _ _ _ h => h) (Or.inl ⟨by rfl, ?_⟩) hS ?_
  rotate_left
  · intro w hSw; (try dsimp only at hSw); go_simp; with_reducible rfl
  try simp only [Act.put, List.setIfInBounds_toArray, List.set_cons_zero, List.set_cons_succ]
  refine wpAnyH_take (i := 2) (oi := { dst := some 54, op := Op.load 3 (Operand.tmp 53), type := 3, pos := "ref.go:177", after := #[{ on := 1, ground := Ground.data }], guard := none }) (v := ?_) rfl (by kernel_rfl) (by kernel_rfl) (by kernel_rfl) (fun _ _ _ h => h) (Or.inl ⟨by rfl, ?_⟩) hS ?_
  rotate_left
  · intro w hSw; (try dsimp only at hSw); go_simp; with_reducible rfl
  try simp only [Act.put, List.setIfInBounds_toArray, List.set_cons_zero, List.set_cons_succ]
  refine wpAnyH_take (i := 3) (oi := { dst := some 55, op := Op.binOp BinOp.sub 3 (Operand.tmp 54) (Operand.const (Value.int IntKind.i64 1)) 3, type := 3, pos := "ref.go:177", after := #[{ on := 2, ground := Ground.data }], guard := none }) (v := ?_) rfl (by kernel_rfl) (by kernel_rfl) (by kernel_rfl) (fun _ _ _ h => h) (Or.inl ⟨by rfl, ?_⟩) hS ?_
  rotate_left
  · intro w hSw; (try dsimp only at hSw); go_simp; with_reducible rfl
  try simp only [Act.put, List.setIfInBounds_toArray, List.set_cons_zero, List.set_cons_succ]
  refine wpAnyH_take (i := 5) (oi := { dst := some 57, op := Op.load 100 (Operand.tmp 7), type := 100, pos := "ref.go:177", after := #[], guard := none }) (v := ?_) rfl (by kernel_rfl) (by kernel_rfl) (by kernel_rfl) (fun _ _ _ h => h) (Or.inl ⟨by rfl, ?_⟩) hS ?_
  rotate_left
  · intro w hSw; (try dsimp only at hSw); go_simp; with_reducible rfl
  try simp only [Act.put, List.setIfInBounds_toArray, List.set_cons_zero, List.set_cons_succ]
  refine wpAnyH_take (i := 6) (oi := { dst := some 58, op := Op.fieldAddr 107 (Operand.tmp 6) 3, type := 0, pos := "ref.go:177", after := #[], guard := none }) (v := ?_) rfl (by kernel_rfl) (by kernel_rfl) (by kernel_rfl) (fun _ _ _ h => h) (Or.inl ⟨by rfl, ?_⟩) hS ?_
  rotate_left
  · intro w hSw; (try dsimp only at hSw); go_simp; with_reducible rfl
  try simp only [Act.put, List.setIfInBounds_toArray, List.set_cons_zero, List.set_cons_succ]
  refine wpAnyH_take (i := 7) (oi := { dst := some 59, op := Op.load 3 (Operand.tmp 58), type := 3, pos := "ref.go:177", after := #[{ on := 6, ground := Ground.data }], guard := none }) (v := ?_) rfl (by kernel_rfl) (by kernel_rfl) (by kernel_rfl) (fun _ _ _ h => h) (Or.inl ⟨by rfl, ?_⟩) hS ?_
  rotate_left
  · intro w hSw; (try dsimp only at hSw); go_simp; with_reducible rfl
  try simp only [Act.put, List.setIfInBounds_toArray, List.set_cons_zero, List.set_cons_succ]
  refine wpAnyH_take (i := 8) (oi := { dst := some 60, op := Op.unOp UnOp.neg 3 (Operand.tmp 59), type := 3, pos := "ref.go:177", after := #[{ on := 7, ground := Ground.data }], guard := none }) (v := ?_) rfl (by kernel_rfl) (by kernel_rfl) (by kernel_rfl) (fun _ _ _ h => h) (Or.inl ⟨by rfl, ?_⟩) hS ?_
  rotate_left
  · intro w hSw; (try dsimp only at hSw); go_simp; with_reducible rfl
  try simp only [Act.put, List.setIfInBounds_toArray, List.set_cons_zero, List.set_cons_succ]
  refine wpAnyH_take (i := 9) (oi := { dst := some 61, op := Op.fieldAddr 88 (Operand.tmp 3) 0, type := 0, pos := "ref.go:177", after := #[], guard := none }) (v := ?_) rfl (by kernel_rfl) (by kernel_rfl) (by kernel_rfl) (fun _ _ _ h => h) (Or.inl ⟨by rfl, ?_⟩) hS ?_
  rotate_left
  · intro w hSw; (try dsimp only at hSw); go_simp; with_reducible rfl
  try simp only [Act.put, List.setIfInBounds_toArray, List.set_cons_zero, List.set_cons_succ]
  refine wpAnyH_take (i := 10) (oi := { dst := some 62, op := Op.load 3 (Operand.tmp 61), type := 3, pos := "ref.go:177", after := #[{ on := 9, ground := Ground.data }], guard := none }) (v := ?_) rfl (by kernel_rfl) (by kernel_rfl) (by kernel_rfl) (fun _ _ _ h => h) (Or.inl ⟨by rfl, ?_⟩) hS ?_
  rotate_left
  · intro w hSw; (try dsimp only at hSw); go_simp; with_reducible rfl
  try simp only [Act.put, List.setIfInBounds_toArray, List.set_cons_zero, List.set_cons_succ]
  refine wpAnyH_take (i := 11) (oi := { dst := some 63, op := Op.fieldAddr 107 (Operand.tmp 6) 0, type := 0, pos := "ref.go:177", after := #[], guard := none }) (v := ?_) rfl (by kernel_rfl) (by kernel_rfl) (by kernel_rfl) (fun _ _ _ h => h) (Or.inl ⟨by rfl, ?_⟩) hS ?_
  rotate_left
  · intro w hSw; (try dsimp only at hSw); go_simp; with_reducible rfl
  try simp only [Act.put, List.setIfInBounds_toArray, List.set_cons_zero, List.set_cons_succ]
  refine wpAnyH_take (i := 12) (oi := { dst := some 64, op := Op.load 3 (Operand.tmp 63), type := 3, pos := "ref.go:177", after := #[{ on := 11, ground := Ground.data }], guard := none }) (v := ?_) rfl (by kernel_rfl) (by kernel_rfl) (by kernel_rfl) (fun _ _ _ h => h) (Or.inl ⟨by rfl, ?_⟩) hS ?_
  rotate_left
  · intro w hSw; (try dsimp only at hSw); go_simp; with_reducible rfl
  try simp only [Act.put, List.setIfInBounds_toArray, List.set_cons_zero, List.set_cons_succ]
  refine wpAnyH_take (i := 13) (oi := { dst := some 65, op := Op.build 111 #[(4, Operand.tmp 62), (5, Operand.tmp 64)], type := 111, pos := "ref.go:177", after := #[{ on := 10, ground := Ground.data }, { on := 12, ground := Ground.data }], guard := none }) (v := ?_) rfl (by kernel_rfl) (by kernel_rfl) (by kernel_rfl) (fun _ _ _ h => h) (Or.inl ⟨by rfl, ?_⟩) hS ?_
  rotate_left
  · intro w hSw; (try dsimp only at hSw); go_simp; with_reducible rfl
  try simp only [Act.put, List.setIfInBounds_toArray, List.set_cons_zero, List.set_cons_succ]
  refine wpAnyH_ready (rs := [4]) (by kernel_rfl) (by simp) (AllReadyH.cons (o := { dst := some 56, op := Op.call { callee := Callee.value (Operand.func 109), args := #[Operand.tmp 52, Operand.tmp 55, Operand.const (Value.int IntKind.i64 1)], argTypes := #[41, 3, 3] }, type := 41, pos := "ref.go:177", after := #[{ on := 0, ground := Ground.data }, { on := 3, ground := Ground.data }], guard := none }) rfl (fun K hK => ?_) AllReadyH.nil)
  rw [if_pos (by rfl)]
  go_simp
  refine (hst.out _ (below_drew (Below.refl _ _))).mono ?_
  rintro e w' ⟨As, cs, As1, cs1, As2, cs2, rfl, hLs, hbn⟩
  have hbw : Below V3.heap.size V3 w' := below_chain (below_drew (Below.refl _ _)) hbn
  have hS1 : World.cell? w' ⟨w.heap.size, 0, none⟩ = some (.slice A R.length c) ∧ World.cell? w' ⟨w.heap.size, 1, none⟩ = some (.slice A1' l1.length c1') ∧ World.cell? w' ⟨w.heap.size, 2, none⟩ = some (.slice A2' l2.length c2') ∧ World.cell? w' ⟨w.heap.size, 3, none⟩ = some (.int .i64 ops) ∧ World.cell? w' ⟨w.heap.size + 1, 0, none⟩ = some (.int .i64 3) ∧ World.cell? w' ⟨w.heap.size + 1, 5, none⟩ = some (.int .i64 ((k : Int) + 1)) ∧ World.cell? w' ⟨W3.heap.size, 0, none⟩ = some (.int .i64 h.f0) ∧ World.cell? w' ⟨W3.heap.size, 3, none⟩ = some (.int .i64 h.f3) ∧ World.cell? w' ⟨W3.heap.size + 1, 0, none⟩ = some (.string h.f1) ∧ World.cell? w' ⟨W3.heap.size + 1, 1, none⟩ = some (.string h.f2) ∧ World.cell? w' ⟨W3.heap.size + 1, 2, none⟩ = some (.int .i64 0) ∧ World.cell? w' ⟨W3.heap.size + 1, 3, none⟩ = some (.int .i64 0) := ⟨cell_below hbw hm0x, cell_below hbw hm1x, cell_below hbw hm2x, cell_below hbw hm3x, cell_below hbw hn0x, cell_below hbw hn5x, cell_below hbw ht0x, cell_below hbw ht3x, cell_below hbw hu0x, cell_below hbw hu1x, cell_below hbw hu2x, cell_below hbw hu3x⟩
  refine hK.out _ _ hS1 (fun hS => ?_)
  clear hK K
  try simp only [Act.put, List.setIfInBounds_toArray, List.set_cons_zero, List.set_cons_succ]
  refine wpAnyH_ready (rs := [14]) (by kernel_rfl) (by simp) (AllReadyH.cons (o := { dst := some 66, op := Op.call { callee := Callee.value (Operand.func 87), args := #[Operand.tmp 56, Operand.tmp 57, Operand.tmp 60, Operand.tmp 65], argTypes := #[41, 100, 3, 111] }, type := 41, pos := "ref.go:177", after := #[{ on := 4, ground := Ground.data }, { on := 5, ground := Ground.data }, { on := 8, ground := Ground.data }, { on := 13, ground := Ground.data }, { on := 4, ground := Ground.chain }], guard := none }) rfl (fun K hK => ?_) AllReadyH.nil)
  rw [if_pos (by rfl)]
  go_simp
  refine (HMV.out _ _ _ _ _ _ _ hLs).mono ?_
  rintro e w9 ⟨Ez, ez, Ez1, ez1, Ez2, ez2, rfl, hL6, hbn2⟩
  have hbw2 : Below V3.heap.size V3 w9 := below_chain hbw hbn2
  have b0 := blk_below r0 hbw2
  have b1 := blk_below r1 hbw2
  have b3 := blk_below r3 hbw2
  have b4 := blk_below r4 hbw2
  have s2 := blk_below r2 hbw2
  have hr0 : w9.cell? ⟨w.heap.size + 1 + 1, 0, none⟩ = some (.slice none 0 0) := (blk_cell s2 0).trans rfl; have hf0 := blk_frozen s2 0
  have hr1 : w9.cell? ⟨w.heap.size + 1 + 1, 1, none⟩ = some (.slice none 0 0) := (blk_cell s2 1).trans rfl; have hf1 := blk_frozen s2 1
  have hr2 : w9.cell? ⟨w.heap.size + 1 + 1, 2, none⟩ = some (.slice none 0 0) := (blk_cell s2 2).trans rfl; have hf2 := blk_frozen s2 2
  have hr3 : w9.cell? ⟨w.heap.size + 1 + 1, 3, none⟩ = some (.int .i64 0) := (blk_cell s2 3).trans rfl; have hf3 := blk_frozen s2 3
  have g0 := put4_far (g := w.heap.size + 1 + 1) b0 (by omega) (.slice Ez R2.length ez) (.slice Ez1 S.length ez1) (.slice Ez2 M2.length ez2) (.int .i64 ops)
  have g1 := put4_far (g := w.heap.size + 1 + 1) b1 (by omega) (.slice Ez R2.length ez) (.slice Ez1 S.length ez1) (.slice Ez2 M2.length ez2) (.int .i64 ops)
  have g3 := put4_far (g := w.heap.size + 1 + 1) b3 (by omega) (.slice Ez R2.length ez) (.slice Ez1 S.length ez1) (.slice Ez2 M2.length ez2) (.int .i64 ops)
  have g4 := put4_far (g := w.heap.size + 1 + 1) b4 (by omega) (.slice Ez R2.length ez) (.slice Ez1 S.length ez1) (.slice Ez2 M2.length ez2) (.int .i64 ops)
  unfold put4 at g0 g1 g3 g4
  have hS2 : World.cell? w9 ⟨w.heap.size, 0, none⟩ = some (.slice A R.length c) ∧ World.cell? w9 ⟨w.heap.size, 1, none⟩ = some (.slice A1' l1.length c1') ∧ World.cell? w9 ⟨w.heap.size, 2, none⟩ = some (.slice A2' l2.length c2') ∧ World.cell? w9 ⟨w.heap.size, 3, none⟩ = some (.int .i64 ops) ∧ World.cell? w9 ⟨w.heap.size + 1, 0, none⟩ = some (.int .i64 3) ∧ World.cell? w9 ⟨w.heap.size + 1, 5, none⟩ = some (.int .i64 ((k : Int) + 1)) ∧ World.cell? w9 ⟨W3.heap.size, 0, none⟩ = some (.int .i64 h.f0) ∧ World.cell? w9 ⟨W3.heap.size, 3, none⟩ = some (.int .i64 h.f3) ∧ World.cell? w9 ⟨W3.heap.size + 1, 0, none⟩ = some (.string h.f1) ∧ World.cell? w9 ⟨W3.heap.size + 1, 1, none⟩ = some (.string h.f2) ∧ World.cell? w9 ⟨W3.heap.size + 1, 2, none⟩ = some (.int .i64 0) ∧ World.cell? w9 ⟨W3.heap.size + 1, 3, none⟩ = some (.int .i64 0) := ⟨cell_below hbw2 hm0x, cell_below hbw2 hm1x, cell_below hbw2 hm2x, cell_below hbw2 hm3x, cell_below hbw2 hn0x, cell_below hbw2 hn5x, cell_below hbw2 ht0x, cell_below hbw2 ht3x, cell_below hbw2 hu0x, cell_below hbw2 hu1x, cell_below hbw2 hu2x, cell_below hbw2 hu3x⟩
  have hS3 : World.cell? ((((w9.setCell ⟨w.heap.size + 1 + 1, 0, none⟩ (.slice Ez R2.length ez)).setCell ⟨w.heap.size + 1 + 1, 1, none⟩ (.slice Ez1 S.length ez1)).setCell ⟨w.heap.size + 1 + 1, 2, none⟩ (.slice Ez2 M2.length ez2)).setCell ⟨w.heap.size + 1 + 1, 3, none⟩ (.int .i64 ops)) ⟨w.heap.size, 0, none⟩ = some (.slice A R.length c) ∧ World.cell? ((((w9.setCell ⟨w.heap.size + 1 + 1, 0, none⟩ (.slice Ez R2.length ez)).setCell ⟨w.heap.size + 1 + 1, 1, none⟩ (.slice Ez1 S.length ez1)).setCell ⟨w.heap.size + 1 + 1, 2, none⟩ (.slice Ez2 M2.length ez2)).setCell ⟨w.heap.size + 1 + 1, 3, none⟩ (.int .i64 ops)) ⟨w.heap.size, 1, none⟩ = some (.slice A1' l1.length c1') ∧ World.cell? ((((w9.setCell ⟨w.heap.size + 1 + 1, 0, none⟩ (.slice Ez R2.length ez)).setCell ⟨w.heap.size + 1 + 1, 1, none⟩ (.slice Ez1 S.length ez1)).setCell ⟨w.heap.size + 1 + 1, 2, none⟩ (.slice Ez2 M2.length ez2)).setCell ⟨w.heap.size + 1 + 1, 3, none⟩ (.int .i64 ops)) ⟨w.heap.size, 2, none⟩ = some (.slice A2' l2.length c2') ∧ World.cell? ((((w9.setCell ⟨w.heap.size + 1 + 1, 0, none⟩ (.slice Ez R2.length ez)).setCell ⟨w.heap.size + 1 + 1, 1, none⟩ (.slice Ez1 S.length ez1)).setCell ⟨w.heap.size + 1 + 1, 2, none⟩ (.slice Ez2 M2.length ez2)).setCell ⟨w.heap.size + 1 + 1, 3, none⟩ (.int .i64 ops)) ⟨w.heap.size, 3, none⟩ = some (.int .i64 ops) ∧ World.cell? ((((w9.setCell ⟨w.heap.size + 1 + 1, 0, none⟩ (.slice Ez R2.length ez)).setCell ⟨w.heap.size + 1 + 1, 1, none⟩ (.slice Ez1 S.length ez1)).setCell ⟨w.heap.size + 1 + 1, 2, none⟩ (.slice Ez2 M2.length ez2)).setCell ⟨w.heap.size + 1 + 1, 3, none⟩ (.int .i64 ops)) ⟨w.heap.size + 1, 0, none⟩ = some (.int .i64 3) ∧ World.cell? ((((w9.setCell ⟨w.heap.size + 1 + 1, 0, none⟩ (.slice Ez R2.length ez)).setCell ⟨w.heap.size + 1 + 1, 1, none⟩ (.slice Ez1 S.length ez1)).setCell ⟨w.heap.size + 1 + 1, 2, none⟩ (.slice Ez2 M2.length ez2)).setCell ⟨w.heap.size + 1 + 1, 3, none⟩ (.int .i64 ops)) ⟨w.heap.size + 1, 5, none⟩ = some (.int .i64 ((k : Int) + 1)) ∧ World.cell? ((((w9.setCell ⟨w.heap.size + 1 + 1, 0, none⟩ (.slice Ez R2.length ez)).setCell ⟨w.heap.size + 1 + 1, 1, none⟩ (.slice Ez1 S.length ez1)).setCell ⟨w.heap.size + 1 + 1, 2, none⟩ (.slice Ez2 M2.length ez2)).setCell ⟨w.heap.size + 1 + 1, 3, none⟩ (.int .i64 ops)) ⟨W3.heap.size, 0, none⟩ = some (.int .i64 h.f0) ∧ World.cell? ((((w9.setCell ⟨w.heap.size + 1 + 1, 0, none⟩ (.slice Ez R2.length ez)).setCell ⟨w.heap.size + 1 + 1, 1, none⟩ (.slice Ez1 S.length ez1)).setCell ⟨w.heap.size + 1 + 1, 2, none⟩ (.slice Ez2 M2.length ez2)).setCell ⟨w.heap.size + 1 + 1, 3, none⟩ (.int .i64 ops)) ⟨W3.heap.size, 3, none⟩ = some (.int .i64 h.f3) ∧ World.cell? ((((w9.setCell ⟨w.heap.size + 1 + 1, 0, none⟩ (.slice Ez R2.length ez)).setCell ⟨w.heap.size + 1 + 1, 1, none⟩ (.slice Ez1 S.length ez1)).setCell ⟨w.heap.size + 1 + 1, 2, none⟩ (.slice Ez2 M2.length ez2)).setCell ⟨w.heap.size + 1 + 1, 3, none⟩ (.int .i64 ops)) ⟨W3.heap.size + 1, 0, none⟩ = some (.string h.f1) ∧ World.cell? ((((w9.setCell ⟨w.heap.size + 1 + 1, 0, none⟩ (.slice Ez R2.length ez)).setCell ⟨w.heap.size + 1 + 1, 1, none⟩ (.slice Ez1 S.length ez1)).setCell ⟨w.heap.size + 1 + 1, 2, none⟩ (.slice Ez2 M2.length ez2)).setCell ⟨w.heap.size + 1 + 1, 3, none⟩ (.int .i64 ops)) ⟨W3.heap.size + 1, 1, none⟩ = some (.string h.f2) ∧ World.cell? ((((w9.setCell ⟨w.heap.size + 1 + 1, 0, none⟩ (.slice Ez R2.length ez)).setCell ⟨w.heap.size + 1 + 1, 1, none⟩ (.slice Ez1 S.length ez1)).setCell ⟨w.heap.size + 1 + 1, 2, none⟩ (.slice Ez2 M2.length ez2)).setCell ⟨w.heap.size + 1 + 1, 3, none⟩ (.int .i64 ops)) ⟨W3.heap.size + 1, 2, none⟩ = some (.int .i64 0) ∧ World.cell? ((((w9.setCell ⟨w.heap.size + 1 + 1, 0, none⟩ (.slice Ez R2.length ez)).setCell ⟨w.heap.size + 1 + 1, 1, none⟩ (.slice Ez1 S.length ez1)).setCell ⟨w.heap.size + 1 + 1, 2, none⟩ (.slice Ez2 M2.length ez2)).setCell ⟨w.heap.size + 1 + 1, 3, none⟩ (.int .i64 ops)) ⟨W3.heap.size + 1, 3, none⟩ = some (.int .i64 0) := ⟨(blk_cell g0 0).trans rfl, (blk_cell g0 1).trans rfl, (blk_cell g0 2).trans rfl, (blk_cell g0 3).trans rfl, (blk_cell g1 0).trans rfl, (blk_cell g1 5).trans rfl, (blk_cell g3 0).trans rfl, (blk_cell g3 3).trans rfl, (blk_cell g4 0).trans rfl, (blk_cell g4 1).trans rfl, (blk_cell g4 2).trans rfl, (blk_cell g4 3).trans rfl⟩
  refine hK.out _ _ hS2 (fun hS => ?_)
  clear hK K
  try simp only [Act.put, List.setIfInBounds_toArray, List.set_cons_zero, List.set_cons_succ]
  refine wpAnyH_ready (rs := [15]) (by kernel_rfl) (by simp) (AllReadyH.cons (o := { dst := none, op := Op.store 41 (Operand.tmp 4) (Operand.tmp 66), type := 0, pos := "ref.go:177", after := #[{ on := 14, ground := Ground.data }, { on := 14, ground := Ground.chain }, { on := 0, ground := Ground.phase }, { on := 1, ground := Ground.phase }, { on := 2, ground := Ground.phase }, { on := 3, ground := Ground.phase }, { on := 4, ground := Ground.phase }, { on := 5, ground := Ground.phase }, { on := 6, ground := Ground.phase }, { on := 7, ground := Ground.phase }, { on := 8, ground := Ground.phase }, { on := 9, ground := Ground.phase }, { on := 10, ground := Ground.phase }, { on := 11, ground := Ground.phase }, { on := 12, ground := Ground.phase }, { on := 13, ground := Ground.phase }, { on := 14, ground := Ground.phase }], guard := none }) rfl (fun K hK => ?_) AllReadyH.nil)
  rw [if_pos (by rfl)]
  go_simp
  refine hK.out _ _ hS3 (fun hS => ?_)
  clear hK K
  try simp only [Act.put, List.setIfInBounds_toArray, List.set_cons_zero, List.set_cons_succ]
  refine wpAnyH_take (i := 16) (oi := { dst := some 5, op := Op.assign (Operand.const (Value.int IntKind.i64 0)), type := 27, pos := "ref.go:177", after := #[{ on := 15, ground := Ground.chain }, { on := 0, ground := Ground.phase }, { on := 1, ground := Ground.phase }, { on := 2, ground := Ground.phase }, { on := 3, ground := Ground.phase }, { on := 4, ground := Ground.phase }, { on := 5, ground := Ground.phase }, { on := 6, ground := Ground.phase }, { on := 7, ground := Ground.phase }, { on := 8, ground := Ground.phase }, { on := 9, ground := Ground.phase }, { on := 10, ground := Ground.phase }, { on := 11, ground := Ground.phase }, { on := 12, ground := Ground.phase }, { on := 13, ground := Ground.phase }, { on := 14, ground := Ground.phase }, { on := 15, ground := Ground.phase }], guard := none }) (v := ?_) rfl (by kernel_rfl) (by kernel_rfl) (by kernel_rfl) (fun _ _ _ h => h) (Or.inl ⟨by rfl, ?_⟩) hS ?_
  rotate_left
  · intro w hSw; (try dsimp only at hSw); go_simp; with_reducible rfl
  try simp only [Act.put, List.setIfInBounds_toArray, List.set_cons_zero, List.set_cons_succ]
  refine wpAnyH_done (by kernel_rfl) ?_ _
  have hB6 := below_w hBV hbw2
  go_wp2
  refine bodyPost_ret (results_ct rfl _ _ (w.heap.size + 1 + 1) 41 #[.slice Ez R2.length ez, .slice Ez1 S.length ez1, .slice Ez2 M2.length ez2, .int .i64 ops] (0, 0) _ rfl (put4_blk s2 _ _ _ _) hu rfl (by kernel_rfl)) rfl ?_
  exact ⟨Ez, ez, Ez1, ez1, Ez2, ez2, rfl, hL6.put4 s2 (noStr_box _ _ _ _ _ _ _ _ _ _) (fun _ h => by cases h) (fun _ h => by cases h) (fun _ h => by cases h), put4_below hB6 (by omega) _ _ _ _⟩
end
end Go.Proofs.Ytofkhcgkahkagaa
/- The reference's does, of any operation that may be. -/
namespace Go.Proofs.Ytofkhcgkahkagaa
open Go.RowKit Go.Proofs.YtofkhcgkahkagaaW.PrintWords Go.Proofs.YtofkhcgkahkagaaW.PrintLast Go.Proofs.YtofkhcgkahkagaaW.PrintMore Go.Proofs.Ytofkhcgkahkagaa.PPromiseLines
set_option linter.unusedVariables false
set_option linter.unusedSimpArgs false

theorem find_put {l : List Stk} (hu : Up0 l) (s : Stk) {p : Plc} (hne : p ≠ stP s) : findF (putF l s) p = findF l p := by
  obtain ⟨p1, p2, _⟩ := put_law hu s
  by_cases hp : p ∈ l.map stP
  · obtain ⟨x, hx, rfl⟩ := List.mem_map.1 hp
    rw [find_known hu hx, find_known p1 ((p2 x).2 (.inr ⟨hx, hne⟩))]
  · rw [find_not hp, find_not (fun h => ?_)]
    obtain ⟨x, hx, rfl⟩ := List.mem_map.1 h
    rcases (p2 x).1 hx with rfl | ⟨hx, _⟩
    · exact hne rfl
    · exact hp (List.mem_map.2 ⟨x, hx, rfl⟩)
/-- What op.May asks. -/
def MayP (kind : Int) (sku loc dst : ByteArray) (q id due : Int) : Prop :=
  kind = 1 ∧ nameB sku = true ∧ nameB loc = true ∧ dst = ⟨#[]⟩ ∧ 1 ≤ q ∧ id = 0 ∧ due = 0 ∨
  kind = 2 ∧ nameB sku = true ∧ nameB loc = true ∧ dst = ⟨#[]⟩ ∧ 1 ≤ q ∧ id = 0 ∧ 0 ≤ due ∨
  (kind = 3 ∨ kind = 4) ∧ 1 ≤ id ∨
  kind = 5 ∨
  kind = 6 ∧ nameB sku = true ∧ nameB loc = true ∧ nameB dst = true ∧ dst ≠ loc ∧ 1 ≤ q ∨
  kind = 7 ∧ nameB sku = true ∧ nameB loc = true ∧ q ≠ 0

/-- A ledger of the played ones, or a refusal. -/
def DoesR (l0 : List Stk) (l1 : List Hld) (l2 : List Mov) (ops : Int) (w : World) (e : Ending) (w' : World) : Prop :=
  ∃ m0 m1 m2 er, LedEnd2 m0 m1 m2 ops er w e w' ∧ m0.length ≤ l0.length + 2 ∧ m1.length ≤ l1.length + 1 ∧ m2.length ≤ l2.length + 2 ∧ (er = 0 → LInv m0 m1 m2)
theorem DoesR.same {l0 : List Stk} {l1 : List Hld} {l2 : List Mov} {ops er : Int} {w : World} {e : Ending} {w' : World} (h : LedEnd2 l0 l1 l2 ops er w e w') (hne : er ≠ 0) : DoesR l0 l1 l2 ops w e w' := ⟨l0, l1, l2, er, h, by omega, by omega, by omega, fun h0 => (hne h0).elim⟩

section
variable (l0 : List S100) (l1 : List S107) (l2 : List S111) (A0 : Option Addr) (c0 : Nat) (A1 : Option Addr) (c1 : Nat) (A2 : Option Addr) (c2 : Nat) (ops : Int) (w : World)
theorem over_all (kind : Int) (hk : kind = 3 ∨ kind = 4) (sku loc dst : ByteArray) (q id due : Int) (hid : 1 ≤ id) (hI : LInv l0 l1 l2) (hl : l0.length ≤ 4000) (hl1 : l1.length ≤ 4000) (hl2 : l2.length ≤ 4000) :
    ∃ m0 m1 m2 er, (m0.length ≤ l0.length + 2 ∧ m1.length ≤ l1.length + 1 ∧ m2.length ≤ l2.length + 2 ∧ (er = 0 → LInv m0 m1 m2)) ∧ ∀ V, LedgerAt l0 l1 l2 A0 c0 A1 c1 A2 c2 V → Calls Try.prog 90 #[.agg #[.slice A0 l0.length c0, .slice A1 l1.length c1, .slice A2 l2.length c2, .int .i64 ops], .agg #[.int .i64 kind, .string sku, .string loc, .string dst, .int .i64 q, .int .i64 id, .int .i64 due]] V (LedEnd2 m0 m1 m2 ops er V) := by
  by_cases h1 : (l1.length : Int) < id
  · exact ⟨l0, l1, l2, 71, ⟨by omega, by omega, by omega, fun h => by omega⟩, fun V hV => over_far l0 l1 l2 A0 c0 A1 c1 A2 c2 ops V kind sku loc dst q due id hV hl hl1 hl2 h1⟩
  · obtain ⟨k, rfl⟩ : ∃ k : Nat, id = (k : Int) + 1 := ⟨(id - 1).toNat, by omega⟩
    have hk1 : k < l1.length := by omega
    by_cases h4 : l1[k].f4 = 0
    · have hp0 := hI.hoIn _ (List.getElem_mem hk1) h4
      obtain ⟨⟨g1, g2, g3, g4, g5, g6, g7⟩, g8, g9⟩ := hI.ho k hk1
      rcases hk with rfl | rfl
      · obtain ⟨i1, i2, i3, i4, i5⟩ := hI.over hk1 h4 (n := 1) (.inl rfl)
        have hfe := i1.find (hoP l1[k])
        obtain ⟨f1, f2, f3, f4, f5⟩ := hI.find (hoP l1[k])
        have hpl := find_place l0 (hoP l1[k])
        have hff : findF (heldF2 l0 (hoP l1[k]) (wrap64 (-l1[k].f3))) (hoP l1[k]) = ⟨(findF l0 (hoP l1[k])).f0, (findF l0 (hoP l1[k])).f1, (findF l0 (hoP l1[k])).f2, wrap64 ((findF l0 (hoP l1[k])).f3 + wrap64 (-l1[k].f3))⟩ := by
          have hp := (put_law hI.up ⟨(findF l0 (hoP l1[k])).f0, (findF l0 (hoP l1[k])).f1, (findF l0 (hoP l1[k])).f2, wrap64 ((findF l0 (hoP l1[k])).f3 + wrap64 (-l1[k].f3))⟩)
          have := find_known hp.1 ((hp.2.1 _).2 (.inl rfl))
          rwa [show stP ⟨(findF l0 (hoP l1[k])).f0, (findF l0 (hoP l1[k])).f1, (findF l0 (hoP l1[k])).f2, wrap64 ((findF l0 (hoP l1[k])).f3 + wrap64 (-l1[k].f3))⟩ = hoP l1[k] from hpl] at this
        have hw : wrap64 ((findF l0 (hoP l1[k])).f3 + -l1[k].f3) = (findF l0 (hoP l1[k])).f3 - l1[k].f3 := by unfold maxI at *; unfold wrap64; omega
        rw [i3, hw] at hff
        rw [i3] at i1 i2
        have hm := i1.move (p := hoP l1[k]) (n := -l1[k].f3) (kind := 3) (hold := l1[k].f0) g2 g3 (by omega) (by unfold maxI at g8; constructor <;> omega) (.inr ⟨rfl, by omega⟩) (by omega) (by rw [hff]; dsimp only; omega) (by rw [hff]; dsimp only; omega)
        refine ⟨_, _, _, 0, ⟨?_, ?_, ?_, fun _ => ?_⟩, fun V hV => over_commit l0 l1 l2 A0 c0 A1 c1 A2 c2 ops V sku loc dst q due k hV hl hl1 hl2 hk1 h4⟩
        · rw [i3]
          have := hm.2.1
          omega
        · rw [stateF_len]
          omega
        · rw [i3]
          have := hm.2.2
          omega
        · rw [i3]
          exact hm.1
      · obtain ⟨i1, i2, i3, i4, i5⟩ := hI.over hk1 h4 (n := 2) (.inr rfl)
        refine ⟨_, _, _, 0, ⟨?_, ?_, ?_, fun _ => i1⟩, fun V hV => over_release l0 l1 l2 A0 c0 A1 c1 A2 c2 ops V sku loc dst q due k hV hl hl1 hl2 hk1 h4⟩
        · omega
        · rw [stateF_len]
          omega
        · omega
    · exact ⟨l0, l1, l2, 71, ⟨by omega, by omega, by omega, fun h => by omega⟩, fun V hV => over_gone l0 l1 l2 A0 c0 A1 c1 A2 c2 ops V kind sku loc dst q due k hV hl hl1 hl2 hk1 h4⟩

theorem does_all (kind : Int) (sku loc dst : ByteArray) (q id due : Int) (hP : MayP kind sku loc dst q id due) (hq : i64B q) (hd : i64B due) (hL : LedgerAt l0 l1 l2 A0 c0 A1 c1 A2 c2 w) (hI : LInv l0 l1 l2) (hl : l0.length ≤ 4000) (hl1 : l1.length ≤ 4000) (hl2 : l2.length ≤ 4000) :
    Calls Try.prog 70 #[.agg #[.slice A0 l0.length c0, .slice A1 l1.length c1, .slice A2 l2.length c2, .int .i64 ops], .agg #[.int .i64 kind, .string sku, .string loc, .string dst, .int .i64 q, .int .i64 id, .int .i64 due]] w (DoesR l0 l1 l2 ops w) := by
  have hd2 : due ≤ maxI := hd.2
  have hq2 : q ≤ maxI := hq.2
  have hG := fun p => hI.findG p
  have hF := fun p => hI.find p
  have hfr : ∀ p, (sumOf [(findF l0 p).f2 - (findF l0 p).f3]).1 = (findF l0 p).f2 - (findF l0 p).f3 := fun p => by
    obtain ⟨f1, f2, f3, f4, f5⟩ := hF p
    unfold maxI at f3
    rw [show ([(findF l0 p).f2 - (findF l0 p).f3] : List Int) = [(findF l0 p).f2 + -(findF l0 p).f3] from by rw [Int.sub_eq_add_neg], sum_pair (by omega)]
    dsimp only
    omega
  rcases hP with ⟨rfl, n1, n2, rfl, hq1, rfl, rfl⟩ | ⟨rfl, n1, n2, rfl, hq1, rfl, hdu⟩ | ⟨hk, hid⟩ | rfl | ⟨rfl, n1, n2, n3, hne, hq1⟩ | ⟨rfl, n1, n2, hq0⟩
  · by_cases hs : -9223372036854775808 ≤ (findF l0 (sku, loc)).f2 + q ∧ (findF l0 (sku, loc)).f2 + q ≤ 9223372036854775807
    · refine (does_receive l0 l1 l2 A0 c0 A1 c1 A2 c2 ops w sku loc q hq hL hl hl1 hl2 (hG _).1 hs).mono fun e w' h => ?_
      obtain ⟨f1, f2, f3, f4, f5⟩ := hF (sku, loc)
      obtain ⟨i1, i2, i3⟩ := hI.move (p := (sku, loc)) (n := q) (kind := 1) (hold := 0) n1 n2 (by omega) hq (.inl ⟨.inl rfl, rfl⟩) (by decide) (by omega) hs.2
      exact ⟨_, _, _, 0, h, by omega, by omega, by omega, fun _ => i1⟩
    · exact (does_over1 l0 l1 l2 A0 c0 A1 c1 A2 c2 ops w sku loc ⟨#[]⟩ q 0 0 hq hL hl hl1 hl2 (hG _).1 hs).mono fun e w' h => DoesR.same h (by decide)
  · by_cases hs : (findF l0 (sku, loc)).f2 - (findF l0 (sku, loc)).f3 < q
    · exact (does_stock2 l0 l1 l2 A0 c0 A1 c1 A2 c2 ops w sku loc ⟨#[]⟩ q 0 due hq hL hl hl1 hl2 (hG _) (by rw [hfr]; exact hs)).mono fun e w' h => DoesR.same h (by decide)
    · refine (does_hold l0 l1 l2 A0 c0 A1 c1 A2 c2 ops w sku loc q due hq hL hl hl1 hl2 (hG _) (by rw [hfr]; omega)).mono fun e w' h => ?_
      obtain ⟨i1, i2⟩ := hI.hold (p := (sku, loc)) hq1 hdu hd2 (by omega) n1 n2
      refine ⟨_, _, _, 0, h, by omega, ?_, by omega, fun _ => i1⟩
      unfold heldH
      simp
  · obtain ⟨m0, m1, m2, er, ⟨g1, g2, g3, g4⟩, hover⟩ := over_all l0 l1 l2 A0 c0 A1 c1 A2 c2 ops kind hk sku loc dst q id due hid hI hl hl1 hl2
    rcases hk with rfl | rfl
    · exact (does_call3 l0 l1 l2 A0 c0 A1 c1 A2 c2 ops w sku loc dst q id due hq hL hl hl1 hl2 m0 m1 m2 er hover).mono fun e w' h => ⟨m0, m1, m2, er, h, g1, g2, g3, g4⟩
    · exact (does_call4 l0 l1 l2 A0 c0 A1 c1 A2 c2 ops w sku loc dst q id due hq hL hl hl1 hl2 m0 m1 m2 er hover).mono fun e w' h => ⟨m0, m1, m2, er, h, g1, g2, g3, g4⟩
  · refine (does_expire l0 l1 l2 A0 c0 A1 c1 A2 c2 ops w sku loc dst q id due hq hL hl hl1 hl2 hI).mono ?_
    rintro e w' ⟨m0, m1, h, g1, g2, g3⟩
    exact ⟨m0, m1, l2, 0, h, by omega, by omega, by omega, fun _ => g1⟩
  · by_cases hs : (findF l0 (sku, loc)).f2 - (findF l0 (sku, loc)).f3 < q
    · exact (does_stock6 l0 l1 l2 A0 c0 A1 c1 A2 c2 ops w sku loc dst q id due hq hL hl hl1 hl2 (hG _) (by rw [hfr]; exact hs)).mono fun e w' h => DoesR.same h (by decide)
    · by_cases ho : -9223372036854775808 ≤ (findF l0 (sku, dst)).f2 + q ∧ (findF l0 (sku, dst)).f2 + q ≤ 9223372036854775807
      · refine (does_transfer l0 l1 l2 A0 c0 A1 c1 A2 c2 ops w sku loc dst q id due hq hL hl hl1 hl2 (hG _) (by rw [hfr]; omega) (hG _).1 ho).mono fun e w' h => ?_
        have hw : wrap64 (-q) = -q := by unfold maxI at hq2; unfold wrap64; omega
        rw [hw] at h
        obtain ⟨f1, f2, f3, f4, f5⟩ := hF (sku, loc)
        obtain ⟨d1, d2, d3, d4, d5⟩ := hF (sku, dst)
        obtain ⟨i1, i2, i3⟩ := hI.move (p := (sku, loc)) (n := -q) (kind := 6) (hold := 0) n1 n2 (by omega) (by unfold maxI at hq2; constructor <;> omega) (.inl ⟨.inr (.inl rfl), rfl⟩) (by decide) (by omega) (by omega)
        have hfp : findF (movedS l0 (sku, loc) (-q)) (sku, dst) = findF l0 (sku, dst) := by
          unfold movedS
          exact find_put hI.up _ (by
            rw [show stP ⟨(findF l0 (sku, loc)).f0, (findF l0 (sku, loc)).f1, wrap64 ((findF l0 (sku, loc)).f2 + -q), (findF l0 (sku, loc)).f3⟩ = (sku, loc) from find_place l0 (sku, loc)]
            exact fun e => hne (congrArg Prod.snd e))
        obtain ⟨j1, j2, j3⟩ := i1.move (p := (sku, dst)) (n := q) (kind := 6) (hold := 0) n1 n3 (by omega) hq (.inl ⟨.inr (.inl rfl), rfl⟩) (by decide) (by rw [hfp]; omega) (by rw [hfp]; exact ho.2)
        exact ⟨_, _, _, 0, h, by omega, by omega, by omega, fun _ => j1⟩
      · exact (does_over6 l0 l1 l2 A0 c0 A1 c1 A2 c2 ops w sku loc dst q id due hq hL hl hl1 hl2 (hG _) (by rw [hfr]; omega) (hG _).1 ho).mono fun e w' h => DoesR.same h (by decide)
  · by_cases hs : -9223372036854775808 ≤ (findF l0 (sku, loc)).f2 + q ∧ (findF l0 (sku, loc)).f2 + q ≤ 9223372036854775807
    · by_cases hc : (findF l0 (sku, loc)).f3 ≤ (findF l0 (sku, loc)).f2 + q
      · refine (does_adjust l0 l1 l2 A0 c0 A1 c1 A2 c2 ops w sku loc dst q id due hq hL hl hl1 hl2 (hG _).1 hs hc).mono fun e w' h => ?_
        obtain ⟨i1, i2, i3⟩ := hI.move (p := (sku, loc)) (n := q) (kind := 7) (hold := 0) n1 n2 hq0 hq (.inl ⟨.inr (.inr rfl), rfl⟩) (by decide) hc hs.2
        exact ⟨_, _, _, 0, h, by omega, by omega, by omega, fun _ => i1⟩
      · exact (does_stock7 l0 l1 l2 A0 c0 A1 c1 A2 c2 ops w sku loc dst q id due hq hL hl hl1 hl2 (hG _).1 hs (by omega)).mono fun e w' h => DoesR.same h (by decide)
    · exact (does_over7 l0 l1 l2 A0 c0 A1 c1 A2 c2 ops w sku loc dst q id due hq hL hl hl1 hl2 (hG _).1 hs).mono fun e w' h => DoesR.same h (by decide)
end
end Go.Proofs.Ytofkhcgkahkagaa
