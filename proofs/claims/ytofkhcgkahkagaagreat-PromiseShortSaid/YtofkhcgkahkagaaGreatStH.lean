/- The reference's does, for what is held. -/
import Derived.Test.YtofkhcgkahkagaaGreatStG
namespace Go.Proofs.YtofkhcgkahkagaaGreat
open Go.RowKit Go.Proofs.YtofkhcgkahkagaaGreatW.PrintWords Go.Proofs.YtofkhcgkahkagaaGreatW.PrintLast Go.Proofs.YtofkhcgkahkagaaGreatW.PrintMore Go.Proofs.YtofkhcgkahkagaaGreat.PPromiseShort
set_option linter.unusedVariables false
set_option linter.unusedSimpArgs false

theorem app_ho {W0 V V' : World} {v : Value} {acc : List S172} (hR : Kd.R k172 172 V W0.heap.size (fun k => W0.heap.size ≤ k) v acc) (hlow : Below W0.heap.size W0 V) (hb : Below V.heap.size V V') (hl : acc.length ≤ 100000) (m : S172) :
    ∃ v1 w1, (Builtin.append_ #[52, 52] 52 #[v, .slice (some ⟨V'.heap.size, 0, none⟩) 1 1]).run Tryz.prog (V'.alloc (.cells #[.int .i64 m.f0, .string m.f1, .string m.f2, .int .i64 m.f3, .int .i64 m.f4, .int .i64 m.f5] 172)) = .ok v1 w1 ∧ Kd.R k172 172 w1 W0.heap.size (fun k => W0.heap.size ≤ k) v1 (acc ++ [m]) ∧ Below W0.heap.size W0 w1 := by
  have hz := hb.size
  have hz1 := hlow.size
  obtain ⟨A1, c1, w1, hrun, hR1, hg1⟩ := append_made k172 (P := Tryz.prog) W0.heap.size 52 52 172 _ 64 Tryz.underlying52 info172 rfl (by decide) (by decide) V' v _ m [.int .i64 m.f0, .string m.f1, .string m.f2, .int .i64 m.f3, .int .i64 m.f4, .int .i64 m.f5] (fun k => W0.heap.size ≤ k) (fun _ => False)
    (k172_mkM _ _ _ m) (fun k hk => hk.elim) (fun k hk => by omega) (Kd.R_below hR hb) (by omega) (by omega)
  exact ⟨_, w1, hrun, hR1, (hlow.trans (hb.mono hlow.size)).grown hg1 (by omega) (fun j hj => (Kd.R_below hR hb).1 j hj)⟩
def heldH (l1 : List S172) (p : Plc) (q due : Int) : List S172 := l1 ++ [⟨(l1.length : Int) + 1, p.1, p.2, q, 0, due⟩]

section
variable (l0 : List S165) (l1 : List S172) (l2 : List S176) (A0 : Option Addr) (c0 : Nat) (A1 : Option Addr) (c1 : Nat) (A2 : Option Addr) (c2 : Nat) (ops : Int) (w : World)
set_option maxRecDepth 100000 in
set_option maxHeartbeats 2000000 in
theorem does_hold (sku loc : ByteArray) (q due : Int) (hq : i64B q) (hL : LedgerAt l0 l1 l2 A0 c0 A1 c1 A2 c2 w) (hl : l0.length ≤ 4000) (hl1 : l1.length ≤ 4000) (hl2 : l2.length ≤ 4000) (hg : i64B (findF l0 (sku, loc)).f2 ∧ i64B (findF l0 (sku, loc)).f3) (hfree : q ≤ (sumOf [(findF l0 (sku, loc)).f2 - (findF l0 (sku, loc)).f3]).1) :
    Calls Tryz.prog 132 #[.agg #[.slice A0 l0.length c0, .slice A1 l1.length c1, .slice A2 l2.length c2, .int .i64 ops], .agg #[.int .i64 2, .string sku, .string loc, .string ⟨#[]⟩, .int .i64 q, .int .i64 0, .int .i64 due]] w (LedEnd2 (heldF2 l0 (sku, loc) q) (heldH l1 (sku, loc) q due) l2 ops 0 w) := by
  have hu := Tryz.underlying55
  have huo := Tryz.underlying162
  have hus := Tryz.underlying165
  have hum := Tryz.underlying176
  obtain ⟨W3, hW3⟩ : ∃ W3, ((w.alloc (.cells #[.slice A0 l0.length c0, .slice A1 l1.length c1, .slice A2 l2.length c2, .int .i64 ops] 55)).alloc (.cells #[.int .i64 2, .string sku, .string loc, .string ⟨#[]⟩, .int .i64 q, .int .i64 0, .int .i64 due] 162)).alloc (.cells #[.slice none 0 0, .slice none 0 0, .slice none 0 0, .int .i64 0] 55) = W3 := ⟨_, rfl⟩
  obtain ⟨hB3, g0, g1, g2⟩ : Below w.heap.size w W3 ∧ W3.heap[w.heap.size]? = some (.cells #[.slice A0 l0.length c0, .slice A1 l1.length c1, .slice A2 l2.length c2, .int .i64 ops] 55 (0, 0)) ∧ W3.heap[w.heap.size + 1]? = some (.cells #[.int .i64 2, .string sku, .string loc, .string ⟨#[]⟩, .int .i64 q, .int .i64 0, .int .i64 due] 162 (0, 0)) ∧ W3.heap[w.heap.size + 2]? = some (.cells #[.slice none 0 0, .slice none 0 0, .slice none 0 0, .int .i64 0] 55 (0, 0)) := by rw [← hW3]; exact three_boxes
  have hB := hB3.alloc hB3.size (.cells #[.string sku, .string loc, .int .i64 0, .int .i64 0] 165)
  have h0 := blk_alloc g0 (.cells #[.string sku, .string loc, .int .i64 0, .int .i64 0] 165)
  have h1 := blk_alloc g1 (.cells #[.string sku, .string loc, .int .i64 0, .int .i64 0] 165)
  have h2 := blk_alloc g2 (.cells #[.string sku, .string loc, .int .i64 0, .int .i64 0] 165)
  have h3 := blk_new W3 (.cells #[.string sku, .string loc, .int .i64 0, .int .i64 0] 165)
  have hx1 : W3.cell? ⟨w.heap.size + 1, 1, none⟩ = some (.string sku) := (blk_cell g1 1).trans rfl
  have hx2 : W3.cell? ⟨w.heap.size + 1, 2, none⟩ = some (.string loc) := (blk_cell g1 2).trans rfl
  have hheld := fun V (hV : Below w.heap.size w V) => held_calls l0 l1 l2 A0 c0 A1 c1 A2 c2 ops V ⟨sku, loc, 0, 0⟩ q (hL.below hV) (by omega)
  have hFree := fun V (hV : Below w.heap.size w V) => rFree_calls l0 l1 l2 A0 c0 A1 c1 A2 c2 ops V sku loc (hL.below hV) (by omega) hg
  unfold stV at hheld
  dsimp only at hheld
  obtain ⟨R, hR⟩ : ∃ R, heldF2 l0 (sku, loc) q = R := ⟨_, rfl⟩
  obtain ⟨M, hM⟩ : ∃ M, heldH l1 (sku, loc) q due = M := ⟨_, rfl⟩
  have hMe : M = l1 ++ [⟨(l1.length : Int) + 1, sku, loc, q, 0, due⟩] := hM.symm
  have HM := Lib.hid hMe
  obtain ⟨t, ht⟩ : ∃ t, (sumOf [(findF l0 (sku, loc)).f2 - (findF l0 (sku, loc)).f3]).1 = t := ⟨_, rfl⟩
  rw [hR] at hheld ⊢
  rw [hM]
  rw [ht] at hFree hfree
  have htq : decide (t < q) = false := decide_eq_false (by omega)
  have HF := Lib.hid hFree
  clear hR hM hMe ht hg hfree hFree
  go_enter Tryz.func132, Tryz.ntmps132
  have hp0 := (blk_cell h1 0).trans (show _ = some (.int .i64 2) from rfl)
  have hp1 := (blk_cell h1 1).trans (show _ = some (.string sku) from rfl)
  have hp2 := (blk_cell h1 2).trans (show _ = some (.string loc) from rfl)
  have hp3 := (blk_cell h1 3).trans (show _ = some (.string ⟨#[]⟩) from rfl)
  have hp4 := (blk_cell h1 4).trans (show _ = some (.int .i64 q) from rfl)
  have hp5 := (blk_cell h1 5).trans (show _ = some (.int .i64 0) from rfl)
  have hp6 := (blk_cell h1 6).trans (show _ = some (.int .i64 due) from rfl)
  go_wp2
  obtain ⟨W0, hW0⟩ : ∃ W0, W3.alloc (.cells #[.string sku, .string loc, .int .i64 0, .int .i64 0] 165) = W0 := ⟨_, rfl⟩
  rw [hW0] at h0 h1 h2 h3 hB
  rw [hW0]
  clear hp0 hp1 hp2 hp3 hp4 hp5 hp6 hW3 hx1 hx2 g0 g1 g2
  have hd0x : W0.cell? ⟨w.heap.size, 0, none⟩ = some (.slice A0 l0.length c0) := (blk_cell h0 0).trans rfl
  have hd1x : W0.cell? ⟨w.heap.size, 1, none⟩ = some (.slice A1 l1.length c1) := (blk_cell h0 1).trans rfl
  have hd2x : W0.cell? ⟨w.heap.size, 2, none⟩ = some (.slice A2 l2.length c2) := (blk_cell h0 2).trans rfl
  have hd3x : W0.cell? ⟨w.heap.size, 3, none⟩ = some (.int .i64 ops) := (blk_cell h0 3).trans rfl
  have hp1x : W0.cell? ⟨w.heap.size + 1, 1, none⟩ = some (.string sku) := (blk_cell h1 1).trans rfl
  have hp2x : W0.cell? ⟨w.heap.size + 1, 2, none⟩ = some (.string loc) := (blk_cell h1 2).trans rfl
  have hp4x : W0.cell? ⟨w.heap.size + 1, 4, none⟩ = some (.int .i64 q) := (blk_cell h1 4).trans rfl
  go_region_held3 (fun V => V.cell? ⟨w.heap.size, 0, none⟩ = some (.slice A0 l0.length c0) ∧ V.cell? ⟨w.heap.size, 1, none⟩ = some (.slice A1 l1.length c1) ∧ V.cell? ⟨w.heap.size, 2, none⟩ = some (.slice A2 l2.length c2) ∧ V.cell? ⟨w.heap.size, 3, none⟩ = some (.int .i64 ops) ∧ V.cell? ⟨w.heap.size + 1, 1, none⟩ = some (.string sku) ∧ V.cell? ⟨w.heap.size + 1, 2, none⟩ = some (.string loc) ∧ V.cell? ⟨w.heap.size + 1, 4, none⟩ = some (.int .i64 q))
    (first | assumption | exact ⟨cell_below (below_drew (Below.refl _ _)) hd0x, cell_below (below_drew (Below.refl _ _)) hd1x, cell_below (below_drew (Below.refl _ _)) hd2x, cell_below (below_drew (Below.refl _ _)) hd3x, cell_below (below_drew (Below.refl _ _)) hp1x, cell_below (below_drew (Below.refl _ _)) hp2x, cell_below (below_drew (Below.refl _ _)) hp4x⟩ | exact ⟨cell_below hbw hd0x, cell_below hbw hd1x, cell_below hbw hd2x, cell_below hbw hd3x, cell_below hbw hp1x, cell_below hbw hp2x, cell_below hbw hp4x⟩)
    (first | (go_at_call 171; refine (HF.out _ (below_w hB (below_drew (Below.refl _ _)))).mono ?_; rintro e w' ⟨rfl, hbn⟩; have hbw : Below W0.heap.size W0 w' := below_chain (below_drew (Below.refl _ _)) hbn))
  clear hd0x hd1x hd2x hd3x hp1x hp2x hp4x
  go_split_ands
  have k0 := blk_below h0 hbw
  have k1 := blk_below h1 hbw
  have k2 := blk_below h2 hbw
  have k3 := blk_below h3 hbw
  have hB1 := below_w hB hbw
  have hcall := hheld w' hB1
  clear hheld h0 h1 h2 h3 hW0
  have hd0 : w'.cell? ⟨w.heap.size, 0, none⟩ = some (.slice A0 l0.length c0) := (blk_cell k0 0).trans rfl
  have hd1 : w'.cell? ⟨w.heap.size, 1, none⟩ = some (.slice A1 l1.length c1) := (blk_cell k0 1).trans rfl
  have hd2 : w'.cell? ⟨w.heap.size, 2, none⟩ = some (.slice A2 l2.length c2) := (blk_cell k0 2).trans rfl
  have hd3 : w'.cell? ⟨w.heap.size, 3, none⟩ = some (.int .i64 ops) := (blk_cell k0 3).trans rfl
  have hp0 : w'.cell? ⟨w.heap.size + 1, 0, none⟩ = some (.int .i64 2) := (blk_cell k1 0).trans rfl
  have hp1 : w'.cell? ⟨w.heap.size + 1, 1, none⟩ = some (.string sku) := (blk_cell k1 1).trans rfl
  have hp2 : w'.cell? ⟨w.heap.size + 1, 2, none⟩ = some (.string loc) := (blk_cell k1 2).trans rfl
  have hp3 : w'.cell? ⟨w.heap.size + 1, 3, none⟩ = some (.string ⟨#[]⟩) := (blk_cell k1 3).trans rfl
  have hp4 : w'.cell? ⟨w.heap.size + 1, 4, none⟩ = some (.int .i64 q) := (blk_cell k1 4).trans rfl
  have hp5 : w'.cell? ⟨w.heap.size + 1, 5, none⟩ = some (.int .i64 0) := (blk_cell k1 5).trans rfl
  have hp6 : w'.cell? ⟨w.heap.size + 1, 6, none⟩ = some (.int .i64 due) := (blk_cell k1 6).trans rfl
  have ha0 : w'.cell? ⟨W3.heap.size, 0, none⟩ = some (.string sku) := (blk_cell k3 0).trans rfl
  have ha1 : w'.cell? ⟨W3.heap.size, 1, none⟩ = some (.string loc) := (blk_cell k3 1).trans rfl
  have ha2 : w'.cell? ⟨W3.heap.size, 2, none⟩ = some (.int .i64 0) := (blk_cell k3 2).trans rfl
  have ha3 : w'.cell? ⟨W3.heap.size, 3, none⟩ = some (.int .i64 0) := (blk_cell k3 3).trans rfl
  go_wp2_with fail
  refine hcall.mono ?_
  clear hcall hd0 hd1 hd2 hd3 hp0 hp1 hp2 hp3 hp4 hp5 hp6 ha0 ha1 ha2 ha3
  rintro e W3' ⟨A, c, A1', c1', A2', c2', rfl, hL3, hb3⟩
  have q0 := blk_below k0 hb3
  have q1 := blk_below k1 hb3
  have q2 := blk_below k2 hb3
  have hB3 := below_w hB1 hb3

  have hd0 : W3'.cell? ⟨w.heap.size, 0, none⟩ = some (.slice A0 l0.length c0) := (blk_cell q0 0).trans rfl
  have hz0 := blk_frozen q0 0
  have hd1 : W3'.cell? ⟨w.heap.size, 1, none⟩ = some (.slice A1 l1.length c1) := (blk_cell q0 1).trans rfl
  have hz1 := blk_frozen q0 1
  have hd2 : W3'.cell? ⟨w.heap.size, 2, none⟩ = some (.slice A2 l2.length c2) := (blk_cell q0 2).trans rfl
  have hz2 := blk_frozen q0 2
  have hd3 : W3'.cell? ⟨w.heap.size, 3, none⟩ = some (.int .i64 ops) := (blk_cell q0 3).trans rfl
  have hz3 := blk_frozen q0 3
  obtain ⟨V3, hV3⟩ : ∃ V3, put4 W3' w.heap.size (.slice A R.length c) (.slice A1' l1.length c1') (.slice A2' l2.length c2') (.int .i64 ops) = V3 := ⟨_, rfl⟩
  have hne : ∀ j : Nat, 0 < j → w.heap.size + j ≠ w.heap.size := fun j hj => by omega
  have p0 : V3.heap[w.heap.size]? = some (.cells #[.slice A R.length c, .slice A1' l1.length c1', .slice A2' l2.length c2', .int .i64 ops] 55 (0, 0)) := by rw [← hV3]; exact put4_blk q0 _ _ _ _
  have p1 : V3.heap[w.heap.size + 1]? = some (.cells #[.int .i64 2, .string sku, .string loc, .string ⟨#[]⟩, .int .i64 q, .int .i64 0, .int .i64 due] 162 (0, 0)) := by rw [← hV3]; exact put4_far q1 (hne 1 (by omega)) _ _ _ _
  have p2 : V3.heap[w.heap.size + 2]? = some (.cells #[.slice none 0 0, .slice none 0 0, .slice none 0 0, .int .i64 0] 55 (0, 0)) := by rw [← hV3]; exact put4_far q2 (hne 2 (by omega)) _ _ _ _
  have hLV : LedgerAt R l1 l2 A c A1' c1' A2' c2' V3 := by rw [← hV3]; exact hL3.put4 q0 (noStr_box _ _ _ _ _ _ _ _ _ _) (fun _ h => by cases h) (fun _ h => by cases h) (fun _ h => by cases h)
  have hBV : Below w.heap.size w V3 := by rw [← hV3]; exact put4_below hB3 (Nat.le_refl _) _ _ _ _
  unfold put4 at hV3
  clear q0 q1 q2 hL3 hB3 hb3 hB1 hB k0 k1 k2 k3
  have hm0 : V3.cell? ⟨w.heap.size, 0, none⟩ = some (.slice A R.length c) := (blk_cell p0 0).trans rfl
  have hm1 : V3.cell? ⟨w.heap.size, 1, none⟩ = some (.slice A1' l1.length c1') := (blk_cell p0 1).trans rfl
  have hm2 : V3.cell? ⟨w.heap.size, 2, none⟩ = some (.slice A2' l2.length c2') := (blk_cell p0 2).trans rfl
  have hm3 : V3.cell? ⟨w.heap.size, 3, none⟩ = some (.int .i64 ops) := (blk_cell p0 3).trans rfl
  go_wp2_with (first | ((with_reducible refine gate_dst (N := 66) rfl ?_); refine Kd.R_append_rows k172 (w0 := V3) V3.heap.size rfl (.tmp 63) (.tmp 65) 52 172 (.agg #[(.int .i64 0), (.string ⟨#[]⟩), (.string ⟨#[]⟩), (.int .i64 0), (.int .i64 0), (.int .i64 0)]) 64 rfl Tryz.underlying52 info172 rfl (by decide) (by omega) (.slice none 0 0) [] l1 A1' l1.length c1' (fun k => V3.heap.size ≤ k) (fun _ => False) rfl rfl (Kd.R_nil _ _ _ _ _) hLV.r1 (fun x cs h => by obtain rfl := k172_open h; exact k172_mkM _ _ _ x) (fun _ h => h.elim) (fun k hk => hk) (Below.refl _ _) (Nat.le_refl _) (by simp only [List.length_nil]; omega) ?_; intro v1 w1 hR1 hlow1 hg1 _; rw [List.nil_append] at hR1; obtain ⟨Av, cv, rfl⟩ := Kd.R_slice hR1; have y0 := blk_below p0 hlow1; have y1 := blk_below p1 hlow1; have hn0 : w1.cell? ⟨w.heap.size, 0, none⟩ = some (.slice A R.length c) := (blk_cell y0 0).trans rfl; have hg0' := blk_frozen y0 0; have hn1 : w1.cell? ⟨w.heap.size, 1, none⟩ = some (.slice A1' l1.length c1') := (blk_cell y0 1).trans rfl; have hg1' := blk_frozen y0 1; have hn2 : w1.cell? ⟨w.heap.size, 2, none⟩ = some (.slice A2' l2.length c2') := (blk_cell y0 2).trans rfl; have hg2' := blk_frozen y0 2; have hn3 : w1.cell? ⟨w.heap.size, 3, none⟩ = some (.int .i64 ops) := (blk_cell y0 3).trans rfl; have hg3' := blk_frozen y0 3; have ht0 : w1.cell? ⟨w.heap.size + 1, 0, none⟩ = some (.int .i64 2) := (blk_cell y1 0).trans rfl; have ht1 : w1.cell? ⟨w.heap.size + 1, 1, none⟩ = some (.string sku) := (blk_cell y1 1).trans rfl; have ht2 : w1.cell? ⟨w.heap.size + 1, 2, none⟩ = some (.string loc) := (blk_cell y1 2).trans rfl; have ht3 : w1.cell? ⟨w.heap.size + 1, 3, none⟩ = some (.string ⟨#[]⟩) := (blk_cell y1 3).trans rfl; have ht4 : w1.cell? ⟨w.heap.size + 1, 4, none⟩ = some (.int .i64 q) := (blk_cell y1 4).trans rfl; have ht5 : w1.cell? ⟨w.heap.size + 1, 5, none⟩ = some (.int .i64 0) := (blk_cell y1 5).trans rfl; have ht6 : w1.cell? ⟨w.heap.size + 1, 6, none⟩ = some (.int .i64 due) := (blk_cell y1 6).trans rfl; obtain ⟨v2, w2, hrun, hR2, hlow2⟩ := app_ho hR1 hlow1 (Below.refl _ _) (by omega) ⟨(l1.length : Int) + 1, sku, loc, q, 0, due⟩; rw [← HM.out] at hR2; obtain ⟨Au, cu, rfl⟩ := Kd.R_slice hR2; dsimp only at hrun; have z0 := blk_below p0 hlow2; have z2 := blk_below p2 hlow2; have ho0 : w2.cell? ⟨w.heap.size, 0, none⟩ = some (.slice A R.length c) := (blk_cell z0 0).trans rfl; have hh0 := blk_frozen z0 0; have ho1 : w2.cell? ⟨w.heap.size, 1, none⟩ = some (.slice A1' l1.length c1') := (blk_cell z0 1).trans rfl; have hh1 := blk_frozen z0 1; have ho2 : w2.cell? ⟨w.heap.size, 2, none⟩ = some (.slice A2' l2.length c2') := (blk_cell z0 2).trans rfl; have hh2 := blk_frozen z0 2; have ho3 : w2.cell? ⟨w.heap.size, 3, none⟩ = some (.int .i64 ops) := (blk_cell z0 3).trans rfl; have hh3 := blk_frozen z0 3; have hj0 : w2.cell? ⟨w.heap.size + 1 + 1, 0, none⟩ = some (.slice none 0 0) := (blk_cell z2 0).trans rfl; have hk0 := blk_frozen z2 0; have hj1 : w2.cell? ⟨w.heap.size + 1 + 1, 1, none⟩ = some (.slice none 0 0) := (blk_cell z2 1).trans rfl; have hk1 := blk_frozen z2 1; have hj2 : w2.cell? ⟨w.heap.size + 1 + 1, 2, none⟩ = some (.slice none 0 0) := (blk_cell z2 2).trans rfl; have hk2 := blk_frozen z2 2; have hj3 : w2.cell? ⟨w.heap.size + 1 + 1, 3, none⟩ = some (.int .i64 0) := (blk_cell z2 3).trans rfl; have hk3 := blk_frozen z2 3) | (at_builtin; refine wpList_append_run rfl _ _ _ rfl hrun ?_))
  have zf := blk_far (p := ⟨w.heap.size, 1, none⟩) z2 (by show w.heap.size + 2 ≠ w.heap.size; omega) (.slice Au M.length cu)
  refine bodyPost_ret (results_ct rfl _ _ (w.heap.size + 1 + 1) 55 #[.slice A R.length c, .slice Au M.length cu, .slice A2' l2.length c2', .int .i64 ops] (0, 0) _ rfl (put4_blk zf _ _ _ _) hu rfl (by kernel_rfl)) rfl ?_
  have hL2 : LedgerAt R M l2 A c Au cu A2' c2' w2 := ⟨Kd.C_below hLV.r0 hlow2, (Kd.R_reads' hR2).2.2, Kd.C_below hLV.r2 hlow2, hLV.h0, (Kd.R_reads' hR2).2.1, hLV.h2⟩
  exact ⟨A, c, Au, cu, A2', c2', rfl, (hL2.set z0 (noStr_box _ _ _ _ _ _ _ _ _ _) 1 (.slice Au M.length cu)).put4 zf (noStr_box _ _ _ _ _ _ _ _ _ _) (fun _ h => by cases h) (fun _ h => by cases h) (fun _ h => by cases h), put4_below (below_set (below_w hBV hlow2) (Nat.le_refl _)) (by omega) _ _ _ _⟩
end
end Go.Proofs.YtofkhcgkahkagaaGreat

