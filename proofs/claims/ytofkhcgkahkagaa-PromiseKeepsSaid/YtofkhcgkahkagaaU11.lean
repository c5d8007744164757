/- Texts behind the row of PromiseKeeps, part 11. -/
import Derived.Test.YtofkhcgkahkagaaU10
/- The reference's does, for what is received and what is held. -/
namespace Go.Proofs.Ytofkhcgkahkagaa
open Go.RowKit Go.Proofs.YtofkhcgkahkagaaW.PrintWords Go.Proofs.YtofkhcgkahkagaaW.PrintLast Go.Proofs.YtofkhcgkahkagaaW.PrintMore Go.Proofs.Ytofkhcgkahkagaa.PPromiseLines
set_option linter.unusedVariables false
set_option linter.unusedSimpArgs false

/-- How a ledger and a number are returned. -/
def LedEnd2 (l0 : List S100) (l1 : List S107) (l2 : List S111) (ops er : Int) (w : World) (e : Ending) (w' : World) : Prop :=
  ∃ A0 c0 A1 c1 A2 c2, e = .returned (.tuple #[.agg #[.slice A0 l0.length c0, .slice A1 l1.length c1, .slice A2 l2.length c2, .int .i64 ops], .int .i64 er]) ∧ LedgerAt l0 l1 l2 A0 c0 A1 c1 A2 c2 w' ∧ Below w.heap.size w w'
theorem noStr_box (a b d : Option Addr) (i j k i2 j2 k2 : Nat) (o : Int) : NoStr #[.slice a i i2, .slice b j j2, .slice d k k2, .int .i64 o] := noStr_led _ _ _ _ (fun _ h => by cases h) (fun _ h => by cases h) (fun _ h => by cases h) (fun _ h => by cases h)
theorem sum_pair {a b : Int} (h : -9223372036854775808 ≤ a + b ∧ a + b ≤ 9223372036854775807) : sumOf [a + b] = (a + b, 0) := by
  unfold sumOf
  rw [show ([a + b] : List Int).sum = a + b by simp, if_pos h]

section
variable (l0 : List S100) (l1 : List S107) (l2 : List S111) (A0 : Option Addr) (c0 : Nat) (A1 : Option Addr) (c1 : Nat) (A2 : Option Addr) (c2 : Nat) (ops : Int) (w : World)
set_option maxRecDepth 100000 in
set_option maxHeartbeats 2000000 in
theorem does_receive (sku loc : ByteArray) (q : Int) (hq : i64B q) (hL : LedgerAt l0 l1 l2 A0 c0 A1 c1 A2 c2 w) (hl : l0.length ≤ 4000) (hl1 : l1.length ≤ 4000) (hl2 : l2.length ≤ 4000) (hg : i64B (findF l0 (sku, loc)).f2) (hsum : -9223372036854775808 ≤ (findF l0 (sku, loc)).f2 + q ∧ (findF l0 (sku, loc)).f2 + q ≤ 9223372036854775807) :
    Calls Try.prog 70 #[.agg #[.slice A0 l0.length c0, .slice A1 l1.length c1, .slice A2 l2.length c2, .int .i64 ops], .agg #[.int .i64 1, .string sku, .string loc, .string ⟨#[]⟩, .int .i64 q, .int .i64 0, .int .i64 0]] w (LedEnd2 (movedS l0 (sku, loc) q) l1 (movedM l2 (sku, loc) q 1 0) ops 0 w) := by
  have hu := Try.underlying41
  have huo := Try.underlying88
  have hus := Try.underlying100
  have hum := Try.underlying111
  obtain ⟨W3, hW3⟩ : ∃ W3, ((w.alloc (.cells #[.slice A0 l0.length c0, .slice A1 l1.length c1, .slice A2 l2.length c2, .int .i64 ops] 41)).alloc (.cells #[.int .i64 1, .string sku, .string loc, .string ⟨#[]⟩, .int .i64 q, .int .i64 0, .int .i64 0] 88)).alloc (.cells #[.slice none 0 0, .slice none 0 0, .slice none 0 0, .int .i64 0] 41) = W3 := ⟨_, rfl⟩
  obtain ⟨hB3, g0, g1, g2⟩ : Below w.heap.size w W3 ∧ W3.heap[w.heap.size]? = some (.cells #[.slice A0 l0.length c0, .slice A1 l1.length c1, .slice A2 l2.length c2, .int .i64 ops] 41 (0, 0)) ∧ W3.heap[w.heap.size + 1]? = some (.cells #[.int .i64 1, .string sku, .string loc, .string ⟨#[]⟩, .int .i64 q, .int .i64 0, .int .i64 0] 88 (0, 0)) ∧ W3.heap[w.heap.size + 2]? = some (.cells #[.slice none 0 0, .slice none 0 0, .slice none 0 0, .int .i64 0] 41 (0, 0)) := by rw [← hW3]; exact three_boxes
  have hB := hB3.alloc hB3.size (.cells #[.string sku, .string loc, .int .i64 0, .int .i64 0] 100)
  have h0 := blk_alloc g0 (.cells #[.string sku, .string loc, .int .i64 0, .int .i64 0] 100)
  have h1 := blk_alloc g1 (.cells #[.string sku, .string loc, .int .i64 0, .int .i64 0] 100)
  have h2 := blk_alloc g2 (.cells #[.string sku, .string loc, .int .i64 0, .int .i64 0] 100)
  have h3 := blk_new W3 (.cells #[.string sku, .string loc, .int .i64 0, .int .i64 0] 100)
  have hx1 : W3.cell? ⟨w.heap.size + 1, 1, none⟩ = some (.string sku) := (blk_cell g1 1).trans rfl
  have hx2 : W3.cell? ⟨w.heap.size + 1, 2, none⟩ = some (.string loc) := (blk_cell g1 2).trans rfl
  have hmore := more_calls l0 l1 l2 A0 c0 A1 c1 A2 c2 ops (W3.alloc (.cells #[.string sku, .string loc, .int .i64 0, .int .i64 0] 100)) sku loc q hq (hL.below hB) (by omega) hg
  rw [sum_pair hsum] at hmore
  dsimp only at hmore
  have hmoved := fun V (hV : Below w.heap.size w V) => moved_calls l0 l1 l2 A0 c0 A1 c1 A2 c2 ops V ⟨sku, loc, 0, 0⟩ q ⟨0, ⟨#[]⟩, ⟨#[]⟩, 0, 1, 0⟩ (hL.below hV) (by omega) (by omega)
  unfold stV moV at hmoved
  dsimp only at hmoved
  obtain ⟨R, hR⟩ : ∃ R, movedS l0 (sku, loc) q = R := ⟨_, rfl⟩
  obtain ⟨M, hM⟩ : ∃ M, movedM l2 (sku, loc) q 1 0 = M := ⟨_, rfl⟩
  obtain ⟨t, ht⟩ : ∃ t, (findF l0 (sku, loc)).f2 + q = t := ⟨_, rfl⟩
  rw [hR, hM] at hmoved ⊢
  rw [ht] at hmore
  clear hsum hR hM ht hg
  have hd0 : (W3.alloc (.cells #[.string sku, .string loc, .int .i64 0, .int .i64 0] 100)).cell? ⟨w.heap.size, 0, none⟩ = some (.slice A0 l0.length c0) := (blk_cell h0 0).trans rfl
  have hd1 : (W3.alloc (.cells #[.string sku, .string loc, .int .i64 0, .int .i64 0] 100)).cell? ⟨w.heap.size, 1, none⟩ = some (.slice A1 l1.length c1) := (blk_cell h0 1).trans rfl
  have hd2 : (W3.alloc (.cells #[.string sku, .string loc, .int .i64 0, .int .i64 0] 100)).cell? ⟨w.heap.size, 2, none⟩ = some (.slice A2 l2.length c2) := (blk_cell h0 2).trans rfl
  have hd3 : (W3.alloc (.cells #[.string sku, .string loc, .int .i64 0, .int .i64 0] 100)).cell? ⟨w.heap.size, 3, none⟩ = some (.int .i64 ops) := (blk_cell h0 3).trans rfl
  have hp0 : (W3.alloc (.cells #[.string sku, .string loc, .int .i64 0, .int .i64 0] 100)).cell? ⟨w.heap.size + 1, 0, none⟩ = some (.int .i64 1) := (blk_cell h1 0).trans rfl
  have hp1 : (W3.alloc (.cells #[.string sku, .string loc, .int .i64 0, .int .i64 0] 100)).cell? ⟨w.heap.size + 1, 1, none⟩ = some (.string sku) := (blk_cell h1 1).trans rfl
  have hp2 : (W3.alloc (.cells #[.string sku, .string loc, .int .i64 0, .int .i64 0] 100)).cell? ⟨w.heap.size + 1, 2, none⟩ = some (.string loc) := (blk_cell h1 2).trans rfl
  have hp3 : (W3.alloc (.cells #[.string sku, .string loc, .int .i64 0, .int .i64 0] 100)).cell? ⟨w.heap.size + 1, 3, none⟩ = some (.string ⟨#[]⟩) := (blk_cell h1 3).trans rfl
  have hp4 : (W3.alloc (.cells #[.string sku, .string loc, .int .i64 0, .int .i64 0] 100)).cell? ⟨w.heap.size + 1, 4, none⟩ = some (.int .i64 q) := (blk_cell h1 4).trans rfl
  have hp5 : (W3.alloc (.cells #[.string sku, .string loc, .int .i64 0, .int .i64 0] 100)).cell? ⟨w.heap.size + 1, 5, none⟩ = some (.int .i64 0) := (blk_cell h1 5).trans rfl
  have hp6 : (W3.alloc (.cells #[.string sku, .string loc, .int .i64 0, .int .i64 0] 100)).cell? ⟨w.heap.size + 1, 6, none⟩ = some (.int .i64 0) := (blk_cell h1 6).trans rfl
  have ha0 : (W3.alloc (.cells #[.string sku, .string loc, .int .i64 0, .int .i64 0] 100)).cell? ⟨W3.heap.size, 0, none⟩ = some (.string sku) := (blk_cell h3 0).trans rfl
  have ha1 : (W3.alloc (.cells #[.string sku, .string loc, .int .i64 0, .int .i64 0] 100)).cell? ⟨W3.heap.size, 1, none⟩ = some (.string loc) := (blk_cell h3 1).trans rfl
  have ha2 : (W3.alloc (.cells #[.string sku, .string loc, .int .i64 0, .int .i64 0] 100)).cell? ⟨W3.heap.size, 2, none⟩ = some (.int .i64 0) := (blk_cell h3 2).trans rfl
  have ha3 : (W3.alloc (.cells #[.string sku, .string loc, .int .i64 0, .int .i64 0] 100)).cell? ⟨W3.heap.size, 3, none⟩ = some (.int .i64 0) := (blk_cell h3 3).trans rfl
  go_enter Try.func70, Try.ntmps70
  go_wp2_with fail
  refine hmore.mono ?_
  clear hmore hW3 hx1 hx2 g0 g1 g2 hd0 hd1 hd2 hd3 hp0 hp1 hp2 hp3 hp4 hp5 hp6 ha0 ha1 ha2 ha3
  rintro e W1 ⟨rfl, hb1⟩
  have k0 := blk_below h0 hb1
  have k1 := blk_below h1 hb1
  have k2 := blk_below h2 hb1
  have k3 := blk_below h3 hb1
  have hB1 := hB.trans (hb1.mono hB.size)
  have hcall := hmoved W1 hB1
  clear hmoved h0 h1 h2 h3
  have hd0 : W1.cell? ⟨w.heap.size, 0, none⟩ = some (.slice A0 l0.length c0) := (blk_cell k0 0).trans rfl
  have hd1 : W1.cell? ⟨w.heap.size, 1, none⟩ = some (.slice A1 l1.length c1) := (blk_cell k0 1).trans rfl
  have hd2 : W1.cell? ⟨w.heap.size, 2, none⟩ = some (.slice A2 l2.length c2) := (blk_cell k0 2).trans rfl
  have hd3 : W1.cell? ⟨w.heap.size, 3, none⟩ = some (.int .i64 ops) := (blk_cell k0 3).trans rfl
  have hp0 : W1.cell? ⟨w.heap.size + 1, 0, none⟩ = some (.int .i64 1) := (blk_cell k1 0).trans rfl
  have hp1 : W1.cell? ⟨w.heap.size + 1, 1, none⟩ = some (.string sku) := (blk_cell k1 1).trans rfl
  have hp2 : W1.cell? ⟨w.heap.size + 1, 2, none⟩ = some (.string loc) := (blk_cell k1 2).trans rfl
  have hp3 : W1.cell? ⟨w.heap.size + 1, 3, none⟩ = some (.string ⟨#[]⟩) := (blk_cell k1 3).trans rfl
  have hp4 : W1.cell? ⟨w.heap.size + 1, 4, none⟩ = some (.int .i64 q) := (blk_cell k1 4).trans rfl
  have hp5 : W1.cell? ⟨w.heap.size + 1, 5, none⟩ = some (.int .i64 0) := (blk_cell k1 5).trans rfl
  have hp6 : W1.cell? ⟨w.heap.size + 1, 6, none⟩ = some (.int .i64 0) := (blk_cell k1 6).trans rfl
  have ha0 : W1.cell? ⟨W3.heap.size, 0, none⟩ = some (.string sku) := (blk_cell k3 0).trans rfl
  have ha1 : W1.cell? ⟨W3.heap.size, 1, none⟩ = some (.string loc) := (blk_cell k3 1).trans rfl
  have ha2 : W1.cell? ⟨W3.heap.size, 2, none⟩ = some (.int .i64 0) := (blk_cell k3 2).trans rfl
  have ha3 : W1.cell? ⟨W3.heap.size, 3, none⟩ = some (.int .i64 0) := (blk_cell k3 3).trans rfl
  go_wp2_with fail
  refine hcall.mono ?_
  clear hcall hd0 hd1 hd2 hd3 hp0 hp1 hp2 hp3 hp4 hp5 hp6 ha0 ha1 ha2 ha3
  rintro e W2 ⟨A, c, A1', c1', A2', c2', rfl, hL2, hb2⟩
  have q2 := blk_below k2 hb2
  have hB2 := below_w hB1 hb2
  have hr0 : W2.cell? ⟨w.heap.size + 1 + 1, 0, none⟩ = some (.slice none 0 0) := (blk_cell q2 0).trans rfl
  have hf0 := blk_frozen q2 0
  have hr1 : W2.cell? ⟨w.heap.size + 1 + 1, 1, none⟩ = some (.slice none 0 0) := (blk_cell q2 1).trans rfl
  have hf1 := blk_frozen q2 1
  have hr2 : W2.cell? ⟨w.heap.size + 1 + 1, 2, none⟩ = some (.slice none 0 0) := (blk_cell q2 2).trans rfl
  have hf2 := blk_frozen q2 2
  have hr3 : W2.cell? ⟨w.heap.size + 1 + 1, 3, none⟩ = some (.int .i64 0) := (blk_cell q2 3).trans rfl
  have hf3 := blk_frozen q2 3
  go_wp2
  refine bodyPost_ret (results_ct rfl _ _ (w.heap.size + 1 + 1) 41 #[.slice A R.length c, .slice A1' l1.length c1', .slice A2' M.length c2', .int .i64 ops] (0, 0) _ rfl (put4_blk q2 _ _ _ _) hu rfl (by kernel_rfl)) rfl ?_
  exact ⟨A, c, A1', c1', A2', c2', rfl, hL2.put4 q2 (noStr_box _ _ _ _ _ _ _ _ _ _) (fun _ h => by cases h) (fun _ h => by cases h) (fun _ h => by cases h), put4_below hB2 (by omega) _ _ _ _⟩
end
end Go.Proofs.Ytofkhcgkahkagaa
/- The reference's does, for what is held. -/
namespace Go.Proofs.Ytofkhcgkahkagaa
open Go.RowKit Go.Proofs.YtofkhcgkahkagaaW.PrintWords Go.Proofs.YtofkhcgkahkagaaW.PrintLast Go.Proofs.YtofkhcgkahkagaaW.PrintMore Go.Proofs.Ytofkhcgkahkagaa.PPromiseLines
set_option linter.unusedVariables false
set_option linter.unusedSimpArgs false

theorem app_ho {W0 V V' : World} {v : Value} {acc : List S107} (hR : Kd.R k107 107 V W0.heap.size (fun k => W0.heap.size ≤ k) v acc) (hlow : Below W0.heap.size W0 V) (hb : Below V.heap.size V V') (hl : acc.length ≤ 100000) (m : S107) :
    ∃ v1 w1, (Builtin.append_ #[38, 38] 38 #[v, .slice (some ⟨V'.heap.size, 0, none⟩) 1 1]).run Try.prog (V'.alloc (.cells #[.int .i64 m.f0, .string m.f1, .string m.f2, .int .i64 m.f3, .int .i64 m.f4, .int .i64 m.f5] 107)) = .ok v1 w1 ∧ Kd.R k107 107 w1 W0.heap.size (fun k => W0.heap.size ≤ k) v1 (acc ++ [m]) ∧ Below W0.heap.size W0 w1 := by
  have hz := hb.size
  have hz1 := hlow.size
  obtain ⟨A1, c1, w1, hrun, hR1, hg1⟩ := append_made k107 (P := Try.prog) W0.heap.size 38 38 107 _ 64 Try.underlying38 info107 rfl (by decide) (by decide) V' v _ m [.int .i64 m.f0, .string m.f1, .string m.f2, .int .i64 m.f3, .int .i64 m.f4, .int .i64 m.f5] (fun k => W0.heap.size ≤ k) (fun _ => False)
    (k107_mkM _ _ _ m) (fun k hk => hk.elim) (fun k hk => by omega) (Kd.R_below hR hb) (by omega) (by omega)
  exact ⟨_, w1, hrun, hR1, (hlow.trans (hb.mono hlow.size)).grown hg1 (by omega) (fun j hj => (Kd.R_below hR hb).1 j hj)⟩
def heldH (l1 : List S107) (p : Plc) (q due : Int) : List S107 := l1 ++ [⟨(l1.length : Int) + 1, p.1, p.2, q, 0, due⟩]

section
variable (l0 : List S100) (l1 : List S107) (l2 : List S111) (A0 : Option Addr) (c0 : Nat) (A1 : Option Addr) (c1 : Nat) (A2 : Option Addr) (c2 : Nat) (ops : Int) (w : World)
set_option maxRecDepth 100000 in
set_option maxHeartbeats 2000000 in
theorem does_hold (sku loc : ByteArray) (q due : Int) (hq : i64B q) (hL : LedgerAt l0 l1 l2 A0 c0 A1 c1 A2 c2 w) (hl : l0.length ≤ 4000) (hl1 : l1.length ≤ 4000) (hl2 : l2.length ≤ 4000) (hg : i64B (findF l0 (sku, loc)).f2 ∧ i64B (findF l0 (sku, loc)).f3) (hfree : q ≤ (sumOf [(findF l0 (sku, loc)).f2 - (findF l0 (sku, loc)).f3]).1) :
    Calls Try.prog 70 #[.agg #[.slice A0 l0.length c0, .slice A1 l1.length c1, .slice A2 l2.length c2, .int .i64 ops], .agg #[.int .i64 2, .string sku, .string loc, .string ⟨#[]⟩, .int .i64 q, .int .i64 0, .int .i64 due]] w (LedEnd2 (heldF2 l0 (sku, loc) q) (heldH l1 (sku, loc) q due) l2 ops 0 w) := by
  have hu := Try.underlying41
  have huo := Try.underlying88
  have hus := Try.underlying100
  have hum := Try.underlying111
  obtain ⟨W3, hW3⟩ : ∃ W3, ((w.alloc (.cells #[.slice A0 l0.length c0, .slice A1 l1.length c1, .slice A2 l2.length c2, .int .i64 ops] 41)).alloc (.cells #[.int .i64 2, .string sku, .string loc, .string ⟨#[]⟩, .int .i64 q, .int .i64 0, .int .i64 due] 88)).alloc (.cells #[.slice none 0 0, .slice none 0 0, .slice none 0 0, .int .i64 0] 41) = W3 := ⟨_, rfl⟩
  obtain ⟨hB3, g0, g1, g2⟩ : Below w.heap.size w W3 ∧ W3.heap[w.heap.size]? = some (.cells #[.slice A0 l0.length c0, .slice A1 l1.length c1, .slice A2 l2.length c2, .int .i64 ops] 41 (0, 0)) ∧ W3.heap[w.heap.size + 1]? = some (.cells #[.int .i64 2, .string sku, .string loc, .string ⟨#[]⟩, .int .i64 q, .int .i64 0, .int .i64 due] 88 (0, 0)) ∧ W3.heap[w.heap.size + 2]? = some (.cells #[.slice none 0 0, .slice none 0 0, .slice none 0 0, .int .i64 0] 41 (0, 0)) := by rw [← hW3]; exact three_boxes
  have hB := hB3.alloc hB3.size (.cells #[.string sku, .string loc, .int .i64 0, .int .i64 0] 100)
  have h0 := blk_alloc g0 (.cells #[.string sku, .string loc, .int .i64 0, .int .i64 0] 100)
  have h1 := blk_alloc g1 (.cells #[.string sku, .string loc, .int .i64 0, .int .i64 0] 100)
  have h2 := blk_alloc g2 (.cells #[.string sku, .string loc, .int .i64 0, .int .i64 0] 100)
  have h3 := blk_new W3 (.cells #[.string sku, .string loc, .int .i64 0, .int .i64 0] 100)
  have hx1 : W3.cell? ⟨w.heap.size + 1, 1, none⟩ = some (.string sku) := (blk_cell g1 1).trans rfl
  have hx2 : W3.cell? ⟨w.heap.size + 1, 2, none⟩ = some (.string loc) := (blk_cell g1 2).trans rfl
  have hheld := fun V (hV : Below w.heap.size w V) => held_calls l0 l1 l2 A0 c0 A1 c1 A2 c2 ops V ⟨sku, loc, 0, 0⟩ q (hL.below hV) (by omega)
  have hFree := fun V (hV : Below w.heap.size w V) => rFree_calls l0 l1 l2 A0 c0 A1 c1 A2 c2 ops V sku loc (hL.below hV) (by omega) hg
  unfold stV at hheld
  dsimp only at hheld
  obtain ⟨R, hR⟩ : ∃ R, heldF2 l0 (sku, loc) q = R := ⟨_, rfl⟩
  obtain ⟨M, hM⟩ : ∃ M, heldH l1 (sku, loc) q due = M := ⟨_, rfl⟩
  have hMe : M = l1 ++ [⟨(l1.length : Int) + 1, sku, loc, q, 0, due⟩] := hM.symm
  have HM := Lib.hid hMe
  obtain ⟨t, ht⟩ : ∃ t, (sumOf [(findF l0 (sku, loc)).f2 - (findF l0 (sku, loc)).f3]).1 = t := ⟨_, rfl⟩
  rw [hR] at hheld ⊢
  rw [hM]
  rw [ht] at hFree hfree
  have htq : decide (t < q) = false := decide_eq_false (by omega)
  have HF := Lib.hid hFree
  clear hR hM hMe ht hg hfree hFree
  go_enter Try.func70, Try.ntmps70
  have hp0 := (blk_cell h1 0).trans (show _ = some (.int .i64 2) from rfl)
  have hp1 := (blk_cell h1 1).trans (show _ = some (.string sku) from rfl)
  have hp2 := (blk_cell h1 2).trans (show _ = some (.string loc) from rfl)
  have hp3 := (blk_cell h1 3).trans (show _ = some (.string ⟨#[]⟩) from rfl)
  have hp4 := (blk_cell h1 4).trans (show _ = some (.int .i64 q) from rfl)
  have hp5 := (blk_cell h1 5).trans (show _ = some (.int .i64 0) from rfl)
  have hp6 := (blk_cell h1 6).trans (show _ = some (.int .i64 due) from rfl)
  go_wp2
  obtain ⟨W0, hW0⟩ : ∃ W0, W3.alloc (.cells #[.string sku, .string loc, .int .i64 0, .int .i64 0] 100) = W0 := ⟨_, rfl⟩
  rw [hW0] at h0 h1 h2 h3 hB
  rw [hW0]
  clear hp0 hp1 hp2 hp3 hp4 hp5 hp6 hW3 hx1 hx2 g0 g1 g2
  have hd0x : W0.cell? ⟨w.heap.size, 0, none⟩ = some (.slice A0 l0.length c0) := (blk_cell h0 0).trans rfl
  have hd1x : W0.cell? ⟨w.heap.size, 1, none⟩ = some (.slice A1 l1.length c1) := (blk_cell h0 1).trans rfl
  have hd2x : W0.cell? ⟨w.heap.size, 2, none⟩ = some (.slice A2 l2.length c2) := (blk_cell h0 2).trans rfl
  have hd3x : W0.cell? ⟨w.heap.size, 3, none⟩ = some (.int .i64 ops) := (blk_cell h0 3).trans rfl
  have hp1x : W0.cell? ⟨w.heap.size + 1, 1, none⟩ = some (.string sku) := (blk_cell h1 1).trans rfl
  have hp2x : W0.cell? ⟨w.heap.size + 1, 2, none⟩ = some (.string loc) := (blk_cell h1 2).trans rfl
  have hp4x : W0.cell? ⟨w.heap.size + 1, 4, none⟩ = some (.int .i64 q) := (blk_cell h1 4).trans rfl
  go_region_held3 (fun V => V.cell? ⟨w.heap.size, 0, none⟩ = some (.slice A0 l0.length c0) ∧ V.cell? ⟨w.heap.size, 1, none⟩ = some (.slice A1 l1.length c1) ∧ V.cell? ⟨w.heap.size, 2, none⟩ = some (.slice A2 l2.length c2) ∧ V.cell? ⟨w.heap.size, 3, none⟩ = some (.int .i64 ops) ∧ V.cell? ⟨w.heap.size + 1, 1, none⟩ = some (.string sku) ∧ V.cell? ⟨w.heap.size + 1, 2, none⟩ = some (.string loc) ∧ V.cell? ⟨w.heap.size + 1, 4, none⟩ = some (.int .i64 q))
    (first | assumption | exact ⟨cell_below (below_drew (Below.refl _ _)) hd0x, cell_below (below_drew (Below.refl _ _)) hd1x, cell_below (below_drew (Below.refl _ _)) hd2x, cell_below (below_drew (Below.refl _ _)) hd3x, cell_below (below_drew (Below.refl _ _)) hp1x, cell_below (below_drew (Below.refl _ _)) hp2x, cell_below (below_drew (Below.refl _ _)) hp4x⟩ | exact ⟨cell_below hbw hd0x, cell_below hbw hd1x, cell_below hbw hd2x, cell_below hbw hd3x, cell_below hbw hp1x, cell_below hbw hp2x, cell_below hbw hp4x⟩)
    (first | (go_at_call 88; refine (HF.out _ (below_w hB (below_drew (Below.refl _ _)))).mono ?_; rintro e w' ⟨rfl, hbn⟩; have hbw : Below W0.heap.size W0 w' := below_chain (below_drew (Below.refl _ _)) hbn))
  clear hd0x hd1x hd2x hd3x hp1x hp2x hp4x
  go_split_ands
  have k0 := blk_below h0 hbw
  have k1 := blk_below h1 hbw
  have k2 := blk_below h2 hbw
  have k3 := blk_below h3 hbw
  have hB1 := below_w hB hbw
  have hcall := hheld w' hB1
  clear hheld h0 h1 h2 h3 hW0
  have hd0 : w'.cell? ⟨w.heap.size, 0, none⟩ = some (.slice A0 l0.length c0) := (blk_cell k0 0).trans rfl
  have hd1 : w'.cell? ⟨w.heap.size, 1, none⟩ = some (.slice A1 l1.length c1) := (blk_cell k0 1).trans rfl
  have hd2 : w'.cell? ⟨w.heap.size, 2, none⟩ = some (.slice A2 l2.length c2) := (blk_cell k0 2).trans rfl
  have hd3 : w'.cell? ⟨w.heap.size, 3, none⟩ = some (.int .i64 ops) := (blk_cell k0 3).trans rfl
  have hp0 : w'.cell? ⟨w.heap.size + 1, 0, none⟩ = some (.int .i64 2) := (blk_cell k1 0).trans rfl
  have hp1 : w'.cell? ⟨w.heap.size + 1, 1, none⟩ = some (.string sku) := (blk_cell k1 1).trans rfl
  have hp2 : w'.cell? ⟨w.heap.size + 1, 2, none⟩ = some (.string loc) := (blk_cell k1 2).trans rfl
  have hp3 : w'.cell? ⟨w.heap.size + 1, 3, none⟩ = some (.string ⟨#[]⟩) := (blk_cell k1 3).trans rfl
  have hp4 : w'.cell? ⟨w.heap.size + 1, 4, none⟩ = some (.int .i64 q) := (blk_cell k1 4).trans rfl
  have hp5 : w'.cell? ⟨w.heap.size + 1, 5, none⟩ = some (.int .i64 0) := (blk_cell k1 5).trans rfl
  have hp6 : w'.cell? ⟨w.heap.size + 1, 6, none⟩ = some (.int .i64 due) := (blk_cell k1 6).trans rfl
  have ha0 : w'.cell? ⟨W3.heap.size, 0, none⟩ = some (.string sku) := (blk_cell k3 0).trans rfl
  have ha1 : w'.cell? ⟨W3.heap.size, 1, none⟩ = some (.string loc) := (blk_cell k3 1).trans rfl
  have ha2 : w'.cell? ⟨W3.heap.size, 2, none⟩ = some (.int .i64 0) := (blk_cell k3 2).trans rfl
  have ha3 : w'.cell? ⟨W3.heap.size, 3, none⟩ = some (.int .i64 0) := (blk_cell k3 3).trans rfl
  go_wp2_with fail
  refine hcall.mono ?_
  clear hcall hd0 hd1 hd2 hd3 hp0 hp1 hp2 hp3 hp4 hp5 hp6 ha0 ha1 ha2 ha3
  rintro e W3' ⟨A, c, A1', c1', A2', c2', rfl, hL3, hb3⟩
  have q0 := blk_below k0 hb3
  have q1 := blk_below k1 hb3
  have q2 := blk_below k2 hb3
  have hB3 := below_w hB1 hb3

  have hd0 : W3'.cell? ⟨w.heap.size, 0, none⟩ = some (.slice A0 l0.length c0) := (blk_cell q0 0).trans rfl
  have hz0 := blk_frozen q0 0
  have hd1 : W3'.cell? ⟨w.heap.size, 1, none⟩ = some (.slice A1 l1.length c1) := (blk_cell q0 1).trans rfl
  have hz1 := blk_frozen q0 1
  have hd2 : W3'.cell? ⟨w.heap.size, 2, none⟩ = some (.slice A2 l2.length c2) := (blk_cell q0 2).trans rfl
  have hz2 := blk_frozen q0 2
  have hd3 : W3'.cell? ⟨w.heap.size, 3, none⟩ = some (.int .i64 ops) := (blk_cell q0 3).trans rfl
  have hz3 := blk_frozen q0 3
  obtain ⟨V3, hV3⟩ : ∃ V3, put4 W3' w.heap.size (.slice A R.length c) (.slice A1' l1.length c1') (.slice A2' l2.length c2') (.int .i64 ops) = V3 := ⟨_, rfl⟩
  have hne : ∀ j : Nat, 0 < j → w.heap.size + j ≠ w.heap.size := fun j hj => by omega
  have p0 : V3.heap[w.heap.size]? = some (.cells #[.slice A R.length c, .slice A1' l1.length c1', .slice A2' l2.length c2', .int .i64 ops] 41 (0, 0)) := by rw [← hV3]; exact put4_blk q0 _ _ _ _
  have p1 : V3.heap[w.heap.size + 1]? = some (.cells #[.int .i64 2, .string sku, .string loc, .string ⟨#[]⟩, .int .i64 q, .int .i64 0, .int .i64 due] 88 (0, 0)) := by rw [← hV3]; exact put4_far q1 (hne 1 (by omega)) _ _ _ _
  have p2 : V3.heap[w.heap.size + 2]? = some (.cells #[.slice none 0 0, .slice none 0 0, .slice none 0 0, .int .i64 0] 41 (0, 0)) := by rw [← hV3]; exact put4_far q2 (hne 2 (by omega)) _ _ _ _
  have hLV : LedgerAt R l1 l2 A c A1' c1' A2' c2' V3 := by rw [← hV3]; exact hL3.put4 q0 (noStr_box _ _ _ _ _ _ _ _ _ _) (fun _ h => by cases h) (fun _ h => by cases h) (fun _ h => by cases h)
  have hBV : Below w.heap.size w V3 := by rw [← hV3]; exact put4_below hB3 (Nat.le_refl _) _ _ _ _
  unfold put4 at hV3
  clear q0 q1 q2 hL3 hB3 hb3 hB1 hB k0 k1 k2 k3
  have hm0 : V3.cell? ⟨w.heap.size, 0, none⟩ = some (.slice A R.length c) := (blk_cell p0 0).trans rfl
  have hm1 : V3.cell? ⟨w.heap.size, 1, none⟩ = some (.slice A1' l1.length c1') := (blk_cell p0 1).trans rfl
  have hm2 : V3.cell? ⟨w.heap.size, 2, none⟩ = some (.slice A2' l2.length c2') := (blk_cell p0 2).trans rfl
  have hm3 : V3.cell? ⟨w.heap.size, 3, none⟩ = some (.int .i64 ops) := (blk_cell p0 3).trans rfl
  go_wp2_with (first | ((with_reducible refine gate_dst (N := 66) rfl ?_); refine Kd.R_append_rows k107 (w0 := V3) V3.heap.size rfl (.tmp 63) (.tmp 65) 38 107 (.agg #[(.int .i64 0), (.string ⟨#[]⟩), (.string ⟨#[]⟩), (.int .i64 0), (.int .i64 0), (.int .i64 0)]) 64 rfl Try.underlying38 info107 rfl (by decide) (by omega) (.slice none 0 0) [] l1 A1' l1.length c1' (fun k => V3.heap.size ≤ k) (fun _ => False) rfl rfl (Kd.R_nil _ _ _ _ _) hLV.r1 (fun x cs h => by obtain rfl := k107_open h; exact k107_mkM _ _ _ x) (fun _ h => h.elim) (fun k hk => hk) (Below.refl _ _) (Nat.le_refl _) (by simp only [List.length_nil]; omega) ?_; intro v1 w1 hR1 hlow1 hg1 _; rw [List.nil_append] at hR1; obtain ⟨Av, cv, rfl⟩ := Kd.R_slice hR1; have y0 := blk_below p0 hlow1; have y1 := blk_below p1 hlow1; have hn0 : w1.cell? ⟨w.heap.size, 0, none⟩ = some (.slice A R.length c) := (blk_cell y0 0).trans rfl; have hg0' := blk_frozen y0 0; have hn1 : w1.cell? ⟨w.heap.size, 1, none⟩ = some (.slice A1' l1.length c1') := (blk_cell y0 1).trans rfl; have hg1' := blk_frozen y0 1; have hn2 : w1.cell? ⟨w.heap.size, 2, none⟩ = some (.slice A2' l2.length c2') := (blk_cell y0 2).trans rfl; have hg2' := blk_frozen y0 2; have hn3 : w1.cell? ⟨w.heap.size, 3, none⟩ = some (.int .i64 ops) := (blk_cell y0 3).trans rfl; have hg3' := blk_frozen y0 3; have ht0 : w1.cell? ⟨w.heap.size + 1, 0, none⟩ = some (.int .i64 2) := (blk_cell y1 0).trans rfl; have ht1 : w1.cell? ⟨w.heap.size + 1, 1, none⟩ = some (.string sku) := (blk_cell y1 1).trans rfl; have ht2 : w1.cell? ⟨w.heap.size + 1, 2, none⟩ = some (.string loc) := (blk_cell y1 2).trans rfl; have ht3 : w1.cell? ⟨w.heap.size + 1, 3, none⟩ = some (.string ⟨#[]⟩) := (blk_cell y1 3).trans rfl; have ht4 : w1.cell? ⟨w.heap.size + 1, 4, none⟩ = some (.int .i64 q) := (blk_cell y1 4).trans rfl; have ht5 : w1.cell? ⟨w.heap.size + 1, 5, none⟩ = some (.int .i64 0) := (blk_cell y1 5).trans rfl; have ht6 : w1.cell? ⟨w.heap.size + 1, 6, none⟩ = some (.int .i64 due) := (blk_cell y1 6).trans rfl; obtain ⟨v2, w2, hrun, hR2, hlow2⟩ := app_ho hR1 hlow1 (Below.refl _ _) (by omega) ⟨(l1.length : Int) + 1, sku, loc, q, 0, due⟩; rw [← HM.out] at hR2; obtain ⟨Au, cu, rfl⟩ := Kd.R_slice hR2; dsimp only at hrun; have z0 := blk_below p0 hlow2; have z2 := blk_below p2 hlow2; have ho0 : w2.cell? ⟨w.heap.size, 0, none⟩ = some (.slice A R.length c) := (blk_cell z0 0).trans rfl; have hh0 := blk_frozen z0 0; have ho1 : w2.cell? ⟨w.heap.size, 1, none⟩ = some (.slice A1' l1.length c1') := (blk_cell z0 1).trans rfl; have hh1 := blk_frozen z0 1; have ho2 : w2.cell? ⟨w.heap.size, 2, none⟩ = some (.slice A2' l2.length c2') := (blk_cell z0 2).trans rfl; have hh2 := blk_frozen z0 2; have ho3 : w2.cell? ⟨w.heap.size, 3, none⟩ = some (.int .i64 ops) := (blk_cell z0 3).trans rfl; have hh3 := blk_frozen z0 3; have hj0 : w2.cell? ⟨w.heap.size + 1 + 1, 0, none⟩ = some (.slice none 0 0) := (blk_cell z2 0).trans rfl; have hk0 := blk_frozen z2 0; have hj1 : w2.cell? ⟨w.heap.size + 1 + 1, 1, none⟩ = some (.slice none 0 0) := (blk_cell z2 1).trans rfl; have hk1 := blk_frozen z2 1; have hj2 : w2.cell? ⟨w.heap.size + 1 + 1, 2, none⟩ = some (.slice none 0 0) := (blk_cell z2 2).trans rfl; have hk2 := blk_frozen z2 2; have hj3 : w2.cell? ⟨w.heap.size + 1 + 1, 3, none⟩ = some (.int .i64 0) := (blk_cell z2 3).trans rfl; have hk3 := blk_frozen z2 3) | (at_builtin; refine wpList_append_run rfl _ _ _ rfl hrun ?_))
  have zf := blk_far (p := ⟨w.heap.size, 1, none⟩) z2 (by show w.heap.size + 2 ≠ w.heap.size; omega) (.slice Au M.length cu)
  refine bodyPost_ret (results_ct rfl _ _ (w.heap.size + 1 + 1) 41 #[.slice A R.length c, .slice Au M.length cu, .slice A2' l2.length c2', .int .i64 ops] (0, 0) _ rfl (put4_blk zf _ _ _ _) hu rfl (by kernel_rfl)) rfl ?_
  have hL2 : LedgerAt R M l2 A c Au cu A2' c2' w2 := ⟨Kd.C_below hLV.r0 hlow2, (Kd.R_reads' hR2).2.2, Kd.C_below hLV.r2 hlow2, hLV.h0, (Kd.R_reads' hR2).2.1, hLV.h2⟩
  exact ⟨A, c, Au, cu, A2', c2', rfl, (hL2.set z0 (noStr_box _ _ _ _ _ _ _ _ _ _) 1 (.slice Au M.length cu)).put4 zf (noStr_box _ _ _ _ _ _ _ _ _ _) (fun _ h => by cases h) (fun _ h => by cases h) (fun _ h => by cases h), put4_below (below_set (below_w hBV hlow2) (Nat.le_refl _)) (by omega) _ _ _ _⟩
end
end Go.Proofs.Ytofkhcgkahkagaa
/- The reference's Step, over what answers for May and does. -/
namespace Go.Proofs.Ytofkhcgkahkagaa
open Go.RowKit Go.Proofs.YtofkhcgkahkagaaW.PrintWords Go.Proofs.YtofkhcgkahkagaaW.PrintLast Go.Proofs.YtofkhcgkahkagaaW.PrintMore Go.Proofs.Ytofkhcgkahkagaa.PPromiseLines
set_option linter.unusedVariables false
set_option linter.unusedSimpArgs false

section
variable (l0 : List S100) (l1 : List S107) (l2 : List S111) (A0 : Option Addr) (c0 : Nat) (A1 : Option Addr) (c1 : Nat) (A2 : Option Addr) (c2 : Nat) (ops : Int) (w : World)
set_option maxRecDepth 100000 in
set_option maxHeartbeats 2000000 in
theorem step_calls (kind q id due : Int) (sku loc dst : ByteArray) (m0 : List S100) (m1 : List S107) (m2 : List S111) (hL : LedgerAt l0 l1 l2 A0 c0 A1 c1 A2 c2 w)
    (hmay : ∀ V, Calls Try.prog 69 #[.agg #[.int .i64 kind, .string sku, .string loc, .string dst, .int .i64 q, .int .i64 id, .int .i64 due]] V fun e w' => e = .returned (.bool true) ∧ Below V.heap.size V w')
    (hdoes : ∀ V, LedgerAt l0 l1 l2 A0 c0 A1 c1 A2 c2 V → Calls Try.prog 70 #[.agg #[.slice A0 l0.length c0, .slice A1 l1.length c1, .slice A2 l2.length c2, .int .i64 ops], .agg #[.int .i64 kind, .string sku, .string loc, .string dst, .int .i64 q, .int .i64 id, .int .i64 due]] V (LedEnd2 m0 m1 m2 ops 0 V))
    (hm : m0.length ≤ 4096 ∧ m1.length ≤ 4096 ∧ m2.length ≤ 4096) (ho : 0 ≤ ops ∧ ops < 4611686018427387904) :
    Calls Try.prog 46 #[.agg #[.slice A0 l0.length c0, .slice A1 l1.length c1, .slice A2 l2.length c2, .int .i64 ops], .agg #[.int .i64 kind, .string sku, .string loc, .string dst, .int .i64 q, .int .i64 id, .int .i64 due]] w (LedEnd2 m0 m1 m2 (ops + 1) 0 w) := by
  have hu := Try.underlying41
  have huo := Try.underlying88
  obtain ⟨W0, hW0⟩ : ∃ W0, ((w.alloc (.cells #[.slice A0 l0.length c0, .slice A1 l1.length c1, .slice A2 l2.length c2, .int .i64 ops] 41)).alloc (.cells #[.int .i64 kind, .string sku, .string loc, .string dst, .int .i64 q, .int .i64 id, .int .i64 due] 88)).alloc (.cells #[.slice none 0 0, .slice none 0 0, .slice none 0 0, .int .i64 0] 41) = W0 := ⟨_, rfl⟩
  obtain ⟨hB, h0, h1, h2⟩ : Below w.heap.size w W0 ∧ W0.heap[w.heap.size]? = some (.cells #[.slice A0 l0.length c0, .slice A1 l1.length c1, .slice A2 l2.length c2, .int .i64 ops] 41 (0, 0)) ∧ W0.heap[w.heap.size + 1]? = some (.cells #[.int .i64 kind, .string sku, .string loc, .string dst, .int .i64 q, .int .i64 id, .int .i64 due] 88 (0, 0)) ∧ W0.heap[w.heap.size + 2]? = some (.cells #[.slice none 0 0, .slice none 0 0, .slice none 0 0, .int .i64 0] 41 (0, 0)) := by rw [← hW0]; exact three_boxes
  have hgo : decide ((4611686018427387904 : Int) ≤ ops) = false := decide_eq_false (by omega)
  have hwr : wrap64 (ops + 1) = ops + 1 := by unfold wrap64; omega
  have hd0 : W0.cell? ⟨w.heap.size, 0, none⟩ = some (.slice A0 l0.length c0) := (blk_cell h0 0).trans rfl
  have hd1 : W0.cell? ⟨w.heap.size, 1, none⟩ = some (.slice A1 l1.length c1) := (blk_cell h0 1).trans rfl
  have hd2 : W0.cell? ⟨w.heap.size, 2, none⟩ = some (.slice A2 l2.length c2) := (blk_cell h0 2).trans rfl
  have hd3 : W0.cell? ⟨w.heap.size, 3, none⟩ = some (.int .i64 ops) := (blk_cell h0 3).trans rfl
  have hp0 : W0.cell? ⟨w.heap.size + 1, 0, none⟩ = some (.int .i64 kind) := (blk_cell h1 0).trans rfl
  have hp1 : W0.cell? ⟨w.heap.size + 1, 1, none⟩ = some (.string sku) := (blk_cell h1 1).trans rfl
  have hp2 : W0.cell? ⟨w.heap.size + 1, 2, none⟩ = some (.string loc) := (blk_cell h1 2).trans rfl
  have hp3 : W0.cell? ⟨w.heap.size + 1, 3, none⟩ = some (.string dst) := (blk_cell h1 3).trans rfl
  have hp4 : W0.cell? ⟨w.heap.size + 1, 4, none⟩ = some (.int .i64 q) := (blk_cell h1 4).trans rfl
  have hp5 : W0.cell? ⟨w.heap.size + 1, 5, none⟩ = some (.int .i64 id) := (blk_cell h1 5).trans rfl
  have hp6 : W0.cell? ⟨w.heap.size + 1, 6, none⟩ = some (.int .i64 due) := (blk_cell h1 6).trans rfl
  go_enter Try.func46, Try.ntmps46
  go_wp2_with fail
  refine (hmay _).mono ?_
  clear hmay hW0 hd0 hd1 hd2 hd3 hp0 hp1 hp2 hp3 hp4 hp5 hp6
  rintro e W1 ⟨rfl, hb1⟩
  have k0 := blk_below h0 hb1
  have k1 := blk_below h1 hb1
  have k2 := blk_below h2 hb1
  have hB1 := hB.trans (hb1.mono hB.size)
  have hcall := hdoes W1 (hL.below hB1)
  clear hdoes h0 h1 h2
  have hd0 : W1.cell? ⟨w.heap.size, 0, none⟩ = some (.slice A0 l0.length c0) := (blk_cell k0 0).trans rfl
  have hd1 : W1.cell? ⟨w.heap.size, 1, none⟩ = some (.slice A1 l1.length c1) := (blk_cell k0 1).trans rfl
  have hd2 : W1.cell? ⟨w.heap.size, 2, none⟩ = some (.slice A2 l2.length c2) := (blk_cell k0 2).trans rfl
  have hd3 : W1.cell? ⟨w.heap.size, 3, none⟩ = some (.int .i64 ops) := (blk_cell k0 3).trans rfl
  have hp0 : W1.cell? ⟨w.heap.size + 1, 0, none⟩ = some (.int .i64 kind) := (blk_cell k1 0).trans rfl
  have hp1 : W1.cell? ⟨w.heap.size + 1, 1, none⟩ = some (.string sku) := (blk_cell k1 1).trans rfl
  have hp2 : W1.cell? ⟨w.heap.size + 1, 2, none⟩ = some (.string loc) := (blk_cell k1 2).trans rfl
  have hp3 : W1.cell? ⟨w.heap.size + 1, 3, none⟩ = some (.string dst) := (blk_cell k1 3).trans rfl
  have hp4 : W1.cell? ⟨w.heap.size + 1, 4, none⟩ = some (.int .i64 q) := (blk_cell k1 4).trans rfl
  have hp5 : W1.cell? ⟨w.heap.size + 1, 5, none⟩ = some (.int .i64 id) := (blk_cell k1 5).trans rfl
  have hp6 : W1.cell? ⟨w.heap.size + 1, 6, none⟩ = some (.int .i64 due) := (blk_cell k1 6).trans rfl
  go_wp2_with fail
  refine hcall.mono ?_
  clear hcall hd0 hd1 hd2 hd3 hp0 hp1 hp2 hp3 hp4 hp5 hp6
  rintro e W2 ⟨A, c, A1', c1', A2', c2', rfl, hL2, hb2⟩
  obtain ⟨W3, hW3⟩ : ∃ W3, W2.alloc (.cells #[.slice A m0.length c, .slice A1' m1.length c1', .slice A2' m2.length c2', .int .i64 ops] 41) = W3 := ⟨_, rfl⟩
  have hb3 : Below W2.heap.size W2 W3 := by rw [← hW3]; exact (Below.refl _ _).alloc (Nat.le_refl _) _
  have hB2 := below_w hB1 hb2
  have hB3 := below_w hB2 hb3
  have q0 := blk_below (blk_below k0 hb2) hb3
  have q2 := blk_below (blk_below k2 hb2) hb3
  have qn : W3.heap[W2.heap.size]? = some (.cells #[.slice A m0.length c, .slice A1' m1.length c1', .slice A2' m2.length c2', .int .i64 ops] 41 (0, 0)) := by rw [← hW3]; exact blk_new _ _
  have hL3 := hL2.below hb3
  have hlt : w.heap.size + 2 < W2.heap.size := blk_lt (blk_below k2 hb2)
  have hfull := full_calls m0 m1 m2 A c A1' c1' A2' c2' ops W3 hm
  have hs0 : W3.cell? ⟨W2.heap.size, 0, none⟩ = some (.slice A m0.length c) := (blk_cell qn 0).trans rfl
  have hs1 : W3.cell? ⟨W2.heap.size, 1, none⟩ = some (.slice A1' m1.length c1') := (blk_cell qn 1).trans rfl
  have hs2 : W3.cell? ⟨W2.heap.size, 2, none⟩ = some (.slice A2' m2.length c2') := (blk_cell qn 2).trans rfl
  have hs3 : W3.cell? ⟨W2.heap.size, 3, none⟩ = some (.int .i64 ops) := (blk_cell qn 3).trans rfl
  go_wp2_with fail
  refine hfull.mono ?_
  clear hfull hW3 hs0 hs1 hs2 hs3
  rintro e W4 ⟨rfl, hb4⟩
  have r0 := blk_below q0 hb4
  have r2 := blk_below q2 hb4
  have rn := blk_below qn hb4
  have hL4 := hL3.below hb4
  have hB4 := below_w hB3 hb4
  have hs0 : W4.cell? ⟨W2.heap.size, 0, none⟩ = some (.slice A m0.length c) := (blk_cell rn 0).trans rfl
  have hs1 : W4.cell? ⟨W2.heap.size, 1, none⟩ = some (.slice A1' m1.length c1') := (blk_cell rn 1).trans rfl
  have hs2 : W4.cell? ⟨W2.heap.size, 2, none⟩ = some (.slice A2' m2.length c2') := (blk_cell rn 2).trans rfl
  have hs3 : W4.cell? ⟨W2.heap.size, 3, none⟩ = some (.int .i64 ops) := (blk_cell rn 3).trans rfl
  have hd3 : W4.cell? ⟨w.heap.size, 3, none⟩ = some (.int .i64 ops) := (blk_cell r0 3).trans rfl
  have hfn := blk_frozen rn 3
  have hr0 : W4.cell? ⟨w.heap.size + 1 + 1, 0, none⟩ = some (.slice none 0 0) := (blk_cell r2 0).trans rfl
  have hf0 := blk_frozen r2 0
  have hr1 : W4.cell? ⟨w.heap.size + 1 + 1, 1, none⟩ = some (.slice none 0 0) := (blk_cell r2 1).trans rfl
  have hf1 := blk_frozen r2 1
  have hr2 : W4.cell? ⟨w.heap.size + 1 + 1, 2, none⟩ = some (.slice none 0 0) := (blk_cell r2 2).trans rfl
  have hf2 := blk_frozen r2 2
  have hr3 : W4.cell? ⟨w.heap.size + 1 + 1, 3, none⟩ = some (.int .i64 0) := (blk_cell r2 3).trans rfl
  have hf3 := blk_frozen r2 3
  have hn1 : ¬ (w.heap.size + 1 + 1 = W2.heap.size) := by omega
  have hn2 : ¬ (W2.heap.size = w.heap.size + 1 + 1) := by omega
  go_wp2
  have zf := blk_far (p := ⟨W2.heap.size, 3, none⟩) r2 (by show w.heap.size + 2 ≠ W2.heap.size; omega) (.int .i64 (ops + 1))
  refine bodyPost_ret (results_ct rfl _ _ (w.heap.size + 1 + 1) 41 #[.slice A m0.length c, .slice A1' m1.length c1', .slice A2' m2.length c2', .int .i64 (ops + 1)] (0, 0) _ rfl (put4_blk zf _ _ _ _) hu rfl (by kernel_rfl)) rfl ?_
  exact ⟨A, c, A1', c1', A2', c2', rfl, (hL4.set rn (noStr_box _ _ _ _ _ _ _ _ _ _) 3 (.int .i64 (ops + 1))).put4 zf (noStr_box _ _ _ _ _ _ _ _ _ _) (fun _ h => by cases h) (fun _ h => by cases h) (fun _ h => by cases h), put4_below (below_set hB4 (by omega)) (by omega) _ _ _ _⟩
end
end Go.Proofs.Ytofkhcgkahkagaa
/- some: the ledger that awake looks at. -/
namespace Go.Proofs.Ytofkhcgkahkagaa
open Go.RowKit Go.Proofs.YtofkhcgkahkagaaW.PrintWords Go.Proofs.YtofkhcgkahkagaaW.PrintLast Go.Proofs.YtofkhcgkahkagaaW.PrintMore Go.Proofs.Ytofkhcgkahkagaa.PPromiseLines
set_option linter.unusedVariables false
set_option linter.unusedSimpArgs false

def kS : ByteArray := ⟨#[115]⟩
def kX : ByteArray := ⟨#[120]⟩
def sm0 : List S100 := [⟨kS, kX, 5, 3⟩]
def sm1 : List S107 := [⟨1, kS, kX, 3, 0, 7⟩]
def sm2 : List S111 := [⟨1, kS, kX, 5, 1, 0⟩]
theorem sm_a : movedS [] (kS, kX) 5 = [⟨kS, kX, 5, 0⟩] := by kernel_rfl
theorem sm_b : movedM [] (kS, kX) 5 1 0 = sm2 := by kernel_rfl
theorem sm_f : findF [⟨kS, kX, 5, 0⟩] (kS, kX) = ⟨kS, kX, 5, 0⟩ := by kernel_rfl
theorem sm_c : heldF2 [⟨kS, kX, 5, 0⟩] (kS, kX) 3 = sm0 := by kernel_rfl
theorem sm_d : heldH [] (kS, kX) 3 7 = sm1 := by kernel_rfl
theorem nS : nameB kS = true := by kernel_rfl
theorem nX : nameB kX = true := by kernel_rfl
theorem i64_small {n : Int} (h : -1000 ≤ n ∧ n ≤ 1000) : i64B n := by unfold i64B; omega

theorem step_one (w : World) : Calls Try.prog 46 #[.agg #[.slice none 0 0, .slice none 0 0, .slice none 0 0, .int .i64 0], .agg #[.int .i64 1, .string kS, .string kX, .string ⟨#[]⟩, .int .i64 5, .int .i64 0, .int .i64 0]] w (LedEnd2 [⟨kS, kX, 5, 0⟩] [] sm2 1 0 w) := by
  have hL : ∀ V : World, LedgerAt [] [] [] none 0 none 0 none 0 V := fun V => ⟨Kd.C_nil _ _, Kd.C_nil _ _, Kd.C_nil _ _, Nat.le_refl _, Nat.le_refl _, Nat.le_refl _⟩
  have hf : (findF [] (kS, kX)).f2 = 0 := by kernel_rfl
  have h := step_calls [] [] [] none 0 none 0 none 0 0 w 1 5 0 0 kS kX ⟨#[]⟩ [⟨kS, kX, 5, 0⟩] [] sm2 (hL w) (fun V => may6_receive kS kX 5 nS nX (by omega) V)
    (fun V hV => by
      have h := does_receive [] [] [] none 0 none 0 none 0 0 V kS kX 5 (i64_small (by omega)) hV (by simp) (by simp) (by simp) (by rw [hf]; exact i64_small (by omega)) (by rw [hf]; omega)
      rw [sm_a, sm_b] at h
      exact h) (by unfold sm2; simp) (by omega)
  exact h
theorem step_two (A0 : Option Addr) (c0 : Nat) (A1 : Option Addr) (c1 : Nat) (A2 : Option Addr) (c2 : Nat) (w : World) (hL : LedgerAt [⟨kS, kX, 5, 0⟩] [] sm2 A0 c0 A1 c1 A2 c2 w) : Calls Try.prog 46 #[.agg #[.slice A0 1 c0, .slice A1 0 c1, .slice A2 1 c2, .int .i64 1], .agg #[.int .i64 2, .string kS, .string kX, .string ⟨#[]⟩, .int .i64 3, .int .i64 0, .int .i64 7]] w (LedEnd2 sm0 sm1 sm2 2 0 w) := by
  have h := step_calls [⟨kS, kX, 5, 0⟩] [] sm2 A0 c0 A1 c1 A2 c2 1 w 2 3 0 7 kS kX ⟨#[]⟩ sm0 sm1 sm2 hL (fun V => may6_hold kS kX 3 7 nS nX (by omega) (by omega) V)
    (fun V hV => by
      have h := does_hold [⟨kS, kX, 5, 0⟩] [] sm2 A0 c0 A1 c1 A2 c2 1 V kS kX 3 7 (i64_small (by omega)) hV (by simp) (by simp) (by unfold sm2; simp) (by rw [sm_f]; exact ⟨i64_small (by decide), i64_small (by decide)⟩) (by rw [sm_f]; unfold sumOf; decide)
      rw [sm_c, sm_d] at h
      exact h) (by unfold sm0 sm1 sm2; simp) (by omega)
  exact h
set_option maxRecDepth 100000 in
set_option maxHeartbeats 2000000 in
theorem some_calls (w : World) : Calls Try.prog 37 #[] w fun e w' => ∃ A0 c0 A1 c1 A2 c2, e = .returned (.agg #[.slice A0 1 c0, .slice A1 1 c1, .slice A2 1 c2, .int .i64 2]) ∧ LedgerAt sm0 sm1 sm2 A0 c0 A1 c1 A2 c2 w' ∧ Below w.heap.size w w' := by
  have hu := Try.underlying41
  have huo := Try.underlying88
  have hone : ∀ V, Calls Try.prog 46 #[.agg #[.slice none 0 0, .slice none 0 0, .slice none 0 0, .int .i64 0], .agg #[.int .i64 1, .string ⟨#[115]⟩, .string ⟨#[120]⟩, .string ⟨#[]⟩, .int .i64 5, .int .i64 0, .int .i64 0]] V fun e w' => ∃ A0 c0 A1 c1 A2 c2, e = .returned (.tuple #[.agg #[.slice A0 1 c0, .slice A1 0 c1, .slice A2 1 c2, .int .i64 1], .int .i64 0]) ∧ LedgerAt [⟨kS, kX, 5, 0⟩] [] sm2 A0 c0 A1 c1 A2 c2 w' ∧ Below V.heap.size V w' := fun V => step_one V
  have htwo : ∀ (A0 : Option Addr) (c0 : Nat) (A1 : Option Addr) (c1 : Nat) (A2 : Option Addr) (c2 : Nat) (V : World), LedgerAt [⟨kS, kX, 5, 0⟩] [] sm2 A0 c0 A1 c1 A2 c2 V → Calls Try.prog 46 #[.agg #[.slice A0 1 c0, .slice A1 0 c1, .slice A2 1 c2, .int .i64 1], .agg #[.int .i64 2, .string ⟨#[115]⟩, .string ⟨#[120]⟩, .string ⟨#[]⟩, .int .i64 3, .int .i64 0, .int .i64 7]] V fun e w' => ∃ A0 c0 A1 c1 A2 c2, e = .returned (.tuple #[.agg #[.slice A0 1 c0, .slice A1 1 c1, .slice A2 1 c2, .int .i64 2], .int .i64 0]) ∧ LedgerAt sm0 sm1 sm2 A0 c0 A1 c1 A2 c2 w' ∧ Below V.heap.size V w' := fun A0 c0 A1 c1 A2 c2 V hV => step_two A0 c0 A1 c1 A2 c2 V hV
  obtain ⟨W0, hW0⟩ : ∃ W0, w.alloc (.cells #[.slice none 0 0, .slice none 0 0, .slice none 0 0, .int .i64 0] 41) = W0 := ⟨_, rfl⟩
  have hB : Below w.heap.size w W0 := by rw [← hW0]; exact (Below.refl w.heap.size w).alloc (Nat.le_refl _) _
  have h0 : W0.heap[w.heap.size]? = some (.cells #[.slice none 0 0, .slice none 0 0, .slice none 0 0, .int .i64 0] 41 (0, 0)) := by rw [← hW0]; exact blk_new _ _
  go_enter Try.func37, Try.ntmps37
  go_wp2_with fail
  refine (hone _).mono ?_
  clear hone hW0
  rintro e W1 ⟨A, c, A1, c1, A2, c2, rfl, hL1, hb1⟩
  obtain ⟨W2, hW2⟩ : ∃ W2, W1.alloc (.cells #[.slice A 1 c, .slice A1 0 c1, .slice A2 1 c2, .int .i64 1] 41) = W2 := ⟨_, rfl⟩
  have hb2 : Below W1.heap.size W1 W2 := by rw [← hW2]; exact (Below.refl _ _).alloc (Nat.le_refl _) _
  have q0 := blk_below (blk_below h0 hb1) hb2
  have qn : W2.heap[W1.heap.size]? = some (.cells #[.slice A 1 c, .slice A1 0 c1, .slice A2 1 c2, .int .i64 1] 41 (0, 0)) := by rw [← hW2]; exact blk_new _ _
  have hL2 := hL1.below hb2
  have hB2 := below_w (below_w hB hb1) hb2
  have hlt : w.heap.size < W1.heap.size := blk_lt (blk_below h0 hb1)
  have hs0 : W2.cell? ⟨W1.heap.size, 0, none⟩ = some (.slice A 1 c) := (blk_cell qn 0).trans rfl
  have hs1 : W2.cell? ⟨W1.heap.size, 1, none⟩ = some (.slice A1 0 c1) := (blk_cell qn 1).trans rfl
  have hs2 : W2.cell? ⟨W1.heap.size, 2, none⟩ = some (.slice A2 1 c2) := (blk_cell qn 2).trans rfl
  have hs3 : W2.cell? ⟨W1.heap.size, 3, none⟩ = some (.int .i64 1) := (blk_cell qn 3).trans rfl
  go_wp2_with fail
  refine (htwo A c A1 c1 A2 c2 _ hL2).mono ?_
  clear htwo hW2 hs0 hs1 hs2 hs3
  rintro e W3 ⟨A', c', A1', c1', A2', c2', rfl, hL3, hb3⟩
  have p0 := blk_below q0 hb3
  have pn := blk_below qn hb3
  have hs0 : W3.cell? ⟨W1.heap.size, 0, none⟩ = some (.slice A 1 c) := (blk_cell pn 0).trans rfl
  have hf0 := blk_frozen pn 0
  have hs1 : W3.cell? ⟨W1.heap.size, 1, none⟩ = some (.slice A1 0 c1) := (blk_cell pn 1).trans rfl
  have hf1 := blk_frozen pn 1
  have hs2 : W3.cell? ⟨W1.heap.size, 2, none⟩ = some (.slice A2 1 c2) := (blk_cell pn 2).trans rfl
  have hf2 := blk_frozen pn 2
  have hs3 : W3.cell? ⟨W1.heap.size, 3, none⟩ = some (.int .i64 1) := (blk_cell pn 3).trans rfl
  have hf3 := blk_frozen pn 3
  obtain ⟨V3, hV3⟩ : ∃ V3, put4 W3 W1.heap.size (.slice A' 1 c') (.slice A1' 1 c1') (.slice A2' 1 c2') (.int .i64 2) = V3 := ⟨_, rfl⟩
  have pv : V3.heap[W1.heap.size]? = some (.cells #[(.slice A' 1 c'), (.slice A1' 1 c1'), (.slice A2' 1 c2'), (.int .i64 2)] 41 (0, 0)) := by rw [← hV3]; exact put4_blk pn _ _ _ _
  have p1 : V3.heap[w.heap.size]? = some (.cells #[.slice none 0 0, .slice none 0 0, .slice none 0 0, .int .i64 0] 41 (0, 0)) := by rw [← hV3]; exact put4_far p0 (Nat.ne_of_lt hlt) _ _ _ _
  have hLV : LedgerAt sm0 sm1 sm2 A' c' A1' c1' A2' c2' V3 := by rw [← hV3]; exact hL3.put4 pn (noStr_box _ _ _ _ _ _ _ _ _ _) (fun _ h => by cases h) (fun _ h => by cases h) (fun _ h => by cases h)
  have hBV : Below w.heap.size w V3 := by rw [← hV3]; exact put4_below (below_w hB2 hb3) (Nat.le_of_lt hlt) _ _ _ _
  unfold put4 at hV3
  have hv0 : V3.cell? ⟨W1.heap.size, 0, none⟩ = some (.slice A' 1 c') := (blk_cell pv 0).trans rfl
  have hv1 : V3.cell? ⟨W1.heap.size, 1, none⟩ = some (.slice A1' 1 c1') := (blk_cell pv 1).trans rfl
  have hv2 : V3.cell? ⟨W1.heap.size, 2, none⟩ = some (.slice A2' 1 c2') := (blk_cell pv 2).trans rfl
  have hv3 : V3.cell? ⟨W1.heap.size, 3, none⟩ = some (.int .i64 2) := (blk_cell pv 3).trans rfl
  have hr0 : V3.cell? ⟨w.heap.size, 0, none⟩ = some (.slice none 0 0) := (blk_cell p1 0).trans rfl
  have hg0 := blk_frozen p1 0
  have hr1 : V3.cell? ⟨w.heap.size, 1, none⟩ = some (.slice none 0 0) := (blk_cell p1 1).trans rfl
  have hg1 := blk_frozen p1 1
  have hr2 : V3.cell? ⟨w.heap.size, 2, none⟩ = some (.slice none 0 0) := (blk_cell p1 2).trans rfl
  have hg2 := blk_frozen p1 2
  have hr3 : V3.cell? ⟨w.heap.size, 3, none⟩ = some (.int .i64 0) := (blk_cell p1 3).trans rfl
  have hg3 := blk_frozen p1 3
  go_wp2
  refine bodyPost_ret (results_cell_row rfl _ _ w.heap.size 41 #[(.slice A' 1 c'), (.slice A1' 1 c1'), (.slice A2' 1 c2'), (.int .i64 2)] (0, 0) _ rfl (put4_blk p1 _ _ _ _) hu rfl (by kernel_rfl)) rfl ?_
  exact ⟨A', c', A1', c1', A2', c2', rfl, hLV.put4 p1 (noStr_box _ _ _ _ _ _ _ _ _ _) (fun _ h => by cases h) (fun _ h => by cases h) (fun _ h => by cases h), put4_below hBV (Nat.le_refl _) _ _ _ _⟩
end Go.Proofs.Ytofkhcgkahkagaa
