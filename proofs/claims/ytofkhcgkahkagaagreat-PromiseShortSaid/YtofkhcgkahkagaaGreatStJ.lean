/- some: the ledger that awake looks at. -/
import Derived.Test.YtofkhcgkahkagaaGreatStH
/- The reference's Step, over what answers for May and does. -/
namespace Go.Proofs.YtofkhcgkahkagaaGreat
open Go.RowKit Go.Proofs.YtofkhcgkahkagaaGreatW.PrintWords Go.Proofs.YtofkhcgkahkagaaGreatW.PrintLast Go.Proofs.YtofkhcgkahkagaaGreatW.PrintMore Go.Proofs.YtofkhcgkahkagaaGreat.PPromiseShort
set_option linter.unusedVariables false
set_option linter.unusedSimpArgs false

section
variable (l0 : List S165) (l1 : List S172) (l2 : List S176) (A0 : Option Addr) (c0 : Nat) (A1 : Option Addr) (c1 : Nat) (A2 : Option Addr) (c2 : Nat) (ops : Int) (w : World)
set_option maxRecDepth 100000 in
set_option maxHeartbeats 2000000 in
theorem step_calls (kind q id due : Int) (sku loc dst : ByteArray) (m0 : List S165) (m1 : List S172) (m2 : List S176) (hL : LedgerAt l0 l1 l2 A0 c0 A1 c1 A2 c2 w)
    (hmay : ∀ V, Calls Tryz.prog 131 #[.agg #[.int .i64 kind, .string sku, .string loc, .string dst, .int .i64 q, .int .i64 id, .int .i64 due]] V fun e w' => e = .returned (.bool true) ∧ Below V.heap.size V w')
    (hdoes : ∀ V, LedgerAt l0 l1 l2 A0 c0 A1 c1 A2 c2 V → Calls Tryz.prog 132 #[.agg #[.slice A0 l0.length c0, .slice A1 l1.length c1, .slice A2 l2.length c2, .int .i64 ops], .agg #[.int .i64 kind, .string sku, .string loc, .string dst, .int .i64 q, .int .i64 id, .int .i64 due]] V (LedEnd2 m0 m1 m2 ops 0 V))
    (hm : m0.length ≤ 4096 ∧ m1.length ≤ 4096 ∧ m2.length ≤ 4096) (ho : 0 ≤ ops ∧ ops < 4611686018427387904) :
    Calls Tryz.prog 75 #[.agg #[.slice A0 l0.length c0, .slice A1 l1.length c1, .slice A2 l2.length c2, .int .i64 ops], .agg #[.int .i64 kind, .string sku, .string loc, .string dst, .int .i64 q, .int .i64 id, .int .i64 due]] w (LedEnd2 m0 m1 m2 (ops + 1) 0 w) := by
  have hu := Tryz.underlying55
  have huo := Tryz.underlying162
  obtain ⟨W0, hW0⟩ : ∃ W0, ((w.alloc (.cells #[.slice A0 l0.length c0, .slice A1 l1.length c1, .slice A2 l2.length c2, .int .i64 ops] 55)).alloc (.cells #[.int .i64 kind, .string sku, .string loc, .string dst, .int .i64 q, .int .i64 id, .int .i64 due] 162)).alloc (.cells #[.slice none 0 0, .slice none 0 0, .slice none 0 0, .int .i64 0] 55) = W0 := ⟨_, rfl⟩
  obtain ⟨hB, h0, h1, h2⟩ : Below w.heap.size w W0 ∧ W0.heap[w.heap.size]? = some (.cells #[.slice A0 l0.length c0, .slice A1 l1.length c1, .slice A2 l2.length c2, .int .i64 ops] 55 (0, 0)) ∧ W0.heap[w.heap.size + 1]? = some (.cells #[.int .i64 kind, .string sku, .string loc, .string dst, .int .i64 q, .int .i64 id, .int .i64 due] 162 (0, 0)) ∧ W0.heap[w.heap.size + 2]? = some (.cells #[.slice none 0 0, .slice none 0 0, .slice none 0 0, .int .i64 0] 55 (0, 0)) := by rw [← hW0]; exact three_boxes
  have hgo : decide ((4611686018427387904 : Int) ≤ ops) = false := decide_eq_false (by omega)
  have hwr : wrap64 (ops + 1) = ops + 1 := by unfold wrap64; omega
  have hd0 : W0.cell? ⟨w.heap.size, 0, none⟩ = some (.slice A0 l0.length c0) := (blk_cell h0 0).trans rfl
  have hd1 : W0.cell? ⟨w.heap.size, 1, none⟩ = some (.slice A1 l1.length c1) := (blk_cell h0 1).trans rfl
  have hd2 : W0.cell? ⟨w.heap.size, 2, none⟩ = some (.slice A2 l2.length c2) := (blk_cell h0 2).trans rfl
  have hd3 : W0.cell? ⟨w.heap.size, 3, none⟩ = some (.int .i64 ops) := (blk_cell h0 3).trans rfl
  have hp0 : W0.cell? ⟨w.heap.size + 1, 0, none⟩ = some (.int .i64 kind) := (blk_cell h1 0).trans rfl
  have hp1 : W0.cell? ⟨w.heap.size + 1, 1, none⟩ = some (.string sku) := (blk_cell h1 1).trans rfl
  have hp2 : W0.cell? ⟨w.heap.size + 1, 2, none⟩ = some (.string loc) := (blk_cell h1 2).trans rfl
  have hp3 : W0.cell? ⟨w.heap.size + 1, 3, none⟩ = some (.string dst) := (blk_cell h1 3).trans rfl
  have hp4 : W0.cell? ⟨w.heap.size + 1, 4, none⟩ = some (.int .i64 q) := (blk_cell h1 4).trans rfl
  have hp5 : W0.cell? ⟨w.heap.size + 1, 5, none⟩ = some (.int .i64 id) := (blk_cell h1 5).trans rfl
  have hp6 : W0.cell? ⟨w.heap.size + 1, 6, none⟩ = some (.int .i64 due) := (blk_cell h1 6).trans rfl
  go_enter Tryz.func75, Tryz.ntmps75
  go_wp2_with fail
  refine (hmay _).mono ?_
  clear hmay hW0 hd0 hd1 hd2 hd3 hp0 hp1 hp2 hp3 hp4 hp5 hp6
  rintro e W1 ⟨rfl, hb1⟩
  have k0 := blk_below h0 hb1
  have k1 := blk_below h1 hb1
  have k2 := blk_below h2 hb1
  have hB1 := hB.trans (hb1.mono hB.size)
  have hcall := hdoes W1 (hL.below hB1)
  clear hdoes h0 h1 h2
  have hd0 : W1.cell? ⟨w.heap.size, 0, none⟩ = some (.slice A0 l0.length c0) := (blk_cell k0 0).trans rfl
  have hd1 : W1.cell? ⟨w.heap.size, 1, none⟩ = some (.slice A1 l1.length c1) := (blk_cell k0 1).trans rfl
  have hd2 : W1.cell? ⟨w.heap.size, 2, none⟩ = some (.slice A2 l2.length c2) := (blk_cell k0 2).trans rfl
  have hd3 : W1.cell? ⟨w.heap.size, 3, none⟩ = some (.int .i64 ops) := (blk_cell k0 3).trans rfl
  have hp0 : W1.cell? ⟨w.heap.size + 1, 0, none⟩ = some (.int .i64 kind) := (blk_cell k1 0).trans rfl
  have hp1 : W1.cell? ⟨w.heap.size + 1, 1, none⟩ = some (.string sku) := (blk_cell k1 1).trans rfl
  have hp2 : W1.cell? ⟨w.heap.size + 1, 2, none⟩ = some (.string loc) := (blk_cell k1 2).trans rfl
  have hp3 : W1.cell? ⟨w.heap.size + 1, 3, none⟩ = some (.string dst) := (blk_cell k1 3).trans rfl
  have hp4 : W1.cell? ⟨w.heap.size + 1, 4, none⟩ = some (.int .i64 q) := (blk_cell k1 4).trans rfl
  have hp5 : W1.cell? ⟨w.heap.size + 1, 5, none⟩ = some (.int .i64 id) := (blk_cell k1 5).trans rfl
  have hp6 : W1.cell? ⟨w.heap.size + 1, 6, none⟩ = some (.int .i64 due) := (blk_cell k1 6).trans rfl
  go_wp2_with fail
  refine hcall.mono ?_
  clear hcall hd0 hd1 hd2 hd3 hp0 hp1 hp2 hp3 hp4 hp5 hp6
  rintro e W2 ⟨A, c, A1', c1', A2', c2', rfl, hL2, hb2⟩
  obtain ⟨W3, hW3⟩ : ∃ W3, W2.alloc (.cells #[.slice A m0.length c, .slice A1' m1.length c1', .slice A2' m2.length c2', .int .i64 ops] 55) = W3 := ⟨_, rfl⟩
  have hb3 : Below W2.heap.size W2 W3 := by rw [← hW3]; exact (Below.refl _ _).alloc (Nat.le_refl _) _
  have hB2 := below_w hB1 hb2
  have hB3 := below_w hB2 hb3
  have q0 := blk_below (blk_below k0 hb2) hb3
  have q2 := blk_below (blk_below k2 hb2) hb3
  have qn : W3.heap[W2.heap.size]? = some (.cells #[.slice A m0.length c, .slice A1' m1.length c1', .slice A2' m2.length c2', .int .i64 ops] 55 (0, 0)) := by rw [← hW3]; exact blk_new _ _
  have hL3 := hL2.below hb3
  have hlt : w.heap.size + 2 < W2.heap.size := blk_lt (blk_below k2 hb2)
  have hfull := full_calls m0 m1 m2 A c A1' c1' A2' c2' ops W3 hm
  have hs0 : W3.cell? ⟨W2.heap.size, 0, none⟩ = some (.slice A m0.length c) := (blk_cell qn 0).trans rfl
  have hs1 : W3.cell? ⟨W2.heap.size, 1, none⟩ = some (.slice A1' m1.length c1') := (blk_cell qn 1).trans rfl
  have hs2 : W3.cell? ⟨W2.heap.size, 2, none⟩ = some (.slice A2' m2.length c2') := (blk_cell qn 2).trans rfl
  have hs3 : W3.cell? ⟨W2.heap.size, 3, none⟩ = some (.int .i64 ops) := (blk_cell qn 3).trans rfl
  go_wp2_with fail
  refine hfull.mono ?_
  clear hfull hW3 hs0 hs1 hs2 hs3
  rintro e W4 ⟨rfl, hb4⟩
  have r0 := blk_below q0 hb4
  have r2 := blk_below q2 hb4
  have rn := blk_below qn hb4
  have hL4 := hL3.below hb4
  have hB4 := below_w hB3 hb4
  have hs0 : W4.cell? ⟨W2.heap.size, 0, none⟩ = some (.slice A m0.length c) := (blk_cell rn 0).trans rfl
  have hs1 : W4.cell? ⟨W2.heap.size, 1, none⟩ = some (.slice A1' m1.length c1') := (blk_cell rn 1).trans rfl
  have hs2 : W4.cell? ⟨W2.heap.size, 2, none⟩ = some (.slice A2' m2.length c2') := (blk_cell rn 2).trans rfl
  have hs3 : W4.cell? ⟨W2.heap.size, 3, none⟩ = some (.int .i64 ops) := (blk_cell rn 3).trans rfl
  have hd3 : W4.cell? ⟨w.heap.size, 3, none⟩ = some (.int .i64 ops) := (blk_cell r0 3).trans rfl
  have hfn := blk_frozen rn 3
  have hr0 : W4.cell? ⟨w.heap.size + 1 + 1, 0, none⟩ = some (.slice none 0 0) := (blk_cell r2 0).trans rfl
  have hf0 := blk_frozen r2 0
  have hr1 : W4.cell? ⟨w.heap.size + 1 + 1, 1, none⟩ = some (.slice none 0 0) := (blk_cell r2 1).trans rfl
  have hf1 := blk_frozen r2 1
  have hr2 : W4.cell? ⟨w.heap.size + 1 + 1, 2, none⟩ = some (.slice none 0 0) := (blk_cell r2 2).trans rfl
  have hf2 := blk_frozen r2 2
  have hr3 : W4.cell? ⟨w.heap.size + 1 + 1, 3, none⟩ = some (.int .i64 0) := (blk_cell r2 3).trans rfl
  have hf3 := blk_frozen r2 3
  have hn1 : ¬ (w.heap.size + 1 + 1 = W2.heap.size) := by omega
  have hn2 : ¬ (W2.heap.size = w.heap.size + 1 + 1) := by omega
  go_wp2
  have zf := blk_far (p := ⟨W2.heap.size, 3, none⟩) r2 (by show w.heap.size + 2 ≠ W2.heap.size; omega) (.int .i64 (ops + 1))
  refine bodyPost_ret (results_ct rfl _ _ (w.heap.size + 1 + 1) 55 #[.slice A m0.length c, .slice A1' m1.length c1', .slice A2' m2.length c2', .int .i64 (ops + 1)] (0, 0) _ rfl (put4_blk zf _ _ _ _) hu rfl (by kernel_rfl)) rfl ?_
  exact ⟨A, c, A1', c1', A2', c2', rfl, (hL4.set rn (noStr_box _ _ _ _ _ _ _ _ _ _) 3 (.int .i64 (ops + 1))).put4 zf (noStr_box _ _ _ _ _ _ _ _ _ _) (fun _ h => by cases h) (fun _ h => by cases h) (fun _ h => by cases h), put4_below (below_set hB4 (by omega)) (by omega) _ _ _ _⟩
end
end Go.Proofs.YtofkhcgkahkagaaGreat
namespace Go.Proofs.YtofkhcgkahkagaaGreat
open Go.RowKit Go.Proofs.YtofkhcgkahkagaaGreatW.PrintWords Go.Proofs.YtofkhcgkahkagaaGreatW.PrintLast Go.Proofs.YtofkhcgkahkagaaGreatW.PrintMore Go.Proofs.YtofkhcgkahkagaaGreat.PPromiseShort
set_option linter.unusedVariables false
set_option linter.unusedSimpArgs false

def kS : ByteArray := ⟨#[115]⟩
def kX : ByteArray := ⟨#[120]⟩
def sm0 : List S165 := [⟨kS, kX, 5, 3⟩]
def sm1 : List S172 := [⟨1, kS, kX, 3, 0, 7⟩]
def sm2 : List S176 := [⟨1, kS, kX, 5, 1, 0⟩]
theorem sm_a : movedS [] (kS, kX) 5 = [⟨kS, kX, 5, 0⟩] := by kernel_rfl
theorem sm_b : movedM [] (kS, kX) 5 1 0 = sm2 := by kernel_rfl
theorem sm_f : findF [⟨kS, kX, 5, 0⟩] (kS, kX) = ⟨kS, kX, 5, 0⟩ := by kernel_rfl
theorem sm_c : heldF2 [⟨kS, kX, 5, 0⟩] (kS, kX) 3 = sm0 := by kernel_rfl
theorem sm_d : heldH [] (kS, kX) 3 7 = sm1 := by kernel_rfl
theorem nS : nameB kS = true := by kernel_rfl
theorem nX : nameB kX = true := by kernel_rfl
theorem i64_small {n : Int} (h : -1000 ≤ n ∧ n ≤ 1000) : i64B n := by unfold i64B; omega

theorem step_one (w : World) : Calls Tryz.prog 75 #[.agg #[.slice none 0 0, .slice none 0 0, .slice none 0 0, .int .i64 0], .agg #[.int .i64 1, .string kS, .string kX, .string ⟨#[]⟩, .int .i64 5, .int .i64 0, .int .i64 0]] w (LedEnd2 [⟨kS, kX, 5, 0⟩] [] sm2 1 0 w) := by
  have hL : ∀ V : World, LedgerAt [] [] [] none 0 none 0 none 0 V := fun V => ⟨Kd.C_nil _ _, Kd.C_nil _ _, Kd.C_nil _ _, Nat.le_refl _, Nat.le_refl _, Nat.le_refl _⟩
  have hf : (findF [] (kS, kX)).f2 = 0 := by kernel_rfl
  have h := step_calls [] [] [] none 0 none 0 none 0 0 w 1 5 0 0 kS kX ⟨#[]⟩ [⟨kS, kX, 5, 0⟩] [] sm2 (hL w) (fun V => may6_receive kS kX 5 nS nX (by omega) V)
    (fun V hV => by
      have h := does_receive [] [] [] none 0 none 0 none 0 0 V kS kX 5 (i64_small (by omega)) hV (by simp) (by simp) (by simp) (by rw [hf]; exact i64_small (by omega)) (by rw [hf]; omega)
      rw [sm_a, sm_b] at h
      exact h) (by unfold sm2; simp) (by omega)
  exact h
theorem step_two (A0 : Option Addr) (c0 : Nat) (A1 : Option Addr) (c1 : Nat) (A2 : Option Addr) (c2 : Nat) (w : World) (hL : LedgerAt [⟨kS, kX, 5, 0⟩] [] sm2 A0 c0 A1 c1 A2 c2 w) : Calls Tryz.prog 75 #[.agg #[.slice A0 1 c0, .slice A1 0 c1, .slice A2 1 c2, .int .i64 1], .agg #[.int .i64 2, .string kS, .string kX, .string ⟨#[]⟩, .int .i64 3, .int .i64 0, .int .i64 7]] w (LedEnd2 sm0 sm1 sm2 2 0 w) := by
  have h := step_calls [⟨kS, kX, 5, 0⟩] [] sm2 A0 c0 A1 c1 A2 c2 1 w 2 3 0 7 kS kX ⟨#[]⟩ sm0 sm1 sm2 hL (fun V => may6_hold kS kX 3 7 nS nX (by omega) (by omega) V)
    (fun V hV => by
      have h := does_hold [⟨kS, kX, 5, 0⟩] [] sm2 A0 c0 A1 c1 A2 c2 1 V kS kX 3 7 (i64_small (by omega)) hV (by simp) (by simp) (by unfold sm2; simp) (by rw [sm_f]; exact ⟨i64_small (by decide), i64_small (by decide)⟩) (by rw [sm_f]; unfold sumOf; decide)
      rw [sm_c, sm_d] at h
      exact h) (by unfold sm0 sm1 sm2; simp) (by omega)
  exact h
set_option maxRecDepth 100000 in
set_option maxHeartbeats 2000000 in
theorem some_calls (w : World) : Calls Tryz.prog 37 #[] w fun e w' => ∃ A0 c0 A1 c1 A2 c2, e = .returned (.agg #[.slice A0 1 c0, .slice A1 1 c1, .slice A2 1 c2, .int .i64 2]) ∧ LedgerAt sm0 sm1 sm2 A0 c0 A1 c1 A2 c2 w' ∧ Below w.heap.size w w' := by
  have hu := Tryz.underlying55
  have huo := Tryz.underlying162
  have hone : ∀ V, Calls Tryz.prog 75 #[.agg #[.slice none 0 0, .slice none 0 0, .slice none 0 0, .int .i64 0], .agg #[.int .i64 1, .string ⟨#[115]⟩, .string ⟨#[120]⟩, .string ⟨#[]⟩, .int .i64 5, .int .i64 0, .int .i64 0]] V fun e w' => ∃ A0 c0 A1 c1 A2 c2, e = .returned (.tuple #[.agg #[.slice A0 1 c0, .slice A1 0 c1, .slice A2 1 c2, .int .i64 1], .int .i64 0]) ∧ LedgerAt [⟨kS, kX, 5, 0⟩] [] sm2 A0 c0 A1 c1 A2 c2 w' ∧ Below V.heap.size V w' := fun V => step_one V
  have htwo : ∀ (A0 : Option Addr) (c0 : Nat) (A1 : Option Addr) (c1 : Nat) (A2 : Option Addr) (c2 : Nat) (V : World), LedgerAt [⟨kS, kX, 5, 0⟩] [] sm2 A0 c0 A1 c1 A2 c2 V → Calls Tryz.prog 75 #[.agg #[.slice A0 1 c0, .slice A1 0 c1, .slice A2 1 c2, .int .i64 1], .agg #[.int .i64 2, .string ⟨#[115]⟩, .string ⟨#[120]⟩, .string ⟨#[]⟩, .int .i64 3, .int .i64 0, .int .i64 7]] V fun e w' => ∃ A0 c0 A1 c1 A2 c2, e = .returned (.tuple #[.agg #[.slice A0 1 c0, .slice A1 1 c1, .slice A2 1 c2, .int .i64 2], .int .i64 0]) ∧ LedgerAt sm0 sm1 sm2 A0 c0 A1 c1 A2 c2 w' ∧ Below V.heap.size V w' := fun A0 c0 A1 c1 A2 c2 V hV => step_two A0 c0 A1 c1 A2 c2 V hV
  obtain ⟨W0, hW0⟩ : ∃ W0, w.alloc (.cells #[.slice none 0 0, .slice none 0 0, .slice none 0 0, .int .i64 0] 55) = W0 := ⟨_, rfl⟩
  have hB : Below w.heap.size w W0 := by rw [← hW0]; exact (Below.refl w.heap.size w).alloc (Nat.le_refl _) _
  have h0 : W0.heap[w.heap.size]? = some (.cells #[.slice none 0 0, .slice none 0 0, .slice none 0 0, .int .i64 0] 55 (0, 0)) := by rw [← hW0]; exact blk_new _ _
  go_enter Tryz.func37, Tryz.ntmps37
  go_wp2_with fail
  refine (hone _).mono ?_
  clear hone hW0
  rintro e W1 ⟨A, c, A1, c1, A2, c2, rfl, hL1, hb1⟩
  obtain ⟨W2, hW2⟩ : ∃ W2, W1.alloc (.cells #[.slice A 1 c, .slice A1 0 c1, .slice A2 1 c2, .int .i64 1] 55) = W2 := ⟨_, rfl⟩
  have hb2 : Below W1.heap.size W1 W2 := by rw [← hW2]; exact (Below.refl _ _).alloc (Nat.le_refl _) _
  have q0 := blk_below (blk_below h0 hb1) hb2
  have qn : W2.heap[W1.heap.size]? = some (.cells #[.slice A 1 c, .slice A1 0 c1, .slice A2 1 c2, .int .i64 1] 55 (0, 0)) := by rw [← hW2]; exact blk_new _ _
  have hL2 := hL1.below hb2
  have hB2 := below_w (below_w hB hb1) hb2
  have hlt : w.heap.size < W1.heap.size := blk_lt (blk_below h0 hb1)
  have hs0 : W2.cell? ⟨W1.heap.size, 0, none⟩ = some (.slice A 1 c) := (blk_cell qn 0).trans rfl
  have hs1 : W2.cell? ⟨W1.heap.size, 1, none⟩ = some (.slice A1 0 c1) := (blk_cell qn 1).trans rfl
  have hs2 : W2.cell? ⟨W1.heap.size, 2, none⟩ = some (.slice A2 1 c2) := (blk_cell qn 2).trans rfl
  have hs3 : W2.cell? ⟨W1.heap.size, 3, none⟩ = some (.int .i64 1) := (blk_cell qn 3).trans rfl
  go_wp2_with fail
  refine (htwo A c A1 c1 A2 c2 _ hL2).mono ?_
  clear htwo hW2 hs0 hs1 hs2 hs3
  rintro e W3 ⟨A', c', A1', c1', A2', c2', rfl, hL3, hb3⟩
  have p0 := blk_below q0 hb3
  have pn := blk_below qn hb3
  have hs0 : W3.cell? ⟨W1.heap.size, 0, none⟩ = some (.slice A 1 c) := (blk_cell pn 0).trans rfl
  have hf0 := blk_frozen pn 0
  have hs1 : W3.cell? ⟨W1.heap.size, 1, none⟩ = some (.slice A1 0 c1) := (blk_cell pn 1).trans rfl
  have hf1 := blk_frozen pn 1
  have hs2 : W3.cell? ⟨W1.heap.size, 2, none⟩ = some (.slice A2 1 c2) := (blk_cell pn 2).trans rfl
  have hf2 := blk_frozen pn 2
  have hs3 : W3.cell? ⟨W1.heap.size, 3, none⟩ = some (.int .i64 1) := (blk_cell pn 3).trans rfl
  have hf3 := blk_frozen pn 3
  obtain ⟨V3, hV3⟩ : ∃ V3, put4 W3 W1.heap.size (.slice A' 1 c') (.slice A1' 1 c1') (.slice A2' 1 c2') (.int .i64 2) = V3 := ⟨_, rfl⟩
  have pv : V3.heap[W1.heap.size]? = some (.cells #[(.slice A' 1 c'), (.slice A1' 1 c1'), (.slice A2' 1 c2'), (.int .i64 2)] 55 (0, 0)) := by rw [← hV3]; exact put4_blk pn _ _ _ _
  have p1 : V3.heap[w.heap.size]? = some (.cells #[.slice none 0 0, .slice none 0 0, .slice none 0 0, .int .i64 0] 55 (0, 0)) := by rw [← hV3]; exact put4_far p0 (Nat.ne_of_lt hlt) _ _ _ _
  have hLV : LedgerAt sm0 sm1 sm2 A' c' A1' c1' A2' c2' V3 := by rw [← hV3]; exact hL3.put4 pn (noStr_box _ _ _ _ _ _ _ _ _ _) (fun _ h => by cases h) (fun _ h => by cases h) (fun _ h => by cases h)
  have hBV : Below w.heap.size w V3 := by rw [← hV3]; exact put4_below (below_w hB2 hb3) (Nat.le_of_lt hlt) _ _ _ _
  unfold put4 at hV3
  have hv0 : V3.cell? ⟨W1.heap.size, 0, none⟩ = some (.slice A' 1 c') := (blk_cell pv 0).trans rfl
  have hv1 : V3.cell? ⟨W1.heap.size, 1, none⟩ = some (.slice A1' 1 c1') := (blk_cell pv 1).trans rfl
  have hv2 : V3.cell? ⟨W1.heap.size, 2, none⟩ = some (.slice A2' 1 c2') := (blk_cell pv 2).trans rfl
  have hv3 : V3.cell? ⟨W1.heap.size, 3, none⟩ = some (.int .i64 2) := (blk_cell pv 3).trans rfl
  have hr0 : V3.cell? ⟨w.heap.size, 0, none⟩ = some (.slice none 0 0) := (blk_cell p1 0).trans rfl
  have hg0 := blk_frozen p1 0
  have hr1 : V3.cell? ⟨w.heap.size, 1, none⟩ = some (.slice none 0 0) := (blk_cell p1 1).trans rfl
  have hg1 := blk_frozen p1 1
  have hr2 : V3.cell? ⟨w.heap.size, 2, none⟩ = some (.slice none 0 0) := (blk_cell p1 2).trans rfl
  have hg2 := blk_frozen p1 2
  have hr3 : V3.cell? ⟨w.heap.size, 3, none⟩ = some (.int .i64 0) := (blk_cell p1 3).trans rfl
  have hg3 := blk_frozen p1 3
  go_wp2
  refine bodyPost_ret (results_cell_row rfl _ _ w.heap.size 55 #[(.slice A' 1 c'), (.slice A1' 1 c1'), (.slice A2' 1 c2'), (.int .i64 2)] (0, 0) _ rfl (put4_blk p1 _ _ _ _) hu rfl (by kernel_rfl)) rfl ?_
  exact ⟨A', c', A1', c1', A2', c2', rfl, hLV.put4 p1 (noStr_box _ _ _ _ _ _ _ _ _ _) (fun _ h => by cases h) (fun _ h => by cases h) (fun _ h => by cases h), put4_below hBV (Nat.le_refl _) _ _ _ _⟩
end Go.Proofs.YtofkhcgkahkagaaGreat
