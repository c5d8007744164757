/- The reference's does, for what is received and what is held. -/
import Derived.Test.YtofkhcgkahkagaaGreatStE
import Derived.Test.YtofkhcgkahkagaaGreatRMay
/- The reference's op.May for two kinds; does for two kinds. -/
namespace Go.Proofs.YtofkhcgkahkagaaGreat
open Go.RowKit Go.Proofs.YtofkhcgkahkagaaGreatW.PrintWords Go.Proofs.YtofkhcgkahkagaaGreatW.PrintLast Go.Proofs.YtofkhcgkahkagaaGreatW.PrintMore Go.Proofs.YtofkhcgkahkagaaGreat.PPromiseShort
set_option linter.unusedVariables false
set_option linter.unusedSimpArgs false

theorem name_ne {s : ByteArray} (h : nameB s = true) : s.toList.isEmpty = false := by
  cases e : s.toList with
  | cons x l => rfl
  | nil =>
    have e2 : s.toList = (⟨#[]⟩ : ByteArray).toList := by rw [e]; exact (Lib.toList_data ⟨#[]⟩).symm
    rw [str_eq.1 e2] at h
    revert h
    decide
set_option maxRecDepth 100000 in
set_option maxHeartbeats 2000000 in
theorem may6_receive (sku loc : ByteArray) (q : Int) (hs : nameB sku = true) (hc : nameB loc = true) (hq : 1 ≤ q) (w : World) :
    Calls Tryz.prog 131 #[.agg #[.int .i64 1, .string sku, .string loc, .string ⟨#[]⟩, .int .i64 q, .int .i64 0, .int .i64 0]] w fun e w' => e = .returned (.bool true) ∧ Below w.heap.size w w' := by
  have hu := Tryz.underlying162
  have hq1 : decide (1 ≤ q) = true := decide_eq_true hq
  have hbox := fun o => (Below.refl w.heap.size w).alloc (Nat.le_refl _) o
  have hn1 := fun V => name6_calls sku V
  have hn2 := fun V => name6_calls loc V
  rw [hs] at hn1
  rw [hc] at hn2
  go_enter Tryz.func131, Tryz.ntmps131
  have hs0 := name_ne hs
  go_wp2_with fail
  refine (hn1 _).mono ?_
  rintro e w1 ⟨rfl, rfl⟩
  go_wp2_with fail
  refine (hn2 _).mono ?_
  rintro e w2 ⟨rfl, rfl⟩
  go_wp2
  go_ret
  exact ⟨rfl, hbox _⟩
set_option maxRecDepth 100000 in
set_option maxHeartbeats 2000000 in
theorem may6_hold (sku loc : ByteArray) (q due : Int) (hs : nameB sku = true) (hc : nameB loc = true) (hq : 1 ≤ q) (hd : 0 ≤ due) (w : World) :
    Calls Tryz.prog 131 #[.agg #[.int .i64 2, .string sku, .string loc, .string ⟨#[]⟩, .int .i64 q, .int .i64 0, .int .i64 due]] w fun e w' => e = .returned (.bool true) ∧ Below w.heap.size w w' := by
  have hu := Tryz.underlying162
  have hq1 : decide (1 ≤ q) = true := decide_eq_true hq
  have hd1 : decide (0 ≤ due) = true := decide_eq_true hd
  have hbox := fun o => (Below.refl w.heap.size w).alloc (Nat.le_refl _) o
  have hn1 := fun V => name6_calls sku V
  have hn2 := fun V => name6_calls loc V
  rw [hs] at hn1
  rw [hc] at hn2
  go_enter Tryz.func131, Tryz.ntmps131
  have hs0 := name_ne hs
  go_wp2_with fail
  refine (hn1 _).mono ?_
  rintro e w1 ⟨rfl, rfl⟩
  go_wp2_with fail
  refine (hn2 _).mono ?_
  rintro e w2 ⟨rfl, rfl⟩
  go_wp2
  go_ret
  exact ⟨rfl, hbox _⟩
end Go.Proofs.YtofkhcgkahkagaaGreat
namespace Go.Proofs.YtofkhcgkahkagaaGreat
open Go.RowKit Go.Proofs.YtofkhcgkahkagaaGreatW.PrintWords Go.Proofs.YtofkhcgkahkagaaGreatW.PrintLast Go.Proofs.YtofkhcgkahkagaaGreatW.PrintMore Go.Proofs.YtofkhcgkahkagaaGreat.PPromiseShort
set_option linter.unusedVariables false
set_option linter.unusedSimpArgs false

/-- How a ledger and a number are returned. -/
def LedEnd2 (l0 : List S165) (l1 : List S172) (l2 : List S176) (ops er : Int) (w : World) (e : Ending) (w' : World) : Prop :=
  ∃ A0 c0 A1 c1 A2 c2, e = .returned (.tuple #[.agg #[.slice A0 l0.length c0, .slice A1 l1.length c1, .slice A2 l2.length c2, .int .i64 ops], .int .i64 er]) ∧ LedgerAt l0 l1 l2 A0 c0 A1 c1 A2 c2 w' ∧ Below w.heap.size w w'
theorem noStr_box (a b d : Option Addr) (i j k i2 j2 k2 : Nat) (o : Int) : NoStr #[.slice a i i2, .slice b j j2, .slice d k k2, .int .i64 o] := noStr_led _ _ _ _ (fun _ h => by cases h) (fun _ h => by cases h) (fun _ h => by cases h) (fun _ h => by cases h)
theorem sum_pair {a b : Int} (h : -9223372036854775808 ≤ a + b ∧ a + b ≤ 9223372036854775807) : sumOf [a + b] = (a + b, 0) := by
  unfold sumOf
  rw [show ([a + b] : List Int).sum = a + b by simp, if_pos h]

section
variable (l0 : List S165) (l1 : List S172) (l2 : List S176) (A0 : Option Addr) (c0 : Nat) (A1 : Option Addr) (c1 : Nat) (A2 : Option Addr) (c2 : Nat) (ops : Int) (w : World)
set_option maxRecDepth 100000 in
set_option maxHeartbeats 2000000 in
theorem does_receive (sku loc : ByteArray) (q : Int) (hq : i64B q) (hL : LedgerAt l0 l1 l2 A0 c0 A1 c1 A2 c2 w) (hl : l0.length ≤ 4000) (hl1 : l1.length ≤ 4000) (hl2 : l2.length ≤ 4000) (hg : i64B (findF l0 (sku, loc)).f2) (hsum : -9223372036854775808 ≤ (findF l0 (sku, loc)).f2 + q ∧ (findF l0 (sku, loc)).f2 + q ≤ 9223372036854775807) :
    Calls Tryz.prog 132 #[.agg #[.slice A0 l0.length c0, .slice A1 l1.length c1, .slice A2 l2.length c2, .int .i64 ops], .agg #[.int .i64 1, .string sku, .string loc, .string ⟨#[]⟩, .int .i64 q, .int .i64 0, .int .i64 0]] w (LedEnd2 (movedS l0 (sku, loc) q) l1 (movedM l2 (sku, loc) q 1 0) ops 0 w) := by
  have hu := Tryz.underlying55
  have huo := Tryz.underlying162
  have hus := Tryz.underlying165
  have hum := Tryz.underlying176
  obtain ⟨W3, hW3⟩ : ∃ W3, ((w.alloc (.cells #[.slice A0 l0.length c0, .slice A1 l1.length c1, .slice A2 l2.length c2, .int .i64 ops] 55)).alloc (.cells #[.int .i64 1, .string sku, .string loc, .string ⟨#[]⟩, .int .i64 q, .int .i64 0, .int .i64 0] 162)).alloc (.cells #[.slice none 0 0, .slice none 0 0, .slice none 0 0, .int .i64 0] 55) = W3 := ⟨_, rfl⟩
  obtain ⟨hB3, g0, g1, g2⟩ : Below w.heap.size w W3 ∧ W3.heap[w.heap.size]? = some (.cells #[.slice A0 l0.length c0, .slice A1 l1.length c1, .slice A2 l2.length c2, .int .i64 ops] 55 (0, 0)) ∧ W3.heap[w.heap.size + 1]? = some (.cells #[.int .i64 1, .string sku, .string loc, .string ⟨#[]⟩, .int .i64 q, .int .i64 0, .int .i64 0] 162 (0, 0)) ∧ W3.heap[w.heap.size + 2]? = some (.cells #[.slice none 0 0, .slice none 0 0, .slice none 0 0, .int .i64 0] 55 (0, 0)) := by rw [← hW3]; exact three_boxes
  have hB := hB3.alloc hB3.size (.cells #[.string sku, .string loc, .int .i64 0, .int .i64 0] 165)
  have h0 := blk_alloc g0 (.cells #[.string sku, .string loc, .int .i64 0, .int .i64 0] 165)
  have h1 := blk_alloc g1 (.cells #[.string sku, .string loc, .int .i64 0, .int .i64 0] 165)
  have h2 := blk_alloc g2 (.cells #[.string sku, .string loc, .int .i64 0, .int .i64 0] 165)
  have h3 := blk_new W3 (.cells #[.string sku, .string loc, .int .i64 0, .int .i64 0] 165)
  have hx1 : W3.cell? ⟨w.heap.size + 1, 1, none⟩ = some (.string sku) := (blk_cell g1 1).trans rfl
  have hx2 : W3.cell? ⟨w.heap.size + 1, 2, none⟩ = some (.string loc) := (blk_cell g1 2).trans rfl
  have hmore := more_calls l0 l1 l2 A0 c0 A1 c1 A2 c2 ops (W3.alloc (.cells #[.string sku, .string loc, .int .i64 0, .int .i64 0] 165)) sku loc q hq (hL.below hB) (by omega) hg
  rw [sum_pair hsum] at hmore
  dsimp only at hmore
  have hmoved := fun V (hV : Below w.heap.size w V) => moved_calls l0 l1 l2 A0 c0 A1 c1 A2 c2 ops V ⟨sku, loc, 0, 0⟩ q ⟨0, ⟨#[]⟩, ⟨#[]⟩, 0, 1, 0⟩ (hL.below hV) (by omega) (by omega)
  unfold stV moV at hmoved
  dsimp only at hmoved
  obtain ⟨R, hR⟩ : ∃ R, movedS l0 (sku, loc) q = R := ⟨_, rfl⟩
  obtain ⟨M, hM⟩ : ∃ M, movedM l2 (sku, loc) q 1 0 = M := ⟨_, rfl⟩
  obtain ⟨t, ht⟩ : ∃ t, (findF l0 (sku, loc)).f2 + q = t := ⟨_, rfl⟩
  rw [hR, hM] at hmoved ⊢
  rw [ht] at hmore
  clear hsum hR hM ht hg
  have hd0 : (W3.alloc (.cells #[.string sku, .string loc, .int .i64 0, .int .i64 0] 165)).cell? ⟨w.heap.size, 0, none⟩ = some (.slice A0 l0.length c0) := (blk_cell h0 0).trans rfl
  have hd1 : (W3.alloc (.cells #[.string sku, .string loc, .int .i64 0, .int .i64 0] 165)).cell? ⟨w.heap.size, 1, none⟩ = some (.slice A1 l1.length c1) := (blk_cell h0 1).trans rfl
  have hd2 : (W3.alloc (.cells #[.string sku, .string loc, .int .i64 0, .int .i64 0] 165)).cell? ⟨w.heap.size, 2, none⟩ = some (.slice A2 l2.length c2) := (blk_cell h0 2).trans rfl
  have hd3 : (W3.alloc (.cells #[.string sku, .string loc, .int .i64 0, .int .i64 0] 165)).cell? ⟨w.heap.size, 3, none⟩ = some (.int .i64 ops) := (blk_cell h0 3).trans rfl
  have hp0 : (W3.alloc (.cells #[.string sku, .string loc, .int .i64 0, .int .i64 0] 165)).cell? ⟨w.heap.size + 1, 0, none⟩ = some (.int .i64 1) := (blk_cell h1 0).trans rfl
  have hp1 : (W3.alloc (.cells #[.string sku, .string loc, .int .i64 0, .int .i64 0] 165)).cell? ⟨w.heap.size + 1, 1, none⟩ = some (.string sku) := (blk_cell h1 1).trans rfl
  have hp2 : (W3.alloc (.cells #[.string sku, .string loc, .int .i64 0, .int .i64 0] 165)).cell? ⟨w.heap.size + 1, 2, none⟩ = some (.string loc) := (blk_cell h1 2).trans rfl
  have hp3 : (W3.alloc (.cells #[.string sku, .string loc, .int .i64 0, .int .i64 0] 165)).cell? ⟨w.heap.size + 1, 3, none⟩ = some (.string ⟨#[]⟩) := (blk_cell h1 3).trans rfl
  have hp4 : (W3.alloc (.cells #[.string sku, .string loc, .int .i64 0, .int .i64 0] 165)).cell? ⟨w.heap.size + 1, 4, none⟩ = some (.int .i64 q) := (blk_cell h1 4).trans rfl
  have hp5 : (W3.alloc (.cells #[.string sku, .string loc, .int .i64 0, .int .i64 0] 165)).cell? ⟨w.heap.size + 1, 5, none⟩ = some (.int .i64 0) := (blk_cell h1 5).trans rfl
  have hp6 : (W3.alloc (.cells #[.string sku, .string loc, .int .i64 0, .int .i64 0] 165)).cell? ⟨w.heap.size + 1, 6, none⟩ = some (.int .i64 0) := (blk_cell h1 6).trans rfl
  have ha0 : (W3.alloc (.cells #[.string sku, .string loc, .int .i64 0, .int .i64 0] 165)).cell? ⟨W3.heap.size, 0, none⟩ = some (.string sku) := (blk_cell h3 0).trans rfl
  have ha1 : (W3.alloc (.cells #[.string sku, .string loc, .int .i64 0, .int .i64 0] 165)).cell? ⟨W3.heap.size, 1, none⟩ = some (.string loc) := (blk_cell h3 1).trans rfl
  have ha2 : (W3.alloc (.cells #[.string sku, .string loc, .int .i64 0, .int .i64 0] 165)).cell? ⟨W3.heap.size, 2, none⟩ = some (.int .i64 0) := (blk_cell h3 2).trans rfl
  have ha3 : (W3.alloc (.cells #[.string sku, .string loc, .int .i64 0, .int .i64 0] 165)).cell? ⟨W3.heap.size, 3, none⟩ = some (.int .i64 0) := (blk_cell h3 3).trans rfl
  go_enter Tryz.func132, Tryz.ntmps132
  go_wp2_with fail
  refine hmore.mono ?_
  clear hmore hW3 hx1 hx2 g0 g1 g2 hd0 hd1 hd2 hd3 hp0 hp1 hp2 hp3 hp4 hp5 hp6 ha0 ha1 ha2 ha3
  rintro e W1 ⟨rfl, hb1⟩
  have k0 := blk_below h0 hb1
  have k1 := blk_below h1 hb1
  have k2 := blk_below h2 hb1
  have k3 := blk_below h3 hb1
  have hB1 := hB.trans (hb1.mono hB.size)
  have hcall := hmoved W1 hB1
  clear hmoved h0 h1 h2 h3
  have hd0 : W1.cell? ⟨w.heap.size, 0, none⟩ = some (.slice A0 l0.length c0) := (blk_cell k0 0).trans rfl
  have hd1 : W1.cell? ⟨w.heap.size, 1, none⟩ = some (.slice A1 l1.length c1) := (blk_cell k0 1).trans rfl
  have hd2 : W1.cell? ⟨w.heap.size, 2, none⟩ = some (.slice A2 l2.length c2) := (blk_cell k0 2).trans rfl
  have hd3 : W1.cell? ⟨w.heap.size, 3, none⟩ = some (.int .i64 ops) := (blk_cell k0 3).trans rfl
  have hp0 : W1.cell? ⟨w.heap.size + 1, 0, none⟩ = some (.int .i64 1) := (blk_cell k1 0).trans rfl
  have hp1 : W1.cell? ⟨w.heap.size + 1, 1, none⟩ = some (.string sku) := (blk_cell k1 1).trans rfl
  have hp2 : W1.cell? ⟨w.heap.size + 1, 2, none⟩ = some (.string loc) := (blk_cell k1 2).trans rfl
  have hp3 : W1.cell? ⟨w.heap.size + 1, 3, none⟩ = some (.string ⟨#[]⟩) := (blk_cell k1 3).trans rfl
  have hp4 : W1.cell? ⟨w.heap.size + 1, 4, none⟩ = some (.int .i64 q) := (blk_cell k1 4).trans rfl
  have hp5 : W1.cell? ⟨w.heap.size + 1, 5, none⟩ = some (.int .i64 0) := (blk_cell k1 5).trans rfl
  have hp6 : W1.cell? ⟨w.heap.size + 1, 6, none⟩ = some (.int .i64 0) := (blk_cell k1 6).trans rfl
  have ha0 : W1.cell? ⟨W3.heap.size, 0, none⟩ = some (.string sku) := (blk_cell k3 0).trans rfl
  have ha1 : W1.cell? ⟨W3.heap.size, 1, none⟩ = some (.string loc) := (blk_cell k3 1).trans rfl
  have ha2 : W1.cell? ⟨W3.heap.size, 2, none⟩ = some (.int .i64 0) := (blk_cell k3 2).trans rfl
  have ha3 : W1.cell? ⟨W3.heap.size, 3, none⟩ = some (.int .i64 0) := (blk_cell k3 3).trans rfl
  go_wp2_with fail
  refine hcall.mono ?_
  clear hcall hd0 hd1 hd2 hd3 hp0 hp1 hp2 hp3 hp4 hp5 hp6 ha0 ha1 ha2 ha3
  rintro e W2 ⟨A, c, A1', c1', A2', c2', rfl, hL2, hb2⟩
  have q2 := blk_below k2 hb2
  have hB2 := below_w hB1 hb2
  have hr0 : W2.cell? ⟨w.heap.size + 1 + 1, 0, none⟩ = some (.slice none 0 0) := (blk_cell q2 0).trans rfl
  have hf0 := blk_frozen q2 0
  have hr1 : W2.cell? ⟨w.heap.size + 1 + 1, 1, none⟩ = some (.slice none 0 0) := (blk_cell q2 1).trans rfl
  have hf1 := blk_frozen q2 1
  have hr2 : W2.cell? ⟨w.heap.size + 1 + 1, 2, none⟩ = some (.slice none 0 0) := (blk_cell q2 2).trans rfl
  have hf2 := blk_frozen q2 2
  have hr3 : W2.cell? ⟨w.heap.size + 1 + 1, 3, none⟩ = some (.int .i64 0) := (blk_cell q2 3).trans rfl
  have hf3 := blk_frozen q2 3
  go_wp2
  refine bodyPost_ret (results_ct rfl _ _ (w.heap.size + 1 + 1) 55 #[.slice A R.length c, .slice A1' l1.length c1', .slice A2' M.length c2', .int .i64 ops] (0, 0) _ rfl (put4_blk q2 _ _ _ _) hu rfl (by kernel_rfl)) rfl ?_
  exact ⟨A, c, A1', c1', A2', c2', rfl, hL2.put4 q2 (noStr_box _ _ _ _ _ _ _ _ _ _) (fun _ h => by cases h) (fun _ h => by cases h) (fun _ h => by cases h), put4_below hB2 (by omega) _ _ _ _⟩
end
end Go.Proofs.YtofkhcgkahkagaaGreat
