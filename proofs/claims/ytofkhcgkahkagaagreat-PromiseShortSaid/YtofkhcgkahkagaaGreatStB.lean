/- The reference's Add, Sub, more, Free, full. -/
import Derived.Test.YtofkhcgkahkagaaGreatStA
import Derived.Test.YtofkhcgkahkagaaGreatRSum
namespace Go.Proofs.YtofkhcgkahkagaaGreat
open Go.RowKit Go.Proofs.YtofkhcgkahkagaaGreatW.PrintWords Go.Proofs.YtofkhcgkahkagaaGreatW.PrintLast Go.Proofs.YtofkhcgkahkagaaGreatW.PrintMore Go.Proofs.YtofkhcgkahkagaaGreat.PPromiseShort
set_option linter.unusedVariables false
set_option linter.unusedSimpArgs false

theorem number_law (hi lo n : Int) (h1 : 0 ≤ lo ∧ lo < 4611686018427387904) (h : hi * 4611686018427387904 + lo = n) : quaysideref01_number.f hi lo = some (sumOf [n]) := by
  unfold quaysideref01_number.f sumOf
  have e : ([n] : List Int).sum = n := by simp
  rw [e]
  by_cases c1 : hi < -2
  · rw [if_pos c1, if_neg (by omega)]
  · rw [if_neg c1]
    by_cases c2 : hi > 1
    · rw [if_pos c2, if_neg (by omega)]
    · rw [if_neg c2, bits_or62 hi lo (by omega) h1, h, if_pos (by omega)]
theorem of_law (a : Int) : quaysideref01_of.f a = some (a / 4611686018427387904, a % 4611686018427387904) := by unfold quaysideref01_of.f; rw [bits_and62]

set_option maxRecDepth 100000 in
theorem radd_calls (a b : Int) (ha : i64B a) (hb : i64B b) (w : World) :
    Calls Tryz.prog 215 #[.int .i64 a, .int .i64 b] w fun e w' => e = .returned (.tuple #[.int .i64 (sumOf [a + b]).1, .int .i64 (sumOf [a + b]).2]) ∧ Below w.heap.size w w' := by
  obtain ⟨h', lo', hp, hs, g1, g2, _, _⟩ := rsum_arith (a / 4611686018427387904) (a % 4611686018427387904) b (by omega) (by obtain ⟨h1, h2⟩ := ha; omega) hb
  have hn := number_law h' lo' (a + b) ⟨g1, g2⟩ (by omega)
  obtain ⟨⟨r1, r2⟩, hr⟩ : ∃ r, sumOf [a + b] = r := ⟨_, rfl⟩
  rw [hr] at hn ⊢
  dsimp only
  clear hr
  go_enter Tryz.func215, Tryz.ntmps215
  go_wp2_with fail
  refine (quaysideref01_of.calls a _ _ _ (of_law a)).mono ?_
  rintro e w1 ⟨rfl, hb1⟩
  go_wp2_with fail
  refine (quaysideref01_of.calls b _ _ _ (of_law b)).mono ?_
  rintro e w2 ⟨rfl, hb2⟩
  go_wp2_with fail
  refine (quaysideref01_plus.calls _ _ _ _ _ _ _ hp).mono ?_
  rintro e w3 ⟨rfl, hb3⟩
  go_wp2_with fail
  refine (quaysideref01_number.calls _ _ _ _ _ hn).mono ?_
  rintro e w4 ⟨rfl, hb4⟩
  go_wp2
  go_ret2
  exact ⟨rfl, below_w (below_w (below_w hb1 hb2) hb3) hb4⟩

/-- What less answers. -/
def lessF (x : Int × Int) : Int × Int := if x.2 = 0 then (wrap64 (-x.1), 0) else (wrap64 (wrap64 (-x.1) - 1), wrap64 (4611686018427387904 - x.2))
theorem put2_blk {W : World} {g : Nat} {t : TypeId} {x y : Value} (h : W.heap[g]? = some (.cells #[x, y] t (0, 0))) (a b : Value) : ((W.setCell ⟨g, 0, none⟩ a).setCell ⟨g, 1, none⟩ b).heap[g]? = some (.cells #[a, b] t (0, 0)) :=
  blk_put (blk_put h 0 a rfl) 1 b rfl
theorem two_boxes {w : World} {a b : Array Value} {s t : TypeId} : Below w.heap.size w ((w.alloc (.cells a s (0, 0))).alloc (.cells b t (0, 0))) ∧ ((w.alloc (.cells a s (0, 0))).alloc (.cells b t (0, 0))).heap[w.heap.size]? = some (.cells a s (0, 0)) ∧ ((w.alloc (.cells a s (0, 0))).alloc (.cells b t (0, 0))).heap[w.heap.size + 1]? = some (.cells b t (0, 0)) := by
  refine ⟨((Below.refl w.heap.size w).alloc (Nat.le_refl _) _).alloc (by simp) _, (heap_alloc_old _ _ (by simp)).trans (heap_alloc_new w _), ?_⟩
  have := heap_alloc_new (w.alloc (.cells a s (0, 0))) (.cells b t (0, 0))
  rwa [World.size_alloc] at this
set_option maxRecDepth 100000 in
theorem less_calls (x y : Int) (w : World) :
    Calls Tryz.prog 232 #[.agg #[.int .i64 x, .int .i64 y]] w fun e w' => e = .returned (.agg #[.int .i64 (lessF (x, y)).1, .int .i64 (lessF (x, y)).2]) ∧ Below w.heap.size w w' := by
  have hu := Tryz.underlying279
  obtain ⟨W0, hW0⟩ : ∃ W0, (w.alloc (.cells #[.int .i64 x, .int .i64 y] 279)).alloc (.cells #[.int .i64 0, .int .i64 0] 279) = W0 := ⟨_, rfl⟩
  obtain ⟨hB, h0, h1⟩ : Below w.heap.size w W0 ∧ W0.heap[w.heap.size]? = some (.cells #[.int .i64 x, .int .i64 y] 279 (0, 0)) ∧ W0.heap[w.heap.size + 1]? = some (.cells #[.int .i64 0, .int .i64 0] 279 (0, 0)) := by rw [← hW0]; exact two_boxes
  have hd0 : W0.cell? ⟨w.heap.size, 0, none⟩ = some (.int .i64 x) := (blk_cell h0 0).trans rfl
  have hd1 : W0.cell? ⟨w.heap.size, 1, none⟩ = some (.int .i64 y) := (blk_cell h0 1).trans rfl
  have he0 : W0.cell? ⟨w.heap.size + 1, 0, none⟩ = some (.int .i64 0) := (blk_cell h1 0).trans rfl
  have he1 : W0.cell? ⟨w.heap.size + 1, 1, none⟩ = some (.int .i64 0) := (blk_cell h1 1).trans rfl
  have hz0 := blk_frozen h1 0
  have hz1 := blk_frozen h1 1
  go_enter Tryz.func232, Tryz.ntmps232
  by_cases c : y = 0
  · have hcb : (y == 0) = true := by rw [c]; rfl
    have hl := Lib.hid (show lessF (x, y) = (wrap64 (-x), 0) from if_pos c)
    clear c
    go_wp2
    refine bodyPost_ret (results_cell_row rfl _ _ (w.heap.size + 1) 279 #[.int .i64 (wrap64 (-x)), .int .i64 0] (0, 0) _ rfl (put2_blk h1 _ _) hu rfl (by kernel_rfl)) rfl ?_
    exact ⟨by rw [hl.out], below_set (below_set hB (by omega)) (by omega)⟩
  · have hcb : (y == 0) = false := by simpa using c
    have hl := Lib.hid (show lessF (x, y) = (wrap64 (wrap64 (-x) - 1), wrap64 (4611686018427387904 - y)) from if_neg c)
    clear c
    go_wp2
    refine bodyPost_ret (results_cell_row rfl _ _ (w.heap.size + 1) 279 #[.int .i64 (wrap64 (wrap64 (-x) - 1)), .int .i64 (wrap64 (4611686018427387904 - y))] (0, 0) _ rfl (put2_blk h1 _ _) hu rfl (by kernel_rfl)) rfl ?_
    exact ⟨by rw [hl.out], below_set (below_set hB (by omega)) (by omega)⟩
theorem less_law (b : Int) (hb : i64B b) : ∃ h lo, lessF (b / 4611686018427387904, b % 4611686018427387904) = (h, lo) ∧ h * 4611686018427387904 + lo = -b ∧ 0 ≤ lo ∧ lo < 4611686018427387904 ∧ -2 ≤ h ∧ h ≤ 2 := by
  obtain ⟨h1, h2⟩ := hb
  unfold lessF
  by_cases c : b % 4611686018427387904 = 0
  · rw [if_pos c]
    refine ⟨_, _, rfl, ?_⟩
    rw [show wrap64 (-(b / 4611686018427387904)) = -(b / 4611686018427387904) from by unfold wrap64; omega]
    omega
  · rw [if_neg c]
    refine ⟨_, _, rfl, ?_⟩
    rw [show wrap64 (-(b / 4611686018427387904)) = -(b / 4611686018427387904) from by unfold wrap64; omega,
      show wrap64 (-(b / 4611686018427387904) - 1) = -(b / 4611686018427387904) - 1 from by unfold wrap64; omega,
      show wrap64 (4611686018427387904 - b % 4611686018427387904) = 4611686018427387904 - b % 4611686018427387904 from by unfold wrap64; omega]
    omega
/-- plus of a split number that is small and one that may be a negated one. -/
theorem plus_law (h1 l1 h2 l2 : Int) (g1 : 0 ≤ l1 ∧ l1 < 4611686018427387904) (g2 : 0 ≤ l2 ∧ l2 < 4611686018427387904) (b1 : -4611686018427387904 ≤ h1 ∧ h1 ≤ 4611686018427387904) (b2 : -4 ≤ h2 ∧ h2 ≤ 4) :
    ∃ h lo, quaysideref01_plus.f h1 l1 h2 l2 = some (h, lo) ∧ h * 4611686018427387904 + lo = h1 * 4611686018427387904 + l1 + (h2 * 4611686018427387904 + l2) ∧ 0 ≤ lo ∧ lo < 4611686018427387904 := by
  unfold quaysideref01_plus.f
  have e1 : wrap64 (l1 - 4611686018427387904) = l1 - 4611686018427387904 := by unfold wrap64; omega
  have e2 : wrap64 (l1 - 4611686018427387904 + l2) = l1 - 4611686018427387904 + l2 := by unfold wrap64; omega
  rw [e1, e2]
  split
  · refine ⟨_, _, rfl, ?_⟩
    have : wrap64 (wrap64 (h1 + h2) + 1) = h1 + h2 + 1 := by unfold wrap64; omega
    rw [this]
    omega
  · refine ⟨_, _, rfl, ?_⟩
    have : wrap64 (h1 + h2) = h1 + h2 := by unfold wrap64; omega
    have e3 : wrap64 (l1 - 4611686018427387904 + l2 + 4611686018427387904) = l1 + l2 := by unfold wrap64; omega
    rw [this, e3]
    omega

set_option maxRecDepth 100000 in
theorem rsub_calls (a b : Int) (ha : i64B a) (hb : i64B b) (w : World) :
    Calls Tryz.prog 217 #[.int .i64 a, .int .i64 b] w fun e w' => e = .returned (.tuple #[.int .i64 (sumOf [a - b]).1, .int .i64 (sumOf [a - b]).2]) ∧ Below w.heap.size w w' := by
  obtain ⟨hl, ll, hle, hls, g1, g2, g3, g4⟩ := less_law b hb
  obtain ⟨h', lo', hp, hs, g5, g6⟩ := plus_law (a / 4611686018427387904) (a % 4611686018427387904) hl ll (by omega) ⟨g1, g2⟩ (by obtain ⟨h1, h2⟩ := ha; omega) (by omega)
  have hn := number_law h' lo' (a - b) ⟨g5, g6⟩ (by omega)
  obtain ⟨⟨r1, r2⟩, hr⟩ : ∃ r, sumOf [a - b] = r := ⟨_, rfl⟩
  rw [hr] at hn ⊢
  dsimp only
  clear hr
  go_enter Tryz.func217, Tryz.ntmps217
  go_wp2_with fail
  refine (quaysideref01_of.calls a _ _ _ (of_law a)).mono ?_
  rintro e w1 ⟨rfl, hb1⟩
  go_wp2_with fail
  refine (quaysideref01_of.calls b _ _ _ (of_law b)).mono ?_
  rintro e w2 ⟨rfl, hb2⟩
  go_wp2_with fail
  have hc := less_calls (b / 4611686018427387904) (b % 4611686018427387904) w2
  rw [hle] at hc
  refine hc.mono ?_
  rintro e w3 ⟨rfl, hb3⟩
  go_wp2_with fail
  refine (quaysideref01_plus.calls _ _ _ _ _ _ _ hp).mono ?_
  rintro e w4 ⟨rfl, hb4⟩
  go_wp2_with fail
  refine (quaysideref01_number.calls _ _ _ _ _ hn).mono ?_
  rintro e w5 ⟨rfl, hb5⟩
  go_wp2
  go_ret2
  exact ⟨rfl, below_w (below_w (below_w (below_w hb1 hb2) hb3) hb4) hb5⟩
theorem field_st (s : S165) (V : World) : (Instr.field 165 (.agg #[.string s.f0, .string s.f1, .int .i64 s.f2, .int .i64 s.f3]) 2).run Tryz.prog V = .ok (.int .i64 s.f2) V := by kernel_rfl

section
variable (l0 : List S165) (l1 : List S172) (l2 : List S176) (A0 : Option Addr) (c0 : Nat) (A1 : Option Addr) (c1 : Nat) (A2 : Option Addr) (c2 : Nat) (ops : Int) (w : World)
set_option maxRecDepth 100000 in
theorem more_calls (sku loc : ByteArray) (n : Int) (hn : i64B n) (hL : LedgerAt l0 l1 l2 A0 c0 A1 c1 A2 c2 w) (hl : l0.length ≤ 10000) (hg : i64B (findF l0 (sku, loc)).f2) :
    Calls Tryz.prog 169 #[.agg #[.slice A0 l0.length c0, .slice A1 l1.length c1, .slice A2 l2.length c2, .int .i64 ops], .string sku, .string loc, .int .i64 n] w fun e w' => e = .returned (.tuple #[.int .i64 (sumOf [(findF l0 (sku, loc)).f2 + n]).1, .int .i64 (sumOf [(findF l0 (sku, loc)).f2 + n]).2]) ∧ Below w.heap.size w w' := by
  have hu := Tryz.underlying55
  have hus := Tryz.underlying165
  have hbox := fun o => (Below.refl w.heap.size w).alloc (Nat.le_refl _) o
  obtain ⟨W0, hW0⟩ : ∃ W0, w.alloc (.cells #[.slice A0 l0.length c0, .slice A1 l1.length c1, .slice A2 l2.length c2, .int .i64 ops] 55) = W0 := ⟨_, rfl⟩
  have hL0 : CkL w A0 l0.length c0 A1 l1.length c1 A2 l2.length c2 ops W0 := by rw [← hW0]; exact ⟨hbox _, heap_alloc_new w _⟩
  have hd0 : W0.cell? ⟨w.heap.size, 0, none⟩ = some (.slice A0 l0.length c0) := (blk_cell hL0.led 0).trans rfl
  have hd1 : W0.cell? ⟨w.heap.size, 1, none⟩ = some (.slice A1 l1.length c1) := (blk_cell hL0.led 1).trans rfl
  have hd2 : W0.cell? ⟨w.heap.size, 2, none⟩ = some (.slice A2 l2.length c2) := (blk_cell hL0.led 2).trans rfl
  have hd3 : W0.cell? ⟨w.heap.size, 3, none⟩ = some (.int .i64 ops) := (blk_cell hL0.led 3).trans rfl
  have hcall := find_calls l0 l1 l2 A0 c0 A1 c1 A2 c2 ops W0 sku loc (hL.below hL0.low) hl
  obtain ⟨s, hs⟩ : ∃ s, findF l0 (sku, loc) = s := ⟨_, rfl⟩
  rw [hs] at hcall hg ⊢
  unfold stV at hcall
  have hadd := fun V => radd_calls s.f2 n hg hn V
  obtain ⟨⟨r1, r2⟩, hr⟩ : ∃ r, sumOf [s.f2 + n] = r := ⟨_, rfl⟩
  rw [hr] at hadd ⊢
  dsimp only at *
  clear hbox hr hs
  go_enter Tryz.func169, Tryz.ntmps169
  go_wp2_with fail
  refine hcall.mono ?_
  clear hcall hW0 hd0 hd1 hd2 hd3
  rintro e W1 ⟨rfl, hb1⟩
  have hLw := hL0.below hb1
  have hfd := field_st s W1
  go_wp2_with fail
  refine (hadd _).mono ?_
  rintro e W2 ⟨rfl, hb2⟩
  go_wp2
  go_ret2
  exact ⟨rfl, below_w hLw.low hb2⟩
set_option maxRecDepth 100000 in
theorem full_calls (hl : l0.length ≤ 4096 ∧ l1.length ≤ 4096 ∧ l2.length ≤ 4096) :
    Calls Tryz.prog 133 #[.agg #[.slice A0 l0.length c0, .slice A1 l1.length c1, .slice A2 l2.length c2, .int .i64 ops]] w fun e w' => e = .returned (.bool false) ∧ Below w.heap.size w w' := by
  have hu := Tryz.underlying55
  have hbox := fun o => (Below.refl w.heap.size w).alloc (Nat.le_refl _) o
  obtain ⟨W0, hW0⟩ : ∃ W0, w.alloc (.cells #[.slice A0 l0.length c0, .slice A1 l1.length c1, .slice A2 l2.length c2, .int .i64 ops] 55) = W0 := ⟨_, rfl⟩
  have hL0 : CkL w A0 l0.length c0 A1 l1.length c1 A2 l2.length c2 ops W0 := by rw [← hW0]; exact ⟨hbox _, heap_alloc_new w _⟩
  have hd0 : W0.cell? ⟨w.heap.size, 0, none⟩ = some (.slice A0 l0.length c0) := (blk_cell hL0.led 0).trans rfl
  have hd1 : W0.cell? ⟨w.heap.size, 1, none⟩ = some (.slice A1 l1.length c1) := (blk_cell hL0.led 1).trans rfl
  have hd2 : W0.cell? ⟨w.heap.size, 2, none⟩ = some (.slice A2 l2.length c2) := (blk_cell hL0.led 2).trans rfl
  have e0 : decide ((4096 : Int) < (l0.length : Int)) = false := decide_eq_false (by omega)
  have e1 : decide ((4096 : Int) < (l1.length : Int)) = false := decide_eq_false (by omega)
  have e2 : decide ((4096 : Int) < (l2.length : Int)) = false := decide_eq_false (by omega)
  clear hbox hl
  go_enter Tryz.func133, Tryz.ntmps133
  go_wp2
  go_ret
  exact ⟨rfl, hL0.low⟩
set_option maxRecDepth 100000 in
theorem rFree_calls (sku loc : ByteArray) (hL : LedgerAt l0 l1 l2 A0 c0 A1 c1 A2 c2 w) (hl : l0.length ≤ 10000) (hg : i64B (findF l0 (sku, loc)).f2 ∧ i64B (findF l0 (sku, loc)).f3) :
    Calls Tryz.prog 171 #[.agg #[.slice A0 l0.length c0, .slice A1 l1.length c1, .slice A2 l2.length c2, .int .i64 ops], .string sku, .string loc] w fun e w' => e = .returned (.int .i64 (sumOf [(findF l0 (sku, loc)).f2 - (findF l0 (sku, loc)).f3]).1) ∧ Below w.heap.size w w' := by
  have hu := Tryz.underlying55
  have hus := Tryz.underlying165
  have hbox := fun o => (Below.refl w.heap.size w).alloc (Nat.le_refl _) o
  obtain ⟨W0, hW0⟩ : ∃ W0, w.alloc (.cells #[.slice A0 l0.length c0, .slice A1 l1.length c1, .slice A2 l2.length c2, .int .i64 ops] 55) = W0 := ⟨_, rfl⟩
  have hL0 : CkL w A0 l0.length c0 A1 l1.length c1 A2 l2.length c2 ops W0 := by rw [← hW0]; exact ⟨hbox _, heap_alloc_new w _⟩
  have hd0 : W0.cell? ⟨w.heap.size, 0, none⟩ = some (.slice A0 l0.length c0) := (blk_cell hL0.led 0).trans rfl
  have hd1 : W0.cell? ⟨w.heap.size, 1, none⟩ = some (.slice A1 l1.length c1) := (blk_cell hL0.led 1).trans rfl
  have hd2 : W0.cell? ⟨w.heap.size, 2, none⟩ = some (.slice A2 l2.length c2) := (blk_cell hL0.led 2).trans rfl
  have hd3 : W0.cell? ⟨w.heap.size, 3, none⟩ = some (.int .i64 ops) := (blk_cell hL0.led 3).trans rfl
  have hcall := find_calls l0 l1 l2 A0 c0 A1 c1 A2 c2 ops W0 sku loc (hL.below hL0.low) hl
  obtain ⟨s, hs⟩ : ∃ s, findF l0 (sku, loc) = s := ⟨_, rfl⟩
  rw [hs] at hcall hg ⊢
  unfold stV at hcall
  have hsub := fun V => rsub_calls s.f2 s.f3 hg.1 hg.2 V
  obtain ⟨⟨r1, r2⟩, hr⟩ : ∃ r, sumOf [s.f2 - s.f3] = r := ⟨_, rfl⟩
  rw [hr] at hsub ⊢
  dsimp only at *
  clear hbox hr hs
  go_enter Tryz.func171, Tryz.ntmps171
  go_wp2_with fail
  refine hcall.mono ?_
  clear hcall hW0 hd0 hd1 hd2 hd3
  rintro e W1 ⟨rfl, hb1⟩
  have hLw := hL0.below hb1
  go_wp2_with fail
  refine (hsub _).mono ?_
  rintro e W2 ⟨rfl, hb2⟩
  go_wp2
  go_ret
  exact ⟨rfl, below_w (hLw.low.alloc hLw.low.size _) hb2⟩
end
end Go.Proofs.YtofkhcgkahkagaaGreat

