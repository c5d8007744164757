/- The reference's Find, more, Free, full. -/
import Derived.Test.YtofkhcgkahkagaaGreatRLed
import Derived.Test.YtofkhcgkahkagaaGreatPCkA
namespace Go.Proofs.YtofkhcgkahkagaaGreat
open Go.RowKit Go.Proofs.YtofkhcgkahkagaaGreatW.PrintWords Go.Proofs.YtofkhcgkahkagaaGreatW.PrintLast Go.Proofs.YtofkhcgkahkagaaGreatW.PrintMore Go.Proofs.YtofkhcgkahkagaaGreat.PPromiseShort
set_option linter.unusedVariables false
set_option linter.unusedSimpArgs false

/-- What Find answers. -/
def findF (l0 : List S165) (p : Plc) : S165 := (l0.find? (fun s => decide (stP s = p))).getD ⟨p.1, p.2, 0, 0⟩
theorem index_loop2 (l0 : List S165) (l1 : List S172) (l2 : List S176) (ops : Int) (a b : ByteArray) (hn : l0.length ≤ 10000) : ∀ d k i : Nat, i + d = l0.length → d < k → ∃ r : Int, quaysideref07_index.l0 k a b (i : Int) l0 l1 l2 ops = some r ∧
    ((r = -1 ∧ (l0.drop i).find? (fun s => decide (stP s = (a, b))) = none) ∨ ∃ j : Nat, ∃ h : j < l0.length, r = j ∧ (l0.drop i).find? (fun s => decide (stP s = (a, b))) = some l0[j]) := by
  intro d
  induction d with
  | zero =>
    intro k i h1 h2
    obtain ⟨k, rfl⟩ : ∃ m, k = m + 1 := ⟨k - 1, by omega⟩
    rw [quaysideref07_index.l0, if_neg (by omega)]
    exact ⟨-1, rfl, .inl ⟨rfl, by rw [List.drop_eq_nil_of_le (by omega)]; rfl⟩⟩
  | succ d ih =>
    intro k i h1 h2
    obtain ⟨k, rfl⟩ : ∃ m, k = m + 1 := ⟨k - 1, by omega⟩
    have hlt : i < l0.length := by omega
    rw [quaysideref07_index.l0, if_pos (by omega), if_pos (by omega), rd_S hlt]
    obtain ⟨r, hr, hiff⟩ := ih k (i + 1) (by omega) (by omega)
    rw [List.drop_eq_getElem_cons hlt]
    rw [wrap_next hlt (by omega)]
    by_cases e : stP l0[i] = (a, b)
    · rw [if_pos (show (l0[i].f0).toList = a.toList from str_eq.2 (Prod.mk.inj e).1), if_pos (show (l0[i].f1).toList = b.toList from str_eq.2 (Prod.mk.inj e).2)]
      exact ⟨(i : Int), rfl, .inr ⟨i, hlt, rfl, by rw [List.find?_cons_of_pos (by simpa using e)]⟩⟩
    · rw [List.find?_cons_of_neg (by simpa using e)]
      by_cases e1 : (l0[i].f0).toList = a.toList
      · rw [if_pos e1, if_neg (show ¬ (l0[i].f1).toList = b.toList from fun e2 => e (Prod.ext (str_eq.1 e1) (str_eq.1 e2)))]
        exact ⟨r, hr, hiff⟩
      · rw [if_neg e1]
        exact ⟨r, hr, hiff⟩
theorem index_law2 (l0 : List S165) (l1 : List S172) (l2 : List S176) (ops : Int) (p : Plc) (hn : l0.length ≤ 10000) : ∃ r : Int, quaysideref07_index.f 10001 l0 l1 l2 ops p.1 p.2 = some r ∧
    ((r = -1 ∧ findF l0 p = ⟨p.1, p.2, 0, 0⟩) ∨ ∃ j : Nat, ∃ h : j < l0.length, r = j ∧ findF l0 p = l0[j]) := by
  obtain ⟨r, h1, h2⟩ := index_loop2 l0 l1 l2 ops p.1 p.2 hn l0.length 10001 0 (by omega) (by omega)
  refine ⟨r, h1, ?_⟩
  rw [List.drop_zero] at h2
  unfold findF
  rcases h2 with ⟨h, e⟩ | ⟨j, h, hr, e⟩
  · exact .inl ⟨h, by rw [e]; rfl⟩
  · exact .inr ⟨j, h, hr, by rw [e]; rfl⟩
/-- Four cells of a block are written. -/
def put4 (W : World) (g : Nat) (a b c d : Value) : World := (((W.setCell ⟨g, 0, none⟩ a).setCell ⟨g, 1, none⟩ b).setCell ⟨g, 2, none⟩ c).setCell ⟨g, 3, none⟩ d
theorem put4_blk {W : World} {g : Nat} {t : TypeId} {x y z u : Value} (h : W.heap[g]? = some (.cells #[x, y, z, u] t (0, 0))) (a b c d : Value) : (put4 W g a b c d).heap[g]? = some (.cells #[a, b, c, d] t (0, 0)) :=
  blk_put (blk_put (blk_put (blk_put h 0 a rfl) 1 b rfl) 2 c rfl) 3 d rfl
theorem put4_below {w W : World} {g : Nat} (h : Below w.heap.size w W) (hg : w.heap.size ≤ g) (a b c d : Value) : Below w.heap.size w (put4 W g a b c d) := below_set (below_set (below_set (below_set h hg) hg) hg) hg
theorem put4_far {W : World} {g j : Nat} {t : TypeId} {cs : Array Value} (h : W.heap[j]? = some (.cells cs t (0, 0))) (hj : j ≠ g) (a b c d : Value) : (put4 W g a b c d).heap[j]? = some (.cells cs t (0, 0)) := blk_far (blk_far (blk_far (blk_far h hj _) hj _) hj _) hj _
/-- A stock as a value. -/
def stV (s : S165) : Value := .agg #[.string s.f0, .string s.f1, .int .i64 s.f2, .int .i64 s.f3]

section
variable (l0 : List S165) (l1 : List S172) (l2 : List S176) (A0 : Option Addr) (c0 : Nat) (A1 : Option Addr) (c1 : Nat) (A2 : Option Addr) (c2 : Nat) (ops : Int) (w : World)
set_option maxRecDepth 100000 in
theorem find_calls (sku loc : ByteArray) (hL : LedgerAt l0 l1 l2 A0 c0 A1 c1 A2 c2 w) (hn : l0.length ≤ 10000) :
    Calls Tryz.prog 175 #[.agg #[.slice A0 l0.length c0, .slice A1 l1.length c1, .slice A2 l2.length c2, .int .i64 ops], .string sku, .string loc] w fun e w' => e = .returned (stV (findF l0 (sku, loc))) ∧ Below w.heap.size w w' := by
  have hu := Tryz.underlying55
  have hus := Tryz.underlying165
  obtain ⟨r, hr, hcase⟩ := index_law2 l0 l1 l2 ops (sku, loc) hn
  have hbox := fun o => (Below.refl w.heap.size w).alloc (Nat.le_refl _) o
  obtain ⟨W0, hW0⟩ : ∃ W0, (w.alloc (.cells #[.slice A0 l0.length c0, .slice A1 l1.length c1, .slice A2 l2.length c2, .int .i64 ops] 55)).alloc (.cells #[.string ⟨#[]⟩, .string ⟨#[]⟩, .int .i64 0, .int .i64 0] 165) = W0 := ⟨_, rfl⟩
  have hL0 : CkL w A0 l0.length c0 A1 l1.length c1 A2 l2.length c2 ops W0 := by
    rw [← hW0]
    exact ⟨(hbox _).alloc (by simp) _, (heap_alloc_old _ _ (by simp)).trans (heap_alloc_new w _)⟩
  have hB : W0.heap[w.heap.size + 1]? = some (.cells #[.string ⟨#[]⟩, .string ⟨#[]⟩, .int .i64 0, .int .i64 0] 165 (0, 0)) := by
    rw [← hW0]
    have := heap_alloc_new (w.alloc (.cells #[.slice A0 l0.length c0, .slice A1 l1.length c1, .slice A2 l2.length c2, .int .i64 ops] 55)) (.cells #[.string ⟨#[]⟩, .string ⟨#[]⟩, .int .i64 0, .int .i64 0] 165)
    rwa [World.size_alloc] at this
  have hd0 : W0.cell? ⟨w.heap.size, 0, none⟩ = some (.slice A0 l0.length c0) := (blk_cell hL0.led 0).trans rfl
  have hd1 : W0.cell? ⟨w.heap.size, 1, none⟩ = some (.slice A1 l1.length c1) := (blk_cell hL0.led 1).trans rfl
  have hd2 : W0.cell? ⟨w.heap.size, 2, none⟩ = some (.slice A2 l2.length c2) := (blk_cell hL0.led 2).trans rfl
  have hd3 : W0.cell? ⟨w.heap.size, 3, none⟩ = some (.int .i64 ops) := (blk_cell hL0.led 3).trans rfl
  have hLW := hL.below hL0.low
  have hcall := quaysideref07_index.calls 10001 A0 c0 l0 A1 c1 l1 A2 c2 l2 ops sku loc r W0 hLW.r0 hLW.h0 hLW.r1 hLW.h1 hLW.r2 hLW.h2 hr
  clear hbox hr hLW
  go_enter Tryz.func175, Tryz.ntmps175
  go_wp2_with fail
  refine hcall.mono ?_
  clear hcall hW0 hd0 hd1 hd2 hd3
  rintro e W1 ⟨rfl, hb1⟩
  have hLw := hL0.below hb1
  have hB1 : W1.heap[w.heap.size + 1]? = some (.cells #[.string ⟨#[]⟩, .string ⟨#[]⟩, .int .i64 0, .int .i64 0] 165 (0, 0)) := (hb1.block _ (blk_lt hB)).trans hB
  have hd0 : W1.cell? ⟨w.heap.size, 0, none⟩ = some (.slice A0 l0.length c0) := (blk_cell hLw.led 0).trans rfl
  have he0 : W1.cell? ⟨w.heap.size + 1, 0, none⟩ = some (.string ⟨#[]⟩) := (blk_cell hB1 0).trans rfl
  have he1 : W1.cell? ⟨w.heap.size + 1, 1, none⟩ = some (.string ⟨#[]⟩) := (blk_cell hB1 1).trans rfl
  have he2 : W1.cell? ⟨w.heap.size + 1, 2, none⟩ = some (.int .i64 0) := (blk_cell hB1 2).trans rfl
  have he3 : W1.cell? ⟨w.heap.size + 1, 3, none⟩ = some (.int .i64 0) := (blk_cell hB1 3).trans rfl
  have hz0 := blk_frozen hB1 0
  have hz1 := blk_frozen hB1 1
  have hz2 := blk_frozen hB1 2
  have hz3 := blk_frozen hB1 3
  have hC := Kd.C_below hL.r0 hLw.low
  clear hb1 hL0 hB
  rcases hcase with ⟨rfl, hf⟩ | ⟨j, hj, rfl, hf⟩
  · have Hf := Lib.hid hf
    clear hf
    go_wp2
    refine bodyPost_ret (results_cell_row rfl _ _ (w.heap.size + 1) 165 #[.string sku, .string loc, .int .i64 0, .int .i64 0] (0, 0) _ rfl (put4_blk hB1 _ _ _ _) hus rfl (by kernel_rfl)) rfl ?_
    exact ⟨by rw [Hf.out]; rfl, put4_below hLw.low (by omega) _ _ _ _⟩
  · have h1 : (0 : Int) ≤ (j : Int) := Int.natCast_nonneg _
    have h2 : (j : Int) < (l0.length : Int) := by omega
    have hdj : decide ((0 : Int) ≤ (j : Int)) = true := decide_eq_true h1
    obtain ⟨ad, rfl, hx0, hx1, hx2, hx3⟩ := at_T165 hC j h1 h2
    rw [Int.toNat_natCast, rd_S hj] at hx0 hx1 hx2 hx3
    obtain ⟨s, hs⟩ : ∃ s, l0[j] = s := ⟨_, rfl⟩
    rw [hs] at hx0 hx1 hx2 hx3 hf
    have Hf := Lib.hid hf
    clear hf hs
    go_wp2
    refine bodyPost_ret (results_cell_row rfl _ _ (w.heap.size + 1) 165 #[.string s.f0, .string s.f1, .int .i64 s.f2, .int .i64 s.f3] (0, 0) _ rfl (put4_blk hB1 _ _ _ _) hus rfl (by kernel_rfl)) rfl ?_
    exact ⟨by rw [Hf.out]; rfl, put4_below hLw.low (by omega) _ _ _ _⟩
end
end Go.Proofs.YtofkhcgkahkagaaGreat

