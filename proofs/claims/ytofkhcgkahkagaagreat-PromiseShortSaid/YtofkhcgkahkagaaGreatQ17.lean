/- Contracts of the reference's functions, printed by print.sh for PromiseShort, cut by a program to those that the claim uses. -/
import Derived.Test.YtofkhcgkahkagaaGreatQ0
import Derived.Test.YtofkhcgkahkagaaGreatQ2
import Derived.Test.YtofkhcgkahkagaaGreatQ4
namespace Go.Proofs.YtofkhcgkahkagaaGreat.PPromiseShort
open Go.RowKit Go.Proofs.YtofkhcgkahkagaaGreatW.PrintWords Go.Proofs.YtofkhcgkahkagaaGreatW.PrintLast Go.Proofs.YtofkhcgkahkagaaGreatW.PrintMore
attribute [local go_sem] max2_int min2_int max_two min_two max_three min_three max_four min_four   -- for this text's walks alone
set_option linter.unusedVariables false
set_option linter.unusedSimpArgs false

/-! ### quaysideref07_holds: function 93 -/
mutual
def quaysideref07_holds.l0 : Nat → Int → List (S165) → List (S172) → List (S176) → Int → Option (Bool)
  | 0, _, _, _, _, _ => none
  | k + 1, x3, x595000, x595001, x595002, x595003 => if x3 < (x595001.length : Int) then (if 0 ≤ x3 then (if (wrap64 (((rd_T172 x595001 x3).f0) - 1)) = x3 then ((quaysideref06_Name.f ((rd_T172 x595001 x3).f1)).bind fun t597 => (if t597 = true then ((quaysideref06_Name.f ((rd_T172 x595001 x3).f2)).bind fun t598 => (if t598 = true then (if ((rd_T172 x595001 x3).f3) < 1 then (quaysideref07_holds.j1 k x3 true x595000 x595001 x595002 x595003 ((rd_T172 x595001 x3).f0) ((rd_T172 x595001 x3).f1) ((rd_T172 x595001 x3).f2) ((rd_T172 x595001 x3).f3) ((rd_T172 x595001 x3).f4) ((rd_T172 x595001 x3).f5)) else (if ((rd_T172 x595001 x3).f4) < 0 then (quaysideref07_holds.j1 k x3 true x595000 x595001 x595002 x595003 ((rd_T172 x595001 x3).f0) ((rd_T172 x595001 x3).f1) ((rd_T172 x595001 x3).f2) ((rd_T172 x595001 x3).f3) ((rd_T172 x595001 x3).f4) ((rd_T172 x595001 x3).f5)) else (if ((rd_T172 x595001 x3).f4) > 2 then (quaysideref07_holds.j1 k x3 true x595000 x595001 x595002 x595003 ((rd_T172 x595001 x3).f0) ((rd_T172 x595001 x3).f1) ((rd_T172 x595001 x3).f2) ((rd_T172 x595001 x3).f3) ((rd_T172 x595001 x3).f4) ((rd_T172 x595001 x3).f5)) else (quaysideref07_holds.j1 k x3 (decide (((rd_T172 x595001 x3).f5) < 0)) x595000 x595001 x595002 x595003 ((rd_T172 x595001 x3).f0) ((rd_T172 x595001 x3).f1) ((rd_T172 x595001 x3).f2) ((rd_T172 x595001 x3).f3) ((rd_T172 x595001 x3).f4) ((rd_T172 x595001 x3).f5))))) else (quaysideref07_holds.j1 k x3 true x595000 x595001 x595002 x595003 ((rd_T172 x595001 x3).f0) ((rd_T172 x595001 x3).f1) ((rd_T172 x595001 x3).f2) ((rd_T172 x595001 x3).f3) ((rd_T172 x595001 x3).f4) ((rd_T172 x595001 x3).f5)))) else (quaysideref07_holds.j1 k x3 true x595000 x595001 x595002 x595003 ((rd_T172 x595001 x3).f0) ((rd_T172 x595001 x3).f1) ((rd_T172 x595001 x3).f2) ((rd_T172 x595001 x3).f3) ((rd_T172 x595001 x3).f4) ((rd_T172 x595001 x3).f5)))) else (quaysideref07_holds.j1 k x3 true x595000 x595001 x595002 x595003 ((rd_T172 x595001 x3).f0) ((rd_T172 x595001 x3).f1) ((rd_T172 x595001 x3).f2) ((rd_T172 x595001 x3).f3) ((rd_T172 x595001 x3).f4) ((rd_T172 x595001 x3).f5))) else (none)) else (some true)
def quaysideref07_holds.j1 : Nat → Int → Bool → List (S165) → List (S172) → List (S176) → Int → Int → ByteArray → ByteArray → Int → Int → Int → Option (Bool)
  | 0, _, _, _, _, _, _, _, _, _, _, _, _ => none
  | k + 1, x3, x53, x595000, x595001, x595002, x595003, x597000, x597001, x597002, x597003, x597004, x597005 => if x53 = true then (some false) else (if x597004 = 0 then ((quaysideref07_index.f k x595000 x595001 x595002 x595003 x597001 x597002).bind fun t599 => (if t599 < 0 then (some false) else (quaysideref07_holds.l0 k (wrap64 (x3 + 1)) x595000 x595001 x595002 x595003))) else (quaysideref07_holds.l0 k (wrap64 (x3 + 1)) x595000 x595001 x595002 x595003))
end
def quaysideref07_holds.f (k : Nat) (l0_0 : List (S165)) (l0_1 : List (S172)) (l0_2 : List (S176)) (a0_3 : Int) : Option (Bool) := quaysideref07_holds.l0 k 0 l0_0 l0_1 l0_2 a0_3
set_option maxHeartbeats 8000000 in
set_option maxRecDepth 100000 in
theorem quaysideref07_holds.calls (k : Nat) (A0_0 : Option Addr) (c0_0 : Nat) (l0_0 : List (S165)) (A0_1 : Option Addr) (c0_1 : Nat) (l0_1 : List (S172)) (A0_2 : Option Addr) (c0_2 : Nat) (l0_2 : List (S176)) (a0_3 : Int) (r : Bool) (w : World) (hr0_0 : Kd.C k165 w A0_0 l0_0.length l0_0) (hc0_0 : l0_0.length ≤ c0_0) (hr0_1 : Kd.C k172 w A0_1 l0_1.length l0_1) (hc0_1 : l0_1.length ≤ c0_1) (hr0_2 : Kd.C k176 w A0_2 l0_2.length l0_2) (hc0_2 : l0_2.length ≤ c0_2) (h : quaysideref07_holds.f k l0_0 l0_1 l0_2 a0_3 = some r) :
    Calls Tryz.prog 93 #[.agg #[.slice A0_0 l0_0.length c0_0, .slice A0_1 l0_1.length c0_1, .slice A0_2 l0_2.length c0_2, .int .i64 a0_3]] w fun e w' => e = .returned (.bool r) ∧ Below w.heap.size w w' := by
  have hu55 := Tryz.underlying55
  have hu172 := Tryz.underlying172
  have HR0_0 := Aside0.mk hr0_0
  have HC0_0 := Aside0.mk hc0_0
  clear hr0_0 hc0_0
  have HR0_1 := Aside0.mk hr0_1
  have HC0_1 := Aside0.mk hc0_1
  clear hr0_1 hc0_1
  have HR0_2 := Aside0.mk hr0_2
  have HC0_2 := Aside0.mk hc0_2
  clear hr0_2 hc0_2
  have HB := Aside0.mk (Below.refl w.heap.size w)
  have H : (quaysideref07_holds.l0 k 0 l0_0 l0_1 l0_2 a0_3) = some r := h
  clear h
  have H' := Aside0.mk H
  clear H
  go_enter Tryz.func93, Tryz.ntmps93
  go_wp2_with (first | ((with_reducible refine gate_dst (N := 1) rfl ?_); refine box_event ?hg (N := 1) ?hd (cs := #[.slice A0_0 l0_0.length c0_0, .slice A0_1 l0_1.length c0_1, .slice A0_2 l0_2.length c0_2, .int .i64 a0_3]) (t := 55) ?hr ?_; (case hd => rfl); (case hg => rfl); (case hr => first | (go_simp; done) | (go_simp; rfl)); intro gb594 hg w2 hbox hb; have n0_ := Aside0.mk (below_step (by repeat (first | (with_reducible first | exact HB.out | apply below_alloc | apply pw_below_drewN | apply below_drew1) | exact HB.out)) hb); have n1_ := Aside0.mk (hbox); have n2_ := Aside0.mk ((by rw [hg]; exact (below_size (by repeat (first | (with_reducible first | exact HB.out | apply below_alloc | apply pw_below_drewN | apply below_drew1) | exact HB.out))) : w.heap.size ≤ gb594)); have n3_ := Aside0.mk ((by rw [hg]; exact (below_size (by repeat (first | (with_reducible first | exact HB.out | apply below_alloc | apply pw_below_drewN | apply below_drew1) | exact HB.out))) : w.heap.size ≤ gb594)); clear HB; have HB := n0_; have BK594 := n1_; have GW594 := n2_; have GE594 := n3_; clear n0_ n1_ n2_ n3_; clear hb hbox hg))
  go_loopg [3] k (fun kq v3 w' => ∃ (x3_1 : Int), v3 = .int .i64 x3_1 ∧ Aside0 (quaysideref07_holds.l0 kq x3_1 l0_0 l0_1 l0_2 a0_3 = some r) ∧ Aside0 (kq ≤ k) ∧ Aside0 (w'.heap[gb594]? = some (.cells #[(.slice A0_0 l0_0.length c0_0), (.slice A0_1 l0_1.length c0_1), (.slice A0_2 l0_2.length c0_2), .int .i64 a0_3] 55 (0, 0))) ∧ Aside0 (Below w.heap.size w w'))
  case atStart => exact ⟨(0), (by first | rfl | (simp; done) | (simp [*]; done)), H', ⟨Nat.le_refl _⟩, ⟨by (with_reducible repeat (first | refine blk_drewN ?_ _ | refine blk_drew ?_ | refine blk_alloc ?_ _)); exact BK594.out⟩, ⟨by repeat (first | (with_reducible first | exact HB.out | apply below_alloc | apply pw_below_drewN | apply below_drew1 | refine below_set ?_ GE594.out) | exact HB.out)⟩⟩
  case round =>
    clear H'
    try clear p2
    obtain ⟨x3_1, rfl, HA, HK1, BK594, HB⟩ := hrel
    cases gk with
    | zero => exact absurd HA.out (by simp [quaysideref07_holds.l0])
    | succ k1 =>
      have H := HA.out
      clear HA
      simp only [quaysideref07_holds.l0] at H
      by_cases c3 : x3_1 < (l0_1.length : Int)
      · rw [if_pos c3] at H
        have c3b0 : decide (x3_1 < (l0_1.length : Int)) = true := decide_eq_true c3
        clear c3
        by_cases c4 : 0 ≤ x3_1
        · rw [if_pos c4] at H
          have c4b0 : decide (0 ≤ x3_1) = true := decide_eq_true c4
          clear c4
          have HC5 := Aside0.mk H
          clear H
          have hcz6_0 : wr.cell? ⟨gb594, 0, none⟩ = some (.slice A0_0 l0_0.length c0_0) := (blk_cell BK594.out 0).trans rfl
          have hcz6_1 : wr.cell? ⟨gb594, 1, none⟩ = some (.slice A0_1 l0_1.length c0_1) := (blk_cell BK594.out 1).trans rfl
          have hcz6_2 : wr.cell? ⟨gb594, 2, none⟩ = some (.slice A0_2 l0_2.length c0_2) := (blk_cell BK594.out 2).trans rfl
          have hcz6_3 : wr.cell? ⟨gb594, 3, none⟩ = some (.int .i64 a0_3) := (blk_cell BK594.out 3).trans rfl
          have hfz6_0 := blk_frozen BK594.out 0
          have hfz6_1 := blk_frozen BK594.out 1
          have hfz6_2 := blk_frozen BK594.out 2
          have hfz6_3 := blk_frozen BK594.out 3
          have p595 : 0 ≤ (x3_1 : Int) := of_decide_eq_true (by first | (with_reducible assumption) | assumption)
          have q595 : x3_1 < (l0_1.length : Int) := of_decide_eq_true (by first | (with_reducible assumption) | assumption)
          obtain ⟨ad595, e595, hx595_0, hx595_1, hx595_2, hx595_3, hx595_4, hx595_5⟩ := at_T172 HR0_1.out x3_1 p595 q595
          cases e595
          replace hx595_0 := (HB.out.cell (World.block_lt_of_cell? w _ hx595_0)).trans hx595_0
          replace hx595_1 := (HB.out.cell (World.block_lt_of_cell? w _ hx595_1)).trans hx595_1
          replace hx595_2 := (HB.out.cell (World.block_lt_of_cell? w _ hx595_2)).trans hx595_2
          replace hx595_3 := (HB.out.cell (World.block_lt_of_cell? w _ hx595_3)).trans hx595_3
          replace hx595_4 := (HB.out.cell (World.block_lt_of_cell? w _ hx595_4)).trans hx595_4
          replace hx595_5 := (HB.out.cell (World.block_lt_of_cell? w _ hx595_5)).trans hx595_5
          replace p595 := eq_true p595
          replace q595 := eq_true q595
          go_upto_region 5 with (first | ((with_reducible refine gate_dst (N := 4) rfl ?_); refine box_event ?hg (N := 4) ?hd (cs := #[.int .i64 0, .string (⟨#[]⟩ : ByteArray), .string (⟨#[]⟩ : ByteArray), .int .i64 0, .int .i64 0, .int .i64 0]) (t := 172) ?hr ?_; (case hd => rfl); (case hg => rfl); (case hr => first | (go_simp; done) | (go_simp; rfl)); intro gb596 hg w7 hbox hb; have n0_ := Aside0.mk (blk_below (g := gb594) (o := .cells #[.slice A0_0 l0_0.length c0_0, .slice (some ad595) l0_1.length c0_1, .slice A0_2 l0_2.length c0_2, .int .i64 a0_3] 55 (0, 0)) (by (with_reducible repeat (first | refine blk_drewN ?_ _ | refine blk_drew ?_ | refine blk_alloc ?_ _)); exact BK594.out) hb); have n1_ := Aside0.mk (below_step (by repeat (first | (with_reducible first | exact HB.out | apply below_alloc | apply pw_below_drewN | apply below_drew1 | refine below_set ?_ GE594.out) | exact HB.out)) hb); have n2_ := Aside0.mk (hbox); have n3_ := Aside0.mk ((by rw [hg]; exact (below_size (by repeat (first | (with_reducible first | exact HB.out | apply below_alloc | apply pw_below_drewN | apply below_drew1 | refine below_set ?_ GE594.out) | exact HB.out))) : w.heap.size ≤ gb596)); have n4_ := Aside0.mk ((by rw [hg]; exact (below_size (by repeat (first | (with_reducible first | exact HB.out | apply below_alloc | apply pw_below_drewN | apply below_drew1 | refine below_set ?_ GE594.out) | exact HB.out))) : w.heap.size ≤ gb596)); have n5_ := Aside0.mk ((by rw [hg]; exact Nat.ne_of_lt (blk_lt (g := gb594) (o := .cells #[.slice A0_0 l0_0.length c0_0, .slice (some ad595) l0_1.length c0_1, .slice A0_2 l0_2.length c0_2, .int .i64 a0_3] 55 (0, 0)) (by (with_reducible repeat (first | refine blk_drewN ?_ _ | refine blk_drew ?_ | refine blk_alloc ?_ _)); exact BK594.out)) : gb594 ≠ gb596)); have n6_ := Aside0.mk ((by rw [hg]; exact Nat.ne_of_gt (blk_lt (g := gb594) (o := .cells #[.slice A0_0 l0_0.length c0_0, .slice (some ad595) l0_1.length c0_1, .slice A0_2 l0_2.length c0_2, .int .i64 a0_3] 55 (0, 0)) (by (with_reducible repeat (first | refine blk_drewN ?_ _ | refine blk_drew ?_ | refine blk_alloc ?_ _)); exact BK594.out)) : gb596 ≠ gb594)); clear BK594; clear HB; have BK594 := n0_; have HB := n1_; have BK596 := n2_; have GW596 := n3_; have GE596 := n4_; have NB594_596 := n5_; have NB596_594 := n6_; clear n0_ n1_ n2_ n3_ n4_ n5_ n6_; clear hb hbox hg; have hnb8 := NB596_594.out; have hnc8 := NB594_596.out; have hcz9_0 : w7.cell? ⟨gb596, 0, none⟩ = some (.int .i64 0) := (blk_cell BK596.out 0).trans rfl; have hcz9_1 : w7.cell? ⟨gb596, 1, none⟩ = some (.string (⟨#[]⟩ : ByteArray)) := (blk_cell BK596.out 1).trans rfl; have hcz9_2 : w7.cell? ⟨gb596, 2, none⟩ = some (.string (⟨#[]⟩ : ByteArray)) := (blk_cell BK596.out 2).trans rfl; have hcz9_3 : w7.cell? ⟨gb596, 3, none⟩ = some (.int .i64 0) := (blk_cell BK596.out 3).trans rfl; have hcz9_4 : w7.cell? ⟨gb596, 4, none⟩ = some (.int .i64 0) := (blk_cell BK596.out 4).trans rfl; have hcz9_5 : w7.cell? ⟨gb596, 5, none⟩ = some (.int .i64 0) := (blk_cell BK596.out 5).trans rfl; have hfz9_0 := blk_frozen BK596.out 0; have hfz9_1 := blk_frozen BK596.out 1; have hfz9_2 := blk_frozen BK596.out 2; have hfz9_3 := blk_frozen BK596.out 3; have hfz9_4 := blk_frozen BK596.out 4; have hfz9_5 := blk_frozen BK596.out 5))
          (try simp only [Act.put, List.setIfInBounds_toArray, List.set_cons_zero, List.set_cons_succ])
          go_cut [53] (fun v53 wc => ∃ (kq : Nat) (x53_4 : Bool), v53 = .bool x53_4 ∧ Aside0 (quaysideref07_holds.j1 kq x3_1 x53_4 l0_0 l0_1 l0_2 a0_3 ((rd_T172 l0_1 x3_1).f0) ((rd_T172 l0_1 x3_1).f1) ((rd_T172 l0_1 x3_1).f2) ((rd_T172 l0_1 x3_1).f3) ((rd_T172 l0_1 x3_1).f4) ((rd_T172 l0_1 x3_1).f5) = some r) ∧ Aside0 (kq ≤ k1) ∧ Aside0 (wc.heap[gb594]? = some (.cells #[(.slice A0_0 l0_0.length c0_0), (.slice (some ad595) l0_1.length c0_1), (.slice A0_2 l0_2.length c0_2), .int .i64 a0_3] 55 (0, 0))) ∧ Aside0 (wc.heap[gb596]? = some (.cells #[.int .i64 ((rd_T172 l0_1 x3_1).f0), .string ((rd_T172 l0_1 x3_1).f1), .string ((rd_T172 l0_1 x3_1).f2), .int .i64 ((rd_T172 l0_1 x3_1).f3), .int .i64 ((rd_T172 l0_1 x3_1).f4), .int .i64 ((rd_T172 l0_1 x3_1).f5)] 172 (0, 0))) ∧ Aside0 (Below w.heap.size w wc))
          case first =>
            have H := HC5.out
            clear HC5
            by_cases c10 : (wrap64 (((rd_T172 l0_1 x3_1).f0) - 1)) = x3_1
            · rw [if_pos c10] at H
              have c10b0 : ((wrap64 (((rd_T172 l0_1 x3_1).f0) - 1)) == x3_1) = true := beq_iff_eq.mpr c10
              have c10b1 : ((wrap64 (((rd_T172 l0_1 x3_1).f0) - 1)) != x3_1) = false := bne_eq_false_iff_eq.mpr c10
              clear c10
              (first | rw [c10b0] | (simp only [i64_w, i32_w]; rw [c10b0]) | skip)
              replace H := Option.bind_eq_some_iff.mp H
              obtain ⟨t597, A110, H⟩ := H
              replace H : (if t597 = true then ((quaysideref06_Name.f ((rd_T172 l0_1 x3_1).f2)).bind fun t598 => (if t598 = true then (if ((rd_T172 l0_1 x3_1).f3) < 1 then (quaysideref07_holds.j1 k1 x3_1 true l0_0 l0_1 l0_2 a0_3 ((rd_T172 l0_1 x3_1).f0) ((rd_T172 l0_1 x3_1).f1) ((rd_T172 l0_1 x3_1).f2) ((rd_T172 l0_1 x3_1).f3) ((rd_T172 l0_1 x3_1).f4) ((rd_T172 l0_1 x3_1).f5)) else (if ((rd_T172 l0_1 x3_1).f4) < 0 then (quaysideref07_holds.j1 k1 x3_1 true l0_0 l0_1 l0_2 a0_3 ((rd_T172 l0_1 x3_1).f0) ((rd_T172 l0_1 x3_1).f1) ((rd_T172 l0_1 x3_1).f2) ((rd_T172 l0_1 x3_1).f3) ((rd_T172 l0_1 x3_1).f4) ((rd_T172 l0_1 x3_1).f5)) else (if ((rd_T172 l0_1 x3_1).f4) > 2 then (quaysideref07_holds.j1 k1 x3_1 true l0_0 l0_1 l0_2 a0_3 ((rd_T172 l0_1 x3_1).f0) ((rd_T172 l0_1 x3_1).f1) ((rd_T172 l0_1 x3_1).f2) ((rd_T172 l0_1 x3_1).f3) ((rd_T172 l0_1 x3_1).f4) ((rd_T172 l0_1 x3_1).f5)) else (quaysideref07_holds.j1 k1 x3_1 (decide (((rd_T172 l0_1 x3_1).f5) < 0)) l0_0 l0_1 l0_2 a0_3 ((rd_T172 l0_1 x3_1).f0) ((rd_T172 l0_1 x3_1).f1) ((rd_T172 l0_1 x3_1).f2) ((rd_T172 l0_1 x3_1).f3) ((rd_T172 l0_1 x3_1).f4) ((rd_T172 l0_1 x3_1).f5))))) else (quaysideref07_holds.j1 k1 x3_1 true l0_0 l0_1 l0_2 a0_3 ((rd_T172 l0_1 x3_1).f0) ((rd_T172 l0_1 x3_1).f1) ((rd_T172 l0_1 x3_1).f2) ((rd_T172 l0_1 x3_1).f3) ((rd_T172 l0_1 x3_1).f4) ((rd_T172 l0_1 x3_1).f5)))) else (quaysideref07_holds.j1 k1 x3_1 true l0_0 l0_1 l0_2 a0_3 ((rd_T172 l0_1 x3_1).f0) ((rd_T172 l0_1 x3_1).f1) ((rd_T172 l0_1 x3_1).f2) ((rd_T172 l0_1 x3_1).f3) ((rd_T172 l0_1 x3_1).f4) ((rd_T172 l0_1 x3_1).f5))) = some r := H
              have A11 := Aside0.mk A110
              clear A110
              by_cases c12 : t597 = true
              · subst c12
                have H1 : ((quaysideref06_Name.f ((rd_T172 l0_1 x3_1).f2)).bind fun t598 => (if t598 = true then (if ((rd_T172 l0_1 x3_1).f3) < 1 then (quaysideref07_holds.j1 k1 x3_1 true l0_0 l0_1 l0_2 a0_3 ((rd_T172 l0_1 x3_1).f0) ((rd_T172 l0_1 x3_1).f1) ((rd_T172 l0_1 x3_1).f2) ((rd_T172 l0_1 x3_1).f3) ((rd_T172 l0_1 x3_1).f4) ((rd_T172 l0_1 x3_1).f5)) else (if ((rd_T172 l0_1 x3_1).f4) < 0 then (quaysideref07_holds.j1 k1 x3_1 true l0_0 l0_1 l0_2 a0_3 ((rd_T172 l0_1 x3_1).f0) ((rd_T172 l0_1 x3_1).f1) ((rd_T172 l0_1 x3_1).f2) ((rd_T172 l0_1 x3_1).f3) ((rd_T172 l0_1 x3_1).f4) ((rd_T172 l0_1 x3_1).f5)) else (if ((rd_T172 l0_1 x3_1).f4) > 2 then (quaysideref07_holds.j1 k1 x3_1 true l0_0 l0_1 l0_2 a0_3 ((rd_T172 l0_1 x3_1).f0) ((rd_T172 l0_1 x3_1).f1) ((rd_T172 l0_1 x3_1).f2) ((rd_T172 l0_1 x3_1).f3) ((rd_T172 l0_1 x3_1).f4) ((rd_T172 l0_1 x3_1).f5)) else (quaysideref07_holds.j1 k1 x3_1 (decide (((rd_T172 l0_1 x3_1).f5) < 0)) l0_0 l0_1 l0_2 a0_3 ((rd_T172 l0_1 x3_1).f0) ((rd_T172 l0_1 x3_1).f1) ((rd_T172 l0_1 x3_1).f2) ((rd_T172 l0_1 x3_1).f3) ((rd_T172 l0_1 x3_1).f4) ((rd_T172 l0_1 x3_1).f5))))) else (quaysideref07_holds.j1 k1 x3_1 true l0_0 l0_1 l0_2 a0_3 ((rd_T172 l0_1 x3_1).f0) ((rd_T172 l0_1 x3_1).f1) ((rd_T172 l0_1 x3_1).f2) ((rd_T172 l0_1 x3_1).f3) ((rd_T172 l0_1 x3_1).f4) ((rd_T172 l0_1 x3_1).f5)))) = some r := by rw [if_pos rfl] at H; exact H
                clear H
                have H := H1
                clear H1
                replace H := Option.bind_eq_some_iff.mp H
                obtain ⟨t598, A130, H⟩ := H
                replace H : (if t598 = true then (if ((rd_T172 l0_1 x3_1).f3) < 1 then (quaysideref07_holds.j1 k1 x3_1 true l0_0 l0_1 l0_2 a0_3 ((rd_T172 l0_1 x3_1).f0) ((rd_T172 l0_1 x3_1).f1) ((rd_T172 l0_1 x3_1).f2) ((rd_T172 l0_1 x3_1).f3) ((rd_T172 l0_1 x3_1).f4) ((rd_T172 l0_1 x3_1).f5)) else (if ((rd_T172 l0_1 x3_1).f4) < 0 then (quaysideref07_holds.j1 k1 x3_1 true l0_0 l0_1 l0_2 a0_3 ((rd_T172 l0_1 x3_1).f0) ((rd_T172 l0_1 x3_1).f1) ((rd_T172 l0_1 x3_1).f2) ((rd_T172 l0_1 x3_1).f3) ((rd_T172 l0_1 x3_1).f4) ((rd_T172 l0_1 x3_1).f5)) else (if ((rd_T172 l0_1 x3_1).f4) > 2 then (quaysideref07_holds.j1 k1 x3_1 true l0_0 l0_1 l0_2 a0_3 ((rd_T172 l0_1 x3_1).f0) ((rd_T172 l0_1 x3_1).f1) ((rd_T172 l0_1 x3_1).f2) ((rd_T172 l0_1 x3_1).f3) ((rd_T172 l0_1 x3_1).f4) ((rd_T172 l0_1 x3_1).f5)) else (quaysideref07_holds.j1 k1 x3_1 (decide (((rd_T172 l0_1 x3_1).f5) < 0)) l0_0 l0_1 l0_2 a0_3 ((rd_T172 l0_1 x3_1).f0) ((rd_T172 l0_1 x3_1).f1) ((rd_T172 l0_1 x3_1).f2) ((rd_T172 l0_1 x3_1).f3) ((rd_T172 l0_1 x3_1).f4) ((rd_T172 l0_1 x3_1).f5))))) else (quaysideref07_holds.j1 k1 x3_1 true l0_0 l0_1 l0_2 a0_3 ((rd_T172 l0_1 x3_1).f0) ((rd_T172 l0_1 x3_1).f1) ((rd_T172 l0_1 x3_1).f2) ((rd_T172 l0_1 x3_1).f3) ((rd_T172 l0_1 x3_1).f4) ((rd_T172 l0_1 x3_1).f5))) = some r := H
                have A13 := Aside0.mk A130
                clear A130
                by_cases c14 : t598 = true
                · subst c14
                  have H1 : (if ((rd_T172 l0_1 x3_1).f3) < 1 then (quaysideref07_holds.j1 k1 x3_1 true l0_0 l0_1 l0_2 a0_3 ((rd_T172 l0_1 x3_1).f0) ((rd_T172 l0_1 x3_1).f1) ((rd_T172 l0_1 x3_1).f2) ((rd_T172 l0_1 x3_1).f3) ((rd_T172 l0_1 x3_1).f4) ((rd_T172 l0_1 x3_1).f5)) else (if ((rd_T172 l0_1 x3_1).f4) < 0 then (quaysideref07_holds.j1 k1 x3_1 true l0_0 l0_1 l0_2 a0_3 ((rd_T172 l0_1 x3_1).f0) ((rd_T172 l0_1 x3_1).f1) ((rd_T172 l0_1 x3_1).f2) ((rd_T172 l0_1 x3_1).f3) ((rd_T172 l0_1 x3_1).f4) ((rd_T172 l0_1 x3_1).f5)) else (if ((rd_T172 l0_1 x3_1).f4) > 2 then (quaysideref07_holds.j1 k1 x3_1 true l0_0 l0_1 l0_2 a0_3 ((rd_T172 l0_1 x3_1).f0) ((rd_T172 l0_1 x3_1).f1) ((rd_T172 l0_1 x3_1).f2) ((rd_T172 l0_1 x3_1).f3) ((rd_T172 l0_1 x3_1).f4) ((rd_T172 l0_1 x3_1).f5)) else (quaysideref07_holds.j1 k1 x3_1 (decide (((rd_T172 l0_1 x3_1).f5) < 0)) l0_0 l0_1 l0_2 a0_3 ((rd_T172 l0_1 x3_1).f0) ((rd_T172 l0_1 x3_1).f1) ((rd_T172 l0_1 x3_1).f2) ((rd_T172 l0_1 x3_1).f3) ((rd_T172 l0_1 x3_1).f4) ((rd_T172 l0_1 x3_1).f5))))) = some r := by rw [if_pos rfl] at H; exact H
                  clear H
                  have H := H1
                  clear H1
                  by_cases c15 : ((rd_T172 l0_1 x3_1).f3) < 1
                  · rw [if_pos c15] at H
                    have c15b0 : decide (((rd_T172 l0_1 x3_1).f3) < 1) = true := decide_eq_true c15
                    clear c15
                    have H' := Aside0.mk H
                    clear H
                    have hnb16 := NB596_594.out
                    have hnc16 := NB594_596.out
                    have hcz17_0 : w7.cell? ⟨gb596, 0, none⟩ = some (.int .i64 0) := (blk_cell BK596.out 0).trans rfl
                    have hcz17_1 : w7.cell? ⟨gb596, 1, none⟩ = some (.string (⟨#[]⟩ : ByteArray)) := (blk_cell BK596.out 1).trans rfl
                    have hcz17_2 : w7.cell? ⟨gb596, 2, none⟩ = some (.string (⟨#[]⟩ : ByteArray)) := (blk_cell BK596.out 2).trans rfl
                    have hcz17_3 : w7.cell? ⟨gb596, 3, none⟩ = some (.int .i64 0) := (blk_cell BK596.out 3).trans rfl
                    have hcz17_4 : w7.cell? ⟨gb596, 4, none⟩ = some (.int .i64 0) := (blk_cell BK596.out 4).trans rfl
                    have hcz17_5 : w7.cell? ⟨gb596, 5, none⟩ = some (.int .i64 0) := (blk_cell BK596.out 5).trans rfl
                    have hfz17_0 := blk_frozen BK596.out 0
                    have hfz17_1 := blk_frozen BK596.out 1
                    have hfz17_2 := blk_frozen BK596.out 2
                    have hfz17_3 := blk_frozen BK596.out 3
                    have hfz17_4 := blk_frozen BK596.out 4
                    have hfz17_5 := blk_frozen BK596.out 5
                    go_wp2_with (first | (go_at_call 90; (with_reducible refine (quaysideref06_Name.calls ((rd_T172 l0_1 x3_1).f1) true _ A11.out).mono ?_); rintro e w' ⟨rfl, ⟨nd, rfl⟩⟩) | (go_at_call 90; (with_reducible refine (quaysideref06_Name.calls ((rd_T172 l0_1 x3_1).f2) true _ A13.out).mono ?_); rintro e w' ⟨rfl, ⟨nd, rfl⟩⟩))
                    go_meet
                    case rel => exact ⟨_, (true), (by first | rfl | (simp; done) | (simp [*]; done)), H', ⟨by have := HK1.out; first | omega | exact Nat.le_refl _⟩, ⟨by (with_reducible repeat (first | refine blk_drewN ?_ _ | refine blk_drew ?_ | refine blk_alloc ?_ _)); refine blk_far ?_ NB594_596.out _; (with_reducible repeat (first | refine blk_drewN ?_ _ | refine blk_drew ?_ | refine blk_alloc ?_ _)); refine blk_far ?_ NB594_596.out _; (with_reducible repeat (first | refine blk_drewN ?_ _ | refine blk_drew ?_ | refine blk_alloc ?_ _)); refine blk_far ?_ NB594_596.out _; (with_reducible repeat (first | refine blk_drewN ?_ _ | refine blk_drew ?_ | refine blk_alloc ?_ _)); refine blk_far ?_ NB594_596.out _; (with_reducible repeat (first | refine blk_drewN ?_ _ | refine blk_drew ?_ | refine blk_alloc ?_ _)); refine blk_far ?_ NB594_596.out _; (with_reducible repeat (first | refine blk_drewN ?_ _ | refine blk_drew ?_ | refine blk_alloc ?_ _)); refine blk_far ?_ NB594_596.out _; (with_reducible repeat (first | refine blk_drewN ?_ _ | refine blk_drew ?_ | refine blk_alloc ?_ _)); exact BK594.out⟩, ⟨by (with_reducible repeat (first | refine blk_drewN ?_ _ | refine blk_drew ?_ | refine blk_alloc ?_ _)); refine blk_put (cs := #[.int .i64 ((rd_T172 l0_1 x3_1).f0), .string ((rd_T172 l0_1 x3_1).f1), .string ((rd_T172 l0_1 x3_1).f2), .int .i64 ((rd_T172 l0_1 x3_1).f3), .int .i64 ((rd_T172 l0_1 x3_1).f4), .int .i64 0]) ?_ 5 _ rfl; (with_reducible repeat (first | refine blk_drewN ?_ _ | refine blk_drew ?_ | refine blk_alloc ?_ _)); refine blk_put (cs := #[.int .i64 ((rd_T172 l0_1 x3_1).f0), .string ((rd_T172 l0_1 x3_1).f1), .string ((rd_T172 l0_1 x3_1).f2), .int .i64 ((rd_T172 l0_1 x3_1).f3), .int .i64 0, .int .i64 0]) ?_ 4 _ rfl; (with_reducible repeat (first | refine blk_drewN ?_ _ | refine blk_drew ?_ | refine blk_alloc ?_ _)); refine blk_put (cs := #[.int .i64 ((rd_T172 l0_1 x3_1).f0), .string ((rd_T172 l0_1 x3_1).f1), .string ((rd_T172 l0_1 x3_1).f2), .int .i64 0, .int .i64 0, .int .i64 0]) ?_ 3 _ rfl; (with_reducible repeat (first | refine blk_drewN ?_ _ | refine blk_drew ?_ | refine blk_alloc ?_ _)); refine blk_put (cs := #[.int .i64 ((rd_T172 l0_1 x3_1).f0), .string ((rd_T172 l0_1 x3_1).f1), .string (⟨#[]⟩ : ByteArray), .int .i64 0, .int .i64 0, .int .i64 0]) ?_ 2 _ rfl; (with_reducible repeat (first | refine blk_drewN ?_ _ | refine blk_drew ?_ | refine blk_alloc ?_ _)); refine blk_put (cs := #[.int .i64 ((rd_T172 l0_1 x3_1).f0), .string (⟨#[]⟩ : ByteArray), .string (⟨#[]⟩ : ByteArray), .int .i64 0, .int .i64 0, .int .i64 0]) ?_ 1 _ rfl; (with_reducible repeat (first | refine blk_drewN ?_ _ | refine blk_drew ?_ | refine blk_alloc ?_ _)); refine blk_put (cs := #[.int .i64 0, .string (⟨#[]⟩ : ByteArray), .string (⟨#[]⟩ : ByteArray), .int .i64 0, .int .i64 0, .int .i64 0]) ?_ 0 _ rfl; (with_reducible repeat (first | refine blk_drewN ?_ _ | refine blk_drew ?_ | refine blk_alloc ?_ _)); exact BK596.out⟩, ⟨by repeat (first | (with_reducible first | exact HB.out | apply below_alloc | apply pw_below_drewN | apply below_drew1 | refine below_set ?_ GE594.out | refine below_set ?_ GE596.out) | exact HB.out)⟩⟩
                  · rw [if_neg c15] at H
                    have c15b0 : decide (((rd_T172 l0_1 x3_1).f3) < 1) = false := decide_eq_false c15
                    clear c15
                    by_cases c18 : ((rd_T172 l0_1 x3_1).f4) < 0
                    · rw [if_pos c18] at H
                      have c18b0 : decide (((rd_T172 l0_1 x3_1).f4) < 0) = true := decide_eq_true c18
                      clear c18
                      have H' := Aside0.mk H
                      clear H
                      have hnb19 := NB596_594.out
                      have hnc19 := NB594_596.out
                      have hcz20_0 : w7.cell? ⟨gb596, 0, none⟩ = some (.int .i64 0) := (blk_cell BK596.out 0).trans rfl
                      have hcz20_1 : w7.cell? ⟨gb596, 1, none⟩ = some (.string (⟨#[]⟩ : ByteArray)) := (blk_cell BK596.out 1).trans rfl
                      have hcz20_2 : w7.cell? ⟨gb596, 2, none⟩ = some (.string (⟨#[]⟩ : ByteArray)) := (blk_cell BK596.out 2).trans rfl
                      have hcz20_3 : w7.cell? ⟨gb596, 3, none⟩ = some (.int .i64 0) := (blk_cell BK596.out 3).trans rfl
                      have hcz20_4 : w7.cell? ⟨gb596, 4, none⟩ = some (.int .i64 0) := (blk_cell BK596.out 4).trans rfl
                      have hcz20_5 : w7.cell? ⟨gb596, 5, none⟩ = some (.int .i64 0) := (blk_cell BK596.out 5).trans rfl
                      have hfz20_0 := blk_frozen BK596.out 0
                      have hfz20_1 := blk_frozen BK596.out 1
                      have hfz20_2 := blk_frozen BK596.out 2
                      have hfz20_3 := blk_frozen BK596.out 3
                      have hfz20_4 := blk_frozen BK596.out 4
                      have hfz20_5 := blk_frozen BK596.out 5
                      go_wp2_with (first | (go_at_call 90; (with_reducible refine (quaysideref06_Name.calls ((rd_T172 l0_1 x3_1).f1) true _ A11.out).mono ?_); rintro e w' ⟨rfl, ⟨nd, rfl⟩⟩) | (go_at_call 90; (with_reducible refine (quaysideref06_Name.calls ((rd_T172 l0_1 x3_1).f2) true _ A13.out).mono ?_); rintro e w' ⟨rfl, ⟨nd, rfl⟩⟩))
                      go_meet
                      case rel => exact ⟨_, (true), (by first | rfl | (simp; done) | (simp [*]; done)), H', ⟨by have := HK1.out; first | omega | exact Nat.le_refl _⟩, ⟨by (with_reducible repeat (first | refine blk_drewN ?_ _ | refine blk_drew ?_ | refine blk_alloc ?_ _)); refine blk_far ?_ NB594_596.out _; (with_reducible repeat (first | refine blk_drewN ?_ _ | refine blk_drew ?_ | refine blk_alloc ?_ _)); refine blk_far ?_ NB594_596.out _; (with_reducible repeat (first | refine blk_drewN ?_ _ | refine blk_drew ?_ | refine blk_alloc ?_ _)); refine blk_far ?_ NB594_596.out _; (with_reducible repeat (first | refine blk_drewN ?_ _ | refine blk_drew ?_ | refine blk_alloc ?_ _)); refine blk_far ?_ NB594_596.out _; (with_reducible repeat (first | refine blk_drewN ?_ _ | refine blk_drew ?_ | refine blk_alloc ?_ _)); refine blk_far ?_ NB594_596.out _; (with_reducible repeat (first | refine blk_drewN ?_ _ | refine blk_drew ?_ | refine blk_alloc ?_ _)); refine blk_far ?_ NB594_596.out _; (with_reducible repeat (first | refine blk_drewN ?_ _ | refine blk_drew ?_ | refine blk_alloc ?_ _)); exact BK594.out⟩, ⟨by (with_reducible repeat (first | refine blk_drewN ?_ _ | refine blk_drew ?_ | refine blk_alloc ?_ _)); refine blk_put (cs := #[.int .i64 ((rd_T172 l0_1 x3_1).f0), .string ((rd_T172 l0_1 x3_1).f1), .string ((rd_T172 l0_1 x3_1).f2), .int .i64 ((rd_T172 l0_1 x3_1).f3), .int .i64 ((rd_T172 l0_1 x3_1).f4), .int .i64 0]) ?_ 5 _ rfl; (with_reducible repeat (first | refine blk_drewN ?_ _ | refine blk_drew ?_ | refine blk_alloc ?_ _)); refine blk_put (cs := #[.int .i64 ((rd_T172 l0_1 x3_1).f0), .string ((rd_T172 l0_1 x3_1).f1), .string ((rd_T172 l0_1 x3_1).f2), .int .i64 ((rd_T172 l0_1 x3_1).f3), .int .i64 0, .int .i64 0]) ?_ 4 _ rfl; (with_reducible repeat (first | refine blk_drewN ?_ _ | refine blk_drew ?_ | refine blk_alloc ?_ _)); refine blk_put (cs := #[.int .i64 ((rd_T172 l0_1 x3_1).f0), .string ((rd_T172 l0_1 x3_1).f1), .string ((rd_T172 l0_1 x3_1).f2), .int .i64 0, .int .i64 0, .int .i64 0]) ?_ 3 _ rfl; (with_reducible repeat (first | refine blk_drewN ?_ _ | refine blk_drew ?_ | refine blk_alloc ?_ _)); refine blk_put (cs := #[.int .i64 ((rd_T172 l0_1 x3_1).f0), .string ((rd_T172 l0_1 x3_1).f1), .string (⟨#[]⟩ : ByteArray), .int .i64 0, .int .i64 0, .int .i64 0]) ?_ 2 _ rfl; (with_reducible repeat (first | refine blk_drewN ?_ _ | refine blk_drew ?_ | refine blk_alloc ?_ _)); refine blk_put (cs := #[.int .i64 ((rd_T172 l0_1 x3_1).f0), .string (⟨#[]⟩ : ByteArray), .string (⟨#[]⟩ : ByteArray), .int .i64 0, .int .i64 0, .int .i64 0]) ?_ 1 _ rfl; (with_reducible repeat (first | refine blk_drewN ?_ _ | refine blk_drew ?_ | refine blk_alloc ?_ _)); refine blk_put (cs := #[.int .i64 0, .string (⟨#[]⟩ : ByteArray), .string (⟨#[]⟩ : ByteArray), .int .i64 0, .int .i64 0, .int .i64 0]) ?_ 0 _ rfl; (with_reducible repeat (first | refine blk_drewN ?_ _ | refine blk_drew ?_ | refine blk_alloc ?_ _)); exact BK596.out⟩, ⟨by repeat (first | (with_reducible first | exact HB.out | apply below_alloc | apply pw_below_drewN | apply below_drew1 | refine below_set ?_ GE594.out | refine below_set ?_ GE596.out) | exact HB.out)⟩⟩
                    · rw [if_neg c18] at H
                      have c18b0 : decide (((rd_T172 l0_1 x3_1).f4) < 0) = false := decide_eq_false c18
                      clear c18
                      by_cases c21 : ((rd_T172 l0_1 x3_1).f4) > 2
                      · rw [if_pos c21] at H
                        have c21b0 : decide (2 < ((rd_T172 l0_1 x3_1).f4)) = true := decide_eq_true c21
                        clear c21
                        have H' := Aside0.mk H
                        clear H
                        have hnb22 := NB596_594.out
                        have hnc22 := NB594_596.out
                        have hcz23_0 : w7.cell? ⟨gb596, 0, none⟩ = some (.int .i64 0) := (blk_cell BK596.out 0).trans rfl
                        have hcz23_1 : w7.cell? ⟨gb596, 1, none⟩ = some (.string (⟨#[]⟩ : ByteArray)) := (blk_cell BK596.out 1).trans rfl
                        have hcz23_2 : w7.cell? ⟨gb596, 2, none⟩ = some (.string (⟨#[]⟩ : ByteArray)) := (blk_cell BK596.out 2).trans rfl
                        have hcz23_3 : w7.cell? ⟨gb596, 3, none⟩ = some (.int .i64 0) := (blk_cell BK596.out 3).trans rfl
                        have hcz23_4 : w7.cell? ⟨gb596, 4, none⟩ = some (.int .i64 0) := (blk_cell BK596.out 4).trans rfl
                        have hcz23_5 : w7.cell? ⟨gb596, 5, none⟩ = some (.int .i64 0) := (blk_cell BK596.out 5).trans rfl
                        have hfz23_0 := blk_frozen BK596.out 0
                        have hfz23_1 := blk_frozen BK596.out 1
                        have hfz23_2 := blk_frozen BK596.out 2
                        have hfz23_3 := blk_frozen BK596.out 3
                        have hfz23_4 := blk_frozen BK596.out 4
                        have hfz23_5 := blk_frozen BK596.out 5
                        go_wp2_with (first | (go_at_call 90; (with_reducible refine (quaysideref06_Name.calls ((rd_T172 l0_1 x3_1).f1) true _ A11.out).mono ?_); rintro e w' ⟨rfl, ⟨nd, rfl⟩⟩) | (go_at_call 90; (with_reducible refine (quaysideref06_Name.calls ((rd_T172 l0_1 x3_1).f2) true _ A13.out).mono ?_); rintro e w' ⟨rfl, ⟨nd, rfl⟩⟩))
                        go_meet
                        case rel => exact ⟨_, (true), (by first | rfl | (simp; done) | (simp [*]; done)), H', ⟨by have := HK1.out; first | omega | exact Nat.le_refl _⟩, ⟨by (with_reducible repeat (first | refine blk_drewN ?_ _ | refine blk_drew ?_ | refine blk_alloc ?_ _)); refine blk_far ?_ NB594_596.out _; (with_reducible repeat (first | refine blk_drewN ?_ _ | refine blk_drew ?_ | refine blk_alloc ?_ _)); refine blk_far ?_ NB594_596.out _; (with_reducible repeat (first | refine blk_drewN ?_ _ | refine blk_drew ?_ | refine blk_alloc ?_ _)); refine blk_far ?_ NB594_596.out _; (with_reducible repeat (first | refine blk_drewN ?_ _ | refine blk_drew ?_ | refine blk_alloc ?_ _)); refine blk_far ?_ NB594_596.out _; (with_reducible repeat (first | refine blk_drewN ?_ _ | refine blk_drew ?_ | refine blk_alloc ?_ _)); refine blk_far ?_ NB594_596.out _; (with_reducible repeat (first | refine blk_drewN ?_ _ | refine blk_drew ?_ | refine blk_alloc ?_ _)); refine blk_far ?_ NB594_596.out _; (with_reducible repeat (first | refine blk_drewN ?_ _ | refine blk_drew ?_ | refine blk_alloc ?_ _)); exact BK594.out⟩, ⟨by (with_reducible repeat (first | refine blk_drewN ?_ _ | refine blk_drew ?_ | refine blk_alloc ?_ _)); refine blk_put (cs := #[.int .i64 ((rd_T172 l0_1 x3_1).f0), .string ((rd_T172 l0_1 x3_1).f1), .string ((rd_T172 l0_1 x3_1).f2), .int .i64 ((rd_T172 l0_1 x3_1).f3), .int .i64 ((rd_T172 l0_1 x3_1).f4), .int .i64 0]) ?_ 5 _ rfl; (with_reducible repeat (first | refine blk_drewN ?_ _ | refine blk_drew ?_ | refine blk_alloc ?_ _)); refine blk_put (cs := #[.int .i64 ((rd_T172 l0_1 x3_1).f0), .string ((rd_T172 l0_1 x3_1).f1), .string ((rd_T172 l0_1 x3_1).f2), .int .i64 ((rd_T172 l0_1 x3_1).f3), .int .i64 0, .int .i64 0]) ?_ 4 _ rfl; (with_reducible repeat (first | refine blk_drewN ?_ _ | refine blk_drew ?_ | refine blk_alloc ?_ _)); refine blk_put (cs := #[.int .i64 ((rd_T172 l0_1 x3_1).f0), .string ((rd_T172 l0_1 x3_1).f1), .string ((rd_T172 l0_1 x3_1).f2), .int .i64 0, .int .i64 0, .int .i64 0]) ?_ 3 _ rfl; (with_reducible repeat (first | refine blk_drewN ?_ _ | refine blk_drew ?_ | refine blk_alloc ?_ _)); refine blk_put (cs := #[.int .i64 ((rd_T172 l0_1 x3_1).f0), .string ((rd_T172 l0_1 x3_1).f1), .string (⟨#[]⟩ : ByteArray), .int .i64 0, .int .i64 0, .int .i64 0]) ?_ 2 _ rfl; (with_reducible repeat (first | refine blk_drewN ?_ _ | refine blk_drew ?_ | refine blk_alloc ?_ _)); refine blk_put (cs := #[.int .i64 ((rd_T172 l0_1 x3_1).f0), .string (⟨#[]⟩ : ByteArray), .string (⟨#[]⟩ : ByteArray), .int .i64 0, .int .i64 0, .int .i64 0]) ?_ 1 _ rfl; (with_reducible repeat (first | refine blk_drewN ?_ _ | refine blk_drew ?_ | refine blk_alloc ?_ _)); refine blk_put (cs := #[.int .i64 0, .string (⟨#[]⟩ : ByteArray), .string (⟨#[]⟩ : ByteArray), .int .i64 0, .int .i64 0, .int .i64 0]) ?_ 0 _ rfl; (with_reducible repeat (first | refine blk_drewN ?_ _ | refine blk_drew ?_ | refine blk_alloc ?_ _)); exact BK596.out⟩, ⟨by repeat (first | (with_reducible first | exact HB.out | apply below_alloc | apply pw_below_drewN | apply below_drew1 | refine below_set ?_ GE594.out | refine below_set ?_ GE596.out) | exact HB.out)⟩⟩
                      · rw [if_neg c21] at H
                        have c21b0 : decide (2 < ((rd_T172 l0_1 x3_1).f4)) = false := decide_eq_false c21
                        clear c21
                        have H' := Aside0.mk H
                        clear H
                        have hnb24 := NB596_594.out
                        have hnc24 := NB594_596.out
                        have hcz25_0 : w7.cell? ⟨gb596, 0, none⟩ = some (.int .i64 0) := (blk_cell BK596.out 0).trans rfl
                        have hcz25_1 : w7.cell? ⟨gb596, 1, none⟩ = some (.string (⟨#[]⟩ : ByteArray)) := (blk_cell BK596.out 1).trans rfl
                        have hcz25_2 : w7.cell? ⟨gb596, 2, none⟩ = some (.string (⟨#[]⟩ : ByteArray)) := (blk_cell BK596.out 2).trans rfl
                        have hcz25_3 : w7.cell? ⟨gb596, 3, none⟩ = some (.int .i64 0) := (blk_cell BK596.out 3).trans rfl
                        have hcz25_4 : w7.cell? ⟨gb596, 4, none⟩ = some (.int .i64 0) := (blk_cell BK596.out 4).trans rfl
                        have hcz25_5 : w7.cell? ⟨gb596, 5, none⟩ = some (.int .i64 0) := (blk_cell BK596.out 5).trans rfl
                        have hfz25_0 := blk_frozen BK596.out 0
                        have hfz25_1 := blk_frozen BK596.out 1
                        have hfz25_2 := blk_frozen BK596.out 2
                        have hfz25_3 := blk_frozen BK596.out 3
                        have hfz25_4 := blk_frozen BK596.out 4
                        have hfz25_5 := blk_frozen BK596.out 5
                        go_wp2_with (first | (go_at_call 90; (with_reducible refine (quaysideref06_Name.calls ((rd_T172 l0_1 x3_1).f1) true _ A11.out).mono ?_); rintro e w' ⟨rfl, ⟨nd, rfl⟩⟩) | (go_at_call 90; (with_reducible refine (quaysideref06_Name.calls ((rd_T172 l0_1 x3_1).f2) true _ A13.out).mono ?_); rintro e w' ⟨rfl, ⟨nd, rfl⟩⟩))
                        go_meet
                        case rel => exact ⟨_, (decide (((rd_T172 l0_1 x3_1).f5) < 0)), (by first | rfl | (simp; done) | (simp [*]; done)), H', ⟨by have := HK1.out; first | omega | exact Nat.le_refl _⟩, ⟨by (with_reducible repeat (first | refine blk_drewN ?_ _ | refine blk_drew ?_ | refine blk_alloc ?_ _)); refine blk_far ?_ NB594_596.out _; (with_reducible repeat (first | refine blk_drewN ?_ _ | refine blk_drew ?_ | refine blk_alloc ?_ _)); refine blk_far ?_ NB594_596.out _; (with_reducible repeat (first | refine blk_drewN ?_ _ | refine blk_drew ?_ | refine blk_alloc ?_ _)); refine blk_far ?_ NB594_596.out _; (with_reducible repeat (first | refine blk_drewN ?_ _ | refine blk_drew ?_ | refine blk_alloc ?_ _)); refine blk_far ?_ NB594_596.out _; (with_reducible repeat (first | refine blk_drewN ?_ _ | refine blk_drew ?_ | refine blk_alloc ?_ _)); refine blk_far ?_ NB594_596.out _; (with_reducible repeat (first | refine blk_drewN ?_ _ | refine blk_drew ?_ | refine blk_alloc ?_ _)); refine blk_far ?_ NB594_596.out _; (with_reducible repeat (first | refine blk_drewN ?_ _ | refine blk_drew ?_ | refine blk_alloc ?_ _)); exact BK594.out⟩, ⟨by (with_reducible repeat (first | refine blk_drewN ?_ _ | refine blk_drew ?_ | refine blk_alloc ?_ _)); refine blk_put (cs := #[.int .i64 ((rd_T172 l0_1 x3_1).f0), .string ((rd_T172 l0_1 x3_1).f1), .string ((rd_T172 l0_1 x3_1).f2), .int .i64 ((rd_T172 l0_1 x3_1).f3), .int .i64 ((rd_T172 l0_1 x3_1).f4), .int .i64 0]) ?_ 5 _ rfl; (with_reducible repeat (first | refine blk_drewN ?_ _ | refine blk_drew ?_ | refine blk_alloc ?_ _)); refine blk_put (cs := #[.int .i64 ((rd_T172 l0_1 x3_1).f0), .string ((rd_T172 l0_1 x3_1).f1), .string ((rd_T172 l0_1 x3_1).f2), .int .i64 ((rd_T172 l0_1 x3_1).f3), .int .i64 0, .int .i64 0]) ?_ 4 _ rfl; (with_reducible repeat (first | refine blk_drewN ?_ _ | refine blk_drew ?_ | refine blk_alloc ?_ _)); refine blk_put (cs := #[.int .i64 ((rd_T172 l0_1 x3_1).f0), .string ((rd_T172 l0_1 x3_1).f1), .string ((rd_T172 l0_1 x3_1).f2), .int .i64 0, .int .i64 0, .int .i64 0]) ?_ 3 _ rfl; (with_reducible repeat (first | refine blk_drewN ?_ _ | refine blk_drew ?_ | refine blk_alloc ?_ _)); refine blk_put (cs := #[.int .i64 ((rd_T172 l0_1 x3_1).f0), .string ((rd_T172 l0_1 x3_1).f1), .string (⟨#[]⟩ : ByteArray), .int .i64 0, .int .i64 0, .int .i64 0]) ?_ 2 _ rfl; (with_reducible repeat (first | refine blk_drewN ?_ _ | refine blk_drew ?_ | refine blk_alloc ?_ _)); refine blk_put (cs := #[.int .i64 ((rd_T172 l0_1 x3_1).f0), .string (⟨#[]⟩ : ByteArray), .string (⟨#[]⟩ : ByteArray), .int .i64 0, .int .i64 0, .int .i64 0]) ?_ 1 _ rfl; (with_reducible repeat (first | refine blk_drewN ?_ _ | refine blk_drew ?_ | refine blk_alloc ?_ _)); refine blk_put (cs := #[.int .i64 0, .string (⟨#[]⟩ : ByteArray), .string (⟨#[]⟩ : ByteArray), .int .i64 0, .int .i64 0, .int .i64 0]) ?_ 0 _ rfl; (with_reducible repeat (first | refine blk_drewN ?_ _ | refine blk_drew ?_ | refine blk_alloc ?_ _)); exact BK596.out⟩, ⟨by repeat (first | (with_reducible first | exact HB.out | apply below_alloc | apply pw_below_drewN | apply below_drew1 | refine below_set ?_ GE594.out | refine below_set ?_ GE596.out) | exact HB.out)⟩⟩
                · replace c14 := Bool.eq_false_iff.mpr c14
                  subst c14
                  have H1 : (quaysideref07_holds.j1 k1 x3_1 true l0_0 l0_1 l0_2 a0_3 ((rd_T172 l0_1 x3_1).f0) ((rd_T172 l0_1 x3_1).f1) ((rd_T172 l0_1 x3_1).f2) ((rd_T172 l0_1 x3_1).f3) ((rd_T172 l0_1 x3_1).f4) ((rd_T172 l0_1 x3_1).f5)) = some r := by rw [if_neg (show ¬ (false = true) by decide)] at H; exact H
                  clear H
                  have H := H1
                  clear H1
                  have H' := Aside0.mk H
                  clear H
                  have hnb26 := NB596_594.out
                  have hnc26 := NB594_596.out
                  have hcz27_0 : w7.cell? ⟨gb596, 0, none⟩ = some (.int .i64 0) := (blk_cell BK596.out 0).trans rfl
                  have hcz27_1 : w7.cell? ⟨gb596, 1, none⟩ = some (.string (⟨#[]⟩ : ByteArray)) := (blk_cell BK596.out 1).trans rfl
                  have hcz27_2 : w7.cell? ⟨gb596, 2, none⟩ = some (.string (⟨#[]⟩ : ByteArray)) := (blk_cell BK596.out 2).trans rfl
                  have hcz27_3 : w7.cell? ⟨gb596, 3, none⟩ = some (.int .i64 0) := (blk_cell BK596.out 3).trans rfl
                  have hcz27_4 : w7.cell? ⟨gb596, 4, none⟩ = some (.int .i64 0) := (blk_cell BK596.out 4).trans rfl
                  have hcz27_5 : w7.cell? ⟨gb596, 5, none⟩ = some (.int .i64 0) := (blk_cell BK596.out 5).trans rfl
                  have hfz27_0 := blk_frozen BK596.out 0
                  have hfz27_1 := blk_frozen BK596.out 1
                  have hfz27_2 := blk_frozen BK596.out 2
                  have hfz27_3 := blk_frozen BK596.out 3
                  have hfz27_4 := blk_frozen BK596.out 4
                  have hfz27_5 := blk_frozen BK596.out 5
                  go_wp2_with (first | (go_at_call 90; (with_reducible refine (quaysideref06_Name.calls ((rd_T172 l0_1 x3_1).f1) true _ A11.out).mono ?_); rintro e w' ⟨rfl, ⟨nd, rfl⟩⟩) | (go_at_call 90; (with_reducible refine (quaysideref06_Name.calls ((rd_T172 l0_1 x3_1).f2) false _ A13.out).mono ?_); rintro e w' ⟨rfl, ⟨nd, rfl⟩⟩))
                  go_meet
                  case rel => exact ⟨_, (true), (by first | rfl | (simp; done) | (simp [*]; done)), H', ⟨by have := HK1.out; first | omega | exact Nat.le_refl _⟩, ⟨by (with_reducible repeat (first | refine blk_drewN ?_ _ | refine blk_drew ?_ | refine blk_alloc ?_ _)); refine blk_far ?_ NB594_596.out _; (with_reducible repeat (first | refine blk_drewN ?_ _ | refine blk_drew ?_ | refine blk_alloc ?_ _)); refine blk_far ?_ NB594_596.out _; (with_reducible repeat (first | refine blk_drewN ?_ _ | refine blk_drew ?_ | refine blk_alloc ?_ _)); refine blk_far ?_ NB594_596.out _; (with_reducible repeat (first | refine blk_drewN ?_ _ | refine blk_drew ?_ | refine blk_alloc ?_ _)); refine blk_far ?_ NB594_596.out _; (with_reducible repeat (first | refine blk_drewN ?_ _ | refine blk_drew ?_ | refine blk_alloc ?_ _)); refine blk_far ?_ NB594_596.out _; (with_reducible repeat (first | refine blk_drewN ?_ _ | refine blk_drew ?_ | refine blk_alloc ?_ _)); refine blk_far ?_ NB594_596.out _; (with_reducible repeat (first | refine blk_drewN ?_ _ | refine blk_drew ?_ | refine blk_alloc ?_ _)); exact BK594.out⟩, ⟨by (with_reducible repeat (first | refine blk_drewN ?_ _ | refine blk_drew ?_ | refine blk_alloc ?_ _)); refine blk_put (cs := #[.int .i64 ((rd_T172 l0_1 x3_1).f0), .string ((rd_T172 l0_1 x3_1).f1), .string ((rd_T172 l0_1 x3_1).f2), .int .i64 ((rd_T172 l0_1 x3_1).f3), .int .i64 ((rd_T172 l0_1 x3_1).f4), .int .i64 0]) ?_ 5 _ rfl; (with_reducible repeat (first | refine blk_drewN ?_ _ | refine blk_drew ?_ | refine blk_alloc ?_ _)); refine blk_put (cs := #[.int .i64 ((rd_T172 l0_1 x3_1).f0), .string ((rd_T172 l0_1 x3_1).f1), .string ((rd_T172 l0_1 x3_1).f2), .int .i64 ((rd_T172 l0_1 x3_1).f3), .int .i64 0, .int .i64 0]) ?_ 4 _ rfl; (with_reducible repeat (first | refine blk_drewN ?_ _ | refine blk_drew ?_ | refine blk_alloc ?_ _)); refine blk_put (cs := #[.int .i64 ((rd_T172 l0_1 x3_1).f0), .string ((rd_T172 l0_1 x3_1).f1), .string ((rd_T172 l0_1 x3_1).f2), .int .i64 0, .int .i64 0, .int .i64 0]) ?_ 3 _ rfl; (with_reducible repeat (first | refine blk_drewN ?_ _ | refine blk_drew ?_ | refine blk_alloc ?_ _)); refine blk_put (cs := #[.int .i64 ((rd_T172 l0_1 x3_1).f0), .string ((rd_T172 l0_1 x3_1).f1), .string (⟨#[]⟩ : ByteArray), .int .i64 0, .int .i64 0, .int .i64 0]) ?_ 2 _ rfl; (with_reducible repeat (first | refine blk_drewN ?_ _ | refine blk_drew ?_ | refine blk_alloc ?_ _)); refine blk_put (cs := #[.int .i64 ((rd_T172 l0_1 x3_1).f0), .string (⟨#[]⟩ : ByteArray), .string (⟨#[]⟩ : ByteArray), .int .i64 0, .int .i64 0, .int .i64 0]) ?_ 1 _ rfl; (with_reducible repeat (first | refine blk_drewN ?_ _ | refine blk_drew ?_ | refine blk_alloc ?_ _)); refine blk_put (cs := #[.int .i64 0, .string (⟨#[]⟩ : ByteArray), .string (⟨#[]⟩ : ByteArray), .int .i64 0, .int .i64 0, .int .i64 0]) ?_ 0 _ rfl; (with_reducible repeat (first | refine blk_drewN ?_ _ | refine blk_drew ?_ | refine blk_alloc ?_ _)); exact BK596.out⟩, ⟨by repeat (first | (with_reducible first | exact HB.out | apply below_alloc | apply pw_below_drewN | apply below_drew1 | refine below_set ?_ GE594.out | refine below_set ?_ GE596.out) | exact HB.out)⟩⟩
              · replace c12 := Bool.eq_false_iff.mpr c12
                subst c12
                have H1 : (quaysideref07_holds.j1 k1 x3_1 true l0_0 l0_1 l0_2 a0_3 ((rd_T172 l0_1 x3_1).f0) ((rd_T172 l0_1 x3_1).f1) ((rd_T172 l0_1 x3_1).f2) ((rd_T172 l0_1 x3_1).f3) ((rd_T172 l0_1 x3_1).f4) ((rd_T172 l0_1 x3_1).f5)) = some r := by rw [if_neg (show ¬ (false = true) by decide)] at H; exact H
                clear H
                have H := H1
                clear H1
                have H' := Aside0.mk H
                clear H
                have hnb28 := NB596_594.out
                have hnc28 := NB594_596.out
                have hcz29_0 : w7.cell? ⟨gb596, 0, none⟩ = some (.int .i64 0) := (blk_cell BK596.out 0).trans rfl
                have hcz29_1 : w7.cell? ⟨gb596, 1, none⟩ = some (.string (⟨#[]⟩ : ByteArray)) := (blk_cell BK596.out 1).trans rfl
                have hcz29_2 : w7.cell? ⟨gb596, 2, none⟩ = some (.string (⟨#[]⟩ : ByteArray)) := (blk_cell BK596.out 2).trans rfl
                have hcz29_3 : w7.cell? ⟨gb596, 3, none⟩ = some (.int .i64 0) := (blk_cell BK596.out 3).trans rfl
                have hcz29_4 : w7.cell? ⟨gb596, 4, none⟩ = some (.int .i64 0) := (blk_cell BK596.out 4).trans rfl
                have hcz29_5 : w7.cell? ⟨gb596, 5, none⟩ = some (.int .i64 0) := (blk_cell BK596.out 5).trans rfl
                have hfz29_0 := blk_frozen BK596.out 0
                have hfz29_1 := blk_frozen BK596.out 1
                have hfz29_2 := blk_frozen BK596.out 2
                have hfz29_3 := blk_frozen BK596.out 3
                have hfz29_4 := blk_frozen BK596.out 4
                have hfz29_5 := blk_frozen BK596.out 5
                go_wp2_with (first | (go_at_call 90; (with_reducible refine (quaysideref06_Name.calls ((rd_T172 l0_1 x3_1).f1) false _ A11.out).mono ?_); rintro e w' ⟨rfl, ⟨nd, rfl⟩⟩))
                go_meet
                case rel => exact ⟨_, (true), (by first | rfl | (simp; done) | (simp [*]; done)), H', ⟨by have := HK1.out; first | omega | exact Nat.le_refl _⟩, ⟨by (with_reducible repeat (first | refine blk_drewN ?_ _ | refine blk_drew ?_ | refine blk_alloc ?_ _)); refine blk_far ?_ NB594_596.out _; (with_reducible repeat (first | refine blk_drewN ?_ _ | refine blk_drew ?_ | refine blk_alloc ?_ _)); refine blk_far ?_ NB594_596.out _; (with_reducible repeat (first | refine blk_drewN ?_ _ | refine blk_drew ?_ | refine blk_alloc ?_ _)); refine blk_far ?_ NB594_596.out _; (with_reducible repeat (first | refine blk_drewN ?_ _ | refine blk_drew ?_ | refine blk_alloc ?_ _)); refine blk_far ?_ NB594_596.out _; (with_reducible repeat (first | refine blk_drewN ?_ _ | refine blk_drew ?_ | refine blk_alloc ?_ _)); refine blk_far ?_ NB594_596.out _; (with_reducible repeat (first | refine blk_drewN ?_ _ | refine blk_drew ?_ | refine blk_alloc ?_ _)); refine blk_far ?_ NB594_596.out _; (with_reducible repeat (first | refine blk_drewN ?_ _ | refine blk_drew ?_ | refine blk_alloc ?_ _)); exact BK594.out⟩, ⟨by (with_reducible repeat (first | refine blk_drewN ?_ _ | refine blk_drew ?_ | refine blk_alloc ?_ _)); refine blk_put (cs := #[.int .i64 ((rd_T172 l0_1 x3_1).f0), .string ((rd_T172 l0_1 x3_1).f1), .string ((rd_T172 l0_1 x3_1).f2), .int .i64 ((rd_T172 l0_1 x3_1).f3), .int .i64 ((rd_T172 l0_1 x3_1).f4), .int .i64 0]) ?_ 5 _ rfl; (with_reducible repeat (first | refine blk_drewN ?_ _ | refine blk_drew ?_ | refine blk_alloc ?_ _)); refine blk_put (cs := #[.int .i64 ((rd_T172 l0_1 x3_1).f0), .string ((rd_T172 l0_1 x3_1).f1), .string ((rd_T172 l0_1 x3_1).f2), .int .i64 ((rd_T172 l0_1 x3_1).f3), .int .i64 0, .int .i64 0]) ?_ 4 _ rfl; (with_reducible repeat (first | refine blk_drewN ?_ _ | refine blk_drew ?_ | refine blk_alloc ?_ _)); refine blk_put (cs := #[.int .i64 ((rd_T172 l0_1 x3_1).f0), .string ((rd_T172 l0_1 x3_1).f1), .string ((rd_T172 l0_1 x3_1).f2), .int .i64 0, .int .i64 0, .int .i64 0]) ?_ 3 _ rfl; (with_reducible repeat (first | refine blk_drewN ?_ _ | refine blk_drew ?_ | refine blk_alloc ?_ _)); refine blk_put (cs := #[.int .i64 ((rd_T172 l0_1 x3_1).f0), .string ((rd_T172 l0_1 x3_1).f1), .string (⟨#[]⟩ : ByteArray), .int .i64 0, .int .i64 0, .int .i64 0]) ?_ 2 _ rfl; (with_reducible repeat (first | refine blk_drewN ?_ _ | refine blk_drew ?_ | refine blk_alloc ?_ _)); refine blk_put (cs := #[.int .i64 ((rd_T172 l0_1 x3_1).f0), .string (⟨#[]⟩ : ByteArray), .string (⟨#[]⟩ : ByteArray), .int .i64 0, .int .i64 0, .int .i64 0]) ?_ 1 _ rfl; (with_reducible repeat (first | refine blk_drewN ?_ _ | refine blk_drew ?_ | refine blk_alloc ?_ _)); refine blk_put (cs := #[.int .i64 0, .string (⟨#[]⟩ : ByteArray), .string (⟨#[]⟩ : ByteArray), .int .i64 0, .int .i64 0, .int .i64 0]) ?_ 0 _ rfl; (with_reducible repeat (first | refine blk_drewN ?_ _ | refine blk_drew ?_ | refine blk_alloc ?_ _)); exact BK596.out⟩, ⟨by repeat (first | (with_reducible first | exact HB.out | apply below_alloc | apply pw_below_drewN | apply below_drew1 | refine below_set ?_ GE594.out | refine below_set ?_ GE596.out) | exact HB.out)⟩⟩
            · rw [if_neg c10] at H
              have c10b0 : ((wrap64 (((rd_T172 l0_1 x3_1).f0) - 1)) == x3_1) = false := beq_eq_false_iff_ne.mpr c10
              have c10b1 : ((wrap64 (((rd_T172 l0_1 x3_1).f0) - 1)) != x3_1) = true := bne_iff_ne.mpr c10
              (first | rw [c10b0] | (simp only [i64_w, i32_w]; rw [c10b0]) | skip)
              have H' := Aside0.mk H
              clear H
              have hnb30 := NB596_594.out
              have hnc30 := NB594_596.out
              have hcz31_0 : w7.cell? ⟨gb596, 0, none⟩ = some (.int .i64 0) := (blk_cell BK596.out 0).trans rfl
              have hcz31_1 : w7.cell? ⟨gb596, 1, none⟩ = some (.string (⟨#[]⟩ : ByteArray)) := (blk_cell BK596.out 1).trans rfl
              have hcz31_2 : w7.cell? ⟨gb596, 2, none⟩ = some (.string (⟨#[]⟩ : ByteArray)) := (blk_cell BK596.out 2).trans rfl
              have hcz31_3 : w7.cell? ⟨gb596, 3, none⟩ = some (.int .i64 0) := (blk_cell BK596.out 3).trans rfl
              have hcz31_4 : w7.cell? ⟨gb596, 4, none⟩ = some (.int .i64 0) := (blk_cell BK596.out 4).trans rfl
              have hcz31_5 : w7.cell? ⟨gb596, 5, none⟩ = some (.int .i64 0) := (blk_cell BK596.out 5).trans rfl
              have hfz31_0 := blk_frozen BK596.out 0
              have hfz31_1 := blk_frozen BK596.out 1
              have hfz31_2 := blk_frozen BK596.out 2
              have hfz31_3 := blk_frozen BK596.out 3
              have hfz31_4 := blk_frozen BK596.out 4
              have hfz31_5 := blk_frozen BK596.out 5
              go_wp2
              go_meet
              case rel => exact ⟨_, (true), (by first | rfl | (simp; done) | (simp [*]; done)), H', ⟨by have := HK1.out; first | omega | exact Nat.le_refl _⟩, ⟨by (with_reducible repeat (first | refine blk_drewN ?_ _ | refine blk_drew ?_ | refine blk_alloc ?_ _)); refine blk_far ?_ NB594_596.out _; (with_reducible repeat (first | refine blk_drewN ?_ _ | refine blk_drew ?_ | refine blk_alloc ?_ _)); refine blk_far ?_ NB594_596.out _; (with_reducible repeat (first | refine blk_drewN ?_ _ | refine blk_drew ?_ | refine blk_alloc ?_ _)); refine blk_far ?_ NB594_596.out _; (with_reducible repeat (first | refine blk_drewN ?_ _ | refine blk_drew ?_ | refine blk_alloc ?_ _)); refine blk_far ?_ NB594_596.out _; (with_reducible repeat (first | refine blk_drewN ?_ _ | refine blk_drew ?_ | refine blk_alloc ?_ _)); refine blk_far ?_ NB594_596.out _; (with_reducible repeat (first | refine blk_drewN ?_ _ | refine blk_drew ?_ | refine blk_alloc ?_ _)); refine blk_far ?_ NB594_596.out _; (with_reducible repeat (first | refine blk_drewN ?_ _ | refine blk_drew ?_ | refine blk_alloc ?_ _)); exact BK594.out⟩, ⟨by (with_reducible repeat (first | refine blk_drewN ?_ _ | refine blk_drew ?_ | refine blk_alloc ?_ _)); refine blk_put (cs := #[.int .i64 ((rd_T172 l0_1 x3_1).f0), .string ((rd_T172 l0_1 x3_1).f1), .string ((rd_T172 l0_1 x3_1).f2), .int .i64 ((rd_T172 l0_1 x3_1).f3), .int .i64 ((rd_T172 l0_1 x3_1).f4), .int .i64 0]) ?_ 5 _ rfl; (with_reducible repeat (first | refine blk_drewN ?_ _ | refine blk_drew ?_ | refine blk_alloc ?_ _)); refine blk_put (cs := #[.int .i64 ((rd_T172 l0_1 x3_1).f0), .string ((rd_T172 l0_1 x3_1).f1), .string ((rd_T172 l0_1 x3_1).f2), .int .i64 ((rd_T172 l0_1 x3_1).f3), .int .i64 0, .int .i64 0]) ?_ 4 _ rfl; (with_reducible repeat (first | refine blk_drewN ?_ _ | refine blk_drew ?_ | refine blk_alloc ?_ _)); refine blk_put (cs := #[.int .i64 ((rd_T172 l0_1 x3_1).f0), .string ((rd_T172 l0_1 x3_1).f1), .string ((rd_T172 l0_1 x3_1).f2), .int .i64 0, .int .i64 0, .int .i64 0]) ?_ 3 _ rfl; (with_reducible repeat (first | refine blk_drewN ?_ _ | refine blk_drew ?_ | refine blk_alloc ?_ _)); refine blk_put (cs := #[.int .i64 ((rd_T172 l0_1 x3_1).f0), .string ((rd_T172 l0_1 x3_1).f1), .string (⟨#[]⟩ : ByteArray), .int .i64 0, .int .i64 0, .int .i64 0]) ?_ 2 _ rfl; (with_reducible repeat (first | refine blk_drewN ?_ _ | refine blk_drew ?_ | refine blk_alloc ?_ _)); refine blk_put (cs := #[.int .i64 ((rd_T172 l0_1 x3_1).f0), .string (⟨#[]⟩ : ByteArray), .string (⟨#[]⟩ : ByteArray), .int .i64 0, .int .i64 0, .int .i64 0]) ?_ 1 _ rfl; (with_reducible repeat (first | refine blk_drewN ?_ _ | refine blk_drew ?_ | refine blk_alloc ?_ _)); refine blk_put (cs := #[.int .i64 0, .string (⟨#[]⟩ : ByteArray), .string (⟨#[]⟩ : ByteArray), .int .i64 0, .int .i64 0, .int .i64 0]) ?_ 0 _ rfl; (with_reducible repeat (first | refine blk_drewN ?_ _ | refine blk_drew ?_ | refine blk_alloc ?_ _)); exact BK596.out⟩, ⟨by repeat (first | (with_reducible first | exact HB.out | apply below_alloc | apply pw_below_drewN | apply below_drew1 | refine below_set ?_ GE594.out | refine below_set ?_ GE596.out) | exact HB.out)⟩⟩
          case rest =>
            clear HC5
            try clear c1
            try clear c2
            try clear p2
            try clear c3
            try clear c3b0
            try clear c4
            try clear c4b0
            try clear p5
            try clear q5
            try clear hx5
            try clear p6
            try clear c8
            try clear c9
            try clear c10
            try clear c10b0
            try clear c10b1
            try clear c12
            try clear c14
            try clear c15
            try clear c15b0
            try clear c16
            try clear c18
            try clear c18b0
            try clear c19
            try clear c21
            try clear c21b0
            try clear c22
            try clear c24
            try clear c26
            try clear c28
            try clear c30
            try clear hcz17_0
            try clear hcz17_1
            try clear hcz17_2
            try clear hcz17_3
            try clear hcz17_4
            try clear hcz17_5
            try clear hcz20_0
            try clear hcz20_1
            try clear hcz20_2
            try clear hcz20_3
            try clear hcz20_4
            try clear hcz20_5
            try clear hcz23_0
            try clear hcz23_1
            try clear hcz23_2
            try clear hcz23_3
            try clear hcz23_4
            try clear hcz23_5
            try clear hcz25_0
            try clear hcz25_1
            try clear hcz25_2
            try clear hcz25_3
            try clear hcz25_4
            try clear hcz25_5
            try clear hcz27_0
            try clear hcz27_1
            try clear hcz27_2
            try clear hcz27_3
            try clear hcz27_4
            try clear hcz27_5
            try clear hcz29_0
            try clear hcz29_1
            try clear hcz29_2
            try clear hcz29_3
            try clear hcz29_4
            try clear hcz29_5
            try clear hcz31_0
            try clear hcz31_1
            try clear hcz31_2
            try clear hcz31_3
            try clear hcz31_4
            try clear hcz31_5
            try clear hcz6_0
            try clear hcz6_1
            try clear hcz6_2
            try clear hcz6_3
            try clear hcz9_0
            try clear hcz9_1
            try clear hcz9_2
            try clear hcz9_3
            try clear hcz9_4
            try clear hcz9_5
            try clear hfz17_0
            try clear hfz17_1
            try clear hfz17_2
            try clear hfz17_3
            try clear hfz17_4
            try clear hfz17_5
            try clear hfz20_0
            try clear hfz20_1
            try clear hfz20_2
            try clear hfz20_3
            try clear hfz20_4
            try clear hfz20_5
            try clear hfz23_0
            try clear hfz23_1
            try clear hfz23_2
            try clear hfz23_3
            try clear hfz23_4
            try clear hfz23_5
            try clear hfz25_0
            try clear hfz25_1
            try clear hfz25_2
            try clear hfz25_3
            try clear hfz25_4
            try clear hfz25_5
            try clear hfz27_0
            try clear hfz27_1
            try clear hfz27_2
            try clear hfz27_3
            try clear hfz27_4
            try clear hfz27_5
            try clear hfz29_0
            try clear hfz29_1
            try clear hfz29_2
            try clear hfz29_3
            try clear hfz29_4
            try clear hfz29_5
            try clear hfz31_0
            try clear hfz31_1
            try clear hfz31_2
            try clear hfz31_3
            try clear hfz31_4
            try clear hfz31_5
            try clear hfz6_0
            try clear hfz6_1
            try clear hfz6_2
            try clear hfz6_3
            try clear hfz9_0
            try clear hfz9_1
            try clear hfz9_2
            try clear hfz9_3
            try clear hfz9_4
            try clear hfz9_5
            try clear hx595_0
            try clear hx595_1
            try clear hx595_2
            try clear hx595_3
            try clear hx595_4
            try clear hx595_5
            try clear p2
            try clear p595
            try clear q595
            obtain ⟨kq, x53_4, rfl, HA, HJ4, BK594, BK596, HB⟩ := hcut
            cases kq with
            | zero => exact absurd HA.out (by simp [quaysideref07_holds.j1])
            | succ kj4 =>
              have H := HA.out
              clear HA
              simp only [quaysideref07_holds.j1] at H
              by_cases c32 : x53_4 = true
              · subst c32
                have H1 : (some false) = some r := by rw [if_pos rfl] at H; exact H
                clear H
                have H := H1
                clear H1
                obtain rfl := Option.some.inj H
                go_wp2
                go_ret
                exact ⟨by first | rfl | (simp [errW_none, errW_some] <;> rfl) | (simp [*, errW_none, errW_some] <;> rfl), by repeat (first | (with_reducible first | exact HB.out | apply below_alloc | apply pw_below_drewN | apply below_drew1 | refine below_set ?_ GE594.out | refine below_set ?_ GE596.out) | exact HB.out)⟩
              · replace c32 := Bool.eq_false_iff.mpr c32
                subst c32
                have H1 : (if ((rd_T172 l0_1 x3_1).f4) = 0 then ((quaysideref07_index.f kj4 l0_0 l0_1 l0_2 a0_3 ((rd_T172 l0_1 x3_1).f1) ((rd_T172 l0_1 x3_1).f2)).bind fun t599 => (if t599 < 0 then (some false) else (quaysideref07_holds.l0 kj4 (wrap64 (x3_1 + 1)) l0_0 l0_1 l0_2 a0_3))) else (quaysideref07_holds.l0 kj4 (wrap64 (x3_1 + 1)) l0_0 l0_1 l0_2 a0_3)) = some r := by rw [if_neg (show ¬ (false = true) by decide)] at H; exact H
                clear H
                have H := H1
                clear H1
                by_cases c33 : ((rd_T172 l0_1 x3_1).f4) = 0
                · rw [if_pos c33] at H
                  have c33b0 : (((rd_T172 l0_1 x3_1).f4) == 0) = true := beq_iff_eq.mpr c33
                  have c33b1 : (((rd_T172 l0_1 x3_1).f4) != 0) = false := bne_eq_false_iff_eq.mpr c33
                  clear c33
                  replace H := Option.bind_eq_some_iff.mp H
                  obtain ⟨t599, A340, H⟩ := H
                  replace H : (if t599 < 0 then (some false) else (quaysideref07_holds.l0 kj4 (wrap64 (x3_1 + 1)) l0_0 l0_1 l0_2 a0_3)) = some r := H
                  have A34 := Aside0.mk A340
                  clear A340
                  by_cases c35 : t599 < 0
                  · rw [if_pos c35] at H
                    have c35b0 : decide (t599 < 0) = true := decide_eq_true c35
                    clear c35
                    obtain rfl := Option.some.inj H
                    have hnb36 := NB596_594.out
                    have hnc36 := NB594_596.out
                    have hcz37_0 : wc.cell? ⟨gb596, 0, none⟩ = some (.int .i64 ((rd_T172 l0_1 x3_1).f0)) := (blk_cell BK596.out 0).trans rfl
                    have hcz37_1 : wc.cell? ⟨gb596, 1, none⟩ = some (.string ((rd_T172 l0_1 x3_1).f1)) := (blk_cell BK596.out 1).trans rfl
                    have hcz37_2 : wc.cell? ⟨gb596, 2, none⟩ = some (.string ((rd_T172 l0_1 x3_1).f2)) := (blk_cell BK596.out 2).trans rfl
                    have hcz37_3 : wc.cell? ⟨gb596, 3, none⟩ = some (.int .i64 ((rd_T172 l0_1 x3_1).f3)) := (blk_cell BK596.out 3).trans rfl
                    have hcz37_4 : wc.cell? ⟨gb596, 4, none⟩ = some (.int .i64 ((rd_T172 l0_1 x3_1).f4)) := (blk_cell BK596.out 4).trans rfl
                    have hcz37_5 : wc.cell? ⟨gb596, 5, none⟩ = some (.int .i64 ((rd_T172 l0_1 x3_1).f5)) := (blk_cell BK596.out 5).trans rfl
                    have hfz37_0 := blk_frozen BK596.out 0
                    have hfz37_1 := blk_frozen BK596.out 1
                    have hfz37_2 := blk_frozen BK596.out 2
                    have hfz37_3 := blk_frozen BK596.out 3
                    have hfz37_4 := blk_frozen BK596.out 4
                    have hfz37_5 := blk_frozen BK596.out 5
                    have hcz38_0 : wc.cell? ⟨gb594, 0, none⟩ = some (.slice A0_0 l0_0.length c0_0) := (blk_cell BK594.out 0).trans rfl
                    have hcz38_1 : wc.cell? ⟨gb594, 1, none⟩ = some (.slice (some ad595) l0_1.length c0_1) := (blk_cell BK594.out 1).trans rfl
                    have hcz38_2 : wc.cell? ⟨gb594, 2, none⟩ = some (.slice A0_2 l0_2.length c0_2) := (blk_cell BK594.out 2).trans rfl
                    have hcz38_3 : wc.cell? ⟨gb594, 3, none⟩ = some (.int .i64 a0_3) := (blk_cell BK594.out 3).trans rfl
                    have hfz38_0 := blk_frozen BK594.out 0
                    have hfz38_1 := blk_frozen BK594.out 1
                    have hfz38_2 := blk_frozen BK594.out 2
                    have hfz38_3 := blk_frozen BK594.out 3
                    go_wp2_with (first | (go_at_call 151; (with_reducible refine (quaysideref07_index.calls kj4 _ _ l0_0 _ _ l0_1 _ _ l0_2 a0_3 ((rd_T172 l0_1 x3_1).f1) ((rd_T172 l0_1 x3_1).f2) t599 _ ?side1 ?side2 ?side3 ?side4 ?side5 ?side6 A34.out).mono ?_); (case side1 => repeat (first | exact (Kd.C_below HR0_0.out HB.out) | (with_reducible refine Kd.C_alloc ?_ _) | (with_reducible refine Kd.C_drewN ?_ _) | (with_reducible refine Kd.C_drew ?_))); (case side2 => exact HC0_0.out); (case side3 => repeat (first | exact (Kd.C_below HR0_1.out HB.out) | (with_reducible refine Kd.C_alloc ?_ _) | (with_reducible refine Kd.C_drewN ?_ _) | (with_reducible refine Kd.C_drew ?_))); (case side4 => exact HC0_1.out); (case side5 => repeat (first | exact (Kd.C_below HR0_2.out HB.out) | (with_reducible refine Kd.C_alloc ?_ _) | (with_reducible refine Kd.C_drewN ?_ _) | (with_reducible refine Kd.C_drew ?_))); (case side6 => exact HC0_2.out); rintro e w39 ⟨rfl, hb⟩; have n0_ := Aside0.mk (blk_below (g := gb594) (o := .cells #[.slice A0_0 l0_0.length c0_0, .slice (some ad595) l0_1.length c0_1, .slice A0_2 l0_2.length c0_2, .int .i64 a0_3] 55 (0, 0)) (by (with_reducible repeat (first | refine blk_drewN ?_ _ | refine blk_drew ?_ | refine blk_alloc ?_ _)); exact BK594.out) hb); have n1_ := Aside0.mk (blk_below (g := gb596) (o := .cells #[.int .i64 ((rd_T172 l0_1 x3_1).f0), .string ((rd_T172 l0_1 x3_1).f1), .string ((rd_T172 l0_1 x3_1).f2), .int .i64 ((rd_T172 l0_1 x3_1).f3), .int .i64 ((rd_T172 l0_1 x3_1).f4), .int .i64 ((rd_T172 l0_1 x3_1).f5)] 172 (0, 0)) (by (with_reducible repeat (first | refine blk_drewN ?_ _ | refine blk_drew ?_ | refine blk_alloc ?_ _)); exact BK596.out) hb); have n2_ := Aside0.mk (below_step (by repeat (first | (with_reducible first | exact HB.out | apply below_alloc | apply pw_below_drewN | apply below_drew1 | refine below_set ?_ GE594.out | refine below_set ?_ GE596.out) | exact HB.out)) hb); clear BK594; clear BK596; clear HB; have BK594 := n0_; have BK596 := n1_; have HB := n2_; clear n0_ n1_ n2_; (try clear hb); (try clear hb2); (try clear hk); (try clear hi)))
                    go_ret
                    exact ⟨by first | rfl | (simp [errW_none, errW_some] <;> rfl) | (simp [*, errW_none, errW_some] <;> rfl), by repeat (first | (with_reducible first | exact HB.out | apply below_alloc | apply pw_below_drewN | apply below_drew1 | refine below_set ?_ GE594.out | refine below_set ?_ GE596.out) | exact HB.out)⟩
                  · rw [if_neg c35] at H
                    have c35b0 : decide (t599 < 0) = false := decide_eq_false c35
                    clear c35
                    have H' := Aside0.mk H
                    clear H
                    have hnb40 := NB596_594.out
                    have hnc40 := NB594_596.out
                    have hcz41_0 : wc.cell? ⟨gb596, 0, none⟩ = some (.int .i64 ((rd_T172 l0_1 x3_1).f0)) := (blk_cell BK596.out 0).trans rfl
                    have hcz41_1 : wc.cell? ⟨gb596, 1, none⟩ = some (.string ((rd_T172 l0_1 x3_1).f1)) := (blk_cell BK596.out 1).trans rfl
                    have hcz41_2 : wc.cell? ⟨gb596, 2, none⟩ = some (.string ((rd_T172 l0_1 x3_1).f2)) := (blk_cell BK596.out 2).trans rfl
                    have hcz41_3 : wc.cell? ⟨gb596, 3, none⟩ = some (.int .i64 ((rd_T172 l0_1 x3_1).f3)) := (blk_cell BK596.out 3).trans rfl
                    have hcz41_4 : wc.cell? ⟨gb596, 4, none⟩ = some (.int .i64 ((rd_T172 l0_1 x3_1).f4)) := (blk_cell BK596.out 4).trans rfl
                    have hcz41_5 : wc.cell? ⟨gb596, 5, none⟩ = some (.int .i64 ((rd_T172 l0_1 x3_1).f5)) := (blk_cell BK596.out 5).trans rfl
                    have hfz41_0 := blk_frozen BK596.out 0
                    have hfz41_1 := blk_frozen BK596.out 1
                    have hfz41_2 := blk_frozen BK596.out 2
                    have hfz41_3 := blk_frozen BK596.out 3
                    have hfz41_4 := blk_frozen BK596.out 4
                    have hfz41_5 := blk_frozen BK596.out 5
                    have hcz42_0 : wc.cell? ⟨gb594, 0, none⟩ = some (.slice A0_0 l0_0.length c0_0) := (blk_cell BK594.out 0).trans rfl
                    have hcz42_1 : wc.cell? ⟨gb594, 1, none⟩ = some (.slice (some ad595) l0_1.length c0_1) := (blk_cell BK594.out 1).trans rfl
                    have hcz42_2 : wc.cell? ⟨gb594, 2, none⟩ = some (.slice A0_2 l0_2.length c0_2) := (blk_cell BK594.out 2).trans rfl
                    have hcz42_3 : wc.cell? ⟨gb594, 3, none⟩ = some (.int .i64 a0_3) := (blk_cell BK594.out 3).trans rfl
                    have hfz42_0 := blk_frozen BK594.out 0
                    have hfz42_1 := blk_frozen BK594.out 1
                    have hfz42_2 := blk_frozen BK594.out 2
                    have hfz42_3 := blk_frozen BK594.out 3
                    go_wp2_with (first | (go_at_call 151; (with_reducible refine (quaysideref07_index.calls kj4 _ _ l0_0 _ _ l0_1 _ _ l0_2 a0_3 ((rd_T172 l0_1 x3_1).f1) ((rd_T172 l0_1 x3_1).f2) t599 _ ?side1 ?side2 ?side3 ?side4 ?side5 ?side6 A34.out).mono ?_); (case side1 => repeat (first | exact (Kd.C_below HR0_0.out HB.out) | (with_reducible refine Kd.C_alloc ?_ _) | (with_reducible refine Kd.C_drewN ?_ _) | (with_reducible refine Kd.C_drew ?_))); (case side2 => exact HC0_0.out); (case side3 => repeat (first | exact (Kd.C_below HR0_1.out HB.out) | (with_reducible refine Kd.C_alloc ?_ _) | (with_reducible refine Kd.C_drewN ?_ _) | (with_reducible refine Kd.C_drew ?_))); (case side4 => exact HC0_1.out); (case side5 => repeat (first | exact (Kd.C_below HR0_2.out HB.out) | (with_reducible refine Kd.C_alloc ?_ _) | (with_reducible refine Kd.C_drewN ?_ _) | (with_reducible refine Kd.C_drew ?_))); (case side6 => exact HC0_2.out); rintro e w43 ⟨rfl, hb⟩; have n0_ := Aside0.mk (blk_below (g := gb594) (o := .cells #[.slice A0_0 l0_0.length c0_0, .slice (some ad595) l0_1.length c0_1, .slice A0_2 l0_2.length c0_2, .int .i64 a0_3] 55 (0, 0)) (by (with_reducible repeat (first | refine blk_drewN ?_ _ | refine blk_drew ?_ | refine blk_alloc ?_ _)); exact BK594.out) hb); have n1_ := Aside0.mk (blk_below (g := gb596) (o := .cells #[.int .i64 ((rd_T172 l0_1 x3_1).f0), .string ((rd_T172 l0_1 x3_1).f1), .string ((rd_T172 l0_1 x3_1).f2), .int .i64 ((rd_T172 l0_1 x3_1).f3), .int .i64 ((rd_T172 l0_1 x3_1).f4), .int .i64 ((rd_T172 l0_1 x3_1).f5)] 172 (0, 0)) (by (with_reducible repeat (first | refine blk_drewN ?_ _ | refine blk_drew ?_ | refine blk_alloc ?_ _)); exact BK596.out) hb); have n2_ := Aside0.mk (below_step (by repeat (first | (with_reducible first | exact HB.out | apply below_alloc | apply pw_below_drewN | apply below_drew1 | refine below_set ?_ GE594.out | refine below_set ?_ GE596.out) | exact HB.out)) hb); clear BK594; clear BK596; clear HB; have BK594 := n0_; have BK596 := n1_; have HB := n2_; clear n0_ n1_ n2_; (try clear hb); (try clear hb2); (try clear hk); (try clear hi)))
                    go_roundg kj4
                    case measure => have := HK1.out; have := HJ4.out; omega
                    case rel => exact ⟨(wrap64 (x3_1 + 1)), (by first | rfl | (simp; done) | (simp [*]; done)), H', ⟨by have := HK1.out; have := HJ4.out; omega⟩, ⟨by (with_reducible repeat (first | refine blk_drewN ?_ _ | refine blk_drew ?_ | refine blk_alloc ?_ _)); exact BK594.out⟩, ⟨by repeat (first | (with_reducible first | exact HB.out | apply below_alloc | apply pw_below_drewN | apply below_drew1 | refine below_set ?_ GE594.out | refine below_set ?_ GE596.out) | exact HB.out)⟩⟩
                · rw [if_neg c33] at H
                  have c33b0 : (((rd_T172 l0_1 x3_1).f4) == 0) = false := beq_eq_false_iff_ne.mpr c33
                  have c33b1 : (((rd_T172 l0_1 x3_1).f4) != 0) = true := bne_iff_ne.mpr c33
                  have H' := Aside0.mk H
                  clear H
                  have hnb44 := NB596_594.out
                  have hnc44 := NB594_596.out
                  have hcz45_0 : wc.cell? ⟨gb596, 0, none⟩ = some (.int .i64 ((rd_T172 l0_1 x3_1).f0)) := (blk_cell BK596.out 0).trans rfl
                  have hcz45_1 : wc.cell? ⟨gb596, 1, none⟩ = some (.string ((rd_T172 l0_1 x3_1).f1)) := (blk_cell BK596.out 1).trans rfl
                  have hcz45_2 : wc.cell? ⟨gb596, 2, none⟩ = some (.string ((rd_T172 l0_1 x3_1).f2)) := (blk_cell BK596.out 2).trans rfl
                  have hcz45_3 : wc.cell? ⟨gb596, 3, none⟩ = some (.int .i64 ((rd_T172 l0_1 x3_1).f3)) := (blk_cell BK596.out 3).trans rfl
                  have hcz45_4 : wc.cell? ⟨gb596, 4, none⟩ = some (.int .i64 ((rd_T172 l0_1 x3_1).f4)) := (blk_cell BK596.out 4).trans rfl
                  have hcz45_5 : wc.cell? ⟨gb596, 5, none⟩ = some (.int .i64 ((rd_T172 l0_1 x3_1).f5)) := (blk_cell BK596.out 5).trans rfl
                  have hfz45_0 := blk_frozen BK596.out 0
                  have hfz45_1 := blk_frozen BK596.out 1
                  have hfz45_2 := blk_frozen BK596.out 2
                  have hfz45_3 := blk_frozen BK596.out 3
                  have hfz45_4 := blk_frozen BK596.out 4
                  have hfz45_5 := blk_frozen BK596.out 5
                  go_wp2
                  go_roundg kj4
                  case measure => have := HK1.out; have := HJ4.out; omega
                  case rel => exact ⟨(wrap64 (x3_1 + 1)), (by first | rfl | (simp; done) | (simp [*]; done)), H', ⟨by have := HK1.out; have := HJ4.out; omega⟩, ⟨by (with_reducible repeat (first | refine blk_drewN ?_ _ | refine blk_drew ?_ | refine blk_alloc ?_ _)); exact BK594.out⟩, ⟨by repeat (first | (with_reducible first | exact HB.out | apply below_alloc | apply pw_below_drewN | apply below_drew1 | refine below_set ?_ GE594.out | refine below_set ?_ GE596.out) | exact HB.out)⟩⟩
        · rw [if_neg c4] at H
          exact absurd H (by simp)
      · rw [if_neg c3] at H
        have c3b0 : decide (x3_1 < (l0_1.length : Int)) = false := decide_eq_false c3
        clear c3
        obtain rfl := Option.some.inj H
        have hcz46_0 : wr.cell? ⟨gb594, 0, none⟩ = some (.slice A0_0 l0_0.length c0_0) := (blk_cell BK594.out 0).trans rfl
        have hcz46_1 : wr.cell? ⟨gb594, 1, none⟩ = some (.slice A0_1 l0_1.length c0_1) := (blk_cell BK594.out 1).trans rfl
        have hcz46_2 : wr.cell? ⟨gb594, 2, none⟩ = some (.slice A0_2 l0_2.length c0_2) := (blk_cell BK594.out 2).trans rfl
        have hcz46_3 : wr.cell? ⟨gb594, 3, none⟩ = some (.int .i64 a0_3) := (blk_cell BK594.out 3).trans rfl
        have hfz46_0 := blk_frozen BK594.out 0
        have hfz46_1 := blk_frozen BK594.out 1
        have hfz46_2 := blk_frozen BK594.out 2
        have hfz46_3 := blk_frozen BK594.out 3
        go_wp2
        go_ret
        exact ⟨by first | rfl | (simp [errW_none, errW_some] <;> rfl) | (simp [*, errW_none, errW_some] <;> rfl), by repeat (first | (with_reducible first | exact HB.out | apply below_alloc | apply pw_below_drewN | apply below_drew1 | refine below_set ?_ GE594.out) | exact HB.out)⟩

end Go.Proofs.YtofkhcgkahkagaaGreat.PPromiseShort
