/- Contracts of the reference's functions, printed by print.sh for PromiseShort, cut by a program to those that the claim uses. -/
import Derived.Test.YtofkhcgkahkagaaGreatQ0
import Derived.Test.YtofkhcgkahkagaaGreatQ2
import Derived.Test.YtofkhcgkahkagaaGreatQ4
namespace Go.Proofs.YtofkhcgkahkagaaGreat.PPromiseShort
open Go.RowKit Go.Proofs.YtofkhcgkahkagaaGreatW.PrintWords Go.Proofs.YtofkhcgkahkagaaGreatW.PrintLast Go.Proofs.YtofkhcgkahkagaaGreatW.PrintMore
attribute [local go_sem] max2_int min2_int max_two min_two max_three min_three max_four min_four   -- for this text's walks alone
set_option linter.unusedVariables false
set_option linter.unusedSimpArgs false

/-! ### quaysideref07_moves: function 94 -/
mutual
def quaysideref07_moves.l0 : Nat → Int → List (S165) → List (S172) → List (S176) → Int → Option (Bool)
  | 0, _, _, _, _, _ => none
  | k + 1, x3, x601000, x601001, x601002, x601003 => if x3 < (x601002.length : Int) then (if 0 ≤ x3 then (if ((rd_T176 x601002 x3).f4) = 1 then (quaysideref07_moves.j1 k x3 true x601000 x601001 x601002 x601003 ((rd_T176 x601002 x3).f0) ((rd_T176 x601002 x3).f1) ((rd_T176 x601002 x3).f2) ((rd_T176 x601002 x3).f3) ((rd_T176 x601002 x3).f4) ((rd_T176 x601002 x3).f5)) else (if ((rd_T176 x601002 x3).f4) = 3 then (quaysideref07_moves.j1 k x3 true x601000 x601001 x601002 x601003 ((rd_T176 x601002 x3).f0) ((rd_T176 x601002 x3).f1) ((rd_T176 x601002 x3).f2) ((rd_T176 x601002 x3).f3) ((rd_T176 x601002 x3).f4) ((rd_T176 x601002 x3).f5)) else (if ((rd_T176 x601002 x3).f4) = 6 then (quaysideref07_moves.j1 k x3 true x601000 x601001 x601002 x601003 ((rd_T176 x601002 x3).f0) ((rd_T176 x601002 x3).f1) ((rd_T176 x601002 x3).f2) ((rd_T176 x601002 x3).f3) ((rd_T176 x601002 x3).f4) ((rd_T176 x601002 x3).f5)) else (quaysideref07_moves.j1 k x3 (((rd_T176 x601002 x3).f4) == 7) x601000 x601001 x601002 x601003 ((rd_T176 x601002 x3).f0) ((rd_T176 x601002 x3).f1) ((rd_T176 x601002 x3).f2) ((rd_T176 x601002 x3).f3) ((rd_T176 x601002 x3).f4) ((rd_T176 x601002 x3).f5))))) else (none)) else (some true)
def quaysideref07_moves.j1 : Nat → Int → Bool → List (S165) → List (S172) → List (S176) → Int → Int → ByteArray → ByteArray → Int → Int → Int → Option (Bool)
  | 0, _, _, _, _, _, _, _, _, _, _, _, _ => none
  | k + 1, x3, x5, x601000, x601001, x601002, x601003, x603000, x603001, x603002, x603003, x603004, x603005 => if (wrap64 (x603000 - 1)) = x3 then ((quaysideref06_Name.f x603001).bind fun t603 => (if t603 = true then ((quaysideref06_Name.f x603002).bind fun t604 => (if t604 = true then (if x603003 = 0 then (some false) else (if x5 = true then (if x603005 < 0 then (some false) else (if ((x603005 != 0) != (x603004 == 3)) = true then (some false) else ((quaysideref07_index.f k x601000 x601001 x601002 x601003 x603001 x603002).bind fun t605 => (if t605 < 0 then (some false) else (quaysideref07_moves.l0 k (wrap64 (x3 + 1)) x601000 x601001 x601002 x601003))))) else (some false))) else (some false))) else (some false))) else (some false)
end
def quaysideref07_moves.f (k : Nat) (l0_0 : List (S165)) (l0_1 : List (S172)) (l0_2 : List (S176)) (a0_3 : Int) : Option (Bool) := quaysideref07_moves.l0 k 0 l0_0 l0_1 l0_2 a0_3
set_option maxHeartbeats 8000000 in
set_option maxRecDepth 100000 in
theorem quaysideref07_moves.calls (k : Nat) (A0_0 : Option Addr) (c0_0 : Nat) (l0_0 : List (S165)) (A0_1 : Option Addr) (c0_1 : Nat) (l0_1 : List (S172)) (A0_2 : Option Addr) (c0_2 : Nat) (l0_2 : List (S176)) (a0_3 : Int) (r : Bool) (w : World) (hr0_0 : Kd.C k165 w A0_0 l0_0.length l0_0) (hc0_0 : l0_0.length ≤ c0_0) (hr0_1 : Kd.C k172 w A0_1 l0_1.length l0_1) (hc0_1 : l0_1.length ≤ c0_1) (hr0_2 : Kd.C k176 w A0_2 l0_2.length l0_2) (hc0_2 : l0_2.length ≤ c0_2) (h : quaysideref07_moves.f k l0_0 l0_1 l0_2 a0_3 = some r) :
    Calls Tryz.prog 94 #[.agg #[.slice A0_0 l0_0.length c0_0, .slice A0_1 l0_1.length c0_1, .slice A0_2 l0_2.length c0_2, .int .i64 a0_3]] w fun e w' => e = .returned (.bool r) ∧ Below w.heap.size w w' := by
  have hu55 := Tryz.underlying55
  have hu176 := Tryz.underlying176
  have HR0_0 := Aside0.mk hr0_0
  have HC0_0 := Aside0.mk hc0_0
  clear hr0_0 hc0_0
  have HR0_1 := Aside0.mk hr0_1
  have HC0_1 := Aside0.mk hc0_1
  clear hr0_1 hc0_1
  have HR0_2 := Aside0.mk hr0_2
  have HC0_2 := Aside0.mk hc0_2
  clear hr0_2 hc0_2
  have HB := Aside0.mk (Below.refl w.heap.size w)
  have H : (quaysideref07_moves.l0 k 0 l0_0 l0_1 l0_2 a0_3) = some r := h
  clear h
  have H' := Aside0.mk H
  clear H
  go_enter Tryz.func94, Tryz.ntmps94
  go_wp2_with (first | ((with_reducible refine gate_dst (N := 1) rfl ?_); refine box_event ?hg (N := 1) ?hd (cs := #[.slice A0_0 l0_0.length c0_0, .slice A0_1 l0_1.length c0_1, .slice A0_2 l0_2.length c0_2, .int .i64 a0_3]) (t := 55) ?hr ?_; (case hd => rfl); (case hg => rfl); (case hr => first | (go_simp; done) | (go_simp; rfl)); intro gb600 hg w2 hbox hb; have n0_ := Aside0.mk (below_step (by repeat (first | (with_reducible first | exact HB.out | apply below_alloc | apply pw_below_drewN | apply below_drew1) | exact HB.out)) hb); have n1_ := Aside0.mk (hbox); have n2_ := Aside0.mk ((by rw [hg]; exact (below_size (by repeat (first | (with_reducible first | exact HB.out | apply below_alloc | apply pw_below_drewN | apply below_drew1) | exact HB.out))) : w.heap.size ≤ gb600)); have n3_ := Aside0.mk ((by rw [hg]; exact (below_size (by repeat (first | (with_reducible first | exact HB.out | apply below_alloc | apply pw_below_drewN | apply below_drew1) | exact HB.out))) : w.heap.size ≤ gb600)); clear HB; have HB := n0_; have BK600 := n1_; have GW600 := n2_; have GE600 := n3_; clear n0_ n1_ n2_ n3_; clear hb hbox hg))
  go_loopg [3] k (fun kq v3 w' => ∃ (x3_1 : Int), v3 = .int .i64 x3_1 ∧ Aside0 (quaysideref07_moves.l0 kq x3_1 l0_0 l0_1 l0_2 a0_3 = some r) ∧ Aside0 (kq ≤ k) ∧ Aside0 (w'.heap[gb600]? = some (.cells #[(.slice A0_0 l0_0.length c0_0), (.slice A0_1 l0_1.length c0_1), (.slice A0_2 l0_2.length c0_2), .int .i64 a0_3] 55 (0, 0))) ∧ Aside0 (Below w.heap.size w w'))
  case atStart => exact ⟨(0), (by first | rfl | (simp; done) | (simp [*]; done)), H', ⟨Nat.le_refl _⟩, ⟨by (with_reducible repeat (first | refine blk_drewN ?_ _ | refine blk_drew ?_ | refine blk_alloc ?_ _)); exact BK600.out⟩, ⟨by repeat (first | (with_reducible first | exact HB.out | apply below_alloc | apply pw_below_drewN | apply below_drew1 | refine below_set ?_ GE600.out) | exact HB.out)⟩⟩
  case round =>
    clear H'
    try clear p2
    obtain ⟨x3_1, rfl, HA, HK1, BK600, HB⟩ := hrel
    cases gk with
    | zero => exact absurd HA.out (by simp [quaysideref07_moves.l0])
    | succ k1 =>
      have H := HA.out
      clear HA
      simp only [quaysideref07_moves.l0] at H
      by_cases c3 : x3_1 < (l0_2.length : Int)
      · rw [if_pos c3] at H
        have c3b0 : decide (x3_1 < (l0_2.length : Int)) = true := decide_eq_true c3
        clear c3
        by_cases c4 : 0 ≤ x3_1
        · rw [if_pos c4] at H
          have c4b0 : decide (0 ≤ x3_1) = true := decide_eq_true c4
          clear c4
          have HC5 := Aside0.mk H
          clear H
          have hcz6_0 : wr.cell? ⟨gb600, 0, none⟩ = some (.slice A0_0 l0_0.length c0_0) := (blk_cell BK600.out 0).trans rfl
          have hcz6_1 : wr.cell? ⟨gb600, 1, none⟩ = some (.slice A0_1 l0_1.length c0_1) := (blk_cell BK600.out 1).trans rfl
          have hcz6_2 : wr.cell? ⟨gb600, 2, none⟩ = some (.slice A0_2 l0_2.length c0_2) := (blk_cell BK600.out 2).trans rfl
          have hcz6_3 : wr.cell? ⟨gb600, 3, none⟩ = some (.int .i64 a0_3) := (blk_cell BK600.out 3).trans rfl
          have hfz6_0 := blk_frozen BK600.out 0
          have hfz6_1 := blk_frozen BK600.out 1
          have hfz6_2 := blk_frozen BK600.out 2
          have hfz6_3 := blk_frozen BK600.out 3
          have p601 : 0 ≤ (x3_1 : Int) := of_decide_eq_true (by first | (with_reducible assumption) | assumption)
          have q601 : x3_1 < (l0_2.length : Int) := of_decide_eq_true (by first | (with_reducible assumption) | assumption)
          obtain ⟨ad601, e601, hx601_0, hx601_1, hx601_2, hx601_3, hx601_4, hx601_5⟩ := at_T176 HR0_2.out x3_1 p601 q601
          cases e601
          replace hx601_0 := (HB.out.cell (World.block_lt_of_cell? w _ hx601_0)).trans hx601_0
          replace hx601_1 := (HB.out.cell (World.block_lt_of_cell? w _ hx601_1)).trans hx601_1
          replace hx601_2 := (HB.out.cell (World.block_lt_of_cell? w _ hx601_2)).trans hx601_2
          replace hx601_3 := (HB.out.cell (World.block_lt_of_cell? w _ hx601_3)).trans hx601_3
          replace hx601_4 := (HB.out.cell (World.block_lt_of_cell? w _ hx601_4)).trans hx601_4
          replace hx601_5 := (HB.out.cell (World.block_lt_of_cell? w _ hx601_5)).trans hx601_5
          replace p601 := eq_true p601
          replace q601 := eq_true q601
          go_upto_region 5 with (first | ((with_reducible refine gate_dst (N := 4) rfl ?_); refine box_event ?hg (N := 4) ?hd (cs := #[.int .i64 0, .string (⟨#[]⟩ : ByteArray), .string (⟨#[]⟩ : ByteArray), .int .i64 0, .int .i64 0, .int .i64 0]) (t := 176) ?hr ?_; (case hd => rfl); (case hg => rfl); (case hr => first | (go_simp; done) | (go_simp; rfl)); intro gb602 hg w7 hbox hb; have n0_ := Aside0.mk (blk_below (g := gb600) (o := .cells #[.slice A0_0 l0_0.length c0_0, .slice A0_1 l0_1.length c0_1, .slice (some ad601) l0_2.length c0_2, .int .i64 a0_3] 55 (0, 0)) (by (with_reducible repeat (first | refine blk_drewN ?_ _ | refine blk_drew ?_ | refine blk_alloc ?_ _)); exact BK600.out) hb); have n1_ := Aside0.mk (below_step (by repeat (first | (with_reducible first | exact HB.out | apply below_alloc | apply pw_below_drewN | apply below_drew1 | refine below_set ?_ GE600.out) | exact HB.out)) hb); have n2_ := Aside0.mk (hbox); have n3_ := Aside0.mk ((by rw [hg]; exact (below_size (by repeat (first | (with_reducible first | exact HB.out | apply below_alloc | apply pw_below_drewN | apply below_drew1 | refine below_set ?_ GE600.out) | exact HB.out))) : w.heap.size ≤ gb602)); have n4_ := Aside0.mk ((by rw [hg]; exact (below_size (by repeat (first | (with_reducible first | exact HB.out | apply below_alloc | apply pw_below_drewN | apply below_drew1 | refine below_set ?_ GE600.out) | exact HB.out))) : w.heap.size ≤ gb602)); have n5_ := Aside0.mk ((by rw [hg]; exact Nat.ne_of_lt (blk_lt (g := gb600) (o := .cells #[.slice A0_0 l0_0.length c0_0, .slice A0_1 l0_1.length c0_1, .slice (some ad601) l0_2.length c0_2, .int .i64 a0_3] 55 (0, 0)) (by (with_reducible repeat (first | refine blk_drewN ?_ _ | refine blk_drew ?_ | refine blk_alloc ?_ _)); exact BK600.out)) : gb600 ≠ gb602)); have n6_ := Aside0.mk ((by rw [hg]; exact Nat.ne_of_gt (blk_lt (g := gb600) (o := .cells #[.slice A0_0 l0_0.length c0_0, .slice A0_1 l0_1.length c0_1, .slice (some ad601) l0_2.length c0_2, .int .i64 a0_3] 55 (0, 0)) (by (with_reducible repeat (first | refine blk_drewN ?_ _ | refine blk_drew ?_ | refine blk_alloc ?_ _)); exact BK600.out)) : gb602 ≠ gb600)); clear BK600; clear HB; have BK600 := n0_; have HB := n1_; have BK602 := n2_; have GW602 := n3_; have GE602 := n4_; have NB600_602 := n5_; have NB602_600 := n6_; clear n0_ n1_ n2_ n3_ n4_ n5_ n6_; clear hb hbox hg; have hnb8 := NB602_600.out; have hnc8 := NB600_602.out; have hcz9_0 : w7.cell? ⟨gb602, 0, none⟩ = some (.int .i64 0) := (blk_cell BK602.out 0).trans rfl; have hcz9_1 : w7.cell? ⟨gb602, 1, none⟩ = some (.string (⟨#[]⟩ : ByteArray)) := (blk_cell BK602.out 1).trans rfl; have hcz9_2 : w7.cell? ⟨gb602, 2, none⟩ = some (.string (⟨#[]⟩ : ByteArray)) := (blk_cell BK602.out 2).trans rfl; have hcz9_3 : w7.cell? ⟨gb602, 3, none⟩ = some (.int .i64 0) := (blk_cell BK602.out 3).trans rfl; have hcz9_4 : w7.cell? ⟨gb602, 4, none⟩ = some (.int .i64 0) := (blk_cell BK602.out 4).trans rfl; have hcz9_5 : w7.cell? ⟨gb602, 5, none⟩ = some (.int .i64 0) := (blk_cell BK602.out 5).trans rfl; have hfz9_0 := blk_frozen BK602.out 0; have hfz9_1 := blk_frozen BK602.out 1; have hfz9_2 := blk_frozen BK602.out 2; have hfz9_3 := blk_frozen BK602.out 3; have hfz9_4 := blk_frozen BK602.out 4; have hfz9_5 := blk_frozen BK602.out 5))
          (try simp only [Act.put, List.setIfInBounds_toArray, List.set_cons_zero, List.set_cons_succ])
          go_cut [5] (fun v5 wc => ∃ (kq : Nat) (x5_4 : Bool), v5 = .bool x5_4 ∧ Aside0 (quaysideref07_moves.j1 kq x3_1 x5_4 l0_0 l0_1 l0_2 a0_3 ((rd_T176 l0_2 x3_1).f0) ((rd_T176 l0_2 x3_1).f1) ((rd_T176 l0_2 x3_1).f2) ((rd_T176 l0_2 x3_1).f3) ((rd_T176 l0_2 x3_1).f4) ((rd_T176 l0_2 x3_1).f5) = some r) ∧ Aside0 (kq ≤ k1) ∧ Aside0 (wc.heap[gb600]? = some (.cells #[(.slice A0_0 l0_0.length c0_0), (.slice A0_1 l0_1.length c0_1), (.slice (some ad601) l0_2.length c0_2), .int .i64 a0_3] 55 (0, 0))) ∧ Aside0 (wc.heap[gb602]? = some (.cells #[.int .i64 ((rd_T176 l0_2 x3_1).f0), .string ((rd_T176 l0_2 x3_1).f1), .string ((rd_T176 l0_2 x3_1).f2), .int .i64 ((rd_T176 l0_2 x3_1).f3), .int .i64 ((rd_T176 l0_2 x3_1).f4), .int .i64 ((rd_T176 l0_2 x3_1).f5)] 176 (0, 0))) ∧ Aside0 (Below w.heap.size w wc))
          case first =>
            have H := HC5.out
            clear HC5
            by_cases c10 : ((rd_T176 l0_2 x3_1).f4) = 1
            · rw [if_pos c10] at H
              have c10b0 : (((rd_T176 l0_2 x3_1).f4) == 1) = true := beq_iff_eq.mpr c10
              have c10b1 : (((rd_T176 l0_2 x3_1).f4) != 1) = false := bne_eq_false_iff_eq.mpr c10
              clear c10
              (first | rw [c10b0] | (simp only [i64_w, i32_w]; rw [c10b0]) | skip)
              have H' := Aside0.mk H
              clear H
              have hnb11 := NB602_600.out
              have hnc11 := NB600_602.out
              have hcz12_0 : w7.cell? ⟨gb602, 0, none⟩ = some (.int .i64 0) := (blk_cell BK602.out 0).trans rfl
              have hcz12_1 : w7.cell? ⟨gb602, 1, none⟩ = some (.string (⟨#[]⟩ : ByteArray)) := (blk_cell BK602.out 1).trans rfl
              have hcz12_2 : w7.cell? ⟨gb602, 2, none⟩ = some (.string (⟨#[]⟩ : ByteArray)) := (blk_cell BK602.out 2).trans rfl
              have hcz12_3 : w7.cell? ⟨gb602, 3, none⟩ = some (.int .i64 0) := (blk_cell BK602.out 3).trans rfl
              have hcz12_4 : w7.cell? ⟨gb602, 4, none⟩ = some (.int .i64 0) := (blk_cell BK602.out 4).trans rfl
              have hcz12_5 : w7.cell? ⟨gb602, 5, none⟩ = some (.int .i64 0) := (blk_cell BK602.out 5).trans rfl
              have hfz12_0 := blk_frozen BK602.out 0
              have hfz12_1 := blk_frozen BK602.out 1
              have hfz12_2 := blk_frozen BK602.out 2
              have hfz12_3 := blk_frozen BK602.out 3
              have hfz12_4 := blk_frozen BK602.out 4
              have hfz12_5 := blk_frozen BK602.out 5
              go_wp2
              go_meet
              case rel => exact ⟨_, (true), (by first | rfl | (simp; done) | (simp [*]; done)), H', ⟨by have := HK1.out; first | omega | exact Nat.le_refl _⟩, ⟨by (with_reducible repeat (first | refine blk_drewN ?_ _ | refine blk_drew ?_ | refine blk_alloc ?_ _)); refine blk_far ?_ NB600_602.out _; (with_reducible repeat (first | refine blk_drewN ?_ _ | refine blk_drew ?_ | refine blk_alloc ?_ _)); refine blk_far ?_ NB600_602.out _; (with_reducible repeat (first | refine blk_drewN ?_ _ | refine blk_drew ?_ | refine blk_alloc ?_ _)); refine blk_far ?_ NB600_602.out _; (with_reducible repeat (first | refine blk_drewN ?_ _ | refine blk_drew ?_ | refine blk_alloc ?_ _)); refine blk_far ?_ NB600_602.out _; (with_reducible repeat (first | refine blk_drewN ?_ _ | refine blk_drew ?_ | refine blk_alloc ?_ _)); refine blk_far ?_ NB600_602.out _; (with_reducible repeat (first | refine blk_drewN ?_ _ | refine blk_drew ?_ | refine blk_alloc ?_ _)); refine blk_far ?_ NB600_602.out _; (with_reducible repeat (first | refine blk_drewN ?_ _ | refine blk_drew ?_ | refine blk_alloc ?_ _)); exact BK600.out⟩, ⟨by (with_reducible repeat (first | refine blk_drewN ?_ _ | refine blk_drew ?_ | refine blk_alloc ?_ _)); refine blk_put (cs := #[.int .i64 ((rd_T176 l0_2 x3_1).f0), .string ((rd_T176 l0_2 x3_1).f1), .string ((rd_T176 l0_2 x3_1).f2), .int .i64 ((rd_T176 l0_2 x3_1).f3), .int .i64 ((rd_T176 l0_2 x3_1).f4), .int .i64 0]) ?_ 5 _ rfl; (with_reducible repeat (first | refine blk_drewN ?_ _ | refine blk_drew ?_ | refine blk_alloc ?_ _)); refine blk_put (cs := #[.int .i64 ((rd_T176 l0_2 x3_1).f0), .string ((rd_T176 l0_2 x3_1).f1), .string ((rd_T176 l0_2 x3_1).f2), .int .i64 ((rd_T176 l0_2 x3_1).f3), .int .i64 0, .int .i64 0]) ?_ 4 _ rfl; (with_reducible repeat (first | refine blk_drewN ?_ _ | refine blk_drew ?_ | refine blk_alloc ?_ _)); refine blk_put (cs := #[.int .i64 ((rd_T176 l0_2 x3_1).f0), .string ((rd_T176 l0_2 x3_1).f1), .string ((rd_T176 l0_2 x3_1).f2), .int .i64 0, .int .i64 0, .int .i64 0]) ?_ 3 _ rfl; (with_reducible repeat (first | refine blk_drewN ?_ _ | refine blk_drew ?_ | refine blk_alloc ?_ _)); refine blk_put (cs := #[.int .i64 ((rd_T176 l0_2 x3_1).f0), .string ((rd_T176 l0_2 x3_1).f1), .string (⟨#[]⟩ : ByteArray), .int .i64 0, .int .i64 0, .int .i64 0]) ?_ 2 _ rfl; (with_reducible repeat (first | refine blk_drewN ?_ _ | refine blk_drew ?_ | refine blk_alloc ?_ _)); refine blk_put (cs := #[.int .i64 ((rd_T176 l0_2 x3_1).f0), .string (⟨#[]⟩ : ByteArray), .string (⟨#[]⟩ : ByteArray), .int .i64 0, .int .i64 0, .int .i64 0]) ?_ 1 _ rfl; (with_reducible repeat (first | refine blk_drewN ?_ _ | refine blk_drew ?_ | refine blk_alloc ?_ _)); refine blk_put (cs := #[.int .i64 0, .string (⟨#[]⟩ : ByteArray), .string (⟨#[]⟩ : ByteArray), .int .i64 0, .int .i64 0, .int .i64 0]) ?_ 0 _ rfl; (with_reducible repeat (first | refine blk_drewN ?_ _ | refine blk_drew ?_ | refine blk_alloc ?_ _)); exact BK602.out⟩, ⟨by repeat (first | (with_reducible first | exact HB.out | apply below_alloc | apply pw_below_drewN | apply below_drew1 | refine below_set ?_ GE600.out | refine below_set ?_ GE602.out) | exact HB.out)⟩⟩
            · rw [if_neg c10] at H
              have c10b0 : (((rd_T176 l0_2 x3_1).f4) == 1) = false := beq_eq_false_iff_ne.mpr c10
              have c10b1 : (((rd_T176 l0_2 x3_1).f4) != 1) = true := bne_iff_ne.mpr c10
              (first | rw [c10b0] | (simp only [i64_w, i32_w]; rw [c10b0]) | skip)
              by_cases c13 : ((rd_T176 l0_2 x3_1).f4) = 3
              · rw [if_pos c13] at H
                have c13b0 : (((rd_T176 l0_2 x3_1).f4) == 3) = true := beq_iff_eq.mpr c13
                have c13b1 : (((rd_T176 l0_2 x3_1).f4) != 3) = false := bne_eq_false_iff_eq.mpr c13
                clear c13
                have H' := Aside0.mk H
                clear H
                have hnb14 := NB602_600.out
                have hnc14 := NB600_602.out
                have hcz15_0 : w7.cell? ⟨gb602, 0, none⟩ = some (.int .i64 0) := (blk_cell BK602.out 0).trans rfl
                have hcz15_1 : w7.cell? ⟨gb602, 1, none⟩ = some (.string (⟨#[]⟩ : ByteArray)) := (blk_cell BK602.out 1).trans rfl
                have hcz15_2 : w7.cell? ⟨gb602, 2, none⟩ = some (.string (⟨#[]⟩ : ByteArray)) := (blk_cell BK602.out 2).trans rfl
                have hcz15_3 : w7.cell? ⟨gb602, 3, none⟩ = some (.int .i64 0) := (blk_cell BK602.out 3).trans rfl
                have hcz15_4 : w7.cell? ⟨gb602, 4, none⟩ = some (.int .i64 0) := (blk_cell BK602.out 4).trans rfl
                have hcz15_5 : w7.cell? ⟨gb602, 5, none⟩ = some (.int .i64 0) := (blk_cell BK602.out 5).trans rfl
                have hfz15_0 := blk_frozen BK602.out 0
                have hfz15_1 := blk_frozen BK602.out 1
                have hfz15_2 := blk_frozen BK602.out 2
                have hfz15_3 := blk_frozen BK602.out 3
                have hfz15_4 := blk_frozen BK602.out 4
                have hfz15_5 := blk_frozen BK602.out 5
                go_wp2
                go_meet
                case rel => exact ⟨_, (true), (by first | rfl | (simp; done) | (simp [*]; done)), H', ⟨by have := HK1.out; first | omega | exact Nat.le_refl _⟩, ⟨by (with_reducible repeat (first | refine blk_drewN ?_ _ | refine blk_drew ?_ | refine blk_alloc ?_ _)); refine blk_far ?_ NB600_602.out _; (with_reducible repeat (first | refine blk_drewN ?_ _ | refine blk_drew ?_ | refine blk_alloc ?_ _)); refine blk_far ?_ NB600_602.out _; (with_reducible repeat (first | refine blk_drewN ?_ _ | refine blk_drew ?_ | refine blk_alloc ?_ _)); refine blk_far ?_ NB600_602.out _; (with_reducible repeat (first | refine blk_drewN ?_ _ | refine blk_drew ?_ | refine blk_alloc ?_ _)); refine blk_far ?_ NB600_602.out _; (with_reducible repeat (first | refine blk_drewN ?_ _ | refine blk_drew ?_ | refine blk_alloc ?_ _)); refine blk_far ?_ NB600_602.out _; (with_reducible repeat (first | refine blk_drewN ?_ _ | refine blk_drew ?_ | refine blk_alloc ?_ _)); refine blk_far ?_ NB600_602.out _; (with_reducible repeat (first | refine blk_drewN ?_ _ | refine blk_drew ?_ | refine blk_alloc ?_ _)); exact BK600.out⟩, ⟨by (with_reducible repeat (first | refine blk_drewN ?_ _ | refine blk_drew ?_ | refine blk_alloc ?_ _)); refine blk_put (cs := #[.int .i64 ((rd_T176 l0_2 x3_1).f0), .string ((rd_T176 l0_2 x3_1).f1), .string ((rd_T176 l0_2 x3_1).f2), .int .i64 ((rd_T176 l0_2 x3_1).f3), .int .i64 ((rd_T176 l0_2 x3_1).f4), .int .i64 0]) ?_ 5 _ rfl; (with_reducible repeat (first | refine blk_drewN ?_ _ | refine blk_drew ?_ | refine blk_alloc ?_ _)); refine blk_put (cs := #[.int .i64 ((rd_T176 l0_2 x3_1).f0), .string ((rd_T176 l0_2 x3_1).f1), .string ((rd_T176 l0_2 x3_1).f2), .int .i64 ((rd_T176 l0_2 x3_1).f3), .int .i64 0, .int .i64 0]) ?_ 4 _ rfl; (with_reducible repeat (first | refine blk_drewN ?_ _ | refine blk_drew ?_ | refine blk_alloc ?_ _)); refine blk_put (cs := #[.int .i64 ((rd_T176 l0_2 x3_1).f0), .string ((rd_T176 l0_2 x3_1).f1), .string ((rd_T176 l0_2 x3_1).f2), .int .i64 0, .int .i64 0, .int .i64 0]) ?_ 3 _ rfl; (with_reducible repeat (first | refine blk_drewN ?_ _ | refine blk_drew ?_ | refine blk_alloc ?_ _)); refine blk_put (cs := #[.int .i64 ((rd_T176 l0_2 x3_1).f0), .string ((rd_T176 l0_2 x3_1).f1), .string (⟨#[]⟩ : ByteArray), .int .i64 0, .int .i64 0, .int .i64 0]) ?_ 2 _ rfl; (with_reducible repeat (first | refine blk_drewN ?_ _ | refine blk_drew ?_ | refine blk_alloc ?_ _)); refine blk_put (cs := #[.int .i64 ((rd_T176 l0_2 x3_1).f0), .string (⟨#[]⟩ : ByteArray), .string (⟨#[]⟩ : ByteArray), .int .i64 0, .int .i64 0, .int .i64 0]) ?_ 1 _ rfl; (with_reducible repeat (first | refine blk_drewN ?_ _ | refine blk_drew ?_ | refine blk_alloc ?_ _)); refine blk_put (cs := #[.int .i64 0, .string (⟨#[]⟩ : ByteArray), .string (⟨#[]⟩ : ByteArray), .int .i64 0, .int .i64 0, .int .i64 0]) ?_ 0 _ rfl; (with_reducible repeat (first | refine blk_drewN ?_ _ | refine blk_drew ?_ | refine blk_alloc ?_ _)); exact BK602.out⟩, ⟨by repeat (first | (with_reducible first | exact HB.out | apply below_alloc | apply pw_below_drewN | apply below_drew1 | refine below_set ?_ GE600.out | refine below_set ?_ GE602.out) | exact HB.out)⟩⟩
              · rw [if_neg c13] at H
                have c13b0 : (((rd_T176 l0_2 x3_1).f4) == 3) = false := beq_eq_false_iff_ne.mpr c13
                have c13b1 : (((rd_T176 l0_2 x3_1).f4) != 3) = true := bne_iff_ne.mpr c13
                by_cases c16 : ((rd_T176 l0_2 x3_1).f4) = 6
                · rw [if_pos c16] at H
                  have c16b0 : (((rd_T176 l0_2 x3_1).f4) == 6) = true := beq_iff_eq.mpr c16
                  have c16b1 : (((rd_T176 l0_2 x3_1).f4) != 6) = false := bne_eq_false_iff_eq.mpr c16
                  clear c16
                  have H' := Aside0.mk H
                  clear H
                  have hnb17 := NB602_600.out
                  have hnc17 := NB600_602.out
                  have hcz18_0 : w7.cell? ⟨gb602, 0, none⟩ = some (.int .i64 0) := (blk_cell BK602.out 0).trans rfl
                  have hcz18_1 : w7.cell? ⟨gb602, 1, none⟩ = some (.string (⟨#[]⟩ : ByteArray)) := (blk_cell BK602.out 1).trans rfl
                  have hcz18_2 : w7.cell? ⟨gb602, 2, none⟩ = some (.string (⟨#[]⟩ : ByteArray)) := (blk_cell BK602.out 2).trans rfl
                  have hcz18_3 : w7.cell? ⟨gb602, 3, none⟩ = some (.int .i64 0) := (blk_cell BK602.out 3).trans rfl
                  have hcz18_4 : w7.cell? ⟨gb602, 4, none⟩ = some (.int .i64 0) := (blk_cell BK602.out 4).trans rfl
                  have hcz18_5 : w7.cell? ⟨gb602, 5, none⟩ = some (.int .i64 0) := (blk_cell BK602.out 5).trans rfl
                  have hfz18_0 := blk_frozen BK602.out 0
                  have hfz18_1 := blk_frozen BK602.out 1
                  have hfz18_2 := blk_frozen BK602.out 2
                  have hfz18_3 := blk_frozen BK602.out 3
                  have hfz18_4 := blk_frozen BK602.out 4
                  have hfz18_5 := blk_frozen BK602.out 5
                  go_wp2
                  go_meet
                  case rel => exact ⟨_, (true), (by first | rfl | (simp; done) | (simp [*]; done)), H', ⟨by have := HK1.out; first | omega | exact Nat.le_refl _⟩, ⟨by (with_reducible repeat (first | refine blk_drewN ?_ _ | refine blk_drew ?_ | refine blk_alloc ?_ _)); refine blk_far ?_ NB600_602.out _; (with_reducible repeat (first | refine blk_drewN ?_ _ | refine blk_drew ?_ | refine blk_alloc ?_ _)); refine blk_far ?_ NB600_602.out _; (with_reducible repeat (first | refine blk_drewN ?_ _ | refine blk_drew ?_ | refine blk_alloc ?_ _)); refine blk_far ?_ NB600_602.out _; (with_reducible repeat (first | refine blk_drewN ?_ _ | refine blk_drew ?_ | refine blk_alloc ?_ _)); refine blk_far ?_ NB600_602.out _; (with_reducible repeat (first | refine blk_drewN ?_ _ | refine blk_drew ?_ | refine blk_alloc ?_ _)); refine blk_far ?_ NB600_602.out _; (with_reducible repeat (first | refine blk_drewN ?_ _ | refine blk_drew ?_ | refine blk_alloc ?_ _)); refine blk_far ?_ NB600_602.out _; (with_reducible repeat (first | refine blk_drewN ?_ _ | refine blk_drew ?_ | refine blk_alloc ?_ _)); exact BK600.out⟩, ⟨by (with_reducible repeat (first | refine blk_drewN ?_ _ | refine blk_drew ?_ | refine blk_alloc ?_ _)); refine blk_put (cs := #[.int .i64 ((rd_T176 l0_2 x3_1).f0), .string ((rd_T176 l0_2 x3_1).f1), .string ((rd_T176 l0_2 x3_1).f2), .int .i64 ((rd_T176 l0_2 x3_1).f3), .int .i64 ((rd_T176 l0_2 x3_1).f4), .int .i64 0]) ?_ 5 _ rfl; (with_reducible repeat (first | refine blk_drewN ?_ _ | refine blk_drew ?_ | refine blk_alloc ?_ _)); refine blk_put (cs := #[.int .i64 ((rd_T176 l0_2 x3_1).f0), .string ((rd_T176 l0_2 x3_1).f1), .string ((rd_T176 l0_2 x3_1).f2), .int .i64 ((rd_T176 l0_2 x3_1).f3), .int .i64 0, .int .i64 0]) ?_ 4 _ rfl; (with_reducible repeat (first | refine blk_drewN ?_ _ | refine blk_drew ?_ | refine blk_alloc ?_ _)); refine blk_put (cs := #[.int .i64 ((rd_T176 l0_2 x3_1).f0), .string ((rd_T176 l0_2 x3_1).f1), .string ((rd_T176 l0_2 x3_1).f2), .int .i64 0, .int .i64 0, .int .i64 0]) ?_ 3 _ rfl; (with_reducible repeat (first | refine blk_drewN ?_ _ | refine blk_drew ?_ | refine blk_alloc ?_ _)); refine blk_put (cs := #[.int .i64 ((rd_T176 l0_2 x3_1).f0), .string ((rd_T176 l0_2 x3_1).f1), .string (⟨#[]⟩ : ByteArray), .int .i64 0, .int .i64 0, .int .i64 0]) ?_ 2 _ rfl; (with_reducible repeat (first | refine blk_drewN ?_ _ | refine blk_drew ?_ | refine blk_alloc ?_ _)); refine blk_put (cs := #[.int .i64 ((rd_T176 l0_2 x3_1).f0), .string (⟨#[]⟩ : ByteArray), .string (⟨#[]⟩ : ByteArray), .int .i64 0, .int .i64 0, .int .i64 0]) ?_ 1 _ rfl; (with_reducible repeat (first | refine blk_drewN ?_ _ | refine blk_drew ?_ | refine blk_alloc ?_ _)); refine blk_put (cs := #[.int .i64 0, .string (⟨#[]⟩ : ByteArray), .string (⟨#[]⟩ : ByteArray), .int .i64 0, .int .i64 0, .int .i64 0]) ?_ 0 _ rfl; (with_reducible repeat (first | refine blk_drewN ?_ _ | refine blk_drew ?_ | refine blk_alloc ?_ _)); exact BK602.out⟩, ⟨by repeat (first | (with_reducible first | exact HB.out | apply below_alloc | apply pw_below_drewN | apply below_drew1 | refine below_set ?_ GE600.out | refine below_set ?_ GE602.out) | exact HB.out)⟩⟩
                · rw [if_neg c16] at H
                  have c16b0 : (((rd_T176 l0_2 x3_1).f4) == 6) = false := beq_eq_false_iff_ne.mpr c16
                  have c16b1 : (((rd_T176 l0_2 x3_1).f4) != 6) = true := bne_iff_ne.mpr c16
                  have H' := Aside0.mk H
                  clear H
                  have hnb19 := NB602_600.out
                  have hnc19 := NB600_602.out
                  have hcz20_0 : w7.cell? ⟨gb602, 0, none⟩ = some (.int .i64 0) := (blk_cell BK602.out 0).trans rfl
                  have hcz20_1 : w7.cell? ⟨gb602, 1, none⟩ = some (.string (⟨#[]⟩ : ByteArray)) := (blk_cell BK602.out 1).trans rfl
                  have hcz20_2 : w7.cell? ⟨gb602, 2, none⟩ = some (.string (⟨#[]⟩ : ByteArray)) := (blk_cell BK602.out 2).trans rfl
                  have hcz20_3 : w7.cell? ⟨gb602, 3, none⟩ = some (.int .i64 0) := (blk_cell BK602.out 3).trans rfl
                  have hcz20_4 : w7.cell? ⟨gb602, 4, none⟩ = some (.int .i64 0) := (blk_cell BK602.out 4).trans rfl
                  have hcz20_5 : w7.cell? ⟨gb602, 5, none⟩ = some (.int .i64 0) := (blk_cell BK602.out 5).trans rfl
                  have hfz20_0 := blk_frozen BK602.out 0
                  have hfz20_1 := blk_frozen BK602.out 1
                  have hfz20_2 := blk_frozen BK602.out 2
                  have hfz20_3 := blk_frozen BK602.out 3
                  have hfz20_4 := blk_frozen BK602.out 4
                  have hfz20_5 := blk_frozen BK602.out 5
                  go_wp2
                  go_meet
                  case rel => exact ⟨_, ((((rd_T176 l0_2 x3_1).f4) == 7)), (by first | rfl | (simp; done) | (simp [*]; done)), H', ⟨by have := HK1.out; first | omega | exact Nat.le_refl _⟩, ⟨by (with_reducible repeat (first | refine blk_drewN ?_ _ | refine blk_drew ?_ | refine blk_alloc ?_ _)); refine blk_far ?_ NB600_602.out _; (with_reducible repeat (first | refine blk_drewN ?_ _ | refine blk_drew ?_ | refine blk_alloc ?_ _)); refine blk_far ?_ NB600_602.out _; (with_reducible repeat (first | refine blk_drewN ?_ _ | refine blk_drew ?_ | refine blk_alloc ?_ _)); refine blk_far ?_ NB600_602.out _; (with_reducible repeat (first | refine blk_drewN ?_ _ | refine blk_drew ?_ | refine blk_alloc ?_ _)); refine blk_far ?_ NB600_602.out _; (with_reducible repeat (first | refine blk_drewN ?_ _ | refine blk_drew ?_ | refine blk_alloc ?_ _)); refine blk_far ?_ NB600_602.out _; (with_reducible repeat (first | refine blk_drewN ?_ _ | refine blk_drew ?_ | refine blk_alloc ?_ _)); refine blk_far ?_ NB600_602.out _; (with_reducible repeat (first | refine blk_drewN ?_ _ | refine blk_drew ?_ | refine blk_alloc ?_ _)); exact BK600.out⟩, ⟨by (with_reducible repeat (first | refine blk_drewN ?_ _ | refine blk_drew ?_ | refine blk_alloc ?_ _)); refine blk_put (cs := #[.int .i64 ((rd_T176 l0_2 x3_1).f0), .string ((rd_T176 l0_2 x3_1).f1), .string ((rd_T176 l0_2 x3_1).f2), .int .i64 ((rd_T176 l0_2 x3_1).f3), .int .i64 ((rd_T176 l0_2 x3_1).f4), .int .i64 0]) ?_ 5 _ rfl; (with_reducible repeat (first | refine blk_drewN ?_ _ | refine blk_drew ?_ | refine blk_alloc ?_ _)); refine blk_put (cs := #[.int .i64 ((rd_T176 l0_2 x3_1).f0), .string ((rd_T176 l0_2 x3_1).f1), .string ((rd_T176 l0_2 x3_1).f2), .int .i64 ((rd_T176 l0_2 x3_1).f3), .int .i64 0, .int .i64 0]) ?_ 4 _ rfl; (with_reducible repeat (first | refine blk_drewN ?_ _ | refine blk_drew ?_ | refine blk_alloc ?_ _)); refine blk_put (cs := #[.int .i64 ((rd_T176 l0_2 x3_1).f0), .string ((rd_T176 l0_2 x3_1).f1), .string ((rd_T176 l0_2 x3_1).f2), .int .i64 0, .int .i64 0, .int .i64 0]) ?_ 3 _ rfl; (with_reducible repeat (first | refine blk_drewN ?_ _ | refine blk_drew ?_ | refine blk_alloc ?_ _)); refine blk_put (cs := #[.int .i64 ((rd_T176 l0_2 x3_1).f0), .string ((rd_T176 l0_2 x3_1).f1), .string (⟨#[]⟩ : ByteArray), .int .i64 0, .int .i64 0, .int .i64 0]) ?_ 2 _ rfl; (with_reducible repeat (first | refine blk_drewN ?_ _ | refine blk_drew ?_ | refine blk_alloc ?_ _)); refine blk_put (cs := #[.int .i64 ((rd_T176 l0_2 x3_1).f0), .string (⟨#[]⟩ : ByteArray), .string (⟨#[]⟩ : ByteArray), .int .i64 0, .int .i64 0, .int .i64 0]) ?_ 1 _ rfl; (with_reducible repeat (first | refine blk_drewN ?_ _ | refine blk_drew ?_ | refine blk_alloc ?_ _)); refine blk_put (cs := #[.int .i64 0, .string (⟨#[]⟩ : ByteArray), .string (⟨#[]⟩ : ByteArray), .int .i64 0, .int .i64 0, .int .i64 0]) ?_ 0 _ rfl; (with_reducible repeat (first | refine blk_drewN ?_ _ | refine blk_drew ?_ | refine blk_alloc ?_ _)); exact BK602.out⟩, ⟨by repeat (first | (with_reducible first | exact HB.out | apply below_alloc | apply pw_below_drewN | apply below_drew1 | refine below_set ?_ GE600.out | refine below_set ?_ GE602.out) | exact HB.out)⟩⟩
          case rest =>
            clear HC5
            try clear c1
            try clear p2
            try clear c3
            try clear c3b0
            try clear c4
            try clear c4b0
            try clear p6
            try clear q6
            try clear hx6
            try clear c8
            try clear c9
            try clear c10
            try clear c10b0
            try clear c10b1
            try clear c11
            try clear c13
            try clear c13b0
            try clear c13b1
            try clear c14
            try clear c16
            try clear c16b0
            try clear c16b1
            try clear c17
            try clear c19
            try clear hcz12_0
            try clear hcz12_1
            try clear hcz12_2
            try clear hcz12_3
            try clear hcz12_4
            try clear hcz12_5
            try clear hcz15_0
            try clear hcz15_1
            try clear hcz15_2
            try clear hcz15_3
            try clear hcz15_4
            try clear hcz15_5
            try clear hcz18_0
            try clear hcz18_1
            try clear hcz18_2
            try clear hcz18_3
            try clear hcz18_4
            try clear hcz18_5
            try clear hcz20_0
            try clear hcz20_1
            try clear hcz20_2
            try clear hcz20_3
            try clear hcz20_4
            try clear hcz20_5
            try clear hcz6_0
            try clear hcz6_1
            try clear hcz6_2
            try clear hcz6_3
            try clear hcz9_0
            try clear hcz9_1
            try clear hcz9_2
            try clear hcz9_3
            try clear hcz9_4
            try clear hcz9_5
            try clear hfz12_0
            try clear hfz12_1
            try clear hfz12_2
            try clear hfz12_3
            try clear hfz12_4
            try clear hfz12_5
            try clear hfz15_0
            try clear hfz15_1
            try clear hfz15_2
            try clear hfz15_3
            try clear hfz15_4
            try clear hfz15_5
            try clear hfz18_0
            try clear hfz18_1
            try clear hfz18_2
            try clear hfz18_3
            try clear hfz18_4
            try clear hfz18_5
            try clear hfz20_0
            try clear hfz20_1
            try clear hfz20_2
            try clear hfz20_3
            try clear hfz20_4
            try clear hfz20_5
            try clear hfz6_0
            try clear hfz6_1
            try clear hfz6_2
            try clear hfz6_3
            try clear hfz9_0
            try clear hfz9_1
            try clear hfz9_2
            try clear hfz9_3
            try clear hfz9_4
            try clear hfz9_5
            try clear hx601_0
            try clear hx601_1
            try clear hx601_2
            try clear hx601_3
            try clear hx601_4
            try clear hx601_5
            try clear p2
            try clear p601
            try clear q601
            obtain ⟨kq, x5_4, rfl, HA, HJ4, BK600, BK602, HB⟩ := hcut
            cases kq with
            | zero => exact absurd HA.out (by simp [quaysideref07_moves.j1])
            | succ kj4 =>
              have H := HA.out
              clear HA
              simp only [quaysideref07_moves.j1] at H
              by_cases c21 : (wrap64 (((rd_T176 l0_2 x3_1).f0) - 1)) = x3_1
              · rw [if_pos c21] at H
                have c21b0 : ((wrap64 (((rd_T176 l0_2 x3_1).f0) - 1)) == x3_1) = true := beq_iff_eq.mpr c21
                have c21b1 : ((wrap64 (((rd_T176 l0_2 x3_1).f0) - 1)) != x3_1) = false := bne_eq_false_iff_eq.mpr c21
                clear c21
                replace H := Option.bind_eq_some_iff.mp H
                obtain ⟨t603, A220, H⟩ := H
                replace H : (if t603 = true then ((quaysideref06_Name.f ((rd_T176 l0_2 x3_1).f2)).bind fun t604 => (if t604 = true then (if ((rd_T176 l0_2 x3_1).f3) = 0 then (some false) else (if x5_4 = true then (if ((rd_T176 l0_2 x3_1).f5) < 0 then (some false) else (if ((((rd_T176 l0_2 x3_1).f5) != 0) != (((rd_T176 l0_2 x3_1).f4) == 3)) = true then (some false) else ((quaysideref07_index.f kj4 l0_0 l0_1 l0_2 a0_3 ((rd_T176 l0_2 x3_1).f1) ((rd_T176 l0_2 x3_1).f2)).bind fun t605 => (if t605 < 0 then (some false) else (quaysideref07_moves.l0 kj4 (wrap64 (x3_1 + 1)) l0_0 l0_1 l0_2 a0_3))))) else (some false))) else (some false))) else (some false)) = some r := H
                have A22 := Aside0.mk A220
                clear A220
                by_cases c23 : t603 = true
                · subst c23
                  have H1 : ((quaysideref06_Name.f ((rd_T176 l0_2 x3_1).f2)).bind fun t604 => (if t604 = true then (if ((rd_T176 l0_2 x3_1).f3) = 0 then (some false) else (if x5_4 = true then (if ((rd_T176 l0_2 x3_1).f5) < 0 then (some false) else (if ((((rd_T176 l0_2 x3_1).f5) != 0) != (((rd_T176 l0_2 x3_1).f4) == 3)) = true then (some false) else ((quaysideref07_index.f kj4 l0_0 l0_1 l0_2 a0_3 ((rd_T176 l0_2 x3_1).f1) ((rd_T176 l0_2 x3_1).f2)).bind fun t605 => (if t605 < 0 then (some false) else (quaysideref07_moves.l0 kj4 (wrap64 (x3_1 + 1)) l0_0 l0_1 l0_2 a0_3))))) else (some false))) else (some false))) = some r := by rw [if_pos rfl] at H; exact H
                  clear H
                  have H := H1
                  clear H1
                  replace H := Option.bind_eq_some_iff.mp H
                  obtain ⟨t604, A240, H⟩ := H
                  replace H : (if t604 = true then (if ((rd_T176 l0_2 x3_1).f3) = 0 then (some false) else (if x5_4 = true then (if ((rd_T176 l0_2 x3_1).f5) < 0 then (some false) else (if ((((rd_T176 l0_2 x3_1).f5) != 0) != (((rd_T176 l0_2 x3_1).f4) == 3)) = true then (some false) else ((quaysideref07_index.f kj4 l0_0 l0_1 l0_2 a0_3 ((rd_T176 l0_2 x3_1).f1) ((rd_T176 l0_2 x3_1).f2)).bind fun t605 => (if t605 < 0 then (some false) else (quaysideref07_moves.l0 kj4 (wrap64 (x3_1 + 1)) l0_0 l0_1 l0_2 a0_3))))) else (some false))) else (some false)) = some r := H
                  have A24 := Aside0.mk A240
                  clear A240
                  by_cases c25 : t604 = true
                  · subst c25
                    have H1 : (if ((rd_T176 l0_2 x3_1).f3) = 0 then (some false) else (if x5_4 = true then (if ((rd_T176 l0_2 x3_1).f5) < 0 then (some false) else (if ((((rd_T176 l0_2 x3_1).f5) != 0) != (((rd_T176 l0_2 x3_1).f4) == 3)) = true then (some false) else ((quaysideref07_index.f kj4 l0_0 l0_1 l0_2 a0_3 ((rd_T176 l0_2 x3_1).f1) ((rd_T176 l0_2 x3_1).f2)).bind fun t605 => (if t605 < 0 then (some false) else (quaysideref07_moves.l0 kj4 (wrap64 (x3_1 + 1)) l0_0 l0_1 l0_2 a0_3))))) else (some false))) = some r := by rw [if_pos rfl] at H; exact H
                    clear H
                    have H := H1
                    clear H1
                    by_cases c26 : ((rd_T176 l0_2 x3_1).f3) = 0
                    · rw [if_pos c26] at H
                      have c26b0 : (((rd_T176 l0_2 x3_1).f3) == 0) = true := beq_iff_eq.mpr c26
                      have c26b1 : (((rd_T176 l0_2 x3_1).f3) != 0) = false := bne_eq_false_iff_eq.mpr c26
                      clear c26
                      obtain rfl := Option.some.inj H
                      have hnb27 := NB602_600.out
                      have hnc27 := NB600_602.out
                      have hcz28_0 : wc.cell? ⟨gb602, 0, none⟩ = some (.int .i64 ((rd_T176 l0_2 x3_1).f0)) := (blk_cell BK602.out 0).trans rfl
                      have hcz28_1 : wc.cell? ⟨gb602, 1, none⟩ = some (.string ((rd_T176 l0_2 x3_1).f1)) := (blk_cell BK602.out 1).trans rfl
                      have hcz28_2 : wc.cell? ⟨gb602, 2, none⟩ = some (.string ((rd_T176 l0_2 x3_1).f2)) := (blk_cell BK602.out 2).trans rfl
                      have hcz28_3 : wc.cell? ⟨gb602, 3, none⟩ = some (.int .i64 ((rd_T176 l0_2 x3_1).f3)) := (blk_cell BK602.out 3).trans rfl
                      have hcz28_4 : wc.cell? ⟨gb602, 4, none⟩ = some (.int .i64 ((rd_T176 l0_2 x3_1).f4)) := (blk_cell BK602.out 4).trans rfl
                      have hcz28_5 : wc.cell? ⟨gb602, 5, none⟩ = some (.int .i64 ((rd_T176 l0_2 x3_1).f5)) := (blk_cell BK602.out 5).trans rfl
                      have hfz28_0 := blk_frozen BK602.out 0
                      have hfz28_1 := blk_frozen BK602.out 1
                      have hfz28_2 := blk_frozen BK602.out 2
                      have hfz28_3 := blk_frozen BK602.out 3
                      have hfz28_4 := blk_frozen BK602.out 4
                      have hfz28_5 := blk_frozen BK602.out 5
                      go_wp2_with (first | (go_at_call 90; (with_reducible refine (quaysideref06_Name.calls ((rd_T176 l0_2 x3_1).f1) true _ A22.out).mono ?_); rintro e w' ⟨rfl, ⟨nd, rfl⟩⟩) | (go_at_call 90; (with_reducible refine (quaysideref06_Name.calls ((rd_T176 l0_2 x3_1).f2) true _ A24.out).mono ?_); rintro e w' ⟨rfl, ⟨nd, rfl⟩⟩))
                      go_ret
                      exact ⟨by first | rfl | (simp [errW_none, errW_some] <;> rfl) | (simp [*, errW_none, errW_some] <;> rfl), by repeat (first | (with_reducible first | exact HB.out | apply below_alloc | apply pw_below_drewN | apply below_drew1 | refine below_set ?_ GE600.out | refine below_set ?_ GE602.out) | exact HB.out)⟩
                    · rw [if_neg c26] at H
                      have c26b0 : (((rd_T176 l0_2 x3_1).f3) == 0) = false := beq_eq_false_iff_ne.mpr c26
                      have c26b1 : (((rd_T176 l0_2 x3_1).f3) != 0) = true := bne_iff_ne.mpr c26
                      by_cases c29 : x5_4 = true
                      · subst c29
                        have H1 : (if ((rd_T176 l0_2 x3_1).f5) < 0 then (some false) else (if ((((rd_T176 l0_2 x3_1).f5) != 0) != (((rd_T176 l0_2 x3_1).f4) == 3)) = true then (some false) else ((quaysideref07_index.f kj4 l0_0 l0_1 l0_2 a0_3 ((rd_T176 l0_2 x3_1).f1) ((rd_T176 l0_2 x3_1).f2)).bind fun t605 => (if t605 < 0 then (some false) else (quaysideref07_moves.l0 kj4 (wrap64 (x3_1 + 1)) l0_0 l0_1 l0_2 a0_3))))) = some r := by rw [if_pos rfl] at H; exact H
                        clear H
                        have H := H1
                        clear H1
                        by_cases c30 : ((rd_T176 l0_2 x3_1).f5) < 0
                        · rw [if_pos c30] at H
                          have c30b0 : decide (((rd_T176 l0_2 x3_1).f5) < 0) = true := decide_eq_true c30
                          clear c30
                          obtain rfl := Option.some.inj H
                          have hnb31 := NB602_600.out
                          have hnc31 := NB600_602.out
                          have hcz32_0 : wc.cell? ⟨gb602, 0, none⟩ = some (.int .i64 ((rd_T176 l0_2 x3_1).f0)) := (blk_cell BK602.out 0).trans rfl
                          have hcz32_1 : wc.cell? ⟨gb602, 1, none⟩ = some (.string ((rd_T176 l0_2 x3_1).f1)) := (blk_cell BK602.out 1).trans rfl
                          have hcz32_2 : wc.cell? ⟨gb602, 2, none⟩ = some (.string ((rd_T176 l0_2 x3_1).f2)) := (blk_cell BK602.out 2).trans rfl
                          have hcz32_3 : wc.cell? ⟨gb602, 3, none⟩ = some (.int .i64 ((rd_T176 l0_2 x3_1).f3)) := (blk_cell BK602.out 3).trans rfl
                          have hcz32_4 : wc.cell? ⟨gb602, 4, none⟩ = some (.int .i64 ((rd_T176 l0_2 x3_1).f4)) := (blk_cell BK602.out 4).trans rfl
                          have hcz32_5 : wc.cell? ⟨gb602, 5, none⟩ = some (.int .i64 ((rd_T176 l0_2 x3_1).f5)) := (blk_cell BK602.out 5).trans rfl
                          have hfz32_0 := blk_frozen BK602.out 0
                          have hfz32_1 := blk_frozen BK602.out 1
                          have hfz32_2 := blk_frozen BK602.out 2
                          have hfz32_3 := blk_frozen BK602.out 3
                          have hfz32_4 := blk_frozen BK602.out 4
                          have hfz32_5 := blk_frozen BK602.out 5
                          go_wp2_with (first | (go_at_call 90; (with_reducible refine (quaysideref06_Name.calls ((rd_T176 l0_2 x3_1).f1) true _ A22.out).mono ?_); rintro e w' ⟨rfl, ⟨nd, rfl⟩⟩) | (go_at_call 90; (with_reducible refine (quaysideref06_Name.calls ((rd_T176 l0_2 x3_1).f2) true _ A24.out).mono ?_); rintro e w' ⟨rfl, ⟨nd, rfl⟩⟩))
                          go_ret
                          exact ⟨by first | rfl | (simp [errW_none, errW_some] <;> rfl) | (simp [*, errW_none, errW_some] <;> rfl), by repeat (first | (with_reducible first | exact HB.out | apply below_alloc | apply pw_below_drewN | apply below_drew1 | refine below_set ?_ GE600.out | refine below_set ?_ GE602.out) | exact HB.out)⟩
                        · rw [if_neg c30] at H
                          have c30b0 : decide (((rd_T176 l0_2 x3_1).f5) < 0) = false := decide_eq_false c30
                          clear c30
                          by_cases c33 : ((((rd_T176 l0_2 x3_1).f5) != 0) != (((rd_T176 l0_2 x3_1).f4) == 3)) = true
                          · rw [if_pos c33] at H
                            have c33b0 : ((((rd_T176 l0_2 x3_1).f5) != 0) != (((rd_T176 l0_2 x3_1).f4) == 3)) = true := c33
                            (try (have c33b1 : decide ((((rd_T176 l0_2 x3_1).f5) != 0) = (((rd_T176 l0_2 x3_1).f4) == 3)) = false := by simpa using c33))
                            (try (have c33b2 : ((((rd_T176 l0_2 x3_1).f5) != 0) == (((rd_T176 l0_2 x3_1).f4) == 3)) = false := by simpa using c33))
                            (try (have c33b3 : ¬ ((((rd_T176 l0_2 x3_1).f5) != 0) = (((rd_T176 l0_2 x3_1).f4) == 3)) := by simpa using c33))
                            clear c33
                            obtain rfl := Option.some.inj H
                            have hnb34 := NB602_600.out
                            have hnc34 := NB600_602.out
                            have hcz35_0 : wc.cell? ⟨gb602, 0, none⟩ = some (.int .i64 ((rd_T176 l0_2 x3_1).f0)) := (blk_cell BK602.out 0).trans rfl
                            have hcz35_1 : wc.cell? ⟨gb602, 1, none⟩ = some (.string ((rd_T176 l0_2 x3_1).f1)) := (blk_cell BK602.out 1).trans rfl
                            have hcz35_2 : wc.cell? ⟨gb602, 2, none⟩ = some (.string ((rd_T176 l0_2 x3_1).f2)) := (blk_cell BK602.out 2).trans rfl
                            have hcz35_3 : wc.cell? ⟨gb602, 3, none⟩ = some (.int .i64 ((rd_T176 l0_2 x3_1).f3)) := (blk_cell BK602.out 3).trans rfl
                            have hcz35_4 : wc.cell? ⟨gb602, 4, none⟩ = some (.int .i64 ((rd_T176 l0_2 x3_1).f4)) := (blk_cell BK602.out 4).trans rfl
                            have hcz35_5 : wc.cell? ⟨gb602, 5, none⟩ = some (.int .i64 ((rd_T176 l0_2 x3_1).f5)) := (blk_cell BK602.out 5).trans rfl
                            have hfz35_0 := blk_frozen BK602.out 0
                            have hfz35_1 := blk_frozen BK602.out 1
                            have hfz35_2 := blk_frozen BK602.out 2
                            have hfz35_3 := blk_frozen BK602.out 3
                            have hfz35_4 := blk_frozen BK602.out 4
                            have hfz35_5 := blk_frozen BK602.out 5
                            go_wp2_with (first | (go_at_call 90; (with_reducible refine (quaysideref06_Name.calls ((rd_T176 l0_2 x3_1).f1) true _ A22.out).mono ?_); rintro e w' ⟨rfl, ⟨nd, rfl⟩⟩) | (go_at_call 90; (with_reducible refine (quaysideref06_Name.calls ((rd_T176 l0_2 x3_1).f2) true _ A24.out).mono ?_); rintro e w' ⟨rfl, ⟨nd, rfl⟩⟩))
                            go_ret
                            exact ⟨by first | rfl | (simp [errW_none, errW_some] <;> rfl) | (simp [*, errW_none, errW_some] <;> rfl), by repeat (first | (with_reducible first | exact HB.out | apply below_alloc | apply pw_below_drewN | apply below_drew1 | refine below_set ?_ GE600.out | refine below_set ?_ GE602.out) | exact HB.out)⟩
                          · rw [if_neg c33] at H
                            have c33b0 : ((((rd_T176 l0_2 x3_1).f5) != 0) != (((rd_T176 l0_2 x3_1).f4) == 3)) = false := by simpa using c33
                            (try (have c33b1 : decide ((((rd_T176 l0_2 x3_1).f5) != 0) = (((rd_T176 l0_2 x3_1).f4) == 3)) = true := by simpa using c33))
                            (try (have c33b2 : ((((rd_T176 l0_2 x3_1).f5) != 0) == (((rd_T176 l0_2 x3_1).f4) == 3)) = true := by simpa using c33))
                            clear c33
                            replace H := Option.bind_eq_some_iff.mp H
                            obtain ⟨t605, A360, H⟩ := H
                            replace H : (if t605 < 0 then (some false) else (quaysideref07_moves.l0 kj4 (wrap64 (x3_1 + 1)) l0_0 l0_1 l0_2 a0_3)) = some r := H
                            have A36 := Aside0.mk A360
                            clear A360
                            by_cases c37 : t605 < 0
                            · rw [if_pos c37] at H
                              have c37b0 : decide (t605 < 0) = true := decide_eq_true c37
                              clear c37
                              obtain rfl := Option.some.inj H
                              have hnb38 := NB602_600.out
                              have hnc38 := NB600_602.out
                              have hcz39_0 : wc.cell? ⟨gb602, 0, none⟩ = some (.int .i64 ((rd_T176 l0_2 x3_1).f0)) := (blk_cell BK602.out 0).trans rfl
                              have hcz39_1 : wc.cell? ⟨gb602, 1, none⟩ = some (.string ((rd_T176 l0_2 x3_1).f1)) := (blk_cell BK602.out 1).trans rfl
                              have hcz39_2 : wc.cell? ⟨gb602, 2, none⟩ = some (.string ((rd_T176 l0_2 x3_1).f2)) := (blk_cell BK602.out 2).trans rfl
                              have hcz39_3 : wc.cell? ⟨gb602, 3, none⟩ = some (.int .i64 ((rd_T176 l0_2 x3_1).f3)) := (blk_cell BK602.out 3).trans rfl
                              have hcz39_4 : wc.cell? ⟨gb602, 4, none⟩ = some (.int .i64 ((rd_T176 l0_2 x3_1).f4)) := (blk_cell BK602.out 4).trans rfl
                              have hcz39_5 : wc.cell? ⟨gb602, 5, none⟩ = some (.int .i64 ((rd_T176 l0_2 x3_1).f5)) := (blk_cell BK602.out 5).trans rfl
                              have hfz39_0 := blk_frozen BK602.out 0
                              have hfz39_1 := blk_frozen BK602.out 1
                              have hfz39_2 := blk_frozen BK602.out 2
                              have hfz39_3 := blk_frozen BK602.out 3
                              have hfz39_4 := blk_frozen BK602.out 4
                              have hfz39_5 := blk_frozen BK602.out 5
                              go_wp2_with (first | (go_at_call 90; (with_reducible refine (quaysideref06_Name.calls ((rd_T176 l0_2 x3_1).f1) true _ A22.out).mono ?_); rintro e w' ⟨rfl, ⟨nd, rfl⟩⟩) | (go_at_call 90; (with_reducible refine (quaysideref06_Name.calls ((rd_T176 l0_2 x3_1).f2) true _ A24.out).mono ?_); rintro e w' ⟨rfl, ⟨nd, rfl⟩⟩; have hcz40_0 : wc.cell? ⟨gb600, 0, none⟩ = some (.slice A0_0 l0_0.length c0_0) := (blk_cell BK600.out 0).trans rfl; have hcz40_1 : wc.cell? ⟨gb600, 1, none⟩ = some (.slice A0_1 l0_1.length c0_1) := (blk_cell BK600.out 1).trans rfl; have hcz40_2 : wc.cell? ⟨gb600, 2, none⟩ = some (.slice (some ad601) l0_2.length c0_2) := (blk_cell BK600.out 2).trans rfl; have hcz40_3 : wc.cell? ⟨gb600, 3, none⟩ = some (.int .i64 a0_3) := (blk_cell BK600.out 3).trans rfl; have hfz40_0 := blk_frozen BK600.out 0; have hfz40_1 := blk_frozen BK600.out 1; have hfz40_2 := blk_frozen BK600.out 2; have hfz40_3 := blk_frozen BK600.out 3) | (go_at_call 151; (with_reducible refine (quaysideref07_index.calls kj4 _ _ l0_0 _ _ l0_1 _ _ l0_2 a0_3 ((rd_T176 l0_2 x3_1).f1) ((rd_T176 l0_2 x3_1).f2) t605 _ ?side1 ?side2 ?side3 ?side4 ?side5 ?side6 A36.out).mono ?_); (case side1 => repeat (first | exact (Kd.C_below HR0_0.out (by repeat (first | (with_reducible first | exact HB.out | apply below_alloc | apply pw_below_drewN | apply below_drew1 | refine below_set ?_ GE600.out | refine below_set ?_ GE602.out) | exact HB.out))) | (with_reducible refine Kd.C_alloc ?_ _) | (with_reducible refine Kd.C_drewN ?_ _) | (with_reducible refine Kd.C_drew ?_))); (case side2 => exact HC0_0.out); (case side3 => repeat (first | exact (Kd.C_below HR0_1.out (by repeat (first | (with_reducible first | exact HB.out | apply below_alloc | apply pw_below_drewN | apply below_drew1 | refine below_set ?_ GE600.out | refine below_set ?_ GE602.out) | exact HB.out))) | (with_reducible refine Kd.C_alloc ?_ _) | (with_reducible refine Kd.C_drewN ?_ _) | (with_reducible refine Kd.C_drew ?_))); (case side4 => exact HC0_1.out); (case side5 => repeat (first | exact (Kd.C_below HR0_2.out (by repeat (first | (with_reducible first | exact HB.out | apply below_alloc | apply pw_below_drewN | apply below_drew1 | refine below_set ?_ GE600.out | refine below_set ?_ GE602.out) | exact HB.out))) | (with_reducible refine Kd.C_alloc ?_ _) | (with_reducible refine Kd.C_drewN ?_ _) | (with_reducible refine Kd.C_drew ?_))); (case side6 => exact HC0_2.out); rintro e w41 ⟨rfl, hb⟩; have n0_ := Aside0.mk (blk_below (g := gb600) (o := .cells #[.slice A0_0 l0_0.length c0_0, .slice A0_1 l0_1.length c0_1, .slice (some ad601) l0_2.length c0_2, .int .i64 a0_3] 55 (0, 0)) (by (with_reducible repeat (first | refine blk_drewN ?_ _ | refine blk_drew ?_ | refine blk_alloc ?_ _)); exact BK600.out) hb); have n1_ := Aside0.mk (blk_below (g := gb602) (o := .cells #[.int .i64 ((rd_T176 l0_2 x3_1).f0), .string ((rd_T176 l0_2 x3_1).f1), .string ((rd_T176 l0_2 x3_1).f2), .int .i64 ((rd_T176 l0_2 x3_1).f3), .int .i64 ((rd_T176 l0_2 x3_1).f4), .int .i64 ((rd_T176 l0_2 x3_1).f5)] 176 (0, 0)) (by (with_reducible repeat (first | refine blk_drewN ?_ _ | refine blk_drew ?_ | refine blk_alloc ?_ _)); exact BK602.out) hb); have n2_ := Aside0.mk (below_step (by repeat (first | (with_reducible first | exact HB.out | apply below_alloc | apply pw_below_drewN | apply below_drew1 | refine below_set ?_ GE600.out | refine below_set ?_ GE602.out) | exact HB.out)) hb); clear BK600; clear BK602; clear HB; have BK600 := n0_; have BK602 := n1_; have HB := n2_; clear n0_ n1_ n2_; (try clear hb); (try clear hb2); (try clear hk); (try clear hi)))
                              go_ret
                              exact ⟨by first | rfl | (simp [errW_none, errW_some] <;> rfl) | (simp [*, errW_none, errW_some] <;> rfl), by repeat (first | (with_reducible first | exact HB.out | apply below_alloc | apply pw_below_drewN | apply below_drew1 | refine below_set ?_ GE600.out | refine below_set ?_ GE602.out) | exact HB.out)⟩
                            · rw [if_neg c37] at H
                              have c37b0 : decide (t605 < 0) = false := decide_eq_false c37
                              clear c37
                              have H' := Aside0.mk H
                              clear H
                              have hnb42 := NB602_600.out
                              have hnc42 := NB600_602.out
                              have hcz43_0 : wc.cell? ⟨gb602, 0, none⟩ = some (.int .i64 ((rd_T176 l0_2 x3_1).f0)) := (blk_cell BK602.out 0).trans rfl
                              have hcz43_1 : wc.cell? ⟨gb602, 1, none⟩ = some (.string ((rd_T176 l0_2 x3_1).f1)) := (blk_cell BK602.out 1).trans rfl
                              have hcz43_2 : wc.cell? ⟨gb602, 2, none⟩ = some (.string ((rd_T176 l0_2 x3_1).f2)) := (blk_cell BK602.out 2).trans rfl
                              have hcz43_3 : wc.cell? ⟨gb602, 3, none⟩ = some (.int .i64 ((rd_T176 l0_2 x3_1).f3)) := (blk_cell BK602.out 3).trans rfl
                              have hcz43_4 : wc.cell? ⟨gb602, 4, none⟩ = some (.int .i64 ((rd_T176 l0_2 x3_1).f4)) := (blk_cell BK602.out 4).trans rfl
                              have hcz43_5 : wc.cell? ⟨gb602, 5, none⟩ = some (.int .i64 ((rd_T176 l0_2 x3_1).f5)) := (blk_cell BK602.out 5).trans rfl
                              have hfz43_0 := blk_frozen BK602.out 0
                              have hfz43_1 := blk_frozen BK602.out 1
                              have hfz43_2 := blk_frozen BK602.out 2
                              have hfz43_3 := blk_frozen BK602.out 3
                              have hfz43_4 := blk_frozen BK602.out 4
                              have hfz43_5 := blk_frozen BK602.out 5
                              go_wp2_with (first | (go_at_call 90; (with_reducible refine (quaysideref06_Name.calls ((rd_T176 l0_2 x3_1).f1) true _ A22.out).mono ?_); rintro e w' ⟨rfl, ⟨nd, rfl⟩⟩) | (go_at_call 90; (with_reducible refine (quaysideref06_Name.calls ((rd_T176 l0_2 x3_1).f2) true _ A24.out).mono ?_); rintro e w' ⟨rfl, ⟨nd, rfl⟩⟩; have hcz44_0 : wc.cell? ⟨gb600, 0, none⟩ = some (.slice A0_0 l0_0.length c0_0) := (blk_cell BK600.out 0).trans rfl; have hcz44_1 : wc.cell? ⟨gb600, 1, none⟩ = some (.slice A0_1 l0_1.length c0_1) := (blk_cell BK600.out 1).trans rfl; have hcz44_2 : wc.cell? ⟨gb600, 2, none⟩ = some (.slice (some ad601) l0_2.length c0_2) := (blk_cell BK600.out 2).trans rfl; have hcz44_3 : wc.cell? ⟨gb600, 3, none⟩ = some (.int .i64 a0_3) := (blk_cell BK600.out 3).trans rfl; have hfz44_0 := blk_frozen BK600.out 0; have hfz44_1 := blk_frozen BK600.out 1; have hfz44_2 := blk_frozen BK600.out 2; have hfz44_3 := blk_frozen BK600.out 3) | (go_at_call 151; (with_reducible refine (quaysideref07_index.calls kj4 _ _ l0_0 _ _ l0_1 _ _ l0_2 a0_3 ((rd_T176 l0_2 x3_1).f1) ((rd_T176 l0_2 x3_1).f2) t605 _ ?side1 ?side2 ?side3 ?side4 ?side5 ?side6 A36.out).mono ?_); (case side1 => repeat (first | exact (Kd.C_below HR0_0.out (by repeat (first | (with_reducible first | exact HB.out | apply below_alloc | apply pw_below_drewN | apply below_drew1 | refine below_set ?_ GE600.out | refine below_set ?_ GE602.out) | exact HB.out))) | (with_reducible refine Kd.C_alloc ?_ _) | (with_reducible refine Kd.C_drewN ?_ _) | (with_reducible refine Kd.C_drew ?_))); (case side2 => exact HC0_0.out); (case side3 => repeat (first | exact (Kd.C_below HR0_1.out (by repeat (first | (with_reducible first | exact HB.out | apply below_alloc | apply pw_below_drewN | apply below_drew1 | refine below_set ?_ GE600.out | refine below_set ?_ GE602.out) | exact HB.out))) | (with_reducible refine Kd.C_alloc ?_ _) | (with_reducible refine Kd.C_drewN ?_ _) | (with_reducible refine Kd.C_drew ?_))); (case side4 => exact HC0_1.out); (case side5 => repeat (first | exact (Kd.C_below HR0_2.out (by repeat (first | (with_reducible first | exact HB.out | apply below_alloc | apply pw_below_drewN | apply below_drew1 | refine below_set ?_ GE600.out | refine below_set ?_ GE602.out) | exact HB.out))) | (with_reducible refine Kd.C_alloc ?_ _) | (with_reducible refine Kd.C_drewN ?_ _) | (with_reducible refine Kd.C_drew ?_))); (case side6 => exact HC0_2.out); rintro e w45 ⟨rfl, hb⟩; have n0_ := Aside0.mk (blk_below (g := gb600) (o := .cells #[.slice A0_0 l0_0.length c0_0, .slice A0_1 l0_1.length c0_1, .slice (some ad601) l0_2.length c0_2, .int .i64 a0_3] 55 (0, 0)) (by (with_reducible repeat (first | refine blk_drewN ?_ _ | refine blk_drew ?_ | refine blk_alloc ?_ _)); exact BK600.out) hb); have n1_ := Aside0.mk (blk_below (g := gb602) (o := .cells #[.int .i64 ((rd_T176 l0_2 x3_1).f0), .string ((rd_T176 l0_2 x3_1).f1), .string ((rd_T176 l0_2 x3_1).f2), .int .i64 ((rd_T176 l0_2 x3_1).f3), .int .i64 ((rd_T176 l0_2 x3_1).f4), .int .i64 ((rd_T176 l0_2 x3_1).f5)] 176 (0, 0)) (by (with_reducible repeat (first | refine blk_drewN ?_ _ | refine blk_drew ?_ | refine blk_alloc ?_ _)); exact BK602.out) hb); have n2_ := Aside0.mk (below_step (by repeat (first | (with_reducible first | exact HB.out | apply below_alloc | apply pw_below_drewN | apply below_drew1 | refine below_set ?_ GE600.out | refine below_set ?_ GE602.out) | exact HB.out)) hb); clear BK600; clear BK602; clear HB; have BK600 := n0_; have BK602 := n1_; have HB := n2_; clear n0_ n1_ n2_; (try clear hb); (try clear hb2); (try clear hk); (try clear hi)))
                              go_roundg kj4
                              case measure => have := HK1.out; have := HJ4.out; omega
                              case rel => exact ⟨(wrap64 (x3_1 + 1)), (by first | rfl | (simp; done) | (simp [*]; done)), H', ⟨by have := HK1.out; have := HJ4.out; omega⟩, ⟨by (with_reducible repeat (first | refine blk_drewN ?_ _ | refine blk_drew ?_ | refine blk_alloc ?_ _)); exact BK600.out⟩, ⟨by repeat (first | (with_reducible first | exact HB.out | apply below_alloc | apply pw_below_drewN | apply below_drew1 | refine below_set ?_ GE600.out | refine below_set ?_ GE602.out) | exact HB.out)⟩⟩
                      · replace c29 := Bool.eq_false_iff.mpr c29
                        subst c29
                        have H1 : (some false) = some r := by rw [if_neg (show ¬ (false = true) by decide)] at H; exact H
                        clear H
                        have H := H1
                        clear H1
                        obtain rfl := Option.some.inj H
                        have hnb46 := NB602_600.out
                        have hnc46 := NB600_602.out
                        have hcz47_0 : wc.cell? ⟨gb602, 0, none⟩ = some (.int .i64 ((rd_T176 l0_2 x3_1).f0)) := (blk_cell BK602.out 0).trans rfl
                        have hcz47_1 : wc.cell? ⟨gb602, 1, none⟩ = some (.string ((rd_T176 l0_2 x3_1).f1)) := (blk_cell BK602.out 1).trans rfl
                        have hcz47_2 : wc.cell? ⟨gb602, 2, none⟩ = some (.string ((rd_T176 l0_2 x3_1).f2)) := (blk_cell BK602.out 2).trans rfl
                        have hcz47_3 : wc.cell? ⟨gb602, 3, none⟩ = some (.int .i64 ((rd_T176 l0_2 x3_1).f3)) := (blk_cell BK602.out 3).trans rfl
                        have hcz47_4 : wc.cell? ⟨gb602, 4, none⟩ = some (.int .i64 ((rd_T176 l0_2 x3_1).f4)) := (blk_cell BK602.out 4).trans rfl
                        have hcz47_5 : wc.cell? ⟨gb602, 5, none⟩ = some (.int .i64 ((rd_T176 l0_2 x3_1).f5)) := (blk_cell BK602.out 5).trans rfl
                        have hfz47_0 := blk_frozen BK602.out 0
                        have hfz47_1 := blk_frozen BK602.out 1
                        have hfz47_2 := blk_frozen BK602.out 2
                        have hfz47_3 := blk_frozen BK602.out 3
                        have hfz47_4 := blk_frozen BK602.out 4
                        have hfz47_5 := blk_frozen BK602.out 5
                        go_wp2_with (first | (go_at_call 90; (with_reducible refine (quaysideref06_Name.calls ((rd_T176 l0_2 x3_1).f1) true _ A22.out).mono ?_); rintro e w' ⟨rfl, ⟨nd, rfl⟩⟩) | (go_at_call 90; (with_reducible refine (quaysideref06_Name.calls ((rd_T176 l0_2 x3_1).f2) true _ A24.out).mono ?_); rintro e w' ⟨rfl, ⟨nd, rfl⟩⟩))
                        go_ret
                        exact ⟨by first | rfl | (simp [errW_none, errW_some] <;> rfl) | (simp [*, errW_none, errW_some] <;> rfl), by repeat (first | (with_reducible first | exact HB.out | apply below_alloc | apply pw_below_drewN | apply below_drew1 | refine below_set ?_ GE600.out | refine below_set ?_ GE602.out) | exact HB.out)⟩
                  · replace c25 := Bool.eq_false_iff.mpr c25
                    subst c25
                    have H1 : (some false) = some r := by rw [if_neg (show ¬ (false = true) by decide)] at H; exact H
                    clear H
                    have H := H1
                    clear H1
                    obtain rfl := Option.some.inj H
                    have hnb48 := NB602_600.out
                    have hnc48 := NB600_602.out
                    have hcz49_0 : wc.cell? ⟨gb602, 0, none⟩ = some (.int .i64 ((rd_T176 l0_2 x3_1).f0)) := (blk_cell BK602.out 0).trans rfl
                    have hcz49_1 : wc.cell? ⟨gb602, 1, none⟩ = some (.string ((rd_T176 l0_2 x3_1).f1)) := (blk_cell BK602.out 1).trans rfl
                    have hcz49_2 : wc.cell? ⟨gb602, 2, none⟩ = some (.string ((rd_T176 l0_2 x3_1).f2)) := (blk_cell BK602.out 2).trans rfl
                    have hcz49_3 : wc.cell? ⟨gb602, 3, none⟩ = some (.int .i64 ((rd_T176 l0_2 x3_1).f3)) := (blk_cell BK602.out 3).trans rfl
                    have hcz49_4 : wc.cell? ⟨gb602, 4, none⟩ = some (.int .i64 ((rd_T176 l0_2 x3_1).f4)) := (blk_cell BK602.out 4).trans rfl
                    have hcz49_5 : wc.cell? ⟨gb602, 5, none⟩ = some (.int .i64 ((rd_T176 l0_2 x3_1).f5)) := (blk_cell BK602.out 5).trans rfl
                    have hfz49_0 := blk_frozen BK602.out 0
                    have hfz49_1 := blk_frozen BK602.out 1
                    have hfz49_2 := blk_frozen BK602.out 2
                    have hfz49_3 := blk_frozen BK602.out 3
                    have hfz49_4 := blk_frozen BK602.out 4
                    have hfz49_5 := blk_frozen BK602.out 5
                    go_wp2_with (first | (go_at_call 90; (with_reducible refine (quaysideref06_Name.calls ((rd_T176 l0_2 x3_1).f1) true _ A22.out).mono ?_); rintro e w' ⟨rfl, ⟨nd, rfl⟩⟩) | (go_at_call 90; (with_reducible refine (quaysideref06_Name.calls ((rd_T176 l0_2 x3_1).f2) false _ A24.out).mono ?_); rintro e w' ⟨rfl, ⟨nd, rfl⟩⟩))
                    go_ret
                    exact ⟨by first | rfl | (simp [errW_none, errW_some] <;> rfl) | (simp [*, errW_none, errW_some] <;> rfl), by repeat (first | (with_reducible first | exact HB.out | apply below_alloc | apply pw_below_drewN | apply below_drew1 | refine below_set ?_ GE600.out | refine below_set ?_ GE602.out) | exact HB.out)⟩
                · replace c23 := Bool.eq_false_iff.mpr c23
                  subst c23
                  have H1 : (some false) = some r := by rw [if_neg (show ¬ (false = true) by decide)] at H; exact H
                  clear H
                  have H := H1
                  clear H1
                  obtain rfl := Option.some.inj H
                  have hnb50 := NB602_600.out
                  have hnc50 := NB600_602.out
                  have hcz51_0 : wc.cell? ⟨gb602, 0, none⟩ = some (.int .i64 ((rd_T176 l0_2 x3_1).f0)) := (blk_cell BK602.out 0).trans rfl
                  have hcz51_1 : wc.cell? ⟨gb602, 1, none⟩ = some (.string ((rd_T176 l0_2 x3_1).f1)) := (blk_cell BK602.out 1).trans rfl
                  have hcz51_2 : wc.cell? ⟨gb602, 2, none⟩ = some (.string ((rd_T176 l0_2 x3_1).f2)) := (blk_cell BK602.out 2).trans rfl
                  have hcz51_3 : wc.cell? ⟨gb602, 3, none⟩ = some (.int .i64 ((rd_T176 l0_2 x3_1).f3)) := (blk_cell BK602.out 3).trans rfl
                  have hcz51_4 : wc.cell? ⟨gb602, 4, none⟩ = some (.int .i64 ((rd_T176 l0_2 x3_1).f4)) := (blk_cell BK602.out 4).trans rfl
                  have hcz51_5 : wc.cell? ⟨gb602, 5, none⟩ = some (.int .i64 ((rd_T176 l0_2 x3_1).f5)) := (blk_cell BK602.out 5).trans rfl
                  have hfz51_0 := blk_frozen BK602.out 0
                  have hfz51_1 := blk_frozen BK602.out 1
                  have hfz51_2 := blk_frozen BK602.out 2
                  have hfz51_3 := blk_frozen BK602.out 3
                  have hfz51_4 := blk_frozen BK602.out 4
                  have hfz51_5 := blk_frozen BK602.out 5
                  go_wp2_with (first | (go_at_call 90; (with_reducible refine (quaysideref06_Name.calls ((rd_T176 l0_2 x3_1).f1) false _ A22.out).mono ?_); rintro e w' ⟨rfl, ⟨nd, rfl⟩⟩))
                  go_ret
                  exact ⟨by first | rfl | (simp [errW_none, errW_some] <;> rfl) | (simp [*, errW_none, errW_some] <;> rfl), by repeat (first | (with_reducible first | exact HB.out | apply below_alloc | apply pw_below_drewN | apply below_drew1 | refine below_set ?_ GE600.out | refine below_set ?_ GE602.out) | exact HB.out)⟩
              · rw [if_neg c21] at H
                have c21b0 : ((wrap64 (((rd_T176 l0_2 x3_1).f0) - 1)) == x3_1) = false := beq_eq_false_iff_ne.mpr c21
                have c21b1 : ((wrap64 (((rd_T176 l0_2 x3_1).f0) - 1)) != x3_1) = true := bne_iff_ne.mpr c21
                obtain rfl := Option.some.inj H
                have hnb52 := NB602_600.out
                have hnc52 := NB600_602.out
                have hcz53_0 : wc.cell? ⟨gb602, 0, none⟩ = some (.int .i64 ((rd_T176 l0_2 x3_1).f0)) := (blk_cell BK602.out 0).trans rfl
                have hcz53_1 : wc.cell? ⟨gb602, 1, none⟩ = some (.string ((rd_T176 l0_2 x3_1).f1)) := (blk_cell BK602.out 1).trans rfl
                have hcz53_2 : wc.cell? ⟨gb602, 2, none⟩ = some (.string ((rd_T176 l0_2 x3_1).f2)) := (blk_cell BK602.out 2).trans rfl
                have hcz53_3 : wc.cell? ⟨gb602, 3, none⟩ = some (.int .i64 ((rd_T176 l0_2 x3_1).f3)) := (blk_cell BK602.out 3).trans rfl
                have hcz53_4 : wc.cell? ⟨gb602, 4, none⟩ = some (.int .i64 ((rd_T176 l0_2 x3_1).f4)) := (blk_cell BK602.out 4).trans rfl
                have hcz53_5 : wc.cell? ⟨gb602, 5, none⟩ = some (.int .i64 ((rd_T176 l0_2 x3_1).f5)) := (blk_cell BK602.out 5).trans rfl
                have hfz53_0 := blk_frozen BK602.out 0
                have hfz53_1 := blk_frozen BK602.out 1
                have hfz53_2 := blk_frozen BK602.out 2
                have hfz53_3 := blk_frozen BK602.out 3
                have hfz53_4 := blk_frozen BK602.out 4
                have hfz53_5 := blk_frozen BK602.out 5
                go_wp2
                go_ret
                exact ⟨by first | rfl | (simp [errW_none, errW_some] <;> rfl) | (simp [*, errW_none, errW_some] <;> rfl), by repeat (first | (with_reducible first | exact HB.out | apply below_alloc | apply pw_below_drewN | apply below_drew1 | refine below_set ?_ GE600.out | refine below_set ?_ GE602.out) | exact HB.out)⟩
        · rw [if_neg c4] at H
          exact absurd H (by simp)
      · rw [if_neg c3] at H
        have c3b0 : decide (x3_1 < (l0_2.length : Int)) = false := decide_eq_false c3
        clear c3
        obtain rfl := Option.some.inj H
        have hcz54_0 : wr.cell? ⟨gb600, 0, none⟩ = some (.slice A0_0 l0_0.length c0_0) := (blk_cell BK600.out 0).trans rfl
        have hcz54_1 : wr.cell? ⟨gb600, 1, none⟩ = some (.slice A0_1 l0_1.length c0_1) := (blk_cell BK600.out 1).trans rfl
        have hcz54_2 : wr.cell? ⟨gb600, 2, none⟩ = some (.slice A0_2 l0_2.length c0_2) := (blk_cell BK600.out 2).trans rfl
        have hcz54_3 : wr.cell? ⟨gb600, 3, none⟩ = some (.int .i64 a0_3) := (blk_cell BK600.out 3).trans rfl
        have hfz54_0 := blk_frozen BK600.out 0
        have hfz54_1 := blk_frozen BK600.out 1
        have hfz54_2 := blk_frozen BK600.out 2
        have hfz54_3 := blk_frozen BK600.out 3
        go_wp2
        go_ret
        exact ⟨by first | rfl | (simp [errW_none, errW_some] <;> rfl) | (simp [*, errW_none, errW_some] <;> rfl), by repeat (first | (with_reducible first | exact HB.out | apply below_alloc | apply pw_below_drewN | apply below_drew1 | refine below_set ?_ GE600.out) | exact HB.out)⟩

-- NOT PRINTED: function 46 (quaysideref07_May)

/-! ### quaysideref33_May: function 47 -/
def quaysideref33_May.l0 : Nat → List (S103) → Int → Option (Bool)
  | 0, _, _ => none
  | k + 1, x0, x3 => if x3 < (x0.length : Int) then (if 0 ≤ x3 then ((quaysideref06_Name.f ((rd_T103 x0 x3).f0)).bind fun t618 => (if t618 = true then (if ((rd_T103 x0 x3).f1) < 1 then (some false) else (if ((rd_T103 x0 x3).f2) < 0 then (some false) else (quaysideref33_May.l0 k x0 (wrap64 (x3 + 1))))) else (some false))) else (none)) else (some (decide ((x0.length : Int) ≤ 1000)))
def quaysideref33_May.f (k : Nat) (l0 : List (S103)) : Option (Bool) := quaysideref33_May.l0 k l0 0
set_option maxHeartbeats 8000000 in
set_option maxRecDepth 100000 in
theorem quaysideref33_May.calls (k : Nat) (A0 : Option Addr) (c0 : Nat) (l0 : List (S103)) (r : Bool) (w : World) (hr0 : Kd.C k103 w A0 l0.length l0) (hc0 : l0.length ≤ c0) (h : quaysideref33_May.f k l0 = some r) :
    Calls Tryz.prog 47 #[.slice A0 l0.length c0] w fun e w' => e = .returned (.bool r) ∧ Drawn0 w w' := by
  have HR0 := Aside0.mk hr0
  have HC0 := Aside0.mk hc0
  clear hr0 hc0
  have H : (quaysideref33_May.l0 k l0 0) = some r := h
  clear h
  have H' := Aside0.mk H
  clear H
  go_enter Tryz.func47, Tryz.ntmps47
  go_wp2
  go_loopg [3] k (fun kq v3 w' => ∃ (x3_1 : Int), v3 = .int .i64 x3_1 ∧ Aside0 (quaysideref33_May.l0 kq l0 x3_1 = some r) ∧ Aside0 (kq ≤ k) ∧ Drawn0 w w')
  case atStart => exact ⟨(0), (by first | rfl | (simp; done) | (simp [*]; done)), H', ⟨Nat.le_refl _⟩, by repeat (first | exact Drawn0.refl _ | apply Drawn0.step)⟩
  case round =>
    clear H'
    obtain ⟨x3_1, rfl, HA, HK1, ⟨m1, rfl⟩⟩ := hrel
    cases gk with
    | zero => exact absurd HA.out (by simp [quaysideref33_May.l0])
    | succ k1 =>
      have H := HA.out
      clear HA
      simp only [quaysideref33_May.l0] at H
      by_cases c2 : x3_1 < (l0.length : Int)
      · rw [if_pos c2] at H
        have c2b0 : decide (x3_1 < (l0.length : Int)) = true := decide_eq_true c2
        clear c2
        by_cases c3 : 0 ≤ x3_1
        · rw [if_pos c3] at H
          have c3b0 : decide (0 ≤ x3_1) = true := decide_eq_true c3
          clear c3
          replace H := Option.bind_eq_some_iff.mp H
          obtain ⟨t618, A40, H⟩ := H
          replace H : (if t618 = true then (if ((rd_T103 l0 x3_1).f1) < 1 then (some false) else (if ((rd_T103 l0 x3_1).f2) < 0 then (some false) else (quaysideref33_May.l0 k1 l0 (wrap64 (x3_1 + 1))))) else (some false)) = some r := H
          have A4 := Aside0.mk A40
          clear A40
          by_cases c5 : t618 = true
          · subst c5
            have H1 : (if ((rd_T103 l0 x3_1).f1) < 1 then (some false) else (if ((rd_T103 l0 x3_1).f2) < 0 then (some false) else (quaysideref33_May.l0 k1 l0 (wrap64 (x3_1 + 1))))) = some r := by rw [if_pos rfl] at H; exact H
            clear H
            have H := H1
            clear H1
            by_cases c6 : ((rd_T103 l0 x3_1).f1) < 1
            · rw [if_pos c6] at H
              have c6b0 : decide (((rd_T103 l0 x3_1).f1) < 1) = true := decide_eq_true c6
              clear c6
              obtain rfl := Option.some.inj H
              have p617 : 0 ≤ (x3_1 : Int) := of_decide_eq_true (by first | (with_reducible assumption) | assumption)
              have q617 : x3_1 < (l0.length : Int) := of_decide_eq_true (by first | (with_reducible assumption) | assumption)
              obtain ⟨ad617, e617, hx617_0, hx617_1, hx617_2⟩ := at_T103 HR0.out x3_1 p617 q617
              cases e617
              replace p617 := eq_true p617
              replace q617 := eq_true q617
              go_wp2_with (first | ((with_reducible refine gate_callee (f := 90) rfl ?_); refine goesL_ (some 15) rfl rfl Tryz.func90 (by kernel_rfl) rfl #[.string ((rd_T103 l0 x3_1).f0)] rfl (by (try simp only [List.map_toArray, List.map_cons, List.map_nil]); first | done | rfl | (simp only [List.length_drop, List.length_take]; rfl)) ?_; (with_reducible refine (quaysideref06_Name.calls ((rd_T103 l0 x3_1).f0) true _ A4.out).mono ?_); rintro e w' ⟨rfl, ⟨nd, rfl⟩⟩; refine ⟨_, rfl, ?_⟩; have p619 : 0 ≤ (x3_1 : Int) := of_decide_eq_true (by first | (with_reducible assumption) | assumption); have q619 : x3_1 < (l0.length : Int) := of_decide_eq_true (by first | (with_reducible assumption) | assumption); obtain ⟨ad619, e619, hx619_0, hx619_1, hx619_2⟩ := at_T103 HR0.out x3_1 p619 q619; obtain rfl : ad617 = ad619 := (by injection e619); replace p619 := eq_true p619; replace q619 := eq_true q619))
              go_ret
              exact ⟨by first | rfl | (simp; done) | (simp [*]; done), by repeat (first | exact Drawn0.refl _ | apply Drawn0.step)⟩
            · rw [if_neg c6] at H
              have c6b0 : decide (((rd_T103 l0 x3_1).f1) < 1) = false := decide_eq_false c6
              clear c6
              by_cases c7 : ((rd_T103 l0 x3_1).f2) < 0
              · rw [if_pos c7] at H
                have c7b0 : decide (((rd_T103 l0 x3_1).f2) < 0) = true := decide_eq_true c7
                clear c7
                obtain rfl := Option.some.inj H
                have p617 : 0 ≤ (x3_1 : Int) := of_decide_eq_true (by first | (with_reducible assumption) | assumption)
                have q617 : x3_1 < (l0.length : Int) := of_decide_eq_true (by first | (with_reducible assumption) | assumption)
                obtain ⟨ad617, e617, hx617_0, hx617_1, hx617_2⟩ := at_T103 HR0.out x3_1 p617 q617
                cases e617
                replace p617 := eq_true p617
                replace q617 := eq_true q617
                go_wp2_with (first | ((with_reducible refine gate_callee (f := 90) rfl ?_); refine goesL_ (some 15) rfl rfl Tryz.func90 (by kernel_rfl) rfl #[.string ((rd_T103 l0 x3_1).f0)] rfl (by (try simp only [List.map_toArray, List.map_cons, List.map_nil]); first | done | rfl | (simp only [List.length_drop, List.length_take]; rfl)) ?_; (with_reducible refine (quaysideref06_Name.calls ((rd_T103 l0 x3_1).f0) true _ A4.out).mono ?_); rintro e w' ⟨rfl, ⟨nd, rfl⟩⟩; refine ⟨_, rfl, ?_⟩; have p619 : 0 ≤ (x3_1 : Int) := of_decide_eq_true (by first | (with_reducible assumption) | assumption); have q619 : x3_1 < (l0.length : Int) := of_decide_eq_true (by first | (with_reducible assumption) | assumption); obtain ⟨ad619, e619, hx619_0, hx619_1, hx619_2⟩ := at_T103 HR0.out x3_1 p619 q619; obtain rfl : ad617 = ad619 := (by injection e619); replace p619 := eq_true p619; replace q619 := eq_true q619; have p620 : 0 ≤ (x3_1 : Int) := of_decide_eq_true (by first | (with_reducible assumption) | assumption); have q620 : x3_1 < (l0.length : Int) := of_decide_eq_true (by first | (with_reducible assumption) | assumption); obtain ⟨ad620, e620, hx620_0, hx620_1, hx620_2⟩ := at_T103 HR0.out x3_1 p620 q620; obtain rfl : ad617 = ad620 := (by injection e620); replace p620 := eq_true p620; replace q620 := eq_true q620))
                go_ret
                exact ⟨by first | rfl | (simp; done) | (simp [*]; done), by repeat (first | exact Drawn0.refl _ | apply Drawn0.step)⟩
              · rw [if_neg c7] at H
                have c7b0 : decide (((rd_T103 l0 x3_1).f2) < 0) = false := decide_eq_false c7
                clear c7
                have H' := Aside0.mk H
                clear H
                have p617 : 0 ≤ (x3_1 : Int) := of_decide_eq_true (by first | (with_reducible assumption) | assumption)
                have q617 : x3_1 < (l0.length : Int) := of_decide_eq_true (by first | (with_reducible assumption) | assumption)
                obtain ⟨ad617, e617, hx617_0, hx617_1, hx617_2⟩ := at_T103 HR0.out x3_1 p617 q617
                cases e617
                replace p617 := eq_true p617
                replace q617 := eq_true q617
                go_wp2_with (first | ((with_reducible refine gate_callee (f := 90) rfl ?_); refine goesL_ (some 15) rfl rfl Tryz.func90 (by kernel_rfl) rfl #[.string ((rd_T103 l0 x3_1).f0)] rfl (by (try simp only [List.map_toArray, List.map_cons, List.map_nil]); first | done | rfl | (simp only [List.length_drop, List.length_take]; rfl)) ?_; (with_reducible refine (quaysideref06_Name.calls ((rd_T103 l0 x3_1).f0) true _ A4.out).mono ?_); rintro e w' ⟨rfl, ⟨nd, rfl⟩⟩; refine ⟨_, rfl, ?_⟩; have p619 : 0 ≤ (x3_1 : Int) := of_decide_eq_true (by first | (with_reducible assumption) | assumption); have q619 : x3_1 < (l0.length : Int) := of_decide_eq_true (by first | (with_reducible assumption) | assumption); obtain ⟨ad619, e619, hx619_0, hx619_1, hx619_2⟩ := at_T103 HR0.out x3_1 p619 q619; obtain rfl : ad617 = ad619 := (by injection e619); replace p619 := eq_true p619; replace q619 := eq_true q619; have p620 : 0 ≤ (x3_1 : Int) := of_decide_eq_true (by first | (with_reducible assumption) | assumption); have q620 : x3_1 < (l0.length : Int) := of_decide_eq_true (by first | (with_reducible assumption) | assumption); obtain ⟨ad620, e620, hx620_0, hx620_1, hx620_2⟩ := at_T103 HR0.out x3_1 p620 q620; obtain rfl : ad617 = ad620 := (by injection e620); replace p620 := eq_true p620; replace q620 := eq_true q620))
                go_roundg k1
                case measure => have := HK1.out; omega
                case rel => exact ⟨(wrap64 (x3_1 + 1)), (by first | rfl | (simp; done) | (simp [*]; done)), H', ⟨by have := HK1.out; omega⟩, by repeat (first | exact Drawn0.refl _ | apply Drawn0.step)⟩
          · replace c5 := Bool.eq_false_iff.mpr c5
            subst c5
            have H1 : (some false) = some r := by rw [if_neg (show ¬ (false = true) by decide)] at H; exact H
            clear H
            have H := H1
            clear H1
            obtain rfl := Option.some.inj H
            have p617 : 0 ≤ (x3_1 : Int) := of_decide_eq_true (by first | (with_reducible assumption) | assumption)
            have q617 : x3_1 < (l0.length : Int) := of_decide_eq_true (by first | (with_reducible assumption) | assumption)
            obtain ⟨ad617, e617, hx617_0, hx617_1, hx617_2⟩ := at_T103 HR0.out x3_1 p617 q617
            cases e617
            replace p617 := eq_true p617
            replace q617 := eq_true q617
            go_wp2_with (first | ((with_reducible refine gate_callee (f := 90) rfl ?_); refine goesL_ (some 15) rfl rfl Tryz.func90 (by kernel_rfl) rfl #[.string ((rd_T103 l0 x3_1).f0)] rfl (by (try simp only [List.map_toArray, List.map_cons, List.map_nil]); first | done | rfl | (simp only [List.length_drop, List.length_take]; rfl)) ?_; (with_reducible refine (quaysideref06_Name.calls ((rd_T103 l0 x3_1).f0) false _ A4.out).mono ?_); rintro e w' ⟨rfl, ⟨nd, rfl⟩⟩; refine ⟨_, rfl, ?_⟩))
            go_ret
            exact ⟨by first | rfl | (simp; done) | (simp [*]; done), by repeat (first | exact Drawn0.refl _ | apply Drawn0.step)⟩
        · rw [if_neg c3] at H
          exact absurd H (by simp)
      · rw [if_neg c2] at H
        have c2b0 : decide (x3_1 < (l0.length : Int)) = false := decide_eq_false c2
        clear c2
        obtain rfl := Option.some.inj H
        go_wp2
        go_ret
        exact ⟨by first | rfl | (simp; done) | (simp [*]; done), by repeat (first | exact Drawn0.refl _ | apply Drawn0.step)⟩

end Go.Proofs.YtofkhcgkahkagaaGreat.PPromiseShort
