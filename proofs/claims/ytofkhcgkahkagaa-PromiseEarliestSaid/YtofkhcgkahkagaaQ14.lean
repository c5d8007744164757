/- Contracts of the reference's functions, printed by print.sh for PromiseLines, cut by a program to those that the claim uses. -/
import Derived.Test.YtofkhcgkahkagaaQ0
namespace Go.Proofs.Ytofkhcgkahkagaa.PPromiseLines
open Go.RowKit Go.Proofs.YtofkhcgkahkagaaW.PrintWords Go.Proofs.YtofkhcgkahkagaaW.PrintLast Go.Proofs.YtofkhcgkahkagaaW.PrintMore
attribute [local go_sem] max2_int min2_int max_two min_two max_three min_three max_four min_four   -- for this text's walks alone
set_option linter.unusedVariables false
set_option linter.unusedSimpArgs false

/-! ### quaysideref33_times: function 67 -/
mutual
def quaysideref33_times.l0 : Nat → List (S44) → List (S44) → List Int → Int → List (S100) → List (S107) → List (S111) → Int → Option (List Int)
  | 0, _, _, _, _, _, _, _, _ => none
  | k + 1, x1, x2, x7, x8, x530000, x530001, x530002, x530003 => if x8 < (x1.length : Int) then (if 0 ≤ x8 then (if x7.length < 17592186044416 then (quaysideref33_times.l0 k x1 x2 (x7 ++ [(rd_T44 x1 x8).f2]) (wrap64 (x8 + 1)) x530000 x530001 x530002 x530003) else (none)) else (none)) else (quaysideref33_times.l1 k x2 x7 0 x530000 x530001 x530002 x530003)
def quaysideref33_times.l1 : Nat → List (S44) → List Int → Int → List (S100) → List (S107) → List (S111) → Int → Option (List Int)
  | 0, _, _, _, _, _, _, _ => none
  | k + 1, x2, x7, x9, x530000, x530001, x530002, x530003 => if x9 < (x2.length : Int) then (if 0 ≤ x9 then (if x7.length < 17592186044416 then (quaysideref33_times.l1 k x2 (x7 ++ [(rd_T44 x2 x9).f2]) (wrap64 (x9 + 1)) x530000 x530001 x530002 x530003) else (none)) else (none)) else (quaysideref33_times.l2 k x7 0 x530000 x530001 x530002 x530003)
def quaysideref33_times.l2 : Nat → List Int → Int → List (S100) → List (S107) → List (S111) → Int → Option (List Int)
  | 0, _, _, _, _, _, _ => none
  | k + 1, x7, x10, x530000, x530001, x530002, x530003 => if x10 < (x530001.length : Int) then (if 0 ≤ x10 then (if ((rd_T107 x530001 x10).f5) > 0 then (if ((rd_T107 x530001 x10).f5) < 9223372036854775807 then (if x7.length < 17592186044416 then (quaysideref33_times.l2 k (x7 ++ [wrap64 (((rd_T107 x530001 x10).f5) + 1)]) (wrap64 (x10 + 1)) x530000 x530001 x530002 x530003) else (none)) else (quaysideref33_times.l2 k x7 (wrap64 (x10 + 1)) x530000 x530001 x530002 x530003)) else (quaysideref33_times.l2 k x7 (wrap64 (x10 + 1)) x530000 x530001 x530002 x530003)) else (none)) else (quaysideref33_times.l3 k x7 ([] : List Int) 0)
def quaysideref33_times.l3 : Nat → List Int → List Int → Int → Option (List Int)
  | 0, _, _, _ => none
  | k + 1, x7, x11, x12 => if x12 < (x7.length : Int) then (quaysideref33_times.l4 k x7 x11 x12 0) else (some x11)
def quaysideref33_times.l4 : Nat → List Int → List Int → Int → Int → Option (List Int)
  | 0, _, _, _, _ => none
  | k + 1, x7, x11, x12, x13 => if x13 < (x11.length : Int) then (if 0 ≤ x13 then (if 0 ≤ x12 then (if x12 < (x7.length : Int) then (if (rd x11 x13) < (rd x7 x12) then (quaysideref33_times.l4 k x7 x11 x12 (wrap64 (x13 + 1))) else (if (rd x11 x13) = (rd x7 x12) then (quaysideref33_times.l3 k x7 x11 (wrap64 (x12 + 1))) else (if x13 ≤ (x11.length : Int) then ((some (x11.take (x13 : Int).toNat : List Int)).bind fun y551 => (if ([] : List Int).length + y551.length < 17592186044416 then ((some (([] : List Int) ++ y551 : List Int)).bind fun y555 => (if y555.length < 17592186044416 then ((some (y555 ++ [rd x7 x12] : List Int)).bind fun y559 => ((some (x11.drop (x13 : Int).toNat : List Int)).bind fun y562 => (if y559.length + y562.length < 17592186044416 then (quaysideref33_times.l3 k x7 (y559 ++ y562) (wrap64 (x12 + 1))) else (none)))) else (none))) else (none))) else (none)))) else (none)) else (none)) else (none)) else (if 0 ≤ x13 then (if x13 ≤ (x11.length : Int) then ((some (x11.take (x13 : Int).toNat : List Int)).bind fun y569 => (if ([] : List Int).length + y569.length < 17592186044416 then ((some (([] : List Int) ++ y569 : List Int)).bind fun y573 => (if 0 ≤ x12 then (if x12 < (x7.length : Int) then (if y573.length < 17592186044416 then ((some (y573 ++ [rd x7 x12] : List Int)).bind fun y577 => ((some (x11.drop (x13 : Int).toNat : List Int)).bind fun y580 => (if y577.length + y580.length < 17592186044416 then (quaysideref33_times.l3 k x7 (y577 ++ y580) (wrap64 (x12 + 1))) else (none)))) else (none)) else (none)) else (none))) else (none))) else (none)) else (none))
end
def quaysideref33_times.f (k : Nat) (l0_0 : List (S100)) (l0_1 : List (S107)) (l0_2 : List (S111)) (a0_3 : Int) (l1 : List (S44)) (l2 : List (S44)) : Option (List Int) := quaysideref33_times.l0 k l1 l2 (([0] : List Int)) 0 l0_0 l0_1 l0_2 a0_3
set_option maxHeartbeats 8000000 in
set_option maxRecDepth 100000 in
theorem quaysideref33_times.calls (k : Nat) (A0_0 : Option Addr) (c0_0 : Nat) (l0_0 : List (S100)) (A0_1 : Option Addr) (c0_1 : Nat) (l0_1 : List (S107)) (A0_2 : Option Addr) (c0_2 : Nat) (l0_2 : List (S111)) (a0_3 : Int) (A1 : Option Addr) (c1 : Nat) (l1 : List (S44)) (A2 : Option Addr) (c2 : Nat) (l2 : List (S44)) (r : List Int) (w : World) (hr0_0 : Kd.C k100 w A0_0 l0_0.length l0_0) (hc0_0 : l0_0.length ≤ c0_0) (hr0_1 : Kd.C k107 w A0_1 l0_1.length l0_1) (hc0_1 : l0_1.length ≤ c0_1) (hr0_2 : Kd.C k111 w A0_2 l0_2.length l0_2) (hc0_2 : l0_2.length ≤ c0_2) (hr1 : Kd.C k44 w A1 l1.length l1) (hc1 : l1.length ≤ c1) (hr2 : Kd.C k44 w A2 l2.length l2) (hc2 : l2.length ≤ c2) (h : quaysideref33_times.f k l0_0 l0_1 l0_2 a0_3 l1 l2 = some r) :
    Calls Try.prog 67 #[.agg #[.slice A0_0 l0_0.length c0_0, .slice A0_1 l0_1.length c0_1, .slice A0_2 l0_2.length c0_2, .int .i64 a0_3], .slice A1 l1.length c1, .slice A2 l2.length c2] w fun e w' => ∃ v0_ : Value, e = .returned (v0_) ∧ Kd.R (Kd.int .i64) 3 w' w.heap.size (fun _ => True) v0_ r ∧ Below w.heap.size w w' := by
  have hu41 := Try.underlying41
  have HR0_0 := Aside0.mk hr0_0
  have HC0_0 := Aside0.mk hc0_0
  clear hr0_0 hc0_0
  have HR0_1 := Aside0.mk hr0_1
  have HC0_1 := Aside0.mk hc0_1
  clear hr0_1 hc0_1
  have HR0_2 := Aside0.mk hr0_2
  have HC0_2 := Aside0.mk hc0_2
  clear hr0_2 hc0_2
  have HR1 := Aside0.mk hr1
  have HC1 := Aside0.mk hc1
  clear hr1 hc1
  have HR2 := Aside0.mk hr2
  have HC2 := Aside0.mk hc2
  clear hr2 hc2
  have HB := Aside0.mk (Below.refl w.heap.size w)
  have H : (quaysideref33_times.l0 k l1 l2 (([0] : List Int)) 0 l0_0 l0_1 l0_2 a0_3) = some r := h
  clear h
  obtain ⟨y530, hy530⟩ : ∃ y_ : List Int, y_ = (([0] : List Int)) := ⟨_, rfl⟩
  replace H : (quaysideref33_times.l0 k l1 l2 y530 0 l0_0 l0_1 l0_2 a0_3) = some r := by first | (rw [hy530]; with_reducible exact H) | (have H2_ := (Option.bind_some _ _).symm.trans H; rw [hy530]; with_reducible exact H2_) | (have H2_ := (Option.bind_some _ _).symm.trans H; with_reducible exact H2_) | with_reducible exact H | (rw [hy530]; exact H) | exact H
  have Ny530 := Aside0.mk hy530
  clear hy530
  have H' := Aside0.mk H
  clear H
  go_enter Try.func67, Try.ntmps67
  go_wp2_with (first | ((with_reducible refine gate_dst (N := 3) rfl ?_); refine box_event ?hg (N := 3) ?hd (cs := #[.slice A0_0 l0_0.length c0_0, .slice A0_1 l0_1.length c0_1, .slice A0_2 l0_2.length c0_2, .int .i64 a0_3]) (t := 41) ?hr ?_; (case hd => rfl); (case hg => rfl); (case hr => first | (go_simp; done) | (go_simp; rfl)); intro gb529 hg w4 hbox hb; have n0_ := Aside0.mk (below_step (by repeat (first | (with_reducible first | exact HB.out | apply below_alloc | apply pw_below_drewN | apply below_drew1) | exact HB.out)) hb); have n1_ := Aside0.mk (hbox); have n2_ := Aside0.mk ((by rw [hg]; exact (below_size (by repeat (first | (with_reducible first | exact HB.out | apply below_alloc | apply pw_below_drewN | apply below_drew1) | exact HB.out))) : w.heap.size ≤ gb529)); have n3_ := Aside0.mk ((by rw [hg]; exact (below_size (by repeat (first | (with_reducible first | exact HB.out | apply below_alloc | apply pw_below_drewN | apply below_drew1) | exact HB.out))) : w.heap.size ≤ gb529)); clear HB; have HB := n0_; have BK529 := n1_; have GW529 := n2_; have GE529 := n3_; clear n0_ n1_ n2_ n3_; clear hb hbox hg) | ((with_reducible refine gate_dst (N := 15) rfl ?_); refine Kd.R_lit (Kd.int .i64) _ 3 ?hg (N := 15) ?hd (xs := ([0] : List Int)) (inner := [.int .i64 0]) (ok := fun _ => True) (okp := fun _ => True) ?hr ?hp (fun _ hk => hk) trivial (Below.refl _ _) (Nat.le_refl _) (by simp) ?_; (case hd => rfl); (case hg => rfl); (case hr => first | (go_simp; done) | (go_simp; rfl)); (case hp => exact (Reps.one (show Kd.M (Kd.int .i64) _ _ _ 0 [.int .i64 0] from rfl) (Reps.none _ _))); intro v531 w5 ho6 hb hg_ hnew_; clear hg_ hnew_; (first | rw [← Ny530.out] at ho6 | (simp only [Int.reduceToNat] at ho6; rw [← Ny530.out] at ho6)); have n0_ := Aside0.mk (Kd.R_lower ho6 (below_size (by repeat (first | (with_reducible first | exact HB.out | apply below_alloc | apply pw_below_drewN | apply below_drew1 | refine below_set ?_ GE529.out) | exact HB.out)))); have n1_ := Aside0.mk (blk_below (g := gb529) (o := .cells #[.slice A0_0 l0_0.length c0_0, .slice A0_1 l0_1.length c0_1, .slice A0_2 l0_2.length c0_2, .int .i64 a0_3] 41 (0, 0)) (by (with_reducible repeat (first | refine blk_drewN ?_ _ | refine blk_drew ?_ | refine blk_alloc ?_ _)); exact BK529.out) hb); have n2_ := Aside0.mk (below_step (by repeat (first | (with_reducible first | exact HB.out | apply below_alloc | apply pw_below_drewN | apply below_drew1 | refine below_set ?_ GE529.out) | exact HB.out)) hb); clear BK529; clear HB; have HO532 := n0_; have BK529 := n1_; have HB := n2_; clear n0_ n1_ n2_; clear hb ho6))
  repeat (go_quiet (first | ((with_reducible refine gate_dst (N := 3) rfl ?_); refine box_event ?hg (N := 3) ?hd (cs := #[.slice A0_0 l0_0.length c0_0, .slice A0_1 l0_1.length c0_1, .slice A0_2 l0_2.length c0_2, .int .i64 a0_3]) (t := 41) ?hr ?_; (case hd => rfl); (case hg => rfl); (case hr => first | (go_simp; done) | (go_simp; rfl)); intro gb529 hg w4 hbox hb; have n0_ := Aside0.mk (below_step (by repeat (first | (with_reducible first | exact HB.out | apply below_alloc | apply pw_below_drewN | apply below_drew1) | exact HB.out)) hb); have n1_ := Aside0.mk (hbox); have n2_ := Aside0.mk ((by rw [hg]; exact (below_size (by repeat (first | (with_reducible first | exact HB.out | apply below_alloc | apply pw_below_drewN | apply below_drew1) | exact HB.out))) : w.heap.size ≤ gb529)); have n3_ := Aside0.mk ((by rw [hg]; exact (below_size (by repeat (first | (with_reducible first | exact HB.out | apply below_alloc | apply pw_below_drewN | apply below_drew1) | exact HB.out))) : w.heap.size ≤ gb529)); clear HB; have HB := n0_; have BK529 := n1_; have GW529 := n2_; have GE529 := n3_; clear n0_ n1_ n2_ n3_; clear hb hbox hg) | ((with_reducible refine gate_dst (N := 15) rfl ?_); refine Kd.R_lit (Kd.int .i64) _ 3 ?hg (N := 15) ?hd (xs := ([0] : List Int)) (inner := [.int .i64 0]) (ok := fun _ => True) (okp := fun _ => True) ?hr ?hp (fun _ hk => hk) trivial (Below.refl _ _) (Nat.le_refl _) (by simp) ?_; (case hd => rfl); (case hg => rfl); (case hr => first | (go_simp; done) | (go_simp; rfl)); (case hp => exact (Reps.one (show Kd.M (Kd.int .i64) _ _ _ 0 [.int .i64 0] from rfl) (Reps.none _ _))); intro v531 w5 ho6 hb hg_ hnew_; clear hg_ hnew_; (first | rw [← Ny530.out] at ho6 | (simp only [Int.reduceToNat] at ho6; rw [← Ny530.out] at ho6)); have n0_ := Aside0.mk (Kd.R_lower ho6 (below_size (by repeat (first | (with_reducible first | exact HB.out | apply below_alloc | apply pw_below_drewN | apply below_drew1 | refine below_set ?_ GE529.out) | exact HB.out)))); have n1_ := Aside0.mk (blk_below (g := gb529) (o := .cells #[.slice A0_0 l0_0.length c0_0, .slice A0_1 l0_1.length c0_1, .slice A0_2 l0_2.length c0_2, .int .i64 a0_3] 41 (0, 0)) (by (with_reducible repeat (first | refine blk_drewN ?_ _ | refine blk_drew ?_ | refine blk_alloc ?_ _)); exact BK529.out) hb); have n2_ := Aside0.mk (below_step (by repeat (first | (with_reducible first | exact HB.out | apply below_alloc | apply pw_below_drewN | apply below_drew1 | refine below_set ?_ GE529.out) | exact HB.out)) hb); clear BK529; clear HB; have HO532 := n0_; have BK529 := n1_; have HB := n2_; clear n0_ n1_ n2_; clear hb ho6)); try go_wp2_with (first | ((with_reducible refine gate_dst (N := 3) rfl ?_); refine box_event ?hg (N := 3) ?hd (cs := #[.slice A0_0 l0_0.length c0_0, .slice A0_1 l0_1.length c0_1, .slice A0_2 l0_2.length c0_2, .int .i64 a0_3]) (t := 41) ?hr ?_; (case hd => rfl); (case hg => rfl); (case hr => first | (go_simp; done) | (go_simp; rfl)); intro gb529 hg w4 hbox hb; have n0_ := Aside0.mk (below_step (by repeat (first | (with_reducible first | exact HB.out | apply below_alloc | apply pw_below_drewN | apply below_drew1) | exact HB.out)) hb); have n1_ := Aside0.mk (hbox); have n2_ := Aside0.mk ((by rw [hg]; exact (below_size (by repeat (first | (with_reducible first | exact HB.out | apply below_alloc | apply pw_below_drewN | apply below_drew1) | exact HB.out))) : w.heap.size ≤ gb529)); have n3_ := Aside0.mk ((by rw [hg]; exact (below_size (by repeat (first | (with_reducible first | exact HB.out | apply below_alloc | apply pw_below_drewN | apply below_drew1) | exact HB.out))) : w.heap.size ≤ gb529)); clear HB; have HB := n0_; have BK529 := n1_; have GW529 := n2_; have GE529 := n3_; clear n0_ n1_ n2_ n3_; clear hb hbox hg) | ((with_reducible refine gate_dst (N := 15) rfl ?_); refine Kd.R_lit (Kd.int .i64) _ 3 ?hg (N := 15) ?hd (xs := ([0] : List Int)) (inner := [.int .i64 0]) (ok := fun _ => True) (okp := fun _ => True) ?hr ?hp (fun _ hk => hk) trivial (Below.refl _ _) (Nat.le_refl _) (by simp) ?_; (case hd => rfl); (case hg => rfl); (case hr => first | (go_simp; done) | (go_simp; rfl)); (case hp => exact (Reps.one (show Kd.M (Kd.int .i64) _ _ _ 0 [.int .i64 0] from rfl) (Reps.none _ _))); intro v531 w5 ho6 hb hg_ hnew_; clear hg_ hnew_; (first | rw [← Ny530.out] at ho6 | (simp only [Int.reduceToNat] at ho6; rw [← Ny530.out] at ho6)); have n0_ := Aside0.mk (Kd.R_lower ho6 (below_size (by repeat (first | (with_reducible first | exact HB.out | apply below_alloc | apply pw_below_drewN | apply below_drew1 | refine below_set ?_ GE529.out) | exact HB.out)))); have n1_ := Aside0.mk (blk_below (g := gb529) (o := .cells #[.slice A0_0 l0_0.length c0_0, .slice A0_1 l0_1.length c0_1, .slice A0_2 l0_2.length c0_2, .int .i64 a0_3] 41 (0, 0)) (by (with_reducible repeat (first | refine blk_drewN ?_ _ | refine blk_drew ?_ | refine blk_alloc ?_ _)); exact BK529.out) hb); have n2_ := Aside0.mk (below_step (by repeat (first | (with_reducible first | exact HB.out | apply below_alloc | apply pw_below_drewN | apply below_drew1 | refine below_set ?_ GE529.out) | exact HB.out)) hb); clear BK529; clear HB; have HO532 := n0_; have BK529 := n1_; have HB := n2_; clear n0_ n1_ n2_; clear hb ho6)))
  go_loopg [7, 8] k (fun kq v7 v8 w' => ∃ (x7_1 : List Int) (x8_1 : Int), v8 = .int .i64 x8_1 ∧ Aside0 (quaysideref33_times.l0 kq l1 l2 x7_1 x8_1 l0_0 l0_1 l0_2 a0_3 = some r) ∧ Aside0 (kq ≤ k) ∧ Aside0 (Kd.R (Kd.int .i64) 3 w' w.heap.size (fun _ => True) v7 x7_1) ∧ Aside0 (w'.heap[gb529]? = some (.cells #[(.slice A0_0 l0_0.length c0_0), (.slice A0_1 l0_1.length c0_1), (.slice A0_2 l0_2.length c0_2), .int .i64 a0_3] 41 (0, 0))) ∧ Aside0 (Below w.heap.size w w'))
  case atStart => exact ⟨(y530), (0), (by first | rfl | (simp; done) | (simp [*]; done)), H', ⟨Nat.le_refl _⟩, ⟨by (with_reducible repeat (first | apply Kd.R_alloc | apply Kd.R_drewN | apply Kd.R_drew)); exact HO532.out⟩, ⟨by (with_reducible repeat (first | refine blk_drewN ?_ _ | refine blk_drew ?_ | refine blk_alloc ?_ _)); exact BK529.out⟩, ⟨by repeat (first | (with_reducible first | exact HB.out | apply below_alloc | apply pw_below_drewN | apply below_drew1 | refine below_set ?_ GE529.out) | exact HB.out)⟩⟩
  case round =>
    clear H'
    try clear c1
    try clear c2
    try clear p2
    try clear c6
    obtain ⟨x7_1, x8_1, rfl, HA, HK1, HO_7, BK529, HB⟩ := hrel
    cases gk with
    | zero => exact absurd HA.out (by simp [quaysideref33_times.l0])
    | succ k1 =>
      have H := HA.out
      clear HA
      simp only [quaysideref33_times.l0] at H
      by_cases c7 : x8_1 < (l1.length : Int)
      · rw [if_pos c7] at H
        have c7b0 : decide (x8_1 < (l1.length : Int)) = true := decide_eq_true c7
        clear c7
        by_cases c8 : 0 ≤ x8_1
        · rw [if_pos c8] at H
          have c8b0 : decide (0 ≤ x8_1) = true := decide_eq_true c8
          clear c8
          by_cases c9 : x7_1.length < 17592186044416
          · rw [if_pos c9] at H
            have LMc9 := Aside0.mk c9
            clear c9
            obtain ⟨y534, hy534⟩ : ∃ y_ : List Int, y_ = (x7_1 ++ [(rd_T44 l1 x8_1).f2]) := ⟨_, rfl⟩
            replace H : (quaysideref33_times.l0 k1 l1 l2 y534 (wrap64 (x8_1 + 1)) l0_0 l0_1 l0_2 a0_3) = some r := by first | (rw [hy534]; with_reducible exact H) | (have H2_ := (Option.bind_some _ _).symm.trans H; rw [hy534]; with_reducible exact H2_) | (have H2_ := (Option.bind_some _ _).symm.trans H; with_reducible exact H2_) | with_reducible exact H | (rw [hy534]; exact H) | exact H
            have Ny534 := Aside0.mk hy534
            clear hy534
            have H' := Aside0.mk H
            clear H
            have p533 : 0 ≤ (x8_1 : Int) := of_decide_eq_true (by first | (with_reducible assumption) | assumption)
            have q533 : x8_1 < (l1.length : Int) := of_decide_eq_true (by first | (with_reducible assumption) | assumption)
            obtain ⟨ad533, e533, hx533_0, hx533_1, hx533_2⟩ := at_T44 HR1.out x8_1 p533 q533
            cases e533
            replace hx533_0 := (HB.out.cell (World.block_lt_of_cell? w _ hx533_0)).trans hx533_0
            replace hx533_1 := (HB.out.cell (World.block_lt_of_cell? w _ hx533_1)).trans hx533_1
            replace hx533_2 := (HB.out.cell (World.block_lt_of_cell? w _ hx533_2)).trans hx533_2
            replace p533 := eq_true p533
            replace q533 := eq_true q533
            go_wp2_with (first | ((with_reducible refine gate_builtin (b := .append) (xs := #[.tmp 22, .tmp 28]) rfl ?_); at_builtin; refine Kd.R_append (Kd.int .i64) (w0 := w) w.heap.size rfl (.tmp 22) (.tmp 28) 105 3 (.int .i64 0) 8 rfl Try.underlying105 info3 rfl (by decide) (by omega) u7 x7_1 ((rd_T44 l1 x8_1).f2) [.int .i64 ((rd_T44 l1 x8_1).f2)] (fun _ => True) (fun _ => False) rfl rfl ?aP (fun _ hk => hk.elim) ?aF ?aO ?aB ?aS ?aL ?_; (case aP => exact rfl); (case aB => exact (by repeat (first | (with_reducible first | exact HB.out | apply below_alloc | apply pw_below_drewN | apply below_drew1 | refine below_set ?_ GE529.out) | exact HB.out))); (case aF => exact (fun _ _ => trivial)); (case aO => exact (by (with_reducible repeat (first | apply Kd.R_alloc | apply Kd.R_drewN | apply Kd.R_drew)); exact HO_7.out)); (case aS => exact (below_size (by repeat (first | (with_reducible first | exact HB.out | apply below_alloc | apply pw_below_drewN | apply below_drew1 | refine below_set ?_ GE529.out) | exact HB.out)))); (case aL => have := LMc9.out; omega); intro v535 w10 ho hb hg hat; rw [← Ny534.out] at ho; have n0_ := Aside0.mk (blk_grown (g := gb529) (o := .cells #[.slice A0_0 l0_0.length c0_0, .slice A0_1 l0_1.length c0_1, .slice A0_2 l0_2.length c0_2, .int .i64 a0_3] 41 (0, 0)) (by (with_reducible repeat (first | refine blk_drewN ?_ _ | refine blk_drew ?_ | refine blk_alloc ?_ _)); exact BK529.out) hg (Kd.R_ne HO_7.out BK529.out (by decide))); have n1_ := Aside0.mk (hb); have n2_ := Aside0.mk (ho); clear BK529; clear HB; clear HO_7; have BK529 := n0_; have HB := n1_; have HO536 := n2_; clear n0_ n1_ n2_; clear ho hb hg hat))
            repeat (go_quiet (first | ((with_reducible refine gate_builtin (b := .append) (xs := #[.tmp 22, .tmp 28]) rfl ?_); at_builtin; refine Kd.R_append (Kd.int .i64) (w0 := w) w.heap.size rfl (.tmp 22) (.tmp 28) 105 3 (.int .i64 0) 8 rfl Try.underlying105 info3 rfl (by decide) (by omega) u7 x7_1 ((rd_T44 l1 x8_1).f2) [.int .i64 ((rd_T44 l1 x8_1).f2)] (fun _ => True) (fun _ => False) rfl rfl ?aP (fun _ hk => hk.elim) ?aF ?aO ?aB ?aS ?aL ?_; (case aP => exact rfl); (case aB => exact (by repeat (first | (with_reducible first | exact HB.out | apply below_alloc | apply pw_below_drewN | apply below_drew1 | refine below_set ?_ GE529.out) | exact HB.out))); (case aF => exact (fun _ _ => trivial)); (case aO => exact (by (with_reducible repeat (first | apply Kd.R_alloc | apply Kd.R_drewN | apply Kd.R_drew)); exact HO_7.out)); (case aS => exact (below_size (by repeat (first | (with_reducible first | exact HB.out | apply below_alloc | apply pw_below_drewN | apply below_drew1 | refine below_set ?_ GE529.out) | exact HB.out)))); (case aL => have := LMc9.out; omega); intro v535 w10 ho hb hg hat; rw [← Ny534.out] at ho; have n0_ := Aside0.mk (blk_grown (g := gb529) (o := .cells #[.slice A0_0 l0_0.length c0_0, .slice A0_1 l0_1.length c0_1, .slice A0_2 l0_2.length c0_2, .int .i64 a0_3] 41 (0, 0)) (by (with_reducible repeat (first | refine blk_drewN ?_ _ | refine blk_drew ?_ | refine blk_alloc ?_ _)); exact BK529.out) hg (Kd.R_ne HO_7.out BK529.out (by decide))); have n1_ := Aside0.mk (hb); have n2_ := Aside0.mk (ho); clear BK529; clear HB; clear HO_7; have BK529 := n0_; have HB := n1_; have HO536 := n2_; clear n0_ n1_ n2_; clear ho hb hg hat)); try go_wp2_with (first | ((with_reducible refine gate_builtin (b := .append) (xs := #[.tmp 22, .tmp 28]) rfl ?_); at_builtin; refine Kd.R_append (Kd.int .i64) (w0 := w) w.heap.size rfl (.tmp 22) (.tmp 28) 105 3 (.int .i64 0) 8 rfl Try.underlying105 info3 rfl (by decide) (by omega) u7 x7_1 ((rd_T44 l1 x8_1).f2) [.int .i64 ((rd_T44 l1 x8_1).f2)] (fun _ => True) (fun _ => False) rfl rfl ?aP (fun _ hk => hk.elim) ?aF ?aO ?aB ?aS ?aL ?_; (case aP => exact rfl); (case aB => exact (by repeat (first | (with_reducible first | exact HB.out | apply below_alloc | apply pw_below_drewN | apply below_drew1 | refine below_set ?_ GE529.out) | exact HB.out))); (case aF => exact (fun _ _ => trivial)); (case aO => exact (by (with_reducible repeat (first | apply Kd.R_alloc | apply Kd.R_drewN | apply Kd.R_drew)); exact HO_7.out)); (case aS => exact (below_size (by repeat (first | (with_reducible first | exact HB.out | apply below_alloc | apply pw_below_drewN | apply below_drew1 | refine below_set ?_ GE529.out) | exact HB.out)))); (case aL => have := LMc9.out; omega); intro v535 w10 ho hb hg hat; rw [← Ny534.out] at ho; have n0_ := Aside0.mk (blk_grown (g := gb529) (o := .cells #[.slice A0_0 l0_0.length c0_0, .slice A0_1 l0_1.length c0_1, .slice A0_2 l0_2.length c0_2, .int .i64 a0_3] 41 (0, 0)) (by (with_reducible repeat (first | refine blk_drewN ?_ _ | refine blk_drew ?_ | refine blk_alloc ?_ _)); exact BK529.out) hg (Kd.R_ne HO_7.out BK529.out (by decide))); have n1_ := Aside0.mk (hb); have n2_ := Aside0.mk (ho); clear BK529; clear HB; clear HO_7; have BK529 := n0_; have HB := n1_; have HO536 := n2_; clear n0_ n1_ n2_; clear ho hb hg hat)))
            go_roundg k1
            case measure => have := HK1.out; omega
            case rel => exact ⟨(y534), (wrap64 (x8_1 + 1)), (by first | rfl | (simp; done) | (simp [*]; done)), H', ⟨by have := HK1.out; omega⟩, ⟨by (with_reducible repeat (first | apply Kd.R_alloc | apply Kd.R_drewN | apply Kd.R_drew)); exact HO536.out⟩, ⟨by (with_reducible repeat (first | refine blk_drewN ?_ _ | refine blk_drew ?_ | refine blk_alloc ?_ _)); exact BK529.out⟩, ⟨by repeat (first | (with_reducible first | exact HB.out | apply below_alloc | apply pw_below_drewN | apply below_drew1 | refine below_set ?_ GE529.out) | exact HB.out)⟩⟩
          · rw [if_neg c9] at H
            exact absurd H (by simp)
        · rw [if_neg c8] at H
          exact absurd H (by simp)
      · rw [if_neg c7] at H
        have c7b0 : decide (x8_1 < (l1.length : Int)) = false := decide_eq_false c7
        clear c7
        have H' := Aside0.mk H
        clear H
        go_wp2
        repeat (go_quiet (fail); try go_wp2)
        go_loopg [7, 9] k1 (fun kq v7 v9 w' => ∃ (x7_2 : List Int) (x9_2 : Int), v9 = .int .i64 x9_2 ∧ Aside0 (quaysideref33_times.l1 kq l2 x7_2 x9_2 l0_0 l0_1 l0_2 a0_3 = some r) ∧ Aside0 (kq ≤ k1) ∧ Aside0 (Kd.R (Kd.int .i64) 3 w' w.heap.size (fun _ => True) v7 x7_2) ∧ Aside0 (w'.heap[gb529]? = some (.cells #[(.slice A0_0 l0_0.length c0_0), (.slice A0_1 l0_1.length c0_1), (.slice A0_2 l0_2.length c0_2), .int .i64 a0_3] 41 (0, 0))) ∧ Aside0 (Below w.heap.size w w'))
        case atStart => exact ⟨(x7_1), (0), (by first | rfl | (simp; done) | (simp [*]; done)), H', ⟨Nat.le_refl _⟩, ⟨by (with_reducible repeat (first | apply Kd.R_alloc | apply Kd.R_drewN | apply Kd.R_drew)); exact HO_7.out⟩, ⟨by (with_reducible repeat (first | refine blk_drewN ?_ _ | refine blk_drew ?_ | refine blk_alloc ?_ _)); exact BK529.out⟩, ⟨by repeat (first | (with_reducible first | exact HB.out | apply below_alloc | apply pw_below_drewN | apply below_drew1 | refine below_set ?_ GE529.out) | exact HB.out)⟩⟩
        case round =>
          clear H'
          try clear c1
          try clear c2
          try clear p2
          try clear p5
          try clear q5
          try clear hx5
          try clear c6
          try clear p6
          try clear c7
          try clear c7b0
          try clear c8
          try clear c8b0
          try clear c9
          try clear hx533_0
          try clear hx533_1
          try clear hx533_2
          try clear p2
          try clear p533
          try clear q533
          obtain ⟨x7_2, x9_2, rfl, HA, HK2, HO_7, BK529, HB⟩ := hrel
          cases gk with
          | zero => exact absurd HA.out (by simp [quaysideref33_times.l1])
          | succ k2 =>
            have H := HA.out
            clear HA
            simp only [quaysideref33_times.l1] at H
            by_cases c11 : x9_2 < (l2.length : Int)
            · rw [if_pos c11] at H
              have c11b0 : decide (x9_2 < (l2.length : Int)) = true := decide_eq_true c11
              clear c11
              by_cases c12 : 0 ≤ x9_2
              · rw [if_pos c12] at H
                have c12b0 : decide (0 ≤ x9_2) = true := decide_eq_true c12
                clear c12
                by_cases c13 : x7_2.length < 17592186044416
                · rw [if_pos c13] at H
                  have LMc13 := Aside0.mk c13
                  clear c13
                  obtain ⟨y538, hy538⟩ : ∃ y_ : List Int, y_ = (x7_2 ++ [(rd_T44 l2 x9_2).f2]) := ⟨_, rfl⟩
                  replace H : (quaysideref33_times.l1 k2 l2 y538 (wrap64 (x9_2 + 1)) l0_0 l0_1 l0_2 a0_3) = some r := by first | (rw [hy538]; with_reducible exact H) | (have H2_ := (Option.bind_some _ _).symm.trans H; rw [hy538]; with_reducible exact H2_) | (have H2_ := (Option.bind_some _ _).symm.trans H; with_reducible exact H2_) | with_reducible exact H | (rw [hy538]; exact H) | exact H
                  have Ny538 := Aside0.mk hy538
                  clear hy538
                  have H' := Aside0.mk H
                  clear H
                  have p537 : 0 ≤ (x9_2 : Int) := of_decide_eq_true (by first | (with_reducible assumption) | assumption)
                  have q537 : x9_2 < (l2.length : Int) := of_decide_eq_true (by first | (with_reducible assumption) | assumption)
                  obtain ⟨ad537, e537, hx537_0, hx537_1, hx537_2⟩ := at_T44 HR2.out x9_2 p537 q537
                  cases e537
                  replace hx537_0 := (HB.out.cell (World.block_lt_of_cell? w _ hx537_0)).trans hx537_0
                  replace hx537_1 := (HB.out.cell (World.block_lt_of_cell? w _ hx537_1)).trans hx537_1
                  replace hx537_2 := (HB.out.cell (World.block_lt_of_cell? w _ hx537_2)).trans hx537_2
                  replace p537 := eq_true p537
                  replace q537 := eq_true q537
                  go_wp2_with (first | ((with_reducible refine gate_builtin (b := .append) (xs := #[.tmp 36, .tmp 42]) rfl ?_); at_builtin; refine Kd.R_append (Kd.int .i64) (w0 := w) w.heap.size rfl (.tmp 36) (.tmp 42) 105 3 (.int .i64 0) 8 rfl Try.underlying105 info3 rfl (by decide) (by omega) u7 x7_2 ((rd_T44 l2 x9_2).f2) [.int .i64 ((rd_T44 l2 x9_2).f2)] (fun _ => True) (fun _ => False) rfl rfl ?aP (fun _ hk => hk.elim) ?aF ?aO ?aB ?aS ?aL ?_; (case aP => exact rfl); (case aB => exact (by repeat (first | (with_reducible first | exact HB.out | apply below_alloc | apply pw_below_drewN | apply below_drew1 | refine below_set ?_ GE529.out) | exact HB.out))); (case aF => exact (fun _ _ => trivial)); (case aO => exact (by (with_reducible repeat (first | apply Kd.R_alloc | apply Kd.R_drewN | apply Kd.R_drew)); exact HO_7.out)); (case aS => exact (below_size (by repeat (first | (with_reducible first | exact HB.out | apply below_alloc | apply pw_below_drewN | apply below_drew1 | refine below_set ?_ GE529.out) | exact HB.out)))); (case aL => have := LMc13.out; omega); intro v539 w14 ho hb hg hat; rw [← Ny538.out] at ho; have n0_ := Aside0.mk (blk_grown (g := gb529) (o := .cells #[.slice A0_0 l0_0.length c0_0, .slice A0_1 l0_1.length c0_1, .slice A0_2 l0_2.length c0_2, .int .i64 a0_3] 41 (0, 0)) (by (with_reducible repeat (first | refine blk_drewN ?_ _ | refine blk_drew ?_ | refine blk_alloc ?_ _)); exact BK529.out) hg (Kd.R_ne HO_7.out BK529.out (by decide))); have n1_ := Aside0.mk (hb); have n2_ := Aside0.mk (ho); clear BK529; clear HB; clear HO_7; have BK529 := n0_; have HB := n1_; have HO540 := n2_; clear n0_ n1_ n2_; clear ho hb hg hat))
                  repeat (go_quiet (first | ((with_reducible refine gate_builtin (b := .append) (xs := #[.tmp 36, .tmp 42]) rfl ?_); at_builtin; refine Kd.R_append (Kd.int .i64) (w0 := w) w.heap.size rfl (.tmp 36) (.tmp 42) 105 3 (.int .i64 0) 8 rfl Try.underlying105 info3 rfl (by decide) (by omega) u7 x7_2 ((rd_T44 l2 x9_2).f2) [.int .i64 ((rd_T44 l2 x9_2).f2)] (fun _ => True) (fun _ => False) rfl rfl ?aP (fun _ hk => hk.elim) ?aF ?aO ?aB ?aS ?aL ?_; (case aP => exact rfl); (case aB => exact (by repeat (first | (with_reducible first | exact HB.out | apply below_alloc | apply pw_below_drewN | apply below_drew1 | refine below_set ?_ GE529.out) | exact HB.out))); (case aF => exact (fun _ _ => trivial)); (case aO => exact (by (with_reducible repeat (first | apply Kd.R_alloc | apply Kd.R_drewN | apply Kd.R_drew)); exact HO_7.out)); (case aS => exact (below_size (by repeat (first | (with_reducible first | exact HB.out | apply below_alloc | apply pw_below_drewN | apply below_drew1 | refine below_set ?_ GE529.out) | exact HB.out)))); (case aL => have := LMc13.out; omega); intro v539 w14 ho hb hg hat; rw [← Ny538.out] at ho; have n0_ := Aside0.mk (blk_grown (g := gb529) (o := .cells #[.slice A0_0 l0_0.length c0_0, .slice A0_1 l0_1.length c0_1, .slice A0_2 l0_2.length c0_2, .int .i64 a0_3] 41 (0, 0)) (by (with_reducible repeat (first | refine blk_drewN ?_ _ | refine blk_drew ?_ | refine blk_alloc ?_ _)); exact BK529.out) hg (Kd.R_ne HO_7.out BK529.out (by decide))); have n1_ := Aside0.mk (hb); have n2_ := Aside0.mk (ho); clear BK529; clear HB; clear HO_7; have BK529 := n0_; have HB := n1_; have HO540 := n2_; clear n0_ n1_ n2_; clear ho hb hg hat)); try go_wp2_with (first | ((with_reducible refine gate_builtin (b := .append) (xs := #[.tmp 36, .tmp 42]) rfl ?_); at_builtin; refine Kd.R_append (Kd.int .i64) (w0 := w) w.heap.size rfl (.tmp 36) (.tmp 42) 105 3 (.int .i64 0) 8 rfl Try.underlying105 info3 rfl (by decide) (by omega) u7 x7_2 ((rd_T44 l2 x9_2).f2) [.int .i64 ((rd_T44 l2 x9_2).f2)] (fun _ => True) (fun _ => False) rfl rfl ?aP (fun _ hk => hk.elim) ?aF ?aO ?aB ?aS ?aL ?_; (case aP => exact rfl); (case aB => exact (by repeat (first | (with_reducible first | exact HB.out | apply below_alloc | apply pw_below_drewN | apply below_drew1 | refine below_set ?_ GE529.out) | exact HB.out))); (case aF => exact (fun _ _ => trivial)); (case aO => exact (by (with_reducible repeat (first | apply Kd.R_alloc | apply Kd.R_drewN | apply Kd.R_drew)); exact HO_7.out)); (case aS => exact (below_size (by repeat (first | (with_reducible first | exact HB.out | apply below_alloc | apply pw_below_drewN | apply below_drew1 | refine below_set ?_ GE529.out) | exact HB.out)))); (case aL => have := LMc13.out; omega); intro v539 w14 ho hb hg hat; rw [← Ny538.out] at ho; have n0_ := Aside0.mk (blk_grown (g := gb529) (o := .cells #[.slice A0_0 l0_0.length c0_0, .slice A0_1 l0_1.length c0_1, .slice A0_2 l0_2.length c0_2, .int .i64 a0_3] 41 (0, 0)) (by (with_reducible repeat (first | refine blk_drewN ?_ _ | refine blk_drew ?_ | refine blk_alloc ?_ _)); exact BK529.out) hg (Kd.R_ne HO_7.out BK529.out (by decide))); have n1_ := Aside0.mk (hb); have n2_ := Aside0.mk (ho); clear BK529; clear HB; clear HO_7; have BK529 := n0_; have HB := n1_; have HO540 := n2_; clear n0_ n1_ n2_; clear ho hb hg hat)))
                  go_roundg k2
                  case measure => have := HK1.out; have := HK2.out; omega
                  case rel => exact ⟨(y538), (wrap64 (x9_2 + 1)), (by first | rfl | (simp; done) | (simp [*]; done)), H', ⟨by have := HK1.out; have := HK2.out; omega⟩, ⟨by (with_reducible repeat (first | apply Kd.R_alloc | apply Kd.R_drewN | apply Kd.R_drew)); exact HO540.out⟩, ⟨by (with_reducible repeat (first | refine blk_drewN ?_ _ | refine blk_drew ?_ | refine blk_alloc ?_ _)); exact BK529.out⟩, ⟨by repeat (first | (with_reducible first | exact HB.out | apply below_alloc | apply pw_below_drewN | apply below_drew1 | refine below_set ?_ GE529.out) | exact HB.out)⟩⟩
                · rw [if_neg c13] at H
                  exact absurd H (by simp)
              · rw [if_neg c12] at H
                exact absurd H (by simp)
            · rw [if_neg c11] at H
              have c11b0 : decide (x9_2 < (l2.length : Int)) = false := decide_eq_false c11
              clear c11
              have H' := Aside0.mk H
              clear H
              go_wp2
              repeat (go_quiet (fail); try go_wp2)
              go_loopg [7, 10] k2 (fun kq v7 v10 w' => ∃ (x7_3 : List Int) (x10_3 : Int), v10 = .int .i64 x10_3 ∧ Aside0 (quaysideref33_times.l2 kq x7_3 x10_3 l0_0 l0_1 l0_2 a0_3 = some r) ∧ Aside0 (kq ≤ k2) ∧ Aside0 (Kd.R (Kd.int .i64) 3 w' w.heap.size (fun _ => True) v7 x7_3) ∧ Aside0 (w'.heap[gb529]? = some (.cells #[(.slice A0_0 l0_0.length c0_0), (.slice A0_1 l0_1.length c0_1), (.slice A0_2 l0_2.length c0_2), .int .i64 a0_3] 41 (0, 0))) ∧ Aside0 (Below w.heap.size w w'))
              case atStart => exact ⟨(x7_2), (0), (by first | rfl | (simp; done) | (simp [*]; done)), H', ⟨Nat.le_refl _⟩, ⟨by (with_reducible repeat (first | apply Kd.R_alloc | apply Kd.R_drewN | apply Kd.R_drew)); exact HO_7.out⟩, ⟨by (with_reducible repeat (first | refine blk_drewN ?_ _ | refine blk_drew ?_ | refine blk_alloc ?_ _)); exact BK529.out⟩, ⟨by repeat (first | (with_reducible first | exact HB.out | apply below_alloc | apply pw_below_drewN | apply below_drew1 | refine below_set ?_ GE529.out) | exact HB.out)⟩⟩
              case round =>
                clear H'
                try clear c1
                try clear c2
                try clear p2
                try clear p5
                try clear q5
                try clear hx5
                try clear c6
                try clear p6
                try clear c7
                try clear c7b0
                try clear c8
                try clear c8b0
                try clear c9
                try clear c11
                try clear c11b0
                try clear c12
                try clear c12b0
                try clear c13
                try clear hx533_0
                try clear hx533_1
                try clear hx533_2
                try clear hx537_0
                try clear hx537_1
                try clear hx537_2
                try clear p2
                try clear p5
                try clear p533
                try clear p537
                try clear p6
                try clear q5
                try clear q533
                try clear q537
                obtain ⟨x7_3, x10_3, rfl, HA, HK3, HO_7, BK529, HB⟩ := hrel
                cases gk with
                | zero => exact absurd HA.out (by simp [quaysideref33_times.l2])
                | succ k3 =>
                  have H := HA.out
                  clear HA
                  simp only [quaysideref33_times.l2] at H
                  by_cases c15 : x10_3 < (l0_1.length : Int)
                  · rw [if_pos c15] at H
                    have c15b0 : decide (x10_3 < (l0_1.length : Int)) = true := decide_eq_true c15
                    clear c15
                    by_cases c16 : 0 ≤ x10_3
                    · rw [if_pos c16] at H
                      have c16b0 : decide (0 ≤ x10_3) = true := decide_eq_true c16
                      clear c16
                      by_cases c17 : ((rd_T107 l0_1 x10_3).f5) > 0
                      · rw [if_pos c17] at H
                        have c17b0 : decide (0 < ((rd_T107 l0_1 x10_3).f5)) = true := decide_eq_true c17
                        clear c17
                        by_cases c18 : ((rd_T107 l0_1 x10_3).f5) < 9223372036854775807
                        · rw [if_pos c18] at H
                          have c18b0 : decide (((rd_T107 l0_1 x10_3).f5) < 9223372036854775807) = true := decide_eq_true c18
                          clear c18
                          by_cases c19 : x7_3.length < 17592186044416
                          · rw [if_pos c19] at H
                            have LMc19 := Aside0.mk c19
                            clear c19
                            obtain ⟨y544, hy544⟩ : ∃ y_ : List Int, y_ = (x7_3 ++ [wrap64 (((rd_T107 l0_1 x10_3).f5) + 1)]) := ⟨_, rfl⟩
                            replace H : (quaysideref33_times.l2 k3 y544 (wrap64 (x10_3 + 1)) l0_0 l0_1 l0_2 a0_3) = some r := by first | (rw [hy544]; with_reducible exact H) | (have H2_ := (Option.bind_some _ _).symm.trans H; rw [hy544]; with_reducible exact H2_) | (have H2_ := (Option.bind_some _ _).symm.trans H; with_reducible exact H2_) | with_reducible exact H | (rw [hy544]; exact H) | exact H
                            have Ny544 := Aside0.mk hy544
                            clear hy544
                            have H' := Aside0.mk H
                            clear H
                            have hcz20_0 : wr.cell? ⟨gb529, 0, none⟩ = some (.slice A0_0 l0_0.length c0_0) := (blk_cell BK529.out 0).trans rfl
                            have hcz20_1 : wr.cell? ⟨gb529, 1, none⟩ = some (.slice A0_1 l0_1.length c0_1) := (blk_cell BK529.out 1).trans rfl
                            have hcz20_2 : wr.cell? ⟨gb529, 2, none⟩ = some (.slice A0_2 l0_2.length c0_2) := (blk_cell BK529.out 2).trans rfl
                            have hcz20_3 : wr.cell? ⟨gb529, 3, none⟩ = some (.int .i64 a0_3) := (blk_cell BK529.out 3).trans rfl
                            have hfz20_0 := blk_frozen BK529.out 0
                            have hfz20_1 := blk_frozen BK529.out 1
                            have hfz20_2 := blk_frozen BK529.out 2
                            have hfz20_3 := blk_frozen BK529.out 3
                            have p541 : 0 ≤ (x10_3 : Int) := of_decide_eq_true (by first | (with_reducible assumption) | assumption)
                            have q541 : x10_3 < (l0_1.length : Int) := of_decide_eq_true (by first | (with_reducible assumption) | assumption)
                            obtain ⟨ad541, e541, hx541_0, hx541_1, hx541_2, hx541_3, hx541_4, hx541_5⟩ := at_T107 HR0_1.out x10_3 p541 q541
                            cases e541
                            replace hx541_0 := (HB.out.cell (World.block_lt_of_cell? w _ hx541_0)).trans hx541_0
                            replace hx541_1 := (HB.out.cell (World.block_lt_of_cell? w _ hx541_1)).trans hx541_1
                            replace hx541_2 := (HB.out.cell (World.block_lt_of_cell? w _ hx541_2)).trans hx541_2
                            replace hx541_3 := (HB.out.cell (World.block_lt_of_cell? w _ hx541_3)).trans hx541_3
                            replace hx541_4 := (HB.out.cell (World.block_lt_of_cell? w _ hx541_4)).trans hx541_4
                            replace hx541_5 := (HB.out.cell (World.block_lt_of_cell? w _ hx541_5)).trans hx541_5
                            replace p541 := eq_true p541
                            replace q541 := eq_true q541
                            have p542 : 0 ≤ (x10_3 : Int) := of_decide_eq_true (by first | (with_reducible assumption) | assumption)
                            have q542 : x10_3 < (l0_1.length : Int) := of_decide_eq_true (by first | (with_reducible assumption) | assumption)
                            obtain ⟨ad542, e542, hx542_0, hx542_1, hx542_2, hx542_3, hx542_4, hx542_5⟩ := at_T107 HR0_1.out x10_3 p542 q542
                            obtain rfl : ad541 = ad542 := (by injection e542)
                            replace hx542_0 := (HB.out.cell (World.block_lt_of_cell? w _ hx542_0)).trans hx542_0
                            replace hx542_1 := (HB.out.cell (World.block_lt_of_cell? w _ hx542_1)).trans hx542_1
                            replace hx542_2 := (HB.out.cell (World.block_lt_of_cell? w _ hx542_2)).trans hx542_2
                            replace hx542_3 := (HB.out.cell (World.block_lt_of_cell? w _ hx542_3)).trans hx542_3
                            replace hx542_4 := (HB.out.cell (World.block_lt_of_cell? w _ hx542_4)).trans hx542_4
                            replace hx542_5 := (HB.out.cell (World.block_lt_of_cell? w _ hx542_5)).trans hx542_5
                            replace p542 := eq_true p542
                            replace q542 := eq_true q542
                            have p543 : 0 ≤ (x10_3 : Int) := of_decide_eq_true (by first | (with_reducible assumption) | assumption)
                            have q543 : x10_3 < (l0_1.length : Int) := of_decide_eq_true (by first | (with_reducible assumption) | assumption)
                            obtain ⟨ad543, e543, hx543_0, hx543_1, hx543_2, hx543_3, hx543_4, hx543_5⟩ := at_T107 HR0_1.out x10_3 p543 q543
                            obtain rfl : ad541 = ad543 := (by injection e543)
                            replace hx543_0 := (HB.out.cell (World.block_lt_of_cell? w _ hx543_0)).trans hx543_0
                            replace hx543_1 := (HB.out.cell (World.block_lt_of_cell? w _ hx543_1)).trans hx543_1
                            replace hx543_2 := (HB.out.cell (World.block_lt_of_cell? w _ hx543_2)).trans hx543_2
                            replace hx543_3 := (HB.out.cell (World.block_lt_of_cell? w _ hx543_3)).trans hx543_3
                            replace hx543_4 := (HB.out.cell (World.block_lt_of_cell? w _ hx543_4)).trans hx543_4
                            replace hx543_5 := (HB.out.cell (World.block_lt_of_cell? w _ hx543_5)).trans hx543_5
                            replace p543 := eq_true p543
                            replace q543 := eq_true q543
                            go_wp2_with (first | ((with_reducible refine gate_builtin (b := .append) (xs := #[.tmp 67, .tmp 75]) rfl ?_); at_builtin; refine Kd.R_append (Kd.int .i64) (w0 := w) w.heap.size rfl (.tmp 67) (.tmp 75) 105 3 (.int .i64 0) 8 rfl Try.underlying105 info3 rfl (by decide) (by omega) u7 x7_3 (wrap64 (((rd_T107 l0_1 x10_3).f5) + 1)) [.int .i64 (wrap64 (((rd_T107 l0_1 x10_3).f5) + 1))] (fun _ => True) (fun _ => False) rfl rfl ?aP (fun _ hk => hk.elim) ?aF ?aO ?aB ?aS ?aL ?_; (case aP => exact rfl); (case aB => exact (by repeat (first | (with_reducible first | exact HB.out | apply below_alloc | apply pw_below_drewN | apply below_drew1 | refine below_set ?_ GE529.out) | exact HB.out))); (case aF => exact (fun _ _ => trivial)); (case aO => exact (by (with_reducible repeat (first | apply Kd.R_alloc | apply Kd.R_drewN | apply Kd.R_drew)); exact HO_7.out)); (case aS => exact (below_size (by repeat (first | (with_reducible first | exact HB.out | apply below_alloc | apply pw_below_drewN | apply below_drew1 | refine below_set ?_ GE529.out) | exact HB.out)))); (case aL => have := LMc19.out; omega); intro v545 w21 ho hb hg hat; rw [← Ny544.out] at ho; have n0_ := Aside0.mk (blk_grown (g := gb529) (o := .cells #[.slice A0_0 l0_0.length c0_0, .slice (some ad541) l0_1.length c0_1, .slice A0_2 l0_2.length c0_2, .int .i64 a0_3] 41 (0, 0)) (by (with_reducible repeat (first | refine blk_drewN ?_ _ | refine blk_drew ?_ | refine blk_alloc ?_ _)); exact BK529.out) hg (Kd.R_ne HO_7.out BK529.out (by decide))); have n1_ := Aside0.mk (hb); have n2_ := Aside0.mk (ho); clear BK529; clear HB; clear HO_7; have BK529 := n0_; have HB := n1_; have HO546 := n2_; clear n0_ n1_ n2_; clear ho hb hg hat))
                            repeat (go_quiet (first | ((with_reducible refine gate_builtin (b := .append) (xs := #[.tmp 67, .tmp 75]) rfl ?_); at_builtin; refine Kd.R_append (Kd.int .i64) (w0 := w) w.heap.size rfl (.tmp 67) (.tmp 75) 105 3 (.int .i64 0) 8 rfl Try.underlying105 info3 rfl (by decide) (by omega) u7 x7_3 (wrap64 (((rd_T107 l0_1 x10_3).f5) + 1)) [.int .i64 (wrap64 (((rd_T107 l0_1 x10_3).f5) + 1))] (fun _ => True) (fun _ => False) rfl rfl ?aP (fun _ hk => hk.elim) ?aF ?aO ?aB ?aS ?aL ?_; (case aP => exact rfl); (case aB => exact (by repeat (first | (with_reducible first | exact HB.out | apply below_alloc | apply pw_below_drewN | apply below_drew1 | refine below_set ?_ GE529.out) | exact HB.out))); (case aF => exact (fun _ _ => trivial)); (case aO => exact (by (with_reducible repeat (first | apply Kd.R_alloc | apply Kd.R_drewN | apply Kd.R_drew)); exact HO_7.out)); (case aS => exact (below_size (by repeat (first | (with_reducible first | exact HB.out | apply below_alloc | apply pw_below_drewN | apply below_drew1 | refine below_set ?_ GE529.out) | exact HB.out)))); (case aL => have := LMc19.out; omega); intro v545 w21 ho hb hg hat; rw [← Ny544.out] at ho; have n0_ := Aside0.mk (blk_grown (g := gb529) (o := .cells #[.slice A0_0 l0_0.length c0_0, .slice (some ad541) l0_1.length c0_1, .slice A0_2 l0_2.length c0_2, .int .i64 a0_3] 41 (0, 0)) (by (with_reducible repeat (first | refine blk_drewN ?_ _ | refine blk_drew ?_ | refine blk_alloc ?_ _)); exact BK529.out) hg (Kd.R_ne HO_7.out BK529.out (by decide))); have n1_ := Aside0.mk (hb); have n2_ := Aside0.mk (ho); clear BK529; clear HB; clear HO_7; have BK529 := n0_; have HB := n1_; have HO546 := n2_; clear n0_ n1_ n2_; clear ho hb hg hat)); try go_wp2_with (first | ((with_reducible refine gate_builtin (b := .append) (xs := #[.tmp 67, .tmp 75]) rfl ?_); at_builtin; refine Kd.R_append (Kd.int .i64) (w0 := w) w.heap.size rfl (.tmp 67) (.tmp 75) 105 3 (.int .i64 0) 8 rfl Try.underlying105 info3 rfl (by decide) (by omega) u7 x7_3 (wrap64 (((rd_T107 l0_1 x10_3).f5) + 1)) [.int .i64 (wrap64 (((rd_T107 l0_1 x10_3).f5) + 1))] (fun _ => True) (fun _ => False) rfl rfl ?aP (fun _ hk => hk.elim) ?aF ?aO ?aB ?aS ?aL ?_; (case aP => exact rfl); (case aB => exact (by repeat (first | (with_reducible first | exact HB.out | apply below_alloc | apply pw_below_drewN | apply below_drew1 | refine below_set ?_ GE529.out) | exact HB.out))); (case aF => exact (fun _ _ => trivial)); (case aO => exact (by (with_reducible repeat (first | apply Kd.R_alloc | apply Kd.R_drewN | apply Kd.R_drew)); exact HO_7.out)); (case aS => exact (below_size (by repeat (first | (with_reducible first | exact HB.out | apply below_alloc | apply pw_below_drewN | apply below_drew1 | refine below_set ?_ GE529.out) | exact HB.out)))); (case aL => have := LMc19.out; omega); intro v545 w21 ho hb hg hat; rw [← Ny544.out] at ho; have n0_ := Aside0.mk (blk_grown (g := gb529) (o := .cells #[.slice A0_0 l0_0.length c0_0, .slice (some ad541) l0_1.length c0_1, .slice A0_2 l0_2.length c0_2, .int .i64 a0_3] 41 (0, 0)) (by (with_reducible repeat (first | refine blk_drewN ?_ _ | refine blk_drew ?_ | refine blk_alloc ?_ _)); exact BK529.out) hg (Kd.R_ne HO_7.out BK529.out (by decide))); have n1_ := Aside0.mk (hb); have n2_ := Aside0.mk (ho); clear BK529; clear HB; clear HO_7; have BK529 := n0_; have HB := n1_; have HO546 := n2_; clear n0_ n1_ n2_; clear ho hb hg hat)))
                            go_roundg k3
                            case measure => have := HK1.out; have := HK2.out; have := HK3.out; omega
                            case rel => exact ⟨(y544), (wrap64 (x10_3 + 1)), (by first | rfl | (simp; done) | (simp [*]; done)), H', ⟨by have := HK1.out; have := HK2.out; have := HK3.out; omega⟩, ⟨by (with_reducible repeat (first | apply Kd.R_alloc | apply Kd.R_drewN | apply Kd.R_drew)); exact HO546.out⟩, ⟨by (with_reducible repeat (first | refine blk_drewN ?_ _ | refine blk_drew ?_ | refine blk_alloc ?_ _)); exact BK529.out⟩, ⟨by repeat (first | (with_reducible first | exact HB.out | apply below_alloc | apply pw_below_drewN | apply below_drew1 | refine below_set ?_ GE529.out) | exact HB.out)⟩⟩
                          · rw [if_neg c19] at H
                            exact absurd H (by simp)
                        · rw [if_neg c18] at H
                          have c18b0 : decide (((rd_T107 l0_1 x10_3).f5) < 9223372036854775807) = false := decide_eq_false c18
                          clear c18
                          have H' := Aside0.mk H
                          clear H
                          have hcz22_0 : wr.cell? ⟨gb529, 0, none⟩ = some (.slice A0_0 l0_0.length c0_0) := (blk_cell BK529.out 0).trans rfl
                          have hcz22_1 : wr.cell? ⟨gb529, 1, none⟩ = some (.slice A0_1 l0_1.length c0_1) := (blk_cell BK529.out 1).trans rfl
                          have hcz22_2 : wr.cell? ⟨gb529, 2, none⟩ = some (.slice A0_2 l0_2.length c0_2) := (blk_cell BK529.out 2).trans rfl
                          have hcz22_3 : wr.cell? ⟨gb529, 3, none⟩ = some (.int .i64 a0_3) := (blk_cell BK529.out 3).trans rfl
                          have hfz22_0 := blk_frozen BK529.out 0
                          have hfz22_1 := blk_frozen BK529.out 1
                          have hfz22_2 := blk_frozen BK529.out 2
                          have hfz22_3 := blk_frozen BK529.out 3
                          have p541 : 0 ≤ (x10_3 : Int) := of_decide_eq_true (by first | (with_reducible assumption) | assumption)
                          have q541 : x10_3 < (l0_1.length : Int) := of_decide_eq_true (by first | (with_reducible assumption) | assumption)
                          obtain ⟨ad541, e541, hx541_0, hx541_1, hx541_2, hx541_3, hx541_4, hx541_5⟩ := at_T107 HR0_1.out x10_3 p541 q541
                          cases e541
                          replace hx541_0 := (HB.out.cell (World.block_lt_of_cell? w _ hx541_0)).trans hx541_0
                          replace hx541_1 := (HB.out.cell (World.block_lt_of_cell? w _ hx541_1)).trans hx541_1
                          replace hx541_2 := (HB.out.cell (World.block_lt_of_cell? w _ hx541_2)).trans hx541_2
                          replace hx541_3 := (HB.out.cell (World.block_lt_of_cell? w _ hx541_3)).trans hx541_3
                          replace hx541_4 := (HB.out.cell (World.block_lt_of_cell? w _ hx541_4)).trans hx541_4
                          replace hx541_5 := (HB.out.cell (World.block_lt_of_cell? w _ hx541_5)).trans hx541_5
                          replace p541 := eq_true p541
                          replace q541 := eq_true q541
                          have p542 : 0 ≤ (x10_3 : Int) := of_decide_eq_true (by first | (with_reducible assumption) | assumption)
                          have q542 : x10_3 < (l0_1.length : Int) := of_decide_eq_true (by first | (with_reducible assumption) | assumption)
                          obtain ⟨ad542, e542, hx542_0, hx542_1, hx542_2, hx542_3, hx542_4, hx542_5⟩ := at_T107 HR0_1.out x10_3 p542 q542
                          obtain rfl : ad541 = ad542 := (by injection e542)
                          replace hx542_0 := (HB.out.cell (World.block_lt_of_cell? w _ hx542_0)).trans hx542_0
                          replace hx542_1 := (HB.out.cell (World.block_lt_of_cell? w _ hx542_1)).trans hx542_1
                          replace hx542_2 := (HB.out.cell (World.block_lt_of_cell? w _ hx542_2)).trans hx542_2
                          replace hx542_3 := (HB.out.cell (World.block_lt_of_cell? w _ hx542_3)).trans hx542_3
                          replace hx542_4 := (HB.out.cell (World.block_lt_of_cell? w _ hx542_4)).trans hx542_4
                          replace hx542_5 := (HB.out.cell (World.block_lt_of_cell? w _ hx542_5)).trans hx542_5
                          replace p542 := eq_true p542
                          replace q542 := eq_true q542
                          go_wp2
                          repeat (go_quiet (fail); try go_wp2)
                          go_roundg k3
                          case measure => have := HK1.out; have := HK2.out; have := HK3.out; omega
                          case rel => exact ⟨(x7_3), (wrap64 (x10_3 + 1)), (by first | rfl | (simp; done) | (simp [*]; done)), H', ⟨by have := HK1.out; have := HK2.out; have := HK3.out; omega⟩, ⟨by (with_reducible repeat (first | apply Kd.R_alloc | apply Kd.R_drewN | apply Kd.R_drew)); exact HO_7.out⟩, ⟨by (with_reducible repeat (first | refine blk_drewN ?_ _ | refine blk_drew ?_ | refine blk_alloc ?_ _)); exact BK529.out⟩, ⟨by repeat (first | (with_reducible first | exact HB.out | apply below_alloc | apply pw_below_drewN | apply below_drew1 | refine below_set ?_ GE529.out) | exact HB.out)⟩⟩
                      · rw [if_neg c17] at H
                        have c17b0 : decide (0 < ((rd_T107 l0_1 x10_3).f5)) = false := decide_eq_false c17
                        clear c17
                        have H' := Aside0.mk H
                        clear H
                        have hcz23_0 : wr.cell? ⟨gb529, 0, none⟩ = some (.slice A0_0 l0_0.length c0_0) := (blk_cell BK529.out 0).trans rfl
                        have hcz23_1 : wr.cell? ⟨gb529, 1, none⟩ = some (.slice A0_1 l0_1.length c0_1) := (blk_cell BK529.out 1).trans rfl
                        have hcz23_2 : wr.cell? ⟨gb529, 2, none⟩ = some (.slice A0_2 l0_2.length c0_2) := (blk_cell BK529.out 2).trans rfl
                        have hcz23_3 : wr.cell? ⟨gb529, 3, none⟩ = some (.int .i64 a0_3) := (blk_cell BK529.out 3).trans rfl
                        have hfz23_0 := blk_frozen BK529.out 0
                        have hfz23_1 := blk_frozen BK529.out 1
                        have hfz23_2 := blk_frozen BK529.out 2
                        have hfz23_3 := blk_frozen BK529.out 3
                        have p541 : 0 ≤ (x10_3 : Int) := of_decide_eq_true (by first | (with_reducible assumption) | assumption)
                        have q541 : x10_3 < (l0_1.length : Int) := of_decide_eq_true (by first | (with_reducible assumption) | assumption)
                        obtain ⟨ad541, e541, hx541_0, hx541_1, hx541_2, hx541_3, hx541_4, hx541_5⟩ := at_T107 HR0_1.out x10_3 p541 q541
                        cases e541
                        replace hx541_0 := (HB.out.cell (World.block_lt_of_cell? w _ hx541_0)).trans hx541_0
                        replace hx541_1 := (HB.out.cell (World.block_lt_of_cell? w _ hx541_1)).trans hx541_1
                        replace hx541_2 := (HB.out.cell (World.block_lt_of_cell? w _ hx541_2)).trans hx541_2
                        replace hx541_3 := (HB.out.cell (World.block_lt_of_cell? w _ hx541_3)).trans hx541_3
                        replace hx541_4 := (HB.out.cell (World.block_lt_of_cell? w _ hx541_4)).trans hx541_4
                        replace hx541_5 := (HB.out.cell (World.block_lt_of_cell? w _ hx541_5)).trans hx541_5
                        replace p541 := eq_true p541
                        replace q541 := eq_true q541
                        go_wp2
                        repeat (go_quiet (fail); try go_wp2)
                        go_roundg k3
                        case measure => have := HK1.out; have := HK2.out; have := HK3.out; omega
                        case rel => exact ⟨(x7_3), (wrap64 (x10_3 + 1)), (by first | rfl | (simp; done) | (simp [*]; done)), H', ⟨by have := HK1.out; have := HK2.out; have := HK3.out; omega⟩, ⟨by (with_reducible repeat (first | apply Kd.R_alloc | apply Kd.R_drewN | apply Kd.R_drew)); exact HO_7.out⟩, ⟨by (with_reducible repeat (first | refine blk_drewN ?_ _ | refine blk_drew ?_ | refine blk_alloc ?_ _)); exact BK529.out⟩, ⟨by repeat (first | (with_reducible first | exact HB.out | apply below_alloc | apply pw_below_drewN | apply below_drew1 | refine below_set ?_ GE529.out) | exact HB.out)⟩⟩
                    · rw [if_neg c16] at H
                      exact absurd H (by simp)
                  · rw [if_neg c15] at H
                    have c15b0 : decide (x10_3 < (l0_1.length : Int)) = false := decide_eq_false c15
                    clear c15
                    have H' := Aside0.mk H
                    clear H
                    have hcz24_0 : wr.cell? ⟨gb529, 0, none⟩ = some (.slice A0_0 l0_0.length c0_0) := (blk_cell BK529.out 0).trans rfl
                    have hcz24_1 : wr.cell? ⟨gb529, 1, none⟩ = some (.slice A0_1 l0_1.length c0_1) := (blk_cell BK529.out 1).trans rfl
                    have hcz24_2 : wr.cell? ⟨gb529, 2, none⟩ = some (.slice A0_2 l0_2.length c0_2) := (blk_cell BK529.out 2).trans rfl
                    have hcz24_3 : wr.cell? ⟨gb529, 3, none⟩ = some (.int .i64 a0_3) := (blk_cell BK529.out 3).trans rfl
                    have hfz24_0 := blk_frozen BK529.out 0
                    have hfz24_1 := blk_frozen BK529.out 1
                    have hfz24_2 := blk_frozen BK529.out 2
                    have hfz24_3 := blk_frozen BK529.out 3
                    go_wp2
                    repeat (go_quiet (fail); try go_wp2)
                    go_loopg [11, 12] k3 (fun kq v11 v12 w' => ∃ (x11_4 : List Int) (x12_4 : Int), v12 = .int .i64 x12_4 ∧ Aside0 (quaysideref33_times.l3 kq x7_3 x11_4 x12_4 = some r) ∧ Aside0 (kq ≤ k3) ∧ Aside0 (Kd.R (Kd.int .i64) 3 w' w.heap.size (fun k_ => some k_ ≠ (v11 : Value).ownBlock) u7 x7_3) ∧ Aside0 (Kd.R (Kd.int .i64) 3 w' w.heap.size (fun k_ => some k_ ≠ (u7 : Value).ownBlock) v11 x11_4) ∧ Aside0 (w'.heap[gb529]? = some (.cells #[(.slice A0_0 l0_0.length c0_0), (.slice A0_1 l0_1.length c0_1), (.slice A0_2 l0_2.length c0_2), .int .i64 a0_3] 41 (0, 0))) ∧ Aside0 (Below w.heap.size w w'))
                    case atStart => exact ⟨(([] : List Int)), (0), (by first | rfl | (simp; done) | (simp [*]; done)), H', ⟨Nat.le_refl _⟩, ⟨by (with_reducible repeat (first | apply Kd.R_alloc | apply Kd.R_drewN | apply Kd.R_drew)); exact Kd.R_mono HO_7.out (fun _ hk => (by simp [Value.ownBlock]))⟩, ⟨by first | exact Kd.R_nil _ _ _ _ _ | exact Kd.N_nil _ _ _ _ _ | exact Kd.V_nil _ _ _ _ _ | exact Kd.Q_nil _ _ _ _ _ | exact Kd.S_nil _ _ _ _ _⟩, ⟨by (with_reducible repeat (first | refine blk_drewN ?_ _ | refine blk_drew ?_ | refine blk_alloc ?_ _)); exact BK529.out⟩, ⟨by repeat (first | (with_reducible first | exact HB.out | apply below_alloc | apply pw_below_drewN | apply below_drew1 | refine below_set ?_ GE529.out) | exact HB.out)⟩⟩
                    case round =>
                      clear H'
                      try clear c1
                      try clear c2
                      try clear p2
                      try clear p5
                      try clear q5
                      try clear hx5
                      try clear c6
                      try clear p6
                      try clear c7
                      try clear c7b0
                      try clear c8
                      try clear c8b0
                      try clear c9
                      try clear c11
                      try clear c11b0
                      try clear c12
                      try clear c12b0
                      try clear c13
                      try clear c15
                      try clear c15b0
                      try clear c16
                      try clear c16b0
                      try clear c17
                      try clear c17b0
                      try clear c18
                      try clear c18b0
                      try clear c19
                      try clear hcz20_0
                      try clear hcz20_1
                      try clear hcz20_2
                      try clear hcz20_3
                      try clear hcz22_0
                      try clear hcz22_1
                      try clear hcz22_2
                      try clear hcz22_3
                      try clear hcz23_0
                      try clear hcz23_1
                      try clear hcz23_2
                      try clear hcz23_3
                      try clear hcz24_0
                      try clear hcz24_1
                      try clear hcz24_2
                      try clear hcz24_3
                      try clear hfz20_0
                      try clear hfz20_1
                      try clear hfz20_2
                      try clear hfz20_3
                      try clear hfz22_0
                      try clear hfz22_1
                      try clear hfz22_2
                      try clear hfz22_3
                      try clear hfz23_0
                      try clear hfz23_1
                      try clear hfz23_2
                      try clear hfz23_3
                      try clear hfz24_0
                      try clear hfz24_1
                      try clear hfz24_2
                      try clear hfz24_3
                      try clear hx533_0
                      try clear hx533_1
                      try clear hx533_2
                      try clear hx537_0
                      try clear hx537_1
                      try clear hx537_2
                      try clear hx541_0
                      try clear hx541_1
                      try clear hx541_2
                      try clear hx541_3
                      try clear hx541_4
                      try clear hx541_5
                      try clear hx542_0
                      try clear hx542_1
                      try clear hx542_2
                      try clear hx542_3
                      try clear hx542_4
                      try clear hx542_5
                      try clear hx543_0
                      try clear hx543_1
                      try clear hx543_2
                      try clear hx543_3
                      try clear hx543_4
                      try clear hx543_5
                      try clear p2
                      try clear p5
                      try clear p533
                      try clear p537
                      try clear p541
                      try clear p542
                      try clear p543
                      try clear p6
                      try clear q5
                      try clear q533
                      try clear q537
                      try clear q541
                      try clear q542
                      try clear q543
                      obtain ⟨x11_4, x12_4, rfl, HA, HK4, HO_7, HO_11, BK529, HB⟩ := hrel
                      cases gk with
                      | zero => exact absurd HA.out (by simp [quaysideref33_times.l3])
                      | succ k4 =>
                        have H := HA.out
                        clear HA
                        simp only [quaysideref33_times.l3] at H
                        by_cases c25 : x12_4 < (x7_3.length : Int)
                        · rw [if_pos c25] at H
                          have c25b0 : decide (x12_4 < (x7_3.length : Int)) = true := decide_eq_true c25
                          clear c25
                          have H' := Aside0.mk H
                          clear H
                          obtain ⟨Ao26, co26, eo26⟩ := Kd.R_slice HO_7.out
                          subst eo26
                          go_wp2
                          repeat (go_quiet (fail); try go_wp2)
                          go_loopg [13] k4 (fun kq v13 w' => ∃ (x13_5 : Int), v13 = .int .i64 x13_5 ∧ Aside0 (quaysideref33_times.l4 kq x7_3 x11_4 x12_4 x13_5 = some r) ∧ Aside0 (kq ≤ k4) ∧ Aside0 (Kd.R (Kd.int .i64) 3 w' w.heap.size (fun k_ => some k_ ≠ (u11 : Value).ownBlock) (.slice Ao26 x7_3.length co26) x7_3) ∧ Aside0 (Kd.R (Kd.int .i64) 3 w' w.heap.size (fun k_ => some k_ ≠ ((.slice Ao26 x7_3.length co26) : Value).ownBlock) u11 x11_4) ∧ Aside0 (w'.heap[gb529]? = some (.cells #[(.slice A0_0 l0_0.length c0_0), (.slice A0_1 l0_1.length c0_1), (.slice A0_2 l0_2.length c0_2), .int .i64 a0_3] 41 (0, 0))) ∧ Aside0 (Below w.heap.size w w'))
                          case atStart => exact ⟨(0), (by first | rfl | (simp; done) | (simp [*]; done)), H', ⟨Nat.le_refl _⟩, ⟨by (with_reducible repeat (first | apply Kd.R_alloc | apply Kd.R_drewN | apply Kd.R_drew)); exact HO_7.out⟩, ⟨by (with_reducible repeat (first | apply Kd.R_alloc | apply Kd.R_drewN | apply Kd.R_drew)); exact HO_11.out⟩, ⟨by (with_reducible repeat (first | refine blk_drewN ?_ _ | refine blk_drew ?_ | refine blk_alloc ?_ _)); exact BK529.out⟩, ⟨by repeat (first | (with_reducible first | exact HB.out | apply below_alloc | apply pw_below_drewN | apply below_drew1 | refine below_set ?_ GE529.out) | exact HB.out)⟩⟩
                          case round =>
                            clear H'
                            try clear c1
                            try clear c2
                            try clear p2
                            try clear p5
                            try clear q5
                            try clear hx5
                            try clear c6
                            try clear p6
                            try clear c7
                            try clear c7b0
                            try clear c8
                            try clear c8b0
                            try clear c9
                            try clear c11
                            try clear c11b0
                            try clear c12
                            try clear c12b0
                            try clear c13
                            try clear c15
                            try clear c15b0
                            try clear c16
                            try clear c16b0
                            try clear c17
                            try clear c17b0
                            try clear c18
                            try clear c18b0
                            try clear c19
                            try clear c25
                            try clear c25b0
                            try clear hcz20_0
                            try clear hcz20_1
                            try clear hcz20_2
                            try clear hcz20_3
                            try clear hcz22_0
                            try clear hcz22_1
                            try clear hcz22_2
                            try clear hcz22_3
                            try clear hcz23_0
                            try clear hcz23_1
                            try clear hcz23_2
                            try clear hcz23_3
                            try clear hcz24_0
                            try clear hcz24_1
                            try clear hcz24_2
                            try clear hcz24_3
                            try clear hfz20_0
                            try clear hfz20_1
                            try clear hfz20_2
                            try clear hfz20_3
                            try clear hfz22_0
                            try clear hfz22_1
                            try clear hfz22_2
                            try clear hfz22_3
                            try clear hfz23_0
                            try clear hfz23_1
                            try clear hfz23_2
                            try clear hfz23_3
                            try clear hfz24_0
                            try clear hfz24_1
                            try clear hfz24_2
                            try clear hfz24_3
                            try clear hx533_0
                            try clear hx533_1
                            try clear hx533_2
                            try clear hx537_0
                            try clear hx537_1
                            try clear hx537_2
                            try clear hx541_0
                            try clear hx541_1
                            try clear hx541_2
                            try clear hx541_3
                            try clear hx541_4
                            try clear hx541_5
                            try clear hx542_0
                            try clear hx542_1
                            try clear hx542_2
                            try clear hx542_3
                            try clear hx542_4
                            try clear hx542_5
                            try clear hx543_0
                            try clear hx543_1
                            try clear hx543_2
                            try clear hx543_3
                            try clear hx543_4
                            try clear hx543_5
                            try clear p2
                            try clear p5
                            try clear p533
                            try clear p537
                            try clear p541
                            try clear p542
                            try clear p543
                            try clear p6
                            try clear q5
                            try clear q533
                            try clear q537
                            try clear q541
                            try clear q542
                            try clear q543
                            obtain ⟨x13_5, rfl, HA, HK5, HO_7, HO_11, BK529, HB⟩ := hrel
                            cases gk with
                            | zero => exact absurd HA.out (by simp [quaysideref33_times.l4])
                            | succ k5 =>
                              have H := HA.out
                              clear HA
                              simp only [quaysideref33_times.l4] at H
                              by_cases c27 : x13_5 < (x11_4.length : Int)
                              · rw [if_pos c27] at H
                                have c27b0 : decide (x13_5 < (x11_4.length : Int)) = true := decide_eq_true c27
                                clear c27
                                by_cases c28 : 0 ≤ x13_5
                                · rw [if_pos c28] at H
                                  have c28b0 : decide (0 ≤ x13_5) = true := decide_eq_true c28
                                  clear c28
                                  by_cases c29 : 0 ≤ x12_4
                                  · rw [if_pos c29] at H
                                    have c29b0 : decide (0 ≤ x12_4) = true := decide_eq_true c29
                                    clear c29
                                    by_cases c30 : x12_4 < (x7_3.length : Int)
                                    · rw [if_pos c30] at H
                                      have c30b0 : decide (x12_4 < (x7_3.length : Int)) = true := decide_eq_true c30
                                      clear c30
                                      by_cases c31 : (rd x11_4 x13_5) < (rd x7_3 x12_4)
                                      · rw [if_pos c31] at H
                                        have c31b0 : decide ((rd x11_4 x13_5) < (rd x7_3 x12_4)) = true := decide_eq_true c31
                                        clear c31
                                        have H' := Aside0.mk H
                                        clear H
                                        obtain ⟨Ao32, co32, eo32⟩ := Kd.R_slice HO_11.out
                                        subst eo32
                                        have p547 : 0 ≤ (x13_5 : Int) := of_decide_eq_true (by first | (with_reducible assumption) | assumption)
                                        have q547 : x13_5 < (x11_4.length : Int) := of_decide_eq_true (by first | (with_reducible assumption) | assumption)
                                        obtain ⟨ad547, e547, hx547_0⟩ := Kd.at_int (Kd.R_reads' HO_11.out).2.2 x13_5 p547 q547
                                        cases e547
                                        replace p547 := eq_true p547
                                        replace q547 := eq_true q547
                                        have p548 : 0 ≤ (x12_4 : Int) := of_decide_eq_true (by first | (with_reducible assumption) | assumption)
                                        have q548 : x12_4 < (x7_3.length : Int) := of_decide_eq_true (by first | (with_reducible assumption) | assumption)
                                        obtain ⟨ad548, e548, hx548_0⟩ := Kd.at_int (Kd.R_reads' HO_7.out).2.2 x12_4 p548 q548
                                        cases e548
                                        replace p548 := eq_true p548
                                        replace q548 := eq_true q548
                                        go_wp2
                                        repeat (go_quiet (fail); try go_wp2)
                                        go_roundg k5
                                        case measure => have := HK1.out; have := HK2.out; have := HK3.out; have := HK4.out; have := HK5.out; omega
                                        case rel => exact ⟨(wrap64 (x13_5 + 1)), (by first | rfl | (simp; done) | (simp [*]; done)), H', ⟨by have := HK1.out; have := HK2.out; have := HK3.out; have := HK4.out; have := HK5.out; omega⟩, ⟨by (with_reducible repeat (first | apply Kd.R_alloc | apply Kd.R_drewN | apply Kd.R_drew)); exact HO_7.out⟩, ⟨by (with_reducible repeat (first | apply Kd.R_alloc | apply Kd.R_drewN | apply Kd.R_drew)); exact HO_11.out⟩, ⟨by (with_reducible repeat (first | refine blk_drewN ?_ _ | refine blk_drew ?_ | refine blk_alloc ?_ _)); exact BK529.out⟩, ⟨by repeat (first | (with_reducible first | exact HB.out | apply below_alloc | apply pw_below_drewN | apply below_drew1 | refine below_set ?_ GE529.out) | exact HB.out)⟩⟩
                                      · rw [if_neg c31] at H
                                        have c31b0 : decide ((rd x11_4 x13_5) < (rd x7_3 x12_4)) = false := decide_eq_false c31
                                        clear c31
                                        by_cases c33 : (rd x11_4 x13_5) = (rd x7_3 x12_4)
                                        · rw [if_pos c33] at H
                                          have c33b0 : ((rd x11_4 x13_5) == (rd x7_3 x12_4)) = true := beq_iff_eq.mpr c33
                                          have c33b1 : ((rd x11_4 x13_5) != (rd x7_3 x12_4)) = false := bne_eq_false_iff_eq.mpr c33
                                          clear c33
                                          have H' := Aside0.mk H
                                          clear H
                                          obtain ⟨Ao34, co34, eo34⟩ := Kd.R_slice HO_11.out
                                          subst eo34
                                          have p547 : 0 ≤ (x13_5 : Int) := of_decide_eq_true (by first | (with_reducible assumption) | assumption)
                                          have q547 : x13_5 < (x11_4.length : Int) := of_decide_eq_true (by first | (with_reducible assumption) | assumption)
                                          obtain ⟨ad547, e547, hx547_0⟩ := Kd.at_int (Kd.R_reads' HO_11.out).2.2 x13_5 p547 q547
                                          cases e547
                                          replace p547 := eq_true p547
                                          replace q547 := eq_true q547
                                          have p548 : 0 ≤ (x12_4 : Int) := of_decide_eq_true (by first | (with_reducible assumption) | assumption)
                                          have q548 : x12_4 < (x7_3.length : Int) := of_decide_eq_true (by first | (with_reducible assumption) | assumption)
                                          obtain ⟨ad548, e548, hx548_0⟩ := Kd.at_int (Kd.R_reads' HO_7.out).2.2 x12_4 p548 q548
                                          cases e548
                                          replace p548 := eq_true p548
                                          replace q548 := eq_true q548
                                          have p549 : 0 ≤ (x13_5 : Int) := of_decide_eq_true (by first | (with_reducible assumption) | assumption)
                                          have q549 : x13_5 < (x11_4.length : Int) := of_decide_eq_true (by first | (with_reducible assumption) | assumption)
                                          obtain ⟨ad549, e549, hx549_0⟩ := Kd.at_int (Kd.R_reads' HO_11.out).2.2 x13_5 p549 q549
                                          obtain rfl : ad547 = ad549 := (by injection e549)
                                          replace p549 := eq_true p549
                                          replace q549 := eq_true q549
                                          have p550 : 0 ≤ (x12_4 : Int) := of_decide_eq_true (by first | (with_reducible assumption) | assumption)
                                          have q550 : x12_4 < (x7_3.length : Int) := of_decide_eq_true (by first | (with_reducible assumption) | assumption)
                                          obtain ⟨ad550, e550, hx550_0⟩ := Kd.at_int (Kd.R_reads' HO_7.out).2.2 x12_4 p550 q550
                                          obtain rfl : ad548 = ad550 := (by injection e550)
                                          replace p550 := eq_true p550
                                          replace q550 := eq_true q550
                                          go_wp2
                                          repeat (go_quiet (fail); try go_wp2)
                                          go_roundg k5
                                          case measure => have := HK1.out; have := HK2.out; have := HK3.out; have := HK4.out; have := HK5.out; omega
                                          case rel => exact ⟨(x11_4), (wrap64 (x12_4 + 1)), (by first | rfl | (simp; done) | (simp [*]; done)), H', ⟨by have := HK1.out; have := HK2.out; have := HK3.out; have := HK4.out; have := HK5.out; omega⟩, ⟨by (with_reducible repeat (first | apply Kd.R_alloc | apply Kd.R_drewN | apply Kd.R_drew)); exact HO_7.out⟩, ⟨by (with_reducible repeat (first | apply Kd.R_alloc | apply Kd.R_drewN | apply Kd.R_drew)); exact HO_11.out⟩, ⟨by (with_reducible repeat (first | refine blk_drewN ?_ _ | refine blk_drew ?_ | refine blk_alloc ?_ _)); exact BK529.out⟩, ⟨by repeat (first | (with_reducible first | exact HB.out | apply below_alloc | apply pw_below_drewN | apply below_drew1 | refine below_set ?_ GE529.out) | exact HB.out)⟩⟩
                                        · rw [if_neg c33] at H
                                          have c33b0 : ((rd x11_4 x13_5) == (rd x7_3 x12_4)) = false := beq_eq_false_iff_ne.mpr c33
                                          have c33b1 : ((rd x11_4 x13_5) != (rd x7_3 x12_4)) = true := bne_iff_ne.mpr c33
                                          have c35b0 := eq_true (of_decide_eq_true (by first | (with_reducible assumption) | assumption) : 0 ≤ x13_5)
                                          by_cases c36 : x13_5 ≤ (x11_4.length : Int)
                                          · rw [if_pos c36] at H
                                            have c36b0 := eq_true c36
                                            have c36b1 : decide (x13_5 ≤ (x11_4.length : Int)) = true := decide_eq_true c36
                                            clear c36
                                            obtain ⟨y551, hy551⟩ : ∃ y_ : List Int, y_ = (x11_4.take (x13_5 : Int).toNat) := ⟨_, rfl⟩
                                            replace H : (if ([] : List Int).length + y551.length < 17592186044416 then ((some (([] : List Int) ++ y551 : List Int)).bind fun y555 => (if y555.length < 17592186044416 then ((some (y555 ++ [rd x7_3 x12_4] : List Int)).bind fun y559 => ((some (x11_4.drop (x13_5 : Int).toNat : List Int)).bind fun y562 => (if y559.length + y562.length < 17592186044416 then (quaysideref33_times.l3 k5 x7_3 (y559 ++ y562) (wrap64 (x12_4 + 1))) else (none)))) else (none))) else (none)) = some r := by first | (rw [hy551]; with_reducible exact H) | (have H2_ := (Option.bind_some _ _).symm.trans H; rw [hy551]; with_reducible exact H2_) | (have H2_ := (Option.bind_some _ _).symm.trans H; with_reducible exact H2_) | with_reducible exact H | (rw [hy551]; exact H) | exact H
                                            have Ny551 := Aside0.mk hy551
                                            clear hy551
                                            by_cases c37 : ([] : List Int).length + y551.length < 17592186044416
                                            · rw [if_pos c37] at H
                                              have LMc37 := Aside0.mk c37
                                              clear c37
                                              obtain ⟨y555, hy555⟩ : ∃ y_ : List Int, y_ = (([] : List Int) ++ y551) := ⟨_, rfl⟩
                                              replace H : (if y555.length < 17592186044416 then ((some (y555 ++ [rd x7_3 x12_4] : List Int)).bind fun y559 => ((some (x11_4.drop (x13_5 : Int).toNat : List Int)).bind fun y562 => (if y559.length + y562.length < 17592186044416 then (quaysideref33_times.l3 k5 x7_3 (y559 ++ y562) (wrap64 (x12_4 + 1))) else (none)))) else (none)) = some r := by first | (rw [hy555]; with_reducible exact H) | (have H2_ := (Option.bind_some _ _).symm.trans H; rw [hy555]; with_reducible exact H2_) | (have H2_ := (Option.bind_some _ _).symm.trans H; with_reducible exact H2_) | with_reducible exact H | (rw [hy555]; exact H) | exact H
                                              have Ny555 := Aside0.mk hy555
                                              clear hy555
                                              by_cases c38 : y555.length < 17592186044416
                                              · rw [if_pos c38] at H
                                                have LMc38 := Aside0.mk c38
                                                clear c38
                                                obtain ⟨y559, hy559⟩ : ∃ y_ : List Int, y_ = (y555 ++ [rd x7_3 x12_4]) := ⟨_, rfl⟩
                                                replace H : ((some (x11_4.drop (x13_5 : Int).toNat : List Int)).bind fun y562 => (if y559.length + y562.length < 17592186044416 then (quaysideref33_times.l3 k5 x7_3 (y559 ++ y562) (wrap64 (x12_4 + 1))) else (none))) = some r := by first | (rw [hy559]; with_reducible exact H) | (have H2_ := (Option.bind_some _ _).symm.trans H; rw [hy559]; with_reducible exact H2_) | (have H2_ := (Option.bind_some _ _).symm.trans H; with_reducible exact H2_) | with_reducible exact H | (rw [hy559]; exact H) | exact H
                                                have Ny559 := Aside0.mk hy559
                                                clear hy559
                                                have c39b0 := eq_true (of_decide_eq_true (by first | (with_reducible assumption) | assumption) : 0 ≤ x13_5)
                                                have c40b0 := eq_true (of_decide_eq_true (by first | (with_reducible assumption) | assumption) : x13_5 ≤ (x11_4.length : Int))
                                                obtain ⟨y562, hy562⟩ : ∃ y_ : List Int, y_ = (x11_4.drop (x13_5 : Int).toNat) := ⟨_, rfl⟩
                                                replace H : (if y559.length + y562.length < 17592186044416 then (quaysideref33_times.l3 k5 x7_3 (y559 ++ y562) (wrap64 (x12_4 + 1))) else (none)) = some r := by first | (rw [hy562]; with_reducible exact H) | (have H2_ := (Option.bind_some _ _).symm.trans H; rw [hy562]; with_reducible exact H2_) | (have H2_ := (Option.bind_some _ _).symm.trans H; with_reducible exact H2_) | with_reducible exact H | (rw [hy562]; exact H) | exact H
                                                have Ny562 := Aside0.mk hy562
                                                clear hy562
                                                by_cases c41 : y559.length + y562.length < 17592186044416
                                                · rw [if_pos c41] at H
                                                  have LMc41 := Aside0.mk c41
                                                  clear c41
                                                  obtain ⟨y566, hy566⟩ : ∃ y_ : List Int, y_ = (y559 ++ y562) := ⟨_, rfl⟩
                                                  replace H : (quaysideref33_times.l3 k5 x7_3 y566 (wrap64 (x12_4 + 1))) = some r := by first | (rw [hy566]; with_reducible exact H) | (have H2_ := (Option.bind_some _ _).symm.trans H; rw [hy566]; with_reducible exact H2_) | (have H2_ := (Option.bind_some _ _).symm.trans H; with_reducible exact H2_) | with_reducible exact H | (rw [hy566]; exact H) | exact H
                                                  have Ny566 := Aside0.mk hy566
                                                  clear hy566
                                                  have H' := Aside0.mk H
                                                  clear H
                                                  obtain ⟨Ao42, co42, eo42⟩ := Kd.R_slice HO_11.out
                                                  subst eo42
                                                  have p547 : 0 ≤ (x13_5 : Int) := of_decide_eq_true (by first | (with_reducible assumption) | assumption)
                                                  have q547 : x13_5 < (x11_4.length : Int) := of_decide_eq_true (by first | (with_reducible assumption) | assumption)
                                                  obtain ⟨ad547, e547, hx547_0⟩ := Kd.at_int (Kd.R_reads' HO_11.out).2.2 x13_5 p547 q547
                                                  cases e547
                                                  replace p547 := eq_true p547
                                                  replace q547 := eq_true q547
                                                  have p548 : 0 ≤ (x12_4 : Int) := of_decide_eq_true (by first | (with_reducible assumption) | assumption)
                                                  have q548 : x12_4 < (x7_3.length : Int) := of_decide_eq_true (by first | (with_reducible assumption) | assumption)
                                                  obtain ⟨ad548, e548, hx548_0⟩ := Kd.at_int (Kd.R_reads' HO_7.out).2.2 x12_4 p548 q548
                                                  cases e548
                                                  replace p548 := eq_true p548
                                                  replace q548 := eq_true q548
                                                  have p549 : 0 ≤ (x13_5 : Int) := of_decide_eq_true (by first | (with_reducible assumption) | assumption)
                                                  have q549 : x13_5 < (x11_4.length : Int) := of_decide_eq_true (by first | (with_reducible assumption) | assumption)
                                                  obtain ⟨ad549, e549, hx549_0⟩ := Kd.at_int (Kd.R_reads' HO_11.out).2.2 x13_5 p549 q549
                                                  obtain rfl : ad547 = ad549 := (by injection e549)
                                                  replace p549 := eq_true p549
                                                  replace q549 := eq_true q549
                                                  have p550 : 0 ≤ (x12_4 : Int) := of_decide_eq_true (by first | (with_reducible assumption) | assumption)
                                                  have q550 : x12_4 < (x7_3.length : Int) := of_decide_eq_true (by first | (with_reducible assumption) | assumption)
                                                  obtain ⟨ad550, e550, hx550_0⟩ := Kd.at_int (Kd.R_reads' HO_7.out).2.2 x12_4 p550 q550
                                                  obtain rfl : ad548 = ad550 := (by injection e550)
                                                  replace p550 := eq_true p550
                                                  replace q550 := eq_true q550
                                                  have q43 : (x13_5 : Int) ≤ ((x11_4.length : Int) : Int) := of_decide_eq_true (by first | (with_reducible assumption) | assumption)
                                                  obtain ⟨i043, hi043, _, hsz43, _⟩ := info_parts info3
                                                  have hroom43 : x11_4.length ≤ co42 := (Kd.R_reads' HO_11.out).2.1
                                                  have hC43 : Kd.C (Kd.int .i64) _ (some ad547) x11_4.length x11_4 := (Kd.R_reads' HO_11.out).2.2
                                                  have hcut43 := cut_to (P := Try.prog) 105 3 .i64 Try.underlying105 hi043 (some ad547) x11_4.length co42 x13_5 (of_decide_eq_true (by first | (with_reducible assumption) | assumption)) q43 hroom43
                                                  have hr43 := Kd.C_take (m := (x13_5 : Int).toNat) hC43 (by omega)
                                                  have hy43 : y551.length = (x13_5 : Int).toNat := (by rw [Ny551.out, List.length_take]; omega)
                                                  rw [← Ny551.out] at hr43
                                                  rw [← hy43] at hcut43
                                                  have HR554 := Aside0.mk hr43
                                                  have HC554 := Aside0.mk (show y551.length ≤ co42 from by omega)
                                                  clear hr43 hC43 hroom43 hi043 hsz43
                                                  have KY43 := Aside0.mk hy43
                                                  clear hy43
                                                  have KL43 := Aside0.mk (show (x13_5 : Int).toNat ≤ x11_4.length from by omega)
                                                  replace q43 := eq_true q43
                                                  go_wp2_with (first | ((with_reducible refine gate_builtin (b := .append) (xs := #[.tmp 115, .tmp 118]) rfl ?_); at_builtin; refine Kd.R_append_rows (Kd.int .i64) (w0 := w) w.heap.size rfl (.tmp 115) (.tmp 118) 105 3 (.int .i64 0) 8 rfl Try.underlying105 info3 rfl (by decide) (by omega) (.slice none 0 0) ([] : List Int) y551 _ _ _ (fun k_ => some k_ ≠ (.slice (some ad548) x7_3.length co26 : Value).ownBlock ∧ some k_ ≠ (.slice (some ad547) x11_4.length co42 : Value).ownBlock) (fun _ => False) rfl rfl ?aO ?aR (fun _ _ h => h) (fun _ h => h.elim) ?aF ?aB ?aS ?aL ?_; (case aR => repeat (first | exact (by repeat (first | (with_reducible exact HR554.out) | (with_reducible refine Kd.C_alloc ?_ _) | (with_reducible refine Kd.C_drewN ?_ _) | (with_reducible refine Kd.C_drew ?_) | exact HR554.out)) | (with_reducible refine Kd.C_alloc ?_ _) | (with_reducible refine Kd.C_drewN ?_ _) | (with_reducible refine Kd.C_drew ?_))); (case aB => exact (by repeat (first | (with_reducible first | exact HB.out | apply below_alloc | apply pw_below_drewN | apply below_drew1 | refine below_set ?_ GE529.out) | exact HB.out))); (case aF => exact (fun k_ hk => ⟨Kd.fresh' (Kd.R_lt (by (with_reducible repeat (first | apply Kd.R_alloc | apply Kd.R_drewN | apply Kd.R_drew)); exact HO_7.out)) k_ hk, Kd.fresh' (Kd.R_lt (by (with_reducible repeat (first | apply Kd.R_alloc | apply Kd.R_drewN | apply Kd.R_drew)); exact HO_11.out)) k_ hk⟩)); (case aO => exact ((Kd.R_nil _ _ _ _ (fun k_ => some k_ ≠ (.slice (some ad548) x7_3.length co26 : Value).ownBlock ∧ some k_ ≠ (.slice (some ad547) x11_4.length co42 : Value).ownBlock)))); (case aS => exact (below_size (by repeat (first | (with_reducible first | exact HB.out | apply below_alloc | apply pw_below_drewN | apply below_drew1 | refine below_set ?_ GE529.out) | exact HB.out)))); (case aL => have := LMc37.out; omega); intro v556 w44 ho hb hg hat; rw [← Ny555.out] at ho; have n0_ := Aside0.mk (Kd.R_after (Kd.R_apart_nil (by (with_reducible repeat (first | apply Kd.R_alloc | apply Kd.R_drewN | apply Kd.R_drew)); exact HO_7.out)) hg hat); have n1_ := Aside0.mk (Kd.R_after (Kd.R_apart_nil (by (with_reducible repeat (first | apply Kd.R_alloc | apply Kd.R_drewN | apply Kd.R_drew)); exact HO_11.out)) hg hat); have n2_ := Aside0.mk (blk_grown (g := gb529) (o := .cells #[.slice A0_0 l0_0.length c0_0, .slice A0_1 l0_1.length c0_1, .slice A0_2 l0_2.length c0_2, .int .i64 a0_3] 41 (0, 0)) (by (with_reducible repeat (first | refine blk_drewN ?_ _ | refine blk_drew ?_ | refine blk_alloc ?_ _)); exact BK529.out) hg (by simp [Value.ownBlock])); have n3_ := Aside0.mk (hb); have n4_ := Aside0.mk ((show Kd.C (Kd.int .i64) w44 (some ad547) y551.length y551 from by rw [Ny551.out]; exact Kd.C_take (m := (x13_5 : Int).toNat) ((Kd.R_reads' (Kd.R_after (Kd.R_apart_nil (by (with_reducible repeat (first | apply Kd.R_alloc | apply Kd.R_drewN | apply Kd.R_drew)); exact HO_11.out)) hg hat)).2.2) KL43.out)); have n5_ := Aside0.mk (ho); clear HO_7; clear HO_11; clear BK529; clear HB; clear HR554; have HO_7 := n0_; have HO_11 := n1_; have BK529 := n2_; have HB := n3_; have HR554 := n4_; have HO557 := n5_; clear n0_ n1_ n2_ n3_ n4_ n5_; clear ho hb hg hat; have p558 : 0 ≤ (x12_4 : Int) := of_decide_eq_true (by first | (with_reducible assumption) | assumption); have q558 : x12_4 < (x7_3.length : Int) := of_decide_eq_true (by first | (with_reducible assumption) | assumption); obtain ⟨ad558, e558, hx558_0⟩ := Kd.at_int (Kd.R_reads' HO_7.out).2.2 x12_4 p558 q558; obtain rfl : ad548 = ad558 := (by injection e558); replace p558 := eq_true p558; replace q558 := eq_true q558) | ((with_reducible refine gate_builtin (b := .append) (xs := #[.tmp 120, .tmp 125]) rfl ?_); at_builtin; refine Kd.R_append (Kd.int .i64) (w0 := w) w.heap.size rfl (.tmp 120) (.tmp 125) 105 3 (.int .i64 0) 8 rfl Try.underlying105 info3 rfl (by decide) (by omega) v556 y555 (rd x7_3 x12_4) [.int .i64 (rd x7_3 x12_4)] (fun k_ => some k_ ≠ (.slice (some ad548) x7_3.length co26 : Value).ownBlock ∧ some k_ ≠ (.slice (some ad547) x11_4.length co42 : Value).ownBlock) (fun _ => False) rfl rfl ?aP (fun _ hk => hk.elim) ?aF ?aO ?aB ?aS ?aL ?_; (case aP => exact rfl); (case aB => exact (by repeat (first | (with_reducible first | exact HB.out | apply below_alloc | apply pw_below_drewN | apply below_drew1 | refine below_set ?_ GE529.out) | exact HB.out))); (case aF => exact (fun k_ hk => ⟨Kd.fresh' (Kd.R_lt (by (with_reducible repeat (first | apply Kd.R_alloc | apply Kd.R_drewN | apply Kd.R_drew)); exact HO_7.out)) k_ hk, Kd.fresh' (Kd.R_lt (by (with_reducible repeat (first | apply Kd.R_alloc | apply Kd.R_drewN | apply Kd.R_drew)); exact HO_11.out)) k_ hk⟩)); (case aO => exact (by (with_reducible repeat (first | apply Kd.R_alloc | apply Kd.R_drewN | apply Kd.R_drew)); exact HO557.out)); (case aS => exact (below_size (by repeat (first | (with_reducible first | exact HB.out | apply below_alloc | apply pw_below_drewN | apply below_drew1 | refine below_set ?_ GE529.out) | exact HB.out)))); (case aL => have := LMc38.out; omega); intro v560 w45 ho hb hg hat; rw [← Ny559.out] at ho; have n0_ := Aside0.mk (Kd.R_after (ok := (fun k_ => some k_ ≠ (.slice (some ad547) x11_4.length co42 : Value).ownBlock)) (by (with_reducible repeat (first | apply Kd.R_alloc | apply Kd.R_drewN | apply Kd.R_drew)); exact HO_7.out) hg hat); have n1_ := Aside0.mk (Kd.R_after (ok := (fun k_ => some k_ ≠ (.slice (some ad548) x7_3.length co26 : Value).ownBlock)) (by (with_reducible repeat (first | apply Kd.R_alloc | apply Kd.R_drewN | apply Kd.R_drew)); exact HO_11.out) hg hat); have n2_ := Aside0.mk (blk_grown (g := gb529) (o := .cells #[.slice A0_0 l0_0.length c0_0, .slice A0_1 l0_1.length c0_1, .slice A0_2 l0_2.length c0_2, .int .i64 a0_3] 41 (0, 0)) (by (with_reducible repeat (first | refine blk_drewN ?_ _ | refine blk_drew ?_ | refine blk_alloc ?_ _)); exact BK529.out) hg (Kd.R_ne HO557.out BK529.out (by decide))); have n3_ := Aside0.mk (hb); have n4_ := Aside0.mk ((show Kd.C (Kd.int .i64) w45 (some ad547) y551.length y551 from by rw [Ny551.out]; exact Kd.C_take (m := (x13_5 : Int).toNat) ((Kd.R_reads' (Kd.R_after (ok := (fun k_ => some k_ ≠ (.slice (some ad548) x7_3.length co26 : Value).ownBlock)) (by (with_reducible repeat (first | apply Kd.R_alloc | apply Kd.R_drewN | apply Kd.R_drew)); exact HO_11.out) hg hat)).2.2) KL43.out)); have n5_ := Aside0.mk (ho); clear HO_7; clear HO_11; clear BK529; clear HB; clear HR554; clear HO557; have HO_7 := n0_; have HO_11 := n1_; have BK529 := n2_; have HB := n3_; have HR554 := n4_; have HO561 := n5_; clear n0_ n1_ n2_ n3_ n4_ n5_; clear ho hb hg hat; have q46 : (x13_5 : Int) ≤ ((x11_4.length : Int) : Int) := of_decide_eq_true (by first | (with_reducible assumption) | assumption); obtain ⟨i046, hi046, _, hsz46, _⟩ := info_parts info3; have hroom46 : x11_4.length ≤ co42 := (Kd.R_reads' HO_11.out).2.1; have hC46 : Kd.C (Kd.int .i64) _ (some ad547) x11_4.length x11_4 := (Kd.R_reads' HO_11.out).2.2; have q046 : (0 : Int) ≤ (x13_5 : Int) := of_decide_eq_true (by first | (with_reducible assumption) | assumption); have hcut46 := cut_from (P := Try.prog) 105 3 .i64 Try.underlying105 hi046 1 hsz46 (some ad547) x11_4.length co42 x13_5 q046 q46; have hr46 := Kd.C_drop (m := (x13_5 : Int).toNat) (c := co42) hC46 (by omega) hroom46; obtain ⟨A46, hA46⟩ : ∃ A1, A1 = (if co42 = (x13_5 : Int).toNat then (some ad547) else ((some ad547) : Option Addr).map (·.add ((x13_5 : Int).toNat * 1))) := ⟨_, rfl⟩; obtain ⟨c46, hc46⟩ : ∃ c1, c1 = co42 - (x13_5 : Int).toNat := ⟨_, rfl⟩; have hy46 : y562.length = x11_4.length - (x13_5 : Int).toNat := (by rw [Ny562.out, List.length_drop] <;> omega); rw [show (x11_4).drop (x13_5 : Int).toNat = y562 from Ny562.out.symm] at hr46; replace hr46 : Kd.C (Kd.int .i64) _ A46 y562.length y562 := (by rw [hA46]; exact hr46); rw [← hy46, ← hA46, ← hc46] at hcut46; have HR565 := Aside0.mk hr46; have HC565 := Aside0.mk (show y562.length ≤ c46 from by rw [hy46, hc46]; exact Nat.sub_le_sub_right hroom46 _); clear hr46 hC46 hroom46 hi046 hsz46 hc46; have KY46 := Aside0.mk hy46; have KA46 := Aside0.mk hA46; clear hy46 hA46; have KL46 := Aside0.mk (show (x13_5 : Int).toNat ≤ x11_4.length from by omega); replace q46 := eq_true q46) | ((with_reducible refine gate_builtin (b := .append) (xs := #[.tmp 127, .tmp 130]) rfl ?_); at_builtin; refine Kd.R_append_rows (Kd.int .i64) (w0 := w) w.heap.size rfl (.tmp 127) (.tmp 130) 105 3 (.int .i64 0) 8 rfl Try.underlying105 info3 rfl (by decide) (by omega) v560 y559 y562 _ _ _ (fun k_ => some k_ ≠ (.slice (some ad548) x7_3.length co26 : Value).ownBlock ∧ some k_ ≠ (.slice (some ad547) x11_4.length co42 : Value).ownBlock) (fun _ => False) rfl rfl ?aO ?aR (fun _ _ h => h) (fun _ h => h.elim) ?aF ?aB ?aS ?aL ?_; (case aR => repeat (first | exact (by repeat (first | (with_reducible exact HR565.out) | (with_reducible refine Kd.C_alloc ?_ _) | (with_reducible refine Kd.C_drewN ?_ _) | (with_reducible refine Kd.C_drew ?_) | exact HR565.out)) | (with_reducible refine Kd.C_alloc ?_ _) | (with_reducible refine Kd.C_drewN ?_ _) | (with_reducible refine Kd.C_drew ?_))); (case aB => exact (by repeat (first | (with_reducible first | exact HB.out | apply below_alloc | apply pw_below_drewN | apply below_drew1 | refine below_set ?_ GE529.out) | exact HB.out))); (case aF => exact (fun k_ hk => ⟨Kd.fresh' (Kd.R_lt (by (with_reducible repeat (first | apply Kd.R_alloc | apply Kd.R_drewN | apply Kd.R_drew)); exact HO_7.out)) k_ hk, Kd.fresh' (Kd.R_lt (by (with_reducible repeat (first | apply Kd.R_alloc | apply Kd.R_drewN | apply Kd.R_drew)); exact HO_11.out)) k_ hk⟩)); (case aO => exact (by (with_reducible repeat (first | apply Kd.R_alloc | apply Kd.R_drewN | apply Kd.R_drew)); exact HO561.out)); (case aS => exact (below_size (by repeat (first | (with_reducible first | exact HB.out | apply below_alloc | apply pw_below_drewN | apply below_drew1 | refine below_set ?_ GE529.out) | exact HB.out)))); (case aL => have := LMc41.out; omega); intro v567 w47 ho hb hg hat; rw [← Ny566.out] at ho; have n0_ := Aside0.mk (Kd.R_after (ok := (fun k_ => some k_ ≠ (.slice (some ad547) x11_4.length co42 : Value).ownBlock)) (by (with_reducible repeat (first | apply Kd.R_alloc | apply Kd.R_drewN | apply Kd.R_drew)); exact HO_7.out) hg hat); have n1_ := Aside0.mk (Kd.R_after (ok := (fun k_ => some k_ ≠ (.slice (some ad548) x7_3.length co26 : Value).ownBlock)) (by (with_reducible repeat (first | apply Kd.R_alloc | apply Kd.R_drewN | apply Kd.R_drew)); exact HO_11.out) hg hat); have n2_ := Aside0.mk (blk_grown (g := gb529) (o := .cells #[.slice A0_0 l0_0.length c0_0, .slice A0_1 l0_1.length c0_1, .slice A0_2 l0_2.length c0_2, .int .i64 a0_3] 41 (0, 0)) (by (with_reducible repeat (first | refine blk_drewN ?_ _ | refine blk_drew ?_ | refine blk_alloc ?_ _)); exact BK529.out) hg (Kd.R_ne HO561.out BK529.out (by decide))); have n3_ := Aside0.mk (hb); have n4_ := Aside0.mk ((show Kd.C (Kd.int .i64) w47 (some ad547) y551.length y551 from by rw [Ny551.out]; exact Kd.C_take (m := (x13_5 : Int).toNat) ((Kd.R_reads' (Kd.R_after (ok := (fun k_ => some k_ ≠ (.slice (some ad548) x7_3.length co26 : Value).ownBlock)) (by (with_reducible repeat (first | apply Kd.R_alloc | apply Kd.R_drewN | apply Kd.R_drew)); exact HO_11.out) hg hat)).2.2) KL43.out)); have n5_ := Aside0.mk ((show Kd.C (Kd.int .i64) w47 A46 y562.length y562 from by rw [Ny562.out, KA46.out]; exact Kd.C_drop (m := (x13_5 : Int).toNat) (c := co42) ((Kd.R_reads' (Kd.R_after (ok := (fun k_ => some k_ ≠ (.slice (some ad548) x7_3.length co26 : Value).ownBlock)) (by (with_reducible repeat (first | apply Kd.R_alloc | apply Kd.R_drewN | apply Kd.R_drew)); exact HO_11.out) hg hat)).2.2) KL46.out ((Kd.R_reads' (Kd.R_after (ok := (fun k_ => some k_ ≠ (.slice (some ad548) x7_3.length co26 : Value).ownBlock)) (by (with_reducible repeat (first | apply Kd.R_alloc | apply Kd.R_drewN | apply Kd.R_drew)); exact HO_11.out) hg hat)).2.1))); have n6_ := Aside0.mk (ho); clear HO_7; clear HO_11; clear BK529; clear HB; clear HR554; clear HR565; clear HO561; have HO_7 := n0_; have HO_11 := n1_; have BK529 := n2_; have HB := n3_; have HR554 := n4_; have HR565 := n5_; have HO568 := n6_; clear n0_ n1_ n2_ n3_ n4_ n5_ n6_; clear ho hb hg hat))
                                                  repeat (go_quiet (first | ((with_reducible refine gate_builtin (b := .append) (xs := #[.tmp 115, .tmp 118]) rfl ?_); at_builtin; refine Kd.R_append_rows (Kd.int .i64) (w0 := w) w.heap.size rfl (.tmp 115) (.tmp 118) 105 3 (.int .i64 0) 8 rfl Try.underlying105 info3 rfl (by decide) (by omega) (.slice none 0 0) ([] : List Int) y551 _ _ _ (fun k_ => some k_ ≠ (.slice (some ad548) x7_3.length co26 : Value).ownBlock ∧ some k_ ≠ (.slice (some ad547) x11_4.length co42 : Value).ownBlock) (fun _ => False) rfl rfl ?aO ?aR (fun _ _ h => h) (fun _ h => h.elim) ?aF ?aB ?aS ?aL ?_; (case aR => repeat (first | exact (by repeat (first | (with_reducible exact HR554.out) | (with_reducible refine Kd.C_alloc ?_ _) | (with_reducible refine Kd.C_drewN ?_ _) | (with_reducible refine Kd.C_drew ?_) | exact HR554.out)) | (with_reducible refine Kd.C_alloc ?_ _) | (with_reducible refine Kd.C_drewN ?_ _) | (with_reducible refine Kd.C_drew ?_))); (case aB => exact (by repeat (first | (with_reducible first | exact HB.out | apply below_alloc | apply pw_below_drewN | apply below_drew1 | refine below_set ?_ GE529.out) | exact HB.out))); (case aF => exact (fun k_ hk => ⟨Kd.fresh' (Kd.R_lt (by (with_reducible repeat (first | apply Kd.R_alloc | apply Kd.R_drewN | apply Kd.R_drew)); exact HO_7.out)) k_ hk, Kd.fresh' (Kd.R_lt (by (with_reducible repeat (first | apply Kd.R_alloc | apply Kd.R_drewN | apply Kd.R_drew)); exact HO_11.out)) k_ hk⟩)); (case aO => exact ((Kd.R_nil _ _ _ _ (fun k_ => some k_ ≠ (.slice (some ad548) x7_3.length co26 : Value).ownBlock ∧ some k_ ≠ (.slice (some ad547) x11_4.length co42 : Value).ownBlock)))); (case aS => exact (below_size (by repeat (first | (with_reducible first | exact HB.out | apply below_alloc | apply pw_below_drewN | apply below_drew1 | refine below_set ?_ GE529.out) | exact HB.out)))); (case aL => have := LMc37.out; omega); intro v556 w44 ho hb hg hat; rw [← Ny555.out] at ho; have n0_ := Aside0.mk (Kd.R_after (Kd.R_apart_nil (by (with_reducible repeat (first | apply Kd.R_alloc | apply Kd.R_drewN | apply Kd.R_drew)); exact HO_7.out)) hg hat); have n1_ := Aside0.mk (Kd.R_after (Kd.R_apart_nil (by (with_reducible repeat (first | apply Kd.R_alloc | apply Kd.R_drewN | apply Kd.R_drew)); exact HO_11.out)) hg hat); have n2_ := Aside0.mk (blk_grown (g := gb529) (o := .cells #[.slice A0_0 l0_0.length c0_0, .slice A0_1 l0_1.length c0_1, .slice A0_2 l0_2.length c0_2, .int .i64 a0_3] 41 (0, 0)) (by (with_reducible repeat (first | refine blk_drewN ?_ _ | refine blk_drew ?_ | refine blk_alloc ?_ _)); exact BK529.out) hg (by simp [Value.ownBlock])); have n3_ := Aside0.mk (hb); have n4_ := Aside0.mk ((show Kd.C (Kd.int .i64) w44 (some ad547) y551.length y551 from by rw [Ny551.out]; exact Kd.C_take (m := (x13_5 : Int).toNat) ((Kd.R_reads' (Kd.R_after (Kd.R_apart_nil (by (with_reducible repeat (first | apply Kd.R_alloc | apply Kd.R_drewN | apply Kd.R_drew)); exact HO_11.out)) hg hat)).2.2) KL43.out)); have n5_ := Aside0.mk (ho); clear HO_7; clear HO_11; clear BK529; clear HB; clear HR554; have HO_7 := n0_; have HO_11 := n1_; have BK529 := n2_; have HB := n3_; have HR554 := n4_; have HO557 := n5_; clear n0_ n1_ n2_ n3_ n4_ n5_; clear ho hb hg hat; have p558 : 0 ≤ (x12_4 : Int) := of_decide_eq_true (by first | (with_reducible assumption) | assumption); have q558 : x12_4 < (x7_3.length : Int) := of_decide_eq_true (by first | (with_reducible assumption) | assumption); obtain ⟨ad558, e558, hx558_0⟩ := Kd.at_int (Kd.R_reads' HO_7.out).2.2 x12_4 p558 q558; obtain rfl : ad548 = ad558 := (by injection e558); replace p558 := eq_true p558; replace q558 := eq_true q558) | ((with_reducible refine gate_builtin (b := .append) (xs := #[.tmp 120, .tmp 125]) rfl ?_); at_builtin; refine Kd.R_append (Kd.int .i64) (w0 := w) w.heap.size rfl (.tmp 120) (.tmp 125) 105 3 (.int .i64 0) 8 rfl Try.underlying105 info3 rfl (by decide) (by omega) v556 y555 (rd x7_3 x12_4) [.int .i64 (rd x7_3 x12_4)] (fun k_ => some k_ ≠ (.slice (some ad548) x7_3.length co26 : Value).ownBlock ∧ some k_ ≠ (.slice (some ad547) x11_4.length co42 : Value).ownBlock) (fun _ => False) rfl rfl ?aP (fun _ hk => hk.elim) ?aF ?aO ?aB ?aS ?aL ?_; (case aP => exact rfl); (case aB => exact (by repeat (first | (with_reducible first | exact HB.out | apply below_alloc | apply pw_below_drewN | apply below_drew1 | refine below_set ?_ GE529.out) | exact HB.out))); (case aF => exact (fun k_ hk => ⟨Kd.fresh' (Kd.R_lt (by (with_reducible repeat (first | apply Kd.R_alloc | apply Kd.R_drewN | apply Kd.R_drew)); exact HO_7.out)) k_ hk, Kd.fresh' (Kd.R_lt (by (with_reducible repeat (first | apply Kd.R_alloc | apply Kd.R_drewN | apply Kd.R_drew)); exact HO_11.out)) k_ hk⟩)); (case aO => exact (by (with_reducible repeat (first | apply Kd.R_alloc | apply Kd.R_drewN | apply Kd.R_drew)); exact HO557.out)); (case aS => exact (below_size (by repeat (first | (with_reducible first | exact HB.out | apply below_alloc | apply pw_below_drewN | apply below_drew1 | refine below_set ?_ GE529.out) | exact HB.out)))); (case aL => have := LMc38.out; omega); intro v560 w45 ho hb hg hat; rw [← Ny559.out] at ho; have n0_ := Aside0.mk (Kd.R_after (ok := (fun k_ => some k_ ≠ (.slice (some ad547) x11_4.length co42 : Value).ownBlock)) (by (with_reducible repeat (first | apply Kd.R_alloc | apply Kd.R_drewN | apply Kd.R_drew)); exact HO_7.out) hg hat); have n1_ := Aside0.mk (Kd.R_after (ok := (fun k_ => some k_ ≠ (.slice (some ad548) x7_3.length co26 : Value).ownBlock)) (by (with_reducible repeat (first | apply Kd.R_alloc | apply Kd.R_drewN | apply Kd.R_drew)); exact HO_11.out) hg hat); have n2_ := Aside0.mk (blk_grown (g := gb529) (o := .cells #[.slice A0_0 l0_0.length c0_0, .slice A0_1 l0_1.length c0_1, .slice A0_2 l0_2.length c0_2, .int .i64 a0_3] 41 (0, 0)) (by (with_reducible repeat (first | refine blk_drewN ?_ _ | refine blk_drew ?_ | refine blk_alloc ?_ _)); exact BK529.out) hg (Kd.R_ne HO557.out BK529.out (by decide))); have n3_ := Aside0.mk (hb); have n4_ := Aside0.mk ((show Kd.C (Kd.int .i64) w45 (some ad547) y551.length y551 from by rw [Ny551.out]; exact Kd.C_take (m := (x13_5 : Int).toNat) ((Kd.R_reads' (Kd.R_after (ok := (fun k_ => some k_ ≠ (.slice (some ad548) x7_3.length co26 : Value).ownBlock)) (by (with_reducible repeat (first | apply Kd.R_alloc | apply Kd.R_drewN | apply Kd.R_drew)); exact HO_11.out) hg hat)).2.2) KL43.out)); have n5_ := Aside0.mk (ho); clear HO_7; clear HO_11; clear BK529; clear HB; clear HR554; clear HO557; have HO_7 := n0_; have HO_11 := n1_; have BK529 := n2_; have HB := n3_; have HR554 := n4_; have HO561 := n5_; clear n0_ n1_ n2_ n3_ n4_ n5_; clear ho hb hg hat; have q46 : (x13_5 : Int) ≤ ((x11_4.length : Int) : Int) := of_decide_eq_true (by first | (with_reducible assumption) | assumption); obtain ⟨i046, hi046, _, hsz46, _⟩ := info_parts info3; have hroom46 : x11_4.length ≤ co42 := (Kd.R_reads' HO_11.out).2.1; have hC46 : Kd.C (Kd.int .i64) _ (some ad547) x11_4.length x11_4 := (Kd.R_reads' HO_11.out).2.2; have q046 : (0 : Int) ≤ (x13_5 : Int) := of_decide_eq_true (by first | (with_reducible assumption) | assumption); have hcut46 := cut_from (P := Try.prog) 105 3 .i64 Try.underlying105 hi046 1 hsz46 (some ad547) x11_4.length co42 x13_5 q046 q46; have hr46 := Kd.C_drop (m := (x13_5 : Int).toNat) (c := co42) hC46 (by omega) hroom46; obtain ⟨A46, hA46⟩ : ∃ A1, A1 = (if co42 = (x13_5 : Int).toNat then (some ad547) else ((some ad547) : Option Addr).map (·.add ((x13_5 : Int).toNat * 1))) := ⟨_, rfl⟩; obtain ⟨c46, hc46⟩ : ∃ c1, c1 = co42 - (x13_5 : Int).toNat := ⟨_, rfl⟩; have hy46 : y562.length = x11_4.length - (x13_5 : Int).toNat := (by rw [Ny562.out, List.length_drop] <;> omega); rw [show (x11_4).drop (x13_5 : Int).toNat = y562 from Ny562.out.symm] at hr46; replace hr46 : Kd.C (Kd.int .i64) _ A46 y562.length y562 := (by rw [hA46]; exact hr46); rw [← hy46, ← hA46, ← hc46] at hcut46; have HR565 := Aside0.mk hr46; have HC565 := Aside0.mk (show y562.length ≤ c46 from by rw [hy46, hc46]; exact Nat.sub_le_sub_right hroom46 _); clear hr46 hC46 hroom46 hi046 hsz46 hc46; have KY46 := Aside0.mk hy46; have KA46 := Aside0.mk hA46; clear hy46 hA46; have KL46 := Aside0.mk (show (x13_5 : Int).toNat ≤ x11_4.length from by omega); replace q46 := eq_true q46) | ((with_reducible refine gate_builtin (b := .append) (xs := #[.tmp 127, .tmp 130]) rfl ?_); at_builtin; refine Kd.R_append_rows (Kd.int .i64) (w0 := w) w.heap.size rfl (.tmp 127) (.tmp 130) 105 3 (.int .i64 0) 8 rfl Try.underlying105 info3 rfl (by decide) (by omega) v560 y559 y562 _ _ _ (fun k_ => some k_ ≠ (.slice (some ad548) x7_3.length co26 : Value).ownBlock ∧ some k_ ≠ (.slice (some ad547) x11_4.length co42 : Value).ownBlock) (fun _ => False) rfl rfl ?aO ?aR (fun _ _ h => h) (fun _ h => h.elim) ?aF ?aB ?aS ?aL ?_; (case aR => repeat (first | exact (by repeat (first | (with_reducible exact HR565.out) | (with_reducible refine Kd.C_alloc ?_ _) | (with_reducible refine Kd.C_drewN ?_ _) | (with_reducible refine Kd.C_drew ?_) | exact HR565.out)) | (with_reducible refine Kd.C_alloc ?_ _) | (with_reducible refine Kd.C_drewN ?_ _) | (with_reducible refine Kd.C_drew ?_))); (case aB => exact (by repeat (first | (with_reducible first | exact HB.out | apply below_alloc | apply pw_below_drewN | apply below_drew1 | refine below_set ?_ GE529.out) | exact HB.out))); (case aF => exact (fun k_ hk => ⟨Kd.fresh' (Kd.R_lt (by (with_reducible repeat (first | apply Kd.R_alloc | apply Kd.R_drewN | apply Kd.R_drew)); exact HO_7.out)) k_ hk, Kd.fresh' (Kd.R_lt (by (with_reducible repeat (first | apply Kd.R_alloc | apply Kd.R_drewN | apply Kd.R_drew)); exact HO_11.out)) k_ hk⟩)); (case aO => exact (by (with_reducible repeat (first | apply Kd.R_alloc | apply Kd.R_drewN | apply Kd.R_drew)); exact HO561.out)); (case aS => exact (below_size (by repeat (first | (with_reducible first | exact HB.out | apply below_alloc | apply pw_below_drewN | apply below_drew1 | refine below_set ?_ GE529.out) | exact HB.out)))); (case aL => have := LMc41.out; omega); intro v567 w47 ho hb hg hat; rw [← Ny566.out] at ho; have n0_ := Aside0.mk (Kd.R_after (ok := (fun k_ => some k_ ≠ (.slice (some ad547) x11_4.length co42 : Value).ownBlock)) (by (with_reducible repeat (first | apply Kd.R_alloc | apply Kd.R_drewN | apply Kd.R_drew)); exact HO_7.out) hg hat); have n1_ := Aside0.mk (Kd.R_after (ok := (fun k_ => some k_ ≠ (.slice (some ad548) x7_3.length co26 : Value).ownBlock)) (by (with_reducible repeat (first | apply Kd.R_alloc | apply Kd.R_drewN | apply Kd.R_drew)); exact HO_11.out) hg hat); have n2_ := Aside0.mk (blk_grown (g := gb529) (o := .cells #[.slice A0_0 l0_0.length c0_0, .slice A0_1 l0_1.length c0_1, .slice A0_2 l0_2.length c0_2, .int .i64 a0_3] 41 (0, 0)) (by (with_reducible repeat (first | refine blk_drewN ?_ _ | refine blk_drew ?_ | refine blk_alloc ?_ _)); exact BK529.out) hg (Kd.R_ne HO561.out BK529.out (by decide))); have n3_ := Aside0.mk (hb); have n4_ := Aside0.mk ((show Kd.C (Kd.int .i64) w47 (some ad547) y551.length y551 from by rw [Ny551.out]; exact Kd.C_take (m := (x13_5 : Int).toNat) ((Kd.R_reads' (Kd.R_after (ok := (fun k_ => some k_ ≠ (.slice (some ad548) x7_3.length co26 : Value).ownBlock)) (by (with_reducible repeat (first | apply Kd.R_alloc | apply Kd.R_drewN | apply Kd.R_drew)); exact HO_11.out) hg hat)).2.2) KL43.out)); have n5_ := Aside0.mk ((show Kd.C (Kd.int .i64) w47 A46 y562.length y562 from by rw [Ny562.out, KA46.out]; exact Kd.C_drop (m := (x13_5 : Int).toNat) (c := co42) ((Kd.R_reads' (Kd.R_after (ok := (fun k_ => some k_ ≠ (.slice (some ad548) x7_3.length co26 : Value).ownBlock)) (by (with_reducible repeat (first | apply Kd.R_alloc | apply Kd.R_drewN | apply Kd.R_drew)); exact HO_11.out) hg hat)).2.2) KL46.out ((Kd.R_reads' (Kd.R_after (ok := (fun k_ => some k_ ≠ (.slice (some ad548) x7_3.length co26 : Value).ownBlock)) (by (with_reducible repeat (first | apply Kd.R_alloc | apply Kd.R_drewN | apply Kd.R_drew)); exact HO_11.out) hg hat)).2.1))); have n6_ := Aside0.mk (ho); clear HO_7; clear HO_11; clear BK529; clear HB; clear HR554; clear HR565; clear HO561; have HO_7 := n0_; have HO_11 := n1_; have BK529 := n2_; have HB := n3_; have HR554 := n4_; have HR565 := n5_; have HO568 := n6_; clear n0_ n1_ n2_ n3_ n4_ n5_ n6_; clear ho hb hg hat)); try go_wp2_with (first | ((with_reducible refine gate_builtin (b := .append) (xs := #[.tmp 115, .tmp 118]) rfl ?_); at_builtin; refine Kd.R_append_rows (Kd.int .i64) (w0 := w) w.heap.size rfl (.tmp 115) (.tmp 118) 105 3 (.int .i64 0) 8 rfl Try.underlying105 info3 rfl (by decide) (by omega) (.slice none 0 0) ([] : List Int) y551 _ _ _ (fun k_ => some k_ ≠ (.slice (some ad548) x7_3.length co26 : Value).ownBlock ∧ some k_ ≠ (.slice (some ad547) x11_4.length co42 : Value).ownBlock) (fun _ => False) rfl rfl ?aO ?aR (fun _ _ h => h) (fun _ h => h.elim) ?aF ?aB ?aS ?aL ?_; (case aR => repeat (first | exact (by repeat (first | (with_reducible exact HR554.out) | (with_reducible refine Kd.C_alloc ?_ _) | (with_reducible refine Kd.C_drewN ?_ _) | (with_reducible refine Kd.C_drew ?_) | exact HR554.out)) | (with_reducible refine Kd.C_alloc ?_ _) | (with_reducible refine Kd.C_drewN ?_ _) | (with_reducible refine Kd.C_drew ?_))); (case aB => exact (by repeat (first | (with_reducible first | exact HB.out | apply below_alloc | apply pw_below_drewN | apply below_drew1 | refine below_set ?_ GE529.out) | exact HB.out))); (case aF => exact (fun k_ hk => ⟨Kd.fresh' (Kd.R_lt (by (with_reducible repeat (first | apply Kd.R_alloc | apply Kd.R_drewN | apply Kd.R_drew)); exact HO_7.out)) k_ hk, Kd.fresh' (Kd.R_lt (by (with_reducible repeat (first | apply Kd.R_alloc | apply Kd.R_drewN | apply Kd.R_drew)); exact HO_11.out)) k_ hk⟩)); (case aO => exact ((Kd.R_nil _ _ _ _ (fun k_ => some k_ ≠ (.slice (some ad548) x7_3.length co26 : Value).ownBlock ∧ some k_ ≠ (.slice (some ad547) x11_4.length co42 : Value).ownBlock)))); (case aS => exact (below_size (by repeat (first | (with_reducible first | exact HB.out | apply below_alloc | apply pw_below_drewN | apply below_drew1 | refine below_set ?_ GE529.out) | exact HB.out)))); (case aL => have := LMc37.out; omega); intro v556 w44 ho hb hg hat; rw [← Ny555.out] at ho; have n0_ := Aside0.mk (Kd.R_after (Kd.R_apart_nil (by (with_reducible repeat (first | apply Kd.R_alloc | apply Kd.R_drewN | apply Kd.R_drew)); exact HO_7.out)) hg hat); have n1_ := Aside0.mk (Kd.R_after (Kd.R_apart_nil (by (with_reducible repeat (first | apply Kd.R_alloc | apply Kd.R_drewN | apply Kd.R_drew)); exact HO_11.out)) hg hat); have n2_ := Aside0.mk (blk_grown (g := gb529) (o := .cells #[.slice A0_0 l0_0.length c0_0, .slice A0_1 l0_1.length c0_1, .slice A0_2 l0_2.length c0_2, .int .i64 a0_3] 41 (0, 0)) (by (with_reducible repeat (first | refine blk_drewN ?_ _ | refine blk_drew ?_ | refine blk_alloc ?_ _)); exact BK529.out) hg (by simp [Value.ownBlock])); have n3_ := Aside0.mk (hb); have n4_ := Aside0.mk ((show Kd.C (Kd.int .i64) w44 (some ad547) y551.length y551 from by rw [Ny551.out]; exact Kd.C_take (m := (x13_5 : Int).toNat) ((Kd.R_reads' (Kd.R_after (Kd.R_apart_nil (by (with_reducible repeat (first | apply Kd.R_alloc | apply Kd.R_drewN | apply Kd.R_drew)); exact HO_11.out)) hg hat)).2.2) KL43.out)); have n5_ := Aside0.mk (ho); clear HO_7; clear HO_11; clear BK529; clear HB; clear HR554; have HO_7 := n0_; have HO_11 := n1_; have BK529 := n2_; have HB := n3_; have HR554 := n4_; have HO557 := n5_; clear n0_ n1_ n2_ n3_ n4_ n5_; clear ho hb hg hat; have p558 : 0 ≤ (x12_4 : Int) := of_decide_eq_true (by first | (with_reducible assumption) | assumption); have q558 : x12_4 < (x7_3.length : Int) := of_decide_eq_true (by first | (with_reducible assumption) | assumption); obtain ⟨ad558, e558, hx558_0⟩ := Kd.at_int (Kd.R_reads' HO_7.out).2.2 x12_4 p558 q558; obtain rfl : ad548 = ad558 := (by injection e558); replace p558 := eq_true p558; replace q558 := eq_true q558) | ((with_reducible refine gate_builtin (b := .append) (xs := #[.tmp 120, .tmp 125]) rfl ?_); at_builtin; refine Kd.R_append (Kd.int .i64) (w0 := w) w.heap.size rfl (.tmp 120) (.tmp 125) 105 3 (.int .i64 0) 8 rfl Try.underlying105 info3 rfl (by decide) (by omega) v556 y555 (rd x7_3 x12_4) [.int .i64 (rd x7_3 x12_4)] (fun k_ => some k_ ≠ (.slice (some ad548) x7_3.length co26 : Value).ownBlock ∧ some k_ ≠ (.slice (some ad547) x11_4.length co42 : Value).ownBlock) (fun _ => False) rfl rfl ?aP (fun _ hk => hk.elim) ?aF ?aO ?aB ?aS ?aL ?_; (case aP => exact rfl); (case aB => exact (by repeat (first | (with_reducible first | exact HB.out | apply below_alloc | apply pw_below_drewN | apply below_drew1 | refine below_set ?_ GE529.out) | exact HB.out))); (case aF => exact (fun k_ hk => ⟨Kd.fresh' (Kd.R_lt (by (with_reducible repeat (first | apply Kd.R_alloc | apply Kd.R_drewN | apply Kd.R_drew)); exact HO_7.out)) k_ hk, Kd.fresh' (Kd.R_lt (by (with_reducible repeat (first | apply Kd.R_alloc | apply Kd.R_drewN | apply Kd.R_drew)); exact HO_11.out)) k_ hk⟩)); (case aO => exact (by (with_reducible repeat (first | apply Kd.R_alloc | apply Kd.R_drewN | apply Kd.R_drew)); exact HO557.out)); (case aS => exact (below_size (by repeat (first | (with_reducible first | exact HB.out | apply below_alloc | apply pw_below_drewN | apply below_drew1 | refine below_set ?_ GE529.out) | exact HB.out)))); (case aL => have := LMc38.out; omega); intro v560 w45 ho hb hg hat; rw [← Ny559.out] at ho; have n0_ := Aside0.mk (Kd.R_after (ok := (fun k_ => some k_ ≠ (.slice (some ad547) x11_4.length co42 : Value).ownBlock)) (by (with_reducible repeat (first | apply Kd.R_alloc | apply Kd.R_drewN | apply Kd.R_drew)); exact HO_7.out) hg hat); have n1_ := Aside0.mk (Kd.R_after (ok := (fun k_ => some k_ ≠ (.slice (some ad548) x7_3.length co26 : Value).ownBlock)) (by (with_reducible repeat (first | apply Kd.R_alloc | apply Kd.R_drewN | apply Kd.R_drew)); exact HO_11.out) hg hat); have n2_ := Aside0.mk (blk_grown (g := gb529) (o := .cells #[.slice A0_0 l0_0.length c0_0, .slice A0_1 l0_1.length c0_1, .slice A0_2 l0_2.length c0_2, .int .i64 a0_3] 41 (0, 0)) (by (with_reducible repeat (first | refine blk_drewN ?_ _ | refine blk_drew ?_ | refine blk_alloc ?_ _)); exact BK529.out) hg (Kd.R_ne HO557.out BK529.out (by decide))); have n3_ := Aside0.mk (hb); have n4_ := Aside0.mk ((show Kd.C (Kd.int .i64) w45 (some ad547) y551.length y551 from by rw [Ny551.out]; exact Kd.C_take (m := (x13_5 : Int).toNat) ((Kd.R_reads' (Kd.R_after (ok := (fun k_ => some k_ ≠ (.slice (some ad548) x7_3.length co26 : Value).ownBlock)) (by (with_reducible repeat (first | apply Kd.R_alloc | apply Kd.R_drewN | apply Kd.R_drew)); exact HO_11.out) hg hat)).2.2) KL43.out)); have n5_ := Aside0.mk (ho); clear HO_7; clear HO_11; clear BK529; clear HB; clear HR554; clear HO557; have HO_7 := n0_; have HO_11 := n1_; have BK529 := n2_; have HB := n3_; have HR554 := n4_; have HO561 := n5_; clear n0_ n1_ n2_ n3_ n4_ n5_; clear ho hb hg hat; have q46 : (x13_5 : Int) ≤ ((x11_4.length : Int) : Int) := of_decide_eq_true (by first | (with_reducible assumption) | assumption); obtain ⟨i046, hi046, _, hsz46, _⟩ := info_parts info3; have hroom46 : x11_4.length ≤ co42 := (Kd.R_reads' HO_11.out).2.1; have hC46 : Kd.C (Kd.int .i64) _ (some ad547) x11_4.length x11_4 := (Kd.R_reads' HO_11.out).2.2; have q046 : (0 : Int) ≤ (x13_5 : Int) := of_decide_eq_true (by first | (with_reducible assumption) | assumption); have hcut46 := cut_from (P := Try.prog) 105 3 .i64 Try.underlying105 hi046 1 hsz46 (some ad547) x11_4.length co42 x13_5 q046 q46; have hr46 := Kd.C_drop (m := (x13_5 : Int).toNat) (c := co42) hC46 (by omega) hroom46; obtain ⟨A46, hA46⟩ : ∃ A1, A1 = (if co42 = (x13_5 : Int).toNat then (some ad547) else ((some ad547) : Option Addr).map (·.add ((x13_5 : Int).toNat * 1))) := ⟨_, rfl⟩; obtain ⟨c46, hc46⟩ : ∃ c1, c1 = co42 - (x13_5 : Int).toNat := ⟨_, rfl⟩; have hy46 : y562.length = x11_4.length - (x13_5 : Int).toNat := (by rw [Ny562.out, List.length_drop] <;> omega); rw [show (x11_4).drop (x13_5 : Int).toNat = y562 from Ny562.out.symm] at hr46; replace hr46 : Kd.C (Kd.int .i64) _ A46 y562.length y562 := (by rw [hA46]; exact hr46); rw [← hy46, ← hA46, ← hc46] at hcut46; have HR565 := Aside0.mk hr46; have HC565 := Aside0.mk (show y562.length ≤ c46 from by rw [hy46, hc46]; exact Nat.sub_le_sub_right hroom46 _); clear hr46 hC46 hroom46 hi046 hsz46 hc46; have KY46 := Aside0.mk hy46; have KA46 := Aside0.mk hA46; clear hy46 hA46; have KL46 := Aside0.mk (show (x13_5 : Int).toNat ≤ x11_4.length from by omega); replace q46 := eq_true q46) | ((with_reducible refine gate_builtin (b := .append) (xs := #[.tmp 127, .tmp 130]) rfl ?_); at_builtin; refine Kd.R_append_rows (Kd.int .i64) (w0 := w) w.heap.size rfl (.tmp 127) (.tmp 130) 105 3 (.int .i64 0) 8 rfl Try.underlying105 info3 rfl (by decide) (by omega) v560 y559 y562 _ _ _ (fun k_ => some k_ ≠ (.slice (some ad548) x7_3.length co26 : Value).ownBlock ∧ some k_ ≠ (.slice (some ad547) x11_4.length co42 : Value).ownBlock) (fun _ => False) rfl rfl ?aO ?aR (fun _ _ h => h) (fun _ h => h.elim) ?aF ?aB ?aS ?aL ?_; (case aR => repeat (first | exact (by repeat (first | (with_reducible exact HR565.out) | (with_reducible refine Kd.C_alloc ?_ _) | (with_reducible refine Kd.C_drewN ?_ _) | (with_reducible refine Kd.C_drew ?_) | exact HR565.out)) | (with_reducible refine Kd.C_alloc ?_ _) | (with_reducible refine Kd.C_drewN ?_ _) | (with_reducible refine Kd.C_drew ?_))); (case aB => exact (by repeat (first | (with_reducible first | exact HB.out | apply below_alloc | apply pw_below_drewN | apply below_drew1 | refine below_set ?_ GE529.out) | exact HB.out))); (case aF => exact (fun k_ hk => ⟨Kd.fresh' (Kd.R_lt (by (with_reducible repeat (first | apply Kd.R_alloc | apply Kd.R_drewN | apply Kd.R_drew)); exact HO_7.out)) k_ hk, Kd.fresh' (Kd.R_lt (by (with_reducible repeat (first | apply Kd.R_alloc | apply Kd.R_drewN | apply Kd.R_drew)); exact HO_11.out)) k_ hk⟩)); (case aO => exact (by (with_reducible repeat (first | apply Kd.R_alloc | apply Kd.R_drewN | apply Kd.R_drew)); exact HO561.out)); (case aS => exact (below_size (by repeat (first | (with_reducible first | exact HB.out | apply below_alloc | apply pw_below_drewN | apply below_drew1 | refine below_set ?_ GE529.out) | exact HB.out)))); (case aL => have := LMc41.out; omega); intro v567 w47 ho hb hg hat; rw [← Ny566.out] at ho; have n0_ := Aside0.mk (Kd.R_after (ok := (fun k_ => some k_ ≠ (.slice (some ad547) x11_4.length co42 : Value).ownBlock)) (by (with_reducible repeat (first | apply Kd.R_alloc | apply Kd.R_drewN | apply Kd.R_drew)); exact HO_7.out) hg hat); have n1_ := Aside0.mk (Kd.R_after (ok := (fun k_ => some k_ ≠ (.slice (some ad548) x7_3.length co26 : Value).ownBlock)) (by (with_reducible repeat (first | apply Kd.R_alloc | apply Kd.R_drewN | apply Kd.R_drew)); exact HO_11.out) hg hat); have n2_ := Aside0.mk (blk_grown (g := gb529) (o := .cells #[.slice A0_0 l0_0.length c0_0, .slice A0_1 l0_1.length c0_1, .slice A0_2 l0_2.length c0_2, .int .i64 a0_3] 41 (0, 0)) (by (with_reducible repeat (first | refine blk_drewN ?_ _ | refine blk_drew ?_ | refine blk_alloc ?_ _)); exact BK529.out) hg (Kd.R_ne HO561.out BK529.out (by decide))); have n3_ := Aside0.mk (hb); have n4_ := Aside0.mk ((show Kd.C (Kd.int .i64) w47 (some ad547) y551.length y551 from by rw [Ny551.out]; exact Kd.C_take (m := (x13_5 : Int).toNat) ((Kd.R_reads' (Kd.R_after (ok := (fun k_ => some k_ ≠ (.slice (some ad548) x7_3.length co26 : Value).ownBlock)) (by (with_reducible repeat (first | apply Kd.R_alloc | apply Kd.R_drewN | apply Kd.R_drew)); exact HO_11.out) hg hat)).2.2) KL43.out)); have n5_ := Aside0.mk ((show Kd.C (Kd.int .i64) w47 A46 y562.length y562 from by rw [Ny562.out, KA46.out]; exact Kd.C_drop (m := (x13_5 : Int).toNat) (c := co42) ((Kd.R_reads' (Kd.R_after (ok := (fun k_ => some k_ ≠ (.slice (some ad548) x7_3.length co26 : Value).ownBlock)) (by (with_reducible repeat (first | apply Kd.R_alloc | apply Kd.R_drewN | apply Kd.R_drew)); exact HO_11.out) hg hat)).2.2) KL46.out ((Kd.R_reads' (Kd.R_after (ok := (fun k_ => some k_ ≠ (.slice (some ad548) x7_3.length co26 : Value).ownBlock)) (by (with_reducible repeat (first | apply Kd.R_alloc | apply Kd.R_drewN | apply Kd.R_drew)); exact HO_11.out) hg hat)).2.1))); have n6_ := Aside0.mk (ho); clear HO_7; clear HO_11; clear BK529; clear HB; clear HR554; clear HR565; clear HO561; have HO_7 := n0_; have HO_11 := n1_; have BK529 := n2_; have HB := n3_; have HR554 := n4_; have HR565 := n5_; have HO568 := n6_; clear n0_ n1_ n2_ n3_ n4_ n5_ n6_; clear ho hb hg hat)))
                                                  go_roundg k5
                                                  case measure => have := HK1.out; have := HK2.out; have := HK3.out; have := HK4.out; have := HK5.out; omega
                                                  case rel => exact ⟨(y566), (wrap64 (x12_4 + 1)), (by first | rfl | (simp; done) | (simp [*]; done)), H', ⟨by have := HK1.out; have := HK2.out; have := HK3.out; have := HK4.out; have := HK5.out; omega⟩, ⟨by (with_reducible repeat (first | apply Kd.R_alloc | apply Kd.R_drewN | apply Kd.R_drew)); exact Kd.R_mono HO_7.out (fun _ hk => hk.2)⟩, ⟨by (with_reducible repeat (first | apply Kd.R_alloc | apply Kd.R_drewN | apply Kd.R_drew)); exact Kd.R_mono HO568.out (fun _ hk => hk.1)⟩, ⟨by (with_reducible repeat (first | refine blk_drewN ?_ _ | refine blk_drew ?_ | refine blk_alloc ?_ _)); exact BK529.out⟩, ⟨by repeat (first | (with_reducible first | exact HB.out | apply below_alloc | apply pw_below_drewN | apply below_drew1 | refine below_set ?_ GE529.out) | exact HB.out)⟩⟩
                                                · rw [if_neg c41] at H
                                                  exact absurd H (by simp)
                                              · rw [if_neg c38] at H
                                                exact absurd H (by simp)
                                            · rw [if_neg c37] at H
                                              exact absurd H (by simp)
                                          · rw [if_neg c36] at H
                                            exact absurd H (by simp)
                                    · rw [if_neg c30] at H
                                      exact absurd H (by simp)
                                  · rw [if_neg c29] at H
                                    exact absurd H (by simp)
                                · rw [if_neg c28] at H
                                  exact absurd H (by simp)
                              · rw [if_neg c27] at H
                                have c27b0 : decide (x13_5 < (x11_4.length : Int)) = false := decide_eq_false c27
                                clear c27
                                by_cases c48 : 0 ≤ x13_5
                                · rw [if_pos c48] at H
                                  have c48b0 := eq_true c48
                                  have c48b1 : decide (0 ≤ x13_5) = true := decide_eq_true c48
                                  clear c48
                                  by_cases c49 : x13_5 ≤ (x11_4.length : Int)
                                  · rw [if_pos c49] at H
                                    have c49b0 := eq_true c49
                                    have c49b1 : decide (x13_5 ≤ (x11_4.length : Int)) = true := decide_eq_true c49
                                    clear c49
                                    obtain ⟨y569, hy569⟩ : ∃ y_ : List Int, y_ = (x11_4.take (x13_5 : Int).toNat) := ⟨_, rfl⟩
                                    replace H : (if ([] : List Int).length + y569.length < 17592186044416 then ((some (([] : List Int) ++ y569 : List Int)).bind fun y573 => (if 0 ≤ x12_4 then (if x12_4 < (x7_3.length : Int) then (if y573.length < 17592186044416 then ((some (y573 ++ [rd x7_3 x12_4] : List Int)).bind fun y577 => ((some (x11_4.drop (x13_5 : Int).toNat : List Int)).bind fun y580 => (if y577.length + y580.length < 17592186044416 then (quaysideref33_times.l3 k5 x7_3 (y577 ++ y580) (wrap64 (x12_4 + 1))) else (none)))) else (none)) else (none)) else (none))) else (none)) = some r := by first | (rw [hy569]; with_reducible exact H) | (have H2_ := (Option.bind_some _ _).symm.trans H; rw [hy569]; with_reducible exact H2_) | (have H2_ := (Option.bind_some _ _).symm.trans H; with_reducible exact H2_) | with_reducible exact H | (rw [hy569]; exact H) | exact H
                                    have Ny569 := Aside0.mk hy569
                                    clear hy569
                                    by_cases c50 : ([] : List Int).length + y569.length < 17592186044416
                                    · rw [if_pos c50] at H
                                      have LMc50 := Aside0.mk c50
                                      clear c50
                                      obtain ⟨y573, hy573⟩ : ∃ y_ : List Int, y_ = (([] : List Int) ++ y569) := ⟨_, rfl⟩
                                      replace H : (if 0 ≤ x12_4 then (if x12_4 < (x7_3.length : Int) then (if y573.length < 17592186044416 then ((some (y573 ++ [rd x7_3 x12_4] : List Int)).bind fun y577 => ((some (x11_4.drop (x13_5 : Int).toNat : List Int)).bind fun y580 => (if y577.length + y580.length < 17592186044416 then (quaysideref33_times.l3 k5 x7_3 (y577 ++ y580) (wrap64 (x12_4 + 1))) else (none)))) else (none)) else (none)) else (none)) = some r := by first | (rw [hy573]; with_reducible exact H) | (have H2_ := (Option.bind_some _ _).symm.trans H; rw [hy573]; with_reducible exact H2_) | (have H2_ := (Option.bind_some _ _).symm.trans H; with_reducible exact H2_) | with_reducible exact H | (rw [hy573]; exact H) | exact H
                                      have Ny573 := Aside0.mk hy573
                                      clear hy573
                                      by_cases c51 : 0 ≤ x12_4
                                      · rw [if_pos c51] at H
                                        have c51b0 : decide (0 ≤ x12_4) = true := decide_eq_true c51
                                        clear c51
                                        by_cases c52 : x12_4 < (x7_3.length : Int)
                                        · rw [if_pos c52] at H
                                          have c52b0 : decide (x12_4 < (x7_3.length : Int)) = true := decide_eq_true c52
                                          clear c52
                                          by_cases c53 : y573.length < 17592186044416
                                          · rw [if_pos c53] at H
                                            have LMc53 := Aside0.mk c53
                                            clear c53
                                            obtain ⟨y577, hy577⟩ : ∃ y_ : List Int, y_ = (y573 ++ [rd x7_3 x12_4]) := ⟨_, rfl⟩
                                            replace H : ((some (x11_4.drop (x13_5 : Int).toNat : List Int)).bind fun y580 => (if y577.length + y580.length < 17592186044416 then (quaysideref33_times.l3 k5 x7_3 (y577 ++ y580) (wrap64 (x12_4 + 1))) else (none))) = some r := by first | (rw [hy577]; with_reducible exact H) | (have H2_ := (Option.bind_some _ _).symm.trans H; rw [hy577]; with_reducible exact H2_) | (have H2_ := (Option.bind_some _ _).symm.trans H; with_reducible exact H2_) | with_reducible exact H | (rw [hy577]; exact H) | exact H
                                            have Ny577 := Aside0.mk hy577
                                            clear hy577
                                            have c54b0 := eq_true (of_decide_eq_true (by first | (with_reducible assumption) | assumption) : 0 ≤ x13_5)
                                            have c55b0 := eq_true (of_decide_eq_true (by first | (with_reducible assumption) | assumption) : x13_5 ≤ (x11_4.length : Int))
                                            obtain ⟨y580, hy580⟩ : ∃ y_ : List Int, y_ = (x11_4.drop (x13_5 : Int).toNat) := ⟨_, rfl⟩
                                            replace H : (if y577.length + y580.length < 17592186044416 then (quaysideref33_times.l3 k5 x7_3 (y577 ++ y580) (wrap64 (x12_4 + 1))) else (none)) = some r := by first | (rw [hy580]; with_reducible exact H) | (have H2_ := (Option.bind_some _ _).symm.trans H; rw [hy580]; with_reducible exact H2_) | (have H2_ := (Option.bind_some _ _).symm.trans H; with_reducible exact H2_) | with_reducible exact H | (rw [hy580]; exact H) | exact H
                                            have Ny580 := Aside0.mk hy580
                                            clear hy580
                                            by_cases c56 : y577.length + y580.length < 17592186044416
                                            · rw [if_pos c56] at H
                                              have LMc56 := Aside0.mk c56
                                              clear c56
                                              obtain ⟨y584, hy584⟩ : ∃ y_ : List Int, y_ = (y577 ++ y580) := ⟨_, rfl⟩
                                              replace H : (quaysideref33_times.l3 k5 x7_3 y584 (wrap64 (x12_4 + 1))) = some r := by first | (rw [hy584]; with_reducible exact H) | (have H2_ := (Option.bind_some _ _).symm.trans H; rw [hy584]; with_reducible exact H2_) | (have H2_ := (Option.bind_some _ _).symm.trans H; with_reducible exact H2_) | with_reducible exact H | (rw [hy584]; exact H) | exact H
                                              have Ny584 := Aside0.mk hy584
                                              clear hy584
                                              have H' := Aside0.mk H
                                              clear H
                                              obtain ⟨Ao57, co57, eo57⟩ := Kd.R_slice HO_11.out
                                              subst eo57
                                              have q58 : (x13_5 : Int) ≤ ((x11_4.length : Int) : Int) := of_decide_eq_true (by first | (with_reducible assumption) | assumption)
                                              obtain ⟨i058, hi058, _, hsz58, _⟩ := info_parts info3
                                              have hroom58 : x11_4.length ≤ co57 := (Kd.R_reads' HO_11.out).2.1
                                              have hC58 : Kd.C (Kd.int .i64) _ Ao57 x11_4.length x11_4 := (Kd.R_reads' HO_11.out).2.2
                                              have hcut58 := cut_to (P := Try.prog) 105 3 .i64 Try.underlying105 hi058 Ao57 x11_4.length co57 x13_5 (of_decide_eq_true (by first | (with_reducible assumption) | assumption)) q58 hroom58
                                              have hr58 := Kd.C_take (m := (x13_5 : Int).toNat) hC58 (by omega)
                                              have hy58 : y569.length = (x13_5 : Int).toNat := (by rw [Ny569.out, List.length_take]; omega)
                                              rw [← Ny569.out] at hr58
                                              rw [← hy58] at hcut58
                                              have HR572 := Aside0.mk hr58
                                              have HC572 := Aside0.mk (show y569.length ≤ co57 from by omega)
                                              clear hr58 hC58 hroom58 hi058 hsz58
                                              have KY58 := Aside0.mk hy58
                                              clear hy58
                                              have KL58 := Aside0.mk (show (x13_5 : Int).toNat ≤ x11_4.length from by omega)
                                              replace q58 := eq_true q58
                                              go_wp2_with (first | ((with_reducible refine gate_builtin (b := .append) (xs := #[.tmp 115, .tmp 118]) rfl ?_); at_builtin; refine Kd.R_append_rows (Kd.int .i64) (w0 := w) w.heap.size rfl (.tmp 115) (.tmp 118) 105 3 (.int .i64 0) 8 rfl Try.underlying105 info3 rfl (by decide) (by omega) (.slice none 0 0) ([] : List Int) y569 _ _ _ (fun k_ => some k_ ≠ (.slice Ao26 x7_3.length co26 : Value).ownBlock ∧ some k_ ≠ (.slice Ao57 x11_4.length co57 : Value).ownBlock) (fun _ => False) rfl rfl ?aO ?aR (fun _ _ h => h) (fun _ h => h.elim) ?aF ?aB ?aS ?aL ?_; (case aR => repeat (first | exact (by repeat (first | (with_reducible exact HR572.out) | (with_reducible refine Kd.C_alloc ?_ _) | (with_reducible refine Kd.C_drewN ?_ _) | (with_reducible refine Kd.C_drew ?_) | exact HR572.out)) | (with_reducible refine Kd.C_alloc ?_ _) | (with_reducible refine Kd.C_drewN ?_ _) | (with_reducible refine Kd.C_drew ?_))); (case aB => exact (by repeat (first | (with_reducible first | exact HB.out | apply below_alloc | apply pw_below_drewN | apply below_drew1 | refine below_set ?_ GE529.out) | exact HB.out))); (case aF => exact (fun k_ hk => ⟨Kd.fresh' (Kd.R_lt (by (with_reducible repeat (first | apply Kd.R_alloc | apply Kd.R_drewN | apply Kd.R_drew)); exact HO_7.out)) k_ hk, Kd.fresh' (Kd.R_lt (by (with_reducible repeat (first | apply Kd.R_alloc | apply Kd.R_drewN | apply Kd.R_drew)); exact HO_11.out)) k_ hk⟩)); (case aO => exact ((Kd.R_nil _ _ _ _ (fun k_ => some k_ ≠ (.slice Ao26 x7_3.length co26 : Value).ownBlock ∧ some k_ ≠ (.slice Ao57 x11_4.length co57 : Value).ownBlock)))); (case aS => exact (below_size (by repeat (first | (with_reducible first | exact HB.out | apply below_alloc | apply pw_below_drewN | apply below_drew1 | refine below_set ?_ GE529.out) | exact HB.out)))); (case aL => have := LMc50.out; omega); intro v574 w59 ho hb hg hat; rw [← Ny573.out] at ho; have n0_ := Aside0.mk (Kd.R_after (Kd.R_apart_nil (by (with_reducible repeat (first | apply Kd.R_alloc | apply Kd.R_drewN | apply Kd.R_drew)); exact HO_7.out)) hg hat); have n1_ := Aside0.mk (Kd.R_after (Kd.R_apart_nil (by (with_reducible repeat (first | apply Kd.R_alloc | apply Kd.R_drewN | apply Kd.R_drew)); exact HO_11.out)) hg hat); have n2_ := Aside0.mk (blk_grown (g := gb529) (o := .cells #[.slice A0_0 l0_0.length c0_0, .slice A0_1 l0_1.length c0_1, .slice A0_2 l0_2.length c0_2, .int .i64 a0_3] 41 (0, 0)) (by (with_reducible repeat (first | refine blk_drewN ?_ _ | refine blk_drew ?_ | refine blk_alloc ?_ _)); exact BK529.out) hg (by simp [Value.ownBlock])); have n3_ := Aside0.mk (hb); have n4_ := Aside0.mk ((show Kd.C (Kd.int .i64) w59 Ao57 y569.length y569 from by rw [Ny569.out]; exact Kd.C_take (m := (x13_5 : Int).toNat) ((Kd.R_reads' (Kd.R_after (Kd.R_apart_nil (by (with_reducible repeat (first | apply Kd.R_alloc | apply Kd.R_drewN | apply Kd.R_drew)); exact HO_11.out)) hg hat)).2.2) KL58.out)); have n5_ := Aside0.mk (ho); clear HO_7; clear HO_11; clear BK529; clear HB; clear HR572; have HO_7 := n0_; have HO_11 := n1_; have BK529 := n2_; have HB := n3_; have HR572 := n4_; have HO575 := n5_; clear n0_ n1_ n2_ n3_ n4_ n5_; clear ho hb hg hat; have p576 : 0 ≤ (x12_4 : Int) := of_decide_eq_true (by first | (with_reducible assumption) | assumption); have q576 : x12_4 < (x7_3.length : Int) := of_decide_eq_true (by first | (with_reducible assumption) | assumption); obtain ⟨ad576, e576, hx576_0⟩ := Kd.at_int (Kd.R_reads' HO_7.out).2.2 x12_4 p576 q576; cases e576; replace p576 := eq_true p576; replace q576 := eq_true q576) | ((with_reducible refine gate_builtin (b := .append) (xs := #[.tmp 120, .tmp 125]) rfl ?_); at_builtin; refine Kd.R_append (Kd.int .i64) (w0 := w) w.heap.size rfl (.tmp 120) (.tmp 125) 105 3 (.int .i64 0) 8 rfl Try.underlying105 info3 rfl (by decide) (by omega) v574 y573 (rd x7_3 x12_4) [.int .i64 (rd x7_3 x12_4)] (fun k_ => some k_ ≠ (.slice (some ad576) x7_3.length co26 : Value).ownBlock ∧ some k_ ≠ (.slice Ao57 x11_4.length co57 : Value).ownBlock) (fun _ => False) rfl rfl ?aP (fun _ hk => hk.elim) ?aF ?aO ?aB ?aS ?aL ?_; (case aP => exact rfl); (case aB => exact (by repeat (first | (with_reducible first | exact HB.out | apply below_alloc | apply pw_below_drewN | apply below_drew1 | refine below_set ?_ GE529.out) | exact HB.out))); (case aF => exact (fun k_ hk => ⟨Kd.fresh' (Kd.R_lt (by (with_reducible repeat (first | apply Kd.R_alloc | apply Kd.R_drewN | apply Kd.R_drew)); exact HO_7.out)) k_ hk, Kd.fresh' (Kd.R_lt (by (with_reducible repeat (first | apply Kd.R_alloc | apply Kd.R_drewN | apply Kd.R_drew)); exact HO_11.out)) k_ hk⟩)); (case aO => exact (by (with_reducible repeat (first | apply Kd.R_alloc | apply Kd.R_drewN | apply Kd.R_drew)); exact HO575.out)); (case aS => exact (below_size (by repeat (first | (with_reducible first | exact HB.out | apply below_alloc | apply pw_below_drewN | apply below_drew1 | refine below_set ?_ GE529.out) | exact HB.out)))); (case aL => have := LMc53.out; omega); intro v578 w60 ho hb hg hat; rw [← Ny577.out] at ho; have n0_ := Aside0.mk (Kd.R_after (ok := (fun k_ => some k_ ≠ (.slice Ao57 x11_4.length co57 : Value).ownBlock)) (by (with_reducible repeat (first | apply Kd.R_alloc | apply Kd.R_drewN | apply Kd.R_drew)); exact HO_7.out) hg hat); have n1_ := Aside0.mk (Kd.R_after (ok := (fun k_ => some k_ ≠ (.slice (some ad576) x7_3.length co26 : Value).ownBlock)) (by (with_reducible repeat (first | apply Kd.R_alloc | apply Kd.R_drewN | apply Kd.R_drew)); exact HO_11.out) hg hat); have n2_ := Aside0.mk (blk_grown (g := gb529) (o := .cells #[.slice A0_0 l0_0.length c0_0, .slice A0_1 l0_1.length c0_1, .slice A0_2 l0_2.length c0_2, .int .i64 a0_3] 41 (0, 0)) (by (with_reducible repeat (first | refine blk_drewN ?_ _ | refine blk_drew ?_ | refine blk_alloc ?_ _)); exact BK529.out) hg (Kd.R_ne HO575.out BK529.out (by decide))); have n3_ := Aside0.mk (hb); have n4_ := Aside0.mk ((show Kd.C (Kd.int .i64) w60 Ao57 y569.length y569 from by rw [Ny569.out]; exact Kd.C_take (m := (x13_5 : Int).toNat) ((Kd.R_reads' (Kd.R_after (ok := (fun k_ => some k_ ≠ (.slice (some ad576) x7_3.length co26 : Value).ownBlock)) (by (with_reducible repeat (first | apply Kd.R_alloc | apply Kd.R_drewN | apply Kd.R_drew)); exact HO_11.out) hg hat)).2.2) KL58.out)); have n5_ := Aside0.mk (ho); clear HO_7; clear HO_11; clear BK529; clear HB; clear HR572; clear HO575; have HO_7 := n0_; have HO_11 := n1_; have BK529 := n2_; have HB := n3_; have HR572 := n4_; have HO579 := n5_; clear n0_ n1_ n2_ n3_ n4_ n5_; clear ho hb hg hat; have q61 : (x13_5 : Int) ≤ ((x11_4.length : Int) : Int) := of_decide_eq_true (by first | (with_reducible assumption) | assumption); obtain ⟨i061, hi061, _, hsz61, _⟩ := info_parts info3; have hroom61 : x11_4.length ≤ co57 := (Kd.R_reads' HO_11.out).2.1; have hC61 : Kd.C (Kd.int .i64) _ Ao57 x11_4.length x11_4 := (Kd.R_reads' HO_11.out).2.2; have q061 : (0 : Int) ≤ (x13_5 : Int) := of_decide_eq_true (by first | (with_reducible assumption) | assumption); have hcut61 := cut_from (P := Try.prog) 105 3 .i64 Try.underlying105 hi061 1 hsz61 Ao57 x11_4.length co57 x13_5 q061 q61; have hr61 := Kd.C_drop (m := (x13_5 : Int).toNat) (c := co57) hC61 (by omega) hroom61; obtain ⟨A61, hA61⟩ : ∃ A1, A1 = (if co57 = (x13_5 : Int).toNat then Ao57 else (Ao57 : Option Addr).map (·.add ((x13_5 : Int).toNat * 1))) := ⟨_, rfl⟩; obtain ⟨c61, hc61⟩ : ∃ c1, c1 = co57 - (x13_5 : Int).toNat := ⟨_, rfl⟩; have hy61 : y580.length = x11_4.length - (x13_5 : Int).toNat := (by rw [Ny580.out, List.length_drop] <;> omega); rw [show (x11_4).drop (x13_5 : Int).toNat = y580 from Ny580.out.symm] at hr61; replace hr61 : Kd.C (Kd.int .i64) _ A61 y580.length y580 := (by rw [hA61]; exact hr61); rw [← hy61, ← hA61, ← hc61] at hcut61; have HR583 := Aside0.mk hr61; have HC583 := Aside0.mk (show y580.length ≤ c61 from by rw [hy61, hc61]; exact Nat.sub_le_sub_right hroom61 _); clear hr61 hC61 hroom61 hi061 hsz61 hc61; have KY61 := Aside0.mk hy61; have KA61 := Aside0.mk hA61; clear hy61 hA61; have KL61 := Aside0.mk (show (x13_5 : Int).toNat ≤ x11_4.length from by omega); replace q61 := eq_true q61) | ((with_reducible refine gate_builtin (b := .append) (xs := #[.tmp 127, .tmp 130]) rfl ?_); at_builtin; refine Kd.R_append_rows (Kd.int .i64) (w0 := w) w.heap.size rfl (.tmp 127) (.tmp 130) 105 3 (.int .i64 0) 8 rfl Try.underlying105 info3 rfl (by decide) (by omega) v578 y577 y580 _ _ _ (fun k_ => some k_ ≠ (.slice (some ad576) x7_3.length co26 : Value).ownBlock ∧ some k_ ≠ (.slice Ao57 x11_4.length co57 : Value).ownBlock) (fun _ => False) rfl rfl ?aO ?aR (fun _ _ h => h) (fun _ h => h.elim) ?aF ?aB ?aS ?aL ?_; (case aR => repeat (first | exact (by repeat (first | (with_reducible exact HR583.out) | (with_reducible refine Kd.C_alloc ?_ _) | (with_reducible refine Kd.C_drewN ?_ _) | (with_reducible refine Kd.C_drew ?_) | exact HR583.out)) | (with_reducible refine Kd.C_alloc ?_ _) | (with_reducible refine Kd.C_drewN ?_ _) | (with_reducible refine Kd.C_drew ?_))); (case aB => exact (by repeat (first | (with_reducible first | exact HB.out | apply below_alloc | apply pw_below_drewN | apply below_drew1 | refine below_set ?_ GE529.out) | exact HB.out))); (case aF => exact (fun k_ hk => ⟨Kd.fresh' (Kd.R_lt (by (with_reducible repeat (first | apply Kd.R_alloc | apply Kd.R_drewN | apply Kd.R_drew)); exact HO_7.out)) k_ hk, Kd.fresh' (Kd.R_lt (by (with_reducible repeat (first | apply Kd.R_alloc | apply Kd.R_drewN | apply Kd.R_drew)); exact HO_11.out)) k_ hk⟩)); (case aO => exact (by (with_reducible repeat (first | apply Kd.R_alloc | apply Kd.R_drewN | apply Kd.R_drew)); exact HO579.out)); (case aS => exact (below_size (by repeat (first | (with_reducible first | exact HB.out | apply below_alloc | apply pw_below_drewN | apply below_drew1 | refine below_set ?_ GE529.out) | exact HB.out)))); (case aL => have := LMc56.out; omega); intro v585 w62 ho hb hg hat; rw [← Ny584.out] at ho; have n0_ := Aside0.mk (Kd.R_after (ok := (fun k_ => some k_ ≠ (.slice Ao57 x11_4.length co57 : Value).ownBlock)) (by (with_reducible repeat (first | apply Kd.R_alloc | apply Kd.R_drewN | apply Kd.R_drew)); exact HO_7.out) hg hat); have n1_ := Aside0.mk (Kd.R_after (ok := (fun k_ => some k_ ≠ (.slice (some ad576) x7_3.length co26 : Value).ownBlock)) (by (with_reducible repeat (first | apply Kd.R_alloc | apply Kd.R_drewN | apply Kd.R_drew)); exact HO_11.out) hg hat); have n2_ := Aside0.mk (blk_grown (g := gb529) (o := .cells #[.slice A0_0 l0_0.length c0_0, .slice A0_1 l0_1.length c0_1, .slice A0_2 l0_2.length c0_2, .int .i64 a0_3] 41 (0, 0)) (by (with_reducible repeat (first | refine blk_drewN ?_ _ | refine blk_drew ?_ | refine blk_alloc ?_ _)); exact BK529.out) hg (Kd.R_ne HO579.out BK529.out (by decide))); have n3_ := Aside0.mk (hb); have n4_ := Aside0.mk ((show Kd.C (Kd.int .i64) w62 Ao57 y569.length y569 from by rw [Ny569.out]; exact Kd.C_take (m := (x13_5 : Int).toNat) ((Kd.R_reads' (Kd.R_after (ok := (fun k_ => some k_ ≠ (.slice (some ad576) x7_3.length co26 : Value).ownBlock)) (by (with_reducible repeat (first | apply Kd.R_alloc | apply Kd.R_drewN | apply Kd.R_drew)); exact HO_11.out) hg hat)).2.2) KL58.out)); have n5_ := Aside0.mk ((show Kd.C (Kd.int .i64) w62 A61 y580.length y580 from by rw [Ny580.out, KA61.out]; exact Kd.C_drop (m := (x13_5 : Int).toNat) (c := co57) ((Kd.R_reads' (Kd.R_after (ok := (fun k_ => some k_ ≠ (.slice (some ad576) x7_3.length co26 : Value).ownBlock)) (by (with_reducible repeat (first | apply Kd.R_alloc | apply Kd.R_drewN | apply Kd.R_drew)); exact HO_11.out) hg hat)).2.2) KL61.out ((Kd.R_reads' (Kd.R_after (ok := (fun k_ => some k_ ≠ (.slice (some ad576) x7_3.length co26 : Value).ownBlock)) (by (with_reducible repeat (first | apply Kd.R_alloc | apply Kd.R_drewN | apply Kd.R_drew)); exact HO_11.out) hg hat)).2.1))); have n6_ := Aside0.mk (ho); clear HO_7; clear HO_11; clear BK529; clear HB; clear HR572; clear HR583; clear HO579; have HO_7 := n0_; have HO_11 := n1_; have BK529 := n2_; have HB := n3_; have HR572 := n4_; have HR583 := n5_; have HO586 := n6_; clear n0_ n1_ n2_ n3_ n4_ n5_ n6_; clear ho hb hg hat))
                                              repeat (go_quiet (first | ((with_reducible refine gate_builtin (b := .append) (xs := #[.tmp 115, .tmp 118]) rfl ?_); at_builtin; refine Kd.R_append_rows (Kd.int .i64) (w0 := w) w.heap.size rfl (.tmp 115) (.tmp 118) 105 3 (.int .i64 0) 8 rfl Try.underlying105 info3 rfl (by decide) (by omega) (.slice none 0 0) ([] : List Int) y569 _ _ _ (fun k_ => some k_ ≠ (.slice Ao26 x7_3.length co26 : Value).ownBlock ∧ some k_ ≠ (.slice Ao57 x11_4.length co57 : Value).ownBlock) (fun _ => False) rfl rfl ?aO ?aR (fun _ _ h => h) (fun _ h => h.elim) ?aF ?aB ?aS ?aL ?_; (case aR => repeat (first | exact (by repeat (first | (with_reducible exact HR572.out) | (with_reducible refine Kd.C_alloc ?_ _) | (with_reducible refine Kd.C_drewN ?_ _) | (with_reducible refine Kd.C_drew ?_) | exact HR572.out)) | (with_reducible refine Kd.C_alloc ?_ _) | (with_reducible refine Kd.C_drewN ?_ _) | (with_reducible refine Kd.C_drew ?_))); (case aB => exact (by repeat (first | (with_reducible first | exact HB.out | apply below_alloc | apply pw_below_drewN | apply below_drew1 | refine below_set ?_ GE529.out) | exact HB.out))); (case aF => exact (fun k_ hk => ⟨Kd.fresh' (Kd.R_lt (by (with_reducible repeat (first | apply Kd.R_alloc | apply Kd.R_drewN | apply Kd.R_drew)); exact HO_7.out)) k_ hk, Kd.fresh' (Kd.R_lt (by (with_reducible repeat (first | apply Kd.R_alloc | apply Kd.R_drewN | apply Kd.R_drew)); exact HO_11.out)) k_ hk⟩)); (case aO => exact ((Kd.R_nil _ _ _ _ (fun k_ => some k_ ≠ (.slice Ao26 x7_3.length co26 : Value).ownBlock ∧ some k_ ≠ (.slice Ao57 x11_4.length co57 : Value).ownBlock)))); (case aS => exact (below_size (by repeat (first | (with_reducible first | exact HB.out | apply below_alloc | apply pw_below_drewN | apply below_drew1 | refine below_set ?_ GE529.out) | exact HB.out)))); (case aL => have := LMc50.out; omega); intro v574 w59 ho hb hg hat; rw [← Ny573.out] at ho; have n0_ := Aside0.mk (Kd.R_after (Kd.R_apart_nil (by (with_reducible repeat (first | apply Kd.R_alloc | apply Kd.R_drewN | apply Kd.R_drew)); exact HO_7.out)) hg hat); have n1_ := Aside0.mk (Kd.R_after (Kd.R_apart_nil (by (with_reducible repeat (first | apply Kd.R_alloc | apply Kd.R_drewN | apply Kd.R_drew)); exact HO_11.out)) hg hat); have n2_ := Aside0.mk (blk_grown (g := gb529) (o := .cells #[.slice A0_0 l0_0.length c0_0, .slice A0_1 l0_1.length c0_1, .slice A0_2 l0_2.length c0_2, .int .i64 a0_3] 41 (0, 0)) (by (with_reducible repeat (first | refine blk_drewN ?_ _ | refine blk_drew ?_ | refine blk_alloc ?_ _)); exact BK529.out) hg (by simp [Value.ownBlock])); have n3_ := Aside0.mk (hb); have n4_ := Aside0.mk ((show Kd.C (Kd.int .i64) w59 Ao57 y569.length y569 from by rw [Ny569.out]; exact Kd.C_take (m := (x13_5 : Int).toNat) ((Kd.R_reads' (Kd.R_after (Kd.R_apart_nil (by (with_reducible repeat (first | apply Kd.R_alloc | apply Kd.R_drewN | apply Kd.R_drew)); exact HO_11.out)) hg hat)).2.2) KL58.out)); have n5_ := Aside0.mk (ho); clear HO_7; clear HO_11; clear BK529; clear HB; clear HR572; have HO_7 := n0_; have HO_11 := n1_; have BK529 := n2_; have HB := n3_; have HR572 := n4_; have HO575 := n5_; clear n0_ n1_ n2_ n3_ n4_ n5_; clear ho hb hg hat; have p576 : 0 ≤ (x12_4 : Int) := of_decide_eq_true (by first | (with_reducible assumption) | assumption); have q576 : x12_4 < (x7_3.length : Int) := of_decide_eq_true (by first | (with_reducible assumption) | assumption); obtain ⟨ad576, e576, hx576_0⟩ := Kd.at_int (Kd.R_reads' HO_7.out).2.2 x12_4 p576 q576; cases e576; replace p576 := eq_true p576; replace q576 := eq_true q576) | ((with_reducible refine gate_builtin (b := .append) (xs := #[.tmp 120, .tmp 125]) rfl ?_); at_builtin; refine Kd.R_append (Kd.int .i64) (w0 := w) w.heap.size rfl (.tmp 120) (.tmp 125) 105 3 (.int .i64 0) 8 rfl Try.underlying105 info3 rfl (by decide) (by omega) v574 y573 (rd x7_3 x12_4) [.int .i64 (rd x7_3 x12_4)] (fun k_ => some k_ ≠ (.slice (some ad576) x7_3.length co26 : Value).ownBlock ∧ some k_ ≠ (.slice Ao57 x11_4.length co57 : Value).ownBlock) (fun _ => False) rfl rfl ?aP (fun _ hk => hk.elim) ?aF ?aO ?aB ?aS ?aL ?_; (case aP => exact rfl); (case aB => exact (by repeat (first | (with_reducible first | exact HB.out | apply below_alloc | apply pw_below_drewN | apply below_drew1 | refine below_set ?_ GE529.out) | exact HB.out))); (case aF => exact (fun k_ hk => ⟨Kd.fresh' (Kd.R_lt (by (with_reducible repeat (first | apply Kd.R_alloc | apply Kd.R_drewN | apply Kd.R_drew)); exact HO_7.out)) k_ hk, Kd.fresh' (Kd.R_lt (by (with_reducible repeat (first | apply Kd.R_alloc | apply Kd.R_drewN | apply Kd.R_drew)); exact HO_11.out)) k_ hk⟩)); (case aO => exact (by (with_reducible repeat (first | apply Kd.R_alloc | apply Kd.R_drewN | apply Kd.R_drew)); exact HO575.out)); (case aS => exact (below_size (by repeat (first | (with_reducible first | exact HB.out | apply below_alloc | apply pw_below_drewN | apply below_drew1 | refine below_set ?_ GE529.out) | exact HB.out)))); (case aL => have := LMc53.out; omega); intro v578 w60 ho hb hg hat; rw [← Ny577.out] at ho; have n0_ := Aside0.mk (Kd.R_after (ok := (fun k_ => some k_ ≠ (.slice Ao57 x11_4.length co57 : Value).ownBlock)) (by (with_reducible repeat (first | apply Kd.R_alloc | apply Kd.R_drewN | apply Kd.R_drew)); exact HO_7.out) hg hat); have n1_ := Aside0.mk (Kd.R_after (ok := (fun k_ => some k_ ≠ (.slice (some ad576) x7_3.length co26 : Value).ownBlock)) (by (with_reducible repeat (first | apply Kd.R_alloc | apply Kd.R_drewN | apply Kd.R_drew)); exact HO_11.out) hg hat); have n2_ := Aside0.mk (blk_grown (g := gb529) (o := .cells #[.slice A0_0 l0_0.length c0_0, .slice A0_1 l0_1.length c0_1, .slice A0_2 l0_2.length c0_2, .int .i64 a0_3] 41 (0, 0)) (by (with_reducible repeat (first | refine blk_drewN ?_ _ | refine blk_drew ?_ | refine blk_alloc ?_ _)); exact BK529.out) hg (Kd.R_ne HO575.out BK529.out (by decide))); have n3_ := Aside0.mk (hb); have n4_ := Aside0.mk ((show Kd.C (Kd.int .i64) w60 Ao57 y569.length y569 from by rw [Ny569.out]; exact Kd.C_take (m := (x13_5 : Int).toNat) ((Kd.R_reads' (Kd.R_after (ok := (fun k_ => some k_ ≠ (.slice (some ad576) x7_3.length co26 : Value).ownBlock)) (by (with_reducible repeat (first | apply Kd.R_alloc | apply Kd.R_drewN | apply Kd.R_drew)); exact HO_11.out) hg hat)).2.2) KL58.out)); have n5_ := Aside0.mk (ho); clear HO_7; clear HO_11; clear BK529; clear HB; clear HR572; clear HO575; have HO_7 := n0_; have HO_11 := n1_; have BK529 := n2_; have HB := n3_; have HR572 := n4_; have HO579 := n5_; clear n0_ n1_ n2_ n3_ n4_ n5_; clear ho hb hg hat; have q61 : (x13_5 : Int) ≤ ((x11_4.length : Int) : Int) := of_decide_eq_true (by first | (with_reducible assumption) | assumption); obtain ⟨i061, hi061, _, hsz61, _⟩ := info_parts info3; have hroom61 : x11_4.length ≤ co57 := (Kd.R_reads' HO_11.out).2.1; have hC61 : Kd.C (Kd.int .i64) _ Ao57 x11_4.length x11_4 := (Kd.R_reads' HO_11.out).2.2; have q061 : (0 : Int) ≤ (x13_5 : Int) := of_decide_eq_true (by first | (with_reducible assumption) | assumption); have hcut61 := cut_from (P := Try.prog) 105 3 .i64 Try.underlying105 hi061 1 hsz61 Ao57 x11_4.length co57 x13_5 q061 q61; have hr61 := Kd.C_drop (m := (x13_5 : Int).toNat) (c := co57) hC61 (by omega) hroom61; obtain ⟨A61, hA61⟩ : ∃ A1, A1 = (if co57 = (x13_5 : Int).toNat then Ao57 else (Ao57 : Option Addr).map (·.add ((x13_5 : Int).toNat * 1))) := ⟨_, rfl⟩; obtain ⟨c61, hc61⟩ : ∃ c1, c1 = co57 - (x13_5 : Int).toNat := ⟨_, rfl⟩; have hy61 : y580.length = x11_4.length - (x13_5 : Int).toNat := (by rw [Ny580.out, List.length_drop] <;> omega); rw [show (x11_4).drop (x13_5 : Int).toNat = y580 from Ny580.out.symm] at hr61; replace hr61 : Kd.C (Kd.int .i64) _ A61 y580.length y580 := (by rw [hA61]; exact hr61); rw [← hy61, ← hA61, ← hc61] at hcut61; have HR583 := Aside0.mk hr61; have HC583 := Aside0.mk (show y580.length ≤ c61 from by rw [hy61, hc61]; exact Nat.sub_le_sub_right hroom61 _); clear hr61 hC61 hroom61 hi061 hsz61 hc61; have KY61 := Aside0.mk hy61; have KA61 := Aside0.mk hA61; clear hy61 hA61; have KL61 := Aside0.mk (show (x13_5 : Int).toNat ≤ x11_4.length from by omega); replace q61 := eq_true q61) | ((with_reducible refine gate_builtin (b := .append) (xs := #[.tmp 127, .tmp 130]) rfl ?_); at_builtin; refine Kd.R_append_rows (Kd.int .i64) (w0 := w) w.heap.size rfl (.tmp 127) (.tmp 130) 105 3 (.int .i64 0) 8 rfl Try.underlying105 info3 rfl (by decide) (by omega) v578 y577 y580 _ _ _ (fun k_ => some k_ ≠ (.slice (some ad576) x7_3.length co26 : Value).ownBlock ∧ some k_ ≠ (.slice Ao57 x11_4.length co57 : Value).ownBlock) (fun _ => False) rfl rfl ?aO ?aR (fun _ _ h => h) (fun _ h => h.elim) ?aF ?aB ?aS ?aL ?_; (case aR => repeat (first | exact (by repeat (first | (with_reducible exact HR583.out) | (with_reducible refine Kd.C_alloc ?_ _) | (with_reducible refine Kd.C_drewN ?_ _) | (with_reducible refine Kd.C_drew ?_) | exact HR583.out)) | (with_reducible refine Kd.C_alloc ?_ _) | (with_reducible refine Kd.C_drewN ?_ _) | (with_reducible refine Kd.C_drew ?_))); (case aB => exact (by repeat (first | (with_reducible first | exact HB.out | apply below_alloc | apply pw_below_drewN | apply below_drew1 | refine below_set ?_ GE529.out) | exact HB.out))); (case aF => exact (fun k_ hk => ⟨Kd.fresh' (Kd.R_lt (by (with_reducible repeat (first | apply Kd.R_alloc | apply Kd.R_drewN | apply Kd.R_drew)); exact HO_7.out)) k_ hk, Kd.fresh' (Kd.R_lt (by (with_reducible repeat (first | apply Kd.R_alloc | apply Kd.R_drewN | apply Kd.R_drew)); exact HO_11.out)) k_ hk⟩)); (case aO => exact (by (with_reducible repeat (first | apply Kd.R_alloc | apply Kd.R_drewN | apply Kd.R_drew)); exact HO579.out)); (case aS => exact (below_size (by repeat (first | (with_reducible first | exact HB.out | apply below_alloc | apply pw_below_drewN | apply below_drew1 | refine below_set ?_ GE529.out) | exact HB.out)))); (case aL => have := LMc56.out; omega); intro v585 w62 ho hb hg hat; rw [← Ny584.out] at ho; have n0_ := Aside0.mk (Kd.R_after (ok := (fun k_ => some k_ ≠ (.slice Ao57 x11_4.length co57 : Value).ownBlock)) (by (with_reducible repeat (first | apply Kd.R_alloc | apply Kd.R_drewN | apply Kd.R_drew)); exact HO_7.out) hg hat); have n1_ := Aside0.mk (Kd.R_after (ok := (fun k_ => some k_ ≠ (.slice (some ad576) x7_3.length co26 : Value).ownBlock)) (by (with_reducible repeat (first | apply Kd.R_alloc | apply Kd.R_drewN | apply Kd.R_drew)); exact HO_11.out) hg hat); have n2_ := Aside0.mk (blk_grown (g := gb529) (o := .cells #[.slice A0_0 l0_0.length c0_0, .slice A0_1 l0_1.length c0_1, .slice A0_2 l0_2.length c0_2, .int .i64 a0_3] 41 (0, 0)) (by (with_reducible repeat (first | refine blk_drewN ?_ _ | refine blk_drew ?_ | refine blk_alloc ?_ _)); exact BK529.out) hg (Kd.R_ne HO579.out BK529.out (by decide))); have n3_ := Aside0.mk (hb); have n4_ := Aside0.mk ((show Kd.C (Kd.int .i64) w62 Ao57 y569.length y569 from by rw [Ny569.out]; exact Kd.C_take (m := (x13_5 : Int).toNat) ((Kd.R_reads' (Kd.R_after (ok := (fun k_ => some k_ ≠ (.slice (some ad576) x7_3.length co26 : Value).ownBlock)) (by (with_reducible repeat (first | apply Kd.R_alloc | apply Kd.R_drewN | apply Kd.R_drew)); exact HO_11.out) hg hat)).2.2) KL58.out)); have n5_ := Aside0.mk ((show Kd.C (Kd.int .i64) w62 A61 y580.length y580 from by rw [Ny580.out, KA61.out]; exact Kd.C_drop (m := (x13_5 : Int).toNat) (c := co57) ((Kd.R_reads' (Kd.R_after (ok := (fun k_ => some k_ ≠ (.slice (some ad576) x7_3.length co26 : Value).ownBlock)) (by (with_reducible repeat (first | apply Kd.R_alloc | apply Kd.R_drewN | apply Kd.R_drew)); exact HO_11.out) hg hat)).2.2) KL61.out ((Kd.R_reads' (Kd.R_after (ok := (fun k_ => some k_ ≠ (.slice (some ad576) x7_3.length co26 : Value).ownBlock)) (by (with_reducible repeat (first | apply Kd.R_alloc | apply Kd.R_drewN | apply Kd.R_drew)); exact HO_11.out) hg hat)).2.1))); have n6_ := Aside0.mk (ho); clear HO_7; clear HO_11; clear BK529; clear HB; clear HR572; clear HR583; clear HO579; have HO_7 := n0_; have HO_11 := n1_; have BK529 := n2_; have HB := n3_; have HR572 := n4_; have HR583 := n5_; have HO586 := n6_; clear n0_ n1_ n2_ n3_ n4_ n5_ n6_; clear ho hb hg hat)); try go_wp2_with (first | ((with_reducible refine gate_builtin (b := .append) (xs := #[.tmp 115, .tmp 118]) rfl ?_); at_builtin; refine Kd.R_append_rows (Kd.int .i64) (w0 := w) w.heap.size rfl (.tmp 115) (.tmp 118) 105 3 (.int .i64 0) 8 rfl Try.underlying105 info3 rfl (by decide) (by omega) (.slice none 0 0) ([] : List Int) y569 _ _ _ (fun k_ => some k_ ≠ (.slice Ao26 x7_3.length co26 : Value).ownBlock ∧ some k_ ≠ (.slice Ao57 x11_4.length co57 : Value).ownBlock) (fun _ => False) rfl rfl ?aO ?aR (fun _ _ h => h) (fun _ h => h.elim) ?aF ?aB ?aS ?aL ?_; (case aR => repeat (first | exact (by repeat (first | (with_reducible exact HR572.out) | (with_reducible refine Kd.C_alloc ?_ _) | (with_reducible refine Kd.C_drewN ?_ _) | (with_reducible refine Kd.C_drew ?_) | exact HR572.out)) | (with_reducible refine Kd.C_alloc ?_ _) | (with_reducible refine Kd.C_drewN ?_ _) | (with_reducible refine Kd.C_drew ?_))); (case aB => exact (by repeat (first | (with_reducible first | exact HB.out | apply below_alloc | apply pw_below_drewN | apply below_drew1 | refine below_set ?_ GE529.out) | exact HB.out))); (case aF => exact (fun k_ hk => ⟨Kd.fresh' (Kd.R_lt (by (with_reducible repeat (first | apply Kd.R_alloc | apply Kd.R_drewN | apply Kd.R_drew)); exact HO_7.out)) k_ hk, Kd.fresh' (Kd.R_lt (by (with_reducible repeat (first | apply Kd.R_alloc | apply Kd.R_drewN | apply Kd.R_drew)); exact HO_11.out)) k_ hk⟩)); (case aO => exact ((Kd.R_nil _ _ _ _ (fun k_ => some k_ ≠ (.slice Ao26 x7_3.length co26 : Value).ownBlock ∧ some k_ ≠ (.slice Ao57 x11_4.length co57 : Value).ownBlock)))); (case aS => exact (below_size (by repeat (first | (with_reducible first | exact HB.out | apply below_alloc | apply pw_below_drewN | apply below_drew1 | refine below_set ?_ GE529.out) | exact HB.out)))); (case aL => have := LMc50.out; omega); intro v574 w59 ho hb hg hat; rw [← Ny573.out] at ho; have n0_ := Aside0.mk (Kd.R_after (Kd.R_apart_nil (by (with_reducible repeat (first | apply Kd.R_alloc | apply Kd.R_drewN | apply Kd.R_drew)); exact HO_7.out)) hg hat); have n1_ := Aside0.mk (Kd.R_after (Kd.R_apart_nil (by (with_reducible repeat (first | apply Kd.R_alloc | apply Kd.R_drewN | apply Kd.R_drew)); exact HO_11.out)) hg hat); have n2_ := Aside0.mk (blk_grown (g := gb529) (o := .cells #[.slice A0_0 l0_0.length c0_0, .slice A0_1 l0_1.length c0_1, .slice A0_2 l0_2.length c0_2, .int .i64 a0_3] 41 (0, 0)) (by (with_reducible repeat (first | refine blk_drewN ?_ _ | refine blk_drew ?_ | refine blk_alloc ?_ _)); exact BK529.out) hg (by simp [Value.ownBlock])); have n3_ := Aside0.mk (hb); have n4_ := Aside0.mk ((show Kd.C (Kd.int .i64) w59 Ao57 y569.length y569 from by rw [Ny569.out]; exact Kd.C_take (m := (x13_5 : Int).toNat) ((Kd.R_reads' (Kd.R_after (Kd.R_apart_nil (by (with_reducible repeat (first | apply Kd.R_alloc | apply Kd.R_drewN | apply Kd.R_drew)); exact HO_11.out)) hg hat)).2.2) KL58.out)); have n5_ := Aside0.mk (ho); clear HO_7; clear HO_11; clear BK529; clear HB; clear HR572; have HO_7 := n0_; have HO_11 := n1_; have BK529 := n2_; have HB := n3_; have HR572 := n4_; have HO575 := n5_; clear n0_ n1_ n2_ n3_ n4_ n5_; clear ho hb hg hat; have p576 : 0 ≤ (x12_4 : Int) := of_decide_eq_true (by first | (with_reducible assumption) | assumption); have q576 : x12_4 < (x7_3.length : Int) := of_decide_eq_true (by first | (with_reducible assumption) | assumption); obtain ⟨ad576, e576, hx576_0⟩ := Kd.at_int (Kd.R_reads' HO_7.out).2.2 x12_4 p576 q576; cases e576; replace p576 := eq_true p576; replace q576 := eq_true q576) | ((with_reducible refine gate_builtin (b := .append) (xs := #[.tmp 120, .tmp 125]) rfl ?_); at_builtin; refine Kd.R_append (Kd.int .i64) (w0 := w) w.heap.size rfl (.tmp 120) (.tmp 125) 105 3 (.int .i64 0) 8 rfl Try.underlying105 info3 rfl (by decide) (by omega) v574 y573 (rd x7_3 x12_4) [.int .i64 (rd x7_3 x12_4)] (fun k_ => some k_ ≠ (.slice (some ad576) x7_3.length co26 : Value).ownBlock ∧ some k_ ≠ (.slice Ao57 x11_4.length co57 : Value).ownBlock) (fun _ => False) rfl rfl ?aP (fun _ hk => hk.elim) ?aF ?aO ?aB ?aS ?aL ?_; (case aP => exact rfl); (case aB => exact (by repeat (first | (with_reducible first | exact HB.out | apply below_alloc | apply pw_below_drewN | apply below_drew1 | refine below_set ?_ GE529.out) | exact HB.out))); (case aF => exact (fun k_ hk => ⟨Kd.fresh' (Kd.R_lt (by (with_reducible repeat (first | apply Kd.R_alloc | apply Kd.R_drewN | apply Kd.R_drew)); exact HO_7.out)) k_ hk, Kd.fresh' (Kd.R_lt (by (with_reducible repeat (first | apply Kd.R_alloc | apply Kd.R_drewN | apply Kd.R_drew)); exact HO_11.out)) k_ hk⟩)); (case aO => exact (by (with_reducible repeat (first | apply Kd.R_alloc | apply Kd.R_drewN | apply Kd.R_drew)); exact HO575.out)); (case aS => exact (below_size (by repeat (first | (with_reducible first | exact HB.out | apply below_alloc | apply pw_below_drewN | apply below_drew1 | refine below_set ?_ GE529.out) | exact HB.out)))); (case aL => have := LMc53.out; omega); intro v578 w60 ho hb hg hat; rw [← Ny577.out] at ho; have n0_ := Aside0.mk (Kd.R_after (ok := (fun k_ => some k_ ≠ (.slice Ao57 x11_4.length co57 : Value).ownBlock)) (by (with_reducible repeat (first | apply Kd.R_alloc | apply Kd.R_drewN | apply Kd.R_drew)); exact HO_7.out) hg hat); have n1_ := Aside0.mk (Kd.R_after (ok := (fun k_ => some k_ ≠ (.slice (some ad576) x7_3.length co26 : Value).ownBlock)) (by (with_reducible repeat (first | apply Kd.R_alloc | apply Kd.R_drewN | apply Kd.R_drew)); exact HO_11.out) hg hat); have n2_ := Aside0.mk (blk_grown (g := gb529) (o := .cells #[.slice A0_0 l0_0.length c0_0, .slice A0_1 l0_1.length c0_1, .slice A0_2 l0_2.length c0_2, .int .i64 a0_3] 41 (0, 0)) (by (with_reducible repeat (first | refine blk_drewN ?_ _ | refine blk_drew ?_ | refine blk_alloc ?_ _)); exact BK529.out) hg (Kd.R_ne HO575.out BK529.out (by decide))); have n3_ := Aside0.mk (hb); have n4_ := Aside0.mk ((show Kd.C (Kd.int .i64) w60 Ao57 y569.length y569 from by rw [Ny569.out]; exact Kd.C_take (m := (x13_5 : Int).toNat) ((Kd.R_reads' (Kd.R_after (ok := (fun k_ => some k_ ≠ (.slice (some ad576) x7_3.length co26 : Value).ownBlock)) (by (with_reducible repeat (first | apply Kd.R_alloc | apply Kd.R_drewN | apply Kd.R_drew)); exact HO_11.out) hg hat)).2.2) KL58.out)); have n5_ := Aside0.mk (ho); clear HO_7; clear HO_11; clear BK529; clear HB; clear HR572; clear HO575; have HO_7 := n0_; have HO_11 := n1_; have BK529 := n2_; have HB := n3_; have HR572 := n4_; have HO579 := n5_; clear n0_ n1_ n2_ n3_ n4_ n5_; clear ho hb hg hat; have q61 : (x13_5 : Int) ≤ ((x11_4.length : Int) : Int) := of_decide_eq_true (by first | (with_reducible assumption) | assumption); obtain ⟨i061, hi061, _, hsz61, _⟩ := info_parts info3; have hroom61 : x11_4.length ≤ co57 := (Kd.R_reads' HO_11.out).2.1; have hC61 : Kd.C (Kd.int .i64) _ Ao57 x11_4.length x11_4 := (Kd.R_reads' HO_11.out).2.2; have q061 : (0 : Int) ≤ (x13_5 : Int) := of_decide_eq_true (by first | (with_reducible assumption) | assumption); have hcut61 := cut_from (P := Try.prog) 105 3 .i64 Try.underlying105 hi061 1 hsz61 Ao57 x11_4.length co57 x13_5 q061 q61; have hr61 := Kd.C_drop (m := (x13_5 : Int).toNat) (c := co57) hC61 (by omega) hroom61; obtain ⟨A61, hA61⟩ : ∃ A1, A1 = (if co57 = (x13_5 : Int).toNat then Ao57 else (Ao57 : Option Addr).map (·.add ((x13_5 : Int).toNat * 1))) := ⟨_, rfl⟩; obtain ⟨c61, hc61⟩ : ∃ c1, c1 = co57 - (x13_5 : Int).toNat := ⟨_, rfl⟩; have hy61 : y580.length = x11_4.length - (x13_5 : Int).toNat := (by rw [Ny580.out, List.length_drop] <;> omega); rw [show (x11_4).drop (x13_5 : Int).toNat = y580 from Ny580.out.symm] at hr61; replace hr61 : Kd.C (Kd.int .i64) _ A61 y580.length y580 := (by rw [hA61]; exact hr61); rw [← hy61, ← hA61, ← hc61] at hcut61; have HR583 := Aside0.mk hr61; have HC583 := Aside0.mk (show y580.length ≤ c61 from by rw [hy61, hc61]; exact Nat.sub_le_sub_right hroom61 _); clear hr61 hC61 hroom61 hi061 hsz61 hc61; have KY61 := Aside0.mk hy61; have KA61 := Aside0.mk hA61; clear hy61 hA61; have KL61 := Aside0.mk (show (x13_5 : Int).toNat ≤ x11_4.length from by omega); replace q61 := eq_true q61) | ((with_reducible refine gate_builtin (b := .append) (xs := #[.tmp 127, .tmp 130]) rfl ?_); at_builtin; refine Kd.R_append_rows (Kd.int .i64) (w0 := w) w.heap.size rfl (.tmp 127) (.tmp 130) 105 3 (.int .i64 0) 8 rfl Try.underlying105 info3 rfl (by decide) (by omega) v578 y577 y580 _ _ _ (fun k_ => some k_ ≠ (.slice (some ad576) x7_3.length co26 : Value).ownBlock ∧ some k_ ≠ (.slice Ao57 x11_4.length co57 : Value).ownBlock) (fun _ => False) rfl rfl ?aO ?aR (fun _ _ h => h) (fun _ h => h.elim) ?aF ?aB ?aS ?aL ?_; (case aR => repeat (first | exact (by repeat (first | (with_reducible exact HR583.out) | (with_reducible refine Kd.C_alloc ?_ _) | (with_reducible refine Kd.C_drewN ?_ _) | (with_reducible refine Kd.C_drew ?_) | exact HR583.out)) | (with_reducible refine Kd.C_alloc ?_ _) | (with_reducible refine Kd.C_drewN ?_ _) | (with_reducible refine Kd.C_drew ?_))); (case aB => exact (by repeat (first | (with_reducible first | exact HB.out | apply below_alloc | apply pw_below_drewN | apply below_drew1 | refine below_set ?_ GE529.out) | exact HB.out))); (case aF => exact (fun k_ hk => ⟨Kd.fresh' (Kd.R_lt (by (with_reducible repeat (first | apply Kd.R_alloc | apply Kd.R_drewN | apply Kd.R_drew)); exact HO_7.out)) k_ hk, Kd.fresh' (Kd.R_lt (by (with_reducible repeat (first | apply Kd.R_alloc | apply Kd.R_drewN | apply Kd.R_drew)); exact HO_11.out)) k_ hk⟩)); (case aO => exact (by (with_reducible repeat (first | apply Kd.R_alloc | apply Kd.R_drewN | apply Kd.R_drew)); exact HO579.out)); (case aS => exact (below_size (by repeat (first | (with_reducible first | exact HB.out | apply below_alloc | apply pw_below_drewN | apply below_drew1 | refine below_set ?_ GE529.out) | exact HB.out)))); (case aL => have := LMc56.out; omega); intro v585 w62 ho hb hg hat; rw [← Ny584.out] at ho; have n0_ := Aside0.mk (Kd.R_after (ok := (fun k_ => some k_ ≠ (.slice Ao57 x11_4.length co57 : Value).ownBlock)) (by (with_reducible repeat (first | apply Kd.R_alloc | apply Kd.R_drewN | apply Kd.R_drew)); exact HO_7.out) hg hat); have n1_ := Aside0.mk (Kd.R_after (ok := (fun k_ => some k_ ≠ (.slice (some ad576) x7_3.length co26 : Value).ownBlock)) (by (with_reducible repeat (first | apply Kd.R_alloc | apply Kd.R_drewN | apply Kd.R_drew)); exact HO_11.out) hg hat); have n2_ := Aside0.mk (blk_grown (g := gb529) (o := .cells #[.slice A0_0 l0_0.length c0_0, .slice A0_1 l0_1.length c0_1, .slice A0_2 l0_2.length c0_2, .int .i64 a0_3] 41 (0, 0)) (by (with_reducible repeat (first | refine blk_drewN ?_ _ | refine blk_drew ?_ | refine blk_alloc ?_ _)); exact BK529.out) hg (Kd.R_ne HO579.out BK529.out (by decide))); have n3_ := Aside0.mk (hb); have n4_ := Aside0.mk ((show Kd.C (Kd.int .i64) w62 Ao57 y569.length y569 from by rw [Ny569.out]; exact Kd.C_take (m := (x13_5 : Int).toNat) ((Kd.R_reads' (Kd.R_after (ok := (fun k_ => some k_ ≠ (.slice (some ad576) x7_3.length co26 : Value).ownBlock)) (by (with_reducible repeat (first | apply Kd.R_alloc | apply Kd.R_drewN | apply Kd.R_drew)); exact HO_11.out) hg hat)).2.2) KL58.out)); have n5_ := Aside0.mk ((show Kd.C (Kd.int .i64) w62 A61 y580.length y580 from by rw [Ny580.out, KA61.out]; exact Kd.C_drop (m := (x13_5 : Int).toNat) (c := co57) ((Kd.R_reads' (Kd.R_after (ok := (fun k_ => some k_ ≠ (.slice (some ad576) x7_3.length co26 : Value).ownBlock)) (by (with_reducible repeat (first | apply Kd.R_alloc | apply Kd.R_drewN | apply Kd.R_drew)); exact HO_11.out) hg hat)).2.2) KL61.out ((Kd.R_reads' (Kd.R_after (ok := (fun k_ => some k_ ≠ (.slice (some ad576) x7_3.length co26 : Value).ownBlock)) (by (with_reducible repeat (first | apply Kd.R_alloc | apply Kd.R_drewN | apply Kd.R_drew)); exact HO_11.out) hg hat)).2.1))); have n6_ := Aside0.mk (ho); clear HO_7; clear HO_11; clear BK529; clear HB; clear HR572; clear HR583; clear HO579; have HO_7 := n0_; have HO_11 := n1_; have BK529 := n2_; have HB := n3_; have HR572 := n4_; have HR583 := n5_; have HO586 := n6_; clear n0_ n1_ n2_ n3_ n4_ n5_ n6_; clear ho hb hg hat)))
                                              go_roundg k5
                                              case measure => have := HK1.out; have := HK2.out; have := HK3.out; have := HK4.out; have := HK5.out; omega
                                              case rel => exact ⟨(y584), (wrap64 (x12_4 + 1)), (by first | rfl | (simp; done) | (simp [*]; done)), H', ⟨by have := HK1.out; have := HK2.out; have := HK3.out; have := HK4.out; have := HK5.out; omega⟩, ⟨by (with_reducible repeat (first | apply Kd.R_alloc | apply Kd.R_drewN | apply Kd.R_drew)); exact Kd.R_mono HO_7.out (fun _ hk => hk.2)⟩, ⟨by (with_reducible repeat (first | apply Kd.R_alloc | apply Kd.R_drewN | apply Kd.R_drew)); exact Kd.R_mono HO586.out (fun _ hk => hk.1)⟩, ⟨by (with_reducible repeat (first | refine blk_drewN ?_ _ | refine blk_drew ?_ | refine blk_alloc ?_ _)); exact BK529.out⟩, ⟨by repeat (first | (with_reducible first | exact HB.out | apply below_alloc | apply pw_below_drewN | apply below_drew1 | refine below_set ?_ GE529.out) | exact HB.out)⟩⟩
                                            · rw [if_neg c56] at H
                                              exact absurd H (by simp)
                                          · rw [if_neg c53] at H
                                            exact absurd H (by simp)
                                        · rw [if_neg c52] at H
                                          exact absurd H (by simp)
                                      · rw [if_neg c51] at H
                                        exact absurd H (by simp)
                                    · rw [if_neg c50] at H
                                      exact absurd H (by simp)
                                  · rw [if_neg c49] at H
                                    exact absurd H (by simp)
                                · rw [if_neg c48] at H
                                  exact absurd H (by simp)
                        · rw [if_neg c25] at H
                          have c25b0 : decide (x12_4 < (x7_3.length : Int)) = false := decide_eq_false c25
                          clear c25
                          obtain rfl := Option.some.inj H
                          obtain ⟨Ao63, co63, eo63⟩ := Kd.R_slice HO_7.out
                          subst eo63
                          go_wp2
                          repeat (go_quiet (fail); try go_wp2)
                          go_ret
                          exact ⟨_, by first | rfl | (simp [errW_none, errW_some] <;> rfl) | (simp [*, errW_none, errW_some] <;> rfl), by (with_reducible repeat (first | apply Kd.R_alloc | apply Kd.R_drewN | apply Kd.R_drew)); exact Kd.R_mono HO_11.out (fun _ hk => trivial), by repeat (first | (with_reducible first | exact HB.out | apply below_alloc | apply pw_below_drewN | apply below_drew1 | refine below_set ?_ GE529.out) | exact HB.out)⟩

end Go.Proofs.Ytofkhcgkahkagaa.PPromiseLines
