/- Texts behind the row of PromiseKeeps, part 16. -/
import Derived.Test.YtofkhcgkahkagaaU15
import Derived.Test.YtofkhcgkahkagaaU02
import Derived.Test.YtofkhcgkahkagaaU05
/- Contracts of the reference's functions, printed by print.sh for PromiseLines, cut by a program to those that the claim uses. -/
namespace Go.Proofs.Ytofkhcgkahkagaa.PPromiseLines
open Go.RowKit Go.Proofs.YtofkhcgkahkagaaW.PrintWords Go.Proofs.YtofkhcgkahkagaaW.PrintLast Go.Proofs.YtofkhcgkahkagaaW.PrintMore
attribute [local go_sem] max2_int min2_int max_two min_two max_three min_three max_four min_four   -- for this text's walks alone
set_option linter.unusedVariables false
set_option linter.unusedSimpArgs false

/-! ### quaysideref06_May: function 69 -/
mutual
def quaysideref06_May.j0 : Nat → Bool → Int → ByteArray → ByteArray → ByteArray → Int → Int → Int → Option (Bool)
  | 0, _, _, _, _, _, _, _, _ => none
  | k + 1, x3, x131000, x131001, x131002, x131003, x131004, x131005, x131006 => if x131001.toList = ([] : List UInt8) then (quaysideref06_May.j1 k x3 (x131002.toList == ([] : List UInt8)) x131000 x131001 x131002 x131003 x131004 x131005 x131006) else (quaysideref06_May.j1 k x3 false x131000 x131001 x131002 x131003 x131004 x131005 x131006)
def quaysideref06_May.j1 : Nat → Bool → Bool → Int → ByteArray → ByteArray → ByteArray → Int → Int → Int → Option (Bool)
  | 0, _, _, _, _, _, _, _, _, _ => none
  | k + 1, x3, x4, x131000, x131001, x131002, x131003, x131004, x131005, x131006 => if x131000 = 1 then (if x3 = true then (if x131003.toList = ([] : List UInt8) then (if x131004 ≥ 1 then (if x131005 = 0 then (some (x131006 == 0)) else (some false)) else (some false)) else (some false)) else (some false)) else (if x131000 = 2 then (if x3 = true then (if x131003.toList = ([] : List UInt8) then (if x131004 ≥ 1 then (if x131005 = 0 then (some (decide (x131006 ≥ 0))) else (some false)) else (some false)) else (some false)) else (some false)) else (if x131000 = 3 then (quaysideref06_May.j2 k x3 x4 x131000 (x131000 == 3) x131000 x131001 x131002 x131003 x131004 x131005 x131006) else (quaysideref06_May.j2 k x3 x4 x131000 (x131000 == 4) x131000 x131001 x131002 x131003 x131004 x131005 x131006)))
def quaysideref06_May.j2 : Nat → Bool → Bool → Int → Bool → Int → ByteArray → ByteArray → ByteArray → Int → Int → Int → Option (Bool)
  | 0, _, _, _, _, _, _, _, _, _, _, _ => none
  | k + 1, x3, x4, x22, x69, x131000, x131001, x131002, x131003, x131004, x131005, x131006 => if x69 = true then (if x4 = true then (if x131003.toList = ([] : List UInt8) then (if x131004 = 0 then (if x131005 ≥ 1 then (some (x131006 == 0)) else (some false)) else (some false)) else (some false)) else (some false)) else (if x22 = 5 then (if x4 = true then (if x131003.toList = ([] : List UInt8) then (if x131004 = 0 then (if x131005 = 0 then (some (decide (x131006 ≥ 0))) else (some false)) else (some false)) else (some false)) else (some false)) else (if x22 = 6 then (if x3 = true then ((quaysideref06_Name.f x131003).bind fun t133 => (if t133 = true then (if x131003.toList = x131002.toList then (some false) else (if x131004 ≥ 1 then (if x131005 = 0 then (some (x131006 == 0)) else (some false)) else (some false))) else (some false))) else (some false)) else (if x22 = 7 then (if x3 = true then (if x131003.toList = ([] : List UInt8) then (if x131004 = 0 then (some false) else (if x131005 = 0 then (some (x131006 == 0)) else (some false))) else (some false)) else (some false)) else (some false))))
end
def quaysideref06_May.f (k : Nat) (a0_0 : Int) (a0_1 : ByteArray) (a0_2 : ByteArray) (a0_3 : ByteArray) (a0_4 : Int) (a0_5 : Int) (a0_6 : Int) : Option (Bool) := (quaysideref06_Name.f a0_1).bind fun t131 => (if t131 = true then ((quaysideref06_Name.f a0_2).bind fun t132 => (quaysideref06_May.j0 k t132 a0_0 a0_1 a0_2 a0_3 a0_4 a0_5 a0_6)) else (quaysideref06_May.j0 k false a0_0 a0_1 a0_2 a0_3 a0_4 a0_5 a0_6))
set_option maxHeartbeats 8000000 in
set_option maxRecDepth 100000 in
theorem quaysideref06_May.calls (k : Nat) (a0_0 : Int) (a0_1 : ByteArray) (a0_2 : ByteArray) (a0_3 : ByteArray) (a0_4 : Int) (a0_5 : Int) (a0_6 : Int) (r : Bool) (w : World) (h : quaysideref06_May.f k a0_0 a0_1 a0_2 a0_3 a0_4 a0_5 a0_6 = some r) :
    Calls Try.prog 69 #[.agg #[.int .i64 a0_0, .string a0_1, .string a0_2, .string a0_3, .int .i64 a0_4, .int .i64 a0_5, .int .i64 a0_6]] w fun e w' => e = .returned (.bool r) ∧ Below w.heap.size w w' := by
  have hu88 := Try.underlying88
  have HB := Aside0.mk (Below.refl w.heap.size w)
  have H : ((quaysideref06_Name.f a0_1).bind fun t131 => (if t131 = true then ((quaysideref06_Name.f a0_2).bind fun t132 => (quaysideref06_May.j0 k t132 a0_0 a0_1 a0_2 a0_3 a0_4 a0_5 a0_6)) else (quaysideref06_May.j0 k false a0_0 a0_1 a0_2 a0_3 a0_4 a0_5 a0_6))) = some r := h
  clear h
  have HC2 := Aside0.mk H
  clear H
  go_enter Try.func69, Try.ntmps69
  go_upto_region 1 with (first | ((with_reducible refine gate_dst (N := 1) rfl ?_); refine box_event ?hg (N := 1) ?hd (cs := #[.int .i64 a0_0, .string a0_1, .string a0_2, .string a0_3, .int .i64 a0_4, .int .i64 a0_5, .int .i64 a0_6]) (t := 88) ?hr ?_; (case hd => rfl); (case hg => rfl); (case hr => first | (go_simp; done) | (go_simp; rfl)); intro gb130 hg w3 hbox hb; have n0_ := Aside0.mk (below_step (by repeat (first | (with_reducible first | exact HB.out | apply below_alloc | apply pw_below_drewN | apply below_drew1) | exact HB.out)) hb); have n1_ := Aside0.mk (hbox); have n2_ := Aside0.mk ((by rw [hg]; exact (below_size (by repeat (first | (with_reducible first | exact HB.out | apply below_alloc | apply pw_below_drewN | apply below_drew1) | exact HB.out))) : w.heap.size ≤ gb130)); have n3_ := Aside0.mk ((by rw [hg]; exact (below_size (by repeat (first | (with_reducible first | exact HB.out | apply below_alloc | apply pw_below_drewN | apply below_drew1) | exact HB.out))) : w.heap.size ≤ gb130)); clear HB; have HB := n0_; have BK130 := n1_; have GW130 := n2_; have GE130 := n3_; clear n0_ n1_ n2_ n3_; clear hb hbox hg))
  (try simp only [Act.put, List.setIfInBounds_toArray, List.set_cons_zero, List.set_cons_succ])
  go_cut [3] (fun v3 wc => ∃ (kq : Nat) (x3_1 : Bool), v3 = .bool x3_1 ∧ Aside0 (quaysideref06_May.j0 kq x3_1 a0_0 a0_1 a0_2 a0_3 a0_4 a0_5 a0_6 = some r) ∧ Aside0 (kq ≤ k) ∧ Aside0 (wc.heap[gb130]? = some (.cells #[.int .i64 a0_0, .string a0_1, .string a0_2, .string a0_3, .int .i64 a0_4, .int .i64 a0_5, .int .i64 a0_6] 88 (0, 0))) ∧ Aside0 (Below w.heap.size w wc))
  case first =>
    have H := HC2.out
    clear HC2
    replace H := Option.bind_eq_some_iff.mp H
    obtain ⟨t131, A40, H⟩ := H
    replace H : (if t131 = true then ((quaysideref06_Name.f a0_2).bind fun t132 => (quaysideref06_May.j0 k t132 a0_0 a0_1 a0_2 a0_3 a0_4 a0_5 a0_6)) else (quaysideref06_May.j0 k false a0_0 a0_1 a0_2 a0_3 a0_4 a0_5 a0_6)) = some r := H
    have A4 := Aside0.mk A40
    clear A40
    by_cases c5 : t131 = true
    · subst c5
      have H1 : ((quaysideref06_Name.f a0_2).bind fun t132 => (quaysideref06_May.j0 k t132 a0_0 a0_1 a0_2 a0_3 a0_4 a0_5 a0_6)) = some r := by rw [if_pos rfl] at H; exact H
      clear H
      have H := H1
      clear H1
      replace H := Option.bind_eq_some_iff.mp H
      obtain ⟨t132, A60, H⟩ := H
      replace H : (quaysideref06_May.j0 k t132 a0_0 a0_1 a0_2 a0_3 a0_4 a0_5 a0_6) = some r := H
      have A6 := Aside0.mk A60
      clear A60
      have H' := Aside0.mk H
      clear H
      have hcz7_0 : w3.cell? ⟨gb130, 0, none⟩ = some (.int .i64 a0_0) := (blk_cell BK130.out 0).trans rfl
      have hcz7_1 : w3.cell? ⟨gb130, 1, none⟩ = some (.string a0_1) := (blk_cell BK130.out 1).trans rfl
      have hcz7_2 : w3.cell? ⟨gb130, 2, none⟩ = some (.string a0_2) := (blk_cell BK130.out 2).trans rfl
      have hcz7_3 : w3.cell? ⟨gb130, 3, none⟩ = some (.string a0_3) := (blk_cell BK130.out 3).trans rfl
      have hcz7_4 : w3.cell? ⟨gb130, 4, none⟩ = some (.int .i64 a0_4) := (blk_cell BK130.out 4).trans rfl
      have hcz7_5 : w3.cell? ⟨gb130, 5, none⟩ = some (.int .i64 a0_5) := (blk_cell BK130.out 5).trans rfl
      have hcz7_6 : w3.cell? ⟨gb130, 6, none⟩ = some (.int .i64 a0_6) := (blk_cell BK130.out 6).trans rfl
      have hfz7_0 := blk_frozen BK130.out 0
      have hfz7_1 := blk_frozen BK130.out 1
      have hfz7_2 := blk_frozen BK130.out 2
      have hfz7_3 := blk_frozen BK130.out 3
      have hfz7_4 := blk_frozen BK130.out 4
      have hfz7_5 := blk_frozen BK130.out 5
      have hfz7_6 := blk_frozen BK130.out 6
      go_wp2_with (first | ((with_reducible refine gate_callee (f := 47) rfl ?_); refine goesL_ (some 7) rfl rfl Try.func47 (by kernel_rfl) rfl #[.string a0_1] rfl (by (try simp only [List.map_toArray, List.map_cons, List.map_nil]); first | done | rfl | (simp only [List.length_drop, List.length_take]; rfl)) ?_; (with_reducible refine (quaysideref06_Name.calls a0_1 true _ A4.out).mono ?_); rintro e w' ⟨rfl, ⟨nd, rfl⟩⟩; refine ⟨_, rfl, ?_⟩) | (go_at_call 47; (with_reducible refine (quaysideref06_Name.calls a0_2 t132 _ A6.out).mono ?_); rintro e w' ⟨rfl, ⟨nd, rfl⟩⟩))
      go_meet
      case rel => exact ⟨_, (t132), (by first | rfl | (simp; done) | (simp [*]; done)), H', ⟨by first | omega | exact Nat.le_refl _⟩, ⟨by (with_reducible repeat (first | refine blk_drewN ?_ _ | refine blk_drew ?_ | refine blk_alloc ?_ _)); exact BK130.out⟩, ⟨by repeat (first | (with_reducible first | exact HB.out | apply below_alloc | apply pw_below_drewN | apply below_drew1 | refine below_set ?_ GE130.out) | exact HB.out)⟩⟩
    · replace c5 := Bool.eq_false_iff.mpr c5
      subst c5
      have H1 : (quaysideref06_May.j0 k false a0_0 a0_1 a0_2 a0_3 a0_4 a0_5 a0_6) = some r := by rw [if_neg (show ¬ (false = true) by decide)] at H; exact H
      clear H
      have H := H1
      clear H1
      have H' := Aside0.mk H
      clear H
      have hcz8_0 : w3.cell? ⟨gb130, 0, none⟩ = some (.int .i64 a0_0) := (blk_cell BK130.out 0).trans rfl
      have hcz8_1 : w3.cell? ⟨gb130, 1, none⟩ = some (.string a0_1) := (blk_cell BK130.out 1).trans rfl
      have hcz8_2 : w3.cell? ⟨gb130, 2, none⟩ = some (.string a0_2) := (blk_cell BK130.out 2).trans rfl
      have hcz8_3 : w3.cell? ⟨gb130, 3, none⟩ = some (.string a0_3) := (blk_cell BK130.out 3).trans rfl
      have hcz8_4 : w3.cell? ⟨gb130, 4, none⟩ = some (.int .i64 a0_4) := (blk_cell BK130.out 4).trans rfl
      have hcz8_5 : w3.cell? ⟨gb130, 5, none⟩ = some (.int .i64 a0_5) := (blk_cell BK130.out 5).trans rfl
      have hcz8_6 : w3.cell? ⟨gb130, 6, none⟩ = some (.int .i64 a0_6) := (blk_cell BK130.out 6).trans rfl
      have hfz8_0 := blk_frozen BK130.out 0
      have hfz8_1 := blk_frozen BK130.out 1
      have hfz8_2 := blk_frozen BK130.out 2
      have hfz8_3 := blk_frozen BK130.out 3
      have hfz8_4 := blk_frozen BK130.out 4
      have hfz8_5 := blk_frozen BK130.out 5
      have hfz8_6 := blk_frozen BK130.out 6
      go_wp2_with (first | ((with_reducible refine gate_callee (f := 47) rfl ?_); refine goesL_ (some 7) rfl rfl Try.func47 (by kernel_rfl) rfl #[.string a0_1] rfl (by (try simp only [List.map_toArray, List.map_cons, List.map_nil]); first | done | rfl | (simp only [List.length_drop, List.length_take]; rfl)) ?_; (with_reducible refine (quaysideref06_Name.calls a0_1 false _ A4.out).mono ?_); rintro e w' ⟨rfl, ⟨nd, rfl⟩⟩; refine ⟨_, rfl, ?_⟩))
      go_meet
      case rel => exact ⟨_, (false), (by first | rfl | (simp; done) | (simp [*]; done)), H', ⟨by first | omega | exact Nat.le_refl _⟩, ⟨by (with_reducible repeat (first | refine blk_drewN ?_ _ | refine blk_drew ?_ | refine blk_alloc ?_ _)); exact BK130.out⟩, ⟨by repeat (first | (with_reducible first | exact HB.out | apply below_alloc | apply pw_below_drewN | apply below_drew1 | refine below_set ?_ GE130.out) | exact HB.out)⟩⟩
  case rest =>
    clear HC2
    try clear p2
    try clear c4
    try clear c5
    try clear c6
    try clear hcz7_0
    try clear hcz7_1
    try clear hcz7_2
    try clear hcz7_3
    try clear hcz7_4
    try clear hcz7_5
    try clear hcz7_6
    try clear hcz8_0
    try clear hcz8_1
    try clear hcz8_2
    try clear hcz8_3
    try clear hcz8_4
    try clear hcz8_5
    try clear hcz8_6
    try clear hfz7_0
    try clear hfz7_1
    try clear hfz7_2
    try clear hfz7_3
    try clear hfz7_4
    try clear hfz7_5
    try clear hfz7_6
    try clear hfz8_0
    try clear hfz8_1
    try clear hfz8_2
    try clear hfz8_3
    try clear hfz8_4
    try clear hfz8_5
    try clear hfz8_6
    obtain ⟨kq, x3_1, rfl, HA, HJ1, BK130, HB⟩ := hcut
    cases kq with
    | zero => exact absurd HA.out (by simp [quaysideref06_May.j0])
    | succ kj1 =>
      have H := HA.out
      clear HA
      simp only [quaysideref06_May.j0] at H
      have HC9 := Aside0.mk H
      clear H
      go_upto_region 2 with (fail)
      go_cut [4] (fun v4 wc => ∃ (kq : Nat) (x4_8 : Bool), v4 = .bool x4_8 ∧ Aside0 (quaysideref06_May.j1 kq x3_1 x4_8 a0_0 a0_1 a0_2 a0_3 a0_4 a0_5 a0_6 = some r) ∧ Aside0 (kq ≤ kj1) ∧ Aside0 (wc.heap[gb130]? = some (.cells #[.int .i64 a0_0, .string a0_1, .string a0_2, .string a0_3, .int .i64 a0_4, .int .i64 a0_5, .int .i64 a0_6] 88 (0, 0))) ∧ Aside0 (Below w.heap.size w wc))
      case first =>
        have H := HC9.out
        clear HC9
        by_cases c10 : a0_1.toList = ([] : List UInt8)
        · rw [if_pos c10] at H
          have c10b0 : (a0_1.toList == ([] : List UInt8)) = true := beq_iff_eq.mpr c10
          have c10b1 : (a0_1.toList != ([] : List UInt8)) = false := bne_eq_false_iff_eq.mpr c10
          clear c10
          (first | rw [c10b0] | (simp only [i64_w, i32_w]; rw [c10b0]) | skip)
          have H' := Aside0.mk H
          clear H
          have hcz11_0 : wc.cell? ⟨gb130, 0, none⟩ = some (.int .i64 a0_0) := (blk_cell BK130.out 0).trans rfl
          have hcz11_1 : wc.cell? ⟨gb130, 1, none⟩ = some (.string a0_1) := (blk_cell BK130.out 1).trans rfl
          have hcz11_2 : wc.cell? ⟨gb130, 2, none⟩ = some (.string a0_2) := (blk_cell BK130.out 2).trans rfl
          have hcz11_3 : wc.cell? ⟨gb130, 3, none⟩ = some (.string a0_3) := (blk_cell BK130.out 3).trans rfl
          have hcz11_4 : wc.cell? ⟨gb130, 4, none⟩ = some (.int .i64 a0_4) := (blk_cell BK130.out 4).trans rfl
          have hcz11_5 : wc.cell? ⟨gb130, 5, none⟩ = some (.int .i64 a0_5) := (blk_cell BK130.out 5).trans rfl
          have hcz11_6 : wc.cell? ⟨gb130, 6, none⟩ = some (.int .i64 a0_6) := (blk_cell BK130.out 6).trans rfl
          have hfz11_0 := blk_frozen BK130.out 0
          have hfz11_1 := blk_frozen BK130.out 1
          have hfz11_2 := blk_frozen BK130.out 2
          have hfz11_3 := blk_frozen BK130.out 3
          have hfz11_4 := blk_frozen BK130.out 4
          have hfz11_5 := blk_frozen BK130.out 5
          have hfz11_6 := blk_frozen BK130.out 6
          go_wp2
          go_meet
          case rel => exact ⟨_, ((a0_2.toList == ([] : List UInt8))), (by first | rfl | (simp; done) | (simp [*]; done)), H', ⟨by have := HJ1.out; first | omega | exact Nat.le_refl _⟩, ⟨by (with_reducible repeat (first | refine blk_drewN ?_ _ | refine blk_drew ?_ | refine blk_alloc ?_ _)); exact BK130.out⟩, ⟨by repeat (first | (with_reducible first | exact HB.out | apply below_alloc | apply pw_below_drewN | apply below_drew1 | refine below_set ?_ GE130.out) | exact HB.out)⟩⟩
        · rw [if_neg c10] at H
          have c10b0 : (a0_1.toList == ([] : List UInt8)) = false := beq_eq_false_iff_ne.mpr c10
          have c10b1 : (a0_1.toList != ([] : List UInt8)) = true := bne_iff_ne.mpr c10
          (first | rw [c10b0] | (simp only [i64_w, i32_w]; rw [c10b0]) | skip)
          have H' := Aside0.mk H
          clear H
          have hcz12_0 : wc.cell? ⟨gb130, 0, none⟩ = some (.int .i64 a0_0) := (blk_cell BK130.out 0).trans rfl
          have hcz12_1 : wc.cell? ⟨gb130, 1, none⟩ = some (.string a0_1) := (blk_cell BK130.out 1).trans rfl
          have hcz12_2 : wc.cell? ⟨gb130, 2, none⟩ = some (.string a0_2) := (blk_cell BK130.out 2).trans rfl
          have hcz12_3 : wc.cell? ⟨gb130, 3, none⟩ = some (.string a0_3) := (blk_cell BK130.out 3).trans rfl
          have hcz12_4 : wc.cell? ⟨gb130, 4, none⟩ = some (.int .i64 a0_4) := (blk_cell BK130.out 4).trans rfl
          have hcz12_5 : wc.cell? ⟨gb130, 5, none⟩ = some (.int .i64 a0_5) := (blk_cell BK130.out 5).trans rfl
          have hcz12_6 : wc.cell? ⟨gb130, 6, none⟩ = some (.int .i64 a0_6) := (blk_cell BK130.out 6).trans rfl
          have hfz12_0 := blk_frozen BK130.out 0
          have hfz12_1 := blk_frozen BK130.out 1
          have hfz12_2 := blk_frozen BK130.out 2
          have hfz12_3 := blk_frozen BK130.out 3
          have hfz12_4 := blk_frozen BK130.out 4
          have hfz12_5 := blk_frozen BK130.out 5
          have hfz12_6 := blk_frozen BK130.out 6
          go_wp2
          go_meet
          case rel => exact ⟨_, (false), (by first | rfl | (simp; done) | (simp [*]; done)), H', ⟨by have := HJ1.out; first | omega | exact Nat.le_refl _⟩, ⟨by (with_reducible repeat (first | refine blk_drewN ?_ _ | refine blk_drew ?_ | refine blk_alloc ?_ _)); exact BK130.out⟩, ⟨by repeat (first | (with_reducible first | exact HB.out | apply below_alloc | apply pw_below_drewN | apply below_drew1 | refine below_set ?_ GE130.out) | exact HB.out)⟩⟩
      case rest =>
        clear HC9
        try clear c1
        try clear p2
        try clear c4
        try clear c5
        try clear c6
        try clear c10
        try clear c10b0
        try clear c10b1
        try clear hcz11_0
        try clear hcz11_1
        try clear hcz11_2
        try clear hcz11_3
        try clear hcz11_4
        try clear hcz11_5
        try clear hcz11_6
        try clear hcz12_0
        try clear hcz12_1
        try clear hcz12_2
        try clear hcz12_3
        try clear hcz12_4
        try clear hcz12_5
        try clear hcz12_6
        try clear hcz7_0
        try clear hcz7_1
        try clear hcz7_2
        try clear hcz7_3
        try clear hcz7_4
        try clear hcz7_5
        try clear hcz7_6
        try clear hcz8_0
        try clear hcz8_1
        try clear hcz8_2
        try clear hcz8_3
        try clear hcz8_4
        try clear hcz8_5
        try clear hcz8_6
        try clear hfz11_0
        try clear hfz11_1
        try clear hfz11_2
        try clear hfz11_3
        try clear hfz11_4
        try clear hfz11_5
        try clear hfz11_6
        try clear hfz12_0
        try clear hfz12_1
        try clear hfz12_2
        try clear hfz12_3
        try clear hfz12_4
        try clear hfz12_5
        try clear hfz12_6
        try clear hfz7_0
        try clear hfz7_1
        try clear hfz7_2
        try clear hfz7_3
        try clear hfz7_4
        try clear hfz7_5
        try clear hfz7_6
        try clear hfz8_0
        try clear hfz8_1
        try clear hfz8_2
        try clear hfz8_3
        try clear hfz8_4
        try clear hfz8_5
        try clear hfz8_6
        try clear p2
        obtain ⟨kq, x4_8, rfl, HA, HJ8, BK130, HB⟩ := hcut
        cases kq with
        | zero => exact absurd HA.out (by simp [quaysideref06_May.j1])
        | succ kj8 =>
          have H := HA.out
          clear HA
          simp only [quaysideref06_May.j1] at H
          by_cases c13 : a0_0 = 1
          · rw [if_pos c13] at H
            have c13b0 : (a0_0 == 1) = true := beq_iff_eq.mpr c13
            have c13b1 : (a0_0 != 1) = false := bne_eq_false_iff_eq.mpr c13
            clear c13
            by_cases c14 : x3_1 = true
            · subst c14
              have H1 : (if a0_3.toList = ([] : List UInt8) then (if a0_4 ≥ 1 then (if a0_5 = 0 then (some (a0_6 == 0)) else (some false)) else (some false)) else (some false)) = some r := by rw [if_pos rfl] at H; exact H
              clear H
              have H := H1
              clear H1
              by_cases c15 : a0_3.toList = ([] : List UInt8)
              · rw [if_pos c15] at H
                have c15b0 : (a0_3.toList == ([] : List UInt8)) = true := beq_iff_eq.mpr c15
                have c15b1 : (a0_3.toList != ([] : List UInt8)) = false := bne_eq_false_iff_eq.mpr c15
                clear c15
                by_cases c16 : a0_4 ≥ 1
                · rw [if_pos c16] at H
                  have c16b0 : decide (1 ≤ a0_4) = true := decide_eq_true c16
                  clear c16
                  by_cases c17 : a0_5 = 0
                  · rw [if_pos c17] at H
                    have c17b0 : (a0_5 == 0) = true := beq_iff_eq.mpr c17
                    have c17b1 : (a0_5 != 0) = false := bne_eq_false_iff_eq.mpr c17
                    clear c17
                    obtain rfl := Option.some.inj H
                    have hcz18_0 : wc.cell? ⟨gb130, 0, none⟩ = some (.int .i64 a0_0) := (blk_cell BK130.out 0).trans rfl
                    have hcz18_1 : wc.cell? ⟨gb130, 1, none⟩ = some (.string a0_1) := (blk_cell BK130.out 1).trans rfl
                    have hcz18_2 : wc.cell? ⟨gb130, 2, none⟩ = some (.string a0_2) := (blk_cell BK130.out 2).trans rfl
                    have hcz18_3 : wc.cell? ⟨gb130, 3, none⟩ = some (.string a0_3) := (blk_cell BK130.out 3).trans rfl
                    have hcz18_4 : wc.cell? ⟨gb130, 4, none⟩ = some (.int .i64 a0_4) := (blk_cell BK130.out 4).trans rfl
                    have hcz18_5 : wc.cell? ⟨gb130, 5, none⟩ = some (.int .i64 a0_5) := (blk_cell BK130.out 5).trans rfl
                    have hcz18_6 : wc.cell? ⟨gb130, 6, none⟩ = some (.int .i64 a0_6) := (blk_cell BK130.out 6).trans rfl
                    have hfz18_0 := blk_frozen BK130.out 0
                    have hfz18_1 := blk_frozen BK130.out 1
                    have hfz18_2 := blk_frozen BK130.out 2
                    have hfz18_3 := blk_frozen BK130.out 3
                    have hfz18_4 := blk_frozen BK130.out 4
                    have hfz18_5 := blk_frozen BK130.out 5
                    have hfz18_6 := blk_frozen BK130.out 6
                    go_wp2
                    go_ret
                    exact ⟨by first | rfl | (simp [errW_none, errW_some] <;> rfl) | (simp [*, errW_none, errW_some] <;> rfl), by repeat (first | (with_reducible first | exact HB.out | apply below_alloc | apply pw_below_drewN | apply below_drew1 | refine below_set ?_ GE130.out) | exact HB.out)⟩
                  · rw [if_neg c17] at H
                    have c17b0 : (a0_5 == 0) = false := beq_eq_false_iff_ne.mpr c17
                    have c17b1 : (a0_5 != 0) = true := bne_iff_ne.mpr c17
                    obtain rfl := Option.some.inj H
                    have hcz19_0 : wc.cell? ⟨gb130, 0, none⟩ = some (.int .i64 a0_0) := (blk_cell BK130.out 0).trans rfl
                    have hcz19_1 : wc.cell? ⟨gb130, 1, none⟩ = some (.string a0_1) := (blk_cell BK130.out 1).trans rfl
                    have hcz19_2 : wc.cell? ⟨gb130, 2, none⟩ = some (.string a0_2) := (blk_cell BK130.out 2).trans rfl
                    have hcz19_3 : wc.cell? ⟨gb130, 3, none⟩ = some (.string a0_3) := (blk_cell BK130.out 3).trans rfl
                    have hcz19_4 : wc.cell? ⟨gb130, 4, none⟩ = some (.int .i64 a0_4) := (blk_cell BK130.out 4).trans rfl
                    have hcz19_5 : wc.cell? ⟨gb130, 5, none⟩ = some (.int .i64 a0_5) := (blk_cell BK130.out 5).trans rfl
                    have hcz19_6 : wc.cell? ⟨gb130, 6, none⟩ = some (.int .i64 a0_6) := (blk_cell BK130.out 6).trans rfl
                    have hfz19_0 := blk_frozen BK130.out 0
                    have hfz19_1 := blk_frozen BK130.out 1
                    have hfz19_2 := blk_frozen BK130.out 2
                    have hfz19_3 := blk_frozen BK130.out 3
                    have hfz19_4 := blk_frozen BK130.out 4
                    have hfz19_5 := blk_frozen BK130.out 5
                    have hfz19_6 := blk_frozen BK130.out 6
                    go_wp2
                    go_ret
                    exact ⟨by first | rfl | (simp [errW_none, errW_some] <;> rfl) | (simp [*, errW_none, errW_some] <;> rfl), by repeat (first | (with_reducible first | exact HB.out | apply below_alloc | apply pw_below_drewN | apply below_drew1 | refine below_set ?_ GE130.out) | exact HB.out)⟩
                · rw [if_neg c16] at H
                  have c16b0 : decide (1 ≤ a0_4) = false := decide_eq_false c16
                  clear c16
                  obtain rfl := Option.some.inj H
                  have hcz20_0 : wc.cell? ⟨gb130, 0, none⟩ = some (.int .i64 a0_0) := (blk_cell BK130.out 0).trans rfl
                  have hcz20_1 : wc.cell? ⟨gb130, 1, none⟩ = some (.string a0_1) := (blk_cell BK130.out 1).trans rfl
                  have hcz20_2 : wc.cell? ⟨gb130, 2, none⟩ = some (.string a0_2) := (blk_cell BK130.out 2).trans rfl
                  have hcz20_3 : wc.cell? ⟨gb130, 3, none⟩ = some (.string a0_3) := (blk_cell BK130.out 3).trans rfl
                  have hcz20_4 : wc.cell? ⟨gb130, 4, none⟩ = some (.int .i64 a0_4) := (blk_cell BK130.out 4).trans rfl
                  have hcz20_5 : wc.cell? ⟨gb130, 5, none⟩ = some (.int .i64 a0_5) := (blk_cell BK130.out 5).trans rfl
                  have hcz20_6 : wc.cell? ⟨gb130, 6, none⟩ = some (.int .i64 a0_6) := (blk_cell BK130.out 6).trans rfl
                  have hfz20_0 := blk_frozen BK130.out 0
                  have hfz20_1 := blk_frozen BK130.out 1
                  have hfz20_2 := blk_frozen BK130.out 2
                  have hfz20_3 := blk_frozen BK130.out 3
                  have hfz20_4 := blk_frozen BK130.out 4
                  have hfz20_5 := blk_frozen BK130.out 5
                  have hfz20_6 := blk_frozen BK130.out 6
                  go_wp2
                  go_ret
                  exact ⟨by first | rfl | (simp [errW_none, errW_some] <;> rfl) | (simp [*, errW_none, errW_some] <;> rfl), by repeat (first | (with_reducible first | exact HB.out | apply below_alloc | apply pw_below_drewN | apply below_drew1 | refine below_set ?_ GE130.out) | exact HB.out)⟩
              · rw [if_neg c15] at H
                have c15b0 : (a0_3.toList == ([] : List UInt8)) = false := beq_eq_false_iff_ne.mpr c15
                have c15b1 : (a0_3.toList != ([] : List UInt8)) = true := bne_iff_ne.mpr c15
                obtain rfl := Option.some.inj H
                have hcz21_0 : wc.cell? ⟨gb130, 0, none⟩ = some (.int .i64 a0_0) := (blk_cell BK130.out 0).trans rfl
                have hcz21_1 : wc.cell? ⟨gb130, 1, none⟩ = some (.string a0_1) := (blk_cell BK130.out 1).trans rfl
                have hcz21_2 : wc.cell? ⟨gb130, 2, none⟩ = some (.string a0_2) := (blk_cell BK130.out 2).trans rfl
                have hcz21_3 : wc.cell? ⟨gb130, 3, none⟩ = some (.string a0_3) := (blk_cell BK130.out 3).trans rfl
                have hcz21_4 : wc.cell? ⟨gb130, 4, none⟩ = some (.int .i64 a0_4) := (blk_cell BK130.out 4).trans rfl
                have hcz21_5 : wc.cell? ⟨gb130, 5, none⟩ = some (.int .i64 a0_5) := (blk_cell BK130.out 5).trans rfl
                have hcz21_6 : wc.cell? ⟨gb130, 6, none⟩ = some (.int .i64 a0_6) := (blk_cell BK130.out 6).trans rfl
                have hfz21_0 := blk_frozen BK130.out 0
                have hfz21_1 := blk_frozen BK130.out 1
                have hfz21_2 := blk_frozen BK130.out 2
                have hfz21_3 := blk_frozen BK130.out 3
                have hfz21_4 := blk_frozen BK130.out 4
                have hfz21_5 := blk_frozen BK130.out 5
                have hfz21_6 := blk_frozen BK130.out 6
                go_wp2
                go_ret
                exact ⟨by first | rfl | (simp [errW_none, errW_some] <;> rfl) | (simp [*, errW_none, errW_some] <;> rfl), by repeat (first | (with_reducible first | exact HB.out | apply below_alloc | apply pw_below_drewN | apply below_drew1 | refine below_set ?_ GE130.out) | exact HB.out)⟩
            · replace c14 := Bool.eq_false_iff.mpr c14
              subst c14
              have H1 : (some false) = some r := by rw [if_neg (show ¬ (false = true) by decide)] at H; exact H
              clear H
              have H := H1
              clear H1
              obtain rfl := Option.some.inj H
              have hcz22_0 : wc.cell? ⟨gb130, 0, none⟩ = some (.int .i64 a0_0) := (blk_cell BK130.out 0).trans rfl
              have hcz22_1 : wc.cell? ⟨gb130, 1, none⟩ = some (.string a0_1) := (blk_cell BK130.out 1).trans rfl
              have hcz22_2 : wc.cell? ⟨gb130, 2, none⟩ = some (.string a0_2) := (blk_cell BK130.out 2).trans rfl
              have hcz22_3 : wc.cell? ⟨gb130, 3, none⟩ = some (.string a0_3) := (blk_cell BK130.out 3).trans rfl
              have hcz22_4 : wc.cell? ⟨gb130, 4, none⟩ = some (.int .i64 a0_4) := (blk_cell BK130.out 4).trans rfl
              have hcz22_5 : wc.cell? ⟨gb130, 5, none⟩ = some (.int .i64 a0_5) := (blk_cell BK130.out 5).trans rfl
              have hcz22_6 : wc.cell? ⟨gb130, 6, none⟩ = some (.int .i64 a0_6) := (blk_cell BK130.out 6).trans rfl
              have hfz22_0 := blk_frozen BK130.out 0
              have hfz22_1 := blk_frozen BK130.out 1
              have hfz22_2 := blk_frozen BK130.out 2
              have hfz22_3 := blk_frozen BK130.out 3
              have hfz22_4 := blk_frozen BK130.out 4
              have hfz22_5 := blk_frozen BK130.out 5
              have hfz22_6 := blk_frozen BK130.out 6
              go_wp2
              go_ret
              exact ⟨by first | rfl | (simp [errW_none, errW_some] <;> rfl) | (simp [*, errW_none, errW_some] <;> rfl), by repeat (first | (with_reducible first | exact HB.out | apply below_alloc | apply pw_below_drewN | apply below_drew1 | refine below_set ?_ GE130.out) | exact HB.out)⟩
          · rw [if_neg c13] at H
            have c13b0 : (a0_0 == 1) = false := beq_eq_false_iff_ne.mpr c13
            have c13b1 : (a0_0 != 1) = true := bne_iff_ne.mpr c13
            by_cases c23 : a0_0 = 2
            · rw [if_pos c23] at H
              have c23b0 : (a0_0 == 2) = true := beq_iff_eq.mpr c23
              have c23b1 : (a0_0 != 2) = false := bne_eq_false_iff_eq.mpr c23
              clear c23
              by_cases c24 : x3_1 = true
              · subst c24
                have H1 : (if a0_3.toList = ([] : List UInt8) then (if a0_4 ≥ 1 then (if a0_5 = 0 then (some (decide (a0_6 ≥ 0))) else (some false)) else (some false)) else (some false)) = some r := by rw [if_pos rfl] at H; exact H
                clear H
                have H := H1
                clear H1
                by_cases c25 : a0_3.toList = ([] : List UInt8)
                · rw [if_pos c25] at H
                  have c25b0 : (a0_3.toList == ([] : List UInt8)) = true := beq_iff_eq.mpr c25
                  have c25b1 : (a0_3.toList != ([] : List UInt8)) = false := bne_eq_false_iff_eq.mpr c25
                  clear c25
                  by_cases c26 : a0_4 ≥ 1
                  · rw [if_pos c26] at H
                    have c26b0 : decide (1 ≤ a0_4) = true := decide_eq_true c26
                    clear c26
                    by_cases c27 : a0_5 = 0
                    · rw [if_pos c27] at H
                      have c27b0 : (a0_5 == 0) = true := beq_iff_eq.mpr c27
                      have c27b1 : (a0_5 != 0) = false := bne_eq_false_iff_eq.mpr c27
                      clear c27
                      obtain rfl := Option.some.inj H
                      have hcz28_0 : wc.cell? ⟨gb130, 0, none⟩ = some (.int .i64 a0_0) := (blk_cell BK130.out 0).trans rfl
                      have hcz28_1 : wc.cell? ⟨gb130, 1, none⟩ = some (.string a0_1) := (blk_cell BK130.out 1).trans rfl
                      have hcz28_2 : wc.cell? ⟨gb130, 2, none⟩ = some (.string a0_2) := (blk_cell BK130.out 2).trans rfl
                      have hcz28_3 : wc.cell? ⟨gb130, 3, none⟩ = some (.string a0_3) := (blk_cell BK130.out 3).trans rfl
                      have hcz28_4 : wc.cell? ⟨gb130, 4, none⟩ = some (.int .i64 a0_4) := (blk_cell BK130.out 4).trans rfl
                      have hcz28_5 : wc.cell? ⟨gb130, 5, none⟩ = some (.int .i64 a0_5) := (blk_cell BK130.out 5).trans rfl
                      have hcz28_6 : wc.cell? ⟨gb130, 6, none⟩ = some (.int .i64 a0_6) := (blk_cell BK130.out 6).trans rfl
                      have hfz28_0 := blk_frozen BK130.out 0
                      have hfz28_1 := blk_frozen BK130.out 1
                      have hfz28_2 := blk_frozen BK130.out 2
                      have hfz28_3 := blk_frozen BK130.out 3
                      have hfz28_4 := blk_frozen BK130.out 4
                      have hfz28_5 := blk_frozen BK130.out 5
                      have hfz28_6 := blk_frozen BK130.out 6
                      go_wp2
                      go_ret
                      exact ⟨by first | rfl | (simp [errW_none, errW_some] <;> rfl) | (simp [*, errW_none, errW_some] <;> rfl), by repeat (first | (with_reducible first | exact HB.out | apply below_alloc | apply pw_below_drewN | apply below_drew1 | refine below_set ?_ GE130.out) | exact HB.out)⟩
                    · rw [if_neg c27] at H
                      have c27b0 : (a0_5 == 0) = false := beq_eq_false_iff_ne.mpr c27
                      have c27b1 : (a0_5 != 0) = true := bne_iff_ne.mpr c27
                      obtain rfl := Option.some.inj H
                      have hcz29_0 : wc.cell? ⟨gb130, 0, none⟩ = some (.int .i64 a0_0) := (blk_cell BK130.out 0).trans rfl
                      have hcz29_1 : wc.cell? ⟨gb130, 1, none⟩ = some (.string a0_1) := (blk_cell BK130.out 1).trans rfl
                      have hcz29_2 : wc.cell? ⟨gb130, 2, none⟩ = some (.string a0_2) := (blk_cell BK130.out 2).trans rfl
                      have hcz29_3 : wc.cell? ⟨gb130, 3, none⟩ = some (.string a0_3) := (blk_cell BK130.out 3).trans rfl
                      have hcz29_4 : wc.cell? ⟨gb130, 4, none⟩ = some (.int .i64 a0_4) := (blk_cell BK130.out 4).trans rfl
                      have hcz29_5 : wc.cell? ⟨gb130, 5, none⟩ = some (.int .i64 a0_5) := (blk_cell BK130.out 5).trans rfl
                      have hcz29_6 : wc.cell? ⟨gb130, 6, none⟩ = some (.int .i64 a0_6) := (blk_cell BK130.out 6).trans rfl
                      have hfz29_0 := blk_frozen BK130.out 0
                      have hfz29_1 := blk_frozen BK130.out 1
                      have hfz29_2 := blk_frozen BK130.out 2
                      have hfz29_3 := blk_frozen BK130.out 3
                      have hfz29_4 := blk_frozen BK130.out 4
                      have hfz29_5 := blk_frozen BK130.out 5
                      have hfz29_6 := blk_frozen BK130.out 6
                      go_wp2
                      go_ret
                      exact ⟨by first | rfl | (simp [errW_none, errW_some] <;> rfl) | (simp [*, errW_none, errW_some] <;> rfl), by repeat (first | (with_reducible first | exact HB.out | apply below_alloc | apply pw_below_drewN | apply below_drew1 | refine below_set ?_ GE130.out) | exact HB.out)⟩
                  · rw [if_neg c26] at H
                    have c26b0 : decide (1 ≤ a0_4) = false := decide_eq_false c26
                    clear c26
                    obtain rfl := Option.some.inj H
                    have hcz30_0 : wc.cell? ⟨gb130, 0, none⟩ = some (.int .i64 a0_0) := (blk_cell BK130.out 0).trans rfl
                    have hcz30_1 : wc.cell? ⟨gb130, 1, none⟩ = some (.string a0_1) := (blk_cell BK130.out 1).trans rfl
                    have hcz30_2 : wc.cell? ⟨gb130, 2, none⟩ = some (.string a0_2) := (blk_cell BK130.out 2).trans rfl
                    have hcz30_3 : wc.cell? ⟨gb130, 3, none⟩ = some (.string a0_3) := (blk_cell BK130.out 3).trans rfl
                    have hcz30_4 : wc.cell? ⟨gb130, 4, none⟩ = some (.int .i64 a0_4) := (blk_cell BK130.out 4).trans rfl
                    have hcz30_5 : wc.cell? ⟨gb130, 5, none⟩ = some (.int .i64 a0_5) := (blk_cell BK130.out 5).trans rfl
                    have hcz30_6 : wc.cell? ⟨gb130, 6, none⟩ = some (.int .i64 a0_6) := (blk_cell BK130.out 6).trans rfl
                    have hfz30_0 := blk_frozen BK130.out 0
                    have hfz30_1 := blk_frozen BK130.out 1
                    have hfz30_2 := blk_frozen BK130.out 2
                    have hfz30_3 := blk_frozen BK130.out 3
                    have hfz30_4 := blk_frozen BK130.out 4
                    have hfz30_5 := blk_frozen BK130.out 5
                    have hfz30_6 := blk_frozen BK130.out 6
                    go_wp2
                    go_ret
                    exact ⟨by first | rfl | (simp [errW_none, errW_some] <;> rfl) | (simp [*, errW_none, errW_some] <;> rfl), by repeat (first | (with_reducible first | exact HB.out | apply below_alloc | apply pw_below_drewN | apply below_drew1 | refine below_set ?_ GE130.out) | exact HB.out)⟩
                · rw [if_neg c25] at H
                  have c25b0 : (a0_3.toList == ([] : List UInt8)) = false := beq_eq_false_iff_ne.mpr c25
                  have c25b1 : (a0_3.toList != ([] : List UInt8)) = true := bne_iff_ne.mpr c25
                  obtain rfl := Option.some.inj H
                  have hcz31_0 : wc.cell? ⟨gb130, 0, none⟩ = some (.int .i64 a0_0) := (blk_cell BK130.out 0).trans rfl
                  have hcz31_1 : wc.cell? ⟨gb130, 1, none⟩ = some (.string a0_1) := (blk_cell BK130.out 1).trans rfl
                  have hcz31_2 : wc.cell? ⟨gb130, 2, none⟩ = some (.string a0_2) := (blk_cell BK130.out 2).trans rfl
                  have hcz31_3 : wc.cell? ⟨gb130, 3, none⟩ = some (.string a0_3) := (blk_cell BK130.out 3).trans rfl
                  have hcz31_4 : wc.cell? ⟨gb130, 4, none⟩ = some (.int .i64 a0_4) := (blk_cell BK130.out 4).trans rfl
                  have hcz31_5 : wc.cell? ⟨gb130, 5, none⟩ = some (.int .i64 a0_5) := (blk_cell BK130.out 5).trans rfl
                  have hcz31_6 : wc.cell? ⟨gb130, 6, none⟩ = some (.int .i64 a0_6) := (blk_cell BK130.out 6).trans rfl
                  have hfz31_0 := blk_frozen BK130.out 0
                  have hfz31_1 := blk_frozen BK130.out 1
                  have hfz31_2 := blk_frozen BK130.out 2
                  have hfz31_3 := blk_frozen BK130.out 3
                  have hfz31_4 := blk_frozen BK130.out 4
                  have hfz31_5 := blk_frozen BK130.out 5
                  have hfz31_6 := blk_frozen BK130.out 6
                  go_wp2
                  go_ret
                  exact ⟨by first | rfl | (simp [errW_none, errW_some] <;> rfl) | (simp [*, errW_none, errW_some] <;> rfl), by repeat (first | (with_reducible first | exact HB.out | apply below_alloc | apply pw_below_drewN | apply below_drew1 | refine below_set ?_ GE130.out) | exact HB.out)⟩
              · replace c24 := Bool.eq_false_iff.mpr c24
                subst c24
                have H1 : (some false) = some r := by rw [if_neg (show ¬ (false = true) by decide)] at H; exact H
                clear H
                have H := H1
                clear H1
                obtain rfl := Option.some.inj H
                have hcz32_0 : wc.cell? ⟨gb130, 0, none⟩ = some (.int .i64 a0_0) := (blk_cell BK130.out 0).trans rfl
                have hcz32_1 : wc.cell? ⟨gb130, 1, none⟩ = some (.string a0_1) := (blk_cell BK130.out 1).trans rfl
                have hcz32_2 : wc.cell? ⟨gb130, 2, none⟩ = some (.string a0_2) := (blk_cell BK130.out 2).trans rfl
                have hcz32_3 : wc.cell? ⟨gb130, 3, none⟩ = some (.string a0_3) := (blk_cell BK130.out 3).trans rfl
                have hcz32_4 : wc.cell? ⟨gb130, 4, none⟩ = some (.int .i64 a0_4) := (blk_cell BK130.out 4).trans rfl
                have hcz32_5 : wc.cell? ⟨gb130, 5, none⟩ = some (.int .i64 a0_5) := (blk_cell BK130.out 5).trans rfl
                have hcz32_6 : wc.cell? ⟨gb130, 6, none⟩ = some (.int .i64 a0_6) := (blk_cell BK130.out 6).trans rfl
                have hfz32_0 := blk_frozen BK130.out 0
                have hfz32_1 := blk_frozen BK130.out 1
                have hfz32_2 := blk_frozen BK130.out 2
                have hfz32_3 := blk_frozen BK130.out 3
                have hfz32_4 := blk_frozen BK130.out 4
                have hfz32_5 := blk_frozen BK130.out 5
                have hfz32_6 := blk_frozen BK130.out 6
                go_wp2
                go_ret
                exact ⟨by first | rfl | (simp [errW_none, errW_some] <;> rfl) | (simp [*, errW_none, errW_some] <;> rfl), by repeat (first | (with_reducible first | exact HB.out | apply below_alloc | apply pw_below_drewN | apply below_drew1 | refine below_set ?_ GE130.out) | exact HB.out)⟩
            · rw [if_neg c23] at H
              have c23b0 : (a0_0 == 2) = false := beq_eq_false_iff_ne.mpr c23
              have c23b1 : (a0_0 != 2) = true := bne_iff_ne.mpr c23
              have HC33 := Aside0.mk H
              clear H
              have hcz34_0 : wc.cell? ⟨gb130, 0, none⟩ = some (.int .i64 a0_0) := (blk_cell BK130.out 0).trans rfl
              have hcz34_1 : wc.cell? ⟨gb130, 1, none⟩ = some (.string a0_1) := (blk_cell BK130.out 1).trans rfl
              have hcz34_2 : wc.cell? ⟨gb130, 2, none⟩ = some (.string a0_2) := (blk_cell BK130.out 2).trans rfl
              have hcz34_3 : wc.cell? ⟨gb130, 3, none⟩ = some (.string a0_3) := (blk_cell BK130.out 3).trans rfl
              have hcz34_4 : wc.cell? ⟨gb130, 4, none⟩ = some (.int .i64 a0_4) := (blk_cell BK130.out 4).trans rfl
              have hcz34_5 : wc.cell? ⟨gb130, 5, none⟩ = some (.int .i64 a0_5) := (blk_cell BK130.out 5).trans rfl
              have hcz34_6 : wc.cell? ⟨gb130, 6, none⟩ = some (.int .i64 a0_6) := (blk_cell BK130.out 6).trans rfl
              have hfz34_0 := blk_frozen BK130.out 0
              have hfz34_1 := blk_frozen BK130.out 1
              have hfz34_2 := blk_frozen BK130.out 2
              have hfz34_3 := blk_frozen BK130.out 3
              have hfz34_4 := blk_frozen BK130.out 4
              have hfz34_5 := blk_frozen BK130.out 5
              have hfz34_6 := blk_frozen BK130.out 6
              go_upto_if 69 with (fail)
              go_cut [69] (fun v69 wc => ∃ (kq : Nat) (x69_32 : Bool), v69 = .bool x69_32 ∧ Aside0 (quaysideref06_May.j2 kq x3_1 x4_8 a0_0 x69_32 a0_0 a0_1 a0_2 a0_3 a0_4 a0_5 a0_6 = some r) ∧ Aside0 (kq ≤ kj8) ∧ Aside0 (wc.heap[gb130]? = some (.cells #[.int .i64 a0_0, .string a0_1, .string a0_2, .string a0_3, .int .i64 a0_4, .int .i64 a0_5, .int .i64 a0_6] 88 (0, 0))) ∧ Aside0 (Below w.heap.size w wc))
              case first =>
                have H := HC33.out
                clear HC33
                by_cases c35 : a0_0 = 3
                · rw [if_pos c35] at H
                  have c35b0 : (a0_0 == 3) = true := beq_iff_eq.mpr c35
                  have c35b1 : (a0_0 != 3) = false := bne_eq_false_iff_eq.mpr c35
                  clear c35
                  (first | rw [c35b0] | (simp only [i64_w, i32_w]; rw [c35b0]) | skip)
                  have H' := Aside0.mk H
                  clear H
                  go_wp2
                  go_meet
                  case rel => exact ⟨_, ((a0_0 == 3)), (by first | rfl | (simp; done) | (simp [*]; done)), H', ⟨by have := HJ1.out; have := HJ8.out; first | omega | exact Nat.le_refl _⟩, ⟨by (with_reducible repeat (first | refine blk_drewN ?_ _ | refine blk_drew ?_ | refine blk_alloc ?_ _)); exact BK130.out⟩, ⟨by repeat (first | (with_reducible first | exact HB.out | apply below_alloc | apply pw_below_drewN | apply below_drew1 | refine below_set ?_ GE130.out) | exact HB.out)⟩⟩
                · rw [if_neg c35] at H
                  have c35b0 : (a0_0 == 3) = false := beq_eq_false_iff_ne.mpr c35
                  have c35b1 : (a0_0 != 3) = true := bne_iff_ne.mpr c35
                  (first | rw [c35b0] | (simp only [i64_w, i32_w]; rw [c35b0]) | skip)
                  have H' := Aside0.mk H
                  clear H
                  go_wp2
                  go_meet
                  case rel => exact ⟨_, ((a0_0 == 4)), (by first | rfl | (simp; done) | (simp [*]; done)), H', ⟨by have := HJ1.out; have := HJ8.out; first | omega | exact Nat.le_refl _⟩, ⟨by (with_reducible repeat (first | refine blk_drewN ?_ _ | refine blk_drew ?_ | refine blk_alloc ?_ _)); exact BK130.out⟩, ⟨by repeat (first | (with_reducible first | exact HB.out | apply below_alloc | apply pw_below_drewN | apply below_drew1 | refine below_set ?_ GE130.out) | exact HB.out)⟩⟩
              case rest =>
                clear HC33
                try clear c1
                try clear c2
                try clear p2
                try clear c3
                try clear c4
                try clear c5
                try clear c6
                try clear c10
                try clear c10b0
                try clear c10b1
                try clear c13
                try clear c13b0
                try clear c13b1
                try clear c14
                try clear c15
                try clear c15b0
                try clear c15b1
                try clear c16
                try clear c16b0
                try clear c17
                try clear c17b0
                try clear c17b1
                try clear c23
                try clear c23b0
                try clear c23b1
                try clear c24
                try clear c25
                try clear c25b0
                try clear c25b1
                try clear c26
                try clear c26b0
                try clear c27
                try clear c27b0
                try clear c27b1
                try clear c35
                try clear c35b0
                try clear c35b1
                try clear hcz11_0
                try clear hcz11_1
                try clear hcz11_2
                try clear hcz11_3
                try clear hcz11_4
                try clear hcz11_5
                try clear hcz11_6
                try clear hcz12_0
                try clear hcz12_1
                try clear hcz12_2
                try clear hcz12_3
                try clear hcz12_4
                try clear hcz12_5
                try clear hcz12_6
                try clear hcz18_0
                try clear hcz18_1
                try clear hcz18_2
                try clear hcz18_3
                try clear hcz18_4
                try clear hcz18_5
                try clear hcz18_6
                try clear hcz19_0
                try clear hcz19_1
                try clear hcz19_2
                try clear hcz19_3
                try clear hcz19_4
                try clear hcz19_5
                try clear hcz19_6
                try clear hcz20_0
                try clear hcz20_1
                try clear hcz20_2
                try clear hcz20_3
                try clear hcz20_4
                try clear hcz20_5
                try clear hcz20_6
                try clear hcz21_0
                try clear hcz21_1
                try clear hcz21_2
                try clear hcz21_3
                try clear hcz21_4
                try clear hcz21_5
                try clear hcz21_6
                try clear hcz22_0
                try clear hcz22_1
                try clear hcz22_2
                try clear hcz22_3
                try clear hcz22_4
                try clear hcz22_5
                try clear hcz22_6
                try clear hcz28_0
                try clear hcz28_1
                try clear hcz28_2
                try clear hcz28_3
                try clear hcz28_4
                try clear hcz28_5
                try clear hcz28_6
                try clear hcz29_0
                try clear hcz29_1
                try clear hcz29_2
                try clear hcz29_3
                try clear hcz29_4
                try clear hcz29_5
                try clear hcz29_6
                try clear hcz30_0
                try clear hcz30_1
                try clear hcz30_2
                try clear hcz30_3
                try clear hcz30_4
                try clear hcz30_5
                try clear hcz30_6
                try clear hcz31_0
                try clear hcz31_1
                try clear hcz31_2
                try clear hcz31_3
                try clear hcz31_4
                try clear hcz31_5
                try clear hcz31_6
                try clear hcz32_0
                try clear hcz32_1
                try clear hcz32_2
                try clear hcz32_3
                try clear hcz32_4
                try clear hcz32_5
                try clear hcz32_6
                try clear hcz34_0
                try clear hcz34_1
                try clear hcz34_2
                try clear hcz34_3
                try clear hcz34_4
                try clear hcz34_5
                try clear hcz34_6
                try clear hcz7_0
                try clear hcz7_1
                try clear hcz7_2
                try clear hcz7_3
                try clear hcz7_4
                try clear hcz7_5
                try clear hcz7_6
                try clear hcz8_0
                try clear hcz8_1
                try clear hcz8_2
                try clear hcz8_3
                try clear hcz8_4
                try clear hcz8_5
                try clear hcz8_6
                try clear hfz11_0
                try clear hfz11_1
                try clear hfz11_2
                try clear hfz11_3
                try clear hfz11_4
                try clear hfz11_5
                try clear hfz11_6
                try clear hfz12_0
                try clear hfz12_1
                try clear hfz12_2
                try clear hfz12_3
                try clear hfz12_4
                try clear hfz12_5
                try clear hfz12_6
                try clear hfz18_0
                try clear hfz18_1
                try clear hfz18_2
                try clear hfz18_3
                try clear hfz18_4
                try clear hfz18_5
                try clear hfz18_6
                try clear hfz19_0
                try clear hfz19_1
                try clear hfz19_2
                try clear hfz19_3
                try clear hfz19_4
                try clear hfz19_5
                try clear hfz19_6
                try clear hfz20_0
                try clear hfz20_1
                try clear hfz20_2
                try clear hfz20_3
                try clear hfz20_4
                try clear hfz20_5
                try clear hfz20_6
                try clear hfz21_0
                try clear hfz21_1
                try clear hfz21_2
                try clear hfz21_3
                try clear hfz21_4
                try clear hfz21_5
                try clear hfz21_6
                try clear hfz22_0
                try clear hfz22_1
                try clear hfz22_2
                try clear hfz22_3
                try clear hfz22_4
                try clear hfz22_5
                try clear hfz22_6
                try clear hfz28_0
                try clear hfz28_1
                try clear hfz28_2
                try clear hfz28_3
                try clear hfz28_4
                try clear hfz28_5
                try clear hfz28_6
                try clear hfz29_0
                try clear hfz29_1
                try clear hfz29_2
                try clear hfz29_3
                try clear hfz29_4
                try clear hfz29_5
                try clear hfz29_6
                try clear hfz30_0
                try clear hfz30_1
                try clear hfz30_2
                try clear hfz30_3
                try clear hfz30_4
                try clear hfz30_5
                try clear hfz30_6
                try clear hfz31_0
                try clear hfz31_1
                try clear hfz31_2
                try clear hfz31_3
                try clear hfz31_4
                try clear hfz31_5
                try clear hfz31_6
                try clear hfz32_0
                try clear hfz32_1
                try clear hfz32_2
                try clear hfz32_3
                try clear hfz32_4
                try clear hfz32_5
                try clear hfz32_6
                try clear hfz34_0
                try clear hfz34_1
                try clear hfz34_2
                try clear hfz34_3
                try clear hfz34_4
                try clear hfz34_5
                try clear hfz34_6
                try clear hfz7_0
                try clear hfz7_1
                try clear hfz7_2
                try clear hfz7_3
                try clear hfz7_4
                try clear hfz7_5
                try clear hfz7_6
                try clear hfz8_0
                try clear hfz8_1
                try clear hfz8_2
                try clear hfz8_3
                try clear hfz8_4
                try clear hfz8_5
                try clear hfz8_6
                try clear p2
                obtain ⟨kq, x69_32, rfl, HA, HJ32, BK130, HB⟩ := hcut
                cases kq with
                | zero => exact absurd HA.out (by simp [quaysideref06_May.j2])
                | succ kj32 =>
                  have H := HA.out
                  clear HA
                  simp only [quaysideref06_May.j2] at H
                  by_cases c36 : x69_32 = true
                  · subst c36
                    have H1 : (if x4_8 = true then (if a0_3.toList = ([] : List UInt8) then (if a0_4 = 0 then (if a0_5 ≥ 1 then (some (a0_6 == 0)) else (some false)) else (some false)) else (some false)) else (some false)) = some r := by rw [if_pos rfl] at H; exact H
                    clear H
                    have H := H1
                    clear H1
                    by_cases c37 : x4_8 = true
                    · subst c37
                      have H1 : (if a0_3.toList = ([] : List UInt8) then (if a0_4 = 0 then (if a0_5 ≥ 1 then (some (a0_6 == 0)) else (some false)) else (some false)) else (some false)) = some r := by rw [if_pos rfl] at H; exact H
                      clear H
                      have H := H1
                      clear H1
                      by_cases c38 : a0_3.toList = ([] : List UInt8)
                      · rw [if_pos c38] at H
                        have c38b0 : (a0_3.toList == ([] : List UInt8)) = true := beq_iff_eq.mpr c38
                        have c38b1 : (a0_3.toList != ([] : List UInt8)) = false := bne_eq_false_iff_eq.mpr c38
                        clear c38
                        by_cases c39 : a0_4 = 0
                        · rw [if_pos c39] at H
                          have c39b0 : (a0_4 == 0) = true := beq_iff_eq.mpr c39
                          have c39b1 : (a0_4 != 0) = false := bne_eq_false_iff_eq.mpr c39
                          clear c39
                          by_cases c40 : a0_5 ≥ 1
                          · rw [if_pos c40] at H
                            have c40b0 : decide (1 ≤ a0_5) = true := decide_eq_true c40
                            clear c40
                            obtain rfl := Option.some.inj H
                            have hcz41_0 : wc.cell? ⟨gb130, 0, none⟩ = some (.int .i64 a0_0) := (blk_cell BK130.out 0).trans rfl
                            have hcz41_1 : wc.cell? ⟨gb130, 1, none⟩ = some (.string a0_1) := (blk_cell BK130.out 1).trans rfl
                            have hcz41_2 : wc.cell? ⟨gb130, 2, none⟩ = some (.string a0_2) := (blk_cell BK130.out 2).trans rfl
                            have hcz41_3 : wc.cell? ⟨gb130, 3, none⟩ = some (.string a0_3) := (blk_cell BK130.out 3).trans rfl
                            have hcz41_4 : wc.cell? ⟨gb130, 4, none⟩ = some (.int .i64 a0_4) := (blk_cell BK130.out 4).trans rfl
                            have hcz41_5 : wc.cell? ⟨gb130, 5, none⟩ = some (.int .i64 a0_5) := (blk_cell BK130.out 5).trans rfl
                            have hcz41_6 : wc.cell? ⟨gb130, 6, none⟩ = some (.int .i64 a0_6) := (blk_cell BK130.out 6).trans rfl
                            have hfz41_0 := blk_frozen BK130.out 0
                            have hfz41_1 := blk_frozen BK130.out 1
                            have hfz41_2 := blk_frozen BK130.out 2
                            have hfz41_3 := blk_frozen BK130.out 3
                            have hfz41_4 := blk_frozen BK130.out 4
                            have hfz41_5 := blk_frozen BK130.out 5
                            have hfz41_6 := blk_frozen BK130.out 6
                            go_wp2
                            go_ret
                            exact ⟨by first | rfl | (simp [errW_none, errW_some] <;> rfl) | (simp [*, errW_none, errW_some] <;> rfl), by repeat (first | (with_reducible first | exact HB.out | apply below_alloc | apply pw_below_drewN | apply below_drew1 | refine below_set ?_ GE130.out) | exact HB.out)⟩
                          · rw [if_neg c40] at H
                            have c40b0 : decide (1 ≤ a0_5) = false := decide_eq_false c40
                            clear c40
                            obtain rfl := Option.some.inj H
                            have hcz42_0 : wc.cell? ⟨gb130, 0, none⟩ = some (.int .i64 a0_0) := (blk_cell BK130.out 0).trans rfl
                            have hcz42_1 : wc.cell? ⟨gb130, 1, none⟩ = some (.string a0_1) := (blk_cell BK130.out 1).trans rfl
                            have hcz42_2 : wc.cell? ⟨gb130, 2, none⟩ = some (.string a0_2) := (blk_cell BK130.out 2).trans rfl
                            have hcz42_3 : wc.cell? ⟨gb130, 3, none⟩ = some (.string a0_3) := (blk_cell BK130.out 3).trans rfl
                            have hcz42_4 : wc.cell? ⟨gb130, 4, none⟩ = some (.int .i64 a0_4) := (blk_cell BK130.out 4).trans rfl
                            have hcz42_5 : wc.cell? ⟨gb130, 5, none⟩ = some (.int .i64 a0_5) := (blk_cell BK130.out 5).trans rfl
                            have hcz42_6 : wc.cell? ⟨gb130, 6, none⟩ = some (.int .i64 a0_6) := (blk_cell BK130.out 6).trans rfl
                            have hfz42_0 := blk_frozen BK130.out 0
                            have hfz42_1 := blk_frozen BK130.out 1
                            have hfz42_2 := blk_frozen BK130.out 2
                            have hfz42_3 := blk_frozen BK130.out 3
                            have hfz42_4 := blk_frozen BK130.out 4
                            have hfz42_5 := blk_frozen BK130.out 5
                            have hfz42_6 := blk_frozen BK130.out 6
                            go_wp2
                            go_ret
                            exact ⟨by first | rfl | (simp [errW_none, errW_some] <;> rfl) | (simp [*, errW_none, errW_some] <;> rfl), by repeat (first | (with_reducible first | exact HB.out | apply below_alloc | apply pw_below_drewN | apply below_drew1 | refine below_set ?_ GE130.out) | exact HB.out)⟩
                        · rw [if_neg c39] at H
                          have c39b0 : (a0_4 == 0) = false := beq_eq_false_iff_ne.mpr c39
                          have c39b1 : (a0_4 != 0) = true := bne_iff_ne.mpr c39
                          obtain rfl := Option.some.inj H
                          have hcz43_0 : wc.cell? ⟨gb130, 0, none⟩ = some (.int .i64 a0_0) := (blk_cell BK130.out 0).trans rfl
                          have hcz43_1 : wc.cell? ⟨gb130, 1, none⟩ = some (.string a0_1) := (blk_cell BK130.out 1).trans rfl
                          have hcz43_2 : wc.cell? ⟨gb130, 2, none⟩ = some (.string a0_2) := (blk_cell BK130.out 2).trans rfl
                          have hcz43_3 : wc.cell? ⟨gb130, 3, none⟩ = some (.string a0_3) := (blk_cell BK130.out 3).trans rfl
                          have hcz43_4 : wc.cell? ⟨gb130, 4, none⟩ = some (.int .i64 a0_4) := (blk_cell BK130.out 4).trans rfl
                          have hcz43_5 : wc.cell? ⟨gb130, 5, none⟩ = some (.int .i64 a0_5) := (blk_cell BK130.out 5).trans rfl
                          have hcz43_6 : wc.cell? ⟨gb130, 6, none⟩ = some (.int .i64 a0_6) := (blk_cell BK130.out 6).trans rfl
                          have hfz43_0 := blk_frozen BK130.out 0
                          have hfz43_1 := blk_frozen BK130.out 1
                          have hfz43_2 := blk_frozen BK130.out 2
                          have hfz43_3 := blk_frozen BK130.out 3
                          have hfz43_4 := blk_frozen BK130.out 4
                          have hfz43_5 := blk_frozen BK130.out 5
                          have hfz43_6 := blk_frozen BK130.out 6
                          go_wp2
                          go_ret
                          exact ⟨by first | rfl | (simp [errW_none, errW_some] <;> rfl) | (simp [*, errW_none, errW_some] <;> rfl), by repeat (first | (with_reducible first | exact HB.out | apply below_alloc | apply pw_below_drewN | apply below_drew1 | refine below_set ?_ GE130.out) | exact HB.out)⟩
                      · rw [if_neg c38] at H
                        have c38b0 : (a0_3.toList == ([] : List UInt8)) = false := beq_eq_false_iff_ne.mpr c38
                        have c38b1 : (a0_3.toList != ([] : List UInt8)) = true := bne_iff_ne.mpr c38
                        obtain rfl := Option.some.inj H
                        have hcz44_0 : wc.cell? ⟨gb130, 0, none⟩ = some (.int .i64 a0_0) := (blk_cell BK130.out 0).trans rfl
                        have hcz44_1 : wc.cell? ⟨gb130, 1, none⟩ = some (.string a0_1) := (blk_cell BK130.out 1).trans rfl
                        have hcz44_2 : wc.cell? ⟨gb130, 2, none⟩ = some (.string a0_2) := (blk_cell BK130.out 2).trans rfl
                        have hcz44_3 : wc.cell? ⟨gb130, 3, none⟩ = some (.string a0_3) := (blk_cell BK130.out 3).trans rfl
                        have hcz44_4 : wc.cell? ⟨gb130, 4, none⟩ = some (.int .i64 a0_4) := (blk_cell BK130.out 4).trans rfl
                        have hcz44_5 : wc.cell? ⟨gb130, 5, none⟩ = some (.int .i64 a0_5) := (blk_cell BK130.out 5).trans rfl
                        have hcz44_6 : wc.cell? ⟨gb130, 6, none⟩ = some (.int .i64 a0_6) := (blk_cell BK130.out 6).trans rfl
                        have hfz44_0 := blk_frozen BK130.out 0
                        have hfz44_1 := blk_frozen BK130.out 1
                        have hfz44_2 := blk_frozen BK130.out 2
                        have hfz44_3 := blk_frozen BK130.out 3
                        have hfz44_4 := blk_frozen BK130.out 4
                        have hfz44_5 := blk_frozen BK130.out 5
                        have hfz44_6 := blk_frozen BK130.out 6
                        go_wp2
                        go_ret
                        exact ⟨by first | rfl | (simp [errW_none, errW_some] <;> rfl) | (simp [*, errW_none, errW_some] <;> rfl), by repeat (first | (with_reducible first | exact HB.out | apply below_alloc | apply pw_below_drewN | apply below_drew1 | refine below_set ?_ GE130.out) | exact HB.out)⟩
                    · replace c37 := Bool.eq_false_iff.mpr c37
                      subst c37
                      have H1 : (some false) = some r := by rw [if_neg (show ¬ (false = true) by decide)] at H; exact H
                      clear H
                      have H := H1
                      clear H1
                      obtain rfl := Option.some.inj H
                      go_wp2
                      go_ret
                      exact ⟨by first | rfl | (simp [errW_none, errW_some] <;> rfl) | (simp [*, errW_none, errW_some] <;> rfl), by repeat (first | (with_reducible first | exact HB.out | apply below_alloc | apply pw_below_drewN | apply below_drew1 | refine below_set ?_ GE130.out) | exact HB.out)⟩
                  · replace c36 := Bool.eq_false_iff.mpr c36
                    subst c36
                    have H1 : (if a0_0 = 5 then (if x4_8 = true then (if a0_3.toList = ([] : List UInt8) then (if a0_4 = 0 then (if a0_5 = 0 then (some (decide (a0_6 ≥ 0))) else (some false)) else (some false)) else (some false)) else (some false)) else (if a0_0 = 6 then (if x3_1 = true then ((quaysideref06_Name.f a0_3).bind fun t133 => (if t133 = true then (if a0_3.toList = a0_2.toList then (some false) else (if a0_4 ≥ 1 then (if a0_5 = 0 then (some (a0_6 == 0)) else (some false)) else (some false))) else (some false))) else (some false)) else (if a0_0 = 7 then (if x3_1 = true then (if a0_3.toList = ([] : List UInt8) then (if a0_4 = 0 then (some false) else (if a0_5 = 0 then (some (a0_6 == 0)) else (some false))) else (some false)) else (some false)) else (some false)))) = some r := by rw [if_neg (show ¬ (false = true) by decide)] at H; exact H
                    clear H
                    have H := H1
                    clear H1
                    by_cases c45 : a0_0 = 5
                    · rw [if_pos c45] at H
                      have c45b0 : (a0_0 == 5) = true := beq_iff_eq.mpr c45
                      have c45b1 : (a0_0 != 5) = false := bne_eq_false_iff_eq.mpr c45
                      clear c45
                      by_cases c46 : x4_8 = true
                      · subst c46
                        have H1 : (if a0_3.toList = ([] : List UInt8) then (if a0_4 = 0 then (if a0_5 = 0 then (some (decide (a0_6 ≥ 0))) else (some false)) else (some false)) else (some false)) = some r := by rw [if_pos rfl] at H; exact H
                        clear H
                        have H := H1
                        clear H1
                        by_cases c47 : a0_3.toList = ([] : List UInt8)
                        · rw [if_pos c47] at H
                          have c47b0 : (a0_3.toList == ([] : List UInt8)) = true := beq_iff_eq.mpr c47
                          have c47b1 : (a0_3.toList != ([] : List UInt8)) = false := bne_eq_false_iff_eq.mpr c47
                          clear c47
                          by_cases c48 : a0_4 = 0
                          · rw [if_pos c48] at H
                            have c48b0 : (a0_4 == 0) = true := beq_iff_eq.mpr c48
                            have c48b1 : (a0_4 != 0) = false := bne_eq_false_iff_eq.mpr c48
                            clear c48
                            by_cases c49 : a0_5 = 0
                            · rw [if_pos c49] at H
                              have c49b0 : (a0_5 == 0) = true := beq_iff_eq.mpr c49
                              have c49b1 : (a0_5 != 0) = false := bne_eq_false_iff_eq.mpr c49
                              clear c49
                              obtain rfl := Option.some.inj H
                              have hcz50_0 : wc.cell? ⟨gb130, 0, none⟩ = some (.int .i64 a0_0) := (blk_cell BK130.out 0).trans rfl
                              have hcz50_1 : wc.cell? ⟨gb130, 1, none⟩ = some (.string a0_1) := (blk_cell BK130.out 1).trans rfl
                              have hcz50_2 : wc.cell? ⟨gb130, 2, none⟩ = some (.string a0_2) := (blk_cell BK130.out 2).trans rfl
                              have hcz50_3 : wc.cell? ⟨gb130, 3, none⟩ = some (.string a0_3) := (blk_cell BK130.out 3).trans rfl
                              have hcz50_4 : wc.cell? ⟨gb130, 4, none⟩ = some (.int .i64 a0_4) := (blk_cell BK130.out 4).trans rfl
                              have hcz50_5 : wc.cell? ⟨gb130, 5, none⟩ = some (.int .i64 a0_5) := (blk_cell BK130.out 5).trans rfl
                              have hcz50_6 : wc.cell? ⟨gb130, 6, none⟩ = some (.int .i64 a0_6) := (blk_cell BK130.out 6).trans rfl
                              have hfz50_0 := blk_frozen BK130.out 0
                              have hfz50_1 := blk_frozen BK130.out 1
                              have hfz50_2 := blk_frozen BK130.out 2
                              have hfz50_3 := blk_frozen BK130.out 3
                              have hfz50_4 := blk_frozen BK130.out 4
                              have hfz50_5 := blk_frozen BK130.out 5
                              have hfz50_6 := blk_frozen BK130.out 6
                              go_wp2
                              go_ret
                              exact ⟨by first | rfl | (simp [errW_none, errW_some] <;> rfl) | (simp [*, errW_none, errW_some] <;> rfl), by repeat (first | (with_reducible first | exact HB.out | apply below_alloc | apply pw_below_drewN | apply below_drew1 | refine below_set ?_ GE130.out) | exact HB.out)⟩
                            · rw [if_neg c49] at H
                              have c49b0 : (a0_5 == 0) = false := beq_eq_false_iff_ne.mpr c49
                              have c49b1 : (a0_5 != 0) = true := bne_iff_ne.mpr c49
                              obtain rfl := Option.some.inj H
                              have hcz51_0 : wc.cell? ⟨gb130, 0, none⟩ = some (.int .i64 a0_0) := (blk_cell BK130.out 0).trans rfl
                              have hcz51_1 : wc.cell? ⟨gb130, 1, none⟩ = some (.string a0_1) := (blk_cell BK130.out 1).trans rfl
                              have hcz51_2 : wc.cell? ⟨gb130, 2, none⟩ = some (.string a0_2) := (blk_cell BK130.out 2).trans rfl
                              have hcz51_3 : wc.cell? ⟨gb130, 3, none⟩ = some (.string a0_3) := (blk_cell BK130.out 3).trans rfl
                              have hcz51_4 : wc.cell? ⟨gb130, 4, none⟩ = some (.int .i64 a0_4) := (blk_cell BK130.out 4).trans rfl
                              have hcz51_5 : wc.cell? ⟨gb130, 5, none⟩ = some (.int .i64 a0_5) := (blk_cell BK130.out 5).trans rfl
                              have hcz51_6 : wc.cell? ⟨gb130, 6, none⟩ = some (.int .i64 a0_6) := (blk_cell BK130.out 6).trans rfl
                              have hfz51_0 := blk_frozen BK130.out 0
                              have hfz51_1 := blk_frozen BK130.out 1
                              have hfz51_2 := blk_frozen BK130.out 2
                              have hfz51_3 := blk_frozen BK130.out 3
                              have hfz51_4 := blk_frozen BK130.out 4
                              have hfz51_5 := blk_frozen BK130.out 5
                              have hfz51_6 := blk_frozen BK130.out 6
                              go_wp2
                              go_ret
                              exact ⟨by first | rfl | (simp [errW_none, errW_some] <;> rfl) | (simp [*, errW_none, errW_some] <;> rfl), by repeat (first | (with_reducible first | exact HB.out | apply below_alloc | apply pw_below_drewN | apply below_drew1 | refine below_set ?_ GE130.out) | exact HB.out)⟩
                          · rw [if_neg c48] at H
                            have c48b0 : (a0_4 == 0) = false := beq_eq_false_iff_ne.mpr c48
                            have c48b1 : (a0_4 != 0) = true := bne_iff_ne.mpr c48
                            obtain rfl := Option.some.inj H
                            have hcz52_0 : wc.cell? ⟨gb130, 0, none⟩ = some (.int .i64 a0_0) := (blk_cell BK130.out 0).trans rfl
                            have hcz52_1 : wc.cell? ⟨gb130, 1, none⟩ = some (.string a0_1) := (blk_cell BK130.out 1).trans rfl
                            have hcz52_2 : wc.cell? ⟨gb130, 2, none⟩ = some (.string a0_2) := (blk_cell BK130.out 2).trans rfl
                            have hcz52_3 : wc.cell? ⟨gb130, 3, none⟩ = some (.string a0_3) := (blk_cell BK130.out 3).trans rfl
                            have hcz52_4 : wc.cell? ⟨gb130, 4, none⟩ = some (.int .i64 a0_4) := (blk_cell BK130.out 4).trans rfl
                            have hcz52_5 : wc.cell? ⟨gb130, 5, none⟩ = some (.int .i64 a0_5) := (blk_cell BK130.out 5).trans rfl
                            have hcz52_6 : wc.cell? ⟨gb130, 6, none⟩ = some (.int .i64 a0_6) := (blk_cell BK130.out 6).trans rfl
                            have hfz52_0 := blk_frozen BK130.out 0
                            have hfz52_1 := blk_frozen BK130.out 1
                            have hfz52_2 := blk_frozen BK130.out 2
                            have hfz52_3 := blk_frozen BK130.out 3
                            have hfz52_4 := blk_frozen BK130.out 4
                            have hfz52_5 := blk_frozen BK130.out 5
                            have hfz52_6 := blk_frozen BK130.out 6
                            go_wp2
                            go_ret
                            exact ⟨by first | rfl | (simp [errW_none, errW_some] <;> rfl) | (simp [*, errW_none, errW_some] <;> rfl), by repeat (first | (with_reducible first | exact HB.out | apply below_alloc | apply pw_below_drewN | apply below_drew1 | refine below_set ?_ GE130.out) | exact HB.out)⟩
                        · rw [if_neg c47] at H
                          have c47b0 : (a0_3.toList == ([] : List UInt8)) = false := beq_eq_false_iff_ne.mpr c47
                          have c47b1 : (a0_3.toList != ([] : List UInt8)) = true := bne_iff_ne.mpr c47
                          obtain rfl := Option.some.inj H
                          have hcz53_0 : wc.cell? ⟨gb130, 0, none⟩ = some (.int .i64 a0_0) := (blk_cell BK130.out 0).trans rfl
                          have hcz53_1 : wc.cell? ⟨gb130, 1, none⟩ = some (.string a0_1) := (blk_cell BK130.out 1).trans rfl
                          have hcz53_2 : wc.cell? ⟨gb130, 2, none⟩ = some (.string a0_2) := (blk_cell BK130.out 2).trans rfl
                          have hcz53_3 : wc.cell? ⟨gb130, 3, none⟩ = some (.string a0_3) := (blk_cell BK130.out 3).trans rfl
                          have hcz53_4 : wc.cell? ⟨gb130, 4, none⟩ = some (.int .i64 a0_4) := (blk_cell BK130.out 4).trans rfl
                          have hcz53_5 : wc.cell? ⟨gb130, 5, none⟩ = some (.int .i64 a0_5) := (blk_cell BK130.out 5).trans rfl
                          have hcz53_6 : wc.cell? ⟨gb130, 6, none⟩ = some (.int .i64 a0_6) := (blk_cell BK130.out 6).trans rfl
                          have hfz53_0 := blk_frozen BK130.out 0
                          have hfz53_1 := blk_frozen BK130.out 1
                          have hfz53_2 := blk_frozen BK130.out 2
                          have hfz53_3 := blk_frozen BK130.out 3
                          have hfz53_4 := blk_frozen BK130.out 4
                          have hfz53_5 := blk_frozen BK130.out 5
                          have hfz53_6 := blk_frozen BK130.out 6
                          go_wp2
                          go_ret
                          exact ⟨by first | rfl | (simp [errW_none, errW_some] <;> rfl) | (simp [*, errW_none, errW_some] <;> rfl), by repeat (first | (with_reducible first | exact HB.out | apply below_alloc | apply pw_below_drewN | apply below_drew1 | refine below_set ?_ GE130.out) | exact HB.out)⟩
                      · replace c46 := Bool.eq_false_iff.mpr c46
                        subst c46
                        have H1 : (some false) = some r := by rw [if_neg (show ¬ (false = true) by decide)] at H; exact H
                        clear H
                        have H := H1
                        clear H1
                        obtain rfl := Option.some.inj H
                        go_wp2
                        go_ret
                        exact ⟨by first | rfl | (simp [errW_none, errW_some] <;> rfl) | (simp [*, errW_none, errW_some] <;> rfl), by repeat (first | (with_reducible first | exact HB.out | apply below_alloc | apply pw_below_drewN | apply below_drew1 | refine below_set ?_ GE130.out) | exact HB.out)⟩
                    · rw [if_neg c45] at H
                      have c45b0 : (a0_0 == 5) = false := beq_eq_false_iff_ne.mpr c45
                      have c45b1 : (a0_0 != 5) = true := bne_iff_ne.mpr c45
                      by_cases c54 : a0_0 = 6
                      · rw [if_pos c54] at H
                        have c54b0 : (a0_0 == 6) = true := beq_iff_eq.mpr c54
                        have c54b1 : (a0_0 != 6) = false := bne_eq_false_iff_eq.mpr c54
                        clear c54
                        by_cases c55 : x3_1 = true
                        · subst c55
                          have H1 : ((quaysideref06_Name.f a0_3).bind fun t133 => (if t133 = true then (if a0_3.toList = a0_2.toList then (some false) else (if a0_4 ≥ 1 then (if a0_5 = 0 then (some (a0_6 == 0)) else (some false)) else (some false))) else (some false))) = some r := by rw [if_pos rfl] at H; exact H
                          clear H
                          have H := H1
                          clear H1
                          replace H := Option.bind_eq_some_iff.mp H
                          obtain ⟨t133, A560, H⟩ := H
                          replace H : (if t133 = true then (if a0_3.toList = a0_2.toList then (some false) else (if a0_4 ≥ 1 then (if a0_5 = 0 then (some (a0_6 == 0)) else (some false)) else (some false))) else (some false)) = some r := H
                          have A56 := Aside0.mk A560
                          clear A560
                          by_cases c57 : t133 = true
                          · subst c57
                            have H1 : (if a0_3.toList = a0_2.toList then (some false) else (if a0_4 ≥ 1 then (if a0_5 = 0 then (some (a0_6 == 0)) else (some false)) else (some false))) = some r := by rw [if_pos rfl] at H; exact H
                            clear H
                            have H := H1
                            clear H1
                            by_cases c58 : a0_3.toList = a0_2.toList
                            · rw [if_pos c58] at H
                              have c58b0 : (a0_3.toList == a0_2.toList) = true := beq_iff_eq.mpr c58
                              have c58b1 : (a0_3.toList != a0_2.toList) = false := bne_eq_false_iff_eq.mpr c58
                              clear c58
                              obtain rfl := Option.some.inj H
                              have hcz59_0 : wc.cell? ⟨gb130, 0, none⟩ = some (.int .i64 a0_0) := (blk_cell BK130.out 0).trans rfl
                              have hcz59_1 : wc.cell? ⟨gb130, 1, none⟩ = some (.string a0_1) := (blk_cell BK130.out 1).trans rfl
                              have hcz59_2 : wc.cell? ⟨gb130, 2, none⟩ = some (.string a0_2) := (blk_cell BK130.out 2).trans rfl
                              have hcz59_3 : wc.cell? ⟨gb130, 3, none⟩ = some (.string a0_3) := (blk_cell BK130.out 3).trans rfl
                              have hcz59_4 : wc.cell? ⟨gb130, 4, none⟩ = some (.int .i64 a0_4) := (blk_cell BK130.out 4).trans rfl
                              have hcz59_5 : wc.cell? ⟨gb130, 5, none⟩ = some (.int .i64 a0_5) := (blk_cell BK130.out 5).trans rfl
                              have hcz59_6 : wc.cell? ⟨gb130, 6, none⟩ = some (.int .i64 a0_6) := (blk_cell BK130.out 6).trans rfl
                              have hfz59_0 := blk_frozen BK130.out 0
                              have hfz59_1 := blk_frozen BK130.out 1
                              have hfz59_2 := blk_frozen BK130.out 2
                              have hfz59_3 := blk_frozen BK130.out 3
                              have hfz59_4 := blk_frozen BK130.out 4
                              have hfz59_5 := blk_frozen BK130.out 5
                              have hfz59_6 := blk_frozen BK130.out 6
                              go_wp2_with (first | (go_at_call 47; (with_reducible refine (quaysideref06_Name.calls a0_3 true _ A56.out).mono ?_); rintro e w' ⟨rfl, ⟨nd, rfl⟩⟩))
                              go_ret
                              exact ⟨by first | rfl | (simp [errW_none, errW_some] <;> rfl) | (simp [*, errW_none, errW_some] <;> rfl), by repeat (first | (with_reducible first | exact HB.out | apply below_alloc | apply pw_below_drewN | apply below_drew1 | refine below_set ?_ GE130.out) | exact HB.out)⟩
                            · rw [if_neg c58] at H
                              have c58b0 : (a0_3.toList == a0_2.toList) = false := beq_eq_false_iff_ne.mpr c58
                              have c58b1 : (a0_3.toList != a0_2.toList) = true := bne_iff_ne.mpr c58
                              by_cases c60 : a0_4 ≥ 1
                              · rw [if_pos c60] at H
                                have c60b0 : decide (1 ≤ a0_4) = true := decide_eq_true c60
                                clear c60
                                by_cases c61 : a0_5 = 0
                                · rw [if_pos c61] at H
                                  have c61b0 : (a0_5 == 0) = true := beq_iff_eq.mpr c61
                                  have c61b1 : (a0_5 != 0) = false := bne_eq_false_iff_eq.mpr c61
                                  clear c61
                                  obtain rfl := Option.some.inj H
                                  have hcz62_0 : wc.cell? ⟨gb130, 0, none⟩ = some (.int .i64 a0_0) := (blk_cell BK130.out 0).trans rfl
                                  have hcz62_1 : wc.cell? ⟨gb130, 1, none⟩ = some (.string a0_1) := (blk_cell BK130.out 1).trans rfl
                                  have hcz62_2 : wc.cell? ⟨gb130, 2, none⟩ = some (.string a0_2) := (blk_cell BK130.out 2).trans rfl
                                  have hcz62_3 : wc.cell? ⟨gb130, 3, none⟩ = some (.string a0_3) := (blk_cell BK130.out 3).trans rfl
                                  have hcz62_4 : wc.cell? ⟨gb130, 4, none⟩ = some (.int .i64 a0_4) := (blk_cell BK130.out 4).trans rfl
                                  have hcz62_5 : wc.cell? ⟨gb130, 5, none⟩ = some (.int .i64 a0_5) := (blk_cell BK130.out 5).trans rfl
                                  have hcz62_6 : wc.cell? ⟨gb130, 6, none⟩ = some (.int .i64 a0_6) := (blk_cell BK130.out 6).trans rfl
                                  have hfz62_0 := blk_frozen BK130.out 0
                                  have hfz62_1 := blk_frozen BK130.out 1
                                  have hfz62_2 := blk_frozen BK130.out 2
                                  have hfz62_3 := blk_frozen BK130.out 3
                                  have hfz62_4 := blk_frozen BK130.out 4
                                  have hfz62_5 := blk_frozen BK130.out 5
                                  have hfz62_6 := blk_frozen BK130.out 6
                                  go_wp2_with (first | (go_at_call 47; (with_reducible refine (quaysideref06_Name.calls a0_3 true _ A56.out).mono ?_); rintro e w' ⟨rfl, ⟨nd, rfl⟩⟩))
                                  go_ret
                                  exact ⟨by first | rfl | (simp [errW_none, errW_some] <;> rfl) | (simp [*, errW_none, errW_some] <;> rfl), by repeat (first | (with_reducible first | exact HB.out | apply below_alloc | apply pw_below_drewN | apply below_drew1 | refine below_set ?_ GE130.out) | exact HB.out)⟩
                                · rw [if_neg c61] at H
                                  have c61b0 : (a0_5 == 0) = false := beq_eq_false_iff_ne.mpr c61
                                  have c61b1 : (a0_5 != 0) = true := bne_iff_ne.mpr c61
                                  obtain rfl := Option.some.inj H
                                  have hcz63_0 : wc.cell? ⟨gb130, 0, none⟩ = some (.int .i64 a0_0) := (blk_cell BK130.out 0).trans rfl
                                  have hcz63_1 : wc.cell? ⟨gb130, 1, none⟩ = some (.string a0_1) := (blk_cell BK130.out 1).trans rfl
                                  have hcz63_2 : wc.cell? ⟨gb130, 2, none⟩ = some (.string a0_2) := (blk_cell BK130.out 2).trans rfl
                                  have hcz63_3 : wc.cell? ⟨gb130, 3, none⟩ = some (.string a0_3) := (blk_cell BK130.out 3).trans rfl
                                  have hcz63_4 : wc.cell? ⟨gb130, 4, none⟩ = some (.int .i64 a0_4) := (blk_cell BK130.out 4).trans rfl
                                  have hcz63_5 : wc.cell? ⟨gb130, 5, none⟩ = some (.int .i64 a0_5) := (blk_cell BK130.out 5).trans rfl
                                  have hcz63_6 : wc.cell? ⟨gb130, 6, none⟩ = some (.int .i64 a0_6) := (blk_cell BK130.out 6).trans rfl
                                  have hfz63_0 := blk_frozen BK130.out 0
                                  have hfz63_1 := blk_frozen BK130.out 1
                                  have hfz63_2 := blk_frozen BK130.out 2
                                  have hfz63_3 := blk_frozen BK130.out 3
                                  have hfz63_4 := blk_frozen BK130.out 4
                                  have hfz63_5 := blk_frozen BK130.out 5
                                  have hfz63_6 := blk_frozen BK130.out 6
                                  go_wp2_with (first | (go_at_call 47; (with_reducible refine (quaysideref06_Name.calls a0_3 true _ A56.out).mono ?_); rintro e w' ⟨rfl, ⟨nd, rfl⟩⟩))
                                  go_ret
                                  exact ⟨by first | rfl | (simp [errW_none, errW_some] <;> rfl) | (simp [*, errW_none, errW_some] <;> rfl), by repeat (first | (with_reducible first | exact HB.out | apply below_alloc | apply pw_below_drewN | apply below_drew1 | refine below_set ?_ GE130.out) | exact HB.out)⟩
                              · rw [if_neg c60] at H
                                have c60b0 : decide (1 ≤ a0_4) = false := decide_eq_false c60
                                clear c60
                                obtain rfl := Option.some.inj H
                                have hcz64_0 : wc.cell? ⟨gb130, 0, none⟩ = some (.int .i64 a0_0) := (blk_cell BK130.out 0).trans rfl
                                have hcz64_1 : wc.cell? ⟨gb130, 1, none⟩ = some (.string a0_1) := (blk_cell BK130.out 1).trans rfl
                                have hcz64_2 : wc.cell? ⟨gb130, 2, none⟩ = some (.string a0_2) := (blk_cell BK130.out 2).trans rfl
                                have hcz64_3 : wc.cell? ⟨gb130, 3, none⟩ = some (.string a0_3) := (blk_cell BK130.out 3).trans rfl
                                have hcz64_4 : wc.cell? ⟨gb130, 4, none⟩ = some (.int .i64 a0_4) := (blk_cell BK130.out 4).trans rfl
                                have hcz64_5 : wc.cell? ⟨gb130, 5, none⟩ = some (.int .i64 a0_5) := (blk_cell BK130.out 5).trans rfl
                                have hcz64_6 : wc.cell? ⟨gb130, 6, none⟩ = some (.int .i64 a0_6) := (blk_cell BK130.out 6).trans rfl
                                have hfz64_0 := blk_frozen BK130.out 0
                                have hfz64_1 := blk_frozen BK130.out 1
                                have hfz64_2 := blk_frozen BK130.out 2
                                have hfz64_3 := blk_frozen BK130.out 3
                                have hfz64_4 := blk_frozen BK130.out 4
                                have hfz64_5 := blk_frozen BK130.out 5
                                have hfz64_6 := blk_frozen BK130.out 6
                                go_wp2_with (first | (go_at_call 47; (with_reducible refine (quaysideref06_Name.calls a0_3 true _ A56.out).mono ?_); rintro e w' ⟨rfl, ⟨nd, rfl⟩⟩))
                                go_ret
                                exact ⟨by first | rfl | (simp [errW_none, errW_some] <;> rfl) | (simp [*, errW_none, errW_some] <;> rfl), by repeat (first | (with_reducible first | exact HB.out | apply below_alloc | apply pw_below_drewN | apply below_drew1 | refine below_set ?_ GE130.out) | exact HB.out)⟩
                          · replace c57 := Bool.eq_false_iff.mpr c57
                            subst c57
                            have H1 : (some false) = some r := by rw [if_neg (show ¬ (false = true) by decide)] at H; exact H
                            clear H
                            have H := H1
                            clear H1
                            obtain rfl := Option.some.inj H
                            have hcz65_0 : wc.cell? ⟨gb130, 0, none⟩ = some (.int .i64 a0_0) := (blk_cell BK130.out 0).trans rfl
                            have hcz65_1 : wc.cell? ⟨gb130, 1, none⟩ = some (.string a0_1) := (blk_cell BK130.out 1).trans rfl
                            have hcz65_2 : wc.cell? ⟨gb130, 2, none⟩ = some (.string a0_2) := (blk_cell BK130.out 2).trans rfl
                            have hcz65_3 : wc.cell? ⟨gb130, 3, none⟩ = some (.string a0_3) := (blk_cell BK130.out 3).trans rfl
                            have hcz65_4 : wc.cell? ⟨gb130, 4, none⟩ = some (.int .i64 a0_4) := (blk_cell BK130.out 4).trans rfl
                            have hcz65_5 : wc.cell? ⟨gb130, 5, none⟩ = some (.int .i64 a0_5) := (blk_cell BK130.out 5).trans rfl
                            have hcz65_6 : wc.cell? ⟨gb130, 6, none⟩ = some (.int .i64 a0_6) := (blk_cell BK130.out 6).trans rfl
                            have hfz65_0 := blk_frozen BK130.out 0
                            have hfz65_1 := blk_frozen BK130.out 1
                            have hfz65_2 := blk_frozen BK130.out 2
                            have hfz65_3 := blk_frozen BK130.out 3
                            have hfz65_4 := blk_frozen BK130.out 4
                            have hfz65_5 := blk_frozen BK130.out 5
                            have hfz65_6 := blk_frozen BK130.out 6
                            go_wp2_with (first | (go_at_call 47; (with_reducible refine (quaysideref06_Name.calls a0_3 false _ A56.out).mono ?_); rintro e w' ⟨rfl, ⟨nd, rfl⟩⟩))
                            go_ret
                            exact ⟨by first | rfl | (simp [errW_none, errW_some] <;> rfl) | (simp [*, errW_none, errW_some] <;> rfl), by repeat (first | (with_reducible first | exact HB.out | apply below_alloc | apply pw_below_drewN | apply below_drew1 | refine below_set ?_ GE130.out) | exact HB.out)⟩
                        · replace c55 := Bool.eq_false_iff.mpr c55
                          subst c55
                          have H1 : (some false) = some r := by rw [if_neg (show ¬ (false = true) by decide)] at H; exact H
                          clear H
                          have H := H1
                          clear H1
                          obtain rfl := Option.some.inj H
                          go_wp2
                          go_ret
                          exact ⟨by first | rfl | (simp [errW_none, errW_some] <;> rfl) | (simp [*, errW_none, errW_some] <;> rfl), by repeat (first | (with_reducible first | exact HB.out | apply below_alloc | apply pw_below_drewN | apply below_drew1 | refine below_set ?_ GE130.out) | exact HB.out)⟩
                      · rw [if_neg c54] at H
                        have c54b0 : (a0_0 == 6) = false := beq_eq_false_iff_ne.mpr c54
                        have c54b1 : (a0_0 != 6) = true := bne_iff_ne.mpr c54
                        by_cases c66 : a0_0 = 7
                        · rw [if_pos c66] at H
                          have c66b0 : (a0_0 == 7) = true := beq_iff_eq.mpr c66
                          have c66b1 : (a0_0 != 7) = false := bne_eq_false_iff_eq.mpr c66
                          clear c66
                          by_cases c67 : x3_1 = true
                          · subst c67
                            have H1 : (if a0_3.toList = ([] : List UInt8) then (if a0_4 = 0 then (some false) else (if a0_5 = 0 then (some (a0_6 == 0)) else (some false))) else (some false)) = some r := by rw [if_pos rfl] at H; exact H
                            clear H
                            have H := H1
                            clear H1
                            by_cases c68 : a0_3.toList = ([] : List UInt8)
                            · rw [if_pos c68] at H
                              have c68b0 : (a0_3.toList == ([] : List UInt8)) = true := beq_iff_eq.mpr c68
                              have c68b1 : (a0_3.toList != ([] : List UInt8)) = false := bne_eq_false_iff_eq.mpr c68
                              clear c68
                              by_cases c69 : a0_4 = 0
                              · rw [if_pos c69] at H
                                have c69b0 : (a0_4 == 0) = true := beq_iff_eq.mpr c69
                                have c69b1 : (a0_4 != 0) = false := bne_eq_false_iff_eq.mpr c69
                                clear c69
                                obtain rfl := Option.some.inj H
                                have hcz70_0 : wc.cell? ⟨gb130, 0, none⟩ = some (.int .i64 a0_0) := (blk_cell BK130.out 0).trans rfl
                                have hcz70_1 : wc.cell? ⟨gb130, 1, none⟩ = some (.string a0_1) := (blk_cell BK130.out 1).trans rfl
                                have hcz70_2 : wc.cell? ⟨gb130, 2, none⟩ = some (.string a0_2) := (blk_cell BK130.out 2).trans rfl
                                have hcz70_3 : wc.cell? ⟨gb130, 3, none⟩ = some (.string a0_3) := (blk_cell BK130.out 3).trans rfl
                                have hcz70_4 : wc.cell? ⟨gb130, 4, none⟩ = some (.int .i64 a0_4) := (blk_cell BK130.out 4).trans rfl
                                have hcz70_5 : wc.cell? ⟨gb130, 5, none⟩ = some (.int .i64 a0_5) := (blk_cell BK130.out 5).trans rfl
                                have hcz70_6 : wc.cell? ⟨gb130, 6, none⟩ = some (.int .i64 a0_6) := (blk_cell BK130.out 6).trans rfl
                                have hfz70_0 := blk_frozen BK130.out 0
                                have hfz70_1 := blk_frozen BK130.out 1
                                have hfz70_2 := blk_frozen BK130.out 2
                                have hfz70_3 := blk_frozen BK130.out 3
                                have hfz70_4 := blk_frozen BK130.out 4
                                have hfz70_5 := blk_frozen BK130.out 5
                                have hfz70_6 := blk_frozen BK130.out 6
                                go_wp2
                                go_ret
                                exact ⟨by first | rfl | (simp [errW_none, errW_some] <;> rfl) | (simp [*, errW_none, errW_some] <;> rfl), by repeat (first | (with_reducible first | exact HB.out | apply below_alloc | apply pw_below_drewN | apply below_drew1 | refine below_set ?_ GE130.out) | exact HB.out)⟩
                              · rw [if_neg c69] at H
                                have c69b0 : (a0_4 == 0) = false := beq_eq_false_iff_ne.mpr c69
                                have c69b1 : (a0_4 != 0) = true := bne_iff_ne.mpr c69
                                by_cases c71 : a0_5 = 0
                                · rw [if_pos c71] at H
                                  have c71b0 : (a0_5 == 0) = true := beq_iff_eq.mpr c71
                                  have c71b1 : (a0_5 != 0) = false := bne_eq_false_iff_eq.mpr c71
                                  clear c71
                                  obtain rfl := Option.some.inj H
                                  have hcz72_0 : wc.cell? ⟨gb130, 0, none⟩ = some (.int .i64 a0_0) := (blk_cell BK130.out 0).trans rfl
                                  have hcz72_1 : wc.cell? ⟨gb130, 1, none⟩ = some (.string a0_1) := (blk_cell BK130.out 1).trans rfl
                                  have hcz72_2 : wc.cell? ⟨gb130, 2, none⟩ = some (.string a0_2) := (blk_cell BK130.out 2).trans rfl
                                  have hcz72_3 : wc.cell? ⟨gb130, 3, none⟩ = some (.string a0_3) := (blk_cell BK130.out 3).trans rfl
                                  have hcz72_4 : wc.cell? ⟨gb130, 4, none⟩ = some (.int .i64 a0_4) := (blk_cell BK130.out 4).trans rfl
                                  have hcz72_5 : wc.cell? ⟨gb130, 5, none⟩ = some (.int .i64 a0_5) := (blk_cell BK130.out 5).trans rfl
                                  have hcz72_6 : wc.cell? ⟨gb130, 6, none⟩ = some (.int .i64 a0_6) := (blk_cell BK130.out 6).trans rfl
                                  have hfz72_0 := blk_frozen BK130.out 0
                                  have hfz72_1 := blk_frozen BK130.out 1
                                  have hfz72_2 := blk_frozen BK130.out 2
                                  have hfz72_3 := blk_frozen BK130.out 3
                                  have hfz72_4 := blk_frozen BK130.out 4
                                  have hfz72_5 := blk_frozen BK130.out 5
                                  have hfz72_6 := blk_frozen BK130.out 6
                                  go_wp2
                                  go_ret
                                  exact ⟨by first | rfl | (simp [errW_none, errW_some] <;> rfl) | (simp [*, errW_none, errW_some] <;> rfl), by repeat (first | (with_reducible first | exact HB.out | apply below_alloc | apply pw_below_drewN | apply below_drew1 | refine below_set ?_ GE130.out) | exact HB.out)⟩
                                · rw [if_neg c71] at H
                                  have c71b0 : (a0_5 == 0) = false := beq_eq_false_iff_ne.mpr c71
                                  have c71b1 : (a0_5 != 0) = true := bne_iff_ne.mpr c71
                                  obtain rfl := Option.some.inj H
                                  have hcz73_0 : wc.cell? ⟨gb130, 0, none⟩ = some (.int .i64 a0_0) := (blk_cell BK130.out 0).trans rfl
                                  have hcz73_1 : wc.cell? ⟨gb130, 1, none⟩ = some (.string a0_1) := (blk_cell BK130.out 1).trans rfl
                                  have hcz73_2 : wc.cell? ⟨gb130, 2, none⟩ = some (.string a0_2) := (blk_cell BK130.out 2).trans rfl
                                  have hcz73_3 : wc.cell? ⟨gb130, 3, none⟩ = some (.string a0_3) := (blk_cell BK130.out 3).trans rfl
                                  have hcz73_4 : wc.cell? ⟨gb130, 4, none⟩ = some (.int .i64 a0_4) := (blk_cell BK130.out 4).trans rfl
                                  have hcz73_5 : wc.cell? ⟨gb130, 5, none⟩ = some (.int .i64 a0_5) := (blk_cell BK130.out 5).trans rfl
                                  have hcz73_6 : wc.cell? ⟨gb130, 6, none⟩ = some (.int .i64 a0_6) := (blk_cell BK130.out 6).trans rfl
                                  have hfz73_0 := blk_frozen BK130.out 0
                                  have hfz73_1 := blk_frozen BK130.out 1
                                  have hfz73_2 := blk_frozen BK130.out 2
                                  have hfz73_3 := blk_frozen BK130.out 3
                                  have hfz73_4 := blk_frozen BK130.out 4
                                  have hfz73_5 := blk_frozen BK130.out 5
                                  have hfz73_6 := blk_frozen BK130.out 6
                                  go_wp2
                                  go_ret
                                  exact ⟨by first | rfl | (simp [errW_none, errW_some] <;> rfl) | (simp [*, errW_none, errW_some] <;> rfl), by repeat (first | (with_reducible first | exact HB.out | apply below_alloc | apply pw_below_drewN | apply below_drew1 | refine below_set ?_ GE130.out) | exact HB.out)⟩
                            · rw [if_neg c68] at H
                              have c68b0 : (a0_3.toList == ([] : List UInt8)) = false := beq_eq_false_iff_ne.mpr c68
                              have c68b1 : (a0_3.toList != ([] : List UInt8)) = true := bne_iff_ne.mpr c68
                              obtain rfl := Option.some.inj H
                              have hcz74_0 : wc.cell? ⟨gb130, 0, none⟩ = some (.int .i64 a0_0) := (blk_cell BK130.out 0).trans rfl
                              have hcz74_1 : wc.cell? ⟨gb130, 1, none⟩ = some (.string a0_1) := (blk_cell BK130.out 1).trans rfl
                              have hcz74_2 : wc.cell? ⟨gb130, 2, none⟩ = some (.string a0_2) := (blk_cell BK130.out 2).trans rfl
                              have hcz74_3 : wc.cell? ⟨gb130, 3, none⟩ = some (.string a0_3) := (blk_cell BK130.out 3).trans rfl
                              have hcz74_4 : wc.cell? ⟨gb130, 4, none⟩ = some (.int .i64 a0_4) := (blk_cell BK130.out 4).trans rfl
                              have hcz74_5 : wc.cell? ⟨gb130, 5, none⟩ = some (.int .i64 a0_5) := (blk_cell BK130.out 5).trans rfl
                              have hcz74_6 : wc.cell? ⟨gb130, 6, none⟩ = some (.int .i64 a0_6) := (blk_cell BK130.out 6).trans rfl
                              have hfz74_0 := blk_frozen BK130.out 0
                              have hfz74_1 := blk_frozen BK130.out 1
                              have hfz74_2 := blk_frozen BK130.out 2
                              have hfz74_3 := blk_frozen BK130.out 3
                              have hfz74_4 := blk_frozen BK130.out 4
                              have hfz74_5 := blk_frozen BK130.out 5
                              have hfz74_6 := blk_frozen BK130.out 6
                              go_wp2
                              go_ret
                              exact ⟨by first | rfl | (simp [errW_none, errW_some] <;> rfl) | (simp [*, errW_none, errW_some] <;> rfl), by repeat (first | (with_reducible first | exact HB.out | apply below_alloc | apply pw_below_drewN | apply below_drew1 | refine below_set ?_ GE130.out) | exact HB.out)⟩
                          · replace c67 := Bool.eq_false_iff.mpr c67
                            subst c67
                            have H1 : (some false) = some r := by rw [if_neg (show ¬ (false = true) by decide)] at H; exact H
                            clear H
                            have H := H1
                            clear H1
                            obtain rfl := Option.some.inj H
                            go_wp2
                            go_ret
                            exact ⟨by first | rfl | (simp [errW_none, errW_some] <;> rfl) | (simp [*, errW_none, errW_some] <;> rfl), by repeat (first | (with_reducible first | exact HB.out | apply below_alloc | apply pw_below_drewN | apply below_drew1 | refine below_set ?_ GE130.out) | exact HB.out)⟩
                        · rw [if_neg c66] at H
                          have c66b0 : (a0_0 == 7) = false := beq_eq_false_iff_ne.mpr c66
                          have c66b1 : (a0_0 != 7) = true := bne_iff_ne.mpr c66
                          obtain rfl := Option.some.inj H
                          go_wp2
                          go_ret
                          exact ⟨by first | rfl | (simp [errW_none, errW_some] <;> rfl) | (simp [*, errW_none, errW_some] <;> rfl), by repeat (first | (with_reducible first | exact HB.out | apply below_alloc | apply pw_below_drewN | apply below_drew1 | refine below_set ?_ GE130.out) | exact HB.out)⟩

end Go.Proofs.Ytofkhcgkahkagaa.PPromiseLines
