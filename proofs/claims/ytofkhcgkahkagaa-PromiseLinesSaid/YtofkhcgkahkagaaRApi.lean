/- The reference's Line, At and Earliest. -/
import Derived.Test.YtofkhcgkahkagaaRMay
import Derived.Test.YtofkhcgkahkagaaRLine
import Derived.Test.YtofkhcgkahkagaaQ9
namespace Go.Proofs.Ytofkhcgkahkagaa
open Go.RowKit Go.Proofs.YtofkhcgkahkagaaW.PrintWords Go.Proofs.YtofkhcgkahkagaaW.PrintLast Go.Proofs.YtofkhcgkahkagaaW.PrintMore Go.Proofs.Ytofkhcgkahkagaa.PPromiseLines
set_option linter.unusedVariables false
set_option linter.unusedSimpArgs false

theorem rmayR_loop (l : List S44) (hn : l.length ≤ 1000) : ∀ d k i : Nat, i + d = l.length → d < k → quaysideref33_May.l0 k l (i : Int) = some ((l.drop i).all recB) := by
  intro d
  induction d with
  | zero =>
    intro k i h1 h2
    obtain ⟨k, rfl⟩ : ∃ m, k = m + 1 := ⟨k - 1, by omega⟩
    rw [quaysideref33_May.l0, if_neg (by omega), List.drop_of_length_le (by omega), decide_eq_true (by omega)]
    rfl
  | succ d ih =>
    intro k i h1 h2
    obtain ⟨k, rfl⟩ : ∃ m, k = m + 1 := ⟨k - 1, by omega⟩
    have hi : i < l.length := by omega
    have hI := ih k (i + 1) (by omega) (by omega)
    rw [quaysideref33_May.l0, if_pos (by omega), if_pos (by omega), rd_R hi, wrap_next hi (by omega), name6_f, Option.bind_some, List.drop_eq_getElem_cons hi, List.all_cons]
    unfold recB
    by_cases c1 : nameB l[i].f0 = true
    · rw [if_pos c1]
      by_cases c2 : l[i].f1 < 1
      · rw [if_pos c2]
        have : ¬ 1 ≤ l[i].f1 := by omega
        simp [c1, this]
      · rw [if_neg c2]
        have c2' : 1 ≤ l[i].f1 := by omega
        by_cases c3 : l[i].f2 < 0
        · rw [if_pos c3]
          have : ¬ 0 ≤ l[i].f2 := by omega
          simp [c1, c2', this]
        · rw [if_neg c3, hI]
          have c3' : 0 ≤ l[i].f2 := by omega
          simp [c1, c2', c3']
          rfl
    · rw [if_neg c1]
      simp [c1]
theorem rmayR_law (l : List S44) (hn : l.length ≤ 20) : quaysideref33_May.f 1000 l = some (mayB l) := by
  have := rmayR_loop l (by omega) l.length 1000 0 (by omega) (by omega)
  unfold quaysideref33_May.f mayB
  rw [decide_eq_true (show l.length ≤ 1000 by omega), Bool.true_and]
  exact this

/-- What is free at a time, without what is taken; and the line of it. -/
def fR (l0 : List S100) (l1 : List S107) (l3 : List S44) (sku : ByteArray) (t : Int) : Int × Int := sumOf (frL l0 l1 l3 [] sku t)
noncomputable def rlineA (l0 : List S100) (l1 : List S107) (l2 : List S111) (ops : Int) (l3 : List S44) (sku : ByteArray) : List S58 × Int :=
  if ckB l0 l1 l2 ops = true ∧ mayB l3 = true then lineG (fR l0 l1 l3 sku) (timesR l1 l3 []) [] else ([], 1)
noncomputable def ratA (l0 : List S100) (l1 : List S107) (l2 : List S111) (ops : Int) (l3 : List S44) (sku : ByteArray) (time : Int) : Int × Int :=
  if ckB l0 l1 l2 ops = true ∧ mayB l3 = true ∧ 0 ≤ time then fR l0 l1 l3 sku time else (0, 1)

section
variable (l0 : List S100) (l1 : List S107) (l2 : List S111) (A0 : Option Addr) (c0 : Nat) (A1 : Option Addr) (c1 : Nat) (A2 : Option Addr) (c2 : Nat) (ops : Int) (A3 : Option Addr) (c3 : Nat) (l3 : List S44) (sku : ByteArray) (w : World)
set_option maxRecDepth 100000 in
theorem rline_api (hL : LedgerAt l0 l1 l2 A0 c0 A1 c1 A2 c2 w) (hf : FewL l0 l1 l2) (hC3 : Kd.C k44 w A3 l3.length l3) (hc3 : l3.length ≤ c3) (hl3 : l3.length ≤ 20) (h64 : ∀ t, In64 (frL l0 l1 l3 [] sku t)) :
    Calls Try.prog 21 #[.agg #[.slice A0 l0.length c0, .slice A1 l1.length c1, .slice A2 l2.length c2, .int .i64 ops], .slice A3 l3.length c3, .string sku] w (LnEnd w (rlineA l0 l1 l2 ops l3 sku)) := by
  have hu := Try.underlying41
  have hbox := fun o => (Below.refl w.heap.size w).alloc (Nat.le_refl _) o
  obtain ⟨W0, hW0⟩ : ∃ W0, w.alloc (.cells #[.slice A0 l0.length c0, .slice A1 l1.length c1, .slice A2 l2.length c2, .int .i64 ops] 41) = W0 := ⟨_, rfl⟩
  have hL0 : CkL w A0 l0.length c0 A1 l1.length c1 A2 l2.length c2 ops W0 := by rw [← hW0]; exact ⟨hbox _, heap_alloc_new w _⟩
  have hd0 : W0.cell? ⟨w.heap.size, 0, none⟩ = some (.slice A0 l0.length c0) := (blk_cell hL0.led 0).trans rfl
  have hd1 : W0.cell? ⟨w.heap.size, 1, none⟩ = some (.slice A1 l1.length c1) := (blk_cell hL0.led 1).trans rfl
  have hd2 : W0.cell? ⟨w.heap.size, 2, none⟩ = some (.slice A2 l2.length c2) := (blk_cell hL0.led 2).trans rfl
  have hd3 : W0.cell? ⟨w.heap.size, 3, none⟩ = some (.int .i64 ops) := (blk_cell hL0.led 3).trans rfl
  have hcheck := rmay_calls l0 l1 l2 A0 c0 A1 c1 A2 c2 ops W0 (hL.below hL0.low) hf
  clear hbox
  go_enter Try.func21, Try.ntmps21
  go_wp2_with fail
  refine hcheck.mono ?_
  clear hcheck hW0 hd0 hd1 hd2 hd3
  rintro e w2 ⟨rfl, hb2⟩
  have hL2 := hL0.below hb2
  have hlow := hL2.low
  cases hk : ckB l0 l1 l2 ops with
  | false =>
    have hl : rlineA l0 l1 l2 ops l3 sku = ([], 1) := by unfold rlineA; rw [if_neg (by rw [hk]; simp)]
    have Hl := Lib.hid hl
    clear hl
    go_wp2
    go_ret2
    exact ⟨none, 0, by rw [Hl.out]; rfl, by rw [Hl.out]; exact Kd.R_nil _ _ _ _ _, hlow⟩
  | true =>
    have hmay := quaysideref33_May.calls 1000 A3 c3 l3 (mayB l3) w2 (Kd.C_below hC3 hlow) hc3 (rmayR_law l3 hl3)
    go_wp2_with fail
    refine hmay.mono ?_
    clear hmay
    rintro e w3 ⟨rfl, hdr⟩
    have hb3 := hdr.below
    have hL3 := hL2.below hb3
    have hlow3 := hL3.low
    clear hdr hb3 hL2
    cases hm : mayB l3 with
    | false =>
      have hl : rlineA l0 l1 l2 ops l3 sku = ([], 1) := by unfold rlineA; rw [if_neg (by rw [hm]; simp)]
      have Hl := Lib.hid hl
      clear hl
      go_wp2
      go_ret2
      exact ⟨none, 0, by rw [Hl.out]; rfl, by rw [Hl.out]; exact Kd.R_nil _ _ _ _ _, hlow3⟩
    | true =>
      have hl : rlineA l0 l1 l2 ops l3 sku = lineG (fR l0 l1 l3 sku) (timesR l1 l3 []) [] := by unfold rlineA; rw [if_pos ⟨hk, hm⟩]
      have hline := rline_calls l0 l1 l2 A0 c0 A1 c1 A2 c2 ops A3 c3 l3 none 0 [] sku w3 (hL.below hlow3) hf (Kd.C_below hC3 hlow3) (Kd.C_nil _ _) hc3 (Nat.le_refl _) hl3 (by simp) h64
      have hl2 : lineG (fun t => sumOf (frL l0 l1 l3 [] sku t)) (timesR l1 l3 []) [] = rlineA l0 l1 l2 ops l3 sku := hl.symm
      rw [hl2] at hline
      obtain ⟨R, hR⟩ : ∃ R, rlineA l0 l1 l2 ops l3 sku = R := ⟨_, rfl⟩
      rw [hR] at hline
      have HR := Lib.hid hR
      have hd0 : w3.cell? ⟨w.heap.size, 0, none⟩ = some (.slice A0 l0.length c0) := (blk_cell hL3.led 0).trans rfl
      have hd1 : w3.cell? ⟨w.heap.size, 1, none⟩ = some (.slice A1 l1.length c1) := (blk_cell hL3.led 1).trans rfl
      have hd2 : w3.cell? ⟨w.heap.size, 2, none⟩ = some (.slice A2 l2.length c2) := (blk_cell hL3.led 2).trans rfl
      have hd3 : w3.cell? ⟨w.heap.size, 3, none⟩ = some (.int .i64 ops) := (blk_cell hL3.led 3).trans rfl
      clear hl hl2 hR hL3
      go_wp2_with fail
      refine hline.mono ?_
      clear hline
      rintro e w4 ⟨Av, cv, rfl, hR4, hb4⟩
      go_wp2
      go_ret2
      exact ⟨Av, cv, by rw [HR.out]; rfl, by rw [HR.out]; exact Kd.R_lower (Kd.R_mono hR4 (fun k hk => Nat.le_trans hlow3.size hk)) hlow3.size, below_w hlow3 hb4⟩

set_option maxRecDepth 100000 in
theorem rat_api (time : Int) (hL : LedgerAt l0 l1 l2 A0 c0 A1 c1 A2 c2 w) (hf : FewL l0 l1 l2) (hC3 : Kd.C k44 w A3 l3.length l3) (hc3 : l3.length ≤ c3) (hl3 : l3.length ≤ 20) (h64 : ∀ t, In64 (frL l0 l1 l3 [] sku t)) :
    Calls Try.prog 23 #[.agg #[.slice A0 l0.length c0, .slice A1 l1.length c1, .slice A2 l2.length c2, .int .i64 ops], .slice A3 l3.length c3, .string sku, .int .i64 time] w fun e w' => e = .returned (.tuple #[.int .i64 (ratA l0 l1 l2 ops l3 sku time).1, .int .i64 (ratA l0 l1 l2 ops l3 sku time).2]) ∧ Below w.heap.size w w' := by
  have hu := Try.underlying41
  have hbox := fun o => (Below.refl w.heap.size w).alloc (Nat.le_refl _) o
  obtain ⟨W0, hW0⟩ : ∃ W0, w.alloc (.cells #[.slice A0 l0.length c0, .slice A1 l1.length c1, .slice A2 l2.length c2, .int .i64 ops] 41) = W0 := ⟨_, rfl⟩
  have hL0 : CkL w A0 l0.length c0 A1 l1.length c1 A2 l2.length c2 ops W0 := by rw [← hW0]; exact ⟨hbox _, heap_alloc_new w _⟩
  have hd0 : W0.cell? ⟨w.heap.size, 0, none⟩ = some (.slice A0 l0.length c0) := (blk_cell hL0.led 0).trans rfl
  have hd1 : W0.cell? ⟨w.heap.size, 1, none⟩ = some (.slice A1 l1.length c1) := (blk_cell hL0.led 1).trans rfl
  have hd2 : W0.cell? ⟨w.heap.size, 2, none⟩ = some (.slice A2 l2.length c2) := (blk_cell hL0.led 2).trans rfl
  have hd3 : W0.cell? ⟨w.heap.size, 3, none⟩ = some (.int .i64 ops) := (blk_cell hL0.led 3).trans rfl
  have hcheck := rmay_calls l0 l1 l2 A0 c0 A1 c1 A2 c2 ops W0 (hL.below hL0.low) hf
  clear hbox
  go_enter Try.func23, Try.ntmps23
  go_wp2_with fail
  refine hcheck.mono ?_
  clear hcheck hW0 hd0 hd1 hd2 hd3
  rintro e w2 ⟨rfl, hb2⟩
  have hL2 := hL0.below hb2
  have hlow := hL2.low
  cases hk : ckB l0 l1 l2 ops with
  | false =>
    have hl : ratA l0 l1 l2 ops l3 sku time = (0, 1) := by unfold ratA; rw [if_neg (by rw [hk]; simp)]
    have Hl := Lib.hid hl
    clear hl
    go_wp2
    go_ret2
    exact ⟨by rw [Hl.out]; rfl, hlow⟩
  | true =>
    have hmay := quaysideref33_May.calls 1000 A3 c3 l3 (mayB l3) w2 (Kd.C_below hC3 hlow) hc3 (rmayR_law l3 hl3)
    go_wp2_with fail
    refine hmay.mono ?_
    clear hmay
    rintro e w3 ⟨rfl, hdr⟩
    have hb3 := hdr.below
    have hL3 := hL2.below hb3
    have hlow3 := hL3.low
    clear hdr hb3 hL2
    cases hm : mayB l3 with
    | false =>
      have hl : ratA l0 l1 l2 ops l3 sku time = (0, 1) := by unfold ratA; rw [if_neg (by rw [hm]; simp)]
      have Hl := Lib.hid hl
      clear hl
      go_wp2
      go_ret2
      exact ⟨by rw [Hl.out]; rfl, hlow3⟩
    | true =>
      by_cases hti : 0 ≤ time
      · have htb : decide (time < 0) = false := decide_eq_false (by omega)
        have hl : ratA l0 l1 l2 ops l3 sku time = fR l0 l1 l3 sku time := by unfold ratA; rw [if_pos ⟨hk, hm, hti⟩]
        have hline := rfree_calls l0 l1 A0 c0 A1 c1 A2 l2.length c2 ops A3 c3 l3 none 0 [] sku 0 time w3 (Kd.C_below hL.r0 hlow3) (Kd.C_below hL.r1 hlow3) (Kd.C_below hC3 hlow3) (Kd.C_nil _ _) (by have := hf.1; have := hf.2.1; simp; omega) hL.h0 hL.h1 hc3 (Nat.le_refl _) (h64 time)
        obtain ⟨⟨x1, x2⟩, hR⟩ : ∃ R, sumOf (frL l0 l1 l3 [] sku time) = R := ⟨_, rfl⟩
        rw [hR] at hline
        have HR := Lib.hid (show ratA l0 l1 l2 ops l3 sku time = (x1, x2) from hl.trans hR)
        have hd0 : w3.cell? ⟨w.heap.size, 0, none⟩ = some (.slice A0 l0.length c0) := (blk_cell hL3.led 0).trans rfl
        have hd1 : w3.cell? ⟨w.heap.size, 1, none⟩ = some (.slice A1 l1.length c1) := (blk_cell hL3.led 1).trans rfl
        have hd2 : w3.cell? ⟨w.heap.size, 2, none⟩ = some (.slice A2 l2.length c2) := (blk_cell hL3.led 2).trans rfl
        have hd3 : w3.cell? ⟨w.heap.size, 3, none⟩ = some (.int .i64 ops) := (blk_cell hL3.led 3).trans rfl
        clear hl hR hL3
        go_wp2_with fail
        refine hline.mono ?_
        clear hline
        rintro e w4 ⟨rfl, hb4⟩
        go_wp2
        go_ret2
        exact ⟨by rw [HR.out]; rfl, below_w hlow3 hb4⟩
      · have htb : decide (time < 0) = true := decide_eq_true (by omega)
        have hl : ratA l0 l1 l2 ops l3 sku time = (0, 1) := by unfold ratA; rw [if_neg (fun h => hti h.2.2)]
        have Hl := Lib.hid hl
        clear hl
        go_wp2
        go_ret2
        exact ⟨by rw [Hl.out]; rfl, hlow3⟩
end
end Go.Proofs.Ytofkhcgkahkagaa
