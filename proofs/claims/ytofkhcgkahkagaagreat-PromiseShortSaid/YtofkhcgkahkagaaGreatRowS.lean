/- The row of the law PromiseShort. (For the seat of PromiseShort alone.) -/
import Derived.Test.YtofkhcgkahkagaaGreatPlain
import Derived.Test.YtofkhcgkahkagaaGreatRShort
import Derived.Test.YtofkhcgkahkagaaGreatLawW
import Derived.BigQuiet
import Derived.Test.YtofkhcgkahkagaaGreatRows
import Derived.Test.YtofkhcgkahkagaaGreatStL
import Derived.Test.YtofkhcgkahkagaaGreatPRow
import Derived.WalkKit
import Derived.ProofKit
import Derived.OpenShut
import Derived.ShutString
import Derived.ChangeOld
import Derived.Below
import Derived.SizedLaws
/- The line with what is taken: the program's and the reference's are one. -/
namespace Go.Proofs.YtofkhcgkahkagaaGreat
open Go.RowKit Go.Proofs.YtofkhcgkahkagaaGreatW.PrintWords Go.Proofs.YtofkhcgkahkagaaGreatW.PrintLast Go.Proofs.YtofkhcgkahkagaaGreatW.PrintMore Go.Proofs.YtofkhcgkahkagaaGreat.PPromiseShort
set_option linter.unusedVariables false
set_option linter.unusedSimpArgs false

theorem free_taken (sku : ByteArray) (t : Int) : ∀ l : List S103, freeL t (chTaken sku l) = frT sku t l
  | [] => rfl
  | s :: l => by
    have ih := free_taken sku t l
    have e1 : chTaken sku (s :: l) = (if (s.f0.toList == sku.toList) = true then [(s.f2, wrap64 (-s.f1))] else []) ++ chTaken sku l := by
      unfold chTaken
      rw [List.filter_cons]
      split <;> rfl
    have e2 : frT sku t (s :: l) = (if ((s.f0.toList == sku.toList) && decide (s.f2 ≤ t)) = true then [wrap64 (-s.f1)] else []) ++ frT sku t l := by
      unfold frT
      rw [List.filter_cons]
      split <;> rfl
    rw [e1, e2, freeL_app, ih]
    by_cases c : (s.f0.toList == sku.toList) = true
    · by_cases c2 : s.f2 ≤ t
      · simp [c, c2, freeL]
      · simp [c, c2, freeL]
    · simp [c, freeL]
/-- The premises, with what is taken. -/
def Took (l4 : List S103) : Prop := ∀ r ∈ l4, 0 ≤ r.f2 ∧ r.f2 ≤ 9223372036854775807
theorem took_of {l4 : List S103} (hr : ∀ r ∈ l4, RecG r) (hm : mayB l4 = true) : Took l4 := fun r hh => by
  unfold mayB at hm
  rw [Bool.and_eq_true] at hm
  have h1 := List.all_eq_true.1 hm.2 r hh
  unfold recB at h1
  simp at h1
  exact ⟨h1.2, (hr r hh).2.2.2⟩
section
variable {l0 : List S165} {l1 : List S172} {l2 : List S176} {l3 l4 : List S103}
theorem sum_eqT (hg : Good l0 l1 l3) (sku : ByteArray) (t : Int) (h0 : 0 ≤ t) (hm : t ≤ 9223372036854775807) : (freeL t (toldF l0 l1 l3 l4 sku)).sum = (frL l0 l1 l3 l4 sku t).sum := by
  unfold toldF frL
  rw [freeL_app, freeL_app, freeL_app, free_stocks sku t h0, free_coming, free_taken]
  simp only [List.sum_append]
  rw [free_holds sku t h0 hm l1 hg.holds]
  omega
theorem free_eqT (hg : Good l0 l1 l3) (sku : ByteArray) (t : Int) (h0 : 0 ≤ t) (hm : t ≤ 9223372036854775807) : sumAt (toldF l0 l1 l3 l4 sku) t = sumOf (frL l0 l1 l3 l4 sku t) := by
  unfold sumAt sumOf
  rw [sum_eqT hg sku t h0 hm]
theorem told_timesT (hg : Good l0 l1 l3) (sku : ByteArray) : ∀ c ∈ (toldF l0 l1 l3 l4 sku).map (fun x => x.1), c ∈ allT l1 l3 l4 := by
  intro c hc
  obtain ⟨x, hx, rfl⟩ := List.mem_map.1 hc
  unfold toldF at hx
  unfold allT
  simp only [List.mem_append] at hx ⊢
  rcases hx with ((hx | hx) | hx) | hx
  · unfold chStocks at hx
    obtain ⟨s, _, rfl⟩ := List.mem_map.1 hx
    exact .inl (.inl (.inl (by simp)))
  · unfold chHolds at hx
    obtain ⟨h, hh, hx⟩ := List.mem_flatMap.1 hx
    unfold chHold at hx
    split at hx
    · rcases List.mem_cons.1 hx with rfl | hx
      · exact .inl (.inl (.inl (by simp)))
      · split at hx
        · rename_i h5
          rw [List.mem_singleton.1 hx]
          refine .inr ?_
          unfold hoT
          exact List.mem_map.2 ⟨h, List.mem_filter.2 ⟨hh, by simp [h5.1, h5.2]⟩, rfl⟩
        · cases hx
    · cases hx
  · unfold chComing at hx
    obtain ⟨r, hr, rfl⟩ := List.mem_map.1 hx
    exact .inl (.inl (.inr (List.mem_map.2 ⟨r, (List.mem_filter.1 hr).1, rfl⟩)))
  · unfold chTaken at hx
    obtain ⟨r, hr, rfl⟩ := List.mem_map.1 hx
    exact .inl (.inr (List.mem_map.2 ⟨r, (List.mem_filter.1 hr).1, rfl⟩))
theorem all_rangeT (hg : Good l0 l1 l3) (ht : Took l4) : ∀ y ∈ allT l1 l3 l4, 0 ≤ y ∧ y ≤ 9223372036854775807 := by
  intro y hy
  by_cases h : y ∈ allT l1 l3 []
  · exact all_range hg y h
  · have h2 : y ∈ l4.map (fun r => r.f2) := by
      unfold allT at hy h
      simp only [List.mem_append] at hy h
      rcases hy with ((hy | hy) | hy) | hy
      · exact absurd (.inl (.inl (.inl hy))) h
      · exact absurd (.inl (.inl (.inr hy))) h
      · exact hy
      · exact absurd (.inr hy) h
    obtain ⟨r, hr, rfl⟩ := List.mem_map.1 h2
    exact ht r hr
theorem line_eqT (hg : Good l0 l1 l3) (ht : Took l4) (sku : ByteArray) : lineF (toldF l0 l1 l3 l4 sku) = lineG (fun t => sumOf (frL l0 l1 l3 l4 sku t)) (timesR l1 l3 l4) [] := by
  obtain ⟨hu, hm⟩ := timesL_law (toldF l0 l1 l3 l4 sku)
  have hr : ∀ y ∈ timesR l1 l3 l4, 0 ≤ y ∧ y ≤ 9223372036854775807 := fun y hy => all_rangeT hg ht y ((timesR_mem l1 l3 l4 y).1 hy)
  unfold lineF
  rw [lineR_eq, line_more (sumAt (toldF l0 l1 l3 l4 sku)) ((toldF l0 l1 l3 l4 sku).map (fun x => x.1)) (timesL (toldF l0 l1 l3 l4 sku)) (timesR l1 l3 l4) (fun t0 t h hc => sumAt_step _ t0 t h hc) hu (timesR_up l1 l3 l4) (fun y hy => ?_) ((hm 0).2 (.inl rfl)) (fun y hy => (hr y hy).1) (fun c hc => (hm c).2 (.inr hc))]
  · exact lineG_congr _ _ (fun t ht => free_eqT hg sku t (hr t ht).1 (hr t ht).2)
  · refine (timesR_mem l1 l3 l4 y).2 ?_
    rcases (hm y).1 hy with rfl | h
    · unfold allT; simp
    · exact told_timesT hg sku y h
theorem told_64T (hF : FewL l0 l1 l2) (hr : ∀ r ∈ l3, RecG r) (sku : ByteArray) : Ch64 (toldF l0 l1 l3 l4 sku) := by
  intro x hx
  unfold toldF at hx
  simp only [List.mem_append] at hx
  rcases hx with ((hx | hx) | hx) | hx
  · unfold chStocks at hx
    obtain ⟨s, hs, rfl⟩ := List.mem_map.1 hx
    exact (hF.2.2.2.1 s (List.mem_filter.1 hs).1).2.2.1
  · unfold chHolds at hx
    obtain ⟨h, hh, hx⟩ := List.mem_flatMap.1 hx
    unfold chHold at hx
    split at hx
    · rcases List.mem_cons.1 hx with rfl | hx
      · exact by show -9223372036854775808 ≤ wrap64 (-h.f3) ∧ wrap64 (-h.f3) ≤ 9223372036854775807; unfold wrap64; omega
      · split at hx
        · rw [List.mem_singleton.1 hx]
          exact (hF.2.2.2.2.1 h hh).2.2.2.1
        · cases hx
    · cases hx
  · unfold chComing at hx
    obtain ⟨r, hh, rfl⟩ := List.mem_map.1 hx
    exact (hr r (List.mem_filter.1 hh).1).2.1
  · unfold chTaken at hx
    obtain ⟨r, hh, rfl⟩ := List.mem_map.1 hx
    exact by show -9223372036854775808 ≤ wrap64 (-r.f1) ∧ wrap64 (-r.f1) ≤ 9223372036854775807; unfold wrap64; omega
theorem fr_64T (hF : FewL l0 l1 l2) (hr : ∀ r ∈ l3, RecG r) (sku : ByteArray) (t : Int) : In64 (frL l0 l1 l3 l4 sku t) := by
  intro x hx
  unfold frL at hx
  simp only [List.mem_append] at hx
  rcases hx with ((hx | hx) | hx) | hx
  · unfold frS at hx
    obtain ⟨s, hs, rfl⟩ := List.mem_map.1 hx
    exact (hF.2.2.2.1 s (List.mem_filter.1 hs).1).2.2.1
  · unfold frC at hx
    obtain ⟨r, hh, rfl⟩ := List.mem_map.1 hx
    exact (hr r (List.mem_filter.1 hh).1).2.1
  · unfold frH at hx
    obtain ⟨h, hh, rfl⟩ := List.mem_map.1 hx
    exact by show -9223372036854775808 ≤ wrap64 (-h.f3) ∧ wrap64 (-h.f3) ≤ 9223372036854775807; unfold wrap64; omega
  · unfold frT at hx
    obtain ⟨r, hh, rfl⟩ := List.mem_map.1 hx
    exact by show -9223372036854775808 ≤ wrap64 (-r.f1) ∧ wrap64 (-r.f1) ≤ 9223372036854775807; unfold wrap64; omega
end
end Go.Proofs.YtofkhcgkahkagaaGreat
/- The law PromiseShort, walked over an awake that returns true. (For the seat of PromiseShort alone.) -/
namespace Go.Proofs.YtofkhcgkahkagaaGreat
open Go.RowKit Go.Proofs.YtofkhcgkahkagaaGreatW.PrintWords Go.Proofs.YtofkhcgkahkagaaGreatW.PrintLast Go.Proofs.YtofkhcgkahkagaaGreatW.PrintMore Go.Proofs.YtofkhcgkahkagaaGreat.PPromiseShort
set_option linter.unusedVariables false
set_option linter.unusedSimpArgs false

section
variable (l0 : List S165) (l1 : List S172) (l2 : List S176) (A0 : Option Addr) (c0 : Nat) (A1 : Option Addr) (c1 : Nat) (A2 : Option Addr) (c2 : Nat) (ops : Int) (A3 : Option Addr) (c3 : Nat) (l3 : List S103) (A4 : Option Addr) (c4 : Nat) (l4 : List S103) (w : World)
set_option maxRecDepth 100000 in
set_option maxHeartbeats 1000000 in
theorem short_law (haw : AwakeLaw) (hs0 : ∀ x ∈ l0, StockG x) (hs1 : ∀ x ∈ l1, HoldG x) (hs2 : ∀ x ∈ l2, MoveG x) (hs3 : ∀ x ∈ l3, RecG x) (hs4 : ∀ x ∈ l4, RecG x)
    (hL : LedgerAt l0 l1 l2 A0 c0 A1 c1 A2 c2 w) (hC3 : Kd.C k103 w A3 l3.length l3) (hc3 : l3.length ≤ c3) (hC4 : Kd.C k103 w A4 l4.length l4) (hc4 : l4.length ≤ c4) :
    Calls Tryz.prog 4 #[.agg #[.slice A0 l0.length c0, .slice A1 l1.length c1, .slice A2 l2.length c2, .int .i64 ops], .slice A3 l3.length c3, .slice A4 l4.length c4] w fun e w' => e = .returned (.bool true) ∧ Below w.heap.size w w' := by
  have hu := Tryz.underlying55
  obtain ⟨b1, hb1, hL1⟩ := Light_law l0 l1 l2 ops
  obtain ⟨b2, hb2, hL2⟩ := light_law l3
  obtain ⟨b3, hb3, hL3⟩ := light_law l4
  obtain ⟨W0, hW0⟩ : ∃ W0, w.alloc (.cells #[.slice A0 l0.length c0, .slice A1 l1.length c1, .slice A2 l2.length c2, .int .i64 ops] 55) = W0 := ⟨_, rfl⟩
  have H0 : RsI w #[.slice A0 l0.length c0, .slice A1 l1.length c1, .slice A2 l2.length c2, .int .i64 ops] W0 := by rw [← hW0]; exact ⟨(Below.refl _ w).alloc (Nat.le_refl _) _, heap_alloc_new w _⟩
  have hlight := quaysideref07_Light.calls A0 c0 l0 A1 c1 l1 A2 c2 l2 ops b1 W0 (hL.below H0.low).r0 (hL.below H0.low).h0 (hL.below H0.low).r1 (hL.below H0.low).h1 (hL.below H0.low).r2 (hL.below H0.low).h2 hb1
  have hd0 : W0.cell? ⟨w.heap.size, 0, none⟩ = some (.slice A0 l0.length c0) := (blk_cell H0.led 0).trans rfl
  have hd1 : W0.cell? ⟨w.heap.size, 1, none⟩ = some (.slice A1 l1.length c1) := (blk_cell H0.led 1).trans rfl
  have hd2 : W0.cell? ⟨w.heap.size, 2, none⟩ = some (.slice A2 l2.length c2) := (blk_cell H0.led 2).trans rfl
  have hd3 : W0.cell? ⟨w.heap.size, 3, none⟩ = some (.int .i64 ops) := (blk_cell H0.led 3).trans rfl
  clear hb1
  go_enter Tryz.func4, Tryz.ntmps4
  go_wp2_with fail
  refine hlight.mono ?_
  clear hlight hW0 hd0 hd1 hd2 hd3
  rintro e w1 ⟨rfl, hB1⟩
  have H1 := H0.below hB1
  clear hB1 H0
  cases b1 with
  | false =>
    go_wp2_with fail
    refine (haw _).mono ?_
    rintro e w2 ⟨rfl, hB2⟩
    go_wp2
    go_ret
    exact ⟨rfl, below_w H1.low hB2⟩
  | true =>
    have h3 := hL1 rfl
    have hF : FewL l0 l1 l2 := ⟨h3.1, h3.2.1, h3.2.2, hs0, hs1, hs2⟩
    have hlight2 := quaysidelaw33_light.calls 100 A3 c3 l3 b2 w1 (Kd.C_below hC3 H1.low) hc3 hb2
    clear hL1 h3 hb2
    go_wp2_with fail
    refine hlight2.mono ?_
    clear hlight2
    rintro e w2 ⟨rfl, hdr⟩
    have H2 := H1.below hdr.below
    clear hdr H1
    cases b2 with
    | false =>
      go_wp2_with fail
      refine (haw _).mono ?_
      rintro e w3 ⟨rfl, hB3⟩
      go_wp2
      go_ret
      exact ⟨rfl, below_w H2.low hB3⟩
    | true =>
      have h20 := hL2 rfl
      clear hL2
      have hlight3 := quaysidelaw33_light.calls 100 A4 c4 l4 b3 w2 (Kd.C_below hC4 H2.low) hc4 hb3
      clear hb3
      go_wp2_with fail
      refine hlight3.mono ?_
      clear hlight3
      rintro e w3 ⟨rfl, hdr⟩
      have H3 := H2.below hdr.below
      clear hdr H2
      cases b3 with
      | false =>
        go_wp2_with fail
        refine (haw _).mono ?_
        rintro e w4 ⟨rfl, hB4⟩
        go_wp2
        go_ret
        exact ⟨rfl, below_w H3.low hB4⟩
      | true =>
        have h24 := hL3 rfl
        clear hL3
        have hone := Lib.hid (show ∀ xs ys a b, ((ckB l0 l1 l2 ops = true ∧ mayB l3 = true ∧ mayB l4 = true) → ShortOut (fun sku => lineF (toldF l0 l1 l3 l4 sku)) l4 xs a) → (¬ (ckB l0 l1 l2 ops = true ∧ mayB l3 = true ∧ mayB l4 = true) → xs = [] ∧ a = 1) →
            ((ckB l0 l1 l2 ops = true ∧ mayB l3 = true ∧ mayB l4 = true) → ShortOut (fun sku => lineG (fun t => sumOf (frL l0 l1 l3 l4 sku t)) (timesR l1 l3 l4) []) l4 ys b) → (¬ (ckB l0 l1 l2 ops = true ∧ mayB l3 = true ∧ mayB l4 = true) → ys = [] ∧ b = 1) → xs = ys ∧ a = b from fun xs ys a b g1 g2 g3 g4 => by
          by_cases good : ckB l0 l1 l2 ops = true ∧ mayB l3 = true ∧ mayB l4 = true
          · have e : (fun sku => lineG (fun t => sumOf (frL l0 l1 l3 l4 sku t)) (timesR l1 l3 l4) []) = fun sku => lineF (toldF l0 l1 l3 l4 sku) := by
              funext sku
              exact (line_eqT (good_of hF hs3 good.1 good.2.1) (took_of hs4 good.2.2) sku).symm
            have g5 := g3 good
            rw [e] at g5
            exact short_one (g1 good) g5
          · obtain ⟨p1, p2⟩ := g2 good
            obtain ⟨p3, p4⟩ := g4 good
            exact ⟨p1.trans p3.symm, p2.trans p4.symm⟩)
        have hd0 : w3.cell? ⟨w.heap.size, 0, none⟩ = some (.slice A0 l0.length c0) := (blk_cell H3.led 0).trans rfl
        have hd1 : w3.cell? ⟨w.heap.size, 1, none⟩ = some (.slice A1 l1.length c1) := (blk_cell H3.led 1).trans rfl
        have hd2 : w3.cell? ⟨w.heap.size, 2, none⟩ = some (.slice A2 l2.length c2) := (blk_cell H3.led 2).trans rfl
        have hd3 : w3.cell? ⟨w.heap.size, 3, none⟩ = some (.int .i64 ops) := (blk_cell H3.led 3).trans rfl
        have hcall := short_api ckB check_law l0 l1 l2 A0 c0 A1 c1 A2 c2 ops A3 c3 l3 A4 c4 l4 w3 (hL.below H3.low) hF (Kd.C_below hC3 H3.low) hc3 h20 (Kd.C_below hC4 H3.low) hc4 h24 hs4 (fun sku => told_64T hF hs3 sku)
        go_wp2_with fail
        refine hcall.mono ?_
        clear hcall hd0 hd1 hd2 hd3
        rintro e w4 ⟨Av, cv, xs, a, rfl, hCx, hb4, hxl, g1, g2⟩
        have H4 := H3.below hb4
        clear hb4 H3
        have hd0 : w4.cell? ⟨w.heap.size, 0, none⟩ = some (.slice A0 l0.length c0) := (blk_cell H4.led 0).trans rfl
        have hd1 : w4.cell? ⟨w.heap.size, 1, none⟩ = some (.slice A1 l1.length c1) := (blk_cell H4.led 1).trans rfl
        have hd2 : w4.cell? ⟨w.heap.size, 2, none⟩ = some (.slice A2 l2.length c2) := (blk_cell H4.led 2).trans rfl
        have hd3 : w4.cell? ⟨w.heap.size, 3, none⟩ = some (.int .i64 ops) := (blk_cell H4.led 3).trans rfl
        have hcall := rshort_calls l0 l1 l2 A0 c0 A1 c1 A2 c2 ops A3 c3 l3 A4 c4 l4 w4 (hL.below H4.low) hF (Kd.C_below hC3 H4.low) hc3 h20 (Kd.C_below hC4 H4.low) hc4 h24 (fun sku t => fr_64T hF hs3 sku t)
        go_wp2_with fail
        refine hcall.mono ?_
        clear hcall hd0 hd1 hd2 hd3
        rintro e w5 ⟨Av2, cv2, ys, b, rfl, hCy, hb5, hyl, g3, g4⟩
        obtain ⟨rfl, rfl⟩ := hone.out xs ys a b g1 g2 g3 g4
        have H5 := H4.below hb5
        have hCx5 := Kd.C_below hCx hb5
        have e1 : (a != a) = false := by simp
        have e2 : (((xs.length : Int)) != (xs.length : Int)) = false := by simp
        have hmaxx : xs.length ≤ 9223372036854775807 := by omega
        clear hone g1 g2 g3 g4 hb5 H4 hCx
        go_wp2
        go_loopw [11] (fun i V => ∃ k : Nat, k ≤ xs.length ∧ i = .int .i64 k ∧ Below w5.heap.size w5 V)
          (fun i _ => xs.length - (intOf i).toNat)
        case atStart => exact ⟨0, Nat.zero_le _, rfl, Below.refl _ _⟩
        case round =>
          obtain ⟨k, hk, rfl, hbk⟩ := hrel
          by_cases hlt : k < xs.length
          · have hd : decide ((k : Int) < (xs.length : Int)) = true := decide_eq_true (by omega)
            have hk1 : (k : Int) < (xs.length : Int) := by omega
            have hk2 : (0 : Int) ≤ (k : Int) := Int.natCast_nonneg _
            obtain ⟨ad, hA, hx⟩ := Kd.at_string hCx5 (k : Int) (by omega) (by omega)
            cases hA
            obtain ⟨ad2, hA2, hy⟩ := Kd.at_string hCy (k : Int) (by omega) (by omega)
            cases hA2
            rw [Int.toNat_natCast, rd_Bs hlt] at hx hy
            have hx' := cell_below hbk hx
            have hy' := cell_below hbk hy
            obtain ⟨s, hs⟩ : ∃ s, xs[k] = s := ⟨_, rfl⟩
            rw [hs] at hx' hy'
            have e3 : (s.toList != s.toList) = false := by simp
            clear hx hy hs
            go_wp2
            go_quiet (fail)
            go_wp2
            exact ⟨⟨k + 1, by omega, by simp, pw_below_drewN hbk nq⟩, by simp [intOf]; omega⟩
          · obtain rfl : k = xs.length := by omega
            have hd : decide ((xs.length : Int) < (xs.length : Int)) = false := decide_eq_false (by omega)
            have hlow := below_w H5.low hbk
            clear H5
            go_wp2_with fail
            refine (haw _).mono ?_
            rintro e w6 ⟨rfl, hB6⟩
            go_wp2
            go_ret
            exact ⟨rfl, below_w hlow hB6⟩
end
end Go.Proofs.YtofkhcgkahkagaaGreat
namespace Go.Proofs.YtofkhcgkahkagaaGreat.promiseShort
open Go.ChangeShapes Go.WideShapes Go.ChangeAt Go.RowKit
open Go.Proofs.YtofkhcgkahkagaaGreatW.PrintWords Go.Proofs.YtofkhcgkahkagaaGreatW.PrintLast Go.Proofs.YtofkhcgkahkagaaGreatW.PrintMore Go.Proofs.YtofkhcgkahkagaaGreat.PPromiseShort
set_option linter.unusedVariables false
theorem own : ownKnob Tryz.prog.godebug = none := by kernel_rfl
theorem laidOut : laidOutB Tryz.prog = true := by kernel_rfl

set_option maxRecDepth 100000 in
theorem lifted (os : Os) (started : os.Started) (H : Type) (enc : TypeId × Value → H) :
    ReturnsInHanded {} Tryz.checked os 4 .any (Rows.promiseShortSpec.pre6 enc Tryz.prog Tryz.f4 Rows.promiseShortRow.domain false) (Rows.promiseShortSpec.post enc Tryz.prog Tryz.f4 false true false false) := by
  refine returnsInHanded_of_change (C := Tryz.checked) own started (by kernel_rfl) Tryz.func4
    (ChangeSpec.witness6 (enc := enc) (C := Tryz.checked) false ⟨#[], #[.agg #[.slice none 0 0, .slice none 0 0, .slice none 0 0, .int .i64 0], .slice none 0 0, .slice none 0 0], []⟩ 8 (by kernel_rfl) (by kernel_rfl) (by kernel_rfl) (by kernel_rfl)) ?_
  intro W base args ds gs before hval0 hW hcnd _
  have hval : ∀ (j : Nat) t v, Tryz.f4.params[j]? = some t → args[j]? = some v → Value.okWide Tryz.prog W .any base t v := hval0
  have hW' := hW
  obtain ⟨p, q, hA0, hV, rfl, hfz, hnd⟩ := hW
  have hA : DataW.TrodAll enc Tryz.prog W 0 (fun _ => true) true Tryz.f4.params.toList args.toList ds p := hA0
  rw [Tryz.params4] at hA hval
  obtain ⟨v0, vs0, d0, ds0, p0, q0, hargs, rfl, rfl, h0, r0⟩ := trodAll_cons hA
  obtain ⟨v1, vs1, d1, ds1, p1, q1, rfl, rfl, rfl, h1, r1⟩ := trodAll_cons r0
  obtain ⟨v2, vs2, d2, ds2, p2, q2, rfl, rfl, rfl, h2, r2⟩ := trodAll_cons r1
  obtain ⟨rfl, rfl, rfl⟩ := trodAll_nil r2
  obtain rfl : args = #[v0, v1, v2] := by cases args; simp_all
  obtain ⟨rfl, rfl⟩ := trodVars_none hV
  obtain ⟨cs0, rfl, hn0⟩ := okWide_struct Tryz.underlying55 (hval 0 55 v0 rfl rfl)
  obtain ⟨a1, len1, cap1, rfl⟩ := okWide_slice Tryz.underlying56 (hval 1 56 v1 rfl rfl)
  obtain ⟨a2, len2, cap2, rfl⟩ := okWide_slice Tryz.underlying56 (hval 2 56 v2 rfl rfl)
  have k0 := h0
  have k1 := h1
  have k2 := h2
  have lt0 : ∀ x ∈ p0, x.block < W.heap.size := by obtain ⟨m, hm⟩ := k0; exact DataW.trod_lt m _ _ _ hm
  have lt1 : ∀ x ∈ p1, x.block < W.heap.size := by obtain ⟨m, hm⟩ := k1; exact DataW.trod_lt m _ _ _ hm
  have lt2 : ∀ x ∈ p2, x.block < W.heap.size := by obtain ⟨m, hm⟩ := k2; exact DataW.trod_lt m _ _ _ hm
  obtain ⟨fuel0, hf0⟩ := h0
  obtain ⟨fuel1, hf1⟩ := h1
  obtain ⟨fuel2, hf2⟩ := h2
  obtain ⟨l0, l1, l2, A0, c0, A1, c1, A2, c2, ops, hcs0, hL, hs0, hs1, hs2⟩ := told_ledger enc 0 (fun _ => true) true fuel0 _ _ hf0
  obtain ⟨l3, A3, c3, hcs1, hl3, hC3, hs3⟩ := toldG_row Tryz.underlying56 (by kernel_rfl) told_rec enc 0 (fun _ => true) true fuel1 _ _ hf1
  obtain ⟨l4, A4, c4, hcs2, hl4, hC4, hs4⟩ := toldG_row Tryz.underlying56 (by kernel_rfl) told_rec enc 0 (fun _ => true) true fuel2 _ _ hf2
  clear hA0 hval0
  simp only [Value.cells, List.cons.injEq, Value.slice.injEq, and_true] at hcs0 hcs1 hcs2
  obtain ⟨rfl, rfl, rfl⟩ := hcs1
  obtain ⟨rfl, rfl, rfl⟩ := hcs2
  obtain rfl : cs0 = #[.slice A0 l0.length c0, .slice A1 l1.length c1, .slice A2 l2.length c2, .int .i64 ops] := by rw [← Array.toArray_toList (xs := cs0), hcs0]
  refine (short_law l0 l1 l2 A0 c0 A1 c1 A2 c2 ops a1 cap1 l3 a2 cap2 l4 W awake_law hs0 hs1 hs2 hs3 hs4 hL hC3 hl3 hC4 hl4).mono fun e W' ⟨he, bel⟩ => ?_
  subst he
  exact ⟨_, rfl, _, _, _, [], _, [], hW', trodAll_mk1 (shut_bool Tryz.underlying4 _), (trodAll_cons_mk (Below.trod laidOut (by kernel_rfl) (of_decide_eq_true (by kernel_rfl)) k0 bel lt0) (trodAll_cons_mk (Below.trod laidOut (by kernel_rfl) (of_decide_eq_true (by kernel_rfl)) k1 bel lt1) (trodAll_cons_mk (Below.trod laidOut (by kernel_rfl) (of_decide_eq_true (by kernel_rfl)) k2 bel lt2) trodAll_mk0))), rfl, bel.frame _, fun h => by cases h⟩

theorem over : Rows.promiseShortRow.holds Tryz.pinned (OpenSpec.ofChange Rows.promiseShortSpec) :=
  OpenClaim.holds_of_wide 4 Tryz.f4 rfl rfl rfl rfl rfl rfl rfl ⟨rfl, rfl, rfl, rfl, rfl⟩ rfl rfl rfl rfl rfl (by kernel_rfl) Tryz.func4 (by kernel_rfl)
    (of_decide_eq_true (by kernel_rfl)) (by unfold Func.isWrapper; first | (rw [if_pos (by decide +kernel)]; kernel_rfl) | (rw [if_neg (by decide +kernel)]; exact ⟨rfl, rfl⟩))
    (fun os started H enc _ => lifted os started H enc)
theorem proved : Rows.PromiseShortSaid := over
end Go.Proofs.YtofkhcgkahkagaaGreat.promiseShort
namespace Go.Proofs.YtofkhcgkahkagaaGreat
/-- The row, under a short name, for the claim. -/
theorem promiseShort_holds : Rows.PromiseShortSaid := promiseShort.proved
end Go.Proofs.YtofkhcgkahkagaaGreat
