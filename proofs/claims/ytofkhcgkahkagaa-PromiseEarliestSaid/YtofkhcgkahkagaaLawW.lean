/- The laws PromiseLines and PromiseEarliest, walked over an awake that returns true. -/
import Derived.Test.YtofkhcgkahkagaaLaws
import Derived.Test.YtofkhcgkahkagaaPCheck
import Derived.Test.YtofkhcgkahkagaaREarly
namespace Go.Proofs.Ytofkhcgkahkagaa
open Go.RowKit Go.Proofs.YtofkhcgkahkagaaW.PrintWords Go.Proofs.YtofkhcgkahkagaaW.PrintLast Go.Proofs.YtofkhcgkahkagaaW.PrintMore Go.Proofs.Ytofkhcgkahkagaa.PPromiseLines
set_option linter.unusedVariables false
set_option linter.unusedSimpArgs false

/-- awake returns true, wherever it is called. -/
def AwakeLaw : Prop := ∀ w : World, Calls Try.prog 17 #[] w fun e w' => e = .returned (.bool true) ∧ Below w.heap.size w w'

section
variable (l0 : List S100) (l1 : List S107) (l2 : List S111) (A0 : Option Addr) (c0 : Nat) (A1 : Option Addr) (c1 : Nat) (A2 : Option Addr) (c2 : Nat) (ops : Int) (A3 : Option Addr) (c3 : Nat) (l3 : List S44) (sku : ByteArray) (qty time : Int) (w : World)

/-- The laws' two boxes. -/
structure LwW (V : World) : Prop where
  low : Below w.heap.size w V
  led : V.heap[w.heap.size]? = some (.cells #[.slice A0 l0.length c0, .slice A1 l1.length c1, .slice A2 l2.length c2, .int .i64 ops] 41 (0, 0))
  rcp : V.heap[w.heap.size + 1]? = some (.cells #[.string sku, .int .i64 qty, .int .i64 time] 44 (0, 0))
end
section
variable {l0 : List S100} {l1 : List S107} {l2 : List S111} {A0 : Option Addr} {c0 : Nat} {A1 : Option Addr} {c1 : Nat} {A2 : Option Addr} {c2 : Nat} {ops : Int} {sku : ByteArray} {qty time : Int} {w V V' : World}
theorem LwW.below (h : LwW l0 l1 l2 A0 c0 A1 c1 A2 c2 ops sku qty time w V) (hb : Below V.heap.size V V') : LwW l0 l1 l2 A0 c0 A1 c1 A2 c2 ops sku qty time w V' :=
  ⟨below_w h.low hb, (hb.block _ (blk_lt h.led)).trans h.led, (hb.block _ (blk_lt h.rcp)).trans h.rcp⟩
end
section
variable (l0 : List S100) (l1 : List S107) (l2 : List S111) (A0 : Option Addr) (c0 : Nat) (A1 : Option Addr) (c1 : Nat) (A2 : Option Addr) (c2 : Nat) (ops : Int) (A3 : Option Addr) (c3 : Nat) (l3 : List S44) (sku : ByteArray) (qty time : Int) (w : World)

set_option maxRecDepth 100000 in
theorem lines_calls (haw : AwakeLaw) (hs0 : ∀ x ∈ l0, StockG x) (hs1 : ∀ x ∈ l1, HoldG x) (hs2 : ∀ x ∈ l2, MoveG x) (hs3 : ∀ x ∈ l3, RecG x) (htime : i64B time) (hq : i64B qty)
    (hL : LedgerAt l0 l1 l2 A0 c0 A1 c1 A2 c2 w) (hC3 : Kd.C k44 w A3 l3.length l3) (hc3 : l3.length ≤ c3) :
    Calls Try.prog 5 #[.agg #[.slice A0 l0.length c0, .slice A1 l1.length c1, .slice A2 l2.length c2, .int .i64 ops], .slice A3 l3.length c3, .agg #[.string sku, .int .i64 qty, .int .i64 time]] w fun e w' => e = .returned (.bool true) ∧ Below w.heap.size w w' := by
  have hu := Try.underlying41
  have hu2 := Try.underlying44
  have hus := Try.underlying9
  obtain ⟨b1, hb1, hL1⟩ := Light_law l0 l1 l2 ops
  obtain ⟨b2, hb2, hL2⟩ := light_law l3
  obtain ⟨W0, hW0⟩ : ∃ W0, (w.alloc (.cells #[.slice A0 l0.length c0, .slice A1 l1.length c1, .slice A2 l2.length c2, .int .i64 ops] 41)).alloc (.cells #[.string sku, .int .i64 qty, .int .i64 time] 44) = W0 := ⟨_, rfl⟩
  have H0 : LwW l0 l1 l2 A0 c0 A1 c1 A2 c2 ops sku qty time w W0 := by
    rw [← hW0]
    refine ⟨((Below.refl w.heap.size w).alloc (Nat.le_refl _) _).alloc (by simp) _, ?_, ?_⟩
    · exact (heap_alloc_old _ _ (by simp)).trans (heap_alloc_new w _)
    · have := heap_alloc_new (w.alloc (.cells #[.slice A0 l0.length c0, .slice A1 l1.length c1, .slice A2 l2.length c2, .int .i64 ops] 41)) (.cells #[.string sku, .int .i64 qty, .int .i64 time] 44)
      rwa [World.size_alloc] at this
  have hlight := quaysideref07_Light.calls A0 c0 l0 A1 c1 l1 A2 c2 l2 ops b1 W0 (hL.below H0.low).r0 (hL.below H0.low).h0 (hL.below H0.low).r1 (hL.below H0.low).h1 (hL.below H0.low).r2 (hL.below H0.low).h2 hb1
  have hd0 : W0.cell? ⟨w.heap.size, 0, none⟩ = some (.slice A0 l0.length c0) := (blk_cell H0.led 0).trans rfl
  have hd1 : W0.cell? ⟨w.heap.size, 1, none⟩ = some (.slice A1 l1.length c1) := (blk_cell H0.led 1).trans rfl
  have hd2 : W0.cell? ⟨w.heap.size, 2, none⟩ = some (.slice A2 l2.length c2) := (blk_cell H0.led 2).trans rfl
  have hd3 : W0.cell? ⟨w.heap.size, 3, none⟩ = some (.int .i64 ops) := (blk_cell H0.led 3).trans rfl
  have hx0 : W0.cell? ⟨w.heap.size + 1, 0, none⟩ = some (.string sku) := (blk_cell H0.rcp 0).trans rfl
  have hx1 : W0.cell? ⟨w.heap.size + 1, 1, none⟩ = some (.int .i64 qty) := (blk_cell H0.rcp 1).trans rfl
  have hx2 : W0.cell? ⟨w.heap.size + 1, 2, none⟩ = some (.int .i64 time) := (blk_cell H0.rcp 2).trans rfl
  clear hb1
  go_enter Try.func5, Try.ntmps5
  go_wp2_with fail
  refine hlight.mono ?_
  clear hlight hW0 hd0 hd1 hd2 hd3 hx0 hx1 hx2
  rintro e w1 ⟨rfl, hB1⟩
  have H1 := H0.below hB1
  clear hB1 H0
  cases b1 with
  | false =>
    go_wp2_with fail
    refine (haw _).mono ?_
    rintro e w2 ⟨rfl, hB2⟩
    go_wp2
    go_ret
    exact ⟨rfl, below_w H1.low hB2⟩
  | true =>
    have h3 := hL1 rfl
    have hF : FewL l0 l1 l2 := ⟨h3.1, h3.2.1, h3.2.2, hs0, hs1, hs2⟩
    have hlight2 := quaysidelaw33_light.calls 100 A3 c3 l3 b2 w1 (Kd.C_below hC3 H1.low) hc3 hb2
    clear hL1 h3 hb2
    go_wp2_with fail
    refine hlight2.mono ?_
    clear hlight2
    rintro e w2 ⟨rfl, hdr⟩
    have H2 := H1.below hdr.below
    clear hdr H1
    cases b2 with
    | false =>
      go_wp2_with fail
      refine (haw _).mono ?_
      rintro e w3 ⟨rfl, hB3⟩
      go_wp2
      go_ret
      exact ⟨rfl, below_w H2.low hB3⟩
    | true =>
      have h20 := hL2 rfl
      clear hL2
      have hd0 : w2.cell? ⟨w.heap.size, 0, none⟩ = some (.slice A0 l0.length c0) := (blk_cell H2.led 0).trans rfl
      have hd1 : w2.cell? ⟨w.heap.size, 1, none⟩ = some (.slice A1 l1.length c1) := (blk_cell H2.led 1).trans rfl
      have hd2 : w2.cell? ⟨w.heap.size, 2, none⟩ = some (.slice A2 l2.length c2) := (blk_cell H2.led 2).trans rfl
      have hd3 : w2.cell? ⟨w.heap.size, 3, none⟩ = some (.int .i64 ops) := (blk_cell H2.led 3).trans rfl
      have hx0 : w2.cell? ⟨w.heap.size + 1, 0, none⟩ = some (.string sku) := (blk_cell H2.rcp 0).trans rfl
      have hx1 : w2.cell? ⟨w.heap.size + 1, 1, none⟩ = some (.int .i64 qty) := (blk_cell H2.rcp 1).trans rfl
      have hx2 : w2.cell? ⟨w.heap.size + 1, 2, none⟩ = some (.int .i64 time) := (blk_cell H2.rcp 2).trans rfl
      by_cases hz : (100 : Int) < (sku.size : Int)
      · have hzb : decide ((100 : Int) < (sku.size : Int)) = true := decide_eq_true hz
        clear hz
        go_wp2_with fail
        refine (haw _).mono ?_
        rintro e w3 ⟨rfl, hB3⟩
        go_wp2
        go_ret
        exact ⟨rfl, below_w H2.low hB3⟩
      · have hzb : decide ((100 : Int) < (sku.size : Int)) = false := decide_eq_false hz
        have ht64 := told_64 hF hs3 sku
        have hf64 := fr_64 hF hs3 sku
        clear hz
        have hA := lineA_eq (ops := ops) hF hs3 sku
        have hT := atA_eq (ops := ops) hF hs3 sku time htime.2
        have hlen := rline_len (ops := ops) hF h20 sku
        obtain ⟨R, hR⟩ : ∃ R, rlineA l0 l1 l2 ops l3 sku = R := ⟨_, rfl⟩
        obtain ⟨Q, hQ⟩ : ∃ Q, ratA l0 l1 l2 ops l3 sku time = Q := ⟨_, rfl⟩
        rw [hR] at hA hlen
        rw [hQ] at hT
        have hsame := same_law R.1 (by omega)
        have hcall := line_api ckB check_law l0 l1 l2 A0 c0 A1 c1 A2 c2 ops A3 c3 l3 sku w2 (hL.below H2.low) hF (Kd.C_below hC3 H2.low) hc3 h20 ht64
        go_wp2_with fail
        refine hcall.mono ?_
        clear hcall hd0 hd1 hd2 hd3 hx0 hx1 hx2
        rw [hA]
        rintro e w3 ⟨Av, cv, rfl, hR3, hb3⟩
        have H3 := H2.below hb3
        have hrd3 := Kd.R_reads' hR3
        clear hb3 H2 hR3
        have hd0 : w3.cell? ⟨w.heap.size, 0, none⟩ = some (.slice A0 l0.length c0) := (blk_cell H3.led 0).trans rfl
        have hd1 : w3.cell? ⟨w.heap.size, 1, none⟩ = some (.slice A1 l1.length c1) := (blk_cell H3.led 1).trans rfl
        have hd2 : w3.cell? ⟨w.heap.size, 2, none⟩ = some (.slice A2 l2.length c2) := (blk_cell H3.led 2).trans rfl
        have hd3 : w3.cell? ⟨w.heap.size, 3, none⟩ = some (.int .i64 ops) := (blk_cell H3.led 3).trans rfl
        have hx0 : w3.cell? ⟨w.heap.size + 1, 0, none⟩ = some (.string sku) := (blk_cell H3.rcp 0).trans rfl
        have hx1 : w3.cell? ⟨w.heap.size + 1, 1, none⟩ = some (.int .i64 qty) := (blk_cell H3.rcp 1).trans rfl
        have hx2 : w3.cell? ⟨w.heap.size + 1, 2, none⟩ = some (.int .i64 time) := (blk_cell H3.rcp 2).trans rfl
        have hcall := rline_api l0 l1 l2 A0 c0 A1 c1 A2 c2 ops A3 c3 l3 sku w3 (hL.below H3.low) hF (Kd.C_below hC3 H3.low) hc3 h20 hf64
        rw [hR] at hcall
        go_wp2_with fail
        refine hcall.mono ?_
        clear hcall hd0 hd1 hd2 hd3 hx0 hx1 hx2
        rintro e w4 ⟨Av2, cv2, rfl, hR4, hb4⟩
        have H4 := H3.below hb4
        have hrd4 := Kd.R_reads' hR4
        have hC4 := Kd.C_below hrd3.2.2 hb4
        clear hR4 hb4 H3
        have hd0 : w4.cell? ⟨w.heap.size, 0, none⟩ = some (.slice A0 l0.length c0) := (blk_cell H4.led 0).trans rfl
        have hd1 : w4.cell? ⟨w.heap.size, 1, none⟩ = some (.slice A1 l1.length c1) := (blk_cell H4.led 1).trans rfl
        have hd2 : w4.cell? ⟨w.heap.size, 2, none⟩ = some (.slice A2 l2.length c2) := (blk_cell H4.led 2).trans rfl
        have hd3 : w4.cell? ⟨w.heap.size, 3, none⟩ = some (.int .i64 ops) := (blk_cell H4.led 3).trans rfl
        have hx0 : w4.cell? ⟨w.heap.size + 1, 0, none⟩ = some (.string sku) := (blk_cell H4.rcp 0).trans rfl
        have hx1 : w4.cell? ⟨w.heap.size + 1, 1, none⟩ = some (.int .i64 qty) := (blk_cell H4.rcp 1).trans rfl
        have hx2 : w4.cell? ⟨w.heap.size + 1, 2, none⟩ = some (.int .i64 time) := (blk_cell H4.rcp 2).trans rfl
        have hcall := at_api ckB check_law l0 l1 l2 A0 c0 A1 c1 A2 c2 ops A3 c3 l3 sku time w4 (hL.below H4.low) hF (Kd.C_below hC3 H4.low) hc3 h20 ht64
        rw [hT] at hcall
        go_wp2_with fail
        refine hcall.mono ?_
        clear hcall hd0 hd1 hd2 hd3 hx0 hx1 hx2
        rintro e w5 ⟨rfl, hb5⟩
        have H5 := H4.below hb5
        have hC5 := Kd.C_below hC4 hb5
        have hD5 := Kd.C_below hrd4.2.2 hb5
        clear hb5 hC4 H4
        have hd0 : w5.cell? ⟨w.heap.size, 0, none⟩ = some (.slice A0 l0.length c0) := (blk_cell H5.led 0).trans rfl
        have hd1 : w5.cell? ⟨w.heap.size, 1, none⟩ = some (.slice A1 l1.length c1) := (blk_cell H5.led 1).trans rfl
        have hd2 : w5.cell? ⟨w.heap.size, 2, none⟩ = some (.slice A2 l2.length c2) := (blk_cell H5.led 2).trans rfl
        have hd3 : w5.cell? ⟨w.heap.size, 3, none⟩ = some (.int .i64 ops) := (blk_cell H5.led 3).trans rfl
        have hx0 : w5.cell? ⟨w.heap.size + 1, 0, none⟩ = some (.string sku) := (blk_cell H5.rcp 0).trans rfl
        have hx1 : w5.cell? ⟨w.heap.size + 1, 1, none⟩ = some (.int .i64 qty) := (blk_cell H5.rcp 1).trans rfl
        have hx2 : w5.cell? ⟨w.heap.size + 1, 2, none⟩ = some (.int .i64 time) := (blk_cell H5.rcp 2).trans rfl
        have hcall := rat_api l0 l1 l2 A0 c0 A1 c1 A2 c2 ops A3 c3 l3 sku w5 time (hL.below H5.low) hF (Kd.C_below hC3 H5.low) hc3 h20 hf64
        rw [hQ] at hcall
        go_wp2_with fail
        refine hcall.mono ?_
        clear hcall hd0 hd1 hd2 hd3 hx0 hx1 hx2
        rintro e w6 ⟨rfl, hb6⟩
        have H6 := H5.below hb6
        have hC6 := Kd.C_below hC5 hb6
        have hD6 := Kd.C_below hD5 hb6
        clear hb6 hC5 hD5 H5
        have hcall := quaysidelaw33_same.calls 2000 Av cv R.1 Av2 cv2 R.1 true w6 hC6 hrd3.2.1 hD6 hrd4.2.1 hsame
        go_wp2_with fail
        refine hcall.mono ?_
        clear hcall
        rintro e w7 ⟨rfl, hdr⟩
        have H7 := H6.below hdr.below
        clear hdr H6
        have e1 : (R.2 == R.2) = true := by simp
        have e2 : (Q.1 == Q.1) = true := by simp
        have e3 : (Q.2 == Q.2) = true := by simp
        go_wp2_with fail
        refine (haw _).mono ?_
        rintro e w8 ⟨rfl, hB8⟩
        go_wp2
        go_ret
        exact ⟨rfl, below_w H7.low hB8⟩

set_option maxRecDepth 100000 in
theorem earliest_calls (haw : AwakeLaw) (hs0 : ∀ x ∈ l0, StockG x) (hs1 : ∀ x ∈ l1, HoldG x) (hs2 : ∀ x ∈ l2, MoveG x) (hs3 : ∀ x ∈ l3, RecG x) (htime : i64B time) (hq : i64B qty)
    (hL : LedgerAt l0 l1 l2 A0 c0 A1 c1 A2 c2 w) (hC3 : Kd.C k44 w A3 l3.length l3) (hc3 : l3.length ≤ c3) :
    Calls Try.prog 4 #[.agg #[.slice A0 l0.length c0, .slice A1 l1.length c1, .slice A2 l2.length c2, .int .i64 ops], .slice A3 l3.length c3, .agg #[.string sku, .int .i64 qty, .int .i64 time]] w fun e w' => e = .returned (.bool true) ∧ Below w.heap.size w w' := by
  have hu := Try.underlying41
  have hu2 := Try.underlying44
  have hus := Try.underlying9
  obtain ⟨b1, hb1, hL1⟩ := Light_law l0 l1 l2 ops
  obtain ⟨b2, hb2, hL2⟩ := light_law l3
  obtain ⟨W0, hW0⟩ : ∃ W0, (w.alloc (.cells #[.slice A0 l0.length c0, .slice A1 l1.length c1, .slice A2 l2.length c2, .int .i64 ops] 41)).alloc (.cells #[.string sku, .int .i64 qty, .int .i64 time] 44) = W0 := ⟨_, rfl⟩
  have H0 : LwW l0 l1 l2 A0 c0 A1 c1 A2 c2 ops sku qty time w W0 := by
    rw [← hW0]
    refine ⟨((Below.refl w.heap.size w).alloc (Nat.le_refl _) _).alloc (by simp) _, ?_, ?_⟩
    · exact (heap_alloc_old _ _ (by simp)).trans (heap_alloc_new w _)
    · have := heap_alloc_new (w.alloc (.cells #[.slice A0 l0.length c0, .slice A1 l1.length c1, .slice A2 l2.length c2, .int .i64 ops] 41)) (.cells #[.string sku, .int .i64 qty, .int .i64 time] 44)
      rwa [World.size_alloc] at this
  have hlight := quaysideref07_Light.calls A0 c0 l0 A1 c1 l1 A2 c2 l2 ops b1 W0 (hL.below H0.low).r0 (hL.below H0.low).h0 (hL.below H0.low).r1 (hL.below H0.low).h1 (hL.below H0.low).r2 (hL.below H0.low).h2 hb1
  have hd0 : W0.cell? ⟨w.heap.size, 0, none⟩ = some (.slice A0 l0.length c0) := (blk_cell H0.led 0).trans rfl
  have hd1 : W0.cell? ⟨w.heap.size, 1, none⟩ = some (.slice A1 l1.length c1) := (blk_cell H0.led 1).trans rfl
  have hd2 : W0.cell? ⟨w.heap.size, 2, none⟩ = some (.slice A2 l2.length c2) := (blk_cell H0.led 2).trans rfl
  have hd3 : W0.cell? ⟨w.heap.size, 3, none⟩ = some (.int .i64 ops) := (blk_cell H0.led 3).trans rfl
  have hx0 : W0.cell? ⟨w.heap.size + 1, 0, none⟩ = some (.string sku) := (blk_cell H0.rcp 0).trans rfl
  have hx1 : W0.cell? ⟨w.heap.size + 1, 1, none⟩ = some (.int .i64 qty) := (blk_cell H0.rcp 1).trans rfl
  have hx2 : W0.cell? ⟨w.heap.size + 1, 2, none⟩ = some (.int .i64 time) := (blk_cell H0.rcp 2).trans rfl
  clear hb1
  go_enter Try.func4, Try.ntmps4
  go_wp2_with fail
  refine hlight.mono ?_
  clear hlight hW0 hd0 hd1 hd2 hd3 hx0 hx1 hx2
  rintro e w1 ⟨rfl, hB1⟩
  have H1 := H0.below hB1
  clear hB1 H0
  cases b1 with
  | false =>
    go_wp2_with fail
    refine (haw _).mono ?_
    rintro e w2 ⟨rfl, hB2⟩
    go_wp2
    go_ret
    exact ⟨rfl, below_w H1.low hB2⟩
  | true =>
    have h3 := hL1 rfl
    have hF : FewL l0 l1 l2 := ⟨h3.1, h3.2.1, h3.2.2, hs0, hs1, hs2⟩
    have hlight2 := quaysidelaw33_light.calls 100 A3 c3 l3 b2 w1 (Kd.C_below hC3 H1.low) hc3 hb2
    clear hL1 h3 hb2
    go_wp2_with fail
    refine hlight2.mono ?_
    clear hlight2
    rintro e w2 ⟨rfl, hdr⟩
    have H2 := H1.below hdr.below
    clear hdr H1
    cases b2 with
    | false =>
      go_wp2_with fail
      refine (haw _).mono ?_
      rintro e w3 ⟨rfl, hB3⟩
      go_wp2
      go_ret
      exact ⟨rfl, below_w H2.low hB3⟩
    | true =>
      have h20 := hL2 rfl
      clear hL2
      have hd0 : w2.cell? ⟨w.heap.size, 0, none⟩ = some (.slice A0 l0.length c0) := (blk_cell H2.led 0).trans rfl
      have hd1 : w2.cell? ⟨w.heap.size, 1, none⟩ = some (.slice A1 l1.length c1) := (blk_cell H2.led 1).trans rfl
      have hd2 : w2.cell? ⟨w.heap.size, 2, none⟩ = some (.slice A2 l2.length c2) := (blk_cell H2.led 2).trans rfl
      have hd3 : w2.cell? ⟨w.heap.size, 3, none⟩ = some (.int .i64 ops) := (blk_cell H2.led 3).trans rfl
      have hx0 : w2.cell? ⟨w.heap.size + 1, 0, none⟩ = some (.string sku) := (blk_cell H2.rcp 0).trans rfl
      have hx1 : w2.cell? ⟨w.heap.size + 1, 1, none⟩ = some (.int .i64 qty) := (blk_cell H2.rcp 1).trans rfl
      have hx2 : w2.cell? ⟨w.heap.size + 1, 2, none⟩ = some (.int .i64 time) := (blk_cell H2.rcp 2).trans rfl
      by_cases hz : (100 : Int) < (sku.size : Int)
      · have hzb : decide ((100 : Int) < (sku.size : Int)) = true := decide_eq_true hz
        clear hz
        go_wp2_with fail
        refine (haw _).mono ?_
        rintro e w3 ⟨rfl, hB3⟩
        go_wp2
        go_ret
        exact ⟨rfl, below_w H2.low hB3⟩
      · have hzb : decide ((100 : Int) < (sku.size : Int)) = false := decide_eq_false hz
        have ht64 := told_64 hF hs3 sku
        have hf64 := fr_64 hF hs3 sku
        clear hz
        have hA := earlyA_eq (ops := ops) hF hs3 sku qty
        obtain ⟨R, hR⟩ : ∃ R, rearlyA l0 l1 l2 ops l3 sku qty = R := ⟨_, rfl⟩
        rw [hR] at hA
        have hcall := early_api ckB check_law l0 l1 l2 A0 c0 A1 c1 A2 c2 ops A3 c3 l3 sku qty w2 (hL.below H2.low) hF (Kd.C_below hC3 H2.low) hc3 h20 ht64
        go_wp2_with fail
        refine hcall.mono ?_
        clear hcall hd0 hd1 hd2 hd3 hx0 hx1 hx2
        rw [hA]
        rintro e w3 ⟨rfl, hb3⟩
        have H3 := H2.below hb3
        clear hb3 H2
        have hd0 : w3.cell? ⟨w.heap.size, 0, none⟩ = some (.slice A0 l0.length c0) := (blk_cell H3.led 0).trans rfl
        have hd1 : w3.cell? ⟨w.heap.size, 1, none⟩ = some (.slice A1 l1.length c1) := (blk_cell H3.led 1).trans rfl
        have hd2 : w3.cell? ⟨w.heap.size, 2, none⟩ = some (.slice A2 l2.length c2) := (blk_cell H3.led 2).trans rfl
        have hd3 : w3.cell? ⟨w.heap.size, 3, none⟩ = some (.int .i64 ops) := (blk_cell H3.led 3).trans rfl
        have hx0 : w3.cell? ⟨w.heap.size + 1, 0, none⟩ = some (.string sku) := (blk_cell H3.rcp 0).trans rfl
        have hx1 : w3.cell? ⟨w.heap.size + 1, 1, none⟩ = some (.int .i64 qty) := (blk_cell H3.rcp 1).trans rfl
        have hx2 : w3.cell? ⟨w.heap.size + 1, 2, none⟩ = some (.int .i64 time) := (blk_cell H3.rcp 2).trans rfl
        have hcall := rearly_api l0 l1 l2 A0 c0 A1 c1 A2 c2 ops A3 c3 l3 sku qty w3 (hL.below H3.low) hF (Kd.C_below hC3 H3.low) hc3 h20 hf64
        rw [hR] at hcall
        go_wp2_with fail
        refine hcall.mono ?_
        clear hcall hd0 hd1 hd2 hd3 hx0 hx1 hx2
        rintro e w4 ⟨rfl, hb4⟩
        have H4 := H3.below hb4
        clear hb4 H3
        have e1 : (R.1 == R.1) = true := by simp
        have e2 : (R.2 == R.2) = true := by simp
        go_wp2_with fail
        refine (haw _).mono ?_
        rintro e w5 ⟨rfl, hB5⟩
        go_wp2
        go_ret
        exact ⟨rfl, below_w H4.low hB5⟩
end
end Go.Proofs.Ytofkhcgkahkagaa
