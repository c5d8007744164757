/- promise.Line, At and Earliest, over whatever answers for ledger.Check. -/
import Derived.Test.YtofkhcgkahkagaaGreatPLine
import Derived.Test.YtofkhcgkahkagaaGreatPLaw
namespace Go.Proofs.YtofkhcgkahkagaaGreat
open Go.RowKit Go.Shelf Go.Proofs.YtofkhcgkahkagaaGreatW.PrintWords Go.Proofs.YtofkhcgkahkagaaGreatW.PrintLast Go.Proofs.YtofkhcgkahkagaaGreatW.PrintMore Go.Proofs.YtofkhcgkahkagaaGreat.PPromiseShort
set_option linter.unusedVariables false
set_option linter.unusedSimpArgs false

/-- What promise.Line answers. -/
def lineA (chk : List S165 → List S172 → List S176 → Int → Bool) (l0 : List S165) (l1 : List S172) (l2 : List S176) (ops : Int) (l3 : List S103) (sku : ByteArray) : List S111 × Int :=
  if chk l0 l1 l2 ops = true ∧ mayB l3 = true then lineF (toldF l0 l1 l3 [] sku) else ([], 1)

theorem told_len {l0 : List S165} {l1 : List S172} {l3 l4 : List S103} {sku : ByteArray} : (toldF l0 l1 l3 l4 sku).length ≤ l0.length + 2 * l1.length + l3.length + l4.length := by
  unfold toldF
  simp only [List.length_append]
  have := chStocks_len sku l0
  have := chHolds_len sku l1
  have := chComing_len sku l3
  have := chTaken_len sku l4
  omega

set_option maxRecDepth 100000 in
theorem line_api (chk : List S165 → List S172 → List S176 → Int → Bool) (hchk : CheckLaw chk) (l0 : List S165) (l1 : List S172) (l2 : List S176) (A0 : Option Addr) (c0 : Nat) (A1 : Option Addr) (c1 : Nat) (A2 : Option Addr) (c2 : Nat) (ops : Int) (A3 : Option Addr) (c3 : Nat) (l3 : List S103) (sku : ByteArray) (w : World)
    (hL : LedgerAt l0 l1 l2 A0 c0 A1 c1 A2 c2 w) (hf : FewL l0 l1 l2) (hC3 : Kd.C k103 w A3 l3.length l3) (hc3 : l3.length ≤ c3) (hl3 : l3.length ≤ 20) (h64 : Ch64 (toldF l0 l1 l3 [] sku)) :
    Calls Tryz.prog 36 #[.agg #[.slice A0 l0.length c0, .slice A1 l1.length c1, .slice A2 l2.length c2, .int .i64 ops], .slice A3 l3.length c3, .string sku] w fun e w' =>
      ∃ A c, e = .returned (.tuple #[.slice A (lineA chk l0 l1 l2 ops l3 sku).1.length c, .int .i64 (lineA chk l0 l1 l2 ops l3 sku).2]) ∧ Kd.R k111 111 w' w.heap.size (fun k => w.heap.size ≤ k) (.slice A (lineA chk l0 l1 l2 ops l3 sku).1.length c) (lineA chk l0 l1 l2 ops l3 sku).1 ∧ Below w.heap.size w w' := by
  have hu := Tryz.underlying55
  have hcheck := fun w' (hb : Below w.heap.size w w') => hchk l0 l1 l2 A0 c0 A1 c1 A2 c2 ops w' (hL.below hb) hf
  have hbox := fun o => (Below.refl w.heap.size w).alloc (Nat.le_refl _) o
  obtain ⟨W0, hW0⟩ : ∃ W0, w.alloc (.cells #[.slice A0 l0.length c0, .slice A1 l1.length c1, .slice A2 l2.length c2, .int .i64 ops] 55) = W0 := ⟨_, rfl⟩
  have hB0 : Below w.heap.size w W0 := by rw [← hW0]; exact hbox _
  have hs0 : W0.heap.size = w.heap.size + 1 := by rw [← hW0]; simp
  have hb0 : W0.heap[w.heap.size]? = some (.cells #[.slice A0 l0.length c0, .slice A1 l1.length c1, .slice A2 l2.length c2, .int .i64 ops] 55 (0, 0)) := by rw [← hW0]; exact heap_alloc_new w _
  have hd0 : W0.cell? ⟨w.heap.size, 0, none⟩ = some (.slice A0 l0.length c0) := (blk_cell hb0 0).trans rfl
  have hd1 : W0.cell? ⟨w.heap.size, 1, none⟩ = some (.slice A1 l1.length c1) := (blk_cell hb0 1).trans rfl
  have hd2 : W0.cell? ⟨w.heap.size, 2, none⟩ = some (.slice A2 l2.length c2) := (blk_cell hb0 2).trans rfl
  have hd3 : W0.cell? ⟨w.heap.size, 3, none⟩ = some (.int .i64 ops) := (blk_cell hb0 3).trans rfl
  have Hs0 := Lib.hid hs0
  clear hs0 hbox
  go_enter Tryz.func36, Tryz.ntmps36
  go_wp2_with fail
  refine (hcheck _ hB0).mono ?_
  clear hW0 hcheck hd0 hd1 hd2 hd3
  rintro e w2 ⟨rfl, hb2⟩
  have hs0 := Hs0.out
  have hz2 := hb2.size
  cases hk : chk l0 l1 l2 ops with
  | false =>
    have hl : lineA chk l0 l1 l2 ops l3 sku = ([], 1) := by unfold lineA; rw [if_neg (by rw [hk]; simp)]
    have Hl := Lib.hid hl
    clear hl hs0
    rw [if_neg (by simp)]
    go_wp2
    go_ret2
    exact ⟨none, 0, by rw [Hl.out]; rfl, by rw [Hl.out]; exact Kd.R_nil _ _ _ _ _, hB0.trans (hb2.mono hB0.size)⟩
  | true =>
    rw [if_pos rfl]
    have hBw := hB0.trans (hb2.mono hB0.size)
    have hmay := may_calls A3 c3 l3 w2 (Kd.C_below hC3 hBw) hc3
    go_wp2_with fail
    refine hmay.mono ?_
    clear hmay
    rintro e w3 ⟨rfl, hb3⟩
    have hB3 := hBw.trans (hb3.mono hBw.size)
    cases hm : mayB l3 with
    | false =>
      have hl : lineA chk l0 l1 l2 ops l3 sku = ([], 1) := by unfold lineA; rw [if_neg (by rw [hm]; simp)]
      have Hl := Lib.hid hl
      clear hl hs0
      go_wp2
      go_ret2
      exact ⟨none, 0, by rw [Hl.out]; rfl, by rw [Hl.out]; exact Kd.R_nil _ _ _ _ _, hB3⟩
    | true =>
      have hl : lineA chk l0 l1 l2 ops l3 sku = lineF (toldF l0 l1 l3 [] sku) := by unfold lineA; rw [if_pos ⟨hk, hm⟩]
      have hb3w := (hb3.block w.heap.size (by omega)).trans ((hb2.block w.heap.size (by omega)).trans hb0)
      have hcl0 : w3.cell? ⟨w.heap.size, 0, none⟩ = some (.slice A0 l0.length c0) := (blk_cell hb3w 0).trans rfl
      have hcl1 : w3.cell? ⟨w.heap.size, 1, none⟩ = some (.slice A1 l1.length c1) := (blk_cell hb3w 1).trans rfl
      have hcl2 : w3.cell? ⟨w.heap.size, 2, none⟩ = some (.slice A2 l2.length c2) := (blk_cell hb3w 2).trans rfl
      have hcl3 : w3.cell? ⟨w.heap.size, 3, none⟩ = some (.int .i64 ops) := (blk_cell hb3w 3).trans rfl
      have hL3 := hL.below hB3
      have htold := told_calls A0 c0 l0 A1 c1 l1 A2 c2 l2.length ops A3 c3 l3 none 0 [] sku w3 hL3.r0 hL3.h0 hL3.r1 hL3.h1 (Kd.C_below hC3 hB3) hc3 (Kd.C_nil _ _) (Nat.le_refl _) (by have := hf.1; have := hf.2.1; simp; omega)
      have htl := told_len (l0 := l0) (l1 := l1) (l3 := l3) (l4 := []) (sku := sku)
      rw [List.length_nil] at htl
      have hnX : (toldF l0 l1 l3 [] sku).length ≤ 90000 := by have := hf.1; have := hf.2.1; omega
      obtain ⟨X, hX⟩ : ∃ X, toldF l0 l1 l3 [] sku = X := ⟨_, rfl⟩
      rw [hX] at hl htold htl hnX h64
      have Hl := Lib.hid hl
      clear hl hs0 hX hL3
      go_wp2_with fail
      refine htold.mono ?_
      clear htold
      rintro e w4 ⟨v, rfl, hR, hb4⟩
      obtain ⟨Av, cv, rfl⟩ := Kd.R_slice hR
      have hrd := Kd.R_reads' hR
      have hline := line_calls Av cv X hnX h64 w4 hrd.2.2 hrd.2.1
      have hB4 := hB3.trans (hb4.mono hB3.size)
      clear hR hrd
      go_wp2_with fail
      refine hline.mono ?_
      clear hline
      rintro e w5 ⟨A', c', rfl, hR5, hb5⟩
      go_wp2
      go_ret2
      exact ⟨A', c', by rw [Hl.out]; rfl, by rw [Hl.out]; exact Kd.R_lower (Kd.R_mono hR5 (fun k hk => Nat.le_trans hB4.size hk)) hB4.size, hB4.trans (hb5.mono hB4.size)⟩

/-- What promise.At answers. -/
def atA (chk : List S165 → List S172 → List S176 → Int → Bool) (l0 : List S165) (l1 : List S172) (l2 : List S176) (ops : Int) (l3 : List S103) (sku : ByteArray) (time : Int) : Int × Int :=
  if chk l0 l1 l2 ops = true ∧ mayB l3 = true ∧ 0 ≤ time then sumOf (freeL time (toldF l0 l1 l3 [] sku)) else (0, 1)

end Go.Proofs.YtofkhcgkahkagaaGreat

