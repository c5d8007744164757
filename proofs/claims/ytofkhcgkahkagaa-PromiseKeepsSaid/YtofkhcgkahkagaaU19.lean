/- Texts behind the row of PromiseKeeps, part 19. -/
import Derived.Test.YtofkhcgkahkagaaU18
import Derived.Test.YtofkhcgkahkagaaU02
import Derived.Test.YtofkhcgkahkagaaU10
import Derived.Test.YtofkhcgkahkagaaU08
import Derived.Test.YtofkhcgkahkagaaU07
import Derived.Test.YtofkhcgkahkagaaProg
import Derived.WalkKit
/- promise.Line, At and Earliest, over whatever answers for ledger.Check. -/
namespace Go.Proofs.Ytofkhcgkahkagaa
open Go.RowKit Go.Shelf Go.Proofs.YtofkhcgkahkagaaW.PrintWords Go.Proofs.YtofkhcgkahkagaaW.PrintLast Go.Proofs.YtofkhcgkahkagaaW.PrintMore Go.Proofs.Ytofkhcgkahkagaa.PPromiseLines
set_option linter.unusedVariables false
set_option linter.unusedSimpArgs false

/-- What promise.Line answers. -/
def lineA (chk : List S100 → List S107 → List S111 → Int → Bool) (l0 : List S100) (l1 : List S107) (l2 : List S111) (ops : Int) (l3 : List S44) (sku : ByteArray) : List S58 × Int :=
  if chk l0 l1 l2 ops = true ∧ mayB l3 = true then lineF (toldF l0 l1 l3 [] sku) else ([], 1)

theorem told_len {l0 : List S100} {l1 : List S107} {l3 l4 : List S44} {sku : ByteArray} : (toldF l0 l1 l3 l4 sku).length ≤ l0.length + 2 * l1.length + l3.length + l4.length := by
  unfold toldF
  simp only [List.length_append]
  have := chStocks_len sku l0
  have := chHolds_len sku l1
  have := chComing_len sku l3
  have := chTaken_len sku l4
  omega

set_option maxRecDepth 100000 in
theorem line_api (chk : List S100 → List S107 → List S111 → Int → Bool) (hchk : CheckLaw chk) (l0 : List S100) (l1 : List S107) (l2 : List S111) (A0 : Option Addr) (c0 : Nat) (A1 : Option Addr) (c1 : Nat) (A2 : Option Addr) (c2 : Nat) (ops : Int) (A3 : Option Addr) (c3 : Nat) (l3 : List S44) (sku : ByteArray) (w : World)
    (hL : LedgerAt l0 l1 l2 A0 c0 A1 c1 A2 c2 w) (hf : FewL l0 l1 l2) (hC3 : Kd.C k44 w A3 l3.length l3) (hc3 : l3.length ≤ c3) (hl3 : l3.length ≤ 20) (h64 : Ch64 (toldF l0 l1 l3 [] sku)) :
    Calls Try.prog 20 #[.agg #[.slice A0 l0.length c0, .slice A1 l1.length c1, .slice A2 l2.length c2, .int .i64 ops], .slice A3 l3.length c3, .string sku] w fun e w' =>
      ∃ A c, e = .returned (.tuple #[.slice A (lineA chk l0 l1 l2 ops l3 sku).1.length c, .int .i64 (lineA chk l0 l1 l2 ops l3 sku).2]) ∧ Kd.R k58 58 w' w.heap.size (fun k => w.heap.size ≤ k) (.slice A (lineA chk l0 l1 l2 ops l3 sku).1.length c) (lineA chk l0 l1 l2 ops l3 sku).1 ∧ Below w.heap.size w w' := by
  have hu := Try.underlying41
  have hcheck := fun w' (hb : Below w.heap.size w w') => hchk l0 l1 l2 A0 c0 A1 c1 A2 c2 ops w' (hL.below hb) hf
  have hbox := fun o => (Below.refl w.heap.size w).alloc (Nat.le_refl _) o
  obtain ⟨W0, hW0⟩ : ∃ W0, w.alloc (.cells #[.slice A0 l0.length c0, .slice A1 l1.length c1, .slice A2 l2.length c2, .int .i64 ops] 41) = W0 := ⟨_, rfl⟩
  have hB0 : Below w.heap.size w W0 := by rw [← hW0]; exact hbox _
  have hs0 : W0.heap.size = w.heap.size + 1 := by rw [← hW0]; simp
  have hb0 : W0.heap[w.heap.size]? = some (.cells #[.slice A0 l0.length c0, .slice A1 l1.length c1, .slice A2 l2.length c2, .int .i64 ops] 41 (0, 0)) := by rw [← hW0]; exact heap_alloc_new w _
  have hd0 : W0.cell? ⟨w.heap.size, 0, none⟩ = some (.slice A0 l0.length c0) := (blk_cell hb0 0).trans rfl
  have hd1 : W0.cell? ⟨w.heap.size, 1, none⟩ = some (.slice A1 l1.length c1) := (blk_cell hb0 1).trans rfl
  have hd2 : W0.cell? ⟨w.heap.size, 2, none⟩ = some (.slice A2 l2.length c2) := (blk_cell hb0 2).trans rfl
  have hd3 : W0.cell? ⟨w.heap.size, 3, none⟩ = some (.int .i64 ops) := (blk_cell hb0 3).trans rfl
  have Hs0 := Lib.hid hs0
  clear hs0 hbox
  go_enter Try.func20, Try.ntmps20
  go_wp2_with fail
  refine (hcheck _ hB0).mono ?_
  clear hW0 hcheck hd0 hd1 hd2 hd3
  rintro e w2 ⟨rfl, hb2⟩
  have hs0 := Hs0.out
  have hz2 := hb2.size
  cases hk : chk l0 l1 l2 ops with
  | false =>
    have hl : lineA chk l0 l1 l2 ops l3 sku = ([], 1) := by unfold lineA; rw [if_neg (by rw [hk]; simp)]
    have Hl := Lib.hid hl
    clear hl hs0
    rw [if_neg (by simp)]
    go_wp2
    go_ret2
    exact ⟨none, 0, by rw [Hl.out]; rfl, by rw [Hl.out]; exact Kd.R_nil _ _ _ _ _, hB0.trans (hb2.mono hB0.size)⟩
  | true =>
    rw [if_pos rfl]
    have hBw := hB0.trans (hb2.mono hB0.size)
    have hmay := may_calls A3 c3 l3 w2 (Kd.C_below hC3 hBw) hc3
    go_wp2_with fail
    refine hmay.mono ?_
    clear hmay
    rintro e w3 ⟨rfl, hb3⟩
    have hB3 := hBw.trans (hb3.mono hBw.size)
    cases hm : mayB l3 with
    | false =>
      have hl : lineA chk l0 l1 l2 ops l3 sku = ([], 1) := by unfold lineA; rw [if_neg (by rw [hm]; simp)]
      have Hl := Lib.hid hl
      clear hl hs0
      go_wp2
      go_ret2
      exact ⟨none, 0, by rw [Hl.out]; rfl, by rw [Hl.out]; exact Kd.R_nil _ _ _ _ _, hB3⟩
    | true =>
      have hl : lineA chk l0 l1 l2 ops l3 sku = lineF (toldF l0 l1 l3 [] sku) := by unfold lineA; rw [if_pos ⟨hk, hm⟩]
      have hb3w := (hb3.block w.heap.size (by omega)).trans ((hb2.block w.heap.size (by omega)).trans hb0)
      have hcl0 : w3.cell? ⟨w.heap.size, 0, none⟩ = some (.slice A0 l0.length c0) := (blk_cell hb3w 0).trans rfl
      have hcl1 : w3.cell? ⟨w.heap.size, 1, none⟩ = some (.slice A1 l1.length c1) := (blk_cell hb3w 1).trans rfl
      have hcl2 : w3.cell? ⟨w.heap.size, 2, none⟩ = some (.slice A2 l2.length c2) := (blk_cell hb3w 2).trans rfl
      have hcl3 : w3.cell? ⟨w.heap.size, 3, none⟩ = some (.int .i64 ops) := (blk_cell hb3w 3).trans rfl
      have hL3 := hL.below hB3
      have htold := told_calls A0 c0 l0 A1 c1 l1 A2 c2 l2.length ops A3 c3 l3 none 0 [] sku w3 hL3.r0 hL3.h0 hL3.r1 hL3.h1 (Kd.C_below hC3 hB3) hc3 (Kd.C_nil _ _) (Nat.le_refl _) (by have := hf.1; have := hf.2.1; simp; omega)
      have htl := told_len (l0 := l0) (l1 := l1) (l3 := l3) (l4 := []) (sku := sku)
      rw [List.length_nil] at htl
      have hnX : (toldF l0 l1 l3 [] sku).length ≤ 90000 := by have := hf.1; have := hf.2.1; omega
      obtain ⟨X, hX⟩ : ∃ X, toldF l0 l1 l3 [] sku = X := ⟨_, rfl⟩
      rw [hX] at hl htold htl hnX h64
      have Hl := Lib.hid hl
      clear hl hs0 hX hL3
      go_wp2_with fail
      refine htold.mono ?_
      clear htold
      rintro e w4 ⟨v, rfl, hR, hb4⟩
      obtain ⟨Av, cv, rfl⟩ := Kd.R_slice hR
      have hrd := Kd.R_reads' hR
      have hline := line_calls Av cv X hnX h64 w4 hrd.2.2 hrd.2.1
      have hB4 := hB3.trans (hb4.mono hB3.size)
      clear hR hrd
      go_wp2_with fail
      refine hline.mono ?_
      clear hline
      rintro e w5 ⟨A', c', rfl, hR5, hb5⟩
      go_wp2
      go_ret2
      exact ⟨A', c', by rw [Hl.out]; rfl, by rw [Hl.out]; exact Kd.R_lower (Kd.R_mono hR5 (fun k hk => Nat.le_trans hB4.size hk)) hB4.size, hB4.trans (hb5.mono hB4.size)⟩

/-- What promise.At answers. -/
def atA (chk : List S100 → List S107 → List S111 → Int → Bool) (l0 : List S100) (l1 : List S107) (l2 : List S111) (ops : Int) (l3 : List S44) (sku : ByteArray) (time : Int) : Int × Int :=
  if chk l0 l1 l2 ops = true ∧ mayB l3 = true ∧ 0 ≤ time then sumOf (freeL time (toldF l0 l1 l3 [] sku)) else (0, 1)

set_option maxRecDepth 100000 in
theorem at_api (chk : List S100 → List S107 → List S111 → Int → Bool) (hchk : CheckLaw chk) (l0 : List S100) (l1 : List S107) (l2 : List S111) (A0 : Option Addr) (c0 : Nat) (A1 : Option Addr) (c1 : Nat) (A2 : Option Addr) (c2 : Nat) (ops : Int) (A3 : Option Addr) (c3 : Nat) (l3 : List S44) (sku : ByteArray) (time : Int) (w : World)
    (hL : LedgerAt l0 l1 l2 A0 c0 A1 c1 A2 c2 w) (hf : FewL l0 l1 l2) (hC3 : Kd.C k44 w A3 l3.length l3) (hc3 : l3.length ≤ c3) (hl3 : l3.length ≤ 20) (h64 : Ch64 (toldF l0 l1 l3 [] sku)) :
    Calls Try.prog 22 #[.agg #[.slice A0 l0.length c0, .slice A1 l1.length c1, .slice A2 l2.length c2, .int .i64 ops], .slice A3 l3.length c3, .string sku, .int .i64 time] w fun e w' =>
      e = .returned (.tuple #[.int .i64 (atA chk l0 l1 l2 ops l3 sku time).1, .int .i64 (atA chk l0 l1 l2 ops l3 sku time).2]) ∧ Below w.heap.size w w' := by
  have hu := Try.underlying41
  have hcheck := fun w' (hb : Below w.heap.size w w') => hchk l0 l1 l2 A0 c0 A1 c1 A2 c2 ops w' (hL.below hb) hf
  have hbox := fun o => (Below.refl w.heap.size w).alloc (Nat.le_refl _) o
  obtain ⟨W0, hW0⟩ : ∃ W0, w.alloc (.cells #[.slice A0 l0.length c0, .slice A1 l1.length c1, .slice A2 l2.length c2, .int .i64 ops] 41) = W0 := ⟨_, rfl⟩
  have hB0 : Below w.heap.size w W0 := by rw [← hW0]; exact hbox _
  have hs0 : W0.heap.size = w.heap.size + 1 := by rw [← hW0]; simp
  have hb0 : W0.heap[w.heap.size]? = some (.cells #[.slice A0 l0.length c0, .slice A1 l1.length c1, .slice A2 l2.length c2, .int .i64 ops] 41 (0, 0)) := by rw [← hW0]; exact heap_alloc_new w _
  have hd0 : W0.cell? ⟨w.heap.size, 0, none⟩ = some (.slice A0 l0.length c0) := (blk_cell hb0 0).trans rfl
  have hd1 : W0.cell? ⟨w.heap.size, 1, none⟩ = some (.slice A1 l1.length c1) := (blk_cell hb0 1).trans rfl
  have hd2 : W0.cell? ⟨w.heap.size, 2, none⟩ = some (.slice A2 l2.length c2) := (blk_cell hb0 2).trans rfl
  have hd3 : W0.cell? ⟨w.heap.size, 3, none⟩ = some (.int .i64 ops) := (blk_cell hb0 3).trans rfl
  have Hs0 := Lib.hid hs0
  clear hs0 hbox
  go_enter Try.func22, Try.ntmps22
  go_wp2_with fail
  refine (hcheck _ hB0).mono ?_
  clear hW0 hcheck hd0 hd1 hd2 hd3
  rintro e w2 ⟨rfl, hb2⟩
  have hs0 := Hs0.out
  have hz2 := hb2.size
  cases hk : chk l0 l1 l2 ops with
  | false =>
    have hl : atA chk l0 l1 l2 ops l3 sku time = (0, 1) := by unfold atA; rw [if_neg (by rw [hk]; simp)]
    have Hl := Lib.hid hl
    clear hl hs0
    rw [if_neg (by simp)]
    go_wp2
    go_ret2
    exact ⟨by rw [Hl.out]; rfl, hB0.trans (hb2.mono hB0.size)⟩
  | true =>
    rw [if_pos rfl]
    have hBw := hB0.trans (hb2.mono hB0.size)
    have hmay := may_calls A3 c3 l3 w2 (Kd.C_below hC3 hBw) hc3
    go_wp2_with fail
    refine hmay.mono ?_
    clear hmay
    rintro e w3 ⟨rfl, hb3⟩
    have hB3 := hBw.trans (hb3.mono hBw.size)
    cases hm : mayB l3 with
    | false =>
      have hl : atA chk l0 l1 l2 ops l3 sku time = (0, 1) := by unfold atA; rw [if_neg (by rw [hm]; simp)]
      have Hl := Lib.hid hl
      clear hl hs0
      go_wp2
      go_ret2
      exact ⟨by rw [Hl.out]; rfl, hB3⟩
    | true =>
      by_cases hti : 0 ≤ time
      · have htb : decide (time < 0) = false := decide_eq_false (by omega)
        have hl : atA chk l0 l1 l2 ops l3 sku time = sumOf (freeL time (toldF l0 l1 l3 [] sku)) := by unfold atA; rw [if_pos ⟨hk, hm, hti⟩]
        have hb3w := (hb3.block w.heap.size (by omega)).trans ((hb2.block w.heap.size (by omega)).trans hb0)
        have hcl0 : w3.cell? ⟨w.heap.size, 0, none⟩ = some (.slice A0 l0.length c0) := (blk_cell hb3w 0).trans rfl
        have hcl1 : w3.cell? ⟨w.heap.size, 1, none⟩ = some (.slice A1 l1.length c1) := (blk_cell hb3w 1).trans rfl
        have hcl2 : w3.cell? ⟨w.heap.size, 2, none⟩ = some (.slice A2 l2.length c2) := (blk_cell hb3w 2).trans rfl
        have hcl3 : w3.cell? ⟨w.heap.size, 3, none⟩ = some (.int .i64 ops) := (blk_cell hb3w 3).trans rfl
        have hL3 := hL.below hB3
        have htold := told_calls A0 c0 l0 A1 c1 l1 A2 c2 l2.length ops A3 c3 l3 none 0 [] sku w3 hL3.r0 hL3.h0 hL3.r1 hL3.h1 (Kd.C_below hC3 hB3) hc3 (Kd.C_nil _ _) (Nat.le_refl _) (by have := hf.1; have := hf.2.1; simp; omega)
        have htl := told_len (l0 := l0) (l1 := l1) (l3 := l3) (l4 := []) (sku := sku)
        rw [List.length_nil] at htl
        have hnX : (toldF l0 l1 l3 [] sku).length ≤ 90000 := by have := hf.1; have := hf.2.1; omega
        obtain ⟨X, hX⟩ : ∃ X, toldF l0 l1 l3 [] sku = X := ⟨_, rfl⟩
        rw [hX] at hl htold htl hnX h64
        have Hl := Lib.hid hl
        clear hl hs0 hX hL3
        go_wp2_with fail
        refine htold.mono ?_
        clear htold
        rintro e w4 ⟨v, rfl, hR, hb4⟩
        obtain ⟨Av, cv, rfl⟩ := Kd.R_slice hR
        have hrd := Kd.R_reads' hR
        have hfree := free_calls Av cv X time w4 hrd.2.2 hrd.2.1 h64 (by omega)
        have hB4 := hB3.trans (hb4.mono hB3.size)
        clear hR hrd
        go_wp2_with fail
        refine hfree.mono ?_
        clear hfree
        rintro e w5 ⟨rfl, hb5⟩
        go_wp2
        go_ret2
        exact ⟨by rw [Hl.out]; rfl, hB4.trans (hb5.mono hB4.size)⟩
      · have htb : decide (time < 0) = true := decide_eq_true (by omega)
        have hl : atA chk l0 l1 l2 ops l3 sku time = (0, 1) := by unfold atA; rw [if_neg (fun h => hti h.2.2)]
        have Hl := Lib.hid hl
        clear hl hs0
        go_wp2
        go_ret2
        exact ⟨by rw [Hl.out]; rfl, hB3⟩
end Go.Proofs.Ytofkhcgkahkagaa
/- promise.Earliest, over whatever answers for ledger.Check. -/
namespace Go.Proofs.Ytofkhcgkahkagaa
open Go.RowKit Go.Shelf Go.Proofs.YtofkhcgkahkagaaW.PrintWords Go.Proofs.YtofkhcgkahkagaaW.PrintLast Go.Proofs.YtofkhcgkahkagaaW.PrintMore Go.Proofs.Ytofkhcgkahkagaa.PPromiseLines
set_option linter.unusedVariables false
set_option linter.unusedSimpArgs false

/-- How far back enough are free. -/
def backN (s : List S58) (q : Int) : Nat → Nat
  | 0 => 0
  | k + 1 => if q ≤ (s.getD k z58).f1 then backN s q k else k + 1
theorem backN_le (s : List S58) (q : Int) : ∀ k, backN s q k ≤ k
  | 0 => Nat.le_refl _
  | k + 1 => by
    unfold backN
    split
    · exact Nat.le_succ_of_le (backN_le s q k)
    · exact Nat.le_refl _
def earlyF (s : List S58) (q : Int) : Int × Int := if backN s q s.length = s.length then (0, 3) else ((s.getD (backN s q s.length) z58).f0, 0)

/-- What promise.Earliest answers. -/
def earlyA (chk : List S100 → List S107 → List S111 → Int → Bool) (l0 : List S100) (l1 : List S107) (l2 : List S111) (ops : Int) (l3 : List S44) (sku : ByteArray) (q : Int) : Int × Int :=
  if q < 0 then (0, 1) else if (lineA chk l0 l1 l2 ops l3 sku).2 ≠ 0 then (0, (lineA chk l0 l1 l2 ops l3 sku).2) else earlyF (lineA chk l0 l1 l2 ops l3 sku).1 q

set_option maxRecDepth 100000 in
theorem early_api (chk : List S100 → List S107 → List S111 → Int → Bool) (hchk : CheckLaw chk) (l0 : List S100) (l1 : List S107) (l2 : List S111) (A0 : Option Addr) (c0 : Nat) (A1 : Option Addr) (c1 : Nat) (A2 : Option Addr) (c2 : Nat) (ops : Int) (A3 : Option Addr) (c3 : Nat) (l3 : List S44) (sku : ByteArray) (q : Int) (w : World)
    (hL : LedgerAt l0 l1 l2 A0 c0 A1 c1 A2 c2 w) (hf : FewL l0 l1 l2) (hC3 : Kd.C k44 w A3 l3.length l3) (hc3 : l3.length ≤ c3) (hl3 : l3.length ≤ 20) (h64 : Ch64 (toldF l0 l1 l3 [] sku)) :
    Calls Try.prog 18 #[.agg #[.slice A0 l0.length c0, .slice A1 l1.length c1, .slice A2 l2.length c2, .int .i64 ops], .slice A3 l3.length c3, .string sku, .int .i64 q] w fun e w' =>
      e = .returned (.tuple #[.int .i64 (earlyA chk l0 l1 l2 ops l3 sku q).1, .int .i64 (earlyA chk l0 l1 l2 ops l3 sku q).2]) ∧ Below w.heap.size w w' := by
  have hu := Try.underlying41
  have hus := Try.underlying58
  have hbox := fun o => (Below.refl w.heap.size w).alloc (Nat.le_refl _) o
  go_enter Try.func18, Try.ntmps18
  by_cases hq : q < 0
  · have hqb : decide (q < 0) = true := decide_eq_true hq
    have he : earlyA chk l0 l1 l2 ops l3 sku q = (0, 1) := by unfold earlyA; rw [if_pos hq]
    have He := Lib.hid he
    clear hq he
    go_wp2
    go_ret2
    exact ⟨by rw [He.out]; rfl, hbox _⟩
  · have hqb : decide (q < 0) = false := decide_eq_false hq
    have hline := fun w' (hb : Below w.heap.size w w') => line_api chk hchk l0 l1 l2 A0 c0 A1 c1 A2 c2 ops A3 c3 l3 sku w' (hL.below hb) hf (Kd.C_below hC3 hb) hc3 hl3 h64
    obtain ⟨S, hS⟩ : ∃ S, lineA chk l0 l1 l2 ops l3 sku = S := ⟨_, rfl⟩
    have he : earlyA chk l0 l1 l2 ops l3 sku q = if S.2 ≠ 0 then (0, S.2) else earlyF S.1 q := by unfold earlyA; rw [if_neg hq, hS]
    rw [hS] at hline
    have He := Lib.hid he
    clear hS hq he
    go_wp2_with fail
    refine (hline _ (hbox _)).mono ?_
    clear hline
    rintro e w2 ⟨Av, cv, rfl, hR, hb2⟩
    have hB2 := (hbox (.cells #[.slice A0 l0.length c0, .slice A1 l1.length c1, .slice A2 l2.length c2, .int .i64 ops] 41)).trans (hb2.mono (by simp))
    obtain ⟨s, er⟩ := S
    dsimp only at *
    by_cases h0 : er = 0
    · have h0b : (er != 0) = false := by rw [h0]; rfl
      have he2 : earlyA chk l0 l1 l2 ops l3 sku q = earlyF s q := by rw [He.out, if_neg (by simpa using h0)]
      have He2 := Lib.hid he2
      have hrd := Kd.R_reads' hR
      have hmax := hrd.2.2.2.1
      clear h0 he2 hR hb2 hbox
      go_wp2
      go_loopw [12] (fun i wr => ∃ k : Nat, k ≤ s.length ∧ i = .int .i64 k ∧ backN s q s.length = backN s q k ∧ wr = w2)
        (fun i _ => (intOf i).toNat)
      case atStart => exact ⟨s.length, Nat.le_refl _, rfl, rfl, rfl⟩
      case round =>
        obtain ⟨k, hk, rfl, hback, rfl⟩ := hrel
        cases k with
        | zero =>
          have hd0 : decide ((0 : Int) < ((0 : Nat) : Int)) = false := rfl
          have hb0 : backN s q s.length = 0 := hback
          by_cases hl : s.length = 0
          · have hlb : (((0 : Nat) : Int) == (s.length : Int)) = true := by rw [hl]; rfl
            have he3 : earlyF s q = (0, 3) := by unfold earlyF; rw [if_pos (by rw [hb0, hl])]
            have He3 := Lib.hid he3
            clear hback hb0 hl he3
            go_wp2
            go_ret2
            exact ⟨by rw [He2.out, He3.out]; rfl, hB2⟩
          · have hlb : (((0 : Nat) : Int) == (s.length : Int)) = false := by simp; omega
            have he3 : earlyF s q = ((s.getD 0 z58).f0, 0) := by unfold earlyF; rw [if_neg (by rw [hb0]; omega), hb0]
            obtain ⟨ad, rfl, hx0, hx1⟩ := at_T58 hrd.2.2 0 (by omega) (by omega)
            have hlt0 : 0 < s.length := by omega
            rw [show ad.add (Int.toNat 0 * 2) = ad from rfl] at hx0 hx1
            have He3 := Lib.hid he3
            have hrr : rd_T58 s 0 = s.getD 0 z58 := rfl
            have Hrr := Lib.hid hrr
            clear hback hb0 hl he3 hrr
            go_wp2
            go_ret2
            exact ⟨by rw [He2.out, He3.out, ← Hrr.out]; rfl, hB2⟩
        | succ k =>
          have hd0 : decide ((0 : Int) < ((k : Int) + 1)) = true := decide_eq_true (by omega)
          have hd0' : decide ((0 : Int) < ((k + 1 : Nat) : Int)) = true := decide_eq_true (by omega)
          obtain ⟨ad, rfl, hx0, hx1⟩ := at_T58 hrd.2.2 (k : Int) (by omega) (by omega)
          rw [Int.toNat_natCast] at hx0 hx1
          have hrr : rd_T58 s (k : Int) = s.getD k z58 := by unfold rd_T58; rw [Int.toNat_natCast]
          rw [hrr] at hx0 hx1
          clear hrr
          have hbk : backN s q (k + 1) = if q ≤ (s.getD k z58).f1 then backN s q k else k + 1 := rfl
          obtain ⟨y, hy⟩ : ∃ y, s.getD k z58 = y := ⟨_, rfl⟩
          rw [hy] at hx0 hx1 hbk
          have Hy := Lib.hid hy
          clear hy
          by_cases hle : q ≤ y.f1
          · have hle2 : decide (q ≤ y.f1) = true := decide_eq_true hle
            rw [if_pos hle] at hbk
            have Hbk := Lib.hid (hback.trans hbk)
            clear hle hbk hback
            go_wp2
            refine ⟨⟨k, by omega, by simp, Hbk.out, trivial⟩, by simp [intOf]⟩
          · have hle2 : decide (q ≤ y.f1) = false := decide_eq_false hle
            rw [if_neg hle] at hbk
            have hb1 := hback.trans hbk
            by_cases hl : k + 1 = s.length
            · have hlb : (((k + 1 : Nat) : Int) == (s.length : Int)) = true := by rw [hl]; simp
              have hlb' : (((k : Int) + 1) == (s.length : Int)) = true := by simpa using hlb
              have he3 : earlyF s q = (0, 3) := by unfold earlyF; rw [if_pos (by rw [hb1, hl])]
              have He3 := Lib.hid he3
              clear hback hbk hb1 hl he3 hle
              go_wp2
              go_ret2
              exact ⟨by rw [He2.out, He3.out]; rfl, hB2⟩
            · have hlb : (((k + 1 : Nat) : Int) == (s.length : Int)) = false := by simp; omega
              have hlb' : (((k : Int) + 1) == (s.length : Int)) = false := by simpa using hlb
              have he3 : earlyF s q = ((s.getD (k + 1) z58).f0, 0) := by unfold earlyF; rw [if_neg (by rw [hb1]; omega), hb1]
              obtain ⟨ad', hadd, hz0, hz1⟩ := at_T58 hrd.2.2 ((k + 1 : Nat) : Int) (by omega) (by omega)
              cases hadd
              have hlt1 : k + 1 < s.length := by omega
              rw [Int.toNat_natCast] at hz0 hz1
              have hrr : rd_T58 s ((k + 1 : Nat) : Int) = s.getD (k + 1) z58 := by unfold rd_T58; rw [Int.toNat_natCast]
              rw [hrr] at hz0 hz1
              clear hrr
              obtain ⟨y2, hy2⟩ : ∃ y2, s.getD (k + 1) z58 = y2 := ⟨_, rfl⟩
              rw [hy2] at hz0 hz1 he3
              have He3 := Lib.hid he3
              clear hback hbk hb1 hl he3 hle hy2
              go_wp2
              go_ret2
              exact ⟨by rw [He2.out, He3.out]; rfl, hB2⟩
    · have h0b : (er != 0) = true := by simpa using h0
      have he2 : earlyA chk l0 l1 l2 ops l3 sku q = (0, er) := by rw [He.out, if_pos h0]
      have He2 := Lib.hid he2
      clear h0 he2
      go_wp2
      go_ret2
      exact ⟨by rw [He2.out]; rfl, hB2⟩
end Go.Proofs.Ytofkhcgkahkagaa
/- The reference's Line, At and Earliest. -/
namespace Go.Proofs.Ytofkhcgkahkagaa
open Go.RowKit Go.Proofs.YtofkhcgkahkagaaW.PrintWords Go.Proofs.YtofkhcgkahkagaaW.PrintLast Go.Proofs.YtofkhcgkahkagaaW.PrintMore Go.Proofs.Ytofkhcgkahkagaa.PPromiseLines
set_option linter.unusedVariables false
set_option linter.unusedSimpArgs false

theorem rmayR_loop (l : List S44) (hn : l.length ≤ 1000) : ∀ d k i : Nat, i + d = l.length → d < k → quaysideref33_May.l0 k l (i : Int) = some ((l.drop i).all recB) := by
  intro d
  induction d with
  | zero =>
    intro k i h1 h2
    obtain ⟨k, rfl⟩ : ∃ m, k = m + 1 := ⟨k - 1, by omega⟩
    rw [quaysideref33_May.l0, if_neg (by omega), List.drop_of_length_le (by omega), decide_eq_true (by omega)]
    rfl
  | succ d ih =>
    intro k i h1 h2
    obtain ⟨k, rfl⟩ : ∃ m, k = m + 1 := ⟨k - 1, by omega⟩
    have hi : i < l.length := by omega
    have hI := ih k (i + 1) (by omega) (by omega)
    rw [quaysideref33_May.l0, if_pos (by omega), if_pos (by omega), rd_R hi, wrap_next hi (by omega), name6_f, Option.bind_some, List.drop_eq_getElem_cons hi, List.all_cons]
    unfold recB
    by_cases c1 : nameB l[i].f0 = true
    · rw [if_pos c1]
      by_cases c2 : l[i].f1 < 1
      · rw [if_pos c2]
        have : ¬ 1 ≤ l[i].f1 := by omega
        simp [c1, this]
      · rw [if_neg c2]
        have c2' : 1 ≤ l[i].f1 := by omega
        by_cases c3 : l[i].f2 < 0
        · rw [if_pos c3]
          have : ¬ 0 ≤ l[i].f2 := by omega
          simp [c1, c2', this]
        · rw [if_neg c3, hI]
          have c3' : 0 ≤ l[i].f2 := by omega
          simp [c1, c2', c3']
          rfl
    · rw [if_neg c1]
      simp [c1]
theorem rmayR_law (l : List S44) (hn : l.length ≤ 20) : quaysideref33_May.f 1000 l = some (mayB l) := by
  have := rmayR_loop l (by omega) l.length 1000 0 (by omega) (by omega)
  unfold quaysideref33_May.f mayB
  rw [decide_eq_true (show l.length ≤ 1000 by omega), Bool.true_and]
  exact this

/-- What is free at a time, without what is taken; and the line of it. -/
def fR (l0 : List S100) (l1 : List S107) (l3 : List S44) (sku : ByteArray) (t : Int) : Int × Int := sumOf (frL l0 l1 l3 [] sku t)
noncomputable def rlineA (l0 : List S100) (l1 : List S107) (l2 : List S111) (ops : Int) (l3 : List S44) (sku : ByteArray) : List S58 × Int :=
  if ckB l0 l1 l2 ops = true ∧ mayB l3 = true then lineG (fR l0 l1 l3 sku) (timesR l1 l3 []) [] else ([], 1)
section
variable (l0 : List S100) (l1 : List S107) (l2 : List S111) (A0 : Option Addr) (c0 : Nat) (A1 : Option Addr) (c1 : Nat) (A2 : Option Addr) (c2 : Nat) (ops : Int) (A3 : Option Addr) (c3 : Nat) (l3 : List S44) (sku : ByteArray) (w : World)
end
end Go.Proofs.Ytofkhcgkahkagaa
/- The reference's Earliest. -/
namespace Go.Proofs.Ytofkhcgkahkagaa
open Go.RowKit Go.Proofs.YtofkhcgkahkagaaW.PrintWords Go.Proofs.YtofkhcgkahkagaaW.PrintLast Go.Proofs.YtofkhcgkahkagaaW.PrintMore Go.Proofs.Ytofkhcgkahkagaa.PPromiseLines
set_option linter.unusedVariables false
set_option linter.unusedSimpArgs false

def atStep (q : Int) (a : Int) (x : S58) : Int := if x.f1 < q then -1 else if a < 0 then x.f0 else a
def rearlyF (s : List S58) (q : Int) : Int × Int := if s.foldl (atStep q) (-1) < 0 then (0, 3) else (s.foldl (atStep q) (-1), 0)
noncomputable def rearlyA (l0 : List S100) (l1 : List S107) (l2 : List S111) (ops : Int) (l3 : List S44) (sku : ByteArray) (q : Int) : Int × Int :=
  if q < 0 then (0, 1) else if (rlineA l0 l1 l2 ops l3 sku).2 ≠ 0 then (0, (rlineA l0 l1 l2 ops l3 sku).2) else rearlyF (rlineA l0 l1 l2 ops l3 sku).1 q

end Go.Proofs.Ytofkhcgkahkagaa
/- The plain law: the line over the times of a sku's changes is the line over all times. -/
namespace Go.Proofs.Ytofkhcgkahkagaa
open Go.RowKit Go.Proofs.YtofkhcgkahkagaaW.PrintWords Go.Proofs.YtofkhcgkahkagaaW.PrintLast Go.Proofs.YtofkhcgkahkagaaW.PrintMore Go.Proofs.Ytofkhcgkahkagaa.PPromiseLines
set_option linter.unusedVariables false
set_option linter.unusedSimpArgs false

/-! ### lists that rise -/
abbrev Up (l : List Int) : Prop := l.Pairwise (· < ·)
theorem mem_insU (l : List Int) (x y : Int) : y ∈ insU l x ↔ y = x ∨ y ∈ l := by
  induction l with
  | nil => simp [insU]
  | cons z r ih =>
    unfold insU
    split
    · simp only [List.mem_cons, ih]
      constructor
      · rintro (h | h | h) <;> simp [h]
      · rintro (h | h | h) <;> simp [h]
    · split
      · rename_i h
        subst h
        simp
      · simp
theorem up_insU (l : List Int) (x : Int) (h : Up l) : Up (insU l x) := by
  induction l with
  | nil => simp [insU, Up]
  | cons z r ih =>
    obtain ⟨h1, h2⟩ := List.pairwise_cons.1 h
    unfold insU
    split
    · rename_i hz
      refine List.pairwise_cons.2 ⟨fun y hy => ?_, ih h2⟩
      rcases (mem_insU r x y).1 hy with rfl | hy
      · exact hz
      · exact h1 y hy
    · split
      · exact h
      · refine List.pairwise_cons.2 ⟨fun y hy => ?_, h⟩
        rcases List.mem_cons.1 hy with rfl | hy
        · omega
        · have := h1 y hy; omega
theorem foldU (ys : List Int) : ∀ out : List Int, Up out → Up (ys.foldl insU out) ∧ ∀ y, y ∈ ys.foldl insU out ↔ y ∈ ys ∨ y ∈ out := by
  induction ys with
  | nil => intro out h; exact ⟨h, fun y => by simp⟩
  | cons x ys ih =>
    intro out h
    obtain ⟨h1, h2⟩ := ih (insU out x) (up_insU out x h)
    refine ⟨h1, fun y => ?_⟩
    rw [List.foldl_cons, h2 y, mem_insU, List.mem_cons]
    constructor
    · rintro (h | h | h) <;> simp [h]
    · rintro ((h | h) | h) <;> simp [h]
theorem timesR_up (l1 : List S107) (l3 l4 : List S44) : Up (timesR l1 l3 l4) := (foldU _ [] List.Pairwise.nil).1
theorem timesR_mem (l1 : List S107) (l3 l4 : List S44) (y : Int) : y ∈ timesR l1 l3 l4 ↔ y ∈ allT l1 l3 l4 := by
  have h := (foldU (allT l1 l3 l4) [] List.Pairwise.nil).2 y
  exact h.trans ⟨fun h => h.elim id (fun h => by cases h), .inl⟩

theorem compact_law (zs : List Int) (h : zs.Pairwise (· ≤ ·)) : Up (Lib.compact zs) ∧ ∀ y, y ∈ Lib.compact zs ↔ y ∈ zs := by
  have hget : ∀ i, i < zs.length → zs.toArray[i]! = zs[i]?.getD 0 := fun i hi => by simp [hi]
  have hle : ∀ i j, i ≤ j → j < zs.length → zs[i]?.getD 0 ≤ zs[j]?.getD 0 := fun i j hij hj => by
    rcases Nat.lt_or_ge i j with h1 | h1
    · rw [List.getElem?_eq_getElem (by omega), List.getElem?_eq_getElem hj]
      exact List.pairwise_iff_getElem.1 h i j (by omega) hj h1
    · obtain rfl : i = j := by omega
      exact Int.le_refl _
  unfold Lib.compact Lib.compactUpTo
  constructor
  · rw [Up, List.pairwise_map]
    have hr : ((List.range zs.length).filter (Lib.keeps zs.toArray)).Pairwise (· < ·) := List.Pairwise.filter _ List.pairwise_lt_range
    refine hr.imp_of_mem ?_
    intro i j hi hj hij
    have hi1 := List.mem_range.1 (List.mem_filter.1 hi).1
    have hj1 := List.mem_range.1 (List.mem_filter.1 hj).1
    have hk := (List.mem_filter.1 hj).2
    have hne : zs.toArray[j]! ≠ zs.toArray[j - 1]! := fun e => by rw [Lib.keeps_neg (by omega) e] at hk; cases hk
    rw [hget j hj1, hget (j - 1) (by omega)] at hne
    rw [hget i hi1, hget j hj1]
    have h1 := hle i (j - 1) (by omega) (by omega)
    have h2 := hle (j - 1) j (by omega) hj1
    omega
  · intro y
    constructor
    · intro hy
      obtain ⟨i, hi, rfl⟩ := List.mem_map.1 hy
      have hi1 := List.mem_range.1 (List.mem_filter.1 hi).1
      rw [hget i hi1, List.getElem?_eq_getElem hi1]
      exact List.getElem_mem hi1
    · intro hy
      obtain ⟨i, hi, rfl⟩ := List.getElem_of_mem hy
      have : ∀ i (hi : i < zs.length), ∃ j, j < zs.length ∧ Lib.keeps zs.toArray j = true ∧ zs[j]?.getD 0 = zs[i] := by
        intro i
        induction i with
        | zero => intro hi; exact ⟨0, hi, Lib.keeps_lt_one _ 0 (by omega), by rw [List.getElem?_eq_getElem hi]; rfl⟩
        | succ i ih =>
          intro hi
          by_cases e : zs.toArray[i + 1]! = zs.toArray[i]!
          · obtain ⟨j, h1, h2, h3⟩ := ih (by omega)
            refine ⟨j, h1, h2, ?_⟩
            rw [hget (i + 1) hi, hget i (by omega), List.getElem?_eq_getElem hi, List.getElem?_eq_getElem (show i < zs.length by omega)] at e
            rw [h3]
            exact e.symm
          · exact ⟨i + 1, hi, Lib.keeps_pos e, by rw [List.getElem?_eq_getElem hi]; rfl⟩
      obtain ⟨j, h1, h2, h3⟩ := this i hi
      exact List.mem_map.2 ⟨j, List.mem_filter.2 ⟨List.mem_range.2 h1, h2⟩, by rw [hget j h1, h3]⟩
theorem timesL_law (xs : List (Int × Int)) : Up (timesL xs) ∧ ∀ y, y ∈ timesL xs ↔ y = 0 ∨ y ∈ xs.map (fun x => x.1) := by
  have hs : ((0 :: xs.map (fun x => x.1)).mergeSort (fun x y => decide (x ≤ y))).Pairwise (· ≤ ·) := by
    have := List.pairwise_mergeSort (le := fun x y : Int => decide (x ≤ y)) (fun a b c h1 h2 => by simp at *; omega) (fun a b => by simp; omega) (0 :: xs.map (fun x => x.1))
    exact this.imp (fun h => by simpa using h)
  obtain ⟨h1, h2⟩ := compact_law _ hs
  refine ⟨h1, fun y => ?_⟩
  unfold timesL
  rw [h2 y, List.mem_mergeSort, List.mem_cons]

theorem up_sub : ∀ (T' T : List Int), Up T' → Up T → (∀ y ∈ T', y ∈ T) → T'.Sublist T
  | [], T, _, _, _ => List.nil_sublist T
  | a :: T', [], _, _, h => by have := h a (by simp); cases this
  | a :: T', b :: T, h1, h2, h3 => by
    obtain ⟨p1, p2⟩ := List.pairwise_cons.1 h1
    obtain ⟨q1, q2⟩ := List.pairwise_cons.1 h2
    by_cases e : a = b
    · subst e
      refine List.Sublist.cons_cons a (up_sub T' T p2 q2 (fun y hy => ?_))
      rcases List.mem_cons.1 (h3 y (by simp [hy])) with h | h
      · have := p1 y hy; omega
      · exact h
    · refine List.Sublist.cons b (up_sub (a :: T') T h1 q2 (fun y hy => ?_))
      rcases List.mem_cons.1 (h3 y hy) with h | h
      · rcases List.mem_cons.1 (h3 a (by simp)) with h4 | h4
        · exact absurd h4 e
        · have := q1 a h4
          rcases List.mem_cons.1 hy with h5 | h5
          · omega
          · have := p1 y h5; omega
      · exact h
theorem up_head {T : List Int} (h : Up T) (h0 : 0 ∈ T) (hp : ∀ y ∈ T, 0 ≤ y) : ∃ R, T = 0 :: R := by
  cases T with
  | nil => cases h0
  | cons a R =>
    rcases List.mem_cons.1 h0 with e | e
    · exact ⟨R, by rw [e]⟩
    · have := (List.pairwise_cons.1 h).1 0 e
      have := hp a (by simp)
      omega

/-! ### the line over more times -/
theorem lineR_eq (xs : List (Int × Int)) : ∀ (T : List Int) (acc : List S58), lineR xs T acc = lineG (sumAt xs) T acc
  | [], acc => rfl
  | t :: T, acc => by
    rw [lineR, lineG]
    split
    · exact lineR_eq xs T _
    · rfl
theorem lineG_congr {f g : Int → Int × Int} : ∀ (T : List Int) (acc : List S58), (∀ t ∈ T, f t = g t) → lineG f T acc = lineG g T acc
  | [], acc, _ => rfl
  | t :: T, acc, h => by
    rw [lineG, lineG, h t (by simp)]
    unfold pushG
    rw [h t (by simp)]
    split
    · exact lineG_congr T _ (fun y hy => h y (by simp [hy]))
    · rfl
theorem pushG_last (g : Int → Int × Int) (acc : List S58) (t : Int) : (pushG g acc t).getLast?.map (fun s => s.f1) = some (g t).1 := by
  unfold pushG
  split
  · assumption
  · simp
theorem line_sub (g : Int → Int × Int) (C : List Int) (hG : ∀ t0 t, t0 ≤ t → (∀ c ∈ C, ¬ (t0 < c ∧ c ≤ t)) → g t = g t0) {T' T : List Int} (h : T'.Sublist T) : ∀ (t0 : Int) (acc : List S58), Up T → (∀ t ∈ T, t0 < t) → acc.getLast?.map (fun s => s.f1) = some (g t0).1 → (g t0).2 = 0 → (∀ c ∈ C, c ≤ t0 ∨ c ∈ T') → lineG g T' acc = lineG g T acc := by
  induction h with
  | slnil => intro t0 acc _ _ _ _ _; rfl
  | @cons T' T t h ih =>
    intro t0 acc hU hlt hl h0 hC
    obtain ⟨q1, q2⟩ := List.pairwise_cons.1 hU
    have ht := hlt t (by simp)
    have e : g t = g t0 := hG t0 t (by omega) (fun c hc hcc => by
      rcases hC c hc with h1 | h1
      · omega
      · have := q1 c (h.subset h1); omega)
    rw [ih t0 acc q2 (fun y hy => hlt y (by simp [hy])) hl h0 hC]
    conv => rhs; rw [lineG]
    rw [if_pos (by rw [e]; exact h0)]
    have : pushG g acc t = acc := by unfold pushG; rw [if_pos (by rw [e]; exact hl)]
    rw [this]
  | @cons_cons T' T t h ih =>
    intro t0 acc hU hlt hl h0 hC
    obtain ⟨q1, q2⟩ := List.pairwise_cons.1 hU
    rw [lineG, lineG]
    by_cases e : (g t).2 = 0
    · rw [if_pos e, if_pos e]
      refine ih t (pushG g acc t) q2 q1 (pushG_last g acc t) e (fun c hc => ?_)
      rcases hC c hc with h1 | h1
      · have := hlt t (by simp); exact .inl (by omega)
      · rcases List.mem_cons.1 h1 with h2 | h2
        · exact .inl (by omega)
        · exact .inr h2
    · rw [if_neg e, if_neg e]
theorem line_more (g : Int → Int × Int) (C T' T : List Int) (hG : ∀ t0 t, t0 ≤ t → (∀ c ∈ C, ¬ (t0 < c ∧ c ≤ t)) → g t = g t0) (h1 : Up T') (h2 : Up T) (hs : ∀ y ∈ T', y ∈ T) (h0 : 0 ∈ T') (hp : ∀ y ∈ T, 0 ≤ y) (hC : ∀ c ∈ C, c ∈ T') : lineG g T' [] = lineG g T [] := by
  obtain ⟨R', rfl⟩ := up_head h1 h0 (fun y hy => hp y (hs y hy))
  obtain ⟨R, rfl⟩ := up_head h2 (hs 0 h0) hp
  have hsub := up_sub _ _ h1 h2 hs
  obtain ⟨q1, q2⟩ := List.pairwise_cons.1 h2
  rw [lineG, lineG]
  by_cases e : (g 0).2 = 0
  · rw [if_pos e, if_pos e]
    refine line_sub g C hG (List.cons_sublist_cons.1 hsub) 0 (pushG g [] 0) q2 q1 (pushG_last g [] 0) e (fun c hc => ?_)
    rcases List.mem_cons.1 (hC c hc) with h3 | h3
    · exact .inl (by omega)
    · exact .inr h3
  · rw [if_neg e, if_neg e]
theorem sumAt_step (xs : List (Int × Int)) (t0 t : Int) (h : t0 ≤ t) (hc : ∀ c ∈ xs.map (fun x => x.1), ¬ (t0 < c ∧ c ≤ t)) : sumAt xs t = sumAt xs t0 := by
  unfold sumAt freeL
  rw [List.filter_congr (fun x hx => ?_)]
  rw [decide_eq_decide]
  have := hc x.1 (List.mem_map.2 ⟨x, hx, rfl⟩)
  omega

/-! ### what is free -/
theorem freeL_app (t : Int) (a b : List (Int × Int)) : freeL t (a ++ b) = freeL t a ++ freeL t b := by
  unfold freeL
  rw [List.filter_append, List.map_append]
theorem free_stocks (sku : ByteArray) (t : Int) (h : 0 ≤ t) : ∀ l : List S100, freeL t (chStocks sku l) = frS sku l
  | [] => rfl
  | s :: l => by
    have ih := free_stocks sku t h l
    have e1 : chStocks sku (s :: l) = (if (s.f0.toList == sku.toList) = true then [(0, s.f2)] else []) ++ chStocks sku l := by
      unfold chStocks
      rw [List.filter_cons]
      split <;> rfl
    have e2 : frS sku (s :: l) = (if (s.f0.toList == sku.toList) = true then [s.f2] else []) ++ frS sku l := by
      unfold frS
      rw [List.filter_cons]
      split <;> rfl
    rw [e1, e2, freeL_app, ih]
    split
    · simp [freeL, h]
    · rfl
theorem free_coming (sku : ByteArray) (t : Int) : ∀ l : List S44, freeL t (chComing sku l) = frC sku t l
  | [] => rfl
  | s :: l => by
    have ih := free_coming sku t l
    have e1 : chComing sku (s :: l) = (if (s.f0.toList == sku.toList) = true then [(s.f2, s.f1)] else []) ++ chComing sku l := by
      unfold chComing
      rw [List.filter_cons]
      split <;> rfl
    have e2 : frC sku t (s :: l) = (if ((s.f0.toList == sku.toList) && decide (s.f2 ≤ t)) = true then [s.f1] else []) ++ frC sku t l := by
      unfold frC
      rw [List.filter_cons]
      split <;> rfl
    rw [e1, e2, freeL_app, ih]
    by_cases c : (s.f0.toList == sku.toList) = true
    · by_cases c2 : s.f2 ≤ t
      · simp [c, c2, freeL]
      · simp [c, c2, freeL]
    · simp [c, freeL]
theorem free_holds (sku : ByteArray) (t : Int) (h0 : 0 ≤ t) (hm : t ≤ 9223372036854775807) : ∀ l : List S107, (∀ h ∈ l, 1 ≤ h.f3 ∧ h.f3 ≤ 9223372036854775807 ∧ 0 ≤ h.f5 ∧ h.f5 ≤ 9223372036854775807) → (freeL t (chHolds sku l)).sum = (frH sku t l).sum
  | [], _ => rfl
  | s :: l, hl => by
    have ih := free_holds sku t h0 hm l (fun h hh => hl h (by simp [hh]))
    obtain ⟨g1, g2, g3, g4⟩ := hl s (by simp)
    have e1 : chHolds sku (s :: l) = chHold sku s ++ chHolds sku l := by unfold chHolds; rw [List.flatMap_cons]
    have e2 : frH sku t (s :: l) = (if ((s.f1.toList == sku.toList) && decide (s.f4 = 0) && (decide (s.f5 = 0) || decide (t ≤ s.f5))) = true then [wrap64 (-s.f3)] else []) ++ frH sku t l := by
      unfold frH
      rw [List.filter_cons]
      split <;> rfl
    rw [e1, e2, freeL_app, List.sum_append, List.sum_append, ih]
    congr 1
    have hw : wrap64 (-s.f3) = -s.f3 := by unfold wrap64; omega
    unfold chHold
    rw [hw]
    by_cases c : s.f1.toList = sku.toList
    · by_cases c4 : s.f4 = 0
      · rw [if_pos ⟨c, c4⟩]
        by_cases c5 : s.f5 = 0
        · rw [if_neg (by omega), if_pos (by simp [c, c4, c5])]
          simp [freeL, h0]
        · by_cases c6 : s.f5 < 9223372036854775807
          · rw [if_pos ⟨by omega, c6⟩, show wrap64 (s.f5 + 1) = s.f5 + 1 from by unfold wrap64; omega]
            by_cases c7 : t ≤ s.f5
            · rw [if_pos (by simp [c, c4, c7])]
              have : ¬ s.f5 + 1 ≤ t := by omega
              simp [freeL, h0, this]
            · rw [if_neg (by simp [c5, c7])]
              have : s.f5 + 1 ≤ t := by omega
              simp [freeL, h0, this]
              omega
          · rw [if_neg (by omega), if_pos (by have : t ≤ s.f5 := by omega
                                              simp [c, c4, this])]
            simp [freeL, h0]
      · rw [if_neg (fun h => c4 h.2), if_neg (by simp [c4])]
        rfl
    · rw [if_neg (fun h => c h.1), if_neg (by simp [c])]
      rfl

/-- The premises of the plain law. -/
structure Good (l0 : List S100) (l1 : List S107) (l3 : List S44) : Prop where
  holds : ∀ h ∈ l1, 1 ≤ h.f3 ∧ h.f3 ≤ 9223372036854775807 ∧ 0 ≤ h.f5 ∧ h.f5 ≤ 9223372036854775807
  comes : ∀ r ∈ l3, 0 ≤ r.f2 ∧ r.f2 ≤ 9223372036854775807

theorem free_eq {l0 : List S100} {l1 : List S107} {l3 : List S44} (hg : Good l0 l1 l3) (sku : ByteArray) (t : Int) (h0 : 0 ≤ t) (hm : t ≤ 9223372036854775807) : sumAt (toldF l0 l1 l3 [] sku) t = fR l0 l1 l3 sku t := by
  have e : (freeL t (toldF l0 l1 l3 [] sku)).sum = (frL l0 l1 l3 [] sku t).sum := by
    unfold toldF frL
    rw [freeL_app, freeL_app, freeL_app, free_stocks sku t h0, free_coming]
    simp only [List.sum_append]
    rw [free_holds sku t h0 hm l1 hg.holds]
    have : freeL t (chTaken sku []) = [] := rfl
    rw [this]
    have : frT sku t [] = [] := rfl
    rw [this]
    simp
    omega
  unfold sumAt fR sumOf
  rw [e]

theorem told_times {l0 : List S100} {l1 : List S107} {l3 : List S44} (hg : Good l0 l1 l3) (sku : ByteArray) : ∀ c ∈ (toldF l0 l1 l3 [] sku).map (fun x => x.1), c ∈ allT l1 l3 [] := by
  intro c hc
  obtain ⟨x, hx, rfl⟩ := List.mem_map.1 hc
  unfold toldF at hx
  unfold allT
  simp only [List.mem_append] at hx ⊢
  rcases hx with ((hx | hx) | hx) | hx
  · unfold chStocks at hx
    obtain ⟨s, _, rfl⟩ := List.mem_map.1 hx
    exact .inl (.inl (.inl (by simp)))
  · unfold chHolds at hx
    obtain ⟨h, hh, hx⟩ := List.mem_flatMap.1 hx
    unfold chHold at hx
    split at hx
    · rcases List.mem_cons.1 hx with rfl | hx
      · exact .inl (.inl (.inl (by simp)))
      · split at hx
        · rename_i h5
          rw [List.mem_singleton.1 hx]
          refine .inr ?_
          unfold hoT
          exact List.mem_map.2 ⟨h, List.mem_filter.2 ⟨hh, by simp [h5.1, h5.2]⟩, rfl⟩
        · cases hx
    · cases hx
  · unfold chComing at hx
    obtain ⟨r, hr, rfl⟩ := List.mem_map.1 hx
    exact .inl (.inl (.inr (List.mem_map.2 ⟨r, (List.mem_filter.1 hr).1, rfl⟩)))
  · cases hx

theorem all_range {l0 : List S100} {l1 : List S107} {l3 : List S44} (hg : Good l0 l1 l3) : ∀ y ∈ allT l1 l3 [], 0 ≤ y ∧ y ≤ 9223372036854775807 := by
  intro y hy
  unfold allT at hy
  simp only [List.mem_append] at hy
  rcases hy with ((hy | hy) | hy) | hy
  · rw [List.mem_singleton.1 hy]; omega
  · obtain ⟨r, hr, rfl⟩ := List.mem_map.1 hy
    exact hg.comes r hr
  · cases hy
  · unfold hoT at hy
    obtain ⟨h, hh, rfl⟩ := List.mem_map.1 hy
    have h2 := (List.mem_filter.1 hh).2
    simp at h2
    have : wrap64 (h.f5 + 1) = h.f5 + 1 := by unfold wrap64; omega
    rw [this]
    omega

theorem line_eq {l0 : List S100} {l1 : List S107} {l3 : List S44} (hg : Good l0 l1 l3) (sku : ByteArray) : lineF (toldF l0 l1 l3 [] sku) = lineG (fR l0 l1 l3 sku) (timesR l1 l3 []) [] := by
  obtain ⟨hu, hm⟩ := timesL_law (toldF l0 l1 l3 [] sku)
  have hr : ∀ y ∈ timesR l1 l3 [], 0 ≤ y ∧ y ≤ 9223372036854775807 := fun y hy => all_range hg y ((timesR_mem l1 l3 [] y).1 hy)
  unfold lineF
  rw [lineR_eq, line_more (sumAt (toldF l0 l1 l3 [] sku)) ((toldF l0 l1 l3 [] sku).map (fun x => x.1)) (timesL (toldF l0 l1 l3 [] sku)) (timesR l1 l3 []) (fun t0 t h hc => sumAt_step _ t0 t h hc) hu (timesR_up l1 l3 []) (fun y hy => ?_) ((hm 0).2 (.inl rfl)) (fun y hy => (hr y hy).1) (fun c hc => (hm c).2 (.inr hc))]
  · exact lineG_congr _ _ (fun t ht => free_eq hg sku t (hr t ht).1 (hr t ht).2)
  · refine (timesR_mem l1 l3 [] y).2 ?_
    rcases (hm y).1 hy with rfl | h
    · unfold allT; simp
    · exact told_times hg sku y h

theorem good_of {l0 : List S100} {l1 : List S107} {l2 : List S111} {ops : Int} {l3 : List S44} (hF : FewL l0 l1 l2) (hr : ∀ r ∈ l3, RecG r) (hk : ckB l0 l1 l2 ops = true) (hm : mayB l3 = true) : Good l0 l1 l3 := by
  have hc := ckB_iff.1 hk
  refine ⟨fun h hh => ?_, fun r hh => ?_⟩
  · obtain ⟨i, hi, rfl⟩ := List.getElem_of_mem hh
    have h1 := (hc.2.2.1 i hi).1
    have h2 := hF.2.2.2.2.1 _ hh
    exact ⟨h1.2.2.2.1, h2.2.2.2.1.2, h1.2.2.2.2.2.2, h2.2.2.2.2.2.2⟩
  · unfold mayB at hm
    rw [Bool.and_eq_true] at hm
    have h1 := List.all_eq_true.1 hm.2 r hh
    unfold recB at h1
    simp at h1
    exact ⟨h1.2, (hr r hh).2.2.2⟩

theorem lineA_eq {l0 : List S100} {l1 : List S107} {l2 : List S111} {ops : Int} {l3 : List S44} (hF : FewL l0 l1 l2) (hr : ∀ r ∈ l3, RecG r) (sku : ByteArray) : lineA ckB l0 l1 l2 ops l3 sku = rlineA l0 l1 l2 ops l3 sku := by
  unfold lineA rlineA
  by_cases h : ckB l0 l1 l2 ops = true ∧ mayB l3 = true
  · rw [if_pos h, if_pos h]
    exact line_eq (good_of hF hr h.1 h.2) sku
  · rw [if_neg h, if_neg h]
end Go.Proofs.Ytofkhcgkahkagaa
/- What a line says, in plain words. -/
namespace Go.Proofs.Ytofkhcgkahkagaa
open Go.RowKit Go.Proofs.YtofkhcgkahkagaaW.PrintWords Go.Proofs.YtofkhcgkahkagaaW.PrintLast Go.Proofs.YtofkhcgkahkagaaW.PrintMore Go.Proofs.Ytofkhcgkahkagaa.PPromiseLines
set_option linter.unusedVariables false
set_option linter.unusedSimpArgs false

abbrev Stp := S58
/-- What is known of the steps, when so many times are over. -/
structure StI (xs : List (Int × Int)) (pre : List Int) (s : List Stp) : Prop where
  val : ∀ i (h : i < s.length), s[i].f0 ∈ pre ∧ (sumAt xs s[i].f0).1 = s[i].f1
  up : ∀ i j (hj : j < s.length) (hij : i < j), s[i].f0 < s[j].f0
  ne : ∀ i (h : i + 1 < s.length), s[i].f1 ≠ s[i + 1].f1
  all : ∀ t ∈ pre, ∃ i, ∃ h : i < s.length, s[i].f0 ≤ t ∧ (∀ h2 : i + 1 < s.length, t < s[i + 1].f0) ∧ (sumAt xs t).1 = s[i].f1
  one : s.length = 0 ↔ pre = []
theorem StI.start (xs : List (Int × Int)) : StI xs [] [] := ⟨fun _ h => by simp at h, fun _ _ h => by simp at h, fun _ h => by simp at h, fun _ h => by simp at h, by simp⟩
theorem last_eq {s : List Stp} {v : Int} (h : s.getLast?.map (fun x => x.f1) = some v) : ∃ n, ∃ hn : n < s.length, s.length = n + 1 ∧ s[n].f1 = v := by
  cases s with
  | nil => simp at h
  | cons a l =>
    refine ⟨l.length, by simp, by simp, ?_⟩
    rw [List.getLast?_eq_some_getLast (by simp)] at h
    simp only [Option.map_some, Option.some.injEq] at h
    rw [← h, List.getLast_eq_getElem]
    congr 1
theorem StI.step {xs : List (Int × Int)} {pre : List Int} {s : List Stp} (h : StI xs pre s) {t : Int} (ht : ∀ y ∈ pre, y < t) : StI xs (pre ++ [t]) (pushS xs s t) := by
  unfold pushS
  split
  · rename_i hl
    obtain ⟨n, hn, hlen, hv⟩ := last_eq hl
    refine ⟨fun i hi => ⟨List.mem_append_left _ (h.val i hi).1, (h.val i hi).2⟩, h.up, h.ne, fun y hy => ?_, ?_⟩
    · rcases List.mem_append.1 hy with hy | hy
      · exact h.all y hy
      · rw [List.mem_singleton.1 hy]
        have := ht _ (h.val n hn).1
        exact ⟨n, hn, by omega, fun h2 => by omega, hv.symm⟩
    · constructor
      · intro e; omega
      · intro e; simp at e
  · rename_i hl
    have hlast : ∀ n, ∀ hn : n < s.length, s.length = n + 1 → s[n].f1 ≠ (sumAt xs t).1 := fun n hn hlen e => hl (by
      cases s with
      | nil => simp at hn
      | cons a l =>
        rw [List.getLast?_eq_some_getLast (by simp), Option.map_some, List.getLast_eq_getElem, ← e]
        have : n = (a :: l).length - 1 := by omega
        subst this
        rfl)
    refine ⟨fun i hi => ?_, fun i j hj hij => ?_, fun i hi => ?_, fun y hy => ?_, ?_⟩
    · by_cases hi2 : i < s.length
      · rw [List.getElem_append_left hi2]
        exact ⟨List.mem_append_left _ (h.val i hi2).1, (h.val i hi2).2⟩
      · have : i = s.length := by simp at hi; omega
        subst this
        simp
    · by_cases hj2 : j < s.length
      · rw [List.getElem_append_left hj2, List.getElem_append_left (by omega)]
        exact h.up i j hj2 hij
      · have : j = s.length := by simp at hj; omega
        subst this
        rw [List.getElem_append_left hij]
        simp only [List.getElem_append_right (Nat.le_refl _), Nat.sub_self, List.getElem_cons_zero]
        exact ht _ (h.val i hij).1
    · by_cases hi2 : i + 1 < s.length
      · rw [List.getElem_append_left hi2, List.getElem_append_left (by omega)]
        exact h.ne i hi2
      · have hi3 : i + 1 = s.length := by simp at hi; omega
        have hi4 : i < s.length := by omega
        rw [List.getElem_append_left hi4]
        simp only [hi3, List.getElem_append_right (Nat.le_refl _), Nat.sub_self, List.getElem_cons_zero]
        exact hlast i hi4 hi3.symm
    · rcases List.mem_append.1 hy with hy | hy
      · obtain ⟨i, hi, h1, h2, h3⟩ := h.all y hy
        refine ⟨i, by simp; omega, ?_, fun h4 => ?_, ?_⟩
        · rw [List.getElem_append_left hi]; exact h1
        · by_cases h5 : i + 1 < s.length
          · rw [List.getElem_append_left h5]; exact h2 h5
          · have h6 : i + 1 = s.length := by simp at h4; omega
            simp only [h6, List.getElem_append_right (Nat.le_refl _), Nat.sub_self, List.getElem_cons_zero]
            exact ht y hy
        · rw [List.getElem_append_left hi]; exact h3
      · rw [List.mem_singleton.1 hy]
        refine ⟨s.length, by simp, by simp, fun h4 => by simp at h4, by simp⟩
    · constructor
      · intro e; simp at e
      · intro e; simp at e
theorem StI.fold (xs : List (Int × Int)) : ∀ (ts pre : List Int) (s : List Stp), StI xs pre s → Up (pre ++ ts) → StI xs (pre ++ ts) (ts.foldl (pushS xs) s)
  | [], pre, s, h, _ => by simpa using h
  | t :: ts, pre, s, h, hu => by
    have e : pre ++ t :: ts = (pre ++ [t]) ++ ts := by simp
    rw [e] at hu ⊢
    exact StI.fold xs ts (pre ++ [t]) _ (h.step (fun y hy => (List.pairwise_append.1 (List.pairwise_append.1 hu).1).2.2 y hy t (by simp))) hu
theorem max_under {b : Int} : ∀ {l : List Int}, (∃ x ∈ l, x < b) → ∃ m ∈ l, m < b ∧ ∀ y ∈ l, y < b → y ≤ m
  | [], h => by simp at h
  | a :: l, h => by
    by_cases hl : ∃ x ∈ l, x < b
    · obtain ⟨m, h1, h2, h3⟩ := max_under hl
      by_cases ha : a < b ∧ m < a
      · refine ⟨a, by simp, ha.1, fun y hy hyb => ?_⟩
        rcases List.mem_cons.1 hy with rfl | hy
        · omega
        · have := h3 y hy hyb; omega
      · refine ⟨m, by simp [h1], h2, fun y hy hyb => ?_⟩
        rcases List.mem_cons.1 hy with rfl | hy
        · omega
        · exact h3 y hy hyb
    · obtain ⟨x, hx, hxb⟩ := h
      rcases List.mem_cons.1 hx with rfl | hx
      · refine ⟨x, by simp, hxb, fun y hy hyb => ?_⟩
        rcases List.mem_cons.1 hy with rfl | hy
        · exact Int.le_refl _
        · exact absurd ⟨y, hy, hyb⟩ hl
      · exact absurd ⟨x, hx, hxb⟩ hl
theorem lineR_good (xs : List (Int × Int)) : ∀ (ts : List Int) (acc : List Stp), (∀ t ∈ ts, (sumAt xs t).2 = 0) → lineR xs ts acc = (ts.foldl (pushS xs) acc, 0)
  | [], _, _ => rfl
  | t :: ts, acc, h => by
    rw [lineR, if_pos (h t (by simp)), List.foldl_cons]
    exact lineR_good xs ts _ (fun y hy => h y (by simp [hy]))
theorem lineR_bad (xs : List (Int × Int)) : ∀ (ts : List Int) (acc : List Stp), (lineR xs ts acc).2 = 0 → ∀ t ∈ ts, (sumAt xs t).2 = 0
  | [], _, _ => by simp
  | t :: ts, acc, h => by
    rw [lineR] at h
    by_cases e : (sumAt xs t).2 = 0
    · rw [if_pos e] at h
      intro y hy
      rcases List.mem_cons.1 hy with rfl | hy
      · exact e
      · exact lineR_bad xs ts _ h y hy
    · rw [if_neg e] at h
      exact absurd h e
theorem lineR_er (xs : List (Int × Int)) : ∀ (ts : List Int) (acc : List Stp), (lineR xs ts acc).2 = 0 ∨ (lineR xs ts acc).2 = 10
  | [], _ => .inl rfl
  | t :: ts, acc => by
    rw [lineR]
    split
    · exact lineR_er xs ts _
    · rename_i e
      right
      show (sumAt xs t).2 = 10
      unfold sumAt sumOf at e ⊢
      split
      · rename_i h; rw [if_pos h] at e; exact absurd rfl e
      · rfl
theorem line_er (xs : List (Int × Int)) : (lineF xs).2 = 0 ∨ (lineF xs).2 = 10 := lineR_er xs _ _
theorem line_oks {xs : List (Int × Int)} (h : (lineF xs).2 = 0) : ∀ t ∈ timesL xs, (sumAt xs t).2 = 0 := lineR_bad xs _ _ h
theorem line_good {xs : List (Int × Int)} (h : ∀ t ∈ timesL xs, (sumAt xs t).2 = 0) : (lineF xs).2 = 0 ∧ StI xs (timesL xs) (lineF xs).1 := by
  unfold lineF
  rw [lineR_good xs _ _ h]
  refine ⟨rfl, ?_⟩
  have := StI.fold xs (timesL xs) [] [] (StI.start xs) (by simpa using (timesL_law xs).1)
  simpa using this

/-- What the law asks of a line. -/
structure LineP (xs : List (Int × Int)) (s : List Stp) : Prop where
  pos : 0 < s.length
  zero : ∀ h : 0 < s.length, s[0].f0 = 0
  val : ∀ i (h : i < s.length), sumAt xs s[i].f0 = (s[i].f1, 0)
  mem : ∀ i (h : i < s.length), s[i].f0 = 0 ∨ s[i].f0 ∈ xs.map (fun x => x.1)
  up : ∀ i j (hj : j < s.length) (hij : i < j), s[i].f0 < s[j].f0
  ne : ∀ i (h : i + 1 < s.length), s[i].f1 ≠ s[i + 1].f1
  back : ∀ i (h : i + 1 < s.length), sumAt xs (s[i + 1].f0 - 1) = (s[i].f1, 0)
  all : ∀ t ∈ timesL xs, ∃ i, ∃ h : i < s.length, s[i].f0 ≤ t ∧ (∀ h2 : i + 1 < s.length, t < s[i + 1].f0) ∧ (sumAt xs t).1 = s[i].f1
  oks : ∀ t ∈ timesL xs, (sumAt xs t).2 = 0
theorem line_law {xs : List (Int × Int)} (h : (lineF xs).2 = 0) (hp : ∀ x ∈ xs.map (fun x => x.1), (0 : Int) ≤ x) : LineP xs (lineF xs).1 := by
  have ho := line_oks h
  obtain ⟨_, hI⟩ := line_good ho
  obtain ⟨s, hs⟩ : ∃ s, (lineF xs).1 = s := ⟨_, rfl⟩
  rw [hs] at hI ⊢
  obtain ⟨hU, hm⟩ := timesL_law xs
  have h0 : (0 : Int) ∈ timesL xs := (hm 0).2 (.inl rfl)
  have hnn : ∀ y ∈ timesL xs, 0 ≤ y := fun y hy => by
    rcases (hm y).1 hy with rfl | hy
    · exact Int.le_refl _
    · exact hp y hy
  have hpos : 0 < s.length := by
    have := hI.one
    rcases Nat.eq_zero_or_pos s.length with e | e
    · rw [this.1 e] at h0; simp at h0
    · exact e
  refine ⟨hpos, fun hh => ?_, fun i hi => ?_, fun i hi => (hm _).1 (hI.val i hi).1, hI.up, hI.ne, fun i hi => ?_, hI.all, ho⟩
  · obtain ⟨i, hi, h1, h2, h3⟩ := hI.all 0 h0
    have := hnn _ (hI.val 0 hpos).1
    rcases Nat.eq_zero_or_pos i with e | e
    · subst e; omega
    · have := hI.up 0 i hi e; omega
  · exact Prod.ext (hI.val i hi).2 (ho _ (hI.val i hi).1)
  · have hlt := hI.up i (i + 1) hi (by omega)
    obtain ⟨t0, m1, m2, m3⟩ := max_under (b := s[i + 1].f0) (l := timesL xs) ⟨_, (hI.val i (by omega)).1, hlt⟩
    have hge := m3 _ (hI.val i (by omega)).1 hlt
    rw [sumAt_step xs t0 (s[i + 1].f0 - 1) (by omega) (fun c hc hh => by
      have := m3 c ((hm c).2 (.inr hc)) (by omega)
      omega)]
    obtain ⟨j, hj, j1, j2, j3⟩ := hI.all t0 m1
    have hji : j = i := by
      rcases Nat.lt_trichotomy j i with e | e | e
      · have h5 := j2 (by omega)
        rcases Nat.eq_or_lt_of_le (show j + 1 ≤ i by omega) with e2 | e2
        · simp only [e2] at h5; omega
        · have := hI.up (j + 1) i (by omega) e2; omega
      · exact e
      · rcases Nat.eq_or_lt_of_le (show i + 1 ≤ j by omega) with e2 | e2
        · simp only [← e2] at j1; omega
        · have := hI.up (i + 1) j hj e2; omega
    subst hji
    exact Prod.ext j3 (ho _ m1)
end Go.Proofs.Ytofkhcgkahkagaa
/- Go's library sorts no text: nothing turns. -/
namespace Go.Proofs.Ytofkhcgkahkagaa
open Go.RowKit

theorem ins_nil (p : Option Addr) (cap : Nat) (w : World) : Calls Try.prog 93 #[.slice p 0 cap, .int .i64 0, .int .i64 0] w fun e w' => e = .returned (.tuple #[]) ∧ w' = w := by
  go_enter Try.func93, Try.ntmps93
  go_wp2
  refine wp_loop_rounds 1 ?_
  rw [rounds_succ]
  go_wp2
  go_end0
  exact ⟨rfl, rfl⟩
set_option maxRecDepth 100000 in
theorem pdq_nil (p : Option Addr) (cap : Nat) (w : World) : Calls Try.prog 73 #[.slice p 0 cap, .int .i64 0, .int .i64 0, .int .i64 0] w fun e w' => e = .returned (.tuple #[]) ∧ w' = w := by
  go_enter Try.func73, Try.ntmps73
  go_wp2
  refine wp_loop_rounds 1 ?_
  rw [rounds_succ]
  go_wp2_with (go_at_call 93; refine (ins_nil p cap _).mono ?_; rintro e w' ⟨rfl, rfl⟩)
  refine bodyPost_ret (results_none rfl _ _ _) rfl ?_
  exact ⟨rfl, rfl⟩
set_option maxRecDepth 100000 in
theorem len_nil64 (w : World) : Calls Try.prog 103 #[.int .u64 0] w fun e w' => e = .returned (.int .i64 0) ∧ w' = w := by
  go_enter Try.func103, Try.ntmps103
  go_wp2
  go_ret
  exact ⟨by kernel_rfl, rfl⟩
theorem len_nil (w : World) : Calls Try.prog 74 #[.int .u64 0] w fun e w' => e = .returned (.int .i64 0) ∧ w' = w := by
  go_enter Try.func74, Try.ntmps74
  go_wp2_with (go_at_call 103; refine (len_nil64 _).mono ?_; rintro e w' ⟨rfl, rfl⟩)
  go_ret
  exact ⟨rfl, rfl⟩
set_option maxRecDepth 100000 in
theorem sort_nil (p : Option Addr) (cap : Nat) (w : World) : Calls Try.prog 50 #[.slice p 0 cap] w fun e w' => e = .returned (.tuple #[]) ∧ w' = w := by
  go_enter Try.func50, Try.ntmps50
  go_wp2_with (first
    | (go_at_call 74; refine (len_nil _).mono ?_; rintro e w' ⟨rfl, rfl⟩)
    | (go_at_call 73; refine (pdq_nil p cap _).mono ?_; rintro e w' ⟨rfl, rfl⟩))
  go_end0
  exact ⟨rfl, rfl⟩
end Go.Proofs.Ytofkhcgkahkagaa
