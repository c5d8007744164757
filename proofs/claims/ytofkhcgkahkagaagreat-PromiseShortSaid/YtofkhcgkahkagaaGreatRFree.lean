/- The reference's free sums what is free at a time. -/
import Derived.Test.YtofkhcgkahkagaaGreatPCkA
import Derived.Test.YtofkhcgkahkagaaGreatRSum
import Derived.Test.YtofkhcgkahkagaaGreatGen
import Derived.Deep.QuietTactic
import Derived.BigQuiet
namespace Go.Proofs.YtofkhcgkahkagaaGreat
open Go.RowKit Go.Proofs.YtofkhcgkahkagaaGreatW.PrintWords Go.Proofs.YtofkhcgkahkagaaGreatW.PrintLast Go.Proofs.YtofkhcgkahkagaaGreatW.PrintMore Go.Proofs.YtofkhcgkahkagaaGreat.PPromiseShort
set_option linter.unusedVariables false
set_option linter.unusedSimpArgs false

/-- What stocks, what comes, holds and what is taken add to what is free at a time. -/
def frS (sku : ByteArray) (l : List S165) : List Int := (l.filter (fun s => s.f0.toList == sku.toList)).map (fun s => s.f2)
def frC (sku : ByteArray) (t : Int) (l : List S103) : List Int := (l.filter (fun r => (r.f0.toList == sku.toList) && decide (r.f2 ≤ t))).map (fun r => r.f1)
def frH (sku : ByteArray) (t : Int) (l : List S172) : List Int := (l.filter (fun h => (h.f1.toList == sku.toList) && decide (h.f4 = 0) && (decide (h.f5 = 0) || decide (t ≤ h.f5)))).map (fun h => wrap64 (-h.f3))
def frT (sku : ByteArray) (t : Int) (l : List S103) : List Int := (l.filter (fun r => (r.f0.toList == sku.toList) && decide (r.f2 ≤ t))).map (fun r => wrap64 (-r.f1))
def frL (l0 : List S165) (l1 : List S172) (l3 l4 : List S103) (sku : ByteArray) (t : Int) : List Int := frS sku l0 ++ frC sku t l3 ++ frH sku t l1 ++ frT sku t l4
theorem fr_snoc {α β : Type} (f : α → Bool) (g : α → β) (l : List α) (x : α) : ((l ++ [x]).filter f).map g = (l.filter f).map g ++ (if f x = true then [g x] else []) := by
  rw [List.filter_append, List.map_append]
  by_cases h : f x = true
  · rw [if_pos h, List.filter_cons_of_pos h]; rfl
  · rw [if_neg h, List.filter_cons_of_neg h]; rfl
theorem fr_len {α β : Type} (f : α → Bool) (g : α → β) (l : List α) : ((l.filter f).map g).length ≤ l.length := by rw [List.length_map]; exact List.length_filter_le _ _

/-- Between two rounds: the boxes, and the list so far. -/
structure FrI (w : World) (A0 : Option Addr) (n0 c0 : Nat) (A1 : Option Addr) (n1 c1 : Nat) (A2 : Option Addr) (n2 c2 : Nat) (ops : Int) (sku : ByteArray) (q t : Int) (xs : List Int) (v : Value) (V : World) : Prop where
  box : CkL w A0 n0 c0 A1 n1 c1 A2 n2 c2 ops V
  at_ : V.heap[w.heap.size + 1]? = some (.cells #[.string sku, .int .i64 q, .int .i64 t] 103 (0, 0))
  acc : Kd.R (Kd.int .i64) 3 V (w.heap.size + 2) (fun k => w.heap.size + 2 ≤ k) v xs

section
variable {w : World} {A0 : Option Addr} {n0 c0 : Nat} {A1 : Option Addr} {n1 c1 : Nat} {A2 : Option Addr} {n2 c2 : Nat} {ops : Int} {sku : ByteArray} {q t : Int} {xs : List Int} {v : Value} {V V' : World}
theorem FrI.below (h : FrI w A0 n0 c0 A1 n1 c1 A2 n2 c2 ops sku q t xs v V) (hb : Below V.heap.size V V') : FrI w A0 n0 c0 A1 n1 c1 A2 n2 c2 ops sku q t xs v V' :=
  ⟨h.box.below hb, (hb.block _ (Array.getElem?_eq_some_iff.1 h.at_).1).trans h.at_, Kd.R_below h.acc hb⟩
theorem FrI.push (h : FrI w A0 n0 c0 A1 n1 c1 A2 n2 c2 ops sku q t xs v V) (x : Int) (hl : xs.length ≤ 100000) :
    ∃ v1 w1, (Builtin.append_ #[35, 35] 35 #[v, .slice (some ⟨V.heap.size, 0, none⟩) 1 1]).run Tryz.prog (V.alloc (.cells #[.int .i64 x] 3)) = .ok v1 w1 ∧ FrI w A0 n0 c0 A1 n1 c1 A2 n2 c2 ops sku q t (xs ++ [x]) v1 w1 := by
  have hlt := (Array.getElem?_eq_some_iff.1 h.at_).1
  obtain ⟨A, c, w1, hrun, hR, hg⟩ := append_made (Kd.int .i64) (P := Tryz.prog) (w.heap.size + 2) 35 35 3 _ 8 Tryz.underlying35 info3 rfl (by decide) (by decide) V v xs x [.int .i64 x] (fun k => w.heap.size + 2 ≤ k) (fun _ => False) rfl (fun k hk => hk.elim) (fun k hk => by omega) h.acc (by omega) (by omega)
  exact ⟨_, w1, hrun, h.box.grownO hg (fun j hj => by have := h.acc.1 j hj; omega), (hg.block _ hlt (fun e => by have := h.acc.1 _ e.symm; omega)).trans h.at_, hR⟩
end

set_option maxRecDepth 100000 in
set_option maxHeartbeats 4000000 in
theorem rfree_calls (l0 : List S165) (l1 : List S172) (A0 : Option Addr) (c0 : Nat) (A1 : Option Addr) (c1 : Nat) (A2 : Option Addr) (n2 c2 : Nat) (ops : Int) (A3 : Option Addr) (c3 : Nat) (l3 : List S103) (A4 : Option Addr) (c4 : Nat) (l4 : List S103) (sku : ByteArray) (q t : Int) (w : World)
    (hr0 : Kd.C k165 w A0 l0.length l0) (hr1 : Kd.C k172 w A1 l1.length l1) (hr3 : Kd.C k103 w A3 l3.length l3) (hr4 : Kd.C k103 w A4 l4.length l4) (hn : l0.length + l1.length + l3.length + l4.length ≤ 1000)
    (hc0 : l0.length ≤ c0) (hc1 : l1.length ≤ c1) (hc3 : l3.length ≤ c3) (hc4 : l4.length ≤ c4) (h64 : In64 (frL l0 l1 l3 l4 sku t)) :
    Calls Tryz.prog 96 #[.agg #[.slice A0 l0.length c0, .slice A1 l1.length c1, .slice A2 n2 c2, .int .i64 ops], .slice A3 l3.length c3, .slice A4 l4.length c4, .agg #[.string sku, .int .i64 q, .int .i64 t]] w fun e w' =>
      e = .returned (.tuple #[.int .i64 (sumOf (frL l0 l1 l3 l4 sku t)).1, .int .i64 (sumOf (frL l0 l1 l3 l4 sku t)).2]) ∧ Below w.heap.size w w' := by
  have hu0 := Tryz.underlying165
  have hu1 := Tryz.underlying172
  have hu2 := Tryz.underlying103
  have hu3 := Tryz.underlying55
  have q0 := fr_len (fun s : S165 => s.f0.toList == sku.toList) (fun s => s.f2)
  go_enter Tryz.func96, Tryz.ntmps96
  go_wp2
  obtain ⟨W0, hW0⟩ : ∃ W0, (w.alloc (.cells #[.slice A0 l0.length c0, .slice A1 l1.length c1, .slice A2 n2 c2, .int .i64 ops] 55)).alloc (.cells #[.string sku, .int .i64 q, .int .i64 t] 103) = W0 := ⟨_, rfl⟩
  have hI0 : FrI w A0 l0.length c0 A1 l1.length c1 A2 n2 c2 ops sku q t ([] ++ frS sku (l0.take 0)) (.slice none 0 0) W0 := by
    rw [← hW0]
    refine ⟨⟨((Below.refl _ w).alloc (Nat.le_refl _) _).alloc (by simp) _, (Below.heap_alloc _ _ _ (by simp)).trans (heap_alloc_new w _)⟩, ?_, Kd.R_nil _ _ _ _ _⟩
    have := heap_alloc_new (w.alloc (.cells #[.slice A0 l0.length c0, .slice A1 l1.length c1, .slice A2 n2 c2, .int .i64 ops] 55)) (.cells #[.string sku, .int .i64 q, .int .i64 t] 103)
    rwa [World.size_alloc] at this
  rw [hW0]
  clear hW0 q0
  go_loopw [10, 11] (fun v i wr => ∃ k : Nat, k ≤ l0.length ∧ i = .int .i64 k ∧ FrI w A0 l0.length c0 A1 l1.length c1 A2 n2 c2 ops sku q t ([] ++ frS sku (l0.take k)) v wr)
    (fun _ i _ => l0.length - (intOf i).toNat)
  case atStart => exact ⟨0, Nat.zero_le _, rfl, hI0⟩
  case round =>
    clear hI0
    obtain ⟨k, hk, rfl, hI⟩ := hrel
    have hd0 : wr.cell? ⟨w.heap.size, 0, none⟩ = some (.slice A0 l0.length c0) := (blk_cell hI.box.led 0).trans rfl
    have hd1 : wr.cell? ⟨w.heap.size, 1, none⟩ = some (.slice A1 l1.length c1) := (blk_cell hI.box.led 1).trans rfl
    have ht0 : wr.cell? ⟨w.heap.size + 1, 0, none⟩ = some (.string sku) := (blk_cell hI.at_ 0).trans rfl
    have ht2 : wr.cell? ⟨w.heap.size + 1, 2, none⟩ = some (.int .i64 t) := (blk_cell hI.at_ 2).trans rfl
    have HI := Lib.hid hI
    clear hI
    by_cases hlt : k < l0.length
    · have hd : decide ((k : Int) < (l0.length : Int)) = true := decide_eq_true (by omega)
      have hk1 : (k : Int) < (l0.length : Int) := by omega
      have hk2 : (0 : Int) ≤ (k : Int) := Int.natCast_nonneg _
      obtain ⟨ad, rfl, hx0, hx1, hx2, hx3⟩ := at_T165 hr0 k (by omega) (by omega)
      rw [Int.toNat_natCast] at hx0 hx1 hx2 hx3
      have hy0 := cell_below HI.out.box.low hx0
      have hy1 := cell_below HI.out.box.low hx1
      have hy2 := cell_below HI.out.box.low hx2
      have hy3 := cell_below HI.out.box.low hx3
      have hr : rd_T165 l0 k = l0[k] := by unfold rd_T165; rw [Int.toNat_natCast, List.getD_eq_getElem?_getD, List.getElem?_eq_getElem hlt]; rfl
      rw [hr] at hy0 hy1 hy2 hy3
      obtain ⟨r, hrr⟩ : ∃ r, r = l0[k] := ⟨_, rfl⟩
      rw [← hrr] at hy0 hy1 hy2 hy3
      have hts := take_snoc hlt
      rw [← hrr] at hts
      have hlen : ([] ++ frS sku (l0.take k)).length ≤ 100000 := by
        have a1 := fr_len (fun s : S165 => s.f0.toList == sku.toList) (fun s => s.f2) l0
        have a2 := fr_len (fun s : S103 => (s.f0.toList == sku.toList) && decide (s.f2 ≤ t)) (fun s => s.f1) l3
        have a3 := fr_len (fun h : S172 => (h.f1.toList == sku.toList) && decide (h.f4 = 0) && (decide (h.f5 = 0) || decide (t ≤ h.f5))) (fun h => wrap64 (-h.f3)) l1
        have a5 := fr_len (fun s : S165 => s.f0.toList == sku.toList) (fun s => s.f2) (l0.take k)
        have a6 : (l0.take k).length ≤ l0.length := List.length_take_le' _ _
        simp only [List.length_append, List.length_nil]
        simp only [frS, frC, frH, frT]
        omega
      have Hr := Lib.hid hts
      clear hrr hr hx0 hx1 hx2 hx3 hts
      cases he : (r.f0.toList == sku.toList) with
      | true =>
        have hn : frS sku (l0.take (k + 1)) = frS sku (l0.take k) ++ [r.f2] := by
          rw [Hr.out]; unfold frS; rw [fr_snoc, if_pos (by exact he)]
        have HN := Lib.hid hn
        clear hn 
        go_wp2
        go_quiet (fail)
        obtain ⟨v9, w9, hrun, hI9⟩ := (HI.out.below (pw_below_drewN (Below.refl _ _) nq)).push (r.f2) hlen
        go_wp2_with (at_builtin; refine wpList_append_run rfl _ _ _ rfl hrun ?_)
        exact ⟨⟨k + 1, by omega, by simp, by rw [HN.out, ← List.append_assoc]; exact hI9⟩, by simp [intOf]; omega⟩
      | false =>
        have hn : frS sku (l0.take (k + 1)) = frS sku (l0.take k) := by
          rw [Hr.out]; unfold frS; rw [fr_snoc, if_neg (by rw [he]; decide), List.append_nil]
        have HN := Lib.hid hn
        clear hn 
        go_wp2
        go_quiet (fail)
        go_wp2
        exact ⟨⟨k + 1, by omega, by simp, by rw [HN.out]; exact HI.out.below (pw_below_drewN (Below.refl _ _) nq)⟩, by simp [intOf]; omega⟩
    · obtain rfl : k = l0.length := by omega
      have hd : decide ((l0.length : Int) < (l0.length : Int)) = false := decide_eq_false (by omega)
      have hI := HI.out
      rw [List.take_length] at hI
      clear HI
      have HI := Lib.hid hI
      clear hI
      go_wp2
      clear hd hd0 hd1 ht0 ht2
      go_loopw [10, 12] (fun v i wr => ∃ k : Nat, k ≤ l3.length ∧ i = .int .i64 k ∧ FrI w A0 l0.length c0 A1 l1.length c1 A2 n2 c2 ops sku q t (([] ++ frS sku l0) ++ frC sku t (l3.take k)) v wr)
        (fun _ i _ => l3.length - (intOf i).toNat)
      case atStart => exact ⟨0, Nat.zero_le _, rfl, by rw [show frC sku t (l3.take 0) = [] from rfl, List.append_nil]; exact HI.out⟩
      case round =>
        obtain ⟨k, hk, rfl, hI⟩ := hrel
        have hd0 : wr.cell? ⟨w.heap.size, 0, none⟩ = some (.slice A0 l0.length c0) := (blk_cell hI.box.led 0).trans rfl
        have hd1 : wr.cell? ⟨w.heap.size, 1, none⟩ = some (.slice A1 l1.length c1) := (blk_cell hI.box.led 1).trans rfl
        have ht0 : wr.cell? ⟨w.heap.size + 1, 0, none⟩ = some (.string sku) := (blk_cell hI.at_ 0).trans rfl
        have ht2 : wr.cell? ⟨w.heap.size + 1, 2, none⟩ = some (.int .i64 t) := (blk_cell hI.at_ 2).trans rfl
        have HI := Lib.hid hI
        clear hI
        by_cases hlt : k < l3.length
        · have hd : decide ((k : Int) < (l3.length : Int)) = true := decide_eq_true (by omega)
          have hk1 : (k : Int) < (l3.length : Int) := by omega
          have hk2 : (0 : Int) ≤ (k : Int) := Int.natCast_nonneg _
          obtain ⟨ad, rfl, hx0, hx1, hx2⟩ := at_T103 hr3 k (by omega) (by omega)
          rw [Int.toNat_natCast] at hx0 hx1 hx2
          have hy0 := cell_below HI.out.box.low hx0
          have hy1 := cell_below HI.out.box.low hx1
          have hy2 := cell_below HI.out.box.low hx2
          have hr : rd_T103 l3 k = l3[k] := by unfold rd_T103; rw [Int.toNat_natCast, List.getD_eq_getElem?_getD, List.getElem?_eq_getElem hlt]; rfl
          rw [hr] at hy0 hy1 hy2
          obtain ⟨r, hrr⟩ : ∃ r, r = l3[k] := ⟨_, rfl⟩
          rw [← hrr] at hy0 hy1 hy2
          have hts := take_snoc hlt
          rw [← hrr] at hts
          have hlen : (([] ++ frS sku l0) ++ frC sku t (l3.take k)).length ≤ 100000 := by
            have a1 := fr_len (fun s : S165 => s.f0.toList == sku.toList) (fun s => s.f2) l0
            have a2 := fr_len (fun s : S103 => (s.f0.toList == sku.toList) && decide (s.f2 ≤ t)) (fun s => s.f1) l3
            have a3 := fr_len (fun h : S172 => (h.f1.toList == sku.toList) && decide (h.f4 = 0) && (decide (h.f5 = 0) || decide (t ≤ h.f5))) (fun h => wrap64 (-h.f3)) l1
            have a5 := fr_len (fun s : S103 => (s.f0.toList == sku.toList) && decide (s.f2 ≤ t)) (fun s => s.f1) (l3.take k)
            have a6 : (l3.take k).length ≤ l3.length := List.length_take_le' _ _
            simp only [List.length_append, List.length_nil]
            simp only [frS, frC, frH, frT]
            omega
          have Hr := Lib.hid hts
          clear hrr hr hx0 hx1 hx2 hts
          cases he : (r.f0.toList == sku.toList) with
          | true =>
            by_cases h2 : r.f2 ≤ t
            · have h2b : decide (r.f2 ≤ t) = true := decide_eq_true h2
              have hn : frC sku t (l3.take (k + 1)) = frC sku t (l3.take k) ++ [r.f1] := by
                rw [Hr.out]; unfold frC; rw [fr_snoc, if_pos (by simp [he, h2])]
              have HN := Lib.hid hn
              clear hn h2
              go_wp2
              go_quiet (fail)
              obtain ⟨v9, w9, hrun, hI9⟩ := (HI.out.below (pw_below_drewN (Below.refl _ _) nq)).push (r.f1) hlen
              go_wp2_with (at_builtin; refine wpList_append_run rfl _ _ _ rfl hrun ?_)
              exact ⟨⟨k + 1, by omega, by simp, by rw [HN.out, ← List.append_assoc]; exact hI9⟩, by simp [intOf]; omega⟩
            · have h2b : decide (r.f2 ≤ t) = false := decide_eq_false h2
              have hn : frC sku t (l3.take (k + 1)) = frC sku t (l3.take k) := by
                rw [Hr.out]; unfold frC; rw [fr_snoc, if_neg (by simp [he, h2]), List.append_nil]
              have HN := Lib.hid hn
              clear hn h2
              go_wp2
              go_quiet (fail)
              go_wp2
              exact ⟨⟨k + 1, by omega, by simp, by rw [HN.out]; exact HI.out.below (pw_below_drewN (Below.refl _ _) nq)⟩, by simp [intOf]; omega⟩
          | false =>
            have hn : frC sku t (l3.take (k + 1)) = frC sku t (l3.take k) := by
              rw [Hr.out]; unfold frC; rw [fr_snoc, if_neg (by simp [he]), List.append_nil]
            have HN := Lib.hid hn
            clear hn 
            go_wp2
            go_quiet (fail)
            go_wp2
            exact ⟨⟨k + 1, by omega, by simp, by rw [HN.out]; exact HI.out.below (pw_below_drewN (Below.refl _ _) nq)⟩, by simp [intOf]; omega⟩
        · obtain rfl : k = l3.length := by omega
          have hd : decide ((l3.length : Int) < (l3.length : Int)) = false := decide_eq_false (by omega)
          have hI := HI.out
          rw [List.take_length] at hI
          clear HI
          have HI := Lib.hid hI
          clear hI
          go_wp2
          clear hd hd0 hd1 ht0 ht2
          go_loopw [10, 13] (fun v i wr => ∃ k : Nat, k ≤ l1.length ∧ i = .int .i64 k ∧ FrI w A0 l0.length c0 A1 l1.length c1 A2 n2 c2 ops sku q t ((([] ++ frS sku l0) ++ frC sku t l3) ++ frH sku t (l1.take k)) v wr)
            (fun _ i _ => l1.length - (intOf i).toNat)
          case atStart => exact ⟨0, Nat.zero_le _, rfl, by rw [show frH sku t (l1.take 0) = [] from rfl, List.append_nil]; exact HI.out⟩
          case round =>
            obtain ⟨k, hk, rfl, hI⟩ := hrel
            have hd0 : wr.cell? ⟨w.heap.size, 0, none⟩ = some (.slice A0 l0.length c0) := (blk_cell hI.box.led 0).trans rfl
            have hd1 : wr.cell? ⟨w.heap.size, 1, none⟩ = some (.slice A1 l1.length c1) := (blk_cell hI.box.led 1).trans rfl
            have ht0 : wr.cell? ⟨w.heap.size + 1, 0, none⟩ = some (.string sku) := (blk_cell hI.at_ 0).trans rfl
            have ht2 : wr.cell? ⟨w.heap.size + 1, 2, none⟩ = some (.int .i64 t) := (blk_cell hI.at_ 2).trans rfl
            have HI := Lib.hid hI
            clear hI
            by_cases hlt : k < l1.length
            · have hd : decide ((k : Int) < (l1.length : Int)) = true := decide_eq_true (by omega)
              have hk1 : (k : Int) < (l1.length : Int) := by omega
              have hk2 : (0 : Int) ≤ (k : Int) := Int.natCast_nonneg _
              obtain ⟨ad, rfl, hx0, hx1, hx2, hx3, hx4, hx5⟩ := at_T172 hr1 k (by omega) (by omega)
              rw [Int.toNat_natCast] at hx0 hx1 hx2 hx3 hx4 hx5
              have hy0 := cell_below HI.out.box.low hx0
              have hy1 := cell_below HI.out.box.low hx1
              have hy2 := cell_below HI.out.box.low hx2
              have hy3 := cell_below HI.out.box.low hx3
              have hy4 := cell_below HI.out.box.low hx4
              have hy5 := cell_below HI.out.box.low hx5
              have hr : rd_T172 l1 k = l1[k] := by unfold rd_T172; rw [Int.toNat_natCast, List.getD_eq_getElem?_getD, List.getElem?_eq_getElem hlt]; rfl
              rw [hr] at hy0 hy1 hy2 hy3 hy4 hy5
              obtain ⟨r, hrr⟩ : ∃ r, r = l1[k] := ⟨_, rfl⟩
              rw [← hrr] at hy0 hy1 hy2 hy3 hy4 hy5
              have hts := take_snoc hlt
              rw [← hrr] at hts
              have hlen : ((([] ++ frS sku l0) ++ frC sku t l3) ++ frH sku t (l1.take k)).length ≤ 100000 := by
                have a1 := fr_len (fun s : S165 => s.f0.toList == sku.toList) (fun s => s.f2) l0
                have a2 := fr_len (fun s : S103 => (s.f0.toList == sku.toList) && decide (s.f2 ≤ t)) (fun s => s.f1) l3
                have a3 := fr_len (fun h : S172 => (h.f1.toList == sku.toList) && decide (h.f4 = 0) && (decide (h.f5 = 0) || decide (t ≤ h.f5))) (fun h => wrap64 (-h.f3)) l1
                have a5 := fr_len (fun h : S172 => (h.f1.toList == sku.toList) && decide (h.f4 = 0) && (decide (h.f5 = 0) || decide (t ≤ h.f5))) (fun h => wrap64 (-h.f3)) (l1.take k)
                have a6 : (l1.take k).length ≤ l1.length := List.length_take_le' _ _
                simp only [List.length_append, List.length_nil]
                simp only [frS, frC, frH, frT]
                omega
              have Hr := Lib.hid hts
              clear hrr hr hx0 hx1 hx2 hx3 hx4 hx5 hts
              obtain ⟨W1, hW1⟩ : ∃ W1, wr.alloc (.cells #[.int .i64 r.f0, .string r.f1, .string r.f2, .int .i64 r.f3, .int .i64 r.f4, .int .i64 r.f5] 172) = W1 := ⟨_, rfl⟩
              have hBw : Below wr.heap.size wr W1 := by rw [← hW1]; exact (Below.refl _ _).alloc (Nat.le_refl _) _
              have hblk : W1.heap[wr.heap.size]? = some (.cells #[.int .i64 r.f0, .string r.f1, .string r.f2, .int .i64 r.f3, .int .i64 r.f4, .int .i64 r.f5] 172 (0, 0)) := by rw [← hW1]; exact heap_alloc_new wr _
              have hz0 : W1.cell? ⟨wr.heap.size, 0, none⟩ = some (.int .i64 r.f0) := (blk_cell hblk 0).trans rfl
              have hz1 : W1.cell? ⟨wr.heap.size, 1, none⟩ = some (.string r.f1) := (blk_cell hblk 1).trans rfl
              have hz2 : W1.cell? ⟨wr.heap.size, 2, none⟩ = some (.string r.f2) := (blk_cell hblk 2).trans rfl
              have hz3 : W1.cell? ⟨wr.heap.size, 3, none⟩ = some (.int .i64 r.f3) := (blk_cell hblk 3).trans rfl
              have hz4 : W1.cell? ⟨wr.heap.size, 4, none⟩ = some (.int .i64 r.f4) := (blk_cell hblk 4).trans rfl
              have hz5 : W1.cell? ⟨wr.heap.size, 5, none⟩ = some (.int .i64 r.f5) := (blk_cell hblk 5).trans rfl
              have hs0 := cell_below hBw ht0
              have hs2 := cell_below hBw ht2
              have HI1 := Lib.hid (HI.out.below hBw)
              clear hblk
              cases he : (r.f1.toList == sku.toList) with
              | true =>
                by_cases h4 : r.f4 = 0
                · have h4b : (r.f4 == 0) = true := by rw [h4]; rfl
                  by_cases h5 : r.f5 = 0
                  · have h5b : (r.f5 == 0) = true := by rw [h5]; rfl
                    have hn : frH sku t (l1.take (k + 1)) = frH sku t (l1.take k) ++ [wrap64 (-r.f3)] := by
                      rw [Hr.out]; unfold frH; rw [fr_snoc, if_pos (by simp [he, h4, h5])]
                    have HN := Lib.hid hn
                    obtain ⟨v9, w9, hrun, hI9⟩ := HI1.out.push (wrap64 (-r.f3)) hlen
                    clear hn h4 h5
                    go_wp2_with (at_builtin; refine wpList_append_run rfl _ _ _ rfl hrun ?_)
                    exact ⟨⟨k + 1, by omega, by simp, by rw [HN.out, ← List.append_assoc]; exact hI9⟩, by simp [intOf]; omega⟩
                  · have h5b : (r.f5 == 0) = false := by simpa using h5
                    by_cases h6 : t ≤ r.f5
                    · have h6b : decide (t ≤ r.f5) = true := decide_eq_true h6
                      have hn : frH sku t (l1.take (k + 1)) = frH sku t (l1.take k) ++ [wrap64 (-r.f3)] := by
                        rw [Hr.out]; unfold frH; rw [fr_snoc, if_pos (by simp [he, h4, h6])]
                      have HN := Lib.hid hn
                      obtain ⟨v9, w9, hrun, hI9⟩ := HI1.out.push (wrap64 (-r.f3)) hlen
                      clear hn h4 h5 h6
                      go_wp2_with (at_builtin; refine wpList_append_run rfl _ _ _ rfl hrun ?_)
                      exact ⟨⟨k + 1, by omega, by simp, by rw [HN.out, ← List.append_assoc]; exact hI9⟩, by simp [intOf]; omega⟩
                    · have h6b : decide (t ≤ r.f5) = false := decide_eq_false h6
                      have hn : frH sku t (l1.take (k + 1)) = frH sku t (l1.take k) := by
                        rw [Hr.out]; unfold frH; rw [fr_snoc, if_neg (by simp [he, h4, h5, h6]), List.append_nil]
                      have HN := Lib.hid hn
                      clear hn h4 h5 h6
                      go_wp2
                      exact ⟨⟨k + 1, by omega, by simp, by rw [HN.out]; exact HI1.out⟩, by simp [intOf]; omega⟩
                · have h4b : (r.f4 == 0) = false := by simpa using h4
                  have hn : frH sku t (l1.take (k + 1)) = frH sku t (l1.take k) := by
                    rw [Hr.out]; unfold frH; rw [fr_snoc, if_neg (by simp [he, h4]), List.append_nil]
                  have HN := Lib.hid hn
                  clear hn h4
                  go_wp2
                  exact ⟨⟨k + 1, by omega, by simp, by rw [HN.out]; exact HI1.out⟩, by simp [intOf]; omega⟩
              | false =>
                have hn : frH sku t (l1.take (k + 1)) = frH sku t (l1.take k) := by
                  rw [Hr.out]; unfold frH; rw [fr_snoc, if_neg (by simp [he]), List.append_nil]
                have HN := Lib.hid hn
                clear hn 
                go_wp2
                exact ⟨⟨k + 1, by omega, by simp, by rw [HN.out]; exact HI1.out⟩, by simp [intOf]; omega⟩
            · obtain rfl : k = l1.length := by omega
              have hd : decide ((l1.length : Int) < (l1.length : Int)) = false := decide_eq_false (by omega)
              have hI := HI.out
              rw [List.take_length] at hI
              clear HI
              have HI := Lib.hid hI
              clear hI
              go_wp2
              clear hd hd0 hd1 ht0 ht2
              go_loopw [10, 15] (fun v i wr => ∃ k : Nat, k ≤ l4.length ∧ i = .int .i64 k ∧ FrI w A0 l0.length c0 A1 l1.length c1 A2 n2 c2 ops sku q t (((([] ++ frS sku l0) ++ frC sku t l3) ++ frH sku t l1) ++ frT sku t (l4.take k)) v wr)
                (fun _ i _ => l4.length - (intOf i).toNat)
              case atStart => exact ⟨0, Nat.zero_le _, rfl, by rw [show frT sku t (l4.take 0) = [] from rfl, List.append_nil]; exact HI.out⟩
              case round =>
                obtain ⟨k, hk, rfl, hI⟩ := hrel
                have hd0 : wr.cell? ⟨w.heap.size, 0, none⟩ = some (.slice A0 l0.length c0) := (blk_cell hI.box.led 0).trans rfl
                have hd1 : wr.cell? ⟨w.heap.size, 1, none⟩ = some (.slice A1 l1.length c1) := (blk_cell hI.box.led 1).trans rfl
                have ht0 : wr.cell? ⟨w.heap.size + 1, 0, none⟩ = some (.string sku) := (blk_cell hI.at_ 0).trans rfl
                have ht2 : wr.cell? ⟨w.heap.size + 1, 2, none⟩ = some (.int .i64 t) := (blk_cell hI.at_ 2).trans rfl
                have HI := Lib.hid hI
                clear hI
                by_cases hlt : k < l4.length
                · have hd : decide ((k : Int) < (l4.length : Int)) = true := decide_eq_true (by omega)
                  have hk1 : (k : Int) < (l4.length : Int) := by omega
                  have hk2 : (0 : Int) ≤ (k : Int) := Int.natCast_nonneg _
                  obtain ⟨ad, rfl, hx0, hx1, hx2⟩ := at_T103 hr4 k (by omega) (by omega)
                  rw [Int.toNat_natCast] at hx0 hx1 hx2
                  have hy0 := cell_below HI.out.box.low hx0
                  have hy1 := cell_below HI.out.box.low hx1
                  have hy2 := cell_below HI.out.box.low hx2
                  have hr : rd_T103 l4 k = l4[k] := by unfold rd_T103; rw [Int.toNat_natCast, List.getD_eq_getElem?_getD, List.getElem?_eq_getElem hlt]; rfl
                  rw [hr] at hy0 hy1 hy2
                  obtain ⟨r, hrr⟩ : ∃ r, r = l4[k] := ⟨_, rfl⟩
                  rw [← hrr] at hy0 hy1 hy2
                  have hts := take_snoc hlt
                  rw [← hrr] at hts
                  have hlen : (((([] ++ frS sku l0) ++ frC sku t l3) ++ frH sku t l1) ++ frT sku t (l4.take k)).length ≤ 100000 := by
                    have a1 := fr_len (fun s : S165 => s.f0.toList == sku.toList) (fun s => s.f2) l0
                    have a2 := fr_len (fun s : S103 => (s.f0.toList == sku.toList) && decide (s.f2 ≤ t)) (fun s => s.f1) l3
                    have a3 := fr_len (fun h : S172 => (h.f1.toList == sku.toList) && decide (h.f4 = 0) && (decide (h.f5 = 0) || decide (t ≤ h.f5))) (fun h => wrap64 (-h.f3)) l1
                    have a5 := fr_len (fun s : S103 => (s.f0.toList == sku.toList) && decide (s.f2 ≤ t)) (fun s => wrap64 (-s.f1)) (l4.take k)
                    have a6 : (l4.take k).length ≤ l4.length := List.length_take_le' _ _
                    simp only [List.length_append, List.length_nil]
                    simp only [frS, frC, frH, frT]
                    omega
                  have Hr := Lib.hid hts
                  clear hrr hr hx0 hx1 hx2 hts
                  cases he : (r.f0.toList == sku.toList) with
                  | true =>
                    by_cases h2 : r.f2 ≤ t
                    · have h2b : decide (r.f2 ≤ t) = true := decide_eq_true h2
                      have hn : frT sku t (l4.take (k + 1)) = frT sku t (l4.take k) ++ [wrap64 (-r.f1)] := by
                        rw [Hr.out]; unfold frT; rw [fr_snoc, if_pos (by simp [he, h2])]
                      have HN := Lib.hid hn
                      clear hn h2
                      go_wp2
                      go_quiet (fail)
                      obtain ⟨v9, w9, hrun, hI9⟩ := (HI.out.below (pw_below_drewN (Below.refl _ _) nq)).push (wrap64 (-r.f1)) hlen
                      go_wp2_with (at_builtin; refine wpList_append_run rfl _ _ _ rfl hrun ?_)
                      exact ⟨⟨k + 1, by omega, by simp, by rw [HN.out, ← List.append_assoc]; exact hI9⟩, by simp [intOf]; omega⟩
                    · have h2b : decide (r.f2 ≤ t) = false := decide_eq_false h2
                      have hn : frT sku t (l4.take (k + 1)) = frT sku t (l4.take k) := by
                        rw [Hr.out]; unfold frT; rw [fr_snoc, if_neg (by simp [he, h2]), List.append_nil]
                      have HN := Lib.hid hn
                      clear hn h2
                      go_wp2
                      go_quiet (fail)
                      go_wp2
                      exact ⟨⟨k + 1, by omega, by simp, by rw [HN.out]; exact HI.out.below (pw_below_drewN (Below.refl _ _) nq)⟩, by simp [intOf]; omega⟩
                  | false =>
                    have hn : frT sku t (l4.take (k + 1)) = frT sku t (l4.take k) := by
                      rw [Hr.out]; unfold frT; rw [fr_snoc, if_neg (by simp [he]), List.append_nil]
                    have HN := Lib.hid hn
                    clear hn 
                    go_wp2
                    go_quiet (fail)
                    go_wp2
                    exact ⟨⟨k + 1, by omega, by simp, by rw [HN.out]; exact HI.out.below (pw_below_drewN (Below.refl _ _) nq)⟩, by simp [intOf]; omega⟩
                · obtain rfl : k = l4.length := by omega
                  have hd : decide ((l4.length : Int) < (l4.length : Int)) = false := decide_eq_false (by omega)
                  have hI := HI.out
                  rw [List.take_length] at hI
                  have hX : (((([] ++ frS sku l0) ++ frC sku t l3) ++ frH sku t l1) ++ frT sku t l4) = frL l0 l1 l3 l4 sku t := by rw [List.nil_append]; rfl
                  rw [hX] at hI
                  obtain ⟨X, hXX⟩ : ∃ X, frL l0 l1 l3 l4 sku t = X := ⟨_, rfl⟩
                  have hXl : X.length ≤ 1000 := by
                    rw [← hXX]
                    have a1 := fr_len (fun s : S165 => s.f0.toList == sku.toList) (fun s => s.f2) l0
                    have a2 := fr_len (fun s : S103 => (s.f0.toList == sku.toList) && decide (s.f2 ≤ t)) (fun s => s.f1) l3
                    have a3 := fr_len (fun h : S172 => (h.f1.toList == sku.toList) && decide (h.f4 = 0) && (decide (h.f5 = 0) || decide (t ≤ h.f5))) (fun h => wrap64 (-h.f3)) l1
                    have a4 := fr_len (fun s : S103 => (s.f0.toList == sku.toList) && decide (s.f2 ≤ t)) (fun s => wrap64 (-s.f1)) l4
                    unfold frL; simp only [List.length_append, frS, frC, frH, frT]
                    omega
                  rw [hXX] at hI h64
                  obtain ⟨Av, cv, rfl⟩ := Kd.R_slice hI.acc
                  have hrd := Kd.R_reads' hI.acc
                  have hrs := rsum X h64 (by omega) 2000 (by omega)
                  have hlow := hI.box.low
                  have HXX := Lib.hid hXX
                  have HRD := Lib.hid hrd
                  clear hI HI hrd hX hXX hd0 hd1 ht0 ht2
                  obtain ⟨⟨x1, x2⟩, hx⟩ : ∃ x, sumOf X = x := ⟨_, rfl⟩
                  rw [hx] at hrs
                  have hsum := quaysideref01_Sum.calls 2000 _ cv X x1 x2 wr HRD.out.2.2 HRD.out.2.1 hrs
                  have HX := Lib.hid (show sumOf (frL l0 l1 l3 l4 sku t) = (x1, x2) from by rw [HXX.out]; exact hx)
                  clear hx hrs
                  go_wp2_with fail
                  refine hsum.mono ?_
                  clear hsum
                  rintro e w' ⟨rfl, hbn⟩
                  go_wp2
                  go_ret2
                  exact ⟨by rw [HX.out]; rfl, below_w hlow hbn⟩
end Go.Proofs.YtofkhcgkahkagaaGreat

