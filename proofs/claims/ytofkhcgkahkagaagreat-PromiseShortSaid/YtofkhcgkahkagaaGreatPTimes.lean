/- work.times hands on, rising, nought and the times at which something changes. -/
import Derived.Test.YtofkhcgkahkagaaGreatPTold
import Derived.Test.YtofkhcgkahkagaaGreatPSum
import Derived.Test.YtofkhcgkahkagaaGreatPShelf
import Derived.Test.YtofkhcgkahkagaaGreatIter
import Derived.Sort.OwnSortedInts
import Derived.Lib.OwnBridge
import Derived.Lib.SlicesCompact
/- work.free sums what has changed by a time. -/
namespace Go.Proofs.YtofkhcgkahkagaaGreat
open Go.RowKit Go.Proofs.YtofkhcgkahkagaaGreatW.PrintWords Go.Proofs.YtofkhcgkahkagaaGreatW.PrintLast Go.Proofs.YtofkhcgkahkagaaGreatW.PrintMore Go.Proofs.YtofkhcgkahkagaaGreat.PPromiseShort
set_option linter.unusedVariables false
set_option linter.unusedSimpArgs false

/-- What has changed by a time. -/
def freeL (t : Int) (xs : List (Int × Int)) : List Int := (xs.filter (fun x => decide (x.1 ≤ t))).map (fun x => x.2)
theorem freeL_snoc (t : Int) (xs : List (Int × Int)) (x : Int × Int) : freeL t (xs ++ [x]) = freeL t xs ++ (if x.1 ≤ t then [x.2] else []) := by
  unfold freeL
  rw [List.filter_append, List.map_append]
  split <;> rename_i h <;> simp [h]
theorem freeL_len (t : Int) (xs : List (Int × Int)) : (freeL t xs).length ≤ xs.length := by
  unfold freeL
  rw [List.length_map]
  exact List.length_filter_le _ _
def Ch64 (xs : List (Int × Int)) : Prop := ∀ x ∈ xs, -9223372036854775808 ≤ x.2 ∧ x.2 ≤ 9223372036854775807
theorem freeL_64 {t : Int} {xs : List (Int × Int)} (h : Ch64 xs) : In64 (freeL t xs) := by
  intro n hn
  obtain ⟨x, hx, rfl⟩ := List.mem_map.1 hn
  exact h x (List.mem_filter.1 hx).1

/-- Reading one change. -/
theorem at_ch {w : World} {A : Option Addr} {xs : List (Int × Int)} (h : Kd.C kCh w A xs.length xs) {k : Nat} (hk : k < xs.length) :
    ∃ ad, A = some ad ∧ w.cell? (ad.add (k * 2)) = some (.int .i64 (xs[k]).1) ∧ w.cell? ⟨(ad.add (k * 2)).block, (ad.add (k * 2)).off + 1, none⟩ = some (.int .i64 (xs[k]).2) := by
  obtain ⟨ad, e, hc⟩ := h.2.2 (by omega)
  obtain ⟨c, hs, ⟨c0, c1, rfl, h0, h1⟩, hcell⟩ := hc k xs[k] (List.getElem?_eq_getElem hk)
  obtain rfl : c0 = [.int .i64 (xs[k]).1] := h0
  obtain rfl : c1 = [.int .i64 (xs[k]).2] := h1
  refine ⟨ad, e, hcell 0 _ rfl, ?_⟩
  have := hcell 1 _ rfl
  rw [add_field _ _ 1 (by omega)] at this
  exact this

set_option maxRecDepth 100000 in
theorem free_calls (A : Option Addr) (c : Nat) (xs : List (Int × Int)) (t : Int) (w : World) (hC : Kd.C kCh w A xs.length xs) (hc : xs.length ≤ c) (hx : Ch64 xs) (hn : xs.length ≤ 100000) :
    Calls Tryz.prog 86 #[.agg #[.slice A xs.length c], .int .i64 t] w fun e w' => e = .returned (.tuple #[.int .i64 (sumOf (freeL t xs)).1, .int .i64 (sumOf (freeL t xs)).2]) ∧ Below w.heap.size w w' := by
  have hu := Tryz.underlying117
  have hu2 := Tryz.underlying182
  go_enter Tryz.func86, Tryz.ntmps86
  go_wp2
  have hW0 : Below w.heap.size w (w.alloc (.cells #[.slice A xs.length c] 117)) := (Below.refl _ w).alloc (Nat.le_refl _) _
  go_loopw [6, 12] (fun v i wr => ∃ k : Nat, k ≤ xs.length ∧ i = .int .i64 k ∧ Kd.R (Kd.int .i64) 3 wr w.heap.size (fun _ => True) v (freeL t (xs.take k)) ∧ Below w.heap.size w wr)
    (fun _ i _ => xs.length - (intOf i).toNat)
  case atStart => exact ⟨0, Nat.zero_le _, rfl, Kd.R_nil _ _ _ _ _, hW0⟩
  case round =>
    obtain ⟨k, hk, rfl, hR, hB⟩ := hrel
    by_cases hlt : k < xs.length
    · have hd : decide ((k : Int) < (xs.length : Int)) = true := decide_eq_true (by omega)
      obtain ⟨ad, rfl, hx0, hx1⟩ := at_ch hC hlt
      have hy0 := (hB.cell (World.block_lt_of_cell? w _ hx0)).trans hx0
      have hy1 := (hB.cell (World.block_lt_of_cell? w _ hx1)).trans hx1
      obtain ⟨y, hyy⟩ : ∃ y, y = xs[k] := ⟨_, rfl⟩
      rw [← hyy] at hy0 hy1
      have Hy := Aside0.mk hyy
      clear hyy hx0 hx1
      have hz := hB.size
      have hB2 := fun o => hB.alloc hz o
      have hR2 := fun o => Kd.R_alloc hR o
      have hlen := freeL_len t (xs.take k)
      have hlen2 := List.length_take_le' k xs
      by_cases hle : y.1 ≤ t
      · have hd2 : decide (y.1 ≤ t) = true := decide_eq_true hle
        have Hle := Aside0.mk hle
        clear hle
        go_wp2_with ((with_reducible refine gate_builtin (b := .append) (xs := #[.tmp 20, .tmp 23]) rfl ?_); at_builtin; refine Kd.R_append (Kd.int .i64) (w0 := w) w.heap.size rfl (.tmp 20) (.tmp 23) 35 3 (.int .i64 0) 8 rfl Tryz.underlying35 info3 rfl (by decide) (by decide) _ (freeL t (xs.take k)) y.2 [.int .i64 y.2] (fun _ => True) (fun _ => False) rfl ?hx ?aP (fun k hk => hk.elim) (fun k hk => trivial) ?aO ?aB ?aS ?aL ?_; (case hx => rw [World.size_alloc]; rfl); (case aP => exact rfl); (case aO => exact hR2 _); (case aB => exact hB2 _); (case aS => rw [World.size_alloc]; omega); (case aL => omega); intro v1 w1 hR1 hB1 hg1 hat1)
        refine ⟨⟨k + 1, by omega, by simp, ?_, hB1⟩, by simp [intOf]; omega⟩
        rw [take_snoc hlt, freeL_snoc, ← Hy.out, if_pos Hle.out]
        exact hR1
      · have hd2 : decide (y.1 ≤ t) = false := decide_eq_false hle
        have Hle := Aside0.mk hle
        clear hle
        go_wp2
        refine ⟨⟨k + 1, by omega, by simp, ?_, hB2 _⟩, by simp [intOf]; omega⟩
        rw [take_snoc hlt, freeL_snoc, ← Hy.out, if_neg Hle.out, List.append_nil]
        exact hR2 _
    · obtain rfl : k = xs.length := by omega
      have hd : decide ((xs.length : Int) < (xs.length : Int)) = false := decide_eq_false (by omega)
      rw [List.take_length] at hR
      obtain ⟨Av, cv, rfl⟩ := Kd.R_slice hR
      have hrd := Kd.R_reads' hR
      have hsum := sum_calls Av cv (freeL t xs) wr hrd.2.2 hrd.2.1 (freeL_64 hx)
      go_wp2_with fail
      refine hsum.mono ?_
      rintro e w2 ⟨rfl, rfl⟩
      go_wp2
      go_ret2
      exact ⟨rfl, hB⟩
end Go.Proofs.YtofkhcgkahkagaaGreat
namespace Go.Proofs.YtofkhcgkahkagaaGreat
open Go.RowKit Go.Shelf Go.Sort Go.Proofs.YtofkhcgkahkagaaGreatW.PrintWords Go.Proofs.YtofkhcgkahkagaaGreatW.PrintLast Go.Proofs.YtofkhcgkahkagaaGreatW.PrintMore Go.Proofs.YtofkhcgkahkagaaGreat.PPromiseShort
set_option linter.unusedVariables false
set_option linter.unusedSimpArgs false

/-- The times, rising. -/
def timesL (xs : List (Int × Int)) : List Int := Lib.compact ((0 :: xs.map (fun x => x.1)).mergeSort (fun x y => decide (x ≤ y)))

def IntEnc (x : Int) (args : Array Value) (_D : Nat → Prop) (_W : World) : Prop := args = #[.int .i64 x]

def TimesPre (Bw : Nat) (A : Option Addr) (c : Nat) (xs : List (Int × Int)) (W : World) : Prop :=
  W.heap[Bw]? = some (.cells #[.slice A xs.length c] 117 (0, 0)) ∧ Kd.C kCh W A xs.length xs ∧ xs.length ≤ c

theorem times_calls (A : Option Addr) (n c : Nat) (w : World) : Calls Tryz.prog 85 #[.agg #[.slice A n c]] w fun e w' => e = .returned (.func (.func 138) #[] #[.pointer (some ⟨w.heap.size, 0, none⟩)]) ∧ w' = w.alloc (.cells #[.slice A n c] 117) := by
  have hu := Tryz.underlying117
  go_enter Tryz.func85, Tryz.ntmps85
  go_wp2
  go_ret
  exact ⟨rfl, rfl⟩

theorem reps_int {R : Int → List Value → Prop} {zs : List Int} {cs : List Value} (h : Reps R 1 zs cs) (hR : ∀ p c, R p c → c = [.int .i64 p]) : cs = zs.map (Value.int .i64) := by
  apply List.ext_getElem?
  intro j
  by_cases hj : j < zs.length
  · have := hR _ _ (h.2 j _ (List.getElem?_eq_getElem hj))
    rw [Nat.mul_one] at this
    have h2 : ((cs.drop j).take 1)[0]? = cs[j]? := by rw [List.getElem?_take_of_lt (by omega), List.getElem?_drop, Nat.add_zero]
    rw [← h2, this]
    simp [hj]
  · rw [List.getElem?_eq_none (by have := h.1; omega), List.getElem?_eq_none (by simp; omega)]

/-- A row of whole numbers of the call's own, in the library's words. -/
theorem own_ints {w : World} {base : Nat} {ok : Nat → Prop} {v : Value} {zs : List Int} (hR : Kd.R (Kd.int .i64) 3 w base ok v zs) : w.ownsRow base 3 1 v zs.length (zs.map (Value.int .i64)) := by
  obtain ⟨_, inner, ho, hr⟩ := hR
  have := reps_int hr (fun p c h => h)
  subst this
  exact ho

/-- A row of the call's own, sorted by Go's library. -/
theorem sort_own (w : World) (base : Nat) (v : Value) (zs : List Int) (hO : w.ownsRow base 3 1 v zs.length (zs.map (Value.int .i64))) (hne : zs ≠ []) (hn : zs.length ≤ 200000) :
    ∃ g cap, v = .slice (some ⟨g, 0, none⟩) zs.length cap ∧ base ≤ g ∧ g < w.heap.size ∧
      Calls Tryz.prog 117 #[.slice (some ⟨g, 0, none⟩) zs.length cap] w fun e w' => e = .returned (.tuple #[]) ∧ w.grownBy w' (some g) ∧
        w'.ownsRow base 3 1 (.slice (some ⟨g, 0, none⟩) zs.length cap) zs.length ((zs.mergeSort fun x y => decide (x ≤ y)).map (Value.int .i64)) := by
  have hO2 := hO
  rcases hO2.2 with ⟨_, h0⟩ | ⟨g, cap, cur, rfl, hb, hg, hle, hm, hs, ht⟩
  · exact absurd (List.length_eq_zero_iff.1 h0) hne
  · have hlt : g < w.heap.size := (Array.getElem?_eq_some_iff.1 hg).1
    rw [Nat.mul_one] at ht
    refine ⟨g, cap, rfl, hb, hlt, ?_⟩
    refine (Any.slices_Sort_int Tryz.laysSort g 0 cap zs w (holds_of_blockI hg ht) hlt (by omega)).mono ?_
    rintro e w' ⟨rfl, n, os, rfl⟩
    refine ⟨rfl, grownBy_sortedI _, ownsRow_sortedI (by rw [List.length_mergeSort]) hb hg hle hm (by omega)⟩

theorem compact_len (zs : List Int) : (Lib.compact zs).length ≤ zs.length := by
  unfold Lib.compact Lib.compactUpTo
  rw [List.length_map]
  exact Nat.le_trans (List.length_filter_le _ _) (by simp)

/-- A row of the call's own, compacted by Go's library. -/
theorem compact_own (w : World) (base g cap : Nat) (zs : List Int) (hO : w.ownsRow base 3 1 (.slice (some ⟨g, 0, none⟩) zs.length cap) zs.length (zs.map (Value.int .i64))) (hn : zs.length ≤ 200000) :
    Calls Tryz.prog 118 #[.slice (some ⟨g, 0, none⟩) zs.length cap] w fun e w' => e = .returned (.slice (some ⟨g, 0, none⟩) (Lib.compact zs).length cap) ∧ w.grownBy w' (some g) ∧
        w'.ownsRow base 3 1 (.slice (some ⟨g, 0, none⟩) (Lib.compact zs).length cap) (Lib.compact zs).length ((Lib.compact zs).map (Value.int .i64)) := by
  have hO2 := hO
  rcases hO2.2 with ⟨h0, _⟩ | ⟨g', cap', cur, e0, hb, hg, hle, hm, hs, ht⟩
  · cases h0
  · injection e0 with e1 _ e3
    injection e1 with e1
    injection e1 with e1
    subst e1; subst e3
    rw [Nat.mul_one] at ht
    have hcl := compact_len zs
    refine (Any.slices_Compact_int Tryz.laysCompact g 0 cap zs w (holds_of_blockI hg ht) (by omega) hle).mono ?_
    rintro e w' ⟨rfl, q, rfl⟩
    have hlen : (Lib.compact zs ++ List.replicate (zs.length - (Lib.compact zs).length) (0 : Int)).length = zs.length := by rw [List.length_append, List.length_replicate]; omega
    refine ⟨rfl, ?_, ?_⟩
    · have := grownBy_sortedI (w := w) (g := g) (n := q) (os := #[]) (Lib.compact zs ++ List.replicate (zs.length - (Lib.compact zs).length) (0 : Int)).toArray
      have e : ∀ X : World, grow X #[] = X := fun X => by unfold grow; rw [Array.append_empty]
      rw [e] at this
      exact this
    · have := Lib.ownsRow_putRow (q := q) (k := (Lib.compact zs).length) hO hlen hcl
      rw [List.take_left] at this
      exact this

set_option maxRecDepth 100000 in
set_option maxHeartbeats 1000000 in
theorem times_iter (Bw : Nat) (A : Option Addr) (c : Nat) (xs : List (Int × Int)) (hn : xs.length ≤ 100000) :
    Iter Tryz.prog 138 #[.pointer (some ⟨Bw, 0, none⟩)] IntEnc (timesL xs) (fun _ => False) (fun _ => False) (TimesPre Bw A c xs) (fun _ => True) (fun _ _ => True) := by
  obtain ⟨ys, hyd⟩ : ∃ ys, timesL xs = ys := ⟨_, rfl⟩
  rw [hyd]
  have HY := Lib.hid hyd
  clear hyd
  intro W l J Jx D hP hJ hJx hD hR h0
  obtain ⟨hb, hC, hc⟩ := hP
  have hbl : Bw < W.heap.size := (Array.getElem?_eq_some_iff.1 hb).1
  have hcell : W.cell? ⟨Bw, 0, none⟩ = some (.slice A xs.length c) := by simp [World.cell?, hb]
  have hu := Tryz.underlying117
  have hu2 := Tryz.underlying182
  have hmax := hC.2.1
  refine callsIn_wide (n := 0).1 ?_
  refine callsIn_of_wp Tryz.func138 rfl trivial ?_ rfl
  simp only [Tryz.ntmps138, List.size_toArray, List.length_cons, List.length_nil, Nat.reduceAdd, Nat.reduceSub, Array.replicate_succ, Array.replicate_zero, List.push_toArray, List.append_toArray, List.nil_append, List.cons_append]
  refine wpIn_wide.2 ?_
  obtain ⟨W1, hW1⟩ : ∃ W1, W.alloc (.cells #[.int .i64 0] 3) = W1 := ⟨_, rfl⟩
  have hB1 : Below W.heap.size W W1 := by rw [← hW1]; exact (Below.refl _ W).alloc (Nat.le_refl _) _
  have hs1 : W1.heap.size = W.heap.size + 1 := by rw [← hW1]; simp
  have hcell1 : W1.cell? ⟨Bw, 0, none⟩ = some (.slice A xs.length c) := (hB1.cell (p := ⟨Bw, 0, none⟩) hbl).trans hcell
  have hR1 : Kd.R (Kd.int .i64) 3 W1 W.heap.size (fun _ => True) (.slice (some ⟨W.heap.size, 0, none⟩) 1 1) (0 :: (xs.take 0).map (fun x => x.1)) := by
    rw [← hW1]
    exact ⟨fun _ _ => trivial, [.int .i64 0], ⟨rfl, .inr ⟨W.heap.size, 1, #[.int .i64 0], rfl, Nat.le_refl _, heap_alloc_new W _, Nat.le_refl _, by decide, rfl, rfl⟩⟩, Reps.snoc (Reps.none _ _) rfl rfl⟩
  go_wp2
  go_loopw [3, 12] (fun v i wr => ∃ k : Nat, k ≤ xs.length ∧ i = .int .i64 k ∧ Kd.R (Kd.int .i64) 3 wr W.heap.size (fun _ => True) v (0 :: (xs.take k).map (fun x => x.1)) ∧ Below W.heap.size W wr)
    (fun _ i _ => xs.length - (intOf i).toNat)
  case atStart => exact ⟨0, Nat.zero_le _, rfl, hR1, hB1⟩
  case round =>
    obtain ⟨k, hk, rfl, hRk, hB⟩ := hrel
    clear hR1 hcell1 hW1 hB1 hs1
    by_cases hlt : k < xs.length
    · have hd : decide ((k : Int) < (xs.length : Int)) = true := decide_eq_true (by omega)
      obtain ⟨ad, rfl, hx0, hx1⟩ := at_ch hC hlt
      have hy0 := (hB.cell (World.block_lt_of_cell? W _ hx0)).trans hx0
      have hy1 := (hB.cell (World.block_lt_of_cell? W _ hx1)).trans hx1
      obtain ⟨y, hyy⟩ : ∃ y, y = xs[k] := ⟨_, rfl⟩
      rw [← hyy] at hy0 hy1
      have Hy := Aside0.mk hyy
      clear hyy hx0 hx1
      have hz := hB.size
      have hB2 := fun o => hB.alloc hz o
      have hR2 := fun o => Kd.R_alloc hRk o
      have hlen2 := List.length_take_le' k xs
      go_wp2_with ((with_reducible refine gate_builtin (b := .append) (xs := #[.tmp 16, .tmp 19]) rfl ?_); at_builtin; refine Kd.R_append (Kd.int .i64) (w0 := W) W.heap.size rfl (.tmp 16) (.tmp 19) 35 3 (.int .i64 0) 8 rfl Tryz.underlying35 info3 rfl (by decide) (by decide) _ (0 :: (xs.take k).map (fun x => x.1)) y.1 [.int .i64 y.1] (fun _ => True) (fun _ => False) rfl ?hx ?aP (fun k hk => hk.elim) (fun k hk => trivial) ?aO ?aB ?aS ?aL ?_; (case hx => rw [World.size_alloc]; rfl); (case aP => exact rfl); (case aO => exact hR2 _); (case aB => exact hB2 _); (case aS => rw [World.size_alloc]; omega); (case aL => rw [List.length_cons, List.length_map]; omega); intro v1 w1 hR1 hB1 hg1 hat1)
      refine ⟨⟨k + 1, by omega, by simp, ?_, hB1⟩, by simp [intOf]; omega⟩
      rw [take_snoc hlt, List.map_append, ← Hy.out]
      exact hR1
    · obtain rfl : k = xs.length := by omega
      have hd : decide ((xs.length : Int) < (xs.length : Int)) = false := decide_eq_false (by omega)
      rw [List.take_length] at hRk
      have hzl : (0 :: xs.map (fun x => x.1)).length ≤ 200000 := by rw [List.length_cons, List.length_map]; omega
      obtain ⟨g, cap, rfl, hg, hgl, hsort⟩ := sort_own wr W.heap.size _ _ (own_ints hRk) (by simp) hzl
      rw [List.length_cons, List.length_map] at hsort
      go_wp2_with fail
      refine hsort.mono ?_
      clear hsort
      rintro e w2 ⟨rfl, hG2, hO2⟩
      have hO2b : w2.ownsRow W.heap.size 3 1 (.slice (some ⟨g, 0, none⟩) ((0 :: xs.map (fun x => x.1)).mergeSort fun x y => decide (x ≤ y)).length cap) ((0 :: xs.map (fun x => x.1)).mergeSort fun x y => decide (x ≤ y)).length ((((0 :: xs.map (fun x => x.1)).mergeSort fun x y => decide (x ≤ y))).map (Value.int .i64)) := by
        rw [List.length_mergeSort, List.length_cons, List.length_map]; exact hO2
      have hcomp := compact_own w2 W.heap.size g cap _ hO2b (by rw [List.length_mergeSort]; exact hzl)
      rw [List.length_mergeSort, List.length_cons, List.length_map] at hcomp
      clear hO2b hO2
      have hys : timesL xs = Lib.compact ((0 :: xs.map (fun x => x.1)).mergeSort fun x y => decide (x ≤ y)) := rfl
      rw [← hys, HY.out] at hcomp
      clear hys
      go_wp2_with fail
      refine hcomp.mono ?_
      clear hcomp
      rintro e w3 ⟨rfl, hG3, hO3⟩
      have hB3 : Below W.heap.size W w3 := (hB.grown hG2 hB.size (fun j hj => by cases hj; exact hg)).grown hG3 (Nat.le_trans hB.size hG2.size) (fun j hj => by cases hj; exact hg)
      have hgl3 : g < w3.heap.size := Nat.lt_of_lt_of_le (Nat.lt_of_lt_of_le hgl hG2.size) hG3.size
      have h03 : J [] D w3 := hJ _ _ _ _ h0 ((Same.of_below hB3).mono (fun k hk => (hD k hk).1))
      have hmax3 : ys.length ≤ 9223372036854775807 := by rw [← HY.out]; exact Nat.le_trans (compact_len _) (by rw [List.length_mergeSort]; omega)
      clear hRk hB hG2 hG3 hcell
      go_wp2
      refine (wpIn_wide (n := 0)).1 ?_
      gi_loopw [27] (fun i wr => ∃ (k : Nat) (D' : Nat → Prop), k ≤ ys.length ∧ i = .int .i64 k ∧ J (ys.take k) D' wr ∧ (∀ j, D' j → j < wr.heap.size) ∧ (∀ j, D' j → D j ∨ w3.heap.size ≤ j) ∧ Same (fun j => j < w3.heap.size ∧ ¬ D j) w3 wr)
        (fun i _ => ys.length - (intOf i).toNat)
      case atStart => exact ⟨0, D, Nat.zero_le _, rfl, h03, fun k hk => Nat.lt_of_lt_of_le (hD k hk).1 hB3.size, fun k hk => .inl hk, Same.refl _ _⟩
      case round =>
        obtain ⟨k, D1, hk, rfl, hJs, hltD, hsub, hsame⟩ := hrel
        have hz3 := hB3.size
        have hsub2 : ∀ j, D1 j → D j ∨ W.heap.size ≤ j := fun j hj => (hsub j hj).imp id (fun h => Nat.le_trans hz3 h)
        have hsameW : Same (fun j => j < W.heap.size ∧ ¬ D j) W wr := (Same.of_below hB3).trans hsame (fun j hj => hj.1) (fun j hj => ⟨Nat.lt_of_lt_of_le hj.1 hz3, hj.2⟩)
        by_cases hlt : k < ys.length
        · have hcy : wr.cell? ⟨g, k, none⟩ = some (.int .i64 ys[k]) := by
            have h1 := hO3.cellAt k (by simpa using hlt)
            rw [hsame.cell (p := ⟨g, k, none⟩) ⟨hgl3, fun h => absurd (hD g h).1 (by omega)⟩]
            simpa [hlt] using h1
          have hsplit : ys = ys.take k ++ ys[k] :: ys.drop (k + 1) := by
            rw [List.getElem_cons_drop, List.take_append_drop]
          have hround := hR _ (ys[k]) _ D1 wr #[.int .i64 ys[k]] hsplit hJs hltD (Nat.le_trans hz3 hsame.size) hsub2 rfl
          obtain ⟨fn, tmps, assign, body, hy, hRd⟩ := hround
          have Hsplit := Lib.hid hsplit
          clear hsplit
          generalize hrk : ys[k] = rk at *
          have Hrk := Lib.hid hrk
          clear hrk
          gi_wp2
          refine ⟨rfl, hRd.mono ?_⟩
          rintro e W4 ⟨D3, hT, (⟨rfl, hJ3⟩ | ⟨rfl, hJx3⟩)⟩
          · gi_wp2
            go_roundw
            case rel => exact ⟨k + 1, D3, by omega, by go_num, by rw [List.take_succ_eq_append_getElem hlt, Hrk.out]; exact hJ3, hT.lt, fun j hj => by
              rcases hT.sub j hj with h1 | h1
              · exact hsub j h1
              · exact .inr (Nat.le_trans hsame.size h1), hsame.trans hT.same (fun _ hj => hj) (fun j hj => ⟨Nat.lt_of_lt_of_le hj.1 hsame.size, fun h1 => by
                rcases hsub j h1 with h2 | h2
                · exact hj.2 h2
                · exact absurd hj.1 (by omega)⟩)⟩
            case measure => simp [intOf]; omega
          · gi_wp2
            refine bodyPost_ret (results_none rfl _ _ _) rfl ?_
            exact Ended.mk D3 (fun j hj => by
              rcases hT.sub j hj with h1 | h1
              · exact hsub2 j h1
              · exact .inr (Nat.le_trans hsameW.size h1)) hT.lt (hsameW.trans hT.same (fun j hj => ⟨hj.1, hj.2.1⟩) (fun j hj => ⟨Nat.lt_of_lt_of_le hj.1 hsameW.size, fun h1 => by
                rcases hsub2 j h1 with h2 | h2
                · exact hj.2.1 h2
                · exact absurd hj.1 (by omega)⟩)) (.inr ⟨_, _, _, Hsplit.out, hJx3, trivial⟩)
        · obtain rfl : k = ys.length := by omega
          gi_wp2
          go_end0
          refine Ended.mk D1 hsub2 hltD (hsameW.mono (fun j hj => ⟨hj.1, hj.2.1⟩)) (.inl ⟨?_, trivial⟩)
          rw [List.take_length] at hJs
          exact hJs
end Go.Proofs.YtofkhcgkahkagaaGreat
