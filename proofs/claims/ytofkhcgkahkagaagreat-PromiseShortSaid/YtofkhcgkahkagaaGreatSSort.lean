/- Go's library sorts texts; whether a line has a step below nought. -/
import Derived.Test.YtofkhcgkahkagaaGreatProg
import Derived.WalkKit
import Derived.Test.YtofkhcgkahkagaaGreatPShelf
import Derived.Test.YtofkhcgkahkagaaGreatGen
import Derived.Test.YtofkhcgkahkagaaGreatPTold
import Derived.Sort.OwnSorted
import Derived.Lib.Hide
/- Go's library sorts no text: nothing turns. -/
namespace Go.Proofs.YtofkhcgkahkagaaGreat
open Go.RowKit

theorem ins_nil (p : Option Addr) (cap : Nat) (w : World) : Calls Tryz.prog 139 #[.slice p 0 cap, .int .i64 0, .int .i64 0] w fun e w' => e = .returned (.tuple #[]) ∧ w' = w := by
  go_enter Tryz.func139, Tryz.ntmps139
  go_wp2
  refine wp_loop_rounds 1 ?_
  rw [rounds_succ]
  go_wp2
  go_end0
  exact ⟨rfl, rfl⟩
set_option maxRecDepth 100000 in
theorem pdq_nil (p : Option Addr) (cap : Nat) (w : World) : Calls Tryz.prog 88 #[.slice p 0 cap, .int .i64 0, .int .i64 0, .int .i64 0] w fun e w' => e = .returned (.tuple #[]) ∧ w' = w := by
  go_enter Tryz.func88, Tryz.ntmps88
  go_wp2
  refine wp_loop_rounds 1 ?_
  rw [rounds_succ]
  go_wp2_with (go_at_call 139; refine (ins_nil p cap _).mono ?_; rintro e w' ⟨rfl, rfl⟩)
  refine bodyPost_ret (results_none rfl _ _ _) rfl ?_
  exact ⟨rfl, rfl⟩
set_option maxRecDepth 100000 in
theorem len_nil64 (w : World) : Calls Tryz.prog 149 #[.int .u64 0] w fun e w' => e = .returned (.int .i64 0) ∧ w' = w := by
  go_enter Tryz.func149, Tryz.ntmps149
  go_wp2
  go_ret
  exact ⟨by kernel_rfl, rfl⟩
theorem len_nil (w : World) : Calls Tryz.prog 89 #[.int .u64 0] w fun e w' => e = .returned (.int .i64 0) ∧ w' = w := by
  go_enter Tryz.func89, Tryz.ntmps89
  go_wp2_with (go_at_call 149; refine (len_nil64 _).mono ?_; rintro e w' ⟨rfl, rfl⟩)
  go_ret
  exact ⟨rfl, rfl⟩
set_option maxRecDepth 100000 in
theorem sort_nil (p : Option Addr) (cap : Nat) (w : World) : Calls Tryz.prog 45 #[.slice p 0 cap] w fun e w' => e = .returned (.tuple #[]) ∧ w' = w := by
  go_enter Tryz.func45, Tryz.ntmps45
  go_wp2_with (first
    | (go_at_call 89; refine (len_nil _).mono ?_; rintro e w' ⟨rfl, rfl⟩)
    | (go_at_call 88; refine (pdq_nil p cap _).mono ?_; rintro e w' ⟨rfl, rfl⟩))
  go_end0
  exact ⟨rfl, rfl⟩
end Go.Proofs.YtofkhcgkahkagaaGreat
namespace Go.Proofs.YtofkhcgkahkagaaGreat
open Go.RowKit Go.Shelf Go.Sort Go.Proofs.YtofkhcgkahkagaaGreatW.PrintWords Go.Proofs.YtofkhcgkahkagaaGreatW.PrintLast Go.Proofs.YtofkhcgkahkagaaGreatW.PrintMore Go.Proofs.YtofkhcgkahkagaaGreat.PPromiseShort
set_option linter.unusedVariables false
set_option linter.unusedSimpArgs false

def toL (s : ByteArray) : List UInt8 := s.data.toList
def ofL (l : List UInt8) : ByteArray := ⟨l.toArray⟩
theorem ofL_toL (s : ByteArray) : ofL (toL s) = s := by cases s; rfl
theorem toL_ofL (l : List UInt8) : toL (ofL l) = l := by simp [toL, ofL]
theorem toL_inj {s t : ByteArray} (h : toL s = toL t) : s = t := by rw [← ofL_toL s, h, ofL_toL]
/-- Texts, rising. -/
def sortS (xs : List ByteArray) : List ByteArray := ((xs.map toL).mergeSort fun x y => decide (x ≤ y)).map ofL
theorem sortS_len (xs : List ByteArray) : (sortS xs).length = xs.length := by simp [sortS]
theorem sortS_mem (xs : List ByteArray) (s : ByteArray) : s ∈ sortS xs ↔ s ∈ xs := by
  unfold sortS
  rw [List.mem_map]
  constructor
  · rintro ⟨l, hl, rfl⟩
    rw [List.mem_mergeSort] at hl
    obtain ⟨t, ht, rfl⟩ := List.mem_map.1 hl
    rwa [ofL_toL]
  · intro h
    exact ⟨toL s, by rw [List.mem_mergeSort]; exact List.mem_map.2 ⟨s, h, rfl⟩, ofL_toL s⟩
theorem sortS_up (xs : List ByteArray) (h : xs.Nodup) : (sortS xs).Pairwise (fun s t => toL s < toL t) := by
  have tr : ∀ a b c : List UInt8, decide (a ≤ b) = true → decide (b ≤ c) = true → decide (a ≤ c) = true := fun a b c h1 h2 => by simp only [decide_eq_true_eq] at *; exact List.le_trans h1 h2
  have tt : ∀ a b : List UInt8, (decide (a ≤ b) || decide (b ≤ a)) = true := fun a b => by simp only [Bool.or_eq_true, decide_eq_true_eq]; exact List.le_total a b
  have h1 := List.pairwise_mergeSort tr tt (xs.map toL)
  have h2 : ((xs.map toL).mergeSort fun x y => decide (x ≤ y)).Nodup := ((List.mergeSort_perm (xs.map toL) fun x y => decide (x ≤ y)).nodup_iff).2 (List.pairwise_map.2 (h.imp (fun hne e => hne (toL_inj e))))
  unfold sortS
  refine List.pairwise_map.2 ((h1.and h2).imp ?_)
  rintro a b ⟨h3, h4⟩
  rw [toL_ofL, toL_ofL]
  have h5 : a ≤ b := by simpa using h3
  rcases List.le_iff_lt_or_eq.1 h5 with h6 | h6
  · exact h6
  · exact absurd h6 h4

theorem strs_enc (xs : List ByteArray) : xs.map Value.string = (xs.map toL).map encStr := by
  rw [List.map_map]
  refine List.map_congr_left (fun s _ => ?_)
  cases s
  rfl
theorem reps_str {R : ByteArray → List Value → Prop} {zs : List ByteArray} {cs : List Value} (h : Reps R 1 zs cs) (hR : ∀ p c, R p c → c = [.string p]) : cs = zs.map Value.string := by
  apply List.ext_getElem?
  intro j
  by_cases hj : j < zs.length
  · have := hR _ _ (h.2 j _ (List.getElem?_eq_getElem hj))
    rw [Nat.mul_one] at this
    have h2 : ((cs.drop j).take 1)[0]? = cs[j]? := by rw [List.getElem?_take_of_lt (by omega), List.getElem?_drop, Nat.add_zero]
    rw [← h2, this]
    simp [hj]
  · rw [List.getElem?_eq_none (by have := h.1; omega), List.getElem?_eq_none (by simp; omega)]
theorem own_strs {w : World} {base : Nat} {ok : Nat → Prop} {v : Value} {zs : List ByteArray} (hR : Kd.R Kd.string 9 w base ok v zs) : w.ownsRow base 9 1 v zs.length (zs.map Value.string) := by
  obtain ⟨_, inner, ho, hr⟩ := hR
  have := reps_str hr (fun p c h => h)
  subst this
  exact ho
/-- A row of texts of the call's own, sorted by Go's library. -/
theorem sort_strs (w : World) (base : Nat) (ok : Nat → Prop) (v : Value) (xs : List ByteArray) (hR : Kd.R Kd.string 9 w base ok v xs) (hn : xs.length ≤ 200000) :
    Calls Tryz.prog 45 #[v] w fun e w' => e = .returned (.tuple #[]) ∧ w.grownBy w' v.ownBlock ∧ Kd.R Kd.string 9 w' base (fun _ => True) v (sortS xs) := by
  have hO := own_strs hR
  have hO2 := hO
  rcases hO2.2 with ⟨h1, h0⟩ | ⟨g, cap, cur, rfl, hb, hg, hle, hm, hs, ht⟩
  · subst h1
    obtain rfl := List.length_eq_zero_iff.1 h0
    refine (sort_nil none 0 w).mono ?_
    rintro e w' ⟨rfl, rfl⟩
    exact ⟨rfl, ⟨rfl, rfl, rfl, Nat.le_refl _, fun _ _ _ => rfl⟩, by rw [show sortS [] = [] from by simp [sortS]]; exact Kd.R_nil _ _ _ _ _⟩
  · have hlt : g < w.heap.size := (Array.getElem?_eq_some_iff.1 hg).1
    rw [Nat.mul_one, strs_enc] at ht
    have hle' : (xs.map toL).length ≤ cap := by simpa using hle
    have hh : Holds encStr w g 0 (xs.map toL).toArray := holds_of_block hg (by simpa using ht)
    have hc := Any.slices_Sort_string Tryz.laysSortS g 0 cap (xs.map toL) w hh hlt (by simp; omega)
    rw [List.length_map] at hc
    refine hc.mono ?_
    rintro e w' ⟨rfl, n, os, rfl⟩
    refine ⟨rfl, grownBy_sorted _, ?_⟩
    have h1 := ownsRow_sorted (w := w) (os := os) (n := n) (ss := xs.map toL) (ts := (xs.map toL).mergeSort fun x y => decide (x ≤ y)) (by simp) hb hg hle' hm hs
    have h2 : ((xs.map toL).mergeSort fun x y => decide (x ≤ y)).map encStr = (sortS xs).map Value.string := by
      unfold sortS
      rw [List.map_map]
      exact List.map_congr_left (fun s _ => rfl)
    rw [h2, List.length_map] at h1
    have h3 : xs.length = (sortS xs).length := (sortS_len xs).symm
    rw [h3] at h1 ⊢
    exact ⟨fun _ _ => trivial, (sortS xs).map Value.string, h1, by
      refine ⟨by simp [Kd.string, Kd.scalar], fun j p hp => ?_⟩
      have hj : j < (sortS xs).length := (List.getElem?_eq_some_iff.1 hp).1
      show ((((sortS xs).map Value.string).drop (j * 1)).take 1) = [.string p]
      rw [Nat.mul_one, List.drop_eq_getElem_cons (by simpa using hj)]
      simp [(List.getElem?_eq_some_iff.1 hp).2]⟩

/-! ### a step below nought -/
def negS (l : List S111) : Bool := l.any (fun x => decide (x.f1 < 0))
theorem neg_calls (x : S111) (w : World) : Calls Tryz.prog 44 #[.agg #[.int .i64 x.f0, .int .i64 x.f1]] w fun e w' => e = .returned (.bool (decide (x.f1 < 0))) ∧ Below w.heap.size w w' := by
  have hu := Tryz.underlying111
  go_enter Tryz.func44, Tryz.ntmps44
  go_wp2
  go_ret
  exact ⟨rfl, (Below.refl _ w).alloc (Nat.le_refl _) _⟩

set_option maxRecDepth 100000 in
theorem index_neg (A : Option Addr) (c : Nat) (l : List S111) (w : World) (hC : Kd.C k111 w A l.length l) (hc : l.length ≤ c) :
    Calls Tryz.prog 87 #[.slice A l.length c, .func (.func 44) #[] #[]] w fun e w' => (∃ i : Int, e = .returned (.int .i64 i) ∧ decide (0 ≤ i) = negS l) ∧ Below w.heap.size w w' := by
  have hu := Tryz.underlying111
  have hmax := hC.2.1
  go_enter Tryz.func87, Tryz.ntmps87
  go_wp2
  go_loopw [8] (fun i wr => ∃ k : Nat, k ≤ l.length ∧ i = .int .i64 k ∧ (∀ r ∈ l.take k, 0 ≤ r.f1) ∧ Below w.heap.size w wr)
    (fun i _ => l.length - (intOf i).toNat)
  case atStart => exact ⟨0, Nat.zero_le _, rfl, by simp, Below.refl _ _⟩
  case round =>
    obtain ⟨k, hk, rfl, hall, hB⟩ := hrel
    by_cases hlt : k < l.length
    · have hd : decide ((k : Int) < (l.length : Int)) = true := decide_eq_true (by omega)
      obtain ⟨ad, rfl, hx0, hx1⟩ := at_T111 hC k (by omega) (by omega)
      rw [Int.toNat_natCast] at hx0 hx1
      have hy0 := (hB.cell (World.block_lt_of_cell? w _ hx0)).trans hx0
      have hy1 := (hB.cell (World.block_lt_of_cell? w _ hx1)).trans hx1
      have hr : rd_T111 l k = l[k] := by unfold rd_T111; rw [Int.toNat_natCast, List.getD_eq_getElem?_getD, List.getElem?_eq_getElem hlt]; rfl
      rw [hr] at hy0 hy1
      obtain ⟨r, hrr⟩ : ∃ r, r = l[k] := ⟨_, rfl⟩
      rw [← hrr] at hy0 hy1
      have Hr := Aside0.mk hrr
      clear hrr hr hx0 hx1
      have hneg := fun w => neg_calls r w
      go_wp2_with fail
      refine (hneg _).mono ?_
      rintro e w2 ⟨rfl, hB2⟩
      clear hneg hy0 hy1
      by_cases hb : r.f1 < 0
      · have hbb : decide (r.f1 < 0) = true := decide_eq_true hb
        have Hb := Lib.hid hb
        clear hb
        rw [hbb]
        go_wp2
        go_ret
        refine ⟨⟨_, rfl, ?_⟩, hB.trans (hB2.mono hB.size)⟩
        rw [show negS l = true from List.any_eq_true.2 ⟨l[k], List.getElem_mem hlt, by rw [← Hr.out]; simpa using Hb.out⟩]
        simp
      · have hbb : decide (r.f1 < 0) = false := decide_eq_false hb
        have Hb := Lib.hid hb
        clear hb
        rw [hbb]
        go_wp2
        refine ⟨⟨k + 1, by omega, by simp, ?_, hB.trans (hB2.mono hB.size)⟩, by simp [intOf]; omega⟩
        intro r2 hr2
        rw [List.take_add_one, List.getElem?_eq_getElem hlt] at hr2
        rcases List.mem_append.1 hr2 with h | h
        · exact hall r2 h
        · obtain rfl : r2 = l[k] := by simpa using h
          rw [← Hr.out]; exact Hb.out
    · obtain rfl : k = l.length := by omega
      have hd : decide ((l.length : Int) < (l.length : Int)) = false := decide_eq_false (by omega)
      go_wp2
      go_ret
      refine ⟨⟨_, rfl, ?_⟩, hB⟩
      rw [show negS l = false from List.any_eq_false.2 (fun r hr => by have := hall r (by rw [List.take_length]; exact hr); simpa using this)]
      rfl
theorem con_neg (A : Option Addr) (c : Nat) (l : List S111) (w : World) (hC : Kd.C k111 w A l.length l) (hc : l.length ≤ c) : Calls Tryz.prog 43 #[.slice A l.length c, .func (.func 44) #[] #[]] w fun e w' => e = .returned (.bool (negS l)) ∧ Below w.heap.size w w' := by
  go_enter Tryz.func43, Tryz.ntmps43
  go_wp2_with (go_at_call 87; refine (index_neg A c l _ hC hc).mono ?_; rintro e w2 ⟨⟨i, rfl, hi⟩, hB2⟩)
  go_ret
  exact ⟨rfl, hB2⟩
end Go.Proofs.YtofkhcgkahkagaaGreat
