/- Texts behind the row of PromiseKeeps, part 20. -/
import Derived.Test.YtofkhcgkahkagaaU18
import Derived.Test.YtofkhcgkahkagaaU19
import Derived.Test.YtofkhcgkahkagaaU08
import Derived.Test.YtofkhcgkahkagaaU02
import Derived.Sort.OwnSorted
import Derived.Lib.Hide
import Derived.Test.YtofkhcgkahkagaaU03
import Derived.Maps.RangeWalk
import Derived.Maps.OwnSet
import Derived.Test.YtofkhcgkahkagaaU05
import Derived.Deep.RegionHeld3
import Derived.Lib.AppendZeros
/- Go's library sorts texts; whether a line has a step below nought. -/
namespace Go.Proofs.Ytofkhcgkahkagaa
open Go.RowKit Go.Shelf Go.Sort Go.Proofs.YtofkhcgkahkagaaW.PrintWords Go.Proofs.YtofkhcgkahkagaaW.PrintLast Go.Proofs.YtofkhcgkahkagaaW.PrintMore Go.Proofs.Ytofkhcgkahkagaa.PPromiseLines
set_option linter.unusedVariables false
set_option linter.unusedSimpArgs false

def toL (s : ByteArray) : List UInt8 := s.data.toList
def ofL (l : List UInt8) : ByteArray := ⟨l.toArray⟩
theorem ofL_toL (s : ByteArray) : ofL (toL s) = s := by cases s; rfl
theorem toL_ofL (l : List UInt8) : toL (ofL l) = l := by simp [toL, ofL]
theorem toL_inj {s t : ByteArray} (h : toL s = toL t) : s = t := by rw [← ofL_toL s, h, ofL_toL]
/-- Texts, rising. -/
def sortS (xs : List ByteArray) : List ByteArray := ((xs.map toL).mergeSort fun x y => decide (x ≤ y)).map ofL
theorem sortS_len (xs : List ByteArray) : (sortS xs).length = xs.length := by simp [sortS]
theorem sortS_mem (xs : List ByteArray) (s : ByteArray) : s ∈ sortS xs ↔ s ∈ xs := by
  unfold sortS
  rw [List.mem_map]
  constructor
  · rintro ⟨l, hl, rfl⟩
    rw [List.mem_mergeSort] at hl
    obtain ⟨t, ht, rfl⟩ := List.mem_map.1 hl
    rwa [ofL_toL]
  · intro h
    exact ⟨toL s, by rw [List.mem_mergeSort]; exact List.mem_map.2 ⟨s, h, rfl⟩, ofL_toL s⟩
theorem sortS_up (xs : List ByteArray) (h : xs.Nodup) : (sortS xs).Pairwise (fun s t => toL s < toL t) := by
  have tr : ∀ a b c : List UInt8, decide (a ≤ b) = true → decide (b ≤ c) = true → decide (a ≤ c) = true := fun a b c h1 h2 => by simp only [decide_eq_true_eq] at *; exact List.le_trans h1 h2
  have tt : ∀ a b : List UInt8, (decide (a ≤ b) || decide (b ≤ a)) = true := fun a b => by simp only [Bool.or_eq_true, decide_eq_true_eq]; exact List.le_total a b
  have h1 := List.pairwise_mergeSort tr tt (xs.map toL)
  have h2 : ((xs.map toL).mergeSort fun x y => decide (x ≤ y)).Nodup := ((List.mergeSort_perm (xs.map toL) fun x y => decide (x ≤ y)).nodup_iff).2 (List.pairwise_map.2 (h.imp (fun hne e => hne (toL_inj e))))
  unfold sortS
  refine List.pairwise_map.2 ((h1.and h2).imp ?_)
  rintro a b ⟨h3, h4⟩
  rw [toL_ofL, toL_ofL]
  have h5 : a ≤ b := by simpa using h3
  rcases List.le_iff_lt_or_eq.1 h5 with h6 | h6
  · exact h6
  · exact absurd h6 h4

theorem strs_enc (xs : List ByteArray) : xs.map Value.string = (xs.map toL).map encStr := by
  rw [List.map_map]
  refine List.map_congr_left (fun s _ => ?_)
  cases s
  rfl
theorem reps_str {R : ByteArray → List Value → Prop} {zs : List ByteArray} {cs : List Value} (h : Reps R 1 zs cs) (hR : ∀ p c, R p c → c = [.string p]) : cs = zs.map Value.string := by
  apply List.ext_getElem?
  intro j
  by_cases hj : j < zs.length
  · have := hR _ _ (h.2 j _ (List.getElem?_eq_getElem hj))
    rw [Nat.mul_one] at this
    have h2 : ((cs.drop j).take 1)[0]? = cs[j]? := by rw [List.getElem?_take_of_lt (by omega), List.getElem?_drop, Nat.add_zero]
    rw [← h2, this]
    simp [hj]
  · rw [List.getElem?_eq_none (by have := h.1; omega), List.getElem?_eq_none (by simp; omega)]
theorem own_strs {w : World} {base : Nat} {ok : Nat → Prop} {v : Value} {zs : List ByteArray} (hR : Kd.R Kd.string 9 w base ok v zs) : w.ownsRow base 9 1 v zs.length (zs.map Value.string) := by
  obtain ⟨_, inner, ho, hr⟩ := hR
  have := reps_str hr (fun p c h => h)
  subst this
  exact ho
/-- A row of texts of the call's own, sorted by Go's library. -/
theorem sort_strs (w : World) (base : Nat) (ok : Nat → Prop) (v : Value) (xs : List ByteArray) (hR : Kd.R Kd.string 9 w base ok v xs) (hn : xs.length ≤ 200000) :
    Calls Try.prog 50 #[v] w fun e w' => e = .returned (.tuple #[]) ∧ w.grownBy w' v.ownBlock ∧ Kd.R Kd.string 9 w' base (fun _ => True) v (sortS xs) := by
  have hO := own_strs hR
  have hO2 := hO
  rcases hO2.2 with ⟨h1, h0⟩ | ⟨g, cap, cur, rfl, hb, hg, hle, hm, hs, ht⟩
  · subst h1
    obtain rfl := List.length_eq_zero_iff.1 h0
    refine (sort_nil none 0 w).mono ?_
    rintro e w' ⟨rfl, rfl⟩
    exact ⟨rfl, ⟨rfl, rfl, rfl, Nat.le_refl _, fun _ _ _ => rfl⟩, by rw [show sortS [] = [] from by simp [sortS]]; exact Kd.R_nil _ _ _ _ _⟩
  · have hlt : g < w.heap.size := (Array.getElem?_eq_some_iff.1 hg).1
    rw [Nat.mul_one, strs_enc] at ht
    have hle' : (xs.map toL).length ≤ cap := by simpa using hle
    have hh : Holds encStr w g 0 (xs.map toL).toArray := holds_of_block hg (by simpa using ht)
    have hc := Any.slices_Sort_string Try.laysSortS g 0 cap (xs.map toL) w hh hlt (by simp; omega)
    rw [List.length_map] at hc
    refine hc.mono ?_
    rintro e w' ⟨rfl, n, os, rfl⟩
    refine ⟨rfl, grownBy_sorted _, ?_⟩
    have h1 := ownsRow_sorted (w := w) (os := os) (n := n) (ss := xs.map toL) (ts := (xs.map toL).mergeSort fun x y => decide (x ≤ y)) (by simp) hb hg hle' hm hs
    have h2 : ((xs.map toL).mergeSort fun x y => decide (x ≤ y)).map encStr = (sortS xs).map Value.string := by
      unfold sortS
      rw [List.map_map]
      exact List.map_congr_left (fun s _ => rfl)
    rw [h2, List.length_map] at h1
    have h3 : xs.length = (sortS xs).length := (sortS_len xs).symm
    rw [h3] at h1 ⊢
    exact ⟨fun _ _ => trivial, (sortS xs).map Value.string, h1, by
      refine ⟨by simp [Kd.string, Kd.scalar], fun j p hp => ?_⟩
      have hj : j < (sortS xs).length := (List.getElem?_eq_some_iff.1 hp).1
      show ((((sortS xs).map Value.string).drop (j * 1)).take 1) = [.string p]
      rw [Nat.mul_one, List.drop_eq_getElem_cons (by simpa using hj)]
      simp [(List.getElem?_eq_some_iff.1 hp).2]⟩

/-! ### a step below nought -/
def negS (l : List S58) : Bool := l.any (fun x => decide (x.f1 < 0))
theorem neg_calls (x : S58) (w : World) : Calls Try.prog 49 #[.agg #[.int .i64 x.f0, .int .i64 x.f1]] w fun e w' => e = .returned (.bool (decide (x.f1 < 0))) ∧ Below w.heap.size w w' := by
  have hu := Try.underlying58
  go_enter Try.func49, Try.ntmps49
  go_wp2
  go_ret
  exact ⟨rfl, (Below.refl _ w).alloc (Nat.le_refl _) _⟩

set_option maxRecDepth 100000 in
theorem index_neg (A : Option Addr) (c : Nat) (l : List S58) (w : World) (hC : Kd.C k58 w A l.length l) (hc : l.length ≤ c) :
    Calls Try.prog 72 #[.slice A l.length c, .func (.func 49) #[] #[]] w fun e w' => (∃ i : Int, e = .returned (.int .i64 i) ∧ decide (0 ≤ i) = negS l) ∧ Below w.heap.size w w' := by
  have hu := Try.underlying58
  have hmax := hC.2.1
  go_enter Try.func72, Try.ntmps72
  go_wp2
  go_loopw [8] (fun i wr => ∃ k : Nat, k ≤ l.length ∧ i = .int .i64 k ∧ (∀ r ∈ l.take k, 0 ≤ r.f1) ∧ Below w.heap.size w wr)
    (fun i _ => l.length - (intOf i).toNat)
  case atStart => exact ⟨0, Nat.zero_le _, rfl, by simp, Below.refl _ _⟩
  case round =>
    obtain ⟨k, hk, rfl, hall, hB⟩ := hrel
    by_cases hlt : k < l.length
    · have hd : decide ((k : Int) < (l.length : Int)) = true := decide_eq_true (by omega)
      obtain ⟨ad, rfl, hx0, hx1⟩ := at_T58 hC k (by omega) (by omega)
      rw [Int.toNat_natCast] at hx0 hx1
      have hy0 := (hB.cell (World.block_lt_of_cell? w _ hx0)).trans hx0
      have hy1 := (hB.cell (World.block_lt_of_cell? w _ hx1)).trans hx1
      have hr : rd_T58 l k = l[k] := by unfold rd_T58; rw [Int.toNat_natCast, List.getD_eq_getElem?_getD, List.getElem?_eq_getElem hlt]; rfl
      rw [hr] at hy0 hy1
      obtain ⟨r, hrr⟩ : ∃ r, r = l[k] := ⟨_, rfl⟩
      rw [← hrr] at hy0 hy1
      have Hr := Aside0.mk hrr
      clear hrr hr hx0 hx1
      have hneg := fun w => neg_calls r w
      go_wp2_with fail
      refine (hneg _).mono ?_
      rintro e w2 ⟨rfl, hB2⟩
      clear hneg hy0 hy1
      by_cases hb : r.f1 < 0
      · have hbb : decide (r.f1 < 0) = true := decide_eq_true hb
        have Hb := Lib.hid hb
        clear hb
        rw [hbb]
        go_wp2
        go_ret
        refine ⟨⟨_, rfl, ?_⟩, hB.trans (hB2.mono hB.size)⟩
        rw [show negS l = true from List.any_eq_true.2 ⟨l[k], List.getElem_mem hlt, by rw [← Hr.out]; simpa using Hb.out⟩]
        simp
      · have hbb : decide (r.f1 < 0) = false := decide_eq_false hb
        have Hb := Lib.hid hb
        clear hb
        rw [hbb]
        go_wp2
        refine ⟨⟨k + 1, by omega, by simp, ?_, hB.trans (hB2.mono hB.size)⟩, by simp [intOf]; omega⟩
        intro r2 hr2
        rw [List.take_add_one, List.getElem?_eq_getElem hlt] at hr2
        rcases List.mem_append.1 hr2 with h | h
        · exact hall r2 h
        · obtain rfl : r2 = l[k] := by simpa using h
          rw [← Hr.out]; exact Hb.out
    · obtain rfl : k = l.length := by omega
      have hd : decide ((l.length : Int) < (l.length : Int)) = false := decide_eq_false (by omega)
      go_wp2
      go_ret
      refine ⟨⟨_, rfl, ?_⟩, hB⟩
      rw [show negS l = false from List.any_eq_false.2 (fun r hr => by have := hall r (by rw [List.take_length]; exact hr); simpa using this)]
      rfl
theorem con_neg (A : Option Addr) (c : Nat) (l : List S58) (w : World) (hC : Kd.C k58 w A l.length l) (hc : l.length ≤ c) : Calls Try.prog 48 #[.slice A l.length c, .func (.func 49) #[] #[]] w fun e w' => e = .returned (.bool (negS l)) ∧ Below w.heap.size w w' := by
  go_enter Try.func48, Try.ntmps48
  go_wp2_with (go_at_call 72; refine (index_neg A c l _ hC hc).mono ?_; rintro e w2 ⟨⟨i, rfl, hi⟩, hB2⟩)
  go_ret
  exact ⟨rfl, hB2⟩
end Go.Proofs.Ytofkhcgkahkagaa
/- The line behind one that is taken; what is said of the earliest time. -/
namespace Go.Proofs.Ytofkhcgkahkagaa
open Go.RowKit Go.Proofs.YtofkhcgkahkagaaW.PrintWords Go.Proofs.YtofkhcgkahkagaaW.PrintLast Go.Proofs.YtofkhcgkahkagaaW.PrintMore Go.Proofs.Ytofkhcgkahkagaa.PPromiseLines
set_option linter.unusedVariables false
set_option linter.unusedSimpArgs false

theorem sumAt_ok {xs : List (Int × Int)} {t v : Int} (h : sumAt xs t = (v, 0)) : (freeL t xs).sum = v ∧ -9223372036854775808 ≤ v ∧ v ≤ 9223372036854775807 := by
  unfold sumAt sumOf at h
  by_cases c : -9223372036854775808 ≤ (freeL t xs).sum ∧ (freeL t xs).sum ≤ 9223372036854775807
  · rw [if_pos c] at h
    have := congrArg Prod.fst h
    dsimp only at this
    exact ⟨this, by omega, by omega⟩
  · rw [if_neg c] at h
    have := congrArg Prod.snd h
    dsimp only at this
    omega
theorem sumAt_in {xs : List (Int × Int)} {t v : Int} (h : (freeL t xs).sum = v) (hv : -9223372036854775808 ≤ v ∧ v ≤ 9223372036854775807) : sumAt xs t = (v, 0) := by
  unfold sumAt sumOf
  rw [h, if_pos hv]
/-- A step that holds at a time, before or behind the k-th. -/
theorem LineP.side {xs : List (Int × Int)} {s : List Stp} (h : LineP xs s) {i k : Nat} (hi : i < s.length) (hk : k < s.length) {t : Int} (h1 : s[i].f0 ≤ t) (h2 : ∀ h2 : i + 1 < s.length, t < s[i + 1].f0) : s[k].f0 ≤ t ↔ k ≤ i := by
  constructor
  · intro hh
    rcases Nat.lt_or_ge i k with e | e
    · have h5 := h2 (by omega)
      rcases Nat.eq_or_lt_of_le (show i + 1 ≤ k by omega) with e2 | e2
      · simp only [e2] at h5; omega
      · have := h.up (i + 1) k hk e2; omega
    · exact e
  · intro hh
    rcases Nat.eq_or_lt_of_le hh with e | e
    · subst e; exact h1
    · have := h.up k i hi e; omega
theorem taken_line {X : List (Int × Int)} {s : List Stp} (h : LineP X s) {k : Nat} (hk : k < s.length) {q m : Int} (hq : 0 ≤ q ∧ q ≤ 31) (hm : 1 ≤ m ∧ m ≤ 31) (hge : ∀ i (hi : i < s.length), k ≤ i → q ≤ s[i].f1) :
    (lineF (X ++ [(s[k].f0, -m)])).2 = 0 ∧ (negS (lineF (X ++ [(s[k].f0, -m)])).1 = true ↔ (∃ i, ∃ hi : i < s.length, i < k ∧ s[i].f1 < 0) ∨ ∃ i, ∃ hi : i < s.length, k ≤ i ∧ s[i].f1 < m) := by
  have hmem : ∀ t, t ∈ timesL (X ++ [(s[k].f0, -m)]) ↔ t ∈ timesL X := fun t => by
    rw [(timesL_law _).2, (timesL_law _).2, List.map_append, List.mem_append]
    constructor
    · rintro (e | e | e)
      · exact .inl e
      · exact .inr e
      · rw [List.map_cons, List.map_nil, List.mem_singleton] at e
        rw [e]
        exact h.mem k hk
    · rintro (e | e)
      · exact .inl e
      · exact .inr (.inl e)
  have hval : ∀ t ∈ timesL X, ∃ i, ∃ hi : i < s.length, sumAt (X ++ [(s[k].f0, -m)]) t = (if k ≤ i then s[i].f1 - m else s[i].f1, 0) := fun t ht => by
    obtain ⟨i, hi, h1, h2, h3⟩ := h.all t ht
    have h4 : sumAt X t = (s[i].f1, 0) := Prod.ext h3 (h.oks t ht)
    obtain ⟨v1, v2, v3⟩ := sumAt_ok h4
    refine ⟨i, hi, sumAt_in ?_ ?_⟩
    · rw [freeL_snoc, List.sum_append, v1]
      by_cases e : k ≤ i
      · rw [if_pos e, if_pos ((h.side hi hk h1 h2).2 e)]
        simp
        omega
      · rw [if_neg e, if_neg (fun e2 => e ((h.side hi hk h1 h2).1 e2))]
        simp
    · split
      · rename_i e
        have := hge i hi e
        omega
      · exact ⟨v2, v3⟩
  have hval2 : ∀ i (hi : i < s.length), sumAt (X ++ [(s[k].f0, -m)]) s[i].f0 = (if k ≤ i then s[i].f1 - m else s[i].f1, 0) := fun i hi => by
    have h4 := h.val i hi
    obtain ⟨v1, v2, v3⟩ := sumAt_ok h4
    have hs := h.side hi hk (Int.le_refl s[i].f0) (fun h2 => h.up i (i + 1) h2 (by omega))
    refine sumAt_in ?_ ?_
    · rw [freeL_snoc, List.sum_append, v1]
      by_cases e : k ≤ i
      · rw [if_pos e, if_pos (hs.2 e)]
        simp
        omega
      · rw [if_neg e, if_neg (fun e2 => e (hs.1 e2))]
        simp
    · split
      · rename_i e
        have := hge i hi e
        omega
      · exact ⟨v2, v3⟩
  obtain ⟨h0, hI⟩ := line_good (xs := X ++ [(s[k].f0, -m)]) (fun t ht => by
    obtain ⟨i, hi, e⟩ := hval t ((hmem t).1 ht)
    rw [e])
  refine ⟨h0, ?_⟩
  unfold negS
  rw [List.any_eq_true]
  constructor
  · rintro ⟨x, hx, hx0⟩
    obtain ⟨j, hj, rfl⟩ := List.getElem_of_mem hx
    obtain ⟨a1, a2⟩ := hI.val j hj
    obtain ⟨i, hi, e⟩ := hval _ ((hmem _).1 a1)
    rw [e] at a2
    dsimp only at a2
    have hx1 := of_decide_eq_true hx0
    by_cases c : k ≤ i
    · rw [if_pos c] at a2
      exact .inr ⟨i, hi, c, by omega⟩
    · rw [if_neg c] at a2
      exact .inl ⟨i, hi, by omega, by omega⟩
  · intro hh
    have key : ∃ i, ∃ hi : i < s.length, (if k ≤ i then s[i].f1 - m else s[i].f1) < 0 := by
      rcases hh with ⟨i, hi, h1, h2⟩ | ⟨i, hi, h1, h2⟩
      · exact ⟨i, hi, by rw [if_neg (by omega)]; exact h2⟩
      · exact ⟨i, hi, by rw [if_pos h1]; omega⟩
    obtain ⟨i, hi, hlt⟩ := key
    have hmi : s[i].f0 ∈ timesL (X ++ [(s[k].f0, -m)]) := (hmem _).2 (((timesL_law X).2 _).2 (h.mem i hi))
    obtain ⟨j, hj, _, _, j3⟩ := hI.all _ hmi
    rw [hval2 i hi] at j3
    exact ⟨_, List.getElem_mem hj, decide_eq_true (by dsimp only at j3; omega)⟩

theorem backN_law (s : List Stp) (q : Int) : ∀ k, k ≤ s.length → ∀ i (hi : i < s.length), backN s q k ≤ i → i < k → q ≤ s[i].f1
  | 0, _, i, hi, _, h => by omega
  | k + 1, hk, i, hi, h1, h2 => by
    rw [backN] at h1
    have hg : (s.getD k z58) = s[k] := by rw [List.getD_eq_getElem?_getD, List.getElem?_eq_getElem (by omega)]; rfl
    rw [hg] at h1
    split at h1
    · rename_i e
      rcases Nat.lt_or_ge i k with e2 | e2
      · exact backN_law s q k (by omega) i hi h1 e2
      · obtain rfl : i = k := by omega
        exact e
    · omega
theorem early_law {s : List Stp} (hpos : 0 < s.length) (q : Int) :
    (earlyF s q = (0, 3) ∧ s[s.length - 1].f1 < q) ∨ ∃ k, ∃ hk : k < s.length, earlyF s q = (s[k].f0, 0) ∧ ∀ i (hi : i < s.length), k ≤ i → q ≤ s[i].f1 := by
  unfold earlyF
  by_cases e : backN s q s.length = s.length
  · rw [if_pos e]
    refine .inl ⟨rfl, ?_⟩
    obtain ⟨n, hn⟩ : ∃ n, s.length = n + 1 := ⟨s.length - 1, by omega⟩
    have hg : (s.getD n z58) = s[n] := by rw [List.getD_eq_getElem?_getD, List.getElem?_eq_getElem (by omega)]; rfl
    rw [hn, backN, hg] at e
    split at e
    · have := backN_le s q n
      omega
    · rename_i c
      simp only [show s.length - 1 = n by omega]
      omega
  · rw [if_neg e]
    have hle := backN_le s q s.length
    have hlt : backN s q s.length < s.length := by omega
    have hg : (s.getD (backN s q s.length) z58) = s[backN s q s.length] := by rw [List.getD_eq_getElem?_getD, List.getElem?_eq_getElem hlt]; rfl
    rw [hg]
    exact .inr ⟨_, hlt, rfl, fun i hi h1 => backN_law s q s.length (Nat.le_refl _) i hi h1 hi⟩

/-- The least of the steps from the k-th on that were seen. -/
def LeastI (s : List Stp) (k i : Nat) (L : Int) : Prop := (∃ j, ∃ hj : j < s.length, k ≤ j ∧ L = s[j].f1) ∧ ∀ j (hj : j < s.length), k ≤ j → j < i → L ≤ s[j].f1
/-- The least of 0 and the steps ahead of the k-th that were seen. -/
def AheadI (s : List Stp) (k i : Nat) (A : Int) : Prop := (A = 0 ∨ ∃ j, ∃ hj : j < s.length, j < k ∧ A = s[j].f1) ∧ A ≤ 0 ∧ ∀ j (hj : j < s.length), j < k → j < i → A ≤ s[j].f1
theorem min_if (x L : Int) : min L x = if x < L then x else L := by
  rw [Int.min_def]
  split <;> split <;> omega
theorem LeastI.start {s : List Stp} {k n : Nat} (hk : k < s.length) (hn : n + 1 = s.length) : LeastI s k 0 s[n].f1 := ⟨⟨n, by omega, by omega, rfl⟩, fun j hj _ h => by omega⟩
theorem LeastI.skip {s : List Stp} {k i : Nat} {L : Int} (h : LeastI s k i L) (hi : i < k) : LeastI s k (i + 1) L := ⟨h.1, fun j hj h1 h2 => by omega⟩
theorem LeastI.take {s : List Stp} {k i : Nat} {L x : Int} (h : LeastI s k i L) (hi : i < s.length) (hk : k ≤ i) (hx : s[i].f1 = x) : LeastI s k (i + 1) (min L x) := by
  rw [min_if]
  refine ⟨?_, fun j hj h1 h2 => ?_⟩
  · split
    · exact ⟨i, hi, hk, hx.symm⟩
    · exact h.1
  · rcases Nat.lt_or_ge j i with e | e
    · have := h.2 j hj h1 e
      split <;> omega
    · obtain rfl : j = i := by omega
      rw [hx]
      split <;> omega
theorem AheadI.start (s : List Stp) (k : Nat) : AheadI s k 0 0 := ⟨.inl rfl, Int.le_refl _, fun j hj _ h => by omega⟩
theorem AheadI.skip {s : List Stp} {k i : Nat} {L : Int} (h : AheadI s k i L) (hi : k ≤ i) : AheadI s k (i + 1) L := ⟨h.1, h.2.1, fun j hj h1 h2 => h.2.2 j hj h1 (by omega)⟩
theorem AheadI.take {s : List Stp} {k i : Nat} {L x : Int} (h : AheadI s k i L) (hi : i < s.length) (hk : i < k) (hx : s[i].f1 = x) : AheadI s k (i + 1) (min L x) := by
  rw [min_if]
  obtain ⟨a1, a2, a3⟩ := h
  refine ⟨?_, ?_, fun j hj h1 h2 => ?_⟩
  · split
    · exact .inr ⟨i, hi, hk, hx.symm⟩
    · exact a1
  · split <;> omega
  · rcases Nat.lt_or_ge j i with e | e
    · have := a3 j hj h1 e
      split <;> omega
    · obtain rfl : j = i := by omega
      rw [hx]
      split <;> omega
theorem keeps_end {s : List Stp} {k : Nat} {L A m : Int} (hL : LeastI s k s.length L) (hA : AheadI s k s.length A) {b : Bool} (hb : b = true ↔ (∃ i, ∃ hi : i < s.length, i < k ∧ s[i].f1 < 0) ∨ ∃ i, ∃ hi : i < s.length, k ≤ i ∧ s[i].f1 < m) (h0 : ¬ A < 0) : b = true ↔ L < m := by
  obtain ⟨⟨j, hj, j1, j2⟩, j3⟩ := hL
  obtain ⟨a1, a2, a3⟩ := hA
  rw [hb]
  constructor
  · rintro (⟨i, hi, h1, h2⟩ | ⟨i, hi, h1, h2⟩)
    · have := a3 i hi h1 hi; omega
    · have := j3 i hi h1 hi; omega
  · intro h
    exact .inr ⟨j, hj, j1, by omega⟩
end Go.Proofs.Ytofkhcgkahkagaa
/- A map from texts to truths that the call owns, told as a function. -/
namespace Go.Proofs.Ytofkhcgkahkagaa
open Go.Maps Go.WideElems Go.MapKept Go.RowKit Go.ChangeShapes

def sK (s : ByteArray) : Lit := .string s.data.toList
theorem sK_inj {s t : ByteArray} (h : sK s = sK t) : s = t := by
  cases s; cases t
  simp only [sK, Lit.string.injEq] at h
  rw [Array.toList_inj.1 h]
theorem str_law : Keyed Try.prog 9 := string_keyed Try.underlying9
theorem str_key {s : ByteArray} (h : s.size ≤ maxLen) : keyOf Try.prog 9 (.string s) = some (sK s) := by
  have hu := Try.underlying9
  simp [keyOf, hu, mapKey, sK, h]
theorem str_key_inv {v : Value} {kl : Lit} (h : keyOf Try.prog 9 v = some kl) : ∃ s : ByteArray, v = .string s ∧ kl = sK s ∧ s.size ≤ maxLen := by
  have hu := Try.underlying9
  cases v <;> simp [keyOf, hu, mapKey] at h
  rename_i s
  exact ⟨s, rfl, h.2.symm, h.1⟩
noncomputable abbrev boolE : Value → Option (DU × List MemPlace) := plainElem Try.prog 4
theorem boolE_mk (x : Bool) : boolE (.bool x) = some (.lit (.bool x), []) := plainElem_bool Try.underlying4 x
theorem plain_bool_inv {P : Program} {e : TypeId} (he : P.underlying e = some .bool) {v : Value} {z : DU × List MemPlace} (h : plainElem P e v = some z) : ∃ x, v = .bool x ∧ z = (.lit (.bool x), []) := by
  unfold plainElem at h
  rw [he] at h
  cases v <;> simp at h
  exact ⟨_, rfl, h.symm⟩
theorem boolE_inv {v : Value} {z : DU × List MemPlace} (h : boolE v = some z) : ∃ x, v = .bool x ∧ z = (.lit (.bool x), []) := plain_bool_inv Try.underlying4 h
theorem bool_zero (u : World) : (zeroValue 4).run Try.prog u = .ok (.bool false) u := by kernel_rfl

abbrev Fn := ByteArray → Option Bool
def setF (g : Fn) (s : ByteArray) (x : Bool) : Fn := fun t => if t = s then some x else g t
/-- The datum answers as the function. -/
def SD (D : DU) (g : Fn) : Prop := IsMap D ∧ ∀ s, s.size ≤ maxLen → has D (sK s) = (g s).isSome ∧ ∀ x, g s = some x → ∀ zd, D.atKey (sK s) zd = .lit (.bool x)
theorem SD.put {D : DU} {g : Fn} (h : SD D g) {s : ByteArray} (hs : s.size ≤ maxLen) (x : Bool) : SD (D.put (sK s) (.lit (.bool x))) (setF g s x) := by
  refine ⟨h.1.put _ _, fun t ht => ?_⟩
  unfold setF
  by_cases e : t = s
  · subst e
    rw [if_pos rfl, has_put_same h.1 (str_law.key (str_key ht))]
    refine ⟨rfl, fun y hy zd => ?_⟩
    rw [atKey_put_same h.1 (str_law.key (str_key ht))]
    rw [Option.some.inj hy]
  · have hne : sK t ≠ sK s := fun h => e (sK_inj h)
    rw [if_neg e, has_put_other hne]
    refine ⟨(h.2 t ht).1, fun y hy zd => ?_⟩
    rw [atKey_put_other hne]
    exact (h.2 t ht).2 y hy zd
theorem SD.empty : SD (.map []) (fun _ => none) := ⟨isMap_empty, fun _ _ => ⟨rfl, fun _ h => by cases h⟩⟩

/-- Block b is a map that answers as g. -/
def SM (w : World) (b n : Nat) (g : Fn) : Prop := ∃ D : DU, w.ownsMap Try.prog 9 boolE b n D ∧ SD D g
variable {w w' : World} {b n : Nat} {g : Fn} {s : ByteArray}
theorem SM.lt (h : SM w b n g) : b < w.heap.size := let ⟨_, h1, _⟩ := h; h1.lt
theorem SM.mono {m : Nat} (h : SM w b n g) (hm : n ≤ m) : SM w b m g := let ⟨D, h1, h2⟩ := h; ⟨D, h1.mono hm, h2⟩
theorem SM.kept {row : Option Nat} (h : SM w b n g) (hg : w.grownBy w' row) (hb : some b ≠ row) : SM w' b n g := let ⟨D, h1, h2⟩ := h; ⟨D, h1.kept hg hb, h2⟩
theorem SM.made {w : World} (hb : w.heap[b]? = some (.map #[] 0)) : SM w b 0 (fun _ => none) :=
  ⟨.map [], ⟨#[], 0, hb, ⟨by simp, stamped_empty 0, by simp⟩, Nat.le_refl _, rfl⟩, SD.empty⟩
theorem SM.block (h : SM w b n g) (hb : w'.heap[b]? = w.heap[b]?) : SM w' b n g := by
  obtain ⟨D, ⟨es, clock, h1, h2, h3, h4⟩, h5⟩ := h
  exact ⟨D, ⟨es, clock, hb.trans h1, h2, h3, h4⟩, h5⟩
theorem SM.look (h : SM w b n g) (hs : s.size ≤ maxLen) : ∃ x, (Instr.lookup 92 (.map (some b)) (.string s) true).run Try.prog w = .ok (.tuple #[.bool x, .bool (g s).isSome]) w := by
  obtain ⟨D, h1, h2⟩ := h
  obtain ⟨v, ps, hrun, hv⟩ := h1.look_ok str_law Try.underlying92 (bool_zero w) (boolE_mk false) (str_key hs)
  obtain ⟨x, rfl, _⟩ := boolE_inv hv
  exact ⟨x, by rw [hrun, (h2.2 s hs).1]⟩
theorem SM.update (h : SM w b n g) (hn : n < maxLen) (hs : s.size ≤ maxLen) (x : Bool) :
    ∃ w2, (Instr.mapUpdate 92 (.map (some b)) (.string s) (.bool x)).run Try.prog w = .ok () w2 ∧ SM w2 b (n + 1) (setF g s x) ∧ w.grownBy w2 (some b) := by
  obtain ⟨D, h1, h2⟩ := h
  obtain ⟨w2, r1, r2, r3⟩ := h1.update str_law Try.underlying92 hn (str_key hs) (boolE_mk x)
  exact ⟨w2, r1, ⟨_, r2, h2.put hs x⟩, r3⟩

/-! ### the range over it, that collects where it says true -/
/-- What was collected so far. -/
structure ColS (g : Fn) (left : Lit → Bool) (out : List ByteArray) : Prop where
  nodup : out.Nodup
  said : ∀ s ∈ out, g s = some true ∧ left (sK s) = false
  all : ∀ s, s.size ≤ maxLen → g s = some true → left (sK s) = true ∨ s ∈ out
def SR (w : World) (b r n : Nat) (g : Fn) (cnt : Nat) (out : List ByteArray) : Prop :=
  ∃ (D : DU) (left : Lit → Bool), w.ranges Try.prog 9 boolE b r n D left cnt ∧ SD D g ∧ ColS g left out ∧ out.length + cnt ≤ n ∧ ∀ s ∈ out, s.size ≤ maxLen
theorem SR.lt {r cnt : Nat} {out : List ByteArray} (h : SR w b r n g cnt out) : r < w.heap.size := let ⟨_, _, h1, _⟩ := h; h1.lt
theorem SR.kept {r cnt : Nat} {out : List ByteArray} {row : Option Nat} (h : SR w b r n g cnt out) (hg : w.grownBy w' row) (hb : some b ≠ row) (hr : some r ≠ row) : SR w' b r n g cnt out :=
  let ⟨D, left, h1, h2⟩ := h; ⟨D, left, h1.kept hg hb hr, h2⟩
theorem SR.ne_row {r cnt : Nat} {out : List ByteArray} (h : SR w b r n g cnt out) {base size m : Nat} {e : TypeId} {v : Value} {xs : List Value} (hv : w.ownsRow base e size v m xs) : some r ≠ v.ownBlock := by
  obtain ⟨_, _, ⟨_, _, _, _, _, _, _, _, _, hit, _⟩, _⟩ := h
  rcases hv.2 with ⟨rfl, _⟩ | ⟨g, cap, cur, rfl, _, hb, _⟩
  · simp [Value.ownBlock]
  · intro e1
    have : r = g := by simpa [Value.ownBlock] using e1
    subst this
    rw [hit] at hb
    cases hb
theorem SM.range (h : SM w b n g) : ∃ w2, (Instr.range 92 (.map (some b))).run Try.prog w = .ok (.pointer (some ⟨w.heap.size, 0, none⟩)) w2 ∧ (∃ cnt, SR w2 b w.heap.size n g cnt []) ∧ w.grownBy w2 none ∧ w2.heap.size = w.heap.size + 1 := by
  obtain ⟨D, h1, h2⟩ := h
  obtain ⟨w2, r1, r2, r3, r4⟩ := h1.range str_law Try.underlying92
  refine ⟨w2, r1, ⟨_, D, has D, r2, h2, ⟨List.nodup_nil, (fun s h => by cases h), (fun s hs hg => Or.inl ?_)⟩, by simpa using h1.size_le, (fun s h => by cases h)⟩, r3, r4⟩
  rw [(h2.2 s hs).1, hg]
  rfl
/-- A step: nothing is left, or a text comes; what is collected then. -/
theorem SR.next {r cnt : Nat} {out : List ByteArray} (h : SR w b r n g cnt out) (ty : TypeId) :
    (out.Nodup ∧ (∀ s, s.size ≤ maxLen → (g s = some true ↔ s ∈ out)) ∧ (Instr.next (.pointer (some ⟨r, 0, none⟩)) false ty).run Try.prog w = .ok (.tuple #[.bool false]) w) ∨
    ∃ s x w2 cnt', s.size ≤ maxLen ∧ (Instr.next (.pointer (some ⟨r, 0, none⟩)) false ty).run Try.prog w = .ok (.tuple #[.bool true, .string s, .bool x]) w2 ∧ SR w2 b r n g cnt' (if x = true then out ++ [s] else out) ∧ cnt' < cnt ∧
      w.grownBy w2 (some r) ∧ w2.heap.size = w.heap.size ∧ (Instr.entry (.pointer (some ⟨r, 0, none⟩))).run Try.prog w2 = .ok (.tuple #[.string s, .bool x]) w2 := by
  obtain ⟨D, left, h1, h2, h3, h4, h5⟩ := h
  rcases h1.next str_law ty with ⟨hc, hl, hrun⟩ | ⟨key, v, kl, y, w2, cnt', hkey, hlk, hv, hat, hrun, hrg, hlt, hgr, hsz, hen⟩
  · refine .inl ⟨h3.nodup, fun s hs => ⟨fun hg => ?_, fun hm => (h3.said s hm).1⟩, hrun⟩
    rcases h3.all s hs hg with h | h
    · rw [hl] at h; cases h
    · exact h
  · obtain ⟨s, rfl, rfl, hs⟩ := str_key_inv hkey
    obtain ⟨x, rfl, rfl⟩ := boolE_inv hv
    refine .inr ⟨s, x, w2, cnt', hs, hrun, ?_, hlt, hgr, hsz, hen⟩
    have hhas : has D (sK s) = true := has_true_of_atKey hat
    have hgs : g s = some x := by
      have h6 := (h2.2 s hs).1
      rw [hhas] at h6
      obtain ⟨x', hx'⟩ := Option.isSome_iff_exists.1 h6.symm
      have := (h2.2 s hs).2 x' hx' .nil
      rw [hat] at this
      cases this
      exact hx'
    have hnew : s ∉ out := fun hm => by have := (h3.said s hm).2; rw [hlk] at this; cases this
    have hkeep : ∀ t, left (sK t) = true → (left (sK t) && !(sK t).sameKey (sK s)) = true ∨ t = s := fun t ht => by
      by_cases e : t = s
      · exact .inr e
      · refine .inl ?_
        rw [ht]
        have : (sK t).sameKey (sK s) = false := by
          cases hk : (sK t).sameKey (sK s)
          · rfl
          · exact absurd (sK_inj (WideAt.sameKey_eq hk)) e
        rw [this]; rfl
    have hself : (left (sK s) && !(sK s).sameKey (sK s)) = false := by
      have : (sK s).sameKey (sK s) = true := by simp [sK, Lit.sameKey]
      rw [this]; simp
    cases x with
    | true =>
      rw [if_pos rfl]
      refine ⟨D, _, hrg, h2, ⟨List.nodup_append.2 ⟨h3.nodup, by simp, fun a ha c hc => by simp at hc; subst hc; exact fun e => hnew (e ▸ ha)⟩, fun t ht => ?_, fun t ht hg => ?_⟩, by rw [List.length_append, List.length_singleton]; omega, fun t ht => ?_⟩
      · rcases List.mem_append.1 ht with h | h
        · refine ⟨(h3.said t h).1, ?_⟩
          show (left (sK t) && _) = false
          rw [(h3.said t h).2]; rfl
        · obtain rfl : t = s := by simpa using h
          exact ⟨hgs, hself⟩
      · rcases h3.all t ht hg with h | h
        · rcases hkeep t h with h | rfl
          · exact .inl h
          · exact .inr (by simp)
        · exact .inr (by simp [h])
      · rcases List.mem_append.1 ht with h | h
        · exact h5 t h
        · obtain rfl : t = s := by simpa using h
          exact hs
    | false =>
      rw [if_neg (by decide)]
      refine ⟨D, _, hrg, h2, ⟨h3.nodup, fun t ht => ⟨(h3.said t ht).1, ?_⟩, fun t ht hg => ?_⟩, by omega, h5⟩
      · show (left (sK t) && _) = false
        rw [(h3.said t ht).2]; rfl
      · rcases h3.all t ht hg with h | h
        · rcases hkeep t h with h | rfl
          · exact .inl h
          · rw [hgs] at hg; cases hg
        · exact .inr h
end Go.Proofs.Ytofkhcgkahkagaa
/- promise.Short tells which skus would be short, over whatever answers for ledger.Check. -/
namespace Go.Proofs.Ytofkhcgkahkagaa
open Go.RowKit Go.Shelf Go.Proofs.YtofkhcgkahkagaaW.PrintWords Go.Proofs.YtofkhcgkahkagaaW.PrintLast Go.Proofs.YtofkhcgkahkagaaW.PrintMore Go.Proofs.Ytofkhcgkahkagaa.PPromiseLines
set_option linter.unusedVariables false
set_option linter.unusedSimpArgs false

theorem SR.left_eq {w : World} {b r n cnt : Nat} {g : Fn} {out : List ByteArray} (h : SR w b r n g cnt out) : w.rangeLeft b r = cnt := let ⟨_, _, h1, _⟩ := h; h1.left_eq
theorem SR.out_le {w : World} {b r n cnt : Nat} {g : Fn} {out : List ByteArray} (h : SR w b r n g cnt out) : out.length ≤ n := let ⟨_, _, _, _, _, h1, _⟩ := h; by omega
theorem SR.sizes {w : World} {b r n cnt : Nat} {g : Fn} {out : List ByteArray} (h : SR w b r n g cnt out) : ∀ s ∈ out, s.size ≤ maxLen := let ⟨_, _, _, _, _, _, h1⟩ := h; h1
theorem SR.ne_map {w : World} {b r n cnt : Nat} {g : Fn} {out : List ByteArray} (h : SR w b r n g cnt out) {base size m : Nat} {e : TypeId} {v : Value} {xs : List Value} (hv : w.ownsRow base e size v m xs) : some b ≠ v.ownBlock := by
  obtain ⟨_, _, ⟨_, _, _, _, _, hit, _⟩, _⟩ := h
  rcases hv.2 with ⟨rfl, _⟩ | ⟨g, cap, cur, rfl, _, hb, _⟩
  · simp [Value.ownBlock]
  · intro e1
    have : b = g := by simpa [Value.ownBlock] using e1
    subst this
    rw [hit] at hb
    cases hb
theorem info_str : (Try.prog.info? 9).map (fun i => (i.zero, i.size, i.bytes)) = some (some (.string ⟨#[]⟩), 1, 16) := by kernel_rfl
theorem SR.ne {w : World} {b r n cnt : Nat} {g : Fn} {out : List ByteArray} (h : SR w b r n g cnt out) : r ≠ b := let ⟨_, _, h1, _⟩ := h; h1.ne

abbrev LineFn := ByteArray → List S58 × Int
/-- What the map says behind some that are taken. -/
structure GI (F : LineFn) (pre : List S44) (g : Fn) : Prop where
  ok : ∀ r ∈ pre, (F r.f0).2 = 0
  said : ∀ s x, g s = some x ↔ (∃ r ∈ pre, r.f0 = s) ∧ x = negS (F s).1
theorem GI.old {F : LineFn} {pre : List S44} {g : Fn} (h : GI F pre g) {r : S44} (hr : (g r.f0).isSome = true) : GI F (pre ++ [r]) g := by
  obtain ⟨x, hx⟩ := Option.isSome_iff_exists.1 hr
  obtain ⟨⟨q, hq, e⟩, _⟩ := (h.said _ _).1 hx
  refine ⟨fun p hp => ?_, fun s y => ⟨fun hs => ?_, fun hs => ?_⟩⟩
  · rcases List.mem_append.1 hp with hp | hp
    · exact h.ok p hp
    · obtain rfl : p = r := by simpa using hp
      rw [← e]; exact h.ok q hq
  · obtain ⟨⟨p, hp, e2⟩, e3⟩ := (h.said s y).1 hs
    exact ⟨⟨p, by simp [hp], e2⟩, e3⟩
  · obtain ⟨⟨p, hp, e2⟩, e3⟩ := hs
    refine (h.said s y).2 ⟨?_, e3⟩
    rcases List.mem_append.1 hp with hp | hp
    · exact ⟨p, hp, e2⟩
    · obtain rfl : p = r := by simpa using hp
      exact ⟨q, hq, e.trans e2⟩
theorem GI.new {F : LineFn} {pre : List S44} {g : Fn} (h : GI F pre g) {r : S44} (hr : (g r.f0).isSome = false) (h0 : (F r.f0).2 = 0) : GI F (pre ++ [r]) (setF g r.f0 (negS (F r.f0).1)) := by
  refine ⟨fun p hp => ?_, fun s y => ?_⟩
  · rcases List.mem_append.1 hp with hp | hp
    · exact h.ok p hp
    · obtain rfl : p = r := by simpa using hp
      exact h0
  · unfold setF
    by_cases e : s = r.f0
    · rw [if_pos e, e]
      constructor
      · intro h1
        exact ⟨⟨r, by simp, rfl⟩, (Option.some.inj h1).symm⟩
      · rintro ⟨_, rfl⟩
        rfl
    · rw [if_neg e, h.said s y]
      constructor
      · rintro ⟨⟨p, hp, e2⟩, e3⟩
        exact ⟨⟨p, by simp [hp], e2⟩, e3⟩
      · rintro ⟨⟨p, hp, e2⟩, e3⟩
        refine ⟨?_, e3⟩
        rcases List.mem_append.1 hp with hp | hp
        · exact ⟨p, hp, e2⟩
        · obtain rfl : p = r := by simpa using hp
          exact absurd e2.symm e

/-- What Short answers, by the lines. -/
def ShortOut (F : LineFn) (l4 : List S44) (xs : List ByteArray) (er : Int) : Prop :=
  (∃ pre r post, l4 = pre ++ r :: post ∧ (∀ q ∈ pre, (F q.f0).2 = 0) ∧ (F r.f0).2 = er ∧ er ≠ 0 ∧ xs = []) ∨
  (er = 0 ∧ (∀ q ∈ l4, (F q.f0).2 = 0) ∧ xs.Pairwise (fun s t => toL s < toL t) ∧ ∀ s, s ∈ xs ↔ ∃ r ∈ l4, r.f0 = s ∧ negS (F s).1 = true)
theorem GI.done {F : LineFn} {l4 : List S44} {g : Fn} (h : GI F l4 g) {out : List ByteArray} (hn : out.Nodup) (ho : ∀ s, s ∈ out ↔ g s = some true) : ShortOut F l4 (sortS out) 0 := by
  refine .inr ⟨rfl, h.ok, sortS_up out hn, fun s => ?_⟩
  rw [sortS_mem, ho, h.said]
  constructor
  · rintro ⟨⟨r, hr, e⟩, e2⟩
    exact ⟨r, hr, e, e2.symm⟩
  · rintro ⟨r, hr, e, e2⟩
    exact ⟨⟨r, hr, e⟩, e2.symm⟩

/-- Between two that are taken. -/
structure ShI (F : LineFn) (l4 : List S44) (w : World) (B : Nat) (led : Array Value) (k : Nat) (V : World) : Prop where
  low : Below w.heap.size w V
  led : V.heap[w.heap.size]? = some (.cells led 41 (0, 0))
  base : w.heap.size < B
  map : ∃ g, SM V B k g ∧ GI F (l4.take k) g
theorem ShI.below {F : LineFn} {l4 : List S44} {w : World} {B : Nat} {led : Array Value} {k : Nat} {V V' : World} (h : ShI F l4 w B led k V) (hb : Below V.heap.size V V') : ShI F l4 w B led k V' := by
  obtain ⟨h1, h2, h3, g, h4, h5⟩ := h
  exact ⟨below_w h1 hb, (hb.block _ (blk_lt h2)).trans h2, h3, g, h4.block (hb.block _ h4.lt), h5⟩

def ShEnd (F : LineFn) (l4 : List S44) (good : Prop) (w : World) (e : Ending) (w' : World) : Prop :=
  ∃ A c xs er, e = .returned (.tuple #[.slice A xs.length c, .int .i64 er]) ∧ Kd.C Kd.string w' A xs.length xs ∧ Below w.heap.size w w' ∧ xs.length ≤ l4.length ∧ (good → ShortOut F l4 xs er) ∧ (¬ good → xs = [] ∧ er = 1)

set_option maxRecDepth 100000 in
set_option maxHeartbeats 1000000 in
theorem short_api (chk : List S100 → List S107 → List S111 → Int → Bool) (hchk : CheckLaw chk) (l0 : List S100) (l1 : List S107) (l2 : List S111) (A0 : Option Addr) (c0 : Nat) (A1 : Option Addr) (c1 : Nat) (A2 : Option Addr) (c2 : Nat) (ops : Int) (A3 : Option Addr) (c3 : Nat) (l3 : List S44) (A4 : Option Addr) (c4 : Nat) (l4 : List S44) (w : World)
    (hL : LedgerAt l0 l1 l2 A0 c0 A1 c1 A2 c2 w) (hf : FewL l0 l1 l2) (hC3 : Kd.C k44 w A3 l3.length l3) (hc3 : l3.length ≤ c3) (hl3 : l3.length ≤ 20) (hC4 : Kd.C k44 w A4 l4.length l4) (hc4 : l4.length ≤ c4) (hl4 : l4.length ≤ 20) (hr4 : ∀ r ∈ l4, RecG r) (h64 : ∀ sku, Ch64 (toldF l0 l1 l3 l4 sku)) :
    Calls Try.prog 27 #[.agg #[.slice A0 l0.length c0, .slice A1 l1.length c1, .slice A2 l2.length c2, .int .i64 ops], .slice A3 l3.length c3, .slice A4 l4.length c4] w
      (ShEnd (fun sku => lineF (toldF l0 l1 l3 l4 sku)) l4 (chk l0 l1 l2 ops = true ∧ mayB l3 = true ∧ mayB l4 = true) w) := by
  obtain ⟨F, hF⟩ : ∃ F : LineFn, (fun sku => lineF (toldF l0 l1 l3 l4 sku)) = F := ⟨_, rfl⟩
  have hFt : ∀ sku, lineF (toldF l0 l1 l3 l4 sku) = F sku := fun sku => by rw [← hF]
  rw [hF]
  have HF := Lib.hid hFt
  have H64 := Lib.hid h64
  clear hF hFt h64
  have hu := Try.underlying41
  have hur := Try.underlying44
  have hmm := @run_makeMap Try.prog
  have hcheck := fun w' (hb : Below w.heap.size w w') => hchk l0 l1 l2 A0 c0 A1 c1 A2 c2 ops w' (hL.below hb) hf
  have hbox := fun o => (Below.refl w.heap.size w).alloc (Nat.le_refl _) o
  obtain ⟨W0, hW0⟩ : ∃ W0, w.alloc (.cells #[.slice A0 l0.length c0, .slice A1 l1.length c1, .slice A2 l2.length c2, .int .i64 ops] 41) = W0 := ⟨_, rfl⟩
  have hB0 : Below w.heap.size w W0 := by rw [← hW0]; exact hbox _
  have hs0 : W0.heap.size = w.heap.size + 1 := by rw [← hW0]; simp
  have hb0 : W0.heap[w.heap.size]? = some (.cells #[.slice A0 l0.length c0, .slice A1 l1.length c1, .slice A2 l2.length c2, .int .i64 ops] 41 (0, 0)) := by rw [← hW0]; exact heap_alloc_new w _
  have hd0 : W0.cell? ⟨w.heap.size, 0, none⟩ = some (.slice A0 l0.length c0) := (blk_cell hb0 0).trans rfl
  have hd1 : W0.cell? ⟨w.heap.size, 1, none⟩ = some (.slice A1 l1.length c1) := (blk_cell hb0 1).trans rfl
  have hd2 : W0.cell? ⟨w.heap.size, 2, none⟩ = some (.slice A2 l2.length c2) := (blk_cell hb0 2).trans rfl
  have hd3 : W0.cell? ⟨w.heap.size, 3, none⟩ = some (.int .i64 ops) := (blk_cell hb0 3).trans rfl
  have Hs0 := Lib.hid hs0
  clear hs0 hbox
  go_enter Try.func27, Try.ntmps27
  go_wp2_with fail
  refine (hcheck _ hB0).mono ?_
  clear hW0 hcheck hd0 hd1 hd2 hd3
  rintro e w2 ⟨rfl, hb2⟩
  have hs0 := Hs0.out
  have hz2 := hb2.size
  cases hk : chk l0 l1 l2 ops with
  | false =>
    clear hs0
    rw [if_neg (by simp)]
    go_wp2
    go_ret2
    exact ⟨none, 0, [], 1, rfl, Kd.C_nil _ _, hB0.trans (hb2.mono hB0.size), Nat.zero_le _, fun h => absurd h.1 (by rw [hk]; decide), fun _ => ⟨rfl, rfl⟩⟩
  | true =>
    rw [if_pos rfl]
    have hBw := hB0.trans (hb2.mono hB0.size)
    have hmay := may_calls A3 c3 l3 w2 (Kd.C_below hC3 hBw) hc3
    go_wp2_with fail
    refine hmay.mono ?_
    clear hmay
    rintro e w3 ⟨rfl, hb3⟩
    have hB3 := hBw.trans (hb3.mono hBw.size)
    cases hm : mayB l3 with
    | false =>
      clear hs0
      go_wp2
      go_ret2
      exact ⟨none, 0, [], 1, rfl, Kd.C_nil _ _, hB3, Nat.zero_le _, fun h => absurd h.2.1 (by rw [hm]; decide), fun _ => ⟨rfl, rfl⟩⟩
    | true =>
      have hmay := may_calls A4 c4 l4 w3 (Kd.C_below hC4 hB3) hc4
      go_wp2_with fail
      refine hmay.mono ?_
      clear hmay
      rintro e w4 ⟨rfl, hb4⟩
      have hB4 := hB3.trans (hb4.mono hB3.size)
      cases hm4 : mayB l4 with
      | false =>
        clear hs0
        go_wp2
        go_ret2
        exact ⟨none, 0, [], 1, rfl, Kd.C_nil _ _, hB4, Nat.zero_le _, fun h => absurd h.2.2 (by rw [hm4]; decide), fun _ => ⟨rfl, rfl⟩⟩
      | true =>
        have hz3 := hb3.size
        have hz4 := hb4.size
        have hb4w := (hb4.block w.heap.size (by omega)).trans ((hb3.block w.heap.size (by omega)).trans ((hb2.block w.heap.size (by omega)).trans hb0))
        obtain ⟨W5, hW5⟩ : ∃ W5, w4.alloc (.map #[] 0) = W5 := ⟨_, rfl⟩
        have hI0 : ShI F l4 w w4.heap.size #[.slice A0 l0.length c0, .slice A1 l1.length c1, .slice A2 l2.length c2, .int .i64 ops] 0 W5 := by
          rw [← hW5]
          refine ⟨hB4.alloc hB4.size _, (Below.heap_alloc _ _ _ (blk_lt hb4w)).trans hb4w, by omega, _, SM.made (heap_alloc_new w4 _), ⟨fun r h => by simp at h, fun s x => by simp⟩⟩
        have hmax4 : l4.length ≤ 9223372036854775807 := by omega
        have hk1 := Lib.hid hk
        have hm1 := Lib.hid hm
        have hm41 := Lib.hid hm4
        clear hk hm hm4
        clear hb4w hb0 hs0 hz2 hz3 hz4 hb2 hb3 hb4 hB0 hBw hB3
        go_wp2
        clear hW5
        go_loopw [34] (fun i wr => ∃ k : Nat, k ≤ l4.length ∧ i = .int .i64 k ∧ ShI F l4 w w4.heap.size #[.slice A0 l0.length c0, .slice A1 l1.length c1, .slice A2 l2.length c2, .int .i64 ops] k wr)
          (fun i _ => l4.length - (intOf i).toNat)
        case atStart => exact ⟨0, Nat.zero_le _, rfl, hI0⟩
        case round =>
          obtain ⟨k, hk, rfl, hI⟩ := hrel
          clear hI0
          by_cases hlt : k < l4.length
          · have hd : decide ((k : Int) < (l4.length : Int)) = true := decide_eq_true (by omega)
            obtain ⟨ad, rfl, hx0, hx1, hx2⟩ := at_T44 hC4 k (by omega) (by omega)
            rw [Int.toNat_natCast] at hx0 hx1 hx2
            have hr : rd_T44 l4 k = l4[k] := by unfold rd_T44; rw [Int.toNat_natCast, List.getD_eq_getElem?_getD, List.getElem?_eq_getElem hlt]; rfl
            rw [hr] at hx0 hx1 hx2
            have hy0 := cell_below hI.low hx0
            have hy1 := cell_below hI.low hx1
            have hy2 := cell_below hI.low hx2
            have htk : l4.take (k + 1) = l4.take k ++ [l4[k]] := take_snoc hlt
            have hsplit : l4 = l4.take k ++ l4[k] :: l4.drop (k + 1) := by rw [List.getElem_cons_drop, List.take_append_drop]
            have hG := hr4 l4[k] (List.getElem_mem hlt)
            obtain ⟨r, hrr⟩ : ∃ r, l4[k] = r := ⟨_, rfl⟩
            rw [hrr] at hy0 hy1 hy2 htk hsplit hG
            have Htk := Lib.hid htk
            have Hsplit := Lib.hid hsplit
            clear hrr hr hx0 hx1 hx2 htk hsplit
            obtain ⟨W1, hW1⟩ : ∃ W1, wr.alloc (.cells #[.string r.f0, .int .i64 r.f1, .int .i64 r.f2] 44) = W1 := ⟨_, rfl⟩
            have HBlt := Lib.hid (show w4.heap.size < wr.heap.size from by obtain ⟨_, h, _⟩ := hI.map; exact h.lt)
            have hB1 : Below wr.heap.size wr W1 := by rw [← hW1]; exact (Below.refl _ _).alloc (Nat.le_refl _) _
            have hblk : W1.heap[wr.heap.size]? = some (.cells #[.string r.f0, .int .i64 r.f1, .int .i64 r.f2] 44 (0, 0)) := by rw [← hW1]; exact heap_alloc_new wr _
            have hz0 : W1.cell? ⟨wr.heap.size, 0, none⟩ = some (.string r.f0) := (blk_cell hblk 0).trans rfl
            obtain ⟨hlow, hled, hbase, g, hSM, hGI⟩ := hI.below hB1
            obtain ⟨vx, hlook⟩ := hSM.look hG.1
            cases hs : (g r.f0).isSome with
            | true =>
              rw [hs] at hlook
              have HI := Lib.hid (show ShI F l4 w w4.heap.size #[.slice A0 l0.length c0, .slice A1 l1.length c1, .slice A2 l2.length c2, .int .i64 ops] (k + 1) W1 from ⟨hlow, hled, hbase, g, hSM.mono (Nat.le_succ k), by rw [Htk.out]; exact hGI.old hs⟩)
              clear hlow hled hbase hSM hGI hs hI hB1
              go_wp2
              exact ⟨⟨k + 1, by omega, by simp, HI.out⟩, by simp [intOf]; omega⟩
            | false =>
              rw [hs] at hlook
              have hc0 : W1.cell? ⟨w.heap.size, 0, none⟩ = some (.slice A0 l0.length c0) := (blk_cell hled 0).trans rfl
              have hc1 : W1.cell? ⟨w.heap.size, 1, none⟩ = some (.slice A1 l1.length c1) := (blk_cell hled 1).trans rfl
              have hc2 : W1.cell? ⟨w.heap.size, 2, none⟩ = some (.slice A2 l2.length c2) := (blk_cell hled 2).trans rfl
              have hc3' : W1.cell? ⟨w.heap.size, 3, none⟩ = some (.int .i64 ops) := (blk_cell hled 3).trans rfl
              have hL1 := hL.below hlow
              have htold := told_calls A0 c0 l0 A1 c1 l1 A2 c2 l2.length ops A3 c3 l3 (some ad) c4 l4 r.f0 W1 hL1.r0 hL1.h0 hL1.r1 hL1.h1 (Kd.C_below hC3 hlow) hc3 (Kd.C_below hC4 hlow) hc4 (by have := hf.1; have := hf.2.1; omega)
              have htl := told_len (l0 := l0) (l1 := l1) (l3 := l3) (l4 := l4) (sku := r.f0)
              have hnX : (toldF l0 l1 l3 l4 r.f0).length ≤ 90000 := by have := hf.1; have := hf.2.1; omega
              have hFr := HF.out r.f0
              have h64 := H64.out r.f0
              obtain ⟨X, hX⟩ : ∃ X, toldF l0 l1 l3 l4 r.f0 = X := ⟨_, rfl⟩
              rw [hX] at htold hnX h64 hFr
              have HFr := Lib.hid hFr
              have HI := Lib.hid (And.intro hlow (And.intro hled (And.intro hbase (And.intro hSM (And.intro hGI hs)))))
              clear hX htl hL1 hFr hlow hled hbase hSM hGI hs hI hB1
              go_wp2_with fail
              refine htold.mono ?_
              clear htold
              rintro e w5 ⟨v, rfl, hR, hb5⟩
              obtain ⟨Av, cv, rfl⟩ := Kd.R_slice hR
              have hrd := Kd.R_reads' hR
              have hline := line_calls Av cv X hnX h64 w5 hrd.2.2 hrd.2.1
              unfold LineEnd at hline
              rw [HFr.out] at hline
              obtain ⟨ls, er, hfe⟩ : ∃ ls er, F r.f0 = (ls, er) := ⟨_, _, rfl⟩
              rw [hfe] at hline
              have Hfe := Lib.hid hfe
              clear hR hrd hfe
              go_wp2_with fail
              refine hline.mono ?_
              clear hline
              rintro e w6 ⟨A', c', rfl, hR6, hb6⟩
              have hb16 : Below W1.heap.size W1 w6 := below_chain hb5 hb6
              have hy := cell_below hb16 hz0
              have hrd6 := Kd.R_reads' hR6
              clear hb5 hb6 hR6
              by_cases he : er = 0
              · have heb : (er != 0) = false := by rw [he]; rfl
                have H0 := Lib.hid (show (F r.f0).2 = 0 from by rw [Hfe.out]; exact he)
                have HM := Lib.hid (show ∀ V, Below w6.heap.size w6 V → ∃ w7, (Instr.mapUpdate 92 (.map (some w4.heap.size)) (.string r.f0) (.bool (negS ls))).run Try.prog V = .ok () w7 ∧ ShI F l4 w w4.heap.size #[.slice A0 l0.length c0, .slice A1 l1.length c1, .slice A2 l2.length c2, .int .i64 ops] (k + 1) w7 ∧ w7.cell? ⟨wr.heap.size, 0, none⟩ = some (.string r.f0) from fun V hV => by
                  obtain ⟨hlow, hled, hbase, hSM, hGI, hs⟩ := HI.out
                  have hbV := below_chain hb16 hV
                  have hSV := hSM.block (hbV.block _ hSM.lt)
                  obtain ⟨w7, r1, r2, r3⟩ := hSV.update (by unfold maxLen; omega) hG.1 (negS ls)
                  have hlowV := below_w hlow hbV
                  have hyV := cell_below hV hy
                  refine ⟨w7, r1, ⟨hlowV.grown r3 hlowV.size (fun j hj => by cases hj; omega), (r3.block _ (Nat.lt_of_lt_of_le (blk_lt hled) hbV.size) (by simp; omega)).trans ((hbV.block _ (blk_lt hled)).trans hled), hbase, _, r2, ?_⟩, ?_⟩
                  rotate_left
                  · have hne : some wr.heap.size ≠ some w4.heap.size := by have := HBlt.out; simp; omega
                    have hbl := r3.block wr.heap.size (World.block_lt_of_cell? V _ hyV) hne
                    unfold World.cell? at hyV ⊢
                    rw [hbl]
                    exact hyV
                  rw [Htk.out, show negS ls = negS (F r.f0).1 from by rw [Hfe.out]]
                  exact hGI.new hs H0.out)
                have Hcon := Lib.hid (show ∀ V, Below w6.heap.size w6 V → _ from fun V hV => con_neg A' c' ls V (Kd.C_below hrd6.2.2 hV) hrd6.2.1)
                clear he hrd6 hb16 hz0 hc0 hc1 hc2 hc3' hy0 hy1 hy2
                go_wp2
                go_region_held3 (fun V => V.cell? ⟨wr.heap.size, 0, none⟩ = some (.string r.f0))
                  (first | assumption | exact cell_below (below_drew (Below.refl _ _)) hy | exact cell_below hbw hy | exact hy7)
                  (first | (go_at_call 48; refine (Hcon.out _ (below_drew (Below.refl _ _))).mono ?_; rintro e w' ⟨rfl, hbn⟩; have hbw : Below w6.heap.size w6 w' := below_chain (below_drew (Below.refl _ _)) hbn; obtain ⟨w7, r1, hI7, hy7⟩ := HM.out _ hbw))
                go_wp2
                exact ⟨⟨k + 1, by omega, by simp, hI7⟩, by simp [intOf]; omega⟩
              · have heb : (er != 0) = true := by simpa using he
                have He := Lib.hid he
                clear he hrd6 hz0 hc0 hc1 hc2 hc3' hy0 hy1 hy2 hy
                go_wp2
                go_ret2
                obtain ⟨hlow, hled, hbase, hSM, hGI, hs⟩ := HI.out
                exact ⟨none, 0, [], er, rfl, Kd.C_nil _ _, below_w hlow hb16, Nat.zero_le _, fun _ => .inl ⟨_, _, _, Hsplit.out, hGI.ok, by rw [Hfe.out], He.out, rfl⟩, fun h => absurd ⟨hk1.out, hm1.out, hm41.out⟩ h⟩
          · obtain rfl : k = l4.length := by omega
            have hd : decide ((l4.length : Int) < (l4.length : Int)) = false := decide_eq_false (by omega)
            obtain ⟨hlow, hled, hbase, g, hSM, hGI⟩ := hI
            rw [List.take_length] at hGI
            obtain ⟨w5, hrange, ⟨cnt, hSR⟩, hg5, hs5⟩ := hSM.range
            obtain ⟨rb, hrb⟩ : ∃ rb, wr.heap.size = rb := ⟨_, rfl⟩
            have hlow5 : Below w.heap.size w w5 := hlow.grown hg5 hlow.size (fun j hj => by cases hj)
            have HGI := Lib.hid hGI
            rw [hrb] at hSR hrange
            have Hrb := Lib.hid (show w.heap.size ≤ rb from by rw [← hrb]; exact hlow.size)
            clear hlow hled hSM hGI hg5 hs5 hrb
            go_wp2
            go_loopw [15] (fun v V => ∃ cnt out, SR V w4.heap.size rb l4.length g cnt out ∧ Kd.R Kd.string 9 V w.heap.size (fun j => j ≠ rb) v out ∧ Below w.heap.size w V)
              (fun _ V => V.rangeLeft w4.heap.size rb)
            case atStart => exact ⟨cnt, [], hSR, Kd.R_nil _ _ _ _ _, hlow5⟩
            case round =>
              obtain ⟨cnt1, out, hSR1, hR1, hlow1⟩ := hrel
              clear hSR hlow5
              rcases hSR1.next 0 with ⟨hnd, hmem, hnx⟩ | ⟨s, x, w6, cnt2, hs, hnx, hSR2, hclt, hg6, hs6, hent⟩
              · have hsort := sort_strs wr w.heap.size _ _ out hR1 (by have := hSR1.out_le; omega)
                have hol := hSR1.out_le
                obtain ⟨Ao, co, rfl⟩ := Kd.R_slice hR1
                have hfin := Lib.hid (And.intro hnd (And.intro hmem (And.intro hol hlow1)))
                have HSR := Lib.hid (And.intro hSR1 hR1)
                clear hSR1 hR1 hnd hmem hol hlow1
                go_wp2_with fail
                refine hsort.mono ?_
                clear hsort
                rintro e w7 ⟨rfl, hg7, hR7⟩
                have hbl := Kd.R_own HSR.out.2
                have hlow7 : Below w.heap.size w w7 := hfin.out.2.2.2.grown hg7 hfin.out.2.2.2.size (fun j hj => by obtain ⟨inner, ho⟩ := hbl; exact (ho.lt j hj).1)
                have hrd7 := Kd.R_reads' hR7
                rw [sortS_len] at hrd7
                have Hrd := Lib.hid hrd7
                clear hg7 hR7 hbl hrd7
                go_wp2
                go_ret2
                have hb : ∀ s, s ∈ out ∨ g s = some true → s.size ≤ maxLen := fun s h => by
                  rcases h with h | h
                  · exact HSR.out.1.sizes s h
                  · obtain ⟨⟨r, hr, rfl⟩, _⟩ := (HGI.out.said s true).1 h
                    exact (hr4 r hr).1
                refine ⟨Ao, co, sortS out, 0, by rw [sortS_len]; rfl, by rw [sortS_len]; exact Hrd.out.2.2, hlow7, by rw [sortS_len]; exact hfin.out.2.2.1, fun _ => HGI.out.done hfin.out.1 (fun s => ?_), fun h => absurd ⟨hk1.out, hm1.out, hm41.out⟩ h⟩
                constructor
                · intro h
                  exact (hfin.out.2.1 s (hb s (.inl h))).2 h
                · intro h
                  exact (hfin.out.2.1 s (hb s (.inr h))).1 h
              · have hol := hSR2.out_le
                have hne6 : some rb ≠ some w4.heap.size := by have := hSR1.ne; simpa using this
                have hlow6 : Below w.heap.size w w6 := hlow1.grown hg6 hlow1.size (fun j hj => by cases hj; exact Hrb.out)
                have hR6 : Kd.R Kd.string 9 w6 w.heap.size (fun j => j ≠ rb) _ out := Kd.R_grown hR1 hg6 (fun j hj => by simpa using hj)
                cases x with
                | true =>
                  have hR6' := hR6
                  obtain ⟨Ao, co, rfl⟩ := Kd.R_slice hR6'
                  rw [if_pos rfl] at hSR2
                  rw [if_pos rfl, List.length_append, List.length_singleton] at hol
                  obtain ⟨A8, c8, w8, hrun, hR8, hg8⟩ := append_made Kd.string (P := Try.prog) w.heap.size 59 59 9 (.string ⟨#[]⟩) 16 Try.underlying59 info_str rfl (by decide) (by decide) w6 _ out s [.string s] (fun j => j ≠ rb) (fun _ => False)
                    rfl (fun j hj => hj.elim) (fun j hj => by have := hSR2.lt; omega) hR6 hlow6.size (by omega)
                  have ho6 := own_strs hR6
                  have hne7 : some rb ≠ (Value.slice Ao out.length co).ownBlock := hSR2.ne_row ho6
                  have hne8 : some w4.heap.size ≠ (Value.slice Ao out.length co).ownBlock := hSR2.ne_map ho6
                  have hSR8 := hSR2.kept hg8 hne8 hne7
                  have hlow8 : Below w.heap.size w w8 := hlow6.grown hg8 hlow6.size (fun j hj => (ho6.lt j hj).1)
                  have HF8 := Lib.hid (And.intro hSR8 (And.intro hR8 hlow8))
                  have HM := Lib.hid (show w8.rangeLeft w4.heap.size rb < wr.rangeLeft w4.heap.size rb from by rw [hSR8.left_eq, hSR1.left_eq]; exact hclt)
                  clear hSR8 hR8 hlow8 hSR2 hR6 hR6' hlow6 hol hg8 hne7 hne8 ho6 hg6 hs6 hSR1 hR1 hlow1 hclt hne6
                  go_wp2_with (at_builtin; refine wpList_append_run rfl _ _ _ rfl hrun ?_)
                  exact ⟨⟨_, _, HF8.out.1, by have h8 := HF8.out.2.1; rw [List.length_append, List.length_singleton] at h8; exact h8, HF8.out.2.2⟩, HM.out⟩
                | false =>
                  rw [if_neg (by decide)] at hSR2
                  have HF8 := Lib.hid (And.intro hSR2 (And.intro hR6 hlow6))
                  have HM := Lib.hid (show w6.rangeLeft w4.heap.size rb < wr.rangeLeft w4.heap.size rb from by rw [hSR2.left_eq, hSR1.left_eq]; exact hclt)
                  clear hSR2 hR6 hlow6 hol hg6 hs6 hSR1 hR1 hlow1 hclt hne6
                  go_wp2
                  exact ⟨⟨_, _, HF8.out.1, HF8.out.2.1, HF8.out.2.2⟩, HM.out⟩
end Go.Proofs.Ytofkhcgkahkagaa
/- The line with what is taken: the program's and the reference's are one. -/
namespace Go.Proofs.Ytofkhcgkahkagaa
open Go.RowKit Go.Proofs.YtofkhcgkahkagaaW.PrintWords Go.Proofs.YtofkhcgkahkagaaW.PrintLast Go.Proofs.YtofkhcgkahkagaaW.PrintMore Go.Proofs.Ytofkhcgkahkagaa.PPromiseLines
set_option linter.unusedVariables false
set_option linter.unusedSimpArgs false

section
variable {l0 : List S100} {l1 : List S107} {l2 : List S111} {l3 l4 : List S44}
theorem told_timesT (hg : Good l0 l1 l3) (sku : ByteArray) : ∀ c ∈ (toldF l0 l1 l3 l4 sku).map (fun x => x.1), c ∈ allT l1 l3 l4 := by
  intro c hc
  obtain ⟨x, hx, rfl⟩ := List.mem_map.1 hc
  unfold toldF at hx
  unfold allT
  simp only [List.mem_append] at hx ⊢
  rcases hx with ((hx | hx) | hx) | hx
  · unfold chStocks at hx
    obtain ⟨s, _, rfl⟩ := List.mem_map.1 hx
    exact .inl (.inl (.inl (by simp)))
  · unfold chHolds at hx
    obtain ⟨h, hh, hx⟩ := List.mem_flatMap.1 hx
    unfold chHold at hx
    split at hx
    · rcases List.mem_cons.1 hx with rfl | hx
      · exact .inl (.inl (.inl (by simp)))
      · split at hx
        · rename_i h5
          rw [List.mem_singleton.1 hx]
          refine .inr ?_
          unfold hoT
          exact List.mem_map.2 ⟨h, List.mem_filter.2 ⟨hh, by simp [h5.1, h5.2]⟩, rfl⟩
        · cases hx
    · cases hx
  · unfold chComing at hx
    obtain ⟨r, hr, rfl⟩ := List.mem_map.1 hx
    exact .inl (.inl (.inr (List.mem_map.2 ⟨r, (List.mem_filter.1 hr).1, rfl⟩)))
  · unfold chTaken at hx
    obtain ⟨r, hr, rfl⟩ := List.mem_map.1 hx
    exact .inl (.inr (List.mem_map.2 ⟨r, (List.mem_filter.1 hr).1, rfl⟩))
theorem told_64T (hF : FewL l0 l1 l2) (hr : ∀ r ∈ l3, RecG r) (sku : ByteArray) : Ch64 (toldF l0 l1 l3 l4 sku) := by
  intro x hx
  unfold toldF at hx
  simp only [List.mem_append] at hx
  rcases hx with ((hx | hx) | hx) | hx
  · unfold chStocks at hx
    obtain ⟨s, hs, rfl⟩ := List.mem_map.1 hx
    exact (hF.2.2.2.1 s (List.mem_filter.1 hs).1).2.2.1
  · unfold chHolds at hx
    obtain ⟨h, hh, hx⟩ := List.mem_flatMap.1 hx
    unfold chHold at hx
    split at hx
    · rcases List.mem_cons.1 hx with rfl | hx
      · exact by show -9223372036854775808 ≤ wrap64 (-h.f3) ∧ wrap64 (-h.f3) ≤ 9223372036854775807; unfold wrap64; omega
      · split at hx
        · rw [List.mem_singleton.1 hx]
          exact (hF.2.2.2.2.1 h hh).2.2.2.1
        · cases hx
    · cases hx
  · unfold chComing at hx
    obtain ⟨r, hh, rfl⟩ := List.mem_map.1 hx
    exact (hr r (List.mem_filter.1 hh).1).2.1
  · unfold chTaken at hx
    obtain ⟨r, hh, rfl⟩ := List.mem_map.1 hx
    exact by show -9223372036854775808 ≤ wrap64 (-r.f1) ∧ wrap64 (-r.f1) ≤ 9223372036854775807; unfold wrap64; omega
end
end Go.Proofs.Ytofkhcgkahkagaa
/- Contracts of the reference's functions, printed by print.sh for PromiseLines, cut by a program to those that the claim uses. -/
namespace Go.Proofs.Ytofkhcgkahkagaa.PPromiseLines
open Go.RowKit Go.Proofs.YtofkhcgkahkagaaW.PrintWords Go.Proofs.YtofkhcgkahkagaaW.PrintLast Go.Proofs.YtofkhcgkahkagaaW.PrintMore
attribute [local go_sem] max2_int min2_int max_two min_two max_three min_three max_four min_four   -- for this text's walks alone
set_option linter.unusedVariables false
set_option linter.unusedSimpArgs false

theorem eqA58 (d : Nat) (w : World) (x0 y0 : Int) (x1 y1 : Int) :
    (Op.equalIn (d + 2) 58 (.agg #[.int .i64 x0, .int .i64 x1]) (.agg #[.int .i64 y0, .int .i64 y1])).run Try.prog w = .ok (x0 == y0 && (x1 == y1)) w := by
  refine eqA_of Try.underlying58 (by kernel_rfl) ?_
  refine eqf_cons (by rfl) (by go_simp; rfl) (by go_simp; rfl) (by go_simp) ?_
  exact eqf_last (by rfl) (by go_simp; rfl) (by go_simp; rfl) (by go_simp)
end Go.Proofs.Ytofkhcgkahkagaa.PPromiseLines
