/- The reference's times: a list, each number once, rising. -/
import Derived.Test.YtofkhcgkahkagaaGreatRLed
import Derived.Test.YtofkhcgkahkagaaGreatQ19
namespace Go.Proofs.YtofkhcgkahkagaaGreat
open Go.RowKit Go.Proofs.YtofkhcgkahkagaaGreatW.PrintWords Go.Proofs.YtofkhcgkahkagaaGreatW.PrintLast Go.Proofs.YtofkhcgkahkagaaGreatW.PrintMore Go.Proofs.YtofkhcgkahkagaaGreat.PPromiseShort
set_option linter.unusedVariables false
set_option linter.unusedSimpArgs false

/-- A number goes where it belongs, once. -/
def insU : List Int → Int → List Int
  | [], x => [x]
  | y :: r, x => if y < x then y :: insU r x else if y = x then y :: r else x :: y :: r
theorem insU_len : ∀ (l : List Int) (x : Int), (insU l x).length ≤ l.length + 1
  | [], x => by simp [insU]
  | y :: r, x => by
    unfold insU
    split
    · have := insU_len r x; simp only [List.length_cons]; omega
    · split <;> simp only [List.length_cons] <;> omega
theorem insU_split (x : Int) : ∀ (p r : List Int), (∀ y ∈ p, y < x) → insU (p ++ r) x = p ++ insU r x
  | [], r, _ => rfl
  | y :: p, r, h => by
    rw [List.cons_append, insU, if_pos (h y (by simp)), insU_split x p r (fun z hz => h z (by simp [hz]))]
    rfl
theorem take_lt {out : List Int} {j : Nat} {x : Int} (h : ∀ i (hi : i < out.length), i < j → out[i] < x) : ∀ y ∈ out.take j, y < x := fun y hy => by
  obtain ⟨i, hi, rfl⟩ := List.getElem_of_mem hy
  rw [List.length_take] at hi
  rw [List.getElem_take]
  exact h i (by omega) (by omega)
theorem rd_L {l : List Int} {i : Nat} (h : i < l.length) : rd l (i : Int) = l[i] := by unfold rd; rw [Int.toNat_natCast, List.getD_eq_getElem?_getD, List.getElem?_eq_getElem h]; rfl

theorem times_l4 (all out : List Int) (i : Nat) (hi : i < all.length) (hn : all.length ≤ 10000) (ho : out.length ≤ 10000) : ∀ d k j : Nat, j + d = out.length → d < k → (∀ q (hq : q < out.length), q < j → out[q] < all[i]) →
    ∃ k', k ≤ k' + d + 1 ∧ k' ≤ k ∧ quaysideref33_times.l4 k all out (i : Int) (j : Int) = quaysideref33_times.l3 k' all (insU out all[i]) ((i + 1 : Nat) : Int) := by
  intro d
  induction d with
  | zero =>
    intro k j h1 h2 hlt
    obtain ⟨k, rfl⟩ : ∃ m, k = m + 1 := ⟨k - 1, by omega⟩
    refine ⟨k, by omega, by omega, ?_⟩
    have hsp := insU_split all[i] (out.take j) (out.drop j) (take_lt hlt)
    rw [List.take_append_drop] at hsp
    rw [quaysideref33_times.l4, if_neg (by omega), if_pos (by omega), if_pos (by omega), wrap_next hi (by omega), rd_L hi, Int.toNat_natCast, Option.bind_some, if_pos (by simp [List.length_take]; omega), Option.bind_some, if_pos (by omega), if_pos (by omega), if_pos (by simp [List.length_take]; omega), Option.bind_some, Option.bind_some, if_pos (by simp [List.length_take]; omega)]
    rw [hsp, List.drop_of_length_le (by omega)]
    simp [insU]
  | succ d ih =>
    intro k j h1 h2 hlt
    obtain ⟨k, rfl⟩ : ∃ m, k = m + 1 := ⟨k - 1, by omega⟩
    have hj : j < out.length := by omega
    have hsp := insU_split all[i] (out.take j) (out.drop j) (take_lt hlt)
    rw [List.take_append_drop, List.drop_eq_getElem_cons hj] at hsp
    rw [quaysideref33_times.l4, if_pos (by omega), if_pos (by omega), if_pos (by omega), if_pos (by omega), rd_L hj, rd_L hi, wrap_next hi (by omega), wrap_next hj (by omega)]
    by_cases c1 : out[j] < all[i]
    · rw [if_pos c1]
      obtain ⟨k', h3, h4, h5⟩ := ih k (j + 1) (by omega) (by omega) (fun q hq hqj => by
        rcases Nat.lt_or_ge q j with h6 | h6
        · exact hlt q hq h6
        · obtain rfl : q = j := by omega
          exact c1)
      exact ⟨k', by omega, by omega, h5⟩
    · rw [if_neg c1]
      by_cases c2 : out[j] = all[i]
      · rw [if_pos c2]
        refine ⟨k, by omega, by omega, ?_⟩
        rw [hsp, insU, if_neg c1, if_pos c2, ← List.drop_eq_getElem_cons hj, List.take_append_drop]
      · rw [if_neg c2, if_pos (by omega), Int.toNat_natCast, Option.bind_some, if_pos (by simp [List.length_take]; omega), Option.bind_some, if_pos (by simp [List.length_take]; omega), Option.bind_some, Option.bind_some, if_pos (by simp [List.length_take]; omega)]
        refine ⟨k, by omega, by omega, ?_⟩
        rw [hsp, insU, if_neg c1, if_neg c2, ← List.drop_eq_getElem_cons hj]
        simp

theorem times_l3 (all : List Int) (hn : all.length ≤ 1000) : ∀ d k i : Nat, ∀ out : List Int, i + d = all.length → out.length ≤ i → d * (all.length + 3) + 1 ≤ k → quaysideref33_times.l3 k all out (i : Int) = some ((all.drop i).foldl insU out) := by
  intro d
  induction d with
  | zero =>
    intro k i out h1 h2 h3
    obtain ⟨k, rfl⟩ : ∃ m, k = m + 1 := ⟨k - 1, by omega⟩
    rw [quaysideref33_times.l3, if_neg (by omega), List.drop_of_length_le (by omega)]
    rfl
  | succ d ih =>
    intro k i out h1 h2 h3
    obtain ⟨k, rfl⟩ : ∃ m, k = m + 1 := ⟨k - 1, by omega⟩
    have hi : i < all.length := by omega
    have hmul : (d + 1) * (all.length + 3) = d * (all.length + 3) + (all.length + 3) := Nat.succ_mul _ _
    rw [quaysideref33_times.l3, if_pos (by omega)]
    obtain ⟨k', h4, h5, h6⟩ := times_l4 all out i hi (by omega) (by omega) out.length k 0 (by omega) (by omega) (fun q _ hq => absurd hq (Nat.not_lt_zero _))
    have h7 : quaysideref33_times.l4 k all out (i : Int) 0 = _ := h6
    rw [h7, ih k' (i + 1) (insU out all[i]) (by omega) (by have := insU_len out all[i]; omega) (by omega), List.drop_eq_getElem_cons hi]
    rfl

theorem fm_snoc {α β : Type} (f : α → Bool) (g : α → β) (l : List α) (x : α) : ((l ++ [x]).filter f).map g = (l.filter f).map g ++ (if f x = true then [g x] else []) := by
  rw [List.filter_append, List.map_append]
  by_cases h : f x = true
  · rw [if_pos h, List.filter_cons_of_pos h]; rfl
  · rw [if_neg h, List.filter_cons_of_neg h]; rfl
/-- All times at which something may change. -/
def hoT (l1 : List S172) : List Int := (l1.filter (fun h => decide (0 < h.f5) && decide (h.f5 < 9223372036854775807))).map (fun h => wrap64 (h.f5 + 1))
def allT (l1 : List S172) (l3 l4 : List S103) : List Int := [0] ++ l3.map (fun r => r.f2) ++ l4.map (fun r => r.f2) ++ hoT l1
theorem rd_R {l : List S103} {i : Nat} (h : i < l.length) : rd_T103 l (i : Int) = l[i] := by unfold rd_T103; rw [Int.toNat_natCast, List.getD_eq_getElem?_getD, List.getElem?_eq_getElem h]; rfl

section
variable (l0 : List S165) (l1 : List S172) (l2 : List S176) (ops : Int)
theorem times_l2 (xs : List Int) (K : Nat) (hK : ∀ ys : List Int, ys.length ≤ xs.length + l1.length → ∀ k, K ≤ k → quaysideref33_times.l3 k ys [] 0 = some (ys.foldl insU [])) (hx : xs.length ≤ 1000) (hn : l1.length ≤ 1000) : ∀ d k i : Nat, i + d = l1.length → K + d < k →
    quaysideref33_times.l2 k (xs ++ hoT (l1.take i)) (i : Int) l0 l1 l2 ops = some ((xs ++ hoT l1).foldl insU []) := by
  have hlen : ∀ l : List S172, (hoT l).length ≤ l.length := fun l => by unfold hoT; rw [List.length_map]; exact List.length_filter_le _ _
  intro d
  induction d with
  | zero =>
    intro k i h1 h2
    obtain ⟨k, rfl⟩ : ∃ m, k = m + 1 := ⟨k - 1, by omega⟩
    have := hlen l1
    rw [quaysideref33_times.l2, if_neg (by omega), List.take_of_length_le (by omega), hK _ (by rw [List.length_append]; omega) k (by omega)]
  | succ d ih =>
    intro k i h1 h2
    obtain ⟨k, rfl⟩ : ∃ m, k = m + 1 := ⟨k - 1, by omega⟩
    have hi : i < l1.length := by omega
    have hI := ih k (i + 1) (by omega) (by omega)
    have := hlen (l1.take i)
    have := List.length_take_le' i l1
    have hsn : ∀ h : S172, hoT (l1.take i ++ [h]) = hoT (l1.take i) ++ (if (decide (0 < h.f5) && decide (h.f5 < 9223372036854775807)) = true then [wrap64 (h.f5 + 1)] else []) := fun h =>
      fm_snoc (fun h : S172 => decide (0 < h.f5) && decide (h.f5 < 9223372036854775807)) (fun h => wrap64 (h.f5 + 1)) (l1.take i) h
    rw [take_snoc hi, hsn] at hI
    rw [quaysideref33_times.l2, if_pos (by omega), if_pos (by omega), rd_H hi, wrap_next hi (by omega)]
    by_cases c1 : l1[i].f5 > 0
    · rw [if_pos c1]
      by_cases c2 : l1[i].f5 < 9223372036854775807
      · rw [if_pos c2, if_pos (by rw [List.length_append]; omega)]
        rw [if_pos (by simp [c2]; omega), ← List.append_assoc] at hI
        exact hI
      · rw [if_neg c2]
        rw [if_neg (by simp [c2]), List.append_nil] at hI
        exact hI
    · rw [if_neg c1]
      rw [if_neg (by simp; omega), List.append_nil] at hI
      exact hI

theorem times_l1 (l4 : List S103) (xs : List Int) (K : Nat) (hK : ∀ ys : List Int, ys.length ≤ xs.length + l4.length → ∀ k, K ≤ k → quaysideref33_times.l2 k ys 0 l0 l1 l2 ops = some ((ys ++ hoT l1).foldl insU [])) (hx : xs.length ≤ 1000) (hn : l4.length ≤ 1000) : ∀ d k i : Nat, i + d = l4.length → K + d < k →
    quaysideref33_times.l1 k l4 (xs ++ (l4.take i).map (fun r => r.f2)) (i : Int) l0 l1 l2 ops = some ((xs ++ l4.map (fun r => r.f2) ++ hoT l1).foldl insU []) := by
  intro d
  induction d with
  | zero =>
    intro k i h1 h2
    obtain ⟨k, rfl⟩ : ∃ m, k = m + 1 := ⟨k - 1, by omega⟩
    rw [quaysideref33_times.l1, if_neg (by omega), List.take_of_length_le (by omega), hK _ (by rw [List.length_append, List.length_map]; omega) k (by omega)]
  | succ d ih =>
    intro k i h1 h2
    obtain ⟨k, rfl⟩ : ∃ m, k = m + 1 := ⟨k - 1, by omega⟩
    have hi : i < l4.length := by omega
    have hI := ih k (i + 1) (by omega) (by omega)
    have := List.length_take_le' i l4
    rw [take_snoc hi, List.map_append, ← List.append_assoc] at hI
    rw [quaysideref33_times.l1, if_pos (by omega), if_pos (by omega), rd_R hi, wrap_next hi (by omega), if_pos (by rw [List.length_append, List.length_map]; omega)]
    exact hI

theorem times_l0 (l3 l4 : List S103) (K : Nat) (hK : ∀ ys : List Int, ys.length ≤ 1 + l3.length → ∀ k, K ≤ k → quaysideref33_times.l1 k l4 ys 0 l0 l1 l2 ops = some ((ys ++ l4.map (fun r => r.f2) ++ hoT l1).foldl insU [])) (hn : l3.length ≤ 1000) : ∀ d k i : Nat, i + d = l3.length → K + d < k →
    quaysideref33_times.l0 k l3 l4 ([0] ++ (l3.take i).map (fun r => r.f2)) (i : Int) l0 l1 l2 ops = some ((allT l1 l3 l4).foldl insU []) := by
  intro d
  induction d with
  | zero =>
    intro k i h1 h2
    obtain ⟨k, rfl⟩ : ∃ m, k = m + 1 := ⟨k - 1, by omega⟩
    rw [quaysideref33_times.l0, if_neg (by omega), List.take_of_length_le (by omega), hK _ (by rw [List.length_append, List.length_map]; simp) k (by omega)]
    rfl
  | succ d ih =>
    intro k i h1 h2
    obtain ⟨k, rfl⟩ : ∃ m, k = m + 1 := ⟨k - 1, by omega⟩
    have hi : i < l3.length := by omega
    have hI := ih k (i + 1) (by omega) (by omega)
    have := List.length_take_le' i l3
    rw [take_snoc hi, List.map_append, ← List.append_assoc] at hI
    rw [quaysideref33_times.l0, if_pos (by omega), if_pos (by omega), rd_R hi, wrap_next hi (by omega), if_pos (by simp only [List.length_append, List.length_map, List.length_singleton]; omega)]
    exact hI

/-- The reference's times. -/
def timesR (l1 : List S172) (l3 l4 : List S103) : List Int := (allT l1 l3 l4).foldl insU []
theorem times_law (l3 l4 : List S103) (h1 : l1.length ≤ 40) (h3 : l3.length ≤ 40) (h4 : l4.length ≤ 40) : quaysideref33_times.f 100000 l0 l1 l2 ops l3 l4 = some (timesR l1 l3 l4) := by
  have A3 : ∀ ys : List Int, ys.length ≤ 121 → ∀ k, 20000 ≤ k → quaysideref33_times.l3 k ys [] 0 = some (ys.foldl insU []) := fun ys hy k hk => by
    have hm : ys.length * (ys.length + 3) ≤ 121 * 124 := Nat.mul_le_mul hy (by omega)
    exact times_l3 ys (by omega) ys.length k 0 [] (by omega) (by simp) (by omega)
  have A2 : ∀ ys : List Int, ys.length ≤ 81 → ∀ k, 20100 ≤ k → quaysideref33_times.l2 k ys 0 l0 l1 l2 ops = some ((ys ++ hoT l1).foldl insU []) := fun ys hy k hk => by
    have := times_l2 l0 l1 l2 ops ys 20000 (fun zs hz k hk => A3 zs (by omega) k hk) (by omega) (by omega) l1.length k 0 (by omega) (by omega)
    simpa [hoT] using this
  have A1 : ∀ ys : List Int, ys.length ≤ 41 → ∀ k, 20200 ≤ k → quaysideref33_times.l1 k l4 ys 0 l0 l1 l2 ops = some ((ys ++ l4.map (fun r => r.f2) ++ hoT l1).foldl insU []) := fun ys hy k hk => by
    have := times_l1 l0 l1 l2 ops l4 ys 20100 (fun zs hz k hk => A2 zs (by omega) k hk) (by omega) (by omega) l4.length k 0 (by omega) (by omega)
    simpa using this
  exact times_l0 l0 l1 l2 ops l3 l4 20200 (fun zs hz k hk => A1 zs (by omega) k hk) (by omega) l3.length 100000 0 (by omega) (by omega)

theorem times_len (l3 l4 : List S103) (h1 : l1.length ≤ 40) (h3 : l3.length ≤ 40) (h4 : l4.length ≤ 40) : (timesR l1 l3 l4).length ≤ 121 := by
  have hf : ∀ (ys out : List Int), (ys.foldl insU out).length ≤ out.length + ys.length := by
    intro ys
    induction ys with
    | nil => intro out; simp
    | cons y ys ih => intro out; have := ih (insU out y); have := insU_len out y; simp only [List.foldl_cons, List.length_cons]; omega
  have := hf (allT l1 l3 l4) []
  have : (hoT l1).length ≤ l1.length := by unfold hoT; rw [List.length_map]; exact List.length_filter_le _ _
  have : (allT l1 l3 l4).length = 1 + l3.length + l4.length + (hoT l1).length := by unfold allT; simp only [List.length_append, List.length_map, List.length_singleton]
  unfold timesR
  simp at *
  omega
end
end Go.Proofs.YtofkhcgkahkagaaGreat

