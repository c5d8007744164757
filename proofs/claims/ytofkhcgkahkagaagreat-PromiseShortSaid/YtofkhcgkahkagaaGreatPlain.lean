/- The plain law: the line over the times of a sku's changes is the line over all times. -/
import Derived.Test.YtofkhcgkahkagaaGreatPEarly
import Derived.Test.YtofkhcgkahkagaaGreatREarly
namespace Go.Proofs.YtofkhcgkahkagaaGreat
open Go.RowKit Go.Proofs.YtofkhcgkahkagaaGreatW.PrintWords Go.Proofs.YtofkhcgkahkagaaGreatW.PrintLast Go.Proofs.YtofkhcgkahkagaaGreatW.PrintMore Go.Proofs.YtofkhcgkahkagaaGreat.PPromiseShort
set_option linter.unusedVariables false
set_option linter.unusedSimpArgs false

/-! ### lists that rise -/
abbrev Up (l : List Int) : Prop := l.Pairwise (· < ·)
theorem mem_insU (l : List Int) (x y : Int) : y ∈ insU l x ↔ y = x ∨ y ∈ l := by
  induction l with
  | nil => simp [insU]
  | cons z r ih =>
    unfold insU
    split
    · simp only [List.mem_cons, ih]
      constructor
      · rintro (h | h | h) <;> simp [h]
      · rintro (h | h | h) <;> simp [h]
    · split
      · rename_i h
        subst h
        simp
      · simp
theorem up_insU (l : List Int) (x : Int) (h : Up l) : Up (insU l x) := by
  induction l with
  | nil => simp [insU, Up]
  | cons z r ih =>
    obtain ⟨h1, h2⟩ := List.pairwise_cons.1 h
    unfold insU
    split
    · rename_i hz
      refine List.pairwise_cons.2 ⟨fun y hy => ?_, ih h2⟩
      rcases (mem_insU r x y).1 hy with rfl | hy
      · exact hz
      · exact h1 y hy
    · split
      · exact h
      · refine List.pairwise_cons.2 ⟨fun y hy => ?_, h⟩
        rcases List.mem_cons.1 hy with rfl | hy
        · omega
        · have := h1 y hy; omega
theorem foldU (ys : List Int) : ∀ out : List Int, Up out → Up (ys.foldl insU out) ∧ ∀ y, y ∈ ys.foldl insU out ↔ y ∈ ys ∨ y ∈ out := by
  induction ys with
  | nil => intro out h; exact ⟨h, fun y => by simp⟩
  | cons x ys ih =>
    intro out h
    obtain ⟨h1, h2⟩ := ih (insU out x) (up_insU out x h)
    refine ⟨h1, fun y => ?_⟩
    rw [List.foldl_cons, h2 y, mem_insU, List.mem_cons]
    constructor
    · rintro (h | h | h) <;> simp [h]
    · rintro ((h | h) | h) <;> simp [h]
theorem timesR_up (l1 : List S172) (l3 l4 : List S103) : Up (timesR l1 l3 l4) := (foldU _ [] List.Pairwise.nil).1
theorem timesR_mem (l1 : List S172) (l3 l4 : List S103) (y : Int) : y ∈ timesR l1 l3 l4 ↔ y ∈ allT l1 l3 l4 := by
  have h := (foldU (allT l1 l3 l4) [] List.Pairwise.nil).2 y
  exact h.trans ⟨fun h => h.elim id (fun h => by cases h), .inl⟩

theorem compact_law (zs : List Int) (h : zs.Pairwise (· ≤ ·)) : Up (Lib.compact zs) ∧ ∀ y, y ∈ Lib.compact zs ↔ y ∈ zs := by
  have hget : ∀ i, i < zs.length → zs.toArray[i]! = zs[i]?.getD 0 := fun i hi => by simp [hi]
  have hle : ∀ i j, i ≤ j → j < zs.length → zs[i]?.getD 0 ≤ zs[j]?.getD 0 := fun i j hij hj => by
    rcases Nat.lt_or_ge i j with h1 | h1
    · rw [List.getElem?_eq_getElem (by omega), List.getElem?_eq_getElem hj]
      exact List.pairwise_iff_getElem.1 h i j (by omega) hj h1
    · obtain rfl : i = j := by omega
      exact Int.le_refl _
  unfold Lib.compact Lib.compactUpTo
  constructor
  · rw [Up, List.pairwise_map]
    have hr : ((List.range zs.length).filter (Lib.keeps zs.toArray)).Pairwise (· < ·) := List.Pairwise.filter _ List.pairwise_lt_range
    refine hr.imp_of_mem ?_
    intro i j hi hj hij
    have hi1 := List.mem_range.1 (List.mem_filter.1 hi).1
    have hj1 := List.mem_range.1 (List.mem_filter.1 hj).1
    have hk := (List.mem_filter.1 hj).2
    have hne : zs.toArray[j]! ≠ zs.toArray[j - 1]! := fun e => by rw [Lib.keeps_neg (by omega) e] at hk; cases hk
    rw [hget j hj1, hget (j - 1) (by omega)] at hne
    rw [hget i hi1, hget j hj1]
    have h1 := hle i (j - 1) (by omega) (by omega)
    have h2 := hle (j - 1) j (by omega) hj1
    omega
  · intro y
    constructor
    · intro hy
      obtain ⟨i, hi, rfl⟩ := List.mem_map.1 hy
      have hi1 := List.mem_range.1 (List.mem_filter.1 hi).1
      rw [hget i hi1, List.getElem?_eq_getElem hi1]
      exact List.getElem_mem hi1
    · intro hy
      obtain ⟨i, hi, rfl⟩ := List.getElem_of_mem hy
      have : ∀ i (hi : i < zs.length), ∃ j, j < zs.length ∧ Lib.keeps zs.toArray j = true ∧ zs[j]?.getD 0 = zs[i] := by
        intro i
        induction i with
        | zero => intro hi; exact ⟨0, hi, Lib.keeps_lt_one _ 0 (by omega), by rw [List.getElem?_eq_getElem hi]; rfl⟩
        | succ i ih =>
          intro hi
          by_cases e : zs.toArray[i + 1]! = zs.toArray[i]!
          · obtain ⟨j, h1, h2, h3⟩ := ih (by omega)
            refine ⟨j, h1, h2, ?_⟩
            rw [hget (i + 1) hi, hget i (by omega), List.getElem?_eq_getElem hi, List.getElem?_eq_getElem (show i < zs.length by omega)] at e
            rw [h3]
            exact e.symm
          · exact ⟨i + 1, hi, Lib.keeps_pos e, by rw [List.getElem?_eq_getElem hi]; rfl⟩
      obtain ⟨j, h1, h2, h3⟩ := this i hi
      exact List.mem_map.2 ⟨j, List.mem_filter.2 ⟨List.mem_range.2 h1, h2⟩, by rw [hget j h1, h3]⟩
theorem timesL_law (xs : List (Int × Int)) : Up (timesL xs) ∧ ∀ y, y ∈ timesL xs ↔ y = 0 ∨ y ∈ xs.map (fun x => x.1) := by
  have hs : ((0 :: xs.map (fun x => x.1)).mergeSort (fun x y => decide (x ≤ y))).Pairwise (· ≤ ·) := by
    have := List.pairwise_mergeSort (le := fun x y : Int => decide (x ≤ y)) (fun a b c h1 h2 => by simp at *; omega) (fun a b => by simp; omega) (0 :: xs.map (fun x => x.1))
    exact this.imp (fun h => by simpa using h)
  obtain ⟨h1, h2⟩ := compact_law _ hs
  refine ⟨h1, fun y => ?_⟩
  unfold timesL
  rw [h2 y, List.mem_mergeSort, List.mem_cons]

theorem up_sub : ∀ (T' T : List Int), Up T' → Up T → (∀ y ∈ T', y ∈ T) → T'.Sublist T
  | [], T, _, _, _ => List.nil_sublist T
  | a :: T', [], _, _, h => by have := h a (by simp); cases this
  | a :: T', b :: T, h1, h2, h3 => by
    obtain ⟨p1, p2⟩ := List.pairwise_cons.1 h1
    obtain ⟨q1, q2⟩ := List.pairwise_cons.1 h2
    by_cases e : a = b
    · subst e
      refine List.Sublist.cons_cons a (up_sub T' T p2 q2 (fun y hy => ?_))
      rcases List.mem_cons.1 (h3 y (by simp [hy])) with h | h
      · have := p1 y hy; omega
      · exact h
    · refine List.Sublist.cons b (up_sub (a :: T') T h1 q2 (fun y hy => ?_))
      rcases List.mem_cons.1 (h3 y hy) with h | h
      · rcases List.mem_cons.1 (h3 a (by simp)) with h4 | h4
        · exact absurd h4 e
        · have := q1 a h4
          rcases List.mem_cons.1 hy with h5 | h5
          · omega
          · have := p1 y h5; omega
      · exact h
theorem up_head {T : List Int} (h : Up T) (h0 : 0 ∈ T) (hp : ∀ y ∈ T, 0 ≤ y) : ∃ R, T = 0 :: R := by
  cases T with
  | nil => cases h0
  | cons a R =>
    rcases List.mem_cons.1 h0 with e | e
    · exact ⟨R, by rw [e]⟩
    · have := (List.pairwise_cons.1 h).1 0 e
      have := hp a (by simp)
      omega

/-! ### the line over more times -/
theorem lineR_eq (xs : List (Int × Int)) : ∀ (T : List Int) (acc : List S111), lineR xs T acc = lineG (sumAt xs) T acc
  | [], acc => rfl
  | t :: T, acc => by
    rw [lineR, lineG]
    split
    · exact lineR_eq xs T _
    · rfl
theorem lineG_congr {f g : Int → Int × Int} : ∀ (T : List Int) (acc : List S111), (∀ t ∈ T, f t = g t) → lineG f T acc = lineG g T acc
  | [], acc, _ => rfl
  | t :: T, acc, h => by
    rw [lineG, lineG, h t (by simp)]
    unfold pushG
    rw [h t (by simp)]
    split
    · exact lineG_congr T _ (fun y hy => h y (by simp [hy]))
    · rfl
theorem pushG_last (g : Int → Int × Int) (acc : List S111) (t : Int) : (pushG g acc t).getLast?.map (fun s => s.f1) = some (g t).1 := by
  unfold pushG
  split
  · assumption
  · simp
theorem line_sub (g : Int → Int × Int) (C : List Int) (hG : ∀ t0 t, t0 ≤ t → (∀ c ∈ C, ¬ (t0 < c ∧ c ≤ t)) → g t = g t0) {T' T : List Int} (h : T'.Sublist T) : ∀ (t0 : Int) (acc : List S111), Up T → (∀ t ∈ T, t0 < t) → acc.getLast?.map (fun s => s.f1) = some (g t0).1 → (g t0).2 = 0 → (∀ c ∈ C, c ≤ t0 ∨ c ∈ T') → lineG g T' acc = lineG g T acc := by
  induction h with
  | slnil => intro t0 acc _ _ _ _ _; rfl
  | @cons T' T t h ih =>
    intro t0 acc hU hlt hl h0 hC
    obtain ⟨q1, q2⟩ := List.pairwise_cons.1 hU
    have ht := hlt t (by simp)
    have e : g t = g t0 := hG t0 t (by omega) (fun c hc hcc => by
      rcases hC c hc with h1 | h1
      · omega
      · have := q1 c (h.subset h1); omega)
    rw [ih t0 acc q2 (fun y hy => hlt y (by simp [hy])) hl h0 hC]
    conv => rhs; rw [lineG]
    rw [if_pos (by rw [e]; exact h0)]
    have : pushG g acc t = acc := by unfold pushG; rw [if_pos (by rw [e]; exact hl)]
    rw [this]
  | @cons_cons T' T t h ih =>
    intro t0 acc hU hlt hl h0 hC
    obtain ⟨q1, q2⟩ := List.pairwise_cons.1 hU
    rw [lineG, lineG]
    by_cases e : (g t).2 = 0
    · rw [if_pos e, if_pos e]
      refine ih t (pushG g acc t) q2 q1 (pushG_last g acc t) e (fun c hc => ?_)
      rcases hC c hc with h1 | h1
      · have := hlt t (by simp); exact .inl (by omega)
      · rcases List.mem_cons.1 h1 with h2 | h2
        · exact .inl (by omega)
        · exact .inr h2
    · rw [if_neg e, if_neg e]
theorem line_more (g : Int → Int × Int) (C T' T : List Int) (hG : ∀ t0 t, t0 ≤ t → (∀ c ∈ C, ¬ (t0 < c ∧ c ≤ t)) → g t = g t0) (h1 : Up T') (h2 : Up T) (hs : ∀ y ∈ T', y ∈ T) (h0 : 0 ∈ T') (hp : ∀ y ∈ T, 0 ≤ y) (hC : ∀ c ∈ C, c ∈ T') : lineG g T' [] = lineG g T [] := by
  obtain ⟨R', rfl⟩ := up_head h1 h0 (fun y hy => hp y (hs y hy))
  obtain ⟨R, rfl⟩ := up_head h2 (hs 0 h0) hp
  have hsub := up_sub _ _ h1 h2 hs
  obtain ⟨q1, q2⟩ := List.pairwise_cons.1 h2
  rw [lineG, lineG]
  by_cases e : (g 0).2 = 0
  · rw [if_pos e, if_pos e]
    refine line_sub g C hG (List.cons_sublist_cons.1 hsub) 0 (pushG g [] 0) q2 q1 (pushG_last g [] 0) e (fun c hc => ?_)
    rcases List.mem_cons.1 (hC c hc) with h3 | h3
    · exact .inl (by omega)
    · exact .inr h3
  · rw [if_neg e, if_neg e]
theorem sumAt_step (xs : List (Int × Int)) (t0 t : Int) (h : t0 ≤ t) (hc : ∀ c ∈ xs.map (fun x => x.1), ¬ (t0 < c ∧ c ≤ t)) : sumAt xs t = sumAt xs t0 := by
  unfold sumAt freeL
  rw [List.filter_congr (fun x hx => ?_)]
  rw [decide_eq_decide]
  have := hc x.1 (List.mem_map.2 ⟨x, hx, rfl⟩)
  omega

/-! ### what is free -/
theorem freeL_app (t : Int) (a b : List (Int × Int)) : freeL t (a ++ b) = freeL t a ++ freeL t b := by
  unfold freeL
  rw [List.filter_append, List.map_append]
theorem free_stocks (sku : ByteArray) (t : Int) (h : 0 ≤ t) : ∀ l : List S165, freeL t (chStocks sku l) = frS sku l
  | [] => rfl
  | s :: l => by
    have ih := free_stocks sku t h l
    have e1 : chStocks sku (s :: l) = (if (s.f0.toList == sku.toList) = true then [(0, s.f2)] else []) ++ chStocks sku l := by
      unfold chStocks
      rw [List.filter_cons]
      split <;> rfl
    have e2 : frS sku (s :: l) = (if (s.f0.toList == sku.toList) = true then [s.f2] else []) ++ frS sku l := by
      unfold frS
      rw [List.filter_cons]
      split <;> rfl
    rw [e1, e2, freeL_app, ih]
    split
    · simp [freeL, h]
    · rfl
theorem free_coming (sku : ByteArray) (t : Int) : ∀ l : List S103, freeL t (chComing sku l) = frC sku t l
  | [] => rfl
  | s :: l => by
    have ih := free_coming sku t l
    have e1 : chComing sku (s :: l) = (if (s.f0.toList == sku.toList) = true then [(s.f2, s.f1)] else []) ++ chComing sku l := by
      unfold chComing
      rw [List.filter_cons]
      split <;> rfl
    have e2 : frC sku t (s :: l) = (if ((s.f0.toList == sku.toList) && decide (s.f2 ≤ t)) = true then [s.f1] else []) ++ frC sku t l := by
      unfold frC
      rw [List.filter_cons]
      split <;> rfl
    rw [e1, e2, freeL_app, ih]
    by_cases c : (s.f0.toList == sku.toList) = true
    · by_cases c2 : s.f2 ≤ t
      · simp [c, c2, freeL]
      · simp [c, c2, freeL]
    · simp [c, freeL]
theorem free_holds (sku : ByteArray) (t : Int) (h0 : 0 ≤ t) (hm : t ≤ 9223372036854775807) : ∀ l : List S172, (∀ h ∈ l, 1 ≤ h.f3 ∧ h.f3 ≤ 9223372036854775807 ∧ 0 ≤ h.f5 ∧ h.f5 ≤ 9223372036854775807) → (freeL t (chHolds sku l)).sum = (frH sku t l).sum
  | [], _ => rfl
  | s :: l, hl => by
    have ih := free_holds sku t h0 hm l (fun h hh => hl h (by simp [hh]))
    obtain ⟨g1, g2, g3, g4⟩ := hl s (by simp)
    have e1 : chHolds sku (s :: l) = chHold sku s ++ chHolds sku l := by unfold chHolds; rw [List.flatMap_cons]
    have e2 : frH sku t (s :: l) = (if ((s.f1.toList == sku.toList) && decide (s.f4 = 0) && (decide (s.f5 = 0) || decide (t ≤ s.f5))) = true then [wrap64 (-s.f3)] else []) ++ frH sku t l := by
      unfold frH
      rw [List.filter_cons]
      split <;> rfl
    rw [e1, e2, freeL_app, List.sum_append, List.sum_append, ih]
    congr 1
    have hw : wrap64 (-s.f3) = -s.f3 := by unfold wrap64; omega
    unfold chHold
    rw [hw]
    by_cases c : s.f1.toList = sku.toList
    · by_cases c4 : s.f4 = 0
      · rw [if_pos ⟨c, c4⟩]
        by_cases c5 : s.f5 = 0
        · rw [if_neg (by omega), if_pos (by simp [c, c4, c5])]
          simp [freeL, h0]
        · by_cases c6 : s.f5 < 9223372036854775807
          · rw [if_pos ⟨by omega, c6⟩, show wrap64 (s.f5 + 1) = s.f5 + 1 from by unfold wrap64; omega]
            by_cases c7 : t ≤ s.f5
            · rw [if_pos (by simp [c, c4, c7])]
              have : ¬ s.f5 + 1 ≤ t := by omega
              simp [freeL, h0, this]
            · rw [if_neg (by simp [c5, c7])]
              have : s.f5 + 1 ≤ t := by omega
              simp [freeL, h0, this]
              omega
          · rw [if_neg (by omega), if_pos (by have : t ≤ s.f5 := by omega
                                              simp [c, c4, this])]
            simp [freeL, h0]
      · rw [if_neg (fun h => c4 h.2), if_neg (by simp [c4])]
        rfl
    · rw [if_neg (fun h => c h.1), if_neg (by simp [c])]
      rfl

/-- The premises of the plain law. -/
structure Good (l0 : List S165) (l1 : List S172) (l3 : List S103) : Prop where
  holds : ∀ h ∈ l1, 1 ≤ h.f3 ∧ h.f3 ≤ 9223372036854775807 ∧ 0 ≤ h.f5 ∧ h.f5 ≤ 9223372036854775807
  comes : ∀ r ∈ l3, 0 ≤ r.f2 ∧ r.f2 ≤ 9223372036854775807

theorem free_eq {l0 : List S165} {l1 : List S172} {l3 : List S103} (hg : Good l0 l1 l3) (sku : ByteArray) (t : Int) (h0 : 0 ≤ t) (hm : t ≤ 9223372036854775807) : sumAt (toldF l0 l1 l3 [] sku) t = fR l0 l1 l3 sku t := by
  have e : (freeL t (toldF l0 l1 l3 [] sku)).sum = (frL l0 l1 l3 [] sku t).sum := by
    unfold toldF frL
    rw [freeL_app, freeL_app, freeL_app, free_stocks sku t h0, free_coming]
    simp only [List.sum_append]
    rw [free_holds sku t h0 hm l1 hg.holds]
    have : freeL t (chTaken sku []) = [] := rfl
    rw [this]
    have : frT sku t [] = [] := rfl
    rw [this]
    simp
    omega
  unfold sumAt fR sumOf
  rw [e]

theorem told_times {l0 : List S165} {l1 : List S172} {l3 : List S103} (hg : Good l0 l1 l3) (sku : ByteArray) : ∀ c ∈ (toldF l0 l1 l3 [] sku).map (fun x => x.1), c ∈ allT l1 l3 [] := by
  intro c hc
  obtain ⟨x, hx, rfl⟩ := List.mem_map.1 hc
  unfold toldF at hx
  unfold allT
  simp only [List.mem_append] at hx ⊢
  rcases hx with ((hx | hx) | hx) | hx
  · unfold chStocks at hx
    obtain ⟨s, _, rfl⟩ := List.mem_map.1 hx
    exact .inl (.inl (.inl (by simp)))
  · unfold chHolds at hx
    obtain ⟨h, hh, hx⟩ := List.mem_flatMap.1 hx
    unfold chHold at hx
    split at hx
    · rcases List.mem_cons.1 hx with rfl | hx
      · exact .inl (.inl (.inl (by simp)))
      · split at hx
        · rename_i h5
          rw [List.mem_singleton.1 hx]
          refine .inr ?_
          unfold hoT
          exact List.mem_map.2 ⟨h, List.mem_filter.2 ⟨hh, by simp [h5.1, h5.2]⟩, rfl⟩
        · cases hx
    · cases hx
  · unfold chComing at hx
    obtain ⟨r, hr, rfl⟩ := List.mem_map.1 hx
    exact .inl (.inl (.inr (List.mem_map.2 ⟨r, (List.mem_filter.1 hr).1, rfl⟩)))
  · cases hx

theorem all_range {l0 : List S165} {l1 : List S172} {l3 : List S103} (hg : Good l0 l1 l3) : ∀ y ∈ allT l1 l3 [], 0 ≤ y ∧ y ≤ 9223372036854775807 := by
  intro y hy
  unfold allT at hy
  simp only [List.mem_append] at hy
  rcases hy with ((hy | hy) | hy) | hy
  · rw [List.mem_singleton.1 hy]; omega
  · obtain ⟨r, hr, rfl⟩ := List.mem_map.1 hy
    exact hg.comes r hr
  · cases hy
  · unfold hoT at hy
    obtain ⟨h, hh, rfl⟩ := List.mem_map.1 hy
    have h2 := (List.mem_filter.1 hh).2
    simp at h2
    have : wrap64 (h.f5 + 1) = h.f5 + 1 := by unfold wrap64; omega
    rw [this]
    omega

theorem line_eq {l0 : List S165} {l1 : List S172} {l3 : List S103} (hg : Good l0 l1 l3) (sku : ByteArray) : lineF (toldF l0 l1 l3 [] sku) = lineG (fR l0 l1 l3 sku) (timesR l1 l3 []) [] := by
  obtain ⟨hu, hm⟩ := timesL_law (toldF l0 l1 l3 [] sku)
  have hr : ∀ y ∈ timesR l1 l3 [], 0 ≤ y ∧ y ≤ 9223372036854775807 := fun y hy => all_range hg y ((timesR_mem l1 l3 [] y).1 hy)
  unfold lineF
  rw [lineR_eq, line_more (sumAt (toldF l0 l1 l3 [] sku)) ((toldF l0 l1 l3 [] sku).map (fun x => x.1)) (timesL (toldF l0 l1 l3 [] sku)) (timesR l1 l3 []) (fun t0 t h hc => sumAt_step _ t0 t h hc) hu (timesR_up l1 l3 []) (fun y hy => ?_) ((hm 0).2 (.inl rfl)) (fun y hy => (hr y hy).1) (fun c hc => (hm c).2 (.inr hc))]
  · exact lineG_congr _ _ (fun t ht => free_eq hg sku t (hr t ht).1 (hr t ht).2)
  · refine (timesR_mem l1 l3 [] y).2 ?_
    rcases (hm y).1 hy with rfl | h
    · unfold allT; simp
    · exact told_times hg sku y h

theorem good_of {l0 : List S165} {l1 : List S172} {l2 : List S176} {ops : Int} {l3 : List S103} (hF : FewL l0 l1 l2) (hr : ∀ r ∈ l3, RecG r) (hk : ckB l0 l1 l2 ops = true) (hm : mayB l3 = true) : Good l0 l1 l3 := by
  have hc := ckB_iff.1 hk
  refine ⟨fun h hh => ?_, fun r hh => ?_⟩
  · obtain ⟨i, hi, rfl⟩ := List.getElem_of_mem hh
    have h1 := (hc.2.2.1 i hi).1
    have h2 := hF.2.2.2.2.1 _ hh
    exact ⟨h1.2.2.2.1, h2.2.2.2.1.2, h1.2.2.2.2.2.2, h2.2.2.2.2.2.2⟩
  · unfold mayB at hm
    rw [Bool.and_eq_true] at hm
    have h1 := List.all_eq_true.1 hm.2 r hh
    unfold recB at h1
    simp at h1
    exact ⟨h1.2, (hr r hh).2.2.2⟩

theorem lineA_eq {l0 : List S165} {l1 : List S172} {l2 : List S176} {ops : Int} {l3 : List S103} (hF : FewL l0 l1 l2) (hr : ∀ r ∈ l3, RecG r) (sku : ByteArray) : lineA ckB l0 l1 l2 ops l3 sku = rlineA l0 l1 l2 ops l3 sku := by
  unfold lineA rlineA
  by_cases h : ckB l0 l1 l2 ops = true ∧ mayB l3 = true
  · rw [if_pos h, if_pos h]
    exact line_eq (good_of hF hr h.1 h.2) sku
  · rw [if_neg h, if_neg h]
theorem atA_eq {l0 : List S165} {l1 : List S172} {l2 : List S176} {ops : Int} {l3 : List S103} (hF : FewL l0 l1 l2) (hr : ∀ r ∈ l3, RecG r) (sku : ByteArray) (time : Int) (ht : time ≤ 9223372036854775807) : atA ckB l0 l1 l2 ops l3 sku time = ratA l0 l1 l2 ops l3 sku time := by
  unfold atA ratA
  by_cases h : ckB l0 l1 l2 ops = true ∧ mayB l3 = true ∧ 0 ≤ time
  · rw [if_pos h, if_pos h]
    exact free_eq (good_of hF hr h.1 h.2.1) sku time h.2.2 ht
  · rw [if_neg h, if_neg h]
end Go.Proofs.YtofkhcgkahkagaaGreat

