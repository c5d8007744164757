/- Texts behind the row of PromiseKeeps, part 13. -/
import Derived.Test.YtofkhcgkahkagaaU09
import Derived.Sort.Walk0
import Derived.Test.YtofkhcgkahkagaaU10
import Derived.Test.YtofkhcgkahkagaaU08
import Derived.Lib.AppendZeros
import Derived.Test.YtofkhcgkahkagaaU12
/- Stocks in order: what put and Find do to them. -/
namespace Go.Proofs.Ytofkhcgkahkagaa
open Go.RowKit Go.Proofs.YtofkhcgkahkagaaW.PrintWords Go.Proofs.YtofkhcgkahkagaaW.PrintLast Go.Proofs.YtofkhcgkahkagaaW.PrintMore Go.Proofs.Ytofkhcgkahkagaa.PPromiseLines
set_option linter.unusedVariables false
set_option linter.unusedSimpArgs false

/-! ### the order of places -/
def ltP (p q : Plc) : Prop := ordP p q < 0
theorem bL_iff (a b : List UInt8) : Lib.compareBytes a b < 0 ↔ a < b := by
  rw [cmp_neg, bytesLess_eq, decide_eq_true_iff]
theorem data_inj {a b : ByteArray} (h : a.data.toList = b.data.toList) : a = b := by
  cases a; cases b
  exact congrArg _ (Array.toList_inj.1 h)
theorem ltP_iff (p q : Plc) : ltP p q ↔ p.1.data.toList < q.1.data.toList ∨ (p.1 = q.1 ∧ p.2.data.toList < q.2.data.toList) := by
  unfold ltP ordP
  by_cases h : Lib.compareBytes p.1.data.toList q.1.data.toList = 0
  · rw [if_pos h, bL_iff]
    have e := (cmp_zero _ _).1 h
    constructor
    · intro h1
      exact .inr ⟨data_inj e, h1⟩
    · rintro (h1 | h1)
      · rw [e] at h1
        exact absurd h1 (List.lt_irrefl _)
      · exact h1.2
  · rw [if_neg h, bL_iff]
    constructor
    · exact .inl
    · rintro (h1 | h1)
      · exact h1
      · exact absurd ((cmp_zero _ _).2 (by rw [h1.1])) h
theorem ltP_irrefl (p : Plc) : ¬ ltP p p := by
  rw [ltP_iff]
  rintro (h | h)
  · exact List.lt_irrefl _ h
  · exact List.lt_irrefl _ h.2
theorem ltP_trans {p q r : Plc} (h1 : ltP p q) (h2 : ltP q r) : ltP p r := by
  rw [ltP_iff] at *
  rcases h1 with h1 | ⟨e1, h1⟩
  · rcases h2 with h2 | ⟨e2, h2⟩
    · exact .inl (List.lt_trans h1 h2)
    · rw [← e2]; exact .inl h1
  · rcases h2 with h2 | ⟨e2, h2⟩
    · rw [e1]; exact .inl h2
    · exact .inr ⟨e1.trans e2, List.lt_trans h1 h2⟩
theorem bl_tri {a b : List UInt8} (h : ¬ a < b) : b < a ∨ b = a := List.le_iff_lt_or_eq.1 (List.not_lt.1 h)
theorem ltP_tri {p q : Plc} (h : ¬ ltP p q) (hne : p ≠ q) : ltP q p := by
  rw [ltP_iff] at *
  rcases bl_tri (fun h1 => h (.inl h1)) with h1 | h1
  · exact .inl h1
  · have e := data_inj h1
    rcases bl_tri (fun h2 => h (.inr ⟨e.symm, h2⟩)) with h2 | h2
    · exact .inr ⟨e, h2⟩
    · exact absurd (Prod.ext e.symm (data_inj h2).symm) hne

/-! ### put -/
abbrev Stk := S100
def Up0 (l : List Stk) : Prop := l.Pairwise (fun a b => ltP (stP a) (stP b))
def others (l : List Stk) (p : Plc) : List Stk := l.filter (fun x => decide (stP x ≠ p))
theorem putA_done (s : Stk) : ∀ (l acc : List Stk), l.foldl (putA s) (acc, true) = (acc ++ others l (stP s), true)
  | [], acc => by simp [others]
  | x :: l, acc => by
    rw [List.foldl_cons]
    have e : putA s (acc, true) x = ((if stP x = stP s then acc else acc ++ [x]), true) := by
      unfold putA
      simp
    rw [e, putA_done s l]
    unfold others
    by_cases h : stP x = stP s
    · rw [if_pos h, List.filter_cons_of_neg (by simpa using h)]
    · rw [if_neg h, List.filter_cons_of_pos (by simpa using h)]
      simp
theorem putA_not (s : Stk) : ∀ (l acc : List Stk), ∃ A B, l = A ++ B ∧ (∀ x ∈ A, ltP (stP x) (stP s)) ∧ (∀ b B', B = b :: B' → ¬ ltP (stP b) (stP s)) ∧
    l.foldl (putA s) (acc, false) = if B = [] then (acc ++ A, false) else (acc ++ A ++ s :: others B (stP s), true)
  | [], acc => ⟨[], [], rfl, by simp, by simp, by simp⟩
  | x :: l, acc => by
    by_cases h : ltP (stP x) (stP s)
    · have hne : stP x ≠ stP s := fun e => ltP_irrefl _ (e ▸ h)
      have hb : aheadB x s = true := decide_eq_true h
      have e : putA s (acc, false) x = (acc ++ [x], false) := by
        unfold putA
        simp [hne, hb]
      obtain ⟨A, B, h1, h2, h3, h4⟩ := putA_not s l (acc ++ [x])
      refine ⟨x :: A, B, by rw [h1]; rfl, fun y hy => ?_, h3, ?_⟩
      · rcases List.mem_cons.1 hy with rfl | hy
        · exact h
        · exact h2 y hy
      · rw [List.foldl_cons, e, h4]
        simp
    · have hb : aheadB x s = false := decide_eq_false h
      have e : putA s (acc, false) x = ((if stP x = stP s then acc ++ [s] else acc ++ [s] ++ [x]), true) := by
        unfold putA
        simp [hb]
      refine ⟨[], x :: l, rfl, by simp, fun b B' hB => ?_, ?_⟩
      · cases hB
        exact h
      · rw [List.foldl_cons, e, putA_done, if_neg (show ¬ (x :: l) = [] by simp)]
        unfold others
        by_cases h : stP x = stP s
        · rw [if_pos h, List.filter_cons_of_neg (by simpa using h)]
          simp
        · rw [if_neg h, List.filter_cons_of_pos (by simpa using h)]
          simp
theorem put_split (l : List Stk) (s : Stk) : ∃ A B, l = A ++ B ∧ (∀ x ∈ A, ltP (stP x) (stP s)) ∧ (∀ b B', B = b :: B' → ¬ ltP (stP b) (stP s)) ∧ putF l s = A ++ s :: others B (stP s) := by
  obtain ⟨A, B, h1, h2, h3, h4⟩ := putA_not s l []
  refine ⟨A, B, h1, h2, h3, ?_⟩
  unfold putF
  rw [h4]
  by_cases hB : B = []
  · simp [hB, others]
  · simp [hB]
theorem others_id {l : List Stk} {p : Plc} (h : ∀ x ∈ l, stP x ≠ p) : others l p = l := List.filter_eq_self.2 (fun x hx => by simpa using h x hx)
theorem mem_others {l : List Stk} {p : Plc} {x : Stk} : x ∈ others l p ↔ x ∈ l ∧ stP x ≠ p := by unfold others; rw [List.mem_filter]; simp
theorem put_law {l : List Stk} (hl : Up0 l) (s : Stk) : Up0 (putF l s) ∧ (∀ x, x ∈ putF l s ↔ x = s ∨ (x ∈ l ∧ stP x ≠ stP s)) ∧ (putF l s).length ≤ l.length + 1 := by
  obtain ⟨A, B, rfl, h2, h3, h4⟩ := put_split l s
  obtain ⟨hA, hB, hAB⟩ := List.pairwise_append.1 hl
  have hBn : ∀ b ∈ B, ¬ ltP (stP b) (stP s) := by
    cases B with
    | nil => simp
    | cons b B =>
      intro y hy h
      rcases List.mem_cons.1 hy with rfl | hy
      · exact h3 _ _ rfl h
      · exact h3 _ _ rfl (ltP_trans ((List.pairwise_cons.1 hB).1 y hy) h)
  rw [h4]
  refine ⟨?_, fun x => ?_, ?_⟩
  · refine List.pairwise_append.2 ⟨hA, List.pairwise_cons.2 ⟨fun b hb => ?_, hB.sublist List.filter_sublist⟩, fun a ha b hb => ?_⟩
    · have := mem_others.1 hb
      exact ltP_tri (hBn b this.1) this.2
    · rcases List.mem_cons.1 hb with rfl | hb
      · exact h2 a ha
      · exact hAB a ha b (mem_others.1 hb).1
  · rw [List.mem_append, List.mem_cons, mem_others, List.mem_append]
    constructor
    · rintro (h | h | h)
      · exact .inr ⟨.inl h, fun e => ltP_irrefl _ (e ▸ h2 x h)⟩
      · exact .inl h
      · exact .inr ⟨.inr h.1, h.2⟩
    · rintro (h | ⟨h | h, hne⟩)
      · exact .inr (.inl h)
      · exact .inl h
      · exact .inr (.inr ⟨h, hne⟩)
  · have : (others B (stP s)).length ≤ B.length := List.length_filter_le _ _
    simp
    omega
theorem put_len {l : List Stk} (hl : Up0 l) (s : Stk) (h : stP s ∈ l.map stP) : (putF l s).length = l.length := by
  obtain ⟨A, B, rfl, h2, h3, h4⟩ := put_split l s
  obtain ⟨hA, hB, hAB⟩ := List.pairwise_append.1 hl
  obtain ⟨x, hx, e⟩ := List.mem_map.1 h
  have hxB : x ∈ B := by
    rcases List.mem_append.1 hx with hx | hx
    · exact absurd (h2 x hx) (by rw [e]; exact ltP_irrefl _)
    · exact hx
  cases B with
  | nil => cases hxB
  | cons b B =>
    have hb := h3 b B rfl
    obtain ⟨g1, g2⟩ := List.pairwise_cons.1 hB
    have hbe : stP b = stP s := by
      rcases List.mem_cons.1 hxB with hx' | hx'
      · rw [← hx', e]
      · exact absurd (by rw [← e]; exact g1 x hx') hb
    have ho : others (b :: B) (stP s) = B := by
      unfold others
      rw [List.filter_cons_of_neg (by simpa using hbe)]
      exact others_id (fun y hy e2 => absurd (g1 y hy) (by rw [hbe, e2]; exact ltP_irrefl _))
    rw [h4, ho]
    simp
theorem up_uniq {l : List Stk} (hl : Up0 l) {x y : Stk} (hx : x ∈ l) (hy : y ∈ l) (e : stP x = stP y) : x = y := by
  induction l with
  | nil => cases hx
  | cons a l ih =>
    obtain ⟨h1, h2⟩ := List.pairwise_cons.1 hl
    rcases List.mem_cons.1 hx with hx' | hx' <;> rcases List.mem_cons.1 hy with hy' | hy'
    · rw [hx', hy']
    · exact absurd (h1 y hy') (by rw [← hx', e]; exact ltP_irrefl _)
    · exact absurd (h1 x hx') (by rw [← hy', e]; exact ltP_irrefl _)
    · exact ih h2 hx' hy'
theorem find_known {l : List Stk} (hl : Up0 l) {s : Stk} (hs : s ∈ l) : findF l (stP s) = s := by
  unfold findF
  cases e : l.find? (fun x => decide (stP x = stP s)) with
  | none =>
    have := List.find?_eq_none.1 e s hs
    simp at this
  | some y =>
    have h1 := List.find?_some e
    exact up_uniq hl (List.mem_of_find?_eq_some e) hs (by simpa using h1)
theorem find_not {l : List Stk} {p : Plc} (h : p ∉ l.map stP) : findF l p = ⟨p.1, p.2, 0, 0⟩ := by
  unfold findF
  rw [List.find?_eq_none.2 (fun x hx => by simpa using fun e => h (List.mem_map.2 ⟨x, hx, e⟩))]
  rfl
theorem find_place (l : List Stk) (p : Plc) : stP (findF l p) = p := by
  unfold findF
  cases e : l.find? (fun x => decide (stP x = p)) with
  | none => rfl
  | some y =>
    have h1 := List.find?_some e
    simpa using h1
end Go.Proofs.Ytofkhcgkahkagaa
/- What holds of a ledger that was played, and stays through each change. -/
namespace Go.Proofs.Ytofkhcgkahkagaa
open Go.RowKit Go.Proofs.YtofkhcgkahkagaaW.PrintWords Go.Proofs.YtofkhcgkahkagaaW.PrintLast Go.Proofs.YtofkhcgkahkagaaW.PrintMore Go.Proofs.Ytofkhcgkahkagaa.PPromiseLines
set_option linter.unusedVariables false
set_option linter.unusedSimpArgs false

abbrev Hld := S107
abbrev Mov := S111
def maxI : Int := 9223372036854775807
structure LInv (l0 : List Stk) (l1 : List Hld) (l2 : List Mov) : Prop where
  up : Up0 l0
  st : ∀ s ∈ l0, nameB s.f0 = true ∧ nameB s.f1 = true ∧ 0 ≤ s.f3 ∧ s.f3 ≤ s.f2 ∧ s.f2 ≤ maxI
  ho : ∀ j (h : j < l1.length), hoB j l1[j] ∧ l1[j].f3 ≤ maxI ∧ l1[j].f5 ≤ maxI
  hoIn : ∀ h ∈ l1, h.f4 = 0 → hoP h ∈ l0.map stP
  mo : ∀ j (h : j < l2.length), moB j l2[j] ∧ i64B l2[j].f3 ∧ l2[j].f5 ≤ 10000
  moIn : ∀ m ∈ l2, moP m ∈ l0.map stP
  held : ∀ s ∈ l0, (heldF l1 (stP s)).sum = s.f3
  moved : ∀ s ∈ l0, (movedF l2 (stP s)).sum = s.f2
theorem LInv.empty : LInv [] [] [] := ⟨List.Pairwise.nil, (fun _ h => by cases h), (fun _ h => by cases h), (fun _ h => by cases h), (fun _ h => by cases h), (fun _ h => by cases h), (fun _ h => by cases h), (fun _ h => by cases h)⟩

variable {l0 : List Stk} {l1 : List Hld} {l2 : List Mov}
theorem sumOf_in {l : List Int} {n : Int} (h : l.sum = n) (hn : -9223372036854775808 ≤ n ∧ n ≤ 9223372036854775807) : sumOf l = (n, 0) := by
  unfold sumOf
  rw [h, if_pos hn]
theorem LInv.ck (h : LInv l0 l1 l2) {ops : Int} (ho : 0 ≤ ops) : ckB l0 l1 l2 ops = true := by
  rw [ckB_iff]
  refine ⟨ho, fun j hj => ?_, fun j hj => ?_, fun j hj => ?_, fun j hj => ?_⟩
  · obtain ⟨h1, h2, h3, h4, h5⟩ := h.st l0[j] (List.getElem_mem hj)
    refine ⟨h1, h2, h3, h4, fun h0 => ?_⟩
    rw [List.getD_eq_getElem?_getD, List.getElem?_eq_getElem (show j - 1 < l0.length by omega)]
    exact List.pairwise_iff_getElem.1 h.up (j - 1) j (by omega) hj (by omega)
  · exact ⟨(h.ho j hj).1, h.hoIn _ (List.getElem_mem hj)⟩
  · exact ⟨(h.mo j hj).1, h.moIn _ (List.getElem_mem hj)⟩
  · obtain ⟨h1, h2, h3, h4, h5⟩ := h.st l0[j] (List.getElem_mem hj)
    unfold maxI at h5
    exact ⟨sumOf_in (h.held _ (List.getElem_mem hj)) (by omega), sumOf_in (h.moved _ (List.getElem_mem hj)) (by omega)⟩
theorem LInv.few (h : LInv l0 l1 l2) (h0 : l0.length ≤ 30) (h1 : l1.length ≤ 30) (h2 : l2.length ≤ 60) : FewL l0 l1 l2 := by
  refine ⟨h0, h1, h2, fun s hs => ?_, fun x hx => ?_, fun m hm => ?_⟩
  · obtain ⟨g1, g2, g3, g4, g5⟩ := h.st s hs
    unfold maxI at g5
    exact ⟨name_ok g1, name_ok g2, ⟨by omega, by omega⟩, ⟨by omega, by omega⟩⟩
  · obtain ⟨j, hj, rfl⟩ := List.getElem_of_mem hx
    obtain ⟨⟨g1, g2, g3, g4, g5, g6, g7⟩, g8, g9⟩ := h.ho j hj
    unfold maxI at g8 g9
    exact ⟨⟨by omega, by omega⟩, name_ok g2, name_ok g3, ⟨by omega, by omega⟩, ⟨by omega, by omega⟩, ⟨by omega, by omega⟩⟩
  · obtain ⟨j, hj, rfl⟩ := List.getElem_of_mem hm
    obtain ⟨⟨g1, g2, g3, g4, g5⟩, g6, g7⟩ := h.mo j hj
    exact ⟨⟨by omega, by omega⟩, name_ok g3, name_ok g4, g6, ⟨by omega, by omega⟩, ⟨by omega, by omega⟩⟩
theorem held_none {p : Plc} (h : ∀ x ∈ l1, x.f4 = 0 → hoP x ≠ p) : heldF l1 p = [] := by
  unfold heldF
  rw [List.filter_eq_nil_iff.2 (fun x hx => by simpa using fun e e2 => h x hx e2 e)]
  rfl
theorem moved_none {p : Plc} (h : ∀ x ∈ l2, moP x ≠ p) : movedF l2 p = [] := by
  unfold movedF
  rw [List.filter_eq_nil_iff.2 (fun x hx => by simpa using h x hx)]
  rfl
theorem held_app (a b : List Hld) (p : Plc) : heldF (a ++ b) p = heldF a p ++ heldF b p := by unfold heldF; rw [List.filter_append, List.map_append]
theorem moved_app (a b : List Mov) (p : Plc) : movedF (a ++ b) p = movedF a p ++ movedF b p := by unfold movedF; rw [List.filter_append, List.map_append]
open Classical in
theorem held_one (h : Hld) (p : Plc) : (heldF [h] p).sum = if hoP h = p ∧ h.f4 = 0 then h.f3 else 0 := by
  unfold heldF
  by_cases c : hoP h = p ∧ h.f4 = 0
  · rw [if_pos c, List.filter_cons_of_pos (by simpa using c)]
    simp
  · rw [if_neg c, List.filter_cons_of_neg (by simpa using c)]
    rfl
open Classical in
theorem moved_one (m : Mov) (p : Plc) : (movedF [m] p).sum = if moP m = p then m.f3 else 0 := by
  unfold movedF
  by_cases c : moP m = p
  · rw [if_pos c, List.filter_cons_of_pos (by simpa using c)]
    simp
  · rw [if_neg c, List.filter_cons_of_neg (by simpa using c)]
    rfl

/-- What Find tells of any place. -/
theorem LInv.find (h : LInv l0 l1 l2) (p : Plc) : 0 ≤ (findF l0 p).f3 ∧ (findF l0 p).f3 ≤ (findF l0 p).f2 ∧ (findF l0 p).f2 ≤ maxI ∧ (heldF l1 p).sum = (findF l0 p).f3 ∧ (movedF l2 p).sum = (findF l0 p).f2 := by
  by_cases hp : p ∈ l0.map stP
  · obtain ⟨s, hs, rfl⟩ := List.mem_map.1 hp
    rw [find_known h.up hs]
    obtain ⟨g1, g2, g3, g4, g5⟩ := h.st s hs
    exact ⟨g3, g4, g5, h.held s hs, h.moved s hs⟩
  · rw [find_not hp, held_none (fun x hx hx0 e => hp (by rw [← e]; exact h.hoIn x hx hx0)), moved_none (fun x hx e => hp (by rw [← e]; exact h.moIn x hx))]
    exact ⟨Int.le_refl _, Int.le_refl _, show (0 : Int) ≤ 9223372036854775807 by decide, rfl, rfl⟩
theorem LInv.findG (h : LInv l0 l1 l2) (p : Plc) : i64B (findF l0 p).f2 ∧ i64B (findF l0 p).f3 := by
  obtain ⟨h1, h2, h3, _⟩ := h.find p
  unfold maxI at h3
  exact ⟨⟨by omega, by omega⟩, ⟨by omega, by omega⟩⟩

theorem place_kept (hu : Up0 l0) (s : Stk) {q : Plc} (h : q ∈ l0.map stP) : q ∈ (putF l0 s).map stP := by
  obtain ⟨x, hx, rfl⟩ := List.mem_map.1 h
  by_cases e : stP x = stP s
  · exact List.mem_map.2 ⟨s, ((put_law hu s).2.1 s).2 (.inl rfl), e.symm⟩
  · exact List.mem_map.2 ⟨x, ((put_law hu s).2.1 x).2 (.inr ⟨hx, e⟩), rfl⟩
theorem place_new (hu : Up0 l0) (s : Stk) : stP s ∈ (putF l0 s).map stP := List.mem_map.2 ⟨s, ((put_law hu s).2.1 s).2 (.inl rfl), rfl⟩

/-- So many more, or fewer, are on hand. -/
theorem LInv.move (h : LInv l0 l1 l2) {p : Plc} {n kind hold : Int} (h1 : nameB p.1 = true) (h2 : nameB p.2 = true) (hn : n ≠ 0) (hi : i64B n) (hk : (kind = 1 ∨ kind = 6 ∨ kind = 7) ∧ hold = 0 ∨ kind = 3 ∧ 1 ≤ hold) (hh : hold ≤ 10000)
    (hlo : (findF l0 p).f3 ≤ (findF l0 p).f2 + n) (hhi : (findF l0 p).f2 + n ≤ maxI) : LInv (movedS l0 p n) l1 (movedM l2 p n kind hold) ∧ (movedS l0 p n).length ≤ l0.length + 1 ∧ (movedM l2 p n kind hold).length = l2.length + 1 := by
  obtain ⟨f1, f2, f3, f4, f5⟩ := h.find p
  have hpl := find_place l0 p
  have hw : wrap64 ((findF l0 p).f2 + n) = (findF l0 p).f2 + n := by unfold maxI at *; unfold wrap64; omega
  obtain ⟨s, hs⟩ : ∃ s : Stk, s = ⟨(findF l0 p).f0, (findF l0 p).f1, (findF l0 p).f2 + n, (findF l0 p).f3⟩ := ⟨_, rfl⟩
  have e0 : movedS l0 p n = putF l0 s := by unfold movedS; rw [hw, hs]
  have hsp : stP s = p := by rw [hs]; exact hpl
  have hs2 : s.f2 = (findF l0 p).f2 + n := by rw [hs]
  have hs3 : s.f3 = (findF l0 p).f3 := by rw [hs]
  have hs0 : s.f0 = p.1 := congrArg Prod.fst hsp
  have hs1 : s.f1 = p.2 := congrArg Prod.snd hsp
  obtain ⟨p1, p2, p3⟩ := put_law h.up s
  rw [e0]
  unfold movedM
  refine ⟨⟨p1, fun x hx => ?_, h.ho, fun x hx hx0 => place_kept h.up s (h.hoIn x hx hx0), fun j hj => ?_, fun m hm => ?_, fun x hx => ?_, fun x hx => ?_⟩, p3, by simp⟩
  · rcases (p2 x).1 hx with rfl | ⟨hx, _⟩
    · rw [hs0, hs1, hs2, hs3]
      exact ⟨h1, h2, f1, hlo, hhi⟩
    · exact h.st x hx
  · by_cases hj2 : j < l2.length
    · rw [List.getElem_append_left hj2]
      exact h.mo j hj2
    · have : j = l2.length := by simp at hj; omega
      subst this
      rw [List.getElem_append_right (Nat.le_refl _)]
      simp only [Nat.sub_self, List.getElem_cons_zero]
      refine ⟨⟨?_, rfl, h1, h2, hn⟩, hi, hh⟩
      rcases hk with ⟨a, b⟩ | ⟨a, b⟩
      · exact .inl ⟨a, b⟩
      · exact .inr ⟨a, b⟩
  · rcases List.mem_append.1 hm with hm | hm
    · exact place_kept h.up s (h.moIn m hm)
    · rw [List.mem_singleton.1 hm]
      have := place_new h.up s
      rw [hsp] at this
      exact this
  · rcases (p2 x).1 hx with rfl | ⟨hx, _⟩
    · rw [hsp, hs3]
      exact f4
    · exact h.held x hx
  · rw [moved_app, List.sum_append, moved_one]
    rcases (p2 x).1 hx with rfl | ⟨hx, hne⟩
    · rw [hsp, hs2, f5, if_pos (show moP _ = p from rfl)]
    · rw [h.moved x hx, if_neg (fun e => hne (by rw [hsp]; exact e.symm))]
      omega

open Classical in
/-- So many more, or fewer, are held, and the holds say so. -/
theorem LInv.rehold (h : LInv l0 l1 l2) {p : Plc} {n : Int} {l1' : List Hld} (hp : p ∈ l0.map stP) (hho : ∀ j (h : j < l1'.length), hoB j l1'[j] ∧ l1'[j].f3 ≤ maxI ∧ l1'[j].f5 ≤ maxI) (hin : ∀ x ∈ l1', x.f4 = 0 → hoP x ∈ l0.map stP)
    (hsum : ∀ q, (heldF l1' q).sum = (heldF l1 q).sum + if q = p then n else 0) (hlo : 0 ≤ (findF l0 p).f3 + n) (hhi : (findF l0 p).f3 + n ≤ (findF l0 p).f2) : LInv (heldF2 l0 p n) l1' l2 ∧ (heldF2 l0 p n).length = l0.length := by
  obtain ⟨f1, f2, f3, f4, f5⟩ := h.find p
  obtain ⟨s0, hs0m, hs0p⟩ := List.mem_map.1 hp
  have hfs : findF l0 p = s0 := by rw [← hs0p]; exact find_known h.up hs0m
  have hpl := find_place l0 p
  have hw : wrap64 ((findF l0 p).f3 + n) = (findF l0 p).f3 + n := by unfold maxI at *; unfold wrap64; omega
  obtain ⟨s, hs⟩ : ∃ s : Stk, s = ⟨(findF l0 p).f0, (findF l0 p).f1, (findF l0 p).f2, (findF l0 p).f3 + n⟩ := ⟨_, rfl⟩
  have e0 : heldF2 l0 p n = putF l0 s := by unfold heldF2; rw [hw, hs]
  have hsp : stP s = p := by rw [hs]; exact hpl
  have hs2 : s.f2 = (findF l0 p).f2 := by rw [hs]
  have hs3 : s.f3 = (findF l0 p).f3 + n := by rw [hs]
  have hn0 := h.st s0 hs0m
  have hs0 : s.f0 = s0.f0 := by rw [hs, hfs]
  have hs1 : s.f1 = s0.f1 := by rw [hs, hfs]
  obtain ⟨p1, p2, _⟩ := put_law h.up s
  have p3 := put_len h.up s (by rw [hsp]; exact hp)
  rw [e0]
  refine ⟨⟨p1, fun x hx => ?_, hho, fun x hx hx0 => place_kept h.up s (hin x hx hx0), h.mo, fun m hm => place_kept h.up s (h.moIn m hm), fun x hx => ?_, fun x hx => ?_⟩, p3⟩
  · rcases (p2 x).1 hx with rfl | ⟨hx, _⟩
    · rw [hs0, hs1, hs2, hs3]
      exact ⟨hn0.1, hn0.2.1, hlo, hhi, f3⟩
    · exact h.st x hx
  · rw [hsum]
    rcases (p2 x).1 hx with rfl | ⟨hx, hne⟩
    · rw [hsp, hs3, f4, if_pos rfl]
    · rw [h.held x hx, if_neg (fun e => hne (by rw [hsp]; exact e))]
      omega
  · rcases (p2 x).1 hx with rfl | ⟨hx, _⟩
    · rw [hsp, hs2]
      exact f5
    · exact h.moved x hx

/-- A hold is laid. -/
theorem LInv.hold (h : LInv l0 l1 l2) {p : Plc} {q due : Int} (hq : 1 ≤ q) (hd : 0 ≤ due) (hd2 : due ≤ maxI) (hfree : q ≤ (findF l0 p).f2 - (findF l0 p).f3) (h1 : nameB p.1 = true) (h2 : nameB p.2 = true) :
    LInv (heldF2 l0 p q) (l1 ++ [⟨(l1.length : Int) + 1, p.1, p.2, q, 0, due⟩]) l2 ∧ (heldF2 l0 p q).length = l0.length := by
  obtain ⟨f1, f2, f3, f4, f5⟩ := h.find p
  have hp : p ∈ l0.map stP := Classical.byContradiction fun hp => by
    rw [find_not hp] at hfree
    dsimp only at hfree
    omega
  refine h.rehold hp (fun j hj => ?_) (fun x hx hx0 => ?_) (fun r => ?_) (by omega) (by omega)
  · by_cases hj2 : j < l1.length
    · rw [List.getElem_append_left hj2]
      exact h.ho j hj2
    · have : j = l1.length := by simp at hj; omega
      subst this
      rw [List.getElem_append_right (Nat.le_refl _)]
      simp only [Nat.sub_self, List.getElem_cons_zero]
      exact ⟨⟨rfl, h1, h2, hq, Int.le_refl _, show (0 : Int) ≤ 2 by decide, hd⟩, by unfold maxI at *; omega, hd2⟩
  · rcases List.mem_append.1 hx with hx | hx
    · exact h.hoIn x hx hx0
    · rw [List.mem_singleton.1 hx]
      exact hp
  · rw [held_app, List.sum_append, held_one]
    congr 1
    by_cases e : r = p
    · rw [if_pos e, if_pos ⟨e.symm, rfl⟩]
    · rw [if_neg e, if_neg (fun h => e h.1.symm)]

/-- A hold is over. -/
def stateF (l1 : List Hld) (k : Nat) (n : Int) : List Hld := l1.set k ⟨(l1.getD k z107).f0, (l1.getD k z107).f1, (l1.getD k z107).f2, (l1.getD k z107).f3, n, (l1.getD k z107).f5⟩
theorem held_set (l1 : List Hld) (k : Nat) (hk : k < l1.length) (h' : Hld) (q : Plc) : (heldF (l1.set k h') q).sum = (heldF l1 q).sum - (heldF [l1[k]] q).sum + (heldF [h'] q).sum := by
  have e1 : l1 = l1.take k ++ [l1[k]] ++ l1.drop (k + 1) := by rw [List.append_assoc, List.singleton_append, List.getElem_cons_drop, List.take_append_drop]
  have e2 : l1.set k h' = l1.take k ++ [h'] ++ l1.drop (k + 1) := by rw [List.set_eq_take_append_cons_drop, if_pos hk]; simp
  rw [e2, held_app, held_app, List.sum_append, List.sum_append]
  have e3 : (heldF l1 q).sum = (heldF (l1.take k) q).sum + (heldF [l1[k]] q).sum + (heldF (l1.drop (k + 1)) q).sum := by
    conv => lhs; rw [e1, held_app, held_app, List.sum_append, List.sum_append]
  rw [e3]
  omega
theorem LInv.over (h : LInv l0 l1 l2) {k : Nat} (hk : k < l1.length) (h0 : l1[k].f4 = 0) {n : Int} (hn : n = 1 ∨ n = 2) :
    LInv (heldF2 l0 (hoP l1[k]) (wrap64 (-l1[k].f3))) (stateF l1 k n) l2 ∧ (heldF2 l0 (hoP l1[k]) (wrap64 (-l1[k].f3))).length = l0.length ∧ wrap64 (-l1[k].f3) = -l1[k].f3 ∧ 1 ≤ l1[k].f3 ∧ l1[k].f3 ≤ (findF l0 (hoP l1[k])).f3 := by
  have hmem := List.getElem_mem hk
  have hp := h.hoIn _ hmem h0
  obtain ⟨f1, f2, f3, f4, f5⟩ := h.find (hoP l1[k])
  obtain ⟨⟨g1, g2, g3, g4, g5, g6, g7⟩, g8, g9⟩ := h.ho k hk
  have hw : wrap64 (-l1[k].f3) = -l1[k].f3 := by unfold maxI at g8; unfold wrap64; omega
  have hge : l1[k].f3 ≤ (heldF l1 (hoP l1[k])).sum := by
    have e1 : l1 = l1.take k ++ [l1[k]] ++ l1.drop (k + 1) := by rw [List.append_assoc, List.singleton_append, List.getElem_cons_drop, List.take_append_drop]
    have hpos : ∀ (a : List Hld), (∀ x ∈ a, 0 ≤ x.f3) → 0 ≤ (heldF a (hoP l1[k])).sum := fun a ha => by
      have hall : ∀ y ∈ heldF a (hoP l1[k]), (0 : Int) ≤ y := fun y hy => by
        unfold heldF at hy
        obtain ⟨x, hx, rfl⟩ := List.mem_map.1 hy
        exact ha x (List.mem_filter.1 hx).1
      generalize heldF a (hoP l1[k]) = zs at hall
      clear e1
      induction zs with
      | nil => exact Int.le_refl _
      | cons z zs ih =>
        have a1 := hall z (by simp)
        have a2 := ih (fun y hy => hall y (by simp [hy]))
        rw [List.sum_cons]
        omega
    have hx3 : ∀ x ∈ l1, 0 ≤ x.f3 := fun x hx => by
      obtain ⟨j, hj, rfl⟩ := List.getElem_of_mem hx
      have := (h.ho j hj).1.2.2.2.1
      omega
    have e3 : (heldF l1 (hoP l1[k])).sum = (heldF (l1.take k) (hoP l1[k])).sum + (heldF [l1[k]] (hoP l1[k])).sum + (heldF (l1.drop (k + 1)) (hoP l1[k])).sum := by
      generalize hoP l1[k] = pk
      conv => lhs; rw [e1, held_app, held_app, List.sum_append, List.sum_append]
    have a1 := hpos (l1.take k) (fun x hx => hx3 x (List.mem_of_mem_take hx))
    have a2 := hpos (l1.drop (k + 1)) (fun x hx => hx3 x (List.mem_of_mem_drop hx))
    have a3 := held_one l1[k] (hoP l1[k])
    rw [if_pos ⟨rfl, h0⟩] at a3
    rw [e3, a3]
    omega
  rw [f4] at hge
  have hgd : l1.getD k z107 = l1[k] := by rw [List.getD_eq_getElem?_getD, List.getElem?_eq_getElem hk]; rfl
  rw [hw]
  have key : LInv (heldF2 l0 (hoP l1[k]) (-l1[k].f3)) (stateF l1 k n) l2 ∧ (heldF2 l0 (hoP l1[k]) (-l1[k].f3)).length = l0.length := by
    rw [show stateF l1 k n = l1.set k ⟨l1[k].f0, l1[k].f1, l1[k].f2, l1[k].f3, n, l1[k].f5⟩ from by unfold stateF; rw [hgd]]
    refine h.rehold hp (fun j hj => ?_) (fun x hx hx0 => ?_) (fun r => ?_) (by omega) (by omega)
    · rw [List.length_set] at hj
      by_cases e : k = j
      · subst e
        rw [List.getElem_set_self]
        exact ⟨⟨g1, g2, g3, g4, by dsimp only; omega, by dsimp only; omega, g7⟩, g8, g9⟩
      · rw [List.getElem_set_ne e]
        exact h.ho j hj
    · rcases List.mem_or_eq_of_mem_set hx with hx | rfl
      · exact h.hoIn x hx hx0
      · dsimp only at hx0
        omega
    · rw [held_set l1 k hk, held_one, held_one]
      rw [if_neg (show ¬ (_ ∧ n = 0) from fun h => by omega)]
      by_cases e : r = hoP l1[k]
      · rw [if_pos e, if_pos ⟨e.symm, h0⟩]
        omega
      · rw [if_neg e, if_neg (fun h => e h.1.symm)]
        omega
  exact ⟨key.1, key.2, rfl, g4, hge⟩
theorem stateF_len (l1 : List Hld) (k : Nat) (n : Int) : (stateF l1 k n).length = l1.length := by unfold stateF; rw [List.length_set]
end Go.Proofs.Ytofkhcgkahkagaa
/- An append of a row of elements that is read, as an equation of the run. -/
namespace Go.Proofs.Ytofkhcgkahkagaa
open Go.RowKit Go.Shelf Go.Proofs.YtofkhcgkahkagaaW.PrintWords Go.Proofs.YtofkhcgkahkagaaW.PrintLast Go.Proofs.YtofkhcgkahkagaaW.PrintMore
set_option linter.unusedVariables false
set_option linter.unusedSimpArgs false

theorem append_rows {α : Type} (d : Kd α) {P : Program} (base : Nat) (t ty e : TypeId) (z : Value) (bytes : Nat) (ht : P.underlying t = some (.slice e)) (hinfo : (P.info? e).map (fun i => (i.zero, i.size, i.bytes)) = some (some z, d.sz, bytes)) (hz : z.cells.size = d.sz) (hs0 : 0 < d.sz) (hb0 : 0 < bytes)
    (W : World) (v : Value) (xs ys : List α) (A : Option Addr) (c : Nat) (HO : d.R e W base (fun _ => True) v xs) (HR : d.C W A ys.length ys) (hKM : ∀ x cs, d.K W x cs → d.M W base (fun _ => False) x cs) (hbase : base ≤ W.heap.size) (hl : (xs.length + ys.length) * bytes ≤ 140737488355328) :
    ∃ v1 w1, (Builtin.append_ #[t, t] ty #[v, .slice A ys.length c]).run P W = .ok v1 w1 ∧ d.R e w1 base (fun _ => True) v1 (xs ++ ys) ∧ W.grownBy w1 v.ownBlock := by
  obtain ⟨i0, hi, hzz⟩ := Option.map_eq_some_iff.1 hinfo
  simp only [Prod.mk.injEq] at hzz
  obtain ⟨hz0, hz1, hz2⟩ := hzz
  have hlen : xs.length + ys.length ≤ 140737488355328 := Nat.le_trans (Nat.le_mul_of_pos_right _ hb0) hl
  obtain ⟨hok, inner, hown, hr⟩ := HO
  rcases A with _ | ad
  · have h0 : ys.length = 0 := by
      rcases Nat.eq_zero_or_pos ys.length with h0 | h0
      · exact h0
      · obtain ⟨ad, h, _⟩ := HR.2.2 h0
        cases h
    obtain rfl : ys = [] := List.eq_nil_of_length_eq_zero h0
    refine ⟨v, W, ?_, by rw [List.append_nil]; exact ⟨hok, inner, hown, hr⟩, World.grownBy.refl W _⟩
    rcases hown.2 with ⟨rfl, hn⟩ | ⟨g, cap, cur, rfl, _, _, hnc, _⟩
    · simp [Builtin.append_, run_underlying ht, sizeOf, typeInfo, hi, Builtin.lenOf, Builtin.firstCells]
    · simp [Builtin.append_, run_underlying ht, sizeOf, typeInfo, hi, Builtin.lenOf, Builtin.firstCells, hnc, storeCells]
  · obtain ⟨news, hnr, hnc⟩ := ReadsRow.inner_ HR
    have hnM : Reps (d.M W base (fun _ => False)) d.sz ys news := hnr.imp_ (fun p c hp => hKM p c hp)
    have hone : ∀ u ∈ news, u.oneCell' = true := by
      intro u hu
      obtain ⟨q, hq, rfl⟩ := List.mem_iff_getElem.1 hu
      have hql : q / d.sz < ys.length := by
        rw [Nat.div_lt_iff_lt_mul hs0]
        rw [← hnM.1]
        exact hq
      have hc := hnM.2 (q / d.sz) _ (List.getElem?_eq_getElem hql)
      refine d.K_one (d.K_of_M hc) _ ?_
      rw [List.mem_iff_getElem?]
      refine ⟨q % d.sz, ?_⟩
      rw [List.getElem?_take, if_pos (Nat.mod_lt _ hs0), List.getElem?_drop, Nat.mul_comm, Nat.div_add_mod, List.getElem?_eq_getElem hq]
    obtain ⟨v1, w1, hrun, h2, hg, _, hat⟩ := run_append_own_at (P := P) W base t ty e i0 z d.sz bytes ht hi hz0 hz1 hz2 hz hs0 v xs.length inner hown ad ys.length c news hnM.1 hnc hone (by simp only [maxLen]; omega) hl hbase
    have hat' : v1.ownBlock = v.ownBlock ∨ ∃ b, v1.ownBlock = some b ∧ W.heap.size ≤ b := by
      rcases hat with hat | hat
      · exact .inl hat
      · exact .inr ⟨_, hat, Nat.le_refl _⟩
    have hne : ∀ k, some k ≠ v.ownBlock → k < W.heap.size → some k ≠ v1.ownBlock := by
      intro k hk hlt
      rcases hat' with hat | ⟨b, hb, hle⟩
      · rw [hat]; exact hk
      · rw [hb]
        intro he
        injection he with he
        omega
    have step : ∀ {q : α} {c : List Value} {o : Nat → Prop}, d.M W base o q c → (∀ k, o k → True ∧ some k ≠ v.ownBlock) → d.M w1 base (fun k => True ∧ some k ≠ v1.ownBlock) q c := by
      intro q c o hq ho
      have h1 := d.M_move (w1 := w1) (fun k hk => hg.block k hk.2.2.1 (ho k hk.1).2) (d.M_bound hq)
      exact d.M_mono (fun k hk => ⟨trivial, hne k (ho k hk.1).2 hk.2.2.1⟩) h1
    exact ⟨v1, w1, hrun, ⟨fun k hk => trivial, inner ++ news, by rw [List.length_append]; exact h2, Kd.reps_append (hr.imp_ (fun _ _ hq => step hq (fun _ hk => hk))) (hnM.imp_ (fun _ _ hq => step hq (fun _ hk => hk.elim)))⟩, hg⟩
end Go.Proofs.Ytofkhcgkahkagaa
/- The reference's state: a hold in another state. -/
namespace Go.Proofs.Ytofkhcgkahkagaa
open Go.RowKit Go.Proofs.YtofkhcgkahkagaaW.PrintWords Go.Proofs.YtofkhcgkahkagaaW.PrintLast Go.Proofs.YtofkhcgkahkagaaW.PrintMore Go.Proofs.Ytofkhcgkahkagaa.PPromiseLines
set_option linter.unusedVariables false
set_option linter.unusedSimpArgs false

theorem stateF_split (l1 : List Hld) {k : Nat} (hk : k < l1.length) (n : Int) : l1.take k ++ [⟨l1[k].f0, l1[k].f1, l1[k].f2, l1[k].f3, n, l1[k].f5⟩] ++ l1.drop (k + 1) = stateF l1 k n := by
  have hgd : l1.getD k z107 = l1[k] := by rw [List.getD_eq_getElem?_getD, List.getElem?_eq_getElem hk]; rfl
  unfold stateF
  rw [hgd, List.set_eq_take_append_cons_drop, if_pos hk]
  simp
theorem K_M_ho (V : World) (base : Nat) : ∀ x cs, k107.K V x cs → k107.M V base (fun _ => False) x cs := fun x cs h => by
  obtain rfl := k107_open h
  exact k107_mkM _ _ _ x
section
variable (l0 : List S100) (l1 : List S107) (l2 : List S111) (A0 : Option Addr) (c0 : Nat) (A1 : Option Addr) (c1 : Nat) (A2 : Option Addr) (c2 : Nat) (ops : Int) (w : World)
set_option maxRecDepth 100000 in
set_option maxHeartbeats 2000000 in
theorem state_calls (k : Nat) (n : Int) (hk : k < l1.length) (hl1 : l1.length ≤ 4000) (hL : LedgerAt l0 l1 l2 A0 c0 A1 c1 A2 c2 w) :
    Calls Try.prog 109 #[.agg #[.slice A0 l0.length c0, .slice A1 l1.length c1, .slice A2 l2.length c2, .int .i64 ops], .int .i64 k, .int .i64 n] w (LedEnd l0 (stateF l1 k n) l2 ops w) := by
  have hu := Try.underlying41
  have huh := Try.underlying107
  obtain ⟨W0, hW0⟩ : ∃ W0, (w.alloc (.cells #[.slice A0 l0.length c0, .slice A1 l1.length c1, .slice A2 l2.length c2, .int .i64 ops] 41)).alloc (.cells #[.slice none 0 0, .slice none 0 0, .slice none 0 0, .int .i64 0] 41) = W0 := ⟨_, rfl⟩
  obtain ⟨hB, h0, h1⟩ : Below w.heap.size w W0 ∧ W0.heap[w.heap.size]? = some (.cells #[.slice A0 l0.length c0, .slice A1 l1.length c1, .slice A2 l2.length c2, .int .i64 ops] 41 (0, 0)) ∧ W0.heap[w.heap.size + 1]? = some (.cells #[.slice none 0 0, .slice none 0 0, .slice none 0 0, .int .i64 0] 41 (0, 0)) := by rw [← hW0]; exact two_boxes
  obtain ⟨ad, rfl, x0, x1, x2, x3, x4, x5⟩ := at_T107 hL.r1 (k : Int) (by omega) (by omega)
  rw [Int.toNat_natCast] at x0 x1 x2 x3 x4 x5
  have hr : rd_T107 l1 k = l1[k] := rd_H hk
  rw [hr] at x0 x1 x2 x3 x4 x5
  have hsp := stateF_split l1 hk n
  obtain ⟨h, hh⟩ : ∃ h, l1[k] = h := ⟨_, rfl⟩
  rw [hh] at x0 x1 x2 x3 x4 x5 hsp
  have hC0 := Kd.C_below hL.r1 hB
  have hlt : (l1.take k).length = k := by rw [List.length_take]; omega
  have hld : (l1.drop (k + 1)).length = l1.length - (k + 1) := List.length_drop
  have hh1 := hL.h1
  obtain ⟨v1, w1, r1, R1, g1⟩ := append_rows k107 (P := Try.prog) W0.heap.size 38 38 107 _ 64 Try.underlying38 info107 rfl (by decide) (by decide) W0 (.slice none 0 0) [] (l1.take k) (some ad) c1 (Kd.R_nil _ _ _ _ _) (Kd.C_take hC0 (by omega)) (K_M_ho _ _) (Nat.le_refl _) (by rw [hlt, List.length_nil]; omega)
  rw [hlt] at r1
  rw [List.nil_append] at R1
  have hb1 : Below W0.heap.size W0 w1 := (Below.refl _ W0).grown g1 (Nat.le_refl _) (fun i hi => by simp [Value.ownBlock] at hi)
  obtain ⟨W2, hW2⟩ : ∃ W2, w1.alloc (.cells #[.int .i64 h.f0, .string h.f1, .string h.f2, .int .i64 h.f3, .int .i64 n, .int .i64 h.f5] 107) = W2 := ⟨_, rfl⟩
  have hb2 : Below W0.heap.size W0 W2 := by rw [← hW2]; exact hb1.alloc hb1.size _
  have R2 : Kd.R k107 107 W2 W0.heap.size (fun _ => True) v1 (l1.take k) := by rw [← hW2]; exact Kd.R_alloc R1 _
  have n2 : W2.heap[w1.heap.size]? = some (.cells #[.int .i64 h.f0, .string h.f1, .string h.f2, .int .i64 h.f3, .int .i64 n, .int .i64 h.f5] 107 (0, 0)) := by rw [← hW2]; exact blk_new _ _
  obtain ⟨A3, c3, w3, r2, R3, g2⟩ := append_made k107 (P := Try.prog) W0.heap.size 38 38 107 _ 64 Try.underlying38 info107 rfl (by decide) (by decide) W2 v1 (l1.take k) ⟨h.f0, h.f1, h.f2, h.f3, n, h.f5⟩ [.int .i64 h.f0, .string h.f1, .string h.f2, .int .i64 h.f3, .int .i64 n, .int .i64 h.f5] (fun _ => True) (fun _ => False)
    (k107_mkM _ _ _ ⟨h.f0, h.f1, h.f2, h.f3, n, h.f5⟩) (fun _ h => h.elim) (fun _ _ => trivial) R2 hb2.size (by rw [hlt]; omega)
  have hb3 : Below W0.heap.size W0 w3 := hb2.grown g2 hb2.size (fun i hi => by obtain ⟨inner, ho⟩ := Kd.R_own R2; exact (ho.lt i hi).1)
  have hC3 := Kd.C_drop (c := c1) (m := k + 1) (Kd.C_below hC0 hb3) (by omega) hh1
  obtain ⟨v4, w4, r3, R4, g3⟩ := append_rows k107 (P := Try.prog) W0.heap.size 38 38 107 _ 64 Try.underlying38 info107 rfl (by decide) (by decide) w3 _ (l1.take k ++ [⟨h.f0, h.f1, h.f2, h.f3, n, h.f5⟩]) (l1.drop (k + 1)) _ (c1 - (k + 1)) R3 hC3 (K_M_ho _ _) hb3.size (by rw [List.length_append, hlt, hld, List.length_singleton]; omega)
  have hb4 : Below W0.heap.size W0 w4 := hb3.grown g3 hb3.size (fun i hi => by obtain ⟨inner, ho⟩ := Kd.R_own R3; exact (ho.lt i hi).1)
  have hlen : (l1.take k ++ [(⟨h.f0, h.f1, h.f2, h.f3, n, h.f5⟩ : Hld)]).length = k + 1 := by rw [List.length_append, hlt, List.length_singleton]
  rw [hld, hlen, show (k107).sz = 6 from rfl] at r3
  rw [hlen] at r2
  rw [hsp] at R4
  obtain ⟨A4, c4, rfl⟩ := Kd.R_slice R4
  obtain ⟨M, hM⟩ : ∃ M, stateF l1 k n = M := ⟨_, rfl⟩
  rw [hM] at R4 r3 ⊢
  have hrd4 := Kd.R_reads' R4
  have q0 := blk_below h0 hb4
  have q1 := blk_below h1 hb4
  have y0 := cell_below hb1 (cell_below hB x0)
  have y1 := cell_below hb1 (cell_below hB x1)
  have y2 := cell_below hb1 (cell_below hB x2)
  have y3 := cell_below hb1 (cell_below hB x3)
  have y4 := cell_below hb1 (cell_below hB x4)
  have y5 := cell_below hb1 (cell_below hB x5)
  have hd1 : W0.cell? ⟨w.heap.size, 1, none⟩ = some (.slice (some ad) l1.length c1) := (blk_cell h0 1).trans rfl
  have he1 : w1.cell? ⟨w.heap.size, 1, none⟩ = some (.slice (some ad) l1.length c1) := (blk_cell (blk_below h0 hb1) 1).trans rfl
  have hg1 : w3.cell? ⟨w.heap.size, 1, none⟩ = some (.slice (some ad) l1.length c1) := (blk_cell (blk_below h0 hb3) 1).trans rfl
  have hn0 : W2.cell? ⟨w1.heap.size, 0, none⟩ = some (.int .i64 h.f0) := (blk_cell n2 0).trans rfl
  have hn1 : W2.cell? ⟨w1.heap.size, 1, none⟩ = some (.string h.f1) := (blk_cell n2 1).trans rfl
  have hn2 : W2.cell? ⟨w1.heap.size, 2, none⟩ = some (.string h.f2) := (blk_cell n2 2).trans rfl
  have hn3 : W2.cell? ⟨w1.heap.size, 3, none⟩ = some (.int .i64 h.f3) := (blk_cell n2 3).trans rfl
  have hn4 : W2.cell? ⟨w1.heap.size, 4, none⟩ = some (.int .i64 n) := (blk_cell n2 4).trans rfl
  have hn5 : W2.cell? ⟨w1.heap.size, 5, none⟩ = some (.int .i64 h.f5) := (blk_cell n2 5).trans rfl
  have hm0 : w4.cell? ⟨w.heap.size, 0, none⟩ = some (.slice A0 l0.length c0) := (blk_cell q0 0).trans rfl
  have hm1 : w4.cell? ⟨w.heap.size, 1, none⟩ = some (.slice (some ad) l1.length c1) := (blk_cell q0 1).trans rfl
  have hm2 : w4.cell? ⟨w.heap.size, 2, none⟩ = some (.slice A2 l2.length c2) := (blk_cell q0 2).trans rfl
  have hm3 : w4.cell? ⟨w.heap.size, 3, none⟩ = some (.int .i64 ops) := (blk_cell q0 3).trans rfl
  have hz1 := blk_frozen q0 1
  have hr0 : w4.cell? ⟨w.heap.size + 1, 0, none⟩ = some (.slice none 0 0) := (blk_cell q1 0).trans rfl
  have hf0 := blk_frozen q1 0
  have hr1 : w4.cell? ⟨w.heap.size + 1, 1, none⟩ = some (.slice none 0 0) := (blk_cell q1 1).trans rfl
  have hf1 := blk_frozen q1 1
  have hr2 : w4.cell? ⟨w.heap.size + 1, 2, none⟩ = some (.slice none 0 0) := (blk_cell q1 2).trans rfl
  have hf2 := blk_frozen q1 2
  have hr3 : w4.cell? ⟨w.heap.size + 1, 3, none⟩ = some (.int .i64 0) := (blk_cell q1 3).trans rfl
  have hf3 := blk_frozen q1 3
  have hk1 : (k : Int) < (l1.length : Int) := by omega
  have hk2 : (0 : Int) ≤ (k : Int) := Int.natCast_nonneg _
  have hmaxl : l1.length ≤ 9223372036854775807 := by omega
  have HL4 := Lib.hid (show LedgerAt l0 M l2 A0 c0 A4 c4 A2 c2 w4 ∧ Below w.heap.size w w4 from by
    have hb := hB.trans (hb4.mono hB.size)
    exact ⟨⟨Kd.C_below hL.r0 hb, hrd4.2.2, Kd.C_below hL.r2 hb, hL.h0, hrd4.2.1, hL.h2⟩, hb⟩)
  have HQ := Lib.hid (And.intro q0 q1)
  clear hrd4 q0 q1 n2 R1 R2 R3 R4 g1 g2 g3 hb1 hb2 hb3 hb4 hC0 hC3 h0 h1 hM hsp hh hr x0 x1 x2 x3 x4 x5 hlt hld hB
  have hfin : ∀ (P : Prop), (LedgerAt l0 M l2 A0 c0 A4 c4 A2 c2 w4 → P) → P := fun P h => h HL4.out.1
  clear hfin
  by_cases hcj : c1 = k + 1
  · have hl : l1.length = k + 1 := by omega
    rw [if_pos hcj] at r3
    subst hcj
    rw [hl, Nat.sub_self] at r3
    rw [hl] at hW0 hd1 he1 hg1 hm1 hk1 ⊢
    clear hl hh1
    go_enter Try.func109, Try.ntmps109
    go_wp2_with (first
      | (at_builtin; refine wpList_append_run rfl _ _ _ rfl r1 ?_)
      | (at_builtin; refine wpList_append_run rfl _ _ _ rfl r2 ?_)
      | (at_builtin; refine wpList_append_run rfl _ _ _ rfl r3 ?_))
    have zf := blk_far (p := ⟨w.heap.size, 1, none⟩) HQ.out.2 (by show w.heap.size + 1 ≠ w.heap.size; omega) (.slice A4 M.length c4)
    refine bodyPost_ret (results_cell_row rfl _ _ (w.heap.size + 1) 41 #[.slice A0 l0.length c0, .slice A4 M.length c4, .slice A2 l2.length c2, .int .i64 ops] (0, 0) _ rfl (put4_blk zf _ _ _ _) hu rfl (by kernel_rfl)) rfl ?_
    exact ⟨A0, c0, A4, c4, A2, c2, rfl, (HL4.out.1.set HQ.out.1 (noStr_box _ _ _ _ _ _ _ _ _ _) 1 (.slice A4 M.length c4)).put4 zf (noStr_box _ _ _ _ _ _ _ _ _ _) (fun _ h => by cases h) (fun _ h => by cases h) (fun _ h => by cases h), put4_below (below_set HL4.out.2 (Nat.le_refl _)) (by omega) _ _ _ _⟩
  · rw [if_neg hcj, Option.map_some] at r3
    go_enter Try.func109, Try.ntmps109
    go_wp2_with (first
      | (at_builtin; refine wpList_append_run rfl _ _ _ rfl r1 ?_)
      | (at_builtin; refine wpList_append_run rfl _ _ _ rfl r2 ?_)
      | (at_builtin; refine wpList_append_run rfl _ _ _ rfl r3 ?_))
    have zf := blk_far (p := ⟨w.heap.size, 1, none⟩) HQ.out.2 (by show w.heap.size + 1 ≠ w.heap.size; omega) (.slice A4 M.length c4)
    refine bodyPost_ret (results_cell_row rfl _ _ (w.heap.size + 1) 41 #[.slice A0 l0.length c0, .slice A4 M.length c4, .slice A2 l2.length c2, .int .i64 ops] (0, 0) _ rfl (put4_blk zf _ _ _ _) hu rfl (by kernel_rfl)) rfl ?_
    exact ⟨A0, c0, A4, c4, A2, c2, rfl, (HL4.out.1.set HQ.out.1 (noStr_box _ _ _ _ _ _ _ _ _ _) 1 (.slice A4 M.length c4)).put4 zf (noStr_box _ _ _ _ _ _ _ _ _ _) (fun _ h => by cases h) (fun _ h => by cases h) (fun _ h => by cases h), put4_below (below_set HL4.out.2 (Nat.le_refl _)) (by omega) _ _ _ _⟩
end
end Go.Proofs.Ytofkhcgkahkagaa
/- The reference's expire. -/
namespace Go.Proofs.Ytofkhcgkahkagaa
open Go.RowKit Go.Proofs.YtofkhcgkahkagaaW.PrintWords Go.Proofs.YtofkhcgkahkagaaW.PrintLast Go.Proofs.YtofkhcgkahkagaaW.PrintMore Go.Proofs.Ytofkhcgkahkagaa.PPromiseLines
set_option linter.unusedVariables false
set_option linter.unusedSimpArgs false

/-- Between two holds. -/
structure ExI (w : World) (l0 : List Stk) (l1 : List Hld) (l2 : List Mov) (ops : Int) (m0 : List Stk) (m1 : List Hld) (B0 : Option Addr) (d0 : Nat) (B1 : Option Addr) (d1 : Nat) (B2 : Option Addr) (d2 : Nat) (V : World) : Prop where
  low : Below w.heap.size w V
  led : V.heap[w.heap.size]? = some (.cells #[.slice B0 m0.length d0, .slice B1 m1.length d1, .slice B2 l2.length d2, .int .i64 ops] 41 (0, 0))
  res : V.heap[w.heap.size + 1]? = some (.cells #[.slice none 0 0, .slice none 0 0, .slice none 0 0, .int .i64 0] 41 (0, 0))
  at_ : LedgerAt m0 m1 l2 B0 d0 B1 d1 B2 d2 V
  inv : LInv m0 m1 l2
  e0 : m0.length = l0.length
  e1 : m1.length = l1.length
section
variable (l0 : List S100) (l1 : List S107) (l2 : List S111) (A0 : Option Addr) (c0 : Nat) (A1 : Option Addr) (c1 : Nat) (A2 : Option Addr) (c2 : Nat) (ops : Int) (w : World)
set_option maxRecDepth 100000 in
set_option maxHeartbeats 4000000 in
theorem expire_calls (due : Int) (hL : LedgerAt l0 l1 l2 A0 c0 A1 c1 A2 c2 w) (hI : LInv l0 l1 l2) (hl : l0.length ≤ 4000) (hl1 : l1.length ≤ 4000) (hl2 : l2.length ≤ 4000) :
    Calls Try.prog 91 #[.agg #[.slice A0 l0.length c0, .slice A1 l1.length c1, .slice A2 l2.length c2, .int .i64 ops], .int .i64 due] w fun e w' => ∃ m0 m1, LedEnd m0 m1 l2 ops w e w' ∧ LInv m0 m1 l2 ∧ m0.length = l0.length ∧ m1.length = l1.length := by
  have hu := Try.underlying41
  have hus := Try.underlying100
  have huh := Try.underlying107
  obtain ⟨W0, hW0⟩ : ∃ W0, (w.alloc (.cells #[.slice A0 l0.length c0, .slice A1 l1.length c1, .slice A2 l2.length c2, .int .i64 ops] 41)).alloc (.cells #[.slice none 0 0, .slice none 0 0, .slice none 0 0, .int .i64 0] 41) = W0 := ⟨_, rfl⟩
  have hE0 : ExI w l0 l1 l2 ops l0 l1 A0 c0 A1 c1 A2 c2 W0 := by
    obtain ⟨hB, h0, h1⟩ : Below w.heap.size w W0 ∧ W0.heap[w.heap.size]? = some (.cells #[.slice A0 l0.length c0, .slice A1 l1.length c1, .slice A2 l2.length c2, .int .i64 ops] 41 (0, 0)) ∧ W0.heap[w.heap.size + 1]? = some (.cells #[.slice none 0 0, .slice none 0 0, .slice none 0 0, .int .i64 0] 41 (0, 0)) := by rw [← hW0]; exact two_boxes
    exact ⟨hB, h0, h1, hL.below hB, hI, rfl, rfl⟩
  have hmaxl : l1.length ≤ 9223372036854775807 := by omega
  go_enter Try.func91, Try.ntmps91
  go_wp2
  go_loopw [5] (fun i wr => ∃ (k : Nat) (m0 : List Stk) (m1 : List Hld) (B0 : Option Addr) (d0 : Nat) (B1 : Option Addr) (d1 : Nat) (B2 : Option Addr) (d2 : Nat), k ≤ l1.length ∧ i = .int .i64 k ∧ ExI w l0 l1 l2 ops m0 m1 B0 d0 B1 d1 B2 d2 wr)
    (fun i _ => l1.length - (intOf i).toNat)
  case atStart => exact ⟨0, l0, l1, _, _, _, _, _, _, Nat.zero_le _, rfl, hE0⟩
  case round =>
    obtain ⟨k, m0, m1, B0, d0, B1, d1, B2, d2, hk, rfl, hE⟩ := hrel
    clear hE0
    have he1 := hE.e1
    have hmax1 : m1.length ≤ 9223372036854775807 := by omega
    by_cases hlt : k < l1.length
    · have hkm : k < m1.length := by omega
      have hd : decide ((k : Int) < (m1.length : Int)) = true := decide_eq_true (by omega)
      have hk1 : (k : Int) < (m1.length : Int) := by omega
      have hm4 : m1.length ≤ 4000 := by omega
      have HE1 := Lib.hid he1
      clear he1
      have hk2 : (0 : Int) ≤ (k : Int) := Int.natCast_nonneg _
      obtain ⟨ad, rfl, x0, x1, x2, x3, x4, x5⟩ := at_T107 hE.at_.r1 (k : Int) (by omega) (by omega)
      rw [Int.toNat_natCast] at x0 x1 x2 x3 x4 x5
      have hr : rd_T107 m1 k = m1[k] := rd_H hkm
      rw [hr] at x0 x1 x2 x3 x4 x5
      have hover := fun h4 => hE.inv.over hkm h4 (n := 2) (.inr rfl)
      obtain ⟨h, hh⟩ : ∃ h, m1[k] = h := ⟨_, rfl⟩
      rw [hh] at x0 x1 x2 x3 x4 x5 hover
      have HO := Lib.hid hover
      clear hover hr hh
      have hdk : wr.cell? ⟨w.heap.size, 1, none⟩ = some (.slice (some ad) m1.length d1) := (blk_cell hE.led 1).trans rfl
      obtain ⟨W1, hW1⟩ : ∃ W1, wr.alloc (.cells #[.int .i64 h.f0, .string h.f1, .string h.f2, .int .i64 h.f3, .int .i64 h.f4, .int .i64 h.f5] 107) = W1 := ⟨_, rfl⟩
      have hb1 : Below wr.heap.size wr W1 := by rw [← hW1]; exact (Below.refl _ _).alloc (Nat.le_refl _) _
      have n1 : W1.heap[wr.heap.size]? = some (.cells #[.int .i64 h.f0, .string h.f1, .string h.f2, .int .i64 h.f3, .int .i64 h.f4, .int .i64 h.f5] 107 (0, 0)) := by rw [← hW1]; exact blk_new _ _
      have q0 := blk_below hE.led hb1
      have q1 := blk_below hE.res hb1
      have hlow1 := below_w hE.low hb1
      have hLm := hE.at_.below hb1
      have hwlt : w.heap.size + 1 < wr.heap.size := blk_lt hE.res
      have hg0 : W1.cell? ⟨wr.heap.size, 0, none⟩ = some (.int .i64 h.f0) := (blk_cell n1 0).trans rfl
      have hg1 : W1.cell? ⟨wr.heap.size, 1, none⟩ = some (.string h.f1) := (blk_cell n1 1).trans rfl
      have hg2 : W1.cell? ⟨wr.heap.size, 2, none⟩ = some (.string h.f2) := (blk_cell n1 2).trans rfl
      have hg3 : W1.cell? ⟨wr.heap.size, 3, none⟩ = some (.int .i64 h.f3) := (blk_cell n1 3).trans rfl
      have hg4 : W1.cell? ⟨wr.heap.size, 4, none⟩ = some (.int .i64 h.f4) := (blk_cell n1 4).trans rfl
      have hg5 : W1.cell? ⟨wr.heap.size, 5, none⟩ = some (.int .i64 h.f5) := (blk_cell n1 5).trans rfl
      by_cases h4 : h.f4 = 0
      · have h4b : (h.f4 == 0) = true := by simp [h4]
        have HO4 := Lib.hid (HO.out h4)
        clear h4
        by_cases h5 : 0 < h.f5
        · have h5b : decide (0 < h.f5) = true := decide_eq_true h5
          by_cases h6 : h.f5 ≤ due
          · have h6b : decide (h.f5 ≤ due) = true := decide_eq_true h6
            clear h5 h6
            have hd0 : W1.cell? ⟨w.heap.size, 0, none⟩ = some (.slice B0 m0.length d0) := (blk_cell q0 0).trans rfl
            have hd1 : W1.cell? ⟨w.heap.size, 1, none⟩ = some (.slice (some ad) m1.length d1) := (blk_cell q0 1).trans rfl
            have hd2 : W1.cell? ⟨w.heap.size, 2, none⟩ = some (.slice B2 l2.length d2) := (blk_cell q0 2).trans rfl
            have hd3 : W1.cell? ⟨w.heap.size, 3, none⟩ = some (.int .i64 ops) := (blk_cell q0 3).trans rfl
            have hcall := held_calls m0 m1 l2 B0 d0 (some ad) d1 B2 d2 ops W1 ⟨h.f1, h.f2, 0, 0⟩ (wrap64 (-h.f3)) hLm (by have := hE.e0; omega)
            unfold stV at hcall
            dsimp only at hcall
            have e1 : hoP h = (h.f1, h.f2) := rfl
            obtain ⟨R, hR⟩ : ∃ R, heldF2 m0 (h.f1, h.f2) (wrap64 (-h.f3)) = R := ⟨_, rfl⟩
            obtain ⟨S, hS⟩ : ∃ S, stateF m1 k 2 = S := ⟨_, rfl⟩
            have HRS := Lib.hid (show LInv R S l2 ∧ R.length = l0.length ∧ S.length = l1.length from by
              have g := HO4.out
              rw [e1, hR, hS] at g
              exact ⟨g.1, g.2.1.trans hE.e0, by rw [← hS, stateF_len]; exact HE1.out⟩)
            rw [hR] at hcall
            have HS := Lib.hid hS
            clear hR hS e1
            go_wp2_with fail
            refine hcall.mono ?_
            clear hcall hd0 hd1 hd2 hd3 hg0 hg1 hg2 hg3 hg4 hg5 x0 x1 x2 x3 x4 x5 hdk hW1
            rintro e W2 ⟨C0, e0, C1, e1, C2, e2, rfl, hL2, hb2⟩
            have hcall := state_calls R m1 l2 C0 e0 C1 e1 C2 e2 ops W2 k 2 hkm hm4 hL2
            rw [HS.out] at hcall
            go_wp2_with fail
            refine hcall.mono ?_
            clear hcall
            rintro e W3 ⟨C0, e0, C1, e1, C2, e2, rfl, hL3, hb3⟩
            have hb13 : Below W1.heap.size W1 W3 := below_chain hb2 hb3
            have p0 := blk_below q0 hb13
            have p1 := blk_below q1 hb13
            have hlow3 := below_w hlow1 hb13
            clear hb2 hb3 hb13
            have hd0 : W3.cell? ⟨w.heap.size, 0, none⟩ = some (.slice B0 m0.length d0) := (blk_cell p0 0).trans rfl
            have hz0 := blk_frozen p0 0
            have hd1 : W3.cell? ⟨w.heap.size, 1, none⟩ = some (.slice (some ad) m1.length d1) := (blk_cell p0 1).trans rfl
            have hz1 := blk_frozen p0 1
            have hd2 : W3.cell? ⟨w.heap.size, 2, none⟩ = some (.slice B2 l2.length d2) := (blk_cell p0 2).trans rfl
            have hz2 := blk_frozen p0 2
            have hd3 : W3.cell? ⟨w.heap.size, 3, none⟩ = some (.int .i64 ops) := (blk_cell p0 3).trans rfl
            have hz3 := blk_frozen p0 3
            obtain ⟨V3, hV3⟩ : ∃ V3, put4 W3 w.heap.size (.slice C0 R.length e0) (.slice C1 S.length e1) (.slice C2 l2.length e2) (.int .i64 ops) = V3 := ⟨_, rfl⟩
            have HE := Lib.hid (show ExI w l0 l1 l2 ops R S C0 e0 C1 e1 C2 e2 V3 from by
              rw [← hV3]
              exact ⟨put4_below hlow3 (Nat.le_refl _) _ _ _ _, put4_blk p0 _ _ _ _, put4_far p1 (by omega) _ _ _ _, hL3.put4 p0 (noStr_box _ _ _ _ _ _ _ _ _ _) (fun _ h => by cases h) (fun _ h => by cases h) (fun _ h => by cases h), HRS.out.1, HRS.out.2.1, HRS.out.2.2⟩)
            unfold put4 at hV3
            clear p0 p1 hL3 hL2 hLm hE q0 q1 n1
            go_wp2
            exact ⟨⟨k + 1, R, S, C0, e0, C1, e1, C2, e2, by omega, by simp, HE.out⟩, by simp [intOf]; omega⟩
          · have h6b : decide (h.f5 ≤ due) = false := decide_eq_false h6
            have HE := Lib.hid (show ExI w l0 l1 l2 ops m0 m1 B0 d0 (some ad) d1 B2 d2 W1 from ⟨hlow1, q0, q1, hLm, hE.inv, hE.e0, hE.e1⟩)
            clear h5 h6 q0 q1 n1 hLm hE
            go_wp2
            exact ⟨⟨k + 1, m0, m1, _, _, _, _, _, _, by omega, by simp, HE.out⟩, by simp [intOf]; omega⟩
        · have h5b : decide (0 < h.f5) = false := decide_eq_false h5
          have HE := Lib.hid (show ExI w l0 l1 l2 ops m0 m1 B0 d0 (some ad) d1 B2 d2 W1 from ⟨hlow1, q0, q1, hLm, hE.inv, hE.e0, hE.e1⟩)
          clear h5 q0 q1 n1 hLm hE
          go_wp2
          exact ⟨⟨k + 1, m0, m1, _, _, _, _, _, _, by omega, by simp, HE.out⟩, by simp [intOf]; omega⟩
      · have h4b : (h.f4 == 0) = false := by simpa using h4
        have HE := Lib.hid (show ExI w l0 l1 l2 ops m0 m1 B0 d0 (some ad) d1 B2 d2 W1 from ⟨hlow1, q0, q1, hLm, hE.inv, hE.e0, hE.e1⟩)
        clear h4 q0 q1 n1 hLm hE
        go_wp2
        exact ⟨⟨k + 1, m0, m1, _, _, _, _, _, _, by omega, by simp, HE.out⟩, by simp [intOf]; omega⟩
    · have hd : decide ((k : Int) < (m1.length : Int)) = false := decide_eq_false (by omega)
      have hd9 : decide (k < m1.length) = false := decide_eq_false (by omega)
      clear he1
      have h1 := hE.led
      have h2 := hE.res
      have hd0 : wr.cell? ⟨w.heap.size, 0, none⟩ = some (.slice B0 m0.length d0) := (blk_cell h1 0).trans rfl
      have hd1 : wr.cell? ⟨w.heap.size, 1, none⟩ = some (.slice B1 m1.length d1) := (blk_cell h1 1).trans rfl
      have hd2 : wr.cell? ⟨w.heap.size, 2, none⟩ = some (.slice B2 l2.length d2) := (blk_cell h1 2).trans rfl
      have hd3 : wr.cell? ⟨w.heap.size, 3, none⟩ = some (.int .i64 ops) := (blk_cell h1 3).trans rfl
      have hr0 : wr.cell? ⟨w.heap.size + 1, 0, none⟩ = some (.slice none 0 0) := (blk_cell h2 0).trans rfl
      have hf0 := blk_frozen h2 0
      have hr1 : wr.cell? ⟨w.heap.size + 1, 1, none⟩ = some (.slice none 0 0) := (blk_cell h2 1).trans rfl
      have hf1 := blk_frozen h2 1
      have hr2 : wr.cell? ⟨w.heap.size + 1, 2, none⟩ = some (.slice none 0 0) := (blk_cell h2 2).trans rfl
      have hf2 := blk_frozen h2 2
      have hr3 : wr.cell? ⟨w.heap.size + 1, 3, none⟩ = some (.int .i64 0) := (blk_cell h2 3).trans rfl
      have hf3 := blk_frozen h2 3
      have HE := Lib.hid hE
      clear hE
      go_wp2
      refine bodyPost_ret (results_cell_row rfl _ _ (w.heap.size + 1) 41 #[.slice B0 m0.length d0, .slice B1 m1.length d1, .slice B2 l2.length d2, .int .i64 ops] (0, 0) _ rfl (put4_blk h2 _ _ _ _) hu rfl (by kernel_rfl)) rfl ?_
      exact ⟨m0, m1, ⟨B0, d0, B1, d1, B2, d2, rfl, HE.out.at_.put4 h2 (noStr_box _ _ _ _ _ _ _ _ _ _) (fun _ h => by cases h) (fun _ h => by cases h) (fun _ h => by cases h), put4_below HE.out.low (by omega) _ _ _ _⟩, HE.out.inv, HE.out.e0, HE.out.e1⟩
end
end Go.Proofs.Ytofkhcgkahkagaa
