/- The laws PromiseLines and PromiseEarliest, over whatever answers for awake. -/
import Derived.Test.YtofkhcgkahkagaaGreatPlain
import Derived.Test.YtofkhcgkahkagaaGreatQ1
namespace Go.Proofs.YtofkhcgkahkagaaGreat
open Go.RowKit Go.Proofs.YtofkhcgkahkagaaGreatW.PrintWords Go.Proofs.YtofkhcgkahkagaaGreatW.PrintLast Go.Proofs.YtofkhcgkahkagaaGreatW.PrintMore Go.Proofs.YtofkhcgkahkagaaGreat.PPromiseShort
set_option linter.unusedVariables false
set_option linter.unusedSimpArgs false

theorem light_loop (l : List S103) : ∀ d k i : Nat, i + d = 20 → 2 * d + 4 < k → ∃ b, quaysidelaw33_light.l0 k l (i : Int) = some b ∧ (b = true → l.length ≤ 20) := by
  intro d
  induction d with
  | zero =>
    intro k i h1 h2
    obtain ⟨k, rfl⟩ : ∃ m, k = m + 1 + 1 := ⟨k - 2, by omega⟩
    rw [quaysidelaw33_light.l0]
    have hf : ∃ b, quaysidelaw33_light.j1 (k + 1) l (i : Int) false = some b ∧ (b = true → l.length ≤ 20) := by
      rw [quaysidelaw33_light.j1, if_neg (by decide)]
      exact ⟨_, rfl, fun h => by have := of_decide_eq_true h; omega⟩
    split
    · rw [decide_eq_false (by omega)]
      exact hf
    · exact hf
  | succ d ih =>
    intro k i h1 h2
    obtain ⟨k, rfl⟩ : ∃ m, k = m + 1 + 1 := ⟨k - 2, by omega⟩
    rw [quaysidelaw33_light.l0]
    by_cases hi : i < l.length
    · rw [if_pos (by omega), decide_eq_true (by omega), quaysidelaw33_light.j1, if_pos rfl, if_pos (by omega), if_pos (by omega)]
      split
      · exact ⟨false, rfl, fun h => by cases h⟩
      · rw [show wrap64 ((i : Int) + 1) = ((i + 1 : Nat) : Int) from by unfold wrap64; omega]
        exact ih k (i + 1) (by omega) (by omega)
    · rw [if_neg (by omega), quaysidelaw33_light.j1, if_neg (by decide)]
      exact ⟨_, rfl, fun h => by have := of_decide_eq_true h; omega⟩
theorem light_law (l : List S103) : ∃ b, quaysidelaw33_light.f 100 l = some b ∧ (b = true → l.length ≤ 20) := light_loop l 20 100 0 (by omega) (by omega)
theorem Light_law (l0 : List S165) (l1 : List S172) (l2 : List S176) (ops : Int) : ∃ b, quaysideref07_Light.f l0 l1 l2 ops = some b ∧ (b = true → l0.length ≤ 30 ∧ l1.length ≤ 30 ∧ l2.length ≤ 60) := by
  unfold quaysideref07_Light.f
  by_cases h0 : (l0.length : Int) ≤ 30
  · rw [if_pos h0]
    by_cases h1 : (l1.length : Int) ≤ 30
    · rw [if_pos h1]
      exact ⟨_, rfl, fun h => by have := of_decide_eq_true h; omega⟩
    · rw [if_neg h1]; exact ⟨false, rfl, fun h => by cases h⟩
  · rw [if_neg h0]; exact ⟨false, rfl, fun h => by cases h⟩
theorem rd_St {l : List S111} {i : Nat} (h : i < l.length) : rd_T111 l (i : Int) = l[i] := by unfold rd_T111; rw [Int.toNat_natCast, List.getD_eq_getElem?_getD, List.getElem?_eq_getElem h]; rfl
theorem i64_wrap (x : Int) : i64B (wrap64 x) := by unfold i64B wrap64; omega
theorem told_64 {l0 : List S165} {l1 : List S172} {l2 : List S176} {l3 : List S103} (hF : FewL l0 l1 l2) (hr : ∀ r ∈ l3, RecG r) (sku : ByteArray) : Ch64 (toldF l0 l1 l3 [] sku) := by
  intro x hx
  unfold toldF at hx
  simp only [List.mem_append] at hx
  rcases hx with ((hx | hx) | hx) | hx
  · unfold chStocks at hx
    obtain ⟨s, hs, rfl⟩ := List.mem_map.1 hx
    exact (hF.2.2.2.1 s (List.mem_filter.1 hs).1).2.2.1
  · unfold chHolds at hx
    obtain ⟨h, hh, hx⟩ := List.mem_flatMap.1 hx
    unfold chHold at hx
    split at hx
    · rcases List.mem_cons.1 hx with rfl | hx
      · exact i64_wrap _
      · split at hx
        · rw [List.mem_singleton.1 hx]
          exact (hF.2.2.2.2.1 h hh).2.2.2.1
        · cases hx
    · cases hx
  · unfold chComing at hx
    obtain ⟨r, hh, rfl⟩ := List.mem_map.1 hx
    exact (hr r (List.mem_filter.1 hh).1).2.1
  · cases hx
theorem fr_64 {l0 : List S165} {l1 : List S172} {l2 : List S176} {l3 : List S103} (hF : FewL l0 l1 l2) (hr : ∀ r ∈ l3, RecG r) (sku : ByteArray) (t : Int) : In64 (frL l0 l1 l3 [] sku t) := by
  intro x hx
  unfold frL at hx
  simp only [List.mem_append] at hx
  rcases hx with ((hx | hx) | hx) | hx
  · unfold frS at hx
    obtain ⟨s, hs, rfl⟩ := List.mem_map.1 hx
    exact (hF.2.2.2.1 s (List.mem_filter.1 hs).1).2.2.1
  · unfold frC at hx
    obtain ⟨r, hh, rfl⟩ := List.mem_map.1 hx
    exact (hr r (List.mem_filter.1 hh).1).2.1
  · unfold frH at hx
    obtain ⟨h, hh, rfl⟩ := List.mem_map.1 hx
    exact i64_wrap _
  · cases hx

/-! ### from when on -/
theorem line_pos (f : Int → Int × Int) : ∀ (T : List Int) (acc : List S111), (∀ t ∈ T, 0 ≤ t) → (∀ x ∈ acc, 0 ≤ x.f0) → ∀ x ∈ (lineG f T acc).1, 0 ≤ x.f0
  | [], acc, _, h => h
  | t :: T, acc, hT, h => by
    rw [lineG]
    split
    · refine line_pos f T _ (fun y hy => hT y (by simp [hy])) (fun x hx => ?_)
      unfold pushG at hx
      split at hx
      · exact h x hx
      · rcases List.mem_append.1 hx with hx | hx
        · exact h x hx
        · rw [List.mem_singleton.1 hx]
          exact hT t (by simp)
    · intro x hx
      cases hx
theorem line_len (f : Int → Int × Int) : ∀ (T : List Int) (acc : List S111), (lineG f T acc).1.length ≤ acc.length + T.length
  | [], acc => by simp [lineG]
  | t :: T, acc => by
    rw [lineG]
    split
    · have h1 := line_len f T (pushG f acc t)
      have h2 := pushG_len f acc t
      rw [List.length_cons]
      omega
    · simp
theorem early_fold (s : List S111) (q : Int) (hp : ∀ x ∈ s, 0 ≤ x.f0) : ∀ k, k ≤ s.length → (s.take k).foldl (atStep q) (-1) = if backN s q k = k then -1 else (s.getD (backN s q k) z111).f0 := by
  intro k
  induction k with
  | zero => intro _; rfl
  | succ k ih =>
    intro hk
    have hlt : k < s.length := by omega
    have hI := ih (by omega)
    have hle := backN_le s q k
    have hg : s.getD k z111 = s[k] := by rw [List.getD_eq_getElem?_getD, List.getElem?_eq_getElem hlt]; rfl
    rw [take_snoc hlt, List.foldl_append, hI]
    show atStep q _ s[k] = _
    unfold atStep
    rw [backN, hg]
    by_cases c : s[k].f1 < q
    · rw [if_pos c, show (if q ≤ s[k].f1 then backN s q k else k + 1) = k + 1 from if_neg (by omega), if_pos rfl]
    · rw [if_neg c, show (if q ≤ s[k].f1 then backN s q k else k + 1) = backN s q k from if_pos (by omega), if_neg (show ¬ backN s q k = k + 1 by omega)]
      by_cases e : backN s q k = k
      · rw [if_pos e, if_pos (by omega), e, hg]
      · rw [if_neg e]
        have hb : backN s q k < s.length := by omega
        have h2 : s.getD (backN s q k) z111 = s[backN s q k] := by rw [List.getD_eq_getElem?_getD, List.getElem?_eq_getElem hb]; rfl
        have := hp _ (List.getElem_mem hb)
        rw [h2, if_neg (by omega)]
theorem early_eq (s : List S111) (q : Int) (hp : ∀ x ∈ s, 0 ≤ x.f0) : earlyF s q = rearlyF s q := by
  have h := early_fold s q hp s.length (Nat.le_refl _)
  rw [List.take_length] at h
  unfold earlyF rearlyF
  rw [h]
  by_cases e : backN s q s.length = s.length
  · rw [if_pos e, if_pos e, if_pos (by omega)]
  · have hle := backN_le s q s.length
    have hb : backN s q s.length < s.length := by omega
    have h2 : s.getD (backN s q s.length) z111 = s[backN s q s.length] := by rw [List.getD_eq_getElem?_getD, List.getElem?_eq_getElem hb]; rfl
    have := hp _ (List.getElem_mem hb)
    rw [if_neg e, if_neg e, h2, if_neg (by omega)]
theorem rline_pos {l0 : List S165} {l1 : List S172} {l2 : List S176} {ops : Int} {l3 : List S103} (hF : FewL l0 l1 l2) (hr : ∀ r ∈ l3, RecG r) (sku : ByteArray) : ∀ x ∈ (rlineA l0 l1 l2 ops l3 sku).1, 0 ≤ x.f0 := by
  unfold rlineA
  split
  · rename_i h
    have hg := good_of hF hr h.1 h.2
    exact line_pos _ _ _ (fun y hy => (all_range hg y ((timesR_mem l1 l3 [] y).1 hy)).1) (fun x hx => by cases hx)
  · intro x hx; cases hx
theorem rline_len {l0 : List S165} {l1 : List S172} {l2 : List S176} {ops : Int} {l3 : List S103} (hF : FewL l0 l1 l2) (h3 : l3.length ≤ 20) (sku : ByteArray) : (rlineA l0 l1 l2 ops l3 sku).1.length ≤ 121 := by
  unfold rlineA
  split
  · have h1 := line_len (fR l0 l1 l3 sku) (timesR l1 l3 []) []
    have h2 := times_len l1 l3 [] (by have := hF.2.1; omega) (by omega) (by simp)
    rw [List.length_nil] at h1
    omega
  · simp
theorem earlyA_eq {l0 : List S165} {l1 : List S172} {l2 : List S176} {ops : Int} {l3 : List S103} (hF : FewL l0 l1 l2) (hr : ∀ r ∈ l3, RecG r) (sku : ByteArray) (q : Int) : earlyA ckB l0 l1 l2 ops l3 sku q = rearlyA l0 l1 l2 ops l3 sku q := by
  unfold earlyA rearlyA
  rw [lineA_eq hF hr sku, early_eq _ q (rline_pos hF hr sku)]
end Go.Proofs.YtofkhcgkahkagaaGreat

