/- What the statement's guard 'light' answers, and that equal rows are told as equal: plain lists and numbers. -/
import Derived.Test.YtofkhcgkahkagaaPScanMetersx3
namespace Go.Proofs.Ytofkhcgkahkagaa
open Go.RowKit Go.Proofs.YtofkhcgkahkagaaW.PrintWords Go.Proofs.YtofkhcgkahkagaaW.PrintLast Go.Proofs.YtofkhcgkahkagaaW.PrintMore Go.Proofs.Ytofkhcgkahkagaa.PScanMeters
set_option linter.unusedVariables false
set_option linter.unusedSimpArgs false

theorem may_some (a b : Int) (c : ByteArray) : ∃ r, quaysideref05_May.f a b c = some r := by
  unfold quaysideref05_May.f
  repeat' split
  all_goals exact ⟨_, rfl⟩
theorem wrap_nat (i : Nat) (h : i < 9223372036854775807) : wrap64 ((i : Int) + 1) = ((i + 1 : Nat) : Int) := by
  unfold wrap64
  omega
theorem rd_L_nat (rows : List (List S66)) (i : Nat) : rd_L3 rows (i : Int) = rows.getD i [] := by simp [rd_L3]

theorem light_l1 (rows : List (List S66)) (i : Nat) (hi : i < rows.length) (hl : (rows.getD i []).length ≤ 10) (r0 : Bool) (h0 : Ev (fun k => quaysidelaw26_light.l0 k rows (wrap64 ((i : Int) + 1))) r0) :
    ∀ (d j : Nat), j ≤ (rows.getD i []).length → (rows.getD i []).length - j = d → ∃ r, Ev (fun k => quaysidelaw26_light.l1 k rows i j) r ∧ (r = true → r0 = true) := by
  intro d
  induction d with
  | zero =>
    intro j hj hd
    refine ⟨r0, Ev.step (f := fun k => quaysidelaw26_light.l0 k rows (wrap64 ((i : Int) + 1))) (fun k => ?_) h0, id⟩
    simp only [quaysidelaw26_light.l1]
    rw [if_pos (by omega), if_pos (by omega), rd_L_nat, if_neg (by omega)]
  | succ d ih =>
    intro j hj hd
    by_cases hs : (((rd_T66 (rows.getD i []) j).f2).size : Int) > 100
    · refine ⟨false, Ev.step (f := fun _ => some false) (fun k => ?_) (Ev.now _), by simp⟩
      simp only [quaysidelaw26_light.l1]
      rw [if_pos (by omega), if_pos (by omega), rd_L_nat, if_pos (by omega), if_pos (by omega), if_pos hs]
    · obtain ⟨b, hb⟩ := may_some ((rd_T66 (rows.getD i []) j).f0) ((rd_T66 (rows.getD i []) j).f1) ((rd_T66 (rows.getD i []) j).f2)
      cases b with
      | false =>
        refine ⟨false, Ev.step (f := fun _ => some false) (fun k => ?_) (Ev.now _), by simp⟩
        simp only [quaysidelaw26_light.l1]
        rw [if_pos (by omega), if_pos (by omega), rd_L_nat, if_pos (by omega), if_pos (by omega), if_neg hs, hb]
        simp
      | true =>
        obtain ⟨r, hr, hp⟩ := ih (j + 1) (by omega) (by omega)
        refine ⟨r, Ev.step (f := fun k => quaysidelaw26_light.l1 k rows i ((j + 1 : Nat) : Int)) (fun k => ?_) hr, hp⟩
        simp only [quaysidelaw26_light.l1]
        rw [if_pos (by omega), if_pos (by omega), rd_L_nat, if_pos (by omega), if_pos (by omega), if_neg hs, hb]
        simp only [Option.bind_some, if_true]
        rw [wrap_nat j (by omega)]

theorem light_l0 (rows : List (List S66)) : ∀ (d i : Nat), i ≤ rows.length → i ≤ 60 → 61 - i = d → ∃ r, Ev (fun k => quaysidelaw26_light.l0 k rows i) r ∧ (r = true → rows.length ≤ 60 ∧ ∀ m, i ≤ m → m < rows.length → (rows.getD m []).length ≤ 10) := by
  intro d
  induction d with
  | zero => intro i _ h1 h2; omega
  | succ d ih =>
    intro i hi h60 hd
    by_cases h1 : i < rows.length
    · by_cases h2 : i < 60
      · by_cases h3 : (rows.getD i []).length ≤ 10
        · obtain ⟨r0, e0, p0⟩ := ih (i + 1) (by omega) (by omega) (by omega)
          rw [← wrap_nat i (by omega)] at e0
          obtain ⟨r, hr, hp⟩ := light_l1 rows i h1 h3 r0 e0 _ 0 (Nat.zero_le _) rfl
          refine ⟨r, Ev.step (f := fun k => quaysidelaw26_light.j1 k rows i true) (fun k => ?_) (Ev.step (f := fun k => quaysidelaw26_light.l1 k rows i ((0 : Nat) : Int)) (fun k => ?_) hr), fun h => ?_⟩
          · simp only [quaysidelaw26_light.l0]
            rw [if_pos (by omega), show decide ((i : Int) < 60) = true from decide_eq_true (by omega)]
          · simp only [quaysidelaw26_light.j1]
            rw [if_pos trivial, if_pos (by omega), if_pos (by omega), rd_L_nat, if_neg (by omega)]
            rfl
          · obtain ⟨q1, q2⟩ := p0 (hp h)
            refine ⟨q1, fun m hm hlt => ?_⟩
            by_cases e : m = i
            · rw [e]; exact h3
            · exact q2 m (by omega) hlt
        · refine ⟨false, Ev.step (f := fun k => quaysidelaw26_light.j1 k rows i true) (fun k => ?_) (Ev.step (f := fun _ => some false) (fun k => ?_) (Ev.now _)), by simp⟩
          · simp only [quaysidelaw26_light.l0]
            rw [if_pos (by omega), show decide ((i : Int) < 60) = true from decide_eq_true (by omega)]
          · simp only [quaysidelaw26_light.j1]
            rw [if_pos trivial, if_pos (by omega), if_pos (by omega), rd_L_nat, if_pos (by omega)]
      · refine ⟨false, Ev.step (f := fun k => quaysidelaw26_light.j1 k rows i false) (fun k => ?_) (Ev.step (f := fun _ => some false) (fun k => ?_) (Ev.now _)), by simp⟩
        · simp only [quaysidelaw26_light.l0]
          rw [if_pos (by omega), show decide ((i : Int) < 60) = false from decide_eq_false (by omega)]
        · simp only [quaysidelaw26_light.j1]
          rw [if_neg (by simp), show decide ((rows.length : Int) ≤ 60) = false by simp; omega]
    · refine ⟨decide ((rows.length : Int) ≤ 60), Ev.step (f := fun k => quaysidelaw26_light.j1 k rows i false) (fun k => ?_) (Ev.step (f := fun _ => some (decide ((rows.length : Int) ≤ 60))) (fun k => ?_) (Ev.now _)), fun h => ?_⟩
      · simp only [quaysidelaw26_light.l0]
        rw [if_neg (by omega)]
      · simp only [quaysidelaw26_light.j1]
        rw [if_neg (by simp)]
      · refine ⟨by have := of_decide_eq_true h; omega, fun m hm hlt => by omega⟩

theorem light_tells (rows : List (List S66)) : ∃ k r, quaysidelaw26_light.f k rows = some r ∧ (r = true → rows.length ≤ 60 ∧ ∀ row ∈ rows, row.length ≤ 10) := by
  obtain ⟨r, hr, hp⟩ := light_l0 rows _ 0 (Nat.zero_le _) (by omega) rfl
  obtain ⟨k, hk⟩ := hr.rounds
  refine ⟨k, r, hk, fun h => ⟨(hp h).1, fun row hrow => ?_⟩⟩
  obtain ⟨m, hm, rfl⟩ := List.getElem_of_mem hrow
  have := (hp h).2 m (Nat.zero_le _) hm
  simpa [hm] using this

theorem same_self_l (row : List S66) (hl : row.length ≤ 1000000) : ∀ (d i : Nat), i ≤ row.length → row.length - i = d → Ev (fun k => quaysideref05_Same.l0 k row row i) true := by
  intro d
  induction d with
  | zero =>
    intro i hi hd
    refine Ev.step (f := fun _ => some true) (fun k => ?_) (Ev.now _)
    simp only [quaysideref05_Same.l0]
    rw [if_neg (by omega)]
  | succ d ih =>
    intro i hi hd
    refine Ev.step (f := fun k => quaysideref05_Same.l0 k row row ((i + 1 : Nat) : Int)) (fun k => ?_) (ih (i + 1) (by omega) (by omega))
    simp only [quaysideref05_Same.l0]
    rw [if_pos (by omega), if_pos (by omega), if_pos (by omega), wrap_nat i (by omega)]
    simp
theorem same_self (row : List S66) (hl : row.length ≤ 1000000) : Ev (fun k => quaysideref05_Same.f k row row) true := by
  refine Ev.congr (fun k => ?_) (same_self_l row hl _ 0 (Nat.zero_le _) rfl)
  unfold quaysideref05_Same.f
  rw [if_pos rfl]
  rfl
theorem sameRows_self_l (rows : List (List S66)) (hl : rows.length ≤ 1000000) (hr : ∀ row ∈ rows, row.length ≤ 1000000) : ∀ (d i : Nat), i ≤ rows.length → rows.length - i = d → Ev (fun k => quaysideref05_SameRows.l0 k rows rows i) true := by
  intro d
  induction d with
  | zero =>
    intro i hi hd
    refine Ev.step (f := fun _ => some true) (fun k => ?_) (Ev.now _)
    simp only [quaysideref05_SameRows.l0]
    rw [if_neg (by omega)]
  | succ d ih =>
    intro i hi hd
    have hlt : i < rows.length := by omega
    have hs := same_self (rows.getD i []) (by simp only [List.getD_eq_getElem?_getD, List.getElem?_eq_getElem hlt, Option.getD_some]; exact hr _ (List.getElem_mem hlt))
    refine Ev.step (f := fun k => (quaysideref05_Same.f k (rows.getD i []) (rows.getD i [])).bind fun t => if t = true then quaysideref05_SameRows.l0 k rows rows ((i + 1 : Nat) : Int) else some false) (fun k => ?_) (Ev.bind hs (Ev.congr (fun k => by simp) (ih (i + 1) (by omega) (by omega))))
    simp only [quaysideref05_SameRows.l0]
    rw [if_pos (by omega), if_pos (by omega), if_pos (by omega), rd_L_nat, wrap_nat i (by omega)]
theorem sameRows_self (rows : List (List S66)) (hl : rows.length ≤ 1000000) (hr : ∀ row ∈ rows, row.length ≤ 1000000) : ∃ k, quaysideref05_SameRows.f k rows rows = some true := by
  refine (Ev.congr (g := fun k => quaysideref05_SameRows.f k rows rows) (fun k => ?_) (sameRows_self_l rows hl hr _ 0 (Nat.zero_le _) rfl)).rounds
  unfold quaysideref05_SameRows.f
  rw [if_pos rfl]
  rfl
end Go.Proofs.Ytofkhcgkahkagaa
