/- The reference's answer for a ledger: plain laws of its printed functions. -/
import Derived.Test.YtofkhcgkahkagaaGreatPCkA
import Derived.Test.YtofkhcgkahkagaaGreatRSum
import Derived.Test.YtofkhcgkahkagaaGreatQ16
import Derived.Test.YtofkhcgkahkagaaGreatQ17
import Derived.Test.YtofkhcgkahkagaaGreatQ18
import Derived.Lib.Strings
namespace Go.Proofs.YtofkhcgkahkagaaGreat
open Go.RowKit Go.Proofs.YtofkhcgkahkagaaGreatW.PrintWords Go.Proofs.YtofkhcgkahkagaaGreatW.PrintLast Go.Proofs.YtofkhcgkahkagaaGreatW.PrintMore Go.Proofs.YtofkhcgkahkagaaGreat.PPromiseShort
set_option linter.unusedVariables false
set_option linter.unusedSimpArgs false

theorem str_eq {a b : ByteArray} : a.toList = b.toList ↔ a = b := by
  rw [Lib.toList_data, Lib.toList_data]
  exact ⟨fun h => WideShapes.bytes_inj h, fun h => by rw [h]⟩
theorem wrap_next {i n : Nat} (h : i < n) (hn : n ≤ 1000000) : wrap64 ((i : Int) + 1) = ((i + 1 : Nat) : Int) := by unfold wrap64; omega
theorem rd_S {l : List S165} {i : Nat} (h : i < l.length) : rd_T165 l (i : Int) = l[i] := by unfold rd_T165; rw [Int.toNat_natCast, List.getD_eq_getElem?_getD, List.getElem?_eq_getElem h]; rfl
theorem rd_H {l : List S172} {i : Nat} (h : i < l.length) : rd_T172 l (i : Int) = l[i] := by unfold rd_T172; rw [Int.toNat_natCast, List.getD_eq_getElem?_getD, List.getElem?_eq_getElem h]; rfl
theorem rd_M {l : List S176} {i : Nat} (h : i < l.length) : rd_T176 l (i : Int) = l[i] := by unfold rd_T176; rw [Int.toNat_natCast, List.getD_eq_getElem?_getD, List.getElem?_eq_getElem h]; rfl

theorem cmp_zero : ∀ a b : List UInt8, Lib.compareBytes a b = 0 ↔ a = b
  | [], [] => by simp [Lib.compareBytes]
  | [], _ :: _ => by simp [Lib.compareBytes]
  | _ :: _, [] => by simp [Lib.compareBytes]
  | a :: xs, b :: ys => by
    unfold Lib.compareBytes
    by_cases h1 : a < b
    · rw [if_pos h1]
      exact ⟨fun h => by omega, fun h => by cases h; exact absurd h1 (UInt8.lt_irrefl _)⟩
    · rw [if_neg h1]
      by_cases h2 : b < a
      · rw [if_pos h2]
        exact ⟨fun h => by omega, fun h => by cases h; exact absurd h2 (UInt8.lt_irrefl _)⟩
      · rw [if_neg h2, cmp_zero xs ys]
        have : a = b := by rw [UInt8.lt_iff_toNat_lt] at h1 h2; exact UInt8.toNat_inj.1 (by omega)
        rw [this]
        simp
theorem cmp_neg : ∀ a b : List UInt8, Lib.compareBytes a b < 0 ↔ Op.bytesLess a b = true
  | [], [] => by simp [Lib.compareBytes, Op.bytesLess]
  | [], _ :: _ => by simp [Lib.compareBytes, Op.bytesLess]
  | _ :: _, [] => by simp [Lib.compareBytes, Op.bytesLess]
  | a :: xs, b :: ys => by
    unfold Lib.compareBytes Op.bytesLess
    by_cases h1 : a < b
    · rw [if_pos h1]
      simp [h1]
    · rw [if_neg h1]
      by_cases h2 : b < a
      · rw [if_pos h2]
        have : a ≠ b := fun h => by rw [h] at h2; exact UInt8.lt_irrefl _ h2
        simp [h1, this]
      · rw [if_neg h2, cmp_neg xs ys]
        have : a = b := by rw [UInt8.lt_iff_toNat_lt] at h1 h2; exact UInt8.toNat_inj.1 (by omega)
        simp [this]

section
variable (l0 : List S165) (l1 : List S172) (l2 : List S176) (ops : Int)

theorem index_loop (a b : ByteArray) (hn : l0.length ≤ 10000) : ∀ d k i : Nat, i + d = l0.length → d < k → ∃ r : Int, quaysideref07_index.l0 k a b (i : Int) l0 l1 l2 ops = some r ∧ (r < 0 ↔ ∀ j (h : j < l0.length), i ≤ j → stP l0[j] ≠ (a, b)) := by
  intro d
  induction d with
  | zero =>
    intro k i h1 h2
    obtain ⟨k, rfl⟩ : ∃ m, k = m + 1 := ⟨k - 1, by omega⟩
    rw [quaysideref07_index.l0, if_neg (by omega)]
    exact ⟨-1, rfl, fun _ j h hj => by omega, fun _ => by omega⟩
  | succ d ih =>
    intro k i h1 h2
    obtain ⟨k, rfl⟩ : ∃ m, k = m + 1 := ⟨k - 1, by omega⟩
    have hlt : i < l0.length := by omega
    rw [quaysideref07_index.l0, if_pos (by omega), if_pos (by omega), rd_S hlt]
    obtain ⟨r, hr, hiff⟩ := ih k (i + 1) (by omega) (by omega)
    have hstep : stP l0[i] ≠ (a, b) → (r < 0 ↔ ∀ j (h : j < l0.length), i ≤ j → stP l0[j] ≠ (a, b)) := fun hne => by
      rw [hiff]
      refine ⟨fun h j hj hij => ?_, fun h j hj hij => h j hj (by omega)⟩
      rcases Nat.lt_or_ge i j with h3 | h3
      · exact h j hj h3
      · obtain rfl : j = i := by omega
        exact hne
    rw [wrap_next hlt (by omega)]
    by_cases e1 : (l0[i].f0).toList = a.toList
    · rw [if_pos e1]
      by_cases e2 : (l0[i].f1).toList = b.toList
      · rw [if_pos e2]
        refine ⟨(i : Int), rfl, fun h => by omega, fun h => absurd (Prod.ext (str_eq.1 e1) (str_eq.1 e2)) (h i hlt (Nat.le_refl _))⟩
      · rw [if_neg e2]
        exact ⟨r, hr, hstep (fun e => e2 (str_eq.2 (Prod.mk.inj e).2))⟩
    · rw [if_neg e1]
      exact ⟨r, hr, hstep (fun e => e1 (str_eq.2 (Prod.mk.inj e).1))⟩

theorem index_law (p : Plc) (hn : l0.length ≤ 10000) (k : Nat) (hk : l0.length < k) : ∃ r : Int, quaysideref07_index.f k l0 l1 l2 ops p.1 p.2 = some r ∧ (r < 0 ↔ ¬ p ∈ l0.map stP) := by
  obtain ⟨r, h1, h2⟩ := index_loop l0 l1 l2 ops p.1 p.2 hn l0.length k 0 (by omega) hk
  refine ⟨r, h1, h2.trans ⟨fun h hm => ?_, fun h j hj _ e => h (List.mem_map.2 ⟨l0[j], List.getElem_mem hj, e⟩)⟩⟩
  obtain ⟨s, hs, e⟩ := List.mem_map.1 hm
  obtain ⟨j, hj, rfl⟩ := List.getElem_of_mem hs
  exact h j hj (Nat.zero_le _) e

theorem name6_f (s : ByteArray) : quaysideref06_Name.f s = some (nameB s) := name_f s

/-- May holds be? -/
def hosP (l0 : List S165) (l1 : List S172) (i : Nat) : Prop := ∀ j (h : j < l1.length), i ≤ j → hoB j l1[j] ∧ (l1[j].f4 = 0 → hoP l1[j] ∈ l0.map stP)
theorem hosP_step {l0 : List S165} {l1 : List S172} {i : Nat} (h : i < l1.length) : hosP l0 l1 i ↔ (hoB i l1[i] ∧ (l1[i].f4 = 0 → hoP l1[i] ∈ l0.map stP)) ∧ hosP l0 l1 (i + 1) := by
  refine ⟨fun h1 => ⟨h1 i h (Nat.le_refl _), fun j hj hij => h1 j hj (by omega)⟩, fun ⟨h1, h2⟩ j hj hij => ?_⟩
  rcases Nat.lt_or_ge i j with h3 | h3
  · exact h2 j hj h3
  · obtain rfl : j = i := by omega
    exact h1

theorem holds_j1 (k i : Nat) (b : Bool) (h : S172) (hi : i < l1.length) (hh : h = l1[i]) (hn : l0.length ≤ 10000) (hn1 : l1.length ≤ 10000) (hk : l0.length < k) (hb : b = false ↔ hoB i h)
    (ih : ∃ r, quaysideref07_holds.l0 k ((i + 1 : Nat) : Int) l0 l1 l2 ops = some r ∧ (r = true ↔ hosP l0 l1 (i + 1))) :
    ∃ r, quaysideref07_holds.j1 (k + 1) (i : Int) b l0 l1 l2 ops h.f0 h.f1 h.f2 h.f3 h.f4 h.f5 = some r ∧ (r = true ↔ hosP l0 l1 i) := by
  obtain ⟨r, hr, hiff⟩ := ih
  rw [quaysideref07_holds.j1, wrap_next hi (by omega)]
  cases b with
  | true =>
    rw [if_pos rfl]
    refine ⟨false, rfl, (fun h => by cases h), fun h1 => ?_⟩
    have := hb.2 (hh ▸ ((hosP_step hi).1 h1).1.1)
    cases this
  | false =>
    rw [if_neg (by decide)]
    have ho := hb.1 rfl
    by_cases h4 : h.f4 = 0
    · rw [if_pos h4]
      obtain ⟨x, hx, hxi⟩ := index_law l0 l1 l2 ops (hoP h) hn k hk
      rw [show quaysideref07_index.f k l0 l1 l2 ops h.f1 h.f2 = some x from hx, Option.bind_some]
      by_cases hx0 : x < 0
      · rw [if_pos hx0]
        refine ⟨false, rfl, (fun h => by cases h), fun h1 => ?_⟩
        exact absurd (hh ▸ ((hosP_step hi).1 h1).1.2 (hh ▸ h4)) (hxi.1 hx0)
      · rw [if_neg hx0]
        refine ⟨r, hr, hiff.trans ⟨fun h1 => (hosP_step hi).2 ⟨⟨hh ▸ ho, fun _ => ?_⟩, h1⟩, fun h1 => ((hosP_step hi).1 h1).2⟩⟩
        rw [← hh]
        exact Classical.byContradiction (fun hc => hx0 (hxi.2 hc))
    · rw [if_neg h4]
      exact ⟨r, hr, hiff.trans ⟨fun h1 => (hosP_step hi).2 ⟨⟨hh ▸ ho, fun e => absurd (hh ▸ e) h4⟩, h1⟩, fun h1 => ((hosP_step hi).1 h1).2⟩⟩

theorem wrap_id {x : Int} {i : Nat} (hx : i64B x) (hi : i ≤ 1000000) : (wrap64 (x - 1) = (i : Int)) ↔ x = (i : Int) + 1 := by
  unfold i64B at hx
  unfold wrap64
  omega

theorem holds_loop (hG : ∀ h ∈ l1, HoldG h) (hn : l0.length ≤ 10000) (hn1 : l1.length ≤ 10000) : ∀ d k i : Nat, i + d = l1.length → 2 * d + l0.length + 2 < k → ∃ r, quaysideref07_holds.l0 k (i : Int) l0 l1 l2 ops = some r ∧ (r = true ↔ hosP l0 l1 i) := by
  intro d
  induction d with
  | zero =>
    intro k i h1 h2
    obtain ⟨k, rfl⟩ : ∃ m, k = m + 1 := ⟨k - 1, by omega⟩
    rw [quaysideref07_holds.l0, if_neg (by omega)]
    exact ⟨true, rfl, fun _ j h hj => by omega, fun _ => rfl⟩
  | succ d ih =>
    intro k i h1 h2
    obtain ⟨k, rfl⟩ : ∃ m, k = m + 1 + 1 := ⟨k - 2, by omega⟩
    have hlt : i < l1.length := by omega
    have hI := ih k (i + 1) (by omega) (by omega)
    clear ih
    rw [quaysideref07_holds.l0, if_pos (by omega), if_pos (by omega), rd_H hlt]
    have hg := hG l1[i] (List.getElem_mem hlt)
    obtain ⟨h, hh⟩ : ∃ h, h = l1[i] := ⟨_, rfl⟩
    rw [← hh] at hg ⊢
    have hj := fun b hb => holds_j1 l0 l1 l2 ops k i b h hlt hh hn hn1 (by omega) hb hI
    clear hI
    have hbad : ¬ hoB i h → ((true = false) ↔ hoB i h) := fun hb => ⟨fun e => (by cases e), fun e => absurd e hb⟩
    rw [name6_f, name6_f, Option.bind_some, Option.bind_some]
    by_cases c0 : h.f0 = (i : Int) + 1
    · rw [if_pos ((wrap_id hg.1 (by omega)).2 c0)]
      by_cases c1 : nameB h.f1 = true
      · rw [if_pos c1]
        by_cases c2 : nameB h.f2 = true
        · rw [if_pos c2]
          by_cases c3 : h.f3 < 1
          · rw [if_pos c3]; exact hj true (hbad (fun hb => by have := hb.2.2.2.1; omega))
          · rw [if_neg c3]
            by_cases c4 : h.f4 < 0
            · rw [if_pos c4]; exact hj true (hbad (fun hb => by have := hb.2.2.2.2.1; omega))
            · rw [if_neg c4]
              by_cases c5 : h.f4 > 2
              · rw [if_pos c5]; exact hj true (hbad (fun hb => by have := hb.2.2.2.2.2.1; omega))
              · rw [if_neg c5]
                refine hj _ ⟨fun e => ⟨c0, c1, c2, by omega, by omega, by omega, ?_⟩, fun hb => decide_eq_false (by have := hb.2.2.2.2.2.2; omega)⟩
                have := of_decide_eq_false e
                omega
        · rw [if_neg c2]; exact hj true (hbad (fun hb => c2 hb.2.2.1))
      · rw [if_neg c1]; exact hj true (hbad (fun hb => c1 hb.2.1))
    · rw [if_neg (fun e => c0 ((wrap_id hg.1 (by omega)).1 e))]; exact hj true (hbad (fun hb => c0 hb.1))

theorem holds_law (hG : ∀ h ∈ l1, HoldG h) (hn : l0.length ≤ 10000) (hn1 : l1.length ≤ 10000) (k : Nat) (hk : 2 * l1.length + l0.length + 2 < k) : ∃ r, quaysideref07_holds.f k l0 l1 l2 ops = some r ∧ (r = true ↔ hosP l0 l1 0) :=
  holds_loop l0 l1 l2 ops hG hn hn1 l1.length k 0 (by omega) hk

/-- May movements be? -/
def mosP (l0 : List S165) (l2 : List S176) (i : Nat) : Prop := ∀ j (h : j < l2.length), i ≤ j → moB j l2[j] ∧ moP l2[j] ∈ l0.map stP
theorem mosP_step {l0 : List S165} {l2 : List S176} {i : Nat} (h : i < l2.length) : mosP l0 l2 i ↔ (moB i l2[i] ∧ moP l2[i] ∈ l0.map stP) ∧ mosP l0 l2 (i + 1) := by
  refine ⟨fun h1 => ⟨h1 i h (Nat.le_refl _), fun j hj hij => h1 j hj (by omega)⟩, fun ⟨h1, h2⟩ j hj hij => ?_⟩
  rcases Nat.lt_or_ge i j with h3 | h3
  · exact h2 j hj h3
  · obtain rfl : j = i := by omega
    exact h1

theorem moves_j1 (k i : Nat) (b : Bool) (m : S176) (hi : i < l2.length) (hm : m = l2[i]) (hg : MoveG m) (hn : l0.length ≤ 10000) (hn2 : l2.length ≤ 10000) (hk : l0.length < k) (hb : b = true ↔ (m.f4 = 1 ∨ m.f4 = 3 ∨ m.f4 = 6 ∨ m.f4 = 7))
    (ih : ∃ r, quaysideref07_moves.l0 k ((i + 1 : Nat) : Int) l0 l1 l2 ops = some r ∧ (r = true ↔ mosP l0 l2 (i + 1))) :
    ∃ r, quaysideref07_moves.j1 (k + 1) (i : Int) b l0 l1 l2 ops m.f0 m.f1 m.f2 m.f3 m.f4 m.f5 = some r ∧ (r = true ↔ mosP l0 l2 i) := by
  obtain ⟨r, hr, hiff⟩ := ih
  rw [quaysideref07_moves.j1, wrap_next hi (by omega), name6_f, name6_f, Option.bind_some, Option.bind_some]
  have hbad : ¬ moB i m → (∃ r : Bool, (some false : Option Bool) = some r ∧ (r = true ↔ mosP l0 l2 i)) := fun hb => ⟨false, rfl, (fun h => by cases h), fun h1 => absurd (hm ▸ ((mosP_step hi).1 h1).1.1) hb⟩
  by_cases c0 : m.f0 = (i : Int) + 1
  · rw [if_pos ((wrap_id hg.1 (by omega)).2 c0)]
    by_cases c1 : nameB m.f1 = true
    · rw [if_pos c1]
      by_cases c2 : nameB m.f2 = true
      · rw [if_pos c2]
        by_cases c3 : m.f3 = 0
        · rw [if_pos c3]; exact hbad (fun hb => hb.2.2.2.2 c3)
        · rw [if_neg c3]
          by_cases cb : b = true
          · rw [if_pos cb]
            have hk4 := hb.1 cb
            by_cases c5 : m.f5 < 0
            · rw [if_pos c5]; exact hbad (fun hb => by rcases hb.1 with h | h <;> omega)
            · rw [if_neg c5]
              by_cases cx : ((m.f5 != 0) != (m.f4 == 3)) = true
              · rw [if_pos cx]
                refine hbad (fun hb => ?_)
                rcases hb.1 with ⟨h4, h5⟩ | ⟨h4, h5⟩
                · have h3 : m.f4 ≠ 3 := by omega
                  rw [h5] at cx
                  simp [h3] at cx
                · have h0 : m.f5 ≠ 0 := by omega
                  rw [h4] at cx
                  simp [h0] at cx
              · rw [if_neg cx]
                have hmo : moB i m := by
                  refine ⟨?_, c0, c1, c2, c3⟩
                  by_cases h3 : m.f4 = 3
                  · refine .inr ⟨h3, ?_⟩
                    have h0 : m.f5 ≠ 0 := fun h0 => cx (by rw [h0, h3]; rfl)
                    omega
                  · refine .inl ⟨by omega, ?_⟩
                    by_cases h0 : m.f5 = 0
                    · exact h0
                    · exact absurd (by rw [show (m.f5 != 0) = true from by simpa using h0, show (m.f4 == 3) = false from by simpa using h3]; rfl) cx
                obtain ⟨x, hx, hxi⟩ := index_law l0 l1 l2 ops (moP m) hn k hk
                rw [show quaysideref07_index.f k l0 l1 l2 ops m.f1 m.f2 = some x from hx, Option.bind_some]
                by_cases hx0 : x < 0
                · rw [if_pos hx0]
                  refine ⟨false, rfl, (fun h => by cases h), fun h1 => ?_⟩
                  exact absurd (hm ▸ ((mosP_step hi).1 h1).1.2) (hxi.1 hx0)
                · rw [if_neg hx0]
                  refine ⟨r, hr, hiff.trans ⟨fun h1 => (mosP_step hi).2 ⟨⟨hm ▸ hmo, ?_⟩, h1⟩, fun h1 => ((mosP_step hi).1 h1).2⟩⟩
                  rw [← hm]
                  exact Classical.byContradiction (fun hc => hx0 (hxi.2 hc))
          · rw [if_neg cb]; exact hbad (fun h => cb (hb.2 (by rcases h.1 with h | h <;> omega)))
      · rw [if_neg c2]; exact hbad (fun hb => c2 hb.2.2.2.1)
    · rw [if_neg c1]; exact hbad (fun hb => c1 hb.2.2.1)
  · rw [if_neg (fun e => c0 ((wrap_id hg.1 (by omega)).1 e))]; exact hbad (fun hb => c0 hb.2.1)

theorem moves_loop (hG : ∀ m ∈ l2, MoveG m) (hn : l0.length ≤ 10000) (hn2 : l2.length ≤ 10000) : ∀ d k i : Nat, i + d = l2.length → 2 * d + l0.length + 2 < k → ∃ r, quaysideref07_moves.l0 k (i : Int) l0 l1 l2 ops = some r ∧ (r = true ↔ mosP l0 l2 i) := by
  intro d
  induction d with
  | zero =>
    intro k i h1 h2
    obtain ⟨k, rfl⟩ : ∃ m, k = m + 1 := ⟨k - 1, by omega⟩
    rw [quaysideref07_moves.l0, if_neg (by omega)]
    exact ⟨true, rfl, fun _ j h hj => by omega, fun _ => rfl⟩
  | succ d ih =>
    intro k i h1 h2
    obtain ⟨k, rfl⟩ : ∃ m, k = m + 1 + 1 := ⟨k - 2, by omega⟩
    have hlt : i < l2.length := by omega
    have hI := ih k (i + 1) (by omega) (by omega)
    clear ih
    rw [quaysideref07_moves.l0, if_pos (by omega), if_pos (by omega), rd_M hlt]
    have hg := hG l2[i] (List.getElem_mem hlt)
    obtain ⟨m, hm⟩ : ∃ m, m = l2[i] := ⟨_, rfl⟩
    rw [← hm] at hg ⊢
    have hj := fun b hb => moves_j1 l0 l1 l2 ops k i b m hlt hm hg hn hn2 (by omega) hb hI
    clear hI
    by_cases c1 : m.f4 = 1
    · rw [if_pos c1]; exact hj true ⟨fun _ => .inl c1, fun _ => rfl⟩
    · rw [if_neg c1]
      by_cases c3 : m.f4 = 3
      · rw [if_pos c3]; exact hj true ⟨fun _ => .inr (.inl c3), fun _ => rfl⟩
      · rw [if_neg c3]
        by_cases c6 : m.f4 = 6
        · rw [if_pos c6]; exact hj true ⟨fun _ => .inr (.inr (.inl c6)), fun _ => rfl⟩
        · rw [if_neg c6]
          exact hj _ ⟨fun e => .inr (.inr (.inr (by simpa using e))), fun e => by
            rcases e with e | e | e | e
            · exact absurd e c1
            · exact absurd e c3
            · exact absurd e c6
            · simp [e]⟩

theorem moves_law (hG : ∀ m ∈ l2, MoveG m) (hn : l0.length ≤ 10000) (hn2 : l2.length ≤ 10000) (k : Nat) (hk : 2 * l2.length + l0.length + 2 < k) : ∃ r, quaysideref07_moves.f k l0 l1 l2 ops = some r ∧ (r = true ↔ mosP l0 l2 0) :=
  moves_loop l0 l1 l2 ops hG hn hn2 l2.length k 0 (by omega) hk

/-- The two sums of a stock. -/
theorem sums_l1 (s : S165) (xs : List Int) (hx : In64 xs) (hxl : xs.length ≤ 10000) (hG : ∀ m ∈ l2, MoveG m) (hn2 : l2.length ≤ 10000) : ∀ d k i : Nat, i + d = l2.length → d + xs.length + l2.length + 2 < k →
    ∃ r, quaysideref07_sums.l1 k xs (movedF (l2.take i) (stP s)) (i : Int) l0 l1 l2 ops s.f0 s.f1 s.f2 s.f3 = some r ∧ (r = true ↔ sumOf xs = (s.f3, 0) ∧ sumOf (movedF l2 (stP s)) = (s.f2, 0)) := by
  intro d
  induction d with
  | zero =>
    intro k i h1 h2
    obtain ⟨k, rfl⟩ : ∃ m, k = m + 1 := ⟨k - 1, by omega⟩
    have hm64 : In64 (movedF l2 (stP s)) := fun n hn => by
      unfold movedF at hn
      obtain ⟨m, hm, rfl⟩ := List.mem_map.1 hn
      exact (hG m (List.mem_filter.1 hm).1).2.2.2.1
    have hml := movedF_len l2 (stP s)
    rw [quaysideref07_sums.l1, if_neg (by omega), List.take_of_length_le (by omega), rsum xs hx (by omega) k (by omega), rsum _ hm64 (by omega) k (by omega), Option.bind_some, Option.bind_some]
    obtain ⟨⟨a1, a2⟩, ha⟩ : ∃ a, sumOf xs = a := ⟨_, rfl⟩
    obtain ⟨⟨b1, b2⟩, hb⟩ : ∃ b, sumOf (movedF l2 (stP s)) = b := ⟨_, rfl⟩
    rw [ha, hb]
    dsimp only
    by_cases c1 : a2 = 0
    · rw [if_pos c1]
      by_cases c2 : b2 = 0
      · rw [if_pos c2]
        by_cases c3 : a1 = s.f3
        · rw [if_pos c3]
          exact ⟨_, rfl, by simp [c1, c2, c3]⟩
        · rw [if_neg c3]; exact ⟨false, rfl, by simp [c3]⟩
      · rw [if_neg c2]; exact ⟨false, rfl, by simp [c2]⟩
    · rw [if_neg c1]; exact ⟨false, rfl, by simp [c1]⟩
  | succ d ih =>
    intro k i h1 h2
    obtain ⟨k, rfl⟩ : ∃ m, k = m + 1 := ⟨k - 1, by omega⟩
    have hlt : i < l2.length := by omega
    have hI := ih k (i + 1) (by omega) (by omega)
    clear ih
    have hml := movedF_len (l2.take i) (stP s)
    have hml2 := List.length_take_le' i l2
    rw [quaysideref07_sums.l1, if_pos (by omega), if_pos (by omega), rd_M hlt, wrap_next hlt (by omega)]
    rw [take_snoc hlt, movedF_snoc] at hI
    by_cases e1 : (l2[i].f1).toList = s.f0.toList
    · rw [if_pos e1]
      by_cases e2 : (l2[i].f2).toList = s.f1.toList
      · rw [if_pos e2, if_pos (by omega)]
        rw [if_pos (Prod.ext (str_eq.1 e1) (str_eq.1 e2))] at hI
        exact hI
      · rw [if_neg e2]
        have hne : ¬ moP l2[i] = stP s := fun e => e2 (str_eq.2 (Prod.mk.inj e).2)
        rw [if_neg hne, List.append_nil] at hI
        exact hI
    · rw [if_neg e1]
      have hne : ¬ moP l2[i] = stP s := fun e => e1 (str_eq.2 (Prod.mk.inj e).1)
      rw [if_neg hne, List.append_nil] at hI
      exact hI

theorem sums_l0 (s : S165) (hG1 : ∀ h ∈ l1, HoldG h) (hG : ∀ m ∈ l2, MoveG m) (hn1 : l1.length ≤ 10000) (hn2 : l2.length ≤ 10000) : ∀ d k i : Nat, i + d = l1.length → d + l1.length + 2 * l2.length + 4 < k →
    ∃ r, quaysideref07_sums.l0 k (heldF (l1.take i) (stP s)) (i : Int) l0 l1 l2 ops s.f0 s.f1 s.f2 s.f3 = some r ∧ (r = true ↔ sumOf (heldF l1 (stP s)) = (s.f3, 0) ∧ sumOf (movedF l2 (stP s)) = (s.f2, 0)) := by
  intro d
  induction d with
  | zero =>
    intro k i h1 h2
    obtain ⟨k, rfl⟩ : ∃ m, k = m + 1 := ⟨k - 1, by omega⟩
    have hm64 : In64 (heldF l1 (stP s)) := fun n hn => by
      unfold heldF at hn
      obtain ⟨m, hm, rfl⟩ := List.mem_map.1 hn
      exact (hG1 m (List.mem_filter.1 hm).1).2.2.2.1
    have hml := heldF_len l1 (stP s)
    rw [quaysideref07_sums.l0, if_neg (by omega), List.take_of_length_le (by omega)]
    exact sums_l1 l0 l1 l2 ops s _ hm64 (by omega) hG hn2 l2.length k 0 (by omega) (by omega)
  | succ d ih =>
    intro k i h1 h2
    obtain ⟨k, rfl⟩ : ∃ m, k = m + 1 := ⟨k - 1, by omega⟩
    have hlt : i < l1.length := by omega
    have hI := ih k (i + 1) (by omega) (by omega)
    clear ih
    have hml := heldF_len (l1.take i) (stP s)
    have hml2 := List.length_take_le' i l1
    rw [quaysideref07_sums.l0, if_pos (by omega), if_pos (by omega), rd_H hlt, wrap_next hlt (by omega)]
    rw [take_snoc hlt, heldF_snoc] at hI
    by_cases e1 : (l1[i].f1).toList = s.f0.toList
    · rw [if_pos e1]
      by_cases e2 : (l1[i].f2).toList = s.f1.toList
      · rw [if_pos e2]
        by_cases e3 : l1[i].f4 = 0
        · rw [if_pos e3, if_pos (by omega)]
          rw [if_pos ⟨Prod.ext (str_eq.1 e1) (str_eq.1 e2), e3⟩] at hI
          exact hI
        · rw [if_neg e3]
          rw [if_neg (fun e => e3 e.2), List.append_nil] at hI
          exact hI
      · rw [if_neg e2]
        have hne : ¬ (hoP l1[i] = stP s ∧ l1[i].f4 = 0) := fun e => e2 (str_eq.2 (Prod.mk.inj e.1).2)
        rw [if_neg hne, List.append_nil] at hI
        exact hI
    · rw [if_neg e1]
      have hne : ¬ (hoP l1[i] = stP s ∧ l1[i].f4 = 0) := fun e => e1 (str_eq.2 (Prod.mk.inj e.1).1)
      rw [if_neg hne, List.append_nil] at hI
      exact hI

theorem sums_law (s : S165) (hG1 : ∀ h ∈ l1, HoldG h) (hG : ∀ m ∈ l2, MoveG m) (hn1 : l1.length ≤ 10000) (hn2 : l2.length ≤ 10000) (k : Nat) (hk : 2 * l1.length + 2 * l2.length + 4 < k) :
    ∃ r, quaysideref07_sums.f k l0 l1 l2 ops s.f0 s.f1 s.f2 s.f3 = some r ∧ (r = true ↔ sumOf (heldF l1 (stP s)) = (s.f3, 0) ∧ sumOf (movedF l2 (stP s)) = (s.f2, 0)) :=
  sums_l0 l0 l1 l2 ops s hG1 hG hn1 hn2 l1.length k 0 (by omega) (by omega)

theorem ahead_f (s t : S165) : quaysideref07_ahead.f s.f0 s.f1 s.f2 s.f3 t.f0 t.f1 t.f2 t.f3 = some (decide (ordP (stP s) (stP t) < 0)) := by
  unfold quaysideref07_ahead.f ordP
  show _ = some (decide ((if Lib.compareBytes s.f0.data.toList t.f0.data.toList = 0 then Lib.compareBytes s.f1.data.toList t.f1.data.toList else Lib.compareBytes s.f0.data.toList t.f0.data.toList) < 0))
  rw [Lib.toList_data, Lib.toList_data, Lib.toList_data, Lib.toList_data]
  by_cases h1 : Op.bytesLess s.f0.data.toList t.f0.data.toList = true
  · rw [if_pos h1]
    have h2 := (cmp_neg _ _).2 h1
    rw [if_neg (by omega), decide_eq_true h2]
  · rw [if_neg h1]
    have h2 : ¬ Lib.compareBytes s.f0.data.toList t.f0.data.toList < 0 := fun h => h1 ((cmp_neg _ _).1 h)
    by_cases h3 : s.f0.data.toList = t.f0.data.toList
    · rw [if_pos h3, if_pos ((cmp_zero _ _).2 h3)]
      congr 1
      rw [Bool.eq_iff_iff, decide_eq_true_iff]
      exact (cmp_neg _ _).symm
    · rw [if_neg h3, if_neg (fun h => h3 ((cmp_zero _ _).1 h)), decide_eq_false h2]
end
end Go.Proofs.YtofkhcgkahkagaaGreat

