/- What holds between two rounds of ledger.Check. -/
import Derived.Test.YtofkhcgkahkagaaGreatPLaw
import Derived.Test.YtofkhcgkahkagaaGreatPOrd
import Derived.Test.YtofkhcgkahkagaaGreatPSum
import Derived.Deep.RegionHeld3
import Derived.OpenShut
import Derived.Laws.Cover1
namespace Go.Proofs.YtofkhcgkahkagaaGreat
open Go.RowKit Go.Proofs.YtofkhcgkahkagaaGreatW.PrintWords Go.Proofs.YtofkhcgkahkagaaGreatW.PrintLast Go.Proofs.YtofkhcgkahkagaaGreatW.PrintMore Go.Proofs.YtofkhcgkahkagaaGreat.PPromiseShort
set_option linter.unusedVariables false
set_option linter.unusedSimpArgs false

def stP (s : S165) : Plc := (s.f0, s.f1)
def hoP (h : S172) : Plc := (h.f1, h.f2)
def moP (m : S176) : Plc := (m.f1, m.f2)
/-- May a stock be the k-th one? -/
def stB (l0 : List S165) (k : Nat) (s : S165) : Prop := nameB s.f0 = true ∧ nameB s.f1 = true ∧ 0 ≤ s.f3 ∧ s.f3 ≤ s.f2 ∧ (0 < k → ordP (stP (l0.getD (k - 1) z165)) (stP s) < 0)
open Classical in
/-- The maps behind so many stocks. -/
noncomputable def gNil (l0 : List S165) : Plc → Option (List Int) := fun p => if p ∈ l0.map stP then some [] else none
theorem gNil_nil : gNil [] = fun _ => none := by funext p; simp [gNil]
theorem gNil_snoc (l0 : List S165) (s : S165) : gNil (l0 ++ [s]) = upd (gNil l0) (stP s) [] := by
  funext p
  unfold gNil upd
  by_cases h : p = stP s
  · rw [if_pos h, h, if_pos (by simp)]
  · rw [if_neg h]
    have e : (p ∈ (l0 ++ [s]).map stP) = (p ∈ l0.map stP) := by simp [h]
    rw [e]

theorem below_w {w W V : World} (h : Below w.heap.size w W) (hb : Below W.heap.size W V) : Below w.heap.size w V := h.trans (hb.mono h.size)
theorem below_chain {W V V' : World} (h : Below W.heap.size W V) (hb : Below V.heap.size V V') : Below W.heap.size W V' := h.trans (hb.mono h.size)

theorem cell_below {W V : World} (h : Below W.heap.size W V) {p : Addr} {v : Value} (hc : W.cell? p = some v) : V.cell? p = some v := (h.cell (World.block_lt_of_cell? W _ hc)).trans hc
theorem cell_grown {W V : World} {j : Nat} (h : W.grownBy V (some j)) {b o : Nat} {v : Value} (hc : W.cell? ⟨b, o, none⟩ = some v) (hj : b ≠ j) : V.cell? ⟨b, o, none⟩ = some v := by
  rw [← hc]
  have := h.block b (World.block_lt_of_cell? W _ hc) (fun e => hj (by cases e; rfl))
  unfold World.cell?
  rw [this]
/-- A stock's cells. -/
def StAt (b : Nat) (s : S165) (V : World) : Prop := V.cell? ⟨b, 0, none⟩ = some (.string s.f0) ∧ V.cell? ⟨b, 1, none⟩ = some (.string s.f1) ∧ V.cell? ⟨b, 2, none⟩ = some (.int .i64 s.f2) ∧ V.cell? ⟨b, 3, none⟩ = some (.int .i64 s.f3)
theorem StAt.below {b : Nat} {s : S165} {V V' : World} (h : StAt b s V) (hb : Below V.heap.size V V') : StAt b s V' := ⟨cell_below hb h.1, cell_below hb h.2.1, cell_below hb h.2.2.1, cell_below hb h.2.2.2⟩
theorem StAt.grown {b : Nat} {s : S165} {V V' : World} (h : StAt b s V) {j : Nat} (hg : V.grownBy V' (some j)) (hj : b ≠ j) : StAt b s V' := ⟨cell_grown hg h.1 hj, cell_grown hg h.2.1 hj, cell_grown hg h.2.2.1 hj, cell_grown hg h.2.2.2 hj⟩
/-- ledger.Check's blocks. -/
structure CkL (w : World) (A0 : Option Addr) (n0 c0 : Nat) (A1 : Option Addr) (n1 c1 : Nat) (A2 : Option Addr) (n2 c2 : Nat) (ops : Int) (V : World) : Prop where
  low : Below w.heap.size w V
  led : V.heap[w.heap.size]? = some (.cells #[.slice A0 n0 c0, .slice A1 n1 c1, .slice A2 n2 c2, .int .i64 ops] 55 (0, 0))

/-- Between two stocks. -/
structure CkA (l0 : List S165) (w : World) (k : Nat) (V : World) : Prop where
  all : ∀ j (h : j < l0.length), j < k → stB l0 j l0[j]
  held : GN V (w.heap.size + 1) k (gNil (l0.take k))
  moved : GN V (w.heap.size + 1 + 1) k (gNil (l0.take k))

theorem grown_below {w w' : World} (h : Below w.heap.size w w') : w.grownBy w' none := ⟨h.os, h.tape, h.output, h.size, fun i hi _ => h.block i hi⟩
theorem grown_refl (w : World) (row : Option Nat) : w.grownBy w row := ⟨rfl, rfl, rfl, Nat.le_refl _, fun _ _ _ => rfl⟩

theorem CkL.below {w : World} {A0 : Option Addr} {n0 c0 : Nat} {A1 : Option Addr} {n1 c1 : Nat} {A2 : Option Addr} {n2 c2 : Nat} {ops : Int} {V V' : World} (h : CkL w A0 n0 c0 A1 n1 c1 A2 n2 c2 ops V) (hb : Below V.heap.size V V') : CkL w A0 n0 c0 A1 n1 c1 A2 n2 c2 ops V' :=
  ⟨h.low.trans (hb.mono h.low.size), (hb.block _ (Array.getElem?_eq_some_iff.1 h.led).1).trans h.led⟩
theorem CkL.grownO {w : World} {A0 : Option Addr} {n0 c0 : Nat} {A1 : Option Addr} {n1 c1 : Nat} {A2 : Option Addr} {n2 c2 : Nat} {ops : Int} {V V' : World} (h : CkL w A0 n0 c0 A1 n1 c1 A2 n2 c2 ops V) {row : Option Nat} (hg : V.grownBy V' row) (hj : ∀ j, row = some j → w.heap.size < j) : CkL w A0 n0 c0 A1 n1 c1 A2 n2 c2 ops V' :=
  ⟨h.low.grown hg h.low.size (fun i hi => by have := hj i hi; omega), (hg.block _ (Array.getElem?_eq_some_iff.1 h.led).1 (fun e => by have := hj _ e.symm; omega)).trans h.led⟩
theorem CkL.grown {w : World} {A0 : Option Addr} {n0 c0 : Nat} {A1 : Option Addr} {n1 c1 : Nat} {A2 : Option Addr} {n2 c2 : Nat} {ops : Int} {V V' : World} (h : CkL w A0 n0 c0 A1 n1 c1 A2 n2 c2 ops V) {j : Nat} (hg : V.grownBy V' (some j)) (hj : w.heap.size < j) : CkL w A0 n0 c0 A1 n1 c1 A2 n2 c2 ops V' := h.grownO hg (fun i hi => by cases hi; exact hj)
theorem CkA.below {l0 : List S165} {w : World} {k : Nat} {V V' : World} (h : CkA l0 w k V) (hb : Below V.heap.size V V') : CkA l0 w k V' :=
  ⟨h.all, h.held.grown (grown_below hb), h.moved.grown (grown_below hb)⟩

theorem name_ok {s : ByteArray} (h : nameB s = true) : s.size ≤ maxLen := by
  have := of_decide_eq_true h
  unfold maxLen
  omega

/-- The round of a stock that may be. -/
theorem CkA.step {l0 : List S165} {w : World} {k : Nat} {V : World} {s : S165} (h : CkA l0 w k V) (hlt : k < l0.length) (hs : s = l0[k]) (hst : stB l0 k s) (hk : k ≤ 30) :
    ∃ (v0 : Value) (st : Int) (wE w2 w3 : World), (Instr.mapEntry 163 (.map (some (w.heap.size + 1))) (.agg #[.string s.f0, .string s.f1])).run Tryz.prog V = .ok (.tuple #[v0, (.int .i64 st)]) wE ∧
      (Instr.entryStore 163 (.map (some (w.heap.size + 1))) ((.int .i64 st)) (.slice none 0 0)).run Tryz.prog wE = .ok () w2 ∧
      (Instr.mapUpdate 163 (.map (some (w.heap.size + 1 + 1))) (.agg #[.string s.f0, .string s.f1]) (.slice none 0 0)).run Tryz.prog w2 = .ok () w3 ∧
      CkA l0 w (k + 1) w3 ∧ V.grownBy wE (some (w.heap.size + 1)) ∧ wE.grownBy w2 (some (w.heap.size + 1)) ∧ w2.grownBy w3 (some (w.heap.size + 1 + 1)) := by
  have hp : plOk (stP s) := ⟨name_ok hst.1, name_ok hst.2.1⟩
  obtain ⟨v0, st, wE, r1, g1, hback⟩ := h.held.entry (by unfold maxLen; omega) hp
  obtain ⟨w2, r2, h2, g2⟩ := hback wE (grown_refl _ _)
  have hm2 := (h.moved.kept g1 (by simp)).kept g2 (by simp)
  obtain ⟨w3, r3, h3, g3⟩ := hm2.update (by unfold maxLen; omega) hp
  have he : l0.take (k + 1) = l0.take k ++ [s] := by rw [take_snoc hlt, hs]
  refine ⟨v0, st, wE, w2, w3, r1, r2, r3, ⟨fun j hj hjk => ?_, ?_, ?_⟩, g1, g2, g3⟩
  · rcases Nat.lt_or_ge j k with h1 | h1
    · exact h.all j hj h1
    · obtain rfl : j = k := by omega
      rw [← hs]
      exact hst
  · rw [he, gNil_snoc]
    exact h2.kept g3 (by simp)
  · rw [he, gNil_snoc]
    exact h3

/-! ### holds and movements -/
open Classical in
/-- A function over the places of stocks. -/
noncomputable def gOf (l0 : List S165) (f : Plc → List Int) : Plc → Option (List Int) := fun p => if p ∈ l0.map stP then some (f p) else none
theorem gOf_nil (l0 : List S165) : gOf l0 (fun _ => []) = gNil l0 := rfl
theorem gOf_known {l0 : List S165} {f : Plc → List Int} {p : Plc} (h : p ∈ l0.map stP) : gOf l0 f p = some (f p) := by unfold gOf; rw [if_pos h]
theorem gOf_not {l0 : List S165} {f : Plc → List Int} {p : Plc} (h : ¬ p ∈ l0.map stP) : gOf l0 f p = none := by unfold gOf; rw [if_neg h]
theorem gOf_upd {l0 : List S165} {f f' : Plc → List Int} {p : Plc} {q : Int} (h : p ∈ l0.map stP) (h1 : f' p = f p ++ [q]) (h2 : ∀ p', p' ≠ p → f' p' = f p') : gOf l0 f' = upd (gOf l0 f) p ((gOf l0 f p).getD [] ++ [q]) := by
  funext p'
  unfold upd
  by_cases e : p' = p
  · rw [if_pos e, e, gOf_known h, gOf_known h, h1]
    rfl
  · rw [if_neg e]
    unfold gOf
    rw [h2 p' e]

open Classical in
/-- What is held, and what has moved, at a place. -/
noncomputable def heldF (l1 : List S172) (p : Plc) : List Int := (l1.filter (fun h => decide (hoP h = p ∧ h.f4 = 0))).map (fun h => h.f3)
open Classical in
noncomputable def movedF (l2 : List S176) (p : Plc) : List Int := (l2.filter (fun m => decide (moP m = p))).map (fun m => m.f3)
theorem heldF_snoc (l1 : List S172) (h : S172) (p : Plc) : heldF (l1 ++ [h]) p = heldF l1 p ++ (if hoP h = p ∧ h.f4 = 0 then [h.f3] else []) := by
  unfold heldF
  rw [List.filter_append, List.map_append]
  by_cases e : hoP h = p ∧ h.f4 = 0
  · rw [if_pos e]; simp [e]
  · rw [if_neg e]
    rw [List.filter_cons_of_neg (by simpa using e)]
    rfl
theorem movedF_snoc (l2 : List S176) (m : S176) (p : Plc) : movedF (l2 ++ [m]) p = movedF l2 p ++ (if moP m = p then [m.f3] else []) := by
  unfold movedF
  rw [List.filter_append, List.map_append]
  by_cases e : moP m = p
  · rw [if_pos e]; simp [e]
  · rw [if_neg e]; simp [e]
theorem heldF_len (l1 : List S172) (p : Plc) : (heldF l1 p).length ≤ l1.length := by unfold heldF; rw [List.length_map]; exact List.length_filter_le _ _
theorem movedF_len (l2 : List S176) (p : Plc) : (movedF l2 p).length ≤ l2.length := by unfold movedF; rw [List.length_map]; exact List.length_filter_le _ _

/-- May a hold be the k-th one? -/
def hoB (k : Nat) (h : S172) : Prop := h.f0 = (k : Int) + 1 ∧ nameB h.f1 = true ∧ nameB h.f2 = true ∧ 1 ≤ h.f3 ∧ 0 ≤ h.f4 ∧ h.f4 ≤ 2 ∧ 0 ≤ h.f5
instance (k : Nat) (h : S172) : Decidable (hoB k h) := by unfold hoB; infer_instance
theorem name_f (s : ByteArray) : ledger_name.f s = some (nameB s) := by
  unfold ledger_name.f nameB
  by_cases h : (s.size : Int) ≥ 1
  · rw [if_pos h, decide_eq_decide.2 (show (s.size : Int) ≤ 64 ↔ (1 ≤ s.size ∧ s.size ≤ 64) by omega)]
  · rw [if_neg h, decide_eq_false (show ¬ (1 ≤ s.size ∧ s.size ≤ 64) by omega)]
theorem hold_f (k : Nat) (hk : k ≤ 1000) (h : S172) : ledger_hold.f (k : Int) h.f0 h.f1 h.f2 h.f3 h.f4 h.f5 = some (decide (hoB k h)) := by
  have hw : wrap64 ((k : Int) + 1) = (k : Int) + 1 := by unfold wrap64; omega
  unfold ledger_hold.f
  rw [hw, name_f, name_f, Option.bind_some, Option.bind_some]
  unfold hoB
  by_cases h0 : h.f0 = (k : Int) + 1
  · by_cases h1 : nameB h.f1 = true
    · by_cases h2 : nameB h.f2 = true
      · by_cases h3 : 1 ≤ h.f3
        · by_cases h4 : 0 ≤ h.f4
          · by_cases h5 : h.f4 ≤ 2
            · simp [h0, h1, h2, h3, h4, h5]
            · simp [h0, h1, h2, h3, h4, h5]
          · simp [h0, h1, h2, h3, h4]
        · simp [h0, h1, h2, h3]
      · simp [h0, h1, h2]
    · simp [h0, h1]
  · simp [h0]
/-- May a movement be the k-th one? -/
def moB (k : Nat) (m : S176) : Prop := ((m.f4 = 1 ∨ m.f4 = 6 ∨ m.f4 = 7) ∧ m.f5 = 0 ∨ m.f4 = 3 ∧ 1 ≤ m.f5) ∧ (m.f0 = (k : Int) + 1 ∧ nameB m.f1 = true ∧ nameB m.f2 = true ∧ m.f3 ≠ 0)
instance (k : Nat) (m : S176) : Decidable (moB k m) := by unfold moB; infer_instance
theorem move_f (k : Nat) (hk : k ≤ 1000) (m : S176) : ledger_move.f 1 (k : Int) m.f0 m.f1 m.f2 m.f3 m.f4 m.f5 = some (decide (moB k m)) := by
  have hw : wrap64 ((k : Int) + 1) = (k : Int) + 1 := by unfold wrap64; omega
  have hb : ∀ b : Prop, ∀ _ : Decidable b, (if m.f0 = (k : Int) + 1 then (some (nameB m.f1)).bind fun t => (if t = true then (some (nameB m.f2)).bind fun t => (if t = true then some (m.f3 != 0) else some false) else some false) else some false) = some (decide (m.f0 = (k : Int) + 1 ∧ nameB m.f1 = true ∧ nameB m.f2 = true ∧ m.f3 ≠ 0)) := fun _ _ => by
    rw [Option.bind_some, Option.bind_some]
    by_cases h0 : m.f0 = (k : Int) + 1
    · by_cases h1 : nameB m.f1 = true
      · by_cases h2 : nameB m.f2 = true
        · by_cases h3 : m.f3 = 0
          · simp [h0, h1, h2, h3]
          · simp [h0, h1, h2, h3]
        · simp [h0, h1, h2]
      · simp [h0, h1]
    · simp [h0]
  have hb := hb True inferInstance
  unfold ledger_move.f ledger_move.j0
  simp only [hw, name_f]
  rw [hb]
  rw [show decide (moB k m) = (decide ((m.f4 = 1 ∨ m.f4 = 6 ∨ m.f4 = 7) ∧ m.f5 = 0 ∨ m.f4 = 3 ∧ 1 ≤ m.f5) && decide (m.f0 = (k : Int) + 1 ∧ nameB m.f1 = true ∧ nameB m.f2 = true ∧ m.f3 ≠ 0)) from by rw [Bool.eq_iff_iff, decide_eq_true_iff]; simp [moB]]
  generalize decide (m.f0 = (k : Int) + 1 ∧ nameB m.f1 = true ∧ nameB m.f2 = true ∧ m.f3 ≠ 0) = B
  by_cases e1 : m.f4 = 1
  · by_cases e5 : m.f5 = 0
    · simp [e1, e5]
    · simp [e1, e5]
  · by_cases e6 : m.f4 = 6
    · by_cases e5 : m.f5 = 0
      · simp [e6, e5]
      · simp [e6, e5]
    · by_cases e7 : m.f4 = 7
      · by_cases e5 : m.f5 = 0
        · simp [e7, e5]
        · simp [e7, e5]
      · by_cases e3 : m.f4 = 3
        · by_cases e5 : m.f5 < 1
          · have : ¬ 1 ≤ m.f5 := by omega
            simp [e3, e5, this]
          · have : 1 ≤ m.f5 := by omega
            simp [e3, e5, this]
        · simp [e1, e6, e7, e3]

/-- Between two holds. -/
structure CkB (l0 : List S165) (l1 : List S172) (w : World) (k : Nat) (V : World) : Prop where
  all : ∀ j (h : j < l1.length), j < k → hoB j l1[j] ∧ (l1[j].f4 = 0 → hoP l1[j] ∈ l0.map stP)
  held : GM V (w.heap.size + 3) (w.heap.size + 1) (l0.length + k) (gOf l0 (heldF (l1.take k)))
  moved : GN V (w.heap.size + 1 + 1) l0.length (gNil l0)

theorem CkB.below {l0 : List S165} {l1 : List S172} {w : World} {k : Nat} {V V' : World} (h : CkB l0 l1 w k V) (hb : Below V.heap.size V V') : CkB l0 l1 w k V' :=
  ⟨h.all, h.held.grown (grown_below hb), h.moved.grown (grown_below hb)⟩

theorem CkB.skip {l0 : List S165} {l1 : List S172} {w : World} {k : Nat} {V : World} {h : S172} (hI : CkB l0 l1 w k V) (hlt : k < l1.length) (hh : h = l1[k]) (ho : hoB k h) (h4 : h.f4 ≠ 0) : CkB l0 l1 w (k + 1) V := by
  refine ⟨fun j hj hjk => ?_, ?_, hI.moved⟩
  · rcases Nat.lt_or_ge j k with h1 | h1
    · exact hI.all j hj h1
    · obtain rfl : j = k := by omega
      rw [← hh]
      exact ⟨ho, fun e => absurd e h4⟩
  · have e : heldF (l1.take (k + 1)) = heldF (l1.take k) := by
      funext p
      rw [take_snoc hlt, ← hh, heldF_snoc, if_neg (fun e => h4 e.2), List.append_nil]
    rw [e]
    exact hI.held.mono (by omega)

theorem wf_i64 {n : Int} (h : i64B n) : (Lit.int .i64 n).wf = true := WalkArith.wf_i64 h

/-- The list at an entry, grown by one. -/
theorem grow_entry {w : World} {base b n : Nat} {g : Plc → Option (List Int)} {p : Plc} (h : GM w base b n g) (hn : n < 1000) (hp : plOk p) {L : Nat} {q : Int} (hq : i64B q) (ha : w.cell? ⟨L, 0, none⟩ = some (.int .i64 q)) (hab : L ≠ b) (hbase : base ≤ w.heap.size) :
    ∃ (v0 : Value) (st : Int) (wE : World) (v1 : Value) (w1 w2 : World), (Instr.mapEntry 163 (.map (some b)) (.agg #[.string p.1, .string p.2])).run Tryz.prog w = .ok (.tuple #[v0, .int .i64 st]) wE ∧
      (Builtin.append_ #[35, 35] 35 #[v0, .slice (some ⟨L, 0, none⟩) 1 1]).run Tryz.prog wE = .ok v1 w1 ∧
      (Instr.entryStore 163 (.map (some b)) (.int .i64 st) v1).run Tryz.prog w1 = .ok () w2 ∧ GM w2 base b (n + 1) (upd g p ((g p).getD [] ++ [q])) ∧
      w.grownBy wE (some b) ∧ wE.grownBy w1 v0.ownBlock ∧ (∀ j, v0.ownBlock = some j → base ≤ j) ∧ w1.grownBy w2 (some b) := by
  obtain ⟨v0, st, wE, hrun, hgE, ho, hl, hback⟩ := h.entry (by unfold maxLen; omega) hp
  obtain ⟨i0, hi0, hz0, hz1, hz2⟩ := info_parts (info3)
  have haE := cell_grown hgE ha hab
  have hsz := hgE.size
  obtain ⟨v1, w1, r1, ho1, g1, _, hloc⟩ := run_append_own_at (P := Tryz.prog) wE base 35 35 3 i0 (.int .i64 0) 1 8 Tryz.underlying35 hi0 hz0 hz1 hz2 rfl (by decide) v0 _ _ ho.1 ⟨L, 0, none⟩ 1 1 [.int .i64 q] rfl
    (fun j u hj => by
      cases j with
      | zero => simp at hj; subst hj; exact haE
      | succ j => simp at hj) (by simp [Value.oneCell']) (by unfold maxLen; omega) (by omega) (by omega)
  obtain ⟨w2, r2, h2, g2⟩ := hback w1 v1 _ g1 (ho.appended ho1 (wf_i64 hq)) (by simp; omega) (hloc.imp id (fun h => ⟨_, h, hsz⟩))
  exact ⟨v0, st, wE, v1, w1, w2, hrun, r1, r2, h2, hgE, g1, fun j hj => (ho.1.lt j hj).1, g2⟩

section
variable {l0 : List S165} {l1 : List S172} {l2 : List S176} {w w3 V V' : World} {k L : Nat} {A0 : Option Addr} {n0 c0 : Nat} {A1 : Option Addr} {n1 c1 : Nat} {A2 : Option Addr} {n2 c2 : Nat} {ops : Int}

theorem CkB.step {h : S172} (hL : CkL w A0 n0 c0 A1 n1 c1 A2 n2 c2 ops V) (hI : CkB l0 l1 w k V) (hlt : k < l1.length) (hh : h = l1[k]) (ho : hoB k h) (h4 : h.f4 = 0) (hkn : hoP h ∈ l0.map stP) (hq : i64B h.f3) (hk : l0.length + k < 1000)
    (ha : V.cell? ⟨L, 0, none⟩ = some (.int .i64 h.f3)) (hLb : L ≠ w.heap.size + 1) (hsz : w.heap.size + 3 ≤ V.heap.size) :
    ∃ (v0 : Value) (st : Int) (wE : World) (v1 : Value) (w1 w2 : World), (Instr.mapEntry 163 (.map (some (w.heap.size + 1))) (.agg #[.string h.f1, .string h.f2])).run Tryz.prog V = .ok (.tuple #[v0, .int .i64 st]) wE ∧
      (Builtin.append_ #[35, 35] 35 #[v0, .slice (some ⟨L, 0, none⟩) 1 1]).run Tryz.prog wE = .ok v1 w1 ∧
      (Instr.entryStore 163 (.map (some (w.heap.size + 1))) (.int .i64 st) v1).run Tryz.prog w1 = .ok () w2 ∧ CkL w A0 n0 c0 A1 n1 c1 A2 n2 c2 ops w2 ∧ CkB l0 l1 w (k + 1) w2 := by
  have hp : plOk (hoP h) := ⟨name_ok ho.2.1, name_ok ho.2.2.1⟩
  obtain ⟨v0, st, wE, v1, w1, w2, r1, r2, r3, hG, g1, g2, hv, g3⟩ := grow_entry hI.held hk hp hq ha hLb hsz
  refine ⟨v0, st, wE, v1, w1, w2, r1, r2, r3, ((hL.grown g1 (by omega)).grownO g2 (fun j hj => by have := hv j hj; omega)).grown g3 (by omega), ⟨fun j hj hjk => ?_, ?_, ((hI.moved.kept g1 (by simp)).kept g2 (fun e => by have := hv _ e.symm; omega)).kept g3 (by simp)⟩⟩
  · rcases Nat.lt_or_ge j k with h1 | h1
    · exact hI.all j hj h1
    · obtain rfl : j = k := by omega
      rw [← hh]
      exact ⟨ho, fun _ => hkn⟩
  · rw [gOf_upd (f := heldF (l1.take k)) (p := hoP h) (q := h.f3) hkn (by rw [take_snoc hlt, ← hh, heldF_snoc, if_pos ⟨rfl, h4⟩]) (fun p' hne => by rw [take_snoc hlt, ← hh, heldF_snoc, if_neg (fun e => hne e.1.symm), List.append_nil])]
    exact hG

theorem grown_over {b : Nat} {row : Option Nat} (h : w3.grownBy V (some b)) (hg : V.grownBy V' row) (hr : ∀ j, row = some j → w3.heap.size ≤ j ∨ j = b) : w3.grownBy V' (some b) :=
  ⟨hg.os.trans h.os, hg.tape.trans h.tape, hg.output.trans h.output, Nat.le_trans h.size hg.size, fun i hi hne => (hg.block i (Nat.lt_of_lt_of_le hi h.size) (fun e => by
    rcases hr i e.symm with h1 | h1
    · omega
    · exact hne (by rw [h1]))).trans (h.block i hi hne)⟩

/-- Between two movements; w3: ahead of all of them. -/
structure CkC (l0 : List S165) (l2 : List S176) (w w3 : World) (k : Nat) (V : World) : Prop where
  all : ∀ j (h : j < l2.length), j < k → moB j l2[j] ∧ moP l2[j] ∈ l0.map stP
  fro : w3.grownBy V (some (w.heap.size + 1 + 1))
  moved : GM V w3.heap.size (w.heap.size + 1 + 1) (l0.length + k) (gOf l0 (movedF (l2.take k)))

theorem CkC.below (h : CkC l0 l2 w w3 k V) (hb : Below V.heap.size V V') : CkC l0 l2 w w3 k V' :=
  ⟨h.all, grown_over h.fro (grown_below hb) (fun j hj => by cases hj), h.moved.grown (grown_below hb)⟩

theorem CkC.step {m : S176} (hL : CkL w A0 n0 c0 A1 n1 c1 A2 n2 c2 ops V) (hI : CkC l0 l2 w w3 k V) (hlt : k < l2.length) (hm : m = l2[k]) (ho : moB k m) (hkn : moP m ∈ l0.map stP) (hq : i64B m.f3) (hk : l0.length + k < 1000)
    (ha : V.cell? ⟨L, 0, none⟩ = some (.int .i64 m.f3)) (hLb : L ≠ w.heap.size + 1 + 1) (hsz : w.heap.size < w3.heap.size) :
    ∃ (v0 : Value) (st : Int) (wE : World) (v1 : Value) (w1 w2 : World), (Instr.mapEntry 163 (.map (some (w.heap.size + 1 + 1))) (.agg #[.string m.f1, .string m.f2])).run Tryz.prog V = .ok (.tuple #[v0, .int .i64 st]) wE ∧
      (Builtin.append_ #[35, 35] 35 #[v0, .slice (some ⟨L, 0, none⟩) 1 1]).run Tryz.prog wE = .ok v1 w1 ∧
      (Instr.entryStore 163 (.map (some (w.heap.size + 1 + 1))) (.int .i64 st) v1).run Tryz.prog w1 = .ok () w2 ∧ CkL w A0 n0 c0 A1 n1 c1 A2 n2 c2 ops w2 ∧ CkC l0 l2 w w3 (k + 1) w2 := by
  have hp : plOk (moP m) := ⟨name_ok ho.2.2.1, name_ok ho.2.2.2.1⟩
  obtain ⟨v0, st, wE, v1, w1, w2, r1, r2, r3, hG, g1, g2, hv, g3⟩ := grow_entry hI.moved hk hp hq ha hLb hI.fro.size
  refine ⟨v0, st, wE, v1, w1, w2, r1, r2, r3, ((hL.grown g1 (by omega)).grownO g2 (fun j hj => by have := hv j hj; omega)).grown g3 (by omega), ⟨fun j hj hjk => ?_, ?_, ?_⟩⟩
  · rcases Nat.lt_or_ge j k with h1 | h1
    · exact hI.all j hj h1
    · obtain rfl : j = k := by omega
      rw [← hm]
      exact ⟨ho, hkn⟩
  · exact grown_over (grown_over (grown_over hI.fro g1 (fun j hj => by cases hj; exact .inr rfl)) g2 (fun j hj => .inl (hv j hj))) g3 (fun j hj => by cases hj; exact .inr rfl)
  · rw [gOf_upd (f := movedF (l2.take k)) (p := moP m) (q := m.f3) hkn (by rw [take_snoc hlt, ← hm, movedF_snoc, if_pos rfl]) (fun p' hne => by rw [take_snoc hlt, ← hm, movedF_snoc, if_neg (fun e => hne e.symm), List.append_nil])]
    exact hG

/-- Behind the stocks. -/
theorem CkA.toB (h : CkA l0 w l0.length V) : CkB l0 l1 w 0 V := by
  have h1 := h.held
  have h2 := h.moved
  rw [List.take_length] at h1 h2
  exact ⟨fun j _ hj => absurd hj (Nat.not_lt_zero _), h1 _ (by omega), h2⟩
/-- Behind the holds. -/
theorem CkB.toC (h : CkB l0 l1 w l1.length V) : CkC l0 l2 w V 0 V :=
  ⟨fun j _ hj => absurd hj (Nat.not_lt_zero _), grown_refl _ _, h.moved _ h.moved.lt⟩
/-- What is held, behind the movements. -/
theorem CkC.heldAt (h : CkC l0 l2 w w3 k V) (hB : CkB l0 l1 w l1.length w3) : GM V (w.heap.size + 3) (w.heap.size + 1) (l0.length + l1.length) (gOf l0 (heldF l1)) := by
  have := hB.held
  rw [List.take_length] at this
  exact this.kept h.fro (by simp) (fun j hj => by cases hj; exact .inl (by omega))
end

/-- append in a region of one order, by an equation of its run. -/
theorem wpList_append_run {P : Program} {ops : Array Oper} {rest : List Oper} {o : Oper} {a : Act} {w : World} {Q : Exit → Act → World → Prop} {v1 : Value} {w1 : World}
    (hg : o.guard = none) (s x : Operand) (t : TypeId) (hop : o.op = Op.call { callee := Callee.builtin Builtin.append, args := #[s, x], argTypes := #[t, t] })
    (hr : (Builtin.append_ #[t, t] o.type #[a.eval s, a.eval x]).run P w = .ok v1 w1) (hK : wpList P ops Q rest (a.put o.dst v1) w1) : wpList P ops Q (o :: rest) a w := by
  refine wpList_plain hg fun K hK' => ?_
  unfold Oper.wp
  simp [execOp, hop, resolve, invoke, builtin, hr, Result.andThen]
  exact hK' _ _ hK

theorem sum_arg {w : World} {base : Nat} {v : Value} {zs : List Int} (h : w.ownsInts base 3 .i64 v zs) : ∃ A c, v = .slice A zs.length c ∧ zs.length ≤ c ∧ Kd.C (Kd.int .i64) w A zs.length zs ∧ In64 zs := by
  obtain ⟨A, c, h1, h2, h3⟩ := Kd.R_reads (Kd.R_of_own (h1 := fun _ => rfl) (ok := fun _ => True) (xs := zs) h.1 (fun _ _ => trivial))
  exact ⟨A, c, h1, h2, h3, fun z hz => bounds_i64 (h.2 z hz)⟩

/-- Between two stocks, at the end. -/
structure CkD (l0 : List S165) (l1 : List S172) (l2 : List S176) (w : World) (base : Nat) (k : Nat) (V : World) : Prop where
  all : ∀ j (h : j < l0.length), j < k → sumOf (heldF l1 (stP l0[j])) = (l0[j].f3, 0) ∧ sumOf (movedF l2 (stP l0[j])) = (l0[j].f2, 0)
  held : GM V (w.heap.size + 3) (w.heap.size + 1) (l0.length + l1.length) (gOf l0 (heldF l1))
  moved : GM V base (w.heap.size + 1 + 1) (l0.length + l2.length) (gOf l0 (movedF l2))
theorem CkD.below {l0 : List S165} {l1 : List S172} {l2 : List S176} {w : World} {base k : Nat} {V V' : World} (h : CkD l0 l1 l2 w base k V) (hb : Below V.heap.size V V') : CkD l0 l1 l2 w base k V' :=
  ⟨h.all, h.held.grown (grown_below hb), h.moved.grown (grown_below hb)⟩
theorem CkC.toD {l0 : List S165} {l1 : List S172} {l2 : List S176} {w w3 V : World} (h : CkC l0 l2 w w3 l2.length V) (hB : CkB l0 l1 w l1.length w3) : CkD l0 l1 l2 w w3.heap.size 0 V := by
  have hm := h.moved
  rw [List.take_length] at hm
  exact ⟨fun j _ hj => absurd hj (Nat.not_lt_zero _), h.heldAt hB, hm⟩
/-- The two sums that a stock is held against. -/
theorem CkD.sums {l0 : List S165} {l1 : List S172} {l2 : List S176} {w : World} {base k : Nat} {V : World} (h : CkD l0 l1 l2 w base k V) {s : S165} (hs : s ∈ l0) (hp : plOk (stP s)) (hn : l0.length + l1.length + l2.length < 1000) :
    (∃ A c, (Instr.lookup 163 (.map (some (w.heap.size + 1))) (.agg #[.string s.f0, .string s.f1]) false).run Tryz.prog V = .ok (.slice A (heldF l1 (stP s)).length c) V ∧ (heldF l1 (stP s)).length ≤ c ∧ Kd.C (Kd.int .i64) V A (heldF l1 (stP s)).length (heldF l1 (stP s)) ∧ In64 (heldF l1 (stP s))) ∧
    (∃ A c, (Instr.lookup 163 (.map (some (w.heap.size + 1 + 1))) (.agg #[.string s.f0, .string s.f1]) false).run Tryz.prog V = .ok (.slice A (movedF l2 (stP s)).length c) V ∧ (movedF l2 (stP s)).length ≤ c ∧ Kd.C (Kd.int .i64) V A (movedF l2 (stP s)).length (movedF l2 (stP s)) ∧ In64 (movedF l2 (stP s))) := by
  have hk : stP s ∈ l0.map stP := List.mem_map.2 ⟨s, hs, rfl⟩
  constructor
  · obtain ⟨v, hr, ho, _⟩ := h.held.at (by unfold maxLen; omega) hp
    rw [gOf_known hk] at ho
    obtain ⟨A, c, rfl, h1, h2, h3⟩ := sum_arg ho
    exact ⟨A, c, hr, h1, h2, h3⟩
  · obtain ⟨v, hr, ho, _⟩ := h.moved.at (by unfold maxLen; omega) hp
    rw [gOf_known hk] at ho
    obtain ⟨A, c, rfl, h1, h2, h3⟩ := sum_arg ho
    exact ⟨A, c, hr, h1, h2, h3⟩
end Go.Proofs.YtofkhcgkahkagaaGreat

