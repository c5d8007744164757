/- How an argument's reading tells its list, over the words alone; and what hangs on the blocks alone. -/
import Derived.Test.YtofkhcgkahkagaaGreatWds
import Derived.Deep.Slices
import Derived.ChangeOld
namespace Go.Proofs.YtofkhcgkahkagaaGreat
open Go.RowKit Go.Deep Go.Proofs.YtofkhcgkahkagaaGreatW.PrintWords Go.Proofs.YtofkhcgkahkagaaGreatW.PrintLast Go.Proofs.YtofkhcgkahkagaaGreatW.PrintMore
set_option linter.unusedVariables false

/-- Whatever reads at type t is told by d. -/
def Told {α : Type} (P : Program) (w : World) (t : TypeId) (d : Kd α) : Prop :=
  ∀ {H : Type} (enc : TypeId × Value → H) (base : Nat) (spare : Nat → Bool) (held : Bool) (fuel : Nat) (cs : List Value) (x : DataW H × List MemPlace), DataW.trod enc P w base spare held fuel t cs = some x → ∃ a, d.K w a cs

theorem told_int {P : Program} {w : World} {t : TypeId} {k : IntKind} (ht : P.underlying t = some (.int k)) : Told P w t (Kd.int k) := by
  intro H enc base spare held fuel cs x h
  obtain ⟨n, rfl, _, _⟩ := DataW.trod_int ht h
  exact ⟨n, rfl⟩

theorem told_string {P : Program} {w : World} {t : TypeId} (ht : P.underlying t = some .string) : Told P w t Kd.string := by
  intro H enc base spare held fuel cs x h
  obtain ⟨s, rfl, _, _⟩ := DataW.trod_string ht h
  exact ⟨s, rfl⟩

theorem told_slice {α : Type} {P : Program} {w : World} {t e : TypeId} {d : Kd α} (ht : P.underlying t = some (.slice e)) (hc : P.cellsOf e = d.sz) (hd : Told P w e d) : Told P w t (Kd.slice e d) := by
  intro H enc base spare held fuel cs x h
  rcases open_slice ht h with ⟨rfl, _⟩ | ⟨a, len, cap, m, n, D, Pl, rfl, hb, hl, hm, hmm, rfl, hx⟩
  · exact ⟨[], none, 0, rfl, Nat.le_refl _, Kd.C_nil d w⟩
  · have hlm : len ≤ m := by rw [hmm]; split <;> omega
    have hall : ∀ i, i < len → ∃ a', ∃ cs', w.cells? base (a.add (i * P.cellsOf e)) (P.cellsOf e) = some cs' ∧ d.K w a' cs' := fun i hi => by
      obtain ⟨cs', h1, h2⟩ := hx i (by omega)
      obtain ⟨a', h3⟩ := hd enc base spare held n cs' _ h2
      exact ⟨a', cs', h1, h3⟩
    obtain ⟨xs, hxl, hxs⟩ : ∃ xs : List α, xs.length = len ∧ ∀ j p, xs[j]? = some p → ∃ cs', w.cells? base (a.add (j * P.cellsOf e)) (P.cellsOf e) = some cs' ∧ d.K w p cs' := by
      clear hx hl hmm hlm h
      induction len with
      | zero => exact ⟨[], rfl, fun j p hj => by simp at hj⟩
      | succ len ih =>
        obtain ⟨xs, h1, h2⟩ := ih (fun i hi => hall i (by omega))
        obtain ⟨a', cs', h3, h4⟩ := hall len (by omega)
        refine ⟨xs ++ [a'], by simp [h1], fun j p hj => ?_⟩
        rcases Nat.lt_trichotomy j xs.length with hj1 | hj1 | hj1
        · rw [List.getElem?_append_left hj1] at hj
          exact h2 j p hj
        · subst hj1
          simp at hj
          subst hj
          rw [h1]
          exact ⟨cs', h3, h4⟩
        · rw [List.getElem?_eq_none (by simp; omega)] at hj
          cases hj
    refine ⟨xs, some a, cap, by rw [hxl], by omega, rfl, by rw [hxl]; exact Nat.le_trans hl (Nat.le_trans hm (by decide)), fun _ => ⟨a, rfl, fun j p hj => ?_⟩⟩
    obtain ⟨cs', h1, h2⟩ := hxs j p hj
    obtain ⟨_, h3, h4⟩ := World.cells?_some h1
    refine ⟨cs', by rw [h3, hc], h2, fun i u hu => ?_⟩
    have hi : i < cs'.length := (List.getElem?_eq_some_iff.1 hu).1
    rw [← hu, ← h4 i (by omega), Go.Deep.add_add, hc]

/-- What d tells of cells hangs on the blocks alone. -/
def Local {α : Type} (d : Kd α) : Prop := ∀ (w W : World) (x : α) (cs : List Value), (∀ k, k < w.heap.size → W.heap[k]? = w.heap[k]?) → d.K w x cs → d.K W x cs

theorem local_int (k : IntKind) : Local (Kd.int k) := fun w W x cs _ h => h
theorem local_string : Local Kd.string := fun w W x cs _ h => h
theorem local_pair {α β : Type} {d : Kd α} {e : Kd β} (hd : Local d) (he : Local e) : Local (Kd.pair d e) := fun w W x cs hW h => by
  obtain ⟨c0, c1, h1, h2, h3⟩ := h
  exact ⟨c0, c1, h1, hd w W _ _ hW h2, he w W _ _ hW h3⟩
theorem local_iso {α β : Type} {d : Kd α} {f : β → α} (hd : Local d) : Local (Kd.iso d f) := fun w W x cs hW h => hd w W _ _ hW h

theorem local_row {α : Type} {d : Kd α} (hd : Local d) (w W : World) (A : Option Addr) (n : Nat) (xs : List α) (hW : ∀ k, k < w.heap.size → W.heap[k]? = w.heap[k]?) (h : d.C w A n xs) : d.C W A n xs := by
  refine ⟨h.1, h.2.1, fun hn => ?_⟩
  obtain ⟨ad, e, hc⟩ := h.2.2 hn
  refine ⟨ad, e, fun j p hj => ?_⟩
  obtain ⟨c, hs, hr, hcell⟩ := hc j p hj
  refine ⟨c, hs, hd w W p c hW hr, fun i u hu => ?_⟩
  have h1 := hcell i u hu
  rw [World.cell?_of_block (w := w) (hW _ ?_)]
  · exact h1
  · exact World.block_lt_of_cell? w _ h1

theorem local_slice {α : Type} {e : Nat} {d : Kd α} (hd : Local d) : Local (Kd.slice e d) := fun w W x cs hW h => by
  obtain ⟨A, c, rfl, hl, hC⟩ := h
  exact ⟨A, c, rfl, hl, local_row hd w W A _ x hW hC⟩

/-- A row that is read now is read in every world that has this one's blocks. -/
theorem F_all {α : Type} {d : Kd α} (hd : Local d) {w : World} {A : Option Addr} {n : Nat} {xs : List α} (h : d.C w A n xs) : Kd.F d w (fun k => k < w.heap.size) A n xs :=
  fun W hW => local_row hd w W A n xs (fun k hk => hW k hk hk) h
end Go.Proofs.YtofkhcgkahkagaaGreat

