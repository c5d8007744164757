/- How an argument's reading tells its list, and that each element is of a kind that can be. -/
import Derived.Test.YtofkhcgkahkagaaGreatPLaw
import Derived.Deep.Slices
import Derived.ChangeOld
import Derived.OpenShut
namespace Go.Proofs.YtofkhcgkahkagaaGreat
open Go.RowKit Go.Deep Go.Proofs.YtofkhcgkahkagaaGreatW.PrintWords Go.Proofs.YtofkhcgkahkagaaGreatW.PrintLast Go.Proofs.YtofkhcgkahkagaaGreatW.PrintMore Go.Proofs.YtofkhcgkahkagaaGreat.PPromiseShort
set_option linter.unusedVariables false
set_option linter.unusedSimpArgs false

/-- Whatever reads at type t is told by d, and is as G says. -/
def ToldG {α : Type} (P : Program) (w : World) (t : TypeId) (d : Kd α) (G : α → Prop) : Prop :=
  ∀ {H : Type} (enc : TypeId × Value → H) (base : Nat) (spare : Nat → Bool) (held : Bool) (fuel : Nat) (cs : List Value) (x : DataW H × List MemPlace), DataW.trod enc P w base spare held fuel t cs = some x → ∃ a, d.K w a cs ∧ G a

theorem toldG_row {α : Type} {P : Program} {w : World} {t e : TypeId} {d : Kd α} {G : α → Prop} (ht : P.underlying t = some (.slice e)) (hc : P.cellsOf e = d.sz) (hd : ToldG P w e d G) {H : Type} (enc : TypeId × Value → H) (base : Nat) (spare : Nat → Bool) (held : Bool) (fuel : Nat) (cs : List Value) (x : DataW H × List MemPlace) (h : DataW.trod enc P w base spare held fuel t cs = some x) :
    ∃ (xs : List α) (A : Option Addr) (c : Nat), cs = [.slice A xs.length c] ∧ xs.length ≤ c ∧ d.C w A xs.length xs ∧ ∀ p ∈ xs, G p := by
  rcases open_slice ht h with ⟨rfl, _⟩ | ⟨a, len, cap, m, n, D, Pl, rfl, hb, hl, hm, hmm, rfl, hx⟩
  · exact ⟨[], none, 0, rfl, Nat.le_refl _, Kd.C_nil d w, fun p hp => by cases hp⟩
  · have hlm : len ≤ m := by rw [hmm]; split <;> omega
    have hall : ∀ i, i < len → ∃ a', ∃ cs', w.cells? base (a.add (i * P.cellsOf e)) (P.cellsOf e) = some cs' ∧ d.K w a' cs' ∧ G a' := fun i hi => by
      obtain ⟨cs', h1, h2⟩ := hx i (by omega)
      obtain ⟨a', h3⟩ := hd enc base spare held n cs' _ h2
      exact ⟨a', cs', h1, h3⟩
    obtain ⟨xs, hxl, hxs⟩ : ∃ xs : List α, xs.length = len ∧ ∀ j p, xs[j]? = some p → ∃ cs', w.cells? base (a.add (j * P.cellsOf e)) (P.cellsOf e) = some cs' ∧ d.K w p cs' ∧ G p := by
      clear hx hl hmm hlm h
      induction len with
      | zero => exact ⟨[], rfl, fun j p hj => by simp at hj⟩
      | succ len ih =>
        obtain ⟨xs, h1, h2⟩ := ih (fun i hi => hall i (by omega))
        obtain ⟨a', cs', h3, h4⟩ := hall len (by omega)
        refine ⟨xs ++ [a'], by simp [h1], fun j p hj => ?_⟩
        rcases Nat.lt_trichotomy j xs.length with hj1 | hj1 | hj1
        · rw [List.getElem?_append_left hj1] at hj
          exact h2 j p hj
        · subst hj1
          simp at hj
          subst hj
          rw [h1]
          exact ⟨cs', h3, h4⟩
        · rw [List.getElem?_eq_none (by simp; omega)] at hj
          cases hj
    refine ⟨xs, some a, cap, by rw [hxl], by omega, ⟨rfl, by rw [hxl]; exact Nat.le_trans hl (Nat.le_trans hm (by decide)), fun _ => ⟨a, rfl, fun j p hj => ?_⟩⟩, fun p hp => ?_⟩
    · obtain ⟨cs', h1, h2, _⟩ := hxs j p hj
      obtain ⟨_, h3, h4⟩ := World.cells?_some h1
      refine ⟨cs', by rw [h3, hc], h2, fun i u hu => ?_⟩
      have hi : i < cs'.length := (List.getElem?_eq_some_iff.1 hu).1
      rw [← hu, ← h4 i (by omega), Go.Deep.add_add, hc]
    · obtain ⟨j, hj, rfl⟩ := List.getElem_of_mem hp
      obtain ⟨_, _, _, h3⟩ := hxs j _ (List.getElem?_eq_getElem hj)
      exact h3
theorem list1 {α : Type} {l : List α} (h : l.length = 1) : ∃ a, l = [a] := by
  rcases l with _ | ⟨a, l⟩
  · cases h
  · have e := List.eq_nil_of_length_eq_zero (l := l) (by simpa using h)
    exact ⟨a, by rw [e]⟩
theorem list3 {α : Type} {l : List α} (h : l.length = 3) : ∃ a b c, l = [a, b, c] := by
  rcases l with _ | ⟨a, _ | ⟨b, l⟩⟩
  · cases h
  · cases h
  · obtain ⟨c, rfl⟩ := list1 (l := l) (by simpa using h)
    exact ⟨a, b, c, rfl⟩
theorem list4 {α : Type} {l : List α} (h : l.length = 4) : ∃ a b c d, l = [a, b, c, d] := by
  rcases l with _ | ⟨a, l⟩
  · cases h
  · obtain ⟨b, c, d, rfl⟩ := list3 (l := l) (by simpa using h)
    exact ⟨a, b, c, d, rfl⟩
theorem list6 {α : Type} {l : List α} (h : l.length = 6) : ∃ a b c d e f, l = [a, b, c, d, e, f] := by
  rcases l with _ | ⟨a, _ | ⟨b, l⟩⟩
  · cases h
  · cases h
  · obtain ⟨c, d, e, f, rfl⟩ := list4 (l := l) (by simpa using h)
    exact ⟨a, b, c, d, e, f, rfl⟩
theorem wf_B {n : Int} (h : (Lit.int .i64 n).wf = true) : i64B n := bounds_i64 h

theorem told_stock {w : World} : ToldG Tryz.prog w 165 k165 StockG := by
  intro H enc base spare held fuel cs x h
  obtain ⟨xs, n, _, _, hl, hxl, hf⟩ := DataW.trod_struct Tryz.underlying165 h
  have cN : Tryz.prog.cellsOf 165 = 4 := by kernel_rfl
  rw [cN] at hl
  obtain ⟨u0, u1, u2, u3, rfl⟩ : ∃ u0 u1 u2 u3, cs = [u0, u1, u2, u3] := by
    exact list4 hl
  have e0 := hf 0 _ rfl
  have e1 := hf 1 _ rfl
  have e2 := hf 2 _ rfl
  have e3 := hf 3 _ rfl
  rw [List.getElem?_eq_getElem (by rw [hxl]; decide)] at e0 e1 e2 e3
  have c0 : Tryz.prog.cellsOf 3 = 1 := by kernel_rfl
  have c9 : Tryz.prog.cellsOf 9 = 1 := by kernel_rfl
  obtain ⟨n0, h0, _, b0⟩ := DataW.trod_string Tryz.underlying9 e0
  obtain ⟨n1, h1, _, b1⟩ := DataW.trod_string Tryz.underlying9 e1
  obtain ⟨n2, h2, _, b2⟩ := DataW.trod_int Tryz.underlying3 e2
  obtain ⟨n3, h3, _, b3⟩ := DataW.trod_int Tryz.underlying3 e3
  simp [c0] at h2 h3
  simp [c9] at h0 h1
  subst h0 h1 h2 h3
  exact ⟨⟨n0, n1, n2, n3⟩, k165.K_of_M (k165_mkM w 0 (fun _ => False) _), b0, b1, wf_B b2, wf_B b3⟩

theorem told_hold {w : World} : ToldG Tryz.prog w 172 k172 HoldG := by
  intro H enc base spare held fuel cs x h
  obtain ⟨xs, n, _, _, hl, hxl, hf⟩ := DataW.trod_struct Tryz.underlying172 h
  have cN : Tryz.prog.cellsOf 172 = 6 := by kernel_rfl
  rw [cN] at hl
  obtain ⟨u0, u1, u2, u3, u4, u5, rfl⟩ : ∃ u0 u1 u2 u3 u4 u5, cs = [u0, u1, u2, u3, u4, u5] := by
    exact list6 hl
  have e0 := hf 0 _ rfl
  have e1 := hf 1 _ rfl
  have e2 := hf 2 _ rfl
  have e3 := hf 3 _ rfl
  have e4 := hf 4 _ rfl
  have e5 := hf 5 _ rfl
  rw [List.getElem?_eq_getElem (by rw [hxl]; decide)] at e0 e1 e2 e3 e4 e5
  have c0 : Tryz.prog.cellsOf 3 = 1 := by kernel_rfl
  have c9 : Tryz.prog.cellsOf 9 = 1 := by kernel_rfl
  obtain ⟨n0, h0, _, b0⟩ := DataW.trod_int Tryz.underlying3 e0
  obtain ⟨n1, h1, _, b1⟩ := DataW.trod_string Tryz.underlying9 e1
  obtain ⟨n2, h2, _, b2⟩ := DataW.trod_string Tryz.underlying9 e2
  obtain ⟨n3, h3, _, b3⟩ := DataW.trod_int Tryz.underlying3 e3
  obtain ⟨n4, h4, _, b4⟩ := DataW.trod_int Tryz.underlying3 e4
  obtain ⟨n5, h5, _, b5⟩ := DataW.trod_int Tryz.underlying3 e5
  simp [c0] at h0 h3 h4 h5
  simp [c9] at h1 h2
  subst h0 h1 h2 h3 h4 h5
  exact ⟨⟨n0, n1, n2, n3, n4, n5⟩, k172.K_of_M (k172_mkM w 0 (fun _ => False) _), wf_B b0, b1, b2, wf_B b3, wf_B b4, wf_B b5⟩

theorem told_move {w : World} : ToldG Tryz.prog w 176 k176 MoveG := by
  intro H enc base spare held fuel cs x h
  obtain ⟨xs, n, _, _, hl, hxl, hf⟩ := DataW.trod_struct Tryz.underlying176 h
  have cN : Tryz.prog.cellsOf 176 = 6 := by kernel_rfl
  rw [cN] at hl
  obtain ⟨u0, u1, u2, u3, u4, u5, rfl⟩ : ∃ u0 u1 u2 u3 u4 u5, cs = [u0, u1, u2, u3, u4, u5] := by
    exact list6 hl
  have e0 := hf 0 _ rfl
  have e1 := hf 1 _ rfl
  have e2 := hf 2 _ rfl
  have e3 := hf 3 _ rfl
  have e4 := hf 4 _ rfl
  have e5 := hf 5 _ rfl
  rw [List.getElem?_eq_getElem (by rw [hxl]; decide)] at e0 e1 e2 e3 e4 e5
  have c0 : Tryz.prog.cellsOf 3 = 1 := by kernel_rfl
  have c9 : Tryz.prog.cellsOf 9 = 1 := by kernel_rfl
  obtain ⟨n0, h0, _, b0⟩ := DataW.trod_int Tryz.underlying3 e0
  obtain ⟨n1, h1, _, b1⟩ := DataW.trod_string Tryz.underlying9 e1
  obtain ⟨n2, h2, _, b2⟩ := DataW.trod_string Tryz.underlying9 e2
  obtain ⟨n3, h3, _, b3⟩ := DataW.trod_int Tryz.underlying3 e3
  obtain ⟨n4, h4, _, b4⟩ := DataW.trod_int Tryz.underlying3 e4
  obtain ⟨n5, h5, _, b5⟩ := DataW.trod_int Tryz.underlying3 e5
  simp [c0] at h0 h3 h4 h5
  simp [c9] at h1 h2
  subst h0 h1 h2 h3 h4 h5
  exact ⟨⟨n0, n1, n2, n3, n4, n5⟩, k176.K_of_M (k176_mkM w 0 (fun _ => False) _), wf_B b0, b1, b2, wf_B b3, wf_B b4, wf_B b5⟩

theorem told_rec {w : World} : ToldG Tryz.prog w 103 k103 RecG := by
  intro H enc base spare held fuel cs x h
  obtain ⟨xs, n, _, _, hl, hxl, hf⟩ := DataW.trod_struct Tryz.underlying103 h
  have cN : Tryz.prog.cellsOf 103 = 3 := by kernel_rfl
  rw [cN] at hl
  obtain ⟨u0, u1, u2, rfl⟩ : ∃ u0 u1 u2, cs = [u0, u1, u2] := by
    exact list3 hl
  have e0 := hf 0 _ rfl
  have e1 := hf 1 _ rfl
  have e2 := hf 2 _ rfl
  rw [List.getElem?_eq_getElem (by rw [hxl]; decide)] at e0 e1 e2
  have c0 : Tryz.prog.cellsOf 3 = 1 := by kernel_rfl
  have c9 : Tryz.prog.cellsOf 9 = 1 := by kernel_rfl
  obtain ⟨n0, h0, _, b0⟩ := DataW.trod_string Tryz.underlying9 e0
  obtain ⟨n1, h1, _, b1⟩ := DataW.trod_int Tryz.underlying3 e1
  obtain ⟨n2, h2, _, b2⟩ := DataW.trod_int Tryz.underlying3 e2
  simp [c0] at h1 h2
  simp [c9] at h0
  subst h0 h1 h2
  exact ⟨⟨n0, n1, n2⟩, k103.K_of_M (k103_mkM w 0 (fun _ => False) _), b0, wf_B b1, wf_B b2⟩

theorem told_ledger {w : World} {H : Type} (enc : TypeId × Value → H) (base : Nat) (spare : Nat → Bool) (held : Bool) (fuel : Nat) (cs : List Value) (x : DataW H × List MemPlace) (h : DataW.trod enc Tryz.prog w base spare held fuel 55 cs = some x) :
    ∃ (l0 : List S165) (l1 : List S172) (l2 : List S176) (A0 : Option Addr) (c0 : Nat) (A1 : Option Addr) (c1 : Nat) (A2 : Option Addr) (c2 : Nat) (ops : Int), cs = [.slice A0 l0.length c0, .slice A1 l1.length c1, .slice A2 l2.length c2, .int .i64 ops] ∧ LedgerAt l0 l1 l2 A0 c0 A1 c1 A2 c2 w ∧ (∀ s ∈ l0, StockG s) ∧ (∀ s ∈ l1, HoldG s) ∧ ∀ s ∈ l2, MoveG s := by
  obtain ⟨xs, n, _, _, hl, hxl, hf⟩ := DataW.trod_struct Tryz.underlying55 h
  have cN : Tryz.prog.cellsOf 55 = 4 := by kernel_rfl
  rw [cN] at hl
  obtain ⟨u0, u1, u2, u3, rfl⟩ : ∃ u0 u1 u2 u3, cs = [u0, u1, u2, u3] := by
    exact list4 hl
  have e0 := hf 0 _ rfl
  have e1 := hf 1 _ rfl
  have e2 := hf 2 _ rfl
  have e3 := hf 3 _ rfl
  rw [List.getElem?_eq_getElem (by rw [hxl]; decide)] at e0 e1 e2 e3
  have c0 : Tryz.prog.cellsOf 3 = 1 := by kernel_rfl
  have c1 : Tryz.prog.cellsOf 51 = 1 := by kernel_rfl
  have c2 : Tryz.prog.cellsOf 52 = 1 := by kernel_rfl
  have c3 : Tryz.prog.cellsOf 53 = 1 := by kernel_rfl
  obtain ⟨l0, A0, d0, g0, b0, C0, G0⟩ := toldG_row Tryz.underlying51 (by kernel_rfl) told_stock _ _ _ _ _ _ _ e0
  obtain ⟨l1, A1, d1, g1, b1, C1, G1⟩ := toldG_row Tryz.underlying52 (by kernel_rfl) told_hold _ _ _ _ _ _ _ e1
  obtain ⟨l2, A2, d2, g2, b2, C2, G2⟩ := toldG_row Tryz.underlying53 (by kernel_rfl) told_move _ _ _ _ _ _ _ e2
  obtain ⟨n3, g3, _, b3⟩ := DataW.trod_int Tryz.underlying3 e3
  simp [c0] at g3
  simp [c1] at g0
  simp [c2] at g1
  simp [c3] at g2
  subst g0 g1 g2 g3
  exact ⟨l0, l1, l2, A0, d0, A1, d1, A2, d2, n3, rfl, ⟨C0, C1, C2, b0, b1, b2⟩, G0, G1, G2⟩
end Go.Proofs.YtofkhcgkahkagaaGreat

