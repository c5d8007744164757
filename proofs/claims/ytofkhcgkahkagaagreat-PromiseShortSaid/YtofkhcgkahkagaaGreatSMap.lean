/- A map from texts to truths that the call owns, told as a function. -/
import Derived.Test.YtofkhcgkahkagaaGreatPMap
import Derived.Maps.RangeWalk
import Derived.Maps.OwnSet
namespace Go.Proofs.YtofkhcgkahkagaaGreat
open Go.Maps Go.WideElems Go.MapKept Go.RowKit Go.ChangeShapes

def sK (s : ByteArray) : Lit := .string s.data.toList
theorem sK_inj {s t : ByteArray} (h : sK s = sK t) : s = t := by
  cases s; cases t
  simp only [sK, Lit.string.injEq] at h
  rw [Array.toList_inj.1 h]
theorem str_law : Keyed Tryz.prog 9 := string_keyed Tryz.underlying9
theorem str_key {s : ByteArray} (h : s.size ≤ maxLen) : keyOf Tryz.prog 9 (.string s) = some (sK s) := by
  have hu := Tryz.underlying9
  simp [keyOf, hu, mapKey, sK, h]
theorem str_key_inv {v : Value} {kl : Lit} (h : keyOf Tryz.prog 9 v = some kl) : ∃ s : ByteArray, v = .string s ∧ kl = sK s ∧ s.size ≤ maxLen := by
  have hu := Tryz.underlying9
  cases v <;> simp [keyOf, hu, mapKey] at h
  rename_i s
  exact ⟨s, rfl, h.2.symm, h.1⟩
noncomputable abbrev boolE : Value → Option (DU × List MemPlace) := plainElem Tryz.prog 4
theorem boolE_mk (x : Bool) : boolE (.bool x) = some (.lit (.bool x), []) := plainElem_bool Tryz.underlying4 x
theorem plain_bool_inv {P : Program} {e : TypeId} (he : P.underlying e = some .bool) {v : Value} {z : DU × List MemPlace} (h : plainElem P e v = some z) : ∃ x, v = .bool x ∧ z = (.lit (.bool x), []) := by
  unfold plainElem at h
  rw [he] at h
  cases v <;> simp at h
  exact ⟨_, rfl, h.symm⟩
theorem boolE_inv {v : Value} {z : DU × List MemPlace} (h : boolE v = some z) : ∃ x, v = .bool x ∧ z = (.lit (.bool x), []) := plain_bool_inv Tryz.underlying4 h
theorem bool_zero (u : World) : (zeroValue 4).run Tryz.prog u = .ok (.bool false) u := by kernel_rfl

abbrev Fn := ByteArray → Option Bool
def setF (g : Fn) (s : ByteArray) (x : Bool) : Fn := fun t => if t = s then some x else g t
/-- The datum answers as the function. -/
def SD (D : DU) (g : Fn) : Prop := IsMap D ∧ ∀ s, s.size ≤ maxLen → has D (sK s) = (g s).isSome ∧ ∀ x, g s = some x → ∀ zd, D.atKey (sK s) zd = .lit (.bool x)
theorem SD.put {D : DU} {g : Fn} (h : SD D g) {s : ByteArray} (hs : s.size ≤ maxLen) (x : Bool) : SD (D.put (sK s) (.lit (.bool x))) (setF g s x) := by
  refine ⟨h.1.put _ _, fun t ht => ?_⟩
  unfold setF
  by_cases e : t = s
  · subst e
    rw [if_pos rfl, has_put_same h.1 (str_law.key (str_key ht))]
    refine ⟨rfl, fun y hy zd => ?_⟩
    rw [atKey_put_same h.1 (str_law.key (str_key ht))]
    rw [Option.some.inj hy]
  · have hne : sK t ≠ sK s := fun h => e (sK_inj h)
    rw [if_neg e, has_put_other hne]
    refine ⟨(h.2 t ht).1, fun y hy zd => ?_⟩
    rw [atKey_put_other hne]
    exact (h.2 t ht).2 y hy zd
theorem SD.empty : SD (.map []) (fun _ => none) := ⟨isMap_empty, fun _ _ => ⟨rfl, fun _ h => by cases h⟩⟩

/-- Block b is a map that answers as g. -/
def SM (w : World) (b n : Nat) (g : Fn) : Prop := ∃ D : DU, w.ownsMap Tryz.prog 9 boolE b n D ∧ SD D g
variable {w w' : World} {b n : Nat} {g : Fn} {s : ByteArray}
theorem SM.lt (h : SM w b n g) : b < w.heap.size := let ⟨_, h1, _⟩ := h; h1.lt
theorem SM.mono {m : Nat} (h : SM w b n g) (hm : n ≤ m) : SM w b m g := let ⟨D, h1, h2⟩ := h; ⟨D, h1.mono hm, h2⟩
theorem SM.kept {row : Option Nat} (h : SM w b n g) (hg : w.grownBy w' row) (hb : some b ≠ row) : SM w' b n g := let ⟨D, h1, h2⟩ := h; ⟨D, h1.kept hg hb, h2⟩
theorem SM.made {w : World} (hb : w.heap[b]? = some (.map #[] 0)) : SM w b 0 (fun _ => none) :=
  ⟨.map [], ⟨#[], 0, hb, ⟨by simp, stamped_empty 0, by simp⟩, Nat.le_refl _, rfl⟩, SD.empty⟩
theorem SM.block (h : SM w b n g) (hb : w'.heap[b]? = w.heap[b]?) : SM w' b n g := by
  obtain ⟨D, ⟨es, clock, h1, h2, h3, h4⟩, h5⟩ := h
  exact ⟨D, ⟨es, clock, hb.trans h1, h2, h3, h4⟩, h5⟩
theorem SM.look (h : SM w b n g) (hs : s.size ≤ maxLen) : ∃ x, (Instr.lookup 113 (.map (some b)) (.string s) true).run Tryz.prog w = .ok (.tuple #[.bool x, .bool (g s).isSome]) w := by
  obtain ⟨D, h1, h2⟩ := h
  obtain ⟨v, ps, hrun, hv⟩ := h1.look_ok str_law Tryz.underlying113 (bool_zero w) (boolE_mk false) (str_key hs)
  obtain ⟨x, rfl, _⟩ := boolE_inv hv
  exact ⟨x, by rw [hrun, (h2.2 s hs).1]⟩
theorem SM.update (h : SM w b n g) (hn : n < maxLen) (hs : s.size ≤ maxLen) (x : Bool) :
    ∃ w2, (Instr.mapUpdate 113 (.map (some b)) (.string s) (.bool x)).run Tryz.prog w = .ok () w2 ∧ SM w2 b (n + 1) (setF g s x) ∧ w.grownBy w2 (some b) := by
  obtain ⟨D, h1, h2⟩ := h
  obtain ⟨w2, r1, r2, r3⟩ := h1.update str_law Tryz.underlying113 hn (str_key hs) (boolE_mk x)
  exact ⟨w2, r1, ⟨_, r2, h2.put hs x⟩, r3⟩

/-! ### the range over it, that collects where it says true -/
/-- What was collected so far. -/
structure ColS (g : Fn) (left : Lit → Bool) (out : List ByteArray) : Prop where
  nodup : out.Nodup
  said : ∀ s ∈ out, g s = some true ∧ left (sK s) = false
  all : ∀ s, s.size ≤ maxLen → g s = some true → left (sK s) = true ∨ s ∈ out
def SR (w : World) (b r n : Nat) (g : Fn) (cnt : Nat) (out : List ByteArray) : Prop :=
  ∃ (D : DU) (left : Lit → Bool), w.ranges Tryz.prog 9 boolE b r n D left cnt ∧ SD D g ∧ ColS g left out ∧ out.length + cnt ≤ n ∧ ∀ s ∈ out, s.size ≤ maxLen
theorem SR.lt {r cnt : Nat} {out : List ByteArray} (h : SR w b r n g cnt out) : r < w.heap.size := let ⟨_, _, h1, _⟩ := h; h1.lt
theorem SR.kept {r cnt : Nat} {out : List ByteArray} {row : Option Nat} (h : SR w b r n g cnt out) (hg : w.grownBy w' row) (hb : some b ≠ row) (hr : some r ≠ row) : SR w' b r n g cnt out :=
  let ⟨D, left, h1, h2⟩ := h; ⟨D, left, h1.kept hg hb hr, h2⟩
theorem SR.ne_row {r cnt : Nat} {out : List ByteArray} (h : SR w b r n g cnt out) {base size m : Nat} {e : TypeId} {v : Value} {xs : List Value} (hv : w.ownsRow base e size v m xs) : some r ≠ v.ownBlock := by
  obtain ⟨_, _, ⟨_, _, _, _, _, _, _, _, _, hit, _⟩, _⟩ := h
  rcases hv.2 with ⟨rfl, _⟩ | ⟨g, cap, cur, rfl, _, hb, _⟩
  · simp [Value.ownBlock]
  · intro e1
    have : r = g := by simpa [Value.ownBlock] using e1
    subst this
    rw [hit] at hb
    cases hb
theorem SM.range (h : SM w b n g) : ∃ w2, (Instr.range 113 (.map (some b))).run Tryz.prog w = .ok (.pointer (some ⟨w.heap.size, 0, none⟩)) w2 ∧ (∃ cnt, SR w2 b w.heap.size n g cnt []) ∧ w.grownBy w2 none ∧ w2.heap.size = w.heap.size + 1 := by
  obtain ⟨D, h1, h2⟩ := h
  obtain ⟨w2, r1, r2, r3, r4⟩ := h1.range str_law Tryz.underlying113
  refine ⟨w2, r1, ⟨_, D, has D, r2, h2, ⟨List.nodup_nil, (fun s h => by cases h), (fun s hs hg => Or.inl ?_)⟩, by simpa using h1.size_le, (fun s h => by cases h)⟩, r3, r4⟩
  rw [(h2.2 s hs).1, hg]
  rfl
/-- A step: nothing is left, or a text comes; what is collected then. -/
theorem SR.next {r cnt : Nat} {out : List ByteArray} (h : SR w b r n g cnt out) (ty : TypeId) :
    (out.Nodup ∧ (∀ s, s.size ≤ maxLen → (g s = some true ↔ s ∈ out)) ∧ (Instr.next (.pointer (some ⟨r, 0, none⟩)) false ty).run Tryz.prog w = .ok (.tuple #[.bool false]) w) ∨
    ∃ s x w2 cnt', s.size ≤ maxLen ∧ (Instr.next (.pointer (some ⟨r, 0, none⟩)) false ty).run Tryz.prog w = .ok (.tuple #[.bool true, .string s, .bool x]) w2 ∧ SR w2 b r n g cnt' (if x = true then out ++ [s] else out) ∧ cnt' < cnt ∧
      w.grownBy w2 (some r) ∧ w2.heap.size = w.heap.size ∧ (Instr.entry (.pointer (some ⟨r, 0, none⟩))).run Tryz.prog w2 = .ok (.tuple #[.string s, .bool x]) w2 := by
  obtain ⟨D, left, h1, h2, h3, h4, h5⟩ := h
  rcases h1.next str_law ty with ⟨hc, hl, hrun⟩ | ⟨key, v, kl, y, w2, cnt', hkey, hlk, hv, hat, hrun, hrg, hlt, hgr, hsz, hen⟩
  · refine .inl ⟨h3.nodup, fun s hs => ⟨fun hg => ?_, fun hm => (h3.said s hm).1⟩, hrun⟩
    rcases h3.all s hs hg with h | h
    · rw [hl] at h; cases h
    · exact h
  · obtain ⟨s, rfl, rfl, hs⟩ := str_key_inv hkey
    obtain ⟨x, rfl, rfl⟩ := boolE_inv hv
    refine .inr ⟨s, x, w2, cnt', hs, hrun, ?_, hlt, hgr, hsz, hen⟩
    have hhas : has D (sK s) = true := has_true_of_atKey hat
    have hgs : g s = some x := by
      have h6 := (h2.2 s hs).1
      rw [hhas] at h6
      obtain ⟨x', hx'⟩ := Option.isSome_iff_exists.1 h6.symm
      have := (h2.2 s hs).2 x' hx' .nil
      rw [hat] at this
      cases this
      exact hx'
    have hnew : s ∉ out := fun hm => by have := (h3.said s hm).2; rw [hlk] at this; cases this
    have hkeep : ∀ t, left (sK t) = true → (left (sK t) && !(sK t).sameKey (sK s)) = true ∨ t = s := fun t ht => by
      by_cases e : t = s
      · exact .inr e
      · refine .inl ?_
        rw [ht]
        have : (sK t).sameKey (sK s) = false := by
          cases hk : (sK t).sameKey (sK s)
          · rfl
          · exact absurd (sK_inj (WideAt.sameKey_eq hk)) e
        rw [this]; rfl
    have hself : (left (sK s) && !(sK s).sameKey (sK s)) = false := by
      have : (sK s).sameKey (sK s) = true := by simp [sK, Lit.sameKey]
      rw [this]; simp
    cases x with
    | true =>
      rw [if_pos rfl]
      refine ⟨D, _, hrg, h2, ⟨List.nodup_append.2 ⟨h3.nodup, by simp, fun a ha c hc => by simp at hc; subst hc; exact fun e => hnew (e ▸ ha)⟩, fun t ht => ?_, fun t ht hg => ?_⟩, by rw [List.length_append, List.length_singleton]; omega, fun t ht => ?_⟩
      · rcases List.mem_append.1 ht with h | h
        · refine ⟨(h3.said t h).1, ?_⟩
          show (left (sK t) && _) = false
          rw [(h3.said t h).2]; rfl
        · obtain rfl : t = s := by simpa using h
          exact ⟨hgs, hself⟩
      · rcases h3.all t ht hg with h | h
        · rcases hkeep t h with h | rfl
          · exact .inl h
          · exact .inr (by simp)
        · exact .inr (by simp [h])
      · rcases List.mem_append.1 ht with h | h
        · exact h5 t h
        · obtain rfl : t = s := by simpa using h
          exact hs
    | false =>
      rw [if_neg (by decide)]
      refine ⟨D, _, hrg, h2, ⟨h3.nodup, fun t ht => ⟨(h3.said t ht).1, ?_⟩, fun t ht hg => ?_⟩, by omega, h5⟩
      · show (left (sK t) && _) = false
        rw [(h3.said t ht).2]; rfl
      · rcases h3.all t ht hg with h | h
        · rcases hkeep t h with h | rfl
          · exact .inl h
          · rw [hgs] at hg; cases hg
        · exact .inr h
end Go.Proofs.YtofkhcgkahkagaaGreat

