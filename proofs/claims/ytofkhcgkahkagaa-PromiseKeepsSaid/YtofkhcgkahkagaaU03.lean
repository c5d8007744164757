/- Texts behind the row of PromiseKeeps, part 3. -/
import Derived.Test.YtofkhcgkahkagaaProg
import Derived.Test.YtofkhcgkahkagaaU02
import Derived.WalkKit
/- ledger.Check's maps, from a place to a list of numbers, told as functions. -/
namespace Go.Proofs.Ytofkhcgkahkagaa
open Go.Maps Go.WideElems Go.MapKept Go.RowKit Go.ChangeShapes
open Go.ChangeMaps (setBlock heap_setBlock_same heap_setBlock_other)

/-- A sku at a place. -/
abbrev Plc := ByteArray × ByteArray
def plV (p : Plc) : Value := .agg #[.string p.1, .string p.2]
def plOk (p : Plc) : Prop := p.1.size ≤ maxLen ∧ p.2.size ≤ maxLen
def plK (p : Plc) : Lit := .string (keyBytes [.string p.1.data.toList, .string p.2.data.toList])

theorem prog_laid : laidOutB Try.prog = true := by kernel_rfl
theorem place_law : WideMaps.KeyLaw Try.prog 103 :=
  deep_law_gate prog_laid (of_decide_eq_true (by kernel_rfl)) (of_decide_eq_true (by kernel_rfl)) (by kernel_rfl) (by kernel_rfl)
theorem place_keyed : Keyed Try.prog 103 := Keyed.of_law place_law
theorem nil_zero (u : World) : (zeroValue 105).run Try.prog u = .ok (.slice none 0 0) u := by kernel_rfl
theorem und_map : Try.prog.underlying 98 = some (.map 103 105) := by kernel_rfl
theorem types_two : ∃ m, Try.prog.types.size = m + 2 := ⟨Try.prog.types.size - 2, by kernel_rfl⟩
theorem place_type : Try.prog.keyType 103 = true := by kernel_rfl
theorem string_cells : Try.prog.cellsOf 9 = 1 := by kernel_rfl
theorem place_cells : Try.prog.cellsOf 103 = 2 := by kernel_rfl
theorem place_key {p : Plc} (h : plOk p) : keyOf Try.prog 103 (plV p) = some (plK p) := by
  have hu := Try.underlying103
  have hus := Try.underlying9
  obtain ⟨m, hm⟩ := types_two
  show keyOf Try.prog 103 (.agg #[.string p.1, .string p.2]) = some (plK p)
  unfold keyOf
  simp only [hu]
  rw [if_pos (by simp [place_type, Value.formed, hu, place_cells]), hm]
  unfold Program.keyLits
  simp only [hu, Value.cells]
  rw [if_pos ⟨by rw [place_cells]; rfl, by simp⟩]
  simp [string_cells, Program.keyLits, hus, h.1, h.2, plK]
theorem plV_inj {p p' : Plc} (h : plV p = plV p') : p = p' := by
  simp only [plV, Value.agg.injEq, Array.mk.injEq, List.cons.injEq, Value.string.injEq, and_true] at h
  exact Prod.ext h.1 h.2
theorem plK_ne {p p' : Plc} (h : plOk p) (h' : plOk p') (hne : p' ≠ p) : plK p' ≠ plK p := fun e =>
  hne (plV_inj (place_keyed.inj (place_key h') ((place_key h).trans (congrArg some e.symm))))

abbrev DU := DataW Unit
def itemsD : DU → List DU
  | .slice xs _ => xs
  | _ => []
theorem items_row {w : World} {base : Nat} {e : TypeId} {q : IntKind} {v : Value} {zs : List Int} (h : w.ownsInts base e q v zs) : itemsD (rowDatum q v zs) = lits q zs := by
  rcases h.datum (H := Unit) with ⟨h1, rfl⟩ | h1
  · rw [h1]; rfl
  · rw [h1]; rfl
theorem lits_inj {q : IntKind} {a b : List Int} (h : lits (H := Unit) q a = lits q b) : a = b :=
  (List.map_inj_right (fun x y hxy => by cases hxy; rfl)).1 h

/-- The datum answers as the function. -/
def GD (D : DU) (g : Plc → Option (List Int)) : Prop := IsMap D ∧ ∀ p, plOk p → has D (plK p) = (g p).isSome ∧ itemsD (D.atKey (plK p) .nil) = lits .i64 ((g p).getD [])
def upd (g : Plc → Option (List Int)) (p : Plc) (zs : List Int) : Plc → Option (List Int) := fun p' => if p' = p then some zs else g p'
theorem GD.put {D : DU} {g : Plc → Option (List Int)} (h : GD D g) {p : Plc} (hp : plOk p) {d : DU} {zs : List Int} (hd : itemsD d = lits .i64 zs) : GD (D.put (plK p) d) (upd g p zs) := by
  refine ⟨h.1.put _ _, fun p' hp' => ?_⟩
  unfold upd
  by_cases e : p' = p
  · subst e
    rw [if_pos rfl, has_put_same h.1 (place_keyed.key (place_key hp')), atKey_put_same h.1 (place_keyed.key (place_key hp'))]
    exact ⟨rfl, hd⟩
  · rw [if_neg e, has_put_other (plK_ne hp hp' e), atKey_put_other (plK_ne hp hp' e)]
    exact h.2 p' hp'
theorem GD.empty : GD (.map []) (fun _ => none) := ⟨isMap_empty, fun _ _ => ⟨rfl, rfl⟩⟩

/-- Block b is a map from places to lists, whose rows begin at block base. -/
def GM (w : World) (base b n : Nat) (g : Plc → Option (List Int)) : Prop := ∃ D : DU, w.ownsGroups Try.prog 103 base 3 .i64 b n D ∧ GD D g
/-- .. and no list has a row. -/
def GN (w : World) (b n : Nat) (g : Plc → Option (List Int)) : Prop := ∀ base, b < base → GM w base b n g

variable {w w' : World} {base b n : Nat} {g : Plc → Option (List Int)} {p : Plc} {row : Option Nat}

theorem GM.mono {m : Nat} (h : GM w base b n g) (hm : n ≤ m) : GM w base b m g := let ⟨D, h1, h2⟩ := h; ⟨D, groups_mono h1 hm, h2⟩
theorem GM.lt (h : GM w base b n g) : b < w.heap.size ∧ b < base := by
  obtain ⟨D, ⟨es, clock, hb, _, _, _, hbb, _⟩, _⟩ := h
  exact ⟨(Array.getElem?_eq_some_iff.1 hb).1, hbb⟩
theorem GM.kept (h : GM w base b n g) (hg : w.grownBy w' row) (hb : some b ≠ row) (hr : ∀ j, row = some j → j < base ∨ w.heap.size ≤ j) : GM w' base b n g := by
  obtain ⟨D, h1, h2⟩ := h
  refine ⟨D, h1.kept hg hb (fun es clock he x hx => ?_), h2⟩
  cases row with
  | none => cases x.val.ownBlock <;> simp
  | some j =>
    rcases hr j rfl with hj | hj
    · exact h1.rowsAbove (row := some j) (fun i hi => by cases hi; exact hj) es clock he x hx
    · obtain ⟨es', clock', hb', F, _⟩ := h1
      obtain ⟨rfl, rfl⟩ : es' = es ∧ clock' = clock := by rw [hb'] at he; simpa using he
      obtain ⟨y, hy⟩ := F.reads x hx
      obtain ⟨z, hz, _⟩ := rd_val hy
      obtain ⟨zs, hoi, _⟩ := rowElem_inv hz
      cases hx' : x.val.ownBlock with
      | none => exact .inl rfl
      | some i =>
        have := (hoi.1.lt i hx').2
        refine .inr (fun e1 => ?_)
        cases e1
        omega
theorem GM.grown (h : GM w base b n g) (hg : w.grownBy w' none) : GM w' base b n g := h.kept hg (by simp) (fun _ h => by cases h)
theorem GN.kept (h : GN w b n g) (hg : w.grownBy w' row) (hb : some b ≠ row) : GN w' b n g := fun base hbb => by
  obtain ⟨D, h1, h2⟩ := h base hbb
  refine ⟨D, h1.kept hg hb (fun es clock he x hx => ?_), h2⟩
  cases row with
  | none => cases x.val.ownBlock <;> simp
  | some j =>
    obtain ⟨D', h1', _⟩ := h (max (b + 1) (j + 1)) (by omega)
    exact h1'.rowsAbove (row := some j) (fun i hi => by cases hi; omega) es clock he x hx
theorem GN.grown (h : GN w b n g) (hg : w.grownBy w' none) : GN w' b n g := h.kept hg (by simp)
theorem GN.made {clock : Nat} (hb : w.heap[b]? = some (.map #[] clock)) : GN w b 0 (fun _ => none) := fun _ hlt => ⟨_, groups_empty hb hlt, GD.empty⟩
theorem GN.lt (h : GN w b n g) : b < w.heap.size := (h (b + 1) (by omega)).lt.1

/-- '_, known := m[p]'. -/
theorem GM.ok (h : GM w base b n g) (hp : plOk p) : ∃ v, (Instr.lookup 98 (.map (some b)) (plV p) true).run Try.prog w = .ok (.tuple #[v, .bool (g p).isSome]) w := by
  obtain ⟨D, h1, h2⟩ := h
  obtain ⟨v, hv⟩ := h1.atOk place_keyed und_map (nil_zero w) (place_key hp)
  exact ⟨v, by rw [hv, (h2.2 p hp).1]⟩

/-- 'm[p]'. -/
theorem GM.at (h : GM w base b n g) (hn : n < maxLen) (hp : plOk p) : ∃ v, (Instr.lookup 98 (.map (some b)) (plV p) false).run Try.prog w = .ok v w ∧ w.ownsInts base 3 .i64 v ((g p).getD []) ∧ ((g p).getD []).length ≤ n := by
  obtain ⟨D, h1, h2⟩ := h
  obtain ⟨v, zs, hv, hat, ho, hl, _⟩ := h1.at place_keyed und_map (nil_zero w) hn (place_key hp)
  have := (h2.2 p hp).2
  rw [hat, items_row ho] at this
  obtain rfl := lits_inj this
  exact ⟨v, hv, ho, hl⟩

/-- 'm[p] = nil', where no list has a row. -/
theorem GN.update (h : GN w b n g) (hn : n < maxLen) (hp : plOk p) :
    ∃ w2, (Instr.mapUpdate 98 (.map (some b)) (plV p) (.slice none 0 0)).run Try.prog w = .ok () w2 ∧ GN w2 b (n + 1) (upd g p []) ∧ w.grownBy w2 (some b) := by
  have go : ∀ bs, b < bs → ∃ w2, (Instr.mapUpdate 98 (.map (some b)) (plV p) (.slice none 0 0)).run Try.prog w = .ok () w2 ∧ GM w2 bs b (n + 1) (upd g p []) ∧ w.grownBy w2 (some b) := by
    intro bs hbs
    obtain ⟨D0, h10, _⟩ := h (max w.heap.size (b + 1)) (by omega)
    obtain ⟨v0, zs0, hv0, _, ho0, _⟩ := h10.at place_keyed und_map (nil_zero w) hn (place_key hp)
    have hn0 : v0.ownBlock = none := by
      cases hv : v0.ownBlock with
      | none => rfl
      | some j => have := ho0.1.lt j hv; omega
    obtain ⟨D, h1, h2⟩ := h bs hbs
    obtain ⟨v, zs, hv, _, _, _, hback⟩ := h1.at place_keyed und_map (nil_zero w) hn (place_key hp)
    obtain rfl : v = v0 := by rw [hv] at hv0; simpa using hv0
    obtain ⟨w2, r1, r2, r3⟩ := hback w (.slice none 0 0) [] ⟨rfl, rfl, rfl, Nat.le_refl _, fun _ _ _ => rfl⟩ (World.ownsInts_nil _ _ _ _) (Nat.zero_le _) (.inl hn0.symm)
    exact ⟨w2, r1, ⟨_, r2, h2.put hp rfl⟩, r3⟩
  obtain ⟨w2, r1, _, r3⟩ := go (b + 1) (by omega)
  refine ⟨w2, r1, fun bs hbs => ?_, r3⟩
  obtain ⟨w3, q1, q2, _⟩ := go bs hbs
  obtain rfl : w3 = w2 := by rw [r1] at q1; simpa using q1.symm
  exact q2

/-- The entry at p is opened; what is stored there is nil, and no list has a row. -/
theorem GN.entry (h : GN w b n g) (hn : n < maxLen) (hp : plOk p) :
    ∃ v0 st wE, (Instr.mapEntry 98 (.map (some b)) (plV p)).run Try.prog w = .ok (.tuple #[v0, goInt st]) wE ∧ w.grownBy wE (some b) ∧
      ∀ w1, wE.grownBy w1 none → ∃ w2, (Instr.entryStore 98 (.map (some b)) (goInt st) (.slice none 0 0)).run Try.prog w1 = .ok () w2 ∧ GN w2 b (n + 1) (upd g p []) ∧ w1.grownBy w2 (some b) := by
  obtain ⟨D0, h10, _⟩ := h (max w.heap.size (b + 1)) (by omega)
  obtain ⟨v0, zs0, st, wE, hrun, _, ho0, _, hgE, _⟩ := groups_entry place_law und_map nil_zero h10 hn (place_key hp)
  have go : ∀ bs, b < bs → ∀ w1, wE.grownBy w1 none → ∃ w2, (Instr.entryStore 98 (.map (some b)) (goInt st) (.slice none 0 0)).run Try.prog w1 = .ok () w2 ∧ GM w2 bs b (n + 1) (upd g p []) ∧ w1.grownBy w2 (some b) := by
    intro bs hbs w1 hg1
    have hn0 : v0.ownBlock = none := by
      cases hv : v0.ownBlock with
      | none => rfl
      | some j =>
        obtain ⟨D3, h3, _⟩ := h (wE.heap.size + b + 1) (by omega)
        obtain ⟨v, zs, st', wE', hrun', _, ho, _, _⟩ := groups_entry place_law und_map nil_zero h3 hn (place_key hp)
        rw [hrun] at hrun'
        simp only [Result.ok.injEq, Value.tuple.injEq, Array.mk.injEq, List.cons.injEq, and_true] at hrun'
        obtain ⟨⟨rfl, _⟩, rfl⟩ := hrun'
        have := ho.1.lt j hv
        omega
    obtain ⟨D, h1, h2⟩ := h bs hbs
    obtain ⟨v, zs, st', wE', hrun', _, _, _, _, hback⟩ := groups_entry place_law und_map nil_zero h1 hn (place_key hp)
    rw [hrun] at hrun'
    simp only [Result.ok.injEq, Value.tuple.injEq, Array.mk.injEq, List.cons.injEq, and_true] at hrun'
    obtain ⟨⟨rfl, hst⟩, rfl⟩ := hrun'
    obtain ⟨w2, r1, r2, r3⟩ := hback w1 (.slice none 0 0) [] (by rw [hn0]; exact hg1) (World.ownsInts_nil _ _ _ _) (Nat.zero_le _) (.inl hn0.symm)
    exact ⟨w2, by rw [hst]; exact r1, ⟨_, r2, h2.put hp rfl⟩, r3⟩
  refine ⟨v0, st, wE, hrun, hgE, fun w1 hg1 => ?_⟩
  obtain ⟨w2, r1, _, r3⟩ := go (b + 1) (by omega) w1 hg1
  refine ⟨w2, r1, fun bs hbs => ?_, r3⟩
  obtain ⟨w3, q1, q2, _⟩ := go bs hbs w1 hg1
  obtain rfl : w3 = w2 := by rw [r1] at q1; simpa using q1.symm
  exact q2

/-- The entry at p is opened, its list grown, and stored. -/
theorem GM.entry (h : GM w base b n g) (hn : n < maxLen) (hp : plOk p) :
    ∃ v0 st wE, (Instr.mapEntry 98 (.map (some b)) (plV p)).run Try.prog w = .ok (.tuple #[v0, goInt st]) wE ∧ w.grownBy wE (some b) ∧ wE.ownsInts base 3 .i64 v0 ((g p).getD []) ∧ ((g p).getD []).length ≤ n ∧
      ∀ (w1 : World) (v' : Value) (zs' : List Int), wE.grownBy w1 v0.ownBlock → w1.ownsInts base 3 .i64 v' zs' → zs'.length ≤ n + 1 → (v'.ownBlock = v0.ownBlock ∨ ∃ j, v'.ownBlock = some j ∧ w.heap.size ≤ j) →
        ∃ w2, (Instr.entryStore 98 (.map (some b)) (goInt st) v').run Try.prog w1 = .ok () w2 ∧ GM w2 base b (n + 1) (upd g p zs') ∧ w1.grownBy w2 (some b) := by
  obtain ⟨D, h1, h2⟩ := h
  obtain ⟨v0, zs, st, wE, hrun, hat, ho, hl, hgE, hback⟩ := groups_entry place_law und_map nil_zero h1 hn (place_key hp)
  have hg := (h2.2 p hp).2
  rw [hat, items_row ho] at hg
  obtain rfl := lits_inj hg
  refine ⟨v0, st, wE, hrun, hgE, ho, hl, fun w1 v' zs' hg1 ho1 hl1 hloc => ?_⟩
  obtain ⟨w2, r1, r2, r3⟩ := hback w1 v' zs' hg1 ho1 hl1 hloc
  exact ⟨w2, r1, ⟨_, r2, h2.put hp (items_row ho1)⟩, r3⟩
end Go.Proofs.Ytofkhcgkahkagaa
