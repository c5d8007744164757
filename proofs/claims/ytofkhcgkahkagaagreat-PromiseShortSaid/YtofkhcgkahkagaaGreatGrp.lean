/- A map of slices that the call owns, where an entry is opened, its slice grown, and the entry stored: what it reads as behind it. -/
import Derived.Maps.GroupsBeside
import Derived.WideKeyEntry
import Derived.DeepKeys5
namespace Go.Proofs.YtofkhcgkahkagaaGreat
open Go.Maps Go.WideElems Go.MapKept Go.RowKit Go.ChangeShapes
open Go.ChangeMaps (setBlock heap_setBlock_same heap_setBlock_other)

section
variable {H : Type} {P : Program} {k t E : TypeId} {w : World} {base : Nat} {e : TypeId} {q : IntKind} {b n : Nat} {D : DataW H} {key : Value} {kl : Lit}

theorem grown_setBlock {w : World} {b : Nat} {es es' : Array MapEntry} {clock clock' : Nat} (hb : w.heap[b]? = some (.map es clock)) : w.grownBy (setBlock w b (.map es' clock')) (some b) :=
  ⟨rfl, rfl, rfl, by simp [setBlock], fun i _ hi => heap_setBlock_other hb _ (fun e1 => hi (by rw [e1]))⟩

theorem owns_off {w : World} {v : Value} {zs : List Int} (h : w.ownsInts base e q v zs) (hb : b < base) : v.ownBlock = none ∨ v.ownBlock ≠ some b := by
  cases hv : v.ownBlock with
  | none => exact .inl rfl
  | some g =>
    refine .inr (fun e1 => ?_)
    have := (h.1.lt g hv).1
    cases e1
    omega

/-- The entry is opened: what stands there, and the way back. -/
theorem groups_entry (K : WideMaps.KeyLaw P k) (ht : P.underlying t = some (.map k E)) (hz : ∀ u : World, (zeroValue E).run P u = .ok (.slice none 0 0) u)
    (h : w.ownsGroups P k base e q b n D) (hn : n < maxLen) (hkey : keyOf P k key = some kl) :
    ∃ v0 zs st wE, (Instr.mapEntry t (.map (some b)) key).run P w = .ok (.tuple #[v0, goInt st]) wE ∧ D.atKey kl .nil = rowDatum q v0 zs ∧ wE.ownsInts base e q v0 zs ∧ zs.length ≤ n ∧ w.grownBy wE (some b) ∧
      ∀ (w1 : World) (v' : Value) (zs' : List Int), wE.grownBy w1 v0.ownBlock → w1.ownsInts base e q v' zs' → zs'.length ≤ n + 1 → (v'.ownBlock = v0.ownBlock ∨ ∃ g, v'.ownBlock = some g ∧ w.heap.size ≤ g) →
        ∃ w2, (Instr.entryStore t (.map (some b)) (goInt st) v').run P w1 = .ok () w2 ∧ w2.ownsGroups P k base e q b (n + 1) (D.put kl (rowDatum q v' zs')) ∧ w1.grownBy w2 (some b) := by
  have K' := Keyed.of_law K
  obtain ⟨es, clock, hb, F, hs, rfl, hbb, hlen, hap⟩ := h
  obtain ⟨v0, st, es1, clock1, hrun, hv0, hst⟩ := entry_then_store K ht hz hb F hkey
  have hblt : b < w.heap.size := (Array.getElem?_eq_some_iff.1 hb).1
  have hgE := grown_setBlock (es' := es1) (clock' := clock1) hb
  have owned : ∀ x ∈ es.toList, ∃ zs, w.ownsInts base e q x.val zs := fun x hx => by
    obtain ⟨y, hy⟩ := F.reads x hx
    obtain ⟨z, hz, _⟩ := rd_val hy
    obtain ⟨zs, ho, _⟩ := rowElem_inv hz
    exact ⟨zs, ho⟩
  have hat := WideShapes.atKey_sorted (es.toList.map (rg P k (rowElem (H := H) w base e q))) (fit_rising K' F) kl (K'.key hkey)
  have hv : ∃ zs, (DataW.map ((es.toList.map (rg P k (rowElem (H := H) w base e q))).foldr DataW.insert [])).atKey kl .nil = rowDatum q v0 zs ∧ w.ownsInts base e q v0 zs ∧ zs.length ≤ n ∧
      (∀ x ∈ es.toList, x.key ≠ key → x.val.ownBlock = none ∨ x.val.ownBlock ≠ v0.ownBlock) := by
    rcases hv0 with ⟨e0, hm0, h3, rfl⟩ | ⟨h2, rfl⟩
    · obtain ⟨y0, hy0⟩ := F.reads e0 hm0
      obtain ⟨z, hz', hd⟩ := rd_val hy0
      obtain ⟨zs, ho, rfl⟩ := rowElem_inv hz'
      refine ⟨zs, ?_, ho, hlen e0 hm0 zs ho, fun x hx hne => hap x hx e0 hm0 (by rw [h3]; exact hne)⟩
      have m0 := rd_key hy0
      rw [h3, hkey] at m0
      rw [hat.2 (rg P k _ e0) (List.mem_map.2 ⟨e0, hm0, rfl⟩) (by rw [rg_of hy0]; exact (Option.some.inj m0).symm), rg_of hy0, hd]
    · refine ⟨[], hat.1 (fun p hp e1 => ?_) _, World.ownsInts_nil _ _ _ _, Nat.zero_le _, fun x _ _ => ?_⟩
      · obtain ⟨x, hx, rfl⟩ := List.mem_map.1 hp
        obtain ⟨y, hy⟩ := F.reads x hx
        have m1 := rd_key hy
        rw [rg_of hy] at e1
        rw [e1] at m1
        exact h2 x hx (K'.inj m1 hkey)
      · cases x.val.ownBlock <;> simp [Value.ownBlock]
  obtain ⟨zs, hat0, ho0, hzl, hvo⟩ := hv
  refine ⟨v0, zs, st, _, hrun, hat0, ho0.kept hgE (owns_off ho0 hbb), hzl, hgE, fun w1 v' zs' hg hown' hl' hloc => ?_⟩
  have hvb : v0.ownBlock ≠ some b := fun e1 => by
    have := (ho0.1.lt b e1).1
    omega
  have hb1 : w1.heap[b]? = some (.map es1 clock1) := (hg.block b (by simpa [setBlock] using hblt) (fun e1 => hvb e1.symm)).trans (heap_setBlock_same hb _)
  obtain ⟨es', clock', hes, hmu⟩ := hst w1 v' hb1
  have hs1 : ∀ x ∈ es.toList, x.key ≠ key → ∀ z, rowElem (H := H) w base e q x.val = some z → rowElem w1 base e q x.val = some z := by
    intro x hx hne z hz
    obtain ⟨ys, ho, rfl⟩ := rowElem_inv hz
    exact rowElem_mk ((ho.kept hgE (owns_off ho hbb)).kept hg (hvo x hx hne))
  obtain ⟨es'', clock'', hrun', F', hput, _, _, hwho⟩ := Maps.fit_store (R' := rowElem w1 base e q) K' ht hb F (Nat.lt_of_le_of_lt hs hn) hs1 hkey (rowElem_mk hown')
  have hsame : setBlock w b (.map es'' clock'') = setBlock w b (.map es' clock') := by
    rw [hrun'] at hmu
    simpa using hmu
  obtain ⟨rfl, rfl⟩ : es'' = es' ∧ clock'' = clock' := by
    have h1 := heap_setBlock_same hb (.map es'' clock'')
    rw [hsame, heap_setBlock_same hb] at h1
    simp only [Option.some.injEq, Obj.map.injEq] at h1
    exact ⟨h1.1.symm, h1.2.symm⟩
  have hg2 := grown_setBlock (es' := es'') (clock' := clock'') hb1
  have hs2 : ∀ x ∈ es''.toList, ∀ z, rowElem (H := H) w1 base e q x.val = some z → rowElem (setBlock w1 b (.map es'' clock'')) base e q x.val = some z := by
    intro x _ z hz
    obtain ⟨ys, ho, rfl⟩ := rowElem_inv hz
    exact rowElem_mk (ho.kept hg2 (owns_off ho hbb))
  obtain ⟨F2, hmap2, _⟩ := F'.stay hs2
  have old_new : ∀ x ∈ es.toList, x.key ≠ key → x.val.ownBlock = none ∨ x.val.ownBlock ≠ v'.ownBlock := by
    intro x hx hne
    rcases hloc with h1 | ⟨g, h1, h2⟩
    · rw [h1]
      exact hvo x hx hne
    · cases hx' : x.val.ownBlock with
      | none => exact .inl rfl
      | some gx =>
        obtain ⟨ys, ho⟩ := owned x hx
        have := (ho.1.lt gx hx').2
        refine .inr (fun e1 => ?_)
        rw [h1] at e1
        cases e1
        omega
  refine ⟨_, hes, ⟨es'', clock'', heap_setBlock_same hb1 _, F2, ?_, ?_, hbb, ?_, ?_⟩, hg2⟩
  · have e1 : es''.size = ((es''.toList.map (rg P k (rowElem (H := H) w1 base e q))).foldr DataW.insert []).length := by rw [Go.length_sorted]; simp
    rw [e1, hput]
    unfold Go.ChangeMaps.putKey
    rw [Go.length_insert]
    have e2 := List.length_filter_le (Go.ChangeMaps.notKey kl) ((es.toList.map (rg P k (rowElem (H := H) w base e q))).foldr DataW.insert [])
    rw [Go.length_sorted] at e2
    simp at e2
    omega
  · rw [hmap2, DataW.put_eq, hput]
  · intro x hx ys ho
    have back : w1.ownsInts base e q x.val ys := by
      obtain ⟨y, hy⟩ := F'.reads x hx
      obtain ⟨z, hz, _⟩ := rd_val hy
      obtain ⟨ys', ho', _⟩ := rowElem_inv hz
      rw [ho.unique (ho'.kept hg2 (owns_off ho' hbb))]
      exact ho'
    rcases hwho x hx with ⟨hx0, hne⟩ | ⟨_, hval⟩
    · obtain ⟨ys0, ho0'⟩ := owned x hx0
      have := hlen x hx0 ys0 ho0'
      rw [back.unique ((ho0'.kept hgE (owns_off ho0' hbb)).kept hg (hvo x hx0 hne))]
      omega
    · rw [hval] at back
      rw [back.unique hown']
      exact hl'
  · intro x hx y hy hne
    rcases hwho x hx with ⟨hx0, hxk⟩ | ⟨hxk, hxv⟩ <;> rcases hwho y hy with ⟨hy0, hyk⟩ | ⟨hyk, hyv⟩
    · exact hap x hx0 y hy0 hne
    · rw [hyv]
      exact old_new x hx0 hxk
    · rw [hxv]
      cases hv' : v'.ownBlock with
      | none => exact .inl rfl
      | some g =>
        refine .inr (fun e1 => ?_)
        rcases old_new y hy0 hyk with h | h
        · rw [h] at e1
          cases e1
        · exact h (by rw [hv', e1])
    · exact absurd (hxk.trans hyk.symm) hne

/-- An empty map holds nothing; its rows may begin anywhere behind it. -/
theorem groups_empty {w : World} {clock : Nat} (hb : w.heap[b]? = some (.map #[] clock)) (hlt : b < base) : w.ownsGroups (H := H) P k base e q b 0 (.map []) :=
  ⟨#[], clock, hb, ⟨by simp, stamped_empty clock, by simp⟩, Nat.le_refl _, rfl, hlt, by simp, by simp⟩

theorem groups_mono {m : Nat} (h : w.ownsGroups P k base e q b n D) (hm : n ≤ m) : w.ownsGroups P k base e q b m D := by
  obtain ⟨es, clock, hb, F, hs, hD, hbb, hlen, hap⟩ := h
  exact ⟨es, clock, hb, F, Nat.le_trans hs hm, hD, hbb, fun x hx zs ho => Nat.le_trans (hlen x hx zs ho) hm, hap⟩
end
end Go.Proofs.YtofkhcgkahkagaaGreat

