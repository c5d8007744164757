/- The reference's moved. -/
import Derived.Test.YtofkhcgkahkagaaGreatStC
/- The reference's held and moved. -/
namespace Go.Proofs.YtofkhcgkahkagaaGreat
open Go.RowKit Go.Proofs.YtofkhcgkahkagaaGreatW.PrintWords Go.Proofs.YtofkhcgkahkagaaGreatW.PrintLast Go.Proofs.YtofkhcgkahkagaaGreatW.PrintMore Go.Proofs.YtofkhcgkahkagaaGreat.PPromiseShort
set_option linter.unusedVariables false
set_option linter.unusedSimpArgs false

/-- How a ledger is returned. -/
def LedEnd (l0 : List S165) (l1 : List S172) (l2 : List S176) (ops : Int) (w : World) (e : Ending) (w' : World) : Prop :=
  ∃ A0 c0 A1 c1 A2 c2, e = .returned (.agg #[.slice A0 l0.length c0, .slice A1 l1.length c1, .slice A2 l2.length c2, .int .i64 ops]) ∧ LedgerAt l0 l1 l2 A0 c0 A1 c1 A2 c2 w' ∧ Below w.heap.size w w'
def heldF2 (l0 : List S165) (p : Plc) (n : Int) : List S165 := putF l0 ⟨(findF l0 p).f0, (findF l0 p).f1, (findF l0 p).f2, wrap64 ((findF l0 p).f3 + n)⟩

/-- No string lies in a block's cells. -/
def NoStr (cs : Array Value) : Prop := ∀ (i : Nat) (b : ByteArray), cs[i]? ≠ some (.string b)
theorem NoStr.set {cs : Array Value} (h : NoStr cs) (j : Nat) {v : Value} (hv : ∀ b, v ≠ .string b) : NoStr (cs.setIfInBounds j v) := by
  intro i b e
  rw [Array.getElem?_setIfInBounds] at e
  split at e
  · split at e
    · exact hv b (Option.some.inj e)
    · cases e
  · exact h i b e
theorem addr_block (a : Addr) (n : Nat) : (a.add n).block = a.block := by unfold Addr.add; split <;> rfl
/-- What is read, where each element has a string, stays where a block without strings is written. -/
theorem C_nostr {α : Type} {d : Kd α} (hk : ∀ {W W' : World} {x : α} {c : List Value}, d.K W x c → d.K W' x c) (hstr : ∀ {W : World} {x : α} {c : List Value}, d.K W x c → ∃ (i : Nat) (b : ByteArray), c[i + 1]? = some (.string b))
    {W : World} {A : Option Addr} {n : Nat} {xs : List α} (h : d.C W A n xs) {g : Nat} {t : TypeId} {cs : Array Value} (hb : W.heap[g]? = some (.cells cs t (0, 0))) (hn : NoStr cs) (j : Nat) (v : Value) : d.C (W.setCell ⟨g, j, none⟩ v) A n xs := by
  refine ⟨h.1, h.2.1, fun h0 => ?_⟩
  obtain ⟨ad, rfl, hc⟩ := h.2.2 h0
  refine ⟨ad, rfl, fun m p hp => ?_⟩
  obtain ⟨c, hl, hK, hcell⟩ := hc m p hp
  refine ⟨c, hl, hk hK, fun i u hu => ?_⟩
  rw [cell_far (by
    intro e
    obtain ⟨i', b, hi⟩ := hstr hK
    have h1 := hcell (i' + 1) (.string b) hi
    have e2 : ad.block = g := (addr_block ad _).symm.trans e
    have h2 : W.cell? (ad.add (m * d.sz + (i' + 1))) = cs[ad.off + (m * d.sz + (i' + 1))]? := by
      rw [← blk_cell hb, ← e2]
      unfold Addr.add
      rw [if_neg (by omega)]
    exact hn _ b (h2.symm.trans h1))]
  exact hcell i u hu
theorem C_st {W : World} {A : Option Addr} {n : Nat} {xs : List S165} (h : Kd.C k165 W A n xs) {g : Nat} {t : TypeId} {cs : Array Value} (hb : W.heap[g]? = some (.cells cs t (0, 0))) (hn : NoStr cs) (j : Nat) (v : Value) : Kd.C k165 (W.setCell ⟨g, j, none⟩ v) A n xs :=
  C_nostr (fun {W W' x c} hK => by obtain rfl := k165_open hK; exact k165.K_of_M (k165_mkM W' 0 (fun _ => False) x)) (fun {W x c} hK => by obtain rfl := k165_open hK; exact ⟨0, x.f1, rfl⟩) h hb hn j v
theorem C_ho {W : World} {A : Option Addr} {n : Nat} {xs : List S172} (h : Kd.C k172 W A n xs) {g : Nat} {t : TypeId} {cs : Array Value} (hb : W.heap[g]? = some (.cells cs t (0, 0))) (hn : NoStr cs) (j : Nat) (v : Value) : Kd.C k172 (W.setCell ⟨g, j, none⟩ v) A n xs :=
  C_nostr (fun {W W' x c} hK => by obtain rfl := k172_open hK; exact k172.K_of_M (k172_mkM W' 0 (fun _ => False) x)) (fun {W x c} hK => by obtain rfl := k172_open hK; exact ⟨0, x.f1, rfl⟩) h hb hn j v
theorem C_mo {W : World} {A : Option Addr} {n : Nat} {xs : List S176} (h : Kd.C k176 W A n xs) {g : Nat} {t : TypeId} {cs : Array Value} (hb : W.heap[g]? = some (.cells cs t (0, 0))) (hn : NoStr cs) (j : Nat) (v : Value) : Kd.C k176 (W.setCell ⟨g, j, none⟩ v) A n xs :=
  C_nostr (fun {W W' x c} hK => by obtain rfl := k176_open hK; exact k176.K_of_M (k176_mkM W' 0 (fun _ => False) x)) (fun {W x c} hK => by obtain rfl := k176_open hK; exact ⟨0, x.f1, rfl⟩) h hb hn j v
section
variable {l0 : List S165} {l1 : List S172} {l2 : List S176} {A0 : Option Addr} {c0 : Nat} {A1 : Option Addr} {c1 : Nat} {A2 : Option Addr} {c2 : Nat} {V : World}
theorem LedgerAt.set (h : LedgerAt l0 l1 l2 A0 c0 A1 c1 A2 c2 V) {g : Nat} {t : TypeId} {cs : Array Value} (hb : V.heap[g]? = some (.cells cs t (0, 0))) (hn : NoStr cs) (j : Nat) (v : Value) : LedgerAt l0 l1 l2 A0 c0 A1 c1 A2 c2 (V.setCell ⟨g, j, none⟩ v) :=
  ⟨C_st h.r0 hb hn j v, C_ho h.r1 hb hn j v, C_mo h.r2 hb hn j v, h.h0, h.h1, h.h2⟩
theorem LedgerAt.put4 (h : LedgerAt l0 l1 l2 A0 c0 A1 c1 A2 c2 V) {g : Nat} {t : TypeId} {cs : Array Value} (hb : V.heap[g]? = some (.cells cs t (0, 0))) (hn : NoStr cs) {x y z u : Value} (hx : ∀ b, x ≠ .string b) (hy : ∀ b, y ≠ .string b) (hz : ∀ b, z ≠ .string b) : LedgerAt l0 l1 l2 A0 c0 A1 c1 A2 c2 (put4 V g x y z u) :=
  LedgerAt.set (LedgerAt.set (LedgerAt.set (LedgerAt.set h hb hn 0 x) (blk_set hb 0 x) (hn.set 0 hx) 1 y) (blk_set (blk_set hb 0 x) 1 y) ((hn.set 0 hx).set 1 hy) 2 z) (blk_set (blk_set (blk_set hb 0 x) 1 y) 2 z) (((hn.set 0 hx).set 1 hy).set 2 hz) 3 u
theorem noStr_led (a b c d : Value) (ha : ∀ s, a ≠ .string s) (hb : ∀ s, b ≠ .string s) (hc : ∀ s, c ≠ .string s) (hd : ∀ s, d ≠ .string s) : NoStr #[a, b, c, d] := by
  intro i s e
  match i, e with
  | 0, e => exact ha s (Option.some.inj e)
  | 1, e => exact hb s (Option.some.inj e)
  | 2, e => exact hc s (Option.some.inj e)
  | 3, e => exact hd s (Option.some.inj e)
  | n + 4, e => simp at e
end
section
variable (l0 : List S165) (l1 : List S172) (l2 : List S176) (A0 : Option Addr) (c0 : Nat) (A1 : Option Addr) (c1 : Nat) (A2 : Option Addr) (c2 : Nat) (ops : Int) (w : World)
set_option maxRecDepth 100000 in
set_option maxHeartbeats 1000000 in
theorem held_calls (at_ : S165) (n : Int) (hL : LedgerAt l0 l1 l2 A0 c0 A1 c1 A2 c2 w) (hl : l0.length ≤ 10000) :
    Calls Tryz.prog 172 #[.agg #[.slice A0 l0.length c0, .slice A1 l1.length c1, .slice A2 l2.length c2, .int .i64 ops], stV at_, .int .i64 n] w (LedEnd (heldF2 l0 (at_.f0, at_.f1) n) l1 l2 ops w) := by
  have hu := Tryz.underlying55
  have hus := Tryz.underlying165
  unfold stV
  obtain ⟨W0, hW0⟩ : ∃ W0, ((w.alloc (.cells #[.slice A0 l0.length c0, .slice A1 l1.length c1, .slice A2 l2.length c2, .int .i64 ops] 55)).alloc (.cells #[.string at_.f0, .string at_.f1, .int .i64 at_.f2, .int .i64 at_.f3] 165)).alloc (.cells #[.slice none 0 0, .slice none 0 0, .slice none 0 0, .int .i64 0] 55) = W0 := ⟨_, rfl⟩
  obtain ⟨hB, h0, h1, h2⟩ : Below w.heap.size w W0 ∧ W0.heap[w.heap.size]? = some (.cells #[.slice A0 l0.length c0, .slice A1 l1.length c1, .slice A2 l2.length c2, .int .i64 ops] 55 (0, 0)) ∧ W0.heap[w.heap.size + 1]? = some (.cells #[.string at_.f0, .string at_.f1, .int .i64 at_.f2, .int .i64 at_.f3] 165 (0, 0)) ∧ W0.heap[w.heap.size + 2]? = some (.cells #[.slice none 0 0, .slice none 0 0, .slice none 0 0, .int .i64 0] 55 (0, 0)) := by rw [← hW0]; exact three_boxes
  have hd0 : W0.cell? ⟨w.heap.size, 0, none⟩ = some (.slice A0 l0.length c0) := (blk_cell h0 0).trans rfl
  have hd1 : W0.cell? ⟨w.heap.size, 1, none⟩ = some (.slice A1 l1.length c1) := (blk_cell h0 1).trans rfl
  have hd2 : W0.cell? ⟨w.heap.size, 2, none⟩ = some (.slice A2 l2.length c2) := (blk_cell h0 2).trans rfl
  have hd3 : W0.cell? ⟨w.heap.size, 3, none⟩ = some (.int .i64 ops) := (blk_cell h0 3).trans rfl
  have he0 : W0.cell? ⟨w.heap.size + 1, 0, none⟩ = some (.string at_.f0) := (blk_cell h1 0).trans rfl
  have he1 : W0.cell? ⟨w.heap.size + 1, 1, none⟩ = some (.string at_.f1) := (blk_cell h1 1).trans rfl
  have hcall := find_calls l0 l1 l2 A0 c0 A1 c1 A2 c2 ops W0 at_.f0 at_.f1 (hL.below hB) hl
  have hres : heldF2 l0 (at_.f0, at_.f1) n = putF l0 ⟨(findF l0 (at_.f0, at_.f1)).f0, (findF l0 (at_.f0, at_.f1)).f1, (findF l0 (at_.f0, at_.f1)).f2, wrap64 ((findF l0 (at_.f0, at_.f1)).f3 + n)⟩ := rfl
  obtain ⟨f, hf⟩ : ∃ f, findF l0 (at_.f0, at_.f1) = f := ⟨_, rfl⟩
  rw [hf] at hcall hres
  have hput := fun V (hV : Below w.heap.size w V) => put_calls l0 l1 l2 A0 c0 A1 c1 A2 c2 ops V ⟨f.f0, f.f1, f.f2, wrap64 (f.f3 + n)⟩ (hL.below hV) hl
  obtain ⟨R, hR⟩ : ∃ R, putF l0 ⟨f.f0, f.f1, f.f2, wrap64 (f.f3 + n)⟩ = R := ⟨_, rfl⟩
  rw [hR] at hput hres
  rw [hres]
  unfold stV at hcall hput
  dsimp only at hput
  clear hres hf hR
  go_enter Tryz.func172, Tryz.ntmps172
  go_wp2_with fail
  refine hcall.mono ?_
  clear hcall hd0 hd1 hd2 hd3 he0 he1 hW0
  rintro e W1 ⟨rfl, hb1⟩
  obtain ⟨W2, hW2⟩ : ∃ W2, W1.alloc (.cells #[.string f.f0, .string f.f1, .int .i64 f.f2, .int .i64 (wrap64 (f.f3 + n))] 165) = W2 := ⟨_, rfl⟩
  have hb2 : Below W0.heap.size W0 W2 := by rw [← hW2]; exact hb1.alloc hb1.size _
  have hB2 := hB.trans (hb2.mono hB.size)
  have k0 := blk_below h0 hb2
  have k2 := blk_below h2 hb2
  have hn : W2.heap[W1.heap.size]? = some (.cells #[.string f.f0, .string f.f1, .int .i64 f.f2, .int .i64 (wrap64 (f.f3 + n))] 165 (0, 0)) := by rw [← hW2]; exact blk_new _ _
  have hd0 : W2.cell? ⟨w.heap.size, 0, none⟩ = some (.slice A0 l0.length c0) := (blk_cell k0 0).trans rfl
  have hd1 : W2.cell? ⟨w.heap.size, 1, none⟩ = some (.slice A1 l1.length c1) := (blk_cell k0 1).trans rfl
  have hd2 : W2.cell? ⟨w.heap.size, 2, none⟩ = some (.slice A2 l2.length c2) := (blk_cell k0 2).trans rfl
  have hd3 : W2.cell? ⟨w.heap.size, 3, none⟩ = some (.int .i64 ops) := (blk_cell k0 3).trans rfl
  have hs0 : W2.cell? ⟨W1.heap.size, 0, none⟩ = some (.string f.f0) := (blk_cell hn 0).trans rfl
  have hs1 : W2.cell? ⟨W1.heap.size, 1, none⟩ = some (.string f.f1) := (blk_cell hn 1).trans rfl
  have hs2 : W2.cell? ⟨W1.heap.size, 2, none⟩ = some (.int .i64 f.f2) := (blk_cell hn 2).trans rfl
  have hs3 : W2.cell? ⟨W1.heap.size, 3, none⟩ = some (.int .i64 (wrap64 (f.f3 + n))) := (blk_cell hn 3).trans rfl
  have hcall := hput W2 hB2
  clear hput
  go_wp2_with fail
  refine hcall.mono ?_
  clear hcall hW2 hd0 hd1 hd2 hd3 hs0 hs1 hs2 hs3
  rintro e W3 ⟨A, c, rfl, hL3, hb3⟩
  have q2 := blk_below k2 hb3
  have hB3 := below_w hB2 hb3
  have hr0 : W3.cell? ⟨w.heap.size + 1 + 1, 0, none⟩ = some (.slice none 0 0) := (blk_cell q2 0).trans rfl
  have hf0 := blk_frozen q2 0
  have hr1 : W3.cell? ⟨w.heap.size + 1 + 1, 1, none⟩ = some (.slice none 0 0) := (blk_cell q2 1).trans rfl
  have hf1 := blk_frozen q2 1
  have hr2 : W3.cell? ⟨w.heap.size + 1 + 1, 2, none⟩ = some (.slice none 0 0) := (blk_cell q2 2).trans rfl
  have hf2 := blk_frozen q2 2
  have hr3 : W3.cell? ⟨w.heap.size + 1 + 1, 3, none⟩ = some (.int .i64 0) := (blk_cell q2 3).trans rfl
  have hf3 := blk_frozen q2 3
  go_wp2
  refine bodyPost_ret (results_cell_row rfl _ _ (w.heap.size + 1 + 1) 55 #[.slice A R.length c, .slice A1 l1.length c1, .slice A2 l2.length c2, .int .i64 ops] (0, 0) _ rfl (put4_blk q2 _ _ _ _) hu rfl (by kernel_rfl)) rfl ?_
  exact ⟨A, c, A1, c1, A2, c2, rfl, hL3.put4 q2 (noStr_led _ _ _ _ (fun _ h => by cases h) (fun _ h => by cases h) (fun _ h => by cases h) (fun _ h => by cases h)) (fun _ h => by cases h) (fun _ h => by cases h) (fun _ h => by cases h), put4_below hB3 (by omega) _ _ _ _⟩
end
end Go.Proofs.YtofkhcgkahkagaaGreat
namespace Go.Proofs.YtofkhcgkahkagaaGreat
open Go.RowKit Go.Proofs.YtofkhcgkahkagaaGreatW.PrintWords Go.Proofs.YtofkhcgkahkagaaGreatW.PrintLast Go.Proofs.YtofkhcgkahkagaaGreatW.PrintMore Go.Proofs.YtofkhcgkahkagaaGreat.PPromiseShort
set_option linter.unusedVariables false
set_option linter.unusedSimpArgs false

/-- A move as a value. -/
def moV (m : S176) : Value := .agg #[.int .i64 m.f0, .string m.f1, .string m.f2, .int .i64 m.f3, .int .i64 m.f4, .int .i64 m.f5]
theorem app_mo {W0 V V' : World} {v : Value} {acc : List S176} (hR : Kd.R k176 176 V W0.heap.size (fun k => W0.heap.size ≤ k) v acc) (hlow : Below W0.heap.size W0 V) (hb : Below V.heap.size V V') (hl : acc.length ≤ 100000) (m : S176) :
    ∃ v1 w1, (Builtin.append_ #[53, 53] 53 #[v, .slice (some ⟨V'.heap.size, 0, none⟩) 1 1]).run Tryz.prog (V'.alloc (.cells #[.int .i64 m.f0, .string m.f1, .string m.f2, .int .i64 m.f3, .int .i64 m.f4, .int .i64 m.f5] 176)) = .ok v1 w1 ∧ Kd.R k176 176 w1 W0.heap.size (fun k => W0.heap.size ≤ k) v1 (acc ++ [m]) ∧ Below W0.heap.size W0 w1 := by
  have hz := hb.size
  have hz1 := hlow.size
  obtain ⟨A1, c1, w1, hrun, hR1, hg1⟩ := append_made k176 (P := Tryz.prog) W0.heap.size 53 53 176 _ 64 Tryz.underlying53 info176 rfl (by decide) (by decide) V' v _ m [.int .i64 m.f0, .string m.f1, .string m.f2, .int .i64 m.f3, .int .i64 m.f4, .int .i64 m.f5] (fun k => W0.heap.size ≤ k) (fun _ => False)
    (k176_mkM _ _ _ m) (fun k hk => hk.elim) (fun k hk => by omega) (Kd.R_below hR hb) (by omega) (by omega)
  exact ⟨_, w1, hrun, hR1, (hlow.trans (hb.mono hlow.size)).grown hg1 (by omega) (fun j hj => (Kd.R_below hR hb).1 j hj)⟩
theorem four_boxes {w : World} {a b c d : Array Value} {s t u v : TypeId} : Below w.heap.size w ((((w.alloc (.cells a s (0, 0))).alloc (.cells b t (0, 0))).alloc (.cells c u (0, 0))).alloc (.cells d v (0, 0))) ∧ ((((w.alloc (.cells a s (0, 0))).alloc (.cells b t (0, 0))).alloc (.cells c u (0, 0))).alloc (.cells d v (0, 0))).heap[w.heap.size]? = some (.cells a s (0, 0)) ∧ ((((w.alloc (.cells a s (0, 0))).alloc (.cells b t (0, 0))).alloc (.cells c u (0, 0))).alloc (.cells d v (0, 0))).heap[w.heap.size + 1]? = some (.cells b t (0, 0)) ∧ ((((w.alloc (.cells a s (0, 0))).alloc (.cells b t (0, 0))).alloc (.cells c u (0, 0))).alloc (.cells d v (0, 0))).heap[w.heap.size + 2]? = some (.cells c u (0, 0)) ∧ ((((w.alloc (.cells a s (0, 0))).alloc (.cells b t (0, 0))).alloc (.cells c u (0, 0))).alloc (.cells d v (0, 0))).heap[w.heap.size + 3]? = some (.cells d v (0, 0)) := by
  obtain ⟨h1, h2, h3, h4⟩ := @three_boxes w a b c s t u
  refine ⟨h1.alloc (by simp; omega) _, blk_alloc h2 _, blk_alloc h3 _, blk_alloc h4 _, ?_⟩
  have := heap_alloc_new (((w.alloc (.cells a s (0, 0))).alloc (.cells b t (0, 0))).alloc (.cells c u (0, 0))) (.cells d v (0, 0))
  simp only [World.size_alloc] at this
  exact this
def movedS (l0 : List S165) (p : Plc) (n : Int) : List S165 := putF l0 ⟨(findF l0 p).f0, (findF l0 p).f1, wrap64 ((findF l0 p).f2 + n), (findF l0 p).f3⟩
def movedM (l2 : List S176) (p : Plc) (n kind hold : Int) : List S176 := l2 ++ [⟨(l2.length : Int) + 1, p.1, p.2, n, kind, hold⟩]

section
variable (l0 : List S165) (l1 : List S172) (l2 : List S176) (A0 : Option Addr) (c0 : Nat) (A1 : Option Addr) (c1 : Nat) (A2 : Option Addr) (c2 : Nat) (ops : Int) (w : World)
set_option maxRecDepth 100000 in
set_option maxHeartbeats 2000000 in
theorem moved_calls (at_ : S165) (n : Int) (m : S176) (hL : LedgerAt l0 l1 l2 A0 c0 A1 c1 A2 c2 w) (hl : l0.length ≤ 10000) (hl2 : l2.length ≤ 10000) :
    Calls Tryz.prog 170 #[.agg #[.slice A0 l0.length c0, .slice A1 l1.length c1, .slice A2 l2.length c2, .int .i64 ops], stV at_, .int .i64 n, moV m] w (LedEnd (movedS l0 (at_.f0, at_.f1) n) l1 (movedM l2 (at_.f0, at_.f1) n m.f4 m.f5) ops w) := by
  have hu := Tryz.underlying55
  have hus := Tryz.underlying165
  have hum := Tryz.underlying176
  unfold stV moV
  obtain ⟨W0, hW0⟩ : ∃ W0, (((w.alloc (.cells #[.slice A0 l0.length c0, .slice A1 l1.length c1, .slice A2 l2.length c2, .int .i64 ops] 55)).alloc (.cells #[.string at_.f0, .string at_.f1, .int .i64 at_.f2, .int .i64 at_.f3] 165)).alloc (.cells #[.int .i64 m.f0, .string m.f1, .string m.f2, .int .i64 m.f3, .int .i64 m.f4, .int .i64 m.f5] 176)).alloc (.cells #[.slice none 0 0, .slice none 0 0, .slice none 0 0, .int .i64 0] 55) = W0 := ⟨_, rfl⟩
  obtain ⟨hB, h0, h1, h2, h3⟩ : Below w.heap.size w W0 ∧ W0.heap[w.heap.size]? = some (.cells #[.slice A0 l0.length c0, .slice A1 l1.length c1, .slice A2 l2.length c2, .int .i64 ops] 55 (0, 0)) ∧ W0.heap[w.heap.size + 1]? = some (.cells #[.string at_.f0, .string at_.f1, .int .i64 at_.f2, .int .i64 at_.f3] 165 (0, 0)) ∧ W0.heap[w.heap.size + 2]? = some (.cells #[.int .i64 m.f0, .string m.f1, .string m.f2, .int .i64 m.f3, .int .i64 m.f4, .int .i64 m.f5] 176 (0, 0)) ∧ W0.heap[w.heap.size + 3]? = some (.cells #[.slice none 0 0, .slice none 0 0, .slice none 0 0, .int .i64 0] 55 (0, 0)) := by rw [← hW0]; exact four_boxes
  have hd0 : W0.cell? ⟨w.heap.size, 0, none⟩ = some (.slice A0 l0.length c0) := (blk_cell h0 0).trans rfl
  have hd1 : W0.cell? ⟨w.heap.size, 1, none⟩ = some (.slice A1 l1.length c1) := (blk_cell h0 1).trans rfl
  have hd2 : W0.cell? ⟨w.heap.size, 2, none⟩ = some (.slice A2 l2.length c2) := (blk_cell h0 2).trans rfl
  have hd3 : W0.cell? ⟨w.heap.size, 3, none⟩ = some (.int .i64 ops) := (blk_cell h0 3).trans rfl
  have he0 : W0.cell? ⟨w.heap.size + 1, 0, none⟩ = some (.string at_.f0) := (blk_cell h1 0).trans rfl
  have he1 : W0.cell? ⟨w.heap.size + 1, 1, none⟩ = some (.string at_.f1) := (blk_cell h1 1).trans rfl
  have hcall := find_calls l0 l1 l2 A0 c0 A1 c1 A2 c2 ops W0 at_.f0 at_.f1 (hL.below hB) hl
  have hres : movedS l0 (at_.f0, at_.f1) n = putF l0 ⟨(findF l0 (at_.f0, at_.f1)).f0, (findF l0 (at_.f0, at_.f1)).f1, wrap64 ((findF l0 (at_.f0, at_.f1)).f2 + n), (findF l0 (at_.f0, at_.f1)).f3⟩ := rfl
  obtain ⟨f, hf⟩ : ∃ f, findF l0 (at_.f0, at_.f1) = f := ⟨_, rfl⟩
  rw [hf] at hcall hres
  have hput := fun V (hV : Below w.heap.size w V) => put_calls l0 l1 l2 A0 c0 A1 c1 A2 c2 ops V ⟨f.f0, f.f1, wrap64 (f.f2 + n), f.f3⟩ (hL.below hV) hl
  obtain ⟨R, hR⟩ : ∃ R, putF l0 ⟨f.f0, f.f1, wrap64 (f.f2 + n), f.f3⟩ = R := ⟨_, rfl⟩
  rw [hR] at hput hres
  rw [hres]
  have hM : movedM l2 (at_.f0, at_.f1) n m.f4 m.f5 = l2 ++ [⟨(l2.length : Int) + 1, at_.f0, at_.f1, n, m.f4, m.f5⟩] := rfl
  obtain ⟨M, hMM⟩ : ∃ M, movedM l2 (at_.f0, at_.f1) n m.f4 m.f5 = M := ⟨_, rfl⟩
  rw [hMM] at hM
  rw [hMM]
  have HM := Lib.hid hM
  unfold stV at hcall hput
  dsimp only at hput
  clear hres hf hR hM hMM
  go_enter Tryz.func170, Tryz.ntmps170
  go_wp2_with fail
  refine hcall.mono ?_
  clear hcall hd0 hd1 hd2 hd3 he0 he1 hW0
  rintro e W1 ⟨rfl, hb1⟩
  obtain ⟨W2, hW2⟩ : ∃ W2, W1.alloc (.cells #[.string f.f0, .string f.f1, .int .i64 (wrap64 (f.f2 + n)), .int .i64 f.f3] 165) = W2 := ⟨_, rfl⟩
  have hb2 : Below W0.heap.size W0 W2 := by rw [← hW2]; exact hb1.alloc hb1.size _
  have hB2 := hB.trans (hb2.mono hB.size)
  have k0 := blk_below h0 hb2
  have hn : W2.heap[W1.heap.size]? = some (.cells #[.string f.f0, .string f.f1, .int .i64 (wrap64 (f.f2 + n)), .int .i64 f.f3] 165 (0, 0)) := by rw [← hW2]; exact blk_new _ _
  have hd0 : W2.cell? ⟨w.heap.size, 0, none⟩ = some (.slice A0 l0.length c0) := (blk_cell k0 0).trans rfl
  have hd1 : W2.cell? ⟨w.heap.size, 1, none⟩ = some (.slice A1 l1.length c1) := (blk_cell k0 1).trans rfl
  have hd2 : W2.cell? ⟨w.heap.size, 2, none⟩ = some (.slice A2 l2.length c2) := (blk_cell k0 2).trans rfl
  have hd3 : W2.cell? ⟨w.heap.size, 3, none⟩ = some (.int .i64 ops) := (blk_cell k0 3).trans rfl
  have hs0 : W2.cell? ⟨W1.heap.size, 0, none⟩ = some (.string f.f0) := (blk_cell hn 0).trans rfl
  have hs1 : W2.cell? ⟨W1.heap.size, 1, none⟩ = some (.string f.f1) := (blk_cell hn 1).trans rfl
  have hs2 : W2.cell? ⟨W1.heap.size, 2, none⟩ = some (.int .i64 (wrap64 (f.f2 + n))) := (blk_cell hn 2).trans rfl
  have hs3 : W2.cell? ⟨W1.heap.size, 3, none⟩ = some (.int .i64 f.f3) := (blk_cell hn 3).trans rfl
  have hcall := hput W2 hB2
  clear hput
  go_wp2_with fail
  refine hcall.mono ?_
  clear hcall hW2 hd0 hd1 hd2 hd3 hs0 hs1 hs2 hs3
  rintro e W3 ⟨A, c, rfl, hL3, hb3⟩
  have q0 := blk_below k0 hb3
  have g1 := blk_below (blk_below h1 hb2) hb3
  have g2 := blk_below (blk_below h2 hb2) hb3
  have g3 := blk_below (blk_below h3 hb2) hb3
  have hB3 := below_w hB2 hb3
  have ns := fun (a b d e : Value) => @noStr_led a b d e
  have hd0 : W3.cell? ⟨w.heap.size, 0, none⟩ = some (.slice A0 l0.length c0) := (blk_cell q0 0).trans rfl
  have hz0 := blk_frozen q0 0
  have hd1 : W3.cell? ⟨w.heap.size, 1, none⟩ = some (.slice A1 l1.length c1) := (blk_cell q0 1).trans rfl
  have hz1 := blk_frozen q0 1
  have hd2 : W3.cell? ⟨w.heap.size, 2, none⟩ = some (.slice A2 l2.length c2) := (blk_cell q0 2).trans rfl
  have hz2 := blk_frozen q0 2
  have hd3 : W3.cell? ⟨w.heap.size, 3, none⟩ = some (.int .i64 ops) := (blk_cell q0 3).trans rfl
  have hz3 := blk_frozen q0 3
  obtain ⟨V3, hV3⟩ : ∃ V3, put4 W3 w.heap.size (.slice A R.length c) (.slice A1 l1.length c1) (.slice A2 l2.length c2) (.int .i64 ops) = V3 := ⟨_, rfl⟩
  have hne : ∀ j : Nat, 0 < j → w.heap.size + j ≠ w.heap.size := fun j hj => by omega
  have p0 : V3.heap[w.heap.size]? = some (.cells #[.slice A R.length c, .slice A1 l1.length c1, .slice A2 l2.length c2, .int .i64 ops] 55 (0, 0)) := by rw [← hV3]; exact put4_blk q0 _ _ _ _
  have p1 : V3.heap[w.heap.size + 1]? = some (.cells #[.string at_.f0, .string at_.f1, .int .i64 at_.f2, .int .i64 at_.f3] 165 (0, 0)) := by rw [← hV3]; exact put4_far g1 (hne 1 (by omega)) _ _ _ _
  have p2 : V3.heap[w.heap.size + 2]? = some (.cells #[.int .i64 m.f0, .string m.f1, .string m.f2, .int .i64 m.f3, .int .i64 m.f4, .int .i64 m.f5] 176 (0, 0)) := by rw [← hV3]; exact put4_far g2 (hne 2 (by omega)) _ _ _ _
  have p3 : V3.heap[w.heap.size + 3]? = some (.cells #[.slice none 0 0, .slice none 0 0, .slice none 0 0, .int .i64 0] 55 (0, 0)) := by rw [← hV3]; exact put4_far g3 (hne 3 (by omega)) _ _ _ _
  have hLV : LedgerAt R l1 l2 A c A1 c1 A2 c2 V3 := by rw [← hV3]; exact hL3.put4 q0 (noStr_led _ _ _ _ (fun _ h => by cases h) (fun _ h => by cases h) (fun _ h => by cases h) (fun _ h => by cases h)) (fun _ h => by cases h) (fun _ h => by cases h) (fun _ h => by cases h)
  have hBV : Below w.heap.size w V3 := by rw [← hV3]; exact put4_below hB3 (Nat.le_refl _) _ _ _ _
  unfold put4 at hV3
  clear q0 g1 g2 g3 hL3 hB3 hb3
  have hm0 : V3.cell? ⟨w.heap.size, 0, none⟩ = some (.slice A R.length c) := (blk_cell p0 0).trans rfl
  have hm1 : V3.cell? ⟨w.heap.size, 1, none⟩ = some (.slice A1 l1.length c1) := (blk_cell p0 1).trans rfl
  have hm2 : V3.cell? ⟨w.heap.size, 2, none⟩ = some (.slice A2 l2.length c2) := (blk_cell p0 2).trans rfl
  have hm3 : V3.cell? ⟨w.heap.size, 3, none⟩ = some (.int .i64 ops) := (blk_cell p0 3).trans rfl
  go_wp2_with (first | ((with_reducible refine gate_dst (N := 28) rfl ?_); refine Kd.R_append_rows k176 (w0 := V3) V3.heap.size rfl (.tmp 25) (.tmp 27) 53 176 (.agg #[(.int .i64 0), (.string ⟨#[]⟩), (.string ⟨#[]⟩), (.int .i64 0), (.int .i64 0), (.int .i64 0)]) 64 rfl Tryz.underlying53 info176 rfl (by decide) (by omega) (.slice none 0 0) [] l2 A2 l2.length c2 (fun k => V3.heap.size ≤ k) (fun _ => False) rfl rfl (Kd.R_nil _ _ _ _ _) hLV.r2 (fun x cs h => by obtain rfl := k176_open h; exact k176_mkM _ _ _ x) (fun _ h => h.elim) (fun k hk => hk) (Below.refl _ _) (Nat.le_refl _) (by simp only [List.length_nil]; omega) ?_; intro v1 w1 hR1 hlow1 hg1 _; rw [List.nil_append] at hR1; obtain ⟨Av, cv, rfl⟩ := Kd.R_slice hR1; have y0 := blk_below p0 hlow1; have y1 := blk_below p1 hlow1; have y2 := blk_below p2 hlow1; have y3 := blk_below p3 hlow1; have hn0 : w1.cell? ⟨w.heap.size, 0, none⟩ = some (.slice A R.length c) := (blk_cell y0 0).trans rfl; have hg0' := blk_frozen y0 0; have hn1 : w1.cell? ⟨w.heap.size, 1, none⟩ = some (.slice A1 l1.length c1) := (blk_cell y0 1).trans rfl; have hg1' := blk_frozen y0 1; have hn2 : w1.cell? ⟨w.heap.size, 2, none⟩ = some (.slice A2 l2.length c2) := (blk_cell y0 2).trans rfl; have hg2' := blk_frozen y0 2; have hn3 : w1.cell? ⟨w.heap.size, 3, none⟩ = some (.int .i64 ops) := (blk_cell y0 3).trans rfl; have hg3' := blk_frozen y0 3; have ht0 : w1.cell? ⟨w.heap.size + 1, 0, none⟩ = some (.string at_.f0) := (blk_cell y1 0).trans rfl; have ht1 : w1.cell? ⟨w.heap.size + 1, 1, none⟩ = some (.string at_.f1) := (blk_cell y1 1).trans rfl; have hv4 : w1.cell? ⟨w.heap.size + 1 + 1, 4, none⟩ = some (.int .i64 m.f4) := (blk_cell y2 4).trans rfl; have hv5 : w1.cell? ⟨w.heap.size + 1 + 1, 5, none⟩ = some (.int .i64 m.f5) := (blk_cell y2 5).trans rfl; obtain ⟨v2, w2, hrun, hR2, hlow2⟩ := app_mo hR1 hlow1 (Below.refl _ _) (by omega) ⟨(l2.length : Int) + 1, at_.f0, at_.f1, n, m.f4, m.f5⟩; rw [← HM.out] at hR2; obtain ⟨Au, cu, rfl⟩ := Kd.R_slice hR2; dsimp only at hrun; have z0 := blk_below p0 hlow2; have z3 := blk_below p3 hlow2; have ho0 : w2.cell? ⟨w.heap.size, 0, none⟩ = some (.slice A R.length c) := (blk_cell z0 0).trans rfl; have hh0 := blk_frozen z0 0; have ho1 : w2.cell? ⟨w.heap.size, 1, none⟩ = some (.slice A1 l1.length c1) := (blk_cell z0 1).trans rfl; have hh1 := blk_frozen z0 1; have ho2 : w2.cell? ⟨w.heap.size, 2, none⟩ = some (.slice A2 l2.length c2) := (blk_cell z0 2).trans rfl; have hh2 := blk_frozen z0 2; have ho3 : w2.cell? ⟨w.heap.size, 3, none⟩ = some (.int .i64 ops) := (blk_cell z0 3).trans rfl; have hh3 := blk_frozen z0 3; have hj0 : w2.cell? ⟨w.heap.size + 1 + 1 + 1, 0, none⟩ = some (.slice none 0 0) := (blk_cell z3 0).trans rfl; have hk0 := blk_frozen z3 0; have hj1 : w2.cell? ⟨w.heap.size + 1 + 1 + 1, 1, none⟩ = some (.slice none 0 0) := (blk_cell z3 1).trans rfl; have hk1 := blk_frozen z3 1; have hj2 : w2.cell? ⟨w.heap.size + 1 + 1 + 1, 2, none⟩ = some (.slice none 0 0) := (blk_cell z3 2).trans rfl; have hk2 := blk_frozen z3 2; have hj3 : w2.cell? ⟨w.heap.size + 1 + 1 + 1, 3, none⟩ = some (.int .i64 0) := (blk_cell z3 3).trans rfl; have hk3 := blk_frozen z3 3) | (at_builtin; refine wpList_append_run rfl _ _ _ rfl hrun ?_))
  have hno := fun (a b d : Option Addr) (i j k i2 j2 k2 : Nat) (o : Int) => @noStr_led (.slice a i i2) (.slice b j j2) (.slice d k k2) (.int .i64 o) (fun _ h => by cases h) (fun _ h => by cases h) (fun _ h => by cases h) (fun _ h => by cases h)
  have zf := blk_far (p := ⟨w.heap.size, 2, none⟩) z3 (by show w.heap.size + 3 ≠ w.heap.size; omega) (.slice Au M.length cu)
  refine bodyPost_ret (results_cell_row rfl _ _ (w.heap.size + 1 + 1 + 1) 55 #[.slice A R.length c, .slice A1 l1.length c1, .slice Au M.length cu, .int .i64 ops] (0, 0) _ rfl (put4_blk zf _ _ _ _) hu rfl (by kernel_rfl)) rfl ?_
  have hL2 : LedgerAt R l1 M A c A1 c1 Au cu w2 := ⟨Kd.C_below hLV.r0 hlow2, Kd.C_below hLV.r1 hlow2, (Kd.R_reads' hR2).2.2, hLV.h0, hLV.h1, (Kd.R_reads' hR2).2.1⟩
  exact ⟨A, c, A1, c1, Au, cu, rfl, (hL2.set z0 (hno _ _ _ _ _ _ _ _ _ _) 2 (.slice Au M.length cu)).put4 zf (hno _ _ _ _ _ _ _ _ _ _) (fun _ h => by cases h) (fun _ h => by cases h) (fun _ h => by cases h), put4_below (below_set (below_w hBV hlow2) (Nat.le_refl _)) (by omega) _ _ _ _⟩
end
end Go.Proofs.YtofkhcgkahkagaaGreat
