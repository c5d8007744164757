/- The reference's held and moved. -/
import Derived.Test.YtofkhcgkahkagaaStC
namespace Go.Proofs.Ytofkhcgkahkagaa
open Go.RowKit Go.Proofs.YtofkhcgkahkagaaW.PrintWords Go.Proofs.YtofkhcgkahkagaaW.PrintLast Go.Proofs.YtofkhcgkahkagaaW.PrintMore Go.Proofs.Ytofkhcgkahkagaa.PPromiseLines
set_option linter.unusedVariables false
set_option linter.unusedSimpArgs false

/-- How a ledger is returned. -/
def LedEnd (l0 : List S100) (l1 : List S107) (l2 : List S111) (ops : Int) (w : World) (e : Ending) (w' : World) : Prop :=
  ∃ A0 c0 A1 c1 A2 c2, e = .returned (.agg #[.slice A0 l0.length c0, .slice A1 l1.length c1, .slice A2 l2.length c2, .int .i64 ops]) ∧ LedgerAt l0 l1 l2 A0 c0 A1 c1 A2 c2 w' ∧ Below w.heap.size w w'
def heldF2 (l0 : List S100) (p : Plc) (n : Int) : List S100 := putF l0 ⟨(findF l0 p).f0, (findF l0 p).f1, (findF l0 p).f2, wrap64 ((findF l0 p).f3 + n)⟩

/-- No string lies in a block's cells. -/
def NoStr (cs : Array Value) : Prop := ∀ (i : Nat) (b : ByteArray), cs[i]? ≠ some (.string b)
theorem NoStr.set {cs : Array Value} (h : NoStr cs) (j : Nat) {v : Value} (hv : ∀ b, v ≠ .string b) : NoStr (cs.setIfInBounds j v) := by
  intro i b e
  rw [Array.getElem?_setIfInBounds] at e
  split at e
  · split at e
    · exact hv b (Option.some.inj e)
    · cases e
  · exact h i b e
theorem addr_block (a : Addr) (n : Nat) : (a.add n).block = a.block := by unfold Addr.add; split <;> rfl
/-- What is read, where each element has a string, stays where a block without strings is written. -/
theorem C_nostr {α : Type} {d : Kd α} (hk : ∀ {W W' : World} {x : α} {c : List Value}, d.K W x c → d.K W' x c) (hstr : ∀ {W : World} {x : α} {c : List Value}, d.K W x c → ∃ (i : Nat) (b : ByteArray), c[i + 1]? = some (.string b))
    {W : World} {A : Option Addr} {n : Nat} {xs : List α} (h : d.C W A n xs) {g : Nat} {t : TypeId} {cs : Array Value} (hb : W.heap[g]? = some (.cells cs t (0, 0))) (hn : NoStr cs) (j : Nat) (v : Value) : d.C (W.setCell ⟨g, j, none⟩ v) A n xs := by
  refine ⟨h.1, h.2.1, fun h0 => ?_⟩
  obtain ⟨ad, rfl, hc⟩ := h.2.2 h0
  refine ⟨ad, rfl, fun m p hp => ?_⟩
  obtain ⟨c, hl, hK, hcell⟩ := hc m p hp
  refine ⟨c, hl, hk hK, fun i u hu => ?_⟩
  rw [cell_far (by
    intro e
    obtain ⟨i', b, hi⟩ := hstr hK
    have h1 := hcell (i' + 1) (.string b) hi
    have e2 : ad.block = g := (addr_block ad _).symm.trans e
    have h2 : W.cell? (ad.add (m * d.sz + (i' + 1))) = cs[ad.off + (m * d.sz + (i' + 1))]? := by
      rw [← blk_cell hb, ← e2]
      unfold Addr.add
      rw [if_neg (by omega)]
    exact hn _ b (h2.symm.trans h1))]
  exact hcell i u hu
theorem C_st {W : World} {A : Option Addr} {n : Nat} {xs : List S100} (h : Kd.C k100 W A n xs) {g : Nat} {t : TypeId} {cs : Array Value} (hb : W.heap[g]? = some (.cells cs t (0, 0))) (hn : NoStr cs) (j : Nat) (v : Value) : Kd.C k100 (W.setCell ⟨g, j, none⟩ v) A n xs :=
  C_nostr (fun {W W' x c} hK => by obtain rfl := k100_open hK; exact k100.K_of_M (k100_mkM W' 0 (fun _ => False) x)) (fun {W x c} hK => by obtain rfl := k100_open hK; exact ⟨0, x.f1, rfl⟩) h hb hn j v
theorem C_ho {W : World} {A : Option Addr} {n : Nat} {xs : List S107} (h : Kd.C k107 W A n xs) {g : Nat} {t : TypeId} {cs : Array Value} (hb : W.heap[g]? = some (.cells cs t (0, 0))) (hn : NoStr cs) (j : Nat) (v : Value) : Kd.C k107 (W.setCell ⟨g, j, none⟩ v) A n xs :=
  C_nostr (fun {W W' x c} hK => by obtain rfl := k107_open hK; exact k107.K_of_M (k107_mkM W' 0 (fun _ => False) x)) (fun {W x c} hK => by obtain rfl := k107_open hK; exact ⟨0, x.f1, rfl⟩) h hb hn j v
theorem C_mo {W : World} {A : Option Addr} {n : Nat} {xs : List S111} (h : Kd.C k111 W A n xs) {g : Nat} {t : TypeId} {cs : Array Value} (hb : W.heap[g]? = some (.cells cs t (0, 0))) (hn : NoStr cs) (j : Nat) (v : Value) : Kd.C k111 (W.setCell ⟨g, j, none⟩ v) A n xs :=
  C_nostr (fun {W W' x c} hK => by obtain rfl := k111_open hK; exact k111.K_of_M (k111_mkM W' 0 (fun _ => False) x)) (fun {W x c} hK => by obtain rfl := k111_open hK; exact ⟨0, x.f1, rfl⟩) h hb hn j v
section
variable {l0 : List S100} {l1 : List S107} {l2 : List S111} {A0 : Option Addr} {c0 : Nat} {A1 : Option Addr} {c1 : Nat} {A2 : Option Addr} {c2 : Nat} {V : World}
theorem LedgerAt.set (h : LedgerAt l0 l1 l2 A0 c0 A1 c1 A2 c2 V) {g : Nat} {t : TypeId} {cs : Array Value} (hb : V.heap[g]? = some (.cells cs t (0, 0))) (hn : NoStr cs) (j : Nat) (v : Value) : LedgerAt l0 l1 l2 A0 c0 A1 c1 A2 c2 (V.setCell ⟨g, j, none⟩ v) :=
  ⟨C_st h.r0 hb hn j v, C_ho h.r1 hb hn j v, C_mo h.r2 hb hn j v, h.h0, h.h1, h.h2⟩
theorem LedgerAt.put4 (h : LedgerAt l0 l1 l2 A0 c0 A1 c1 A2 c2 V) {g : Nat} {t : TypeId} {cs : Array Value} (hb : V.heap[g]? = some (.cells cs t (0, 0))) (hn : NoStr cs) {x y z u : Value} (hx : ∀ b, x ≠ .string b) (hy : ∀ b, y ≠ .string b) (hz : ∀ b, z ≠ .string b) : LedgerAt l0 l1 l2 A0 c0 A1 c1 A2 c2 (put4 V g x y z u) :=
  LedgerAt.set (LedgerAt.set (LedgerAt.set (LedgerAt.set h hb hn 0 x) (blk_set hb 0 x) (hn.set 0 hx) 1 y) (blk_set (blk_set hb 0 x) 1 y) ((hn.set 0 hx).set 1 hy) 2 z) (blk_set (blk_set (blk_set hb 0 x) 1 y) 2 z) (((hn.set 0 hx).set 1 hy).set 2 hz) 3 u
theorem noStr_led (a b c d : Value) (ha : ∀ s, a ≠ .string s) (hb : ∀ s, b ≠ .string s) (hc : ∀ s, c ≠ .string s) (hd : ∀ s, d ≠ .string s) : NoStr #[a, b, c, d] := by
  intro i s e
  match i, e with
  | 0, e => exact ha s (Option.some.inj e)
  | 1, e => exact hb s (Option.some.inj e)
  | 2, e => exact hc s (Option.some.inj e)
  | 3, e => exact hd s (Option.some.inj e)
  | n + 4, e => simp at e
end
section
variable (l0 : List S100) (l1 : List S107) (l2 : List S111) (A0 : Option Addr) (c0 : Nat) (A1 : Option Addr) (c1 : Nat) (A2 : Option Addr) (c2 : Nat) (ops : Int) (w : World)
set_option maxRecDepth 100000 in
set_option maxHeartbeats 1000000 in
theorem held_calls (at_ : S100) (n : Int) (hL : LedgerAt l0 l1 l2 A0 c0 A1 c1 A2 c2 w) (hl : l0.length ≤ 10000) :
    Calls Try.prog 89 #[.agg #[.slice A0 l0.length c0, .slice A1 l1.length c1, .slice A2 l2.length c2, .int .i64 ops], stV at_, .int .i64 n] w (LedEnd (heldF2 l0 (at_.f0, at_.f1) n) l1 l2 ops w) := by
  have hu := Try.underlying41
  have hus := Try.underlying100
  unfold stV
  obtain ⟨W0, hW0⟩ : ∃ W0, ((w.alloc (.cells #[.slice A0 l0.length c0, .slice A1 l1.length c1, .slice A2 l2.length c2, .int .i64 ops] 41)).alloc (.cells #[.string at_.f0, .string at_.f1, .int .i64 at_.f2, .int .i64 at_.f3] 100)).alloc (.cells #[.slice none 0 0, .slice none 0 0, .slice none 0 0, .int .i64 0] 41) = W0 := ⟨_, rfl⟩
  obtain ⟨hB, h0, h1, h2⟩ : Below w.heap.size w W0 ∧ W0.heap[w.heap.size]? = some (.cells #[.slice A0 l0.length c0, .slice A1 l1.length c1, .slice A2 l2.length c2, .int .i64 ops] 41 (0, 0)) ∧ W0.heap[w.heap.size + 1]? = some (.cells #[.string at_.f0, .string at_.f1, .int .i64 at_.f2, .int .i64 at_.f3] 100 (0, 0)) ∧ W0.heap[w.heap.size + 2]? = some (.cells #[.slice none 0 0, .slice none 0 0, .slice none 0 0, .int .i64 0] 41 (0, 0)) := by rw [← hW0]; exact three_boxes
  have hd0 : W0.cell? ⟨w.heap.size, 0, none⟩ = some (.slice A0 l0.length c0) := (blk_cell h0 0).trans rfl
  have hd1 : W0.cell? ⟨w.heap.size, 1, none⟩ = some (.slice A1 l1.length c1) := (blk_cell h0 1).trans rfl
  have hd2 : W0.cell? ⟨w.heap.size, 2, none⟩ = some (.slice A2 l2.length c2) := (blk_cell h0 2).trans rfl
  have hd3 : W0.cell? ⟨w.heap.size, 3, none⟩ = some (.int .i64 ops) := (blk_cell h0 3).trans rfl
  have he0 : W0.cell? ⟨w.heap.size + 1, 0, none⟩ = some (.string at_.f0) := (blk_cell h1 0).trans rfl
  have he1 : W0.cell? ⟨w.heap.size + 1, 1, none⟩ = some (.string at_.f1) := (blk_cell h1 1).trans rfl
  have hcall := find_calls l0 l1 l2 A0 c0 A1 c1 A2 c2 ops W0 at_.f0 at_.f1 (hL.below hB) hl
  have hres : heldF2 l0 (at_.f0, at_.f1) n = putF l0 ⟨(findF l0 (at_.f0, at_.f1)).f0, (findF l0 (at_.f0, at_.f1)).f1, (findF l0 (at_.f0, at_.f1)).f2, wrap64 ((findF l0 (at_.f0, at_.f1)).f3 + n)⟩ := rfl
  obtain ⟨f, hf⟩ : ∃ f, findF l0 (at_.f0, at_.f1) = f := ⟨_, rfl⟩
  rw [hf] at hcall hres
  have hput := fun V (hV : Below w.heap.size w V) => put_calls l0 l1 l2 A0 c0 A1 c1 A2 c2 ops V ⟨f.f0, f.f1, f.f2, wrap64 (f.f3 + n)⟩ (hL.below hV) hl
  obtain ⟨R, hR⟩ : ∃ R, putF l0 ⟨f.f0, f.f1, f.f2, wrap64 (f.f3 + n)⟩ = R := ⟨_, rfl⟩
  rw [hR] at hput hres
  rw [hres]
  unfold stV at hcall hput
  dsimp only at hput
  clear hres hf hR
  go_enter Try.func89, Try.ntmps89
  go_wp2_with fail
  refine hcall.mono ?_
  clear hcall hd0 hd1 hd2 hd3 he0 he1 hW0
  rintro e W1 ⟨rfl, hb1⟩
  obtain ⟨W2, hW2⟩ : ∃ W2, W1.alloc (.cells #[.string f.f0, .string f.f1, .int .i64 f.f2, .int .i64 (wrap64 (f.f3 + n))] 100) = W2 := ⟨_, rfl⟩
  have hb2 : Below W0.heap.size W0 W2 := by rw [← hW2]; exact hb1.alloc hb1.size _
  have hB2 := hB.trans (hb2.mono hB.size)
  have k0 := blk_below h0 hb2
  have k2 := blk_below h2 hb2
  have hn : W2.heap[W1.heap.size]? = some (.cells #[.string f.f0, .string f.f1, .int .i64 f.f2, .int .i64 (wrap64 (f.f3 + n))] 100 (0, 0)) := by rw [← hW2]; exact blk_new _ _
  have hd0 : W2.cell? ⟨w.heap.size, 0, none⟩ = some (.slice A0 l0.length c0) := (blk_cell k0 0).trans rfl
  have hd1 : W2.cell? ⟨w.heap.size, 1, none⟩ = some (.slice A1 l1.length c1) := (blk_cell k0 1).trans rfl
  have hd2 : W2.cell? ⟨w.heap.size, 2, none⟩ = some (.slice A2 l2.length c2) := (blk_cell k0 2).trans rfl
  have hd3 : W2.cell? ⟨w.heap.size, 3, none⟩ = some (.int .i64 ops) := (blk_cell k0 3).trans rfl
  have hs0 : W2.cell? ⟨W1.heap.size, 0, none⟩ = some (.string f.f0) := (blk_cell hn 0).trans rfl
  have hs1 : W2.cell? ⟨W1.heap.size, 1, none⟩ = some (.string f.f1) := (blk_cell hn 1).trans rfl
  have hs2 : W2.cell? ⟨W1.heap.size, 2, none⟩ = some (.int .i64 f.f2) := (blk_cell hn 2).trans rfl
  have hs3 : W2.cell? ⟨W1.heap.size, 3, none⟩ = some (.int .i64 (wrap64 (f.f3 + n))) := (blk_cell hn 3).trans rfl
  have hcall := hput W2 hB2
  clear hput
  go_wp2_with fail
  refine hcall.mono ?_
  clear hcall hW2 hd0 hd1 hd2 hd3 hs0 hs1 hs2 hs3
  rintro e W3 ⟨A, c, rfl, hL3, hb3⟩
  have q2 := blk_below k2 hb3
  have hB3 := below_w hB2 hb3
  have hr0 : W3.cell? ⟨w.heap.size + 1 + 1, 0, none⟩ = some (.slice none 0 0) := (blk_cell q2 0).trans rfl
  have hf0 := blk_frozen q2 0
  have hr1 : W3.cell? ⟨w.heap.size + 1 + 1, 1, none⟩ = some (.slice none 0 0) := (blk_cell q2 1).trans rfl
  have hf1 := blk_frozen q2 1
  have hr2 : W3.cell? ⟨w.heap.size + 1 + 1, 2, none⟩ = some (.slice none 0 0) := (blk_cell q2 2).trans rfl
  have hf2 := blk_frozen q2 2
  have hr3 : W3.cell? ⟨w.heap.size + 1 + 1, 3, none⟩ = some (.int .i64 0) := (blk_cell q2 3).trans rfl
  have hf3 := blk_frozen q2 3
  go_wp2
  refine bodyPost_ret (results_cell_row rfl _ _ (w.heap.size + 1 + 1) 41 #[.slice A R.length c, .slice A1 l1.length c1, .slice A2 l2.length c2, .int .i64 ops] (0, 0) _ rfl (put4_blk q2 _ _ _ _) hu rfl (by kernel_rfl)) rfl ?_
  exact ⟨A, c, A1, c1, A2, c2, rfl, hL3.put4 q2 (noStr_led _ _ _ _ (fun _ h => by cases h) (fun _ h => by cases h) (fun _ h => by cases h) (fun _ h => by cases h)) (fun _ h => by cases h) (fun _ h => by cases h) (fun _ h => by cases h), put4_below hB3 (by omega) _ _ _ _⟩
end
end Go.Proofs.Ytofkhcgkahkagaa
