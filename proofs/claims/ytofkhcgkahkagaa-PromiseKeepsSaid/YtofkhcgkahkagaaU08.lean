/- Texts behind the row of PromiseKeeps, part 8. -/
import Derived.RangeFuncNested
import Derived.RangeFuncCalls
import Derived.RangeFuncLeaves
import Derived.Shelf.Abstract
import Derived.Shelf.AbstractIn
import Derived.Lib.Hide
import Derived.Outline
import Derived.Shelf.RegionOpen
import Derived.WalkKit
import Derived.OwnWalkIn
import Derived.TacticsInMore
import Derived.LoopNIn
import Derived.LoopIn
import Derived.Test.YtofkhcgkahkagaaU01
import Derived.Maps.AppendAt
import Derived.Test.YtofkhcgkahkagaaU05
import Derived.Test.YtofkhcgkahkagaaU07
import Derived.Deep.QuietTactic
import Derived.BigQuiet
import Derived.Test.YtofkhcgkahkagaaU02
import Derived.Deep.RegionHeld3
/- A contract for iterators (range over func) by footprints: which blocks the loop's body owns (D), which the iterator reads or writes (Fp, Fw), and the law of the statement over it, at the wide fence. Conditions: none of the program's. -/
namespace Go.Proofs.Ytofkhcgkahkagaa
open Go.RowKit

/-- What D names lies as it lay; the streams are as they were; no block has gone. -/
structure Same (D : Nat → Prop) (w w' : World) : Prop where
  os : w'.os = w.os
  tape : w'.tape = w.tape
  output : w'.output = w.output
  size : w.heap.size ≤ w'.heap.size
  block : ∀ k, D k → w'.heap[k]? = w.heap[k]?

theorem Same.refl (D : Nat → Prop) (w : World) : Same D w w := ⟨rfl, rfl, rfl, Nat.le_refl _, fun _ _ => rfl⟩
theorem Same.mono {D D' : Nat → Prop} {w w' : World} (h : Same D w w') (hd : ∀ k, D' k → D k) : Same D' w w' := ⟨h.os, h.tape, h.output, h.size, fun k hk => h.block k (hd k hk)⟩
theorem Same.trans {D D' D'' : Nat → Prop} {a b c : World} (h : Same D a b) (k : Same D' b c) (h1 : ∀ i, D'' i → D i) (h2 : ∀ i, D'' i → D' i) : Same D'' a c :=
  ⟨k.os.trans h.os, k.tape.trans h.tape, k.output.trans h.output, Nat.le_trans h.size k.size, fun i hi => (k.block i (h2 i hi)).trans (h.block i (h1 i hi))⟩
theorem Same.trans' {D : Nat → Prop} {a b c : World} (h : Same D a b) (k : Same D b c) : Same D a c := h.trans k (fun _ hi => hi) (fun _ hi => hi)
theorem Same.of_below {B : Nat} {w w' : World} (h : Below B w w') : Same (fun k => k < B) w w' := ⟨h.os, h.tape, h.output, h.size, h.block⟩
theorem Same.below {B : Nat} {w w' : World} (h : Same (fun k => k < B) w w') : Below B w w' := ⟨h.os, h.tape, h.output, h.size, h.block⟩
theorem Same.putObj (W : World) (l : Nat) (o : Obj) : Same (fun k => k ≠ l) W (W.putObj l o) := ⟨rfl, rfl, rfl, by simp, fun _ hk => World.putObj_heap_other hk⟩
theorem Same.cell {D : Nat → Prop} {w w' : World} (h : Same D w w') {p : Addr} (hp : D p.block) : w'.cell? p = w.cell? p := World.cell?_of_block (w := w) (h.block p.block hp)
theorem Same.frozen {D : Nat → Prop} {w w' : World} (h : Same D w w') {p : Addr} (hp : D p.block) : w'.frozen? p = w.frozen? p := World.frozen?_of_block (w := w) (h.block p.block hp)

/-- The body's blocks D have become D': new ones at most; what lay and is none of D is as it was. -/
structure Turn (D D' : Nat → Prop) (W W' : World) : Prop where
  sub : ∀ k, D' k → D k ∨ W.heap.size ≤ k
  lt : ∀ k, D' k → k < W'.heap.size
  same : Same (fun k => k < W.heap.size ∧ ¬ D k) W W'

theorem Turn.refl {D : Nat → Prop} {W : World} (h : ∀ k, D k → k < W.heap.size) : Turn D D W W := ⟨fun _ hk => .inl hk, h, Same.refl _ _⟩
theorem Turn.trans {D D' D'' : Nat → Prop} {a b c : World} (h : Turn D D' a b) (k : Turn D' D'' b c) : Turn D D'' a c :=
  ⟨fun i hi => by
    rcases k.sub i hi with h1 | h1
    · exact h.sub i h1
    · exact .inr (Nat.le_trans h.same.size h1),
   k.lt, h.same.trans k.same (fun _ hi => hi) (fun i hi => ⟨Nat.lt_of_lt_of_le hi.1 h.same.size, fun hd => by
    rcases h.sub i hd with h1 | h1
    · exact hi.2 h1
    · exact absurd hi.1 (Nat.not_lt.2 h1)⟩)⟩

/-- A store into one of the body's blocks. -/
theorem Turn.set {D : Nat → Prop} {W : World} (h : ∀ k, D k → k < W.heap.size) {p : Addr} (hp : D p.block) (u : Value) : Turn D D W (W.setCell p u) :=
  ⟨fun _ hk => .inl hk, fun k hk => by simpa [World.setCell] using h k hk, ⟨rfl, rfl, rfl, by simp [World.setCell], fun k hk => Below.heap_setCell _ _ _ _ (fun e => hk.2 (e ▸ hp))⟩⟩

/-- J hangs on D's blocks alone. -/
def Abide {β : Type} (J : β → (Nat → Prop) → World → Prop) : Prop := ∀ s D W W', J s D W → Same D W W' → J s D W'

/-- ONE ROUND of the loop l at the element x. -/
def RoundAt {α : Type} (P : Program) (l : Nat) (J Jx : List α → (Nat → Prop) → World → Prop) (pre : List α) (x : α) (args : Array Value) (D : Nat → Prop) (W : World) : Prop :=
  YieldAt Fence.wide 0 P l args W fun e W' => ∃ D', Turn D D' W W' ∧ ((e = .returned (.bool true) ∧ J (pre ++ [x]) D' W') ∨ (e = .returned (.bool false) ∧ Jx (pre ++ [x]) D' W'))

/-- How an iterator's call ends: all have come, or a round has said 'no more'. -/
def Ended {α : Type} (xs : List α) (Fw : Nat → Prop) (Done : World → Prop) (Stop : Nat → World → Prop) (W : World) (J Jx : List α → (Nat → Prop) → World → Prop) (D : Nat → Prop) (e : Ending) (W' : World) : Prop :=
  (∃ v, e = .returned v) ∧ ∃ D', (∀ k, D' k → D k ∨ W.heap.size ≤ k) ∧ (∀ k, D' k → k < W'.heap.size) ∧
      Same (fun k => k < W.heap.size ∧ ¬ D k ∧ ¬ Fw k) W W' ∧
      ((J xs D' W' ∧ Done W') ∨ (∃ pre x post, xs = pre ++ x :: post ∧ Jx (pre ++ [x]) D' W' ∧ Stop (pre.length + 1) W'))
theorem Ended.mk {α : Type} {xs : List α} {Fw : Nat → Prop} {Done : World → Prop} {Stop : Nat → World → Prop} {W : World} {J Jx : List α → (Nat → Prop) → World → Prop} {D : Nat → Prop} {v : Value} {W' : World} (D' : Nat → Prop)
    (h1 : ∀ k, D' k → D k ∨ W.heap.size ≤ k) (h2 : ∀ k, D' k → k < W'.heap.size) (h3 : Same (fun k => k < W.heap.size ∧ ¬ D k ∧ ¬ Fw k) W W')
    (h4 : (J xs D' W' ∧ Done W') ∨ (∃ pre x post, xs = pre ++ x :: post ∧ Jx (pre ++ [x]) D' W' ∧ Stop (pre.length + 1) W')) : Ended xs Fw Done Stop W J Jx D (.returned v) W' := ⟨⟨v, rfl⟩, D', h1, h2, h3, h4⟩

/-- THE CONTRACT OF AN ITERATOR: function g, captured lb; the elements xs, handed on as Enc says; it reads and writes none of the body's blocks but Fp's (Fw: those that it writes); Pre: what it starts from; Done, Stop: what it leaves. -/
def Iter {α : Type} (P : Program) (g : Nat) (lb : Array Value) (Enc : α → Array Value → (Nat → Prop) → World → Prop) (xs : List α) (Fp Fw : Nat → Prop) (Pre Done : World → Prop) (Stop : Nat → World → Prop) : Prop :=
  ∀ (W : World) (l : Nat) (J Jx : List α → (Nat → Prop) → World → Prop) (D : Nat → Prop), Pre W → Abide J → Abide Jx → (∀ k, D k → k < W.heap.size ∧ ¬ Fp k) →
    (∀ pre x post D1 W1 args, xs = pre ++ x :: post → J pre D1 W1 → (∀ k, D1 k → k < W1.heap.size) → W.heap.size ≤ W1.heap.size → (∀ k, D1 k → D k ∨ W.heap.size ≤ k) → Enc x args D1 W1 → RoundAt P l J Jx pre x args D1 W1) →
    J [] D W →
    Calls P g (#[.func (.yield l) #[] #[]] ++ lb) W fun e W' => Ended xs Fw Done Stop W J Jx D e W'

/-- HOW THE BODY OF A ROUND MAY BE LEFT. -/
def bodyEnd {α : Type} (I : List α → (Nat → Prop) → World → Prop) (Ix : Code → List α → (Nat → Prop) → World → Prop) (xs : List α) (D : Nat → Prop) (W : World) : Exit → Act → World → Prop
  | .normal, _, W' => ∃ D', Turn D D' W W' ∧ I xs D' W'
  | .ret, _, W' => ∃ D', Turn D D' W W' ∧ Ix .ret xs D' W'
  | .exit id, _, W' => ∃ D', Turn D D' W W' ∧ Ix (.exit id) xs D' W'
  | .goto t, _, W' => ∃ D', Turn D D' W W' ∧ Ix (.goto t) xs D' W'
  | .panic _, _, _ => False
  | .outgrown, _, _ => False

variable {P : Program}

/-- THE STATEMENT 'for .. := range g { .. }' outside every round. The body is told: the loop's record l lies at or beyond w's end and is none of its blocks. -/
theorem wp_range {α : Type} {g : Operand} {ps : Array Tmp} {assign body : Code} {Q : Exit → Act → World → Prop} {a : Act} {w : World}
    {gf : Nat} {lb : Array Value} (hg : a.eval g = .func (.func gf) #[] lb) (eg : ∀ args w, (callFunc gf args).run P w = .ok (.enter gf args) w)
    {Enc : α → Array Value → (Nat → Prop) → World → Prop} {xs : List α} {Fp Fw : Nat → Prop} {Pre Done : World → Prop} {Stop : Nat → World → Prop}
    (hseq : Iter P gf lb Enc xs Fp Fw Pre Done Stop) (hPre : ∀ W, Below w.heap.size w W → Pre W) (hFp : ∀ k, Fp k → k < w.heap.size)
    (hps : ∀ x args D W, Enc x args D W → args.size = ps.size) (hEnc : ∀ x args D D' W, Enc x args D W → (∀ k, D' k → D k) → Enc x args D' W)
    (D : Nat → Prop) (hD : ∀ k, D k → k < w.heap.size ∧ ¬ Fp k)
    (I : List α → (Nat → Prop) → World → Prop) (Ix : Code → List α → (Nat → Prop) → World → Prop) (hI : Abide I) (hIx : ∀ c, Abide (Ix c)) (h0 : I [] D w)
    (hround : ∀ (l : Nat) (pre : List α) (x : α) (post : List α) (D1 : Nat → Prop) (W Wb : World) (args : Array Value), xs = pre ++ x :: post → w.heap.size ≤ l → ¬ D1 l → (∃ r, Wb.heap[l]? = some (.loop r)) → I pre D1 W → I pre D1 Wb →
      (∀ k, D1 k → k < W.heap.size) → w.heap.size ≤ W.heap.size → (∀ k, D1 k → D k ∨ w.heap.size ≤ k) → Enc x args (fun k => D1 k ∨ k = l) W → Same (fun k => k ≠ l) W Wb → W.heap.size = Wb.heap.size →
      assign.wpIn (Fence.wide.inRound l) 0 P (Exit.then (fun a' W' => W' = W ∧ body.wpIn (Fence.wide.inRound l) 0 P (bodyEnd I Ix (pre ++ [x]) D1 Wb) a' Wb) (fun _ _ _ => False))
        { tmps := (ps.zip args).foldl (fun t (p, v) => t.setIfInBounds p v) a.tmps, defers := [] } W)
    (hdone : ∀ (K : Nat) (D' : Nat → Prop) (W : World), w.heap.size ≤ K → (∀ k, D' k → D k ∨ w.heap.size ≤ k) → ¬ D' K → (∀ k, D' k → k < W.heap.size) → Same (fun k => k < w.heap.size ∧ ¬ D k ∧ ¬ Fw k) w W → I xs D' W → (∃ Wd, Done Wd ∧ Same (fun k => k < w.heap.size) Wd W) → W.heap[K]? = some (.deferred (some [])) →
      Q .normal { a with defers := { target := .collected K, args := #[] } :: a.defers } W)
    (hstop : ∀ (K : Nat) (c : Code) (pre : List α) (x : α) (post : List α) (D' : Nat → Prop) (W : World), xs = pre ++ x :: post → w.heap.size ≤ K → (∀ k, D' k → D k ∨ w.heap.size ≤ k) → ¬ D' K → (∀ k, D' k → k < W.heap.size) → Same (fun k => k < w.heap.size ∧ ¬ D k ∧ ¬ Fw k) w W → Ix c (pre ++ [x]) D' W → (∃ Wd, Stop (pre.length + 1) Wd ∧ Same (fun k => k < w.heap.size) Wd W) → W.heap[K]? = some (.deferred (some [])) →
      c.wpIn Fence.wide 0 P Q { a with defers := { target := .collected K, args := #[] } :: a.defers } W) :
    (Code.rangeFunc g ps assign body).wpIn Fence.wide 0 P Q a w := by
  refine wpIn_rangeFunc ?_
  intro fn _
  obtain ⟨rec, hrec⟩ : ∃ rec : LoopState → Option Code → Loop, rec = fun st pe => { state := st, pending := pe, fn, tmps := a.tmps, params := ps, assign, body, defers := w.heap.size } := ⟨_, rfl⟩
  obtain ⟨W1, hW1⟩ : ∃ W1, (w.alloc (.deferred (some []))).alloc (.loop (rec .ready none)) = W1 := ⟨_, rfl⟩
  have hL1 : W1.heap[w.heap.size + 1]? = some (.loop (rec .ready none)) := by
    rw [← hW1]; have := World.alloc_heap_new (w.alloc (.deferred (some []))) (.loop (rec .ready none)); rwa [World.size_alloc] at this
  have hK1 : W1.heap[w.heap.size]? = some (.deferred (some [])) := by
    rw [← hW1]; exact (Below.heap_alloc _ _ _ (by simp)).trans (World.alloc_heap_new w _)
  have hb1 : Below w.heap.size w W1 := by
    rw [← hW1]; exact ((Below.refl _ w).alloc (Nat.le_refl _) _).alloc (by simp) _
  have hs1 : W1.heap.size = w.heap.size + 2 := by rw [← hW1]; simp
  have hsame1 : Same D w W1 := (Same.of_below hb1).mono (fun k hk => (hD k hk).1)
  refine ⟨w.heap.size + 1, [{ target := .collected w.heap.size, args := #[] }], W1, { target := .fn (.func gf) lb, args := #[.func (.yield (w.heap.size + 1)) #[] #[]] }, W1, gf,
    #[.func (.yield (w.heap.size + 1)) #[] #[]] ++ lb, W1, ?_, ?_, ?_, ?_, fun h => by simp [Fence.wide] at h, ?_⟩
  · rw [← hW1, hrec]; exact run_enterLoop_outer _ _ _ _ _
  · simp only [resolve, hg]
    simp [go_sem]
  · intro f' _; trivial
  · simp [invoke, go_sem, eg]
  · refine callsIn_wide.2 ?_
    have hJab : ∀ (st : LoopState → Option Code → Prop) (X : List α → (Nat → Prop) → World → Prop), Abide X →
        Abide (fun (pre : List α) (D' : Nat → Prop) W => D' w.heap.size ∧ D' (w.heap.size + 1) ∧ X pre (fun k => D' k ∧ k ≠ w.heap.size ∧ k ≠ w.heap.size + 1) W ∧ (∃ s p, st s p ∧ W.heap[w.heap.size + 1]? = some (.loop (rec s p))) ∧ W.heap[w.heap.size]? = some (.deferred (some []))) := by
      rintro st X hX pre D' A B ⟨h1, h2, h3, ⟨s, p, hs, h4⟩, h5⟩ hAB
      exact ⟨h1, h2, hX _ _ _ _ h3 (hAB.mono (fun k hk => hk.1)), ⟨s, p, hs, (hAB.block _ h2).trans h4⟩, (hAB.block _ h1).trans h5⟩
    have hJab2 : Abide (fun (pre : List α) (D' : Nat → Prop) W => D' w.heap.size ∧ D' (w.heap.size + 1) ∧ ∃ c, Ix c pre (fun k => D' k ∧ k ≠ w.heap.size ∧ k ≠ w.heap.size + 1) W ∧ W.heap[w.heap.size + 1]? = some (.loop (rec .done (some c))) ∧ W.heap[w.heap.size]? = some (.deferred (some []))) := by
      rintro pre D' A B ⟨h1, h2, c, h3, h4, h5⟩ hAB
      exact ⟨h1, h2, c, hIx c _ _ _ _ h3 (hAB.mono (fun k hk => hk.1)), (hAB.block _ h2).trans h4, (hAB.block _ h1).trans h5⟩
    refine (hseq W1 (w.heap.size + 1)
      (fun pre D' W => D' w.heap.size ∧ D' (w.heap.size + 1) ∧ I pre (fun k => D' k ∧ k ≠ w.heap.size ∧ k ≠ w.heap.size + 1) W ∧ (∃ s p, (s = .ready ∧ p = none) ∧ W.heap[w.heap.size + 1]? = some (.loop (rec s p))) ∧ W.heap[w.heap.size]? = some (.deferred (some [])))
      (fun pre D' W => D' w.heap.size ∧ D' (w.heap.size + 1) ∧ ∃ c, Ix c pre (fun k => D' k ∧ k ≠ w.heap.size ∧ k ≠ w.heap.size + 1) W ∧ W.heap[w.heap.size + 1]? = some (.loop (rec .done (some c))) ∧ W.heap[w.heap.size]? = some (.deferred (some [])))
      (fun k => D k ∨ k = w.heap.size ∨ k = w.heap.size + 1)
      (hPre W1 hb1) (hJab (fun s p => s = .ready ∧ p = none) I hI) hJab2 ?_ ?_ ?_).mono ?_
    · rintro k (hk | rfl | rfl)
      · have := hD k hk; exact ⟨by omega, this.2⟩
      · exact ⟨by omega, fun h => by have := hFp _ h; omega⟩
      · exact ⟨by omega, fun h => by have := hFp _ h; omega⟩
    · -- ONE ROUND
      rintro pre x post D1 W args hx ⟨hd0, hd1, hi, ⟨s, p, ⟨rfl, rfl⟩, hl⟩, hk⟩ hlt hsz hsub henc
      have hy := run_yield (P := P) (args := args) hl (by rw [hrec]; exact hps x args D1 W henc)
      rw [hrec] at hy
      have hlt1 : w.heap.size + 1 < W.heap.size := hlt _ hd1
      have hl2 : (W.putObj (w.heap.size + 1) (.loop { rec .ready none with state := .busy })).heap[w.heap.size + 1]? = some (.loop { rec .ready none with state := .busy }) := World.putObj_heap_same hlt1
      have hk2 : (W.putObj (w.heap.size + 1) (.loop { rec .ready none with state := .busy })).heap[w.heap.size]? = some (.deferred (some [])) := (World.putObj_heap_other (by omega)).trans hk
      have hsW : Same (fun k => k ≠ w.heap.size + 1) W (W.putObj (w.heap.size + 1) (.loop { rec .ready none with state := .busy })) := Same.putObj _ _ _
      refine ⟨fn, _, assign, body, hy, roundIn_of_wpIn (F := Fence.wide) (n := 0) trivial ?_⟩
      refine (wpIn_mono (Q := Exit.then (fun a' W' => W' = W ∧ body.wpIn (Fence.wide.inRound (w.heap.size + 1)) 0 P (bodyEnd I Ix (pre ++ [x]) (fun k => D1 k ∧ k ≠ w.heap.size ∧ k ≠ w.heap.size + 1) (W.putObj (w.heap.size + 1) (.loop { rec .ready none with state := .busy }))) a' (W.putObj (w.heap.size + 1) (.loop { rec .ready none with state := .busy }))) (fun _ _ _ => False)) ?_ ?_)
      · have := hround (w.heap.size + 1) pre x post (fun k => D1 k ∧ k ≠ w.heap.size ∧ k ≠ w.heap.size + 1) W (W.putObj (w.heap.size + 1) (.loop { rec .ready none with state := .busy })) args hx (by omega) (fun h => h.2.2 rfl) ⟨_, hl2⟩ hi (hI _ _ _ _ hi (hsW.mono (fun k hk => hk.2.2)))
          (fun k hk => hlt k hk.1) (by omega) (fun k hk => by
            rcases hsub k hk.1 with (h1 | h1 | h1) | h1
            · exact .inl h1
            · exact absurd h1 hk.2.1
            · exact absurd h1 hk.2.2
            · exact .inr (by omega)) (hEnc _ _ _ _ _ henc (fun k hk => by
            rcases hk with hk | rfl
            · exact hk.1
            · exact hd1)) hsW (by simp)
        exact this
      · rintro e a1 Wa hp
        cases e with
        | normal =>
          obtain ⟨rfl, hbody⟩ := hp
          refine ⟨_, run_beginRound hl (by rw [hrec]), ?_⟩
          refine wpIn_mono (hbody) ?_
          have fin : ∀ (jump : Option Code) (D2 : Nat → Prop) (W3 : World), Turn (fun k => D1 k ∧ k ≠ w.heap.size ∧ k ≠ w.heap.size + 1) D2 (Wa.putObj (w.heap.size + 1) (.loop { rec .ready none with state := .busy })) W3 →
              (Instr.endRound (w.heap.size + 1) jump).run P W3 = .ok (.bool jump.isNone) (W3.putObj (w.heap.size + 1) (.loop (rec (if jump.isNone then .ready else .done) jump))) ∧
              (W3.putObj (w.heap.size + 1) (.loop (rec (if jump.isNone then .ready else .done) jump))).heap[w.heap.size + 1]? = some (.loop (rec (if jump.isNone then .ready else .done) jump)) ∧
              (W3.putObj (w.heap.size + 1) (.loop (rec (if jump.isNone then .ready else .done) jump))).heap[w.heap.size]? = some (.deferred (some [])) ∧
              Same D2 W3 (W3.putObj (w.heap.size + 1) (.loop (rec (if jump.isNone then .ready else .done) jump))) ∧
              (∀ k, D2 k → k ≠ w.heap.size ∧ k ≠ w.heap.size + 1) ∧
              Turn D1 (fun k => D2 k ∨ k = w.heap.size ∨ k = w.heap.size + 1) Wa (W3.putObj (w.heap.size + 1) (.loop (rec (if jump.isNone then .ready else .done) jump))) := fun jump D2 W3 ht => by
            have hl3 : W3.heap[w.heap.size + 1]? = some (.loop { rec .ready none with state := .busy }) := (ht.same.block _ ⟨by simpa using hlt1, fun h => h.2.2 rfl⟩).trans hl2
            have hk3 : W3.heap[w.heap.size]? = some (.deferred (some [])) := (ht.same.block _ ⟨by simp; omega, fun h => h.2.1 rfl⟩).trans hk2
            have hne : ∀ k, D2 k → k ≠ w.heap.size ∧ k ≠ w.heap.size + 1 := fun k hk => by
              rcases ht.sub k hk with h1 | h1
              · exact h1.2
              · simp at h1; omega
            have := run_endRound (P := P) jump hl3
            rw [hrec] at this ⊢
            refine ⟨this, World.putObj_heap_same (Array.getElem?_eq_some_iff.1 hl3).1, (World.putObj_heap_other (by omega)).trans hk3, (Same.putObj _ _ _).mono (fun k hk => (hne k hk).2), hne, ?_, ?_, ?_⟩
            · rintro k (hk | rfl | rfl)
              · rcases ht.sub k hk with h1 | h1
                · exact .inl h1.1
                · exact .inr (by simpa using h1)
              · exact .inl hd0
              · exact .inl hd1
            · have hz := ht.same.size
              simp at hz
              rintro k (hk | rfl | rfl)
              · simpa using ht.lt k hk
              · simp; omega
              · simp; omega
            · refine (Same.trans (D := fun k => k ≠ w.heap.size + 1) (D' := fun k => k < Wa.heap.size ∧ ¬ D1 k) (b := Wa.putObj (w.heap.size + 1) (.loop { rec .ready none with state := .busy })) (Same.putObj _ _ _) ?_ (fun k hk e => hk.2 (e ▸ hd1)) (fun k hk => hk))
              refine (Same.trans (D'' := fun k => k < Wa.heap.size ∧ ¬ D1 k) ht.same (Same.putObj _ _ _) (fun k hk => ⟨by simpa using hk.1, fun h => hk.2 h.1⟩) (fun k hk e => hk.2 (e ▸ hd1)))
          have toI : ∀ (D2 : Nat → Prop) (X : List α → (Nat → Prop) → World → Prop) (s : List α) (V : World), (∀ k, D2 k → k ≠ w.heap.size ∧ k ≠ w.heap.size + 1) → X s D2 V → X s (fun k => (D2 k ∨ k = w.heap.size ∨ k = w.heap.size + 1) ∧ k ≠ w.heap.size ∧ k ≠ w.heap.size + 1) V := fun D2 X s V hne h => by
            have : (fun k => (D2 k ∨ k = w.heap.size ∨ k = w.heap.size + 1) ∧ k ≠ w.heap.size ∧ k ≠ w.heap.size + 1) = D2 := by
              funext k
              apply propext
              constructor
              · rintro ⟨h1 | h1 | h1, h2, h3⟩
                · exact h1
                · exact absurd h1 h2
                · exact absurd h1 h3
              · exact fun h1 => ⟨.inl h1, hne k h1⟩
            rw [this]; exact h
          rintro e a3 W3 hp
          cases e with
          | normal =>
            obtain ⟨D2, ht, hi3⟩ := hp
            obtain ⟨hr, hl4, hk4, hs4, hne, ht4⟩ := fin none D2 W3 ht
            exact ⟨_, _, hr, _, ht4, .inl ⟨rfl, .inr (.inl rfl), .inr (.inr rfl), toI D2 I _ _ hne (hI _ _ _ _ hi3 hs4), ⟨_, _, ⟨rfl, rfl⟩, hl4⟩, hk4⟩⟩
          | ret =>
            obtain ⟨D2, ht, hi3⟩ := hp
            obtain ⟨hr, hl4, hk4, hs4, hne, ht4⟩ := fin (some .ret) D2 W3 ht
            exact ⟨_, _, hr, _, ht4, .inr ⟨rfl, .inr (.inl rfl), .inr (.inr rfl), .ret, toI D2 (Ix .ret) _ _ hne (hIx _ _ _ _ _ hi3 hs4), hl4, hk4⟩⟩
          | exit id =>
            obtain ⟨D2, ht, hi3⟩ := hp
            obtain ⟨hr, hl4, hk4, hs4, hne, ht4⟩ := fin (some (.exit id)) D2 W3 ht
            exact ⟨_, _, hr, _, ht4, .inr ⟨rfl, .inr (.inl rfl), .inr (.inr rfl), .exit id, toI D2 (Ix (.exit id)) _ _ hne (hIx _ _ _ _ _ hi3 hs4), hl4, hk4⟩⟩
          | goto t =>
            obtain ⟨D2, ht, hi3⟩ := hp
            obtain ⟨hr, hl4, hk4, hs4, hne, ht4⟩ := fin (some (.goto t)) D2 W3 ht
            exact ⟨_, _, hr, _, ht4, .inr ⟨rfl, .inr (.inl rfl), .inr (.inr rfl), .goto t, toI D2 (Ix (.goto t)) _ _ hne (hIx _ _ _ _ _ hi3 hs4), hl4, hk4⟩⟩
          | panic ch => exact hp.elim
          | outgrown => exact hp.elim
        | ret => exact hp.elim
        | exit id => exact hp.elim
        | goto t => exact hp.elim
        | panic ch => exact hp.elim
        | outgrown => exact hp.elim
    · refine ⟨.inr (.inl rfl), .inr (.inr rfl), ?_, ⟨_, _, ⟨rfl, rfl⟩, hL1⟩, hK1⟩
      have : (fun k => (D k ∨ k = w.heap.size ∨ k = w.heap.size + 1) ∧ k ≠ w.heap.size ∧ k ≠ w.heap.size + 1) = D := by
        funext k
        apply propext
        constructor
        · rintro ⟨h1 | h1 | h1, h2, h3⟩
          · exact h1
          · exact absurd h1 h2
          · exact absurd h1 h3
        · exact fun h1 => ⟨.inl h1, by have := (hD k h1).1; omega, by have := (hD k h1).1; omega⟩
      rw [this]
      exact hI _ _ _ _ h0 hsame1
    · -- BEHIND THE ITERATOR
      rintro e W2 ⟨⟨v, rfl⟩, D', hsub, hlt, hsame, h⟩
      have hsubD : ∀ k, D' k ∧ k ≠ w.heap.size ∧ k ≠ w.heap.size + 1 → D k ∨ w.heap.size ≤ k := fun k hk => by
        rcases hsub k hk.1 with (h1 | h1 | h1) | h1
        · exact .inl h1
        · exact absurd h1 hk.2.1
        · exact absurd h1 hk.2.2
        · exact .inr (by omega)
      have hsame2 : Same (fun k => k < w.heap.size ∧ ¬ D k ∧ ¬ Fw k) w W2 := Same.trans (Same.of_below hb1) hsame (fun k hk => hk.1) (fun k hk => ⟨by omega, by
        rintro (h1 | h1 | h1)
        · exact hk.2.1 h1
        · omega
        · omega, hk.2.2⟩)
      rcases h with ⟨⟨hd0, hd1, hi, ⟨s, p, ⟨rfl, rfl⟩, hl⟩, hk⟩, hdn⟩ | ⟨pre, x, post, hx, ⟨hd0, hd1, c, hi, hl, hk⟩, hst⟩
      · refine ⟨none, _, by have := run_endLoop (P := P) hl (by rw [hrec]; simp); rw [hrec] at this; exact this, ?_⟩
        refine hdone w.heap.size (fun k => D' k ∧ k ≠ w.heap.size ∧ k ≠ w.heap.size + 1) _ (Nat.le_refl _) hsubD (fun h => h.2.1 rfl) (fun k hk => by simpa using hlt k hk.1) ?_ (hI _ _ _ _ hi ((Same.putObj _ _ _).mono (fun k hk => hk.2.2))) ⟨W2, hdn, (Same.putObj _ _ _).mono (fun k hk e => by omega)⟩ ((World.putObj_heap_other (by omega)).trans hk)
        exact Same.trans hsame2 (Same.putObj _ _ _) (fun _ hk => hk) (fun k hk e => by omega)
      · refine ⟨some c, _, by have := run_endLoop (P := P) hl (by rw [hrec]; simp); rw [hrec] at this; exact this, ?_⟩
        refine hstop w.heap.size c pre x post (fun k => D' k ∧ k ≠ w.heap.size ∧ k ≠ w.heap.size + 1) _ hx (Nat.le_refl _) hsubD (fun h => h.2.1 rfl) (fun k hk => by simpa using hlt k hk.1) ?_ (hIx c _ _ _ _ hi ((Same.putObj _ _ _).mono (fun k hk => hk.2.2))) ⟨W2, hst, (Same.putObj _ _ _).mono (fun k hk e => by omega)⟩ ((World.putObj_heap_other (by omega)).trans hk)
        exact Same.trans hsame2 (Same.putObj _ _ _) (fun _ hk => hk) (fun k hk e => by omega)

end Go.Proofs.Ytofkhcgkahkagaa
/- An append of one element, as an equation of the run, and as a step inside a fence. -/
namespace Go.Proofs.Ytofkhcgkahkagaa
open Go.RowKit Go.Shelf Go.Proofs.YtofkhcgkahkagaaW.PrintWords Go.Proofs.YtofkhcgkahkagaaW.PrintLast Go.Proofs.YtofkhcgkahkagaaW.PrintMore
set_option linter.unusedVariables false
set_option linter.unusedSimpArgs false

/-- append(v, x) as an equation of the run: v's row is owned, x's cells are made. -/
theorem append_made {α : Type} (d : Kd α) {P : Program} (base : Nat) (t ty e : TypeId) (z : Value) (bytes : Nat) (ht : P.underlying t = some (.slice e)) (hinfo : (P.info? e).map (fun i => (i.zero, i.size, i.bytes)) = some (some z, d.sz, bytes)) (hz : z.cells.size = d.sz) (hs0 : 0 < d.sz) (hb0 : 0 < bytes)
    (W : World) (v : Value) (xs : List α) (p : α) (cs : List Value) (ok okp : Nat → Prop) (hp : d.M W base okp p cs) (hokp : ∀ k, okp k → ok k ∧ some k ≠ v.ownBlock) (hfresh : ∀ k, W.heap.size ≤ k → ok k)
    (HO : d.R e W base ok v xs) (hbase : base ≤ W.heap.size) (hl : (xs.length + 1) * bytes ≤ 140737488355328) :
    ∃ A1 c1 w1, (Builtin.append_ #[t, t] ty #[v, .slice (some ⟨W.heap.size, 0, none⟩) 1 1]).run P (W.alloc (.cells cs.toArray e)) = .ok (.slice A1 (xs ++ [p]).length c1) w1 ∧ d.R e w1 base ok (.slice A1 (xs ++ [p]).length c1) (xs ++ [p]) ∧ W.grownBy w1 v.ownBlock := by
  obtain ⟨h0, inner, hown, hr⟩ := HO
  obtain ⟨i0, hi, hzz⟩ := Option.map_eq_some_iff.1 hinfo
  simp only [Prod.mk.injEq] at hzz
  obtain ⟨hz0, hz1, hz2⟩ := hzz
  have hlen : xs.length + 1 ≤ 140737488355328 := Nat.le_trans (Nat.le_mul_of_pos_right _ hb0) hl
  have hcl : cs.length = d.sz := d.K_len (d.K_of_M hp)
  obtain ⟨v1, w1, hrun, hown1, hg, _, hat⟩ := run_append_own_at (P := P) (W.alloc (.cells cs.toArray e)) base t ty e i0 z d.sz bytes ht hi hz0 hz1 hz2 hz hs0 v xs.length inner (hown.alloc _) ⟨W.heap.size, 0, none⟩ 1 1 cs (by rw [hcl]; simp)
    (by simpa using World.news_of_block (cs := cs.toArray) (t := e) (fr := (0, 0)) (heap_alloc_new W (.cells cs.toArray e))) (d.K_one (d.K_of_M hp)) (by simp only [maxLen]; omega) hl (by simp; omega)
  have hg1 : W.grownBy w1 v.ownBlock := World.grownBy.trans (World.grownBy_alloc W _ _) hg
  have hat1 : v1.ownBlock = v.ownBlock ∨ ∃ b, v1.ownBlock = some b ∧ W.heap.size ≤ b := by
    rcases hat with hat | hat
    · exact .inl hat
    · exact .inr ⟨_, hat, by simp⟩
  have hR := Kd.R_appended h0 hr hp hokp hfresh hown1 hg1 hat1
  obtain ⟨A, c, rfl⟩ := Kd.R_slice hR
  exact ⟨A, c, w1, hrun, hR, hg1⟩

/-- The same in a region of one order. -/
theorem wpListIn_append_run {F : Fence} {n : Nat} {P : Program} {ops : Array Oper} {rest : List Oper} {o : Oper} {a : Act} {w : World} {Q : Exit → Act → World → Prop} {v1 : Value} {w1 : World}
    (hg : o.guard = none) (s x : Operand) (t : TypeId) (hop : o.op = Op.call { callee := Callee.builtin Builtin.append, args := #[s, x], argTypes := #[t, t] })
    (hr : (Builtin.append_ #[t, t] o.type #[a.eval s, a.eval x]).run P w = .ok v1 w1) (hK : wpListIn F n P ops Q rest (a.put o.dst v1) w1) : wpListIn F n P ops Q (o :: rest) a w := by
  refine wpListIn_plain hg fun K hK' => ?_
  unfold Oper.wpIn
  refine ⟨by simp [Oper.about, hop, resolve, Target.leads, Sem.run_pure], ?_⟩
  rw [Oper.semAt_plain F _ _ (by rw [hop]; intro c hc'; cases hc')]
  simp [execOp, hop, resolve, invoke, builtin, hr, Result.andThen]
  exact hK' _ _ hK
end Go.Proofs.Ytofkhcgkahkagaa
/- The reference's free sums what is free at a time. -/
namespace Go.Proofs.Ytofkhcgkahkagaa
open Go.RowKit Go.Proofs.YtofkhcgkahkagaaW.PrintWords Go.Proofs.YtofkhcgkahkagaaW.PrintLast Go.Proofs.YtofkhcgkahkagaaW.PrintMore Go.Proofs.Ytofkhcgkahkagaa.PPromiseLines
set_option linter.unusedVariables false
set_option linter.unusedSimpArgs false

/-- What stocks, what comes, holds and what is taken add to what is free at a time. -/
def frS (sku : ByteArray) (l : List S100) : List Int := (l.filter (fun s => s.f0.toList == sku.toList)).map (fun s => s.f2)
def frC (sku : ByteArray) (t : Int) (l : List S44) : List Int := (l.filter (fun r => (r.f0.toList == sku.toList) && decide (r.f2 ≤ t))).map (fun r => r.f1)
def frH (sku : ByteArray) (t : Int) (l : List S107) : List Int := (l.filter (fun h => (h.f1.toList == sku.toList) && decide (h.f4 = 0) && (decide (h.f5 = 0) || decide (t ≤ h.f5)))).map (fun h => wrap64 (-h.f3))
def frT (sku : ByteArray) (t : Int) (l : List S44) : List Int := (l.filter (fun r => (r.f0.toList == sku.toList) && decide (r.f2 ≤ t))).map (fun r => wrap64 (-r.f1))
def frL (l0 : List S100) (l1 : List S107) (l3 l4 : List S44) (sku : ByteArray) (t : Int) : List Int := frS sku l0 ++ frC sku t l3 ++ frH sku t l1 ++ frT sku t l4
/-- Between two rounds: the boxes, and the list so far. -/
structure FrI (w : World) (A0 : Option Addr) (n0 c0 : Nat) (A1 : Option Addr) (n1 c1 : Nat) (A2 : Option Addr) (n2 c2 : Nat) (ops : Int) (sku : ByteArray) (q t : Int) (xs : List Int) (v : Value) (V : World) : Prop where
  box : CkL w A0 n0 c0 A1 n1 c1 A2 n2 c2 ops V
  at_ : V.heap[w.heap.size + 1]? = some (.cells #[.string sku, .int .i64 q, .int .i64 t] 44 (0, 0))
  acc : Kd.R (Kd.int .i64) 3 V (w.heap.size + 2) (fun k => w.heap.size + 2 ≤ k) v xs

section
variable {w : World} {A0 : Option Addr} {n0 c0 : Nat} {A1 : Option Addr} {n1 c1 : Nat} {A2 : Option Addr} {n2 c2 : Nat} {ops : Int} {sku : ByteArray} {q t : Int} {xs : List Int} {v : Value} {V V' : World}
theorem FrI.below (h : FrI w A0 n0 c0 A1 n1 c1 A2 n2 c2 ops sku q t xs v V) (hb : Below V.heap.size V V') : FrI w A0 n0 c0 A1 n1 c1 A2 n2 c2 ops sku q t xs v V' :=
  ⟨h.box.below hb, (hb.block _ (Array.getElem?_eq_some_iff.1 h.at_).1).trans h.at_, Kd.R_below h.acc hb⟩
theorem FrI.push (h : FrI w A0 n0 c0 A1 n1 c1 A2 n2 c2 ops sku q t xs v V) (x : Int) (hl : xs.length ≤ 100000) :
    ∃ v1 w1, (Builtin.append_ #[105, 105] 105 #[v, .slice (some ⟨V.heap.size, 0, none⟩) 1 1]).run Try.prog (V.alloc (.cells #[.int .i64 x] 3)) = .ok v1 w1 ∧ FrI w A0 n0 c0 A1 n1 c1 A2 n2 c2 ops sku q t (xs ++ [x]) v1 w1 := by
  have hlt := (Array.getElem?_eq_some_iff.1 h.at_).1
  obtain ⟨A, c, w1, hrun, hR, hg⟩ := append_made (Kd.int .i64) (P := Try.prog) (w.heap.size + 2) 105 105 3 _ 8 Try.underlying105 info3 rfl (by decide) (by decide) V v xs x [.int .i64 x] (fun k => w.heap.size + 2 ≤ k) (fun _ => False) rfl (fun k hk => hk.elim) (fun k hk => by omega) h.acc (by omega) (by omega)
  exact ⟨_, w1, hrun, h.box.grownO hg (fun j hj => by have := h.acc.1 j hj; omega), (hg.block _ hlt (fun e => by have := h.acc.1 _ e.symm; omega)).trans h.at_, hR⟩
end

end Go.Proofs.Ytofkhcgkahkagaa
/- The reference's times: a list, each number once, rising. -/
namespace Go.Proofs.Ytofkhcgkahkagaa
open Go.RowKit Go.Proofs.YtofkhcgkahkagaaW.PrintWords Go.Proofs.YtofkhcgkahkagaaW.PrintLast Go.Proofs.YtofkhcgkahkagaaW.PrintMore Go.Proofs.Ytofkhcgkahkagaa.PPromiseLines
set_option linter.unusedVariables false
set_option linter.unusedSimpArgs false

/-- A number goes where it belongs, once. -/
def insU : List Int → Int → List Int
  | [], x => [x]
  | y :: r, x => if y < x then y :: insU r x else if y = x then y :: r else x :: y :: r
/-- All times at which something may change. -/
def hoT (l1 : List S107) : List Int := (l1.filter (fun h => decide (0 < h.f5) && decide (h.f5 < 9223372036854775807))).map (fun h => wrap64 (h.f5 + 1))
def allT (l1 : List S107) (l3 l4 : List S44) : List Int := [0] ++ l3.map (fun r => r.f2) ++ l4.map (fun r => r.f2) ++ hoT l1
theorem rd_R {l : List S44} {i : Nat} (h : i < l.length) : rd_T44 l (i : Int) = l[i] := by unfold rd_T44; rw [Int.toNat_natCast, List.getD_eq_getElem?_getD, List.getElem?_eq_getElem h]; rfl

section
variable (l0 : List S100) (l1 : List S107) (l2 : List S111) (ops : Int)
/-- The reference's times. -/
def timesR (l1 : List S107) (l3 l4 : List S44) : List Int := (allT l1 l3 l4).foldl insU []
end
end Go.Proofs.Ytofkhcgkahkagaa
/- The reference's line lists from when on how many are free. -/
namespace Go.Proofs.Ytofkhcgkahkagaa
open Go.RowKit Go.Proofs.YtofkhcgkahkagaaW.PrintWords Go.Proofs.YtofkhcgkahkagaaW.PrintLast Go.Proofs.YtofkhcgkahkagaaW.PrintMore Go.Proofs.Ytofkhcgkahkagaa.PPromiseLines
set_option linter.unusedVariables false
set_option linter.unusedSimpArgs false

/-- A line over times, by what is free at each. -/
def pushG (f : Int → Int × Int) (acc : List S58) (t : Int) : List S58 := if acc.getLast?.map (fun s => s.f1) = some (f t).1 then acc else acc ++ [⟨t, (f t).1⟩]
def lineG (f : Int → Int × Int) : List Int → List S58 → List S58 × Int
  | [], acc => (acc, 0)
  | t :: ts, acc => if (f t).2 = 0 then lineG f ts (pushG f acc t) else ([], (f t).2)
theorem pushG_len (f : Int → Int × Int) (acc : List S58) (t : Int) : (pushG f acc t).length ≤ acc.length + 1 := by
  unfold pushG
  split
  · omega
  · simp
theorem foldG_len (f : Int → Int × Int) : ∀ (pre : List Int) (acc : List S58), (pre.foldl (pushG f) acc).length ≤ acc.length + pre.length
  | [], acc => by simp
  | t :: pre, acc => by
    have h1 := foldG_len f pre (pushG f acc t)
    have h2 := pushG_len f acc t
    rw [List.foldl_cons, List.length_cons]
    omega
theorem foldG_take (f : Int → Int × Int) {T : List Int} {k : Nat} (h : k < T.length) : (T.take (k + 1)).foldl (pushG f) [] = pushG f ((T.take k).foldl (pushG f) []) T[k] := by
  rw [take_snoc h, List.foldl_append]
  rfl
/-- Between two times; W1: behind the list of times. -/
structure LnI (W1 : World) (f : Int → Int × Int) (T : List Int) (k : Nat) (v : Value) (V : World) : Prop where
  all : ∀ j (h : j < T.length), j < k → (f T[j]).2 = 0
  low : Below W1.heap.size W1 V
  out : Kd.R k58 58 V W1.heap.size (fun k => W1.heap.size ≤ k) v ((T.take k).foldl (pushG f) [])
theorem LnI.stay {W1 : World} {f : Int → Int × Int} {T : List Int} {k : Nat} {v : Value} {V V' : World} (h : LnI W1 f T k v V) (hb : Below V.heap.size V V') (hlt : k < T.length) (h0 : (f T[k]).2 = 0) (hp : pushG f ((T.take k).foldl (pushG f) []) T[k] = (T.take k).foldl (pushG f) []) : LnI W1 f T (k + 1) v V' := by
  refine ⟨fun j hj hjk => ?_, h.low.trans (hb.mono h.low.size), ?_⟩
  · rcases Nat.lt_or_ge j k with h1 | h1
    · exact h.all j hj h1
    · obtain rfl : j = k := by omega
      exact h0
  · rw [foldG_take f hlt, hp]
    exact Kd.R_below h.out hb
theorem LnI.push {W1 : World} {f : Int → Int × Int} {T : List Int} {k : Nat} {v : Value} {V V' : World} (h : LnI W1 f T k v V) (hb : Below V.heap.size V V') (hlt : k < T.length) (hT : T.length ≤ 1000) (h0 : (f T[k]).2 = 0) (hp : pushG f ((T.take k).foldl (pushG f) []) T[k] = (T.take k).foldl (pushG f) [] ++ [⟨T[k], (f T[k]).1⟩]) :
    ∃ v1 w1, (Builtin.append_ #[50, 50] 50 #[v, .slice (some ⟨V'.heap.size, 0, none⟩) 1 1]).run Try.prog (V'.alloc (.cells #[.int .i64 T[k], .int .i64 (f T[k]).1] 58)) = .ok v1 w1 ∧ LnI W1 f T (k + 1) v1 w1 := by
  have hl := foldG_len f (T.take k) []
  rw [List.length_nil] at hl
  have hl2 := List.length_take_le' k T
  have hz := hb.size
  have hz1 := h.low.size
  obtain ⟨A1, c1, w1, hrun, hR1, hg1⟩ := append_made k58 (P := Try.prog) W1.heap.size 50 50 58 _ 16 Try.underlying50 info58 rfl (by decide) (by decide) V' v _ ⟨T[k], (f T[k]).1⟩ [.int .i64 T[k], .int .i64 (f T[k]).1] (fun k => W1.heap.size ≤ k) (fun _ => False)
    (k58_mkM _ _ _ ⟨T[k], (f T[k]).1⟩) (fun k hk => hk.elim) (fun k hk => by omega) (Kd.R_below h.out hb) (by omega) (by omega)
  refine ⟨_, w1, hrun, ⟨fun j hj hjk => ?_, (h.low.trans (hb.mono h.low.size)).grown hg1 (by omega) (fun j hj => (Kd.R_below h.out hb).1 j hj), ?_⟩⟩
  · rcases Nat.lt_or_ge j k with h1 | h1
    · exact h.all j hj h1
    · obtain rfl : j = k := by omega
      exact h0
  · rw [foldG_take f hlt, hp]
    exact hR1

end Go.Proofs.Ytofkhcgkahkagaa
