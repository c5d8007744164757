/- scan.Limit has its contract, over every source that has one. -/
import Derived.Test.YtofkhcgkahkagaaScanD
import Derived.RegionTactic
import Derived.BigRegion
import Derived.Deep.DeepCutAuto
import Derived.Deep.CutBlock
namespace Go.Proofs.Ytofkhcgkahkagaa
open Go.RowKit Go.Shelf Go.Proofs.YtofkhcgkahkagaaW.PrintWords Go.Proofs.YtofkhcgkahkagaaW.PrintLast Go.Proofs.YtofkhcgkahkagaaW.PrintMore Go.Proofs.Ytofkhcgkahkagaa.PScanMeters
attribute [local go_sem] Oper.semAt_some
set_option linter.unusedVariables false
set_option linter.unusedSimpArgs false

theorem limit_calls (gf : Nat) (lb : Array Value) (limit offset : Int) (w : World) : Calls Try.prog 30 #[.func (.func gf) #[] lb, .int .i64 limit, .int .i64 offset] w fun e w' =>
    e = .returned (.func (.func 51) #[] #[.pointer (some ⟨w.heap.size + 1, 0, none⟩), .pointer (some ⟨w.heap.size, 0, none⟩), .pointer (some ⟨w.heap.size + 2, 0, none⟩)]) ∧
    w' = ((w.alloc (.cells #[.func (.func gf) #[] lb] 31)).alloc (.cells #[.int .i64 limit] 3)).alloc (.cells #[.int .i64 offset] 3) := by
  go_enter Try.func30, Try.ntmps30
  go_wp2
  go_ret
  exact ⟨rfl, rfl⟩

/-- What scan.Limit makes of rows. -/
def limitRun : Int → Int → List (List S66 × Int) → List (List S66 × Int)
  | _, _, [] => []
  | skip, left, (r, e) :: xs => if e ≠ 0 then [([], e)] else if 0 < skip then limitRun (skip - 1) left xs else
      if 0 < left then (if left = 1 then [(r, 0)] else (r, 0) :: limitRun skip (left - 1) xs) else (r, 0) :: limitRun skip left xs
def limitOut (limit offset : Int) (xs : List (List S66 × Int)) : List (List S66 × Int) := if limit = 0 then [] else limitRun offset limit xs

/-- What Limit's closure starts from. -/
structure LimitPre (b1 b2 b3 gf : Nat) (lb : Array Value) (limit offset : Int) (FpS : Nat → Prop) (PreS : World → Prop) (W : World) : Prop where
  box1 : W.heap[b1]? = some (.cells #[.int .i64 limit] 3 (0, 0))
  box2 : W.heap[b2]? = some (.cells #[.func (.func gf) #[] lb] 31 (0, 0))
  box3 : W.heap[b3]? = some (.cells #[.int .i64 offset] 3 (0, 0))
  src : ∀ W', Below W.heap.size W W' → PreS W'
  fp : ∀ k, FpS k → k < W.heap.size

theorem frame_end {W W2 V : World} {D Own FwS : Nat → Prop} {a5 a6 K : Nat} {o : Obj} (hB : Below W.heap.size W W2) (hsame : Same (fun k => k < W2.heap.size ∧ ¬ (D k ∨ Own k) ∧ ¬ FwS k) W2 V) (hVS : Same (fun k => Own k ∧ k ≠ a5 ∧ k ≠ a6) W2 V) (hK : W2.heap.size ≤ K)
    (h56 : W.heap.size ≤ a5 ∧ W.heap.size ≤ a6) : Same (fun k => k < W.heap.size ∧ ¬ D k ∧ ¬ FwS k) W (V.putObj K o) := by
  have hz := hB.size
  refine ⟨hsame.os.trans hB.os, hsame.tape.trans hB.tape, hsame.output.trans hB.output, by simpa using Nat.le_trans hB.size hsame.size, fun k hk => ?_⟩
  refine Eq.trans (World.putObj_heap_other (by omega)) (Eq.trans ?_ (hB.block k hk.1))
  by_cases ho : Own k
  · exact hVS.block k ⟨ho, by omega, by omega⟩
  · exact hsame.block k ⟨by omega, fun h => h.elim hk.2.1 ho, hk.2.2⟩

def LimI (Hold : (Nat → Prop) → (Nat → Prop) → World → Prop) (J : List (List S66 × Int) → (Nat → Prop) → World → Prop) (a5 a6 : Nat) (xs : List (List S66 × Int)) (limit offset : Int) (pre : List (List S66 × Int)) (Din : Nat → Prop) (V : World) : Prop :=
  ∃ D' outs skip left, Hold Din D' V ∧ skip ≤ 9223372036854775807 ∧ left ≤ 9223372036854775807 ∧ (∀ rest, xs = pre ++ rest → limitRun offset limit xs = outs ++ limitRun skip left rest) ∧ J outs D' V ∧ V.heap[a5]? = some (.cells #[.int .i64 skip] 3 (0, 0)) ∧ V.heap[a6]? = some (.cells #[.int .i64 left] 3 (0, 0))
theorem LimI.mk {Hold : (Nat → Prop) → (Nat → Prop) → World → Prop} {J : List (List S66 × Int) → (Nat → Prop) → World → Prop} {a5 a6 : Nat} {xs : List (List S66 × Int)} {limit offset : Int} {pre : List (List S66 × Int)} {Din : Nat → Prop} {V : World}
    (D' : Nat → Prop) (outs : List (List S66 × Int)) (skip left : Int) (h1 : Hold Din D' V) (h2 : skip ≤ 9223372036854775807) (h3 : left ≤ 9223372036854775807) (h4 : ∀ rest, xs = pre ++ rest → limitRun offset limit xs = outs ++ limitRun skip left rest) (h5 : J outs D' V) (h6 : V.heap[a5]? = some (.cells #[.int .i64 skip] 3 (0, 0))) (h7 : V.heap[a6]? = some (.cells #[.int .i64 left] 3 (0, 0))) :
    LimI Hold J a5 a6 xs limit offset pre Din V := ⟨D', outs, skip, left, h1, h2, h3, h4, h5, h6, h7⟩
def LimX (Hold : (Nat → Prop) → (Nat → Prop) → World → Prop) (J Jx : List (List S66 × Int) → (Nat → Prop) → World → Prop) (xs : List (List S66 × Int)) (limit offset : Int) (c : Code) (_pre : List (List S66 × Int)) (Din : Nat → Prop) (V : World) : Prop :=
  c = .ret ∧ ∃ D', Hold Din D' V ∧ (J (limitRun offset limit xs) D' V ∨ ∃ pre2 y post2, limitRun offset limit xs = pre2 ++ y :: post2 ∧ Jx (pre2 ++ [y]) D' V)
theorem LimX.mk {Hold : (Nat → Prop) → (Nat → Prop) → World → Prop} {J Jx : List (List S66 × Int) → (Nat → Prop) → World → Prop} {xs : List (List S66 × Int)} {limit offset : Int} {pre : List (List S66 × Int)} {Din : Nat → Prop} {V : World}
    (D' : Nat → Prop) (h1 : Hold Din D' V) (h2 : J (limitRun offset limit xs) D' V ∨ ∃ pre2 y post2, limitRun offset limit xs = pre2 ++ y :: post2 ∧ Jx (pre2 ++ [y]) D' V) : LimX Hold J Jx xs limit offset .ret pre Din V := ⟨rfl, D', h1, h2⟩

def TwoBoxes (W1 : World) (x y : Int) (v5 v6 : Value) (W : World) : Prop := ∃ a5 a6, v5 = .pointer (some ⟨a5, 0, none⟩) ∧ v6 = .pointer (some ⟨a6, 0, none⟩) ∧ a5 ≠ a6 ∧ W1.heap.size ≤ a5 ∧ W1.heap.size ≤ a6 ∧
  W.heap[a5]? = some (.cells #[.int .i64 x] 3 (0, 0)) ∧ W.heap[a6]? = some (.cells #[.int .i64 y] 3 (0, 0)) ∧ Below W1.heap.size W1 W

theorem twoBoxes_a (W1 : World) (x y : Int) : TwoBoxes W1 x y (.pointer (some ⟨W1.heap.size, 0, none⟩)) (.pointer (some ⟨W1.heap.size + 1, 0, none⟩)) ((W1.alloc (.cells #[.int .i64 x] 3)).alloc (.cells #[.int .i64 y] 3)).drew := by
  refine ⟨_, _, rfl, rfl, by omega, Nat.le_refl _, by omega, (Below.heap_alloc _ _ _ (by simp)).trans (World.alloc_heap_new W1 _), ?_, (((Below.refl _ W1).alloc (Nat.le_refl _) _).alloc (by simp) _).drew⟩
  have := World.alloc_heap_new (W1.alloc (.cells #[.int .i64 x] 3)) (.cells #[.int .i64 y] 3)
  rwa [World.size_alloc] at this
theorem twoBoxes_b (W1 : World) (x y : Int) : TwoBoxes W1 x y (.pointer (some ⟨W1.heap.size + 1, 0, none⟩)) (.pointer (some ⟨W1.heap.size, 0, none⟩)) ((W1.alloc (.cells #[.int .i64 y] 3)).alloc (.cells #[.int .i64 x] 3)).drew := by
  refine ⟨_, _, rfl, rfl, by omega, by omega, Nat.le_refl _, ?_, (Below.heap_alloc _ _ _ (by simp)).trans (World.alloc_heap_new W1 _), (((Below.refl _ W1).alloc (Nat.le_refl _) _).alloc (by simp) _).drew⟩
  have := World.alloc_heap_new (W1.alloc (.cells #[.int .i64 y] 3)) (.cells #[.int .i64 x] 3)
  rwa [World.size_alloc] at this

set_option maxRecDepth 100000 in
set_option maxHeartbeats 4000000 in
theorem limit_iter (b1 b2 b3 gf : Nat) (lb : Array Value) (limit offset : Int) (hlb : -9223372036854775808 ≤ limit ∧ limit ≤ 9223372036854775807) (hob : -9223372036854775808 ≤ offset ∧ offset ≤ 9223372036854775807) (xs : List (List S66 × Int)) (X FpS FwS : Nat → Prop) (PreS DoneS : World → Prop) (StopS : Nat → World → Prop)
    (eg : ∀ args w, (callFunc gf args).run Try.prog w = .ok (.enter gf args) w)
    (hsrc : Iter Try.prog gf lb (RowEnc X) xs FpS FwS PreS DoneS StopS) (hws : ∀ k, FwS k → FpS k)
    (h1s : ¬ FpS b1) (h2s : ¬ FpS b2) (h3s : ¬ FpS b3) :
    Iter Try.prog 51 #[.pointer (some ⟨b1, 0, none⟩), .pointer (some ⟨b2, 0, none⟩), .pointer (some ⟨b3, 0, none⟩)] (RowEnc X) (limitOut limit offset xs) (fun k => k = b1 ∨ k = b2 ∨ k = b3 ∨ FpS k) FwS
      (LimitPre b1 b2 b3 gf lb limit offset FpS PreS) (fun _ => True) (fun _ _ => True) := by
  intro W l J Jx D hP hJ hJx hD hR h0
  obtain ⟨hb1, hb2, hb3, hsrcPre, hfp⟩ := hP
  have hl1 : b1 < W.heap.size := (Array.getElem?_eq_some_iff.1 hb1).1
  have hl2 : b2 < W.heap.size := (Array.getElem?_eq_some_iff.1 hb2).1
  have hl3 : b3 < W.heap.size := (Array.getElem?_eq_some_iff.1 hb3).1
  refine callsIn_wide (n := 0).1 ?_
  refine callsIn_of_wp_marks Try.func51 rfl trivial ?_ rfl
  simp only [Try.ntmps51, List.size_toArray, List.length_cons, List.length_nil, Nat.reduceAdd, Nat.reduceSub, Array.replicate_succ, Array.replicate_zero, List.push_toArray, List.append_toArray, List.nil_append, List.cons_append]
  obtain ⟨W1, hW1⟩ : ∃ W1, W.alloc (.cells #[.func (.yield l) #[] #[]] 76) = W1 := ⟨_, rfl⟩
  have hB1 : Below W.heap.size W W1 := by rw [← hW1]; exact (Below.refl _ W).alloc (Nat.le_refl _) _
  have hs1 : W1.heap.size = W.heap.size + 1 := by rw [← hW1]; simp
  have hbY : W1.heap[W.heap.size]? = some (.cells #[.func (.yield l) #[] #[]] 76 (0, 0)) := by rw [← hW1]; exact World.alloc_heap_new W _
  have hc1 : W1.cell? ⟨b1, 0, none⟩ = some (.int .i64 limit) := by have := (hB1.block _ hl1).trans hb1; simp [World.cell?, this]
  have hc2 : W1.cell? ⟨b2, 0, none⟩ = some (.func (.func gf) #[] lb) := by have := (hB1.block _ hl2).trans hb2; simp [World.cell?, this]
  have hc3 : W1.cell? ⟨b3, 0, none⟩ = some (.int .i64 offset) := by have := (hB1.block _ hl3).trans hb3; simp [World.cell?, this]
  have hnil := fun (w : World) (fn : Fn) (ts lb : Array Value) => run_eql_func_nil (P := Try.prog) w 31 fn ts lb Try.underlying31
  refine wpIn_wide.2 ?_
  by_cases hz : limit = 0
  · subst hz
    have hz1 : ((0 : Int) == 0) = true := rfl
    have hfin : Ended (limitOut 0 offset xs) FwS (fun _ => True) (fun _ _ => True) W J Jx D (.returned (.tuple #[])) W1 :=
      Ended.mk D (fun k hk => .inl hk) (fun k hk => by have := (hD k hk).1; omega) ((Same.of_below hB1).mono (fun k hk => hk.1)) (.inl ⟨by unfold limitOut; rw [if_pos rfl]; exact hJ _ _ _ _ h0 ((Same.of_below hB1).mono (fun k hk => (hD k hk).1)), trivial⟩)
    have Hs1 := Lib.hid hs1
    clear hs1
    go_wp2
    exact ⟨_, results_none rfl _ _ _, hfin⟩
  · have hz1 : ((limit : Int) == 0) = false := by simpa using hz
    have hzo : limitOut limit offset xs = limitRun offset limit xs := if_neg hz
    rw [hzo] at hR ⊢
    clear hzo
    have Hs1 := Lib.hid hs1
    clear hs1 hz
    go_upto_region 2 with (fail)
    go_cut [5, 6] from 15 to 16 (fun v5 v6 wc => TwoBoxes W1 offset limit v5 v6 wc)
    case first =>
      have hc1a := fun o => Lib.cell?_alloc_some (W := W1) o hc1
      have hc1b := fun o o' => Lib.cell?_alloc_some (W := W1.alloc o) o' (hc1a o)
      have hc3a := fun o => Lib.cell?_alloc_some (W := W1) o hc3
      have hc3b := fun o o' => Lib.cell?_alloc_some (W := W1.alloc o) o' (hc3a o)
      go_wp2
      go_region
      all_goals go_wp2
      all_goals go_meet
      all_goals (case rel => first | exact twoBoxes_a _ _ _ | exact twoBoxes_b _ _ _)
    case rest =>
    obtain ⟨a5, a6, rfl, rfl, h56, hg5, hg6, hA5, hA6, hB2⟩ := hcut
    have hs1 := Hs1.out
    have hl2c : b2 < wc.heap.size := by have := hB1.size; have := hB2.size; omega
    have hc2b : wc.cell? ⟨b2, 0, none⟩ = some (.func (.func gf) #[] lb) := by have := (hB2.block _ (by have := hB1.size; omega)).trans ((hB1.block _ hl2).trans hb2); simp [World.cell?, this]
    have Hs1 := Lib.hid hs1
    clear hs1 hc1 hc2 hc3
    go_wp2
    refine (wpIn_wide (n := 0)).1 ?_
    have hs1 := Hs1.out
    clear hc2b
    obtain ⟨W2, hW2⟩ : ∃ W2, wc = W2 := ⟨_, rfl⟩
    subst hW2
    have hz2 := hB2.size
    have hbY2 : wc.heap[W.heap.size]? = some (.cells #[.func (.yield l) #[] #[]] 76 (0, 0)) := (hB2.block _ (by omega)).trans hbY
    obtain ⟨Own, hOwn⟩ : ∃ Own : Nat → Prop, Own = fun k => k = W.heap.size ∨ k = b1 ∨ k = b2 ∨ k = b3 ∨ k = a5 ∨ k = a6 := ⟨_, rfl⟩
    have hO : Own W.heap.size ∧ Own a5 ∧ Own a6 := by rw [hOwn]; exact ⟨.inl rfl, .inr (.inr (.inr (.inr (.inl rfl)))), .inr (.inr (.inr (.inr (.inr rfl))))⟩
    obtain ⟨hOY, hO5, hO6⟩ := hO
    have hl5 : a5 < wc.heap.size := (Array.getElem?_eq_some_iff.1 hA5).1
    have hl6 : a6 < wc.heap.size := (Array.getElem?_eq_some_iff.1 hA6).1
    have hOlt : ∀ k, Own k → k < wc.heap.size := by
      rw [hOwn]
      rintro k (rfl | rfl | rfl | rfl | rfl | rfl) <;> omega
    have hOs : ∀ k, Own k → ¬ FpS k := by
      rw [hOwn]
      rintro k (rfl | rfl | rfl | rfl | rfl | rfl)
      · exact fun h => by have := hfp _ h; omega
      · exact h1s
      · exact h2s
      · exact h3s
      · exact fun h => by have := hfp _ h; omega
      · exact fun h => by have := hfp _ h; omega
    have hOD : ∀ k, D k → ¬ Own k := by
      rw [hOwn]
      rintro k hd (rfl | rfl | rfl | rfl | rfl | rfl)
      · have := (hD _ hd).1; omega
      · exact (hD _ hd).2 (.inl rfl)
      · exact (hD _ hd).2 (.inr (.inl rfl))
      · exact (hD _ hd).2 (.inr (.inr (.inl rfl)))
      · have := (hD _ hd).1; omega
      · have := (hD _ hd).1; omega
    clear hOwn
    have hBW : Below W.heap.size W wc := hB1.trans (hB2.mono hB1.size)
    obtain ⟨Hold, hHold⟩ : ∃ Hold : (Nat → Prop) → (Nat → Prop) → World → Prop, Hold = fun Din D' V => (∀ k, Din k ↔ D' k ∨ Own k) ∧ (∀ k, D' k → ¬ Own k) ∧ (∀ k, D' k → D k ∨ wc.heap.size ≤ k) ∧
        Same (fun k => Own k ∧ k ≠ a5 ∧ k ≠ a6) wc V := ⟨_, rfl⟩
    have hYne : W.heap.size ≠ a5 ∧ W.heap.size ≠ a6 := ⟨by omega, by omega⟩
    have hHab : ∀ Din D' A B, Hold Din D' A → Same Din A B → Hold Din D' B := by
      rw [hHold]
      rintro Din D' A B ⟨h1, h2, h3, h4⟩ hs
      exact ⟨h1, h2, h3, h4.trans hs (fun _ hk => hk) (fun k hk => (h1 k).2 (.inr hk.1))⟩
    have hHsub : ∀ Din D' A, Hold Din D' A → ∀ k, D' k → Din k := by
      rw [hHold]
      rintro Din D' A ⟨h1, _⟩ k hk
      exact (h1 k).2 (.inl hk)
    have hHown : ∀ Din D' A, Hold Din D' A → ∀ k, Own k → Din k := by
      rw [hHold]
      rintro Din D' A ⟨h1, _⟩ k hk
      exact (h1 k).2 (.inr hk)
    refine wp_range (gf := gf) (lb := lb) rfl eg hsrc (fun V hV => hsrcPre V (hBW.trans (hV.mono hBW.size))) (fun k hk => by have := hfp k hk; omega) RowEnc.size RowEnc.anti
      (fun k => D k ∨ Own k) ?hD
      (LimI Hold J a5 a6 xs limit offset) (LimX Hold J Jx xs limit offset)
      ?hI ?hIx ?h0 ?round ?done ?stop
    case hD =>
      rintro k (hk | hk)
      · exact ⟨by have := (hD k hk).1; omega, fun h => (hD k hk).2 (.inr (.inr (.inr h)))⟩
      · exact ⟨hOlt k hk, hOs k hk⟩
    case hI =>
      rintro pre Din A B ⟨D', outs, skip, left, hH, hb1', hb2', hrun, hj, h5, h6⟩ hs
      exact LimI.mk D' outs skip left (hHab _ _ _ _ hH hs) hb1' hb2' hrun (hJ _ _ _ _ hj (hs.mono (hHsub _ _ _ hH))) ((hs.block _ (hHown _ _ _ hH _ hO5)).trans h5) ((hs.block _ (hHown _ _ _ hH _ hO6)).trans h6)
    case hIx =>
      rintro c pre Din A B ⟨rfl, D', hH, h⟩ hs
      refine LimX.mk D' (hHab _ _ _ _ hH hs) ?_
      rcases h with hj | ⟨pre2, y, post2, hx, hj⟩
      · exact .inl (hJ _ _ _ _ hj (hs.mono (hHsub _ _ _ hH)))
      · exact .inr ⟨pre2, y, post2, hx, hJx _ _ _ _ hj (hs.mono (hHsub _ _ _ hH))⟩
    case h0 =>
      refine LimI.mk D [] offset limit ?_ hob.2 hlb.2 (fun rest hx => by rw [hx]; simp) (hJ _ _ _ _ h0 ((Same.of_below hBW).mono (fun k hk => (hD k hk).1))) hA5 hA6
      rw [hHold]
      exact ⟨fun k => Iff.rfl, hOD, fun k hk => .inl hk, Same.refl _ _⟩
    case round =>
      rintro l' pre ⟨r, e⟩ post D1 V Vb args hx hl' hnl _ _ ⟨D', outs, skip, left, hH, hsk, hle, hrun, hj, h5, h6⟩ hlt hsz hsub ⟨A, c, rfl, hrc, hF⟩ hsame hsize
      dsimp only at hrc hF
      have hH' := hH
      rw [hHold] at hH'
      obtain ⟨hD1, hDO, hDsub, hVS⟩ := hH'
      have hFb : Kd.F k66 Vb (fun k => ¬ D1 k ∧ ¬ X k) A r.length r := Kd.F_mono (Kd.F_step hF (fun k hk _ => hsame.block k (fun h => hk.1 (.inr h)))) (fun k hk => ⟨fun h => hk.1 (.inl h), hk.2⟩)
      have hltb : ∀ k, D1 k → k < Vb.heap.size := fun k hk => by rw [← hsize]; exact hlt k hk
      have hcY : Vb.cell? ⟨W.heap.size, 0, none⟩ = some (.func (.yield l) #[] #[]) := by have := (hVS.block _ ⟨hOY, hYne⟩).trans hbY2; simp [World.cell?, this]
      have hc5 : Vb.cell? ⟨a5, 0, none⟩ = some (.int .i64 skip) := by simp [World.cell?, h5]
      have hf5 : Vb.frozen? ⟨a5, 0, none⟩ = false := by simp [World.frozen?, h5]
      have hr0 := hrun _ hx
      have hD'1 : ∀ k, D' k → D1 k := fun k hk => (hD1 k).2 (.inl hk)
      have hWV : W.heap.size ≤ Vb.heap.size := by omega
      have hD'D : ∀ k, D' k → D k ∨ W.heap.size ≤ k := fun k hk => by
        rcases hDsub k hk with h | h
        · exact .inl h
        · exact .inr (by omega)
      have hO5D : D1 a5 := (hD1 _).2 (.inr hO5)
      have hO6D : D1 a6 := (hD1 _).2 (.inr hO6)
      -- behind a call of yield: which blocks are the body's
      have after : ∀ (V3 : World) (D3 : Nat → Prop), Turn D' D3 Vb V3 → Turn D1 (fun k => D3 k ∨ Own k) Vb V3 ∧ Hold (fun k => D3 k ∨ Own k) D3 V3 ∧ Same Own Vb V3 := by
        intro V3 D3 hT3
        have hFO : Same Own Vb V3 := hT3.same.mono (fun k hk => ⟨hltb k ((hD1 k).2 (.inr hk)), fun h => hDO k h hk⟩)
        refine ⟨⟨?_, ?_, ?_⟩, ?_, hFO⟩
        · rintro k (hk | hk)
          · rcases hT3.sub k hk with h | h
            · exact .inl (hD'1 k h)
            · exact .inr h
          · exact .inl ((hD1 k).2 (.inr hk))
        · rintro k (hk | hk)
          · exact hT3.lt k hk
          · have := hltb k ((hD1 k).2 (.inr hk)); have := hT3.same.size; omega
        · exact hT3.same.mono (fun k hk => ⟨hk.1, fun h => hk.2 (hD'1 k h)⟩)
        · rw [hHold]
          refine ⟨fun k => Iff.rfl, fun k hk ho => ?_, fun k hk => ?_, hVS.trans hFO (fun _ hk => hk) (fun _ hk => hk.1)⟩
          · rcases hT3.sub k hk with h | h
            · exact hDO k h ho
            · have := hltb k ((hD1 k).2 (.inr ho)); omega
          · rcases hT3.sub k hk with h | h
            · exact hDsub k h
            · exact .inr (by omega)
      have hset : ∀ (Din D3 : Nat → Prop) (V3 : World) (p : Addr) (u : Value), Hold Din D3 V3 → p.block = a5 ∨ p.block = a6 → (∀ k, Din k → k < V3.heap.size) → Hold Din D3 (V3.setCell p u) ∧ Turn Din Din V3 (V3.setCell p u) ∧ Same D3 V3 (V3.setCell p u) := by
        intro Din D3 V3 p u hH3 hp hlt3
        have hH3' := hH3
        rw [hHold] at hH3'
        obtain ⟨g1, g2, g3, g4⟩ := hH3'
        have hpo : Own p.block := by rcases hp with h | h <;> rw [h] <;> assumption
        refine ⟨?_, Turn.set hlt3 ((g1 _).2 (.inr hpo)) u, ⟨rfl, rfl, rfl, by simp [World.setCell], fun k hk => Below.heap_setCell _ _ _ _ (fun he => g2 k hk (he ▸ hpo))⟩⟩
        rw [hHold]
        refine ⟨g1, g2, g3, g4.trans (b := V3) (D' := fun k => k ≠ a5 ∧ k ≠ a6) ⟨rfl, rfl, rfl, by simp [World.setCell], fun k hk => Below.heap_setCell _ _ _ _ (fun he => by rcases hp with h | h; exact hk.1 (he.trans h); exact hk.2 (he.trans h))⟩ (fun _ hk => hk) (fun k hk => hk.2)⟩
      have hnext : ∀ outs' skip' left', limitRun offset limit xs = outs' ++ limitRun skip' left' post → ∀ rest, xs = (pre ++ [(r, (e : Int))]) ++ rest → limitRun offset limit xs = outs' ++ limitRun skip' left' rest := by
        intro outs' skip' left' ho rest hxr
        have : post = rest := by
          have h := hx.symm.trans hxr
          rw [List.append_assoc] at h
          simpa using h
        rw [← this, ho]
      by_cases he : e = 0
      · subst he
        have he2 : ((0 : Int) != 0) = false := rfl
        by_cases hsp : 0 < skip
        · have hr1 : limitRun offset limit xs = outs ++ limitRun (skip - 1) left post := by rw [hr0]; simp [limitRun, hsp]
          have hn := hnext _ _ _ hr1
          have hgt : decide (skip > 0) = true := by simpa using hsp
          have hwr : IntKind.i64.wrap (skip - 1) = skip - 1 := IntWalk.i64_in _ (by omega)
          obtain ⟨z1, z2, z3⟩ := hset D1 D' Vb ⟨a5, 0, none⟩ (.int .i64 (skip - 1)) hH (.inl rfl) hltb
          have hj2 := hJ _ _ _ _ hj z3
          have h52 := blk_set h5 0 (.int .i64 (skip - 1))
          have h62 := blk_far h6 (p := ⟨a5, 0, none⟩) (show a6 ≠ a5 from Ne.symm h56) (.int .i64 (skip - 1))
          have Hn := Lib.hid hn
          have HHold := Lib.hid hHold
          have Hs1 := Lib.hid hs1
          have Hsz := Lib.hid hsize
          have HH := Lib.hid h52
          have HH6 := Lib.hid h62
          have hfin : LimI Hold J a5 a6 xs limit offset (pre ++ [(r, (0 : Int))]) D1 (Vb.setCell ⟨a5, 0, none⟩ (.int .i64 (skip - 1))) := LimI.mk D' outs (skip - 1) left z1 (by omega) hle hn hj2 h52 h62
          have Hfin := Lib.hid hfin
          clear hr0 hrun hr1 hx hHold hs1 hsize hnext hn h52 h62 hfin h5 h6 hset after
          gi_wp2
          try (refine ⟨trivial, ?_⟩; gi_wp2)
          exact ⟨D1, z2, Hfin.out⟩
        · have hgt : decide (skip > 0) = false := by simpa using hsp
          have h6' : ∀ V3, Same Own Vb V3 → V3.cell? ⟨a6, 0, none⟩ = some (.int .i64 left) ∧ V3.frozen? ⟨a6, 0, none⟩ = false ∧ V3.heap[a6]? = some (.cells #[.int .i64 left] 3 (0, 0)) ∧ V3.heap[a5]? = some (.cells #[.int .i64 skip] 3 (0, 0)) := fun V3 h => by
            have g6 := (h.block _ hO6).trans h6
            exact ⟨by simp [World.cell?, g6], by simp [World.frozen?, g6], g6, (h.block _ hO5).trans h5⟩
          by_cases hl : 0 < left
          · by_cases hl1 : left = 1
            · subst hl1
              have hr1 : limitRun offset limit xs = outs ++ (r, 0) :: [] := by rw [hr0]; simp [limitRun, hsp]
              obtain ⟨fn, tmps, assign, body, hy, hRd⟩ := hR outs (r, 0) _ D' Vb #[.slice A r.length c, .int .i64 0] hr1 hj (fun k hk => hltb k (hD'1 k hk)) (by omega) hD'D ⟨A, c, rfl, hrc, Kd.F_mono hFb (fun k hk => ⟨fun h => hk.1 (hD'1 k h), hk.2⟩)⟩
              have Hr1 := Lib.hid hr1
              have HHold := Lib.hid hHold
              have Hs1 := Lib.hid hs1
              have Hsz := Lib.hid hsize
              clear hr0 hrun hr1 hx hHold hs1 hsize hnext
              gi_wp2
              try (refine ⟨trivial, ?_⟩; gi_wp2)
              refine ⟨rfl, RoundIn.mono (F := Fence.wide.inRound l') hRd ?_⟩
              rintro e3 V3 ⟨D3, hT3, h3⟩
              obtain ⟨a1, a2, a3⟩ := after V3 D3 hT3
              obtain ⟨c6, f6, g6, g5⟩ := h6' V3 a3
              obtain ⟨z1, z2, z3⟩ := hset _ D3 V3 ⟨a6, 0, none⟩ (.int .i64 0) a2 (.inr rfl) a1.lt
              have c62 : (V3.setCell ⟨a6, 0, none⟩ (.int .i64 0)).cell? ⟨a6, 0, none⟩ = some (.int .i64 0) := by have := blk_set g6 0 (.int .i64 0); simp [World.cell?, this]
              clear h6' hset after g6 g5
              rcases h3 with ⟨rfl, hj3⟩ | ⟨rfl, hj3⟩
              · have hj4 := hJ _ _ _ _ hj3 z3
                gi_wp2
                exact ⟨_, a1.trans z2, LimX.mk D3 z1 (.inl (by rw [Hr1.out]; exact hj4))⟩
              · gi_wp2
                exact ⟨_, a1, LimX.mk D3 a2 (.inr ⟨outs, (r, 0), _, Hr1.out, hj3⟩)⟩
            · have hr1 : limitRun offset limit xs = outs ++ (r, 0) :: limitRun skip (left - 1) post := by rw [hr0]; simp [limitRun, hsp, hl, hl1]
              have hn := hnext (outs ++ [(r, 0)]) skip (left - 1) (by rw [hr1]; simp)
              have hwr : IntKind.i64.wrap (left - 1) = left - 1 := IntWalk.i64_in _ (by omega)
              have hgl : decide (left > 0) = true := by simpa using hl
              have hez : ((left - 1 : Int) == 0) = false := by simp; omega
              obtain ⟨fn, tmps, assign, body, hy, hRd⟩ := hR outs (r, 0) _ D' Vb #[.slice A r.length c, .int .i64 0] hr1 hj (fun k hk => hltb k (hD'1 k hk)) (by omega) hD'D ⟨A, c, rfl, hrc, Kd.F_mono hFb (fun k hk => ⟨fun h => hk.1 (hD'1 k h), hk.2⟩)⟩
              have Hr1 := Lib.hid hr1
              have Hn := Lib.hid hn
              have HHold := Lib.hid hHold
              have Hs1 := Lib.hid hs1
              have Hsz := Lib.hid hsize
              clear hr0 hrun hr1 hx hHold hs1 hsize hnext hn hl1
              gi_wp2
              try (refine ⟨trivial, ?_⟩; gi_wp2)
              refine ⟨rfl, RoundIn.mono (F := Fence.wide.inRound l') hRd ?_⟩
              rintro e3 V3 ⟨D3, hT3, h3⟩
              obtain ⟨a1, a2, a3⟩ := after V3 D3 hT3
              obtain ⟨c6, f6, g6, g5⟩ := h6' V3 a3
              obtain ⟨z1, z2, z3⟩ := hset _ D3 V3 ⟨a6, 0, none⟩ (.int .i64 (left - 1)) a2 (.inr rfl) a1.lt
              have g62 := blk_set g6 0 (.int .i64 (left - 1))
              have c62 : (V3.setCell ⟨a6, 0, none⟩ (.int .i64 (left - 1))).cell? ⟨a6, 0, none⟩ = some (.int .i64 (left - 1)) := by simp [World.cell?, g62]
              have g52 := blk_far g5 (p := ⟨a6, 0, none⟩) (show a5 ≠ a6 from h56) (.int .i64 (left - 1))
              have G62 := Lib.hid g62
              have G52 := Lib.hid g52
              clear h6' hset after g6 g5 g62 g52
              rcases h3 with ⟨rfl, hj3⟩ | ⟨rfl, hj3⟩
              · have hj4 := hJ _ _ _ _ hj3 z3
                gi_wp2
                exact ⟨_, a1.trans z2, LimI.mk D3 (outs ++ [(r, 0)]) skip (left - 1) z1 hsk (by omega) Hn.out hj4 G52.out G62.out⟩
              · gi_wp2
                exact ⟨_, a1, LimX.mk D3 a2 (.inr ⟨outs, (r, 0), _, Hr1.out, hj3⟩)⟩
          · have hr1 : limitRun offset limit xs = outs ++ (r, 0) :: limitRun skip left post := by rw [hr0]; simp [limitRun, hsp, hl]
            have hn := hnext (outs ++ [(r, 0)]) skip left (by rw [hr1]; simp)
            have hgl : decide (left > 0) = false := by simpa using hl
            obtain ⟨fn, tmps, assign, body, hy, hRd⟩ := hR outs (r, 0) _ D' Vb #[.slice A r.length c, .int .i64 0] hr1 hj (fun k hk => hltb k (hD'1 k hk)) (by omega) hD'D ⟨A, c, rfl, hrc, Kd.F_mono hFb (fun k hk => ⟨fun h => hk.1 (hD'1 k h), hk.2⟩)⟩
            have Hr1 := Lib.hid hr1
            have Hn := Lib.hid hn
            have HHold := Lib.hid hHold
            have Hs1 := Lib.hid hs1
            have Hsz := Lib.hid hsize
            clear hr0 hrun hr1 hx hHold hs1 hsize hnext hn hset
            gi_wp2
            try (refine ⟨trivial, ?_⟩; gi_wp2)
            refine ⟨rfl, RoundIn.mono (F := Fence.wide.inRound l') hRd ?_⟩
            rintro e3 V3 ⟨D3, hT3, h3⟩
            obtain ⟨a1, a2, a3⟩ := after V3 D3 hT3
            obtain ⟨c6, f6, g6, g5⟩ := h6' V3 a3
            have G62 := Lib.hid g6
            have G52 := Lib.hid g5
            clear h6' after g6 g5
            rcases h3 with ⟨rfl, hj3⟩ | ⟨rfl, hj3⟩
            · gi_wp2
              exact ⟨_, a1, LimI.mk D3 (outs ++ [(r, 0)]) skip left a2 hsk hle Hn.out hj3 G52.out G62.out⟩
            · gi_wp2
              exact ⟨_, a1, LimX.mk D3 a2 (.inr ⟨outs, (r, 0), _, Hr1.out, hj3⟩)⟩
      · have he2 : ((e : Int) != 0) = true := by simpa using he
        have hr1 : limitRun offset limit xs = outs ++ [([], e)] := by rw [hr0]; simp [limitRun, he]
        obtain ⟨fn, tmps, assign, body, hy, hRd⟩ := hR outs ([], e) [] D' Vb #[.slice none 0 0, .int .i64 e] hr1 hj (fun k hk => hltb k (hD'1 k hk)) (by omega) hD'D ⟨none, 0, rfl, Nat.le_refl _, Kd.F_nil _ _ _⟩
        have Hr1 := Lib.hid hr1
        have HHold := Lib.hid hHold
        have Hs1 := Lib.hid hs1
        have Hsz := Lib.hid hsize
        clear hr0 hrun hr1 he hx hHold hs1 hsize hnext hset
        gi_wp2
        try (refine ⟨trivial, ?_⟩; gi_wp2)
        refine ⟨rfl, RoundIn.mono (F := Fence.wide.inRound l') hRd ?_⟩
        rintro e3 V3 ⟨D3, hT3, h3⟩
        obtain ⟨a1, a2, a3⟩ := after V3 D3 hT3
        rcases h3 with ⟨rfl, hj3⟩ | ⟨rfl, hj3⟩
        · gi_wp2
          exact ⟨_, a1, LimX.mk D3 a2 (.inl (by rw [Hr1.out]; exact hj3))⟩
        · gi_wp2
          exact ⟨_, a1, LimX.mk D3 a2 (.inr ⟨outs, ([], e), [], Hr1.out, hj3⟩)⟩
    case done =>
      rintro K Din V hK hsub hnK hlt hsame ⟨D', outs, skip, left, hH, _, _, hrun, hj, _, _⟩ _ hdef
      have hr := hrun [] (by simp)
      simp only [limitRun, List.append_nil] at hr
      have hH' := hH
      rw [hHold] at hH'
      obtain ⟨hD1, hDO, hDsub, hVS⟩ := hH'
      have hKD : ∀ k, D' k → k ≠ K := fun k hk e => hnK (by rw [← e]; exact (hD1 k).2 (.inl hk))
      have hj' := hJ _ _ _ _ hj ((Same.putObj V K (.deferred none)).mono hKD)
      have hlt' : ∀ k, D' k → k < (V.putObj K (.deferred none)).heap.size := fun k hk => by simpa using hlt k ((hD1 k).2 (.inl hk))
      have hsame' := frame_end hBW hsame hVS hK (o := .deferred none) (by omega)
      have hsub' : ∀ k, D' k → D k ∨ W.heap.size ≤ k := fun k hk => by
        rcases hDsub k hk with h | h
        · exact .inl h
        · exact .inr (by omega)
      have Hr := Lib.hid hr
      have HHold := Lib.hid hHold
      have Hs1 := Lib.hid hs1
      clear hr hrun hHold hs1 hKD hsub hlt hsame
      gi_wp2
      refine ⟨by simp, .inl ⟨_, _, rfl, run_takeDeferred hdef, ?_⟩⟩
      exact ⟨_, results_none rfl _ _ _, Ended.mk D' hsub' hlt' (hsame'.mono (fun k hk => ⟨hk.1, hk.2.1, hk.2.2⟩)) (.inl ⟨by rw [Hr.out]; exact hj', trivial⟩)⟩
    case stop =>
      rintro K c pre ⟨r, e⟩ post Din V hx hK hsub hnK hlt hsame ⟨rfl, D', hH, h⟩ _ hdef
      have hH' := hH
      rw [hHold] at hH'
      obtain ⟨hD1, hDO, hDsub, hVS⟩ := hH'
      have hKD : ∀ k, D' k → k ≠ K := fun k hk e => hnK (by rw [← e]; exact (hD1 k).2 (.inl hk))
      have hlt' : ∀ k, D' k → k < (V.putObj K (.deferred none)).heap.size := fun k hk => by simpa using hlt k ((hD1 k).2 (.inl hk))
      have hsame' := frame_end hBW hsame hVS hK (o := .deferred none) (by omega)
      have hsub' : ∀ k, D' k → D k ∨ W.heap.size ≤ k := fun k hk => by
        rcases hDsub k hk with h | h
        · exact .inl h
        · exact .inr (by omega)
      have hend : ((J (limitRun offset limit xs) D' (V.putObj K (.deferred none)) ∧ True) ∨ ∃ pre2 x2 post2, limitRun offset limit xs = pre2 ++ x2 :: post2 ∧ Jx (pre2 ++ [x2]) D' (V.putObj K (.deferred none)) ∧ True) := by
        rcases h with hj | ⟨pre2, y, post2, hx2, hj⟩
        · exact .inl ⟨hJ _ _ _ _ hj ((Same.putObj V K (.deferred none)).mono hKD), trivial⟩
        · exact .inr ⟨pre2, y, post2, hx2, hJx _ _ _ _ hj ((Same.putObj V K (.deferred none)).mono hKD), trivial⟩
      have HHold := Lib.hid hHold
      have Hs1 := Lib.hid hs1
      have Hx := Lib.hid hx
      have Hend := Lib.hid hend
      clear hx hHold hs1 hKD hsub hlt hsame h hend
      gi_wp2
      refine ⟨by simp, .inl ⟨_, _, rfl, run_takeDeferred hdef, ?_⟩⟩
      exact ⟨_, results_none rfl _ _ _, Ended.mk D' hsub' hlt' (hsame'.mono (fun k hk => ⟨hk.1, hk.2.1, hk.2.2⟩)) Hend.out⟩
end Go.Proofs.Ytofkhcgkahkagaa
