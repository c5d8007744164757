/- The iterator that scan.over makes has its contract, over every source that has one and every function that has one. -/
import Derived.Test.YtofkhcgkahkagaaScanA
namespace Go.Proofs.Ytofkhcgkahkagaa
open Go.RowKit Go.Shelf Go.Proofs.YtofkhcgkahkagaaW.PrintWords Go.Proofs.YtofkhcgkahkagaaW.PrintLast Go.Proofs.YtofkhcgkahkagaaW.PrintMore Go.Proofs.Ytofkhcgkahkagaa.PScanMeters
attribute [local go_sem] Oper.semAt_some
set_option linter.unusedVariables false
set_option linter.unusedSimpArgs false

/-- What scan.over makes of rows: each row (or the error that ends them) with how often its function was called by then; and how often in all. -/
def overRun (f : Nat → List S66 → List S66 × Bool × Int) : Nat → List (List S66 × Int) → List ((List S66 × Int) × Nat) × Nat
  | j, [] => ([], j)
  | j, (r, e) :: xs => if e ≠ 0 then ([(([], e), j)], j) else if (f j r).2.2 ≠ 0 then ([(([], (f j r).2.2), j + 1)], j + 1) else
      if (f j r).2.1 = true then ((((f j r).1, 0), j + 1) :: (overRun f (j + 1) xs).1, (overRun f (j + 1) xs).2) else overRun f (j + 1) xs

/-- Stopped at the k-th element: the function had been called so often. -/
def OverStop (f : Nat → List S66 → List S66 × Bool × Int) (xs : List (List S66 × Int)) (T : Nat → World → Prop) (k : Nat) (W : World) : Prop := ∃ y, (overRun f 0 xs).1[k - 1]? = some y ∧ T y.2 W

/-- The contract of over's function: called for the j-th time, of the row r, it hands back f j r. -/
def What (P : Program) (gw : Nat) (lbw : Array Value) (f : Nat → List S66 → List S66 × Bool × Int) (X : Nat → Prop) (T : Nat → World → Prop) (Fwq : Nat → Prop) : Prop :=
  ∀ (j : Nat) (r : List S66) (A : Option Addr) (c : Nat) (W : World) (D : Nat → Prop), T j W → (∀ k, D k → k < W.heap.size) → r.length ≤ c → Kd.F k66 W (fun k => ¬ D k ∧ ¬ X k) A r.length r →
    Calls P gw (#[.slice A r.length c] ++ lbw) W fun e W' => ∃ A' c', e = .returned (.tuple #[.slice A' (f j r).1.length c', .bool (f j r).2.1, .int .i64 (f j r).2.2]) ∧ (f j r).1.length ≤ c' ∧ T (j + 1) W' ∧
      Kd.F k66 W' (fun k => ¬ D k ∧ ¬ X k) A' (f j r).1.length (f j r).1 ∧ Same (fun k => k < W.heap.size ∧ ¬ Fwq k) W W'

theorem over_calls (gf : Nat) (lb : Array Value) (gw : Nat) (lbw : Array Value) (w : World) : Calls Try.prog 33 #[.func (.func gf) #[] lb, .func (.func gw) #[] lbw] w fun e w' => e = .returned (.func (.func 52) #[] #[.pointer (some ⟨w.heap.size, 0, none⟩), .pointer (some ⟨w.heap.size + 1, 0, none⟩)]) ∧ w' = (w.alloc (.cells #[.func (.func gf) #[] lb] 31)).alloc (.cells #[.func (.func gw) #[] lbw] 75) := by
  go_enter Try.func33, Try.ntmps33
  go_wp2
  go_ret
  exact ⟨rfl, rfl⟩

/-- What over's closure starts from: its two boxes; the source may begin; the function has not been called. -/
structure OverPre (b1 b2 gf : Nat) (lb : Array Value) (gw : Nat) (lbw : Array Value) (FpS Fq : Nat → Prop) (PreS : World → Prop) (T : Nat → World → Prop) (W : World) : Prop where
  box1 : W.heap[b1]? = some (.cells #[.func (.func gf) #[] lb] 31 (0, 0))
  box2 : W.heap[b2]? = some (.cells #[.func (.func gw) #[] lbw] 75 (0, 0))
  t0 : T 0 W
  src : ∀ W', Below W.heap.size W W' → PreS W'
  fp : ∀ k, FpS k → k < W.heap.size
  fq : ∀ k, Fq k → k < W.heap.size

theorem RowEnc.size {X : Nat → Prop} (x : List S66 × Int) (args : Array Value) (D : Nat → Prop) (W : World) (h : RowEnc X x args D W) : args.size = 2 := by
  obtain ⟨A, c, rfl, _⟩ := h
  rfl
theorem RowEnc.anti {X : Nat → Prop} (x : List S66 × Int) (args : Array Value) (D D' : Nat → Prop) (W : World) (h : RowEnc X x args D W) (hd : ∀ k, D' k → D k) : RowEnc X x args D' W := by
  obtain ⟨A, c, rfl, h1, h2⟩ := h
  exact ⟨A, c, rfl, h1, Kd.F_mono h2 (fun k hk => ⟨fun h => hk.1 (hd k h), hk.2⟩)⟩

set_option maxRecDepth 100000 in
set_option maxHeartbeats 4000000 in
theorem over_iter (b1 b2 gf : Nat) (lb : Array Value) (gw : Nat) (lbw : Array Value) (xs : List (List S66 × Int)) (X FpS FwS Fq Fwq : Nat → Prop) (PreS DoneS : World → Prop) (StopS : Nat → World → Prop)
    (eg : ∀ args w, (callFunc gf args).run Try.prog w = .ok (.enter gf args) w) (egw : ∀ args w, (callFunc gw args).run Try.prog w = .ok (.enter gw args) w)
    (hsrc : Iter Try.prog gf lb (RowEnc X) xs FpS FwS PreS DoneS StopS)
    (f : Nat → List S66 → List S66 × Bool × Int) (T : Nat → World → Prop) (hwhat : What Try.prog gw lbw f X T Fwq)
    (hT : ∀ j W W', T j W → Same Fq W W' → T j W') (hqq : ∀ k, Fwq k → Fq k) (hws : ∀ k, FwS k → FpS k)
    (h12 : b1 ≠ b2) (h1s : ¬ FpS b1) (h2s : ¬ FpS b2) (h1q : ¬ Fq b1) (h2q : ¬ Fq b2) (hqs : ∀ k, Fq k → ¬ FpS k) :
    Iter Try.prog 52 #[.pointer (some ⟨b1, 0, none⟩), .pointer (some ⟨b2, 0, none⟩)] (RowEnc X) ((overRun f 0 xs).1.map (·.1)) (fun k => k = b1 ∨ k = b2 ∨ FpS k ∨ Fq k) (fun k => FwS k ∨ Fwq k)
      (OverPre b1 b2 gf lb gw lbw FpS Fq PreS T) (T (overRun f 0 xs).2) (OverStop f xs T) := by
  intro W l J Jx D hP hJ hJx hD hR h0
  obtain ⟨hb1, hb2, ht0, hsrcPre, hfp, hfq⟩ := hP
  have hl1 : b1 < W.heap.size := (Array.getElem?_eq_some_iff.1 hb1).1
  have hl2 : b2 < W.heap.size := (Array.getElem?_eq_some_iff.1 hb2).1
  have hcell1 : W.cell? ⟨b1, 0, none⟩ = some (.func (.func gf) #[] lb) := by simp [World.cell?, hb1]
  refine callsIn_wide (n := 0).1 ?_
  refine callsIn_of_wp_marks Try.func52 rfl trivial ?_ rfl
  simp only [Try.ntmps52, List.size_toArray, List.length_cons, List.length_nil, Nat.reduceAdd, Nat.reduceSub, Array.replicate_succ, Array.replicate_zero, List.push_toArray, List.append_toArray, List.nil_append, List.cons_append]
  have hcell1' : (W.alloc (.cells #[.func (.yield l) #[] #[]] 76)).cell? ⟨b1, 0, none⟩ = some (.func (.func gf) #[] lb) := ((Below.refl _ W).alloc (Nat.le_refl _) _).cell (p := ⟨b1, 0, none⟩) hl1 |>.trans hcell1
  have hnil := fun (w : World) (fn : Fn) (ts lb : Array Value) => run_eql_func_nil (P := Try.prog) w 31 fn ts lb Try.underlying31
  gi_wp2
  obtain ⟨W1, hW1⟩ : ∃ W1, W.alloc (.cells #[.func (.yield l) #[] #[]] 76) = W1 := ⟨_, rfl⟩
  have hB1 : Below W.heap.size W W1 := by rw [← hW1]; exact (Below.refl _ W).alloc (Nat.le_refl _) _
  have hs1 : W1.heap.size = W.heap.size + 1 := by rw [← hW1]; simp
  have hbY : W1.heap[W.heap.size]? = some (.cells #[.func (.yield l) #[] #[]] 76 (0, 0)) := by rw [← hW1]; exact World.alloc_heap_new W _
  rw [hW1]
  clear hW1 hcell1' hcell1
  obtain ⟨Own, hOwn⟩ : ∃ Own : Nat → Prop, Own = fun k => k = W.heap.size ∨ k = b1 ∨ k = b2 ∨ Fq k := ⟨_, rfl⟩
  have hOY : Own W.heap.size := by rw [hOwn]; exact .inl rfl
  have hO2 : Own b2 := by rw [hOwn]; exact .inr (.inr (.inl rfl))
  have hOq : ∀ k, Fq k → Own k := fun k hk => by rw [hOwn]; exact .inr (.inr (.inr hk))
  have hOlt : ∀ k, Own k → k < W1.heap.size := by
    rw [hOwn]
    rintro k (rfl | rfl | rfl | hk)
    · omega
    · omega
    · omega
    · have := hfq k hk; omega
  have hOs : ∀ k, Own k → ¬ FpS k := by
    rw [hOwn]
    rintro k (rfl | rfl | rfl | hk)
    · exact fun h => by have := hfp _ h; omega
    · exact h1s
    · exact h2s
    · exact hqs k hk
  have hOD : ∀ k, D k → ¬ Own k := by
    rw [hOwn]
    rintro k hd (rfl | rfl | rfl | hk)
    · have := (hD _ hd).1; omega
    · exact (hD _ hd).2 (.inl rfl)
    · exact (hD _ hd).2 (.inr (.inl rfl))
    · exact (hD _ hd).2 (.inr (.inr (.inr hk)))
  have hOX : ∀ k, Own k → k < W.heap.size → ¬ D k := fun k ho _ hd => hOD k hd ho
  clear hOwn
  obtain ⟨Hold, hHold⟩ : ∃ Hold : (Nat → Prop) → (Nat → Prop) → World → Prop, Hold = fun Din D' V => (∀ k, Din k ↔ D' k ∨ Own k) ∧ (∀ k, D' k → ¬ Own k) ∧ (∀ k, D' k → D k ∨ W1.heap.size ≤ k) ∧
      Same (fun k => Own k ∧ ¬ Fwq k) W1 V := ⟨_, rfl⟩
  have hY2 : ∀ V, Same (fun k => Own k ∧ ¬ Fwq k) W1 V → V.heap[W.heap.size]? = some (.cells #[.func (.yield l) #[] #[]] 76 (0, 0)) ∧ V.heap[b2]? = some (.cells #[.func (.func gw) #[] lbw] 75 (0, 0)) := fun V h =>
    ⟨(h.block _ ⟨hOY, fun hw => absurd (hfq _ (hqq _ hw)) (Nat.lt_irrefl _)⟩).trans hbY, (h.block _ ⟨hO2, fun hw => h2q (hqq _ hw)⟩).trans ((hB1.block _ hl2).trans hb2)⟩
  have hHab : ∀ Din D' A B, Hold Din D' A → Same Din A B → Hold Din D' B := by
    rw [hHold]
    rintro Din D' A B ⟨h1, h2, h3, h4⟩ hs
    exact ⟨h1, h2, h3, h4.trans hs (fun _ hk => hk) (fun k hk => (h1 k).2 (.inr hk.1))⟩
  have hHsub : ∀ Din D' A, Hold Din D' A → ∀ k, D' k → Din k := by
    rw [hHold]
    rintro Din D' A ⟨h1, _⟩ k hk
    exact (h1 k).2 (.inl hk)
  have hHq : ∀ Din D' A, Hold Din D' A → ∀ k, Fq k → Din k := by
    rw [hHold]
    rintro Din D' A ⟨h1, _⟩ k hk
    exact (h1 k).2 (.inr (hOq k hk))
  refine wp_range (gf := gf) (lb := lb) rfl eg hsrc (fun V hV => hsrcPre V (hB1.trans (hV.mono hB1.size))) (fun k hk => by have := hfp k hk; omega) RowEnc.size RowEnc.anti
    (fun k => D k ∨ Own k) ?hD
    (fun pre Din V => ∃ D' outs, Hold Din D' V ∧ (∀ rest, xs = pre ++ rest → overRun f 0 xs = (outs ++ (overRun f pre.length rest).1, (overRun f pre.length rest).2)) ∧ J (outs.map (·.1)) D' V ∧ T pre.length V)
    (fun c pre Din V => c = .ret ∧ ∃ D', Hold Din D' V ∧ ((J ((overRun f 0 xs).1.map (·.1)) D' V ∧ T (overRun f 0 xs).2 V) ∨ ∃ pre2 y post2, (overRun f 0 xs).1 = pre2 ++ y :: post2 ∧ Jx ((pre2 ++ [y]).map (·.1)) D' V ∧ T y.2 V))
    ?hI ?hIx ?h0 ?round ?done ?stop
  case hD =>
    rintro k (hk | hk)
    · exact ⟨by have := (hD k hk).1; omega, fun h => (hD k hk).2 (.inr (.inr (.inl h)))⟩
    · exact ⟨hOlt k hk, hOs k hk⟩
  case hI =>
    rintro pre Din A B ⟨D', outs, hH, hrun, hj, ht⟩ hs
    exact ⟨D', outs, hHab _ _ _ _ hH hs, hrun, hJ _ _ _ _ hj (hs.mono (hHsub _ _ _ hH)), hT _ _ _ ht (hs.mono (hHq _ _ _ hH))⟩
  case hIx =>
    rintro c pre Din A B ⟨rfl, D', hH, h⟩ hs
    refine ⟨rfl, D', hHab _ _ _ _ hH hs, ?_⟩
    rcases h with ⟨hj, ht⟩ | ⟨pre2, y, post2, hx, hj, ht⟩
    · exact .inl ⟨hJ _ _ _ _ hj (hs.mono (hHsub _ _ _ hH)), hT _ _ _ ht (hs.mono (hHq _ _ _ hH))⟩
    · exact .inr ⟨pre2, y, post2, hx, hJx _ _ _ _ hj (hs.mono (hHsub _ _ _ hH)), hT _ _ _ ht (hs.mono (hHq _ _ _ hH))⟩
  case h0 =>
    refine ⟨D, [], ?_, fun rest hx => by rw [hx]; simp, hJ _ _ _ _ h0 ((Same.of_below hB1).mono (fun k hk => (hD k hk).1)), hT _ _ _ ht0 ((Same.of_below hB1).mono hfq)⟩
    rw [hHold]
    exact ⟨fun k => Iff.rfl, hOD, fun k hk => .inl hk, Same.refl _ _⟩
  case round =>
    rintro l' pre ⟨r, e⟩ post D1 V Vb args hx hl' hnl _ _ ⟨D', outs, hH, hrun, hj, ht⟩ hlt hsz hsub ⟨A, c, rfl, hrc, hF⟩ hsame hsize
    dsimp only at hrc hF
    have hH' := hH
    rw [hHold] at hH'
    obtain ⟨hD1, hDO, hDsub, hVS⟩ := hH'
    obtain ⟨hVY, hV2⟩ := hY2 Vb hVS
    have hFb : Kd.F k66 Vb (fun k => ¬ D1 k ∧ ¬ X k) A r.length r := Kd.F_mono (Kd.F_step hF (fun k hk _ => hsame.block k (fun h => hk.1 (.inr h)))) (fun k hk => ⟨fun h => hk.1 (.inl h), hk.2⟩)
    have hltb : ∀ k, D1 k → k < Vb.heap.size := fun k hk => by rw [← hsize]; exact hlt k hk
    have hcY : Vb.cell? ⟨W.heap.size, 0, none⟩ = some (.func (.yield l) #[] #[]) := by simp [World.cell?, hVY]
    have hc2 : Vb.cell? ⟨b2, 0, none⟩ = some (.func (.func gw) #[] lbw) := by simp [World.cell?, hV2]
    have hr0 := hrun _ hx
    have hWV : W.heap.size ≤ Vb.heap.size := by omega
    have hD'1 : ∀ k, D' k → D1 k := fun k hk => (hD1 k).2 (.inl hk)
    have hD'D : ∀ k, D' k → D k ∨ W.heap.size ≤ k := fun k hk => by
      rcases hDsub k hk with h | h
      · exact .inl h
      · exact .inr (by omega)
    -- behind a call of yield: which blocks are the body's
    have after : ∀ (V2 V3 : World) (D3 : Nat → Prop), Same (fun k => k < Vb.heap.size ∧ ¬ Fwq k) Vb V2 → Turn D' D3 V2 V3 → Turn D1 (fun k => D3 k ∨ Own k) Vb V3 ∧ Hold (fun k => D3 k ∨ Own k) D3 V3 ∧ Same Fq V2 V3 := by
      intro V2 V3 D3 h12' hT3
      have hz := h12'.size
      have hFO : Same Own V2 V3 := hT3.same.mono (fun k hk => ⟨Nat.lt_of_lt_of_le (hltb k ((hD1 k).2 (.inr hk))) hz, fun h => hDO k h hk⟩)
      refine ⟨⟨?_, ?_, ?_⟩, ?_, hFO.mono hOq⟩
      · rintro k (hk | hk)
        · rcases hT3.sub k hk with h | h
          · exact .inl (hD'1 k h)
          · exact .inr (by omega)
        · exact .inl ((hD1 k).2 (.inr hk))
      · rintro k (hk | hk)
        · exact hT3.lt k hk
        · have := hltb k ((hD1 k).2 (.inr hk)); have := hT3.same.size; omega
      · exact h12'.trans hT3.same (fun k hk => ⟨hk.1, fun h => hk.2 ((hD1 k).2 (.inr (hOq k (hqq k h))))⟩) (fun k hk => ⟨Nat.lt_of_lt_of_le hk.1 hz, fun h => hk.2 (hD'1 k h)⟩)
      · rw [hHold]
        refine ⟨fun k => Iff.rfl, fun k hk ho => ?_, fun k hk => ?_, ?_⟩
        · rcases hT3.sub k hk with h | h
          · exact hDO k h ho
          · have := hltb k ((hD1 k).2 (.inr ho)); omega
        · rcases hT3.sub k hk with h | h
          · exact hDsub k h
          · exact .inr (by omega)
        · exact (hVS.trans h12' (fun _ hk => hk) (fun k hk => ⟨hltb k ((hD1 k).2 (.inr hk.1)), hk.2⟩)).trans hFO (fun _ hk => hk) (fun _ hk => hk.1)
    by_cases he : e = 0
    · subst he
      have hw := hwhat pre.length r A c Vb D1 ht hltb hrc hFb
      obtain ⟨r2, is, e2, hq⟩ : ∃ r2 is e2, f pre.length r = (r2, is, e2) := ⟨_, _, _, rfl⟩
      rw [hq] at hw
      dsimp only at hw
      have hnext : ∀ outs', overRun f 0 xs = (outs' ++ (overRun f (pre.length + 1) post).1, (overRun f (pre.length + 1) post).2) → ∀ rest, xs = (pre ++ [(r, (0 : Int))]) ++ rest → overRun f 0 xs = (outs' ++ (overRun f (pre ++ [(r, (0 : Int))]).length rest).1, (overRun f (pre ++ [(r, (0 : Int))]).length rest).2) := by
        intro outs' ho rest hxr
        have : post = rest := by
          have h := hx.symm.trans hxr
          rw [List.append_assoc] at h
          simpa using h
        rw [← this, ho]
        simp
      have hj2 : ∀ V2, Same (fun k => k < Vb.heap.size ∧ ¬ Fwq k) Vb V2 → J (outs.map (·.1)) D' V2 := fun V2 h => hJ _ _ _ _ hj (h.mono (fun k hk => ⟨hltb k (hD'1 k hk), fun hw => hDO k hk (hOq k (hqq k hw))⟩))
      have hcY2 : ∀ V2, Same (fun k => k < Vb.heap.size ∧ ¬ Fwq k) Vb V2 → V2.cell? ⟨W.heap.size, 0, none⟩ = some (.func (.yield l) #[] #[]) := fun V2 h => (h.cell (p := ⟨W.heap.size, 0, none⟩) ⟨hltb _ ((hD1 _).2 (.inr hOY)), fun hw => absurd (hfq _ (hqq _ hw)) (Nat.lt_irrefl _)⟩).trans hcY
      by_cases he : e2 = 0
      · subst he
        cases is with
        | true =>
          have hr1 : overRun f 0 xs = (outs ++ ((r2, 0), pre.length + 1) :: (overRun f (pre.length + 1) post).1, (overRun f (pre.length + 1) post).2) := by rw [hr0]; simp [overRun, hq]
          have hn := hnext (outs ++ [((r2, 0), pre.length + 1)]) (by rw [hr1]; simp)
          have Hr1 := Lib.hid hr1
          have Hn := Lib.hid hn
          have HHold := Lib.hid hHold
          have Hs1 := Lib.hid hs1
          have Hsz := Lib.hid hsize
          have Hq := Lib.hid hq
          clear hr0 hrun hr1 hx hHold hs1 hsize hq hnext hn
          gi_wp2
          refine ⟨trivial, ?_⟩
          gi_wp2_with fail
          refine ⟨trivial, rfl, (CallsIn.inRound l' (callsIn_wide.2 hw)).mono ?_⟩
          clear hw
          rintro e3 V2 ⟨A', c', rfl, hc', ht', hF', hs2⟩
          have hz2 := hs2.size
          obtain ⟨fn, tmps, assign, body, hy, hRd⟩ := hR (outs.map (·.1)) (r2, 0) _ D' V2 #[.slice A' r2.length c', .int .i64 0] (by rw [Hr1.out]; simp; rfl) (hj2 V2 hs2) (fun k hk => Nat.lt_of_lt_of_le (hltb k (hD'1 k hk)) hz2) (by omega) hD'D ⟨A', c', rfl, hc', Kd.F_mono hF' (fun k hk => ⟨fun h => hk.1 (hD'1 k h), hk.2⟩)⟩
          have hcY3 := hcY2 V2 hs2
          gi_wp2
          refine ⟨rfl, RoundIn.mono (F := Fence.wide.inRound l') hRd ?_⟩
          rintro e3 V3 ⟨D3, hT3, h3⟩
          obtain ⟨a1, a2, a3⟩ := after V2 V3 D3 hs2 hT3
          have ht3 := hT _ _ _ ht' a3
          rcases h3 with ⟨rfl, hj3⟩ | ⟨rfl, hj3⟩
          · gi_wp2
            exact ⟨_, a1, D3, outs ++ [((r2, 0), pre.length + 1)], a2, Hn.out, by simpa using hj3, by simpa using ht3⟩
          · gi_wp2
            exact ⟨_, a1, rfl, D3, a2, .inr ⟨outs, ((r2, 0), pre.length + 1), _, by rw [Hr1.out], by simpa using hj3, ht3⟩⟩
        | false =>
          have hr1 : overRun f 0 xs = (outs ++ (overRun f (pre.length + 1) post).1, (overRun f (pre.length + 1) post).2) := by rw [hr0]; simp [overRun, hq]
          have hn := hnext outs hr1
          have Hn := Lib.hid hn
          have HHold := Lib.hid hHold
          have Hs1 := Lib.hid hs1
          have Hsz := Lib.hid hsize
          have Hq := Lib.hid hq
          clear hr0 hrun hr1 hx hHold hs1 hsize hq hnext hn
          gi_wp2
          refine ⟨trivial, ?_⟩
          gi_wp2_with fail
          refine ⟨trivial, rfl, (CallsIn.inRound l' (callsIn_wide.2 hw)).mono ?_⟩
          clear hw
          rintro e3 V2 ⟨A', c', rfl, hc', ht', hF', hs2⟩
          have hz2 := hs2.size
          obtain ⟨a1, a2, a3⟩ := after V2 V2 D' hs2 (Turn.refl (fun k hk => Nat.lt_of_lt_of_le (hltb k (hD'1 k hk)) hz2))
          have hj3 := hj2 V2 hs2
          gi_wp2
          refine ⟨fun _ h => (by cases h), ?_⟩
          gi_wp2
          exact ⟨_, a1, D', outs, a2, Hn.out, hj3, by simpa using ht'⟩
      · have he1 : ((e2 : Int) == 0) = false := by simpa using he
        have he2 : ((e2 : Int) != 0) = true := by simpa using he
        have hr1 : overRun f 0 xs = (outs ++ [(([], e2), pre.length + 1)], pre.length + 1) := by rw [hr0]; simp [overRun, hq, he]
        have Hr1 := Lib.hid hr1
        have HHold := Lib.hid hHold
        have Hs1 := Lib.hid hs1
        have Hsz := Lib.hid hsize
        have Hq := Lib.hid hq
        clear hr0 hrun hr1 he hx hHold hs1 hsize hq hnext
        gi_wp2
        refine ⟨trivial, ?_⟩
        gi_wp2_with fail
        refine ⟨trivial, rfl, (CallsIn.inRound l' (callsIn_wide.2 hw)).mono ?_⟩
        clear hw
        rintro e3 V2 ⟨A', c', rfl, hc', ht', hF', hs2⟩
        have hz2 := hs2.size
        obtain ⟨fn, tmps, assign, body, hy, hRd⟩ := hR (outs.map (·.1)) ([], e2) [] D' V2 #[.slice none 0 0, .int .i64 e2] (by rw [Hr1.out]; simp) (hj2 V2 hs2) (fun k hk => Nat.lt_of_lt_of_le (hltb k (hD'1 k hk)) hz2) (by omega) hD'D ⟨none, 0, rfl, Nat.le_refl _, Kd.F_nil _ _ _⟩
        have hcY3 := hcY2 V2 hs2
        gi_wp2
        refine ⟨rfl, RoundIn.mono (F := Fence.wide.inRound l') hRd ?_⟩
        rintro e3 V3 ⟨D3, hT3, h3⟩
        obtain ⟨a1, a2, a3⟩ := after V2 V3 D3 hs2 hT3
        have ht3 := hT _ _ _ ht' a3
        rcases h3 with ⟨rfl, hj3⟩ | ⟨rfl, hj3⟩
        · gi_wp2
          exact ⟨_, a1, rfl, D3, a2, .inl ⟨by rw [Hr1.out]; simpa using hj3, by rw [Hr1.out]; exact ht3⟩⟩
        · gi_wp2
          exact ⟨_, a1, rfl, D3, a2, .inr ⟨outs, (([], e2), pre.length + 1), [], by rw [Hr1.out], by simpa using hj3, ht3⟩⟩
    · have he1 : ((e : Int) == 0) = false := by simpa using he
      have he2 : ((e : Int) != 0) = true := by simpa using he
      have hr1 : overRun f 0 xs = (outs ++ [(([], e), pre.length)], pre.length) := by rw [hr0]; simp [overRun, he]
      clear hr0 hrun
      obtain ⟨fn, tmps, assign, body, hy, hRd⟩ := hR (outs.map (·.1)) ([], e) [] D' Vb #[.slice none 0 0, .int .i64 e] (by rw [hr1]; simp) hj (fun k hk => hltb k (hD'1 k hk)) (by omega) hD'D ⟨none, 0, rfl, Nat.le_refl _, Kd.F_nil _ _ _⟩
      have Hr1 := Lib.hid hr1
      clear hr1 he hx
      have HHold := Lib.hid hHold
      have Hs1 := Lib.hid hs1
      have Hsz := Lib.hid hsize
      clear hHold hs1 hsize
      gi_wp2
      refine ⟨trivial, ?_⟩
      gi_wp2
      refine ⟨rfl, RoundIn.mono (F := Fence.wide.inRound l') hRd ?_⟩
      have hsV : Same (fun k => k < Vb.heap.size ∧ ¬ Fwq k) Vb Vb := Same.refl _ _
      rintro e3 V3 ⟨D3, hT3, h3⟩
      obtain ⟨a1, a2, a3⟩ := after Vb V3 D3 hsV hT3
      have ht3 := hT _ _ _ ht a3
      rcases h3 with ⟨rfl, hj3⟩ | ⟨rfl, hj3⟩
      · gi_wp2
        exact ⟨_, a1, rfl, D3, a2, .inl ⟨by rw [Hr1.out]; simpa using hj3, by rw [Hr1.out]; exact ht3⟩⟩
      · gi_wp2
        exact ⟨_, a1, rfl, D3, a2, .inr ⟨outs, (([], e), pre.length), [], by rw [Hr1.out], by simpa using hj3, ht3⟩⟩
  case done =>
    rintro K Din V hK hsub hnK hlt hsame ⟨D', outs, hH, hrun, hj, ht⟩ _ hdef
    have hr := hrun [] (by simp)
    simp only [overRun, List.append_nil] at hr
    have hH' := hH
    rw [hHold] at hH'
    obtain ⟨hD1, hDO, hDsub, hVS⟩ := hH'
    have hfin : Same (fun k => k < W1.heap.size) V (V.putObj K (.deferred none)) := (Same.putObj _ _ _).mono (fun k hk e => by omega)
    have hKD : ∀ k, D' k → k ≠ K := fun k hk e => hnK (by rw [← e]; exact (hD1 k).2 (.inl hk))
    have hj' := hJ _ _ _ _ hj ((Same.putObj V K (.deferred none)).mono hKD)
    have ht' := hT _ _ _ ht (hfin.mono (fun k hk => by have := hfq k hk; omega))
    have hlt' : ∀ k, D' k → k < (V.putObj K (.deferred none)).heap.size := fun k hk => by simpa using hlt k ((hD1 k).2 (.inl hk))
    have hsame' : Same (fun k => k < W.heap.size ∧ ¬ D k ∧ ¬ (FwS k ∨ Fwq k)) W (V.putObj K (.deferred none)) := by
      have h1 : Same (fun k => k < W.heap.size ∧ ¬ D k ∧ ¬ (FwS k ∨ Fwq k)) W V := by
        refine ⟨hsame.os.trans hB1.os, hsame.tape.trans hB1.tape, hsame.output.trans hB1.output, Nat.le_trans hB1.size hsame.size, fun k hk => ?_⟩
        refine Eq.trans ?_ (hB1.block k hk.1)
        by_cases ho : Own k
        · exact hVS.block k ⟨ho, fun h => hk.2.2 (.inr h)⟩
        · exact hsame.block k ⟨by omega, fun h => h.elim hk.2.1 ho, fun h => hk.2.2 (.inl h)⟩
      exact h1.trans hfin (fun k hk => hk) (fun k hk => by omega)
    have hsub' : ∀ k, D' k → D k ∨ W.heap.size ≤ k := fun k hk => by
      rcases hDsub k hk with h | h
      · exact .inl h
      · exact .inr (by omega)
    have Hr := Lib.hid hr
    have HHold := Lib.hid hHold
    have Hs1 := Lib.hid hs1
    clear hr hrun hHold hs1 hfin hKD hsub hlt hsame
    gi_wp2
    refine ⟨by simp, .inl ⟨_, _, rfl, run_takeDeferred hdef, ?_⟩⟩
    exact ⟨_, results_none rfl _ _ _, Ended.mk D' hsub' hlt' hsame' (.inl ⟨by rw [Hr.out]; exact hj', by rw [Hr.out]; exact ht'⟩)⟩
  case stop =>
    rintro K c pre ⟨r, e⟩ post Din V hx hK hsub hnK hlt hsame ⟨rfl, D', hH, h⟩ _ hdef
    have hH' := hH
    rw [hHold] at hH'
    obtain ⟨hD1, hDO, hDsub, hVS⟩ := hH'
    have hfin : Same (fun k => k < W1.heap.size) V (V.putObj K (.deferred none)) := (Same.putObj _ _ _).mono (fun k hk e => by omega)
    have hKD : ∀ k, D' k → k ≠ K := fun k hk e => hnK (by rw [← e]; exact (hD1 k).2 (.inl hk))
    have hlt' : ∀ k, D' k → k < (V.putObj K (.deferred none)).heap.size := fun k hk => by simpa using hlt k ((hD1 k).2 (.inl hk))
    have hsame' : Same (fun k => k < W.heap.size ∧ ¬ D k ∧ ¬ (FwS k ∨ Fwq k)) W (V.putObj K (.deferred none)) := by
      have h1 : Same (fun k => k < W.heap.size ∧ ¬ D k ∧ ¬ (FwS k ∨ Fwq k)) W V := by
        refine ⟨hsame.os.trans hB1.os, hsame.tape.trans hB1.tape, hsame.output.trans hB1.output, Nat.le_trans hB1.size hsame.size, fun k hk => ?_⟩
        refine Eq.trans ?_ (hB1.block k hk.1)
        by_cases ho : Own k
        · exact hVS.block k ⟨ho, fun h => hk.2.2 (.inr h)⟩
        · exact hsame.block k ⟨by omega, fun h => h.elim hk.2.1 ho, fun h => hk.2.2 (.inl h)⟩
      exact h1.trans hfin (fun k hk => hk) (fun k hk => by omega)
    have hsub' : ∀ k, D' k → D k ∨ W.heap.size ≤ k := fun k hk => by
      rcases hDsub k hk with h | h
      · exact .inl h
      · exact .inr (by omega)
    have hend : ((J ((overRun f 0 xs).1.map (·.1)) D' (V.putObj K (.deferred none)) ∧ T (overRun f 0 xs).2 (V.putObj K (.deferred none))) ∨ ∃ pre2 x2 post2, (overRun f 0 xs).1.map (·.1) = pre2 ++ x2 :: post2 ∧ Jx (pre2 ++ [x2]) D' (V.putObj K (.deferred none)) ∧ OverStop f xs T (pre2.length + 1) (V.putObj K (.deferred none))) := by
      rcases h with ⟨hj, ht⟩ | ⟨pre2, y, post2, hx2, hj, ht⟩
      · exact .inl ⟨hJ _ _ _ _ hj ((Same.putObj V K (.deferred none)).mono hKD), hT _ _ _ ht (hfin.mono (fun k hk => by have := hfq k hk; omega))⟩
      · refine .inr ⟨pre2.map (·.1), y.1, post2.map (·.1), by rw [hx2]; simp, ?_, y, by rw [hx2]; simp, hT _ _ _ ht (hfin.mono (fun k hk => by have := hfq k hk; omega))⟩
        have := hJx _ _ _ _ hj ((Same.putObj V K (.deferred none)).mono hKD)
        simpa using this
    have HHold := Lib.hid hHold
    have Hs1 := Lib.hid hs1
    have Hx := Lib.hid hx
    have Hend := Lib.hid hend
    clear hx hHold hs1 hfin hKD hsub hlt hsame h hend
    gi_wp2
    refine ⟨by simp, .inl ⟨_, _, rfl, run_takeDeferred hdef, ?_⟩⟩
    exact ⟨_, results_none rfl _ _ _, Ended.mk D' hsub' hlt' hsame' Hend.out⟩
end Go.Proofs.Ytofkhcgkahkagaa
