/- slices.Clone of a row, and scan.Collect over every iterator that has its contract. -/
import Derived.Test.YtofkhcgkahkagaaScanC
import Derived.Maps.AppendAt
import Derived.RangeFuncBox
namespace Go.Proofs.Ytofkhcgkahkagaa
open Go.RowKit Go.Shelf Go.Proofs.YtofkhcgkahkagaaW.PrintWords Go.Proofs.YtofkhcgkahkagaaW.PrintLast Go.Proofs.YtofkhcgkahkagaaW.PrintMore Go.Proofs.Ytofkhcgkahkagaa.PScanMeters
attribute [local go_sem] Oper.semAt_some
set_option linter.unusedVariables false
set_option linter.unusedSimpArgs false

theorem info_value : (Try.prog.info? 66).map (fun i => (i.zero, i.size, i.bytes)) = some (some (.agg #[.int .i64 0, .int .i64 0, .string ⟨#[]⟩]), 3, 32) := by kernel_rfl
theorem info_row : (Try.prog.info? 64).map (fun i => (i.zero, i.size, i.bytes)) = some (some (.slice none 0 0), 1, 24) := by kernel_rfl

theorem reps_ones {α : Type} {R : α → List Value → Prop} {size : Nat} {ps : List α} {cs : List Value} (h : Reps R size ps cs) (hs : 0 < size) (hR : ∀ p c, R p c → ∀ u ∈ c, u.oneCell' = true) : ∀ u ∈ cs, u.oneCell' = true := by
  intro u hu
  obtain ⟨j, hj, rfl⟩ := List.getElem_of_mem hu
  have hlt : j / size < ps.length := by rw [Nat.div_lt_iff_lt_mul hs, ← h.1]; exact hj
  refine hR _ _ (h.2 (j / size) _ (List.getElem?_eq_getElem hlt)) _ ?_
  rw [List.mem_iff_getElem?]
  refine ⟨j % size, ?_⟩
  rw [List.getElem?_take_of_lt (Nat.mod_lt _ hs), List.getElem?_drop, Nat.div_add_mod' j size]
  exact List.getElem?_eq_getElem hj

set_option maxRecDepth 100000 in
set_option maxHeartbeats 2000000 in
theorem clone_calls (A : Option Addr) (c : Nat) (r : List S66) (w : World) (hC : k66.C w A r.length r) (hl : r.length ≤ 1000000) :
    Calls Try.prog 32 #[.slice A r.length c] w fun e w' => ∃ A' c', e = .returned (.slice A' r.length c') ∧ k66.R 66 w' w.heap.size (fun k => w.heap.size ≤ k) (.slice A' r.length c') r ∧ Below w.heap.size w w' := by
  have q22 : ∀ (w : World) (a : Option Addr) (n c n' c' : Nat), (binOp .eql 64 (.slice a n c) (.slice none n' c')).run Try.prog w = .ok (.bool a.isNone) w := fun w a n c n' c' => Lib.run_eql_slice_nil w _ _ a n c n' c' Try.underlying64
  cases A with
  | none =>
    have hr : r = [] := by
      have h := hC.2.2
      cases r with
      | nil => rfl
      | cons x r => obtain ⟨ad, he, _⟩ := h (by simp); cases he
    subst hr
    go_enter Try.func32, Try.ntmps32
    go_wp2
    go_ret
    exact ⟨none, 0, rfl, Kd.R_nil _ _ _ _ _, Below.refl _ _⟩
  | some ad =>
    obtain ⟨inner, hR, hcs⟩ := hC.inner_
    obtain ⟨i0, hi, hz0, hz1, hz2⟩ := info_parts info_value
    have h1 : ∀ u ∈ inner, u.oneCell' = true := reps_ones hR (by decide) (fun p c hp => k66.K_one hp)
    have HC := Aside0.mk hcs
    have HR := Aside0.mk hR
    have H1 := Aside0.mk h1
    clear hcs hR h1 hC
    go_enter Try.func32, Try.ntmps32
    go_wp2_with (at_builtin; refine wpList_append_own _ rfl _ _ 64 rfl w.heap.size 66 i0 _ 3 32 Try.underlying64 hi hz0 hz1 hz2 rfl (by decide) _ _ _ rfl (World.ownsRow_made w #[] 0 (Nat.le_refl _) (Nat.zero_le _) (by simp)) ad r.length c inner rfl ?qc1 ?qc2 ?qc3 ?qc4 ?qc5 ?qc6 ?_)
    case qc1 => exact HR.out.1
    case qc2 =>
      intro j u hj
      exact Lib.cell?_alloc_some _ (HC.out j u hj)
    case qc3 => exact H1.out
    case qc4 => rw [Nat.zero_add]; unfold maxLen; omega
    case qc5 => rw [Nat.zero_add]; omega
    case qc6 => simp
    intro v' w1 hown hgrow hnil
    have hb : Below w.heap.size w w1 := ((Below.refl _ w).alloc (Nat.le_refl _) _).grown hgrow (by simp) (by intro k hk; simp [Value.ownBlock] at hk; omega)
    have hR1 : k66.R 66 w1 w.heap.size (fun k => w.heap.size ≤ k) v' r := ⟨fun k hk => own_base hown k hk, inner, hown, HR.out.imp_ (fun p q hp => by rw [k66_open hp]; exact k66_mkM _ _ _ _)⟩
    obtain ⟨A', c', rfl⟩ := Kd.R_slice hR1
    go_wp2
    go_ret
    exact ⟨A', c', rfl, hR1, hb⟩

/-- append(v, x) as an equation of the run: v's row is owned, x's cells are made. -/
theorem append_made {α : Type} (d : Kd α) {P : Program} (base : Nat) (t ty e : TypeId) (z : Value) (bytes : Nat) (ht : P.underlying t = some (.slice e)) (hinfo : (P.info? e).map (fun i => (i.zero, i.size, i.bytes)) = some (some z, d.sz, bytes)) (hz : z.cells.size = d.sz) (hs0 : 0 < d.sz) (hb0 : 0 < bytes)
    (W : World) (v : Value) (xs : List α) (p : α) (cs : List Value) (ok okp : Nat → Prop) (hp : d.M W base okp p cs) (hokp : ∀ k, okp k → ok k ∧ some k ≠ v.ownBlock) (hfresh : ∀ k, W.heap.size ≤ k → ok k)
    (HO : d.R e W base ok v xs) (hbase : base ≤ W.heap.size) (hl : (xs.length + 1) * bytes ≤ 140737488355328) :
    ∃ A1 c1 w1, (Builtin.append_ #[t, t] ty #[v, .slice (some ⟨W.heap.size, 0, none⟩) 1 1]).run P (W.alloc (.cells cs.toArray e)) = .ok (.slice A1 (xs ++ [p]).length c1) w1 ∧ d.R e w1 base ok (.slice A1 (xs ++ [p]).length c1) (xs ++ [p]) ∧ W.grownBy w1 v.ownBlock := by
  obtain ⟨h0, inner, hown, hr⟩ := HO
  obtain ⟨i0, hi, hzz⟩ := Option.map_eq_some_iff.1 hinfo
  simp only [Prod.mk.injEq] at hzz
  obtain ⟨hz0, hz1, hz2⟩ := hzz
  have hlen : xs.length + 1 ≤ 140737488355328 := Nat.le_trans (Nat.le_mul_of_pos_right _ hb0) hl
  have hcl : cs.length = d.sz := d.K_len (d.K_of_M hp)
  obtain ⟨v1, w1, hrun, hown1, hg, _, hat⟩ := run_append_own_at (P := P) (W.alloc (.cells cs.toArray e)) base t ty e i0 z d.sz bytes ht hi hz0 hz1 hz2 hz hs0 v xs.length inner (hown.alloc _) ⟨W.heap.size, 0, none⟩ 1 1 cs (by rw [hcl]; simp)
    (by simpa using World.news_of_block (cs := cs.toArray) (t := e) (fr := (0, 0)) (heap_alloc_new W (.cells cs.toArray e))) (d.K_one (d.K_of_M hp)) (by simp only [maxLen]; omega) hl (by simp; omega)
  have hg1 : W.grownBy w1 v.ownBlock := World.grownBy.trans (World.grownBy_alloc W _ _) hg
  have hat1 : v1.ownBlock = v.ownBlock ∨ ∃ b, v1.ownBlock = some b ∧ W.heap.size ≤ b := by
    rcases hat with hat | hat
    · exact .inl hat
    · exact .inr ⟨_, hat, by simp⟩
  have hR := Kd.R_appended h0 hr hp hokp hfresh hown1 hg1 hat1
  obtain ⟨A, c, rfl⟩ := Kd.R_slice hR
  exact ⟨A, c, w1, hrun, hR, hg1⟩

/-- The builtin append as a step of a region inside a fence, by an equation of its run. -/
theorem stepIn_append {F : Fence} {n : Nat} {P : Program} {ops : Array Oper} {o : Oper} {a : Act} {w : World} {K : Act → World → Prop} {Q : Exit → Act → World → Prop} {s x : Operand} {t : TypeId} {v1 : Value} {w1 : World}
    (hop : o.op = Op.call { callee := Callee.builtin Builtin.append, args := #[s, x], argTypes := #[t, t] }) (hw : Region.wanted o (yielded ops a.tmps) = true)
    (hr : (Builtin.append_ #[t, t] o.type #[a.eval s, a.eval x]).run P w = .ok v1 w1) (hK : K (a.put o.dst v1) w1) :
    if Region.wanted o (yielded ops a.tmps) = true then Oper.wpIn F n P o a w K Q else (∀ f, o.about P w a.eval = some f → F.fn f) ∧ K (a.put o.dst undef) w := by
  rw [if_pos hw]
  unfold Oper.wpIn
  refine ⟨by simp [Oper.about, hop, resolve, Target.leads, Sem.run_pure], ?_⟩
  rw [Oper.semAt_plain F _ _ (by rw [hop]; intro c hc'; cases hc')]
  simp [execOp, hop, resolve, invoke, builtin, hr, Result.andThen]
  exact hK

/-- What scan.Collect leaves: all rows, copied, in memory of its own; or the first error. -/
def CollectEnd (xs : List (List S66 × Int)) (Done : World → Prop) (Stop : Nat → World → Prop) (w : World) (e : Ending) (w' : World) : Prop :=
  ((∀ y ∈ xs, y.2 = 0) ∧ (∃ A c, e = .returned (.tuple #[.slice A xs.length c, .int .i64 0]) ∧ (Kd.slice 66 k66).R 64 w' w.heap.size (fun k => w.heap.size ≤ k) (.slice A xs.length c) (xs.map (·.1))) ∧
    ∃ Wd, Done Wd ∧ Same (fun k => k < w.heap.size) Wd w') ∨
  (∃ pre r er post, xs = pre ++ (r, er) :: post ∧ (∀ y ∈ pre, y.2 = 0) ∧ er ≠ 0 ∧ e = .returned (.tuple #[.slice none 0 0, .int .i64 er]) ∧ ∃ Wd, Stop (pre.length + 1) Wd ∧ Same (fun k => k < w.heap.size) Wd w')

/-- Collect's own blocks between two rounds. -/
structure CollI (B base : Nat) (D : Nat → Prop) (rows : List (List S66)) (W : World) : Prop where
  d0 : D B
  d1 : D (B + 1)
  d2 : D (B + 2)
  b0 : W.heap[B]? = some (.cells #[.slice none 0 0] 22 (0, 0))
  b1 : W.heap[B + 1]? = some (.cells #[.int .i64 0] 27 (0, 0))
  out : ∃ v, W.heap[B + 2]? = some (.cells #[v] 22 (0, 0)) ∧ (Kd.slice 66 k66).R 64 W base (fun k => D k ∧ k ≠ B ∧ k ≠ B + 1 ∧ k ≠ B + 2) v rows

theorem all_ok {pre : List (List S66 × Int)} (h : ∀ y ∈ pre, y.2 = 0) (r : List S66) : ∀ y ∈ pre ++ [(r, (0 : Int))], y.2 = 0 := by
  intro y hy
  rcases List.mem_append.1 hy with hy | hy
  · exact h y hy
  · rw [List.mem_singleton.1 hy]

/-- A round that goes on has left this. -/
def RoundDone (D1 : Nat → Prop) (Vb : World) (B : Nat) (rows : List (List S66)) (W : World) : Prop := ∃ D', Turn D1 D' Vb W ∧ CollI B B D' rows W

theorem CollI.same {B base : Nat} {D : Nat → Prop} {rows : List (List S66)} {W W' : World} (h : CollI B base D rows W) (hs : Same D W W') : CollI B base D rows W' := by
  obtain ⟨h0, h1, h2, h3, h4, v, h5, h6⟩ := h
  exact ⟨h0, h1, h2, (hs.block _ h0).trans h3, (hs.block _ h1).trans h4, v, (hs.block _ h2).trans h5, Kd.R_step h6 (fun k hk _ => hs.block k hk.1)⟩

set_option maxRecDepth 100000 in
set_option maxHeartbeats 4000000 in
theorem collect_calls (gf : Nat) (lb : Array Value) (xs : List (List S66 × Int)) (X FpS FwS : Nat → Prop) (PreS DoneS : World → Prop) (StopS : Nat → World → Prop)
    (eg : ∀ args w, (callFunc gf args).run Try.prog w = .ok (.enter gf args) w) (hsrc : Iter Try.prog gf lb (RowEnc X) xs FpS FwS PreS DoneS StopS)
    (hlen : xs.length ≤ 1000000) (hrows : ∀ y ∈ xs, y.1.length ≤ 1000000) (w : World) (hpre : ∀ W, Below w.heap.size w W → PreS W) (hfp : ∀ k, FpS k → k < w.heap.size) :
    Calls Try.prog 10 #[.func (.func gf) #[] lb] w fun e w' => Same (fun k => k < w.heap.size ∧ ¬ FwS k) w w' ∧ CollectEnd xs DoneS StopS w e w' := by
  refine callsIn_wide (n := 0).1 ?_
  refine callsIn_of_wp_marks Try.func10 rfl trivial ?_ rfl
  simp only [Try.ntmps10, List.size_toArray, List.length_cons, List.length_nil, Nat.reduceAdd, Nat.reduceSub, Array.replicate_succ, Array.replicate_zero, List.push_toArray, List.append_toArray, List.nil_append, List.cons_append]
  have hnil := fun (w : World) (fn : Fn) (ts lb : Array Value) => run_eql_func_nil (P := Try.prog) w 31 fn ts lb Try.underlying31
  gi_wp2
  obtain ⟨W1, hW1⟩ : ∃ W1, ((w.alloc (.cells #[.slice none 0 0] 22)).alloc (.cells #[.int .i64 0] 27)).alloc (.cells #[.slice none 0 0] 22) = W1 := ⟨_, rfl⟩
  rw [hW1]
  have hB1 : Below w.heap.size w W1 := by rw [← hW1]; exact (((Below.refl _ w).alloc (Nat.le_refl _) _).alloc (by simp) _).alloc (by simp; omega) _
  have hs1 : W1.heap.size = w.heap.size + 3 := by rw [← hW1]; simp
  have h0 : CollI w.heap.size w.heap.size (fun k => w.heap.size ≤ k ∧ k < W1.heap.size) [] W1 := by
    rw [← hW1]
    refine ⟨⟨by omega, by simp only [World.size_alloc]; omega⟩, ⟨by omega, by simp only [World.size_alloc]; omega⟩, ⟨by omega, by simp only [World.size_alloc]; omega⟩, ?_, ?_, _, ?_, Kd.R_nil _ _ _ _ _⟩
    · exact (Below.heap_alloc _ _ _ (by simp; omega)).trans ((Below.heap_alloc _ _ _ (by simp)).trans (World.alloc_heap_new w _))
    · have := World.alloc_heap_new (w.alloc (.cells #[.slice none 0 0] 22)) (.cells #[.int .i64 0] 27)
      rw [World.size_alloc] at this
      exact (Below.heap_alloc _ _ _ (by simp)).trans this
    · have := World.alloc_heap_new ((w.alloc (.cells #[.slice none 0 0] 22)).alloc (.cells #[.int .i64 0] 27)) (.cells #[.slice none 0 0] 22)
      rw [World.size_alloc, World.size_alloc] at this
      exact this
  clear hW1
  refine wp_range (gf := gf) (lb := lb) rfl eg hsrc (fun V hV => hpre V (hB1.trans (hV.mono hB1.size))) (fun k hk => by have := hfp k hk; omega) RowEnc.size RowEnc.anti
    (fun k => w.heap.size ≤ k ∧ k < W1.heap.size) (fun k hk => ⟨hk.2, fun h => by have := hfp k h; omega⟩)
    (fun pre D V => (∀ y ∈ pre, y.2 = 0) ∧ CollI w.heap.size w.heap.size D (pre.map (·.1)) V)
    (fun c pre D V => c = .ret ∧ ∃ pre2 r er, pre = pre2 ++ [(r, er)] ∧ (∀ y ∈ pre2, y.2 = 0) ∧ er ≠ 0 ∧ D w.heap.size ∧ D (w.heap.size + 1) ∧ V.heap[w.heap.size]? = some (.cells #[.slice none 0 0] 22 (0, 0)) ∧ V.heap[w.heap.size + 1]? = some (.cells #[.int .i64 er] 27 (0, 0)))
    ?hI ?hIx ⟨by simp, h0⟩ ?round ?done ?stop
  case hI => exact fun pre D A B h hs => ⟨h.1, h.2.same hs⟩
  case hIx =>
    rintro c pre D A B ⟨hc, pre2, r, er, h1, h2, h3, h4, h5, h6, h7⟩ hs
    exact ⟨hc, pre2, r, er, h1, h2, h3, h4, h5, (hs.block _ h4).trans h6, (hs.block _ h5).trans h7⟩
  case round =>
    rintro l' pre ⟨r, e⟩ post D1 V Vb args hx hl' hnl _ _ ⟨hpre0, ⟨d0, d1, d2, b0, b1, v, b2, hR⟩⟩ hlt hsz hsub ⟨A, c, rfl, hrc, hF⟩ hsame hsize
    dsimp only at hrc hF
    have hFb : Kd.F k66 Vb (fun k => ¬ D1 k ∧ ¬ X k) A r.length r := Kd.F_mono (Kd.F_step hF (fun k hk _ => hsame.block k (fun h => hk.1 (.inr h)))) (fun k hk => ⟨fun h => hk.1 (.inl h), hk.2⟩)
    have hltb : ∀ k, D1 k → k < Vb.heap.size := fun k hk => by rw [← hsize]; exact hlt k hk
    have hrl : r.length ≤ 1000000 := hrows (r, e) (by rw [hx]; simp)
    have hpl : (pre.map (·.1)).length + 1 ≤ 1000000 := by
      have := congrArg List.length hx
      rw [List.length_append, List.length_cons] at this
      rw [List.length_map]
      omega
    by_cases he : e = 0
    · subst he
      have he2 : ((0 : Int) != 0) = false := rfl
      have hc2 : Vb.cell? ⟨w.heap.size + 1 + 1, 0, none⟩ = some v := by simp [World.cell?, b2]
      have hstep : ∀ (A2 : Option Addr) (c2 : Nat) (Wc : World), k66.R 66 Wc Vb.drew.heap.size (fun k => Vb.drew.heap.size ≤ k) (.slice A2 r.length c2) r → Below Vb.drew.heap.size Vb.drew Wc →
          ∃ A1 n1 c1 w1, (Builtin.append_ #[22, 22] 22 #[v, .slice (some ⟨Wc.heap.size, 0, none⟩) 1 1]).run Try.prog (Wc.alloc (.cells #[.slice A2 r.length c2] 64)) = .ok (.slice A1 n1 c1) w1 ∧ Wc.cell? ⟨w.heap.size + 1 + 1, 0, none⟩ = some v ∧ (Wc.alloc (.cells #[.slice A2 r.length c2] 64)).cell? ⟨w.heap.size + 1 + 1, 0, none⟩ = some v ∧ w1.cell? ⟨w.heap.size + 1 + 1, 0, none⟩ = some v ∧ w1.frozen? ⟨w.heap.size + 1 + 1, 0, none⟩ = false ∧
            RoundDone D1 Vb w.heap.size ((pre ++ [(r, (0 : Int))]).map (·.1)) (w1.setCell ⟨w.heap.size + 1 + 1, 0, none⟩ (.slice A1 n1 c1)) := by
        intro A2 c2 Wc hR2 hb2
        have hz : Vb.drew.heap.size = Vb.heap.size := rfl
        have hsz2 := hb2.size
        rw [hz] at hR2 hsz2
        have hbV : Below Vb.heap.size Vb Wc := ⟨hb2.os, hb2.tape, hb2.output, hb2.size, hb2.block⟩
        have hwV : w.heap.size + 3 ≤ Vb.heap.size := by omega
        have hRc := Kd.R_below hR hbV
        have hRb := Kd.R_bound hR
        have hvlt : ∀ k, v.ownBlock = some k → k < Vb.heap.size := fun k hk => Kd.R_lt hR k hk
        obtain ⟨A1, c1, w1, hrun, hR1, hg1⟩ := append_made (Kd.slice 66 k66) (P := Try.prog) w.heap.size 22 22 64 _ 24 Try.underlying22 info_row rfl (by decide) (by decide) Wc v (pre.map (·.1)) r [.slice A2 r.length c2] (fun k => (D1 k ∧ k ≠ w.heap.size ∧ k ≠ w.heap.size + 1 ∧ k ≠ w.heap.size + 2) ∨ Vb.heap.size ≤ k) (fun k => Vb.heap.size ≤ k) ⟨_, rfl, Kd.R_lower hR2 (by omega)⟩
          (fun k hk => ⟨.inr hk, fun he => by have := hvlt k he.symm; omega⟩) (fun k hk => .inr (by omega)) (Kd.R_mono hRc (fun k hk => .inl hk)) (by omega) (by omega)
        have hne : ∀ k, k = w.heap.size ∨ k = w.heap.size + 1 ∨ k = w.heap.size + 2 → some k ≠ v.ownBlock := fun k hk he => by
          have := hR.1 k he.symm
          omega
        have hkeep : ∀ k, k < Vb.heap.size → some k ≠ v.ownBlock → w1.heap[k]? = Vb.heap[k]? := fun k hk hk2 => (hg1.block k (by omega) hk2).trans (hbV.block k hk)
        have b2w : w1.heap[w.heap.size + 1 + 1]? = some (.cells #[v] 22 (0, 0)) := (hkeep _ (by omega) (hne _ (.inr (.inr rfl)))).trans b2
        have b2c : Wc.heap[w.heap.size + 1 + 1]? = some (.cells #[v] 22 (0, 0)) := (hbV.block _ (by omega)).trans b2
        refine ⟨A1, _, c1, w1, hrun, by simp [World.cell?, b2c], Lib.cell?_alloc_some _ (by simp [World.cell?, b2c]), by simp [World.cell?, b2w], by simp [World.frozen?, b2w], ?_⟩
        have hz1 := hg1.size
        refine ⟨fun k => D1 k ∨ (Vb.heap.size ≤ k ∧ k < w1.heap.size), ⟨fun k hk => hk.elim .inl (fun h => .inr h.1), fun k hk => ?_, ?_⟩, ⟨.inl d0, .inl d1, .inl d2, ?_, ?_, .slice A1 (pre.map (·.1) ++ [r]).length c1, ?_, ?_⟩⟩
        · rcases hk with hk | hk
          · have := hltb k hk; simp [World.setCell]; omega
          · simpa [World.setCell] using hk.2
        · refine ⟨hg1.os.trans hbV.os, hg1.tape.trans hbV.tape, hg1.output.trans hbV.output, by simp [World.setCell]; omega, fun k hk => (Below.heap_setCell _ _ _ _ (fun e => hk.2 (by rw [show k = w.heap.size + 1 + 1 from e]; exact d2))).trans (hkeep k hk.1 (fun he => hk.2 (hR.1 k he.symm).1))⟩
        · exact blk_far ((hkeep _ (by omega) (hne _ (.inl rfl))).trans b0) (show w.heap.size ≠ w.heap.size + 1 + 1 by omega) _
        · exact blk_far ((hkeep _ (by omega) (hne _ (.inr (.inl rfl)))).trans b1) (show w.heap.size + 1 ≠ w.heap.size + 1 + 1 by omega) _
        · exact blk_set b2w 0 _
        · rw [List.map_append]
          refine Kd.R_mono (Kd.R_far (Kd.R_bound hR1) (p := ⟨w.heap.size + 1 + 1, 0, none⟩) (fun k hk => ?_) _) (fun k hk => ?_)
          · show k ≠ w.heap.size + 1 + 1
            rcases hk.1 with h | h
            · exact h.2.2.2
            · omega
          · rcases hk.1 with h | h
            · exact ⟨.inl h.1, h.2⟩
            · exact ⟨.inr ⟨h, hk.2.2.1⟩, by omega, by omega, by omega⟩
      have Hx := Lib.hid hx
      have Hsize := Lib.hid hsize
      have Hs1 := Lib.hid hs1
      clear hx hsize hs1
      have hmx : Try.prog.follows .mixedOrders = true := by kernel_rfl
      gi_wp2
      refine ⟨trivial, ?_⟩
      gi_wp2
      refine wpIn_region_any hmx ?_
      change wpAnyIn _ _ _ _ _ _ _ _ _ (World.drew _)
      refine wpAnyIn_ready (rs := [0, 1]) (by kernel_rfl) (by simp) (AllReadyIn.cons rfl (fun K hK => ?_) (AllReadyIn.cons rfl (fun K hK => ?_) AllReadyIn.nil))
      · go_simp
        refine hK _ _ ?_
        clear hK K
        refine wpAnyIn_ready (rs := [1]) (by kernel_rfl) (by simp) (AllReadyIn.cons rfl (fun K hK => ?_) AllReadyIn.nil)
        go_simp
        refine hK _ _ ?_
        clear hK K
        refine wpAnyIn_ready (rs := [2]) (by kernel_rfl) (by simp) (AllReadyIn.cons rfl (fun K hK => ?_) AllReadyIn.nil)
        go_simp
        refine ⟨trivial, rfl, ?_⟩
        refine (CallsIn.inRound l' (callsIn_wide.2 (clone_calls A c r _ (Kd.F_now (Kd.F_drew hFb)) hrl))).mono ?_
        rintro e Wc ⟨A2, c2, rfl, hR2, hb2⟩
        obtain ⟨A1, n1, c1, w1, hrun, hw1, hw1', hw2, hw3, hw4⟩ := hstep A2 c2 Wc hR2 hb2
        refine hK _ _ ?_
        clear hK K
        refine wpAnyIn_ready (rs := [3]) (by kernel_rfl) (by simp) (AllReadyIn.cons rfl (fun K hK => ?_) AllReadyIn.nil)
        go_simp
        refine hK _ _ ?_
        clear hK K
        refine wpAnyIn_ready (rs := [4]) (by kernel_rfl) (by simp) (AllReadyIn.cons rfl (fun K hK => ?_) AllReadyIn.nil)
        refine stepIn_append rfl rfl hrun ?_
        refine hK _ _ ?_
        clear hK K
        refine wpAnyIn_ready (rs := [5]) (by kernel_rfl) (by simp) (AllReadyIn.cons rfl (fun K hK => ?_) AllReadyIn.nil)
        go_simp
        refine hK _ _ ?_
        clear hK K
        refine wpAnyIn_done (by kernel_rfl) ?_ _
        gi_wp2
        obtain ⟨D', hT, hC⟩ := hw4
        exact ⟨D', hT, all_ok hpre0 r, hC⟩
      · go_simp
        refine hK _ _ ?_
        clear hK K
        refine wpAnyIn_ready (rs := [0, 2]) (by kernel_rfl) (by simp) (AllReadyIn.cons rfl (fun K hK => ?_) (AllReadyIn.cons rfl (fun K hK => ?_) AllReadyIn.nil))
        · go_simp
          refine hK _ _ ?_
          clear hK K
          refine wpAnyIn_ready (rs := [2]) (by kernel_rfl) (by simp) (AllReadyIn.cons rfl (fun K hK => ?_) AllReadyIn.nil)
          go_simp
          refine ⟨trivial, rfl, ?_⟩
          refine (CallsIn.inRound l' (callsIn_wide.2 (clone_calls A c r _ (Kd.F_now (Kd.F_drew hFb)) hrl))).mono ?_
          rintro e Wc ⟨A2, c2, rfl, hR2, hb2⟩
          obtain ⟨A1, n1, c1, w1, hrun, hw1, hw1', hw2, hw3, hw4⟩ := hstep A2 c2 Wc hR2 hb2
          refine hK _ _ ?_
          clear hK K
          refine wpAnyIn_ready (rs := [3]) (by kernel_rfl) (by simp) (AllReadyIn.cons rfl (fun K hK => ?_) AllReadyIn.nil)
          go_simp
          refine hK _ _ ?_
          clear hK K
          refine wpAnyIn_ready (rs := [4]) (by kernel_rfl) (by simp) (AllReadyIn.cons rfl (fun K hK => ?_) AllReadyIn.nil)
          refine stepIn_append rfl rfl hrun ?_
          refine hK _ _ ?_
          clear hK K
          refine wpAnyIn_ready (rs := [5]) (by kernel_rfl) (by simp) (AllReadyIn.cons rfl (fun K hK => ?_) AllReadyIn.nil)
          go_simp
          refine hK _ _ ?_
          clear hK K
          refine wpAnyIn_done (by kernel_rfl) ?_ _
          gi_wp2
          obtain ⟨D', hT, hC⟩ := hw4
          exact ⟨D', hT, all_ok hpre0 r, hC⟩
        · go_simp
          refine ⟨trivial, rfl, ?_⟩
          refine (CallsIn.inRound l' (callsIn_wide.2 (clone_calls A c r _ (Kd.F_now (Kd.F_drew hFb)) hrl))).mono ?_
          rintro e Wc ⟨A2, c2, rfl, hR2, hb2⟩
          obtain ⟨A1, n1, c1, w1, hrun, hw1, hw1', hw2, hw3, hw4⟩ := hstep A2 c2 Wc hR2 hb2
          refine hK _ _ ?_
          clear hK K
          refine wpAnyIn_ready (rs := [0, 3]) (by kernel_rfl) (by simp) (AllReadyIn.cons rfl (fun K hK => ?_) (AllReadyIn.cons rfl (fun K hK => ?_) AllReadyIn.nil))
          · go_simp
            refine hK _ _ ?_
            clear hK K
            refine wpAnyIn_ready (rs := [3]) (by kernel_rfl) (by simp) (AllReadyIn.cons rfl (fun K hK => ?_) AllReadyIn.nil)
            go_simp
            refine hK _ _ ?_
            clear hK K
            refine wpAnyIn_ready (rs := [4]) (by kernel_rfl) (by simp) (AllReadyIn.cons rfl (fun K hK => ?_) AllReadyIn.nil)
            refine stepIn_append rfl rfl hrun ?_
            refine hK _ _ ?_
            clear hK K
            refine wpAnyIn_ready (rs := [5]) (by kernel_rfl) (by simp) (AllReadyIn.cons rfl (fun K hK => ?_) AllReadyIn.nil)
            go_simp
            refine hK _ _ ?_
            clear hK K
            refine wpAnyIn_done (by kernel_rfl) ?_ _
            gi_wp2
            obtain ⟨D', hT, hC⟩ := hw4
            exact ⟨D', hT, all_ok hpre0 r, hC⟩
          · go_simp
            refine hK _ _ ?_
            clear hK K
            refine wpAnyIn_ready (rs := [0]) (by kernel_rfl) (by simp) (AllReadyIn.cons rfl (fun K hK => ?_) AllReadyIn.nil)
            go_simp
            refine hK _ _ ?_
            clear hK K
            refine wpAnyIn_ready (rs := [4]) (by kernel_rfl) (by simp) (AllReadyIn.cons rfl (fun K hK => ?_) AllReadyIn.nil)
            refine stepIn_append rfl rfl hrun ?_
            refine hK _ _ ?_
            clear hK K
            refine wpAnyIn_ready (rs := [5]) (by kernel_rfl) (by simp) (AllReadyIn.cons rfl (fun K hK => ?_) AllReadyIn.nil)
            go_simp
            refine hK _ _ ?_
            clear hK K
            refine wpAnyIn_done (by kernel_rfl) ?_ _
            gi_wp2
            obtain ⟨D', hT, hC⟩ := hw4
            exact ⟨D', hT, all_ok hpre0 r, hC⟩
    · have he2 : ((e : Int) != 0) = true := by simpa using he
      have hc0 : Vb.cell? ⟨w.heap.size, 0, none⟩ = some (.slice none 0 0) := by simp [World.cell?, b0]
      have hf0 : Vb.frozen? ⟨w.heap.size, 0, none⟩ = false := by simp [World.frozen?, b0]
      have hc1 : Vb.cell? ⟨w.heap.size + 1, 0, none⟩ = some (.int .i64 0) := by simp [World.cell?, b1]
      have hf1 : Vb.frozen? ⟨w.heap.size + 1, 0, none⟩ = false := by simp [World.frozen?, b1]
      have Hx := Lib.hid hx
      have Hsize := Lib.hid hsize
      have Hs1 := Lib.hid hs1
      clear hx hsize hs1
      gi_wp2
      refine ⟨trivial, ?_⟩
      gi_wp2
      have ht := (Turn.set hltb (p := ⟨w.heap.size, 0, none⟩) d0 (.slice none 0 0)).trans (Turn.set (fun k hk => by simpa [World.setCell] using hltb k hk) (p := ⟨w.heap.size + 1, 0, none⟩) d1 (.int .i64 e))
      exact ⟨D1, ht, rfl, pre, r, e, rfl, hpre0, he, d0, d1, blk_far (blk_set b0 0 _) (show w.heap.size ≠ w.heap.size + 1 by omega) _, blk_set (blk_far b1 (show w.heap.size + 1 ≠ w.heap.size by omega) _) 0 _⟩
  case done =>
    rintro K D1 V hK hsub hnK hlt hsame ⟨hall, d0, d1, d2, b0, b1, v, b2, hR⟩ ⟨Wd, hdn, hdS⟩ hdef
    have hc0 : V.cell? ⟨w.heap.size, 0, none⟩ = some (.slice none 0 0) := by simp [World.cell?, b0]
    have hf0 : V.frozen? ⟨w.heap.size, 0, none⟩ = false := by simp [World.frozen?, b0]
    have hc1 : V.cell? ⟨w.heap.size + 1, 0, none⟩ = some (.int .i64 0) := by simp [World.cell?, b1]
    have hf1 : V.frozen? ⟨w.heap.size + 1, 0, none⟩ = false := by simp [World.frozen?, b1]
    have hc2 : V.cell? ⟨w.heap.size + 1 + 1, 0, none⟩ = some v := by simp [World.cell?, b2]
    obtain ⟨A, c, rfl⟩ := Kd.R_slice hR
    have hKne : K ≠ w.heap.size ∧ K ≠ w.heap.size + 1 := ⟨fun h => hnK (h ▸ d0), fun h => hnK (h ▸ d1)⟩
    rw [List.length_map] at hR hc2
    obtain ⟨V2, hV2⟩ : ∃ V2, (V.setCell ⟨w.heap.size, 0, none⟩ (.slice A xs.length c)).setCell ⟨w.heap.size + 1, 0, none⟩ (.int .i64 0) = V2 := ⟨_, rfl⟩
    have hg : Same (fun k => k ≠ w.heap.size ∧ k ≠ w.heap.size + 1) V V2 := by
      rw [← hV2]
      exact ⟨rfl, rfl, rfl, by simp [World.setCell], fun k hk => (Below.heap_setCell _ _ _ _ hk.2).trans (Below.heap_setCell _ _ _ _ hk.1)⟩
    have hdef2 : V2.heap[K]? = some (.deferred (some [])) := (hg.block K hKne).trans hdef
    have e0 : V2.heap[w.heap.size]? = some (.cells #[.slice A xs.length c] 22 (0, 0)) := by rw [← hV2]; exact blk_far (blk_set b0 0 _) (show w.heap.size ≠ w.heap.size + 1 by omega) _
    have e1 : V2.heap[w.heap.size + 1]? = some (.cells #[.int .i64 0] 27 (0, 0)) := by rw [← hV2]; exact blk_set (blk_far b1 (show w.heap.size + 1 ≠ w.heap.size by omega) _) 0 _
    obtain ⟨V3, hV3⟩ : ∃ V3, V2.putObj K (.deferred none) = V3 := ⟨_, rfl⟩
    have hg3 : Same (fun k => k ≠ K) V2 V3 := by rw [← hV3]; exact Same.putObj _ _ _
    have q0 : V3.cell? ⟨w.heap.size, 0, none⟩ = some (.slice A xs.length c) := by have := (hg3.block _ (Ne.symm hKne.1)).trans e0; simp [World.cell?, this]
    have q1 : V3.cell? ⟨w.heap.size + 1, 0, none⟩ = some (.int .i64 0) := by have := (hg3.block _ (Ne.symm hKne.2)).trans e1; simp [World.cell?, this]
    have hR3 : (Kd.slice 66 k66).R 64 V3 w.heap.size (fun k => w.heap.size ≤ k) (.slice A xs.length c) (xs.map (·.1)) := by
      refine Kd.R_mono (Kd.R_step (Kd.R_step (Kd.R_bound hR) (fun k hk _ => hg.block k ⟨hk.1.2.1, hk.1.2.2.1⟩)) (fun k hk _ => hg3.block k (fun h => hnK (h ▸ hk.1.1)))) (fun k hk => hk.2.1)
    have hlow : Same (fun k => k < w.heap.size) V V3 := (hg.mono (fun k hk => ⟨by omega, by omega⟩)).trans' (hg3.mono (fun k hk => by omega))
    have hlow2 : Same (fun k => k < w.heap.size ∧ ¬ FwS k) w V3 := ((Same.of_below hB1).mono (fun k hk => hk.1)).trans (hsame.trans hlow (fun k hk => ⟨by omega, fun h => by omega, hk.2⟩) (fun k hk => hk.1)) (fun k hk => hk) (fun k hk => hk)
    have hfin : CollectEnd xs DoneS StopS w (.returned (.tuple #[.slice A xs.length c, .int .i64 0])) V3 := .inl ⟨hall, ⟨A, c, rfl, hR3⟩, Wd, hdn, (hdS.mono (fun k hk => by omega)).trans' hlow⟩
    have HS1 := Lib.hid hs1
    have HV3 := Lib.hid hV3
    clear hs1 hV3 hall
    gi_wp2
    refine ⟨by simp, .inl ⟨_, _, rfl, run_takeDeferred hdef2, ?_⟩⟩
    rw [HV3.out]
    exact ⟨.tuple #[.slice A xs.length c, .int .i64 0], by simp [results, Try.results10, go_sem, q0, q1], hlow2, hfin⟩
  case stop =>
    rintro K c pre x post D1 V hx hK hsub hnK hlt hsame ⟨rfl, pre2, r, er, hp, hall, her, d0, d1, b0, b1⟩ ⟨Wd, hdn, hdS⟩ hdef
    obtain ⟨rfl, rfl⟩ : pre = pre2 ∧ x = (r, er) := by
      have h1 := congrArg List.length hp
      simp only [List.length_append, List.length_singleton] at h1
      have h2 := List.append_inj hp (by omega)
      exact ⟨h2.1, by simpa using h2.2⟩
    have hKne : K ≠ w.heap.size ∧ K ≠ w.heap.size + 1 := ⟨fun h => hnK (h ▸ d0), fun h => hnK (h ▸ d1)⟩
    obtain ⟨V3, hV3⟩ : ∃ V3, V.putObj K (.deferred none) = V3 := ⟨_, rfl⟩
    have hg3 : Same (fun k => k ≠ K) V V3 := by rw [← hV3]; exact Same.putObj _ _ _
    have q0 : V3.cell? ⟨w.heap.size, 0, none⟩ = some (.slice none 0 0) := by have := (hg3.block _ (Ne.symm hKne.1)).trans b0; simp [World.cell?, this]
    have q1 : V3.cell? ⟨w.heap.size + 1, 0, none⟩ = some (.int .i64 er) := by have := (hg3.block _ (Ne.symm hKne.2)).trans b1; simp [World.cell?, this]
    have hlow : Same (fun k => k < w.heap.size) V V3 := hg3.mono (fun k hk => by omega)
    have hlow2 : Same (fun k => k < w.heap.size ∧ ¬ FwS k) w V3 := ((Same.of_below hB1).mono (fun k hk => hk.1)).trans (hsame.trans hlow (fun k hk => ⟨by omega, fun h => by omega, hk.2⟩) (fun k hk => hk.1)) (fun k hk => hk) (fun k hk => hk)
    have hfin : CollectEnd xs DoneS StopS w (.returned (.tuple #[.slice none 0 0, .int .i64 er])) V3 := .inr ⟨pre, r, er, post, hx, hall, her, rfl, Wd, hdn, (hdS.mono (fun k hk => by omega)).trans' hlow⟩
    have HS1 := Lib.hid hs1
    have HV3 := Lib.hid hV3
    clear hs1 hV3 hall hp hx
    gi_wp2
    refine ⟨by simp, .inl ⟨_, _, rfl, run_takeDeferred hdef, ?_⟩⟩
    rw [HV3.out]
    exact ⟨.tuple #[.slice none 0 0, .int .i64 er], by simp [results, Try.results10, go_sem, q0, q1], hlow2, hfin⟩
end Go.Proofs.Ytofkhcgkahkagaa
