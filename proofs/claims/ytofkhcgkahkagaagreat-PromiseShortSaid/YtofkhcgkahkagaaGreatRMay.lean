/- The reference's May of a ledger answers as ledger.Check does. -/
import Derived.Test.YtofkhcgkahkagaaGreatPCheck
import Derived.Test.YtofkhcgkahkagaaGreatRLed
namespace Go.Proofs.YtofkhcgkahkagaaGreat
open Go.RowKit Go.Proofs.YtofkhcgkahkagaaGreatW.PrintWords Go.Proofs.YtofkhcgkahkagaaGreatW.PrintLast Go.Proofs.YtofkhcgkahkagaaGreatW.PrintMore Go.Proofs.YtofkhcgkahkagaaGreat.PPromiseShort
set_option linter.unusedVariables false
set_option linter.unusedSimpArgs false

theorem name6_calls (s : ByteArray) (w : World) : Calls Tryz.prog 90 #[.string s] w fun e w' => e = .returned (.bool (nameB s)) ∧ w' = w := by
  by_cases h1 : 1 ≤ s.size
  · have h1b : decide (1 ≤ (s.size : Int)) = true := decide_eq_true (by omega)
    have h1c : decide (1 ≤ s.size) = true := decide_eq_true h1
    have hn : nameB s = decide ((s.size : Int) ≤ 64) := by unfold nameB; rw [decide_eq_decide]; omega
    rw [hn]
    clear h1 hn
    go_enter Tryz.func90, Tryz.ntmps90
    go_wp2
    go_ret
    exact ⟨rfl, rfl⟩
  · have h1b : decide (1 ≤ (s.size : Int)) = false := decide_eq_false (by omega)
    have h1c : decide (1 ≤ s.size) = false := decide_eq_false h1
    have hn : nameB s = false := by unfold nameB; rw [decide_eq_false_iff_not]; omega
    rw [hn]
    clear h1 hn
    go_enter Tryz.func90, Tryz.ntmps90
    go_wp2
    go_ret
    exact ⟨rfl, rfl⟩

theorem wpStill_unwanted {P : Program} {ops : Array Oper} {w : World} {Q : Act → Prop} {a : Act} {o : Oper} {rest : List Oper} (hw : Region.wanted o (yielded ops a.tmps) = false) (h : wpStill P ops w Q rest (a.put o.dst undef)) : wpStill P ops w Q (o :: rest) a := by
  refine wpStill_step (fun K hK => ?_)
  rw [if_neg (by rw [hw]; decide)]
  exact hK _ h

/-- How the reference's May ends. -/
def RmEnd (P : Prop) (w : World) (e : Ending) (w' : World) : Prop := (P → e = .returned (.bool true)) ∧ (¬ P → e = .returned (.bool false)) ∧ Below w.heap.size w w'

/-- So many stocks may be. -/
def RmI (l0 : List S165) (l1 : List S172) (l2 : List S176) (k : Nat) : Prop := ∀ j (h : j < l0.length), j < k → stB l0 j l0[j] ∧ sumOf (heldF l1 (stP l0[j])) = (l0[j].f3, 0) ∧ sumOf (movedF l2 (stP l0[j])) = (l0[j].f2, 0)
theorem RmI.step {l0 : List S165} {l1 : List S172} {l2 : List S176} {k : Nat} {s : S165} (h : RmI l0 l1 l2 k) (hlt : k < l0.length) (hs : s = l0[k]) (h1 : stB l0 k s) (h2 : sumOf (heldF l1 (stP s)) = (s.f3, 0) ∧ sumOf (movedF l2 (stP s)) = (s.f2, 0)) : RmI l0 l1 l2 (k + 1) := fun j hj hjk => by
  rcases Nat.lt_or_ge j k with h3 | h3
  · exact h j hj h3
  · obtain rfl : j = k := by omega
    rw [← hs]
    exact ⟨h1, h2⟩

set_option maxRecDepth 100000 in
set_option maxHeartbeats 4000000 in
theorem rmay_try (l0 : List S165) (l1 : List S172) (l2 : List S176) (A0 : Option Addr) (c0 : Nat) (A1 : Option Addr) (c1 : Nat) (A2 : Option Addr) (c2 : Nat) (ops : Int) (w : World) (hL : LedgerAt l0 l1 l2 A0 c0 A1 c1 A2 c2 w) (hF : FewL l0 l1 l2) :
    Calls Tryz.prog 46 #[.agg #[.slice A0 l0.length c0, .slice A1 l1.length c1, .slice A2 l2.length c2, .int .i64 ops]] w (RmEnd (CkP l0 l1 l2 ops) w) := by
  have hu0 := Tryz.underlying165
  have hu3 := Tryz.underlying55
  obtain ⟨hF0, hF1, hF2, hG0, hG1, hG2⟩ := hF
  have hsums := fun (s : S165) => sums_law l0 l1 l2 ops s hG1 hG2 (by omega) (by omega) 1000 (by omega)
  have hholds := holds_law l0 l1 l2 ops hG1 (by omega) (by omega) 1000 (by omega)
  have hmoves := moves_law l0 l1 l2 ops hG2 (by omega) (by omega) 1000 (by omega)
  have Hsums := Lib.hid hsums
  have Hholds := Lib.hid hholds
  have Hmoves := Lib.hid hmoves
  clear hsums hholds hmoves
  have hbox := fun o => (Below.refl w.heap.size w).alloc (Nat.le_refl _) o
  by_cases hops0 : 0 ≤ ops
  rotate_left
  · have hops : decide (ops < 0) = true := decide_eq_true (by omega)
    have hno := Lib.hid (fun h2 : CkP l0 l1 l2 ops => hops0 h2.1)
    clear hops0
    go_enter Tryz.func46, Tryz.ntmps46
    go_wp2
    go_ret
    exact ⟨fun h2 => (hno.out h2).elim, fun _ => rfl, hbox _⟩
  have hops : decide (ops < 0) = false := decide_eq_false (by omega)
  have m0 : decide ((4096 : Int) < (l0.length : Int)) = false := decide_eq_false (by omega)
  have m1 : decide ((4096 : Int) < (l1.length : Int)) = false := decide_eq_false (by omega)
  have m2 : decide ((4096 : Int) < (l2.length : Int)) = false := decide_eq_false (by omega)
  have m3 : decide (4096 < l0.length) = false := decide_eq_false (by omega)
  have m4 : decide (4096 < l1.length) = false := decide_eq_false (by omega)
  have m5 : decide (4096 < l2.length) = false := decide_eq_false (by omega)
  go_enter Tryz.func46, Tryz.ntmps46
  go_wp2
  clear m0 m1 m2 m3 m4 m5
  obtain ⟨W0, hW0⟩ : ∃ W0, w.alloc (.cells #[.slice A0 l0.length c0, .slice A1 l1.length c1, .slice A2 l2.length c2, .int .i64 ops] 55) = W0 := ⟨_, rfl⟩
  have hL0 : CkL w A0 l0.length c0 A1 l1.length c1 A2 l2.length c2 ops W0 := by rw [← hW0]; exact ⟨hbox _, heap_alloc_new w _⟩
  rw [hW0]
  clear hW0 hbox
  go_loopw [3] (fun i wr => ∃ k : Nat, k ≤ l0.length ∧ i = .int .i64 k ∧ CkL w A0 l0.length c0 A1 l1.length c1 A2 l2.length c2 ops wr ∧ RmI l0 l1 l2 k)
    (fun i _ => l0.length - (intOf i).toNat)
  case atStart => exact ⟨0, Nat.zero_le _, rfl, hL0, fun j h hj => absurd hj (Nat.not_lt_zero _)⟩
  clear hL0
  case round =>
    obtain ⟨k, hk, rfl, hLw, hI⟩ := hrel
    have hcl0 : wr.cell? ⟨w.heap.size, 0, none⟩ = some (.slice A0 l0.length c0) := (blk_cell hLw.led 0).trans rfl
    have hcl1 : wr.cell? ⟨w.heap.size, 1, none⟩ = some (.slice A1 l1.length c1) := (blk_cell hLw.led 1).trans rfl
    have hcl2 : wr.cell? ⟨w.heap.size, 2, none⟩ = some (.slice A2 l2.length c2) := (blk_cell hLw.led 2).trans rfl
    have hcl3 : wr.cell? ⟨w.heap.size, 3, none⟩ = some (.int .i64 ops) := (blk_cell hLw.led 3).trans rfl
    by_cases hlt : k < l0.length
    -- <L1
    · have hd : decide ((k : Int) < (l0.length : Int)) = true := decide_eq_true (by omega)
      obtain ⟨ad, rfl, hx0, hx1, hx2, hx3⟩ := at_T165 hL.r0 k (by omega) (by omega)
      rw [Int.toNat_natCast] at hx0 hx1 hx2 hx3
      have hy0 := cell_below hLw.low hx0
      have hy1 := cell_below hLw.low hx1
      have hy2 := cell_below hLw.low hx2
      have hy3 := cell_below hLw.low hx3
      rw [rd_S hlt] at hy0 hy1 hy2 hy3
      obtain ⟨s, hs⟩ : ∃ s, s = l0[k] := ⟨_, rfl⟩
      rw [← hs] at hy0 hy1 hy2 hy3
      have hneg := Lib.hid (show CkP l0 l1 l2 ops → stB l0 k s ∧ sumOf (heldF l1 (stP s)) = (s.f3, 0) ∧ sumOf (movedF l2 (stP s)) = (s.f2, 0) from fun h2 => by rw [hs]; exact ⟨h2.2.1 k hlt, h2.2.2.2.2 k hlt⟩)
      have Hs := Lib.hid hs
      have HI := Lib.hid hI
      clear hs hI hx0 hx1 hx2 hx3
      obtain ⟨W1, hW1⟩ : ∃ W1, wr.alloc (.cells #[.string s.f0, .string s.f1, .int .i64 s.f2, .int .i64 s.f3] 165) = W1 := ⟨_, rfl⟩
      have hBw : Below wr.heap.size wr W1 := by rw [← hW1]; exact (Below.refl _ _).alloc (Nat.le_refl _) _
      have hz0 : W1.cell? ⟨wr.heap.size, 0, none⟩ = some (.string s.f0) := by rw [← hW1]; simp
      have hz1 : W1.cell? ⟨wr.heap.size, 1, none⟩ = some (.string s.f1) := by rw [← hW1]; simp
      have hz2 : W1.cell? ⟨wr.heap.size, 2, none⟩ = some (.int .i64 s.f2) := by rw [← hW1]; simp
      have hz3 : W1.cell? ⟨wr.heap.size, 3, none⟩ = some (.int .i64 s.f3) := by rw [← hW1]; simp
      have hl0' := cell_below hBw hcl0
      have hl1' := cell_below hBw hcl1
      have hl2' := cell_below hBw hcl2
      have hl3' := cell_below hBw hcl3
      have hL1 := hLw.below hBw
      have hBw1 := hL1.low
      have HL1 := Lib.hid hL1
      clear hLw hL1
      cases n0 : nameB s.f0 with
      | false =>
        have hno := Lib.hid (fun h2 : CkP l0 l1 l2 ops => show False from by have := (hneg.out h2).1.1; rw [n0] at this; cases this)
        go_wp2
        go_quiet (first | (go_at_call 90; exact Calls.quiet_of_same (name6_calls _ _)))
        go_wp2
        go_ret
        exact ⟨fun h2 => (hno.out h2 : False).elim, fun _ => rfl, pw_below_drewN hBw1 nq⟩
      | true =>
        cases n1 : nameB s.f1 with
        | false =>
          have hno := Lib.hid (fun h2 : CkP l0 l1 l2 ops => show False from by have := (hneg.out h2).1.2.1; rw [n1] at this; cases this)
          go_wp2
          go_quiet (first | (go_at_call 90; exact Calls.quiet_of_same (name6_calls _ _)))
          go_wp2
          go_ret
          exact ⟨fun h2 => (hno.out h2 : False).elim, fun _ => rfl, pw_below_drewN hBw1 nq⟩
        | true =>
          by_cases n2 : s.f3 < 0
          · have n2b : decide (s.f3 < 0) = true := decide_eq_true n2
            have hno := Lib.hid (fun h2 : CkP l0 l1 l2 ops => show False from by have := (hneg.out h2).1.2.2.1; omega)
            clear n2
            go_wp2
            go_quiet (first | (go_at_call 90; exact Calls.quiet_of_same (name6_calls _ _)))
            go_wp2
            go_ret
            exact ⟨fun h2 => (hno.out h2).elim, fun _ => rfl, pw_below_drewN hBw1 nq⟩
          · have n2b : decide (s.f3 < 0) = false := decide_eq_false n2
            by_cases n3 : s.f2 < s.f3
            · have n3b : decide (s.f2 < s.f3) = true := decide_eq_true n3
              have hno := Lib.hid (fun h2 : CkP l0 l1 l2 ops => show False from by have := (hneg.out h2).1.2.2.2.1; omega)
              clear n2 n3
              go_wp2
              go_quiet (first | (go_at_call 90; exact Calls.quiet_of_same (name6_calls _ _)))
              go_wp2
              go_ret
              exact ⟨fun h2 => (hno.out h2).elim, fun _ => rfl, pw_below_drewN hBw1 nq⟩
            · have n3b : decide (s.f2 < s.f3) = false := decide_eq_false n3
              have hst := Lib.hid (show (0 < k → ordP (stP (l0.getD (k - 1) z165)) (stP s) < 0) → stB l0 k s from fun h => ⟨n0, n1, by omega, by omega, h⟩)
              clear n2 n3
              obtain ⟨r, hr, hiff⟩ := Hsums.out s
              have Hiff := Lib.hid hiff
              clear hiff
              have hsum := fun V (hV : Below W1.heap.size W1 V) => quaysideref07_sums.calls 1000 (some ad) c0 l0 A1 c1 l1 A2 c2 l2 ops s.f0 s.f1 s.f2 s.f3 r V (Kd.C_below hL.r0 (below_w hBw1 hV)) hL.h0 (Kd.C_below hL.r1 (below_w hBw1 hV)) hL.h1 (Kd.C_below hL.r2 (below_w hBw1 hV)) hL.h2 hr
              have Hsum := Lib.hid hsum
              clear hsum hr
              by_cases hk0 : k = 0
              · have n4b : decide ((0 : Int) < (k : Int)) = false := decide_eq_false (by omega)
                have n4c : decide (0 < k) = false := decide_eq_false (by omega)
                have hstk := Lib.hid (hst.out (fun h => by omega))
                clear hk0
                go_wp2
                go_still_tail 40, (by kernel_rfl)
                still_call (name6_calls _ _)
                repeat still_step
                still_call (name6_calls _ _)
                iterate 17 still_step
                ((with_reducible refine wpStill_step (fun K hK => ?_)); rw [if_pos (by rfl)]; go_simp; (with_reducible refine hK _ ?_); clear hK K)
                iterate 9 (with_reducible refine wpStill_unwanted (by with_unfolding_all rfl) ?_; simp only [Act.put, List.setIfInBounds_toArray, List.set_cons_zero, List.set_cons_succ])
                iterate 5 ((with_reducible refine wpStill_step (fun K hK => ?_)); rw [if_pos (by rfl)]; go_simp; (with_reducible refine hK _ ?_); clear hK K)
                with_reducible refine wpStill_nil ?_
                change wpList _ _ _ _ _ W1.drew
                go_wp2_with fail
                refine (Hsum.out _ (below_drew (Below.refl _ _))).mono ?_
                rintro e w' ⟨rfl, hbn⟩
                have hbw : Below W1.heap.size W1 w' := below_chain (below_drew (Below.refl _ _)) hbn
                clear hz0 hz1 hz2 hz3 hy0 hy1 hy2 hy3 hl0' hl1' hl2' hl3'
                cases r with
                | true =>
                  have hs2 := Lib.hid (Hiff.out.1 rfl)
                  go_wp2
                  exact ⟨⟨k + 1, by omega, by simp, HL1.out.below hbw, HI.out.step hlt Hs.out hstk.out hs2.out⟩, by simp [intOf]; omega⟩
                | false =>
                  have hno := Lib.hid (fun h2 : CkP l0 l1 l2 ops => show False from by have := Hiff.out.2 (hneg.out h2).2; cases this)
                  go_wp2
                  go_ret
                  exact ⟨fun h2 => (hno.out h2).elim, fun _ => rfl, below_w hBw1 hbw⟩
              · have n4b : decide ((0 : Int) < (k : Int)) = true := decide_eq_true (by omega)
                have n4c : decide (0 < k) = true := decide_eq_true (by omega)
                obtain ⟨m, hm⟩ : ∃ m, k = m + 1 := ⟨k - 1, by omega⟩
                have hm1 : IntKind.i64.wrap ((k : Int) - 1) = (m : Int) := by rw [IntKind.wrap_i64]; omega
                have hm2 : (0 : Int) ≤ (m : Int) := Int.natCast_nonneg _
                have hm3 : (m : Int) < (l0.length : Int) := by omega
                obtain ⟨ad', hadd, hx0, hx1, hx2, hx3⟩ := at_T165 hL.r0 m (by omega) (by omega)
                cases hadd
                rw [Int.toNat_natCast] at hx0 hx1 hx2 hx3
                have hr : rd_T165 l0 m = l0.getD (k - 1) z165 := by unfold rd_T165; rw [Int.toNat_natCast, hm]; rfl
                rw [hr] at hx0 hx1 hx2 hx3
                obtain ⟨p, hp⟩ : ∃ p, p = l0.getD (k - 1) z165 := ⟨_, rfl⟩
                rw [← hp] at hx0 hx1 hx2 hx3
                rw [← hp] at hst
                have hw0 := cell_below hBw1 hx0
                have hw1 := cell_below hBw1 hx1
                have hw2 := cell_below hBw1 hx2
                have hw3 := cell_below hBw1 hx3
                have HK := Lib.hid (show ∀ V, Below W1.heap.size W1 V → (fun V => V.cell? ⟨wr.heap.size, 0, none⟩ = some (.string s.f0) ∧ V.cell? ⟨wr.heap.size, 1, none⟩ = some (.string s.f1) ∧ V.cell? ⟨wr.heap.size, 2, none⟩ = some (.int .i64 s.f2) ∧ V.cell? ⟨wr.heap.size, 3, none⟩ = some (.int .i64 s.f3) ∧ V.cell? ⟨w.heap.size, 0, none⟩ = some (.slice (some ad) l0.length c0) ∧ V.cell? ⟨w.heap.size, 1, none⟩ = some (.slice A1 l1.length c1) ∧ V.cell? ⟨w.heap.size, 2, none⟩ = some (.slice A2 l2.length c2) ∧ V.cell? ⟨w.heap.size, 3, none⟩ = some (.int .i64 ops) ∧ V.cell? (ad.add (m * 4)) = some (.string p.f0) ∧ V.cell? ⟨(ad.add (m * 4)).block, (ad.add (m * 4)).off + 1, none⟩ = some (.string p.f1) ∧ V.cell? ⟨(ad.add (m * 4)).block, (ad.add (m * 4)).off + 2, none⟩ = some (.int .i64 p.f2) ∧ V.cell? ⟨(ad.add (m * 4)).block, (ad.add (m * 4)).off + 3, none⟩ = some (.int .i64 p.f3) ∧ Below W1.heap.size W1 V) V from fun V h =>
                  ⟨cell_below h hz0, cell_below h hz1, cell_below h hz2, cell_below h hz3, cell_below h hl0', cell_below h hl1', cell_below h hl2', cell_below h hl3', cell_below h hw0, cell_below h hw1, cell_below h hw2, cell_below h hw3, h⟩)
                have Hm := Lib.hid hm
                have Hp := Lib.hid hp
                clear hm hp hx0 hx1 hx2 hx3 hr hk0 hw0 hw1 hw2 hw3 hBw
                obtain ⟨o, ho⟩ : ∃ o, decide (ordP (stP p) (stP s) < 0) = o := ⟨_, rfl⟩
                have hord : ∀ V, Calls Tryz.prog 91 #[.agg #[.string p.f0, .string p.f1, .int .i64 p.f2, .int .i64 p.f3], .agg #[.string s.f0, .string s.f1, .int .i64 s.f2, .int .i64 s.f3]] V fun e w' => e = .returned (.bool o) ∧ Below V.heap.size V w' := fun V =>
                  quaysideref07_ahead.calls p.f0 p.f1 p.f2 p.f3 s.f0 s.f1 s.f2 s.f3 o V (by rw [← ho]; exact ahead_f p s)
                have HO := Lib.hid ho
                clear ho
                cases o with
                | true =>
                  have hstk := Lib.hid (hst.out (fun _ => of_decide_eq_true HO.out))
                  go_wp2
                  go_region_held3 (fun V => V.cell? ⟨wr.heap.size, 0, none⟩ = some (.string s.f0) ∧ V.cell? ⟨wr.heap.size, 1, none⟩ = some (.string s.f1) ∧ V.cell? ⟨wr.heap.size, 2, none⟩ = some (.int .i64 s.f2) ∧ V.cell? ⟨wr.heap.size, 3, none⟩ = some (.int .i64 s.f3) ∧ V.cell? ⟨w.heap.size, 0, none⟩ = some (.slice (some ad) l0.length c0) ∧ V.cell? ⟨w.heap.size, 1, none⟩ = some (.slice A1 l1.length c1) ∧ V.cell? ⟨w.heap.size, 2, none⟩ = some (.slice A2 l2.length c2) ∧ V.cell? ⟨w.heap.size, 3, none⟩ = some (.int .i64 ops) ∧ V.cell? (ad.add (m * 4)) = some (.string p.f0) ∧ V.cell? ⟨(ad.add (m * 4)).block, (ad.add (m * 4)).off + 1, none⟩ = some (.string p.f1) ∧ V.cell? ⟨(ad.add (m * 4)).block, (ad.add (m * 4)).off + 2, none⟩ = some (.int .i64 p.f2) ∧ V.cell? ⟨(ad.add (m * 4)).block, (ad.add (m * 4)).off + 3, none⟩ = some (.int .i64 p.f3) ∧ Below W1.heap.size W1 V)
                    (first | assumption | exact HK.out _ (below_drew (Below.refl _ _)) | (go_split_ands; exact HK.out _ (below_chain (by assumption) hbn)))
                    (first
                      | (go_at_call 90; refine (name6_calls _ _).mono ?_; rintro e w' ⟨rfl, rfl⟩)
                      | (go_at_call 91; refine (hord _).mono ?_; rintro e w' ⟨rfl, hbn⟩)
                      | (go_at_call 92; go_split_ands; refine (Hsum.out _ (by assumption)).mono ?_; rintro e w' ⟨rfl, hbn⟩))
                  go_split_ands
                  have hbw : Below W1.heap.size W1 w' := by assumption
                  clear hz0 hz1 hz2 hz3 hy0 hy1 hy2 hy3 hl0' hl1' hl2' hl3'
                  cases r with
                  | true =>
                    have hs2 := Lib.hid (Hiff.out.1 rfl)
                    go_wp2
                    exact ⟨⟨k + 1, by omega, by simp, HL1.out.below hbw, HI.out.step hlt Hs.out hstk.out hs2.out⟩, by simp [intOf]; omega⟩
                  | false =>
                    have hno := Lib.hid (fun h2 : CkP l0 l1 l2 ops => show False from by have := Hiff.out.2 (hneg.out h2).2; cases this)
                    go_wp2
                    go_ret
                    exact ⟨fun h2 => (hno.out h2).elim, fun _ => rfl, below_w hBw1 hbw⟩
                | false =>
                  have hst2 := Lib.hid (show ¬ stB l0 k s from fun h => by
                    have h5 := h.2.2.2.2 (by have := Hm.out; omega)
                    rw [← Hp.out] at h5
                    exact absurd h5 (of_decide_eq_false HO.out))
                  have hno := Lib.hid (fun h2 : CkP l0 l1 l2 ops => show False from hst2.out (hneg.out h2).1)
                  go_wp2
                  refine wp_region_held_drew (S := (fun V => V.cell? ⟨wr.heap.size, 0, none⟩ = some (.string s.f0) ∧ V.cell? ⟨wr.heap.size, 1, none⟩ = some (.string s.f1) ∧ V.cell? ⟨wr.heap.size, 2, none⟩ = some (.int .i64 s.f2) ∧ V.cell? ⟨wr.heap.size, 3, none⟩ = some (.int .i64 s.f3) ∧ V.cell? ⟨w.heap.size, 0, none⟩ = some (.slice (some ad) l0.length c0) ∧ V.cell? ⟨w.heap.size, 1, none⟩ = some (.slice A1 l1.length c1) ∧ V.cell? ⟨w.heap.size, 2, none⟩ = some (.slice A2 l2.length c2) ∧ V.cell? ⟨w.heap.size, 3, none⟩ = some (.int .i64 ops) ∧ V.cell? (ad.add (m * 4)) = some (.string p.f0) ∧ V.cell? ⟨(ad.add (m * 4)).block, (ad.add (m * 4)).off + 1, none⟩ = some (.string p.f1) ∧ V.cell? ⟨(ad.add (m * 4)).block, (ad.add (m * 4)).off + 2, none⟩ = some (.int .i64 p.f2) ∧ V.cell? ⟨(ad.add (m * 4)).block, (ad.add (m * 4)).off + 3, none⟩ = some (.int .i64 p.f3) ∧ Below W1.heap.size W1 V)) (by kernel_rfl) (HK.out _ (below_drew (Below.refl _ _))) (fun hS => ?_)
                  refine wpAnyH_take (i := 0) (oi := { dst := some 38, op := Op.fieldAddr 165 (Operand.tmp 4) 0, type := 0, pos := "ref.go:77", after := #[], guard := none }) (v := ?_) rfl (by kernel_rfl) (by kernel_rfl) (by kernel_rfl) (fun _ _ _ h => h) (Or.inl ⟨by rfl, ?_⟩) hS ?_
                  rotate_left
                  · intro w hSw; (try dsimp only at hSw); go_simp; with_reducible rfl
                  try simp only [Act.put, List.setIfInBounds_toArray, List.set_cons_zero, List.set_cons_succ]
                  refine wpAnyH_take (i := 1) (oi := { dst := some 39, op := Op.load 9 (Operand.tmp 38), type := 9, pos := "ref.go:77", after := #[{ on := 0, ground := Ground.data }], guard := none }) (v := ?_) rfl (by kernel_rfl) (by kernel_rfl) (by kernel_rfl) (fun _ _ _ h => h) (Or.inl ⟨by rfl, ?_⟩) hS ?_
                  rotate_left
                  · intro w hSw; (try dsimp only at hSw); go_simp; with_reducible rfl
                  try simp only [Act.put, List.setIfInBounds_toArray, List.set_cons_zero, List.set_cons_succ]
                  refine wpAnyH_ready (rs := [2]) (by kernel_rfl) (by simp) (AllReadyH.cons (o := { dst := some 40, op := Op.call { callee := Callee.value (Operand.func 90), args := #[Operand.tmp 39], argTypes := #[9] }, type := 4, pos := "ref.go:77", after := #[{ on := 1, ground := Ground.data }], guard := none }) rfl (fun K hK => ?_) AllReadyH.nil)
                  rw [if_pos (by rfl)]
                  go_simp
                  refine (name6_calls _ _).mono ?_
                  rintro e w' ⟨rfl, rfl⟩
                  refine hK.out _ _ hS (fun hS => ?_)
                  clear hK K
                  try simp only [Act.put, List.setIfInBounds_toArray, List.set_cons_zero, List.set_cons_succ]
                  refine wpAnyH_take (i := 3) (oi := { dst := some 41, op := Op.unOp UnOp.not 4 (Operand.tmp 40), type := 4, pos := "ref.go:77", after := #[{ on := 2, ground := Ground.data }], guard := none }) (v := ?_) rfl (by kernel_rfl) (by kernel_rfl) (by kernel_rfl) (fun _ _ _ h => h) (Or.inl ⟨by rfl, ?_⟩) hS ?_
                  rotate_left
                  · intro w hSw; (try dsimp only at hSw); go_simp; with_reducible rfl
                  try simp only [Act.put, List.setIfInBounds_toArray, List.set_cons_zero, List.set_cons_succ]
                  refine wpAnyH_take (i := 4) (oi := { dst := some 42, op := Op.move (Operand.tmp 41), type := 4, pos := "ref.go:77", after := #[{ on := 3, ground := Ground.data }, { on := 2, ground := Ground.chain }], guard := none }) (v := ?_) rfl (by kernel_rfl) (by kernel_rfl) (by kernel_rfl) (fun _ _ _ h => h) (Or.inl ⟨by rfl, ?_⟩) hS ?_
                  rotate_left
                  · intro w hSw; (try dsimp only at hSw); go_simp; with_reducible rfl
                  try simp only [Act.put, List.setIfInBounds_toArray, List.set_cons_zero, List.set_cons_succ]
                  refine wpAnyH_take (i := 5) (oi := { dst := some 43, op := Op.fieldAddr 165 (Operand.tmp 4) 1, type := 0, pos := "ref.go:77", after := #[{ on := 4, ground := Ground.guard }], guard := some (4, false) }) (v := ?_) rfl (by kernel_rfl) (by kernel_rfl) (by kernel_rfl) (fun _ _ _ h => h) (Or.inl ⟨by rfl, ?_⟩) hS ?_
                  rotate_left
                  · intro w hSw; (try dsimp only at hSw); go_simp; with_reducible rfl
                  try simp only [Act.put, List.setIfInBounds_toArray, List.set_cons_zero, List.set_cons_succ]
                  refine wpAnyH_take (i := 6) (oi := { dst := some 44, op := Op.load 9 (Operand.tmp 43), type := 9, pos := "ref.go:77", after := #[{ on := 5, ground := Ground.data }, { on := 4, ground := Ground.guard }], guard := some (4, false) }) (v := ?_) rfl (by kernel_rfl) (by kernel_rfl) (by kernel_rfl) (fun _ _ _ h => h) (Or.inl ⟨by rfl, ?_⟩) hS ?_
                  rotate_left
                  · intro w hSw; (try dsimp only at hSw); go_simp; with_reducible rfl
                  try simp only [Act.put, List.setIfInBounds_toArray, List.set_cons_zero, List.set_cons_succ]
                  refine wpAnyH_ready (rs := [7]) (by kernel_rfl) (by simp) (AllReadyH.cons (o := { dst := some 45, op := Op.call { callee := Callee.value (Operand.func 90), args := #[Operand.tmp 44], argTypes := #[9] }, type := 4, pos := "ref.go:77", after := #[{ on := 6, ground := Ground.data }, { on := 4, ground := Ground.chain }, { on := 4, ground := Ground.guard }], guard := some (4, false) }) rfl (fun K hK => ?_) AllReadyH.nil)
                  rw [if_pos (by rfl)]
                  go_simp
                  refine (name6_calls _ _).mono ?_
                  rintro e w' ⟨rfl, rfl⟩
                  refine hK.out _ _ hS (fun hS => ?_)
                  clear hK K
                  try simp only [Act.put, List.setIfInBounds_toArray, List.set_cons_zero, List.set_cons_succ]
                  refine wpAnyH_take (i := 8) (oi := { dst := some 46, op := Op.unOp UnOp.not 4 (Operand.tmp 45), type := 4, pos := "ref.go:77", after := #[{ on := 7, ground := Ground.data }, { on := 4, ground := Ground.guard }], guard := some (4, false) }) (v := ?_) rfl (by kernel_rfl) (by kernel_rfl) (by kernel_rfl) (fun _ _ _ h => h) (Or.inl ⟨by rfl, ?_⟩) hS ?_
                  rotate_left
                  · intro w hSw; (try dsimp only at hSw); go_simp; with_reducible rfl
                  try simp only [Act.put, List.setIfInBounds_toArray, List.set_cons_zero, List.set_cons_succ]
                  refine wpAnyH_take (i := 9) (oi := { dst := some 47, op := Op.pick (Operand.tmp 42) (Operand.const (Value.bool true)) (Operand.tmp 46), type := 4, pos := "ref.go:77", after := #[{ on := 4, ground := Ground.data }, { on := 8, ground := Ground.data }], guard := none }) (v := ?_) rfl (by kernel_rfl) (by kernel_rfl) (by kernel_rfl) (fun _ _ _ h => h) (Or.inl ⟨by rfl, ?_⟩) hS ?_
                  rotate_left
                  · intro w hSw; (try dsimp only at hSw); go_simp; with_reducible rfl
                  try simp only [Act.put, List.setIfInBounds_toArray, List.set_cons_zero, List.set_cons_succ]
                  refine wpAnyH_take (i := 10) (oi := { dst := some 48, op := Op.move (Operand.tmp 47), type := 4, pos := "ref.go:77", after := #[{ on := 9, ground := Ground.data }, { on := 7, ground := Ground.chain }], guard := none }) (v := ?_) rfl (by kernel_rfl) (by kernel_rfl) (by kernel_rfl) (fun _ _ _ h => h) (Or.inl ⟨by rfl, ?_⟩) hS ?_
                  rotate_left
                  · intro w hSw; (try dsimp only at hSw); go_simp; with_reducible rfl
                  try simp only [Act.put, List.setIfInBounds_toArray, List.set_cons_zero, List.set_cons_succ]
                  refine wpAnyH_take (i := 11) (oi := { dst := some 49, op := Op.fieldAddr 165 (Operand.tmp 4) 3, type := 0, pos := "ref.go:77", after := #[{ on := 10, ground := Ground.guard }], guard := some (10, false) }) (v := ?_) rfl (by kernel_rfl) (by kernel_rfl) (by kernel_rfl) (fun _ _ _ h => h) (Or.inl ⟨by rfl, ?_⟩) hS ?_
                  rotate_left
                  · intro w hSw; (try dsimp only at hSw); go_simp; with_reducible rfl
                  try simp only [Act.put, List.setIfInBounds_toArray, List.set_cons_zero, List.set_cons_succ]
                  refine wpAnyH_take (i := 12) (oi := { dst := some 50, op := Op.load 3 (Operand.tmp 49), type := 3, pos := "ref.go:77", after := #[{ on := 11, ground := Ground.data }, { on := 10, ground := Ground.guard }], guard := some (10, false) }) (v := ?_) rfl (by kernel_rfl) (by kernel_rfl) (by kernel_rfl) (fun _ _ _ h => h) (Or.inl ⟨by rfl, ?_⟩) hS ?_
                  rotate_left
                  · intro w hSw; (try dsimp only at hSw); go_simp; with_reducible rfl
                  try simp only [Act.put, List.setIfInBounds_toArray, List.set_cons_zero, List.set_cons_succ]
                  refine wpAnyH_take (i := 13) (oi := { dst := some 51, op := Op.binOp BinOp.lss 3 (Operand.tmp 50) (Operand.const (Value.int IntKind.i64 0)) 3, type := 4, pos := "ref.go:77", after := #[{ on := 12, ground := Ground.data }, { on := 10, ground := Ground.guard }], guard := some (10, false) }) (v := ?_) rfl (by kernel_rfl) (by kernel_rfl) (by kernel_rfl) (fun _ _ _ h => h) (Or.inl ⟨by rfl, ?_⟩) hS ?_
                  rotate_left
                  · intro w hSw; (try dsimp only at hSw); go_simp; with_reducible rfl
                  try simp only [Act.put, List.setIfInBounds_toArray, List.set_cons_zero, List.set_cons_succ]
                  refine wpAnyH_take (i := 14) (oi := { dst := some 52, op := Op.pick (Operand.tmp 48) (Operand.const (Value.bool true)) (Operand.tmp 51), type := 4, pos := "ref.go:77", after := #[{ on := 10, ground := Ground.data }, { on := 13, ground := Ground.data }], guard := none }) (v := ?_) rfl (by kernel_rfl) (by kernel_rfl) (by kernel_rfl) (fun _ _ _ h => h) (Or.inl ⟨by rfl, ?_⟩) hS ?_
                  rotate_left
                  · intro w hSw; (try dsimp only at hSw); go_simp; with_reducible rfl
                  try simp only [Act.put, List.setIfInBounds_toArray, List.set_cons_zero, List.set_cons_succ]
                  refine wpAnyH_take (i := 15) (oi := { dst := some 53, op := Op.move (Operand.tmp 52), type := 4, pos := "ref.go:77", after := #[{ on := 14, ground := Ground.data }, { on := 10, ground := Ground.chain }], guard := none }) (v := ?_) rfl (by kernel_rfl) (by kernel_rfl) (by kernel_rfl) (fun _ _ _ h => h) (Or.inl ⟨by rfl, ?_⟩) hS ?_
                  rotate_left
                  · intro w hSw; (try dsimp only at hSw); go_simp; with_reducible rfl
                  try simp only [Act.put, List.setIfInBounds_toArray, List.set_cons_zero, List.set_cons_succ]
                  refine wpAnyH_take (i := 16) (oi := { dst := some 54, op := Op.fieldAddr 165 (Operand.tmp 4) 3, type := 0, pos := "ref.go:77", after := #[{ on := 15, ground := Ground.guard }], guard := some (15, false) }) (v := ?_) rfl (by kernel_rfl) (by kernel_rfl) (by kernel_rfl) (fun _ _ _ h => h) (Or.inl ⟨by rfl, ?_⟩) hS ?_
                  rotate_left
                  · intro w hSw; (try dsimp only at hSw); go_simp; with_reducible rfl
                  try simp only [Act.put, List.setIfInBounds_toArray, List.set_cons_zero, List.set_cons_succ]
                  refine wpAnyH_take (i := 17) (oi := { dst := some 55, op := Op.load 3 (Operand.tmp 54), type := 3, pos := "ref.go:77", after := #[{ on := 16, ground := Ground.data }, { on := 15, ground := Ground.guard }], guard := some (15, false) }) (v := ?_) rfl (by kernel_rfl) (by kernel_rfl) (by kernel_rfl) (fun _ _ _ h => h) (Or.inl ⟨by rfl, ?_⟩) hS ?_
                  rotate_left
                  · intro w hSw; (try dsimp only at hSw); go_simp; with_reducible rfl
                  try simp only [Act.put, List.setIfInBounds_toArray, List.set_cons_zero, List.set_cons_succ]
                  refine wpAnyH_take (i := 18) (oi := { dst := some 56, op := Op.fieldAddr 165 (Operand.tmp 4) 2, type := 0, pos := "ref.go:77", after := #[{ on := 15, ground := Ground.guard }], guard := some (15, false) }) (v := ?_) rfl (by kernel_rfl) (by kernel_rfl) (by kernel_rfl) (fun _ _ _ h => h) (Or.inl ⟨by rfl, ?_⟩) hS ?_
                  rotate_left
                  · intro w hSw; (try dsimp only at hSw); go_simp; with_reducible rfl
                  try simp only [Act.put, List.setIfInBounds_toArray, List.set_cons_zero, List.set_cons_succ]
                  refine wpAnyH_take (i := 19) (oi := { dst := some 57, op := Op.load 3 (Operand.tmp 56), type := 3, pos := "ref.go:77", after := #[{ on := 18, ground := Ground.data }, { on := 15, ground := Ground.guard }], guard := some (15, false) }) (v := ?_) rfl (by kernel_rfl) (by kernel_rfl) (by kernel_rfl) (fun _ _ _ h => h) (Or.inl ⟨by rfl, ?_⟩) hS ?_
                  rotate_left
                  · intro w hSw; (try dsimp only at hSw); go_simp; with_reducible rfl
                  try simp only [Act.put, List.setIfInBounds_toArray, List.set_cons_zero, List.set_cons_succ]
                  refine wpAnyH_take (i := 20) (oi := { dst := some 58, op := Op.binOp BinOp.gtr 3 (Operand.tmp 55) (Operand.tmp 57) 3, type := 4, pos := "ref.go:77", after := #[{ on := 17, ground := Ground.data }, { on := 19, ground := Ground.data }, { on := 15, ground := Ground.guard }], guard := some (15, false) }) (v := ?_) rfl (by kernel_rfl) (by kernel_rfl) (by kernel_rfl) (fun _ _ _ h => h) (Or.inl ⟨by rfl, ?_⟩) hS ?_
                  rotate_left
                  · intro w hSw; (try dsimp only at hSw); go_simp; with_reducible rfl
                  try simp only [Act.put, List.setIfInBounds_toArray, List.set_cons_zero, List.set_cons_succ]
                  refine wpAnyH_take (i := 21) (oi := { dst := some 59, op := Op.pick (Operand.tmp 53) (Operand.const (Value.bool true)) (Operand.tmp 58), type := 4, pos := "ref.go:77", after := #[{ on := 15, ground := Ground.data }, { on := 20, ground := Ground.data }], guard := none }) (v := ?_) rfl (by kernel_rfl) (by kernel_rfl) (by kernel_rfl) (fun _ _ _ h => h) (Or.inl ⟨by rfl, ?_⟩) hS ?_
                  rotate_left
                  · intro w hSw; (try dsimp only at hSw); go_simp; with_reducible rfl
                  try simp only [Act.put, List.setIfInBounds_toArray, List.set_cons_zero, List.set_cons_succ]
                  refine wpAnyH_take (i := 22) (oi := { dst := some 60, op := Op.move (Operand.tmp 59), type := 4, pos := "ref.go:77", after := #[{ on := 21, ground := Ground.data }, { on := 15, ground := Ground.chain }], guard := none }) (v := ?_) rfl (by kernel_rfl) (by kernel_rfl) (by kernel_rfl) (fun _ _ _ h => h) (Or.inl ⟨by rfl, ?_⟩) hS ?_
                  rotate_left
                  · intro w hSw; (try dsimp only at hSw); go_simp; with_reducible rfl
                  try simp only [Act.put, List.setIfInBounds_toArray, List.set_cons_zero, List.set_cons_succ]
                  refine wpAnyH_take (i := 23) (oi := { dst := some 61, op := Op.move (Operand.tmp 3), type := 3, pos := "ref.go:77", after := #[{ on := 22, ground := Ground.guard }], guard := some (22, false) }) (v := ?_) rfl (by kernel_rfl) (by kernel_rfl) (by kernel_rfl) (fun _ _ _ h => h) (Or.inl ⟨by rfl, ?_⟩) hS ?_
                  rotate_left
                  · intro w hSw; (try dsimp only at hSw); go_simp; with_reducible rfl
                  try simp only [Act.put, List.setIfInBounds_toArray, List.set_cons_zero, List.set_cons_succ]
                  refine wpAnyH_take (i := 24) (oi := { dst := some 62, op := Op.binOp BinOp.gtr 3 (Operand.tmp 61) (Operand.const (Value.int IntKind.i64 0)) 3, type := 4, pos := "ref.go:77", after := #[{ on := 23, ground := Ground.data }, { on := 22, ground := Ground.guard }], guard := some (22, false) }) (v := ?_) rfl (by kernel_rfl) (by kernel_rfl) (by kernel_rfl) (fun _ _ _ h => h) (Or.inl ⟨by rfl, ?_⟩) hS ?_
                  rotate_left
                  · intro w hSw; (try dsimp only at hSw); go_simp; with_reducible rfl
                  try simp only [Act.put, List.setIfInBounds_toArray, List.set_cons_zero, List.set_cons_succ]
                  refine wpAnyH_take (i := 25) (oi := { dst := some 63, op := Op.move (Operand.tmp 62), type := 4, pos := "ref.go:77", after := #[{ on := 24, ground := Ground.data }, { on := 22, ground := Ground.chain }, { on := 22, ground := Ground.guard }], guard := some (22, false) }) (v := ?_) rfl (by kernel_rfl) (by kernel_rfl) (by kernel_rfl) (fun _ _ _ h => h) (Or.inl ⟨by rfl, ?_⟩) hS ?_
                  rotate_left
                  · intro w hSw; (try dsimp only at hSw); go_simp; with_reducible rfl
                  try simp only [Act.put, List.setIfInBounds_toArray, List.set_cons_zero, List.set_cons_succ]
                  refine wpAnyH_take (i := 26) (oi := { dst := some 64, op := Op.fieldAddr 55 (Operand.tmp 1) 0, type := 0, pos := "ref.go:77", after := #[{ on := 25, ground := Ground.guard }], guard := some (25, true) }) (v := ?_) rfl (by kernel_rfl) (by kernel_rfl) (by kernel_rfl) (fun _ _ _ h => h) (Or.inl ⟨by rfl, ?_⟩) hS ?_
                  rotate_left
                  · intro w hSw; (try dsimp only at hSw); go_simp; with_reducible rfl
                  try simp only [Act.put, List.setIfInBounds_toArray, List.set_cons_zero, List.set_cons_succ]
                  refine wpAnyH_take (i := 27) (oi := { dst := some 65, op := Op.load 51 (Operand.tmp 64), type := 51, pos := "ref.go:77", after := #[{ on := 26, ground := Ground.data }, { on := 25, ground := Ground.guard }], guard := some (25, true) }) (v := ?_) rfl (by kernel_rfl) (by kernel_rfl) (by kernel_rfl) (fun _ _ _ h => h) (Or.inl ⟨by rfl, ?_⟩) hS ?_
                  rotate_left
                  · intro w hSw; (try dsimp only at hSw); go_simp; with_reducible rfl
                  try simp only [Act.put, List.setIfInBounds_toArray, List.set_cons_zero, List.set_cons_succ]
                  refine wpAnyH_take (i := 28) (oi := { dst := some 66, op := Op.move (Operand.tmp 3), type := 3, pos := "ref.go:77", after := #[{ on := 25, ground := Ground.guard }], guard := some (25, true) }) (v := ?_) rfl (by kernel_rfl) (by kernel_rfl) (by kernel_rfl) (fun _ _ _ h => h) (Or.inl ⟨by rfl, ?_⟩) hS ?_
                  rotate_left
                  · intro w hSw; (try dsimp only at hSw); go_simp; with_reducible rfl
                  try simp only [Act.put, List.setIfInBounds_toArray, List.set_cons_zero, List.set_cons_succ]
                  refine wpAnyH_take (i := 29) (oi := { dst := some 67, op := Op.binOp BinOp.sub 3 (Operand.tmp 66) (Operand.const (Value.int IntKind.i64 1)) 3, type := 3, pos := "ref.go:77", after := #[{ on := 28, ground := Ground.data }, { on := 25, ground := Ground.guard }], guard := some (25, true) }) (v := ?_) rfl (by kernel_rfl) (by kernel_rfl) (by kernel_rfl) (fun _ _ _ h => h) (Or.inl ⟨by rfl, ?_⟩) hS ?_
                  rotate_left
                  · intro w hSw; (try dsimp only at hSw); go_simp; with_reducible rfl
                  try simp only [Act.put, List.setIfInBounds_toArray, List.set_cons_zero, List.set_cons_succ]
                  refine wpAnyH_take (i := 30) (oi := { dst := some 68, op := Op.indexAddr 51 (Operand.tmp 65) (Operand.tmp 67), type := 0, pos := "ref.go:77", after := #[{ on := 27, ground := Ground.data }, { on := 29, ground := Ground.data }, { on := 25, ground := Ground.guard }], guard := some (25, true) }) (v := ?_) rfl (by kernel_rfl) (by kernel_rfl) (by kernel_rfl) (fun _ _ _ h => h) (Or.inl ⟨by rfl, ?_⟩) hS ?_
                  rotate_left
                  · intro w hSw; (try dsimp only at hSw); go_simp; with_reducible rfl
                  try simp only [Act.put, List.setIfInBounds_toArray, List.set_cons_zero, List.set_cons_succ]
                  refine wpAnyH_take (i := 31) (oi := { dst := some 69, op := Op.load 165 (Operand.tmp 68), type := 165, pos := "ref.go:77", after := #[{ on := 30, ground := Ground.data }, { on := 25, ground := Ground.guard }], guard := some (25, true) }) (v := ?_) rfl (by kernel_rfl) (by kernel_rfl) (by kernel_rfl) (fun _ _ _ h => h) (Or.inl ⟨by rfl, ?_⟩) hS ?_
                  rotate_left
                  · intro w hSw; (try dsimp only at hSw); go_simp; with_reducible rfl
                  try simp only [Act.put, List.setIfInBounds_toArray, List.set_cons_zero, List.set_cons_succ]
                  refine wpAnyH_take (i := 32) (oi := { dst := some 70, op := Op.load 165 (Operand.tmp 4), type := 165, pos := "ref.go:77", after := #[{ on := 25, ground := Ground.guard }], guard := some (25, true) }) (v := ?_) rfl (by kernel_rfl) (by kernel_rfl) (by kernel_rfl) (fun _ _ _ h => h) (Or.inl ⟨by rfl, ?_⟩) hS ?_
                  rotate_left
                  · intro w hSw; (try dsimp only at hSw); go_simp; with_reducible rfl
                  try simp only [Act.put, List.setIfInBounds_toArray, List.set_cons_zero, List.set_cons_succ]
                  refine wpAnyH_ready (rs := [33]) (by kernel_rfl) (by simp) (AllReadyH.cons (o := { dst := some 71, op := Op.call { callee := Callee.value (Operand.func 91), args := #[Operand.tmp 69, Operand.tmp 70], argTypes := #[165, 165] }, type := 4, pos := "ref.go:77", after := #[{ on := 31, ground := Ground.data }, { on := 32, ground := Ground.data }, { on := 25, ground := Ground.chain }, { on := 25, ground := Ground.guard }], guard := some (25, true) }) rfl (fun K hK => ?_) AllReadyH.nil)
                  rw [if_pos (by rfl)]
                  go_simp
                  refine (hord _).mono ?_
                  rintro e w' ⟨rfl, hbn⟩
                  have hbw : Below W1.heap.size W1 w' := below_chain (below_drew (Below.refl _ _)) hbn
                  refine hK.out _ _ (HK.out _ hbw) (fun hS => ?_)
                  clear hK K
                  try simp only [Act.put, List.setIfInBounds_toArray, List.set_cons_zero, List.set_cons_succ]
                  refine wpAnyH_take (i := 34) (oi := { dst := some 72, op := Op.unOp UnOp.not 4 (Operand.tmp 71), type := 4, pos := "ref.go:77", after := #[{ on := 33, ground := Ground.data }, { on := 25, ground := Ground.guard }], guard := some (25, true) }) (v := ?_) rfl (by kernel_rfl) (by kernel_rfl) (by kernel_rfl) (fun _ _ _ h => h) (Or.inl ⟨by rfl, ?_⟩) hS ?_
                  rotate_left
                  · intro w hSw; (try dsimp only at hSw); go_simp; with_reducible rfl
                  try simp only [Act.put, List.setIfInBounds_toArray, List.set_cons_zero, List.set_cons_succ]
                  refine wpAnyH_take (i := 35) (oi := { dst := some 73, op := Op.pick (Operand.tmp 63) (Operand.tmp 72) (Operand.const (Value.bool false)), type := 4, pos := "ref.go:77", after := #[{ on := 25, ground := Ground.data }, { on := 34, ground := Ground.data }, { on := 22, ground := Ground.guard }], guard := some (22, false) }) (v := ?_) rfl (by kernel_rfl) (by kernel_rfl) (by kernel_rfl) (fun _ _ _ h => h) (Or.inl ⟨by rfl, ?_⟩) hS ?_
                  rotate_left
                  · intro w hSw; (try dsimp only at hSw); go_simp; with_reducible rfl
                  try simp only [Act.put, List.setIfInBounds_toArray, List.set_cons_zero, List.set_cons_succ]
                  refine wpAnyH_take (i := 36) (oi := { dst := some 74, op := Op.pick (Operand.tmp 60) (Operand.const (Value.bool true)) (Operand.tmp 73), type := 4, pos := "ref.go:77", after := #[{ on := 22, ground := Ground.data }, { on := 35, ground := Ground.data }], guard := none }) (v := ?_) rfl (by kernel_rfl) (by kernel_rfl) (by kernel_rfl) (fun _ _ _ h => h) (Or.inl ⟨by rfl, ?_⟩) hS ?_
                  rotate_left
                  · intro w hSw; (try dsimp only at hSw); go_simp; with_reducible rfl
                  try simp only [Act.put, List.setIfInBounds_toArray, List.set_cons_zero, List.set_cons_succ]
                  refine wpAnyH_take (i := 37) (oi := { dst := some 75, op := Op.move (Operand.tmp 74), type := 4, pos := "ref.go:77", after := #[{ on := 36, ground := Ground.data }, { on := 33, ground := Ground.chain }], guard := none }) (v := ?_) rfl (by kernel_rfl) (by kernel_rfl) (by kernel_rfl) (fun _ _ _ h => h) (Or.inl ⟨by rfl, ?_⟩) hS ?_
                  rotate_left
                  · intro w hSw; (try dsimp only at hSw); go_simp; with_reducible rfl
                  try simp only [Act.put, List.setIfInBounds_toArray, List.set_cons_zero, List.set_cons_succ]
                  refine wpAnyH_take (i := 38) (oi := { dst := some 76, op := Op.load 55 (Operand.tmp 1), type := 55, pos := "ref.go:77", after := #[{ on := 37, ground := Ground.guard }], guard := some (37, false) }) (v := undef) rfl (by kernel_rfl) (by kernel_rfl) (by kernel_rfl) (fun _ _ _ h => h) (Or.inr ⟨by rfl, rfl⟩) hS ?_
                  try simp only [Act.put, List.setIfInBounds_toArray, List.set_cons_zero, List.set_cons_succ]
                  refine wpAnyH_take (i := 39) (oi := { dst := some 77, op := Op.load 165 (Operand.tmp 4), type := 165, pos := "ref.go:77", after := #[{ on := 37, ground := Ground.guard }], guard := some (37, false) }) (v := undef) rfl (by kernel_rfl) (by kernel_rfl) (by kernel_rfl) (fun _ _ _ h => h) (Or.inr ⟨by rfl, rfl⟩) hS ?_
                  try simp only [Act.put, List.setIfInBounds_toArray, List.set_cons_zero, List.set_cons_succ]
                  refine wpAnyH_take (i := 40) (oi := { dst := some 78, op := Op.call { callee := Callee.value (Operand.func 92), args := #[Operand.tmp 76, Operand.tmp 77], argTypes := #[55, 165] }, type := 4, pos := "ref.go:77", after := #[{ on := 38, ground := Ground.data }, { on := 39, ground := Ground.data }, { on := 37, ground := Ground.chain }, { on := 37, ground := Ground.guard }], guard := some (37, false) }) (v := undef) rfl (by kernel_rfl) (by kernel_rfl) (by kernel_rfl) (fun _ _ _ h => h) (Or.inr ⟨by rfl, rfl⟩) hS ?_
                  try simp only [Act.put, List.setIfInBounds_toArray, List.set_cons_zero, List.set_cons_succ]
                  refine wpAnyH_take (i := 41) (oi := { dst := some 79, op := Op.unOp UnOp.not 4 (Operand.tmp 78), type := 4, pos := "ref.go:77", after := #[{ on := 40, ground := Ground.data }, { on := 37, ground := Ground.guard }], guard := some (37, false) }) (v := undef) rfl (by kernel_rfl) (by kernel_rfl) (by kernel_rfl) (fun _ _ _ h => h) (Or.inr ⟨by rfl, rfl⟩) hS ?_
                  try simp only [Act.put, List.setIfInBounds_toArray, List.set_cons_zero, List.set_cons_succ]
                  refine wpAnyH_take (i := 42) (oi := { dst := some 80, op := Op.pick (Operand.tmp 75) (Operand.const (Value.bool true)) (Operand.tmp 79), type := 4, pos := "ref.go:77", after := #[{ on := 37, ground := Ground.data }, { on := 41, ground := Ground.data }], guard := none }) (v := ?_) rfl (by kernel_rfl) (by kernel_rfl) (by kernel_rfl) (fun _ _ _ h => h) (Or.inl ⟨by rfl, ?_⟩) hS ?_
                  rotate_left
                  · intro w hSw; (try dsimp only at hSw); go_simp; with_reducible rfl
                  try simp only [Act.put, List.setIfInBounds_toArray, List.set_cons_zero, List.set_cons_succ]
                  refine wpAnyH_done (by kernel_rfl) ?_ _
                  clear hz0 hz1 hz2 hz3 hy0 hy1 hy2 hy3 hl0' hl1' hl2' hl3' hS
                  go_wp2
                  go_ret
                  exact ⟨fun h2 => (hno.out h2).elim, fun _ => rfl, below_w hBw1 hbw⟩
    -- L1>
    · obtain rfl : k = l0.length := by omega
      have hd : decide ((l0.length : Int) < (l0.length : Int)) = false := decide_eq_false (by omega)
      obtain ⟨r1, hr1, hi1⟩ := Hholds.out
      obtain ⟨r2, hr2, hi2⟩ := Hmoves.out
      have hh := quaysideref07_holds.calls 1000 A0 c0 l0 A1 c1 l1 A2 c2 l2 ops r1 wr (Kd.C_below hL.r0 hLw.low) hL.h0 (Kd.C_below hL.r1 hLw.low) hL.h1 (Kd.C_below hL.r2 hLw.low) hL.h2 hr1
      have hm := fun V (hV : Below w.heap.size w V) => quaysideref07_moves.calls 1000 A0 c0 l0 A1 c1 l1 A2 c2 l2 ops r2 V (Kd.C_below hL.r0 hV) hL.h0 (Kd.C_below hL.r1 hV) hL.h1 (Kd.C_below hL.r2 hV) hL.h2 hr2
      have Hm := Lib.hid hm
      have Hi1 := Lib.hid hi1
      have Hi2 := Lib.hid hi2
      have HI := Lib.hid hI
      have hblw := hLw.low
      have HLw := Lib.hid hLw
      clear hm hi1 hi2 hr1 hr2 hI hLw
      go_wp2_with fail
      refine hh.mono ?_
      clear hh
      rintro e w' ⟨rfl, hbn⟩
      have hb2 := below_w hblw hbn
      have hL2 := HLw.out.below hbn
      have hdl0 : w'.cell? ⟨w.heap.size, 0, none⟩ = some (.slice A0 l0.length c0) := (blk_cell hL2.led 0).trans rfl
      have hdl1 : w'.cell? ⟨w.heap.size, 1, none⟩ = some (.slice A1 l1.length c1) := (blk_cell hL2.led 1).trans rfl
      have hdl2 : w'.cell? ⟨w.heap.size, 2, none⟩ = some (.slice A2 l2.length c2) := (blk_cell hL2.led 2).trans rfl
      have hdl3 : w'.cell? ⟨w.heap.size, 3, none⟩ = some (.int .i64 ops) := (blk_cell hL2.led 3).trans rfl
      clear hL2 hcl0 hcl1 hcl2 hcl3
      cases r1 with
      | false =>
        have hno := Lib.hid (fun h2 : CkP l0 l1 l2 ops => show False from by have := Hi1.out.2 (fun j hj _ => h2.2.2.1 j hj); cases this)
        go_wp2
        go_ret
        exact ⟨fun h2 => (hno.out h2).elim, fun _ => rfl, hb2⟩
      | true =>
        go_wp2_with fail
        refine (Hm.out _ hb2).mono ?_
        rintro e w5 ⟨rfl, hbm⟩
        have hb3 := below_w hb2 hbm
        cases r2 with
        | false =>
          have hno := Lib.hid (fun h2 : CkP l0 l1 l2 ops => show False from by have := Hi2.out.2 (fun j hj _ => h2.2.2.2.1 j hj); cases this)
          go_wp2
          go_ret
          exact ⟨fun h2 => (hno.out h2).elim, fun _ => rfl, hb3⟩
        | true =>
          have hyes := Lib.hid (show CkP l0 l1 l2 ops from ⟨hops0, fun j hj => (HI.out j hj hj).1, fun j hj => Hi1.out.1 (by first | rfl | trivial) j hj (Nat.zero_le _), fun j hj => Hi2.out.1 (by first | rfl | trivial) j hj (Nat.zero_le _), fun j hj => (HI.out j hj hj).2⟩)
          go_wp2
          go_ret
          exact ⟨fun _ => rfl, fun h2 => (h2 hyes.out).elim, hb3⟩

theorem rmay_calls (l0 : List S165) (l1 : List S172) (l2 : List S176) (A0 : Option Addr) (c0 : Nat) (A1 : Option Addr) (c1 : Nat) (A2 : Option Addr) (c2 : Nat) (ops : Int) (w : World) (hL : LedgerAt l0 l1 l2 A0 c0 A1 c1 A2 c2 w) (hF : FewL l0 l1 l2) :
    Calls Tryz.prog 46 #[.agg #[.slice A0 l0.length c0, .slice A1 l1.length c1, .slice A2 l2.length c2, .int .i64 ops]] w fun e w' => e = .returned (.bool (ckB l0 l1 l2 ops)) ∧ Below w.heap.size w w' := by
  refine (rmay_try l0 l1 l2 A0 c0 A1 c1 A2 c2 ops w hL hF).mono ?_
  rintro e w' ⟨h1, h2, h3⟩
  refine ⟨?_, h3⟩
  by_cases h : CkP l0 l1 l2 ops
  · rw [h1 h, ckB_iff.2 h]
  · rw [h2 h]
    have : ckB l0 l1 l2 ops = false := by
      cases hb : ckB l0 l1 l2 ops with
      | false => rfl
      | true => exact absurd (ckB_iff.1 hb) h
    rw [this]
end Go.Proofs.YtofkhcgkahkagaaGreat

