/- Texts behind the row of PromiseKeeps, part 10. -/
import Derived.Test.YtofkhcgkahkagaaU05
import Derived.Deep.RegionHeld3
import Derived.Laws.Cover1
import Derived.Test.YtofkhcgkahkagaaU07
import Derived.Test.YtofkhcgkahkagaaU09
/- ledger.Check tells whether a ledger may be. -/
namespace Go.Proofs.Ytofkhcgkahkagaa
open Go.RowKit Go.Proofs.YtofkhcgkahkagaaW.PrintWords Go.Proofs.YtofkhcgkahkagaaW.PrintLast Go.Proofs.YtofkhcgkahkagaaW.PrintMore Go.Proofs.Ytofkhcgkahkagaa.PPromiseLines
set_option linter.unusedVariables false
set_option linter.unusedSimpArgs false

/-- How ledger.Check ends. -/
def CkEnd (P : Prop) (w : World) (e : Ending) (w' : World) : Prop := (P → e = .returned (.int .i64 0)) ∧ (¬ P → e = .returned (.int .i64 1)) ∧ Below w.heap.size w w'

def CkP (l0 : List S100) (l1 : List S107) (l2 : List S111) (ops : Int) : Prop :=
  0 ≤ ops ∧ (∀ j (h : j < l0.length), stB l0 j l0[j]) ∧ (∀ j (h : j < l1.length), hoB j l1[j] ∧ (l1[j].f4 = 0 → hoP l1[j] ∈ l0.map stP)) ∧ (∀ j (h : j < l2.length), moB j l2[j] ∧ moP l2[j] ∈ l0.map stP) ∧
    ∀ j (h : j < l0.length), sumOf (heldF l1 (stP l0[j])) = (l0[j].f3, 0) ∧ sumOf (movedF l2 (stP l0[j])) = (l0[j].f2, 0)

set_option maxRecDepth 100000 in
set_option maxHeartbeats 2000000 in
theorem check_try (l0 : List S100) (l1 : List S107) (l2 : List S111) (A0 : Option Addr) (c0 : Nat) (A1 : Option Addr) (c1 : Nat) (A2 : Option Addr) (c2 : Nat) (ops : Int) (w : World) (hL : LedgerAt l0 l1 l2 A0 c0 A1 c1 A2 c2 w) (hF : FewL l0 l1 l2) :
    Calls Try.prog 38 #[.agg #[.slice A0 l0.length c0, .slice A1 l1.length c1, .slice A2 l2.length c2, .int .i64 ops]] w (CkEnd (CkP l0 l1 l2 ops) w) := by
  have hu0 := Try.underlying100
  have hu1 := Try.underlying107
  have hu2 := Try.underlying111
  have hu3 := Try.underlying41
  have hu4 := Try.underlying103
  have hmm := @run_makeMap Try.prog
  obtain ⟨hF0, hF1, hF2, hG0, hG1, hG2⟩ := hF
  by_cases hops0 : 0 ≤ ops
  rotate_left
  · have hops : decide (ops < 0) = true := decide_eq_true (by omega)
    have hno := Lib.hid (fun h2 : CkP l0 l1 l2 ops => hops0 h2.1)
    have hbox := fun o => (Below.refl w.heap.size w).alloc (Nat.le_refl _) o
    clear hops0 hmm
    go_enter Try.func38, Try.ntmps38
    go_wp2
    go_ret
    exact ⟨fun h2 => (hno.out h2).elim, fun _ => rfl, hbox _⟩
  have hops : decide (ops < 0) = false := decide_eq_false (by omega)
  obtain ⟨M, hMr, hM⟩ : ∃ M : Int, (∀ (ts : Array TypeId) (t : TypeId) (w : World), (Builtin.max_ ts t #[.int .i64 l0.length, .int .i64 l1.length, .int .i64 l2.length]).run Try.prog w = .ok (.int .i64 M) w) ∧ decide (4096 < M) = false :=
    ⟨if (l2.length : Int) > (if (l1.length : Int) > (l0.length : Int) then (l1.length : Int) else (l0.length : Int)) then (l2.length : Int) else (if (l1.length : Int) > (l0.length : Int) then (l1.length : Int) else (l0.length : Int)), fun ts t w => run_max_int3 w ts t .i64 .i64 .i64 _ _ _, by
      rw [decide_eq_false_iff_not]
      have h0 := hF0; have h1 := hF1; have h2 := hF2
      clear hG0 hG1 hG2 hL hmm hu0 hu1 hu2 hu3 hu4
      by_cases e1 : (l1.length : Int) > (l0.length : Int)
      · rw [if_pos e1]; split <;> omega
      · rw [if_neg e1]; split <;> omega⟩
  go_enter Try.func38, Try.ntmps38
  go_wp2_with (simp only [hMr])
  obtain ⟨W0, hW0⟩ : ∃ W0, ((w.alloc (.cells #[.slice A0 l0.length c0, .slice A1 l1.length c1, .slice A2 l2.length c2, .int .i64 ops] 41)).alloc (.map #[] 0)).alloc (.map #[] 0) = W0 := ⟨_, rfl⟩
  have hL0 : CkL w A0 l0.length c0 A1 l1.length c1 A2 l2.length c2 ops W0 := by
    rw [← hW0]
    exact ⟨(((Below.refl _ w).alloc (Nat.le_refl _) _).alloc (by simp) _).alloc (by simp; omega) _, (Below.heap_alloc _ _ _ (by simp; omega)).trans ((Below.heap_alloc _ _ _ (by simp)).trans (heap_alloc_new w _))⟩
  have hA0 : CkA l0 w 0 W0 := by
    rw [← hW0]
    refine ⟨fun j h hj => absurd hj (Nat.not_lt_zero _), ?_, ?_⟩
    · rw [List.take_zero, gNil_nil]
      refine GN.made (clock := 0) ((Below.heap_alloc _ _ _ (by simp)).trans ?_)
      have := heap_alloc_new (w.alloc (.cells #[.slice A0 l0.length c0, .slice A1 l1.length c1, .slice A2 l2.length c2, .int .i64 ops] 41)) (.map #[] 0)
      rwa [World.size_alloc] at this
    · rw [List.take_zero, gNil_nil]
      refine GN.made (clock := 0) ?_
      have := heap_alloc_new ((w.alloc (.cells #[.slice A0 l0.length c0, .slice A1 l1.length c1, .slice A2 l2.length c2, .int .i64 ops] 41)).alloc (.map #[] 0)) (.map #[] 0)
      rwa [World.size_alloc, World.size_alloc] at this
  rw [hW0]
  clear hW0
  go_loopw [44] (fun i wr => ∃ k : Nat, k ≤ l0.length ∧ i = .int .i64 k ∧ CkL w A0 l0.length c0 A1 l1.length c1 A2 l2.length c2 ops wr ∧ CkA l0 w k wr)
    (fun i _ => l0.length - (intOf i).toNat)
  case atStart => exact ⟨0, Nat.zero_le _, rfl, hL0, hA0⟩
  case round =>
    obtain ⟨k, hk, rfl, hLw, hA⟩ := hrel
    by_cases hlt : k < l0.length
    -- <L1
    · have hd : decide ((k : Int) < (l0.length : Int)) = true := decide_eq_true (by omega)
      obtain ⟨ad, rfl, hx0, hx1, hx2, hx3⟩ := at_T100 hL.r0 k (by omega) (by omega)
      rw [Int.toNat_natCast] at hx0 hx1 hx2 hx3
      have hy0 := (hLw.low.cell (World.block_lt_of_cell? w _ hx0)).trans hx0
      have hy1 := (hLw.low.cell (World.block_lt_of_cell? w _ hx1)).trans hx1
      have hy2 := (hLw.low.cell (World.block_lt_of_cell? w _ hx2)).trans hx2
      have hy3 := (hLw.low.cell (World.block_lt_of_cell? w _ hx3)).trans hx3
      have hr : rd_T100 l0 k = l0[k] := by unfold rd_T100; rw [Int.toNat_natCast, List.getD_eq_getElem?_getD, List.getElem?_eq_getElem hlt]; rfl
      rw [hr] at hy0 hy1 hy2 hy3
      obtain ⟨s, hs⟩ : ∃ s, s = l0[k] := ⟨_, rfl⟩
      rw [← hs] at hy0 hy1 hy2 hy3
      have Hs := Lib.hid hs
      clear hs hr hx0 hx1 hx2 hx3
      have hB1 := fun o => hLw.low.alloc hLw.low.size o
      obtain ⟨W1, hW1⟩ : ∃ W1, wr.alloc (.cells #[.string s.f0, .string s.f1, .int .i64 s.f2, .int .i64 s.f3] 100) = W1 := ⟨_, rfl⟩
      have hz0 : W1.cell? ⟨wr.heap.size, 0, none⟩ = some (.string s.f0) := by rw [← hW1]; simp
      have hz1 : W1.cell? ⟨wr.heap.size, 1, none⟩ = some (.string s.f1) := by rw [← hW1]; simp
      have hz2 : W1.cell? ⟨wr.heap.size, 2, none⟩ = some (.int .i64 s.f2) := by rw [← hW1]; simp
      have hz3 : W1.cell? ⟨wr.heap.size, 3, none⟩ = some (.int .i64 s.f3) := by rw [← hW1]; simp
      have hlz := World.block_lt_of_cell? W1 _ hz0
      have hBw1 : Below w.heap.size w W1 := by rw [← hW1]; exact hB1 _
      have hname := fun (b : ByteArray) (w : World) => (name_calls b w).mono (fun _ _ h => (⟨h.1, h.2.symm⟩ : _ ∧ _))
      have hneg : ¬ stB l0 k s → CkP l0 l1 l2 ops → False := fun h h2 => h (by rw [Hs.out]; exact h2.2.1 k hlt)
      have Hneg := Lib.hid hneg
      clear hneg
      cases n0 : nameB s.f0 with
      | false =>
        have hst := Lib.hid (show ¬ stB l0 k s from fun h => by rw [h.1] at n0; cases n0)
        go_wp2
        go_quiet (first | (go_at_call 53; exact Calls.quiet_of_same (hname _ _)))
        go_wp2
        go_ret
        exact ⟨fun h => (Hneg.out hst.out h).elim, fun _ => rfl, pw_below_drewN hBw1 nq⟩
      | true =>
        cases n1 : nameB s.f1 with
        | false =>
          have hst := Lib.hid (show ¬ stB l0 k s from fun h => by rw [h.2.1] at n1; cases n1)
          go_wp2
          go_quiet (first | (go_at_call 53; exact Calls.quiet_of_same (hname _ _)))
          go_wp2
          go_ret
          exact ⟨fun h => (Hneg.out hst.out h).elim, fun _ => rfl, pw_below_drewN hBw1 nq⟩
        | true =>
          by_cases n2 : s.f3 < 0
          · have n2b : decide (s.f3 < 0) = true := decide_eq_true n2
            have hst := Lib.hid (show ¬ stB l0 k s from fun h => by have := h.2.2.1; omega)
            clear n2
            go_wp2
            go_quiet (first | (go_at_call 53; exact Calls.quiet_of_same (hname _ _)))
            go_wp2
            go_ret
            exact ⟨fun h => (Hneg.out hst.out h).elim, fun _ => rfl, pw_below_drewN hBw1 nq⟩
          · have n2b : decide (s.f3 < 0) = false := decide_eq_false n2
            by_cases n3 : s.f2 < s.f3
            · have n3b : decide (s.f2 < s.f3) = true := decide_eq_true n3
              have hst := Lib.hid (show ¬ stB l0 k s from fun h => by have := h.2.2.2.1; omega)
              clear n2 n3
              go_wp2
              go_quiet (first | (go_at_call 53; exact Calls.quiet_of_same (hname _ _)))
              go_wp2
              go_ret
              exact ⟨fun h => (Hneg.out hst.out h).elim, fun _ => rfl, pw_below_drewN hBw1 nq⟩
            · have n3b : decide (s.f2 < s.f3) = false := decide_eq_false n3
              have hst := Lib.hid (show (0 < k → ordP (stP (l0.getD (k - 1) z100)) (stP s) < 0) → stB l0 k s from fun h => ⟨n0, n1, by omega, by omega, h⟩)
              clear n2 n3
              by_cases hk0 : k = 0
              · have n4b : decide ((0 : Int) < (k : Int)) = false := decide_eq_false (by omega)
                have n4c : decide (0 < k) = false := decide_eq_false (by omega)
                have hstk := Lib.hid (hst.out (fun h => by omega))
                clear hk0
                go_wp2
                go_quiet (first | (go_at_call 53; exact Calls.quiet_of_same (hname _ _)))
                obtain ⟨V1, hV1⟩ : ∃ V1, W1.drewN nq = V1 := ⟨_, rfl⟩
                have hBV : Below W1.heap.size W1 V1 := by rw [← hV1]; exact pw_below_drewN (Below.refl _ _) nq
                rw [hV1]
                clear hV1
                have hc : StAt wr.heap.size s V1 := StAt.below ⟨hz0, hz1, hz2, hz3⟩ hBV
                clear hz0 hz1 hz2 hz3 hy0 hy1 hy2 hy3
                have hbb : Below wr.heap.size wr V1 := by
                  have h1 : Below wr.heap.size wr W1 := by rw [← hW1]; exact (Below.refl _ _).alloc (Nat.le_refl _) _
                  exact below_chain h1 hBV
                have HM := Lib.hid (show ∀ V, Below V1.heap.size V1 V → ∃ (v0 : Value) (st : Int) (wE w2 w3 : World), (Instr.mapEntry 98 (.map (some (w.heap.size + 1))) (.agg #[.string s.f0, .string s.f1])).run Try.prog V = .ok (.tuple #[v0, (.int .i64 st)]) wE ∧
                    (Instr.entryStore 98 (.map (some (w.heap.size + 1))) ((.int .i64 st)) (.slice none 0 0)).run Try.prog wE = .ok () w2 ∧
                    (Instr.mapUpdate 98 (.map (some (w.heap.size + 1 + 1))) (.agg #[.string s.f0, .string s.f1]) (.slice none 0 0)).run Try.prog w2 = .ok () w3 ∧ CkL w (some ad) l0.length c0 A1 l1.length c1 A2 l2.length c2 ops w3 ∧ CkA l0 w (k + 1) w3 ∧
                    StAt wr.heap.size s V ∧ StAt wr.heap.size s wE ∧ StAt wr.heap.size s w2 ∧ StAt wr.heap.size s w3 from fun V hV => by
                  have hcV := hc.below hV
                  have hmlt := hA.moved.lt
                  obtain ⟨v0, st, wE, w2, w3, r1, r2, r3, hA3, g1, g2, g3⟩ := ((hA.below hbb).below hV).step hlt Hs.out hstk.out (by omega)
                  have h1 := hcV.grown g1 (by omega)
                  have h2 := h1.grown g2 (by omega)
                  exact ⟨v0, st, wE, w2, w3, r1, r2, r3, (((hLw.below (below_chain hbb hV)).grown g1 (by omega)).grown g2 (by omega)).grown g3 (by omega), hA3, hcV, h1, h2, h2.grown g3 (by omega)⟩)
                have HC := Lib.hid hc
                have hAm : ∀ Q : Prop, (CkL w (some ad) l0.length c0 A1 l1.length c1 A2 l2.length c2 ops wr → CkA l0 w k wr → Q) → Q := fun Q h => h hLw hA
                clear hLw hA hc hAm hbb hBV
                go_wp2
                go_region_held3 (fun V => V.cell? ⟨wr.heap.size, 0, none⟩ = some (.string s.f0) ∧ V.cell? ⟨wr.heap.size, 1, none⟩ = some (.string s.f1) ∧ V.cell? ⟨wr.heap.size, 2, none⟩ = some (.int .i64 s.f2) ∧ V.cell? ⟨wr.heap.size, 3, none⟩ = some (.int .i64 s.f3))
                  (first | assumption | exact StAt.below HC.out (below_drew (Below.refl _ _)) | exact StAt.below HC.out hb | exact StAt.below HC.out (below_chain (below_drew (Below.refl _ _)) hbn1) | exact hS0 | exact hSE | exact hS2 | exact hS3)
                  (first
                    | (go_at_call 55; refine (of_calls _ _ _ _ _).mono ?_; rintro e w' ⟨rfl, hbn2⟩; have hb := below_chain (below_chain (below_drew (Below.refl V1.heap.size V1)) hbn1) hbn2; obtain ⟨v0, st, wE, w2, w3, r1, r2, r3, hL3, hA3, hS0, hSE, hS2, hS3⟩ := HM.out _ hb)
                    | (go_at_call 55; refine (of_calls _ _ _ _ _).mono ?_; rintro e w' ⟨rfl, hbn1⟩))
                go_wp2
                exact ⟨⟨k + 1, by omega, by simp, hL3, hA3⟩, by simp [intOf]; omega⟩
              · have n4b : decide ((0 : Int) < (k : Int)) = true := decide_eq_true (by omega)
                have n4c : decide (0 < k) = true := decide_eq_true (by omega)
                obtain ⟨m, hm⟩ : ∃ m, k = m + 1 := ⟨k - 1, by omega⟩
                have hm1 : IntKind.i64.wrap ((k : Int) - 1) = (m : Int) := by rw [IntKind.wrap_i64]; omega
                have hm2 : (0 : Int) ≤ (m : Int) := Int.natCast_nonneg _
                have hm3 : (m : Int) < (l0.length : Int) := by omega
                obtain ⟨ad', hadd, hx0, hx1, hx2, hx3⟩ := at_T100 hL.r0 m (by omega) (by omega)
                cases hadd
                rw [Int.toNat_natCast] at hx0 hx1 hx2 hx3
                have hr : rd_T100 l0 m = l0.getD (k - 1) z100 := by unfold rd_T100; rw [Int.toNat_natCast, hm]; rfl
                rw [hr] at hx0 hx1 hx2 hx3
                obtain ⟨p, hp⟩ : ∃ p, p = l0.getD (k - 1) z100 := ⟨_, rfl⟩
                rw [← hp] at hx0 hx1 hx2 hx3
                rw [← hp] at hst
                have hw0 := cell_below hBw1 hx0
                have hw1 := cell_below hBw1 hx1
                have hw2 := cell_below hBw1 hx2
                have hw3 := cell_below hBw1 hx3
                have hled : W1.cell? ⟨w.heap.size, 0, none⟩ = some (.slice (some ad) l0.length c0) := by
                  rw [← hW1]
                  exact (blk_cell ((Below.heap_alloc _ _ _ (World.block_lt_of_cell? wr _ (blk_cell hLw.led 0 |>.trans rfl))).trans hLw.led) 0).trans rfl
                have HK := Lib.hid (show ∀ V, Below W1.heap.size W1 V → (fun V => V.cell? ⟨wr.heap.size, 0, none⟩ = some (.string s.f0) ∧ V.cell? ⟨wr.heap.size, 1, none⟩ = some (.string s.f1) ∧ V.cell? ⟨wr.heap.size, 2, none⟩ = some (.int .i64 s.f2) ∧ V.cell? ⟨wr.heap.size, 3, none⟩ = some (.int .i64 s.f3) ∧ V.cell? ⟨w.heap.size, 0, none⟩ = some (.slice (some ad) l0.length c0) ∧ V.cell? (ad.add (m * 4)) = some (.string p.f0) ∧ V.cell? ⟨(ad.add (m * 4)).block, (ad.add (m * 4)).off + 1, none⟩ = some (.string p.f1) ∧ V.cell? ⟨(ad.add (m * 4)).block, (ad.add (m * 4)).off + 2, none⟩ = some (.int .i64 p.f2) ∧ V.cell? ⟨(ad.add (m * 4)).block, (ad.add (m * 4)).off + 3, none⟩ = some (.int .i64 p.f3) ∧ Below W1.heap.size W1 V) V from fun V h =>
                  ⟨cell_below h hz0, cell_below h hz1, cell_below h hz2, cell_below h hz3, cell_below h hled, cell_below h hw0, cell_below h hw1, cell_below h hw2, cell_below h hw3, h⟩)
                have Hm := Lib.hid hm
                have Hp := Lib.hid hp
                have HLA := Lib.hid (And.intro hLw hA)
                clear hm hp hx0 hx1 hx2 hx3 hr hk0 hw0 hw1 hw2 hw3 hled hLw hA hB1
                obtain ⟨o, ho⟩ : ∃ o, ordP (p.f0, p.f1) (s.f0, s.f1) = o := ⟨_, rfl⟩
                have hord : ∀ V, Calls Try.prog 54 #[.agg #[.string p.f0, .string p.f1], .agg #[.string s.f0, .string s.f1]] V fun e w' => e = .returned (.int .i64 o) ∧ Below V.heap.size V w' := fun V => by
                  rw [← ho]
                  exact order_calls (p.f0, p.f1) (s.f0, s.f1) V
                have HO := Lib.hid ho
                clear ho
                by_cases hoo : o < 0
                · have hob : decide (0 ≤ o) = false := decide_eq_false (by omega)
                  have hstk := Lib.hid (hst.out (fun _ => by
                    have e : ordP (stP p) (stP s) = o := HO.out
                    rw [e]; exact hoo))
                  clear hoo
                  go_wp2
                  go_region_held3 (fun V => V.cell? ⟨wr.heap.size, 0, none⟩ = some (.string s.f0) ∧ V.cell? ⟨wr.heap.size, 1, none⟩ = some (.string s.f1) ∧ V.cell? ⟨wr.heap.size, 2, none⟩ = some (.int .i64 s.f2) ∧ V.cell? ⟨wr.heap.size, 3, none⟩ = some (.int .i64 s.f3) ∧ V.cell? ⟨w.heap.size, 0, none⟩ = some (.slice (some ad) l0.length c0) ∧ V.cell? (ad.add (m * 4)) = some (.string p.f0) ∧ V.cell? ⟨(ad.add (m * 4)).block, (ad.add (m * 4)).off + 1, none⟩ = some (.string p.f1) ∧ V.cell? ⟨(ad.add (m * 4)).block, (ad.add (m * 4)).off + 2, none⟩ = some (.int .i64 p.f2) ∧ V.cell? ⟨(ad.add (m * 4)).block, (ad.add (m * 4)).off + 3, none⟩ = some (.int .i64 p.f3) ∧ Below W1.heap.size W1 V)
                    (first | assumption | exact HK.out _ (below_drew (Below.refl _ _)) | (go_split_ands; exact HK.out _ (below_chain (by assumption) hbn)))
                    (first
                      | (go_at_call 53; refine (name_calls _ _).mono ?_; rintro e w' ⟨rfl, rfl⟩)
                      | (go_at_call 55; refine (of_calls _ _ _ _ _).mono ?_; rintro e w' ⟨rfl, hbn⟩)
                      | (go_at_call 54; refine (hord _).mono ?_; rintro e w' ⟨rfl, hbn⟩))
                  go_split_ands
                  have hBV : Below W1.heap.size W1 w' := by assumption
                  have hlA := HLA.out.1
                  obtain ⟨hLw, hA⟩ := HLA.out
                  have hc : StAt wr.heap.size s w' := StAt.below ⟨hz0, hz1, hz2, hz3⟩ hBV
                  clear hz0 hz1 hz2 hz3 hy0 hy1 hy2 hy3
                  have hbb : Below wr.heap.size wr w' := by
                    have h1 : Below wr.heap.size wr W1 := by rw [← hW1]; exact (Below.refl _ _).alloc (Nat.le_refl _) _
                    exact below_chain h1 hBV
                  have HM := Lib.hid (show ∀ V, Below w'.heap.size w' V → ∃ (v0 : Value) (st : Int) (wE w2 w3 : World), (Instr.mapEntry 98 (.map (some (w.heap.size + 1))) (.agg #[.string s.f0, .string s.f1])).run Try.prog V = .ok (.tuple #[v0, (.int .i64 st)]) wE ∧
                      (Instr.entryStore 98 (.map (some (w.heap.size + 1))) ((.int .i64 st)) (.slice none 0 0)).run Try.prog wE = .ok () w2 ∧
                      (Instr.mapUpdate 98 (.map (some (w.heap.size + 1 + 1))) (.agg #[.string s.f0, .string s.f1]) (.slice none 0 0)).run Try.prog w2 = .ok () w3 ∧ CkL w (some ad) l0.length c0 A1 l1.length c1 A2 l2.length c2 ops w3 ∧ CkA l0 w (k + 1) w3 ∧
                      StAt wr.heap.size s V ∧ StAt wr.heap.size s wE ∧ StAt wr.heap.size s w2 ∧ StAt wr.heap.size s w3 from fun V hV => by
                    have hcV := hc.below hV
                    have hmlt := hA.moved.lt
                    obtain ⟨v0, st, wE, w2, w3, r1, r2, r3, hA3, g1, g2, g3⟩ := ((hA.below hbb).below hV).step hlt Hs.out hstk.out (by omega)
                    have h1 := hcV.grown g1 (by omega)
                    have h2 := h1.grown g2 (by omega)
                    exact ⟨v0, st, wE, w2, w3, r1, r2, r3, (((hLw.below (below_chain hbb hV)).grown g1 (by omega)).grown g2 (by omega)).grown g3 (by omega), hA3, hcV, h1, h2, h2.grown g3 (by omega)⟩)
                  have HC := Lib.hid hc
                  have hAm : ∀ Q : Prop, (CkL w (some ad) l0.length c0 A1 l1.length c1 A2 l2.length c2 ops wr → CkA l0 w k wr → Q) → Q := fun Q h => h hLw hA
                  clear hLw hA hc hAm hbb hBV
                  go_wp2
                  go_region_held3 (fun V => V.cell? ⟨wr.heap.size, 0, none⟩ = some (.string s.f0) ∧ V.cell? ⟨wr.heap.size, 1, none⟩ = some (.string s.f1) ∧ V.cell? ⟨wr.heap.size, 2, none⟩ = some (.int .i64 s.f2) ∧ V.cell? ⟨wr.heap.size, 3, none⟩ = some (.int .i64 s.f3))
                    (first | assumption | exact StAt.below HC.out (below_drew (Below.refl _ _)) | exact StAt.below HC.out hb | exact StAt.below HC.out (below_chain (below_drew (Below.refl _ _)) hbn1) | exact hS0 | exact hSE | exact hS2 | exact hS3)
                    (first
                      | (go_at_call 55; refine (of_calls _ _ _ _ _).mono ?_; rintro e w9 ⟨rfl, hbn2⟩; have hb := below_chain (below_chain (below_drew (Below.refl w'.heap.size w')) hbn1) hbn2; obtain ⟨v0, st, wE, w2, w3, r1, r2, r3, hL3, hA3, hS0, hSE, hS2, hS3⟩ := HM.out _ hb)
                      | (go_at_call 55; refine (of_calls _ _ _ _ _).mono ?_; rintro e w9 ⟨rfl, hbn1⟩))
                  go_wp2
                  exact ⟨⟨k + 1, by omega, by simp, hL3, hA3⟩, by simp [intOf]; omega⟩
                · have hob : decide (0 ≤ o) = true := decide_eq_true (by omega)
                  have hst2 := Lib.hid (show ¬ stB l0 k s from fun h => by
                    have h5 := h.2.2.2.2 (by have := Hm.out; omega)
                    rw [← Hp.out] at h5
                    have e : ordP (stP p) (stP s) = o := HO.out
                    rw [e] at h5
                    exact hoo h5)
                  clear hoo
                  go_wp2
                  go_region_held3 (fun V => V.cell? ⟨wr.heap.size, 0, none⟩ = some (.string s.f0) ∧ V.cell? ⟨wr.heap.size, 1, none⟩ = some (.string s.f1) ∧ V.cell? ⟨wr.heap.size, 2, none⟩ = some (.int .i64 s.f2) ∧ V.cell? ⟨wr.heap.size, 3, none⟩ = some (.int .i64 s.f3) ∧ V.cell? ⟨w.heap.size, 0, none⟩ = some (.slice (some ad) l0.length c0) ∧ V.cell? (ad.add (m * 4)) = some (.string p.f0) ∧ V.cell? ⟨(ad.add (m * 4)).block, (ad.add (m * 4)).off + 1, none⟩ = some (.string p.f1) ∧ V.cell? ⟨(ad.add (m * 4)).block, (ad.add (m * 4)).off + 2, none⟩ = some (.int .i64 p.f2) ∧ V.cell? ⟨(ad.add (m * 4)).block, (ad.add (m * 4)).off + 3, none⟩ = some (.int .i64 p.f3) ∧ Below W1.heap.size W1 V)
                    (first | assumption | exact HK.out _ (below_drew (Below.refl _ _)) | (go_split_ands; exact HK.out _ (below_chain (by assumption) hbn)))
                    (first
                      | (go_at_call 53; refine (name_calls _ _).mono ?_; rintro e w' ⟨rfl, rfl⟩)
                      | (go_at_call 55; refine (of_calls _ _ _ _ _).mono ?_; rintro e w' ⟨rfl, hbn⟩)
                      | (go_at_call 54; refine (hord _).mono ?_; rintro e w' ⟨rfl, hbn⟩))
                  go_split_ands
                  have hBV : Below W1.heap.size W1 w' := by assumption
                  go_wp2
                  go_ret
                  exact ⟨fun h => (Hneg.out hst2.out h).elim, fun _ => rfl, below_w hBw1 hBV⟩
    -- L1>
    · obtain rfl : k = l0.length := by omega
      have hd : decide ((l0.length : Int) < (l0.length : Int)) = false := decide_eq_false (by omega)
      have hStk := Lib.hid hA.all
      have hB := hA.toB (l1 := l1)
      have hc1 : wr.cell? ⟨w.heap.size, 1, none⟩ = some (.slice A1 l1.length c1) := (blk_cell hLw.led 1).trans rfl
      have HL0 := Lib.hid hL0
      clear hA hA0 hL0
      go_wp2
      clear hd hc1
      go_loopw [100] (fun i wr => ∃ k : Nat, k ≤ l1.length ∧ i = .int .i64 k ∧ CkL w A0 l0.length c0 A1 l1.length c1 A2 l2.length c2 ops wr ∧ CkB l0 l1 w k wr)
        (fun i _ => l1.length - (intOf i).toNat)
      case atStart => exact ⟨0, Nat.zero_le _, rfl, hLw, hB⟩
      clear hLw hB
      case round =>
        obtain ⟨k, hk, rfl, hLw, hB⟩ := hrel
        by_cases hlt : k < l1.length
        -- <L2
        · have hd : decide ((k : Int) < (l1.length : Int)) = true := decide_eq_true (by omega)
          obtain ⟨ad, rfl, hx0, hx1, hx2, hx3, hx4, hx5⟩ := at_T107 hL.r1 k (by omega) (by omega)
          rw [Int.toNat_natCast] at hx0 hx1 hx2 hx3 hx4 hx5
          have hy0 := cell_below hLw.low hx0
          have hy1 := cell_below hLw.low hx1
          have hy2 := cell_below hLw.low hx2
          have hy3 := cell_below hLw.low hx3
          have hy4 := cell_below hLw.low hx4
          have hy5 := cell_below hLw.low hx5
          have hr : rd_T107 l1 k = l1[k] := by unfold rd_T107; rw [Int.toNat_natCast, List.getD_eq_getElem?_getD, List.getElem?_eq_getElem hlt]; rfl
          rw [hr] at hy0 hy1 hy2 hy3 hy4 hy5
          obtain ⟨h, hh⟩ : ∃ h, h = l1[k] := ⟨_, rfl⟩
          rw [← hh] at hy0 hy1 hy2 hy3 hy4 hy5
          have hG := hG1 h (hh ▸ List.getElem_mem hlt)
          have hp : plOk (hoP h) := ⟨hG.2.1, hG.2.2.1⟩
          have hneg := Lib.hid (show CkP l0 l1 l2 ops → hoB k h ∧ (h.f4 = 0 → hoP h ∈ l0.map stP) from fun h2 => by rw [hh]; exact h2.2.2.1 k hlt)
          have Hh := Lib.hid hh
          clear hh hr hx0 hx1 hx2 hx3 hx4 hx5
          obtain ⟨W2, hW2⟩ : ∃ W2, (wr.alloc (.cells #[.int .i64 h.f0, .string h.f1, .string h.f2, .int .i64 h.f3, .int .i64 h.f4, .int .i64 h.f5] 107)).alloc (.cells #[.string h.f1, .string h.f2] 103) = W2 := ⟨_, rfl⟩
          have hBw : Below wr.heap.size wr W2 := by rw [← hW2]; exact ((Below.refl _ _).alloc (Nat.le_refl _) _).alloc (by simp) _
          have hblk : W2.heap[wr.heap.size]? = some (.cells #[.int .i64 h.f0, .string h.f1, .string h.f2, .int .i64 h.f3, .int .i64 h.f4, .int .i64 h.f5] 107 (0, 0)) := by
            rw [← hW2]; exact (Below.heap_alloc _ _ _ (by simp)).trans (heap_alloc_new wr _)
          have hblk2 : W2.heap[wr.heap.size + 1]? = some (.cells #[.string h.f1, .string h.f2] 103 (0, 0)) := by
            rw [← hW2]
            have := heap_alloc_new (wr.alloc (.cells #[.int .i64 h.f0, .string h.f1, .string h.f2, .int .i64 h.f3, .int .i64 h.f4, .int .i64 h.f5] 107)) (.cells #[.string h.f1, .string h.f2] 103)
            rwa [World.size_alloc] at this
          have hmlt := hB.moved.lt
          have hL2 := hLw.below hBw
          have hB2 := hB.below hBw
          obtain ⟨vl, hlook⟩ := hB2.held.ok hp
          replace hlook : (Instr.lookup 98 (.map (some (w.heap.size + 1))) (.agg #[.string h.f1, .string h.f2]) true).run Try.prog W2 = .ok (.tuple #[vl, .bool (gOf l0 (heldF (l1.take k)) (hoP h)).isSome]) W2 := hlook
          have hcall := ledger_hold.calls (k : Int) h.f0 h.f1 h.f2 h.f3 h.f4 h.f5 _ W2 (hold_f k (by omega) h)
          have hz0 : W2.cell? ⟨wr.heap.size, 0, none⟩ = some (.int .i64 h.f0) := (blk_cell hblk 0).trans rfl
          have hz1 : W2.cell? ⟨wr.heap.size, 1, none⟩ = some (.string h.f1) := (blk_cell hblk 1).trans rfl
          have hz2 : W2.cell? ⟨wr.heap.size, 2, none⟩ = some (.string h.f2) := (blk_cell hblk 2).trans rfl
          have hz3 : W2.cell? ⟨wr.heap.size, 3, none⟩ = some (.int .i64 h.f3) := (blk_cell hblk 3).trans rfl
          have hz4 : W2.cell? ⟨wr.heap.size, 4, none⟩ = some (.int .i64 h.f4) := (blk_cell hblk 4).trans rfl
          have hz5 : W2.cell? ⟨wr.heap.size, 5, none⟩ = some (.int .i64 h.f5) := (blk_cell hblk 5).trans rfl
          have hz6 : W2.cell? ⟨wr.heap.size + 1, 0, none⟩ = some (.string h.f1) := (blk_cell hblk2 0).trans rfl
          have hz7 : W2.cell? ⟨wr.heap.size + 1, 1, none⟩ = some (.string h.f2) := (blk_cell hblk2 1).trans rfl
          obtain ⟨kn, hkn⟩ : ∃ kn, (gOf l0 (heldF (l1.take k)) (hoP h)).isSome = kn := ⟨_, rfl⟩
          rw [hkn] at hlook
          have Hkn := Lib.hid hkn
          have HLB := Lib.hid (And.intro hL2 hB2)
          have HG := Lib.hid hG
          clear hkn hLw hB hL2 hB2 hblk hblk2 hG hp
          go_wp2_with fail
          refine hcall.mono ?_
          clear hcall
          rintro e w' ⟨rfl, hbn⟩
          have hBx := below_w HLB.out.1.low hbn
          have hu3' := cell_below hbn hz3
          have hu4' := cell_below hbn hz4
          have hu6' := cell_below hbn hz6
          have hu7' := cell_below hbn hz7
          clear hz0 hz1 hz2 hz3 hz4 hz5 hz6 hz7 hlook hy0 hy1 hy2 hy3 hy4 hy5
          by_cases ho : hoB k h
          · have hob : decide (hoB k h) = true := decide_eq_true ho
            have Ho := Lib.hid ho
            rw [hob]
            clear ho hob
            by_cases h4 : h.f4 = 0
            · have h4b : (h.f4 == 0) = true := by rw [h4]; rfl
              by_cases hin : hoP h ∈ l0.map stP
              · have hkt : kn = true := by rw [← Hkn.out, gOf_known hin]; rfl
                subst hkt
                have H4 := Lib.hid h4
                have Hin := Lib.hid hin
                have hwz := hbn.size
                have hwlt : w.heap.size + 3 ≤ w'.heap.size := by have := HLB.out.2.moved.lt; omega
                obtain ⟨W3, hW3⟩ : ∃ W3, w'.alloc (.cells #[.int .i64 h.f3] 3) = W3 := ⟨_, rfl⟩
                have hb3 : Below w'.heap.size w' W3 := by rw [← hW3]; exact (Below.refl _ _).alloc (Nat.le_refl _) _
                have ha : W3.cell? ⟨w'.heap.size, 0, none⟩ = some (.int .i64 h.f3) := by rw [← hW3]; simp
                have hs3 := hb3.size
                obtain ⟨v0, st, wE, v1, w1, w2, r1, r2, r3, hLn, hBn⟩ := CkB.step ((HLB.out.1.below hbn).below hb3) ((HLB.out.2.below hbn).below hb3) hlt Hh.out Ho.out h4 hin HG.out.2.2.2.1 (by omega) ha (by omega) (by omega)
                clear h4 hin ha
                go_wp2_with (at_builtin; refine wpList_append_run rfl _ _ _ rfl r2 ?_)
                exact ⟨⟨k + 1, by omega, by simp, hLn, hBn⟩, by simp [intOf]; omega⟩
              · have hkt : kn = false := by rw [← Hkn.out, gOf_not hin]; rfl
                subst hkt
                have hno := Lib.hid (fun h2 : CkP l0 l1 l2 ops => hin ((hneg.out h2).2 h4))
                clear h4 hin
                go_wp2
                go_ret
                exact ⟨fun h2 => (hno.out h2).elim, fun _ => rfl, hBx⟩
            · have h4b : (h.f4 == 0) = false := by simpa using h4
              have hBn := Lib.hid ((HLB.out.2.below hbn).skip hlt Hh.out Ho.out h4)
              have hLn := Lib.hid (HLB.out.1.below hbn)
              clear h4
              go_wp2
              exact ⟨⟨k + 1, by omega, by simp, hLn.out, hBn.out⟩, by simp [intOf]; omega⟩
          · have hob : decide (hoB k h) = false := decide_eq_false ho
            have hno := Lib.hid (fun h2 : CkP l0 l1 l2 ops => ho (hneg.out h2).1)
            rw [hob]
            clear ho hob
            go_wp2
            go_ret
            exact ⟨fun h2 => (hno.out h2).elim, fun _ => rfl, hBx⟩
        -- L2>
        · obtain rfl : k = l1.length := by omega
          have hd : decide ((l1.length : Int) < (l1.length : Int)) = false := decide_eq_false (by omega)
          have hHol := Lib.hid hB
          have hC := hB.toC (l2 := l2)
          have hc2 : wr.cell? ⟨w.heap.size, 2, none⟩ = some (.slice A2 l2.length c2) := (blk_cell hLw.led 2).trans rfl
          have hw3 : w.heap.size < wr.heap.size := by have := hB.moved.lt; omega
          obtain ⟨w3, hw3e⟩ : ∃ w3, w3 = wr := ⟨_, rfl⟩
          subst hw3e
          clear hB
          go_wp2
          clear hd hc2
          go_loopw [145] (fun i wr => ∃ k : Nat, k ≤ l2.length ∧ i = .int .i64 k ∧ CkL w A0 l0.length c0 A1 l1.length c1 A2 l2.length c2 ops wr ∧ CkC l0 l2 w w3 k wr)
            (fun i _ => l2.length - (intOf i).toNat)
          case atStart => exact ⟨0, Nat.zero_le _, rfl, hLw, hC⟩
          clear hLw hC
          case round =>
            obtain ⟨k, hk, rfl, hLw, hC⟩ := hrel
            by_cases hlt : k < l2.length
            -- <L3
            · have hd : decide ((k : Int) < (l2.length : Int)) = true := decide_eq_true (by omega)
              obtain ⟨ad, rfl, hx0, hx1, hx2, hx3, hx4, hx5⟩ := at_T111 hL.r2 k (by omega) (by omega)
              rw [Int.toNat_natCast] at hx0 hx1 hx2 hx3 hx4 hx5
              have hy0 := cell_below hLw.low hx0
              have hy1 := cell_below hLw.low hx1
              have hy2 := cell_below hLw.low hx2
              have hy3 := cell_below hLw.low hx3
              have hy4 := cell_below hLw.low hx4
              have hy5 := cell_below hLw.low hx5
              have hr : rd_T111 l2 k = l2[k] := by unfold rd_T111; rw [Int.toNat_natCast, List.getD_eq_getElem?_getD, List.getElem?_eq_getElem hlt]; rfl
              rw [hr] at hy0 hy1 hy2 hy3 hy4 hy5
              obtain ⟨h, hh⟩ : ∃ h, h = l2[k] := ⟨_, rfl⟩
              rw [← hh] at hy0 hy1 hy2 hy3 hy4 hy5
              have hG := hG2 h (hh ▸ List.getElem_mem hlt)
              have hp : plOk (moP h) := ⟨hG.2.1, hG.2.2.1⟩
              have hneg := Lib.hid (show CkP l0 l1 l2 ops → moB k h ∧ moP h ∈ l0.map stP from fun h2 => by rw [hh]; exact h2.2.2.2.1 k hlt)
              have Hh := Lib.hid hh
              clear hh hr hx0 hx1 hx2 hx3 hx4 hx5
              obtain ⟨W2, hW2⟩ : ∃ W2, (wr.alloc (.cells #[.int .i64 h.f0, .string h.f1, .string h.f2, .int .i64 h.f3, .int .i64 h.f4, .int .i64 h.f5] 111)).alloc (.cells #[.string h.f1, .string h.f2] 103) = W2 := ⟨_, rfl⟩
              have hBw : Below wr.heap.size wr W2 := by rw [← hW2]; exact ((Below.refl _ _).alloc (Nat.le_refl _) _).alloc (by simp) _
              have hblk : W2.heap[wr.heap.size]? = some (.cells #[.int .i64 h.f0, .string h.f1, .string h.f2, .int .i64 h.f3, .int .i64 h.f4, .int .i64 h.f5] 111 (0, 0)) := by
                rw [← hW2]; exact (Below.heap_alloc _ _ _ (by simp)).trans (heap_alloc_new wr _)
              have hblk2 : W2.heap[wr.heap.size + 1]? = some (.cells #[.string h.f1, .string h.f2] 103 (0, 0)) := by
                rw [← hW2]
                have := heap_alloc_new (wr.alloc (.cells #[.int .i64 h.f0, .string h.f1, .string h.f2, .int .i64 h.f3, .int .i64 h.f4, .int .i64 h.f5] 111)) (.cells #[.string h.f1, .string h.f2] 103)
                rwa [World.size_alloc] at this
              have hmlt := hC.moved.lt
              have hL2 := hLw.below hBw
              have hC2 := hC.below hBw
              obtain ⟨vl, hlook⟩ := hC2.moved.ok hp
              replace hlook : (Instr.lookup 98 (.map (some (w.heap.size + 1 + 1))) (.agg #[.string h.f1, .string h.f2]) true).run Try.prog W2 = .ok (.tuple #[vl, .bool (gOf l0 (movedF (l2.take k)) (moP h)).isSome]) W2 := hlook
              have hcall := ledger_move.calls 1 (k : Int) h.f0 h.f1 h.f2 h.f3 h.f4 h.f5 _ W2 (move_f k (by omega) h)
              have hz0 : W2.cell? ⟨wr.heap.size, 0, none⟩ = some (.int .i64 h.f0) := (blk_cell hblk 0).trans rfl
              have hz1 : W2.cell? ⟨wr.heap.size, 1, none⟩ = some (.string h.f1) := (blk_cell hblk 1).trans rfl
              have hz2 : W2.cell? ⟨wr.heap.size, 2, none⟩ = some (.string h.f2) := (blk_cell hblk 2).trans rfl
              have hz3 : W2.cell? ⟨wr.heap.size, 3, none⟩ = some (.int .i64 h.f3) := (blk_cell hblk 3).trans rfl
              have hz4 : W2.cell? ⟨wr.heap.size, 4, none⟩ = some (.int .i64 h.f4) := (blk_cell hblk 4).trans rfl
              have hz5 : W2.cell? ⟨wr.heap.size, 5, none⟩ = some (.int .i64 h.f5) := (blk_cell hblk 5).trans rfl
              have hz6 : W2.cell? ⟨wr.heap.size + 1, 0, none⟩ = some (.string h.f1) := (blk_cell hblk2 0).trans rfl
              have hz7 : W2.cell? ⟨wr.heap.size + 1, 1, none⟩ = some (.string h.f2) := (blk_cell hblk2 1).trans rfl
              have hBx2 := hL2.low
              by_cases hin : moP h ∈ l0.map stP
              · rw [show (gOf l0 (movedF (l2.take k)) (moP h)).isSome = true from by rw [gOf_known hin]; rfl] at hlook
                have Hin := Lib.hid hin
                have HLC := Lib.hid (And.intro hL2 hC2)
                have HG := Lib.hid hG
                clear hLw hC hL2 hC2 hblk hblk2 hG hp hin
                go_wp2_with fail
                refine hcall.mono ?_
                clear hcall
                rintro e w' ⟨rfl, hbn⟩
                have hBx := below_w hBx2 hbn
                have hu3' := cell_below hbn hz3
                have hu6' := cell_below hbn hz6
                have hu7' := cell_below hbn hz7
                clear hz0 hz1 hz2 hz3 hz4 hz5 hz6 hz7 hlook hy0 hy1 hy2 hy3 hy4 hy5
                by_cases ho : moB k h
                · have hob : decide (moB k h) = true := decide_eq_true ho
                  rw [hob]
                  have hwz := hbn.size
                  have hwlt : w.heap.size + 3 ≤ w'.heap.size := by have := HLC.out.2.moved.lt; omega
                  obtain ⟨W3, hW3⟩ : ∃ W3, w'.alloc (.cells #[.int .i64 h.f3] 3) = W3 := ⟨_, rfl⟩
                  have hb3 : Below w'.heap.size w' W3 := by rw [← hW3]; exact (Below.refl _ _).alloc (Nat.le_refl _) _
                  have ha : W3.cell? ⟨w'.heap.size, 0, none⟩ = some (.int .i64 h.f3) := by rw [← hW3]; simp
                  obtain ⟨v0, st, wE, v1, w1, w2, r1, r2, r3, hLn, hCn⟩ := CkC.step ((HLC.out.1.below hbn).below hb3) ((HLC.out.2.below hbn).below hb3) hlt Hh.out ho Hin.out HG.out.2.2.2.1 (by omega) ha (by omega) hw3
                  clear ho hob ha
                  go_wp2_with (at_builtin; refine wpList_append_run rfl _ _ _ rfl r2 ?_)
                  exact ⟨⟨k + 1, by omega, by simp, hLn, hCn⟩, by simp [intOf]; omega⟩
                · have hob : decide (moB k h) = false := decide_eq_false ho
                  have hno := Lib.hid (fun h2 : CkP l0 l1 l2 ops => ho (hneg.out h2).1)
                  rw [hob]
                  clear ho hob
                  go_wp2
                  go_ret
                  exact ⟨fun h2 => (hno.out h2).elim, fun _ => rfl, hBx⟩
              · rw [show (gOf l0 (movedF (l2.take k)) (moP h)).isSome = false from by rw [gOf_not hin]; rfl] at hlook
                have hno := Lib.hid (fun h2 : CkP l0 l1 l2 ops => hin (hneg.out h2).2)
                clear hLw hC hL2 hC2 hblk hblk2 hG hp hin hcall
                go_wp2
                go_ret
                exact ⟨fun h2 => (hno.out h2).elim, fun _ => rfl, hBx2⟩
            -- L3>
            · obtain rfl : k = l2.length := by omega
              have hd : decide ((l2.length : Int) < (l2.length : Int)) = false := decide_eq_false (by omega)
              have hMov := Lib.hid hC.all
              have hD := hC.toD (l1 := l1) hHol.out
              have hc0' : wr.cell? ⟨w.heap.size, 0, none⟩ = some (.slice A0 l0.length c0) := (blk_cell hLw.led 0).trans rfl
              clear hC
              go_wp2
              clear hd hc0'
              go_loopw [182] (fun i wr => ∃ k : Nat, k ≤ l0.length ∧ i = .int .i64 k ∧ CkL w A0 l0.length c0 A1 l1.length c1 A2 l2.length c2 ops wr ∧ CkD l0 l1 l2 w w3.heap.size k wr)
                (fun i _ => l0.length - (intOf i).toNat)
              case atStart => exact ⟨0, Nat.zero_le _, rfl, hLw, hD⟩
              clear hLw hD
              case round =>
                obtain ⟨k, hk, rfl, hLw, hD⟩ := hrel
                by_cases hlt : k < l0.length
                -- <L4
                · have hd : decide ((k : Int) < (l0.length : Int)) = true := decide_eq_true (by omega)
                  obtain ⟨ad, rfl, hx0, hx1, hx2, hx3⟩ := at_T100 hL.r0 k (by omega) (by omega)
                  rw [Int.toNat_natCast] at hx0 hx1 hx2 hx3
                  have hy0 := cell_below hLw.low hx0
                  have hy1 := cell_below hLw.low hx1
                  have hy2 := cell_below hLw.low hx2
                  have hy3 := cell_below hLw.low hx3
                  have hr : rd_T100 l0 k = l0[k] := by unfold rd_T100; rw [Int.toNat_natCast, List.getD_eq_getElem?_getD, List.getElem?_eq_getElem hlt]; rfl
                  rw [hr] at hy0 hy1 hy2 hy3
                  obtain ⟨s, hs⟩ : ∃ s, s = l0[k] := ⟨_, rfl⟩
                  rw [← hs] at hy0 hy1 hy2 hy3
                  have hmem : s ∈ l0 := hs ▸ List.getElem_mem hlt
                  have hG := hG0 s hmem
                  have hp : plOk (stP s) := ⟨hG.1, hG.2.1⟩
                  have hneg := Lib.hid (show CkP l0 l1 l2 ops → sumOf (heldF l1 (stP s)) = (s.f3, 0) ∧ sumOf (movedF l2 (stP s)) = (s.f2, 0) from fun h2 => by rw [hs]; exact h2.2.2.2.2 k hlt)
                  have Hs := Lib.hid hs
                  clear hs hr hx0 hx1 hx2 hx3
                  obtain ⟨W2, hW2⟩ : ∃ W2, wr.alloc (.cells #[.string s.f0, .string s.f1, .int .i64 s.f2, .int .i64 s.f3] 100) = W2 := ⟨_, rfl⟩
                  have hBw : Below wr.heap.size wr W2 := by rw [← hW2]; exact (Below.refl _ _).alloc (Nat.le_refl _) _
                  have hblk : W2.heap[wr.heap.size]? = some (.cells #[.string s.f0, .string s.f1, .int .i64 s.f2, .int .i64 s.f3] 100 (0, 0)) := by rw [← hW2]; exact heap_alloc_new wr _
                  have hz0 : W2.cell? ⟨wr.heap.size, 0, none⟩ = some (.string s.f0) := (blk_cell hblk 0).trans rfl
                  have hz1 : W2.cell? ⟨wr.heap.size, 1, none⟩ = some (.string s.f1) := (blk_cell hblk 1).trans rfl
                  have hz2 : W2.cell? ⟨wr.heap.size, 2, none⟩ = some (.int .i64 s.f2) := (blk_cell hblk 2).trans rfl
                  have hz3 : W2.cell? ⟨wr.heap.size, 3, none⟩ = some (.int .i64 s.f3) := (blk_cell hblk 3).trans rfl
                  have HLD := Lib.hid (And.intro (hLw.below hBw) (hD.below hBw))
                  have Hp := Lib.hid hp
                  clear hLw hD hblk hG hp
                  go_wp2_with fail
                  refine (of_calls _ _ _ _ _).mono ?_
                  rintro e wa ⟨rfl, hba⟩
                  have hz0a := cell_below hba hz0
                  have hz1a := cell_below hba hz1
                  have hz2a := cell_below hba hz2
                  have hz3a := cell_below hba hz3
                  obtain ⟨⟨Ah, ch, hlk, hlc, hlC, hl64⟩, _⟩ := (HLD.out.2.below hba).sums hmem Hp.out (by omega)
                  have hsum := sum_calls Ah ch _ wa hlC hlc hl64
                  obtain ⟨zh, hzh⟩ : ∃ zh, heldF l1 (stP s) = zh := ⟨_, rfl⟩
                  rw [hzh] at hlk hsum
                  obtain ⟨⟨x1, x2⟩, hx⟩ : ∃ x, sumOf zh = x := ⟨_, rfl⟩
                  rw [hx] at hsum
                  have Hx := Lib.hid (show sumOf (heldF l1 (stP s)) = (x1, x2) from by rw [hzh]; exact hx)
                  clear hx
                  clear hz0 hz1 hz2 hz3 hy0 hy1 hy2 hy3 hlc hlC hl64 hzh
                  go_wp2_with fail
                  refine hsum.mono ?_
                  clear hsum
                  rintro e w' ⟨rfl, rfl⟩
                  go_wp2_with fail
                  refine (of_calls _ _ _ _ _).mono ?_
                  rintro e wb ⟨rfl, hbb⟩
                  have hz2b := cell_below hbb hz2a
                  have hz3b := cell_below hbb hz3a
                  obtain ⟨_, Am, cm, hlk2, hlc2, hlC2, hl642⟩ := ((HLD.out.2.below hba).below hbb).sums hmem Hp.out (by omega)
                  have hsum2 := sum_calls Am cm _ wb hlC2 hlc2 hl642
                  obtain ⟨zm, hzm⟩ : ∃ zm, movedF l2 (stP s) = zm := ⟨_, rfl⟩
                  rw [hzm] at hlk2 hsum2
                  obtain ⟨⟨y1, y2⟩, hy⟩ : ∃ x, sumOf zm = x := ⟨_, rfl⟩
                  rw [hy] at hsum2
                  have Hy := Lib.hid (show sumOf (movedF l2 (stP s)) = (y1, y2) from by rw [hzm]; exact hy)
                  clear hy
                  clear hz0a hz1a hz2a hz3a hlc2 hlC2 hl642 hzm hlk
                  go_wp2_with fail
                  refine hsum2.mono ?_
                  clear hsum2
                  rintro e w' ⟨rfl, rfl⟩
                  have hBx := below_w (below_w HLD.out.1.low hba) hbb
                  dsimp only
                  by_cases e1 : x2 = 0
                  · have e1b : (x2 != 0) = false := by rw [e1]; rfl
                    by_cases e2 : y2 = 0
                    · have e2b : (y2 != 0) = false := by rw [e2]; rfl
                      by_cases e3 : x1 = s.f3
                      · have e3b : (x1 != s.f3) = false := by rw [e3]; simp
                        by_cases e4 : y1 = s.f2
                        · have e4b : (y1 != s.f2) = false := by rw [e4]; simp
                          have hsu := Lib.hid (show sumOf (heldF l1 (stP s)) = (s.f3, 0) ∧ sumOf (movedF l2 (stP s)) = (s.f2, 0) from ⟨by rw [Hx.out, e1, e3], by rw [Hy.out, e2, e4]⟩)
                          have hDn := Lib.hid (show CkD l0 l1 l2 w w3.heap.size (k + 1) w' from ⟨fun j hj hjk => by
                            rcases Nat.lt_or_ge j k with h1 | h1
                            · exact HLD.out.2.all j hj h1
                            · obtain rfl : j = k := by omega
                              rw [← Hs.out]
                              exact hsu.out, ((HLD.out.2.below hba).below hbb).held, ((HLD.out.2.below hba).below hbb).moved⟩)
                          have hLn := Lib.hid ((HLD.out.1.below hba).below hbb)
                          clear e1 e2 e3 e4
                          go_wp2
                          exact ⟨⟨k + 1, by omega, by simp, hLn.out, hDn.out⟩, by simp [intOf]; omega⟩
                        · have e4b : (y1 != s.f2) = true := by simpa using e4
                          have hno := Lib.hid (fun h2 : CkP l0 l1 l2 ops => e4 (by have := (hneg.out h2).2; rw [Hy.out] at this; exact (Prod.mk.inj this).1))
                          clear e1 e2 e3 e4
                          go_wp2
                          go_ret
                          exact ⟨fun h2 => (hno.out h2).elim, fun _ => rfl, hBx⟩
                      · have e3b : (x1 != s.f3) = true := by simpa using e3
                        have hno := Lib.hid (fun h2 : CkP l0 l1 l2 ops => e3 (by have := (hneg.out h2).1; rw [Hx.out] at this; exact (Prod.mk.inj this).1))
                        clear e1 e2 e3
                        go_wp2
                        go_ret
                        exact ⟨fun h2 => (hno.out h2).elim, fun _ => rfl, hBx⟩
                    · have e2b : (y2 != 0) = true := by simpa using e2
                      have hno := Lib.hid (fun h2 : CkP l0 l1 l2 ops => e2 (by have := (hneg.out h2).2; rw [Hy.out] at this; exact (Prod.mk.inj this).2))
                      clear e1 e2
                      go_wp2
                      go_ret
                      exact ⟨fun h2 => (hno.out h2).elim, fun _ => rfl, hBx⟩
                  · have e1b : (x2 != 0) = true := by simpa using e1
                    have hno := Lib.hid (fun h2 : CkP l0 l1 l2 ops => e1 (by have := (hneg.out h2).1; rw [Hx.out] at this; exact (Prod.mk.inj this).2))
                    clear e1
                    go_wp2
                    go_ret
                    exact ⟨fun h2 => (hno.out h2).elim, fun _ => rfl, hBx⟩
                -- L4>
                · obtain rfl : k = l0.length := by omega
                  have hd : decide ((l0.length : Int) < (l0.length : Int)) = false := decide_eq_false (by omega)
                  have hfin := Lib.hid (show CkP l0 l1 l2 ops from ⟨hops0, fun j hj => hStk.out j hj hj, fun j hj => hHol.out.all j hj hj, fun j hj => hMov.out j hj hj, fun j hj => hD.all j hj hj⟩)
                  have hBx := hLw.low
                  clear hLw hD
                  go_wp2
                  go_ret
                  exact ⟨fun _ => rfl, fun h2 => (h2 hfin.out).elim, hBx⟩

/-- May a ledger be? -/
noncomputable def ckB (l0 : List S100) (l1 : List S107) (l2 : List S111) (ops : Int) : Bool := @decide (CkP l0 l1 l2 ops) (Classical.propDecidable _)

theorem ckB_iff {l0 : List S100} {l1 : List S107} {l2 : List S111} {ops : Int} : ckB l0 l1 l2 ops = true ↔ CkP l0 l1 l2 ops := @decide_eq_true_iff (CkP l0 l1 l2 ops) (Classical.propDecidable _)

theorem check_law : CheckLaw ckB := by
  intro l0 l1 l2 A0 c0 A1 c1 A2 c2 ops w hL hF
  refine (check_try l0 l1 l2 A0 c0 A1 c1 A2 c2 ops w hL hF).mono ?_
  rintro e w' ⟨h1, h2, h3⟩
  refine ⟨?_, h3⟩
  by_cases h : CkP l0 l1 l2 ops
  · rw [h1 h, if_pos (ckB_iff.2 h)]
  · rw [h2 h, if_neg (fun h3 => h (ckB_iff.1 h3))]
end Go.Proofs.Ytofkhcgkahkagaa
/- The reference's May of a ledger answers as ledger.Check does. -/
namespace Go.Proofs.Ytofkhcgkahkagaa
open Go.RowKit Go.Proofs.YtofkhcgkahkagaaW.PrintWords Go.Proofs.YtofkhcgkahkagaaW.PrintLast Go.Proofs.YtofkhcgkahkagaaW.PrintMore Go.Proofs.Ytofkhcgkahkagaa.PPromiseLines
set_option linter.unusedVariables false
set_option linter.unusedSimpArgs false

theorem name6_calls (s : ByteArray) (w : World) : Calls Try.prog 47 #[.string s] w fun e w' => e = .returned (.bool (nameB s)) ∧ w' = w := by
  by_cases h1 : 1 ≤ s.size
  · have h1b : decide (1 ≤ (s.size : Int)) = true := decide_eq_true (by omega)
    have h1c : decide (1 ≤ s.size) = true := decide_eq_true h1
    have hn : nameB s = decide ((s.size : Int) ≤ 64) := by unfold nameB; rw [decide_eq_decide]; omega
    rw [hn]
    clear h1 hn
    go_enter Try.func47, Try.ntmps47
    go_wp2
    go_ret
    exact ⟨rfl, rfl⟩
  · have h1b : decide (1 ≤ (s.size : Int)) = false := decide_eq_false (by omega)
    have h1c : decide (1 ≤ s.size) = false := decide_eq_false h1
    have hn : nameB s = false := by unfold nameB; rw [decide_eq_false_iff_not]; omega
    rw [hn]
    clear h1 hn
    go_enter Try.func47, Try.ntmps47
    go_wp2
    go_ret
    exact ⟨rfl, rfl⟩

theorem wpStill_unwanted {P : Program} {ops : Array Oper} {w : World} {Q : Act → Prop} {a : Act} {o : Oper} {rest : List Oper} (hw : Region.wanted o (yielded ops a.tmps) = false) (h : wpStill P ops w Q rest (a.put o.dst undef)) : wpStill P ops w Q (o :: rest) a := by
  refine wpStill_step (fun K hK => ?_)
  rw [if_neg (by rw [hw]; decide)]
  exact hK _ h

/-- So many stocks may be. -/
def RmI (l0 : List S100) (l1 : List S107) (l2 : List S111) (k : Nat) : Prop := ∀ j (h : j < l0.length), j < k → stB l0 j l0[j] ∧ sumOf (heldF l1 (stP l0[j])) = (l0[j].f3, 0) ∧ sumOf (movedF l2 (stP l0[j])) = (l0[j].f2, 0)
theorem RmI.step {l0 : List S100} {l1 : List S107} {l2 : List S111} {k : Nat} {s : S100} (h : RmI l0 l1 l2 k) (hlt : k < l0.length) (hs : s = l0[k]) (h1 : stB l0 k s) (h2 : sumOf (heldF l1 (stP s)) = (s.f3, 0) ∧ sumOf (movedF l2 (stP s)) = (s.f2, 0)) : RmI l0 l1 l2 (k + 1) := fun j hj hjk => by
  rcases Nat.lt_or_ge j k with h3 | h3
  · exact h j hj h3
  · obtain rfl : j = k := by omega
    rw [← hs]
    exact ⟨h1, h2⟩

end Go.Proofs.Ytofkhcgkahkagaa
/- The reference's op.May for two kinds; does for two kinds. -/
namespace Go.Proofs.Ytofkhcgkahkagaa
open Go.RowKit Go.Proofs.YtofkhcgkahkagaaW.PrintWords Go.Proofs.YtofkhcgkahkagaaW.PrintLast Go.Proofs.YtofkhcgkahkagaaW.PrintMore Go.Proofs.Ytofkhcgkahkagaa.PPromiseLines
set_option linter.unusedVariables false
set_option linter.unusedSimpArgs false

theorem name_ne {s : ByteArray} (h : nameB s = true) : s.toList.isEmpty = false := by
  cases e : s.toList with
  | cons x l => rfl
  | nil =>
    have e2 : s.toList = (⟨#[]⟩ : ByteArray).toList := by rw [e]; exact (Lib.toList_data ⟨#[]⟩).symm
    rw [str_eq.1 e2] at h
    revert h
    decide
set_option maxRecDepth 100000 in
set_option maxHeartbeats 2000000 in
theorem may6_receive (sku loc : ByteArray) (q : Int) (hs : nameB sku = true) (hc : nameB loc = true) (hq : 1 ≤ q) (w : World) :
    Calls Try.prog 69 #[.agg #[.int .i64 1, .string sku, .string loc, .string ⟨#[]⟩, .int .i64 q, .int .i64 0, .int .i64 0]] w fun e w' => e = .returned (.bool true) ∧ Below w.heap.size w w' := by
  have hu := Try.underlying88
  have hq1 : decide (1 ≤ q) = true := decide_eq_true hq
  have hbox := fun o => (Below.refl w.heap.size w).alloc (Nat.le_refl _) o
  have hn1 := fun V => name6_calls sku V
  have hn2 := fun V => name6_calls loc V
  rw [hs] at hn1
  rw [hc] at hn2
  go_enter Try.func69, Try.ntmps69
  have hs0 := name_ne hs
  go_wp2_with fail
  refine (hn1 _).mono ?_
  rintro e w1 ⟨rfl, rfl⟩
  go_wp2_with fail
  refine (hn2 _).mono ?_
  rintro e w2 ⟨rfl, rfl⟩
  go_wp2
  go_ret
  exact ⟨rfl, hbox _⟩
set_option maxRecDepth 100000 in
set_option maxHeartbeats 2000000 in
theorem may6_hold (sku loc : ByteArray) (q due : Int) (hs : nameB sku = true) (hc : nameB loc = true) (hq : 1 ≤ q) (hd : 0 ≤ due) (w : World) :
    Calls Try.prog 69 #[.agg #[.int .i64 2, .string sku, .string loc, .string ⟨#[]⟩, .int .i64 q, .int .i64 0, .int .i64 due]] w fun e w' => e = .returned (.bool true) ∧ Below w.heap.size w w' := by
  have hu := Try.underlying88
  have hq1 : decide (1 ≤ q) = true := decide_eq_true hq
  have hd1 : decide (0 ≤ due) = true := decide_eq_true hd
  have hbox := fun o => (Below.refl w.heap.size w).alloc (Nat.le_refl _) o
  have hn1 := fun V => name6_calls sku V
  have hn2 := fun V => name6_calls loc V
  rw [hs] at hn1
  rw [hc] at hn2
  go_enter Try.func69, Try.ntmps69
  have hs0 := name_ne hs
  go_wp2_with fail
  refine (hn1 _).mono ?_
  rintro e w1 ⟨rfl, rfl⟩
  go_wp2_with fail
  refine (hn2 _).mono ?_
  rintro e w2 ⟨rfl, rfl⟩
  go_wp2
  go_ret
  exact ⟨rfl, hbox _⟩
end Go.Proofs.Ytofkhcgkahkagaa
