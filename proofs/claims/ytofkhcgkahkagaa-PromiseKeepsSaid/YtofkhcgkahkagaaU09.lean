/- Texts behind the row of PromiseKeeps, part 9. -/
import Derived.Test.YtofkhcgkahkagaaU07
import Derived.Test.YtofkhcgkahkagaaU08
import Derived.Deep.RegionHeld3
/- The reference's put: a ledger's stocks with one in its place. -/
namespace Go.Proofs.Ytofkhcgkahkagaa
open Go.RowKit Go.Proofs.YtofkhcgkahkagaaW.PrintWords Go.Proofs.YtofkhcgkahkagaaW.PrintLast Go.Proofs.YtofkhcgkahkagaaW.PrintMore Go.Proofs.Ytofkhcgkahkagaa.PPromiseLines
set_option linter.unusedVariables false
set_option linter.unusedSimpArgs false

def aheadB (x s : S100) : Bool := decide (ordP (stP x) (stP s) < 0)
/-- One round of put. -/
def putA (s : S100) (a : List S100 × Bool) (x : S100) : List S100 × Bool :=
  (if stP x = stP s then (if a.2 = false ∧ aheadB x s = false then a.1 ++ [s] else a.1) else (if a.2 = false ∧ aheadB x s = false then a.1 ++ [s] else a.1) ++ [x], a.2 || !aheadB x s)
def putF (l0 : List S100) (s : S100) : List S100 :=
  if (l0.foldl (putA s) ([], false)).2 = true then (l0.foldl (putA s) ([], false)).1 else (l0.foldl (putA s) ([], false)).1 ++ [s]
theorem putA_len (s : S100) : ∀ (l : List S100) (a : List S100 × Bool), (l.foldl (putA s) a).1.length ≤ a.1.length + 2 * l.length
  | [], a => by simp
  | x :: l, a => by
    have h := putA_len s l (putA s a x)
    have h2 : (putA s a x).1.length ≤ a.1.length + 2 := by
      unfold putA
      dsimp only
      split <;> split <;> simp
    rw [List.foldl_cons, List.length_cons]
    omega
theorem app_st {W0 V V' : World} {v : Value} {acc : List S100} (hR : Kd.R k100 100 V W0.heap.size (fun k => W0.heap.size ≤ k) v acc) (hlow : Below W0.heap.size W0 V) (hb : Below V.heap.size V V') (hl : acc.length ≤ 100000) (x : S100) :
    ∃ v1 w1, (Builtin.append_ #[37, 37] 37 #[v, .slice (some ⟨V'.heap.size, 0, none⟩) 1 1]).run Try.prog (V'.alloc (.cells #[.string x.f0, .string x.f1, .int .i64 x.f2, .int .i64 x.f3] 100)) = .ok v1 w1 ∧ Kd.R k100 100 w1 W0.heap.size (fun k => W0.heap.size ≤ k) v1 (acc ++ [x]) ∧ Below W0.heap.size W0 w1 := by
  have hz := hb.size
  have hz1 := hlow.size
  obtain ⟨A1, c1, w1, hrun, hR1, hg1⟩ := append_made k100 (P := Try.prog) W0.heap.size 37 37 100 _ 48 Try.underlying37 info100 rfl (by decide) (by decide) V' v _ x [.string x.f0, .string x.f1, .int .i64 x.f2, .int .i64 x.f3] (fun k => W0.heap.size ≤ k) (fun _ => False)
    (k100_mkM _ _ _ x) (fun k hk => hk.elim) (fun k hk => by omega) (Kd.R_below hR hb) (by omega) (by omega)
  exact ⟨_, w1, hrun, hR1, (hlow.trans (hb.mono hlow.size)).grown hg1 (by omega) (fun j hj => (Kd.R_below hR hb).1 j hj)⟩

/-- Between two stocks. -/
structure PuI (W0 : World) (l0 : List S100) (s : S100) (k : Nat) (v : Value) (d : Bool) (V : World) : Prop where
  low : Below W0.heap.size W0 V
  done : d = ((l0.take k).foldl (putA s) ([], false)).2
  out : Kd.R k100 100 V W0.heap.size (fun k => W0.heap.size ≤ k) v ((l0.take k).foldl (putA s) ([], false)).1

theorem three_boxes {w : World} {a b c : Array Value} {s t u : TypeId} : Below w.heap.size w (((w.alloc (.cells a s (0, 0))).alloc (.cells b t (0, 0))).alloc (.cells c u (0, 0))) ∧ (((w.alloc (.cells a s (0, 0))).alloc (.cells b t (0, 0))).alloc (.cells c u (0, 0))).heap[w.heap.size]? = some (.cells a s (0, 0)) ∧ (((w.alloc (.cells a s (0, 0))).alloc (.cells b t (0, 0))).alloc (.cells c u (0, 0))).heap[w.heap.size + 1]? = some (.cells b t (0, 0)) ∧ (((w.alloc (.cells a s (0, 0))).alloc (.cells b t (0, 0))).alloc (.cells c u (0, 0))).heap[w.heap.size + 2]? = some (.cells c u (0, 0)) := by
  obtain ⟨h1, h2, h3⟩ := @two_boxes w a b s t
  refine ⟨h1.alloc (by simp; omega) _, blk_alloc h2 _, blk_alloc h3 _, ?_⟩
  have := heap_alloc_new ((w.alloc (.cells a s (0, 0))).alloc (.cells b t (0, 0))) (.cells c u (0, 0))
  simp only [World.size_alloc] at this
  exact this
theorem PuI.next {W0 V : World} {l0 : List S100} {s : S100} {k : Nat} {v : Value} {a : List S100} {b : Bool} (hst : (l0.take (k + 1)).foldl (putA s) ([], false) = (a, b)) (hlow : Below W0.heap.size W0 V) (hR : Kd.R k100 100 V W0.heap.size (fun k => W0.heap.size ≤ k) v a) : PuI W0 l0 s (k + 1) v b V :=
  ⟨hlow, by rw [hst], by rw [hst]; exact hR⟩
theorem R_put4 {W0 V : World} {v : Value} {a : List S100} (hR : Kd.R k100 100 V W0.heap.size (fun k => W0.heap.size ≤ k) v a) {g : Nat} (hg : g < W0.heap.size) (x y z u : Value) : Kd.R k100 100 (put4 V g x y z u) W0.heap.size (fun k => W0.heap.size ≤ k) v a := by
  have hne : ∀ (j : Nat) (k : Nat), W0.heap.size ≤ k → k ≠ (⟨g, j, none⟩ : Addr).block := fun j k hk e => by
    have : k = g := e
    omega
  exact Kd.R_far (p := ⟨g, 3, none⟩) (Kd.R_far (p := ⟨g, 2, none⟩) (Kd.R_far (p := ⟨g, 1, none⟩) (Kd.R_far (p := ⟨g, 0, none⟩) hR (hne 0) x) (hne 1) y) (hne 2) z) (hne 3) u

section
variable (l0 : List S100) (l1 : List S107) (l2 : List S111) (A0 : Option Addr) (c0 : Nat) (A1 : Option Addr) (c1 : Nat) (A2 : Option Addr) (c2 : Nat) (ops : Int) (w : World)
set_option maxRecDepth 100000 in
set_option maxHeartbeats 4000000 in
theorem put_calls (s : S100) (hL : LedgerAt l0 l1 l2 A0 c0 A1 c1 A2 c2 w) (hl : l0.length ≤ 10000) :
    Calls Try.prog 107 #[.agg #[.slice A0 l0.length c0, .slice A1 l1.length c1, .slice A2 l2.length c2, .int .i64 ops], stV s] w fun e w' => ∃ A c, e = .returned (.agg #[.slice A (putF l0 s).length c, .slice A1 l1.length c1, .slice A2 l2.length c2, .int .i64 ops]) ∧ LedgerAt (putF l0 s) l1 l2 A c A1 c1 A2 c2 w' ∧ Below w.heap.size w w' := by
  have hu := Try.underlying41
  have hus := Try.underlying100
  unfold stV
  obtain ⟨W0, hW0⟩ : ∃ W0, ((w.alloc (.cells #[.slice A0 l0.length c0, .slice A1 l1.length c1, .slice A2 l2.length c2, .int .i64 ops] 41)).alloc (.cells #[.string s.f0, .string s.f1, .int .i64 s.f2, .int .i64 s.f3] 100)).alloc (.cells #[.slice none 0 0, .slice none 0 0, .slice none 0 0, .int .i64 0] 41) = W0 := ⟨_, rfl⟩
  obtain ⟨hB, h0, h1, h2⟩ : Below w.heap.size w W0 ∧ W0.heap[w.heap.size]? = some (.cells #[.slice A0 l0.length c0, .slice A1 l1.length c1, .slice A2 l2.length c2, .int .i64 ops] 41 (0, 0)) ∧ W0.heap[w.heap.size + 1]? = some (.cells #[.string s.f0, .string s.f1, .int .i64 s.f2, .int .i64 s.f3] 100 (0, 0)) ∧ W0.heap[w.heap.size + 2]? = some (.cells #[.slice none 0 0, .slice none 0 0, .slice none 0 0, .int .i64 0] 41 (0, 0)) := by rw [← hW0]; exact three_boxes
  have hC := Kd.C_below hL.r0 hB
  go_enter Try.func107, Try.ntmps107
  go_wp2
  go_loopw [5, 6, 7] (fun v d i wr => ∃ (k : Nat) (b : Bool), k ≤ l0.length ∧ i = .int .i64 k ∧ d = .bool b ∧ PuI W0 l0 s k v b wr)
    (fun _ _ i _ => l0.length - (intOf i).toNat)
  case atStart => exact ⟨0, false, Nat.zero_le _, rfl, rfl, ⟨Below.refl _ _, rfl, Kd.R_nil _ _ _ _ _⟩⟩
  case round =>
    obtain ⟨k, b, hk, rfl, rfl, hI⟩ := hrel
    have hlw := hB.trans (hI.low.mono hB.size)
    have hb0 := blk_below h0 hI.low
    have hb1 := blk_below h1 hI.low
    have hd0 : wr.cell? ⟨w.heap.size, 0, none⟩ = some (.slice A0 l0.length c0) := (blk_cell hb0 0).trans rfl
    have he0 : wr.cell? ⟨w.heap.size + 1, 0, none⟩ = some (.string s.f0) := (blk_cell hb1 0).trans rfl
    have he1 : wr.cell? ⟨w.heap.size + 1, 1, none⟩ = some (.string s.f1) := (blk_cell hb1 1).trans rfl
    have he2 : wr.cell? ⟨w.heap.size + 1, 2, none⟩ = some (.int .i64 s.f2) := (blk_cell hb1 2).trans rfl
    have he3 : wr.cell? ⟨w.heap.size + 1, 3, none⟩ = some (.int .i64 s.f3) := (blk_cell hb1 3).trans rfl
    by_cases hlt : k < l0.length
    · have hd : decide ((k : Int) < (l0.length : Int)) = true := decide_eq_true (by omega)
      have hk1 : (k : Int) < (l0.length : Int) := by omega
      have hk2 : (0 : Int) ≤ (k : Int) := Int.natCast_nonneg _
      obtain ⟨ad, rfl, hx0, hx1, hx2, hx3⟩ := at_T100 hC k (by omega) (by omega)
      rw [Int.toNat_natCast, rd_S hlt] at hx0 hx1 hx2 hx3
      obtain ⟨x, hx⟩ : ∃ x, l0[k] = x := ⟨_, rfl⟩
      rw [hx] at hx0 hx1 hx2 hx3
      have hstep : (l0.take (k + 1)).foldl (putA s) ([], false) = putA s ((l0.take k).foldl (putA s) ([], false)) x := by
        rw [take_snoc hlt, List.foldl_append, hx]; rfl
      have hplen := putA_len s (l0.take k) ([], false)
      have hfl2 := List.length_take_le' k l0
      have hout := hI.out
      have hdone := hI.done
      obtain ⟨Av, cv, rfl⟩ := Kd.R_slice hout
      generalize hacc : (l0.take k).foldl (putA s) ([], false) = acc at *
      obtain ⟨acc, dn⟩ := acc
      dsimp only at *
      subst hdone
      have hy0 := cell_below hI.low hx0
      have hy1 := cell_below hI.low hx1
      have hy2 := cell_below hI.low hx2
      have hy3 := cell_below hI.low hx3
      have hlow := hI.low
      -- <G
      have Hx := Lib.hid (And.intro hx0 (And.intro hx1 (And.intro hx2 hx3)))
      have hlen : acc.length ≤ 20000 := by rw [List.length_nil] at hplen; omega
      clear hplen
      clear hI hacc hx hx0 hx1 hx2 hx3 hfl2
      cases b with
      | true =>
        have Hst := Lib.hid (show (l0.take (k + 1)).foldl (putA s) ([], false) = (if stP x = stP s then acc else acc ++ [x], true) from by rw [hstep]; unfold putA; simp)
        have HR := Lib.hid hout
        clear hstep hout
        go_wp2
        go_quiet (fail)
        obtain ⟨V, hV⟩ : ∃ V, wr.drewN nq = V := ⟨_, rfl⟩
        have gR := Kd.R_below HR.out (pw_below_drewN (Below.refl _ _) nq)
        have glow := pw_below_drewN hlow nq
        rw [hV] at gR glow
        have gd0 : V.cell? ⟨w.heap.size, 0, none⟩ = some (.slice (some ad) l0.length c0) := by rw [← hV]; exact hd0
        have ge0 : V.cell? ⟨w.heap.size + 1, 0, none⟩ = some (.string s.f0) := by rw [← hV]; exact he0
        have ge1 : V.cell? ⟨w.heap.size + 1, 1, none⟩ = some (.string s.f1) := by rw [← hV]; exact he1
        have ge2 : V.cell? ⟨w.heap.size + 1, 2, none⟩ = some (.int .i64 s.f2) := by rw [← hV]; exact he2
        have ge3 : V.cell? ⟨w.heap.size + 1, 3, none⟩ = some (.int .i64 s.f3) := by rw [← hV]; exact he3
        have gy0 : V.cell? (ad.add (k * 4)) = some (.string x.f0) := by rw [← hV]; exact hy0
        have gy1 : V.cell? ⟨(ad.add (k * 4)).block, (ad.add (k * 4)).off + 1, none⟩ = some (.string x.f1) := by rw [← hV]; exact hy1
        have gy2 : V.cell? ⟨(ad.add (k * 4)).block, (ad.add (k * 4)).off + 2, none⟩ = some (.int .i64 x.f2) := by rw [← hV]; exact hy2
        have gy3 : V.cell? ⟨(ad.add (k * 4)).block, (ad.add (k * 4)).off + 3, none⟩ = some (.int .i64 x.f3) := by rw [← hV]; exact hy3
        rw [hV]
        clear hV hd0 he0 he1 he2 he3 hy0 hy1 hy2 hy3 hlow hlw hb0 hb1
        have GR := Lib.hid gR
        clear gR
        cases e0 : (x.f0.toList == s.f0.toList) with
        | false =>
          have hne := Lib.hid (show ¬ stP x = stP s from fun h => by rw [beq_eq_false_iff_ne] at e0; exact e0 (congrArg (fun p : Plc => p.1.toList) h))
          go_wp2
          go_quiet (fail)
          obtain ⟨v2, w2, hrun, hR2, hlow2⟩ := app_st GR.out glow (pw_below_drewN (Below.refl _ _) nq) (by omega) x
          go_wp2_with (at_builtin; refine wpList_append_run rfl _ _ _ rfl hrun ?_)
          exact ⟨⟨k + 1, true, by omega, by simp, rfl, PuI.next (by rw [Hst.out, if_neg hne.out]) hlow2 hR2⟩, by simp [intOf]; omega⟩
        | true =>
          cases e1 : (x.f1.toList == s.f1.toList) with
          | false =>
            have hne := Lib.hid (show ¬ stP x = stP s from fun h => by rw [beq_eq_false_iff_ne] at e1; exact e1 (congrArg (fun p : Plc => p.2.toList) h))
            go_wp2
            go_quiet (fail)
            obtain ⟨v2, w2, hrun, hR2, hlow2⟩ := app_st GR.out glow (pw_below_drewN (Below.refl _ _) nq) (by omega) x
            go_wp2_with (at_builtin; refine wpList_append_run rfl _ _ _ rfl hrun ?_)
            exact ⟨⟨k + 1, true, by omega, by simp, rfl, PuI.next (by rw [Hst.out, if_neg hne.out]) hlow2 hR2⟩, by simp [intOf]; omega⟩
          | true =>
            have heq := Lib.hid (show stP x = stP s from by
              rw [beq_iff_eq] at e0 e1
              exact Prod.ext (str_eq.1 e0) (str_eq.1 e1))
            go_wp2
            go_quiet (fail)
            go_wp2
            exact ⟨⟨k + 1, true, by omega, by simp, rfl, PuI.next (by rw [Hst.out, if_pos heq.out]) (pw_below_drewN glow nq) (Kd.R_below GR.out (pw_below_drewN (Below.refl _ _) nq))⟩, by simp [intOf]; omega⟩
      | false =>
        obtain ⟨r, hr⟩ : ∃ r, aheadB x s = r := ⟨_, rfl⟩
        have haf := ahead_f x s
        rw [show decide (ordP (stP x) (stP s) < 0) = r from hr] at haf
        have hcall := fun V => quaysideref07_ahead.calls x.f0 x.f1 x.f2 x.f3 s.f0 s.f1 s.f2 s.f3 r V haf
        have Hcall := Lib.hid hcall
        have HR := Lib.hid hout
        have Hr := Lib.hid hr
        have Hstep := Lib.hid hstep
        clear hcall haf hout hr hstep
        go_wp2
        go_region_held3 (fun V => V.cell? ⟨w.heap.size, 0, none⟩ = some (.slice (some ad) l0.length c0) ∧ V.cell? ⟨w.heap.size + 1, 0, none⟩ = some (.string s.f0) ∧ V.cell? ⟨w.heap.size + 1, 1, none⟩ = some (.string s.f1) ∧ V.cell? ⟨w.heap.size + 1, 2, none⟩ = some (.int .i64 s.f2) ∧ V.cell? ⟨w.heap.size + 1, 3, none⟩ = some (.int .i64 s.f3) ∧ V.cell? (ad.add (k * 4)) = some (.string x.f0) ∧ V.cell? ⟨(ad.add (k * 4)).block, (ad.add (k * 4)).off + 1, none⟩ = some (.string x.f1) ∧ V.cell? ⟨(ad.add (k * 4)).block, (ad.add (k * 4)).off + 2, none⟩ = some (.int .i64 x.f2) ∧ V.cell? ⟨(ad.add (k * 4)).block, (ad.add (k * 4)).off + 3, none⟩ = some (.int .i64 x.f3))
          (first | assumption | exact ⟨cell_below (below_drew (Below.refl _ _)) hd0, cell_below (below_drew (Below.refl _ _)) he0, cell_below (below_drew (Below.refl _ _)) he1, cell_below (below_drew (Below.refl _ _)) he2, cell_below (below_drew (Below.refl _ _)) he3, cell_below (below_drew (Below.refl _ _)) hy0, cell_below (below_drew (Below.refl _ _)) hy1, cell_below (below_drew (Below.refl _ _)) hy2, cell_below (below_drew (Below.refl _ _)) hy3⟩ | exact ⟨cell_below hbw hd0, cell_below hbw he0, cell_below hbw he1, cell_below hbw he2, cell_below hbw he3, cell_below hbw hy0, cell_below hbw hy1, cell_below hbw hy2, cell_below hbw hy3⟩)
          (first | (go_at_call 63; refine (Hcall.out _).mono ?_; rintro e w' ⟨rfl, hbn⟩; have hbw : Below wr.heap.size wr w' := below_chain (below_drew (Below.refl _ _)) hbn))
        have gd0 := cell_below hbw hd0
        have ge0 := cell_below hbw he0
        have ge1 := cell_below hbw he1
        have ge2 := cell_below hbw he2
        have ge3 := cell_below hbw he3
        have gy0 := cell_below hbw hy0
        have gy1 := cell_below hbw hy1
        have gy2 := cell_below hbw hy2
        have gy3 := cell_below hbw hy3
        go_split_ands
        have gR := Kd.R_below HR.out hbw
        have glow := below_w hlow hbw
        clear hd0 he0 he1 he2 he3 hy0 hy1 hy2 hy3 hlow hlw hb0 hb1
        cases r with
        | true =>
          have Hst := Lib.hid (show (l0.take (k + 1)).foldl (putA s) ([], false) = (if stP x = stP s then acc else acc ++ [x], false) from by rw [Hstep.out]; unfold putA; simp [Hr.out])
          have GR := Lib.hid gR
          clear gR
          cases e0 : (x.f0.toList == s.f0.toList) with
          | false =>
            have hne := Lib.hid (show ¬ stP x = stP s from fun h => by rw [beq_eq_false_iff_ne] at e0; exact e0 (congrArg (fun p : Plc => p.1.toList) h))
            go_wp2
            go_quiet (fail)
            obtain ⟨v2, w2, hrun, hR2, hlow2⟩ := app_st GR.out glow (pw_below_drewN (Below.refl _ _) nq) (by omega) x
            go_wp2_with (at_builtin; refine wpList_append_run rfl _ _ _ rfl hrun ?_)
            exact ⟨⟨k + 1, false, by omega, by simp, rfl, PuI.next (by rw [Hst.out, if_neg hne.out]) hlow2 hR2⟩, by simp [intOf]; omega⟩
          | true =>
            cases e1 : (x.f1.toList == s.f1.toList) with
            | false =>
              have hne := Lib.hid (show ¬ stP x = stP s from fun h => by rw [beq_eq_false_iff_ne] at e1; exact e1 (congrArg (fun p : Plc => p.2.toList) h))
              go_wp2
              go_quiet (fail)
              obtain ⟨v2, w2, hrun, hR2, hlow2⟩ := app_st GR.out glow (pw_below_drewN (Below.refl _ _) nq) (by omega) x
              go_wp2_with (at_builtin; refine wpList_append_run rfl _ _ _ rfl hrun ?_)
              exact ⟨⟨k + 1, false, by omega, by simp, rfl, PuI.next (by rw [Hst.out, if_neg hne.out]) hlow2 hR2⟩, by simp [intOf]; omega⟩
            | true =>
              have heq := Lib.hid (show stP x = stP s from by
                rw [beq_iff_eq] at e0 e1
                exact Prod.ext (str_eq.1 e0) (str_eq.1 e1))
              go_wp2
              go_quiet (fail)
              go_wp2
              exact ⟨⟨k + 1, false, by omega, by simp, rfl, PuI.next (by rw [Hst.out, if_pos heq.out]) (pw_below_drewN glow nq) (Kd.R_below GR.out (pw_below_drewN (Below.refl _ _) nq))⟩, by simp [intOf]; omega⟩
        | false =>
          have Hst := Lib.hid (show (l0.take (k + 1)).foldl (putA s) ([], false) = (if stP x = stP s then acc ++ [s] else acc ++ [s] ++ [x], true) from by rw [Hstep.out]; unfold putA; simp [Hr.out])
          obtain ⟨v1, w1, hrun, hR1, hlow1⟩ := app_st gR glow (Below.refl _ _) (by omega) s
          obtain ⟨Av1, cv1, rfl⟩ := Kd.R_slice hR1
          have hlen1 : (acc ++ [s]).length = acc.length + 1 := by simp
          obtain ⟨acc1, hacc1⟩ : ∃ a, acc ++ [s] = a := ⟨_, rfl⟩
          rw [hacc1] at hrun hR1 Hst hlen1
          have hg := Lib.hid (hrun)
          have glow1 := hlow1
          have GX := Hx.out
          have k0 := blk_below h0 glow1
          have k1 := blk_below h1 glow1
          have md0 : w1.cell? ⟨w.heap.size, 0, none⟩ = some (.slice (some ad) l0.length c0) := (blk_cell k0 0).trans rfl
          have me0 : w1.cell? ⟨w.heap.size + 1, 0, none⟩ = some (.string s.f0) := (blk_cell k1 0).trans rfl
          have me1 : w1.cell? ⟨w.heap.size + 1, 1, none⟩ = some (.string s.f1) := (blk_cell k1 1).trans rfl
          have me2 : w1.cell? ⟨w.heap.size + 1, 2, none⟩ = some (.int .i64 s.f2) := (blk_cell k1 2).trans rfl
          have me3 : w1.cell? ⟨w.heap.size + 1, 3, none⟩ = some (.int .i64 s.f3) := (blk_cell k1 3).trans rfl
          have my0 := cell_below glow1 GX.1
          have my1 := cell_below glow1 GX.2.1
          have my2 := cell_below glow1 GX.2.2.1
          have my3 := cell_below glow1 GX.2.2.2
          clear k0 k1 GX hlow1 hg gR glow gd0 ge0 ge1 ge2 ge3 gy0 gy1 gy2 gy3
          have hlen2 : acc1.length ≤ 20001 := by omega
          clear hlen1 hlen
          have Happ := Lib.hid hR1
          go_wp2_with (at_builtin; refine wpList_append_run rfl _ _ _ rfl hrun ?_)
          have gR := Happ.out
          have glow := glow1
          clear Happ glow1 hR1
          have GR := Lib.hid gR
          clear gR
          cases e0 : (x.f0.toList == s.f0.toList) with
          | false =>
            have hne := Lib.hid (show ¬ stP x = stP s from fun h => by rw [beq_eq_false_iff_ne] at e0; exact e0 (congrArg (fun p : Plc => p.1.toList) h))
            go_wp2
            go_quiet (fail)
            obtain ⟨v2, w2, hrun, hR2, hlow2⟩ := app_st GR.out glow (pw_below_drewN (Below.refl _ _) nq) (by omega) x
            go_wp2_with (at_builtin; refine wpList_append_run rfl _ _ _ rfl hrun ?_)
            exact ⟨⟨k + 1, true, by omega, by simp, rfl, PuI.next (by rw [Hst.out, if_neg hne.out]) hlow2 hR2⟩, by simp [intOf]; omega⟩
          | true =>
            cases e1 : (x.f1.toList == s.f1.toList) with
            | false =>
              have hne := Lib.hid (show ¬ stP x = stP s from fun h => by rw [beq_eq_false_iff_ne] at e1; exact e1 (congrArg (fun p : Plc => p.2.toList) h))
              go_wp2
              go_quiet (fail)
              obtain ⟨v2, w2, hrun, hR2, hlow2⟩ := app_st GR.out glow (pw_below_drewN (Below.refl _ _) nq) (by omega) x
              go_wp2_with (at_builtin; refine wpList_append_run rfl _ _ _ rfl hrun ?_)
              exact ⟨⟨k + 1, true, by omega, by simp, rfl, PuI.next (by rw [Hst.out, if_neg hne.out]) hlow2 hR2⟩, by simp [intOf]; omega⟩
            | true =>
              have heq := Lib.hid (show stP x = stP s from by
                rw [beq_iff_eq] at e0 e1
                exact Prod.ext (str_eq.1 e0) (str_eq.1 e1))
              go_wp2
              go_quiet (fail)
              go_wp2
              exact ⟨⟨k + 1, true, by omega, by simp, rfl, PuI.next (by rw [Hst.out, if_pos heq.out]) (pw_below_drewN glow nq) (Kd.R_below GR.out (pw_below_drewN (Below.refl _ _) nq))⟩, by simp [intOf]; omega⟩
    -- G>
    · obtain rfl : k = l0.length := by omega
      have hd : decide ((l0.length : Int) < (l0.length : Int)) = false := decide_eq_false (by omega)
      have hR := hI.out
      have hdn := hI.done
      have hlow := hI.low
      have hplen := putA_len s l0 ([], false)
      rw [List.take_length] at hR hdn
      obtain ⟨Av, cv, rfl⟩ := Kd.R_slice hR
      have hlen : (l0.foldl (putA s) ([], false)).1.length ≤ 20000 := by rw [List.length_nil] at hplen; omega
      have hput : putF l0 s = if (l0.foldl (putA s) ([], false)).2 = true then (l0.foldl (putA s) ([], false)).1 else (l0.foldl (putA s) ([], false)).1 ++ [s] := rfl
      generalize hacc : l0.foldl (putA s) ([], false) = acc at *
      obtain ⟨acc, dn⟩ := acc
      dsimp only at *
      subst hdn
      have hz2 := blk_lt h2
      clear hI hplen hacc hd0 he0 he1 he2 he3
      cases b with
      | true =>
        rw [if_pos rfl] at hput
        have Hput := Lib.hid hput
        clear hput
        have HR := Lib.hid hR
        clear hR
        have k0 := blk_below h0 hlow
        have k1 := blk_below h2 hlow
        have hd0 : wr.cell? ⟨w.heap.size, 0, none⟩ = some (.slice A0 l0.length c0) := (blk_cell k0 0).trans rfl
        have hd1 : wr.cell? ⟨w.heap.size, 1, none⟩ = some (.slice A1 l1.length c1) := (blk_cell k0 1).trans rfl
        have hd2 : wr.cell? ⟨w.heap.size, 2, none⟩ = some (.slice A2 l2.length c2) := (blk_cell k0 2).trans rfl
        have hd3 : wr.cell? ⟨w.heap.size, 3, none⟩ = some (.int .i64 ops) := (blk_cell k0 3).trans rfl
        have hr0 : wr.cell? ⟨w.heap.size + 1 + 1, 0, none⟩ = some (.slice none 0 0) := (blk_cell k1 0).trans rfl
        have hf0 := blk_frozen k1 0
        have hr1 : wr.cell? ⟨w.heap.size + 1 + 1, 1, none⟩ = some (.slice none 0 0) := (blk_cell k1 1).trans rfl
        have hf1 := blk_frozen k1 1
        have hr2 : wr.cell? ⟨w.heap.size + 1 + 1, 2, none⟩ = some (.slice none 0 0) := (blk_cell k1 2).trans rfl
        have hf2 := blk_frozen k1 2
        have hr3 : wr.cell? ⟨w.heap.size + 1 + 1, 3, none⟩ = some (.int .i64 0) := (blk_cell k1 3).trans rfl
        have hf3 := blk_frozen k1 3
        have hf4 := blk_frozen k0 0
        go_wp2
        refine bodyPost_ret (results_cell_row rfl _ _ (w.heap.size + 1 + 1) 41 #[.slice Av acc.length cv, .slice A1 l1.length c1, .slice A2 l2.length c2, .int .i64 ops] (0, 0) _ rfl (put4_blk (blk_far (p := ⟨w.heap.size, 0, none⟩) k1 (by show w.heap.size + 1 + 1 ≠ w.heap.size; omega) _) _ _ _ _) hu rfl (by kernel_rfl)) rfl ?_
        have hbf := put4_below (below_set (g := w.heap.size) (j := 0) (v := .slice Av acc.length cv) (hB.trans (hlow.mono hB.size)) (Nat.le_refl _)) (show w.heap.size ≤ w.heap.size + 1 + 1 by omega) (.slice Av acc.length cv) (.slice A1 l1.length c1) (.slice A2 l2.length c2) (.int .i64 ops)
        have hrf := Kd.R_reads' (R_put4 (g := w.heap.size + 1 + 1) (Kd.R_far (p := ⟨w.heap.size, 0, none⟩) HR.out (fun k hk e => by have : k = w.heap.size := e; omega) (.slice Av acc.length cv)) hz2 (.slice Av acc.length cv) (.slice A1 l1.length c1) (.slice A2 l2.length c2) (.int .i64 ops))
        exact ⟨Av, cv, by rw [Hput.out], by rw [Hput.out]; exact ⟨hrf.2.2, Kd.C_below hL.r1 hbf, Kd.C_below hL.r2 hbf, hrf.2.1, hL.h1, hL.h2⟩, hbf⟩
      | false =>
        rw [if_neg (by simp)] at hput
        have hb0 := blk_below h0 hlow
        have hb1 := blk_below h1 hlow
        have hq0 : wr.cell? ⟨w.heap.size, 0, none⟩ = some (.slice A0 l0.length c0) := (blk_cell hb0 0).trans rfl
        have he0 : wr.cell? ⟨w.heap.size + 1, 0, none⟩ = some (.string s.f0) := (blk_cell hb1 0).trans rfl
        have he1 : wr.cell? ⟨w.heap.size + 1, 1, none⟩ = some (.string s.f1) := (blk_cell hb1 1).trans rfl
        have he2 : wr.cell? ⟨w.heap.size + 1, 2, none⟩ = some (.int .i64 s.f2) := (blk_cell hb1 2).trans rfl
        have he3 : wr.cell? ⟨w.heap.size + 1, 3, none⟩ = some (.int .i64 s.f3) := (blk_cell hb1 3).trans rfl
        obtain ⟨v1, w1, hrun, hR1, hlow1⟩ := app_st hR hlow (Below.refl _ _) (by omega) s
        obtain ⟨Av1, cv1, rfl⟩ := Kd.R_slice hR1
        obtain ⟨acc1, hacc1⟩ : ∃ a, acc ++ [s] = a := ⟨_, rfl⟩
        rw [hacc1] at hrun hR1 hput
        clear hacc1 hlow hR
        have Hput := Lib.hid hput
        have HR := Lib.hid hR1
        have hlow := hlow1
        clear hput hR1 hlow1
        have k0 := blk_below h0 hlow
        have k1 := blk_below h2 hlow
        have hd0 : w1.cell? ⟨w.heap.size, 0, none⟩ = some (.slice A0 l0.length c0) := (blk_cell k0 0).trans rfl
        have hd1 : w1.cell? ⟨w.heap.size, 1, none⟩ = some (.slice A1 l1.length c1) := (blk_cell k0 1).trans rfl
        have hd2 : w1.cell? ⟨w.heap.size, 2, none⟩ = some (.slice A2 l2.length c2) := (blk_cell k0 2).trans rfl
        have hd3 : w1.cell? ⟨w.heap.size, 3, none⟩ = some (.int .i64 ops) := (blk_cell k0 3).trans rfl
        have hr0 : w1.cell? ⟨w.heap.size + 1 + 1, 0, none⟩ = some (.slice none 0 0) := (blk_cell k1 0).trans rfl
        have hf0 := blk_frozen k1 0
        have hr1 : w1.cell? ⟨w.heap.size + 1 + 1, 1, none⟩ = some (.slice none 0 0) := (blk_cell k1 1).trans rfl
        have hf1 := blk_frozen k1 1
        have hr2 : w1.cell? ⟨w.heap.size + 1 + 1, 2, none⟩ = some (.slice none 0 0) := (blk_cell k1 2).trans rfl
        have hf2 := blk_frozen k1 2
        have hr3 : w1.cell? ⟨w.heap.size + 1 + 1, 3, none⟩ = some (.int .i64 0) := (blk_cell k1 3).trans rfl
        have hf3 := blk_frozen k1 3
        have hf4 := blk_frozen k0 0
        go_wp2_with (at_builtin; refine wpList_append_run rfl _ _ _ rfl hrun ?_)
        refine bodyPost_ret (results_cell_row rfl _ _ (w.heap.size + 1 + 1) 41 #[.slice Av1 acc1.length cv1, .slice A1 l1.length c1, .slice A2 l2.length c2, .int .i64 ops] (0, 0) _ rfl (put4_blk (blk_far (p := ⟨w.heap.size, 0, none⟩) k1 (by show w.heap.size + 1 + 1 ≠ w.heap.size; omega) _) _ _ _ _) hu rfl (by kernel_rfl)) rfl ?_
        have hbf := put4_below (below_set (g := w.heap.size) (j := 0) (v := .slice Av1 acc1.length cv1) (hB.trans (hlow.mono hB.size)) (Nat.le_refl _)) (show w.heap.size ≤ w.heap.size + 1 + 1 by omega) (.slice Av1 acc1.length cv1) (.slice A1 l1.length c1) (.slice A2 l2.length c2) (.int .i64 ops)
        have hrf := Kd.R_reads' (R_put4 (g := w.heap.size + 1 + 1) (Kd.R_far (p := ⟨w.heap.size, 0, none⟩) HR.out (fun k hk e => by have : k = w.heap.size := e; omega) (.slice Av1 acc1.length cv1)) hz2 (.slice Av1 acc1.length cv1) (.slice A1 l1.length c1) (.slice A2 l2.length c2) (.int .i64 ops))
        exact ⟨Av1, cv1, by rw [Hput.out], by rw [Hput.out]; exact ⟨hrf.2.2, Kd.C_below hL.r1 hbf, Kd.C_below hL.r2 hbf, hrf.2.1, hL.h1, hL.h2⟩, hbf⟩
end
end Go.Proofs.Ytofkhcgkahkagaa
/- The reference's held and moved. -/
namespace Go.Proofs.Ytofkhcgkahkagaa
open Go.RowKit Go.Proofs.YtofkhcgkahkagaaW.PrintWords Go.Proofs.YtofkhcgkahkagaaW.PrintLast Go.Proofs.YtofkhcgkahkagaaW.PrintMore Go.Proofs.Ytofkhcgkahkagaa.PPromiseLines
set_option linter.unusedVariables false
set_option linter.unusedSimpArgs false

/-- How a ledger is returned. -/
def LedEnd (l0 : List S100) (l1 : List S107) (l2 : List S111) (ops : Int) (w : World) (e : Ending) (w' : World) : Prop :=
  ∃ A0 c0 A1 c1 A2 c2, e = .returned (.agg #[.slice A0 l0.length c0, .slice A1 l1.length c1, .slice A2 l2.length c2, .int .i64 ops]) ∧ LedgerAt l0 l1 l2 A0 c0 A1 c1 A2 c2 w' ∧ Below w.heap.size w w'
def heldF2 (l0 : List S100) (p : Plc) (n : Int) : List S100 := putF l0 ⟨(findF l0 p).f0, (findF l0 p).f1, (findF l0 p).f2, wrap64 ((findF l0 p).f3 + n)⟩

/-- No string lies in a block's cells. -/
def NoStr (cs : Array Value) : Prop := ∀ (i : Nat) (b : ByteArray), cs[i]? ≠ some (.string b)
theorem NoStr.set {cs : Array Value} (h : NoStr cs) (j : Nat) {v : Value} (hv : ∀ b, v ≠ .string b) : NoStr (cs.setIfInBounds j v) := by
  intro i b e
  rw [Array.getElem?_setIfInBounds] at e
  split at e
  · split at e
    · exact hv b (Option.some.inj e)
    · cases e
  · exact h i b e
theorem addr_block (a : Addr) (n : Nat) : (a.add n).block = a.block := by unfold Addr.add; split <;> rfl
/-- What is read, where each element has a string, stays where a block without strings is written. -/
theorem C_nostr {α : Type} {d : Kd α} (hk : ∀ {W W' : World} {x : α} {c : List Value}, d.K W x c → d.K W' x c) (hstr : ∀ {W : World} {x : α} {c : List Value}, d.K W x c → ∃ (i : Nat) (b : ByteArray), c[i + 1]? = some (.string b))
    {W : World} {A : Option Addr} {n : Nat} {xs : List α} (h : d.C W A n xs) {g : Nat} {t : TypeId} {cs : Array Value} (hb : W.heap[g]? = some (.cells cs t (0, 0))) (hn : NoStr cs) (j : Nat) (v : Value) : d.C (W.setCell ⟨g, j, none⟩ v) A n xs := by
  refine ⟨h.1, h.2.1, fun h0 => ?_⟩
  obtain ⟨ad, rfl, hc⟩ := h.2.2 h0
  refine ⟨ad, rfl, fun m p hp => ?_⟩
  obtain ⟨c, hl, hK, hcell⟩ := hc m p hp
  refine ⟨c, hl, hk hK, fun i u hu => ?_⟩
  rw [cell_far (by
    intro e
    obtain ⟨i', b, hi⟩ := hstr hK
    have h1 := hcell (i' + 1) (.string b) hi
    have e2 : ad.block = g := (addr_block ad _).symm.trans e
    have h2 : W.cell? (ad.add (m * d.sz + (i' + 1))) = cs[ad.off + (m * d.sz + (i' + 1))]? := by
      rw [← blk_cell hb, ← e2]
      unfold Addr.add
      rw [if_neg (by omega)]
    exact hn _ b (h2.symm.trans h1))]
  exact hcell i u hu
theorem C_st {W : World} {A : Option Addr} {n : Nat} {xs : List S100} (h : Kd.C k100 W A n xs) {g : Nat} {t : TypeId} {cs : Array Value} (hb : W.heap[g]? = some (.cells cs t (0, 0))) (hn : NoStr cs) (j : Nat) (v : Value) : Kd.C k100 (W.setCell ⟨g, j, none⟩ v) A n xs :=
  C_nostr (fun {W W' x c} hK => by obtain rfl := k100_open hK; exact k100.K_of_M (k100_mkM W' 0 (fun _ => False) x)) (fun {W x c} hK => by obtain rfl := k100_open hK; exact ⟨0, x.f1, rfl⟩) h hb hn j v
theorem C_ho {W : World} {A : Option Addr} {n : Nat} {xs : List S107} (h : Kd.C k107 W A n xs) {g : Nat} {t : TypeId} {cs : Array Value} (hb : W.heap[g]? = some (.cells cs t (0, 0))) (hn : NoStr cs) (j : Nat) (v : Value) : Kd.C k107 (W.setCell ⟨g, j, none⟩ v) A n xs :=
  C_nostr (fun {W W' x c} hK => by obtain rfl := k107_open hK; exact k107.K_of_M (k107_mkM W' 0 (fun _ => False) x)) (fun {W x c} hK => by obtain rfl := k107_open hK; exact ⟨0, x.f1, rfl⟩) h hb hn j v
theorem C_mo {W : World} {A : Option Addr} {n : Nat} {xs : List S111} (h : Kd.C k111 W A n xs) {g : Nat} {t : TypeId} {cs : Array Value} (hb : W.heap[g]? = some (.cells cs t (0, 0))) (hn : NoStr cs) (j : Nat) (v : Value) : Kd.C k111 (W.setCell ⟨g, j, none⟩ v) A n xs :=
  C_nostr (fun {W W' x c} hK => by obtain rfl := k111_open hK; exact k111.K_of_M (k111_mkM W' 0 (fun _ => False) x)) (fun {W x c} hK => by obtain rfl := k111_open hK; exact ⟨0, x.f1, rfl⟩) h hb hn j v
section
variable {l0 : List S100} {l1 : List S107} {l2 : List S111} {A0 : Option Addr} {c0 : Nat} {A1 : Option Addr} {c1 : Nat} {A2 : Option Addr} {c2 : Nat} {V : World}
theorem LedgerAt.set (h : LedgerAt l0 l1 l2 A0 c0 A1 c1 A2 c2 V) {g : Nat} {t : TypeId} {cs : Array Value} (hb : V.heap[g]? = some (.cells cs t (0, 0))) (hn : NoStr cs) (j : Nat) (v : Value) : LedgerAt l0 l1 l2 A0 c0 A1 c1 A2 c2 (V.setCell ⟨g, j, none⟩ v) :=
  ⟨C_st h.r0 hb hn j v, C_ho h.r1 hb hn j v, C_mo h.r2 hb hn j v, h.h0, h.h1, h.h2⟩
theorem LedgerAt.put4 (h : LedgerAt l0 l1 l2 A0 c0 A1 c1 A2 c2 V) {g : Nat} {t : TypeId} {cs : Array Value} (hb : V.heap[g]? = some (.cells cs t (0, 0))) (hn : NoStr cs) {x y z u : Value} (hx : ∀ b, x ≠ .string b) (hy : ∀ b, y ≠ .string b) (hz : ∀ b, z ≠ .string b) : LedgerAt l0 l1 l2 A0 c0 A1 c1 A2 c2 (put4 V g x y z u) :=
  LedgerAt.set (LedgerAt.set (LedgerAt.set (LedgerAt.set h hb hn 0 x) (blk_set hb 0 x) (hn.set 0 hx) 1 y) (blk_set (blk_set hb 0 x) 1 y) ((hn.set 0 hx).set 1 hy) 2 z) (blk_set (blk_set (blk_set hb 0 x) 1 y) 2 z) (((hn.set 0 hx).set 1 hy).set 2 hz) 3 u
theorem noStr_led (a b c d : Value) (ha : ∀ s, a ≠ .string s) (hb : ∀ s, b ≠ .string s) (hc : ∀ s, c ≠ .string s) (hd : ∀ s, d ≠ .string s) : NoStr #[a, b, c, d] := by
  intro i s e
  match i, e with
  | 0, e => exact ha s (Option.some.inj e)
  | 1, e => exact hb s (Option.some.inj e)
  | 2, e => exact hc s (Option.some.inj e)
  | 3, e => exact hd s (Option.some.inj e)
  | n + 4, e => simp at e
end
section
variable (l0 : List S100) (l1 : List S107) (l2 : List S111) (A0 : Option Addr) (c0 : Nat) (A1 : Option Addr) (c1 : Nat) (A2 : Option Addr) (c2 : Nat) (ops : Int) (w : World)
set_option maxRecDepth 100000 in
set_option maxHeartbeats 1000000 in
theorem held_calls (at_ : S100) (n : Int) (hL : LedgerAt l0 l1 l2 A0 c0 A1 c1 A2 c2 w) (hl : l0.length ≤ 10000) :
    Calls Try.prog 89 #[.agg #[.slice A0 l0.length c0, .slice A1 l1.length c1, .slice A2 l2.length c2, .int .i64 ops], stV at_, .int .i64 n] w (LedEnd (heldF2 l0 (at_.f0, at_.f1) n) l1 l2 ops w) := by
  have hu := Try.underlying41
  have hus := Try.underlying100
  unfold stV
  obtain ⟨W0, hW0⟩ : ∃ W0, ((w.alloc (.cells #[.slice A0 l0.length c0, .slice A1 l1.length c1, .slice A2 l2.length c2, .int .i64 ops] 41)).alloc (.cells #[.string at_.f0, .string at_.f1, .int .i64 at_.f2, .int .i64 at_.f3] 100)).alloc (.cells #[.slice none 0 0, .slice none 0 0, .slice none 0 0, .int .i64 0] 41) = W0 := ⟨_, rfl⟩
  obtain ⟨hB, h0, h1, h2⟩ : Below w.heap.size w W0 ∧ W0.heap[w.heap.size]? = some (.cells #[.slice A0 l0.length c0, .slice A1 l1.length c1, .slice A2 l2.length c2, .int .i64 ops] 41 (0, 0)) ∧ W0.heap[w.heap.size + 1]? = some (.cells #[.string at_.f0, .string at_.f1, .int .i64 at_.f2, .int .i64 at_.f3] 100 (0, 0)) ∧ W0.heap[w.heap.size + 2]? = some (.cells #[.slice none 0 0, .slice none 0 0, .slice none 0 0, .int .i64 0] 41 (0, 0)) := by rw [← hW0]; exact three_boxes
  have hd0 : W0.cell? ⟨w.heap.size, 0, none⟩ = some (.slice A0 l0.length c0) := (blk_cell h0 0).trans rfl
  have hd1 : W0.cell? ⟨w.heap.size, 1, none⟩ = some (.slice A1 l1.length c1) := (blk_cell h0 1).trans rfl
  have hd2 : W0.cell? ⟨w.heap.size, 2, none⟩ = some (.slice A2 l2.length c2) := (blk_cell h0 2).trans rfl
  have hd3 : W0.cell? ⟨w.heap.size, 3, none⟩ = some (.int .i64 ops) := (blk_cell h0 3).trans rfl
  have he0 : W0.cell? ⟨w.heap.size + 1, 0, none⟩ = some (.string at_.f0) := (blk_cell h1 0).trans rfl
  have he1 : W0.cell? ⟨w.heap.size + 1, 1, none⟩ = some (.string at_.f1) := (blk_cell h1 1).trans rfl
  have hcall := find_calls l0 l1 l2 A0 c0 A1 c1 A2 c2 ops W0 at_.f0 at_.f1 (hL.below hB) hl
  have hres : heldF2 l0 (at_.f0, at_.f1) n = putF l0 ⟨(findF l0 (at_.f0, at_.f1)).f0, (findF l0 (at_.f0, at_.f1)).f1, (findF l0 (at_.f0, at_.f1)).f2, wrap64 ((findF l0 (at_.f0, at_.f1)).f3 + n)⟩ := rfl
  obtain ⟨f, hf⟩ : ∃ f, findF l0 (at_.f0, at_.f1) = f := ⟨_, rfl⟩
  rw [hf] at hcall hres
  have hput := fun V (hV : Below w.heap.size w V) => put_calls l0 l1 l2 A0 c0 A1 c1 A2 c2 ops V ⟨f.f0, f.f1, f.f2, wrap64 (f.f3 + n)⟩ (hL.below hV) hl
  obtain ⟨R, hR⟩ : ∃ R, putF l0 ⟨f.f0, f.f1, f.f2, wrap64 (f.f3 + n)⟩ = R := ⟨_, rfl⟩
  rw [hR] at hput hres
  rw [hres]
  unfold stV at hcall hput
  dsimp only at hput
  clear hres hf hR
  go_enter Try.func89, Try.ntmps89
  go_wp2_with fail
  refine hcall.mono ?_
  clear hcall hd0 hd1 hd2 hd3 he0 he1 hW0
  rintro e W1 ⟨rfl, hb1⟩
  obtain ⟨W2, hW2⟩ : ∃ W2, W1.alloc (.cells #[.string f.f0, .string f.f1, .int .i64 f.f2, .int .i64 (wrap64 (f.f3 + n))] 100) = W2 := ⟨_, rfl⟩
  have hb2 : Below W0.heap.size W0 W2 := by rw [← hW2]; exact hb1.alloc hb1.size _
  have hB2 := hB.trans (hb2.mono hB.size)
  have k0 := blk_below h0 hb2
  have k2 := blk_below h2 hb2
  have hn : W2.heap[W1.heap.size]? = some (.cells #[.string f.f0, .string f.f1, .int .i64 f.f2, .int .i64 (wrap64 (f.f3 + n))] 100 (0, 0)) := by rw [← hW2]; exact blk_new _ _
  have hd0 : W2.cell? ⟨w.heap.size, 0, none⟩ = some (.slice A0 l0.length c0) := (blk_cell k0 0).trans rfl
  have hd1 : W2.cell? ⟨w.heap.size, 1, none⟩ = some (.slice A1 l1.length c1) := (blk_cell k0 1).trans rfl
  have hd2 : W2.cell? ⟨w.heap.size, 2, none⟩ = some (.slice A2 l2.length c2) := (blk_cell k0 2).trans rfl
  have hd3 : W2.cell? ⟨w.heap.size, 3, none⟩ = some (.int .i64 ops) := (blk_cell k0 3).trans rfl
  have hs0 : W2.cell? ⟨W1.heap.size, 0, none⟩ = some (.string f.f0) := (blk_cell hn 0).trans rfl
  have hs1 : W2.cell? ⟨W1.heap.size, 1, none⟩ = some (.string f.f1) := (blk_cell hn 1).trans rfl
  have hs2 : W2.cell? ⟨W1.heap.size, 2, none⟩ = some (.int .i64 f.f2) := (blk_cell hn 2).trans rfl
  have hs3 : W2.cell? ⟨W1.heap.size, 3, none⟩ = some (.int .i64 (wrap64 (f.f3 + n))) := (blk_cell hn 3).trans rfl
  have hcall := hput W2 hB2
  clear hput
  go_wp2_with fail
  refine hcall.mono ?_
  clear hcall hW2 hd0 hd1 hd2 hd3 hs0 hs1 hs2 hs3
  rintro e W3 ⟨A, c, rfl, hL3, hb3⟩
  have q2 := blk_below k2 hb3
  have hB3 := below_w hB2 hb3
  have hr0 : W3.cell? ⟨w.heap.size + 1 + 1, 0, none⟩ = some (.slice none 0 0) := (blk_cell q2 0).trans rfl
  have hf0 := blk_frozen q2 0
  have hr1 : W3.cell? ⟨w.heap.size + 1 + 1, 1, none⟩ = some (.slice none 0 0) := (blk_cell q2 1).trans rfl
  have hf1 := blk_frozen q2 1
  have hr2 : W3.cell? ⟨w.heap.size + 1 + 1, 2, none⟩ = some (.slice none 0 0) := (blk_cell q2 2).trans rfl
  have hf2 := blk_frozen q2 2
  have hr3 : W3.cell? ⟨w.heap.size + 1 + 1, 3, none⟩ = some (.int .i64 0) := (blk_cell q2 3).trans rfl
  have hf3 := blk_frozen q2 3
  go_wp2
  refine bodyPost_ret (results_cell_row rfl _ _ (w.heap.size + 1 + 1) 41 #[.slice A R.length c, .slice A1 l1.length c1, .slice A2 l2.length c2, .int .i64 ops] (0, 0) _ rfl (put4_blk q2 _ _ _ _) hu rfl (by kernel_rfl)) rfl ?_
  exact ⟨A, c, A1, c1, A2, c2, rfl, hL3.put4 q2 (noStr_led _ _ _ _ (fun _ h => by cases h) (fun _ h => by cases h) (fun _ h => by cases h) (fun _ h => by cases h)) (fun _ h => by cases h) (fun _ h => by cases h) (fun _ h => by cases h), put4_below hB3 (by omega) _ _ _ _⟩
end
end Go.Proofs.Ytofkhcgkahkagaa
/- The reference's moved. -/
namespace Go.Proofs.Ytofkhcgkahkagaa
open Go.RowKit Go.Proofs.YtofkhcgkahkagaaW.PrintWords Go.Proofs.YtofkhcgkahkagaaW.PrintLast Go.Proofs.YtofkhcgkahkagaaW.PrintMore Go.Proofs.Ytofkhcgkahkagaa.PPromiseLines
set_option linter.unusedVariables false
set_option linter.unusedSimpArgs false

/-- A move as a value. -/
def moV (m : S111) : Value := .agg #[.int .i64 m.f0, .string m.f1, .string m.f2, .int .i64 m.f3, .int .i64 m.f4, .int .i64 m.f5]
theorem app_mo {W0 V V' : World} {v : Value} {acc : List S111} (hR : Kd.R k111 111 V W0.heap.size (fun k => W0.heap.size ≤ k) v acc) (hlow : Below W0.heap.size W0 V) (hb : Below V.heap.size V V') (hl : acc.length ≤ 100000) (m : S111) :
    ∃ v1 w1, (Builtin.append_ #[39, 39] 39 #[v, .slice (some ⟨V'.heap.size, 0, none⟩) 1 1]).run Try.prog (V'.alloc (.cells #[.int .i64 m.f0, .string m.f1, .string m.f2, .int .i64 m.f3, .int .i64 m.f4, .int .i64 m.f5] 111)) = .ok v1 w1 ∧ Kd.R k111 111 w1 W0.heap.size (fun k => W0.heap.size ≤ k) v1 (acc ++ [m]) ∧ Below W0.heap.size W0 w1 := by
  have hz := hb.size
  have hz1 := hlow.size
  obtain ⟨A1, c1, w1, hrun, hR1, hg1⟩ := append_made k111 (P := Try.prog) W0.heap.size 39 39 111 _ 64 Try.underlying39 info111 rfl (by decide) (by decide) V' v _ m [.int .i64 m.f0, .string m.f1, .string m.f2, .int .i64 m.f3, .int .i64 m.f4, .int .i64 m.f5] (fun k => W0.heap.size ≤ k) (fun _ => False)
    (k111_mkM _ _ _ m) (fun k hk => hk.elim) (fun k hk => by omega) (Kd.R_below hR hb) (by omega) (by omega)
  exact ⟨_, w1, hrun, hR1, (hlow.trans (hb.mono hlow.size)).grown hg1 (by omega) (fun j hj => (Kd.R_below hR hb).1 j hj)⟩
theorem four_boxes {w : World} {a b c d : Array Value} {s t u v : TypeId} : Below w.heap.size w ((((w.alloc (.cells a s (0, 0))).alloc (.cells b t (0, 0))).alloc (.cells c u (0, 0))).alloc (.cells d v (0, 0))) ∧ ((((w.alloc (.cells a s (0, 0))).alloc (.cells b t (0, 0))).alloc (.cells c u (0, 0))).alloc (.cells d v (0, 0))).heap[w.heap.size]? = some (.cells a s (0, 0)) ∧ ((((w.alloc (.cells a s (0, 0))).alloc (.cells b t (0, 0))).alloc (.cells c u (0, 0))).alloc (.cells d v (0, 0))).heap[w.heap.size + 1]? = some (.cells b t (0, 0)) ∧ ((((w.alloc (.cells a s (0, 0))).alloc (.cells b t (0, 0))).alloc (.cells c u (0, 0))).alloc (.cells d v (0, 0))).heap[w.heap.size + 2]? = some (.cells c u (0, 0)) ∧ ((((w.alloc (.cells a s (0, 0))).alloc (.cells b t (0, 0))).alloc (.cells c u (0, 0))).alloc (.cells d v (0, 0))).heap[w.heap.size + 3]? = some (.cells d v (0, 0)) := by
  obtain ⟨h1, h2, h3, h4⟩ := @three_boxes w a b c s t u
  refine ⟨h1.alloc (by simp; omega) _, blk_alloc h2 _, blk_alloc h3 _, blk_alloc h4 _, ?_⟩
  have := heap_alloc_new (((w.alloc (.cells a s (0, 0))).alloc (.cells b t (0, 0))).alloc (.cells c u (0, 0))) (.cells d v (0, 0))
  simp only [World.size_alloc] at this
  exact this
def movedS (l0 : List S100) (p : Plc) (n : Int) : List S100 := putF l0 ⟨(findF l0 p).f0, (findF l0 p).f1, wrap64 ((findF l0 p).f2 + n), (findF l0 p).f3⟩
def movedM (l2 : List S111) (p : Plc) (n kind hold : Int) : List S111 := l2 ++ [⟨(l2.length : Int) + 1, p.1, p.2, n, kind, hold⟩]

section
variable (l0 : List S100) (l1 : List S107) (l2 : List S111) (A0 : Option Addr) (c0 : Nat) (A1 : Option Addr) (c1 : Nat) (A2 : Option Addr) (c2 : Nat) (ops : Int) (w : World)
set_option maxRecDepth 100000 in
set_option maxHeartbeats 2000000 in
theorem moved_calls (at_ : S100) (n : Int) (m : S111) (hL : LedgerAt l0 l1 l2 A0 c0 A1 c1 A2 c2 w) (hl : l0.length ≤ 10000) (hl2 : l2.length ≤ 10000) :
    Calls Try.prog 87 #[.agg #[.slice A0 l0.length c0, .slice A1 l1.length c1, .slice A2 l2.length c2, .int .i64 ops], stV at_, .int .i64 n, moV m] w (LedEnd (movedS l0 (at_.f0, at_.f1) n) l1 (movedM l2 (at_.f0, at_.f1) n m.f4 m.f5) ops w) := by
  have hu := Try.underlying41
  have hus := Try.underlying100
  have hum := Try.underlying111
  unfold stV moV
  obtain ⟨W0, hW0⟩ : ∃ W0, (((w.alloc (.cells #[.slice A0 l0.length c0, .slice A1 l1.length c1, .slice A2 l2.length c2, .int .i64 ops] 41)).alloc (.cells #[.string at_.f0, .string at_.f1, .int .i64 at_.f2, .int .i64 at_.f3] 100)).alloc (.cells #[.int .i64 m.f0, .string m.f1, .string m.f2, .int .i64 m.f3, .int .i64 m.f4, .int .i64 m.f5] 111)).alloc (.cells #[.slice none 0 0, .slice none 0 0, .slice none 0 0, .int .i64 0] 41) = W0 := ⟨_, rfl⟩
  obtain ⟨hB, h0, h1, h2, h3⟩ : Below w.heap.size w W0 ∧ W0.heap[w.heap.size]? = some (.cells #[.slice A0 l0.length c0, .slice A1 l1.length c1, .slice A2 l2.length c2, .int .i64 ops] 41 (0, 0)) ∧ W0.heap[w.heap.size + 1]? = some (.cells #[.string at_.f0, .string at_.f1, .int .i64 at_.f2, .int .i64 at_.f3] 100 (0, 0)) ∧ W0.heap[w.heap.size + 2]? = some (.cells #[.int .i64 m.f0, .string m.f1, .string m.f2, .int .i64 m.f3, .int .i64 m.f4, .int .i64 m.f5] 111 (0, 0)) ∧ W0.heap[w.heap.size + 3]? = some (.cells #[.slice none 0 0, .slice none 0 0, .slice none 0 0, .int .i64 0] 41 (0, 0)) := by rw [← hW0]; exact four_boxes
  have hd0 : W0.cell? ⟨w.heap.size, 0, none⟩ = some (.slice A0 l0.length c0) := (blk_cell h0 0).trans rfl
  have hd1 : W0.cell? ⟨w.heap.size, 1, none⟩ = some (.slice A1 l1.length c1) := (blk_cell h0 1).trans rfl
  have hd2 : W0.cell? ⟨w.heap.size, 2, none⟩ = some (.slice A2 l2.length c2) := (blk_cell h0 2).trans rfl
  have hd3 : W0.cell? ⟨w.heap.size, 3, none⟩ = some (.int .i64 ops) := (blk_cell h0 3).trans rfl
  have he0 : W0.cell? ⟨w.heap.size + 1, 0, none⟩ = some (.string at_.f0) := (blk_cell h1 0).trans rfl
  have he1 : W0.cell? ⟨w.heap.size + 1, 1, none⟩ = some (.string at_.f1) := (blk_cell h1 1).trans rfl
  have hcall := find_calls l0 l1 l2 A0 c0 A1 c1 A2 c2 ops W0 at_.f0 at_.f1 (hL.below hB) hl
  have hres : movedS l0 (at_.f0, at_.f1) n = putF l0 ⟨(findF l0 (at_.f0, at_.f1)).f0, (findF l0 (at_.f0, at_.f1)).f1, wrap64 ((findF l0 (at_.f0, at_.f1)).f2 + n), (findF l0 (at_.f0, at_.f1)).f3⟩ := rfl
  obtain ⟨f, hf⟩ : ∃ f, findF l0 (at_.f0, at_.f1) = f := ⟨_, rfl⟩
  rw [hf] at hcall hres
  have hput := fun V (hV : Below w.heap.size w V) => put_calls l0 l1 l2 A0 c0 A1 c1 A2 c2 ops V ⟨f.f0, f.f1, wrap64 (f.f2 + n), f.f3⟩ (hL.below hV) hl
  obtain ⟨R, hR⟩ : ∃ R, putF l0 ⟨f.f0, f.f1, wrap64 (f.f2 + n), f.f3⟩ = R := ⟨_, rfl⟩
  rw [hR] at hput hres
  rw [hres]
  have hM : movedM l2 (at_.f0, at_.f1) n m.f4 m.f5 = l2 ++ [⟨(l2.length : Int) + 1, at_.f0, at_.f1, n, m.f4, m.f5⟩] := rfl
  obtain ⟨M, hMM⟩ : ∃ M, movedM l2 (at_.f0, at_.f1) n m.f4 m.f5 = M := ⟨_, rfl⟩
  rw [hMM] at hM
  rw [hMM]
  have HM := Lib.hid hM
  unfold stV at hcall hput
  dsimp only at hput
  clear hres hf hR hM hMM
  go_enter Try.func87, Try.ntmps87
  go_wp2_with fail
  refine hcall.mono ?_
  clear hcall hd0 hd1 hd2 hd3 he0 he1 hW0
  rintro e W1 ⟨rfl, hb1⟩
  obtain ⟨W2, hW2⟩ : ∃ W2, W1.alloc (.cells #[.string f.f0, .string f.f1, .int .i64 (wrap64 (f.f2 + n)), .int .i64 f.f3] 100) = W2 := ⟨_, rfl⟩
  have hb2 : Below W0.heap.size W0 W2 := by rw [← hW2]; exact hb1.alloc hb1.size _
  have hB2 := hB.trans (hb2.mono hB.size)
  have k0 := blk_below h0 hb2
  have hn : W2.heap[W1.heap.size]? = some (.cells #[.string f.f0, .string f.f1, .int .i64 (wrap64 (f.f2 + n)), .int .i64 f.f3] 100 (0, 0)) := by rw [← hW2]; exact blk_new _ _
  have hd0 : W2.cell? ⟨w.heap.size, 0, none⟩ = some (.slice A0 l0.length c0) := (blk_cell k0 0).trans rfl
  have hd1 : W2.cell? ⟨w.heap.size, 1, none⟩ = some (.slice A1 l1.length c1) := (blk_cell k0 1).trans rfl
  have hd2 : W2.cell? ⟨w.heap.size, 2, none⟩ = some (.slice A2 l2.length c2) := (blk_cell k0 2).trans rfl
  have hd3 : W2.cell? ⟨w.heap.size, 3, none⟩ = some (.int .i64 ops) := (blk_cell k0 3).trans rfl
  have hs0 : W2.cell? ⟨W1.heap.size, 0, none⟩ = some (.string f.f0) := (blk_cell hn 0).trans rfl
  have hs1 : W2.cell? ⟨W1.heap.size, 1, none⟩ = some (.string f.f1) := (blk_cell hn 1).trans rfl
  have hs2 : W2.cell? ⟨W1.heap.size, 2, none⟩ = some (.int .i64 (wrap64 (f.f2 + n))) := (blk_cell hn 2).trans rfl
  have hs3 : W2.cell? ⟨W1.heap.size, 3, none⟩ = some (.int .i64 f.f3) := (blk_cell hn 3).trans rfl
  have hcall := hput W2 hB2
  clear hput
  go_wp2_with fail
  refine hcall.mono ?_
  clear hcall hW2 hd0 hd1 hd2 hd3 hs0 hs1 hs2 hs3
  rintro e W3 ⟨A, c, rfl, hL3, hb3⟩
  have q0 := blk_below k0 hb3
  have g1 := blk_below (blk_below h1 hb2) hb3
  have g2 := blk_below (blk_below h2 hb2) hb3
  have g3 := blk_below (blk_below h3 hb2) hb3
  have hB3 := below_w hB2 hb3
  have ns := fun (a b d e : Value) => @noStr_led a b d e
  have hd0 : W3.cell? ⟨w.heap.size, 0, none⟩ = some (.slice A0 l0.length c0) := (blk_cell q0 0).trans rfl
  have hz0 := blk_frozen q0 0
  have hd1 : W3.cell? ⟨w.heap.size, 1, none⟩ = some (.slice A1 l1.length c1) := (blk_cell q0 1).trans rfl
  have hz1 := blk_frozen q0 1
  have hd2 : W3.cell? ⟨w.heap.size, 2, none⟩ = some (.slice A2 l2.length c2) := (blk_cell q0 2).trans rfl
  have hz2 := blk_frozen q0 2
  have hd3 : W3.cell? ⟨w.heap.size, 3, none⟩ = some (.int .i64 ops) := (blk_cell q0 3).trans rfl
  have hz3 := blk_frozen q0 3
  obtain ⟨V3, hV3⟩ : ∃ V3, put4 W3 w.heap.size (.slice A R.length c) (.slice A1 l1.length c1) (.slice A2 l2.length c2) (.int .i64 ops) = V3 := ⟨_, rfl⟩
  have hne : ∀ j : Nat, 0 < j → w.heap.size + j ≠ w.heap.size := fun j hj => by omega
  have p0 : V3.heap[w.heap.size]? = some (.cells #[.slice A R.length c, .slice A1 l1.length c1, .slice A2 l2.length c2, .int .i64 ops] 41 (0, 0)) := by rw [← hV3]; exact put4_blk q0 _ _ _ _
  have p1 : V3.heap[w.heap.size + 1]? = some (.cells #[.string at_.f0, .string at_.f1, .int .i64 at_.f2, .int .i64 at_.f3] 100 (0, 0)) := by rw [← hV3]; exact put4_far g1 (hne 1 (by omega)) _ _ _ _
  have p2 : V3.heap[w.heap.size + 2]? = some (.cells #[.int .i64 m.f0, .string m.f1, .string m.f2, .int .i64 m.f3, .int .i64 m.f4, .int .i64 m.f5] 111 (0, 0)) := by rw [← hV3]; exact put4_far g2 (hne 2 (by omega)) _ _ _ _
  have p3 : V3.heap[w.heap.size + 3]? = some (.cells #[.slice none 0 0, .slice none 0 0, .slice none 0 0, .int .i64 0] 41 (0, 0)) := by rw [← hV3]; exact put4_far g3 (hne 3 (by omega)) _ _ _ _
  have hLV : LedgerAt R l1 l2 A c A1 c1 A2 c2 V3 := by rw [← hV3]; exact hL3.put4 q0 (noStr_led _ _ _ _ (fun _ h => by cases h) (fun _ h => by cases h) (fun _ h => by cases h) (fun _ h => by cases h)) (fun _ h => by cases h) (fun _ h => by cases h) (fun _ h => by cases h)
  have hBV : Below w.heap.size w V3 := by rw [← hV3]; exact put4_below hB3 (Nat.le_refl _) _ _ _ _
  unfold put4 at hV3
  clear q0 g1 g2 g3 hL3 hB3 hb3
  have hm0 : V3.cell? ⟨w.heap.size, 0, none⟩ = some (.slice A R.length c) := (blk_cell p0 0).trans rfl
  have hm1 : V3.cell? ⟨w.heap.size, 1, none⟩ = some (.slice A1 l1.length c1) := (blk_cell p0 1).trans rfl
  have hm2 : V3.cell? ⟨w.heap.size, 2, none⟩ = some (.slice A2 l2.length c2) := (blk_cell p0 2).trans rfl
  have hm3 : V3.cell? ⟨w.heap.size, 3, none⟩ = some (.int .i64 ops) := (blk_cell p0 3).trans rfl
  go_wp2_with (first | ((with_reducible refine gate_dst (N := 28) rfl ?_); refine Kd.R_append_rows k111 (w0 := V3) V3.heap.size rfl (.tmp 25) (.tmp 27) 39 111 (.agg #[(.int .i64 0), (.string ⟨#[]⟩), (.string ⟨#[]⟩), (.int .i64 0), (.int .i64 0), (.int .i64 0)]) 64 rfl Try.underlying39 info111 rfl (by decide) (by omega) (.slice none 0 0) [] l2 A2 l2.length c2 (fun k => V3.heap.size ≤ k) (fun _ => False) rfl rfl (Kd.R_nil _ _ _ _ _) hLV.r2 (fun x cs h => by obtain rfl := k111_open h; exact k111_mkM _ _ _ x) (fun _ h => h.elim) (fun k hk => hk) (Below.refl _ _) (Nat.le_refl _) (by simp only [List.length_nil]; omega) ?_; intro v1 w1 hR1 hlow1 hg1 _; rw [List.nil_append] at hR1; obtain ⟨Av, cv, rfl⟩ := Kd.R_slice hR1; have y0 := blk_below p0 hlow1; have y1 := blk_below p1 hlow1; have y2 := blk_below p2 hlow1; have y3 := blk_below p3 hlow1; have hn0 : w1.cell? ⟨w.heap.size, 0, none⟩ = some (.slice A R.length c) := (blk_cell y0 0).trans rfl; have hg0' := blk_frozen y0 0; have hn1 : w1.cell? ⟨w.heap.size, 1, none⟩ = some (.slice A1 l1.length c1) := (blk_cell y0 1).trans rfl; have hg1' := blk_frozen y0 1; have hn2 : w1.cell? ⟨w.heap.size, 2, none⟩ = some (.slice A2 l2.length c2) := (blk_cell y0 2).trans rfl; have hg2' := blk_frozen y0 2; have hn3 : w1.cell? ⟨w.heap.size, 3, none⟩ = some (.int .i64 ops) := (blk_cell y0 3).trans rfl; have hg3' := blk_frozen y0 3; have ht0 : w1.cell? ⟨w.heap.size + 1, 0, none⟩ = some (.string at_.f0) := (blk_cell y1 0).trans rfl; have ht1 : w1.cell? ⟨w.heap.size + 1, 1, none⟩ = some (.string at_.f1) := (blk_cell y1 1).trans rfl; have hv4 : w1.cell? ⟨w.heap.size + 1 + 1, 4, none⟩ = some (.int .i64 m.f4) := (blk_cell y2 4).trans rfl; have hv5 : w1.cell? ⟨w.heap.size + 1 + 1, 5, none⟩ = some (.int .i64 m.f5) := (blk_cell y2 5).trans rfl; obtain ⟨v2, w2, hrun, hR2, hlow2⟩ := app_mo hR1 hlow1 (Below.refl _ _) (by omega) ⟨(l2.length : Int) + 1, at_.f0, at_.f1, n, m.f4, m.f5⟩; rw [← HM.out] at hR2; obtain ⟨Au, cu, rfl⟩ := Kd.R_slice hR2; dsimp only at hrun; have z0 := blk_below p0 hlow2; have z3 := blk_below p3 hlow2; have ho0 : w2.cell? ⟨w.heap.size, 0, none⟩ = some (.slice A R.length c) := (blk_cell z0 0).trans rfl; have hh0 := blk_frozen z0 0; have ho1 : w2.cell? ⟨w.heap.size, 1, none⟩ = some (.slice A1 l1.length c1) := (blk_cell z0 1).trans rfl; have hh1 := blk_frozen z0 1; have ho2 : w2.cell? ⟨w.heap.size, 2, none⟩ = some (.slice A2 l2.length c2) := (blk_cell z0 2).trans rfl; have hh2 := blk_frozen z0 2; have ho3 : w2.cell? ⟨w.heap.size, 3, none⟩ = some (.int .i64 ops) := (blk_cell z0 3).trans rfl; have hh3 := blk_frozen z0 3; have hj0 : w2.cell? ⟨w.heap.size + 1 + 1 + 1, 0, none⟩ = some (.slice none 0 0) := (blk_cell z3 0).trans rfl; have hk0 := blk_frozen z3 0; have hj1 : w2.cell? ⟨w.heap.size + 1 + 1 + 1, 1, none⟩ = some (.slice none 0 0) := (blk_cell z3 1).trans rfl; have hk1 := blk_frozen z3 1; have hj2 : w2.cell? ⟨w.heap.size + 1 + 1 + 1, 2, none⟩ = some (.slice none 0 0) := (blk_cell z3 2).trans rfl; have hk2 := blk_frozen z3 2; have hj3 : w2.cell? ⟨w.heap.size + 1 + 1 + 1, 3, none⟩ = some (.int .i64 0) := (blk_cell z3 3).trans rfl; have hk3 := blk_frozen z3 3) | (at_builtin; refine wpList_append_run rfl _ _ _ rfl hrun ?_))
  have hno := fun (a b d : Option Addr) (i j k i2 j2 k2 : Nat) (o : Int) => @noStr_led (.slice a i i2) (.slice b j j2) (.slice d k k2) (.int .i64 o) (fun _ h => by cases h) (fun _ h => by cases h) (fun _ h => by cases h) (fun _ h => by cases h)
  have zf := blk_far (p := ⟨w.heap.size, 2, none⟩) z3 (by show w.heap.size + 3 ≠ w.heap.size; omega) (.slice Au M.length cu)
  refine bodyPost_ret (results_cell_row rfl _ _ (w.heap.size + 1 + 1 + 1) 41 #[.slice A R.length c, .slice A1 l1.length c1, .slice Au M.length cu, .int .i64 ops] (0, 0) _ rfl (put4_blk zf _ _ _ _) hu rfl (by kernel_rfl)) rfl ?_
  have hL2 : LedgerAt R l1 M A c A1 c1 Au cu w2 := ⟨Kd.C_below hLV.r0 hlow2, Kd.C_below hLV.r1 hlow2, (Kd.R_reads' hR2).2.2, hLV.h0, hLV.h1, (Kd.R_reads' hR2).2.1⟩
  exact ⟨A, c, A1, c1, Au, cu, rfl, (hL2.set z0 (hno _ _ _ _ _ _ _ _ _ _) 2 (.slice Au M.length cu)).put4 zf (hno _ _ _ _ _ _ _ _ _ _) (fun _ h => by cases h) (fun _ h => by cases h) (fun _ h => by cases h), put4_below (below_set (below_w hBV hlow2) (Nat.le_refl _)) (by omega) _ _ _ _⟩
end
end Go.Proofs.Ytofkhcgkahkagaa
