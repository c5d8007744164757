/- The reference's put: a ledger's stocks with one in its place. -/
import Derived.Test.YtofkhcgkahkagaaGreatStB
import Derived.Test.YtofkhcgkahkagaaGreatGen
import Derived.Test.YtofkhcgkahkagaaGreatRLine
import Derived.Deep.RegionHeld3
namespace Go.Proofs.YtofkhcgkahkagaaGreat
open Go.RowKit Go.Proofs.YtofkhcgkahkagaaGreatW.PrintWords Go.Proofs.YtofkhcgkahkagaaGreatW.PrintLast Go.Proofs.YtofkhcgkahkagaaGreatW.PrintMore Go.Proofs.YtofkhcgkahkagaaGreat.PPromiseShort
set_option linter.unusedVariables false
set_option linter.unusedSimpArgs false

def aheadB (x s : S165) : Bool := decide (ordP (stP x) (stP s) < 0)
/-- One round of put. -/
def putA (s : S165) (a : List S165 × Bool) (x : S165) : List S165 × Bool :=
  (if stP x = stP s then (if a.2 = false ∧ aheadB x s = false then a.1 ++ [s] else a.1) else (if a.2 = false ∧ aheadB x s = false then a.1 ++ [s] else a.1) ++ [x], a.2 || !aheadB x s)
def putF (l0 : List S165) (s : S165) : List S165 :=
  if (l0.foldl (putA s) ([], false)).2 = true then (l0.foldl (putA s) ([], false)).1 else (l0.foldl (putA s) ([], false)).1 ++ [s]
theorem putA_len (s : S165) : ∀ (l : List S165) (a : List S165 × Bool), (l.foldl (putA s) a).1.length ≤ a.1.length + 2 * l.length
  | [], a => by simp
  | x :: l, a => by
    have h := putA_len s l (putA s a x)
    have h2 : (putA s a x).1.length ≤ a.1.length + 2 := by
      unfold putA
      dsimp only
      split <;> split <;> simp
    rw [List.foldl_cons, List.length_cons]
    omega
theorem app_st {W0 V V' : World} {v : Value} {acc : List S165} (hR : Kd.R k165 165 V W0.heap.size (fun k => W0.heap.size ≤ k) v acc) (hlow : Below W0.heap.size W0 V) (hb : Below V.heap.size V V') (hl : acc.length ≤ 100000) (x : S165) :
    ∃ v1 w1, (Builtin.append_ #[51, 51] 51 #[v, .slice (some ⟨V'.heap.size, 0, none⟩) 1 1]).run Tryz.prog (V'.alloc (.cells #[.string x.f0, .string x.f1, .int .i64 x.f2, .int .i64 x.f3] 165)) = .ok v1 w1 ∧ Kd.R k165 165 w1 W0.heap.size (fun k => W0.heap.size ≤ k) v1 (acc ++ [x]) ∧ Below W0.heap.size W0 w1 := by
  have hz := hb.size
  have hz1 := hlow.size
  obtain ⟨A1, c1, w1, hrun, hR1, hg1⟩ := append_made k165 (P := Tryz.prog) W0.heap.size 51 51 165 _ 48 Tryz.underlying51 info165 rfl (by decide) (by decide) V' v _ x [.string x.f0, .string x.f1, .int .i64 x.f2, .int .i64 x.f3] (fun k => W0.heap.size ≤ k) (fun _ => False)
    (k165_mkM _ _ _ x) (fun k hk => hk.elim) (fun k hk => by omega) (Kd.R_below hR hb) (by omega) (by omega)
  exact ⟨_, w1, hrun, hR1, (hlow.trans (hb.mono hlow.size)).grown hg1 (by omega) (fun j hj => (Kd.R_below hR hb).1 j hj)⟩

/-- Between two stocks. -/
structure PuI (W0 : World) (l0 : List S165) (s : S165) (k : Nat) (v : Value) (d : Bool) (V : World) : Prop where
  low : Below W0.heap.size W0 V
  done : d = ((l0.take k).foldl (putA s) ([], false)).2
  out : Kd.R k165 165 V W0.heap.size (fun k => W0.heap.size ≤ k) v ((l0.take k).foldl (putA s) ([], false)).1

theorem three_boxes {w : World} {a b c : Array Value} {s t u : TypeId} : Below w.heap.size w (((w.alloc (.cells a s (0, 0))).alloc (.cells b t (0, 0))).alloc (.cells c u (0, 0))) ∧ (((w.alloc (.cells a s (0, 0))).alloc (.cells b t (0, 0))).alloc (.cells c u (0, 0))).heap[w.heap.size]? = some (.cells a s (0, 0)) ∧ (((w.alloc (.cells a s (0, 0))).alloc (.cells b t (0, 0))).alloc (.cells c u (0, 0))).heap[w.heap.size + 1]? = some (.cells b t (0, 0)) ∧ (((w.alloc (.cells a s (0, 0))).alloc (.cells b t (0, 0))).alloc (.cells c u (0, 0))).heap[w.heap.size + 2]? = some (.cells c u (0, 0)) := by
  obtain ⟨h1, h2, h3⟩ := @two_boxes w a b s t
  refine ⟨h1.alloc (by simp; omega) _, blk_alloc h2 _, blk_alloc h3 _, ?_⟩
  have := heap_alloc_new ((w.alloc (.cells a s (0, 0))).alloc (.cells b t (0, 0))) (.cells c u (0, 0))
  simp only [World.size_alloc] at this
  exact this
theorem PuI.next {W0 V : World} {l0 : List S165} {s : S165} {k : Nat} {v : Value} {a : List S165} {b : Bool} (hst : (l0.take (k + 1)).foldl (putA s) ([], false) = (a, b)) (hlow : Below W0.heap.size W0 V) (hR : Kd.R k165 165 V W0.heap.size (fun k => W0.heap.size ≤ k) v a) : PuI W0 l0 s (k + 1) v b V :=
  ⟨hlow, by rw [hst], by rw [hst]; exact hR⟩
theorem R_put4 {W0 V : World} {v : Value} {a : List S165} (hR : Kd.R k165 165 V W0.heap.size (fun k => W0.heap.size ≤ k) v a) {g : Nat} (hg : g < W0.heap.size) (x y z u : Value) : Kd.R k165 165 (put4 V g x y z u) W0.heap.size (fun k => W0.heap.size ≤ k) v a := by
  have hne : ∀ (j : Nat) (k : Nat), W0.heap.size ≤ k → k ≠ (⟨g, j, none⟩ : Addr).block := fun j k hk e => by
    have : k = g := e
    omega
  exact Kd.R_far (p := ⟨g, 3, none⟩) (Kd.R_far (p := ⟨g, 2, none⟩) (Kd.R_far (p := ⟨g, 1, none⟩) (Kd.R_far (p := ⟨g, 0, none⟩) hR (hne 0) x) (hne 1) y) (hne 2) z) (hne 3) u

section
variable (l0 : List S165) (l1 : List S172) (l2 : List S176) (A0 : Option Addr) (c0 : Nat) (A1 : Option Addr) (c1 : Nat) (A2 : Option Addr) (c2 : Nat) (ops : Int) (w : World)
set_option maxRecDepth 100000 in
set_option maxHeartbeats 4000000 in
theorem put_calls (s : S165) (hL : LedgerAt l0 l1 l2 A0 c0 A1 c1 A2 c2 w) (hl : l0.length ≤ 10000) :
    Calls Tryz.prog 216 #[.agg #[.slice A0 l0.length c0, .slice A1 l1.length c1, .slice A2 l2.length c2, .int .i64 ops], stV s] w fun e w' => ∃ A c, e = .returned (.agg #[.slice A (putF l0 s).length c, .slice A1 l1.length c1, .slice A2 l2.length c2, .int .i64 ops]) ∧ LedgerAt (putF l0 s) l1 l2 A c A1 c1 A2 c2 w' ∧ Below w.heap.size w w' := by
  have hu := Tryz.underlying55
  have hus := Tryz.underlying165
  unfold stV
  obtain ⟨W0, hW0⟩ : ∃ W0, ((w.alloc (.cells #[.slice A0 l0.length c0, .slice A1 l1.length c1, .slice A2 l2.length c2, .int .i64 ops] 55)).alloc (.cells #[.string s.f0, .string s.f1, .int .i64 s.f2, .int .i64 s.f3] 165)).alloc (.cells #[.slice none 0 0, .slice none 0 0, .slice none 0 0, .int .i64 0] 55) = W0 := ⟨_, rfl⟩
  obtain ⟨hB, h0, h1, h2⟩ : Below w.heap.size w W0 ∧ W0.heap[w.heap.size]? = some (.cells #[.slice A0 l0.length c0, .slice A1 l1.length c1, .slice A2 l2.length c2, .int .i64 ops] 55 (0, 0)) ∧ W0.heap[w.heap.size + 1]? = some (.cells #[.string s.f0, .string s.f1, .int .i64 s.f2, .int .i64 s.f3] 165 (0, 0)) ∧ W0.heap[w.heap.size + 2]? = some (.cells #[.slice none 0 0, .slice none 0 0, .slice none 0 0, .int .i64 0] 55 (0, 0)) := by rw [← hW0]; exact three_boxes
  have hC := Kd.C_below hL.r0 hB
  go_enter Tryz.func216, Tryz.ntmps216
  go_wp2
  go_loopw [5, 6, 7] (fun v d i wr => ∃ (k : Nat) (b : Bool), k ≤ l0.length ∧ i = .int .i64 k ∧ d = .bool b ∧ PuI W0 l0 s k v b wr)
    (fun _ _ i _ => l0.length - (intOf i).toNat)
  case atStart => exact ⟨0, false, Nat.zero_le _, rfl, rfl, ⟨Below.refl _ _, rfl, Kd.R_nil _ _ _ _ _⟩⟩
  case round =>
    obtain ⟨k, b, hk, rfl, rfl, hI⟩ := hrel
    have hlw := hB.trans (hI.low.mono hB.size)
    have hb0 := blk_below h0 hI.low
    have hb1 := blk_below h1 hI.low
    have hd0 : wr.cell? ⟨w.heap.size, 0, none⟩ = some (.slice A0 l0.length c0) := (blk_cell hb0 0).trans rfl
    have he0 : wr.cell? ⟨w.heap.size + 1, 0, none⟩ = some (.string s.f0) := (blk_cell hb1 0).trans rfl
    have he1 : wr.cell? ⟨w.heap.size + 1, 1, none⟩ = some (.string s.f1) := (blk_cell hb1 1).trans rfl
    have he2 : wr.cell? ⟨w.heap.size + 1, 2, none⟩ = some (.int .i64 s.f2) := (blk_cell hb1 2).trans rfl
    have he3 : wr.cell? ⟨w.heap.size + 1, 3, none⟩ = some (.int .i64 s.f3) := (blk_cell hb1 3).trans rfl
    by_cases hlt : k < l0.length
    · have hd : decide ((k : Int) < (l0.length : Int)) = true := decide_eq_true (by omega)
      have hk1 : (k : Int) < (l0.length : Int) := by omega
      have hk2 : (0 : Int) ≤ (k : Int) := Int.natCast_nonneg _
      obtain ⟨ad, rfl, hx0, hx1, hx2, hx3⟩ := at_T165 hC k (by omega) (by omega)
      rw [Int.toNat_natCast, rd_S hlt] at hx0 hx1 hx2 hx3
      obtain ⟨x, hx⟩ : ∃ x, l0[k] = x := ⟨_, rfl⟩
      rw [hx] at hx0 hx1 hx2 hx3
      have hstep : (l0.take (k + 1)).foldl (putA s) ([], false) = putA s ((l0.take k).foldl (putA s) ([], false)) x := by
        rw [take_snoc hlt, List.foldl_append, hx]; rfl
      have hplen := putA_len s (l0.take k) ([], false)
      have hfl2 := List.length_take_le' k l0
      have hout := hI.out
      have hdone := hI.done
      obtain ⟨Av, cv, rfl⟩ := Kd.R_slice hout
      generalize hacc : (l0.take k).foldl (putA s) ([], false) = acc at *
      obtain ⟨acc, dn⟩ := acc
      dsimp only at *
      subst hdone
      have hy0 := cell_below hI.low hx0
      have hy1 := cell_below hI.low hx1
      have hy2 := cell_below hI.low hx2
      have hy3 := cell_below hI.low hx3
      have hlow := hI.low
      -- <G
      have Hx := Lib.hid (And.intro hx0 (And.intro hx1 (And.intro hx2 hx3)))
      have hlen : acc.length ≤ 20000 := by rw [List.length_nil] at hplen; omega
      clear hplen
      clear hI hacc hx hx0 hx1 hx2 hx3 hfl2
      cases b with
      | true =>
        have Hst := Lib.hid (show (l0.take (k + 1)).foldl (putA s) ([], false) = (if stP x = stP s then acc else acc ++ [x], true) from by rw [hstep]; unfold putA; simp)
        have HR := Lib.hid hout
        clear hstep hout
        go_wp2
        go_quiet (fail)
        obtain ⟨V, hV⟩ : ∃ V, wr.drewN nq = V := ⟨_, rfl⟩
        have gR := Kd.R_below HR.out (pw_below_drewN (Below.refl _ _) nq)
        have glow := pw_below_drewN hlow nq
        rw [hV] at gR glow
        have gd0 : V.cell? ⟨w.heap.size, 0, none⟩ = some (.slice (some ad) l0.length c0) := by rw [← hV]; exact hd0
        have ge0 : V.cell? ⟨w.heap.size + 1, 0, none⟩ = some (.string s.f0) := by rw [← hV]; exact he0
        have ge1 : V.cell? ⟨w.heap.size + 1, 1, none⟩ = some (.string s.f1) := by rw [← hV]; exact he1
        have ge2 : V.cell? ⟨w.heap.size + 1, 2, none⟩ = some (.int .i64 s.f2) := by rw [← hV]; exact he2
        have ge3 : V.cell? ⟨w.heap.size + 1, 3, none⟩ = some (.int .i64 s.f3) := by rw [← hV]; exact he3
        have gy0 : V.cell? (ad.add (k * 4)) = some (.string x.f0) := by rw [← hV]; exact hy0
        have gy1 : V.cell? ⟨(ad.add (k * 4)).block, (ad.add (k * 4)).off + 1, none⟩ = some (.string x.f1) := by rw [← hV]; exact hy1
        have gy2 : V.cell? ⟨(ad.add (k * 4)).block, (ad.add (k * 4)).off + 2, none⟩ = some (.int .i64 x.f2) := by rw [← hV]; exact hy2
        have gy3 : V.cell? ⟨(ad.add (k * 4)).block, (ad.add (k * 4)).off + 3, none⟩ = some (.int .i64 x.f3) := by rw [← hV]; exact hy3
        rw [hV]
        clear hV hd0 he0 he1 he2 he3 hy0 hy1 hy2 hy3 hlow hlw hb0 hb1
        have GR := Lib.hid gR
        clear gR
        cases e0 : (x.f0.toList == s.f0.toList) with
        | false =>
          have hne := Lib.hid (show ¬ stP x = stP s from fun h => by rw [beq_eq_false_iff_ne] at e0; exact e0 (congrArg (fun p : Plc => p.1.toList) h))
          go_wp2
          go_quiet (fail)
          obtain ⟨v2, w2, hrun, hR2, hlow2⟩ := app_st GR.out glow (pw_below_drewN (Below.refl _ _) nq) (by omega) x
          go_wp2_with (at_builtin; refine wpList_append_run rfl _ _ _ rfl hrun ?_)
          exact ⟨⟨k + 1, true, by omega, by simp, rfl, PuI.next (by rw [Hst.out, if_neg hne.out]) hlow2 hR2⟩, by simp [intOf]; omega⟩
        | true =>
          cases e1 : (x.f1.toList == s.f1.toList) with
          | false =>
            have hne := Lib.hid (show ¬ stP x = stP s from fun h => by rw [beq_eq_false_iff_ne] at e1; exact e1 (congrArg (fun p : Plc => p.2.toList) h))
            go_wp2
            go_quiet (fail)
            obtain ⟨v2, w2, hrun, hR2, hlow2⟩ := app_st GR.out glow (pw_below_drewN (Below.refl _ _) nq) (by omega) x
            go_wp2_with (at_builtin; refine wpList_append_run rfl _ _ _ rfl hrun ?_)
            exact ⟨⟨k + 1, true, by omega, by simp, rfl, PuI.next (by rw [Hst.out, if_neg hne.out]) hlow2 hR2⟩, by simp [intOf]; omega⟩
          | true =>
            have heq := Lib.hid (show stP x = stP s from by
              rw [beq_iff_eq] at e0 e1
              exact Prod.ext (str_eq.1 e0) (str_eq.1 e1))
            go_wp2
            go_quiet (fail)
            go_wp2
            exact ⟨⟨k + 1, true, by omega, by simp, rfl, PuI.next (by rw [Hst.out, if_pos heq.out]) (pw_below_drewN glow nq) (Kd.R_below GR.out (pw_below_drewN (Below.refl _ _) nq))⟩, by simp [intOf]; omega⟩
      | false =>
        obtain ⟨r, hr⟩ : ∃ r, aheadB x s = r := ⟨_, rfl⟩
        have haf := ahead_f x s
        rw [show decide (ordP (stP x) (stP s) < 0) = r from hr] at haf
        have hcall := fun V => quaysideref07_ahead.calls x.f0 x.f1 x.f2 x.f3 s.f0 s.f1 s.f2 s.f3 r V haf
        have Hcall := Lib.hid hcall
        have HR := Lib.hid hout
        have Hr := Lib.hid hr
        have Hstep := Lib.hid hstep
        clear hcall haf hout hr hstep
        go_wp2
        go_region_held3 (fun V => V.cell? ⟨w.heap.size, 0, none⟩ = some (.slice (some ad) l0.length c0) ∧ V.cell? ⟨w.heap.size + 1, 0, none⟩ = some (.string s.f0) ∧ V.cell? ⟨w.heap.size + 1, 1, none⟩ = some (.string s.f1) ∧ V.cell? ⟨w.heap.size + 1, 2, none⟩ = some (.int .i64 s.f2) ∧ V.cell? ⟨w.heap.size + 1, 3, none⟩ = some (.int .i64 s.f3) ∧ V.cell? (ad.add (k * 4)) = some (.string x.f0) ∧ V.cell? ⟨(ad.add (k * 4)).block, (ad.add (k * 4)).off + 1, none⟩ = some (.string x.f1) ∧ V.cell? ⟨(ad.add (k * 4)).block, (ad.add (k * 4)).off + 2, none⟩ = some (.int .i64 x.f2) ∧ V.cell? ⟨(ad.add (k * 4)).block, (ad.add (k * 4)).off + 3, none⟩ = some (.int .i64 x.f3))
          (first | assumption | exact ⟨cell_below (below_drew (Below.refl _ _)) hd0, cell_below (below_drew (Below.refl _ _)) he0, cell_below (below_drew (Below.refl _ _)) he1, cell_below (below_drew (Below.refl _ _)) he2, cell_below (below_drew (Below.refl _ _)) he3, cell_below (below_drew (Below.refl _ _)) hy0, cell_below (below_drew (Below.refl _ _)) hy1, cell_below (below_drew (Below.refl _ _)) hy2, cell_below (below_drew (Below.refl _ _)) hy3⟩ | exact ⟨cell_below hbw hd0, cell_below hbw he0, cell_below hbw he1, cell_below hbw he2, cell_below hbw he3, cell_below hbw hy0, cell_below hbw hy1, cell_below hbw hy2, cell_below hbw hy3⟩)
          (first | (go_at_call 91; refine (Hcall.out _).mono ?_; rintro e w' ⟨rfl, hbn⟩; have hbw : Below wr.heap.size wr w' := below_chain (below_drew (Below.refl _ _)) hbn))
        have gd0 := cell_below hbw hd0
        have ge0 := cell_below hbw he0
        have ge1 := cell_below hbw he1
        have ge2 := cell_below hbw he2
        have ge3 := cell_below hbw he3
        have gy0 := cell_below hbw hy0
        have gy1 := cell_below hbw hy1
        have gy2 := cell_below hbw hy2
        have gy3 := cell_below hbw hy3
        go_split_ands
        have gR := Kd.R_below HR.out hbw
        have glow := below_w hlow hbw
        clear hd0 he0 he1 he2 he3 hy0 hy1 hy2 hy3 hlow hlw hb0 hb1
        cases r with
        | true =>
          have Hst := Lib.hid (show (l0.take (k + 1)).foldl (putA s) ([], false) = (if stP x = stP s then acc else acc ++ [x], false) from by rw [Hstep.out]; unfold putA; simp [Hr.out])
          have GR := Lib.hid gR
          clear gR
          cases e0 : (x.f0.toList == s.f0.toList) with
          | false =>
            have hne := Lib.hid (show ¬ stP x = stP s from fun h => by rw [beq_eq_false_iff_ne] at e0; exact e0 (congrArg (fun p : Plc => p.1.toList) h))
            go_wp2
            go_quiet (fail)
            obtain ⟨v2, w2, hrun, hR2, hlow2⟩ := app_st GR.out glow (pw_below_drewN (Below.refl _ _) nq) (by omega) x
            go_wp2_with (at_builtin; refine wpList_append_run rfl _ _ _ rfl hrun ?_)
            exact ⟨⟨k + 1, false, by omega, by simp, rfl, PuI.next (by rw [Hst.out, if_neg hne.out]) hlow2 hR2⟩, by simp [intOf]; omega⟩
          | true =>
            cases e1 : (x.f1.toList == s.f1.toList) with
            | false =>
              have hne := Lib.hid (show ¬ stP x = stP s from fun h => by rw [beq_eq_false_iff_ne] at e1; exact e1 (congrArg (fun p : Plc => p.2.toList) h))
              go_wp2
              go_quiet (fail)
              obtain ⟨v2, w2, hrun, hR2, hlow2⟩ := app_st GR.out glow (pw_below_drewN (Below.refl _ _) nq) (by omega) x
              go_wp2_with (at_builtin; refine wpList_append_run rfl _ _ _ rfl hrun ?_)
              exact ⟨⟨k + 1, false, by omega, by simp, rfl, PuI.next (by rw [Hst.out, if_neg hne.out]) hlow2 hR2⟩, by simp [intOf]; omega⟩
            | true =>
              have heq := Lib.hid (show stP x = stP s from by
                rw [beq_iff_eq] at e0 e1
                exact Prod.ext (str_eq.1 e0) (str_eq.1 e1))
              go_wp2
              go_quiet (fail)
              go_wp2
              exact ⟨⟨k + 1, false, by omega, by simp, rfl, PuI.next (by rw [Hst.out, if_pos heq.out]) (pw_below_drewN glow nq) (Kd.R_below GR.out (pw_below_drewN (Below.refl _ _) nq))⟩, by simp [intOf]; omega⟩
        | false =>
          have Hst := Lib.hid (show (l0.take (k + 1)).foldl (putA s) ([], false) = (if stP x = stP s then acc ++ [s] else acc ++ [s] ++ [x], true) from by rw [Hstep.out]; unfold putA; simp [Hr.out])
          obtain ⟨v1, w1, hrun, hR1, hlow1⟩ := app_st gR glow (Below.refl _ _) (by omega) s
          obtain ⟨Av1, cv1, rfl⟩ := Kd.R_slice hR1
          have hlen1 : (acc ++ [s]).length = acc.length + 1 := by simp
          obtain ⟨acc1, hacc1⟩ : ∃ a, acc ++ [s] = a := ⟨_, rfl⟩
          rw [hacc1] at hrun hR1 Hst hlen1
          have hg := Lib.hid (hrun)
          have glow1 := hlow1
          have GX := Hx.out
          have k0 := blk_below h0 glow1
          have k1 := blk_below h1 glow1
          have md0 : w1.cell? ⟨w.heap.size, 0, none⟩ = some (.slice (some ad) l0.length c0) := (blk_cell k0 0).trans rfl
          have me0 : w1.cell? ⟨w.heap.size + 1, 0, none⟩ = some (.string s.f0) := (blk_cell k1 0).trans rfl
          have me1 : w1.cell? ⟨w.heap.size + 1, 1, none⟩ = some (.string s.f1) := (blk_cell k1 1).trans rfl
          have me2 : w1.cell? ⟨w.heap.size + 1, 2, none⟩ = some (.int .i64 s.f2) := (blk_cell k1 2).trans rfl
          have me3 : w1.cell? ⟨w.heap.size + 1, 3, none⟩ = some (.int .i64 s.f3) := (blk_cell k1 3).trans rfl
          have my0 := cell_below glow1 GX.1
          have my1 := cell_below glow1 GX.2.1
          have my2 := cell_below glow1 GX.2.2.1
          have my3 := cell_below glow1 GX.2.2.2
          clear k0 k1 GX hlow1 hg gR glow gd0 ge0 ge1 ge2 ge3 gy0 gy1 gy2 gy3
          have hlen2 : acc1.length ≤ 20001 := by omega
          clear hlen1 hlen
          have Happ := Lib.hid hR1
          go_wp2_with (at_builtin; refine wpList_append_run rfl _ _ _ rfl hrun ?_)
          have gR := Happ.out
          have glow := glow1
          clear Happ glow1 hR1
          have GR := Lib.hid gR
          clear gR
          cases e0 : (x.f0.toList == s.f0.toList) with
          | false =>
            have hne := Lib.hid (show ¬ stP x = stP s from fun h => by rw [beq_eq_false_iff_ne] at e0; exact e0 (congrArg (fun p : Plc => p.1.toList) h))
            go_wp2
            go_quiet (fail)
            obtain ⟨v2, w2, hrun, hR2, hlow2⟩ := app_st GR.out glow (pw_below_drewN (Below.refl _ _) nq) (by omega) x
            go_wp2_with (at_builtin; refine wpList_append_run rfl _ _ _ rfl hrun ?_)
            exact ⟨⟨k + 1, true, by omega, by simp, rfl, PuI.next (by rw [Hst.out, if_neg hne.out]) hlow2 hR2⟩, by simp [intOf]; omega⟩
          | true =>
            cases e1 : (x.f1.toList == s.f1.toList) with
            | false =>
              have hne := Lib.hid (show ¬ stP x = stP s from fun h => by rw [beq_eq_false_iff_ne] at e1; exact e1 (congrArg (fun p : Plc => p.2.toList) h))
              go_wp2
              go_quiet (fail)
              obtain ⟨v2, w2, hrun, hR2, hlow2⟩ := app_st GR.out glow (pw_below_drewN (Below.refl _ _) nq) (by omega) x
              go_wp2_with (at_builtin; refine wpList_append_run rfl _ _ _ rfl hrun ?_)
              exact ⟨⟨k + 1, true, by omega, by simp, rfl, PuI.next (by rw [Hst.out, if_neg hne.out]) hlow2 hR2⟩, by simp [intOf]; omega⟩
            | true =>
              have heq := Lib.hid (show stP x = stP s from by
                rw [beq_iff_eq] at e0 e1
                exact Prod.ext (str_eq.1 e0) (str_eq.1 e1))
              go_wp2
              go_quiet (fail)
              go_wp2
              exact ⟨⟨k + 1, true, by omega, by simp, rfl, PuI.next (by rw [Hst.out, if_pos heq.out]) (pw_below_drewN glow nq) (Kd.R_below GR.out (pw_below_drewN (Below.refl _ _) nq))⟩, by simp [intOf]; omega⟩
    -- G>
    · obtain rfl : k = l0.length := by omega
      have hd : decide ((l0.length : Int) < (l0.length : Int)) = false := decide_eq_false (by omega)
      have hR := hI.out
      have hdn := hI.done
      have hlow := hI.low
      have hplen := putA_len s l0 ([], false)
      rw [List.take_length] at hR hdn
      obtain ⟨Av, cv, rfl⟩ := Kd.R_slice hR
      have hlen : (l0.foldl (putA s) ([], false)).1.length ≤ 20000 := by rw [List.length_nil] at hplen; omega
      have hput : putF l0 s = if (l0.foldl (putA s) ([], false)).2 = true then (l0.foldl (putA s) ([], false)).1 else (l0.foldl (putA s) ([], false)).1 ++ [s] := rfl
      generalize hacc : l0.foldl (putA s) ([], false) = acc at *
      obtain ⟨acc, dn⟩ := acc
      dsimp only at *
      subst hdn
      have hz2 := blk_lt h2
      clear hI hplen hacc hd0 he0 he1 he2 he3
      cases b with
      | true =>
        rw [if_pos rfl] at hput
        have Hput := Lib.hid hput
        clear hput
        have HR := Lib.hid hR
        clear hR
        have k0 := blk_below h0 hlow
        have k1 := blk_below h2 hlow
        have hd0 : wr.cell? ⟨w.heap.size, 0, none⟩ = some (.slice A0 l0.length c0) := (blk_cell k0 0).trans rfl
        have hd1 : wr.cell? ⟨w.heap.size, 1, none⟩ = some (.slice A1 l1.length c1) := (blk_cell k0 1).trans rfl
        have hd2 : wr.cell? ⟨w.heap.size, 2, none⟩ = some (.slice A2 l2.length c2) := (blk_cell k0 2).trans rfl
        have hd3 : wr.cell? ⟨w.heap.size, 3, none⟩ = some (.int .i64 ops) := (blk_cell k0 3).trans rfl
        have hr0 : wr.cell? ⟨w.heap.size + 1 + 1, 0, none⟩ = some (.slice none 0 0) := (blk_cell k1 0).trans rfl
        have hf0 := blk_frozen k1 0
        have hr1 : wr.cell? ⟨w.heap.size + 1 + 1, 1, none⟩ = some (.slice none 0 0) := (blk_cell k1 1).trans rfl
        have hf1 := blk_frozen k1 1
        have hr2 : wr.cell? ⟨w.heap.size + 1 + 1, 2, none⟩ = some (.slice none 0 0) := (blk_cell k1 2).trans rfl
        have hf2 := blk_frozen k1 2
        have hr3 : wr.cell? ⟨w.heap.size + 1 + 1, 3, none⟩ = some (.int .i64 0) := (blk_cell k1 3).trans rfl
        have hf3 := blk_frozen k1 3
        have hf4 := blk_frozen k0 0
        go_wp2
        refine bodyPost_ret (results_cell_row rfl _ _ (w.heap.size + 1 + 1) 55 #[.slice Av acc.length cv, .slice A1 l1.length c1, .slice A2 l2.length c2, .int .i64 ops] (0, 0) _ rfl (put4_blk (blk_far (p := ⟨w.heap.size, 0, none⟩) k1 (by show w.heap.size + 1 + 1 ≠ w.heap.size; omega) _) _ _ _ _) hu rfl (by kernel_rfl)) rfl ?_
        have hbf := put4_below (below_set (g := w.heap.size) (j := 0) (v := .slice Av acc.length cv) (hB.trans (hlow.mono hB.size)) (Nat.le_refl _)) (show w.heap.size ≤ w.heap.size + 1 + 1 by omega) (.slice Av acc.length cv) (.slice A1 l1.length c1) (.slice A2 l2.length c2) (.int .i64 ops)
        have hrf := Kd.R_reads' (R_put4 (g := w.heap.size + 1 + 1) (Kd.R_far (p := ⟨w.heap.size, 0, none⟩) HR.out (fun k hk e => by have : k = w.heap.size := e; omega) (.slice Av acc.length cv)) hz2 (.slice Av acc.length cv) (.slice A1 l1.length c1) (.slice A2 l2.length c2) (.int .i64 ops))
        exact ⟨Av, cv, by rw [Hput.out], by rw [Hput.out]; exact ⟨hrf.2.2, Kd.C_below hL.r1 hbf, Kd.C_below hL.r2 hbf, hrf.2.1, hL.h1, hL.h2⟩, hbf⟩
      | false =>
        rw [if_neg (by simp)] at hput
        have hb0 := blk_below h0 hlow
        have hb1 := blk_below h1 hlow
        have hq0 : wr.cell? ⟨w.heap.size, 0, none⟩ = some (.slice A0 l0.length c0) := (blk_cell hb0 0).trans rfl
        have he0 : wr.cell? ⟨w.heap.size + 1, 0, none⟩ = some (.string s.f0) := (blk_cell hb1 0).trans rfl
        have he1 : wr.cell? ⟨w.heap.size + 1, 1, none⟩ = some (.string s.f1) := (blk_cell hb1 1).trans rfl
        have he2 : wr.cell? ⟨w.heap.size + 1, 2, none⟩ = some (.int .i64 s.f2) := (blk_cell hb1 2).trans rfl
        have he3 : wr.cell? ⟨w.heap.size + 1, 3, none⟩ = some (.int .i64 s.f3) := (blk_cell hb1 3).trans rfl
        obtain ⟨v1, w1, hrun, hR1, hlow1⟩ := app_st hR hlow (Below.refl _ _) (by omega) s
        obtain ⟨Av1, cv1, rfl⟩ := Kd.R_slice hR1
        obtain ⟨acc1, hacc1⟩ : ∃ a, acc ++ [s] = a := ⟨_, rfl⟩
        rw [hacc1] at hrun hR1 hput
        clear hacc1 hlow hR
        have Hput := Lib.hid hput
        have HR := Lib.hid hR1
        have hlow := hlow1
        clear hput hR1 hlow1
        have k0 := blk_below h0 hlow
        have k1 := blk_below h2 hlow
        have hd0 : w1.cell? ⟨w.heap.size, 0, none⟩ = some (.slice A0 l0.length c0) := (blk_cell k0 0).trans rfl
        have hd1 : w1.cell? ⟨w.heap.size, 1, none⟩ = some (.slice A1 l1.length c1) := (blk_cell k0 1).trans rfl
        have hd2 : w1.cell? ⟨w.heap.size, 2, none⟩ = some (.slice A2 l2.length c2) := (blk_cell k0 2).trans rfl
        have hd3 : w1.cell? ⟨w.heap.size, 3, none⟩ = some (.int .i64 ops) := (blk_cell k0 3).trans rfl
        have hr0 : w1.cell? ⟨w.heap.size + 1 + 1, 0, none⟩ = some (.slice none 0 0) := (blk_cell k1 0).trans rfl
        have hf0 := blk_frozen k1 0
        have hr1 : w1.cell? ⟨w.heap.size + 1 + 1, 1, none⟩ = some (.slice none 0 0) := (blk_cell k1 1).trans rfl
        have hf1 := blk_frozen k1 1
        have hr2 : w1.cell? ⟨w.heap.size + 1 + 1, 2, none⟩ = some (.slice none 0 0) := (blk_cell k1 2).trans rfl
        have hf2 := blk_frozen k1 2
        have hr3 : w1.cell? ⟨w.heap.size + 1 + 1, 3, none⟩ = some (.int .i64 0) := (blk_cell k1 3).trans rfl
        have hf3 := blk_frozen k1 3
        have hf4 := blk_frozen k0 0
        go_wp2_with (at_builtin; refine wpList_append_run rfl _ _ _ rfl hrun ?_)
        refine bodyPost_ret (results_cell_row rfl _ _ (w.heap.size + 1 + 1) 55 #[.slice Av1 acc1.length cv1, .slice A1 l1.length c1, .slice A2 l2.length c2, .int .i64 ops] (0, 0) _ rfl (put4_blk (blk_far (p := ⟨w.heap.size, 0, none⟩) k1 (by show w.heap.size + 1 + 1 ≠ w.heap.size; omega) _) _ _ _ _) hu rfl (by kernel_rfl)) rfl ?_
        have hbf := put4_below (below_set (g := w.heap.size) (j := 0) (v := .slice Av1 acc1.length cv1) (hB.trans (hlow.mono hB.size)) (Nat.le_refl _)) (show w.heap.size ≤ w.heap.size + 1 + 1 by omega) (.slice Av1 acc1.length cv1) (.slice A1 l1.length c1) (.slice A2 l2.length c2) (.int .i64 ops)
        have hrf := Kd.R_reads' (R_put4 (g := w.heap.size + 1 + 1) (Kd.R_far (p := ⟨w.heap.size, 0, none⟩) HR.out (fun k hk e => by have : k = w.heap.size := e; omega) (.slice Av1 acc1.length cv1)) hz2 (.slice Av1 acc1.length cv1) (.slice A1 l1.length c1) (.slice A2 l2.length c2) (.int .i64 ops))
        exact ⟨Av1, cv1, by rw [Hput.out], by rw [Hput.out]; exact ⟨hrf.2.2, Kd.C_below hL.r1 hbf, Kd.C_below hL.r2 hbf, hrf.2.1, hL.h1, hL.h2⟩, hbf⟩
end
end Go.Proofs.YtofkhcgkahkagaaGreat

