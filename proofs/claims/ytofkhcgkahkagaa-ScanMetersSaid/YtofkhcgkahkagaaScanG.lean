/- The statement's own 'awake' of the scan layer answers true. -/
import Derived.Test.YtofkhcgkahkagaaScanF
namespace Go.Proofs.Ytofkhcgkahkagaa
open Go.RowKit Go.Shelf Go.Proofs.YtofkhcgkahkagaaW.PrintWords Go.Proofs.YtofkhcgkahkagaaW.PrintLast Go.Proofs.YtofkhcgkahkagaaW.PrintMore Go.Proofs.Ytofkhcgkahkagaa.PScanMeters
set_option linter.unusedVariables false
set_option linter.unusedSimpArgs false

def nv (n : Int) : S66 := ⟨1, n, ⟨#[]⟩⟩
theorem num_calls (n : Int) (w : World) : Calls Try.prog 29 #[.int .i64 n] w fun e w' => e = .returned (.agg #[.int .i64 1, .int .i64 n, .string ⟨#[]⟩]) ∧ Below w.heap.size w w' := quaysidelaw26_num.calls n 1 n ⟨#[]⟩ w rfl

/-- One more row of one value, laid as a literal. -/
theorem row_lit (W0 W : World) (n : Int) (hb : W0.heap.size ≤ W.heap.size) : k66.R 66 (W.alloc (.cells #[.int .i64 1, .int .i64 n, .string ⟨#[]⟩] 66)) W0.heap.size (fun k => W0.heap.size ≤ k) (.slice (some ⟨W.heap.size, 0, none⟩) 1 1) [nv n] := by
  refine ⟨fun k hk => ?_, OwnRow.lit (ps := [nv n]) W W0.heap.size (inner := [.int .i64 1, .int .i64 n, .string ⟨#[]⟩]) (Reps.c3 (k66_mkM _ _ _ (nv n)) (Reps.none _ _)) hb (by simp)⟩
  simp [Value.ownBlock] at hk
  omega

theorem rows_lit (W0 W : World) (A1 A2 A3 : Value) (r1 r2 r3 : List S66) (hb : W0.heap.size ≤ W.heap.size) (h1 : k66.R 66 W W0.heap.size (fun k => W0.heap.size ≤ k) A1 r1) (h2 : k66.R 66 W W0.heap.size (fun k => W0.heap.size ≤ k) A2 r2) (h3 : k66.R 66 W W0.heap.size (fun k => W0.heap.size ≤ k) A3 r3) :
    (Kd.slice 66 k66).R 64 (W.alloc (.cells #[A1, A2, A3] 64)) W0.heap.size (fun k => W0.heap.size ≤ k) (.slice (some ⟨W.heap.size, 0, none⟩) 3 3) [r1, r2, r3] := by
  have mv : ∀ {A : Value} {r : List S66}, k66.R 66 W W0.heap.size (fun k => W0.heap.size ≤ k) A r → (Kd.slice 66 k66).M (W.alloc (.cells #[A1, A2, A3] 64)) W0.heap.size (fun k => W0.heap.size ≤ k ∧ some k ≠ (Value.slice (some ⟨W.heap.size, 0, none⟩) 3 3).ownBlock) r [A] := fun h =>
    ⟨_, rfl, Kd.R_mono (Kd.R_alloc (Kd.R_bound h) _) (fun k hk => ⟨hk.1, by have := hk.2.2.1; simp [Value.ownBlock]; omega⟩)⟩
  refine ⟨fun k hk => ?_, OwnRow.lit (ps := [r1, r2, r3]) W W0.heap.size (inner := [A1, A2, A3]) (Reps.one (mv h1) (Reps.one (mv h2) (Reps.one (mv h3) (Reps.none _ _)))) hb (by simp)⟩
  simp [Value.ownBlock] at hk
  omega

theorem same_nv (n : Int) : quaysideref05_Same.f 5 [nv n] [nv n] = some true := by
  simp [quaysideref05_Same.f, quaysideref05_Same.l0, rd_T66, nv, wrap64]

set_option maxRecDepth 100000 in
set_option maxHeartbeats 400000 in
theorem awake_calls (w : World) : Calls Try.prog 8 #[] w fun e w' => e = .returned (.bool true) ∧ Below w.heap.size w w' := by
  go_enter Try.func8, Try.ntmps8
  go_wp2_with fail
  refine (num_calls 1 _).mono ?_
  rintro e w1 ⟨rfl, hb1⟩
  go_wp2_with fail
  refine (num_calls 2 _).mono ?_
  rintro e w2 ⟨rfl, hb2⟩
  go_wp2_with fail
  refine (num_calls 3 _).mono ?_
  rintro e w3 ⟨rfl, hb3⟩
  go_wp2_with fail
  obtain ⟨W4, hW4⟩ : ∃ W4, (w3.alloc (.cells #[.int .i64 1, .int .i64 3, .string ⟨#[]⟩] 66)).alloc (.cells #[.slice (some ⟨w1.heap.size, 0, none⟩) 1 1, .slice (some ⟨w2.heap.size, 0, none⟩) 1 1, .slice (some ⟨w3.heap.size, 0, none⟩) 1 1] 64) = W4 := ⟨_, rfl⟩
  have hbb2 : Below w1.heap.size w1 w2 := ((Below.refl _ w1).alloc (Nat.le_refl _) _).trans (hb2.mono (by simp))
  have hbb3 : Below w2.heap.size w2 w3 := ((Below.refl _ w2).alloc (Nat.le_refl _) _).trans (hb3.mono (by simp))
  have z1 := hb1.size
  have z2 := hb2.size
  have z3 := hb3.size
  rw [World.size_alloc] at z2 z3
  have hR4 : (Kd.slice 66 k66).R 64 W4 w.heap.size (fun k => w.heap.size ≤ k) (.slice (some ⟨w3.heap.size + 1, 0, none⟩) 3 3) [[nv 1], [nv 2], [nv 3]] := by
    rw [← hW4]
    have := rows_lit w (w3.alloc (.cells #[.int .i64 1, .int .i64 3, .string ⟨#[]⟩] 66)) _ _ _ _ _ _ (by simp; omega)
      (Kd.R_alloc (Kd.R_below (Kd.R_alloc (Kd.R_below (row_lit w w1 1 (by omega)) hb2) _) hb3) _)
      (Kd.R_alloc (Kd.R_below (row_lit w w2 2 (by omega)) hb3) _)
      (row_lit w w3 3 (by omega))
    rwa [World.size_alloc] at this
  have hB4 : Below w.heap.size w W4 := by
    rw [← hW4]
    exact ((hb1.trans ((hbb2.trans (hbb3.mono (by omega))).mono (by omega))).alloc (by omega) _).alloc (by simp; omega) _
  have hs4 : w3.heap.size + 1 < W4.heap.size := by rw [← hW4]; simp
  rw [hW4]
  clear hW4 hb1 hb2 hb3 hbb2 hbb3
  have hF4 := Kd.R_F hR4
  refine (list_calls _ _ _ _).mono ?_
  rintro e w5 ⟨rfl, rfl⟩
  go_wp2_with fail
  refine (limit_calls _ _ _ _ _).mono ?_
  rintro e w5 ⟨rfl, rfl⟩
  go_wp2_with fail
  refine (limited_list' (some ⟨w3.heap.size + 1, 0, none⟩) 3 [[nv 1], [nv 2], [nv 3]] 1 1 (by omega) (by omega) W4 _ hF4 (by simp) (by simp) ?b1 ?b2 ?b3 ?bW).mono ?_
  case b1 => omega
  case b2 => omega
  case b3 => omega
  case bW => unfold limitW listW; rfl
  rintro e w5 hend5
  rw [show (limitOut 1 1 ([[nv 1], [nv 2], [nv 3]].map (fun r => (r, (0 : Int))))).map (·.1) = [[nv 2]] by simp [limitOut, limitRun]] at hend5
  obtain ⟨A5, c5, rfl, hR5, hB5⟩ := hend5
  have hB45 : Below W4.heap.size W4 w5 := ((((Below.refl _ W4).alloc (Nat.le_refl _) _).alloc (by simp) _).alloc (by simp; omega) _).alloc (by simp; omega) _ |>.trans (hB5.mono (by simp; omega))
  have hRa : (Kd.slice 66 k66).R 64 w5 W4.heap.size (fun k => W4.heap.size ≤ k) (.slice A5 1 c5) [[nv 2]] := Kd.R_mono (Kd.R_lower hR5 (by simp; omega)) (fun k hk => by simp at hk; omega)
  clear hR5 hB5
  go_wp2_with fail
  refine (scan_NewMeter.calls 2 2 w5 w5 (Below.refl _ _) (by simp [scan_NewMeter.f, mx])).mono ?_
  rintro e w6 ⟨g, rfl, hg6, hB6, _⟩
  have hm6 : MeterAt g 2 w6 := hg6.1
  have hge := hg6.2
  go_wp2_with fail
  refine (list_calls _ _ _ _).mono ?_
  rintro e w7 ⟨rfl, rfl⟩
  go_wp2_with fail
  refine (metered_calls _ _ _ _).mono ?_
  rintro e w7 ⟨rfl, rfl⟩
  go_wp2_with fail
  have hF6 := Kd.F_bound (Kd.F_below (Kd.F_bound (Kd.F_below hF4 hB45)) hB6)
  refine (metered_list' (some ⟨w3.heap.size + 1, 0, none⟩) 3 [[nv 1], [nv 2], [nv 3]] g 2 w6 _ hF6 ?c0 hm6 (by omega) (by simp) (by simp) ?c1 ?c2 ?cW).mono ?_
  case c0 =>
    rintro k hk rfl
    omega
  case c1 => omega
  case c2 => omega
  case cW => simp [meterW, listW]
  rintro e w8 ⟨hs8, hend⟩
  rcases hend with ⟨h, _⟩ | ⟨_, rfl, hm8⟩
  · simp at h
  have hg8 : g < w6.heap.size := (Array.getElem?_eq_some_iff.1 hm6).1
  have z5 := hB45.size
  have z6 := hB6.size
  have hW8 : Same (fun k => k < w6.heap.size ∧ k ≠ g) w6 w8 := by
    refine Same.trans (D := fun k => k < w6.heap.size) ?_ hs8 (fun k hk => hk.1) (fun k hk => ⟨by omega, hk.2⟩)
    exact Same.of_below (((((Below.refl _ w6).alloc (Nat.le_refl _) _).alloc (by simp) _).alloc (by simp; omega) _).alloc (by simp; omega) _)
  have hRa8 := Kd.R_step (Kd.R_below (Kd.R_bound hRa) hB6) (w1 := w8) (fun k hk _ => hW8.block k ⟨by have := hk.2.2.1; omega, by have := hk.2.2.1; omega⟩)
  have hF8 := Kd.F_step hF6 (W1 := w8) (fun k hk hl => hW8.block k ⟨hl, by have := hk.1.2; omega⟩)
  obtain ⟨ad, A0, c0, rfl, hx0, hl0, hC0⟩ := at_L3 (Kd.R_reads' hRa8).2.2 0 (by omega) (by simp)
  obtain ⟨ad2, A2, c2, he2, hx2, hl2, hC2⟩ := at_L3 (Kd.F_now hF8) 1 (by omega) (by simp)
  injection he2 with he2
  subst he2
  have er0 : rd_L3 [[nv 2]] 0 = [nv 2] := rfl
  have er2 : rd_L3 [[nv 1], [nv 2], [nv 3]] 1 = [nv 2] := rfl
  rw [er0] at hx0 hl0 hC0
  rw [er2] at hx2 hl2 hC2
  rw [show ad.add (0 : Int).toNat = ad by simp [Addr.add]] at hx0
  rw [add_plain] at hx2
  rw [show (1 : Int).toNat = 1 from rfl] at hx2
  have hBend : Below w.heap.size w w8 := hB4.trans ((hB45.mono (by omega)).trans ((hB6.mono (by omega)).trans (Same.below (hW8.mono (fun k hk => ⟨by omega, by omega⟩)))))
  clear hR4 hF4 hF6 hF8 hRa hRa8 hW8 hs8 hB45 hB6 hB4 er0 er2 hg6
  go_wp2
  have hl8 : ∀ (m : Nat), Calls Try.prog 13 #[.pointer (some ⟨g, 0, none⟩)] (w8.drewN m) fun e w' => e = .returned (.int .i64 0) ∧ w' = w8.drewN m := fun m => (left_calls g 0 (w8.drewN m) hm8).mono (fun e w' h => ⟨h.1, h.2.symm⟩)
  have hsm : ∀ (m : Nat), Calls Try.prog 31 #[.slice A0 1 c0, .slice A2 1 c2] (w8.drewN m) fun e w'' => e = .returned (.bool true) ∧ ∃ q, w'' = w8.drewN q := fun m =>
    (quaysideref05_Same.calls 5 A0 c0 [nv 2] A2 c2 [nv 2] true (w8.drewN m) (Kd.C_drewN hC0 _) hl0 (Kd.C_drewN hC2 _) hl2 (same_nv 2)).mono (fun e w' h => ⟨h.1, by obtain ⟨q, hq⟩ := h.2.out; exact ⟨_, hq.trans (World.drewN_drewN _ _ _)⟩⟩)
  go_quiet (first | (go_at_call 31; exact hsm _) | (go_at_call 13; exact Calls.quiet_of_same (hl8 _)))
  go_wp2
  go_ret
  exact ⟨rfl, pw_below_drewN hBend _⟩
end Go.Proofs.Ytofkhcgkahkagaa
