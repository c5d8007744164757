/- The statement ScanMeters: its Go function answers true at every list of rows that can be read and every number. -/
import Derived.Test.YtofkhcgkahkagaaScanG
import Derived.Test.YtofkhcgkahkagaaScanP
namespace Go.Proofs.Ytofkhcgkahkagaa
open Go.RowKit Go.Shelf Go.Proofs.YtofkhcgkahkagaaW.PrintWords Go.Proofs.YtofkhcgkahkagaaW.PrintLast Go.Proofs.YtofkhcgkahkagaaW.PrintMore Go.Proofs.Ytofkhcgkahkagaa.PScanMeters
attribute [local go_sem] max2_int min2_int max_two min_two
set_option linter.unusedVariables false
set_option linter.unusedSimpArgs false

theorem light_calls (A : Option Addr) (c : Nat) (rows : List (List S66)) (w : World) (hC : Kd.C (Kd.slice 66 k66) w A rows.length rows) (hc : rows.length ≤ c) :
    ∃ r : Bool, (r = true → rows.length ≤ 60 ∧ ∀ row ∈ rows, row.length ≤ 10) ∧ Calls Try.prog 7 #[.slice A rows.length c] w fun e w' => e = .returned (.bool r) ∧ Below w.heap.size w w' := by
  obtain ⟨k, r, h, hp⟩ := light_tells rows
  exact ⟨r, hp, quaysidelaw26_light.calls k A c rows r w hC hc h⟩

set_option maxRecDepth 100000 in
set_option maxHeartbeats 1000000 in
theorem scanMeters_calls (A : Option Addr) (c : Nat) (rows : List (List S66)) (n : Int) (hn : -9223372036854775808 ≤ n ∧ n ≤ 9223372036854775807) (w : World) (hF : Kd.F (Kd.slice 66 k66) w (fun k => k < w.heap.size) A rows.length rows) (hc : rows.length ≤ c) :
    Calls Try.prog 3 #[.slice A rows.length c, .int .i64 n] w fun e w' => e = .returned (.bool true) ∧ Below w.heap.size w w' := by
  obtain ⟨r, hr, hlight⟩ := light_calls A c rows w (Kd.F_now hF) hc
  go_enter Try.func3, Try.ntmps3
  go_wp2_with fail
  refine hlight.mono ?_
  clear hlight
  rintro e w1 ⟨rfl, hb1⟩
  cases r with
  | false =>
    go_wp2_with (go_at_call 8; refine (awake_calls _).mono ?_; rintro e w2 ⟨rfl, hb2⟩)
    go_ret
    exact ⟨rfl, hb1.trans (hb2.mono hb1.size)⟩
  | true =>
    obtain ⟨hlen, hrows⟩ := hr rfl
    clear hr
    obtain ⟨N, hN⟩ : ∃ N : Nat, mx 0 n = (N : Int) := ⟨(mx 0 n).toNat, by unfold mx; split <;> omega⟩
    have hNb : N ≤ 9223372036854775807 := by unfold mx at hN; split at hN <;> omega
    have HN := Aside0.mk hN
    clear hN
    go_wp2_with fail
    refine (scan_NewMeter.calls n N w1 w1 (Below.refl _ _) (by simp [scan_NewMeter.f, HN.out])).mono ?_
    rintro e w2 ⟨g, rfl, hg2, hb2, _⟩
    have hm2 : MeterAt g N w2 := hg2.1
    have hge := hg2.2
    go_wp2_with fail
    refine (list_calls _ _ _ _).mono ?_
    rintro e w3 ⟨rfl, rfl⟩
    go_wp2_with fail
    refine (metered_calls _ _ _ _).mono ?_
    rintro e w3 ⟨rfl, rfl⟩
    go_wp2_with fail
    have z1 := hb1.size
    have z2 := hb2.size
    have hF2 := Kd.F_bound (Kd.F_below (Kd.F_bound (Kd.F_below hF hb1)) hb2)
    have hrl : ∀ row ∈ rows, row.length ≤ 1000000 := fun row h => by have := hrows row h; omega
    refine (metered_list' A c rows g N w2 _ hF2 ?c0 hm2 hNb (by omega) hrl ?c1 ?c2 ?cW).mono ?_
    case c0 =>
      rintro k hk rfl
      omega
    case c1 => omega
    case c2 => omega
    case cW => simp [meterW, listW]
    rintro e w4 ⟨hs4, hend⟩
    have hg2l : g < w2.heap.size := (Array.getElem?_eq_some_iff.1 hm2).1
    have hW4 : Same (fun k => k < w2.heap.size ∧ k ≠ g) w2 w4 := by
      refine Same.trans (D := fun k => k < w2.heap.size) ?_ hs4 (fun k hk => hk.1) (fun k hk => ⟨by omega, hk.2⟩)
      exact Same.of_below (((((Below.refl _ w2).alloc (Nat.le_refl _) _).alloc (by simp) _).alloc (by simp; omega) _).alloc (by simp; omega) _)
    have hB4 : Below w.heap.size w w4 := hb1.trans ((hb2.mono (by omega)).trans (Same.below (hW4.mono (fun k hk => ⟨by omega, by omega⟩))))
    have hmx : (if 0 < n then n else 0) = (N : Int) := HN.out
    clear hs4
    rcases hend with ⟨hle, ⟨A4, c4, rfl, hR4⟩, hm4⟩ | ⟨hlt, rfl, hm4⟩
    · have hpos : decide ((N : Int) - (rows.length : Int) < 0) = false := decide_eq_false (by omega)
      have hF4 := Kd.F_step hF2 (W1 := w4) (fun k hk hl => hW4.block k ⟨hl, by have := hk.1.2; omega⟩)
      have z4 := hW4.size
      have hCl := Kd.F_now hF4
      have hCa := (Kd.R_reads' hR4).2.2
      have hca := (Kd.R_reads' hR4).2.1
      obtain ⟨ks, hks⟩ := sameRows_self rows (by omega) hrl
      have hsr := quaysideref05_SameRows.calls ks A4 c4 rows A c rows true w4 hCa hca hCl hc hks
      have hl4 := fun m : Nat => left_calls g (N - rows.length) (w4.drewN m) hm4
      have hnl : ((N - rows.length : Nat) : Int) = (N : Int) - (rows.length : Int) := by omega
      have Hnl := Lib.hid hnl
      have Hks := Lib.hid hks
      clear hnl hks hW4 hF2 hF hb1 hb2 hm2 hg2 hR4 hCl hCa hca
      go_wp2_with fail
      refine hsr.mono ?_
      rintro e w5 ⟨rfl, ⟨m5, rfl⟩⟩
      clear hsr
      go_wp2_with fail
      refine (hl4 m5).mono ?_
      rintro e w6 ⟨rfl, rfl⟩
      rw [Hnl.out]
      go_wp2_with fail
      refine (list_calls _ _ _ _).mono ?_
      rintro e w6 ⟨rfl, rfl⟩
      go_wp2_with fail
      refine (metered_calls _ _ _ _).mono ?_
      rintro e w6 ⟨rfl, rfl⟩
      go_wp2_with fail
      refine (metered_list' A c rows g (N - rows.length) (w4.drewN m5) _ (Kd.F_drewN hF4 m5) ?d0 hm4 (by omega) (by omega) hrl ?d1 ?d2 ?dW).mono ?_
      case d0 =>
        rintro k ⟨hk1, hk2⟩ rfl
        omega
      case d1 => simp
      case d2 => simp
      case dW => simp [meterW, listW]
      rintro e w6 ⟨hs6, hend⟩
      have zd : (w4.drewN m5).heap.size = w4.heap.size := rfl
      have zb := hB4.size
      have hsB := Same.below (B := w.heap.size) (hs6.mono (fun k hk => ⟨by omega, by omega⟩))
      have hB6 : Below w.heap.size w w6 := by
        refine (pw_below_drewN hB4 m5).trans (Below.trans ?hm hsB)
        exact (((((Below.refl _ _).alloc (by rw [zd]; omega) _).alloc (by simp; omega) _).alloc (by simp; omega) _).alloc (by simp; omega) _)
      rcases hend with ⟨hle2, ⟨A6, c6, rfl, hR6⟩, hm6⟩ | ⟨hlt2, rfl, hm6⟩
      · have hge2 : decide ((rows.length : Int) ≤ (N : Int) - (rows.length : Int)) = true := decide_eq_true (by omega)
        clear hs6
        go_wp2_with (go_at_call 8; refine (awake_calls _).mono ?_; rintro e w7 ⟨rfl, hb7⟩)
        go_ret
        exact ⟨rfl, hB6.trans (hb7.mono hB6.size)⟩
      · have hge2 : decide ((rows.length : Int) ≤ (N : Int) - (rows.length : Int)) = false := decide_eq_false (by omega)
        clear hs6
        go_wp2_with (go_at_call 8; refine (awake_calls _).mono ?_; rintro e w7 ⟨rfl, hb7⟩)
        go_ret
        exact ⟨rfl, hB6.trans (hb7.mono hB6.size)⟩
    · have hneg : decide ((N : Int) - (rows.length : Int) < 0) = true := decide_eq_true (by omega)
      clear hW4 hF2 hF hb1 hb2 hm2 hg2 hrl hrows
      have hl4 := left_calls g 0 w4 hm4
      go_wp2_with (first | (go_at_call 13; refine hl4.mono ?_; rintro e w5 ⟨rfl, rfl⟩) | (go_at_call 8; refine (awake_calls _).mono ?_; rintro e w5 ⟨rfl, hb5⟩))
      go_ret
      exact ⟨rfl, hB4.trans (hb5.mono hB4.size)⟩
end Go.Proofs.Ytofkhcgkahkagaa
