/- awake returns true. -/
import Derived.Test.YtofkhcgkahkagaaGreatStJ
import Derived.Test.YtofkhcgkahkagaaGreatLawW
/- What awake computes. -/
namespace Go.Proofs.YtofkhcgkahkagaaGreat
open Go.RowKit Go.Proofs.YtofkhcgkahkagaaGreatW.PrintWords Go.Proofs.YtofkhcgkahkagaaGreatW.PrintLast Go.Proofs.YtofkhcgkahkagaaGreatW.PrintMore Go.Proofs.YtofkhcgkahkagaaGreat.PPromiseShort
set_option linter.unusedVariables false
set_option linter.unusedSimpArgs false

theorem ck_some : ckB sm0 sm1 sm2 2 = true := by
  rw [ckB_iff]
  refine ⟨by omega, fun j h => ?_, fun j h => ?_, fun j h => ?_, fun j h => ?_⟩
  · obtain rfl : j = 0 := by simp [sm0] at h; omega
    exact ⟨nS, nX, show (0 : Int) ≤ 3 by decide, show (3 : Int) ≤ 5 by decide, fun h => by omega⟩
  · obtain rfl : j = 0 := by simp [sm1] at h; omega
    exact ⟨⟨rfl, nS, nX, show (1 : Int) ≤ 3 by decide, show (0 : Int) ≤ 0 by decide, show (0 : Int) ≤ 2 by decide, show (0 : Int) ≤ 7 by decide⟩, fun _ => by simp [sm0, sm1, hoP, stP]⟩
  · obtain rfl : j = 0 := by simp [sm2] at h; omega
    exact ⟨⟨.inl ⟨.inl rfl, rfl⟩, rfl, nS, nX, show (5 : Int) ≠ 0 by decide⟩, by simp [sm0, sm2, moP, stP]⟩
  · obtain rfl : j = 0 := by simp [sm0] at h; omega
    exact ⟨by kernel_rfl, by kernel_rfl⟩
theorem few_some : FewL sm0 sm1 sm2 := by
  refine ⟨by simp [sm0], by simp [sm1], by simp [sm2], fun s h => ?_, fun s h => ?_, fun s h => ?_⟩
  · obtain rfl : s = ⟨kS, kX, 5, 3⟩ := by simpa [sm0] using h
    exact ⟨by decide, by decide, i64_small (by decide), i64_small (by decide)⟩
  · obtain rfl : s = ⟨1, kS, kX, 3, 0, 7⟩ := by simpa [sm1] using h
    exact ⟨i64_small (by decide), by decide, by decide, i64_small (by decide), i64_small (by decide), i64_small (by decide)⟩
  · obtain rfl : s = ⟨1, kS, kX, 5, 1, 0⟩ := by simpa [sm2] using h
    exact ⟨i64_small (by decide), by decide, by decide, i64_small (by decide), i64_small (by decide), i64_small (by decide)⟩
theorem rec_some : ∀ r ∈ ([⟨kS, 4, 3⟩] : List S103), RecG r := by
  intro r h
  obtain rfl : r = ⟨kS, 4, 3⟩ := by simpa using h
  exact ⟨by decide, i64_small (by decide), i64_small (by decide)⟩
theorem line_some : lineA ckB sm0 sm1 sm2 2 [⟨kS, 4, 3⟩] kS = ([⟨0, 2⟩, ⟨3, 6⟩, ⟨8, 9⟩], 0) := by
  rw [lineA_eq few_some rec_some]
  unfold rlineA
  rw [if_pos ⟨ck_some, by kernel_rfl⟩]
  kernel_rfl
theorem early_some : earlyA ckB sm0 sm1 sm2 2 [] kS 5 = (8, 0) := by
  rw [earlyA_eq few_some (fun r h => by cases h)]
  have h : rlineA sm0 sm1 sm2 2 [] kS = ([⟨0, 2⟩, ⟨8, 5⟩], 0) := by
    unfold rlineA
    rw [if_pos ⟨ck_some, by kernel_rfl⟩]
    kernel_rfl
  unfold rearlyA
  rw [h]
  show (if (5 : Int) < 0 then _ else _) = _
  rw [if_neg (by decide), if_neg (by decide)]
  kernel_rfl
end Go.Proofs.YtofkhcgkahkagaaGreat
namespace Go.Proofs.YtofkhcgkahkagaaGreat
open Go.RowKit Go.Proofs.YtofkhcgkahkagaaGreatW.PrintWords Go.Proofs.YtofkhcgkahkagaaGreatW.PrintLast Go.Proofs.YtofkhcgkahkagaaGreatW.PrintMore Go.Proofs.YtofkhcgkahkagaaGreat.PPromiseShort
set_option linter.unusedVariables false
set_option linter.unusedSimpArgs false

/-- A fresh row of one receipt. -/
theorem one_rec {W : World} {g : Nat} (s : ByteArray) (q t : Int) (h : W.heap[g]? = some (.cells #[.string s, .int .i64 q, .int .i64 t] 103 (0, 0))) : Kd.C k103 W (some ⟨g, 0, none⟩) 1 [⟨s, q, t⟩] := by
  refine ⟨rfl, by decide, fun _ => ⟨_, rfl, fun j p hp => ?_⟩⟩
  obtain rfl : j = 0 := by
    rcases j with _ | j
    · rfl
    · simp at hp
  obtain rfl : (⟨s, q, t⟩ : S103) = p := by simpa using hp
  refine ⟨[.string s, .int .i64 q, .int .i64 t], rfl, k103.K_of_M (k103_mkM W 0 (fun _ => False) ⟨s, q, t⟩), fun i u hu => ?_⟩
  have e : (⟨g, 0, none⟩ : Addr).add (0 * k103.sz + i) = ⟨g, i, none⟩ := by
    rw [Nat.zero_mul, Nat.zero_add]
    unfold Addr.add
    split
    · rename_i h0
      rw [h0]
    · simp
  rw [e, blk_cell h]
  rw [← hu]
  match i with
  | 0 => rfl
  | 1 => rfl
  | 2 => rfl
  | n + 3 => simp

set_option maxRecDepth 100000 in
set_option maxHeartbeats 2000000 in
theorem awake_law : AwakeLaw := by
  intro w
  have hu := Tryz.underlying55
  have hur := Tryz.underlying103
  have hus := Tryz.underlying111
  go_enter Tryz.func16, Tryz.ntmps16
  go_wp2_with fail
  refine (some_calls _).mono ?_
  rintro e W1 ⟨A0, c0, A1, c1, A2, c2, rfl, hL1, hb1⟩
  obtain ⟨W2, hW2⟩ : ∃ W2, W1.alloc (.cells #[.string ⟨#[115]⟩, .int .i64 4, .int .i64 3] 103) = W2 := ⟨_, rfl⟩
  have hb2 : Below W1.heap.size W1 W2 := by rw [← hW2]; exact (Below.refl _ _).alloc (Nat.le_refl _) _
  have hn : W2.heap[W1.heap.size]? = some (.cells #[.string ⟨#[115]⟩, .int .i64 4, .int .i64 3] 103 (0, 0)) := by rw [← hW2]; exact blk_new _ _
  have hline := line_api ckB check_law sm0 sm1 sm2 A0 c0 A1 c1 A2 c2 2 (some ⟨W1.heap.size, 0, none⟩) 1 [⟨kS, 4, 3⟩] kS W2 (hL1.below hb2) few_some (one_rec kS 4 3 hn) (Nat.le_refl _) (by simp) (told_64 few_some rec_some kS)
  rw [line_some] at hline
  go_wp2_with fail
  refine Calls.mono hline ?_
  clear hline hW2
  rintro e W3 ⟨A, c, rfl, hR3, hb3⟩
  have hC3 := (Kd.R_reads' hR3).2.2
  change Kd.C k111 W3 A 3 [⟨0, 2⟩, ⟨3, 6⟩, ⟨8, 9⟩] at hC3
  go_wp2_with fail
  refine (some_calls _).mono ?_
  rintro e W4 ⟨B0, d0, B1, d1, B2, d2, rfl, hL4, hb4⟩
  have hearly := early_api ckB check_law sm0 sm1 sm2 B0 d0 B1 d1 B2 d2 2 none 0 [] kS 5 W4 hL4 few_some (Kd.C_nil _ _) (Nat.le_refl _) (by simp) (told_64 few_some (fun r h => by cases h) kS)
  rw [early_some] at hearly
  go_wp2_with fail
  refine Calls.mono hearly ?_
  clear hearly
  rintro e W5 ⟨rfl, hb5⟩
  have hC5 := Kd.C_below (Kd.C_below hC3 hb4) hb5
  obtain ⟨ad, rfl, x0, x1⟩ := at_T111 hC5 0 (by omega) (by omega)
  obtain ⟨ad', e1, y0, y1⟩ := at_T111 hC5 1 (by omega) (by omega)
  obtain rfl := Option.some.inj e1
  obtain ⟨ad', e1, z0, z1⟩ := at_T111 hC5 2 (by omega) (by omega)
  obtain rfl := Option.some.inj e1
  simp [rd_T111] at x0 x1 y0 y1 z0 z1
  rw [Addr.add_zero'] at x0 x1
  have y0' : W5.cell? ⟨ad.block, ad.off + 2, none⟩ = some (.int .i64 3) := y0
  have y1' : W5.cell? ⟨ad.block, ad.off + 2 + 1, none⟩ = some (.int .i64 6) := y1
  have z0' : W5.cell? ⟨ad.block, ad.off + 4, none⟩ = some (.int .i64 8) := z0
  have z1' : W5.cell? ⟨ad.block, ad.off + 4 + 1, none⟩ = some (.int .i64 9) := z1
  clear hC3 hC5 hR3 y0 y1 z0 z1
  go_wp2
  go_ret
  exact ⟨rfl, below_w (below_w (below_w (below_w hb1 hb2) hb3) hb4) hb5⟩
end Go.Proofs.YtofkhcgkahkagaaGreat
