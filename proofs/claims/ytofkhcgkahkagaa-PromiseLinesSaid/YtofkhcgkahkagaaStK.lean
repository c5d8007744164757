/- What awake computes. -/
import Derived.Test.YtofkhcgkahkagaaStJ
import Derived.Test.YtofkhcgkahkagaaLawW
namespace Go.Proofs.Ytofkhcgkahkagaa
open Go.RowKit Go.Proofs.YtofkhcgkahkagaaW.PrintWords Go.Proofs.YtofkhcgkahkagaaW.PrintLast Go.Proofs.YtofkhcgkahkagaaW.PrintMore Go.Proofs.Ytofkhcgkahkagaa.PPromiseLines
set_option linter.unusedVariables false
set_option linter.unusedSimpArgs false

theorem ck_some : ckB sm0 sm1 sm2 2 = true := by
  rw [ckB_iff]
  refine ⟨by omega, fun j h => ?_, fun j h => ?_, fun j h => ?_, fun j h => ?_⟩
  · obtain rfl : j = 0 := by simp [sm0] at h; omega
    exact ⟨nS, nX, show (0 : Int) ≤ 3 by decide, show (3 : Int) ≤ 5 by decide, fun h => by omega⟩
  · obtain rfl : j = 0 := by simp [sm1] at h; omega
    exact ⟨⟨rfl, nS, nX, show (1 : Int) ≤ 3 by decide, show (0 : Int) ≤ 0 by decide, show (0 : Int) ≤ 2 by decide, show (0 : Int) ≤ 7 by decide⟩, fun _ => by simp [sm0, sm1, hoP, stP]⟩
  · obtain rfl : j = 0 := by simp [sm2] at h; omega
    exact ⟨⟨.inl ⟨.inl rfl, rfl⟩, rfl, nS, nX, show (5 : Int) ≠ 0 by decide⟩, by simp [sm0, sm2, moP, stP]⟩
  · obtain rfl : j = 0 := by simp [sm0] at h; omega
    exact ⟨by kernel_rfl, by kernel_rfl⟩
theorem few_some : FewL sm0 sm1 sm2 := by
  refine ⟨by simp [sm0], by simp [sm1], by simp [sm2], fun s h => ?_, fun s h => ?_, fun s h => ?_⟩
  · obtain rfl : s = ⟨kS, kX, 5, 3⟩ := by simpa [sm0] using h
    exact ⟨by decide, by decide, i64_small (by decide), i64_small (by decide)⟩
  · obtain rfl : s = ⟨1, kS, kX, 3, 0, 7⟩ := by simpa [sm1] using h
    exact ⟨i64_small (by decide), by decide, by decide, i64_small (by decide), i64_small (by decide), i64_small (by decide)⟩
  · obtain rfl : s = ⟨1, kS, kX, 5, 1, 0⟩ := by simpa [sm2] using h
    exact ⟨i64_small (by decide), by decide, by decide, i64_small (by decide), i64_small (by decide), i64_small (by decide)⟩
theorem rec_some : ∀ r ∈ ([⟨kS, 4, 3⟩] : List S44), RecG r := by
  intro r h
  obtain rfl : r = ⟨kS, 4, 3⟩ := by simpa using h
  exact ⟨by decide, i64_small (by decide), i64_small (by decide)⟩
theorem line_some : lineA ckB sm0 sm1 sm2 2 [⟨kS, 4, 3⟩] kS = ([⟨0, 2⟩, ⟨3, 6⟩, ⟨8, 9⟩], 0) := by
  rw [lineA_eq few_some rec_some]
  unfold rlineA
  rw [if_pos ⟨ck_some, by kernel_rfl⟩]
  kernel_rfl
theorem early_some : earlyA ckB sm0 sm1 sm2 2 [] kS 5 = (8, 0) := by
  rw [earlyA_eq few_some (fun r h => by cases h)]
  have h : rlineA sm0 sm1 sm2 2 [] kS = ([⟨0, 2⟩, ⟨8, 5⟩], 0) := by
    unfold rlineA
    rw [if_pos ⟨ck_some, by kernel_rfl⟩]
    kernel_rfl
  unfold rearlyA
  rw [h]
  show (if (5 : Int) < 0 then _ else _) = _
  rw [if_neg (by decide), if_neg (by decide)]
  kernel_rfl
end Go.Proofs.Ytofkhcgkahkagaa
