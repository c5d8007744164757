/- The reference's sum of a list is its sum, where it is a number of 64 bits. -/
import Derived.Test.YtofkhcgkahkagaaGreatPSum
import Derived.Test.YtofkhcgkahkagaaGreatQ15
import Derived.Test.YtofkhcgkahkagaaGreatQ18
import Derived.Laws.BitsLemmas
namespace Go.Proofs.YtofkhcgkahkagaaGreat
open Go.RowKit Go.Proofs.YtofkhcgkahkagaaGreatW.PrintWords Go.Proofs.YtofkhcgkahkagaaGreatW.PrintLast Go.Proofs.YtofkhcgkahkagaaGreatW.PrintMore Go.Proofs.YtofkhcgkahkagaaGreat.PPromiseShort
set_option linter.unusedVariables false
set_option linter.unusedSimpArgs false

theorem toNat_ofInt64 (x : Int) : (BitVec.ofInt 64 x).toNat = (x % 18446744073709551616).toNat := by
  rw [BitVec.toNat_ofInt]
  rw [show (((2 ^ 64 : Nat) : Int)) = 18446744073709551616 from rfl]

theorem bits_and62 (a : Int) : Go.bits .and .i64 a 4611686018427387903 = a % 4611686018427387904 := by
  show IntKind.i64.wrap ((BitVec.ofInt 64 a &&& BitVec.ofInt 64 4611686018427387903).toNat : Int) = _
  rw [BitVec.toNat_and, toNat_ofInt64, toNat_ofInt64]
  rw [show ((4611686018427387903 : Int) % 18446744073709551616).toNat = 2 ^ 62 - 1 from rfl, Nat.and_two_pow_sub_one_eq_mod, IntKind.wrap_i64]
  omega

theorem bits_or62 (h lo : Int) (hh : -2 ≤ h ∧ h ≤ 1) (hl : 0 ≤ lo ∧ lo < 4611686018427387904) : Go.bits .or .i64 (wrap64 (h * 4611686018427387904)) lo = h * 4611686018427387904 + lo := by
  show IntKind.i64.wrap ((BitVec.ofInt 64 (wrap64 (h * 4611686018427387904)) ||| BitVec.ofInt 64 lo).toNat : Int) = _
  rw [BitVec.toNat_or, toNat_ofInt64, toNat_ofInt64]
  have h1 : (wrap64 (h * 4611686018427387904) % 18446744073709551616).toNat = 2 ^ 62 * (h % 4).toNat := by unfold wrap64; omega
  have h2 : (lo % 18446744073709551616).toNat < 2 ^ 62 := by omega
  rw [h1, ← Nat.two_pow_add_eq_or_of_lt h2, IntKind.wrap_i64]
  omega

theorem rsum_arith (hi lo n : Int) (h1 : 0 ≤ lo ∧ lo < 4611686018427387904) (h2 : -4611686018427387904 ≤ hi ∧ hi ≤ 4611686018427387904) (hn : -9223372036854775808 ≤ n ∧ n ≤ 9223372036854775807) :
    ∃ hi' lo', quaysideref01_plus.f hi lo (n / 4611686018427387904) (n % 4611686018427387904) = some (hi', lo') ∧ hi' * 4611686018427387904 + lo' = hi * 4611686018427387904 + lo + n ∧ 0 ≤ lo' ∧ lo' < 4611686018427387904 ∧ hi - 2 ≤ hi' ∧ hi' ≤ hi + 2 := by
  unfold quaysideref01_plus.f
  have e1 : wrap64 (lo - 4611686018427387904) = lo - 4611686018427387904 := by unfold wrap64; omega
  have e2 : wrap64 (lo - 4611686018427387904 + n % 4611686018427387904) = lo - 4611686018427387904 + n % 4611686018427387904 := by unfold wrap64; omega
  rw [e1, e2]
  split
  · refine ⟨_, _, rfl, ?_⟩
    have : wrap64 (wrap64 (hi + n / 4611686018427387904) + 1) = hi + n / 4611686018427387904 + 1 := by unfold wrap64; omega
    rw [this]
    omega
  · refine ⟨_, _, rfl, ?_⟩
    have : wrap64 (hi + n / 4611686018427387904) = hi + n / 4611686018427387904 := by unfold wrap64; omega
    have e3 : wrap64 (lo - 4611686018427387904 + n % 4611686018427387904 + 4611686018427387904) = lo + n % 4611686018427387904 := by unfold wrap64; omega
    rw [this, e3]
    omega

theorem rsum_loop (l : List Int) (hl : In64 l) (hn : l.length ≤ 1000000) : ∀ (d k i : Nat) (hi lo : Int), i + d = l.length → d < k → 0 ≤ lo ∧ lo < 4611686018427387904 → -(2 * (i : Int)) ≤ hi ∧ hi ≤ 2 * (i : Int) → hi * 4611686018427387904 + lo = (l.take i).sum →
    quaysideref01_Sum.l0 k l (i : Int) hi lo = some (sumOf l) := by
  intro d
  induction d with
  | zero =>
    intro k i hi lo h1 h2 h3 h4 h5
    obtain ⟨k, rfl⟩ : ∃ m, k = m + 1 := ⟨k - 1, by omega⟩
    rw [quaysideref01_Sum.l0, if_neg (by omega)]
    rw [show l.take i = l from List.take_of_length_le (by omega)] at h5
    unfold quaysideref01_number.f sumOf
    by_cases c1 : hi < -2
    · rw [if_pos c1, if_neg (by omega), Option.bind_some]
    · rw [if_neg c1]
      by_cases c2 : hi > 1
      · rw [if_pos c2, if_neg (by omega), Option.bind_some]
      · have hb : -2 ≤ hi ∧ hi ≤ 1 := by omega
        rw [if_neg c2, bits_or62 hi lo hb h3, h5, if_pos (by omega), Option.bind_some]
  | succ d ih =>
    intro k i hi lo h1 h2 h3 h4 h5
    obtain ⟨k, rfl⟩ : ∃ m, k = m + 1 := ⟨k - 1, by omega⟩
    have hlt : i < l.length := by omega
    rw [quaysideref01_Sum.l0, if_pos (by omega), if_pos (by omega)]
    have e : rd l (i : Int) = l[i] := by unfold rd; rw [Int.toNat_natCast, List.getD_eq_getElem?_getD, List.getElem?_eq_getElem hlt]; rfl
    have hx := hl (l[i]) (List.getElem_mem hlt)
    rw [e]
    unfold quaysideref01_of.f
    rw [Option.bind_some]
    dsimp only
    rw [bits_and62]
    obtain ⟨hi', lo', hp, g1, g2, g3, g4, g5⟩ := rsum_arith hi lo (l[i]) h3 (by omega) hx
    rw [hp, Option.bind_some]
    dsimp only
    have ew : wrap64 ((i : Int) + 1) = ((i + 1 : Nat) : Int) := by unfold wrap64; omega
    rw [ew]
    have hfin : -(2 * ((i + 1 : Nat) : Int)) ≤ hi' ∧ hi' ≤ 2 * ((i + 1 : Nat) : Int) := by
      clear ih h5 g1 hp e ew hx
      omega
    have hsum : hi' * 4611686018427387904 + lo' = (l.take (i + 1)).sum := by
      rw [List.take_add_one, List.getElem?_eq_getElem hlt, List.sum_append, ← h5, g1]
      simp
    clear h5 g1 hp e ew hx
    exact ih k (i + 1) hi' lo' (by clear ih; omega) (by clear ih; omega) ⟨g2, g3⟩ hfin hsum

theorem rsum (l : List Int) (hl : In64 l) (hn : l.length ≤ 1000000) (k : Nat) (hk : l.length < k) : quaysideref01_Sum.f k l = some (sumOf l) :=
  rsum_loop l hl hn l.length k 0 0 0 (by omega) hk (by omega) (by omega) (by simp)
end Go.Proofs.YtofkhcgkahkagaaGreat

