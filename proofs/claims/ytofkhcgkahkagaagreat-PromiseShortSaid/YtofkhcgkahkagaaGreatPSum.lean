/- num.Sum answers the sum of a list of whole numbers, or why there is none. -/
import Derived.Test.YtofkhcgkahkagaaGreatWds
import Derived.Test.YtofkhcgkahkagaaGreatChecked
import Derived.Laws.Externs
import Derived.Laws.Bits64
namespace Go.Proofs.YtofkhcgkahkagaaGreat
open Go.RowKit Go.Proofs.YtofkhcgkahkagaaGreatW.PrintWords Go.Proofs.YtofkhcgkahkagaaGreatW.PrintLast Go.Proofs.YtofkhcgkahkagaaGreatW.PrintMore
set_option linter.unusedVariables false
set_option linter.unusedSimpArgs false

/-- The sum of a list, where it is a number of 64 bits; and why not. -/
def sumOf (l : List Int) : Int × Int := if -9223372036854775808 ≤ l.sum ∧ l.sum ≤ 9223372036854775807 then (l.sum, 0) else (0, 10)

def In64 (l : List Int) : Prop := ∀ n ∈ l, -9223372036854775808 ≤ n ∧ n ≤ 9223372036854775807

theorem run_Add64 (x y c : Int) (hx : 0 ≤ x) (hy : 0 ≤ y) (hc0 : 0 ≤ c) (hc : c ≤ 1) (w : World) :
    (callFunc 136 #[.int .u64 x, .int .u64 y, .int .u64 c]).run Tryz.prog w = .ok (.value (.tuple #[.int .u64 ((x + y + c) % 18446744073709551616), .int .u64 ((x + y + c) / 18446744073709551616)])) w := by
  rw [run_callFunc_extern Tryz.func136 (by kernel_rfl) (by kernel_rfl) (by kernel_rfl) (e := add64Entry) (by kernel_rfl), run_add64 x y c hx hy hc0 hc]
  simp only [Result.andThen]

/-- What hi and lo of num.Sum hold behind so many numbers. -/
def SumI (l : List Int) (k : Nat) (hi lo : Int) : Prop := 0 ≤ lo ∧ lo < 18446744073709551616 ∧ 0 ≤ hi ∧ hi < 18446744073709551616 ∧ (hi * 18446744073709551616 + lo - (l.take k).sum) % 340282366920938463463374607431768211456 = 0

theorem sum_bound {l : List Int} (h : In64 l) : -9223372036854775808 * (l.length : Int) ≤ l.sum ∧ l.sum ≤ 9223372036854775807 * (l.length : Int) := by
  induction l with
  | nil => simp
  | cons a r ih =>
    have h1 := h a (by simp)
    have h2 := ih (fun n hn => h n (by simp [hn]))
    simp only [List.sum_cons, List.length_cons]
    omega

theorem SumI.start (l : List Int) : SumI l 0 0 0 := by
  refine ⟨by omega, by omega, by omega, by omega, ?_⟩
  simp

theorem sumI_arith (hi lo n S : Int) (h1 : 0 ≤ lo) (h2 : lo < 18446744073709551616) (h3 : 0 ≤ hi) (h4 : hi < 18446744073709551616) (h5 : (hi * 18446744073709551616 + lo - S) % 340282366920938463463374607431768211456 = 0)
    (hn : -9223372036854775808 ≤ n ∧ n ≤ 9223372036854775807) :
    (IntKind.u64.wrap (hi + IntKind.u64.wrap (IntKind.u64.wrap (n / 9223372036854775808) + (lo + IntKind.u64.wrap n) / 18446744073709551616)) * 18446744073709551616 + (lo + IntKind.u64.wrap n) % 18446744073709551616 - (S + n)) % 340282366920938463463374607431768211456 = 0 := by
  simp only [IntKind.wrap_u64]
  have hc : ∃ u q, n % 18446744073709551616 = u ∧ n / 9223372036854775808 % 18446744073709551616 = q ∧ ((0 ≤ n ∧ u = n ∧ q = 0) ∨ (n < 0 ∧ u = n + 18446744073709551616 ∧ q = 18446744073709551615)) := by
    refine ⟨_, _, rfl, rfl, ?_⟩
    omega
  obtain ⟨u, q, hu, hq, hc⟩ := hc
  rw [hu, hq]
  have hu0 : 0 ≤ u ∧ u < 18446744073709551616 := by omega
  obtain ⟨cr, hcr, hcr2⟩ : ∃ cr, (lo + u) / 18446744073709551616 = cr ∧ ((cr = 0 ∧ (lo + u) % 18446744073709551616 = lo + u) ∨ (cr = 1 ∧ (lo + u) % 18446744073709551616 = lo + u - 18446744073709551616)) := ⟨_, rfl, by omega⟩
  rw [hcr]
  obtain ⟨z, hz, hz2⟩ : ∃ z, (hi + (q + cr) % 18446744073709551616) % 18446744073709551616 = z ∧ (z = hi + q + cr ∨ z = hi + q + cr - 18446744073709551616) := ⟨_, rfl, by omega⟩
  rw [hz]
  rcases hc with ⟨_, rfl, rfl⟩ | ⟨_, rfl, rfl⟩ <;> rcases hcr2 with ⟨rfl, e2⟩ | ⟨rfl, e2⟩ <;> rcases hz2 with e3 | e3 <;> omega

theorem SumI.step {l : List Int} {k : Nat} {hi lo : Int} (h : SumI l k hi lo) (hk : k < l.length) (hl : In64 l) :
    SumI l (k + 1) (IntKind.u64.wrap (hi + IntKind.u64.wrap (IntKind.u64.wrap (rd l k / 9223372036854775808) + (lo + IntKind.u64.wrap (rd l k)) / 18446744073709551616))) ((lo + IntKind.u64.wrap (rd l k)) % 18446744073709551616) := by
  obtain ⟨h1, h2, h3, h4, h5⟩ := h
  have e : rd l (k : Int) = l.getD k 0 := by simp only [rd]; rw [Int.toNat_natCast]
  rw [e]
  have hn := hl (l.getD k 0) (by rw [List.getD_eq_getElem?_getD, List.getElem?_eq_getElem hk]; simp)
  have hs : (l.take (k + 1)).sum = (l.take k).sum + l.getD k 0 := by
    rw [List.take_add_one, List.sum_append, List.getD_eq_getElem?_getD, List.getElem?_eq_getElem hk]
    simp
  have ha := sumI_arith hi lo (l.getD k 0) (l.take k).sum h1 h2 h3 h4 h5 hn
  rw [SumI, hs]
  refine ⟨by omega, by omega, ?_, ?_, ha⟩
  · rw [IntKind.wrap_u64]; omega
  · rw [IntKind.wrap_u64]; omega

/-- What num.Sum looks at in the end. -/
theorem SumI.done {l : List Int} {hi lo : Int} (h : SumI l l.length hi lo) (hl : In64 l) (hlen : l.length ≤ 9223372036854775807) :
    if hi = IntKind.u64.wrap (wrap64 lo / 9223372036854775808) then sumOf l = (wrap64 lo, 0) else sumOf l = (0, 10) := by
  obtain ⟨h1, h2, h3, h4, h5⟩ := h
  rw [List.take_length] at h5
  have hb := sum_bound hl
  unfold sumOf
  generalize l.sum = S at *
  rw [IntKind.wrap_u64]
  obtain ⟨n, hn, hn2⟩ : ∃ n, wrap64 lo = n ∧ ((n = lo ∧ 0 ≤ n ∧ n / 9223372036854775808 % 18446744073709551616 = 0) ∨ (n = lo - 18446744073709551616 ∧ n < 0 ∧ n / 9223372036854775808 % 18446744073709551616 = 18446744073709551615)) := ⟨_, rfl, by unfold wrap64; omega⟩
  have hnb : -9223372036854775808 ≤ n ∧ n ≤ 9223372036854775807 := by rw [← hn]; unfold wrap64; omega
  rw [hn]
  split
  · have : S = n := by omega
    rw [if_pos (by omega), this]
  · rw [if_neg (by omega)]

set_option maxRecDepth 100000 in
theorem sum_calls (A : Option Addr) (c : Nat) (l : List Int) (w : World) (hC : Kd.C (Kd.int .i64) w A l.length l) (hc : l.length ≤ c) (hl : In64 l) :
    Calls Tryz.prog 81 #[.slice A l.length c] w fun e w' => e = .returned (.tuple #[.int .i64 (sumOf l).1, .int .i64 (sumOf l).2]) ∧ w' = w := by
  have hmax := hC.2.1
  have hadd := run_Add64
  go_enter Tryz.func81, Tryz.ntmps81
  go_wp2
  go_loopw [4, 5, 12] (fun hi lo i wr => ∃ (k : Nat) (h o : Int), k ≤ l.length ∧ i = .int .i64 k ∧ hi = .int .u64 h ∧ lo = .int .u64 o ∧ SumI l k h o ∧ wr = w)
    (fun _ _ i _ => l.length - (intOf i).toNat)
  case atStart => exact ⟨0, 0, 0, Nat.zero_le _, rfl, rfl, rfl, SumI.start l, rfl⟩
  case round =>
    obtain ⟨k, h, o, hk, rfl, rfl, rfl, hI, rfl⟩ := hrel
    by_cases hlt : k < l.length
    · have hd : decide ((k : Int) < (l.length : Int)) = true := decide_eq_true (by omega)
      obtain ⟨ad, rfl, hx⟩ := Kd.at_int hC k (by omega) (by omega)
      rw [Int.toNat_natCast] at hx
      have ho := hI.1
      have hn := hl (rd l k) (by have := hI; simp only [rd]; rw [Int.toNat_natCast, List.getD_eq_getElem?_getD, List.getElem?_eq_getElem hlt]; simp)
      have hwr : 0 ≤ IntKind.u64.wrap (rd l k) := wrap_u64_nonneg _
      go_wp2_with (simp only [hadd _ _ _ ho hwr (by omega) (by omega)])
      exact ⟨⟨k + 1, _, _, by omega, by simp, rfl, rfl, hI.step hlt hl, trivial⟩, by simp [intOf]; omega⟩
    · obtain rfl : k = l.length := by omega
      have hd : decide ((l.length : Int) < (l.length : Int)) = false := decide_eq_false (by omega)
      have hD := hI.done hl hmax
      by_cases he : h = IntKind.u64.wrap (wrap64 o / 9223372036854775808)
      · rw [if_pos he] at hD
        have hb : (h == IntKind.u64.wrap (wrap64 o / 9223372036854775808)) = true := beq_iff_eq.2 he
        clear he hadd
        go_wp2
        go_ret2
        exact ⟨by rw [hD]; rfl, rfl⟩
      · rw [if_neg he] at hD
        have hb : (h == IntKind.u64.wrap (wrap64 o / 9223372036854775808)) = false := beq_eq_false_iff_ne.2 he
        clear he hadd
        go_wp2
        go_ret2
        exact ⟨by rw [hD]; rfl, rfl⟩
end Go.Proofs.YtofkhcgkahkagaaGreat

