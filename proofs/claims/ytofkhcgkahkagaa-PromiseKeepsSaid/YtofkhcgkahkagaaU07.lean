/- Texts behind the row of PromiseKeeps, part 7. -/
import Derived.Test.YtofkhcgkahkagaaU02
import Derived.Test.YtofkhcgkahkagaaU05
import Derived.Test.YtofkhcgkahkagaaU06
import Derived.Laws.BitsLemmas
import Derived.Lib.Strings
/- Contracts of the reference's functions, printed by print.sh for PromiseLines, cut by a program to those that the claim uses. -/
namespace Go.Proofs.Ytofkhcgkahkagaa.PPromiseLines
open Go.RowKit Go.Proofs.YtofkhcgkahkagaaW.PrintWords Go.Proofs.YtofkhcgkahkagaaW.PrintLast Go.Proofs.YtofkhcgkahkagaaW.PrintMore
attribute [local go_sem] max2_int min2_int max_two min_two max_three min_three max_four min_four   -- for this text's walks alone
set_option linter.unusedVariables false
set_option linter.unusedSimpArgs false

-- NOT PRINTED: function 46 (quaysideref07_Step)

-- NOT PRINTED: function 37 (quaysidelaw33_some)

-- NOT PRINTED: function 17 (quaysidelaw33_awake)

/-! ### quaysideref33_May: function 26 -/
def quaysideref33_May.l0 : Nat → List (S44) → Int → Option (Bool)
  | 0, _, _ => none
  | k + 1, x0, x3 => if x3 < (x0.length : Int) then (if 0 ≤ x3 then ((quaysideref06_Name.f ((rd_T44 x0 x3).f0)).bind fun t449 => (if t449 = true then (if ((rd_T44 x0 x3).f1) < 1 then (some false) else (if ((rd_T44 x0 x3).f2) < 0 then (some false) else (quaysideref33_May.l0 k x0 (wrap64 (x3 + 1))))) else (some false))) else (none)) else (some (decide ((x0.length : Int) ≤ 1000)))
def quaysideref33_May.f (k : Nat) (l0 : List (S44)) : Option (Bool) := quaysideref33_May.l0 k l0 0
set_option maxHeartbeats 8000000 in
set_option maxRecDepth 100000 in
theorem quaysideref33_May.calls (k : Nat) (A0 : Option Addr) (c0 : Nat) (l0 : List (S44)) (r : Bool) (w : World) (hr0 : Kd.C k44 w A0 l0.length l0) (hc0 : l0.length ≤ c0) (h : quaysideref33_May.f k l0 = some r) :
    Calls Try.prog 26 #[.slice A0 l0.length c0] w fun e w' => e = .returned (.bool r) ∧ Drawn0 w w' := by
  have HR0 := Aside0.mk hr0
  have HC0 := Aside0.mk hc0
  clear hr0 hc0
  have H : (quaysideref33_May.l0 k l0 0) = some r := h
  clear h
  have H' := Aside0.mk H
  clear H
  go_enter Try.func26, Try.ntmps26
  go_wp2
  go_loopg [3] k (fun kq v3 w' => ∃ (x3_1 : Int), v3 = .int .i64 x3_1 ∧ Aside0 (quaysideref33_May.l0 kq l0 x3_1 = some r) ∧ Aside0 (kq ≤ k) ∧ Drawn0 w w')
  case atStart => exact ⟨(0), (by first | rfl | (simp; done) | (simp [*]; done)), H', ⟨Nat.le_refl _⟩, by repeat (first | exact Drawn0.refl _ | apply Drawn0.step)⟩
  case round =>
    clear H'
    obtain ⟨x3_1, rfl, HA, HK1, ⟨m1, rfl⟩⟩ := hrel
    cases gk with
    | zero => exact absurd HA.out (by simp [quaysideref33_May.l0])
    | succ k1 =>
      have H := HA.out
      clear HA
      simp only [quaysideref33_May.l0] at H
      by_cases c2 : x3_1 < (l0.length : Int)
      · rw [if_pos c2] at H
        have c2b0 : decide (x3_1 < (l0.length : Int)) = true := decide_eq_true c2
        clear c2
        by_cases c3 : 0 ≤ x3_1
        · rw [if_pos c3] at H
          have c3b0 : decide (0 ≤ x3_1) = true := decide_eq_true c3
          clear c3
          replace H := Option.bind_eq_some_iff.mp H
          obtain ⟨t449, A40, H⟩ := H
          replace H : (if t449 = true then (if ((rd_T44 l0 x3_1).f1) < 1 then (some false) else (if ((rd_T44 l0 x3_1).f2) < 0 then (some false) else (quaysideref33_May.l0 k1 l0 (wrap64 (x3_1 + 1))))) else (some false)) = some r := H
          have A4 := Aside0.mk A40
          clear A40
          by_cases c5 : t449 = true
          · subst c5
            have H1 : (if ((rd_T44 l0 x3_1).f1) < 1 then (some false) else (if ((rd_T44 l0 x3_1).f2) < 0 then (some false) else (quaysideref33_May.l0 k1 l0 (wrap64 (x3_1 + 1))))) = some r := by rw [if_pos rfl] at H; exact H
            clear H
            have H := H1
            clear H1
            by_cases c6 : ((rd_T44 l0 x3_1).f1) < 1
            · rw [if_pos c6] at H
              have c6b0 : decide (((rd_T44 l0 x3_1).f1) < 1) = true := decide_eq_true c6
              clear c6
              obtain rfl := Option.some.inj H
              have p448 : 0 ≤ (x3_1 : Int) := of_decide_eq_true (by first | (with_reducible assumption) | assumption)
              have q448 : x3_1 < (l0.length : Int) := of_decide_eq_true (by first | (with_reducible assumption) | assumption)
              obtain ⟨ad448, e448, hx448_0, hx448_1, hx448_2⟩ := at_T44 HR0.out x3_1 p448 q448
              cases e448
              replace p448 := eq_true p448
              replace q448 := eq_true q448
              go_wp2_with (first | ((with_reducible refine gate_callee (f := 47) rfl ?_); refine goesL_ (some 15) rfl rfl Try.func47 (by kernel_rfl) rfl #[.string ((rd_T44 l0 x3_1).f0)] rfl (by (try simp only [List.map_toArray, List.map_cons, List.map_nil]); first | done | rfl | (simp only [List.length_drop, List.length_take]; rfl)) ?_; (with_reducible refine (quaysideref06_Name.calls ((rd_T44 l0 x3_1).f0) true _ A4.out).mono ?_); rintro e w' ⟨rfl, ⟨nd, rfl⟩⟩; refine ⟨_, rfl, ?_⟩; have p450 : 0 ≤ (x3_1 : Int) := of_decide_eq_true (by first | (with_reducible assumption) | assumption); have q450 : x3_1 < (l0.length : Int) := of_decide_eq_true (by first | (with_reducible assumption) | assumption); obtain ⟨ad450, e450, hx450_0, hx450_1, hx450_2⟩ := at_T44 HR0.out x3_1 p450 q450; obtain rfl : ad448 = ad450 := (by injection e450); replace p450 := eq_true p450; replace q450 := eq_true q450))
              go_ret
              exact ⟨by first | rfl | (simp; done) | (simp [*]; done), by repeat (first | exact Drawn0.refl _ | apply Drawn0.step)⟩
            · rw [if_neg c6] at H
              have c6b0 : decide (((rd_T44 l0 x3_1).f1) < 1) = false := decide_eq_false c6
              clear c6
              by_cases c7 : ((rd_T44 l0 x3_1).f2) < 0
              · rw [if_pos c7] at H
                have c7b0 : decide (((rd_T44 l0 x3_1).f2) < 0) = true := decide_eq_true c7
                clear c7
                obtain rfl := Option.some.inj H
                have p448 : 0 ≤ (x3_1 : Int) := of_decide_eq_true (by first | (with_reducible assumption) | assumption)
                have q448 : x3_1 < (l0.length : Int) := of_decide_eq_true (by first | (with_reducible assumption) | assumption)
                obtain ⟨ad448, e448, hx448_0, hx448_1, hx448_2⟩ := at_T44 HR0.out x3_1 p448 q448
                cases e448
                replace p448 := eq_true p448
                replace q448 := eq_true q448
                go_wp2_with (first | ((with_reducible refine gate_callee (f := 47) rfl ?_); refine goesL_ (some 15) rfl rfl Try.func47 (by kernel_rfl) rfl #[.string ((rd_T44 l0 x3_1).f0)] rfl (by (try simp only [List.map_toArray, List.map_cons, List.map_nil]); first | done | rfl | (simp only [List.length_drop, List.length_take]; rfl)) ?_; (with_reducible refine (quaysideref06_Name.calls ((rd_T44 l0 x3_1).f0) true _ A4.out).mono ?_); rintro e w' ⟨rfl, ⟨nd, rfl⟩⟩; refine ⟨_, rfl, ?_⟩; have p450 : 0 ≤ (x3_1 : Int) := of_decide_eq_true (by first | (with_reducible assumption) | assumption); have q450 : x3_1 < (l0.length : Int) := of_decide_eq_true (by first | (with_reducible assumption) | assumption); obtain ⟨ad450, e450, hx450_0, hx450_1, hx450_2⟩ := at_T44 HR0.out x3_1 p450 q450; obtain rfl : ad448 = ad450 := (by injection e450); replace p450 := eq_true p450; replace q450 := eq_true q450; have p451 : 0 ≤ (x3_1 : Int) := of_decide_eq_true (by first | (with_reducible assumption) | assumption); have q451 : x3_1 < (l0.length : Int) := of_decide_eq_true (by first | (with_reducible assumption) | assumption); obtain ⟨ad451, e451, hx451_0, hx451_1, hx451_2⟩ := at_T44 HR0.out x3_1 p451 q451; obtain rfl : ad448 = ad451 := (by injection e451); replace p451 := eq_true p451; replace q451 := eq_true q451))
                go_ret
                exact ⟨by first | rfl | (simp; done) | (simp [*]; done), by repeat (first | exact Drawn0.refl _ | apply Drawn0.step)⟩
              · rw [if_neg c7] at H
                have c7b0 : decide (((rd_T44 l0 x3_1).f2) < 0) = false := decide_eq_false c7
                clear c7
                have H' := Aside0.mk H
                clear H
                have p448 : 0 ≤ (x3_1 : Int) := of_decide_eq_true (by first | (with_reducible assumption) | assumption)
                have q448 : x3_1 < (l0.length : Int) := of_decide_eq_true (by first | (with_reducible assumption) | assumption)
                obtain ⟨ad448, e448, hx448_0, hx448_1, hx448_2⟩ := at_T44 HR0.out x3_1 p448 q448
                cases e448
                replace p448 := eq_true p448
                replace q448 := eq_true q448
                go_wp2_with (first | ((with_reducible refine gate_callee (f := 47) rfl ?_); refine goesL_ (some 15) rfl rfl Try.func47 (by kernel_rfl) rfl #[.string ((rd_T44 l0 x3_1).f0)] rfl (by (try simp only [List.map_toArray, List.map_cons, List.map_nil]); first | done | rfl | (simp only [List.length_drop, List.length_take]; rfl)) ?_; (with_reducible refine (quaysideref06_Name.calls ((rd_T44 l0 x3_1).f0) true _ A4.out).mono ?_); rintro e w' ⟨rfl, ⟨nd, rfl⟩⟩; refine ⟨_, rfl, ?_⟩; have p450 : 0 ≤ (x3_1 : Int) := of_decide_eq_true (by first | (with_reducible assumption) | assumption); have q450 : x3_1 < (l0.length : Int) := of_decide_eq_true (by first | (with_reducible assumption) | assumption); obtain ⟨ad450, e450, hx450_0, hx450_1, hx450_2⟩ := at_T44 HR0.out x3_1 p450 q450; obtain rfl : ad448 = ad450 := (by injection e450); replace p450 := eq_true p450; replace q450 := eq_true q450; have p451 : 0 ≤ (x3_1 : Int) := of_decide_eq_true (by first | (with_reducible assumption) | assumption); have q451 : x3_1 < (l0.length : Int) := of_decide_eq_true (by first | (with_reducible assumption) | assumption); obtain ⟨ad451, e451, hx451_0, hx451_1, hx451_2⟩ := at_T44 HR0.out x3_1 p451 q451; obtain rfl : ad448 = ad451 := (by injection e451); replace p451 := eq_true p451; replace q451 := eq_true q451))
                go_roundg k1
                case measure => have := HK1.out; omega
                case rel => exact ⟨(wrap64 (x3_1 + 1)), (by first | rfl | (simp; done) | (simp [*]; done)), H', ⟨by have := HK1.out; omega⟩, by repeat (first | exact Drawn0.refl _ | apply Drawn0.step)⟩
          · replace c5 := Bool.eq_false_iff.mpr c5
            subst c5
            have H1 : (some false) = some r := by rw [if_neg (show ¬ (false = true) by decide)] at H; exact H
            clear H
            have H := H1
            clear H1
            obtain rfl := Option.some.inj H
            have p448 : 0 ≤ (x3_1 : Int) := of_decide_eq_true (by first | (with_reducible assumption) | assumption)
            have q448 : x3_1 < (l0.length : Int) := of_decide_eq_true (by first | (with_reducible assumption) | assumption)
            obtain ⟨ad448, e448, hx448_0, hx448_1, hx448_2⟩ := at_T44 HR0.out x3_1 p448 q448
            cases e448
            replace p448 := eq_true p448
            replace q448 := eq_true q448
            go_wp2_with (first | ((with_reducible refine gate_callee (f := 47) rfl ?_); refine goesL_ (some 15) rfl rfl Try.func47 (by kernel_rfl) rfl #[.string ((rd_T44 l0 x3_1).f0)] rfl (by (try simp only [List.map_toArray, List.map_cons, List.map_nil]); first | done | rfl | (simp only [List.length_drop, List.length_take]; rfl)) ?_; (with_reducible refine (quaysideref06_Name.calls ((rd_T44 l0 x3_1).f0) false _ A4.out).mono ?_); rintro e w' ⟨rfl, ⟨nd, rfl⟩⟩; refine ⟨_, rfl, ?_⟩))
            go_ret
            exact ⟨by first | rfl | (simp; done) | (simp [*]; done), by repeat (first | exact Drawn0.refl _ | apply Drawn0.step)⟩
        · rw [if_neg c3] at H
          exact absurd H (by simp)
      · rw [if_neg c2] at H
        have c2b0 : decide (x3_1 < (l0.length : Int)) = false := decide_eq_false c2
        clear c2
        obtain rfl := Option.some.inj H
        go_wp2
        go_ret
        exact ⟨by first | rfl | (simp; done) | (simp [*]; done), by repeat (first | exact Drawn0.refl _ | apply Drawn0.step)⟩

end Go.Proofs.Ytofkhcgkahkagaa.PPromiseLines
/- The reference's sum of a list is its sum, where it is a number of 64 bits. -/
namespace Go.Proofs.Ytofkhcgkahkagaa
open Go.RowKit Go.Proofs.YtofkhcgkahkagaaW.PrintWords Go.Proofs.YtofkhcgkahkagaaW.PrintLast Go.Proofs.YtofkhcgkahkagaaW.PrintMore Go.Proofs.Ytofkhcgkahkagaa.PPromiseLines
set_option linter.unusedVariables false
set_option linter.unusedSimpArgs false

theorem toNat_ofInt64 (x : Int) : (BitVec.ofInt 64 x).toNat = (x % 18446744073709551616).toNat := by
  rw [BitVec.toNat_ofInt]
  rw [show (((2 ^ 64 : Nat) : Int)) = 18446744073709551616 from rfl]

theorem bits_and62 (a : Int) : Go.bits .and .i64 a 4611686018427387903 = a % 4611686018427387904 := by
  show IntKind.i64.wrap ((BitVec.ofInt 64 a &&& BitVec.ofInt 64 4611686018427387903).toNat : Int) = _
  rw [BitVec.toNat_and, toNat_ofInt64, toNat_ofInt64]
  rw [show ((4611686018427387903 : Int) % 18446744073709551616).toNat = 2 ^ 62 - 1 from rfl, Nat.and_two_pow_sub_one_eq_mod, IntKind.wrap_i64]
  omega

theorem bits_or62 (h lo : Int) (hh : -2 ≤ h ∧ h ≤ 1) (hl : 0 ≤ lo ∧ lo < 4611686018427387904) : Go.bits .or .i64 (wrap64 (h * 4611686018427387904)) lo = h * 4611686018427387904 + lo := by
  show IntKind.i64.wrap ((BitVec.ofInt 64 (wrap64 (h * 4611686018427387904)) ||| BitVec.ofInt 64 lo).toNat : Int) = _
  rw [BitVec.toNat_or, toNat_ofInt64, toNat_ofInt64]
  have h1 : (wrap64 (h * 4611686018427387904) % 18446744073709551616).toNat = 2 ^ 62 * (h % 4).toNat := by unfold wrap64; omega
  have h2 : (lo % 18446744073709551616).toNat < 2 ^ 62 := by omega
  rw [h1, ← Nat.two_pow_add_eq_or_of_lt h2, IntKind.wrap_i64]
  omega

theorem rsum_arith (hi lo n : Int) (h1 : 0 ≤ lo ∧ lo < 4611686018427387904) (h2 : -4611686018427387904 ≤ hi ∧ hi ≤ 4611686018427387904) (hn : -9223372036854775808 ≤ n ∧ n ≤ 9223372036854775807) :
    ∃ hi' lo', quaysideref01_plus.f hi lo (n / 4611686018427387904) (n % 4611686018427387904) = some (hi', lo') ∧ hi' * 4611686018427387904 + lo' = hi * 4611686018427387904 + lo + n ∧ 0 ≤ lo' ∧ lo' < 4611686018427387904 ∧ hi - 2 ≤ hi' ∧ hi' ≤ hi + 2 := by
  unfold quaysideref01_plus.f
  have e1 : wrap64 (lo - 4611686018427387904) = lo - 4611686018427387904 := by unfold wrap64; omega
  have e2 : wrap64 (lo - 4611686018427387904 + n % 4611686018427387904) = lo - 4611686018427387904 + n % 4611686018427387904 := by unfold wrap64; omega
  rw [e1, e2]
  split
  · refine ⟨_, _, rfl, ?_⟩
    have : wrap64 (wrap64 (hi + n / 4611686018427387904) + 1) = hi + n / 4611686018427387904 + 1 := by unfold wrap64; omega
    rw [this]
    omega
  · refine ⟨_, _, rfl, ?_⟩
    have : wrap64 (hi + n / 4611686018427387904) = hi + n / 4611686018427387904 := by unfold wrap64; omega
    have e3 : wrap64 (lo - 4611686018427387904 + n % 4611686018427387904 + 4611686018427387904) = lo + n % 4611686018427387904 := by unfold wrap64; omega
    rw [this, e3]
    omega

end Go.Proofs.Ytofkhcgkahkagaa
/- The reference's answer for a ledger: plain laws of its printed functions. -/
namespace Go.Proofs.Ytofkhcgkahkagaa
open Go.RowKit Go.Proofs.YtofkhcgkahkagaaW.PrintWords Go.Proofs.YtofkhcgkahkagaaW.PrintLast Go.Proofs.YtofkhcgkahkagaaW.PrintMore Go.Proofs.Ytofkhcgkahkagaa.PPromiseLines
set_option linter.unusedVariables false
set_option linter.unusedSimpArgs false

theorem str_eq {a b : ByteArray} : a.toList = b.toList ↔ a = b := by
  rw [Lib.toList_data, Lib.toList_data]
  exact ⟨fun h => WideShapes.bytes_inj h, fun h => by rw [h]⟩
theorem wrap_next {i n : Nat} (h : i < n) (hn : n ≤ 1000000) : wrap64 ((i : Int) + 1) = ((i + 1 : Nat) : Int) := by unfold wrap64; omega
theorem rd_S {l : List S100} {i : Nat} (h : i < l.length) : rd_T100 l (i : Int) = l[i] := by unfold rd_T100; rw [Int.toNat_natCast, List.getD_eq_getElem?_getD, List.getElem?_eq_getElem h]; rfl
theorem rd_H {l : List S107} {i : Nat} (h : i < l.length) : rd_T107 l (i : Int) = l[i] := by unfold rd_T107; rw [Int.toNat_natCast, List.getD_eq_getElem?_getD, List.getElem?_eq_getElem h]; rfl
theorem cmp_zero : ∀ a b : List UInt8, Lib.compareBytes a b = 0 ↔ a = b
  | [], [] => by simp [Lib.compareBytes]
  | [], _ :: _ => by simp [Lib.compareBytes]
  | _ :: _, [] => by simp [Lib.compareBytes]
  | a :: xs, b :: ys => by
    unfold Lib.compareBytes
    by_cases h1 : a < b
    · rw [if_pos h1]
      exact ⟨fun h => by omega, fun h => by cases h; exact absurd h1 (UInt8.lt_irrefl _)⟩
    · rw [if_neg h1]
      by_cases h2 : b < a
      · rw [if_pos h2]
        exact ⟨fun h => by omega, fun h => by cases h; exact absurd h2 (UInt8.lt_irrefl _)⟩
      · rw [if_neg h2, cmp_zero xs ys]
        have : a = b := by rw [UInt8.lt_iff_toNat_lt] at h1 h2; exact UInt8.toNat_inj.1 (by omega)
        rw [this]
        simp
theorem cmp_neg : ∀ a b : List UInt8, Lib.compareBytes a b < 0 ↔ Op.bytesLess a b = true
  | [], [] => by simp [Lib.compareBytes, Op.bytesLess]
  | [], _ :: _ => by simp [Lib.compareBytes, Op.bytesLess]
  | _ :: _, [] => by simp [Lib.compareBytes, Op.bytesLess]
  | a :: xs, b :: ys => by
    unfold Lib.compareBytes Op.bytesLess
    by_cases h1 : a < b
    · rw [if_pos h1]
      simp [h1]
    · rw [if_neg h1]
      by_cases h2 : b < a
      · rw [if_pos h2]
        have : a ≠ b := fun h => by rw [h] at h2; exact UInt8.lt_irrefl _ h2
        simp [h1, this]
      · rw [if_neg h2, cmp_neg xs ys]
        have : a = b := by rw [UInt8.lt_iff_toNat_lt] at h1 h2; exact UInt8.toNat_inj.1 (by omega)
        simp [this]

section
variable (l0 : List S100) (l1 : List S107) (l2 : List S111) (ops : Int)

theorem name6_f (s : ByteArray) : quaysideref06_Name.f s = some (nameB s) := name_f s

theorem ahead_f (s t : S100) : quaysideref07_ahead.f s.f0 s.f1 s.f2 s.f3 t.f0 t.f1 t.f2 t.f3 = some (decide (ordP (stP s) (stP t) < 0)) := by
  unfold quaysideref07_ahead.f ordP
  show _ = some (decide ((if Lib.compareBytes s.f0.data.toList t.f0.data.toList = 0 then Lib.compareBytes s.f1.data.toList t.f1.data.toList else Lib.compareBytes s.f0.data.toList t.f0.data.toList) < 0))
  rw [Lib.toList_data, Lib.toList_data, Lib.toList_data, Lib.toList_data]
  by_cases h1 : Op.bytesLess s.f0.data.toList t.f0.data.toList = true
  · rw [if_pos h1]
    have h2 := (cmp_neg _ _).2 h1
    rw [if_neg (by omega), decide_eq_true h2]
  · rw [if_neg h1]
    have h2 : ¬ Lib.compareBytes s.f0.data.toList t.f0.data.toList < 0 := fun h => h1 ((cmp_neg _ _).1 h)
    by_cases h3 : s.f0.data.toList = t.f0.data.toList
    · rw [if_pos h3, if_pos ((cmp_zero _ _).2 h3)]
      congr 1
      rw [Bool.eq_iff_iff, decide_eq_true_iff]
      exact (cmp_neg _ _).symm
    · rw [if_neg h3, if_neg (fun h => h3 ((cmp_zero _ _).1 h)), decide_eq_false h2]
end
end Go.Proofs.Ytofkhcgkahkagaa
/- The reference's Find, more, Free, full. -/
namespace Go.Proofs.Ytofkhcgkahkagaa
open Go.RowKit Go.Proofs.YtofkhcgkahkagaaW.PrintWords Go.Proofs.YtofkhcgkahkagaaW.PrintLast Go.Proofs.YtofkhcgkahkagaaW.PrintMore Go.Proofs.Ytofkhcgkahkagaa.PPromiseLines
set_option linter.unusedVariables false
set_option linter.unusedSimpArgs false

/-- What Find answers. -/
def findF (l0 : List S100) (p : Plc) : S100 := (l0.find? (fun s => decide (stP s = p))).getD ⟨p.1, p.2, 0, 0⟩
theorem index_loop2 (l0 : List S100) (l1 : List S107) (l2 : List S111) (ops : Int) (a b : ByteArray) (hn : l0.length ≤ 10000) : ∀ d k i : Nat, i + d = l0.length → d < k → ∃ r : Int, quaysideref07_index.l0 k a b (i : Int) l0 l1 l2 ops = some r ∧
    ((r = -1 ∧ (l0.drop i).find? (fun s => decide (stP s = (a, b))) = none) ∨ ∃ j : Nat, ∃ h : j < l0.length, r = j ∧ (l0.drop i).find? (fun s => decide (stP s = (a, b))) = some l0[j]) := by
  intro d
  induction d with
  | zero =>
    intro k i h1 h2
    obtain ⟨k, rfl⟩ : ∃ m, k = m + 1 := ⟨k - 1, by omega⟩
    rw [quaysideref07_index.l0, if_neg (by omega)]
    exact ⟨-1, rfl, .inl ⟨rfl, by rw [List.drop_eq_nil_of_le (by omega)]; rfl⟩⟩
  | succ d ih =>
    intro k i h1 h2
    obtain ⟨k, rfl⟩ : ∃ m, k = m + 1 := ⟨k - 1, by omega⟩
    have hlt : i < l0.length := by omega
    rw [quaysideref07_index.l0, if_pos (by omega), if_pos (by omega), rd_S hlt]
    obtain ⟨r, hr, hiff⟩ := ih k (i + 1) (by omega) (by omega)
    rw [List.drop_eq_getElem_cons hlt]
    rw [wrap_next hlt (by omega)]
    by_cases e : stP l0[i] = (a, b)
    · rw [if_pos (show (l0[i].f0).toList = a.toList from str_eq.2 (Prod.mk.inj e).1), if_pos (show (l0[i].f1).toList = b.toList from str_eq.2 (Prod.mk.inj e).2)]
      exact ⟨(i : Int), rfl, .inr ⟨i, hlt, rfl, by rw [List.find?_cons_of_pos (by simpa using e)]⟩⟩
    · rw [List.find?_cons_of_neg (by simpa using e)]
      by_cases e1 : (l0[i].f0).toList = a.toList
      · rw [if_pos e1, if_neg (show ¬ (l0[i].f1).toList = b.toList from fun e2 => e (Prod.ext (str_eq.1 e1) (str_eq.1 e2)))]
        exact ⟨r, hr, hiff⟩
      · rw [if_neg e1]
        exact ⟨r, hr, hiff⟩
theorem index_law2 (l0 : List S100) (l1 : List S107) (l2 : List S111) (ops : Int) (p : Plc) (hn : l0.length ≤ 10000) : ∃ r : Int, quaysideref07_index.f 10001 l0 l1 l2 ops p.1 p.2 = some r ∧
    ((r = -1 ∧ findF l0 p = ⟨p.1, p.2, 0, 0⟩) ∨ ∃ j : Nat, ∃ h : j < l0.length, r = j ∧ findF l0 p = l0[j]) := by
  obtain ⟨r, h1, h2⟩ := index_loop2 l0 l1 l2 ops p.1 p.2 hn l0.length 10001 0 (by omega) (by omega)
  refine ⟨r, h1, ?_⟩
  rw [List.drop_zero] at h2
  unfold findF
  rcases h2 with ⟨h, e⟩ | ⟨j, h, hr, e⟩
  · exact .inl ⟨h, by rw [e]; rfl⟩
  · exact .inr ⟨j, h, hr, by rw [e]; rfl⟩
/-- Four cells of a block are written. -/
def put4 (W : World) (g : Nat) (a b c d : Value) : World := (((W.setCell ⟨g, 0, none⟩ a).setCell ⟨g, 1, none⟩ b).setCell ⟨g, 2, none⟩ c).setCell ⟨g, 3, none⟩ d
theorem put4_blk {W : World} {g : Nat} {t : TypeId} {x y z u : Value} (h : W.heap[g]? = some (.cells #[x, y, z, u] t (0, 0))) (a b c d : Value) : (put4 W g a b c d).heap[g]? = some (.cells #[a, b, c, d] t (0, 0)) :=
  blk_put (blk_put (blk_put (blk_put h 0 a rfl) 1 b rfl) 2 c rfl) 3 d rfl
theorem put4_below {w W : World} {g : Nat} (h : Below w.heap.size w W) (hg : w.heap.size ≤ g) (a b c d : Value) : Below w.heap.size w (put4 W g a b c d) := below_set (below_set (below_set (below_set h hg) hg) hg) hg
theorem put4_far {W : World} {g j : Nat} {t : TypeId} {cs : Array Value} (h : W.heap[j]? = some (.cells cs t (0, 0))) (hj : j ≠ g) (a b c d : Value) : (put4 W g a b c d).heap[j]? = some (.cells cs t (0, 0)) := blk_far (blk_far (blk_far (blk_far h hj _) hj _) hj _) hj _
/-- A stock as a value. -/
def stV (s : S100) : Value := .agg #[.string s.f0, .string s.f1, .int .i64 s.f2, .int .i64 s.f3]

section
variable (l0 : List S100) (l1 : List S107) (l2 : List S111) (A0 : Option Addr) (c0 : Nat) (A1 : Option Addr) (c1 : Nat) (A2 : Option Addr) (c2 : Nat) (ops : Int) (w : World)
set_option maxRecDepth 100000 in
theorem find_calls (sku loc : ByteArray) (hL : LedgerAt l0 l1 l2 A0 c0 A1 c1 A2 c2 w) (hn : l0.length ≤ 10000) :
    Calls Try.prog 92 #[.agg #[.slice A0 l0.length c0, .slice A1 l1.length c1, .slice A2 l2.length c2, .int .i64 ops], .string sku, .string loc] w fun e w' => e = .returned (stV (findF l0 (sku, loc))) ∧ Below w.heap.size w w' := by
  have hu := Try.underlying41
  have hus := Try.underlying100
  obtain ⟨r, hr, hcase⟩ := index_law2 l0 l1 l2 ops (sku, loc) hn
  have hbox := fun o => (Below.refl w.heap.size w).alloc (Nat.le_refl _) o
  obtain ⟨W0, hW0⟩ : ∃ W0, (w.alloc (.cells #[.slice A0 l0.length c0, .slice A1 l1.length c1, .slice A2 l2.length c2, .int .i64 ops] 41)).alloc (.cells #[.string ⟨#[]⟩, .string ⟨#[]⟩, .int .i64 0, .int .i64 0] 100) = W0 := ⟨_, rfl⟩
  have hL0 : CkL w A0 l0.length c0 A1 l1.length c1 A2 l2.length c2 ops W0 := by
    rw [← hW0]
    exact ⟨(hbox _).alloc (by simp) _, (heap_alloc_old _ _ (by simp)).trans (heap_alloc_new w _)⟩
  have hB : W0.heap[w.heap.size + 1]? = some (.cells #[.string ⟨#[]⟩, .string ⟨#[]⟩, .int .i64 0, .int .i64 0] 100 (0, 0)) := by
    rw [← hW0]
    have := heap_alloc_new (w.alloc (.cells #[.slice A0 l0.length c0, .slice A1 l1.length c1, .slice A2 l2.length c2, .int .i64 ops] 41)) (.cells #[.string ⟨#[]⟩, .string ⟨#[]⟩, .int .i64 0, .int .i64 0] 100)
    rwa [World.size_alloc] at this
  have hd0 : W0.cell? ⟨w.heap.size, 0, none⟩ = some (.slice A0 l0.length c0) := (blk_cell hL0.led 0).trans rfl
  have hd1 : W0.cell? ⟨w.heap.size, 1, none⟩ = some (.slice A1 l1.length c1) := (blk_cell hL0.led 1).trans rfl
  have hd2 : W0.cell? ⟨w.heap.size, 2, none⟩ = some (.slice A2 l2.length c2) := (blk_cell hL0.led 2).trans rfl
  have hd3 : W0.cell? ⟨w.heap.size, 3, none⟩ = some (.int .i64 ops) := (blk_cell hL0.led 3).trans rfl
  have hLW := hL.below hL0.low
  have hcall := quaysideref07_index.calls 10001 A0 c0 l0 A1 c1 l1 A2 c2 l2 ops sku loc r W0 hLW.r0 hLW.h0 hLW.r1 hLW.h1 hLW.r2 hLW.h2 hr
  clear hbox hr hLW
  go_enter Try.func92, Try.ntmps92
  go_wp2_with fail
  refine hcall.mono ?_
  clear hcall hW0 hd0 hd1 hd2 hd3
  rintro e W1 ⟨rfl, hb1⟩
  have hLw := hL0.below hb1
  have hB1 : W1.heap[w.heap.size + 1]? = some (.cells #[.string ⟨#[]⟩, .string ⟨#[]⟩, .int .i64 0, .int .i64 0] 100 (0, 0)) := (hb1.block _ (blk_lt hB)).trans hB
  have hd0 : W1.cell? ⟨w.heap.size, 0, none⟩ = some (.slice A0 l0.length c0) := (blk_cell hLw.led 0).trans rfl
  have he0 : W1.cell? ⟨w.heap.size + 1, 0, none⟩ = some (.string ⟨#[]⟩) := (blk_cell hB1 0).trans rfl
  have he1 : W1.cell? ⟨w.heap.size + 1, 1, none⟩ = some (.string ⟨#[]⟩) := (blk_cell hB1 1).trans rfl
  have he2 : W1.cell? ⟨w.heap.size + 1, 2, none⟩ = some (.int .i64 0) := (blk_cell hB1 2).trans rfl
  have he3 : W1.cell? ⟨w.heap.size + 1, 3, none⟩ = some (.int .i64 0) := (blk_cell hB1 3).trans rfl
  have hz0 := blk_frozen hB1 0
  have hz1 := blk_frozen hB1 1
  have hz2 := blk_frozen hB1 2
  have hz3 := blk_frozen hB1 3
  have hC := Kd.C_below hL.r0 hLw.low
  clear hb1 hL0 hB
  rcases hcase with ⟨rfl, hf⟩ | ⟨j, hj, rfl, hf⟩
  · have Hf := Lib.hid hf
    clear hf
    go_wp2
    refine bodyPost_ret (results_cell_row rfl _ _ (w.heap.size + 1) 100 #[.string sku, .string loc, .int .i64 0, .int .i64 0] (0, 0) _ rfl (put4_blk hB1 _ _ _ _) hus rfl (by kernel_rfl)) rfl ?_
    exact ⟨by rw [Hf.out]; rfl, put4_below hLw.low (by omega) _ _ _ _⟩
  · have h1 : (0 : Int) ≤ (j : Int) := Int.natCast_nonneg _
    have h2 : (j : Int) < (l0.length : Int) := by omega
    have hdj : decide ((0 : Int) ≤ (j : Int)) = true := decide_eq_true h1
    obtain ⟨ad, rfl, hx0, hx1, hx2, hx3⟩ := at_T100 hC j h1 h2
    rw [Int.toNat_natCast, rd_S hj] at hx0 hx1 hx2 hx3
    obtain ⟨s, hs⟩ : ∃ s, l0[j] = s := ⟨_, rfl⟩
    rw [hs] at hx0 hx1 hx2 hx3 hf
    have Hf := Lib.hid hf
    clear hf hs
    go_wp2
    refine bodyPost_ret (results_cell_row rfl _ _ (w.heap.size + 1) 100 #[.string s.f0, .string s.f1, .int .i64 s.f2, .int .i64 s.f3] (0, 0) _ rfl (put4_blk hB1 _ _ _ _) hus rfl (by kernel_rfl)) rfl ?_
    exact ⟨by rw [Hf.out]; rfl, put4_below hLw.low (by omega) _ _ _ _⟩
end
end Go.Proofs.Ytofkhcgkahkagaa
/- The reference's Add, Sub, more, Free, full. -/
namespace Go.Proofs.Ytofkhcgkahkagaa
open Go.RowKit Go.Proofs.YtofkhcgkahkagaaW.PrintWords Go.Proofs.YtofkhcgkahkagaaW.PrintLast Go.Proofs.YtofkhcgkahkagaaW.PrintMore Go.Proofs.Ytofkhcgkahkagaa.PPromiseLines
set_option linter.unusedVariables false
set_option linter.unusedSimpArgs false

theorem number_law (hi lo n : Int) (h1 : 0 ≤ lo ∧ lo < 4611686018427387904) (h : hi * 4611686018427387904 + lo = n) : quaysideref01_number.f hi lo = some (sumOf [n]) := by
  unfold quaysideref01_number.f sumOf
  have e : ([n] : List Int).sum = n := by simp
  rw [e]
  by_cases c1 : hi < -2
  · rw [if_pos c1, if_neg (by omega)]
  · rw [if_neg c1]
    by_cases c2 : hi > 1
    · rw [if_pos c2, if_neg (by omega)]
    · rw [if_neg c2, bits_or62 hi lo (by omega) h1, h, if_pos (by omega)]
theorem of_law (a : Int) : quaysideref01_of.f a = some (a / 4611686018427387904, a % 4611686018427387904) := by unfold quaysideref01_of.f; rw [bits_and62]

set_option maxRecDepth 100000 in
theorem radd_calls (a b : Int) (ha : i64B a) (hb : i64B b) (w : World) :
    Calls Try.prog 106 #[.int .i64 a, .int .i64 b] w fun e w' => e = .returned (.tuple #[.int .i64 (sumOf [a + b]).1, .int .i64 (sumOf [a + b]).2]) ∧ Below w.heap.size w w' := by
  obtain ⟨h', lo', hp, hs, g1, g2, _, _⟩ := rsum_arith (a / 4611686018427387904) (a % 4611686018427387904) b (by omega) (by obtain ⟨h1, h2⟩ := ha; omega) hb
  have hn := number_law h' lo' (a + b) ⟨g1, g2⟩ (by omega)
  obtain ⟨⟨r1, r2⟩, hr⟩ : ∃ r, sumOf [a + b] = r := ⟨_, rfl⟩
  rw [hr] at hn ⊢
  dsimp only
  clear hr
  go_enter Try.func106, Try.ntmps106
  go_wp2_with fail
  refine (quaysideref01_of.calls a _ _ _ (of_law a)).mono ?_
  rintro e w1 ⟨rfl, hb1⟩
  go_wp2_with fail
  refine (quaysideref01_of.calls b _ _ _ (of_law b)).mono ?_
  rintro e w2 ⟨rfl, hb2⟩
  go_wp2_with fail
  refine (quaysideref01_plus.calls _ _ _ _ _ _ _ hp).mono ?_
  rintro e w3 ⟨rfl, hb3⟩
  go_wp2_with fail
  refine (quaysideref01_number.calls _ _ _ _ _ hn).mono ?_
  rintro e w4 ⟨rfl, hb4⟩
  go_wp2
  go_ret2
  exact ⟨rfl, below_w (below_w (below_w hb1 hb2) hb3) hb4⟩

/-- What less answers. -/
def lessF (x : Int × Int) : Int × Int := if x.2 = 0 then (wrap64 (-x.1), 0) else (wrap64 (wrap64 (-x.1) - 1), wrap64 (4611686018427387904 - x.2))
theorem put2_blk {W : World} {g : Nat} {t : TypeId} {x y : Value} (h : W.heap[g]? = some (.cells #[x, y] t (0, 0))) (a b : Value) : ((W.setCell ⟨g, 0, none⟩ a).setCell ⟨g, 1, none⟩ b).heap[g]? = some (.cells #[a, b] t (0, 0)) :=
  blk_put (blk_put h 0 a rfl) 1 b rfl
theorem two_boxes {w : World} {a b : Array Value} {s t : TypeId} : Below w.heap.size w ((w.alloc (.cells a s (0, 0))).alloc (.cells b t (0, 0))) ∧ ((w.alloc (.cells a s (0, 0))).alloc (.cells b t (0, 0))).heap[w.heap.size]? = some (.cells a s (0, 0)) ∧ ((w.alloc (.cells a s (0, 0))).alloc (.cells b t (0, 0))).heap[w.heap.size + 1]? = some (.cells b t (0, 0)) := by
  refine ⟨((Below.refl w.heap.size w).alloc (Nat.le_refl _) _).alloc (by simp) _, (heap_alloc_old _ _ (by simp)).trans (heap_alloc_new w _), ?_⟩
  have := heap_alloc_new (w.alloc (.cells a s (0, 0))) (.cells b t (0, 0))
  rwa [World.size_alloc] at this
set_option maxRecDepth 100000 in
theorem less_calls (x y : Int) (w : World) :
    Calls Try.prog 126 #[.agg #[.int .i64 x, .int .i64 y]] w fun e w' => e = .returned (.agg #[.int .i64 (lessF (x, y)).1, .int .i64 (lessF (x, y)).2]) ∧ Below w.heap.size w w' := by
  have hu := Try.underlying141
  obtain ⟨W0, hW0⟩ : ∃ W0, (w.alloc (.cells #[.int .i64 x, .int .i64 y] 141)).alloc (.cells #[.int .i64 0, .int .i64 0] 141) = W0 := ⟨_, rfl⟩
  obtain ⟨hB, h0, h1⟩ : Below w.heap.size w W0 ∧ W0.heap[w.heap.size]? = some (.cells #[.int .i64 x, .int .i64 y] 141 (0, 0)) ∧ W0.heap[w.heap.size + 1]? = some (.cells #[.int .i64 0, .int .i64 0] 141 (0, 0)) := by rw [← hW0]; exact two_boxes
  have hd0 : W0.cell? ⟨w.heap.size, 0, none⟩ = some (.int .i64 x) := (blk_cell h0 0).trans rfl
  have hd1 : W0.cell? ⟨w.heap.size, 1, none⟩ = some (.int .i64 y) := (blk_cell h0 1).trans rfl
  have he0 : W0.cell? ⟨w.heap.size + 1, 0, none⟩ = some (.int .i64 0) := (blk_cell h1 0).trans rfl
  have he1 : W0.cell? ⟨w.heap.size + 1, 1, none⟩ = some (.int .i64 0) := (blk_cell h1 1).trans rfl
  have hz0 := blk_frozen h1 0
  have hz1 := blk_frozen h1 1
  go_enter Try.func126, Try.ntmps126
  by_cases c : y = 0
  · have hcb : (y == 0) = true := by rw [c]; rfl
    have hl := Lib.hid (show lessF (x, y) = (wrap64 (-x), 0) from if_pos c)
    clear c
    go_wp2
    refine bodyPost_ret (results_cell_row rfl _ _ (w.heap.size + 1) 141 #[.int .i64 (wrap64 (-x)), .int .i64 0] (0, 0) _ rfl (put2_blk h1 _ _) hu rfl (by kernel_rfl)) rfl ?_
    exact ⟨by rw [hl.out], below_set (below_set hB (by omega)) (by omega)⟩
  · have hcb : (y == 0) = false := by simpa using c
    have hl := Lib.hid (show lessF (x, y) = (wrap64 (wrap64 (-x) - 1), wrap64 (4611686018427387904 - y)) from if_neg c)
    clear c
    go_wp2
    refine bodyPost_ret (results_cell_row rfl _ _ (w.heap.size + 1) 141 #[.int .i64 (wrap64 (wrap64 (-x) - 1)), .int .i64 (wrap64 (4611686018427387904 - y))] (0, 0) _ rfl (put2_blk h1 _ _) hu rfl (by kernel_rfl)) rfl ?_
    exact ⟨by rw [hl.out], below_set (below_set hB (by omega)) (by omega)⟩
theorem less_law (b : Int) (hb : i64B b) : ∃ h lo, lessF (b / 4611686018427387904, b % 4611686018427387904) = (h, lo) ∧ h * 4611686018427387904 + lo = -b ∧ 0 ≤ lo ∧ lo < 4611686018427387904 ∧ -2 ≤ h ∧ h ≤ 2 := by
  obtain ⟨h1, h2⟩ := hb
  unfold lessF
  by_cases c : b % 4611686018427387904 = 0
  · rw [if_pos c]
    refine ⟨_, _, rfl, ?_⟩
    rw [show wrap64 (-(b / 4611686018427387904)) = -(b / 4611686018427387904) from by unfold wrap64; omega]
    omega
  · rw [if_neg c]
    refine ⟨_, _, rfl, ?_⟩
    rw [show wrap64 (-(b / 4611686018427387904)) = -(b / 4611686018427387904) from by unfold wrap64; omega,
      show wrap64 (-(b / 4611686018427387904) - 1) = -(b / 4611686018427387904) - 1 from by unfold wrap64; omega,
      show wrap64 (4611686018427387904 - b % 4611686018427387904) = 4611686018427387904 - b % 4611686018427387904 from by unfold wrap64; omega]
    omega
/-- plus of a split number that is small and one that may be a negated one. -/
theorem plus_law (h1 l1 h2 l2 : Int) (g1 : 0 ≤ l1 ∧ l1 < 4611686018427387904) (g2 : 0 ≤ l2 ∧ l2 < 4611686018427387904) (b1 : -4611686018427387904 ≤ h1 ∧ h1 ≤ 4611686018427387904) (b2 : -4 ≤ h2 ∧ h2 ≤ 4) :
    ∃ h lo, quaysideref01_plus.f h1 l1 h2 l2 = some (h, lo) ∧ h * 4611686018427387904 + lo = h1 * 4611686018427387904 + l1 + (h2 * 4611686018427387904 + l2) ∧ 0 ≤ lo ∧ lo < 4611686018427387904 := by
  unfold quaysideref01_plus.f
  have e1 : wrap64 (l1 - 4611686018427387904) = l1 - 4611686018427387904 := by unfold wrap64; omega
  have e2 : wrap64 (l1 - 4611686018427387904 + l2) = l1 - 4611686018427387904 + l2 := by unfold wrap64; omega
  rw [e1, e2]
  split
  · refine ⟨_, _, rfl, ?_⟩
    have : wrap64 (wrap64 (h1 + h2) + 1) = h1 + h2 + 1 := by unfold wrap64; omega
    rw [this]
    omega
  · refine ⟨_, _, rfl, ?_⟩
    have : wrap64 (h1 + h2) = h1 + h2 := by unfold wrap64; omega
    have e3 : wrap64 (l1 - 4611686018427387904 + l2 + 4611686018427387904) = l1 + l2 := by unfold wrap64; omega
    rw [this, e3]
    omega

set_option maxRecDepth 100000 in
theorem rsub_calls (a b : Int) (ha : i64B a) (hb : i64B b) (w : World) :
    Calls Try.prog 108 #[.int .i64 a, .int .i64 b] w fun e w' => e = .returned (.tuple #[.int .i64 (sumOf [a - b]).1, .int .i64 (sumOf [a - b]).2]) ∧ Below w.heap.size w w' := by
  obtain ⟨hl, ll, hle, hls, g1, g2, g3, g4⟩ := less_law b hb
  obtain ⟨h', lo', hp, hs, g5, g6⟩ := plus_law (a / 4611686018427387904) (a % 4611686018427387904) hl ll (by omega) ⟨g1, g2⟩ (by obtain ⟨h1, h2⟩ := ha; omega) (by omega)
  have hn := number_law h' lo' (a - b) ⟨g5, g6⟩ (by omega)
  obtain ⟨⟨r1, r2⟩, hr⟩ : ∃ r, sumOf [a - b] = r := ⟨_, rfl⟩
  rw [hr] at hn ⊢
  dsimp only
  clear hr
  go_enter Try.func108, Try.ntmps108
  go_wp2_with fail
  refine (quaysideref01_of.calls a _ _ _ (of_law a)).mono ?_
  rintro e w1 ⟨rfl, hb1⟩
  go_wp2_with fail
  refine (quaysideref01_of.calls b _ _ _ (of_law b)).mono ?_
  rintro e w2 ⟨rfl, hb2⟩
  go_wp2_with fail
  have hc := less_calls (b / 4611686018427387904) (b % 4611686018427387904) w2
  rw [hle] at hc
  refine hc.mono ?_
  rintro e w3 ⟨rfl, hb3⟩
  go_wp2_with fail
  refine (quaysideref01_plus.calls _ _ _ _ _ _ _ hp).mono ?_
  rintro e w4 ⟨rfl, hb4⟩
  go_wp2_with fail
  refine (quaysideref01_number.calls _ _ _ _ _ hn).mono ?_
  rintro e w5 ⟨rfl, hb5⟩
  go_wp2
  go_ret2
  exact ⟨rfl, below_w (below_w (below_w (below_w hb1 hb2) hb3) hb4) hb5⟩
theorem field_st (s : S100) (V : World) : (Instr.field 100 (.agg #[.string s.f0, .string s.f1, .int .i64 s.f2, .int .i64 s.f3]) 2).run Try.prog V = .ok (.int .i64 s.f2) V := by kernel_rfl

section
variable (l0 : List S100) (l1 : List S107) (l2 : List S111) (A0 : Option Addr) (c0 : Nat) (A1 : Option Addr) (c1 : Nat) (A2 : Option Addr) (c2 : Nat) (ops : Int) (w : World)
set_option maxRecDepth 100000 in
theorem more_calls (sku loc : ByteArray) (n : Int) (hn : i64B n) (hL : LedgerAt l0 l1 l2 A0 c0 A1 c1 A2 c2 w) (hl : l0.length ≤ 10000) (hg : i64B (findF l0 (sku, loc)).f2) :
    Calls Try.prog 86 #[.agg #[.slice A0 l0.length c0, .slice A1 l1.length c1, .slice A2 l2.length c2, .int .i64 ops], .string sku, .string loc, .int .i64 n] w fun e w' => e = .returned (.tuple #[.int .i64 (sumOf [(findF l0 (sku, loc)).f2 + n]).1, .int .i64 (sumOf [(findF l0 (sku, loc)).f2 + n]).2]) ∧ Below w.heap.size w w' := by
  have hu := Try.underlying41
  have hus := Try.underlying100
  have hbox := fun o => (Below.refl w.heap.size w).alloc (Nat.le_refl _) o
  obtain ⟨W0, hW0⟩ : ∃ W0, w.alloc (.cells #[.slice A0 l0.length c0, .slice A1 l1.length c1, .slice A2 l2.length c2, .int .i64 ops] 41) = W0 := ⟨_, rfl⟩
  have hL0 : CkL w A0 l0.length c0 A1 l1.length c1 A2 l2.length c2 ops W0 := by rw [← hW0]; exact ⟨hbox _, heap_alloc_new w _⟩
  have hd0 : W0.cell? ⟨w.heap.size, 0, none⟩ = some (.slice A0 l0.length c0) := (blk_cell hL0.led 0).trans rfl
  have hd1 : W0.cell? ⟨w.heap.size, 1, none⟩ = some (.slice A1 l1.length c1) := (blk_cell hL0.led 1).trans rfl
  have hd2 : W0.cell? ⟨w.heap.size, 2, none⟩ = some (.slice A2 l2.length c2) := (blk_cell hL0.led 2).trans rfl
  have hd3 : W0.cell? ⟨w.heap.size, 3, none⟩ = some (.int .i64 ops) := (blk_cell hL0.led 3).trans rfl
  have hcall := find_calls l0 l1 l2 A0 c0 A1 c1 A2 c2 ops W0 sku loc (hL.below hL0.low) hl
  obtain ⟨s, hs⟩ : ∃ s, findF l0 (sku, loc) = s := ⟨_, rfl⟩
  rw [hs] at hcall hg ⊢
  unfold stV at hcall
  have hadd := fun V => radd_calls s.f2 n hg hn V
  obtain ⟨⟨r1, r2⟩, hr⟩ : ∃ r, sumOf [s.f2 + n] = r := ⟨_, rfl⟩
  rw [hr] at hadd ⊢
  dsimp only at *
  clear hbox hr hs
  go_enter Try.func86, Try.ntmps86
  go_wp2_with fail
  refine hcall.mono ?_
  clear hcall hW0 hd0 hd1 hd2 hd3
  rintro e W1 ⟨rfl, hb1⟩
  have hLw := hL0.below hb1
  have hfd := field_st s W1
  go_wp2_with fail
  refine (hadd _).mono ?_
  rintro e W2 ⟨rfl, hb2⟩
  go_wp2
  go_ret2
  exact ⟨rfl, below_w hLw.low hb2⟩
set_option maxRecDepth 100000 in
theorem full_calls (hl : l0.length ≤ 4096 ∧ l1.length ≤ 4096 ∧ l2.length ≤ 4096) :
    Calls Try.prog 71 #[.agg #[.slice A0 l0.length c0, .slice A1 l1.length c1, .slice A2 l2.length c2, .int .i64 ops]] w fun e w' => e = .returned (.bool false) ∧ Below w.heap.size w w' := by
  have hu := Try.underlying41
  have hbox := fun o => (Below.refl w.heap.size w).alloc (Nat.le_refl _) o
  obtain ⟨W0, hW0⟩ : ∃ W0, w.alloc (.cells #[.slice A0 l0.length c0, .slice A1 l1.length c1, .slice A2 l2.length c2, .int .i64 ops] 41) = W0 := ⟨_, rfl⟩
  have hL0 : CkL w A0 l0.length c0 A1 l1.length c1 A2 l2.length c2 ops W0 := by rw [← hW0]; exact ⟨hbox _, heap_alloc_new w _⟩
  have hd0 : W0.cell? ⟨w.heap.size, 0, none⟩ = some (.slice A0 l0.length c0) := (blk_cell hL0.led 0).trans rfl
  have hd1 : W0.cell? ⟨w.heap.size, 1, none⟩ = some (.slice A1 l1.length c1) := (blk_cell hL0.led 1).trans rfl
  have hd2 : W0.cell? ⟨w.heap.size, 2, none⟩ = some (.slice A2 l2.length c2) := (blk_cell hL0.led 2).trans rfl
  have e0 : decide ((4096 : Int) < (l0.length : Int)) = false := decide_eq_false (by omega)
  have e1 : decide ((4096 : Int) < (l1.length : Int)) = false := decide_eq_false (by omega)
  have e2 : decide ((4096 : Int) < (l2.length : Int)) = false := decide_eq_false (by omega)
  clear hbox hl
  go_enter Try.func71, Try.ntmps71
  go_wp2
  go_ret
  exact ⟨rfl, hL0.low⟩
set_option maxRecDepth 100000 in
theorem rFree_calls (sku loc : ByteArray) (hL : LedgerAt l0 l1 l2 A0 c0 A1 c1 A2 c2 w) (hl : l0.length ≤ 10000) (hg : i64B (findF l0 (sku, loc)).f2 ∧ i64B (findF l0 (sku, loc)).f3) :
    Calls Try.prog 88 #[.agg #[.slice A0 l0.length c0, .slice A1 l1.length c1, .slice A2 l2.length c2, .int .i64 ops], .string sku, .string loc] w fun e w' => e = .returned (.int .i64 (sumOf [(findF l0 (sku, loc)).f2 - (findF l0 (sku, loc)).f3]).1) ∧ Below w.heap.size w w' := by
  have hu := Try.underlying41
  have hus := Try.underlying100
  have hbox := fun o => (Below.refl w.heap.size w).alloc (Nat.le_refl _) o
  obtain ⟨W0, hW0⟩ : ∃ W0, w.alloc (.cells #[.slice A0 l0.length c0, .slice A1 l1.length c1, .slice A2 l2.length c2, .int .i64 ops] 41) = W0 := ⟨_, rfl⟩
  have hL0 : CkL w A0 l0.length c0 A1 l1.length c1 A2 l2.length c2 ops W0 := by rw [← hW0]; exact ⟨hbox _, heap_alloc_new w _⟩
  have hd0 : W0.cell? ⟨w.heap.size, 0, none⟩ = some (.slice A0 l0.length c0) := (blk_cell hL0.led 0).trans rfl
  have hd1 : W0.cell? ⟨w.heap.size, 1, none⟩ = some (.slice A1 l1.length c1) := (blk_cell hL0.led 1).trans rfl
  have hd2 : W0.cell? ⟨w.heap.size, 2, none⟩ = some (.slice A2 l2.length c2) := (blk_cell hL0.led 2).trans rfl
  have hd3 : W0.cell? ⟨w.heap.size, 3, none⟩ = some (.int .i64 ops) := (blk_cell hL0.led 3).trans rfl
  have hcall := find_calls l0 l1 l2 A0 c0 A1 c1 A2 c2 ops W0 sku loc (hL.below hL0.low) hl
  obtain ⟨s, hs⟩ : ∃ s, findF l0 (sku, loc) = s := ⟨_, rfl⟩
  rw [hs] at hcall hg ⊢
  unfold stV at hcall
  have hsub := fun V => rsub_calls s.f2 s.f3 hg.1 hg.2 V
  obtain ⟨⟨r1, r2⟩, hr⟩ : ∃ r, sumOf [s.f2 - s.f3] = r := ⟨_, rfl⟩
  rw [hr] at hsub ⊢
  dsimp only at *
  clear hbox hr hs
  go_enter Try.func88, Try.ntmps88
  go_wp2_with fail
  refine hcall.mono ?_
  clear hcall hW0 hd0 hd1 hd2 hd3
  rintro e W1 ⟨rfl, hb1⟩
  have hLw := hL0.below hb1
  go_wp2_with fail
  refine (hsub _).mono ?_
  rintro e W2 ⟨rfl, hb2⟩
  go_wp2
  go_ret
  exact ⟨rfl, below_w (hLw.low.alloc hLw.low.size _) hb2⟩
end
end Go.Proofs.Ytofkhcgkahkagaa
