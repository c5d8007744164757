/- promise.Earliest, over whatever answers for ledger.Check. -/
import Derived.Test.YtofkhcgkahkagaaGreatPApi
namespace Go.Proofs.YtofkhcgkahkagaaGreat
open Go.RowKit Go.Shelf Go.Proofs.YtofkhcgkahkagaaGreatW.PrintWords Go.Proofs.YtofkhcgkahkagaaGreatW.PrintLast Go.Proofs.YtofkhcgkahkagaaGreatW.PrintMore Go.Proofs.YtofkhcgkahkagaaGreat.PPromiseShort
set_option linter.unusedVariables false
set_option linter.unusedSimpArgs false

/-- How far back enough are free. -/
def backN (s : List S111) (q : Int) : Nat → Nat
  | 0 => 0
  | k + 1 => if q ≤ (s.getD k z111).f1 then backN s q k else k + 1
theorem backN_le (s : List S111) (q : Int) : ∀ k, backN s q k ≤ k
  | 0 => Nat.le_refl _
  | k + 1 => by
    unfold backN
    split
    · exact Nat.le_succ_of_le (backN_le s q k)
    · exact Nat.le_refl _
def earlyF (s : List S111) (q : Int) : Int × Int := if backN s q s.length = s.length then (0, 3) else ((s.getD (backN s q s.length) z111).f0, 0)

/-- What promise.Earliest answers. -/
def earlyA (chk : List S165 → List S172 → List S176 → Int → Bool) (l0 : List S165) (l1 : List S172) (l2 : List S176) (ops : Int) (l3 : List S103) (sku : ByteArray) (q : Int) : Int × Int :=
  if q < 0 then (0, 1) else if (lineA chk l0 l1 l2 ops l3 sku).2 ≠ 0 then (0, (lineA chk l0 l1 l2 ops l3 sku).2) else earlyF (lineA chk l0 l1 l2 ops l3 sku).1 q

set_option maxRecDepth 100000 in
theorem early_api (chk : List S165 → List S172 → List S176 → Int → Bool) (hchk : CheckLaw chk) (l0 : List S165) (l1 : List S172) (l2 : List S176) (A0 : Option Addr) (c0 : Nat) (A1 : Option Addr) (c1 : Nat) (A2 : Option Addr) (c2 : Nat) (ops : Int) (A3 : Option Addr) (c3 : Nat) (l3 : List S103) (sku : ByteArray) (q : Int) (w : World)
    (hL : LedgerAt l0 l1 l2 A0 c0 A1 c1 A2 c2 w) (hf : FewL l0 l1 l2) (hC3 : Kd.C k103 w A3 l3.length l3) (hc3 : l3.length ≤ c3) (hl3 : l3.length ≤ 20) (h64 : Ch64 (toldF l0 l1 l3 [] sku)) :
    Calls Tryz.prog 38 #[.agg #[.slice A0 l0.length c0, .slice A1 l1.length c1, .slice A2 l2.length c2, .int .i64 ops], .slice A3 l3.length c3, .string sku, .int .i64 q] w fun e w' =>
      e = .returned (.tuple #[.int .i64 (earlyA chk l0 l1 l2 ops l3 sku q).1, .int .i64 (earlyA chk l0 l1 l2 ops l3 sku q).2]) ∧ Below w.heap.size w w' := by
  have hu := Tryz.underlying55
  have hus := Tryz.underlying111
  have hbox := fun o => (Below.refl w.heap.size w).alloc (Nat.le_refl _) o
  go_enter Tryz.func38, Tryz.ntmps38
  by_cases hq : q < 0
  · have hqb : decide (q < 0) = true := decide_eq_true hq
    have he : earlyA chk l0 l1 l2 ops l3 sku q = (0, 1) := by unfold earlyA; rw [if_pos hq]
    have He := Lib.hid he
    clear hq he
    go_wp2
    go_ret2
    exact ⟨by rw [He.out]; rfl, hbox _⟩
  · have hqb : decide (q < 0) = false := decide_eq_false hq
    have hline := fun w' (hb : Below w.heap.size w w') => line_api chk hchk l0 l1 l2 A0 c0 A1 c1 A2 c2 ops A3 c3 l3 sku w' (hL.below hb) hf (Kd.C_below hC3 hb) hc3 hl3 h64
    obtain ⟨S, hS⟩ : ∃ S, lineA chk l0 l1 l2 ops l3 sku = S := ⟨_, rfl⟩
    have he : earlyA chk l0 l1 l2 ops l3 sku q = if S.2 ≠ 0 then (0, S.2) else earlyF S.1 q := by unfold earlyA; rw [if_neg hq, hS]
    rw [hS] at hline
    have He := Lib.hid he
    clear hS hq he
    go_wp2_with fail
    refine (hline _ (hbox _)).mono ?_
    clear hline
    rintro e w2 ⟨Av, cv, rfl, hR, hb2⟩
    have hB2 := (hbox (.cells #[.slice A0 l0.length c0, .slice A1 l1.length c1, .slice A2 l2.length c2, .int .i64 ops] 55)).trans (hb2.mono (by simp))
    obtain ⟨s, er⟩ := S
    dsimp only at *
    by_cases h0 : er = 0
    · have h0b : (er != 0) = false := by rw [h0]; rfl
      have he2 : earlyA chk l0 l1 l2 ops l3 sku q = earlyF s q := by rw [He.out, if_neg (by simpa using h0)]
      have He2 := Lib.hid he2
      have hrd := Kd.R_reads' hR
      have hmax := hrd.2.2.2.1
      clear h0 he2 hR hb2 hbox
      go_wp2
      go_loopw [12] (fun i wr => ∃ k : Nat, k ≤ s.length ∧ i = .int .i64 k ∧ backN s q s.length = backN s q k ∧ wr = w2)
        (fun i _ => (intOf i).toNat)
      case atStart => exact ⟨s.length, Nat.le_refl _, rfl, rfl, rfl⟩
      case round =>
        obtain ⟨k, hk, rfl, hback, rfl⟩ := hrel
        cases k with
        | zero =>
          have hd0 : decide ((0 : Int) < ((0 : Nat) : Int)) = false := rfl
          have hb0 : backN s q s.length = 0 := hback
          by_cases hl : s.length = 0
          · have hlb : (((0 : Nat) : Int) == (s.length : Int)) = true := by rw [hl]; rfl
            have he3 : earlyF s q = (0, 3) := by unfold earlyF; rw [if_pos (by rw [hb0, hl])]
            have He3 := Lib.hid he3
            clear hback hb0 hl he3
            go_wp2
            go_ret2
            exact ⟨by rw [He2.out, He3.out]; rfl, hB2⟩
          · have hlb : (((0 : Nat) : Int) == (s.length : Int)) = false := by simp; omega
            have he3 : earlyF s q = ((s.getD 0 z111).f0, 0) := by unfold earlyF; rw [if_neg (by rw [hb0]; omega), hb0]
            obtain ⟨ad, rfl, hx0, hx1⟩ := at_T111 hrd.2.2 0 (by omega) (by omega)
            have hlt0 : 0 < s.length := by omega
            rw [show ad.add (Int.toNat 0 * 2) = ad from rfl] at hx0 hx1
            have He3 := Lib.hid he3
            have hrr : rd_T111 s 0 = s.getD 0 z111 := rfl
            have Hrr := Lib.hid hrr
            clear hback hb0 hl he3 hrr
            go_wp2
            go_ret2
            exact ⟨by rw [He2.out, He3.out, ← Hrr.out]; rfl, hB2⟩
        | succ k =>
          have hd0 : decide ((0 : Int) < ((k : Int) + 1)) = true := decide_eq_true (by omega)
          have hd0' : decide ((0 : Int) < ((k + 1 : Nat) : Int)) = true := decide_eq_true (by omega)
          obtain ⟨ad, rfl, hx0, hx1⟩ := at_T111 hrd.2.2 (k : Int) (by omega) (by omega)
          rw [Int.toNat_natCast] at hx0 hx1
          have hrr : rd_T111 s (k : Int) = s.getD k z111 := by unfold rd_T111; rw [Int.toNat_natCast]
          rw [hrr] at hx0 hx1
          clear hrr
          have hbk : backN s q (k + 1) = if q ≤ (s.getD k z111).f1 then backN s q k else k + 1 := rfl
          obtain ⟨y, hy⟩ : ∃ y, s.getD k z111 = y := ⟨_, rfl⟩
          rw [hy] at hx0 hx1 hbk
          have Hy := Lib.hid hy
          clear hy
          by_cases hle : q ≤ y.f1
          · have hle2 : decide (q ≤ y.f1) = true := decide_eq_true hle
            rw [if_pos hle] at hbk
            have Hbk := Lib.hid (hback.trans hbk)
            clear hle hbk hback
            go_wp2
            refine ⟨⟨k, by omega, by simp, Hbk.out, trivial⟩, by simp [intOf]⟩
          · have hle2 : decide (q ≤ y.f1) = false := decide_eq_false hle
            rw [if_neg hle] at hbk
            have hb1 := hback.trans hbk
            by_cases hl : k + 1 = s.length
            · have hlb : (((k + 1 : Nat) : Int) == (s.length : Int)) = true := by rw [hl]; simp
              have hlb' : (((k : Int) + 1) == (s.length : Int)) = true := by simpa using hlb
              have he3 : earlyF s q = (0, 3) := by unfold earlyF; rw [if_pos (by rw [hb1, hl])]
              have He3 := Lib.hid he3
              clear hback hbk hb1 hl he3 hle
              go_wp2
              go_ret2
              exact ⟨by rw [He2.out, He3.out]; rfl, hB2⟩
            · have hlb : (((k + 1 : Nat) : Int) == (s.length : Int)) = false := by simp; omega
              have hlb' : (((k : Int) + 1) == (s.length : Int)) = false := by simpa using hlb
              have he3 : earlyF s q = ((s.getD (k + 1) z111).f0, 0) := by unfold earlyF; rw [if_neg (by rw [hb1]; omega), hb1]
              obtain ⟨ad', hadd, hz0, hz1⟩ := at_T111 hrd.2.2 ((k + 1 : Nat) : Int) (by omega) (by omega)
              cases hadd
              have hlt1 : k + 1 < s.length := by omega
              rw [Int.toNat_natCast] at hz0 hz1
              have hrr : rd_T111 s ((k + 1 : Nat) : Int) = s.getD (k + 1) z111 := by unfold rd_T111; rw [Int.toNat_natCast]
              rw [hrr] at hz0 hz1
              clear hrr
              obtain ⟨y2, hy2⟩ : ∃ y2, s.getD (k + 1) z111 = y2 := ⟨_, rfl⟩
              rw [hy2] at hz0 hz1 he3
              have He3 := Lib.hid he3
              clear hback hbk hb1 hl he3 hle hy2
              go_wp2
              go_ret2
              exact ⟨by rw [He2.out, He3.out]; rfl, hB2⟩
    · have h0b : (er != 0) = true := by simpa using h0
      have he2 : earlyA chk l0 l1 l2 ops l3 sku q = (0, er) := by rw [He.out, if_pos h0]
      have He2 := Lib.hid he2
      clear h0 he2
      go_wp2
      go_ret2
      exact ⟨by rw [He2.out]; rfl, hB2⟩
end Go.Proofs.YtofkhcgkahkagaaGreat

