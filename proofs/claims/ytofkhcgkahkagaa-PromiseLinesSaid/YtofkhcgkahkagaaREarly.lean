/- The reference's Earliest. -/
import Derived.Test.YtofkhcgkahkagaaRApi
namespace Go.Proofs.Ytofkhcgkahkagaa
open Go.RowKit Go.Proofs.YtofkhcgkahkagaaW.PrintWords Go.Proofs.YtofkhcgkahkagaaW.PrintLast Go.Proofs.YtofkhcgkahkagaaW.PrintMore Go.Proofs.Ytofkhcgkahkagaa.PPromiseLines
set_option linter.unusedVariables false
set_option linter.unusedSimpArgs false

def atStep (q : Int) (a : Int) (x : S58) : Int := if x.f1 < q then -1 else if a < 0 then x.f0 else a
def rearlyF (s : List S58) (q : Int) : Int × Int := if s.foldl (atStep q) (-1) < 0 then (0, 3) else (s.foldl (atStep q) (-1), 0)
noncomputable def rearlyA (l0 : List S100) (l1 : List S107) (l2 : List S111) (ops : Int) (l3 : List S44) (sku : ByteArray) (q : Int) : Int × Int :=
  if q < 0 then (0, 1) else if (rlineA l0 l1 l2 ops l3 sku).2 ≠ 0 then (0, (rlineA l0 l1 l2 ops l3 sku).2) else rearlyF (rlineA l0 l1 l2 ops l3 sku).1 q

set_option maxRecDepth 100000 in
set_option maxHeartbeats 1000000 in
theorem rearly_api (l0 : List S100) (l1 : List S107) (l2 : List S111) (A0 : Option Addr) (c0 : Nat) (A1 : Option Addr) (c1 : Nat) (A2 : Option Addr) (c2 : Nat) (ops : Int) (A3 : Option Addr) (c3 : Nat) (l3 : List S44) (sku : ByteArray) (q : Int) (w : World)
    (hL : LedgerAt l0 l1 l2 A0 c0 A1 c1 A2 c2 w) (hf : FewL l0 l1 l2) (hC3 : Kd.C k44 w A3 l3.length l3) (hc3 : l3.length ≤ c3) (hl3 : l3.length ≤ 20) (h64 : ∀ t, In64 (frL l0 l1 l3 [] sku t)) :
    Calls Try.prog 19 #[.agg #[.slice A0 l0.length c0, .slice A1 l1.length c1, .slice A2 l2.length c2, .int .i64 ops], .slice A3 l3.length c3, .string sku, .int .i64 q] w fun e w' =>
      e = .returned (.tuple #[.int .i64 (rearlyA l0 l1 l2 ops l3 sku q).1, .int .i64 (rearlyA l0 l1 l2 ops l3 sku q).2]) ∧ Below w.heap.size w w' := by
  have hu := Try.underlying41
  have hus := Try.underlying58
  have hbox := fun o => (Below.refl w.heap.size w).alloc (Nat.le_refl _) o
  go_enter Try.func19, Try.ntmps19
  by_cases hq : q < 0
  · have hqb : decide (q < 0) = true := decide_eq_true hq
    have he : rearlyA l0 l1 l2 ops l3 sku q = (0, 1) := by unfold rearlyA; rw [if_pos hq]
    have He := Lib.hid he
    clear hq he
    go_wp2
    go_ret2
    exact ⟨by rw [He.out]; rfl, hbox _⟩
  · have hqb : decide (q < 0) = false := decide_eq_false hq
    have hline := fun w' (hb : Below w.heap.size w w') => rline_api l0 l1 l2 A0 c0 A1 c1 A2 c2 ops A3 c3 l3 sku w' (hL.below hb) hf (Kd.C_below hC3 hb) hc3 hl3 h64
    obtain ⟨S, hS⟩ : ∃ S, rlineA l0 l1 l2 ops l3 sku = S := ⟨_, rfl⟩
    have he : rearlyA l0 l1 l2 ops l3 sku q = if S.2 ≠ 0 then (0, S.2) else rearlyF S.1 q := by unfold rearlyA; rw [if_neg hq, hS]
    rw [hS] at hline
    have He := Lib.hid he
    clear hS hq he
    go_wp2_with fail
    refine (hline _ (hbox _)).mono ?_
    clear hline
    rintro e w2 ⟨Av, cv, rfl, hR, hb2⟩
    have hB2 := (hbox (.cells #[.slice A0 l0.length c0, .slice A1 l1.length c1, .slice A2 l2.length c2, .int .i64 ops] 41)).trans (hb2.mono (by simp))
    obtain ⟨s, er⟩ := S
    dsimp only at *
    by_cases h0 : er = 0
    · have h0b : (er != 0) = false := by rw [h0]; rfl
      have he2 : rearlyA l0 l1 l2 ops l3 sku q = rearlyF s q := by rw [He.out, if_neg (by simpa using h0)]
      have He2 := Lib.hid he2
      have hrd := Kd.R_reads' hR
      have hmax := hrd.2.2.2.1
      clear h0 he2 hR hb2 hbox
      go_wp2
      go_loopw [12, 13] (fun a i wr => ∃ k : Nat, k ≤ s.length ∧ i = .int .i64 k ∧ a = .int .i64 ((s.take k).foldl (atStep q) (-1)) ∧ wr = w2)
        (fun _ i _ => s.length - (intOf i).toNat)
      case atStart => exact ⟨0, Nat.zero_le _, rfl, rfl, rfl⟩
      case round =>
        obtain ⟨k, hk, rfl, rfl, rfl⟩ := hrel
        obtain ⟨a, ha⟩ : ∃ a, (s.take k).foldl (atStep q) (-1) = a := ⟨_, rfl⟩
        rw [ha]
        have Ha := Lib.hid ha
        by_cases hlt : k < s.length
        · have hd : decide ((k : Int) < (s.length : Int)) = true := decide_eq_true (by omega)
          obtain ⟨ad, rfl, hx0, hx1⟩ := at_T58 hrd.2.2 (k : Int) (by omega) (by omega)
          rw [Int.toNat_natCast] at hx0 hx1
          have hrr : rd_T58 s (k : Int) = s[k] := by unfold rd_T58; rw [Int.toNat_natCast, List.getD_eq_getElem?_getD, List.getElem?_eq_getElem hlt]; rfl
          rw [hrr] at hx0 hx1
          have hst := take_snoc hlt
          obtain ⟨y, hy⟩ : ∃ y, s[k] = y := ⟨_, rfl⟩
          rw [hy] at hx0 hx1 hst
          have hnext : (s.take (k + 1)).foldl (atStep q) (-1) = atStep q a y := by rw [hst, List.foldl_append, ha]; rfl
          have Hn := Lib.hid hnext
          clear hrr hst hy hnext ha
          by_cases c1 : y.f1 < q
          · have c1b : decide (y.f1 < q) = true := decide_eq_true c1
            have hv : atStep q a y = -1 := by unfold atStep; rw [if_pos c1]
            have Hv := Lib.hid hv
            clear c1 hv
            go_wp2
            exact ⟨⟨k + 1, by omega, by simp, by rw [Hn.out, Hv.out], trivial⟩, by simp [intOf]; omega⟩
          · have c1b : decide (y.f1 < q) = false := decide_eq_false c1
            by_cases c2 : a < 0
            · have c2b : decide (a < 0) = true := decide_eq_true c2
              have hv : atStep q a y = y.f0 := by unfold atStep; rw [if_neg c1, if_pos c2]
              have Hv := Lib.hid hv
              clear c1 c2 hv
              go_wp2
              exact ⟨⟨k + 1, by omega, by simp, by rw [Hn.out, Hv.out], trivial⟩, by simp [intOf]; omega⟩
            · have c2b : decide (a < 0) = false := decide_eq_false c2
              have hv : atStep q a y = a := by unfold atStep; rw [if_neg c1, if_neg c2]
              have Hv := Lib.hid hv
              clear c1 c2 hv
              go_wp2
              exact ⟨⟨k + 1, by omega, by simp, by rw [Hn.out, Hv.out], trivial⟩, by simp [intOf]; omega⟩
        · obtain rfl : k = s.length := by omega
          have hd : decide ((s.length : Int) < (s.length : Int)) = false := decide_eq_false (by omega)
          rw [List.take_length] at ha
          by_cases c2 : a < 0
          · have c2b : decide (a < 0) = true := decide_eq_true c2
            have hfin := Lib.hid (show rearlyF s q = (0, 3) from by unfold rearlyF; rw [ha, if_pos c2])
            clear c2 ha
            go_wp2
            go_ret2
            exact ⟨by rw [He2.out, hfin.out]; rfl, hB2⟩
          · have c2b : decide (a < 0) = false := decide_eq_false c2
            have hfin := Lib.hid (show rearlyF s q = (a, 0) from by unfold rearlyF; rw [ha, if_neg c2])
            clear c2 ha
            go_wp2
            go_ret2
            exact ⟨by rw [He2.out, hfin.out]; rfl, hB2⟩
    · have h0b : (er != 0) = true := by simpa using h0
      have he2 : rearlyA l0 l1 l2 ops l3 sku q = (0, er) := by rw [He.out, if_pos h0]
      have He2 := Lib.hid he2
      clear h0 he2
      go_wp2
      go_ret2
      exact ⟨by rw [He2.out]; rfl, hB2⟩
end Go.Proofs.Ytofkhcgkahkagaa
