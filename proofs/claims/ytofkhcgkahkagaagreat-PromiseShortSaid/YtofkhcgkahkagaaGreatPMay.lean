/- promise.may tells whether receipts may be: at most 1000, each of a name, one or more, and no time below nought. -/
import Derived.Test.YtofkhcgkahkagaaGreatQ0
namespace Go.Proofs.YtofkhcgkahkagaaGreat
open Go.RowKit Go.Proofs.YtofkhcgkahkagaaGreatW.PrintWords Go.Proofs.YtofkhcgkahkagaaGreatW.PrintLast Go.Proofs.YtofkhcgkahkagaaGreatW.PrintMore Go.Proofs.YtofkhcgkahkagaaGreat.PPromiseShort
set_option linter.unusedVariables false
set_option linter.unusedSimpArgs false

def nameB (s : ByteArray) : Bool := decide (1 ≤ s.size ∧ s.size ≤ 64)
def recB (r : S103) : Bool := nameB r.f0 && decide (1 ≤ r.f1) && decide (0 ≤ r.f2)
def mayB (l : List S103) : Bool := decide (l.length ≤ 1000) && l.all recB

def recV (r : S103) : Value := .agg #[.string r.f0, .int .i64 r.f1, .int .i64 r.f2]

set_option maxRecDepth 100000 in
theorem bad_calls (r : S103) (w : World) : Calls Tryz.prog 83 #[recV r] w fun e w' => e = .returned (.bool (!recB r)) ∧ Below w.heap.size w w' := by
  have hu := Tryz.underlying103
  unfold recV
  go_enter Tryz.func83, Tryz.ntmps83
  go_wp2
  all_goals
    go_ret
    refine ⟨congrArg Ending.returned (congrArg Value.bool ?_), (Below.refl _ w).alloc (Nat.le_refl _) _⟩
    rw [Bool.eq_iff_iff]
    simp only [recB, nameB, Bool.not_eq_true', Bool.and_eq_false_iff, decide_eq_false_iff_not, decide_eq_true_iff, Bool.not_and, Bool.or_eq_true, true_iff, reduceCtorEq, false_iff]
    omega

set_option maxRecDepth 100000 in
theorem index_bad (A : Option Addr) (c : Nat) (l : List S103) (w : World) (hC : Kd.C k103 w A l.length l) (hc : l.length ≤ c) :
    Calls Tryz.prog 137 #[.slice A l.length c, .func (.func 83) #[] #[]] w fun e w' => (∃ i : Int, e = .returned (.int .i64 i) ∧ decide (0 ≤ i) = !l.all recB) ∧ Below w.heap.size w w' := by
  have hu := Tryz.underlying103
  have hmax := hC.2.1
  go_enter Tryz.func137, Tryz.ntmps137
  go_wp2
  go_loopw [8] (fun i wr => ∃ k : Nat, k ≤ l.length ∧ i = .int .i64 k ∧ (∀ r ∈ l.take k, recB r = true) ∧ Below w.heap.size w wr)
    (fun i _ => l.length - (intOf i).toNat)
  case atStart => exact ⟨0, Nat.zero_le _, rfl, by simp, Below.refl _ _⟩
  case round =>
    obtain ⟨k, hk, rfl, hall, hB⟩ := hrel
    by_cases hlt : k < l.length
    · have hd : decide ((k : Int) < (l.length : Int)) = true := decide_eq_true (by omega)
      obtain ⟨ad, rfl, hx0, hx1, hx2⟩ := at_T103 hC k (by omega) (by omega)
      rw [Int.toNat_natCast] at hx0 hx1 hx2
      have hy0 := (hB.cell (World.block_lt_of_cell? w _ hx0)).trans hx0
      have hy1 := (hB.cell (World.block_lt_of_cell? w _ hx1)).trans hx1
      have hy2 := (hB.cell (World.block_lt_of_cell? w _ hx2)).trans hx2
      have hr : rd_T103 l k = l[k] := by unfold rd_T103; rw [Int.toNat_natCast, List.getD_eq_getElem?_getD, List.getElem?_eq_getElem hlt]; rfl
      rw [hr] at hy0 hy1 hy2
      obtain ⟨r, hrr⟩ : ∃ r, r = l[k] := ⟨_, rfl⟩
      rw [← hrr] at hy0 hy1 hy2
      have Hr := Aside0.mk hrr
      clear hrr hr hx0 hx1 hx2
      have hbad := fun w => bad_calls r w
      unfold recV at hbad
      go_wp2_with fail
      refine (hbad _).mono ?_
      rintro e w2 ⟨rfl, hB2⟩
      clear hbad hy0 hy1 hy2
      cases hb : recB r with
      | true =>
        rw [Bool.not_true]
        go_wp2
        refine ⟨⟨k + 1, by omega, by simp, ?_, hB.trans (hB2.mono hB.size)⟩, by simp [intOf]; omega⟩
        intro r2 hr2
        rw [List.take_add_one, List.getElem?_eq_getElem hlt] at hr2
        rcases List.mem_append.1 hr2 with h | h
        · exact hall r2 h
        · obtain rfl : r2 = l[k] := by simpa using h
          rw [← Hr.out]; exact hb
      | false =>
        rw [Bool.not_false]
        go_wp2
        go_ret
        refine ⟨⟨_, rfl, ?_⟩, hB.trans (hB2.mono hB.size)⟩
        rw [show l.all recB = false from List.all_eq_false.2 ⟨l[k], List.getElem_mem hlt, by rw [← Hr.out, hb]; simp⟩]
        simp
    · obtain rfl : k = l.length := by omega
      have hd : decide ((l.length : Int) < (l.length : Int)) = false := decide_eq_false (by omega)
      go_wp2
      go_ret
      refine ⟨⟨_, rfl, ?_⟩, hB⟩
      rw [show l.all recB = true from List.all_eq_true.2 (fun r hr => hall r (by rw [List.take_length]; exact hr))]
      rfl

set_option maxRecDepth 100000 in
theorem may_calls (A : Option Addr) (c : Nat) (l : List S103) (w : World) (hC : Kd.C k103 w A l.length l) (hc : l.length ≤ c) :
    Calls Tryz.prog 40 #[.slice A l.length c] w fun e w' => e = .returned (.bool (mayB l)) ∧ Below w.heap.size w w' := by
  have hcon : ∀ w, Kd.C k103 w A l.length l → Calls Tryz.prog 82 #[.slice A l.length c, .func (.func 83) #[] #[]] w fun e w' => e = .returned (.bool (!l.all recB)) ∧ Below w.heap.size w w' := by
    intro w hC
    go_enter Tryz.func82, Tryz.ntmps82
    go_wp2_with (go_at_call 137; refine (index_bad A c l _ hC hc).mono ?_; rintro e w2 ⟨⟨i, rfl, hi⟩, hB2⟩)
    go_ret
    exact ⟨rfl, hB2⟩
  go_enter Tryz.func40, Tryz.ntmps40
  by_cases h : (l.length : Int) ≤ 1000
  · have hd : decide ((l.length : Int) ≤ 1000) = true := decide_eq_true h
    go_wp2_with (go_at_call 82; refine (hcon _ hC).mono ?_; rintro e w2 ⟨rfl, hB2⟩)
    go_ret
    exact ⟨by simp [mayB, show l.length ≤ 1000 by omega], hB2⟩
  · have hd : decide ((l.length : Int) ≤ 1000) = false := decide_eq_false h
    go_wp2_with (go_at_call 82; refine (hcon _ hC).mono ?_; rintro e w2 ⟨rfl, hB2⟩)
    go_ret
    exact ⟨by simp [mayB, show ¬ l.length ≤ 1000 by omega], hB2⟩
end Go.Proofs.YtofkhcgkahkagaaGreat

