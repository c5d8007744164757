/- scan's meters, slices.Clone of a row, and scan.Collect over every iterator that has its contract. -/
import Derived.Test.YtofkhcgkahkagaaScanB
import Derived.Test.YtofkhcgkahkagaaPScanMetersx2
import Derived.WalkSpells
namespace Go.Proofs.Ytofkhcgkahkagaa
open Go.RowKit Go.Shelf Go.Proofs.YtofkhcgkahkagaaW.PrintWords Go.Proofs.YtofkhcgkahkagaaW.PrintLast Go.Proofs.YtofkhcgkahkagaaW.PrintMore Go.Proofs.Ytofkhcgkahkagaa.PScanMeters
attribute [local go_sem] Oper.semAt_some
set_option linter.unusedVariables false
set_option linter.unusedSimpArgs false

theorem eql_ptr_nil (w : World) (a : Addr) : (binOp .eql 25 (.pointer (some a)) (.pointer none)).run Try.prog w = .ok (.bool false) w := by kernel_rfl
theorem eql_nil_nil (w : World) : (binOp .eql 25 (.pointer none) (.pointer none)).run Try.prog w = .ok (.bool true) w := by kernel_rfl

/-- A meter: its block holds what is left. -/
def MeterAt (g : Nat) (n : Nat) (w : World) : Prop := w.heap[g]? = some (.cells #[.int .i64 n] 72 (0, 0))
theorem MeterAt.cell {g n : Nat} {w : World} (h : MeterAt g n w) : w.cell? ⟨g, 0, none⟩ = some (.int .i64 n) := by unfold MeterAt at h; simp [World.cell?, h]
theorem MeterAt.frozen {g n : Nat} {w : World} (h : MeterAt g n w) : w.frozen? ⟨g, 0, none⟩ = false := by unfold MeterAt at h; simp [World.frozen?, h]
theorem MeterAt.set {g n : Nat} {w : World} (h : MeterAt g n w) (m : Nat) : MeterAt g m (w.setCell ⟨g, 0, none⟩ (.int .i64 m)) := by
  unfold MeterAt at *
  simpa using blk_set h 0 (.int .i64 m)

theorem left_calls (g n : Nat) (w : World) (h : MeterAt g n w) : Calls Try.prog 13 #[.pointer (some ⟨g, 0, none⟩)] w fun e w' => e = .returned (.int .i64 n) ∧ w = w' := by
  have hc := h.cell
  have hq := fun w => eql_ptr_nil w ⟨g, 0, none⟩
  go_enter Try.func13, Try.ntmps13
  go_wp2
  go_ret
  exact ⟨rfl, rfl⟩
theorem left_nil (w : World) : Calls Try.prog 13 #[.pointer none] w fun e w' => e = .returned (.int .i64 0) ∧ w = w' := by
  have hq := fun w => eql_nil_nil w
  go_enter Try.func13, Try.ntmps13
  go_wp2
  go_ret
  exact ⟨rfl, rfl⟩

theorem passes_no (g : Nat) (w : World) (h : MeterAt g 0 w) : Calls Try.prog 35 #[.pointer (some ⟨g, 0, none⟩)] w fun e w' => e = .returned (.bool false) ∧ w = w' := by
  go_enter Try.func35, Try.ntmps35
  go_wp2_with (go_at_call 13; refine (left_calls g 0 w h).mono ?_; rintro e w' ⟨rfl, rfl⟩)
  go_ret
  exact ⟨rfl, rfl⟩
theorem passes_yes (g n : Nat) (w : World) (h : MeterAt g (n + 1) w) (hn : n < 9223372036854775807) : Calls Try.prog 35 #[.pointer (some ⟨g, 0, none⟩)] w fun e w' => e = .returned (.bool true) ∧ w' = w.setCell ⟨g, 0, none⟩ (.int .i64 n) := by
  have hc := h.cell
  have hf := h.frozen
  have hz : (((n + 1 : Nat) : Int) == 0) = false := by simp; omega
  have hw : IntKind.i64.wrap (((n + 1 : Nat) : Int) - 1) = (n : Int) := by rw [IntWalk.i64_in _ (by omega)]; omega
  go_enter Try.func35, Try.ntmps35
  go_wp2_with (go_at_call 13; refine (left_calls g (n + 1) w h).mono ?_; rintro e w' ⟨rfl, rfl⟩)
  go_ret
  exact ⟨rfl, rfl⟩

/-- What scan.Metered's function does: so many rows pass. -/
def meterF (n : Nat) (j : Nat) (r : List S66) : List S66 × Bool × Int := if j < n then (r, true, 0) else ([], false, 310)
def MeterT (bm g n : Nat) (j : Nat) (W : World) : Prop := W.heap[bm]? = some (.cells #[.pointer (some ⟨g, 0, none⟩)] 25 (0, 0)) ∧ MeterAt g (n - j) W

theorem metered_what (bm g n : Nat) (hbg : bm ≠ g) (hn : n ≤ 9223372036854775807) (X : Nat → Prop) (hX : X g) : What Try.prog 34 #[.pointer (some ⟨bm, 0, none⟩)] (meterF n) X (MeterT bm g n) (fun k => k = g) := by
  rintro j r A c W D ⟨hb, hm⟩ hD hrc hF
  have hcb : W.cell? ⟨bm, 0, none⟩ = some (.pointer (some ⟨g, 0, none⟩)) := by simp [World.cell?, hb]
  by_cases h : j < n
  · obtain ⟨k, hk⟩ : ∃ k, n - j = k + 1 := ⟨n - j - 1, by omega⟩
    have hk2 : n - (j + 1) = k := by omega
    rw [hk] at hm
    have hkl : k < 9223372036854775807 := by omega
    have e1 : meterF n j r = (r, true, 0) := if_pos h
    have hm2 := hm.set k
    have hF2 := Kd.F_far hF (p := ⟨g, 0, none⟩) (fun q hq e => hq.2 (e ▸ hX)) (.int .i64 k)
    have hT : MeterT bm g n (j + 1) (W.setCell ⟨g, 0, none⟩ (.int .i64 k)) := ⟨(Below.heap_setCell _ _ _ _ hbg).trans hb, by rw [hk2]; exact hm2⟩
    have hS : Same (fun q => q < W.heap.size ∧ ¬ q = g) W (W.setCell ⟨g, 0, none⟩ (.int .i64 k)) := ⟨rfl, rfl, rfl, by simp [World.setCell], fun q hq => Below.heap_setCell _ _ _ _ hq.2⟩
    rw [e1]
    have HT := Lib.hid hT
    have HS := Lib.hid hS
    clear hT hS hk2 hk e1 hm2 hb
    refine Calls.mono (R := fun e w' => e = .returned (.tuple #[.slice A r.length c, .bool true, .int .i64 0]) ∧ w' = W.setCell ⟨g, 0, none⟩ (.int .i64 k)) ?_ ?_
    · go_enter Try.func34, Try.ntmps34
      go_wp2_with (go_at_call 35; refine (passes_yes g k W hm hkl).mono ?_; rintro e w' ⟨rfl, rfl⟩)
      go_ret3
      exact ⟨rfl, rfl⟩
    · rintro e w' ⟨rfl, rfl⟩
      exact ⟨A, c, rfl, hrc, HT.out, hF2, HS.out⟩
  · have hk : n - j = 0 := by omega
    rw [hk] at hm
    have e1 : meterF n j r = ([], false, 310) := if_neg h
    have hT : MeterT bm g n (j + 1) W := ⟨hb, by rw [show n - (j + 1) = 0 by omega]; exact hm⟩
    rw [e1]
    refine Calls.mono (R := fun e w' => e = .returned (.tuple #[.slice none 0 0, .bool false, .int .i64 310]) ∧ w' = W) ?_ ?_
    · go_enter Try.func34, Try.ntmps34
      go_wp2_with (go_at_call 35; refine (passes_no g W hm).mono ?_; rintro e w' ⟨rfl, rfl⟩)
      go_ret3
      exact ⟨rfl, rfl⟩
    · rintro e w' ⟨rfl, rfl⟩
      exact ⟨none, 0, rfl, Nat.le_refl _, hT, Kd.F_nil _ _ _, Same.refl _ _⟩

theorem metered_calls (gf : Nat) (lb : Array Value) (m : Option Addr) (w : World) : Calls Try.prog 11 #[.func (.func gf) #[] lb, .pointer m] w fun e w' =>
    e = .returned (.func (.func 52) #[] #[.pointer (some ⟨w.heap.size + 1, 0, none⟩), .pointer (some ⟨w.heap.size + 2, 0, none⟩)]) ∧
    w' = ((w.alloc (.cells #[.pointer m] 25)).alloc (.cells #[.func (.func gf) #[] lb] 31)).alloc (.cells #[.func (.func 34) #[] #[.pointer (some ⟨w.heap.size, 0, none⟩)]] 75) := by
  go_enter Try.func11, Try.ntmps11
  go_wp2_with (go_at_call 33; refine (over_calls gf lb 34 _ _).mono ?_; rintro e w' ⟨rfl, rfl⟩)
  go_ret
  exact ⟨by simp, rfl⟩
end Go.Proofs.Ytofkhcgkahkagaa
