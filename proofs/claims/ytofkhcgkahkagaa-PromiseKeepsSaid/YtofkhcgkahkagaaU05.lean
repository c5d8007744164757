/- Texts behind the row of PromiseKeeps, part 5. -/
import Derived.Test.YtofkhcgkahkagaaU03
import Derived.Test.YtofkhcgkahkagaaU02
import Derived.Test.YtofkhcgkahkagaaU04
import Derived.Lib.Bytealg
import Derived.Lib.Hide
import Derived.StillTailTactics
import Derived.Deep.QuietTactic
import Derived.BigQuiet
import Derived.Test.YtofkhcgkahkagaaU01
import Derived.Test.YtofkhcgkahkagaaChecked
import Derived.Laws.Externs
import Derived.Laws.Bits64
import Derived.Deep.RegionHeld3
import Derived.OpenShut
import Derived.Laws.Cover1
/- ledger's small functions: a name, a stock's place, which of two places stands first. -/
namespace Go.Proofs.Ytofkhcgkahkagaa
open Go.RowKit Go.Proofs.YtofkhcgkahkagaaW.PrintWords Go.Proofs.YtofkhcgkahkagaaW.PrintLast Go.Proofs.YtofkhcgkahkagaaW.PrintMore Go.Proofs.Ytofkhcgkahkagaa.PPromiseLines
set_option linter.unusedVariables false
set_option linter.unusedSimpArgs false

theorem name_calls (s : ByteArray) (w : World) : Calls Try.prog 53 #[.string s] w fun e w' => e = .returned (.bool (nameB s)) ∧ w = w' := by
  by_cases h1 : 1 ≤ s.size
  · have h1b : decide (1 ≤ (s.size : Int)) = true := decide_eq_true (by omega)
    have h1c : decide (1 ≤ s.size) = true := decide_eq_true h1
    have hn : nameB s = decide ((s.size : Int) ≤ 64) := by unfold nameB; rw [decide_eq_decide]; omega
    rw [hn]
    clear h1 hn
    go_enter Try.func53, Try.ntmps53
    go_wp2
    go_ret
    exact ⟨rfl, rfl⟩
  · have h1b : decide (1 ≤ (s.size : Int)) = false := decide_eq_false (by omega)
    have h1c : decide (1 ≤ s.size) = false := decide_eq_false h1
    have hn : nameB s = false := by unfold nameB; rw [decide_eq_false_iff_not]; omega
    rw [hn]
    clear h1 hn
    go_enter Try.func53, Try.ntmps53
    go_wp2
    go_ret
    exact ⟨rfl, rfl⟩

theorem of_calls (a b : ByteArray) (x y : Int) (w : World) : Calls Try.prog 55 #[.agg #[.string a, .string b, .int .i64 x, .int .i64 y]] w fun e w' => e = .returned (.agg #[.string a, .string b]) ∧ Below w.heap.size w w' := by
  have hu := Try.underlying100
  have hu2 := Try.underlying103
  go_enter Try.func55, Try.ntmps55
  go_wp2
  exact bodyPost_ret (v := .agg #[.string a, .string b]) (by simp [results, Try.results55, go_sem]) rfl ⟨rfl, ((Below.refl _ _).alloc (Nat.le_refl _) _).alloc (by simp) _⟩

theorem cmpin_calls (a b : ByteArray) (w : World) : Calls Try.prog 104 #[.string a, .string b] w fun e w' => e = .returned (.int .i64 (Lib.compareBytes a.data.toList b.data.toList)) ∧ w = w' := by
  have hc : ∀ w : World, (callFunc 116 #[.string a, .string b]).run Try.prog w = .ok (.value (.int .i64 (Lib.compareBytes a.data.toList b.data.toList))) w := fun w => by
    rw [run_callFunc_extern Try.func116 (by kernel_rfl) (by kernel_rfl) (by kernel_rfl) (e := Extern.BytealgCompare.compare) (by kernel_rfl), Lib.run_compareString]
    simp only [Result.andThen]
  go_enter Try.func104, Try.ntmps104
  go_wp2_with (simp only [hc])
  go_ret
  exact ⟨rfl, rfl⟩
theorem cmpstr_calls (a b : ByteArray) (w : World) : Calls Try.prog 76 #[.string a, .string b] w fun e w' => e = .returned (.int .i64 (Lib.compareBytes a.data.toList b.data.toList)) ∧ w = w' := by
  go_enter Try.func76, Try.ntmps76
  go_wp2_with fail
  refine (cmpin_calls a b _).mono ?_
  rintro e w' ⟨rfl, rfl⟩
  go_wp2
  go_ret
  exact ⟨rfl, rfl⟩

/-- Which of two places stands first. -/
def ordP (p q : Plc) : Int := if Lib.compareBytes p.1.data.toList q.1.data.toList = 0 then Lib.compareBytes p.2.data.toList q.2.data.toList else Lib.compareBytes p.1.data.toList q.1.data.toList

theorem two_ints (x y : Int) (W : World) : Kd.C (Kd.int .i64) (W.alloc (.cells #[.int .i64 x, .int .i64 y] 3)) (some ⟨W.heap.size, 0, none⟩) [x, y].length [x, y] := by
  have ho : (W.alloc (.cells #[.int .i64 x, .int .i64 y] 3)).ownsRow 0 3 1 (.slice (some ⟨W.heap.size, 0, none⟩) 2 2) 2 (encs (Value.int .i64) [x, y]) :=
    ⟨rfl, .inr ⟨W.heap.size, 2, #[.int .i64 x, .int .i64 y], rfl, Nat.zero_le _, heap_alloc_new W _, Nat.le_refl _, by decide, rfl, rfl⟩⟩
  exact (Kd.R_reads' (Kd.R_of_own (xs := [x, y]) (ok := fun _ => True) ho (fun _ _ => trivial))).2.2
theorem or_two (x y : Int) : cmp_Or_int.f 3 [x, y] = some (if x = 0 then y else x) := by
  unfold cmp_Or_int.f
  by_cases hx : x = 0
  · by_cases hy : y = 0
    · simp [cmp_Or_int.l0, rd, hx, hy, wrap64]
    · simp [cmp_Or_int.l0, rd, hx, hy, wrap64]
  · simp [cmp_Or_int.l0, rd, hx]

set_option maxRecDepth 100000 in
theorem order_calls (p q : Plc) (w : World) : Calls Try.prog 54 #[.agg #[.string p.1, .string p.2], .agg #[.string q.1, .string q.2]] w fun e w' => e = .returned (.int .i64 (ordP p q)) ∧ Below w.heap.size w w' := by
  have hu := Try.underlying103
  go_enter Try.func54, Try.ntmps54
  go_wp2
  obtain ⟨W, hW⟩ : ∃ W, (w.alloc (.cells #[.string p.1, .string p.2] 103)).alloc (.cells #[.string q.1, .string q.2] 103) = W := ⟨_, rfl⟩
  have h00 : W.cell? ⟨w.heap.size, 0, none⟩ = some (.string p.1) := by rw [← hW]; simp
  have h01 : W.cell? ⟨w.heap.size, 1, none⟩ = some (.string p.2) := by rw [← hW]; simp
  have h10 : W.cell? ⟨w.heap.size + 1, 0, none⟩ = some (.string q.1) := by rw [← hW]; simp
  have h11 : W.cell? ⟨w.heap.size + 1, 1, none⟩ = some (.string q.2) := by rw [← hW]; simp
  have hB : Below w.heap.size w W := by rw [← hW]; exact ((Below.refl _ _).alloc (Nat.le_refl _) _).alloc (by simp) _
  rw [hW]
  clear hW
  have hcmp := fun (a b : ByteArray) (w : World) => (cmpstr_calls a b w).mono (fun _ _ h => (⟨h.1, h.2.symm⟩ : _ ∧ _))
  go_still_tail 10, (by kernel_rfl)
  still_call (hcmp _ _ _)
  repeat still_step
  still_call (hcmp _ _ _)
  refine wpStill_nil ?_
  change wpList _ _ _ _ _ W.drew
  have hB2 : Below w.heap.size w W.drew := below_drew1 hB
  generalize W.drew = W2 at *
  clear h00 h01 h10 h11 hcmp
  have HO := Lib.hid (show (if Lib.compareBytes p.1.data.toList q.1.data.toList = 0 then Lib.compareBytes p.2.data.toList q.2.data.toList else Lib.compareBytes p.1.data.toList q.1.data.toList) = ordP p q from rfl)
  generalize Lib.compareBytes p.1.data.toList q.1.data.toList = c1 at *
  generalize Lib.compareBytes p.2.data.toList q.2.data.toList = c2 at *
  go_wp2_with fail
  refine (cmp_Or_int.calls 3 (some ⟨W2.heap.size, 0, none⟩) 2 [c1, c2] _ _ (two_ints c1 c2 W2) (Nat.le_refl _) (or_two c1 c2)).mono ?_
  rintro e w' ⟨rfl, ⟨nd, rfl⟩⟩
  have he : (if c1 = 0 then c2 else c1) = ordP p q := HO.out
  rw [he]
  go_wp2
  go_ret
  exact ⟨rfl, pw_below_drewN (below_alloc hB2 _) nd⟩
end Go.Proofs.Ytofkhcgkahkagaa
/- num.Sum answers the sum of a list of whole numbers, or why there is none. -/
namespace Go.Proofs.Ytofkhcgkahkagaa
open Go.RowKit Go.Proofs.YtofkhcgkahkagaaW.PrintWords Go.Proofs.YtofkhcgkahkagaaW.PrintLast Go.Proofs.YtofkhcgkahkagaaW.PrintMore
set_option linter.unusedVariables false
set_option linter.unusedSimpArgs false

/-- The sum of a list, where it is a number of 64 bits; and why not. -/
def sumOf (l : List Int) : Int × Int := if -9223372036854775808 ≤ l.sum ∧ l.sum ≤ 9223372036854775807 then (l.sum, 0) else (0, 10)

def In64 (l : List Int) : Prop := ∀ n ∈ l, -9223372036854775808 ≤ n ∧ n ≤ 9223372036854775807

theorem run_Add64 (x y c : Int) (hx : 0 ≤ x) (hy : 0 ≤ y) (hc0 : 0 ≤ c) (hc : c ≤ 1) (w : World) :
    (callFunc 77 #[.int .u64 x, .int .u64 y, .int .u64 c]).run Try.prog w = .ok (.value (.tuple #[.int .u64 ((x + y + c) % 18446744073709551616), .int .u64 ((x + y + c) / 18446744073709551616)])) w := by
  rw [run_callFunc_extern Try.func77 (by kernel_rfl) (by kernel_rfl) (by kernel_rfl) (e := add64Entry) (by kernel_rfl), run_add64 x y c hx hy hc0 hc]
  simp only [Result.andThen]

/-- What hi and lo of num.Sum hold behind so many numbers. -/
def SumI (l : List Int) (k : Nat) (hi lo : Int) : Prop := 0 ≤ lo ∧ lo < 18446744073709551616 ∧ 0 ≤ hi ∧ hi < 18446744073709551616 ∧ (hi * 18446744073709551616 + lo - (l.take k).sum) % 340282366920938463463374607431768211456 = 0

theorem sum_bound {l : List Int} (h : In64 l) : -9223372036854775808 * (l.length : Int) ≤ l.sum ∧ l.sum ≤ 9223372036854775807 * (l.length : Int) := by
  induction l with
  | nil => simp
  | cons a r ih =>
    have h1 := h a (by simp)
    have h2 := ih (fun n hn => h n (by simp [hn]))
    simp only [List.sum_cons, List.length_cons]
    omega

theorem SumI.start (l : List Int) : SumI l 0 0 0 := by
  refine ⟨by omega, by omega, by omega, by omega, ?_⟩
  simp

theorem sumI_arith (hi lo n S : Int) (h1 : 0 ≤ lo) (h2 : lo < 18446744073709551616) (h3 : 0 ≤ hi) (h4 : hi < 18446744073709551616) (h5 : (hi * 18446744073709551616 + lo - S) % 340282366920938463463374607431768211456 = 0)
    (hn : -9223372036854775808 ≤ n ∧ n ≤ 9223372036854775807) :
    (IntKind.u64.wrap (hi + IntKind.u64.wrap (IntKind.u64.wrap (n / 9223372036854775808) + (lo + IntKind.u64.wrap n) / 18446744073709551616)) * 18446744073709551616 + (lo + IntKind.u64.wrap n) % 18446744073709551616 - (S + n)) % 340282366920938463463374607431768211456 = 0 := by
  simp only [IntKind.wrap_u64]
  have hc : ∃ u q, n % 18446744073709551616 = u ∧ n / 9223372036854775808 % 18446744073709551616 = q ∧ ((0 ≤ n ∧ u = n ∧ q = 0) ∨ (n < 0 ∧ u = n + 18446744073709551616 ∧ q = 18446744073709551615)) := by
    refine ⟨_, _, rfl, rfl, ?_⟩
    omega
  obtain ⟨u, q, hu, hq, hc⟩ := hc
  rw [hu, hq]
  have hu0 : 0 ≤ u ∧ u < 18446744073709551616 := by omega
  obtain ⟨cr, hcr, hcr2⟩ : ∃ cr, (lo + u) / 18446744073709551616 = cr ∧ ((cr = 0 ∧ (lo + u) % 18446744073709551616 = lo + u) ∨ (cr = 1 ∧ (lo + u) % 18446744073709551616 = lo + u - 18446744073709551616)) := ⟨_, rfl, by omega⟩
  rw [hcr]
  obtain ⟨z, hz, hz2⟩ : ∃ z, (hi + (q + cr) % 18446744073709551616) % 18446744073709551616 = z ∧ (z = hi + q + cr ∨ z = hi + q + cr - 18446744073709551616) := ⟨_, rfl, by omega⟩
  rw [hz]
  rcases hc with ⟨_, rfl, rfl⟩ | ⟨_, rfl, rfl⟩ <;> rcases hcr2 with ⟨rfl, e2⟩ | ⟨rfl, e2⟩ <;> rcases hz2 with e3 | e3 <;> omega

theorem SumI.step {l : List Int} {k : Nat} {hi lo : Int} (h : SumI l k hi lo) (hk : k < l.length) (hl : In64 l) :
    SumI l (k + 1) (IntKind.u64.wrap (hi + IntKind.u64.wrap (IntKind.u64.wrap (rd l k / 9223372036854775808) + (lo + IntKind.u64.wrap (rd l k)) / 18446744073709551616))) ((lo + IntKind.u64.wrap (rd l k)) % 18446744073709551616) := by
  obtain ⟨h1, h2, h3, h4, h5⟩ := h
  have e : rd l (k : Int) = l.getD k 0 := by simp only [rd]; rw [Int.toNat_natCast]
  rw [e]
  have hn := hl (l.getD k 0) (by rw [List.getD_eq_getElem?_getD, List.getElem?_eq_getElem hk]; simp)
  have hs : (l.take (k + 1)).sum = (l.take k).sum + l.getD k 0 := by
    rw [List.take_add_one, List.sum_append, List.getD_eq_getElem?_getD, List.getElem?_eq_getElem hk]
    simp
  have ha := sumI_arith hi lo (l.getD k 0) (l.take k).sum h1 h2 h3 h4 h5 hn
  rw [SumI, hs]
  refine ⟨by omega, by omega, ?_, ?_, ha⟩
  · rw [IntKind.wrap_u64]; omega
  · rw [IntKind.wrap_u64]; omega

/-- What num.Sum looks at in the end. -/
theorem SumI.done {l : List Int} {hi lo : Int} (h : SumI l l.length hi lo) (hl : In64 l) (hlen : l.length ≤ 9223372036854775807) :
    if hi = IntKind.u64.wrap (wrap64 lo / 9223372036854775808) then sumOf l = (wrap64 lo, 0) else sumOf l = (0, 10) := by
  obtain ⟨h1, h2, h3, h4, h5⟩ := h
  rw [List.take_length] at h5
  have hb := sum_bound hl
  unfold sumOf
  generalize l.sum = S at *
  rw [IntKind.wrap_u64]
  obtain ⟨n, hn, hn2⟩ : ∃ n, wrap64 lo = n ∧ ((n = lo ∧ 0 ≤ n ∧ n / 9223372036854775808 % 18446744073709551616 = 0) ∨ (n = lo - 18446744073709551616 ∧ n < 0 ∧ n / 9223372036854775808 % 18446744073709551616 = 18446744073709551615)) := ⟨_, rfl, by unfold wrap64; omega⟩
  have hnb : -9223372036854775808 ≤ n ∧ n ≤ 9223372036854775807 := by rw [← hn]; unfold wrap64; omega
  rw [hn]
  split
  · have : S = n := by omega
    rw [if_pos (by omega), this]
  · rw [if_neg (by omega)]

set_option maxRecDepth 100000 in
theorem sum_calls (A : Option Addr) (c : Nat) (l : List Int) (w : World) (hC : Kd.C (Kd.int .i64) w A l.length l) (hc : l.length ≤ c) (hl : In64 l) :
    Calls Try.prog 58 #[.slice A l.length c] w fun e w' => e = .returned (.tuple #[.int .i64 (sumOf l).1, .int .i64 (sumOf l).2]) ∧ w' = w := by
  have hmax := hC.2.1
  have hadd := run_Add64
  go_enter Try.func58, Try.ntmps58
  go_wp2
  go_loopw [4, 5, 12] (fun hi lo i wr => ∃ (k : Nat) (h o : Int), k ≤ l.length ∧ i = .int .i64 k ∧ hi = .int .u64 h ∧ lo = .int .u64 o ∧ SumI l k h o ∧ wr = w)
    (fun _ _ i _ => l.length - (intOf i).toNat)
  case atStart => exact ⟨0, 0, 0, Nat.zero_le _, rfl, rfl, rfl, SumI.start l, rfl⟩
  case round =>
    obtain ⟨k, h, o, hk, rfl, rfl, rfl, hI, rfl⟩ := hrel
    by_cases hlt : k < l.length
    · have hd : decide ((k : Int) < (l.length : Int)) = true := decide_eq_true (by omega)
      obtain ⟨ad, rfl, hx⟩ := Kd.at_int hC k (by omega) (by omega)
      rw [Int.toNat_natCast] at hx
      have ho := hI.1
      have hn := hl (rd l k) (by have := hI; simp only [rd]; rw [Int.toNat_natCast, List.getD_eq_getElem?_getD, List.getElem?_eq_getElem hlt]; simp)
      have hwr : 0 ≤ IntKind.u64.wrap (rd l k) := wrap_u64_nonneg _
      go_wp2_with (simp only [hadd _ _ _ ho hwr (by omega) (by omega)])
      exact ⟨⟨k + 1, _, _, by omega, by simp, rfl, rfl, hI.step hlt hl, trivial⟩, by simp [intOf]; omega⟩
    · obtain rfl : k = l.length := by omega
      have hd : decide ((l.length : Int) < (l.length : Int)) = false := decide_eq_false (by omega)
      have hD := hI.done hl hmax
      by_cases he : h = IntKind.u64.wrap (wrap64 o / 9223372036854775808)
      · rw [if_pos he] at hD
        have hb : (h == IntKind.u64.wrap (wrap64 o / 9223372036854775808)) = true := beq_iff_eq.2 he
        clear he hadd
        go_wp2
        go_ret2
        exact ⟨by rw [hD]; rfl, rfl⟩
      · rw [if_neg he] at hD
        have hb : (h == IntKind.u64.wrap (wrap64 o / 9223372036854775808)) = false := beq_eq_false_iff_ne.2 he
        clear he hadd
        go_wp2
        go_ret2
        exact ⟨by rw [hD]; rfl, rfl⟩
end Go.Proofs.Ytofkhcgkahkagaa
/- What holds between two rounds of ledger.Check. -/
namespace Go.Proofs.Ytofkhcgkahkagaa
open Go.RowKit Go.Proofs.YtofkhcgkahkagaaW.PrintWords Go.Proofs.YtofkhcgkahkagaaW.PrintLast Go.Proofs.YtofkhcgkahkagaaW.PrintMore Go.Proofs.Ytofkhcgkahkagaa.PPromiseLines
set_option linter.unusedVariables false
set_option linter.unusedSimpArgs false

def stP (s : S100) : Plc := (s.f0, s.f1)
def hoP (h : S107) : Plc := (h.f1, h.f2)
def moP (m : S111) : Plc := (m.f1, m.f2)
/-- May a stock be the k-th one? -/
def stB (l0 : List S100) (k : Nat) (s : S100) : Prop := nameB s.f0 = true ∧ nameB s.f1 = true ∧ 0 ≤ s.f3 ∧ s.f3 ≤ s.f2 ∧ (0 < k → ordP (stP (l0.getD (k - 1) z100)) (stP s) < 0)
open Classical in
/-- The maps behind so many stocks. -/
noncomputable def gNil (l0 : List S100) : Plc → Option (List Int) := fun p => if p ∈ l0.map stP then some [] else none
theorem gNil_nil : gNil [] = fun _ => none := by funext p; simp [gNil]
theorem gNil_snoc (l0 : List S100) (s : S100) : gNil (l0 ++ [s]) = upd (gNil l0) (stP s) [] := by
  funext p
  unfold gNil upd
  by_cases h : p = stP s
  · rw [if_pos h, h, if_pos (by simp)]
  · rw [if_neg h]
    have e : (p ∈ (l0 ++ [s]).map stP) = (p ∈ l0.map stP) := by simp [h]
    rw [e]

theorem below_w {w W V : World} (h : Below w.heap.size w W) (hb : Below W.heap.size W V) : Below w.heap.size w V := h.trans (hb.mono h.size)
theorem below_chain {W V V' : World} (h : Below W.heap.size W V) (hb : Below V.heap.size V V') : Below W.heap.size W V' := h.trans (hb.mono h.size)

theorem cell_below {W V : World} (h : Below W.heap.size W V) {p : Addr} {v : Value} (hc : W.cell? p = some v) : V.cell? p = some v := (h.cell (World.block_lt_of_cell? W _ hc)).trans hc
theorem cell_grown {W V : World} {j : Nat} (h : W.grownBy V (some j)) {b o : Nat} {v : Value} (hc : W.cell? ⟨b, o, none⟩ = some v) (hj : b ≠ j) : V.cell? ⟨b, o, none⟩ = some v := by
  rw [← hc]
  have := h.block b (World.block_lt_of_cell? W _ hc) (fun e => hj (by cases e; rfl))
  unfold World.cell?
  rw [this]
/-- A stock's cells. -/
def StAt (b : Nat) (s : S100) (V : World) : Prop := V.cell? ⟨b, 0, none⟩ = some (.string s.f0) ∧ V.cell? ⟨b, 1, none⟩ = some (.string s.f1) ∧ V.cell? ⟨b, 2, none⟩ = some (.int .i64 s.f2) ∧ V.cell? ⟨b, 3, none⟩ = some (.int .i64 s.f3)
theorem StAt.below {b : Nat} {s : S100} {V V' : World} (h : StAt b s V) (hb : Below V.heap.size V V') : StAt b s V' := ⟨cell_below hb h.1, cell_below hb h.2.1, cell_below hb h.2.2.1, cell_below hb h.2.2.2⟩
theorem StAt.grown {b : Nat} {s : S100} {V V' : World} (h : StAt b s V) {j : Nat} (hg : V.grownBy V' (some j)) (hj : b ≠ j) : StAt b s V' := ⟨cell_grown hg h.1 hj, cell_grown hg h.2.1 hj, cell_grown hg h.2.2.1 hj, cell_grown hg h.2.2.2 hj⟩
/-- ledger.Check's blocks. -/
structure CkL (w : World) (A0 : Option Addr) (n0 c0 : Nat) (A1 : Option Addr) (n1 c1 : Nat) (A2 : Option Addr) (n2 c2 : Nat) (ops : Int) (V : World) : Prop where
  low : Below w.heap.size w V
  led : V.heap[w.heap.size]? = some (.cells #[.slice A0 n0 c0, .slice A1 n1 c1, .slice A2 n2 c2, .int .i64 ops] 41 (0, 0))

/-- Between two stocks. -/
structure CkA (l0 : List S100) (w : World) (k : Nat) (V : World) : Prop where
  all : ∀ j (h : j < l0.length), j < k → stB l0 j l0[j]
  held : GN V (w.heap.size + 1) k (gNil (l0.take k))
  moved : GN V (w.heap.size + 1 + 1) k (gNil (l0.take k))

theorem grown_below {w w' : World} (h : Below w.heap.size w w') : w.grownBy w' none := ⟨h.os, h.tape, h.output, h.size, fun i hi _ => h.block i hi⟩
theorem grown_refl (w : World) (row : Option Nat) : w.grownBy w row := ⟨rfl, rfl, rfl, Nat.le_refl _, fun _ _ _ => rfl⟩

theorem CkL.below {w : World} {A0 : Option Addr} {n0 c0 : Nat} {A1 : Option Addr} {n1 c1 : Nat} {A2 : Option Addr} {n2 c2 : Nat} {ops : Int} {V V' : World} (h : CkL w A0 n0 c0 A1 n1 c1 A2 n2 c2 ops V) (hb : Below V.heap.size V V') : CkL w A0 n0 c0 A1 n1 c1 A2 n2 c2 ops V' :=
  ⟨h.low.trans (hb.mono h.low.size), (hb.block _ (Array.getElem?_eq_some_iff.1 h.led).1).trans h.led⟩
theorem CkL.grownO {w : World} {A0 : Option Addr} {n0 c0 : Nat} {A1 : Option Addr} {n1 c1 : Nat} {A2 : Option Addr} {n2 c2 : Nat} {ops : Int} {V V' : World} (h : CkL w A0 n0 c0 A1 n1 c1 A2 n2 c2 ops V) {row : Option Nat} (hg : V.grownBy V' row) (hj : ∀ j, row = some j → w.heap.size < j) : CkL w A0 n0 c0 A1 n1 c1 A2 n2 c2 ops V' :=
  ⟨h.low.grown hg h.low.size (fun i hi => by have := hj i hi; omega), (hg.block _ (Array.getElem?_eq_some_iff.1 h.led).1 (fun e => by have := hj _ e.symm; omega)).trans h.led⟩
theorem CkL.grown {w : World} {A0 : Option Addr} {n0 c0 : Nat} {A1 : Option Addr} {n1 c1 : Nat} {A2 : Option Addr} {n2 c2 : Nat} {ops : Int} {V V' : World} (h : CkL w A0 n0 c0 A1 n1 c1 A2 n2 c2 ops V) {j : Nat} (hg : V.grownBy V' (some j)) (hj : w.heap.size < j) : CkL w A0 n0 c0 A1 n1 c1 A2 n2 c2 ops V' := h.grownO hg (fun i hi => by cases hi; exact hj)
theorem CkA.below {l0 : List S100} {w : World} {k : Nat} {V V' : World} (h : CkA l0 w k V) (hb : Below V.heap.size V V') : CkA l0 w k V' :=
  ⟨h.all, h.held.grown (grown_below hb), h.moved.grown (grown_below hb)⟩

theorem name_ok {s : ByteArray} (h : nameB s = true) : s.size ≤ maxLen := by
  have := of_decide_eq_true h
  unfold maxLen
  omega

/-- The round of a stock that may be. -/
theorem CkA.step {l0 : List S100} {w : World} {k : Nat} {V : World} {s : S100} (h : CkA l0 w k V) (hlt : k < l0.length) (hs : s = l0[k]) (hst : stB l0 k s) (hk : k ≤ 30) :
    ∃ (v0 : Value) (st : Int) (wE w2 w3 : World), (Instr.mapEntry 98 (.map (some (w.heap.size + 1))) (.agg #[.string s.f0, .string s.f1])).run Try.prog V = .ok (.tuple #[v0, (.int .i64 st)]) wE ∧
      (Instr.entryStore 98 (.map (some (w.heap.size + 1))) ((.int .i64 st)) (.slice none 0 0)).run Try.prog wE = .ok () w2 ∧
      (Instr.mapUpdate 98 (.map (some (w.heap.size + 1 + 1))) (.agg #[.string s.f0, .string s.f1]) (.slice none 0 0)).run Try.prog w2 = .ok () w3 ∧
      CkA l0 w (k + 1) w3 ∧ V.grownBy wE (some (w.heap.size + 1)) ∧ wE.grownBy w2 (some (w.heap.size + 1)) ∧ w2.grownBy w3 (some (w.heap.size + 1 + 1)) := by
  have hp : plOk (stP s) := ⟨name_ok hst.1, name_ok hst.2.1⟩
  obtain ⟨v0, st, wE, r1, g1, hback⟩ := h.held.entry (by unfold maxLen; omega) hp
  obtain ⟨w2, r2, h2, g2⟩ := hback wE (grown_refl _ _)
  have hm2 := (h.moved.kept g1 (by simp)).kept g2 (by simp)
  obtain ⟨w3, r3, h3, g3⟩ := hm2.update (by unfold maxLen; omega) hp
  have he : l0.take (k + 1) = l0.take k ++ [s] := by rw [take_snoc hlt, hs]
  refine ⟨v0, st, wE, w2, w3, r1, r2, r3, ⟨fun j hj hjk => ?_, ?_, ?_⟩, g1, g2, g3⟩
  · rcases Nat.lt_or_ge j k with h1 | h1
    · exact h.all j hj h1
    · obtain rfl : j = k := by omega
      rw [← hs]
      exact hst
  · rw [he, gNil_snoc]
    exact h2.kept g3 (by simp)
  · rw [he, gNil_snoc]
    exact h3

/-! ### holds and movements -/
open Classical in
/-- A function over the places of stocks. -/
noncomputable def gOf (l0 : List S100) (f : Plc → List Int) : Plc → Option (List Int) := fun p => if p ∈ l0.map stP then some (f p) else none
theorem gOf_known {l0 : List S100} {f : Plc → List Int} {p : Plc} (h : p ∈ l0.map stP) : gOf l0 f p = some (f p) := by unfold gOf; rw [if_pos h]
theorem gOf_not {l0 : List S100} {f : Plc → List Int} {p : Plc} (h : ¬ p ∈ l0.map stP) : gOf l0 f p = none := by unfold gOf; rw [if_neg h]
theorem gOf_upd {l0 : List S100} {f f' : Plc → List Int} {p : Plc} {q : Int} (h : p ∈ l0.map stP) (h1 : f' p = f p ++ [q]) (h2 : ∀ p', p' ≠ p → f' p' = f p') : gOf l0 f' = upd (gOf l0 f) p ((gOf l0 f p).getD [] ++ [q]) := by
  funext p'
  unfold upd
  by_cases e : p' = p
  · rw [if_pos e, e, gOf_known h, gOf_known h, h1]
    rfl
  · rw [if_neg e]
    unfold gOf
    rw [h2 p' e]

open Classical in
/-- What is held, and what has moved, at a place. -/
noncomputable def heldF (l1 : List S107) (p : Plc) : List Int := (l1.filter (fun h => decide (hoP h = p ∧ h.f4 = 0))).map (fun h => h.f3)
open Classical in
noncomputable def movedF (l2 : List S111) (p : Plc) : List Int := (l2.filter (fun m => decide (moP m = p))).map (fun m => m.f3)
theorem heldF_snoc (l1 : List S107) (h : S107) (p : Plc) : heldF (l1 ++ [h]) p = heldF l1 p ++ (if hoP h = p ∧ h.f4 = 0 then [h.f3] else []) := by
  unfold heldF
  rw [List.filter_append, List.map_append]
  by_cases e : hoP h = p ∧ h.f4 = 0
  · rw [if_pos e]; simp [e]
  · rw [if_neg e]
    rw [List.filter_cons_of_neg (by simpa using e)]
    rfl
theorem movedF_snoc (l2 : List S111) (m : S111) (p : Plc) : movedF (l2 ++ [m]) p = movedF l2 p ++ (if moP m = p then [m.f3] else []) := by
  unfold movedF
  rw [List.filter_append, List.map_append]
  by_cases e : moP m = p
  · rw [if_pos e]; simp [e]
  · rw [if_neg e]; simp [e]
/-- May a hold be the k-th one? -/
def hoB (k : Nat) (h : S107) : Prop := h.f0 = (k : Int) + 1 ∧ nameB h.f1 = true ∧ nameB h.f2 = true ∧ 1 ≤ h.f3 ∧ 0 ≤ h.f4 ∧ h.f4 ≤ 2 ∧ 0 ≤ h.f5
instance (k : Nat) (h : S107) : Decidable (hoB k h) := by unfold hoB; infer_instance
theorem name_f (s : ByteArray) : ledger_name.f s = some (nameB s) := by
  unfold ledger_name.f nameB
  by_cases h : (s.size : Int) ≥ 1
  · rw [if_pos h, decide_eq_decide.2 (show (s.size : Int) ≤ 64 ↔ (1 ≤ s.size ∧ s.size ≤ 64) by omega)]
  · rw [if_neg h, decide_eq_false (show ¬ (1 ≤ s.size ∧ s.size ≤ 64) by omega)]
theorem hold_f (k : Nat) (hk : k ≤ 1000) (h : S107) : ledger_hold.f (k : Int) h.f0 h.f1 h.f2 h.f3 h.f4 h.f5 = some (decide (hoB k h)) := by
  have hw : wrap64 ((k : Int) + 1) = (k : Int) + 1 := by unfold wrap64; omega
  unfold ledger_hold.f
  rw [hw, name_f, name_f, Option.bind_some, Option.bind_some]
  unfold hoB
  by_cases h0 : h.f0 = (k : Int) + 1
  · by_cases h1 : nameB h.f1 = true
    · by_cases h2 : nameB h.f2 = true
      · by_cases h3 : 1 ≤ h.f3
        · by_cases h4 : 0 ≤ h.f4
          · by_cases h5 : h.f4 ≤ 2
            · simp [h0, h1, h2, h3, h4, h5]
            · simp [h0, h1, h2, h3, h4, h5]
          · simp [h0, h1, h2, h3, h4]
        · simp [h0, h1, h2, h3]
      · simp [h0, h1, h2]
    · simp [h0, h1]
  · simp [h0]
/-- May a movement be the k-th one? -/
def moB (k : Nat) (m : S111) : Prop := ((m.f4 = 1 ∨ m.f4 = 6 ∨ m.f4 = 7) ∧ m.f5 = 0 ∨ m.f4 = 3 ∧ 1 ≤ m.f5) ∧ (m.f0 = (k : Int) + 1 ∧ nameB m.f1 = true ∧ nameB m.f2 = true ∧ m.f3 ≠ 0)
instance (k : Nat) (m : S111) : Decidable (moB k m) := by unfold moB; infer_instance
theorem move_f (k : Nat) (hk : k ≤ 1000) (m : S111) : ledger_move.f 1 (k : Int) m.f0 m.f1 m.f2 m.f3 m.f4 m.f5 = some (decide (moB k m)) := by
  have hw : wrap64 ((k : Int) + 1) = (k : Int) + 1 := by unfold wrap64; omega
  have hb : ∀ b : Prop, ∀ _ : Decidable b, (if m.f0 = (k : Int) + 1 then (some (nameB m.f1)).bind fun t => (if t = true then (some (nameB m.f2)).bind fun t => (if t = true then some (m.f3 != 0) else some false) else some false) else some false) = some (decide (m.f0 = (k : Int) + 1 ∧ nameB m.f1 = true ∧ nameB m.f2 = true ∧ m.f3 ≠ 0)) := fun _ _ => by
    rw [Option.bind_some, Option.bind_some]
    by_cases h0 : m.f0 = (k : Int) + 1
    · by_cases h1 : nameB m.f1 = true
      · by_cases h2 : nameB m.f2 = true
        · by_cases h3 : m.f3 = 0
          · simp [h0, h1, h2, h3]
          · simp [h0, h1, h2, h3]
        · simp [h0, h1, h2]
      · simp [h0, h1]
    · simp [h0]
  have hb := hb True inferInstance
  unfold ledger_move.f ledger_move.j0
  simp only [hw, name_f]
  rw [hb]
  rw [show decide (moB k m) = (decide ((m.f4 = 1 ∨ m.f4 = 6 ∨ m.f4 = 7) ∧ m.f5 = 0 ∨ m.f4 = 3 ∧ 1 ≤ m.f5) && decide (m.f0 = (k : Int) + 1 ∧ nameB m.f1 = true ∧ nameB m.f2 = true ∧ m.f3 ≠ 0)) from by rw [Bool.eq_iff_iff, decide_eq_true_iff]; simp [moB]]
  generalize decide (m.f0 = (k : Int) + 1 ∧ nameB m.f1 = true ∧ nameB m.f2 = true ∧ m.f3 ≠ 0) = B
  by_cases e1 : m.f4 = 1
  · by_cases e5 : m.f5 = 0
    · simp [e1, e5]
    · simp [e1, e5]
  · by_cases e6 : m.f4 = 6
    · by_cases e5 : m.f5 = 0
      · simp [e6, e5]
      · simp [e6, e5]
    · by_cases e7 : m.f4 = 7
      · by_cases e5 : m.f5 = 0
        · simp [e7, e5]
        · simp [e7, e5]
      · by_cases e3 : m.f4 = 3
        · by_cases e5 : m.f5 < 1
          · have : ¬ 1 ≤ m.f5 := by omega
            simp [e3, e5, this]
          · have : 1 ≤ m.f5 := by omega
            simp [e3, e5, this]
        · simp [e1, e6, e7, e3]

/-- Between two holds. -/
structure CkB (l0 : List S100) (l1 : List S107) (w : World) (k : Nat) (V : World) : Prop where
  all : ∀ j (h : j < l1.length), j < k → hoB j l1[j] ∧ (l1[j].f4 = 0 → hoP l1[j] ∈ l0.map stP)
  held : GM V (w.heap.size + 3) (w.heap.size + 1) (l0.length + k) (gOf l0 (heldF (l1.take k)))
  moved : GN V (w.heap.size + 1 + 1) l0.length (gNil l0)

theorem CkB.below {l0 : List S100} {l1 : List S107} {w : World} {k : Nat} {V V' : World} (h : CkB l0 l1 w k V) (hb : Below V.heap.size V V') : CkB l0 l1 w k V' :=
  ⟨h.all, h.held.grown (grown_below hb), h.moved.grown (grown_below hb)⟩

theorem CkB.skip {l0 : List S100} {l1 : List S107} {w : World} {k : Nat} {V : World} {h : S107} (hI : CkB l0 l1 w k V) (hlt : k < l1.length) (hh : h = l1[k]) (ho : hoB k h) (h4 : h.f4 ≠ 0) : CkB l0 l1 w (k + 1) V := by
  refine ⟨fun j hj hjk => ?_, ?_, hI.moved⟩
  · rcases Nat.lt_or_ge j k with h1 | h1
    · exact hI.all j hj h1
    · obtain rfl : j = k := by omega
      rw [← hh]
      exact ⟨ho, fun e => absurd e h4⟩
  · have e : heldF (l1.take (k + 1)) = heldF (l1.take k) := by
      funext p
      rw [take_snoc hlt, ← hh, heldF_snoc, if_neg (fun e => h4 e.2), List.append_nil]
    rw [e]
    exact hI.held.mono (by omega)

theorem wf_i64 {n : Int} (h : i64B n) : (Lit.int .i64 n).wf = true := WalkArith.wf_i64 h

/-- The list at an entry, grown by one. -/
theorem grow_entry {w : World} {base b n : Nat} {g : Plc → Option (List Int)} {p : Plc} (h : GM w base b n g) (hn : n < 1000) (hp : plOk p) {L : Nat} {q : Int} (hq : i64B q) (ha : w.cell? ⟨L, 0, none⟩ = some (.int .i64 q)) (hab : L ≠ b) (hbase : base ≤ w.heap.size) :
    ∃ (v0 : Value) (st : Int) (wE : World) (v1 : Value) (w1 w2 : World), (Instr.mapEntry 98 (.map (some b)) (.agg #[.string p.1, .string p.2])).run Try.prog w = .ok (.tuple #[v0, .int .i64 st]) wE ∧
      (Builtin.append_ #[105, 105] 105 #[v0, .slice (some ⟨L, 0, none⟩) 1 1]).run Try.prog wE = .ok v1 w1 ∧
      (Instr.entryStore 98 (.map (some b)) (.int .i64 st) v1).run Try.prog w1 = .ok () w2 ∧ GM w2 base b (n + 1) (upd g p ((g p).getD [] ++ [q])) ∧
      w.grownBy wE (some b) ∧ wE.grownBy w1 v0.ownBlock ∧ (∀ j, v0.ownBlock = some j → base ≤ j) ∧ w1.grownBy w2 (some b) := by
  obtain ⟨v0, st, wE, hrun, hgE, ho, hl, hback⟩ := h.entry (by unfold maxLen; omega) hp
  obtain ⟨i0, hi0, hz0, hz1, hz2⟩ := info_parts (info3)
  have haE := cell_grown hgE ha hab
  have hsz := hgE.size
  obtain ⟨v1, w1, r1, ho1, g1, _, hloc⟩ := run_append_own_at (P := Try.prog) wE base 105 105 3 i0 (.int .i64 0) 1 8 Try.underlying105 hi0 hz0 hz1 hz2 rfl (by decide) v0 _ _ ho.1 ⟨L, 0, none⟩ 1 1 [.int .i64 q] rfl
    (fun j u hj => by
      cases j with
      | zero => simp at hj; subst hj; exact haE
      | succ j => simp at hj) (by simp [Value.oneCell']) (by unfold maxLen; omega) (by omega) (by omega)
  obtain ⟨w2, r2, h2, g2⟩ := hback w1 v1 _ g1 (ho.appended ho1 (wf_i64 hq)) (by simp; omega) (hloc.imp id (fun h => ⟨_, h, hsz⟩))
  exact ⟨v0, st, wE, v1, w1, w2, hrun, r1, r2, h2, hgE, g1, fun j hj => (ho.1.lt j hj).1, g2⟩

section
variable {l0 : List S100} {l1 : List S107} {l2 : List S111} {w w3 V V' : World} {k L : Nat} {A0 : Option Addr} {n0 c0 : Nat} {A1 : Option Addr} {n1 c1 : Nat} {A2 : Option Addr} {n2 c2 : Nat} {ops : Int}

theorem CkB.step {h : S107} (hL : CkL w A0 n0 c0 A1 n1 c1 A2 n2 c2 ops V) (hI : CkB l0 l1 w k V) (hlt : k < l1.length) (hh : h = l1[k]) (ho : hoB k h) (h4 : h.f4 = 0) (hkn : hoP h ∈ l0.map stP) (hq : i64B h.f3) (hk : l0.length + k < 1000)
    (ha : V.cell? ⟨L, 0, none⟩ = some (.int .i64 h.f3)) (hLb : L ≠ w.heap.size + 1) (hsz : w.heap.size + 3 ≤ V.heap.size) :
    ∃ (v0 : Value) (st : Int) (wE : World) (v1 : Value) (w1 w2 : World), (Instr.mapEntry 98 (.map (some (w.heap.size + 1))) (.agg #[.string h.f1, .string h.f2])).run Try.prog V = .ok (.tuple #[v0, .int .i64 st]) wE ∧
      (Builtin.append_ #[105, 105] 105 #[v0, .slice (some ⟨L, 0, none⟩) 1 1]).run Try.prog wE = .ok v1 w1 ∧
      (Instr.entryStore 98 (.map (some (w.heap.size + 1))) (.int .i64 st) v1).run Try.prog w1 = .ok () w2 ∧ CkL w A0 n0 c0 A1 n1 c1 A2 n2 c2 ops w2 ∧ CkB l0 l1 w (k + 1) w2 := by
  have hp : plOk (hoP h) := ⟨name_ok ho.2.1, name_ok ho.2.2.1⟩
  obtain ⟨v0, st, wE, v1, w1, w2, r1, r2, r3, hG, g1, g2, hv, g3⟩ := grow_entry hI.held hk hp hq ha hLb hsz
  refine ⟨v0, st, wE, v1, w1, w2, r1, r2, r3, ((hL.grown g1 (by omega)).grownO g2 (fun j hj => by have := hv j hj; omega)).grown g3 (by omega), ⟨fun j hj hjk => ?_, ?_, ((hI.moved.kept g1 (by simp)).kept g2 (fun e => by have := hv _ e.symm; omega)).kept g3 (by simp)⟩⟩
  · rcases Nat.lt_or_ge j k with h1 | h1
    · exact hI.all j hj h1
    · obtain rfl : j = k := by omega
      rw [← hh]
      exact ⟨ho, fun _ => hkn⟩
  · rw [gOf_upd (f := heldF (l1.take k)) (p := hoP h) (q := h.f3) hkn (by rw [take_snoc hlt, ← hh, heldF_snoc, if_pos ⟨rfl, h4⟩]) (fun p' hne => by rw [take_snoc hlt, ← hh, heldF_snoc, if_neg (fun e => hne e.1.symm), List.append_nil])]
    exact hG

theorem grown_over {b : Nat} {row : Option Nat} (h : w3.grownBy V (some b)) (hg : V.grownBy V' row) (hr : ∀ j, row = some j → w3.heap.size ≤ j ∨ j = b) : w3.grownBy V' (some b) :=
  ⟨hg.os.trans h.os, hg.tape.trans h.tape, hg.output.trans h.output, Nat.le_trans h.size hg.size, fun i hi hne => (hg.block i (Nat.lt_of_lt_of_le hi h.size) (fun e => by
    rcases hr i e.symm with h1 | h1
    · omega
    · exact hne (by rw [h1]))).trans (h.block i hi hne)⟩

/-- Between two movements; w3: ahead of all of them. -/
structure CkC (l0 : List S100) (l2 : List S111) (w w3 : World) (k : Nat) (V : World) : Prop where
  all : ∀ j (h : j < l2.length), j < k → moB j l2[j] ∧ moP l2[j] ∈ l0.map stP
  fro : w3.grownBy V (some (w.heap.size + 1 + 1))
  moved : GM V w3.heap.size (w.heap.size + 1 + 1) (l0.length + k) (gOf l0 (movedF (l2.take k)))

theorem CkC.below (h : CkC l0 l2 w w3 k V) (hb : Below V.heap.size V V') : CkC l0 l2 w w3 k V' :=
  ⟨h.all, grown_over h.fro (grown_below hb) (fun j hj => by cases hj), h.moved.grown (grown_below hb)⟩

theorem CkC.step {m : S111} (hL : CkL w A0 n0 c0 A1 n1 c1 A2 n2 c2 ops V) (hI : CkC l0 l2 w w3 k V) (hlt : k < l2.length) (hm : m = l2[k]) (ho : moB k m) (hkn : moP m ∈ l0.map stP) (hq : i64B m.f3) (hk : l0.length + k < 1000)
    (ha : V.cell? ⟨L, 0, none⟩ = some (.int .i64 m.f3)) (hLb : L ≠ w.heap.size + 1 + 1) (hsz : w.heap.size < w3.heap.size) :
    ∃ (v0 : Value) (st : Int) (wE : World) (v1 : Value) (w1 w2 : World), (Instr.mapEntry 98 (.map (some (w.heap.size + 1 + 1))) (.agg #[.string m.f1, .string m.f2])).run Try.prog V = .ok (.tuple #[v0, .int .i64 st]) wE ∧
      (Builtin.append_ #[105, 105] 105 #[v0, .slice (some ⟨L, 0, none⟩) 1 1]).run Try.prog wE = .ok v1 w1 ∧
      (Instr.entryStore 98 (.map (some (w.heap.size + 1 + 1))) (.int .i64 st) v1).run Try.prog w1 = .ok () w2 ∧ CkL w A0 n0 c0 A1 n1 c1 A2 n2 c2 ops w2 ∧ CkC l0 l2 w w3 (k + 1) w2 := by
  have hp : plOk (moP m) := ⟨name_ok ho.2.2.1, name_ok ho.2.2.2.1⟩
  obtain ⟨v0, st, wE, v1, w1, w2, r1, r2, r3, hG, g1, g2, hv, g3⟩ := grow_entry hI.moved hk hp hq ha hLb hI.fro.size
  refine ⟨v0, st, wE, v1, w1, w2, r1, r2, r3, ((hL.grown g1 (by omega)).grownO g2 (fun j hj => by have := hv j hj; omega)).grown g3 (by omega), ⟨fun j hj hjk => ?_, ?_, ?_⟩⟩
  · rcases Nat.lt_or_ge j k with h1 | h1
    · exact hI.all j hj h1
    · obtain rfl : j = k := by omega
      rw [← hm]
      exact ⟨ho, hkn⟩
  · exact grown_over (grown_over (grown_over hI.fro g1 (fun j hj => by cases hj; exact .inr rfl)) g2 (fun j hj => .inl (hv j hj))) g3 (fun j hj => by cases hj; exact .inr rfl)
  · rw [gOf_upd (f := movedF (l2.take k)) (p := moP m) (q := m.f3) hkn (by rw [take_snoc hlt, ← hm, movedF_snoc, if_pos rfl]) (fun p' hne => by rw [take_snoc hlt, ← hm, movedF_snoc, if_neg (fun e => hne e.symm), List.append_nil])]
    exact hG

/-- Behind the stocks. -/
theorem CkA.toB (h : CkA l0 w l0.length V) : CkB l0 l1 w 0 V := by
  have h1 := h.held
  have h2 := h.moved
  rw [List.take_length] at h1 h2
  exact ⟨fun j _ hj => absurd hj (Nat.not_lt_zero _), h1 _ (by omega), h2⟩
/-- Behind the holds. -/
theorem CkB.toC (h : CkB l0 l1 w l1.length V) : CkC l0 l2 w V 0 V :=
  ⟨fun j _ hj => absurd hj (Nat.not_lt_zero _), grown_refl _ _, h.moved _ h.moved.lt⟩
/-- What is held, behind the movements. -/
theorem CkC.heldAt (h : CkC l0 l2 w w3 k V) (hB : CkB l0 l1 w l1.length w3) : GM V (w.heap.size + 3) (w.heap.size + 1) (l0.length + l1.length) (gOf l0 (heldF l1)) := by
  have := hB.held
  rw [List.take_length] at this
  exact this.kept h.fro (by simp) (fun j hj => by cases hj; exact .inl (by omega))
end

/-- append in a region of one order, by an equation of its run. -/
theorem wpList_append_run {P : Program} {ops : Array Oper} {rest : List Oper} {o : Oper} {a : Act} {w : World} {Q : Exit → Act → World → Prop} {v1 : Value} {w1 : World}
    (hg : o.guard = none) (s x : Operand) (t : TypeId) (hop : o.op = Op.call { callee := Callee.builtin Builtin.append, args := #[s, x], argTypes := #[t, t] })
    (hr : (Builtin.append_ #[t, t] o.type #[a.eval s, a.eval x]).run P w = .ok v1 w1) (hK : wpList P ops Q rest (a.put o.dst v1) w1) : wpList P ops Q (o :: rest) a w := by
  refine wpList_plain hg fun K hK' => ?_
  unfold Oper.wp
  simp [execOp, hop, resolve, invoke, builtin, hr, Result.andThen]
  exact hK' _ _ hK

theorem sum_arg {w : World} {base : Nat} {v : Value} {zs : List Int} (h : w.ownsInts base 3 .i64 v zs) : ∃ A c, v = .slice A zs.length c ∧ zs.length ≤ c ∧ Kd.C (Kd.int .i64) w A zs.length zs ∧ In64 zs := by
  obtain ⟨A, c, h1, h2, h3⟩ := Kd.R_reads (Kd.R_of_own (h1 := fun _ => rfl) (ok := fun _ => True) (xs := zs) h.1 (fun _ _ => trivial))
  exact ⟨A, c, h1, h2, h3, fun z hz => bounds_i64 (h.2 z hz)⟩

/-- Between two stocks, at the end. -/
structure CkD (l0 : List S100) (l1 : List S107) (l2 : List S111) (w : World) (base : Nat) (k : Nat) (V : World) : Prop where
  all : ∀ j (h : j < l0.length), j < k → sumOf (heldF l1 (stP l0[j])) = (l0[j].f3, 0) ∧ sumOf (movedF l2 (stP l0[j])) = (l0[j].f2, 0)
  held : GM V (w.heap.size + 3) (w.heap.size + 1) (l0.length + l1.length) (gOf l0 (heldF l1))
  moved : GM V base (w.heap.size + 1 + 1) (l0.length + l2.length) (gOf l0 (movedF l2))
theorem CkD.below {l0 : List S100} {l1 : List S107} {l2 : List S111} {w : World} {base k : Nat} {V V' : World} (h : CkD l0 l1 l2 w base k V) (hb : Below V.heap.size V V') : CkD l0 l1 l2 w base k V' :=
  ⟨h.all, h.held.grown (grown_below hb), h.moved.grown (grown_below hb)⟩
theorem CkC.toD {l0 : List S100} {l1 : List S107} {l2 : List S111} {w w3 V : World} (h : CkC l0 l2 w w3 l2.length V) (hB : CkB l0 l1 w l1.length w3) : CkD l0 l1 l2 w w3.heap.size 0 V := by
  have hm := h.moved
  rw [List.take_length] at hm
  exact ⟨fun j _ hj => absurd hj (Nat.not_lt_zero _), h.heldAt hB, hm⟩
/-- The two sums that a stock is held against. -/
theorem CkD.sums {l0 : List S100} {l1 : List S107} {l2 : List S111} {w : World} {base k : Nat} {V : World} (h : CkD l0 l1 l2 w base k V) {s : S100} (hs : s ∈ l0) (hp : plOk (stP s)) (hn : l0.length + l1.length + l2.length < 1000) :
    (∃ A c, (Instr.lookup 98 (.map (some (w.heap.size + 1))) (.agg #[.string s.f0, .string s.f1]) false).run Try.prog V = .ok (.slice A (heldF l1 (stP s)).length c) V ∧ (heldF l1 (stP s)).length ≤ c ∧ Kd.C (Kd.int .i64) V A (heldF l1 (stP s)).length (heldF l1 (stP s)) ∧ In64 (heldF l1 (stP s))) ∧
    (∃ A c, (Instr.lookup 98 (.map (some (w.heap.size + 1 + 1))) (.agg #[.string s.f0, .string s.f1]) false).run Try.prog V = .ok (.slice A (movedF l2 (stP s)).length c) V ∧ (movedF l2 (stP s)).length ≤ c ∧ Kd.C (Kd.int .i64) V A (movedF l2 (stP s)).length (movedF l2 (stP s)) ∧ In64 (movedF l2 (stP s))) := by
  have hk : stP s ∈ l0.map stP := List.mem_map.2 ⟨s, hs, rfl⟩
  constructor
  · obtain ⟨v, hr, ho, _⟩ := h.held.at (by unfold maxLen; omega) hp
    rw [gOf_known hk] at ho
    obtain ⟨A, c, rfl, h1, h2, h3⟩ := sum_arg ho
    exact ⟨A, c, hr, h1, h2, h3⟩
  · obtain ⟨v, hr, ho, _⟩ := h.moved.at (by unfold maxLen; omega) hp
    rw [gOf_known hk] at ho
    obtain ⟨A, c, rfl, h1, h2, h3⟩ := sum_arg ho
    exact ⟨A, c, hr, h1, h2, h3⟩
end Go.Proofs.Ytofkhcgkahkagaa
/- Contracts of the reference's functions, printed by print.sh for PromiseLines, cut by a program to those that the claim uses. -/
namespace Go.Proofs.Ytofkhcgkahkagaa.PPromiseLines
open Go.RowKit Go.Proofs.YtofkhcgkahkagaaW.PrintWords Go.Proofs.YtofkhcgkahkagaaW.PrintLast Go.Proofs.YtofkhcgkahkagaaW.PrintMore
attribute [local go_sem] max2_int min2_int max_two min_two max_three min_three max_four min_four   -- for this text's walks alone
set_option linter.unusedVariables false
set_option linter.unusedSimpArgs false

-- NOT PRINTED: function 58 (num_Sum)

-- NOT PRINTED: function 38 (ledger_Check)

-- NOT PRINTED: function 78 (api_Receipt_78)

-- NOT PRINTED: function 59 (api_Receipt_59)

-- NOT PRINTED: function 39 (promise_may)

-- NOT PRINTED: function 40 (promise_told)

-- NOT PRINTED: function 44 (promise_work_free)

-- NOT PRINTED: function 62 (promise_work_times)

-- NOT PRINTED: function 41 (promise_work_line)

-- NOT PRINTED: function 20 (promise_Line)

-- NOT PRINTED: function 18 (promise_Earliest)

/-! ### quaysideref06_Name: function 47 -/
def quaysideref06_Name.f (a0 : ByteArray) : Option (Bool) := if (a0.size : Int) ≥ 1 then (some (decide ((a0.size : Int) ≤ 64))) else (some false)
set_option maxHeartbeats 8000000 in
set_option maxRecDepth 100000 in
theorem quaysideref06_Name.calls (a0 : ByteArray) (r : Bool) (w : World) (h : quaysideref06_Name.f a0 = some r) :
    Calls Try.prog 47 #[.string a0] w fun e w' => e = .returned (.bool r) ∧ Drawn0 w w' := by
  have H : (if (a0.size : Int) ≥ 1 then (some (decide ((a0.size : Int) ≤ 64))) else (some false)) = some r := h
  clear h
  by_cases c2 : (a0.size : Int) ≥ 1
  · rw [if_pos c2] at H
    have c2b0 : decide (1 ≤ (a0.size : Int)) = true := decide_eq_true c2
    have c2b1 : decide (1 ≤ a0.size) = true := decide_eq_true (by omega)
    clear c2
    obtain rfl := Option.some.inj H
    go_enter Try.func47, Try.ntmps47
    go_wp2
    go_ret
    exact ⟨by first | rfl | (simp; done) | (simp [*]; done), by repeat (first | exact Drawn0.refl _ | apply Drawn0.step)⟩
  · rw [if_neg c2] at H
    have c2b0 : decide (1 ≤ (a0.size : Int)) = false := decide_eq_false c2
    have c2b1 : decide (1 ≤ a0.size) = false := decide_eq_false (by omega)
    clear c2
    obtain rfl := Option.some.inj H
    go_enter Try.func47, Try.ntmps47
    go_wp2
    go_ret
    exact ⟨by first | rfl | (simp; done) | (simp [*]; done), by repeat (first | exact Drawn0.refl _ | apply Drawn0.step)⟩

end Go.Proofs.Ytofkhcgkahkagaa.PPromiseLines
