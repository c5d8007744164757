/- Texts behind the row of PromiseKeeps, part 17. -/
import Derived.Test.YtofkhcgkahkagaaU15
import Derived.Test.YtofkhcgkahkagaaU16
import Derived.Test.YtofkhcgkahkagaaU11
import Derived.Test.YtofkhcgkahkagaaU02
import Derived.Test.YtofkhcgkahkagaaU05
/- The reference's op.May, of any operation. -/
namespace Go.Proofs.Ytofkhcgkahkagaa
open Go.RowKit Go.Proofs.YtofkhcgkahkagaaW.PrintWords Go.Proofs.YtofkhcgkahkagaaW.PrintLast Go.Proofs.YtofkhcgkahkagaaW.PrintMore Go.Proofs.Ytofkhcgkahkagaa.PPromiseLines
set_option linter.unusedVariables false
set_option linter.unusedSimpArgs false

theorem name6_k (s : ByteArray) : quaysideref06_Name.f s = some (nameB s) := by
  unfold quaysideref06_Name.f nameB
  by_cases h : (s.size : Int) ≥ 1
  · rw [if_pos h]
    congr 1
    rw [decide_eq_decide]
    omega
  · rw [if_neg h]
    congr 1
    rw [eq_comm, decide_eq_false_iff_not]
    omega
theorem empty_k {s : ByteArray} (h : s.toList = ([] : List UInt8)) : s = ⟨#[]⟩ := str_eq.1 (h.trans (Lib.toList_data ⟨#[]⟩).symm)
theorem j2_law (k : Nat) (x4 b69 : Bool) (kind : Int) (sku loc dst : ByteArray) (q id due : Int) (h69 : b69 = true → kind = 3 ∨ kind = 4) :
    ∃ b, quaysideref06_May.j2 (k + 1) (nameB sku && nameB loc) x4 kind b69 kind sku loc dst q id due = some b ∧ (b = true → MayP kind sku loc dst q id due) := by
  simp only [quaysideref06_May.j2, name6_k, Option.bind_some]
  cases b69 with
  | true =>
    have hk := h69 rfl
    rw [if_pos rfl]
    by_cases hid : id ≥ 1
    · have hP : MayP kind sku loc dst q id due := .inr (.inr (.inl ⟨hk, hid⟩))
      repeat' split
      all_goals exact ⟨_, rfl, fun _ => hP⟩
    · rw [if_neg hid]
      repeat' split
      all_goals exact ⟨_, rfl, fun h => by cases h⟩
  | false =>
    rw [if_neg (by decide)]
    by_cases h5 : kind = 5
    · rw [if_pos h5]
      have hP : MayP kind sku loc dst q id due := .inr (.inr (.inr (.inl h5)))
      repeat' split
      all_goals exact ⟨_, rfl, fun _ => hP⟩
    · rw [if_neg h5]
      by_cases h6 : kind = 6
      · rw [if_pos h6]
        by_cases hn : (nameB sku && nameB loc) = true
        · rw [if_pos hn]
          obtain ⟨n1, n2⟩ := Bool.and_eq_true_iff.1 hn
          by_cases n3 : nameB dst = true
          · rw [if_pos n3]
            by_cases he : dst.toList = loc.toList
            · rw [if_pos he]
              exact ⟨_, rfl, fun h => by cases h⟩
            · rw [if_neg he]
              by_cases hq : q ≥ 1
              · have hP : MayP kind sku loc dst q id due := .inr (.inr (.inr (.inr (.inl ⟨h6, n1, n2, n3, fun e => he (by rw [e]), hq⟩))))
                repeat' split
                all_goals exact ⟨_, rfl, fun _ => hP⟩
              · rw [if_neg hq]
                exact ⟨_, rfl, fun h => by cases h⟩
          · rw [if_neg n3]
            exact ⟨_, rfl, fun h => by cases h⟩
        · rw [if_neg hn]
          exact ⟨_, rfl, fun h => by cases h⟩
      · rw [if_neg h6]
        by_cases h7 : kind = 7
        · rw [if_pos h7]
          by_cases hn : (nameB sku && nameB loc) = true
          · rw [if_pos hn]
            obtain ⟨n1, n2⟩ := Bool.and_eq_true_iff.1 hn
            by_cases hq : q = 0
            · rw [if_pos hq]
              repeat' split
              all_goals exact ⟨_, rfl, fun h => by cases h⟩
            · have hP : MayP kind sku loc dst q id due := .inr (.inr (.inr (.inr (.inr ⟨h7, n1, n2, hq⟩))))
              repeat' split
              all_goals exact ⟨_, rfl, fun _ => hP⟩
          · rw [if_neg hn]
            exact ⟨_, rfl, fun h => by cases h⟩
        · rw [if_neg h7]
          exact ⟨_, rfl, fun h => by cases h⟩
theorem j1_law (k : Nat) (x4 : Bool) (kind : Int) (sku loc dst : ByteArray) (q id due : Int) :
    ∃ b, quaysideref06_May.j1 (k + 2) (nameB sku && nameB loc) x4 kind sku loc dst q id due = some b ∧ (b = true → MayP kind sku loc dst q id due) := by
  simp only [quaysideref06_May.j1]
  by_cases h1 : kind = 1
  · rw [if_pos h1]
    by_cases hn : (nameB sku && nameB loc) = true
    · rw [if_pos hn]
      obtain ⟨n1, n2⟩ := Bool.and_eq_true_iff.1 hn
      by_cases hd : dst.toList = ([] : List UInt8)
      · rw [if_pos hd]
        by_cases hq : q ≥ 1
        · rw [if_pos hq]
          by_cases hi : id = 0
          · rw [if_pos hi]
            exact ⟨_, rfl, fun h => .inl ⟨h1, n1, n2, empty_k hd, hq, hi, by simpa using h⟩⟩
          · rw [if_neg hi]
            exact ⟨_, rfl, fun h => by cases h⟩
        · rw [if_neg hq]
          exact ⟨_, rfl, fun h => by cases h⟩
      · rw [if_neg hd]
        exact ⟨_, rfl, fun h => by cases h⟩
    · rw [if_neg hn]
      exact ⟨_, rfl, fun h => by cases h⟩
  · rw [if_neg h1]
    by_cases h2 : kind = 2
    · rw [if_pos h2]
      by_cases hn : (nameB sku && nameB loc) = true
      · rw [if_pos hn]
        obtain ⟨n1, n2⟩ := Bool.and_eq_true_iff.1 hn
        by_cases hd : dst.toList = ([] : List UInt8)
        · rw [if_pos hd]
          by_cases hq : q ≥ 1
          · rw [if_pos hq]
            by_cases hi : id = 0
            · rw [if_pos hi]
              exact ⟨_, rfl, fun h => .inr (.inl ⟨h2, n1, n2, empty_k hd, hq, hi, by simpa using h⟩)⟩
            · rw [if_neg hi]
              exact ⟨_, rfl, fun h => by cases h⟩
          · rw [if_neg hq]
            exact ⟨_, rfl, fun h => by cases h⟩
        · rw [if_neg hd]
          exact ⟨_, rfl, fun h => by cases h⟩
      · rw [if_neg hn]
        exact ⟨_, rfl, fun h => by cases h⟩
    · rw [if_neg h2]
      by_cases h3 : kind = 3
      · rw [if_pos h3]
        exact j2_law k x4 _ kind sku loc dst q id due (fun _ => .inl h3)
      · rw [if_neg h3]
        exact j2_law k x4 _ kind sku loc dst q id due (fun h => .inr (by simpa using h))
theorem j0_law (k : Nat) (kind : Int) (sku loc dst : ByteArray) (q id due : Int) :
    ∃ b, quaysideref06_May.j0 (k + 3) (nameB sku && nameB loc) kind sku loc dst q id due = some b ∧ (b = true → MayP kind sku loc dst q id due) := by
  simp only [quaysideref06_May.j0]
  split
  · exact j1_law k _ kind sku loc dst q id due
  · exact j1_law k _ kind sku loc dst q id due
theorem opmay_all (kind : Int) (sku loc dst : ByteArray) (q id due : Int) :
    ∃ b, (b = true → MayP kind sku loc dst q id due) ∧ ∀ V, Calls Try.prog 69 #[.agg #[.int .i64 kind, .string sku, .string loc, .string dst, .int .i64 q, .int .i64 id, .int .i64 due]] V fun e w' => e = .returned (.bool b) ∧ Below V.heap.size V w' := by
  obtain ⟨b, h1, h2⟩ := j0_law 0 kind sku loc dst q id due
  refine ⟨b, h2, fun V => quaysideref06_May.calls 3 kind sku loc dst q id due b V ?_⟩
  unfold quaysideref06_May.f
  rw [name6_k, name6_k, Option.bind_some, Option.bind_some]
  rw [← h1]
  cases nameB sku with
  | true => rw [if_pos rfl, Bool.true_and]
  | false => rw [if_neg (by decide), Bool.false_and]
end Go.Proofs.Ytofkhcgkahkagaa
/- The reference's Step, of any operation. -/
namespace Go.Proofs.Ytofkhcgkahkagaa
open Go.RowKit Go.Proofs.YtofkhcgkahkagaaW.PrintWords Go.Proofs.YtofkhcgkahkagaaW.PrintLast Go.Proofs.YtofkhcgkahkagaaW.PrintMore Go.Proofs.Ytofkhcgkahkagaa.PPromiseLines
set_option linter.unusedVariables false
set_option linter.unusedSimpArgs false

/-- A ledger of the played ones. -/
def StepR (l0 : List Stk) (l1 : List Hld) (l2 : List Mov) (ops : Int) (w : World) (e : Ending) (w' : World) : Prop :=
  ∃ m0 m1 m2 ops' er, LedEnd2 m0 m1 m2 ops' er w e w' ∧ m0.length ≤ l0.length + 2 ∧ m1.length ≤ l1.length + 1 ∧ m2.length ≤ l2.length + 2 ∧ LInv m0 m1 m2 ∧ 0 ≤ ops' ∧ ops' ≤ ops + 1

section
variable (l0 : List S100) (l1 : List S107) (l2 : List S111) (A0 : Option Addr) (c0 : Nat) (A1 : Option Addr) (c1 : Nat) (A2 : Option Addr) (c2 : Nat) (ops : Int) (w : World)
set_option maxRecDepth 100000 in
set_option maxHeartbeats 4000000 in
theorem step_all (kind q id due : Int) (sku loc dst : ByteArray) (hqd : i64B q ∧ i64B due) (hL : LedgerAt l0 l1 l2 A0 c0 A1 c1 A2 c2 w) (hI : LInv l0 l1 l2) (hl : l0.length ≤ 3000) (hl1 : l1.length ≤ 3000) (hl2 : l2.length ≤ 3000) (ho : 0 ≤ ops ∧ ops < 4611686018427387904) :
    Calls Try.prog 46 #[.agg #[.slice A0 l0.length c0, .slice A1 l1.length c1, .slice A2 l2.length c2, .int .i64 ops], .agg #[.int .i64 kind, .string sku, .string loc, .string dst, .int .i64 q, .int .i64 id, .int .i64 due]] w (StepR l0 l1 l2 ops w) := by
  obtain ⟨b, hb, hmay⟩ := opmay_all kind sku loc dst q id due
  have hdoes : b = true → ∀ V, LedgerAt l0 l1 l2 A0 c0 A1 c1 A2 c2 V → Calls Try.prog 70 #[.agg #[.slice A0 l0.length c0, .slice A1 l1.length c1, .slice A2 l2.length c2, .int .i64 ops], .agg #[.int .i64 kind, .string sku, .string loc, .string dst, .int .i64 q, .int .i64 id, .int .i64 due]] V (DoesR l0 l1 l2 ops V) := fun e V hV => does_all l0 l1 l2 A0 c0 A1 c1 A2 c2 ops V kind sku loc dst q id due (hb e) hqd.1 hqd.2 hV hI (by omega) (by omega) (by omega)
  clear hb hqd
  have hu := Try.underlying41
  have huo := Try.underlying88
  obtain ⟨W0, hW0⟩ : ∃ W0, ((w.alloc (.cells #[.slice A0 l0.length c0, .slice A1 l1.length c1, .slice A2 l2.length c2, .int .i64 ops] 41)).alloc (.cells #[.int .i64 kind, .string sku, .string loc, .string dst, .int .i64 q, .int .i64 id, .int .i64 due] 88)).alloc (.cells #[.slice none 0 0, .slice none 0 0, .slice none 0 0, .int .i64 0] 41) = W0 := ⟨_, rfl⟩
  obtain ⟨hB, h0, h1, h2⟩ : Below w.heap.size w W0 ∧ W0.heap[w.heap.size]? = some (.cells #[.slice A0 l0.length c0, .slice A1 l1.length c1, .slice A2 l2.length c2, .int .i64 ops] 41 (0, 0)) ∧ W0.heap[w.heap.size + 1]? = some (.cells #[.int .i64 kind, .string sku, .string loc, .string dst, .int .i64 q, .int .i64 id, .int .i64 due] 88 (0, 0)) ∧ W0.heap[w.heap.size + 2]? = some (.cells #[.slice none 0 0, .slice none 0 0, .slice none 0 0, .int .i64 0] 41 (0, 0)) := by rw [← hW0]; exact three_boxes
  have hgo : decide ((4611686018427387904 : Int) ≤ ops) = false := decide_eq_false (by omega)
  have hwr : wrap64 (ops + 1) = ops + 1 := by unfold wrap64; omega
  have hd0 : W0.cell? ⟨w.heap.size, 0, none⟩ = some (.slice A0 l0.length c0) := (blk_cell h0 0).trans rfl
  have hd1 : W0.cell? ⟨w.heap.size, 1, none⟩ = some (.slice A1 l1.length c1) := (blk_cell h0 1).trans rfl
  have hd2 : W0.cell? ⟨w.heap.size, 2, none⟩ = some (.slice A2 l2.length c2) := (blk_cell h0 2).trans rfl
  have hd3 : W0.cell? ⟨w.heap.size, 3, none⟩ = some (.int .i64 ops) := (blk_cell h0 3).trans rfl
  have hp0 : W0.cell? ⟨w.heap.size + 1, 0, none⟩ = some (.int .i64 kind) := (blk_cell h1 0).trans rfl
  have hp1 : W0.cell? ⟨w.heap.size + 1, 1, none⟩ = some (.string sku) := (blk_cell h1 1).trans rfl
  have hp2 : W0.cell? ⟨w.heap.size + 1, 2, none⟩ = some (.string loc) := (blk_cell h1 2).trans rfl
  have hp3 : W0.cell? ⟨w.heap.size + 1, 3, none⟩ = some (.string dst) := (blk_cell h1 3).trans rfl
  have hp4 : W0.cell? ⟨w.heap.size + 1, 4, none⟩ = some (.int .i64 q) := (blk_cell h1 4).trans rfl
  have hp5 : W0.cell? ⟨w.heap.size + 1, 5, none⟩ = some (.int .i64 id) := (blk_cell h1 5).trans rfl
  have hp6 : W0.cell? ⟨w.heap.size + 1, 6, none⟩ = some (.int .i64 due) := (blk_cell h1 6).trans rfl
  go_enter Try.func46, Try.ntmps46
  go_wp2_with fail
  refine (hmay _).mono ?_
  clear hmay hW0 hd0 hd1 hd2 hd3 hp0 hp1 hp2 hp3 hp4 hp5 hp6
  rintro e W1 ⟨rfl, hb1⟩
  have k0 := blk_below h0 hb1
  have k1 := blk_below h1 hb1
  have k2 := blk_below h2 hb1
  have hB1 := hB.trans (hb1.mono hB.size)
  clear h0 h1 h2
  cases b with
  | false =>
    clear hdoes hgo hwr
    have hr0 : W1.cell? ⟨w.heap.size + 1 + 1, 0, none⟩ = some (.slice none 0 0) := (blk_cell k2 0).trans rfl
    have hf0 := blk_frozen k2 0
    have hr1 : W1.cell? ⟨w.heap.size + 1 + 1, 1, none⟩ = some (.slice none 0 0) := (blk_cell k2 1).trans rfl
    have hf1 := blk_frozen k2 1
    have hr2 : W1.cell? ⟨w.heap.size + 1 + 1, 2, none⟩ = some (.slice none 0 0) := (blk_cell k2 2).trans rfl
    have hf2 := blk_frozen k2 2
    have hr3 : W1.cell? ⟨w.heap.size + 1 + 1, 3, none⟩ = some (.int .i64 0) := (blk_cell k2 3).trans rfl
    have hf3 := blk_frozen k2 3
    have hd0 : W1.cell? ⟨w.heap.size, 0, none⟩ = some (.slice A0 l0.length c0) := (blk_cell k0 0).trans rfl
    have hd1 : W1.cell? ⟨w.heap.size, 1, none⟩ = some (.slice A1 l1.length c1) := (blk_cell k0 1).trans rfl
    have hd2 : W1.cell? ⟨w.heap.size, 2, none⟩ = some (.slice A2 l2.length c2) := (blk_cell k0 2).trans rfl
    have hd3 : W1.cell? ⟨w.heap.size, 3, none⟩ = some (.int .i64 ops) := (blk_cell k0 3).trans rfl
    have HI := Lib.hid hI
    clear hI
    go_wp2
    refine bodyPost_ret (results_ct rfl _ _ (w.heap.size + 1 + 1) 41 #[.slice A0 l0.length c0, .slice A1 l1.length c1, .slice A2 l2.length c2, .int .i64 ops] (0, 0) _ rfl (put4_blk k2 _ _ _ _) hu rfl (by kernel_rfl)) rfl ?_
    exact ⟨l0, l1, l2, ops, _, ⟨A0, c0, A1, c1, A2, c2, rfl, (hL.below hB1).put4 k2 (noStr_box _ _ _ _ _ _ _ _ _ _) (fun _ h => by cases h) (fun _ h => by cases h) (fun _ h => by cases h), put4_below hB1 (by omega) _ _ _ _⟩, by omega, by omega, by omega, HI.out, ho.1, by omega⟩
  | true =>
    have hcall := hdoes rfl W1 (hL.below hB1)
    clear hdoes
    have hd0 : W1.cell? ⟨w.heap.size, 0, none⟩ = some (.slice A0 l0.length c0) := (blk_cell k0 0).trans rfl
    have hd1 : W1.cell? ⟨w.heap.size, 1, none⟩ = some (.slice A1 l1.length c1) := (blk_cell k0 1).trans rfl
    have hd2 : W1.cell? ⟨w.heap.size, 2, none⟩ = some (.slice A2 l2.length c2) := (blk_cell k0 2).trans rfl
    have hd3 : W1.cell? ⟨w.heap.size, 3, none⟩ = some (.int .i64 ops) := (blk_cell k0 3).trans rfl
    have hp0 : W1.cell? ⟨w.heap.size + 1, 0, none⟩ = some (.int .i64 kind) := (blk_cell k1 0).trans rfl
    have hp1 : W1.cell? ⟨w.heap.size + 1, 1, none⟩ = some (.string sku) := (blk_cell k1 1).trans rfl
    have hp2 : W1.cell? ⟨w.heap.size + 1, 2, none⟩ = some (.string loc) := (blk_cell k1 2).trans rfl
    have hp3 : W1.cell? ⟨w.heap.size + 1, 3, none⟩ = some (.string dst) := (blk_cell k1 3).trans rfl
    have hp4 : W1.cell? ⟨w.heap.size + 1, 4, none⟩ = some (.int .i64 q) := (blk_cell k1 4).trans rfl
    have hp5 : W1.cell? ⟨w.heap.size + 1, 5, none⟩ = some (.int .i64 id) := (blk_cell k1 5).trans rfl
    have hp6 : W1.cell? ⟨w.heap.size + 1, 6, none⟩ = some (.int .i64 due) := (blk_cell k1 6).trans rfl
    go_wp2_with fail
    refine hcall.mono ?_
    clear hcall hd0 hd1 hd2 hd3 hp0 hp1 hp2 hp3 hp4 hp5 hp6
    rintro e W2 ⟨m0, m1, m2, er, ⟨A, c, A1', c1', A2', c2', rfl, hL2, hb2⟩, s0, s1, s2, hI2⟩
    by_cases her : er = 0
    · subst her
      have HI2 := Lib.hid (hI2 rfl)
      have hm : m0.length ≤ 4096 ∧ m1.length ≤ 4096 ∧ m2.length ≤ 4096 := by omega
      clear hI hI2
      obtain ⟨W3, hW3⟩ : ∃ W3, W2.alloc (.cells #[.slice A m0.length c, .slice A1' m1.length c1', .slice A2' m2.length c2', .int .i64 ops] 41) = W3 := ⟨_, rfl⟩
      have hb3 : Below W2.heap.size W2 W3 := by rw [← hW3]; exact (Below.refl _ _).alloc (Nat.le_refl _) _
      have hB2 := below_w hB1 hb2
      have hB3 := below_w hB2 hb3
      have q0 := blk_below (blk_below k0 hb2) hb3
      have q2 := blk_below (blk_below k2 hb2) hb3
      have qn : W3.heap[W2.heap.size]? = some (.cells #[.slice A m0.length c, .slice A1' m1.length c1', .slice A2' m2.length c2', .int .i64 ops] 41 (0, 0)) := by rw [← hW3]; exact blk_new _ _
      have hL3 := hL2.below hb3
      have hlt : w.heap.size + 2 < W2.heap.size := blk_lt (blk_below k2 hb2)
      have hfull := full_calls m0 m1 m2 A c A1' c1' A2' c2' ops W3 hm
      have hs0 : W3.cell? ⟨W2.heap.size, 0, none⟩ = some (.slice A m0.length c) := (blk_cell qn 0).trans rfl
      have hs1 : W3.cell? ⟨W2.heap.size, 1, none⟩ = some (.slice A1' m1.length c1') := (blk_cell qn 1).trans rfl
      have hs2 : W3.cell? ⟨W2.heap.size, 2, none⟩ = some (.slice A2' m2.length c2') := (blk_cell qn 2).trans rfl
      have hs3 : W3.cell? ⟨W2.heap.size, 3, none⟩ = some (.int .i64 ops) := (blk_cell qn 3).trans rfl
      go_wp2_with fail
      refine hfull.mono ?_
      clear hfull hW3 hs0 hs1 hs2 hs3
      rintro e W4 ⟨rfl, hb4⟩
      have r0 := blk_below q0 hb4
      have r2 := blk_below q2 hb4
      have rn := blk_below qn hb4
      have hL4 := hL3.below hb4
      have hB4 := below_w hB3 hb4
      have hs0 : W4.cell? ⟨W2.heap.size, 0, none⟩ = some (.slice A m0.length c) := (blk_cell rn 0).trans rfl
      have hs1 : W4.cell? ⟨W2.heap.size, 1, none⟩ = some (.slice A1' m1.length c1') := (blk_cell rn 1).trans rfl
      have hs2 : W4.cell? ⟨W2.heap.size, 2, none⟩ = some (.slice A2' m2.length c2') := (blk_cell rn 2).trans rfl
      have hs3 : W4.cell? ⟨W2.heap.size, 3, none⟩ = some (.int .i64 ops) := (blk_cell rn 3).trans rfl
      have hd3 : W4.cell? ⟨w.heap.size, 3, none⟩ = some (.int .i64 ops) := (blk_cell r0 3).trans rfl
      have hfn := blk_frozen rn 3
      have hr0 : W4.cell? ⟨w.heap.size + 1 + 1, 0, none⟩ = some (.slice none 0 0) := (blk_cell r2 0).trans rfl
      have hf0 := blk_frozen r2 0
      have hr1 : W4.cell? ⟨w.heap.size + 1 + 1, 1, none⟩ = some (.slice none 0 0) := (blk_cell r2 1).trans rfl
      have hf1 := blk_frozen r2 1
      have hr2 : W4.cell? ⟨w.heap.size + 1 + 1, 2, none⟩ = some (.slice none 0 0) := (blk_cell r2 2).trans rfl
      have hf2 := blk_frozen r2 2
      have hr3 : W4.cell? ⟨w.heap.size + 1 + 1, 3, none⟩ = some (.int .i64 0) := (blk_cell r2 3).trans rfl
      have hf3 := blk_frozen r2 3
      have hn1 : ¬ (w.heap.size + 1 + 1 = W2.heap.size) := by omega
      have hn2 : ¬ (W2.heap.size = w.heap.size + 1 + 1) := by omega
      go_wp2
      have zf := blk_far (p := ⟨W2.heap.size, 3, none⟩) r2 (by show w.heap.size + 2 ≠ W2.heap.size; omega) (.int .i64 (ops + 1))
      refine bodyPost_ret (results_ct rfl _ _ (w.heap.size + 1 + 1) 41 #[.slice A m0.length c, .slice A1' m1.length c1', .slice A2' m2.length c2', .int .i64 (ops + 1)] (0, 0) _ rfl (put4_blk zf _ _ _ _) hu rfl (by kernel_rfl)) rfl ?_
      exact ⟨m0, m1, m2, ops + 1, _, ⟨A, c, A1', c1', A2', c2', rfl, (hL4.set rn (noStr_box _ _ _ _ _ _ _ _ _ _) 3 (.int .i64 (ops + 1))).put4 zf (noStr_box _ _ _ _ _ _ _ _ _ _) (fun _ h => by cases h) (fun _ h => by cases h) (fun _ h => by cases h), put4_below (below_set hB4 (by omega)) (by omega) _ _ _ _⟩, by omega, by omega, by omega, HI2.out, by omega, by omega⟩
    · have herb : (er != 0) = true := by simpa using her
      have herc : (er == 0) = false := by simpa using her
      clear her hI2 s0 s1 s2 hL2 hgo hwr
      obtain ⟨W3, hW3⟩ : ∃ W3, W2.alloc (.cells #[.slice A m0.length c, .slice A1' m1.length c1', .slice A2' m2.length c2', .int .i64 ops] 41) = W3 := ⟨_, rfl⟩
      have hb3 : Below W2.heap.size W2 W3 := by rw [← hW3]; exact (Below.refl _ _).alloc (Nat.le_refl _) _
      have q0 := blk_below (blk_below k0 hb2) hb3
      have q2 := blk_below (blk_below k2 hb2) hb3
      have hB3 := below_w (below_w hB1 hb2) hb3
      clear k0 k1 k2
      have hr0 : W3.cell? ⟨w.heap.size + 1 + 1, 0, none⟩ = some (.slice none 0 0) := (blk_cell q2 0).trans rfl
      have hf0 := blk_frozen q2 0
      have hr1 : W3.cell? ⟨w.heap.size + 1 + 1, 1, none⟩ = some (.slice none 0 0) := (blk_cell q2 1).trans rfl
      have hf1 := blk_frozen q2 1
      have hr2 : W3.cell? ⟨w.heap.size + 1 + 1, 2, none⟩ = some (.slice none 0 0) := (blk_cell q2 2).trans rfl
      have hf2 := blk_frozen q2 2
      have hr3 : W3.cell? ⟨w.heap.size + 1 + 1, 3, none⟩ = some (.int .i64 0) := (blk_cell q2 3).trans rfl
      have hf3 := blk_frozen q2 3
      have hd0 : W3.cell? ⟨w.heap.size, 0, none⟩ = some (.slice A0 l0.length c0) := (blk_cell q0 0).trans rfl
      have hd1 : W3.cell? ⟨w.heap.size, 1, none⟩ = some (.slice A1 l1.length c1) := (blk_cell q0 1).trans rfl
      have hd2 : W3.cell? ⟨w.heap.size, 2, none⟩ = some (.slice A2 l2.length c2) := (blk_cell q0 2).trans rfl
      have hd3 : W3.cell? ⟨w.heap.size, 3, none⟩ = some (.int .i64 ops) := (blk_cell q0 3).trans rfl
      have HI := Lib.hid hI
      clear hI
      go_wp2
      refine bodyPost_ret (results_ct rfl _ _ (w.heap.size + 1 + 1) 41 #[.slice A0 l0.length c0, .slice A1 l1.length c1, .slice A2 l2.length c2, .int .i64 ops] (0, 0) _ rfl (put4_blk q2 _ _ _ _) hu rfl (by kernel_rfl)) rfl ?_
      exact ⟨l0, l1, l2, ops, _, ⟨A0, c0, A1, c1, A2, c2, rfl, (hL.below hB3).put4 q2 (noStr_box _ _ _ _ _ _ _ _ _ _) (fun _ h => by cases h) (fun _ h => by cases h) (fun _ h => by cases h), put4_below hB3 (by omega) _ _ _ _⟩, by omega, by omega, by omega, HI.out, ho.1, by omega⟩
end
end Go.Proofs.Ytofkhcgkahkagaa
/- The words for api.Op, as the kit's print has them for PromiseKeeps. -/
namespace Go.Proofs.Ytofkhcgkahkagaa.PPromiseLines
open Go.RowKit Go.Proofs.YtofkhcgkahkagaaW.PrintWords Go.Proofs.YtofkhcgkahkagaaW.PrintLast Go.Proofs.YtofkhcgkahkagaaW.PrintMore
set_option linter.unusedVariables false
set_option linter.unusedSimpArgs false
/-! #### api.Op (as printed for PromiseKeeps) -/
structure S88 where
  f0 : Int
  f1 : ByteArray
  f2 : ByteArray
  f3 : ByteArray
  f4 : Int
  f5 : Int
  f6 : Int
def z88 : S88 := ⟨(0 : Int), (⟨#[]⟩ : ByteArray), (⟨#[]⟩ : ByteArray), (⟨#[]⟩ : ByteArray), (0 : Int), (0 : Int), (0 : Int)⟩
def k88 : Kd S88 := Kd.iso (Kd.pair (Kd.int .i64) (Kd.pair Kd.string (Kd.pair Kd.string (Kd.pair Kd.string (Kd.pair (Kd.int .i64) (Kd.pair (Kd.int .i64) (Kd.int .i64))))))) (fun x : S88 => (x.f0, x.f1, x.f2, x.f3, x.f4, x.f5, x.f6))
theorem k88_open {w : World} {x : S88} {cs : List Value} (h : k88.K w x cs) : cs = [.int .i64 x.f0, .string x.f1, .string x.f2, .string x.f3, .int .i64 x.f4, .int .i64 x.f5, .int .i64 x.f6] := by
  obtain ⟨_, _, rfl, rfl, ⟨_, _, rfl, rfl, ⟨_, _, rfl, rfl, ⟨_, _, rfl, rfl, ⟨_, _, rfl, rfl, ⟨_, _, rfl, rfl, rfl⟩⟩⟩⟩⟩⟩ := h
  exact rfl
theorem k88_mkM (w : World) (base : Nat) (ok : Nat → Prop) (x : S88)  : k88.M w base ok x [.int .i64 x.f0, .string x.f1, .string x.f2, .string x.f3, .int .i64 x.f4, .int .i64 x.f5, .int .i64 x.f6] := ⟨[.int .i64 x.f0], [.string x.f1, .string x.f2, .string x.f3, .int .i64 x.f4, .int .i64 x.f5, .int .i64 x.f6], rfl, rfl, ⟨[.string x.f1], [.string x.f2, .string x.f3, .int .i64 x.f4, .int .i64 x.f5, .int .i64 x.f6], rfl, rfl, ⟨[.string x.f2], [.string x.f3, .int .i64 x.f4, .int .i64 x.f5, .int .i64 x.f6], rfl, rfl, ⟨[.string x.f3], [.int .i64 x.f4, .int .i64 x.f5, .int .i64 x.f6], rfl, rfl, ⟨[.int .i64 x.f4], [.int .i64 x.f5, .int .i64 x.f6], rfl, rfl, ⟨[.int .i64 x.f5], [.int .i64 x.f6], rfl, rfl, rfl⟩⟩⟩⟩⟩⟩
def rd_T88 (xs : List S88) (i : Int) : S88 := xs.getD i.toNat z88
theorem at_T88 {w : World} {A : Option Addr} {n : Nat} {xs : List S88} (h : Kd.C k88 w A n xs) (i : Int) (h0 : 0 ≤ i) (h1 : i < n) : ∃ ad , A = some ad ∧ w.cell? (ad.add (i.toNat * 7)) = some (.int .i64 (rd_T88 xs i).f0) ∧ w.cell? ⟨(ad.add (i.toNat * 7)).block, (ad.add (i.toNat * 7)).off + 1, none⟩ = some (.string (rd_T88 xs i).f1) ∧ w.cell? ⟨(ad.add (i.toNat * 7)).block, (ad.add (i.toNat * 7)).off + 2, none⟩ = some (.string (rd_T88 xs i).f2) ∧ w.cell? ⟨(ad.add (i.toNat * 7)).block, (ad.add (i.toNat * 7)).off + 3, none⟩ = some (.string (rd_T88 xs i).f3) ∧ w.cell? ⟨(ad.add (i.toNat * 7)).block, (ad.add (i.toNat * 7)).off + 4, none⟩ = some (.int .i64 (rd_T88 xs i).f4) ∧ w.cell? ⟨(ad.add (i.toNat * 7)).block, (ad.add (i.toNat * 7)).off + 5, none⟩ = some (.int .i64 (rd_T88 xs i).f5) ∧ w.cell? ⟨(ad.add (i.toNat * 7)).block, (ad.add (i.toNat * 7)).off + 6, none⟩ = some (.int .i64 (rd_T88 xs i).f6) := by
  obtain ⟨ad, c, e, _, hK, hc0⟩ := Kd.C_get h z88 i h0 h1
  have hc : ∀ j u, c[j]? = some u → w.cell? (ad.add (i.toNat * 7 + j)) = some u := hc0
  obtain rfl := k88_open hK
  exact ⟨ad, e, hc 0 _ rfl, by rw [← add_field _ _ 1 (by omega)]; exact hc 1 _ rfl, by rw [← add_field _ _ 2 (by omega)]; exact hc 2 _ rfl, by rw [← add_field _ _ 3 (by omega)]; exact hc 3 _ rfl, by rw [← add_field _ _ 4 (by omega)]; exact hc 4 _ rfl, by rw [← add_field _ _ 5 (by omega)]; exact hc 5 _ rfl, by rw [← add_field _ _ 6 (by omega)]; exact hc 6 _ rfl⟩
end Go.Proofs.Ytofkhcgkahkagaa.PPromiseLines
/- play: a ledger behind operations. -/
namespace Go.Proofs.Ytofkhcgkahkagaa
open Go.RowKit Go.Proofs.YtofkhcgkahkagaaW.PrintWords Go.Proofs.YtofkhcgkahkagaaW.PrintLast Go.Proofs.YtofkhcgkahkagaaW.PrintMore Go.Proofs.Ytofkhcgkahkagaa.PPromiseLines
set_option linter.unusedVariables false
set_option linter.unusedSimpArgs false

abbrev Opr := S88
def OprG (o : Opr) : Prop := i64B o.f0 ∧ i64B o.f4 ∧ i64B o.f5 ∧ i64B o.f6
/-- Between two operations. -/
structure PlI (w : World) (os : List Opr) (S : Option Addr) (k : Nat) (m0 : List Stk) (m1 : List Hld) (m2 : List Mov) (nn : Int) (B0 : Option Addr) (d0 : Nat) (B1 : Option Addr) (d1 : Nat) (B2 : Option Addr) (d2 : Nat) (V : World) : Prop where
  low : Below w.heap.size w V
  res : V.heap[w.heap.size]? = some (.cells #[.slice none 0 0, .slice none 0 0, .slice none 0 0, .int .i64 0] 41 (0, 0))
  led : V.heap[w.heap.size + 1]? = some (.cells #[.slice B0 m0.length d0, .slice B1 m1.length d1, .slice B2 m2.length d2, .int .i64 nn] 41 (0, 0))
  at_ : LedgerAt m0 m1 m2 B0 d0 B1 d1 B2 d2 V
  ops : Kd.C k88 V S os.length os
  inv : LInv m0 m1 m2
  k14 : k ≤ 14
  e0 : m0.length ≤ 2 * k
  e1 : m1.length ≤ k
  e2 : m2.length ≤ 2 * k
  nn0 : 0 ≤ nn ∧ nn ≤ k
/-- What play answers. -/
def PlayEnd (w : World) (e : Ending) (w' : World) : Prop :=
  ∃ b m0 m1 m2 nn B0 d0 B1 d1 B2 d2, e = .returned (.tuple #[.agg #[.slice B0 m0.length d0, .slice B1 m1.length d1, .slice B2 m2.length d2, .int .i64 nn], .bool b]) ∧ LedgerAt m0 m1 m2 B0 d0 B1 d1 B2 d2 w' ∧ Below w.heap.size w w' ∧ LInv m0 m1 m2 ∧ m0.length ≤ 28 ∧ m1.length ≤ 14 ∧ m2.length ≤ 28 ∧ 0 ≤ nn ∧ nn ≤ 14
section
variable (os : List Opr) (S : Option Addr) (c : Nat) (w : World)
set_option maxRecDepth 100000 in
set_option maxHeartbeats 4000000 in
theorem play_calls (hC : Kd.C k88 w S os.length os) (hG : ∀ o ∈ os, OprG o) (hmaxo : os.length ≤ 9223372036854775807) :
    Calls Try.prog 25 #[.slice S os.length c] w (PlayEnd w) := by
  have hu := Try.underlying41
  have huo := Try.underlying88
  obtain ⟨W0, hW0⟩ : ∃ W0, (w.alloc (.cells #[.slice none 0 0, .slice none 0 0, .slice none 0 0, .int .i64 0] 41)).alloc (.cells #[.slice none 0 0, .slice none 0 0, .slice none 0 0, .int .i64 0] 41) = W0 := ⟨_, rfl⟩
  obtain ⟨hB, h0, h1⟩ : Below w.heap.size w W0 ∧ W0.heap[w.heap.size]? = some (.cells #[.slice none 0 0, .slice none 0 0, .slice none 0 0, .int .i64 0] 41 (0, 0)) ∧ W0.heap[w.heap.size + 1]? = some (.cells #[.slice none 0 0, .slice none 0 0, .slice none 0 0, .int .i64 0] 41 (0, 0)) := by rw [← hW0]; exact two_boxes
  obtain ⟨V0, hV0⟩ : ∃ V0, put4 W0 (w.heap.size + 1) (.slice none 0 0) (.slice none 0 0) (.slice none 0 0) (.int .i64 0) = V0 := ⟨_, rfl⟩
  have HE0 := Lib.hid (show PlI w os S 0 [] [] [] 0 none 0 none 0 none 0 V0 from by
    have hbel : Below w.heap.size w V0 := by rw [← hV0]; exact put4_below hB (by omega) _ _ _ _
    rw [← hV0] at hbel ⊢
    exact ⟨hbel, put4_far h0 (by omega) _ _ _ _, put4_blk h1 _ _ _ _, ⟨Kd.C_nil _ _, Kd.C_nil _ _, Kd.C_nil _ _, Nat.le_refl _, Nat.le_refl _, Nat.le_refl _⟩, Kd.C_below hC hbel, LInv.empty, by omega, Nat.le_refl _, Nat.le_refl _, Nat.le_refl _, by omega⟩)
  unfold put4 at hV0
  have hd0 : W0.cell? ⟨w.heap.size + 1, 0, none⟩ = some (.slice none 0 0) := (blk_cell h1 0).trans rfl
  have hz0 := blk_frozen h1 0
  have hd1 : W0.cell? ⟨w.heap.size + 1, 1, none⟩ = some (.slice none 0 0) := (blk_cell h1 1).trans rfl
  have hz1 := blk_frozen h1 1
  have hd2 : W0.cell? ⟨w.heap.size + 1, 2, none⟩ = some (.slice none 0 0) := (blk_cell h1 2).trans rfl
  have hz2 := blk_frozen h1 2
  have hd3 : W0.cell? ⟨w.heap.size + 1, 3, none⟩ = some (.int .i64 0) := (blk_cell h1 3).trans rfl
  have hz3 := blk_frozen h1 3
  go_enter Try.func25, Try.ntmps25
  go_wp2
  go_loopw [5] (fun i wr => ∃ (k : Nat) (m0 : List Stk) (m1 : List Hld) (m2 : List Mov) (nn : Int) (B0 : Option Addr) (d0 : Nat) (B1 : Option Addr) (d1 : Nat) (B2 : Option Addr) (d2 : Nat), k ≤ os.length ∧ i = .int .i64 k ∧ PlI w os S k m0 m1 m2 nn B0 d0 B1 d1 B2 d2 wr)
    (fun i _ => os.length - (intOf i).toNat)
  case atStart => exact ⟨0, [], [], [], 0, _, _, _, _, _, _, Nat.zero_le _, rfl, HE0.out⟩
  case round =>
    obtain ⟨k, m0, m1, m2, nn, B0, d0, B1, d1, B2, d2, hk, rfl, hE⟩ := hrel
    clear HE0 hd0 hd1 hd2 hd3 hz0 hz1 hz2 hz3 h0 h1 hV0 hW0 hB
    by_cases hlt : k < os.length
    · have hd : decide ((k : Int) < (os.length : Int)) = true := decide_eq_true (by omega)
      have hk1 : (k : Int) < (os.length : Int) := by omega
      have hk2 : (0 : Int) ≤ (k : Int) := Int.natCast_nonneg _
      obtain ⟨ad, rfl, x0, x1, x2, x3, x4, x5, x6⟩ := at_T88 hC (k : Int) (by omega) (by omega)
      rw [Int.toNat_natCast] at x0 x1 x2 x3 x4 x5 x6
      have hr : rd_T88 os k = os[k] := by unfold rd_T88; rw [Int.toNat_natCast, List.getD_eq_getElem?_getD, List.getElem?_eq_getElem hlt]; rfl
      rw [hr] at x0 x1 x2 x3 x4 x5 x6
      have ho := hG os[k] (List.getElem_mem hlt)
      obtain ⟨o, hoo⟩ : ∃ o, os[k] = o := ⟨_, rfl⟩
      rw [hoo] at x0 x1 x2 x3 x4 x5 x6 ho
      clear hr hoo
      have y0 := cell_below hE.low x0
      have y1 := cell_below hE.low x1
      have y2 := cell_below hE.low x2
      have y3 := cell_below hE.low x3
      have y4 := cell_below hE.low x4
      have y5 := cell_below hE.low x5
      have y6 := cell_below hE.low x6
      by_cases h14 : 14 ≤ k
      · have h14b : decide ((14 : Int) ≤ (k : Int)) = true := decide_eq_true (by omega)
        clear h14
        have h1 := hE.led
        have h2 := hE.res
        have hd0 : wr.cell? ⟨w.heap.size + 1, 0, none⟩ = some (.slice B0 m0.length d0) := (blk_cell h1 0).trans rfl
        have hd1 : wr.cell? ⟨w.heap.size + 1, 1, none⟩ = some (.slice B1 m1.length d1) := (blk_cell h1 1).trans rfl
        have hd2 : wr.cell? ⟨w.heap.size + 1, 2, none⟩ = some (.slice B2 m2.length d2) := (blk_cell h1 2).trans rfl
        have hd3 : wr.cell? ⟨w.heap.size + 1, 3, none⟩ = some (.int .i64 nn) := (blk_cell h1 3).trans rfl
        have hr0 : wr.cell? ⟨w.heap.size, 0, none⟩ = some (.slice none 0 0) := (blk_cell h2 0).trans rfl
        have hf0 := blk_frozen h2 0
        have hr1 : wr.cell? ⟨w.heap.size, 1, none⟩ = some (.slice none 0 0) := (blk_cell h2 1).trans rfl
        have hf1 := blk_frozen h2 1
        have hr2 : wr.cell? ⟨w.heap.size, 2, none⟩ = some (.slice none 0 0) := (blk_cell h2 2).trans rfl
        have hf2 := blk_frozen h2 2
        have hr3 : wr.cell? ⟨w.heap.size, 3, none⟩ = some (.int .i64 0) := (blk_cell h2 3).trans rfl
        have hf3 := blk_frozen h2 3
        have HE := Lib.hid hE
        clear hE
        go_wp2
        refine bodyPost_ret (results_ct rfl _ _ w.heap.size 41 #[.slice B0 m0.length d0, .slice B1 m1.length d1, .slice B2 m2.length d2, .int .i64 nn] (0, 0) _ rfl (put4_blk h2 _ _ _ _) hu rfl (by kernel_rfl)) rfl ?_
        exact ⟨_, m0, m1, m2, nn, B0, d0, B1, d1, B2, d2, rfl, HE.out.at_.put4 h2 (noStr_box _ _ _ _ _ _ _ _ _ _) (fun _ h => by cases h) (fun _ h => by cases h) (fun _ h => by cases h), put4_below HE.out.low (Nat.le_refl _) _ _ _ _, HE.out.inv, by have := HE.out.e0; have := HE.out.k14; omega, by have := HE.out.e1; have := HE.out.k14; omega, by have := HE.out.e2; have := HE.out.k14; omega, HE.out.nn0.1, by have := HE.out.nn0; have := HE.out.k14; omega⟩
      · have h14b : decide ((14 : Int) ≤ (k : Int)) = false := decide_eq_false (by omega)
        by_cases h1 : 64 < (o.f1.size : Int)
        · have h1b : decide (64 < (o.f1.size : Int)) = true := decide_eq_true h1
          clear h1 h14
          have g1 := hE.led
          have h2 := hE.res
          have hd0 : wr.cell? ⟨w.heap.size + 1, 0, none⟩ = some (.slice B0 m0.length d0) := (blk_cell g1 0).trans rfl
          have hd1 : wr.cell? ⟨w.heap.size + 1, 1, none⟩ = some (.slice B1 m1.length d1) := (blk_cell g1 1).trans rfl
          have hd2 : wr.cell? ⟨w.heap.size + 1, 2, none⟩ = some (.slice B2 m2.length d2) := (blk_cell g1 2).trans rfl
          have hd3 : wr.cell? ⟨w.heap.size + 1, 3, none⟩ = some (.int .i64 nn) := (blk_cell g1 3).trans rfl
          have hr0 : wr.cell? ⟨w.heap.size, 0, none⟩ = some (.slice none 0 0) := (blk_cell h2 0).trans rfl
          have hf0 := blk_frozen h2 0
          have hr1 : wr.cell? ⟨w.heap.size, 1, none⟩ = some (.slice none 0 0) := (blk_cell h2 1).trans rfl
          have hf1 := blk_frozen h2 1
          have hr2 : wr.cell? ⟨w.heap.size, 2, none⟩ = some (.slice none 0 0) := (blk_cell h2 2).trans rfl
          have hf2 := blk_frozen h2 2
          have hr3 : wr.cell? ⟨w.heap.size, 3, none⟩ = some (.int .i64 0) := (blk_cell h2 3).trans rfl
          have hf3 := blk_frozen h2 3
          have HE := Lib.hid hE
          clear hE
          go_wp2
          refine bodyPost_ret (results_ct rfl _ _ w.heap.size 41 #[.slice B0 m0.length d0, .slice B1 m1.length d1, .slice B2 m2.length d2, .int .i64 nn] (0, 0) _ rfl (put4_blk h2 _ _ _ _) hu rfl (by kernel_rfl)) rfl ?_
          exact ⟨_, m0, m1, m2, nn, B0, d0, B1, d1, B2, d2, rfl, HE.out.at_.put4 h2 (noStr_box _ _ _ _ _ _ _ _ _ _) (fun _ h => by cases h) (fun _ h => by cases h) (fun _ h => by cases h), put4_below HE.out.low (Nat.le_refl _) _ _ _ _, HE.out.inv, by have := HE.out.e0; have := HE.out.k14; omega, by have := HE.out.e1; have := HE.out.k14; omega, by have := HE.out.e2; have := HE.out.k14; omega, HE.out.nn0.1, by have := HE.out.nn0; have := HE.out.k14; omega⟩
        · have h1b : decide (64 < (o.f1.size : Int)) = false := decide_eq_false h1
          clear h1
          by_cases h1 : 64 < (o.f2.size : Int)
          · have h2b : decide (64 < (o.f2.size : Int)) = true := decide_eq_true h1
            clear h1 h14
            have g1 := hE.led
            have h2 := hE.res
            have hd0 : wr.cell? ⟨w.heap.size + 1, 0, none⟩ = some (.slice B0 m0.length d0) := (blk_cell g1 0).trans rfl
            have hd1 : wr.cell? ⟨w.heap.size + 1, 1, none⟩ = some (.slice B1 m1.length d1) := (blk_cell g1 1).trans rfl
            have hd2 : wr.cell? ⟨w.heap.size + 1, 2, none⟩ = some (.slice B2 m2.length d2) := (blk_cell g1 2).trans rfl
            have hd3 : wr.cell? ⟨w.heap.size + 1, 3, none⟩ = some (.int .i64 nn) := (blk_cell g1 3).trans rfl
            have hr0 : wr.cell? ⟨w.heap.size, 0, none⟩ = some (.slice none 0 0) := (blk_cell h2 0).trans rfl
            have hf0 := blk_frozen h2 0
            have hr1 : wr.cell? ⟨w.heap.size, 1, none⟩ = some (.slice none 0 0) := (blk_cell h2 1).trans rfl
            have hf1 := blk_frozen h2 1
            have hr2 : wr.cell? ⟨w.heap.size, 2, none⟩ = some (.slice none 0 0) := (blk_cell h2 2).trans rfl
            have hf2 := blk_frozen h2 2
            have hr3 : wr.cell? ⟨w.heap.size, 3, none⟩ = some (.int .i64 0) := (blk_cell h2 3).trans rfl
            have hf3 := blk_frozen h2 3
            have HE := Lib.hid hE
            clear hE
            go_wp2
            refine bodyPost_ret (results_ct rfl _ _ w.heap.size 41 #[.slice B0 m0.length d0, .slice B1 m1.length d1, .slice B2 m2.length d2, .int .i64 nn] (0, 0) _ rfl (put4_blk h2 _ _ _ _) hu rfl (by kernel_rfl)) rfl ?_
            exact ⟨_, m0, m1, m2, nn, B0, d0, B1, d1, B2, d2, rfl, HE.out.at_.put4 h2 (noStr_box _ _ _ _ _ _ _ _ _ _) (fun _ h => by cases h) (fun _ h => by cases h) (fun _ h => by cases h), put4_below HE.out.low (Nat.le_refl _) _ _ _ _, HE.out.inv, by have := HE.out.e0; have := HE.out.k14; omega, by have := HE.out.e1; have := HE.out.k14; omega, by have := HE.out.e2; have := HE.out.k14; omega, HE.out.nn0.1, by have := HE.out.nn0; have := HE.out.k14; omega⟩
          · have h2b : decide (64 < (o.f2.size : Int)) = false := decide_eq_false h1
            clear h1
            by_cases h1 : 64 < (o.f3.size : Int)
            · have h3b : decide (64 < (o.f3.size : Int)) = true := decide_eq_true h1
              clear h1 h14
              have g1 := hE.led
              have h2 := hE.res
              have hd0 : wr.cell? ⟨w.heap.size + 1, 0, none⟩ = some (.slice B0 m0.length d0) := (blk_cell g1 0).trans rfl
              have hd1 : wr.cell? ⟨w.heap.size + 1, 1, none⟩ = some (.slice B1 m1.length d1) := (blk_cell g1 1).trans rfl
              have hd2 : wr.cell? ⟨w.heap.size + 1, 2, none⟩ = some (.slice B2 m2.length d2) := (blk_cell g1 2).trans rfl
              have hd3 : wr.cell? ⟨w.heap.size + 1, 3, none⟩ = some (.int .i64 nn) := (blk_cell g1 3).trans rfl
              have hr0 : wr.cell? ⟨w.heap.size, 0, none⟩ = some (.slice none 0 0) := (blk_cell h2 0).trans rfl
              have hf0 := blk_frozen h2 0
              have hr1 : wr.cell? ⟨w.heap.size, 1, none⟩ = some (.slice none 0 0) := (blk_cell h2 1).trans rfl
              have hf1 := blk_frozen h2 1
              have hr2 : wr.cell? ⟨w.heap.size, 2, none⟩ = some (.slice none 0 0) := (blk_cell h2 2).trans rfl
              have hf2 := blk_frozen h2 2
              have hr3 : wr.cell? ⟨w.heap.size, 3, none⟩ = some (.int .i64 0) := (blk_cell h2 3).trans rfl
              have hf3 := blk_frozen h2 3
              have HE := Lib.hid hE
              clear hE
              go_wp2
              refine bodyPost_ret (results_ct rfl _ _ w.heap.size 41 #[.slice B0 m0.length d0, .slice B1 m1.length d1, .slice B2 m2.length d2, .int .i64 nn] (0, 0) _ rfl (put4_blk h2 _ _ _ _) hu rfl (by kernel_rfl)) rfl ?_
              exact ⟨_, m0, m1, m2, nn, B0, d0, B1, d1, B2, d2, rfl, HE.out.at_.put4 h2 (noStr_box _ _ _ _ _ _ _ _ _ _) (fun _ h => by cases h) (fun _ h => by cases h) (fun _ h => by cases h), put4_below HE.out.low (Nat.le_refl _) _ _ _ _, HE.out.inv, by have := HE.out.e0; have := HE.out.k14; omega, by have := HE.out.e1; have := HE.out.k14; omega, by have := HE.out.e2; have := HE.out.k14; omega, HE.out.nn0.1, by have := HE.out.nn0; have := HE.out.k14; omega⟩
            · have h3b : decide (64 < (o.f3.size : Int)) = false := decide_eq_false h1
              clear h1
              have hE0 := hE.e0
              have hE1 := hE.e1
              have hE2 := hE.e2
              have hEn := hE.nn0
              have g1 := hE.led
              have g0 := hE.res
              have HB := Lib.hid (show k < 14 ∧ m0.length ≤ 2 * k ∧ m1.length ≤ k ∧ m2.length ≤ 2 * k ∧ 0 ≤ nn ∧ nn ≤ k from by omega)
              clear hE0 hE1 hE2 hEn h14
              have hd0 : wr.cell? ⟨w.heap.size + 1, 0, none⟩ = some (.slice B0 m0.length d0) := (blk_cell g1 0).trans rfl
              have hd1 : wr.cell? ⟨w.heap.size + 1, 1, none⟩ = some (.slice B1 m1.length d1) := (blk_cell g1 1).trans rfl
              have hd2 : wr.cell? ⟨w.heap.size + 1, 2, none⟩ = some (.slice B2 m2.length d2) := (blk_cell g1 2).trans rfl
              have hd3 : wr.cell? ⟨w.heap.size + 1, 3, none⟩ = some (.int .i64 nn) := (blk_cell g1 3).trans rfl
              go_wp2
              have hl0 := cell_below (below_drew (Below.refl _ _)) hd0
              have hl1 := cell_below (below_drew (Below.refl _ _)) hd1
              have hl2 := cell_below (below_drew (Below.refl _ _)) hd2
              have hl3 := cell_below (below_drew (Below.refl _ _)) hd3
              have hS0 : World.cell? wr.drew (ad.add (k * 7)) = some (.int .i64 o.f0) ∧ World.cell? wr.drew ⟨(ad.add (k * 7)).block, (ad.add (k * 7)).off + 1, none⟩ = some (.string o.f1) ∧ World.cell? wr.drew ⟨(ad.add (k * 7)).block, (ad.add (k * 7)).off + 2, none⟩ = some (.string o.f2) ∧ World.cell? wr.drew ⟨(ad.add (k * 7)).block, (ad.add (k * 7)).off + 3, none⟩ = some (.string o.f3) ∧ World.cell? wr.drew ⟨(ad.add (k * 7)).block, (ad.add (k * 7)).off + 4, none⟩ = some (.int .i64 o.f4) ∧ World.cell? wr.drew ⟨(ad.add (k * 7)).block, (ad.add (k * 7)).off + 5, none⟩ = some (.int .i64 o.f5) ∧ World.cell? wr.drew ⟨(ad.add (k * 7)).block, (ad.add (k * 7)).off + 6, none⟩ = some (.int .i64 o.f6) := ⟨cell_below (below_drew (Below.refl _ _)) y0, cell_below (below_drew (Below.refl _ _)) y1, cell_below (below_drew (Below.refl _ _)) y2, cell_below (below_drew (Below.refl _ _)) y3, cell_below (below_drew (Below.refl _ _)) y4, cell_below (below_drew (Below.refl _ _)) y5, cell_below (below_drew (Below.refl _ _)) y6⟩
              have hcall := fun V (hV : Below wr.heap.size wr V) => step_all m0 m1 m2 B0 d0 B1 d1 B2 d2 nn V o.f0 o.f4 o.f5 o.f6 o.f1 o.f2 o.f3 ⟨ho.2.1, ho.2.2.2⟩ (hE.at_.below hV) hE.inv (by have := HB.out; omega) (by have := HB.out; omega) (by have := HB.out; omega) (by have := HB.out; omega)
              have HC := Lib.hid hcall
              clear hcall hd0 hd1 hd2 hd3 y0 y1 y2 y3 y4 y5 y6
              refine wp_region_held_drew (S := (fun V => World.cell? V (ad.add (k * 7)) = some (.int .i64 o.f0) ∧ World.cell? V ⟨(ad.add (k * 7)).block, (ad.add (k * 7)).off + 1, none⟩ = some (.string o.f1) ∧ World.cell? V ⟨(ad.add (k * 7)).block, (ad.add (k * 7)).off + 2, none⟩ = some (.string o.f2) ∧ World.cell? V ⟨(ad.add (k * 7)).block, (ad.add (k * 7)).off + 3, none⟩ = some (.string o.f3) ∧ World.cell? V ⟨(ad.add (k * 7)).block, (ad.add (k * 7)).off + 4, none⟩ = some (.int .i64 o.f4) ∧ World.cell? V ⟨(ad.add (k * 7)).block, (ad.add (k * 7)).off + 5, none⟩ = some (.int .i64 o.f5) ∧ World.cell? V ⟨(ad.add (k * 7)).block, (ad.add (k * 7)).off + 6, none⟩ = some (.int .i64 o.f6))) (by kernel_rfl) hS0 (fun hS => ?_)
              refine wpAnyH_take (i := 1) (oi := { dst := some 45, op := Op.move (Operand.tmp 0), type := 54, pos := "law.go:95", after := #[], guard := none }) (v := ?_) rfl (by kernel_rfl) (by kernel_rfl) (by kernel_rfl) (fun _ _ _ h => h) (Or.inl ⟨by rfl, ?_⟩) hS ?_
              rotate_left
              · intro w hSw; (try dsimp only at hSw); go_simp; with_reducible rfl
              try simp only [Act.put, List.setIfInBounds_toArray, List.set_cons_zero, List.set_cons_succ]
              refine wpAnyH_take (i := 2) (oi := { dst := some 46, op := Op.move (Operand.tmp 5), type := 3, pos := "law.go:95", after := #[], guard := none }) (v := ?_) rfl (by kernel_rfl) (by kernel_rfl) (by kernel_rfl) (fun _ _ _ h => h) (Or.inl ⟨by rfl, ?_⟩) hS ?_
              rotate_left
              · intro w hSw; (try dsimp only at hSw); go_simp; with_reducible rfl
              try simp only [Act.put, List.setIfInBounds_toArray, List.set_cons_zero, List.set_cons_succ]
              refine wpAnyH_take (i := 3) (oi := { dst := some 47, op := Op.indexAddr 54 (Operand.tmp 45) (Operand.tmp 46), type := 0, pos := "law.go:95", after := #[{ on := 1, ground := Ground.data }, { on := 2, ground := Ground.data }], guard := none }) (v := ?_) rfl (by kernel_rfl) (by kernel_rfl) (by kernel_rfl) (fun _ _ _ h => h) (Or.inl ⟨by rfl, ?_⟩) hS ?_
              rotate_left
              · intro w hSw; (try dsimp only at hSw); go_simp; with_reducible rfl
              try simp only [Act.put, List.setIfInBounds_toArray, List.set_cons_zero, List.set_cons_succ]
              refine wpAnyH_take (i := 4) (oi := { dst := some 48, op := Op.load 88 (Operand.tmp 47), type := 88, pos := "law.go:95", after := #[{ on := 3, ground := Ground.data }], guard := none }) (v := ?_) rfl (by kernel_rfl) (by kernel_rfl) (by kernel_rfl) (fun _ _ _ h => h) (Or.inl ⟨by rfl, ?_⟩) hS ?_
              rotate_left
              · intro w hSw; (try dsimp only at hSw); go_simp; with_reducible rfl
              try simp only [Act.put, List.setIfInBounds_toArray, List.set_cons_zero, List.set_cons_succ]
              refine wpAnyH_ready (rs := [0]) (by kernel_rfl) (by simp) (AllReadyH.cons (o := { dst := some 44, op := Op.load 41 (Operand.tmp 4), type := 41, pos := "law.go:95", after := #[], guard := none }) rfl (fun K hK => ?_) AllReadyH.nil)
              rw [if_pos (by rfl)]
              go_simp
              refine hK.out _ _ hS (fun hS => ?_)
              clear hK K
              try simp only [Act.put, List.setIfInBounds_toArray, List.set_cons_zero, List.set_cons_succ]
              refine wpAnyH_ready (rs := [5]) (by kernel_rfl) (by simp) (AllReadyH.cons (o := { dst := some 49, op := Op.call { callee := Callee.value (Operand.func 46), args := #[Operand.tmp 44, Operand.tmp 48], argTypes := #[41, 88] }, type := 89, pos := "law.go:95", after := #[{ on := 0, ground := Ground.data }, { on := 4, ground := Ground.data }], guard := none }) rfl (fun K hK => ?_) AllReadyH.nil)
              rw [if_pos (by rfl)]
              go_simp
              refine (HC.out _ (below_drew (Below.refl _ _))).mono ?_
              rintro e W1 ⟨n0, n1, n2, nn', er, ⟨C0, e0, C1, e1, C2, e2, rfl, hL1, hbn⟩, s0, s1, s2, hI1, t0, t1⟩
              have hb1 : Below wr.heap.size wr W1 := below_chain (below_drew (Below.refl _ _)) hbn
              have hb1w := below_w hE.low hb1
              have q1 := blk_below g1 hb1
              have q0 := blk_below g0 hb1
              have hS1 : World.cell? W1 (ad.add (k * 7)) = some (.int .i64 o.f0) ∧ World.cell? W1 ⟨(ad.add (k * 7)).block, (ad.add (k * 7)).off + 1, none⟩ = some (.string o.f1) ∧ World.cell? W1 ⟨(ad.add (k * 7)).block, (ad.add (k * 7)).off + 2, none⟩ = some (.string o.f2) ∧ World.cell? W1 ⟨(ad.add (k * 7)).block, (ad.add (k * 7)).off + 3, none⟩ = some (.string o.f3) ∧ World.cell? W1 ⟨(ad.add (k * 7)).block, (ad.add (k * 7)).off + 4, none⟩ = some (.int .i64 o.f4) ∧ World.cell? W1 ⟨(ad.add (k * 7)).block, (ad.add (k * 7)).off + 5, none⟩ = some (.int .i64 o.f5) ∧ World.cell? W1 ⟨(ad.add (k * 7)).block, (ad.add (k * 7)).off + 6, none⟩ = some (.int .i64 o.f6) := ⟨cell_below hb1w x0, cell_below hb1w x1, cell_below hb1w x2, cell_below hb1w x3, cell_below hb1w x4, cell_below hb1w x5, cell_below hb1w x6⟩
              have hd0 : W1.cell? ⟨w.heap.size + 1, 0, none⟩ = some (.slice B0 m0.length d0) := (blk_cell q1 0).trans rfl
              have hz0 := blk_frozen q1 0
              have hd1 : W1.cell? ⟨w.heap.size + 1, 1, none⟩ = some (.slice B1 m1.length d1) := (blk_cell q1 1).trans rfl
              have hz1 := blk_frozen q1 1
              have hd2 : W1.cell? ⟨w.heap.size + 1, 2, none⟩ = some (.slice B2 m2.length d2) := (blk_cell q1 2).trans rfl
              have hz2 := blk_frozen q1 2
              have hd3 : W1.cell? ⟨w.heap.size + 1, 3, none⟩ = some (.int .i64 nn) := (blk_cell q1 3).trans rfl
              have hz3 := blk_frozen q1 3
              refine hK.out _ _ hS1 (fun hS => ?_)
              clear hK K hl0 hl1 hl2 hl3 hS0
              try simp only [Act.put, List.setIfInBounds_toArray, List.set_cons_zero, List.set_cons_succ]
              refine wpAnyH_take (i := 6) (oi := { dst := some 43, op := Op.move (Operand.tmp 49), type := 89, pos := "law.go:95", after := #[{ on := 5, ground := Ground.data }], guard := none }) (v := ?_) rfl (by kernel_rfl) (by kernel_rfl) (by kernel_rfl) (fun _ _ _ h => h) (Or.inl ⟨by rfl, ?_⟩) hS ?_
              rotate_left
              · intro w hSw; (try dsimp only at hSw); go_simp; with_reducible rfl
              try simp only [Act.put, List.setIfInBounds_toArray, List.set_cons_zero, List.set_cons_succ]
              refine wpAnyH_take (i := 7) (oi := { dst := some 50, op := Op.extract (Operand.tmp 43) 0, type := 41, pos := "law.go:95", after := #[{ on := 6, ground := Ground.data }], guard := none }) (v := ?_) rfl (by kernel_rfl) (by kernel_rfl) (by kernel_rfl) (fun _ _ _ h => h) (Or.inl ⟨by rfl, ?_⟩) hS ?_
              rotate_left
              · intro w hSw; (try dsimp only at hSw); go_simp; with_reducible rfl
              try simp only [Act.put, List.setIfInBounds_toArray, List.set_cons_zero, List.set_cons_succ]
              refine wpAnyH_take (i := 8) (oi := { dst := some 51, op := Op.extract (Operand.tmp 43) 1, type := 27, pos := "law.go:95", after := #[{ on := 6, ground := Ground.data }, { on := 9, ground := Ground.gcOnly Departure.lateStores }], guard := none }) (v := ?_) rfl (by kernel_rfl) (by kernel_rfl) (by kernel_rfl) (fun _ _ _ h => h) (Or.inl ⟨by rfl, ?_⟩) hS ?_
              rotate_left
              · intro w hSw; (try dsimp only at hSw); go_simp; with_reducible rfl
              try simp only [Act.put, List.setIfInBounds_toArray, List.set_cons_zero, List.set_cons_succ]
              obtain ⟨V3, hV3⟩ : ∃ V3, put4 W1 (w.heap.size + 1) (.slice C0 n0.length e0) (.slice C1 n1.length e1) (.slice C2 n2.length e2) (.int .i64 nn') = V3 := ⟨_, rfl⟩
              have hbel : Below w.heap.size w V3 := by rw [← hV3]; exact put4_below hb1w (by omega) _ _ _ _
              have HE := Lib.hid (show PlI w os (some ad) (k + 1) n0 n1 n2 nn' C0 e0 C1 e1 C2 e2 V3 from by
                obtain ⟨a14, a0, a1, a2, a3, a4⟩ := HB.out
                have hC3 := Kd.C_below hC hbel
                rw [← hV3] at hbel hC3 ⊢
                exact ⟨hbel, put4_far q0 (by omega) _ _ _ _, put4_blk q1 _ _ _ _, hL1.put4 q1 (noStr_box _ _ _ _ _ _ _ _ _ _) (fun _ h => by cases h) (fun _ h => by cases h) (fun _ h => by cases h), hC3, hI1, by omega, by omega, by omega, by omega, by omega, by omega⟩)
              have hS3 : World.cell? V3 (ad.add (k * 7)) = some (.int .i64 o.f0) ∧ World.cell? V3 ⟨(ad.add (k * 7)).block, (ad.add (k * 7)).off + 1, none⟩ = some (.string o.f1) ∧ World.cell? V3 ⟨(ad.add (k * 7)).block, (ad.add (k * 7)).off + 2, none⟩ = some (.string o.f2) ∧ World.cell? V3 ⟨(ad.add (k * 7)).block, (ad.add (k * 7)).off + 3, none⟩ = some (.string o.f3) ∧ World.cell? V3 ⟨(ad.add (k * 7)).block, (ad.add (k * 7)).off + 4, none⟩ = some (.int .i64 o.f4) ∧ World.cell? V3 ⟨(ad.add (k * 7)).block, (ad.add (k * 7)).off + 5, none⟩ = some (.int .i64 o.f5) ∧ World.cell? V3 ⟨(ad.add (k * 7)).block, (ad.add (k * 7)).off + 6, none⟩ = some (.int .i64 o.f6) := ⟨cell_below hbel x0, cell_below hbel x1, cell_below hbel x2, cell_below hbel x3, cell_below hbel x4, cell_below hbel x5, cell_below hbel x6⟩
              unfold put4 at hV3
              rw [← hV3] at hS3
              clear q0 q1 g0 g1 hL1 hI1 s0 s1 s2 t0 t1 hbel
              refine wpAnyH_ready (rs := [9]) (by kernel_rfl) (by simp) (AllReadyH.cons (o := { dst := none, op := Op.store 41 (Operand.tmp 4) (Operand.tmp 50), type := 0, pos := "law.go:95", after := #[{ on := 7, ground := Ground.data }, { on := 5, ground := Ground.chain }, { on := 0, ground := Ground.phase }, { on := 1, ground := Ground.phase }, { on := 2, ground := Ground.phase }, { on := 3, ground := Ground.phase }, { on := 4, ground := Ground.phase }, { on := 5, ground := Ground.phase }, { on := 6, ground := Ground.phase }, { on := 7, ground := Ground.phase }, { on := 8, ground := Ground.textOnly Departure.lateStores }], guard := none }) rfl (fun K hK => ?_) AllReadyH.nil)
              rw [if_pos (by rfl)]
              go_simp
              refine hK.out _ _ (by first | exact hS3 | (rw [hV3] at hS3; exact hS3)) (fun hS => ?_)
              clear hK K
              try simp only [Act.put, List.setIfInBounds_toArray, List.set_cons_zero, List.set_cons_succ]
              refine wpAnyH_done (by kernel_rfl) ?_ _
              clear hE
              go_wp2
              exact ⟨⟨k + 1, n0, n1, n2, nn', C0, e0, C1, e1, C2, e2, by omega, by simp, HE.out⟩, by simp [intOf]; omega⟩
    · have hd : decide ((k : Int) < (os.length : Int)) = false := decide_eq_false (by omega)
      have hd9 : decide (k < os.length) = false := decide_eq_false (by omega)
      have h1 := hE.led
      have h2 := hE.res
      have hd0 : wr.cell? ⟨w.heap.size + 1, 0, none⟩ = some (.slice B0 m0.length d0) := (blk_cell h1 0).trans rfl
      have hd1 : wr.cell? ⟨w.heap.size + 1, 1, none⟩ = some (.slice B1 m1.length d1) := (blk_cell h1 1).trans rfl
      have hd2 : wr.cell? ⟨w.heap.size + 1, 2, none⟩ = some (.slice B2 m2.length d2) := (blk_cell h1 2).trans rfl
      have hd3 : wr.cell? ⟨w.heap.size + 1, 3, none⟩ = some (.int .i64 nn) := (blk_cell h1 3).trans rfl
      have hr0 : wr.cell? ⟨w.heap.size, 0, none⟩ = some (.slice none 0 0) := (blk_cell h2 0).trans rfl
      have hf0 := blk_frozen h2 0
      have hr1 : wr.cell? ⟨w.heap.size, 1, none⟩ = some (.slice none 0 0) := (blk_cell h2 1).trans rfl
      have hf1 := blk_frozen h2 1
      have hr2 : wr.cell? ⟨w.heap.size, 2, none⟩ = some (.slice none 0 0) := (blk_cell h2 2).trans rfl
      have hf2 := blk_frozen h2 2
      have hr3 : wr.cell? ⟨w.heap.size, 3, none⟩ = some (.int .i64 0) := (blk_cell h2 3).trans rfl
      have hf3 := blk_frozen h2 3
      have HE := Lib.hid hE
      clear hE
      go_wp2
      refine bodyPost_ret (results_ct rfl _ _ w.heap.size 41 #[.slice B0 m0.length d0, .slice B1 m1.length d1, .slice B2 m2.length d2, .int .i64 nn] (0, 0) _ rfl (put4_blk h2 _ _ _ _) hu rfl (by kernel_rfl)) rfl ?_
      exact ⟨_, m0, m1, m2, nn, B0, d0, B1, d1, B2, d2, rfl, HE.out.at_.put4 h2 (noStr_box _ _ _ _ _ _ _ _ _ _) (fun _ h => by cases h) (fun _ h => by cases h) (fun _ h => by cases h), put4_below HE.out.low (Nat.le_refl _) _ _ _ _, HE.out.inv, by have := HE.out.e0; have := HE.out.k14; omega, by have := HE.out.e1; have := HE.out.k14; omega, by have := HE.out.e2; have := HE.out.k14; omega, HE.out.nn0.1, by have := HE.out.nn0; have := HE.out.k14; omega⟩
end
end Go.Proofs.Ytofkhcgkahkagaa
/- work.free sums what has changed by a time. -/
namespace Go.Proofs.Ytofkhcgkahkagaa
open Go.RowKit Go.Proofs.YtofkhcgkahkagaaW.PrintWords Go.Proofs.YtofkhcgkahkagaaW.PrintLast Go.Proofs.YtofkhcgkahkagaaW.PrintMore Go.Proofs.Ytofkhcgkahkagaa.PPromiseLines
set_option linter.unusedVariables false
set_option linter.unusedSimpArgs false

/-- What has changed by a time. -/
def freeL (t : Int) (xs : List (Int × Int)) : List Int := (xs.filter (fun x => decide (x.1 ≤ t))).map (fun x => x.2)
theorem freeL_snoc (t : Int) (xs : List (Int × Int)) (x : Int × Int) : freeL t (xs ++ [x]) = freeL t xs ++ (if x.1 ≤ t then [x.2] else []) := by
  unfold freeL
  rw [List.filter_append, List.map_append]
  split <;> rename_i h <;> simp [h]
theorem freeL_len (t : Int) (xs : List (Int × Int)) : (freeL t xs).length ≤ xs.length := by
  unfold freeL
  rw [List.length_map]
  exact List.length_filter_le _ _
def Ch64 (xs : List (Int × Int)) : Prop := ∀ x ∈ xs, -9223372036854775808 ≤ x.2 ∧ x.2 ≤ 9223372036854775807
theorem freeL_64 {t : Int} {xs : List (Int × Int)} (h : Ch64 xs) : In64 (freeL t xs) := by
  intro n hn
  obtain ⟨x, hx, rfl⟩ := List.mem_map.1 hn
  exact h x (List.mem_filter.1 hx).1

/-- Reading one change. -/
theorem at_ch {w : World} {A : Option Addr} {xs : List (Int × Int)} (h : Kd.C kCh w A xs.length xs) {k : Nat} (hk : k < xs.length) :
    ∃ ad, A = some ad ∧ w.cell? (ad.add (k * 2)) = some (.int .i64 (xs[k]).1) ∧ w.cell? ⟨(ad.add (k * 2)).block, (ad.add (k * 2)).off + 1, none⟩ = some (.int .i64 (xs[k]).2) := by
  obtain ⟨ad, e, hc⟩ := h.2.2 (by omega)
  obtain ⟨c, hs, ⟨c0, c1, rfl, h0, h1⟩, hcell⟩ := hc k xs[k] (List.getElem?_eq_getElem hk)
  obtain rfl : c0 = [.int .i64 (xs[k]).1] := h0
  obtain rfl : c1 = [.int .i64 (xs[k]).2] := h1
  refine ⟨ad, e, hcell 0 _ rfl, ?_⟩
  have := hcell 1 _ rfl
  rw [add_field _ _ 1 (by omega)] at this
  exact this

set_option maxRecDepth 100000 in
theorem free_calls (A : Option Addr) (c : Nat) (xs : List (Int × Int)) (t : Int) (w : World) (hC : Kd.C kCh w A xs.length xs) (hc : xs.length ≤ c) (hx : Ch64 xs) (hn : xs.length ≤ 100000) :
    Calls Try.prog 44 #[.agg #[.slice A xs.length c], .int .i64 t] w fun e w' => e = .returned (.tuple #[.int .i64 (sumOf (freeL t xs)).1, .int .i64 (sumOf (freeL t xs)).2]) ∧ Below w.heap.size w w' := by
  have hu := Try.underlying81
  have hu2 := Try.underlying117
  go_enter Try.func44, Try.ntmps44
  go_wp2
  have hW0 : Below w.heap.size w (w.alloc (.cells #[.slice A xs.length c] 81)) := (Below.refl _ w).alloc (Nat.le_refl _) _
  go_loopw [6, 12] (fun v i wr => ∃ k : Nat, k ≤ xs.length ∧ i = .int .i64 k ∧ Kd.R (Kd.int .i64) 3 wr w.heap.size (fun _ => True) v (freeL t (xs.take k)) ∧ Below w.heap.size w wr)
    (fun _ i _ => xs.length - (intOf i).toNat)
  case atStart => exact ⟨0, Nat.zero_le _, rfl, Kd.R_nil _ _ _ _ _, hW0⟩
  case round =>
    obtain ⟨k, hk, rfl, hR, hB⟩ := hrel
    by_cases hlt : k < xs.length
    · have hd : decide ((k : Int) < (xs.length : Int)) = true := decide_eq_true (by omega)
      obtain ⟨ad, rfl, hx0, hx1⟩ := at_ch hC hlt
      have hy0 := (hB.cell (World.block_lt_of_cell? w _ hx0)).trans hx0
      have hy1 := (hB.cell (World.block_lt_of_cell? w _ hx1)).trans hx1
      obtain ⟨y, hyy⟩ : ∃ y, y = xs[k] := ⟨_, rfl⟩
      rw [← hyy] at hy0 hy1
      have Hy := Aside0.mk hyy
      clear hyy hx0 hx1
      have hz := hB.size
      have hB2 := fun o => hB.alloc hz o
      have hR2 := fun o => Kd.R_alloc hR o
      have hlen := freeL_len t (xs.take k)
      have hlen2 := List.length_take_le' k xs
      by_cases hle : y.1 ≤ t
      · have hd2 : decide (y.1 ≤ t) = true := decide_eq_true hle
        have Hle := Aside0.mk hle
        clear hle
        go_wp2_with ((with_reducible refine gate_builtin (b := .append) (xs := #[.tmp 20, .tmp 23]) rfl ?_); at_builtin; refine Kd.R_append (Kd.int .i64) (w0 := w) w.heap.size rfl (.tmp 20) (.tmp 23) 105 3 (.int .i64 0) 8 rfl Try.underlying105 info3 rfl (by decide) (by decide) _ (freeL t (xs.take k)) y.2 [.int .i64 y.2] (fun _ => True) (fun _ => False) rfl ?hx ?aP (fun k hk => hk.elim) (fun k hk => trivial) ?aO ?aB ?aS ?aL ?_; (case hx => rw [World.size_alloc]; rfl); (case aP => exact rfl); (case aO => exact hR2 _); (case aB => exact hB2 _); (case aS => rw [World.size_alloc]; omega); (case aL => omega); intro v1 w1 hR1 hB1 hg1 hat1)
        refine ⟨⟨k + 1, by omega, by simp, ?_, hB1⟩, by simp [intOf]; omega⟩
        rw [take_snoc hlt, freeL_snoc, ← Hy.out, if_pos Hle.out]
        exact hR1
      · have hd2 : decide (y.1 ≤ t) = false := decide_eq_false hle
        have Hle := Aside0.mk hle
        clear hle
        go_wp2
        refine ⟨⟨k + 1, by omega, by simp, ?_, hB2 _⟩, by simp [intOf]; omega⟩
        rw [take_snoc hlt, freeL_snoc, ← Hy.out, if_neg Hle.out, List.append_nil]
        exact hR2 _
    · obtain rfl : k = xs.length := by omega
      have hd : decide ((xs.length : Int) < (xs.length : Int)) = false := decide_eq_false (by omega)
      rw [List.take_length] at hR
      obtain ⟨Av, cv, rfl⟩ := Kd.R_slice hR
      have hrd := Kd.R_reads' hR
      have hsum := sum_calls Av cv (freeL t xs) wr hrd.2.2 hrd.2.1 (freeL_64 hx)
      go_wp2_with fail
      refine hsum.mono ?_
      rintro e w2 ⟨rfl, rfl⟩
      go_wp2
      go_ret2
      exact ⟨rfl, hB⟩
end Go.Proofs.Ytofkhcgkahkagaa
