/- promise.told lists the changes of a sku. -/
import Derived.Test.YtofkhcgkahkagaaGreatPMay
namespace Go.Proofs.YtofkhcgkahkagaaGreat
open Go.RowKit Go.Proofs.YtofkhcgkahkagaaGreatW.PrintWords Go.Proofs.YtofkhcgkahkagaaGreatW.PrintLast Go.Proofs.YtofkhcgkahkagaaGreatW.PrintMore Go.Proofs.YtofkhcgkahkagaaGreat.PPromiseShort
set_option linter.unusedVariables false
set_option linter.unusedSimpArgs false

abbrev kCh : Kd (Int × Int) := Kd.pair (Kd.int .i64) (Kd.int .i64)
theorem info_ch : (Tryz.prog.info? 182).map (fun i => (i.zero, i.size, i.bytes)) = some (some (.agg #[.int .i64 0, .int .i64 0]), 2, 16) := by kernel_rfl

/-- Block B holds the work whose changes are xs; they lie in newer blocks. -/
def WorkAt (B : Nat) (xs : List (Int × Int)) (W : World) : Prop := ∃ v, W.heap[B]? = some (.cells #[v] 117 (0, 0)) ∧ Kd.R kCh 182 W (B + 1) (fun k => B + 1 ≤ k) v xs

theorem WorkAt.lt {B : Nat} {xs : List (Int × Int)} {W : World} (h : WorkAt B xs W) : B < W.heap.size := by
  obtain ⟨v, h, _⟩ := h
  exact (Array.getElem?_eq_some_iff.1 h).1
theorem WorkAt.below {B : Nat} {xs : List (Int × Int)} {W W' : World} (h : WorkAt B xs W) (hB : Below W.heap.size W W') : WorkAt B xs W' := by
  have hl := h.lt
  obtain ⟨v, h1, h2⟩ := h
  exact ⟨v, (hB.block B hl).trans h1, Kd.R_below h2 hB⟩

/-- The same, and the changes lie in none of block z. -/
def WorkZ (B z : Nat) (xs : List (Int × Int)) (W : World) : Prop := ∃ v, W.heap[B]? = some (.cells #[v] 117 (0, 0)) ∧ Kd.R kCh 182 W (B + 1) (fun k => B + 1 ≤ k ∧ k ≠ z) v xs
theorem WorkZ.plain {B z : Nat} {xs : List (Int × Int)} {W : World} (h : WorkZ B z xs W) : WorkAt B xs W := by
  obtain ⟨v, h1, h2⟩ := h
  exact ⟨v, h1, Kd.R_mono h2 (fun k hk => hk.1)⟩
theorem WorkAt.fresh {B : Nat} {xs : List (Int × Int)} {W : World} (h : WorkAt B xs W) (o : Obj) : WorkZ B W.heap.size xs (W.alloc o) := by
  have hl := h.lt
  obtain ⟨v, h1, h2⟩ := h
  refine ⟨v, ((Below.refl _ W).alloc (Nat.le_refl _) o |>.block B hl).trans h1, Kd.R_alloc (Kd.R_mono (Kd.R_bound h2) (fun k hk => ⟨hk.1, by have := hk.2.2.1; omega⟩)) o⟩
theorem WorkZ.lt {B z : Nat} {xs : List (Int × Int)} {W : World} (h : WorkZ B z xs W) : B < W.heap.size := h.plain.lt

theorem after_append {B z : Nat} {xs ys : List (Int × Int)} {w w1 : World} {v v1 : Value} (hlt : B < w.heap.size) (hb : w.heap[B]? = some (.cells #[v] 117 (0, 0))) (hR : Kd.R kCh 182 w (B + 1) (fun k => B + 1 ≤ k ∧ k ≠ z) v xs)
    (hR1 : Kd.R kCh 182 w1 (B + 1) (fun k => B + 1 ≤ k ∧ k ≠ z) v1 ys) (hg : w.grownBy w1 v.ownBlock) :
    ∃ A c, v1 = .slice A ys.length c ∧ w1.heap[B]? = some (.cells #[v] 117 (0, 0)) ∧ w1.cell? ⟨B, 0, none⟩ = some v ∧ w1.frozen? ⟨B, 0, none⟩ = false := by
  obtain ⟨A1, c1, h⟩ := Kd.R_slice hR1
  have hb1 : w1.heap[B]? = some (.cells #[v] 117 (0, 0)) := (hg.block B hlt (fun e => Nat.not_succ_le_self B (hR.1 B e.symm).1)).trans hb
  exact ⟨A1, c1, h, hb1, by simp [World.cell?, hb1], by simp [World.frozen?, hb1]⟩

set_option maxRecDepth 100000 in
theorem add_calls (B z : Nat) (xs : List (Int × Int)) (x q : Int) (w : World) (h : WorkZ B z xs w) (hz : z < w.heap.size) (hzB : z ≠ B) (hl : xs.length ≤ 100000) :
    Calls Tryz.prog 84 #[.int .i64 x, .int .i64 q, .pointer (some ⟨B, 0, none⟩)] w fun e w' => (e = .returned (.tuple #[]) ∧ WorkZ B z (xs ++ [(x, q)]) w' ∧ w'.heap[z]? = w.heap[z]?) ∧ Below B w w' ∧ w.heap.size ≤ w'.heap.size := by
  have hlt := h.lt
  obtain ⟨v, hb, hR⟩ := h
  have hc : w.cell? ⟨B, 0, none⟩ = some v := by simp [World.cell?, hb]
  have hf : w.frozen? ⟨B, 0, none⟩ = false := by simp [World.frozen?, hb]
  have hu := Tryz.underlying117
  have hu2 := Tryz.underlying182
  go_enter Tryz.func84, Tryz.ntmps84
  go_wp2_with ((with_reducible refine gate_builtin (b := .append) (xs := #[.tmp 6, .tmp 10]) rfl ?_); at_builtin; refine Kd.R_append kCh (w0 := w) (B + 1) rfl (.tmp 6) (.tmp 10) 115 182 (.agg #[.int .i64 0, .int .i64 0]) 16 rfl Tryz.underlying115 info_ch rfl (by decide) (by decide) v xs (x, q) [.int .i64 x, .int .i64 q] (fun k => B + 1 ≤ k ∧ k ≠ z) (fun _ => False) rfl rfl ⟨[.int .i64 x], [.int .i64 q], rfl, rfl, rfl⟩ (fun k hk => hk.elim) (fun k hk => ⟨by omega, by omega⟩) hR (Below.refl _ _) (by omega) (by omega) ?_; intro v1 w1 hR1 hB1 hg1 hat1; obtain ⟨A1, c1, rfl, hb1, hc1, hf1⟩ := after_append hlt hb hR hR1 hg1)
  go_end0
  have hl1 : B < w1.heap.size := (Array.getElem?_eq_some_iff.1 hb1).1
  refine ⟨⟨rfl, ⟨_, blk_set hb1 0 _, ?_⟩, ?_⟩, ?_, ?_⟩
  · rw [List.length_append] at hR1
    exact Kd.R_far hR1 (p := ⟨B, 0, none⟩) (fun k hk => Nat.ne_of_gt hk.1) _
  · exact (Below.heap_setCell _ _ _ _ hzB).trans (hg1.block z hz (fun e => (hR.1 z e.symm).2 rfl))
  · exact (hB1.mono (Nat.le_succ B)).setCell (Nat.le_refl B) _
  · simpa [World.setCell] using hB1.size

/-- The changes that stocks, holds, what comes and what is taken make. -/
def chStocks (sku : ByteArray) (l : List S165) : List (Int × Int) := (l.filter (fun s => s.f0.toList == sku.toList)).map (fun s => (0, s.f2))
def chHold (sku : ByteArray) (h : S172) : List (Int × Int) := if h.f1.toList = sku.toList ∧ h.f4 = 0 then (0, wrap64 (-h.f3)) :: (if 0 < h.f5 ∧ h.f5 < 9223372036854775807 then [(wrap64 (h.f5 + 1), h.f3)] else []) else []
def chHolds (sku : ByteArray) (l : List S172) : List (Int × Int) := l.flatMap (chHold sku)
def chComing (sku : ByteArray) (l : List S103) : List (Int × Int) := (l.filter (fun r => r.f0.toList == sku.toList)).map (fun r => (r.f2, r.f1))
def chTaken (sku : ByteArray) (l : List S103) : List (Int × Int) := (l.filter (fun r => r.f0.toList == sku.toList)).map (fun r => (r.f2, wrap64 (-r.f1)))
def toldF (l0 : List S165) (l1 : List S172) (l2 l3 : List S103) (sku : ByteArray) : List (Int × Int) := chStocks sku l0 ++ chHolds sku l1 ++ chComing sku l2 ++ chTaken sku l3

theorem take_snoc {α : Type} {l : List α} {k : Nat} (h : k < l.length) : l.take (k + 1) = l.take k ++ [l[k]] := by
  rw [List.take_add_one, List.getElem?_eq_getElem h]
  rfl
theorem chStocks_snoc (sku : ByteArray) (l : List S165) (s : S165) : chStocks sku (l ++ [s]) = chStocks sku l ++ (if s.f0.toList = sku.toList then [(0, s.f2)] else []) := by
  unfold chStocks
  rw [List.filter_append, List.map_append]
  split <;> rename_i h <;> simp [h]
theorem chHolds_snoc (sku : ByteArray) (l : List S172) (s : S172) : chHolds sku (l ++ [s]) = chHolds sku l ++ chHold sku s := by
  unfold chHolds
  rw [List.flatMap_append]
  simp
theorem chComing_snoc (sku : ByteArray) (l : List S103) (s : S103) : chComing sku (l ++ [s]) = chComing sku l ++ (if s.f0.toList = sku.toList then [(s.f2, s.f1)] else []) := by
  unfold chComing
  rw [List.filter_append, List.map_append]
  split <;> rename_i h <;> simp [h]
theorem chTaken_snoc (sku : ByteArray) (l : List S103) (s : S103) : chTaken sku (l ++ [s]) = chTaken sku l ++ (if s.f0.toList = sku.toList then [(s.f2, wrap64 (-s.f1))] else []) := by
  unfold chTaken
  rw [List.filter_append, List.map_append]
  split <;> rename_i h <;> simp [h]

theorem chStocks_len (sku : ByteArray) (l : List S165) : (chStocks sku l).length ≤ l.length := by
  unfold chStocks
  rw [List.length_map]
  exact List.length_filter_le _ _
theorem chHold_len (sku : ByteArray) (h : S172) : (chHold sku h).length ≤ 2 := by
  unfold chHold
  split
  · split <;> simp
  · simp
theorem chHolds_len (sku : ByteArray) : ∀ l : List S172, (chHolds sku l).length ≤ 2 * l.length
  | [] => by simp [chHolds]
  | h :: l => by
    have h1 := chHold_len sku h
    have h2 := chHolds_len sku l
    unfold chHolds at h2 ⊢
    rw [List.flatMap_cons, List.length_append, List.length_cons]
    omega
theorem chComing_len (sku : ByteArray) (l : List S103) : (chComing sku l).length ≤ l.length := by
  unfold chComing
  rw [List.length_map]
  exact List.length_filter_le _ _
theorem chTaken_len (sku : ByteArray) (l : List S103) : (chTaken sku l).length ≤ l.length := by
  unfold chTaken
  rw [List.length_map]
  exact List.length_filter_le _ _

def ledgerV (A0 : Option Addr) (n0 c0 : Nat) (A1 : Option Addr) (n1 c1 : Nat) (A2 : Option Addr) (n2 c2 : Nat) (ops : Int) : Value := .agg #[.slice A0 n0 c0, .slice A1 n1 c1, .slice A2 n2 c2, .int .i64 ops]

set_option maxRecDepth 100000 in
set_option maxHeartbeats 1000000 in
theorem told_calls (A0 : Option Addr) (c0 : Nat) (l0 : List S165) (A1 : Option Addr) (c1 : Nat) (l1 : List S172) (A2 : Option Addr) (c2 n2 : Nat) (ops : Int) (A3 : Option Addr) (c3 : Nat) (l3 : List S103) (A4 : Option Addr) (c4 : Nat) (l4 : List S103) (sku : ByteArray) (w : World)
    (hC0 : Kd.C k165 w A0 l0.length l0) (hc0 : l0.length ≤ c0) (hC1 : Kd.C k172 w A1 l1.length l1) (hc1 : l1.length ≤ c1) (hC3 : Kd.C k103 w A3 l3.length l3) (hc3 : l3.length ≤ c3) (hC4 : Kd.C k103 w A4 l4.length l4) (hc4 : l4.length ≤ c4)
    (hn : l0.length + 2 * l1.length + l3.length + l4.length ≤ 90000) :
    Calls Tryz.prog 41 #[.agg #[.slice A0 l0.length c0, .slice A1 l1.length c1, .slice A2 n2 c2, .int .i64 ops], .slice A3 l3.length c3, .slice A4 l4.length c4, .string sku] w fun e w' =>
      ∃ v, e = .returned (.agg #[v]) ∧ Kd.R kCh 182 w' w.heap.size (fun k => w.heap.size ≤ k) v (toldF l0 l1 l3 l4 sku) ∧ Below w.heap.size w w' := by
  have hu0 := Tryz.underlying165
  have hu1 := Tryz.underlying172
  have hu2 := Tryz.underlying103
  have hu3 := Tryz.underlying55
  have hu4 := Tryz.underlying117
  go_enter Tryz.func41, Tryz.ntmps41
  go_wp2
  obtain ⟨W0, hW0⟩ : ∃ W0, ((w.alloc (.cells #[.slice A0 l0.length c0, .slice A1 l1.length c1, .slice A2 n2 c2, .int .i64 ops] 55)).alloc (.cells #[.slice none 0 0] 117)).alloc (.cells #[.slice none 0 0] 117) = W0 := ⟨_, rfl⟩
  have hs0 : W0.heap.size = w.heap.size + 3 := by rw [← hW0]; simp
  have hB0 : Below w.heap.size w W0 := by rw [← hW0]; exact (((Below.refl _ w).alloc (Nat.le_refl _) _).alloc (by simp) _).alloc (by simp; omega) _
  have hL0 : W0.heap[w.heap.size]? = some (.cells #[.slice A0 l0.length c0, .slice A1 l1.length c1, .slice A2 n2 c2, .int .i64 ops] 55 (0, 0)) := by
    rw [← hW0]; exact (Below.heap_alloc _ _ _ (by simp; omega)).trans ((Below.heap_alloc _ _ _ (by simp)).trans (heap_alloc_new w _))
  have hr0 : W0.heap[w.heap.size + 1]? = some (.cells #[.slice none 0 0] 117 (0, 0)) := by
    rw [← hW0]; refine (Below.heap_alloc _ _ _ (by simp)).trans ?_
    have := heap_alloc_new (w.alloc (.cells #[.slice A0 l0.length c0, .slice A1 l1.length c1, .slice A2 n2 c2, .int .i64 ops] 55)) (.cells #[.slice none 0 0] 117)
    rwa [World.size_alloc] at this
  have hK0 : WorkAt (w.heap.size + 1 + 1) ([] ++ chStocks sku (l0.take 0)) W0 := by
    refine ⟨.slice none 0 0, ?_, Kd.R_nil _ _ _ _ _⟩
    rw [← hW0]
    have := heap_alloc_new ((w.alloc (.cells #[.slice A0 l0.length c0, .slice A1 l1.length c1, .slice A2 n2 c2, .int .i64 ops] 55)).alloc (.cells #[.slice none 0 0] 117)) (.cells #[.slice none 0 0] 117)
    rwa [World.size_alloc, World.size_alloc] at this
  rw [hW0]
  clear hW0
  go_loopw [23] (fun i wr => ∃ k : Nat, k ≤ l0.length ∧ i = .int .i64 k ∧ WorkAt (w.heap.size + 1 + 1) ([] ++ chStocks sku (l0.take k)) wr ∧ Below (w.heap.size + 1 + 1) W0 wr)
    (fun i _ => l0.length - (intOf i).toNat)
  case atStart => exact ⟨0, Nat.zero_le _, rfl, hK0, Below.refl _ _⟩
  case round =>
    obtain ⟨k, hk, rfl, hK, hB⟩ := hrel
    have hwr : Below w.heap.size w wr := hB0.trans (hB.mono (by omega))
    by_cases hlt : k < l0.length
    · have hd : decide ((k : Int) < (l0.length : Int)) = true := decide_eq_true (by omega)
      obtain ⟨ad, rfl, hx0, hx1, hx2, hx3⟩ := at_T165 hC0 k (by omega) (by omega)
      rw [Int.toNat_natCast] at hx0 hx1 hx2 hx3
      have hy0 := (hwr.cell (World.block_lt_of_cell? w _ hx0)).trans hx0
      have hy1 := (hwr.cell (World.block_lt_of_cell? w _ hx1)).trans hx1
      have hy2 := (hwr.cell (World.block_lt_of_cell? w _ hx2)).trans hx2
      have hy3 := (hwr.cell (World.block_lt_of_cell? w _ hx3)).trans hx3
      have hr : rd_T165 l0 k = l0[k] := by unfold rd_T165; rw [Int.toNat_natCast, List.getD_eq_getElem?_getD, List.getElem?_eq_getElem hlt]; rfl
      rw [hr] at hy0 hy1 hy2 hy3
      obtain ⟨r, hrr⟩ : ∃ r, r = l0[k] := ⟨_, rfl⟩
      rw [← hrr] at hy0 hy1 hy2 hy3
      have Hr := Aside0.mk hrr
      clear hrr hr hx0 hx1 hx2 hx3
      have hKb := fun o => hK.fresh o
      have hKl := hK.lt
      have hlen : ([] ++ chStocks sku (l0.take k)).length ≤ 90000 := by
        simp only [List.length_append, List.length_nil]
        have := chStocks_len sku l0; have := chHolds_len sku l1; have := chComing_len sku l3; have := chStocks_len sku (l0.take k); have : (l0.take k).length ≤ l0.length := List.length_take_le' _ _
        omega
      cases he : (r.f0.toList == sku.toList) with
      | true =>
        go_wp2_with fail
        refine (add_calls (w.heap.size + 1 + 1) _ _ 0 r.f2 _ (hKb _) (by simp) (by omega) (by omega)).mono ?_
        rintro e w2 ⟨⟨rfl, hK2, _⟩, hB2, hs2⟩
        go_wp2
        refine ⟨⟨k + 1, by omega, by simp, ?_, (hB.trans (((Below.refl _ wr).alloc (Nat.le_of_lt hKl) _).trans hB2))⟩, by simp [intOf]; omega⟩
        rw [take_snoc hlt, chStocks_snoc, ← Hr.out, if_pos (beq_iff_eq.1 he), ← List.append_assoc]
        exact hK2.plain
      | false =>
        go_wp2
        refine ⟨⟨k + 1, by omega, by simp, ?_, (hB.trans ((Below.refl _ wr).alloc (Nat.le_of_lt hKl) _))⟩, by simp [intOf]; omega⟩
        rw [take_snoc hlt, chStocks_snoc, ← Hr.out, if_neg (beq_eq_false_iff_ne.1 he), List.append_nil]
        exact (hKb _).plain
    · obtain rfl : k = l0.length := by omega
      have hd : decide ((l0.length : Int) < (l0.length : Int)) = false := decide_eq_false (by omega)
      rw [List.take_length] at hK
      have hLk := (hB.block w.heap.size (by omega)).trans hL0
      have hrk := (hB.block (w.heap.size + 1) (by omega)).trans hr0
      have hcl : wr.cell? ⟨w.heap.size, 1, none⟩ = some (.slice A1 l1.length c1) := (blk_cell hLk 1).trans rfl
      go_wp2
      clear hC0
      go_loopw [39] (fun i wr => ∃ k : Nat, k ≤ l1.length ∧ i = .int .i64 k ∧ WorkAt (w.heap.size + 1 + 1) (([] ++ chStocks sku l0) ++ chHolds sku (l1.take k)) wr ∧ Below (w.heap.size + 1 + 1) W0 wr)
        (fun i _ => l1.length - (intOf i).toNat)
      case atStart => exact ⟨0, Nat.zero_le _, rfl, by rw [show chHolds sku (l1.take 0) = [] from rfl, List.append_nil]; exact hK, hB⟩
      case round =>
        obtain ⟨k, hk, rfl, hK, hB⟩ := hrel
        have hwr : Below w.heap.size w wr := hB0.trans (hB.mono (by omega))
        by_cases hlt : k < l1.length
        · have hd : decide ((k : Int) < (l1.length : Int)) = true := decide_eq_true (by omega)
          obtain ⟨ad, rfl, hx0, hx1, hx2, hx3, hx4, hx5⟩ := at_T172 hC1 k (by omega) (by omega)
          rw [Int.toNat_natCast] at hx0 hx1 hx2 hx3 hx4 hx5
          have hy0 := (hwr.cell (World.block_lt_of_cell? w _ hx0)).trans hx0
          have hy1 := (hwr.cell (World.block_lt_of_cell? w _ hx1)).trans hx1
          have hy2 := (hwr.cell (World.block_lt_of_cell? w _ hx2)).trans hx2
          have hy3 := (hwr.cell (World.block_lt_of_cell? w _ hx3)).trans hx3
          have hy4 := (hwr.cell (World.block_lt_of_cell? w _ hx4)).trans hx4
          have hy5 := (hwr.cell (World.block_lt_of_cell? w _ hx5)).trans hx5
          have hr : rd_T172 l1 k = l1[k] := by unfold rd_T172; rw [Int.toNat_natCast, List.getD_eq_getElem?_getD, List.getElem?_eq_getElem hlt]; rfl
          rw [hr] at hy0 hy1 hy2 hy3 hy4 hy5
          obtain ⟨r, hrr⟩ : ∃ r, r = l1[k] := ⟨_, rfl⟩
          rw [← hrr] at hy0 hy1 hy2 hy3 hy4 hy5
          have Hr := Aside0.mk hrr
          clear hrr hr hx0 hx1 hx2 hx3 hx4 hx5
          have hKb := fun o => hK.fresh o
          have hKl := hK.lt
          have hlen : (([] ++ chStocks sku l0) ++ chHolds sku (l1.take k)).length ≤ 90000 := by
            simp only [List.length_append, List.length_nil]
            have := chStocks_len sku l0; have := chHolds_len sku l1; have := chComing_len sku l3; have := chHolds_len sku (l1.take k); have : (l1.take k).length ≤ l1.length := List.length_take_le' _ _
            omega
          have hgo : ∀ (xs : List (Int × Int)) W, WorkAt (w.heap.size + 1 + 1) xs W → Below (w.heap.size + 1 + 1) W0 W → xs = ([] ++ chStocks sku l0) ++ chHolds sku (l1.take k) ++ chHold sku r → WorkAt (w.heap.size + 1 + 1) (([] ++ chStocks sku l0) ++ chHolds sku (l1.take (k + 1))) W := by
            rintro xs W h1 _ rfl
            rw [take_snoc hlt, chHolds_snoc, ← Hr.out, ← List.append_assoc]
            exact h1
          cases he : (r.f1.toList == sku.toList) with
          | true =>
            have he2 : (r.f1.toList != sku.toList) = false := by rw [bne, he]; rfl
            have hek := beq_iff_eq.1 he
            by_cases h4 : r.f4 = 0
            · have h4b : (r.f4 != 0) = false := by simp [h4]
              have H4 := Aside0.mk h4
              clear h4
              go_wp2_with fail
              refine (add_calls (w.heap.size + 1 + 1) _ _ 0 (wrap64 (-r.f3)) _ (hKb _) (by simp) (by omega) (by omega)).mono ?_
              rintro e w2 ⟨⟨rfl, hK2, hz2⟩, hB2, hs2⟩
              rw [heap_alloc_new] at hz2
              have hc3 : w2.cell? ⟨wr.heap.size, 3, none⟩ = some (.int .i64 r.f3) := (blk_cell hz2 3).trans rfl
              have hc5 : w2.cell? ⟨wr.heap.size, 5, none⟩ = some (.int .i64 r.f5) := (blk_cell hz2 5).trans rfl
              have hsz2 : wr.heap.size + 1 ≤ w2.heap.size := by simpa using hs2
              have hBn := hB.trans (((Below.refl _ wr).alloc (Nat.le_of_lt hKl) _).trans hB2)
              by_cases h5 : 0 < r.f5
              · have h5b : decide (0 < r.f5) = true := decide_eq_true h5
                by_cases h6 : r.f5 < 9223372036854775807
                · have h6b : decide (r.f5 < 9223372036854775807) = true := decide_eq_true h6
                  have H56 := Aside0.mk (And.intro h5 h6)
                  clear h5 h6
                  go_wp2_with fail
                  refine (add_calls (w.heap.size + 1 + 1) _ _ _ _ _ hK2 (by omega) (by omega) (by rw [List.length_append, List.length_singleton]; omega)).mono ?_
                  rintro e w3 ⟨⟨rfl, hK3, _⟩, hB3, hs3⟩
                  go_wp2
                  refine ⟨⟨k + 1, by omega, by simp, ?_, hBn.trans hB3⟩, by simp [intOf]; omega⟩
                  exact hgo _ _ hK3.plain (hBn.trans hB3) (by unfold chHold; rw [if_pos ⟨hek, H4.out⟩, if_pos H56.out]; simp)
                · have h6b : decide (r.f5 < 9223372036854775807) = false := decide_eq_false h6
                  have H6 := Aside0.mk h6
                  clear h5 h6
                  go_wp2
                  refine ⟨⟨k + 1, by omega, by simp, ?_, hBn⟩, by simp [intOf]; omega⟩
                  exact hgo _ _ hK2.plain hBn (by unfold chHold; rw [if_pos ⟨hek, H4.out⟩, if_neg (fun h => by have := H6.out; omega)])
              · have h5b : decide (0 < r.f5) = false := decide_eq_false h5
                have H5 := Aside0.mk h5
                clear h5
                go_wp2
                refine ⟨⟨k + 1, by omega, by simp, ?_, hBn⟩, by simp [intOf]; omega⟩
                exact hgo _ _ hK2.plain hBn (by unfold chHold; rw [if_pos ⟨hek, H4.out⟩, if_neg (fun h => by have := H5.out; omega)])
            · have h4b : (r.f4 != 0) = true := by simp [h4]
              have H4 := Aside0.mk h4
              clear h4
              go_wp2
              have hBn := fun o => hB.trans ((Below.refl _ wr).alloc (Nat.le_of_lt hKl) o)
              refine ⟨⟨k + 1, by omega, by simp, ?_, hBn _⟩, by simp [intOf]; omega⟩
              exact hgo _ _ (hKb _).plain (hBn _) (by unfold chHold; rw [if_neg (fun h => H4.out h.2), List.append_nil])
          | false =>
            have he2 : (r.f1.toList != sku.toList) = true := by rw [bne, he]; rfl
            have hek := beq_eq_false_iff_ne.1 he
            go_wp2
            have hBn := fun o => hB.trans ((Below.refl _ wr).alloc (Nat.le_of_lt hKl) o)
            refine ⟨⟨k + 1, by omega, by simp, ?_, hBn _⟩, by simp [intOf]; omega⟩
            exact hgo _ _ (hKb _).plain (hBn _) (by unfold chHold; rw [if_neg (fun h => hek h.1), List.append_nil])
        · obtain rfl : k = l1.length := by omega
          have hd : decide ((l1.length : Int) < (l1.length : Int)) = false := decide_eq_false (by omega)
          rw [List.take_length] at hK
          have hLk := (hB.block w.heap.size (by omega)).trans hL0
          have hrk := (hB.block (w.heap.size + 1) (by omega)).trans hr0
          have hcl : wr.cell? ⟨w.heap.size, 1, none⟩ = some (.slice A1 l1.length c1) := (blk_cell hLk 1).trans rfl
          go_wp2
          clear hC1
          go_loopw [75] (fun i wr => ∃ k : Nat, k ≤ l3.length ∧ i = .int .i64 k ∧ WorkAt (w.heap.size + 1 + 1) ((([] ++ chStocks sku l0) ++ chHolds sku l1) ++ chComing sku (l3.take k)) wr ∧ Below (w.heap.size + 1 + 1) W0 wr)
            (fun i _ => l3.length - (intOf i).toNat)
          case atStart => exact ⟨0, Nat.zero_le _, rfl, by rw [show chComing sku (l3.take 0) = [] from rfl, List.append_nil]; exact hK, hB⟩
          case round =>
            obtain ⟨k, hk, rfl, hK, hB⟩ := hrel
            have hwr : Below w.heap.size w wr := hB0.trans (hB.mono (by omega))
            by_cases hlt : k < l3.length
            · have hd : decide ((k : Int) < (l3.length : Int)) = true := decide_eq_true (by omega)
              obtain ⟨ad, rfl, hx0, hx1, hx2⟩ := at_T103 hC3 k (by omega) (by omega)
              rw [Int.toNat_natCast] at hx0 hx1 hx2
              have hy0 := (hwr.cell (World.block_lt_of_cell? w _ hx0)).trans hx0
              have hy1 := (hwr.cell (World.block_lt_of_cell? w _ hx1)).trans hx1
              have hy2 := (hwr.cell (World.block_lt_of_cell? w _ hx2)).trans hx2
              have hr : rd_T103 l3 k = l3[k] := by unfold rd_T103; rw [Int.toNat_natCast, List.getD_eq_getElem?_getD, List.getElem?_eq_getElem hlt]; rfl
              rw [hr] at hy0 hy1 hy2
              obtain ⟨r, hrr⟩ : ∃ r, r = l3[k] := ⟨_, rfl⟩
              rw [← hrr] at hy0 hy1 hy2
              have Hr := Aside0.mk hrr
              clear hrr hr hx0 hx1 hx2
              have hKb := fun o => hK.fresh o
              have hKl := hK.lt
              have hlen : ((([] ++ chStocks sku l0) ++ chHolds sku l1) ++ chComing sku (l3.take k)).length ≤ 90000 := by
                simp only [List.length_append, List.length_nil]
                have := chStocks_len sku l0; have := chHolds_len sku l1; have := chComing_len sku l3; have := chComing_len sku (l3.take k); have : (l3.take k).length ≤ l3.length := List.length_take_le' _ _
                omega
              cases he : (r.f0.toList == sku.toList) with
              | true =>
                go_wp2_with fail
                refine (add_calls (w.heap.size + 1 + 1) _ _ r.f2 r.f1 _ (hKb _) (by simp) (by omega) (by omega)).mono ?_
                rintro e w2 ⟨⟨rfl, hK2, _⟩, hB2, hs2⟩
                go_wp2
                refine ⟨⟨k + 1, by omega, by simp, ?_, (hB.trans (((Below.refl _ wr).alloc (Nat.le_of_lt hKl) _).trans hB2))⟩, by simp [intOf]; omega⟩
                rw [take_snoc hlt, chComing_snoc, ← Hr.out, if_pos (beq_iff_eq.1 he), ← List.append_assoc]
                exact hK2.plain
              | false =>
                go_wp2
                refine ⟨⟨k + 1, by omega, by simp, ?_, (hB.trans ((Below.refl _ wr).alloc (Nat.le_of_lt hKl) _))⟩, by simp [intOf]; omega⟩
                rw [take_snoc hlt, chComing_snoc, ← Hr.out, if_neg (beq_eq_false_iff_ne.1 he), List.append_nil]
                exact (hKb _).plain
            · obtain rfl : k = l3.length := by omega
              have hd : decide ((l3.length : Int) < (l3.length : Int)) = false := decide_eq_false (by omega)
              rw [List.take_length] at hK
              have hLk := (hB.block w.heap.size (by omega)).trans hL0
              have hrk := (hB.block (w.heap.size + 1) (by omega)).trans hr0
              have hcl : wr.cell? ⟨w.heap.size, 1, none⟩ = some (.slice A1 l1.length c1) := (blk_cell hLk 1).trans rfl
              go_wp2
              clear hC3
              go_loopw [92] (fun i wr => ∃ k : Nat, k ≤ l4.length ∧ i = .int .i64 k ∧ WorkAt (w.heap.size + 1 + 1) (((([] ++ chStocks sku l0) ++ chHolds sku l1) ++ chComing sku l3) ++ chTaken sku (l4.take k)) wr ∧ Below (w.heap.size + 1 + 1) W0 wr)
                (fun i _ => l4.length - (intOf i).toNat)
              case atStart => exact ⟨0, Nat.zero_le _, rfl, by rw [show chTaken sku (l4.take 0) = [] from rfl, List.append_nil]; exact hK, hB⟩
              case round =>
                obtain ⟨k, hk, rfl, hK, hB⟩ := hrel
                have hwr : Below w.heap.size w wr := hB0.trans (hB.mono (by omega))
                by_cases hlt : k < l4.length
                · have hd : decide ((k : Int) < (l4.length : Int)) = true := decide_eq_true (by omega)
                  obtain ⟨ad, rfl, hx0, hx1, hx2⟩ := at_T103 hC4 k (by omega) (by omega)
                  rw [Int.toNat_natCast] at hx0 hx1 hx2
                  have hy0 := (hwr.cell (World.block_lt_of_cell? w _ hx0)).trans hx0
                  have hy1 := (hwr.cell (World.block_lt_of_cell? w _ hx1)).trans hx1
                  have hy2 := (hwr.cell (World.block_lt_of_cell? w _ hx2)).trans hx2
                  have hr : rd_T103 l4 k = l4[k] := by unfold rd_T103; rw [Int.toNat_natCast, List.getD_eq_getElem?_getD, List.getElem?_eq_getElem hlt]; rfl
                  rw [hr] at hy0 hy1 hy2
                  obtain ⟨r, hrr⟩ : ∃ r, r = l4[k] := ⟨_, rfl⟩
                  rw [← hrr] at hy0 hy1 hy2
                  have Hr := Aside0.mk hrr
                  clear hrr hr hx0 hx1 hx2
                  have hKb := fun o => hK.fresh o
                  have hKl := hK.lt
                  have hlen : (((([] ++ chStocks sku l0) ++ chHolds sku l1) ++ chComing sku l3) ++ chTaken sku (l4.take k)).length ≤ 90000 := by
                    simp only [List.length_append, List.length_nil]
                    have := chStocks_len sku l0; have := chHolds_len sku l1; have := chComing_len sku l3; have := chTaken_len sku (l4.take k); have : (l4.take k).length ≤ l4.length := List.length_take_le' _ _
                    omega
                  cases he : (r.f0.toList == sku.toList) with
                  | true =>
                    go_wp2_with fail
                    refine (add_calls (w.heap.size + 1 + 1) _ _ r.f2 (wrap64 (-r.f1)) _ (hKb _) (by simp) (by omega) (by omega)).mono ?_
                    rintro e w2 ⟨⟨rfl, hK2, _⟩, hB2, hs2⟩
                    go_wp2
                    refine ⟨⟨k + 1, by omega, by simp, ?_, (hB.trans (((Below.refl _ wr).alloc (Nat.le_of_lt hKl) _).trans hB2))⟩, by simp [intOf]; omega⟩
                    rw [take_snoc hlt, chTaken_snoc, ← Hr.out, if_pos (beq_iff_eq.1 he), ← List.append_assoc]
                    exact hK2.plain
                  | false =>
                    go_wp2
                    refine ⟨⟨k + 1, by omega, by simp, ?_, (hB.trans ((Below.refl _ wr).alloc (Nat.le_of_lt hKl) _))⟩, by simp [intOf]; omega⟩
                    rw [take_snoc hlt, chTaken_snoc, ← Hr.out, if_neg (beq_eq_false_iff_ne.1 he), List.append_nil]
                    exact (hKb _).plain
                · obtain rfl : k = l4.length := by omega
                  have hd : decide ((l4.length : Int) < (l4.length : Int)) = false := decide_eq_false (by omega)
                  rw [List.take_length] at hK
                  have hLk := (hB.block w.heap.size (by omega)).trans hL0
                  have hrk := (hB.block (w.heap.size + 1) (by omega)).trans hr0
                  have hcl : wr.cell? ⟨w.heap.size, 1, none⟩ = some (.slice A1 l1.length c1) := (blk_cell hLk 1).trans rfl
                  obtain ⟨v, hv, hR⟩ := hK
                  obtain ⟨X, hX⟩ : ∃ X, (((([] ++ chStocks sku l0) ++ chHolds sku l1) ++ chComing sku l3) ++ chTaken sku l4) = X := ⟨_, rfl⟩
                  have hT : X = toldF l0 l1 l3 l4 sku := by rw [← hX, List.nil_append]; rfl
                  have HT := Aside0.mk hT
                  rw [hX] at hR
                  clear hX hT
                  obtain ⟨Av, cv, rfl⟩ := Kd.R_slice hR
                  have hcv : wr.cell? ⟨w.heap.size + 1 + 1, 0, none⟩ = some (.slice Av X.length cv) := (blk_cell hv 0).trans rfl
                  have hcr : wr.cell? ⟨w.heap.size + 1, 0, none⟩ = some (.slice none 0 0) := (blk_cell hrk 0).trans rfl
                  have hfr : wr.frozen? ⟨w.heap.size + 1, 0, none⟩ = false := blk_frozen hrk 0
                  go_wp2
                  have q0 : (wr.setCell ⟨w.heap.size + 1, 0, none⟩ (.slice Av X.length cv)).cell? ⟨w.heap.size + 1, 0, none⟩ = some (.slice Av X.length cv) := World.cell?_setCell_same' _ _ _ (by rw [hcr]; rfl)
                  refine bodyPost_ret (v := .agg #[.slice Av X.length cv]) (by simp [results, Tryz.results41, go_sem, q0]) rfl ⟨_, rfl, ?_, (hB0.trans (hB.mono (by omega))).setCell (show w.heap.size ≤ w.heap.size + 1 from Nat.le_succ _) _⟩
                  rw [← HT.out]
                  refine Kd.R_lower (Kd.R_mono (Kd.R_far hR (p := ⟨w.heap.size + 1, 0, none⟩) (fun k hk => ?_) _) (fun k hk => ?_)) (show w.heap.size ≤ w.heap.size + 1 + 1 + 1 by omega)
                  · exact Nat.ne_of_gt (show w.heap.size + 1 < k from by have : w.heap.size + 1 + 1 + 1 ≤ k := hk; omega)
                  · have : w.heap.size + 1 + 1 + 1 ≤ k := hk
                    omega
end Go.Proofs.YtofkhcgkahkagaaGreat

