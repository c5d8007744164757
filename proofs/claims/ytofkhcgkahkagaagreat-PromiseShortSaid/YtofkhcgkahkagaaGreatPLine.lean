/- work.line lists from when on how many are free. -/
import Derived.Test.YtofkhcgkahkagaaGreatPTimes
import Derived.Test.YtofkhcgkahkagaaGreatLoc
import Derived.Test.YtofkhcgkahkagaaGreatGen
import Derived.RangeFuncBox
namespace Go.Proofs.YtofkhcgkahkagaaGreat
open Go.RowKit Go.Shelf Go.Proofs.YtofkhcgkahkagaaGreatW.PrintWords Go.Proofs.YtofkhcgkahkagaaGreatW.PrintLast Go.Proofs.YtofkhcgkahkagaaGreatW.PrintMore Go.Proofs.YtofkhcgkahkagaaGreat.PPromiseShort
attribute [local go_sem] Oper.semAt_some
set_option linter.unusedVariables false
set_option linter.unusedSimpArgs false

def sumAt (xs : List (Int × Int)) (t : Int) : Int × Int := sumOf (freeL t xs)
def pushS (xs : List (Int × Int)) (acc : List S111) (t : Int) : List S111 := if acc.getLast?.map (fun s => s.f1) = some (sumAt xs t).1 then acc else acc ++ [⟨t, (sumAt xs t).1⟩]
def lineR (xs : List (Int × Int)) : List Int → List S111 → List S111 × Int
  | [], acc => (acc, 0)
  | t :: ts, acc => if (sumAt xs t).2 = 0 then lineR xs ts (pushS xs acc t) else ([], (sumAt xs t).2)
def lineF (xs : List (Int × Int)) : List S111 × Int := lineR xs (timesL xs) []

theorem lineR_ok (xs : List (Int × Int)) : ∀ (pre ts : List Int) (acc : List S111), (∀ t ∈ pre, (sumAt xs t).2 = 0) → lineR xs (pre ++ ts) acc = lineR xs ts (pre.foldl (pushS xs) acc)
  | [], ts, acc, _ => rfl
  | t :: pre, ts, acc, h => by
    rw [List.cons_append, lineR, if_pos (h t (by simp)), List.foldl_cons]
    exact lineR_ok xs pre ts _ (fun y hy => h y (by simp [hy]))

theorem local_ch : Local kCh := local_pair (local_int _) (local_int _)

theorem pushS_len (xs : List (Int × Int)) (acc : List S111) (t : Int) : (pushS xs acc t).length ≤ acc.length + 1 := by
  unfold pushS
  split
  · omega
  · simp
theorem foldl_len (xs : List (Int × Int)) : ∀ (pre : List Int) (acc : List S111), (pre.foldl (pushS xs) acc).length ≤ acc.length + pre.length
  | [], acc => by simp
  | t :: pre, acc => by
    have h1 := foldl_len xs pre (pushS xs acc t)
    have h2 := pushS_len xs acc t
    rw [List.foldl_cons, List.length_cons]
    omega

/-- line's blocks between two rounds. -/
structure LineI (w : World) (A : Option Addr) (c : Nat) (xs : List (Int × Int)) (pre : List Int) (D : Nat → Prop) (V : World) : Prop where
  all : ∀ t ∈ pre, (sumAt xs t).2 = 0
  own : ∀ k, k < w.heap.size + 4 → D k
  low : Same (fun k => k < w.heap.size) w V
  b0 : V.heap[w.heap.size]? = some (.cells #[.slice A xs.length c] 117 (0, 0))
  b1 : V.heap[w.heap.size + 1]? = some (.cells #[.slice none 0 0] 104 (0, 0))
  b2 : V.heap[w.heap.size + 2]? = some (.cells #[.int .i64 0] 41 (0, 0))
  out : ∃ v, V.heap[w.heap.size + 3]? = some (.cells #[v] 104 (0, 0)) ∧ Kd.R k111 111 V (w.heap.size + 4) (fun k => D k ∧ w.heap.size + 4 ≤ k) v (pre.foldl (pushS xs) [])

theorem LineI.same {w : World} {A : Option Addr} {c : Nat} {xs : List (Int × Int)} {pre : List Int} {D : Nat → Prop} {V V' : World} (h : LineI w A c xs pre D V) (hs : Same D V V') : LineI w A c xs pre D V' := by
  obtain ⟨h0, h1, h2, h3, h4, h5, v, h6, h7⟩ := h
  exact ⟨h0, h1, h2.trans' (hs.mono (fun k hk => h1 k (by omega))), (hs.block _ (h1 _ (by omega))).trans h3, (hs.block _ (h1 _ (by omega))).trans h4, (hs.block _ (h1 _ (by omega))).trans h5, v, (hs.block _ (h1 _ (by omega))).trans h6, Kd.R_step h7 (fun k hk _ => hs.block k hk.1)⟩

/-- What a round that returns has left. -/
def LineX (w : World) (xs : List (Int × Int)) (pre : List Int) (D : Nat → Prop) (V : World) : Prop :=
  ∃ pre2 t, pre = pre2 ++ [t] ∧ (∀ y ∈ pre2, (sumAt xs y).2 = 0) ∧ (sumAt xs t).2 ≠ 0 ∧ (∀ k, k < w.heap.size + 4 → D k) ∧ Same (fun k => k < w.heap.size) w V ∧
    V.heap[w.heap.size + 1]? = some (.cells #[.slice none 0 0] 104 (0, 0)) ∧ V.heap[w.heap.size + 2]? = some (.cells #[.int .i64 (sumAt xs t).2] 41 (0, 0))

/-- How work.line ends. -/
def LineEnd (w : World) (xs : List (Int × Int)) (e : Ending) (w' : World) : Prop :=
  ∃ A c, e = .returned (.tuple #[.slice A (lineF xs).1.length c, .int .i64 (lineF xs).2]) ∧ Kd.R k111 111 w' w.heap.size (fun k => w.heap.size ≤ k) (.slice A (lineF xs).1.length c) (lineF xs).1 ∧ Below w.heap.size w w'

/-- A round that goes on has left this. -/
def LineDone (w : World) (A : Option Addr) (c : Nat) (xs : List (Int × Int)) (pre : List Int) (D : Nat → Prop) (V W : World) : Prop := ∃ D', Turn D D' V W ∧ LineI w A c xs pre D' W

theorem LineI.stay {w : World} {A : Option Addr} {c : Nat} {xs : List (Int × Int)} {pre : List Int} {t : Int} {D : Nat → Prop} {V V2 : World} (h : LineI w A c xs pre D V) (hlt : ∀ k, D k → k < V.heap.size) (hb : Below V.heap.size V V2) (h0 : (sumAt xs t).2 = 0)
    (hp : pushS xs (pre.foldl (pushS xs) []) t = pre.foldl (pushS xs) []) : LineDone w A c xs (pre ++ [t]) D V V2 := by
  have h2 := h.same ((Same.of_below hb).mono hlt)
  refine ⟨D, ⟨fun k hk => .inl hk, fun k hk => Nat.lt_of_lt_of_le (hlt k hk) hb.size, (Same.of_below hb).mono (fun k hk => hk.1)⟩, ⟨fun y hy => ?_, h2.own, h2.low, h2.b0, h2.b1, h2.b2, ?_⟩⟩
  · rcases List.mem_append.1 hy with hy | hy
    · exact h.all y hy
    · rw [List.mem_singleton.1 hy]; exact h0
  · rw [List.foldl_append]
    show ∃ v, _ ∧ Kd.R k111 111 V2 _ _ v (pushS xs (pre.foldl (pushS xs) []) t)
    rw [hp]
    exact h2.out

theorem LineI.push {w : World} {A : Option Addr} {c : Nat} {xs : List (Int × Int)} {pre : List Int} {t : Int} {D : Nat → Prop} {V V2 : World} {v : Value} (h : LineI w A c xs pre D V) (hlt : ∀ k, D k → k < V.heap.size) (hb : Below V.heap.size V V2) (h0 : (sumAt xs t).2 = 0)
    (hp : pushS xs (pre.foldl (pushS xs) []) t = pre.foldl (pushS xs) [] ++ [⟨t, (sumAt xs t).1⟩]) (hlen : pre.length ≤ 200000)
    (b3 : V.heap[w.heap.size + 3]? = some (.cells #[v] 104 (0, 0))) (hR : Kd.R k111 111 V (w.heap.size + 4) (fun k => D k ∧ w.heap.size + 4 ≤ k) v (pre.foldl (pushS xs) [])) :
    ∃ A1 n1 c1 w1, (Builtin.append_ #[104, 104] 104 #[v, .slice (some ⟨V2.heap.size, 0, none⟩) 1 1]).run Tryz.prog (V2.alloc (.cells #[.int .i64 t, .int .i64 (sumAt xs t).1] 111)) = .ok (.slice A1 n1 c1) w1 ∧
      w1.cell? ⟨w.heap.size + 1 + 1 + 1, 0, none⟩ = some v ∧ w1.frozen? ⟨w.heap.size + 1 + 1 + 1, 0, none⟩ = false ∧ LineDone w A c xs (pre ++ [t]) D V (w1.setCell ⟨w.heap.size + 1 + 1 + 1, 0, none⟩ (.slice A1 n1 c1)) := by
  have hl := foldl_len xs pre []
  rw [List.length_nil] at hl
  have hl3 : w.heap.size + 3 < V.heap.size := (Array.getElem?_eq_some_iff.1 b3).1
  have hz := hb.size
  have hR2 := Kd.R_below hR hb
  have hRb := Kd.R_bound hR
  obtain ⟨A1, c1, w1, hrun, hR1, hg1⟩ := append_made k111 (P := Tryz.prog) (w.heap.size + 4) 104 104 111 _ 16 Tryz.underlying104 info111 rfl (by decide) (by decide) V2 v _ ⟨t, (sumAt xs t).1⟩ [.int .i64 t, .int .i64 (sumAt xs t).1] (fun k => (D k ∧ w.heap.size + 4 ≤ k) ∨ V.heap.size ≤ k) (fun _ => False)
    (k111_mkM _ _ _ ⟨t, (sumAt xs t).1⟩) (fun k hk => hk.elim) (fun k hk => .inr (by omega)) (Kd.R_mono hR2 (fun k hk => .inl hk)) (by omega) (by omega)
  have hne : ∀ k, k < w.heap.size + 4 → some k ≠ v.ownBlock := fun k hk he => by
    have := (hR.1 k he.symm).2
    omega
  have hkeep : ∀ k, k < V.heap.size → some k ≠ v.ownBlock → w1.heap[k]? = V.heap[k]? := fun k hk hk2 => (hg1.block k (by omega) hk2).trans (hb.block k hk)
  have b3w : w1.heap[w.heap.size + 1 + 1 + 1]? = some (.cells #[v] 104 (0, 0)) := (hkeep _ (by omega) (hne _ (by omega))).trans b3
  have hz1 := hg1.size
  refine ⟨A1, _, c1, w1, hrun, by simp [World.cell?, b3w], by simp [World.frozen?, b3w], fun k => D k ∨ (V.heap.size ≤ k ∧ k < w1.heap.size), ⟨fun k hk => hk.elim .inl (fun h => .inr h.1), fun k hk => ?_, ?_⟩, ⟨fun y hy => ?_, fun k hk => .inl (h.own k hk), ?_, ?_, ?_, ?_, _, blk_set b3w 0 _, ?_⟩⟩
  · rcases hk with hk | hk
    · have := hlt k hk; simp [World.setCell]; omega
    · simpa [World.setCell] using hk.2
  · refine ⟨hg1.os.trans hb.os, hg1.tape.trans hb.tape, hg1.output.trans hb.output, by simp [World.setCell]; omega, fun k hk => (Below.heap_setCell _ _ _ _ (fun e => hk.2 (by rw [show k = w.heap.size + 1 + 1 + 1 from e]; exact h.own _ (by omega)))).trans (hkeep k hk.1 (fun he => hk.2 (hR.1 k he.symm).1))⟩
  · rcases List.mem_append.1 hy with hy | hy
    · exact h.all y hy
    · rw [List.mem_singleton.1 hy]; exact h0
  · refine ⟨hg1.os.trans (hb.os.trans h.low.os), hg1.tape.trans (hb.tape.trans h.low.tape), hg1.output.trans (hb.output.trans h.low.output), by simp [World.setCell]; have := h.low.size; omega, fun k hk => (Below.heap_setCell _ _ _ _ (show k ≠ w.heap.size + 1 + 1 + 1 by omega)).trans ((hkeep k (by omega) (hne k (by omega))).trans (h.low.block k hk))⟩
  · exact blk_far ((hkeep _ (by omega) (hne _ (by omega))).trans h.b0) (show w.heap.size ≠ w.heap.size + 1 + 1 + 1 by omega) _
  · exact blk_far ((hkeep _ (by omega) (hne _ (by omega))).trans h.b1) (show w.heap.size + 1 ≠ w.heap.size + 1 + 1 + 1 by omega) _
  · exact blk_far ((hkeep _ (by omega) (hne _ (by omega))).trans h.b2) (show w.heap.size + 2 ≠ w.heap.size + 1 + 1 + 1 by omega) _
  · rw [List.foldl_append]
    show Kd.R k111 111 _ _ _ _ (pushS xs (pre.foldl (pushS xs) []) t)
    rw [hp]
    refine Kd.R_mono (Kd.R_far (Kd.R_bound hR1) (p := ⟨w.heap.size + 1 + 1 + 1, 0, none⟩) (fun k hk => ?_) _) (fun k hk => ?_)
    · exact Nat.ne_of_gt (show w.heap.size + 3 < k from by have := hk.2.1; omega)
    · exact ⟨hk.1.elim (fun h => .inl h.1) (fun h => .inr ⟨h, hk.2.2.1⟩), hk.2.1⟩

set_option maxRecDepth 100000 in
set_option maxHeartbeats 4000000 in
theorem line_calls (A : Option Addr) (c : Nat) (xs : List (Int × Int)) (hn : xs.length ≤ 90000) (hx : Ch64 xs) (w : World) (hF : Kd.C kCh w A xs.length xs) (hc : xs.length ≤ c) :
    Calls Tryz.prog 42 #[.agg #[.slice A xs.length c]] w (LineEnd w xs) := by
  refine callsIn_wide (n := 0).1 ?_
  refine callsIn_of_wp_marks Tryz.func42 rfl trivial ?_ rfl
  simp only [Tryz.ntmps42, List.size_toArray, List.length_cons, List.length_nil, Nat.reduceAdd, Nat.reduceSub, Array.replicate_succ, Array.replicate_zero, List.push_toArray, List.append_toArray, List.nil_append, List.cons_append]
  have hu := Tryz.underlying117
  gi_wp2_with fail
  refine ⟨trivial, rfl, (callsIn_wide.2 (times_calls A _ c _)).mono ?_⟩
  rintro e w' ⟨rfl, rfl⟩
  gi_wp2
  obtain ⟨W1, hW1⟩ : ∃ W1, ((((w.alloc (.cells #[.slice A xs.length c] 117)).alloc (.cells #[.slice none 0 0] 104)).alloc (.cells #[.int .i64 0] 41)).alloc (.cells #[.slice none 0 0] 104)).alloc (.cells #[.slice A xs.length c] 117) = W1 := ⟨_, rfl⟩
  rw [hW1]
  have hB1 : Below w.heap.size w W1 := by rw [← hW1]; exact (((((Below.refl _ w).alloc (Nat.le_refl _) _).alloc (by simp) _).alloc (by simp <;> omega) _).alloc (by simp <;> omega) _).alloc (by simp <;> omega) _
  have hs1 : W1.heap.size = w.heap.size + 5 := by rw [← hW1]; simp
  have c0 : W1.heap[w.heap.size]? = some (.cells #[.slice A xs.length c] 117 (0, 0)) := by
    rw [← hW1]
    exact (Below.heap_alloc _ _ _ (by simp <;> omega)).trans ((Below.heap_alloc _ _ _ (by simp <;> omega)).trans ((Below.heap_alloc _ _ _ (by simp <;> omega)).trans ((Below.heap_alloc _ _ _ (by simp)).trans (heap_alloc_new w _))))
  have c1 : W1.heap[w.heap.size + 1]? = some (.cells #[.slice none 0 0] 104 (0, 0)) := by
    rw [← hW1]
    have := heap_alloc_new (w.alloc (.cells #[.slice A xs.length c] 117)) (.cells #[.slice none 0 0] 104)
    rw [World.size_alloc] at this
    exact (Below.heap_alloc _ _ _ (by simp <;> omega)).trans ((Below.heap_alloc _ _ _ (by simp <;> omega)).trans ((Below.heap_alloc _ _ _ (by simp)).trans this))
  have c2 : W1.heap[w.heap.size + 2]? = some (.cells #[.int .i64 0] 41 (0, 0)) := by
    rw [← hW1]
    have := heap_alloc_new ((w.alloc (.cells #[.slice A xs.length c] 117)).alloc (.cells #[.slice none 0 0] 104)) (.cells #[.int .i64 0] 41)
    rw [World.size_alloc, World.size_alloc] at this
    exact (Below.heap_alloc _ _ _ (by simp <;> omega)).trans ((Below.heap_alloc _ _ _ (by simp)).trans this)
  have c3 : W1.heap[w.heap.size + 3]? = some (.cells #[.slice none 0 0] 104 (0, 0)) := by
    rw [← hW1]
    have := heap_alloc_new (((w.alloc (.cells #[.slice A xs.length c] 117)).alloc (.cells #[.slice none 0 0] 104)).alloc (.cells #[.int .i64 0] 41)) (.cells #[.slice none 0 0] 104)
    rw [World.size_alloc, World.size_alloc, World.size_alloc] at this
    exact (Below.heap_alloc _ _ _ (by simp)).trans this
  have c4 : W1.heap[w.heap.size + 4]? = some (.cells #[.slice A xs.length c] 117 (0, 0)) := by
    rw [← hW1]
    have := heap_alloc_new ((((w.alloc (.cells #[.slice A xs.length c] 117)).alloc (.cells #[.slice none 0 0] 104)).alloc (.cells #[.int .i64 0] 41)).alloc (.cells #[.slice none 0 0] 104)) (.cells #[.slice A xs.length c] 117)
    rw [World.size_alloc, World.size_alloc, World.size_alloc, World.size_alloc] at this
    exact this
  clear hW1
  have hFa := F_all local_ch hF
  have hFat : ∀ V : World, Same (fun k => k < w.heap.size) w V → Kd.C kCh V A xs.length xs := fun V hV => hFa V (fun k hk _ => hV.block k hk)
  clear hFa
  have h0 : LineI w A c xs [] (fun k => k < w.heap.size + 4) W1 := ⟨by simp, fun k hk => hk, Same.of_below hB1, c0, c1, c2, _, c3, Kd.R_nil _ _ _ _ _⟩
  have htl : (timesL xs).length ≤ 100000 := by
    refine Nat.le_trans (compact_len _) ?_
    rw [List.length_mergeSort, List.length_cons, List.length_map]
    omega
  refine wp_range (gf := 138) (lb := #[.pointer (some ⟨w.heap.size + 4, 0, none⟩)]) rfl (enters_of Tryz.func138 (by kernel_rfl) rfl) (times_iter (w.heap.size + 4) A c xs (by omega))
    (fun V hV => ⟨(hV.block _ (by omega)).trans c4, hFat V ((Same.of_below hB1).trans' ((Same.of_below hV).mono (fun k hk => by omega))), hc⟩) (fun k hk => hk.elim) (fun x args D W h => by rw [h]; rfl) (fun x args D D' W h _ => h)
    (fun k => k < w.heap.size + 4) (fun k hk => ⟨by omega, fun h => h⟩)
    (fun pre D V => LineI w A c xs pre D V) (fun cd pre D V => cd = .ret ∧ LineX w xs pre D V)
    ?hI ?hIx h0 ?round ?done ?stop
  case hI => exact fun pre D A B h hs => h.same hs
  case hIx =>
    rintro cd pre D A B ⟨hcd, pre2, t, h1, h2, h3, h4, h5, h6, h7⟩ hs
    exact ⟨hcd, pre2, t, h1, h2, h3, h4, h5.trans' (hs.mono (fun k hk => h4 k (by omega))), (hs.block _ (h4 _ (by omega))).trans h6, (hs.block _ (h4 _ (by omega))).trans h7⟩
  case round =>
    rintro l' pre t post D1 V Vb args hxx hl' hnl _ _ hIb hlt hsz hsub rfl hsame hsize
    have hltb : ∀ k, D1 k → k < Vb.heap.size := fun k hk => by rw [← hsize]; exact hlt k hk
    have hCb := hFat Vb hIb.low
    have hlen : pre.length ≤ 200000 := by
      have := congrArg List.length hxx
      rw [List.length_append, List.length_cons] at this
      omega
    have hfree := free_calls A c xs t Vb hCb hc hx (by omega)
    have hc0 : Vb.cell? ⟨w.heap.size, 0, none⟩ = some (.slice A xs.length c) := (blk_cell hIb.b0 0).trans rfl
    obtain ⟨v, b3, hR⟩ := hIb.out
    have Hs1 := Lib.hid hs1
    have Hxx := Lib.hid hxx
    have Hsz := Lib.hid hsize
    clear hs1 hxx hsize c0 c1 c2 c3 c4 h0 hF hFat hB1
    gi_wp2
    refine ⟨trivial, ?_⟩
    gi_wp2_with fail
    refine ⟨trivial, rfl, (CallsIn.inRound l' (callsIn_wide.2 hfree)).mono ?_⟩
    clear hfree
    rintro e W2 ⟨rfl, hb2⟩
    have hsum : sumOf (freeL t xs) = sumAt xs t := rfl
    rw [hsum]
    clear hsum
    by_cases he : (sumAt xs t).2 = 0
    · have he2 : ((sumAt xs t).2 != 0) = false := by rw [he]; rfl
      obtain ⟨Av, cv, rfl⟩ := Kd.R_slice hR
      have b3w := (hb2.block _ (hltb _ (hIb.own _ (by omega)))).trans b3
      have hc3 : W2.cell? ⟨w.heap.size + 1 + 1 + 1, 0, none⟩ = some (.slice Av (pre.foldl (pushS xs) []).length cv) := (blk_cell b3w 0).trans rfl
      have hpush := fun hp => hIb.push hltb hb2 he hp hlen b3 hR
      have hstay := fun hp => hIb.stay hltb hb2 he hp
      have hrd := Kd.R_reads' (Kd.R_below hR hb2)
      have hl := foldl_len xs pre []
      rw [List.length_nil] at hl
      obtain ⟨acc, hacc⟩ : ∃ acc, pre.foldl (pushS xs) [] = acc := ⟨_, rfl⟩
      rw [hacc] at hc3 hpush hstay hrd hl
      have He := Lib.hid he
      clear hacc hR b3 b3w he hCb hIb
      rcases List.eq_nil_or_concat acc with rfl | ⟨ys, y, hcat⟩
      · obtain ⟨A1, n1, c1, w1, hrun, hw1, hw2, D', hT, hI2⟩ := hpush (by unfold pushS; rw [if_neg (by simp)])
        have hl0 : ((([] : List S111).length : Int) == 0) = true := rfl
        clear hpush hstay hrd
        gi_wp2_with (refine wpListIn_append_run rfl _ _ _ rfl hrun ?_)
        exact ⟨D', hT, hI2⟩
      · rw [List.concat_eq_append] at hcat
        subst hcat
        have hl0 : (((ys ++ [y]).length : Int) == 0) = false := by simp; omega
        obtain ⟨ad, rfl, hx0, hx1⟩ := at_T111 hrd.2.2 (ys.length : Int) (by omega) (by simp <;> omega)
        have hy : rd_T111 (ys ++ [y]) (ys.length : Int) = y := by unfold rd_T111; simp
        rw [hy, Int.toNat_natCast] at hx0 hx1
        clear hy hrd
        have hgl : (ys ++ [y]).getLast? = some y := by simp
        by_cases hn1 : y.f1 = (sumAt xs t).1
        · have hI2 := hstay (by unfold pushS; rw [if_pos (by rw [hgl, Option.map_some, hn1])])
          have hb1 : (y.f1 != (sumAt xs t).1) = false := by rw [hn1]; simp
          have Hn1 := Lib.hid hn1
          have HI2 := Lib.hid hI2
          clear hpush hstay hn1 hI2 hgl
          simp only [List.length_append, List.length_singleton] at hc3 hl0 hl
          gi_wp2
          obtain ⟨D', hT, hI2⟩ := HI2.out
          exact ⟨D', hT, hI2⟩
        · obtain ⟨A1, n1, c1, w1, hrun, hw1, hw2, D', hT, hI2⟩ := hpush (by unfold pushS; rw [if_neg (by rw [hgl, Option.map_some]; simpa using hn1)])
          have hb1 : (y.f1 != (sumAt xs t).1) = true := by simpa using hn1
          clear hpush hstay hn1 hgl
          simp only [List.length_append, List.length_singleton] at hc3 hl0 hl hrun hw1
          gi_wp2_with (refine wpListIn_append_run rfl _ _ _ rfl hrun ?_)
          exact ⟨D', hT, hI2⟩
    · have he2 : ((sumAt xs t).2 != 0) = true := by simpa using he
      have b1w := (hb2.block _ (hltb _ (hIb.own _ (by omega)))).trans hIb.b1
      have b2w := (hb2.block _ (hltb _ (hIb.own _ (by omega)))).trans hIb.b2
      have hc1 : W2.cell? ⟨w.heap.size + 1, 0, none⟩ = some (.slice none 0 0) := (blk_cell b1w 0).trans rfl
      have hf1 : W2.frozen? ⟨w.heap.size + 1, 0, none⟩ = false := blk_frozen b1w 0
      have hc2 : W2.cell? ⟨w.heap.size + 1 + 1, 0, none⟩ = some (.int .i64 0) := (blk_cell b2w 0).trans rfl
      have hf2 : W2.frozen? ⟨w.heap.size + 1 + 1, 0, none⟩ = false := blk_frozen b2w 0
      gi_wp2
      have hlt2 : ∀ k, D1 k → k < W2.heap.size := fun k hk => Nat.lt_of_lt_of_le (hltb k hk) hb2.size
      have ht0 : Turn D1 D1 Vb W2 := ⟨fun k hk => .inl hk, hlt2, (Same.of_below hb2).mono (fun k hk => hk.1)⟩
      have ht := (ht0.trans (Turn.set hlt2 (p := ⟨w.heap.size + 1, 0, none⟩) (hIb.own _ (show w.heap.size + 1 < w.heap.size + 4 by omega)) (.slice none 0 0))).trans (Turn.set (fun k hk => by simpa [World.setCell] using hlt2 k hk) (p := ⟨w.heap.size + 1 + 1, 0, none⟩) (hIb.own _ (show w.heap.size + 1 + 1 < w.heap.size + 4 by omega)) (.int .i64 (sumAt xs t).2))
      refine ⟨D1, ht, rfl, pre, t, rfl, hIb.all, he, hIb.own, ?_, blk_far (blk_set b1w 0 _) (show w.heap.size + 1 ≠ w.heap.size + 1 + 1 by omega) _, blk_set (blk_far b2w (show w.heap.size + 2 ≠ w.heap.size + 1 by omega) _) 0 _⟩
      refine (hIb.low.trans' ((Same.of_below hb2).mono (fun k hk => by have := hltb _ (hIb.own k (by omega)); exact this))).trans' ⟨rfl, rfl, rfl, by simp [World.setCell], fun k hk => (Below.heap_setCell _ _ _ _ (show k ≠ w.heap.size + 1 + 1 by omega)).trans (Below.heap_setCell _ _ _ _ (show k ≠ w.heap.size + 1 by omega))⟩
  case done =>
    rintro K D1 V hK hsub hnK hlt hsame hI _ hdef
    obtain ⟨v, b3, hR⟩ := hI.out
    have hlF : lineF xs = ((timesL xs).foldl (pushS xs) [], 0) := by
      unfold lineF
      have := lineR_ok xs (timesL xs) [] [] hI.all
      rw [List.append_nil] at this
      rw [this]
      rfl
    obtain ⟨A2, cv, rfl⟩ := Kd.R_slice hR
    have hlow := hI.low
    have b1 := hI.b1
    have b2 := hI.b2
    obtain ⟨acc, hacc⟩ : ∃ acc, (timesL xs).foldl (pushS xs) [] = acc := ⟨_, rfl⟩
    rw [hacc] at hR hlF b3
    clear hacc hI c0 c1 c2 c3 c4 h0 hF hFat
    have hc1 : V.cell? ⟨w.heap.size + 1, 0, none⟩ = some (.slice none 0 0) := (blk_cell b1 0).trans rfl
    have hf1 : V.frozen? ⟨w.heap.size + 1, 0, none⟩ = false := blk_frozen b1 0
    have hc2 : V.cell? ⟨w.heap.size + 1 + 1, 0, none⟩ = some (.int .i64 0) := (blk_cell b2 0).trans rfl
    have hf2 : V.frozen? ⟨w.heap.size + 1 + 1, 0, none⟩ = false := blk_frozen b2 0
    have hc3 : V.cell? ⟨w.heap.size + 1 + 1 + 1, 0, none⟩ = some (.slice A2 acc.length cv) := (blk_cell b3 0).trans rfl
    have hKne : K ≠ w.heap.size + 1 ∧ K ≠ w.heap.size + 1 + 1 := ⟨by omega, by omega⟩
    obtain ⟨V2, hV2⟩ : ∃ V2, (V.setCell ⟨w.heap.size + 1, 0, none⟩ (.slice A2 acc.length cv)).setCell ⟨w.heap.size + 1 + 1, 0, none⟩ (.int .i64 0) = V2 := ⟨_, rfl⟩
    have hg : Same (fun k => k ≠ w.heap.size + 1 ∧ k ≠ w.heap.size + 1 + 1) V V2 := by
      rw [← hV2]
      exact ⟨rfl, rfl, rfl, by simp [World.setCell], fun k hk => (Below.heap_setCell _ _ _ _ hk.2).trans (Below.heap_setCell _ _ _ _ hk.1)⟩
    have hdef2 : V2.heap[K]? = some (.deferred (some [])) := (hg.block K hKne).trans hdef
    have e1 : V2.heap[w.heap.size + 1]? = some (.cells #[.slice A2 acc.length cv] 104 (0, 0)) := by rw [← hV2]; exact blk_far (blk_set b1 0 _) (show w.heap.size + 1 ≠ w.heap.size + 1 + 1 by omega) _
    have e2 : V2.heap[w.heap.size + 1 + 1]? = some (.cells #[.int .i64 0] 41 (0, 0)) := by rw [← hV2]; exact blk_set (blk_far b2 (show w.heap.size + 2 ≠ w.heap.size + 1 by omega) _) 0 _
    obtain ⟨V3, hV3⟩ : ∃ V3, V2.putObj K (.deferred none) = V3 := ⟨_, rfl⟩
    have hg3 : Same (fun k => k ≠ K) V2 V3 := by rw [← hV3]; exact Same.putObj _ _ _
    have q0 : V3.cell? ⟨w.heap.size + 1, 0, none⟩ = some (.slice A2 acc.length cv) := (blk_cell ((hg3.block _ (Ne.symm hKne.1)).trans e1) 0).trans rfl
    have q1 : V3.cell? ⟨w.heap.size + 1 + 1, 0, none⟩ = some (.int .i64 0) := (blk_cell ((hg3.block _ (Ne.symm hKne.2)).trans e2) 0).trans rfl
    have hR3 : Kd.R k111 111 V3 w.heap.size (fun k => w.heap.size ≤ k) (.slice A2 acc.length cv) acc := by
      refine Kd.R_lower (Kd.R_mono (Kd.R_step (Kd.R_step hR (fun k hk _ => hg.block k ⟨by have := hk.2; omega, by have := hk.2; omega⟩)) (fun k hk _ => hg3.block k (fun h => hnK (h ▸ hk.1)))) (fun k hk => by have := hk.2; omega)) (by omega)
    have hlow2 : Below w.heap.size w V3 := Same.below (hlow.trans' ((hg.mono (fun k hk => ⟨by omega, by omega⟩)).trans' (hg3.mono (fun k hk => by omega))))
    have hfin : LineEnd w xs (.returned (.tuple #[.slice A2 acc.length cv, .int .i64 0])) V3 := ⟨A2, cv, by rw [hlF], by rw [hlF]; exact hR3, hlow2⟩
    have HS1 := Lib.hid hs1
    have HV3 := Lib.hid hV3
    clear hs1 hV3 hlF
    gi_wp2
    refine ⟨by simp, .inl ⟨_, _, rfl, run_takeDeferred hdef2, ?_⟩⟩
    rw [HV3.out]
    exact ⟨.tuple #[.slice A2 acc.length cv, .int .i64 0], by simp [results, Tryz.results42, go_sem, q0, q1], hfin⟩
  case stop =>
    rintro K cd pre t post D1 V hxx hK hsub hnK hlt hsame ⟨rfl, pre2, t2, hp, hall, her, hown, hlow, b1, b2⟩ _ hdef
    obtain ⟨rfl, rfl⟩ : pre = pre2 ∧ t = t2 := by
      have h1 := congrArg List.length hp
      simp only [List.length_append, List.length_singleton] at h1
      have h2 := List.append_inj hp (by omega)
      exact ⟨h2.1, by simpa using h2.2⟩
    have hlF : lineF xs = ([], (sumAt xs t).2) := by
      unfold lineF
      rw [hxx, lineR_ok xs pre (t :: post) [] hall, lineR, if_neg her]
    have hKne : K ≠ w.heap.size + 1 ∧ K ≠ w.heap.size + 1 + 1 := ⟨by omega, by omega⟩
    obtain ⟨V3, hV3⟩ : ∃ V3, V.putObj K (.deferred none) = V3 := ⟨_, rfl⟩
    have hg3 : Same (fun k => k ≠ K) V V3 := by rw [← hV3]; exact Same.putObj _ _ _
    have q0 : V3.cell? ⟨w.heap.size + 1, 0, none⟩ = some (.slice none 0 0) := (blk_cell ((hg3.block _ (Ne.symm hKne.1)).trans b1) 0).trans rfl
    have q1 : V3.cell? ⟨w.heap.size + 1 + 1, 0, none⟩ = some (.int .i64 (sumAt xs t).2) := (blk_cell ((hg3.block _ (Ne.symm hKne.2)).trans b2) 0).trans rfl
    have hlow2 : Below w.heap.size w V3 := Same.below (hlow.trans' (hg3.mono (fun k hk => by omega)))
    have hfin : LineEnd w xs (.returned (.tuple #[.slice none 0 0, .int .i64 (sumAt xs t).2])) V3 := ⟨none, 0, by rw [hlF]; rfl, by rw [hlF]; exact Kd.R_nil _ _ _ _ _, hlow2⟩
    have HS1 := Lib.hid hs1
    have HV3 := Lib.hid hV3
    clear hs1 hV3 hall hp hxx hlF c0 c1 c2 c3 c4 h0 hF hFat
    gi_wp2
    refine ⟨by simp, .inl ⟨_, _, rfl, run_takeDeferred hdef, ?_⟩⟩
    rw [HV3.out]
    exact ⟨.tuple #[.slice none 0 0, .int .i64 (sumAt xs t).2], by simp [results, Tryz.results42, go_sem, q0, q1], hfin⟩
end Go.Proofs.YtofkhcgkahkagaaGreat

