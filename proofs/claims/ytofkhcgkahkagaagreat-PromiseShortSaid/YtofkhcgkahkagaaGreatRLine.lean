/- The reference's line lists from when on how many are free. -/
import Derived.Test.YtofkhcgkahkagaaGreatRFree
import Derived.Test.YtofkhcgkahkagaaGreatRTimes
import Derived.Test.YtofkhcgkahkagaaGreatPLaw
import Derived.Test.YtofkhcgkahkagaaGreatGen
import Derived.Deep.RegionHeld3
namespace Go.Proofs.YtofkhcgkahkagaaGreat
open Go.RowKit Go.Proofs.YtofkhcgkahkagaaGreatW.PrintWords Go.Proofs.YtofkhcgkahkagaaGreatW.PrintLast Go.Proofs.YtofkhcgkahkagaaGreatW.PrintMore Go.Proofs.YtofkhcgkahkagaaGreat.PPromiseShort
set_option linter.unusedVariables false
set_option linter.unusedSimpArgs false

/-- A line over times, by what is free at each. -/
def pushG (f : Int → Int × Int) (acc : List S111) (t : Int) : List S111 := if acc.getLast?.map (fun s => s.f1) = some (f t).1 then acc else acc ++ [⟨t, (f t).1⟩]
def lineG (f : Int → Int × Int) : List Int → List S111 → List S111 × Int
  | [], acc => (acc, 0)
  | t :: ts, acc => if (f t).2 = 0 then lineG f ts (pushG f acc t) else ([], (f t).2)
theorem lineG_ok (f : Int → Int × Int) : ∀ (pre ts : List Int) (acc : List S111), (∀ t ∈ pre, (f t).2 = 0) → lineG f (pre ++ ts) acc = lineG f ts (pre.foldl (pushG f) acc)
  | [], ts, acc, _ => rfl
  | t :: pre, ts, acc, h => by
    rw [List.cons_append, lineG, if_pos (h t (by simp)), List.foldl_cons]
    exact lineG_ok f pre ts _ (fun y hy => h y (by simp [hy]))
theorem pushG_ne (f : Int → Int × Int) (acc : List S111) (t : Int) : pushG f acc t ≠ [] := by
  unfold pushG
  split
  · rename_i h
    intro e
    rw [e] at h
    cases h
  · simp
theorem pushG_len (f : Int → Int × Int) (acc : List S111) (t : Int) : (pushG f acc t).length ≤ acc.length + 1 := by
  unfold pushG
  split
  · omega
  · simp
theorem foldG_len (f : Int → Int × Int) : ∀ (pre : List Int) (acc : List S111), (pre.foldl (pushG f) acc).length ≤ acc.length + pre.length
  | [], acc => by simp
  | t :: pre, acc => by
    have h1 := foldG_len f pre (pushG f acc t)
    have h2 := pushG_len f acc t
    rw [List.foldl_cons, List.length_cons]
    omega
theorem foldG_take (f : Int → Int × Int) {T : List Int} {k : Nat} (h : k < T.length) : (T.take (k + 1)).foldl (pushG f) [] = pushG f ((T.take k).foldl (pushG f) []) T[k] := by
  rw [take_snoc h, List.foldl_append]
  rfl
theorem foldG_ne (f : Int → Int × Int) {T : List Int} {k : Nat} (h : k ≤ T.length) (h0 : 0 < k) : (T.take k).foldl (pushG f) [] ≠ [] := by
  obtain ⟨m, rfl⟩ : ∃ m, k = m + 1 := ⟨k - 1, by omega⟩
  rw [foldG_take f (by omega)]
  exact pushG_ne _ _ _

/-- Between two times; W1: behind the list of times. -/
structure LnI (W1 : World) (f : Int → Int × Int) (T : List Int) (k : Nat) (v : Value) (V : World) : Prop where
  all : ∀ j (h : j < T.length), j < k → (f T[j]).2 = 0
  low : Below W1.heap.size W1 V
  out : Kd.R k111 111 V W1.heap.size (fun k => W1.heap.size ≤ k) v ((T.take k).foldl (pushG f) [])
theorem LnI.stay {W1 : World} {f : Int → Int × Int} {T : List Int} {k : Nat} {v : Value} {V V' : World} (h : LnI W1 f T k v V) (hb : Below V.heap.size V V') (hlt : k < T.length) (h0 : (f T[k]).2 = 0) (hp : pushG f ((T.take k).foldl (pushG f) []) T[k] = (T.take k).foldl (pushG f) []) : LnI W1 f T (k + 1) v V' := by
  refine ⟨fun j hj hjk => ?_, h.low.trans (hb.mono h.low.size), ?_⟩
  · rcases Nat.lt_or_ge j k with h1 | h1
    · exact h.all j hj h1
    · obtain rfl : j = k := by omega
      exact h0
  · rw [foldG_take f hlt, hp]
    exact Kd.R_below h.out hb
theorem LnI.push {W1 : World} {f : Int → Int × Int} {T : List Int} {k : Nat} {v : Value} {V V' : World} (h : LnI W1 f T k v V) (hb : Below V.heap.size V V') (hlt : k < T.length) (hT : T.length ≤ 1000) (h0 : (f T[k]).2 = 0) (hp : pushG f ((T.take k).foldl (pushG f) []) T[k] = (T.take k).foldl (pushG f) [] ++ [⟨T[k], (f T[k]).1⟩]) :
    ∃ v1 w1, (Builtin.append_ #[104, 104] 104 #[v, .slice (some ⟨V'.heap.size, 0, none⟩) 1 1]).run Tryz.prog (V'.alloc (.cells #[.int .i64 T[k], .int .i64 (f T[k]).1] 111)) = .ok v1 w1 ∧ LnI W1 f T (k + 1) v1 w1 := by
  have hl := foldG_len f (T.take k) []
  rw [List.length_nil] at hl
  have hl2 := List.length_take_le' k T
  have hz := hb.size
  have hz1 := h.low.size
  obtain ⟨A1, c1, w1, hrun, hR1, hg1⟩ := append_made k111 (P := Tryz.prog) W1.heap.size 104 104 111 _ 16 Tryz.underlying104 info111 rfl (by decide) (by decide) V' v _ ⟨T[k], (f T[k]).1⟩ [.int .i64 T[k], .int .i64 (f T[k]).1] (fun k => W1.heap.size ≤ k) (fun _ => False)
    (k111_mkM _ _ _ ⟨T[k], (f T[k]).1⟩) (fun k hk => hk.elim) (fun k hk => by omega) (Kd.R_below h.out hb) (by omega) (by omega)
  refine ⟨_, w1, hrun, ⟨fun j hj hjk => ?_, (h.low.trans (hb.mono h.low.size)).grown hg1 (by omega) (fun j hj => (Kd.R_below h.out hb).1 j hj), ?_⟩⟩
  · rcases Nat.lt_or_ge j k with h1 | h1
    · exact h.all j hj h1
    · obtain rfl : j = k := by omega
      exact h0
  · rw [foldG_take f hlt, hp]
    exact hR1

/-- How line ends. -/
def LnEnd (w : World) (r : List S111 × Int) (e : Ending) (w' : World) : Prop :=
  ∃ A c, e = .returned (.tuple #[.slice A r.1.length c, .int .i64 r.2]) ∧ Kd.R k111 111 w' w.heap.size (fun k => w.heap.size ≤ k) (.slice A r.1.length c) r.1 ∧ Below w.heap.size w w'

set_option maxRecDepth 100000 in
set_option maxHeartbeats 2000000 in
theorem rline_calls (l0 : List S165) (l1 : List S172) (l2 : List S176) (A0 : Option Addr) (c0 : Nat) (A1 : Option Addr) (c1 : Nat) (A2 : Option Addr) (c2 : Nat) (ops : Int) (A3 : Option Addr) (c3 : Nat) (l3 : List S103) (A4 : Option Addr) (c4 : Nat) (l4 : List S103) (sku : ByteArray) (w : World)
    (hL : LedgerAt l0 l1 l2 A0 c0 A1 c1 A2 c2 w) (hF : FewL l0 l1 l2) (hr3 : Kd.C k103 w A3 l3.length l3) (hr4 : Kd.C k103 w A4 l4.length l4) (hc3 : l3.length ≤ c3) (hc4 : l4.length ≤ c4) (hn3 : l3.length ≤ 20) (hn4 : l4.length ≤ 20) (h64 : ∀ t, In64 (frL l0 l1 l3 l4 sku t)) :
    Calls Tryz.prog 48 #[.agg #[.slice A0 l0.length c0, .slice A1 l1.length c1, .slice A2 l2.length c2, .int .i64 ops], .slice A3 l3.length c3, .slice A4 l4.length c4, .string sku] w (LnEnd w (lineG (fun t => sumOf (frL l0 l1 l3 l4 sku t)) (timesR l1 l3 l4) [])) := by
  have hu3 := Tryz.underlying55
  have hu4 := Tryz.underlying103
  have hu5 := Tryz.underlying111
  obtain ⟨hF0, hF1, hF2, _, _, _⟩ := hF
  have hbox := fun o => (Below.refl w.heap.size w).alloc (Nat.le_refl _) o
  obtain ⟨W0, hW0⟩ : ∃ W0, w.alloc (.cells #[.slice A0 l0.length c0, .slice A1 l1.length c1, .slice A2 l2.length c2, .int .i64 ops] 55) = W0 := ⟨_, rfl⟩
  have hL0 : CkL w A0 l0.length c0 A1 l1.length c1 A2 l2.length c2 ops W0 := by rw [← hW0]; exact ⟨hbox _, heap_alloc_new w _⟩
  have hb0 := hL0.low
  have htim := quaysideref33_times.calls 100000 A0 c0 l0 A1 c1 l1 A2 c2 l2 ops A3 c3 l3 A4 c4 l4 (timesR l1 l3 l4) W0 (Kd.C_below hL.r0 hb0) hL.h0 (Kd.C_below hL.r1 hb0) hL.h1 (Kd.C_below hL.r2 hb0) hL.h2 (Kd.C_below hr3 hb0) hc3 (Kd.C_below hr4 hb0) hc4 (times_law l0 l1 l2 ops l3 l4 (by omega) (by omega) (by omega))
  have hTl := times_len l1 l3 l4 (by omega) (by omega) (by omega)
  have hfree := fun t V (hV : Below w.heap.size w V) => rfree_calls l0 l1 A0 c0 A1 c1 A2 l2.length c2 ops A3 c3 l3 A4 c4 l4 sku 0 t V (Kd.C_below hL.r0 hV) (Kd.C_below hL.r1 hV) (Kd.C_below hr3 hV) (Kd.C_below hr4 hV) (by omega) hL.h0 hL.h1 hc3 hc4 (h64 t)
  obtain ⟨f, hf⟩ : ∃ f : Int → Int × Int, (fun t => sumOf (frL l0 l1 l3 l4 sku t)) = f := ⟨_, rfl⟩
  have hft : ∀ t, sumOf (frL l0 l1 l3 l4 sku t) = f t := fun t => by rw [← hf]
  obtain ⟨T, hT⟩ : ∃ T, timesR l1 l3 l4 = T := ⟨_, rfl⟩
  rw [hT] at htim hTl
  rw [hf, hT]
  have Hfree := Lib.hid (fun t V (hV : Below w.heap.size w V) => (hft t) ▸ hfree t V hV)
  have HL := Lib.hid hL
  clear hf hT hft hfree h64 hr3 hr4 hL
  go_enter Tryz.func48, Tryz.ntmps48
  have hd0 : W0.cell? ⟨w.heap.size, 0, none⟩ = some (.slice A0 l0.length c0) := (blk_cell hL0.led 0).trans rfl
  have hd1 : W0.cell? ⟨w.heap.size, 1, none⟩ = some (.slice A1 l1.length c1) := (blk_cell hL0.led 1).trans rfl
  have hd2 : W0.cell? ⟨w.heap.size, 2, none⟩ = some (.slice A2 l2.length c2) := (blk_cell hL0.led 2).trans rfl
  have hd3 : W0.cell? ⟨w.heap.size, 3, none⟩ = some (.int .i64 ops) := (blk_cell hL0.led 3).trans rfl
  go_wp2_with fail
  refine htim.mono ?_
  clear htim
  rintro e W1 ⟨vt, rfl, hRT, hb1⟩
  obtain ⟨At, ct, rfl⟩ := Kd.R_slice hRT
  have hLW := hL0.below hb1
  have hCT := (Kd.R_reads' hRT).2.2
  clear hd0 hd1 hd2 hd3 hRT hb0 hL0 hW0 hbox hb1
  go_wp2
  go_loopw [11, 12] (fun v i wr => ∃ k : Nat, k ≤ T.length ∧ i = .int .i64 k ∧ LnI W1 f T k v wr)
    (fun _ i _ => T.length - (intOf i).toNat)
  case atStart => exact ⟨0, Nat.zero_le _, rfl, ⟨fun j _ hj => absurd hj (Nat.not_lt_zero _), Below.refl _ _, Kd.R_nil _ _ _ _ _⟩⟩
  case round =>
    obtain ⟨k, hk, rfl, hI⟩ := hrel
    have hlw := hLW.below hI.low
    by_cases hlt : k < T.length
    -- <L1
    · have hd : decide ((k : Int) < (T.length : Int)) = true := decide_eq_true (by omega)
      have hk1 : (k : Int) < (T.length : Int) := by omega
      have hk2 : (0 : Int) ≤ (k : Int) := Int.natCast_nonneg _
      obtain ⟨ad, rfl, hx⟩ := Kd.at_int hCT k (by omega) (by omega)
      rw [Int.toNat_natCast, rd_L hlt] at hx
      have hy := cell_below hI.low hx
      have hd0 : wr.cell? ⟨w.heap.size, 0, none⟩ = some (.slice A0 l0.length c0) := (blk_cell hlw.led 0).trans rfl
      have hd1 : wr.cell? ⟨w.heap.size, 1, none⟩ = some (.slice A1 l1.length c1) := (blk_cell hlw.led 1).trans rfl
      have hd2 : wr.cell? ⟨w.heap.size, 2, none⟩ = some (.slice A2 l2.length c2) := (blk_cell hlw.led 2).trans rfl
      have hd3 : wr.cell? ⟨w.heap.size, 3, none⟩ = some (.int .i64 ops) := (blk_cell hlw.led 3).trans rfl
      obtain ⟨t, ht⟩ : ∃ t, T[k] = t := ⟨_, rfl⟩
      rw [ht] at hx hy
      obtain ⟨⟨n, er⟩, hft⟩ : ∃ x, f t = x := ⟨_, rfl⟩
      have hcall := fun V (hV : Below w.heap.size w V) => Hfree.out t V hV
      rw [hft] at hcall
      have Hcall := Lib.hid hcall
      have Hft := Lib.hid hft
      clear hcall hft
      have hfl := foldG_len f (T.take k) []
      rw [List.length_nil] at hfl
      have hfl2 := List.length_take_le' k T
      obtain ⟨Av, cv, rfl⟩ := Kd.R_slice hI.out
      have hRd := (Kd.R_reads' hI.out).2.2
      have hne := fun h0 => foldG_ne f hk h0
      generalize hacc : (T.take k).foldl (pushG f) [] = acc at *
      have Ht := Lib.hid ht
      have Hacc := Lib.hid hacc
      have Hne := Lib.hid hne
      have HRd := Lib.hid hRd
      clear hacc hne hRd
      have HI := Lib.hid hI
      have Hlw := Lib.hid hlw
      have hlow := hlw.low
      clear ht hI hlw hx
      go_wp2
      go_region_held3 (fun V => V.cell? ⟨w.heap.size, 0, none⟩ = some (.slice A0 l0.length c0) ∧ V.cell? ⟨w.heap.size, 1, none⟩ = some (.slice A1 l1.length c1) ∧ V.cell? ⟨w.heap.size, 2, none⟩ = some (.slice A2 l2.length c2) ∧ V.cell? ⟨w.heap.size, 3, none⟩ = some (.int .i64 ops) ∧ V.cell? (ad.add k) = some (.int .i64 t))
        (first | assumption | exact ⟨cell_below (below_drew (Below.refl _ _)) hd0, cell_below (below_drew (Below.refl _ _)) hd1, cell_below (below_drew (Below.refl _ _)) hd2, cell_below (below_drew (Below.refl _ _)) hd3, cell_below (below_drew (Below.refl _ _)) hy⟩ | exact ⟨cell_below hbw hd0, cell_below hbw hd1, cell_below hbw hd2, cell_below hbw hd3, cell_below hbw hy⟩)
        (first | (go_at_call 96; refine (Hcall.out _ (below_w hlow (below_drew (Below.refl _ _)))).mono ?_; rintro e w' ⟨rfl, hbn⟩; have hbw : Below wr.heap.size wr w' := below_chain (below_drew (Below.refl _ _)) hbn))
      have hy' := cell_below hbw hy
      have hd0' := cell_below hbw hd0
      go_split_ands
      clear hd0 hd1 hd2 hd3 hy
      have hlow' := below_w hlow hbw
      by_cases he : er = 0
      · have heb : (er != 0) = false := by rw [he]; rfl
        have h0 := Lib.hid (show (f T[k]).2 = 0 from by rw [Ht.out, Hft.out]; exact he)
        clear he
        have hpush : pushG f acc t = acc ++ [⟨t, n⟩] → ∃ v1 w1, (Builtin.append_ #[104, 104] 104 #[.slice Av acc.length cv, .slice (some ⟨w'.heap.size, 0, none⟩) 1 1]).run Tryz.prog (w'.alloc (.cells #[.int .i64 t, .int .i64 n] 111)) = .ok v1 w1 ∧ LnI W1 f T (k + 1) v1 w1 := fun hp => by
          have := HI.out.push hbw hlt (by omega) h0.out (by rw [Hacc.out, Ht.out, hp, Hft.out])
          rw [Ht.out, Hft.out] at this
          exact this
        have hstay : pushG f acc t = acc → LnI W1 f T (k + 1) (.slice Av acc.length cv) w' := fun hp => HI.out.stay hbw hlt h0.out (by rw [Hacc.out, Ht.out]; exact hp)
        have Hpush := Lib.hid hpush
        have Hstay := Lib.hid hstay
        clear hpush hstay
        by_cases hk0 : k = 0
        · have hkb : ((k : Int) == 0) = true := by rw [hk0]; rfl
          have ha : acc = [] := by rw [← Hacc.out, hk0]; rfl
          obtain ⟨v1, w1, hrun, hI1⟩ := Hpush.out (by unfold pushG; rw [ha, if_neg (by simp), Hft.out])
          clear hk0 ha
          go_wp2_with (at_builtin; refine wpList_append_run rfl _ _ _ rfl hrun ?_)
          exact ⟨⟨k + 1, by omega, by simp, hI1⟩, by simp [intOf]; omega⟩
        · have hkb : ((k : Int) == 0) = false := by simp; omega
          rcases List.eq_nil_or_concat acc with ha | ⟨ys, y, ha⟩
          · exact absurd ha (Hne.out (by omega))
          · rw [List.concat_eq_append] at ha
            subst ha
            have hgl : (ys ++ [y]).getLast? = some y := by simp
            obtain ⟨ad2, rfl, hx0, hx1⟩ := at_T111 HRd.out (ys.length : Int) (by omega) (by simp <;> omega)
            have hyy : rd_T111 (ys ++ [y]) (ys.length : Int) = y := by unfold rd_T111; simp
            rw [hyy, Int.toNat_natCast] at hx0 hx1
            have hz1 := cell_below hbw hx1
            clear hyy hx0 hx1 hk0
            by_cases hn1 : n = y.f1
            · have hnb : (n != y.f1) = false := by rw [hn1]; simp
              have hI1 := Lib.hid (Hstay.out (by unfold pushG; rw [if_pos (by rw [hgl, Option.map_some, Hft.out, hn1])]))
              clear hn1 hgl
              simp only [List.length_append, List.length_singleton] at hfl hI1 ⊢
              go_wp2
              exact ⟨⟨k + 1, by omega, by simp, hI1.out⟩, by simp [intOf]; omega⟩
            · have hnb : (n != y.f1) = true := by simpa using hn1
              obtain ⟨v1, w1, hrun, hI1⟩ := Hpush.out (by unfold pushG; rw [if_neg (by rw [hgl, Option.map_some, Hft.out]; simpa using fun h => hn1 h.symm), Hft.out])
              clear hn1 hgl
              simp only [List.length_append, List.length_singleton] at hfl hrun ⊢
              go_wp2_with (at_builtin; refine wpList_append_run rfl _ _ _ rfl hrun ?_)
              exact ⟨⟨k + 1, by omega, by simp, hI1⟩, by simp [intOf]; omega⟩
      · have heb : (er != 0) = true := by simpa using he
        have hfin := Lib.hid (show lineG f T [] = ([], er) from by
          have h1 := lineG_ok f (T.take k) (T.drop k) [] (fun y hy => by
            obtain ⟨i, hi, rfl⟩ := List.getElem_of_mem hy
            rw [List.length_take] at hi
            rw [List.getElem_take]
            exact HI.out.all i (by omega) (by omega))
          rw [List.take_append_drop, List.drop_eq_getElem_cons hlt, lineG, if_neg (by rw [Ht.out, Hft.out]; exact he), Ht.out, Hft.out] at h1
          exact h1)
        clear he
        go_wp2
        go_ret2
        exact ⟨none, 0, by rw [hfin.out]; rfl, by rw [hfin.out]; exact Kd.R_nil _ _ _ _ _, hlow'⟩
    -- L1>
    · obtain rfl : k = T.length := by omega
      have hd : decide ((T.length : Int) < (T.length : Int)) = false := decide_eq_false (by omega)
      have hfin : lineG f T [] = (T.foldl (pushG f) [], 0) := by
        have h1 := lineG_ok f T [] [] (fun y hy => by
          obtain ⟨i, hi, rfl⟩ := List.getElem_of_mem hy
          exact hI.all i hi hi)
        rw [List.append_nil] at h1
        rw [h1]
        rfl
      have hR := hI.out
      rw [List.take_length] at hR
      obtain ⟨Av, cv, rfl⟩ := Kd.R_slice hR
      have hlow := hlw.low
      have hz := hLW.low.size
      have Hfin := Lib.hid hfin
      have HR := Lib.hid hR
      clear hI hlw hfin hR
      go_wp2
      go_ret2
      exact ⟨Av, cv, by rw [Hfin.out]; rfl, by rw [Hfin.out]; exact Kd.R_lower (Kd.R_mono HR.out (fun k hk => Nat.le_trans hz hk)) hz, hlow⟩
end Go.Proofs.YtofkhcgkahkagaaGreat

