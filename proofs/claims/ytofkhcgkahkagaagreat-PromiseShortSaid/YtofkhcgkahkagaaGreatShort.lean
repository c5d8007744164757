/- promise.Short tells which skus would be short, over whatever answers for ledger.Check. -/
import Derived.Test.YtofkhcgkahkagaaGreatPApi
import Derived.Test.YtofkhcgkahkagaaGreatSMap
import Derived.Test.YtofkhcgkahkagaaGreatPCkA
import Derived.Test.YtofkhcgkahkagaaGreatSSort
import Derived.Deep.RegionHeld3
import Derived.Lib.AppendZeros
namespace Go.Proofs.YtofkhcgkahkagaaGreat
open Go.RowKit Go.Shelf Go.Proofs.YtofkhcgkahkagaaGreatW.PrintWords Go.Proofs.YtofkhcgkahkagaaGreatW.PrintLast Go.Proofs.YtofkhcgkahkagaaGreatW.PrintMore Go.Proofs.YtofkhcgkahkagaaGreat.PPromiseShort
set_option linter.unusedVariables false
set_option linter.unusedSimpArgs false

theorem SR.left_eq {w : World} {b r n cnt : Nat} {g : Fn} {out : List ByteArray} (h : SR w b r n g cnt out) : w.rangeLeft b r = cnt := let ⟨_, _, h1, _⟩ := h; h1.left_eq
theorem SR.out_le {w : World} {b r n cnt : Nat} {g : Fn} {out : List ByteArray} (h : SR w b r n g cnt out) : out.length ≤ n := let ⟨_, _, _, _, _, h1, _⟩ := h; by omega
theorem SR.sizes {w : World} {b r n cnt : Nat} {g : Fn} {out : List ByteArray} (h : SR w b r n g cnt out) : ∀ s ∈ out, s.size ≤ maxLen := let ⟨_, _, _, _, _, _, h1⟩ := h; h1
theorem SR.ne_map {w : World} {b r n cnt : Nat} {g : Fn} {out : List ByteArray} (h : SR w b r n g cnt out) {base size m : Nat} {e : TypeId} {v : Value} {xs : List Value} (hv : w.ownsRow base e size v m xs) : some b ≠ v.ownBlock := by
  obtain ⟨_, _, ⟨_, _, _, _, _, hit, _⟩, _⟩ := h
  rcases hv.2 with ⟨rfl, _⟩ | ⟨g, cap, cur, rfl, _, hb, _⟩
  · simp [Value.ownBlock]
  · intro e1
    have : b = g := by simpa [Value.ownBlock] using e1
    subst this
    rw [hit] at hb
    cases hb
theorem info_str : (Tryz.prog.info? 9).map (fun i => (i.zero, i.size, i.bytes)) = some (some (.string ⟨#[]⟩), 1, 16) := by kernel_rfl
theorem SR.ne {w : World} {b r n cnt : Nat} {g : Fn} {out : List ByteArray} (h : SR w b r n g cnt out) : r ≠ b := let ⟨_, _, h1, _⟩ := h; h1.ne

abbrev LineFn := ByteArray → List S111 × Int
/-- What the map says behind some that are taken. -/
structure GI (F : LineFn) (pre : List S103) (g : Fn) : Prop where
  ok : ∀ r ∈ pre, (F r.f0).2 = 0
  said : ∀ s x, g s = some x ↔ (∃ r ∈ pre, r.f0 = s) ∧ x = negS (F s).1
theorem GI.old {F : LineFn} {pre : List S103} {g : Fn} (h : GI F pre g) {r : S103} (hr : (g r.f0).isSome = true) : GI F (pre ++ [r]) g := by
  obtain ⟨x, hx⟩ := Option.isSome_iff_exists.1 hr
  obtain ⟨⟨q, hq, e⟩, _⟩ := (h.said _ _).1 hx
  refine ⟨fun p hp => ?_, fun s y => ⟨fun hs => ?_, fun hs => ?_⟩⟩
  · rcases List.mem_append.1 hp with hp | hp
    · exact h.ok p hp
    · obtain rfl : p = r := by simpa using hp
      rw [← e]; exact h.ok q hq
  · obtain ⟨⟨p, hp, e2⟩, e3⟩ := (h.said s y).1 hs
    exact ⟨⟨p, by simp [hp], e2⟩, e3⟩
  · obtain ⟨⟨p, hp, e2⟩, e3⟩ := hs
    refine (h.said s y).2 ⟨?_, e3⟩
    rcases List.mem_append.1 hp with hp | hp
    · exact ⟨p, hp, e2⟩
    · obtain rfl : p = r := by simpa using hp
      exact ⟨q, hq, e.trans e2⟩
theorem GI.new {F : LineFn} {pre : List S103} {g : Fn} (h : GI F pre g) {r : S103} (hr : (g r.f0).isSome = false) (h0 : (F r.f0).2 = 0) : GI F (pre ++ [r]) (setF g r.f0 (negS (F r.f0).1)) := by
  refine ⟨fun p hp => ?_, fun s y => ?_⟩
  · rcases List.mem_append.1 hp with hp | hp
    · exact h.ok p hp
    · obtain rfl : p = r := by simpa using hp
      exact h0
  · unfold setF
    by_cases e : s = r.f0
    · rw [if_pos e, e]
      constructor
      · intro h1
        exact ⟨⟨r, by simp, rfl⟩, (Option.some.inj h1).symm⟩
      · rintro ⟨_, rfl⟩
        rfl
    · rw [if_neg e, h.said s y]
      constructor
      · rintro ⟨⟨p, hp, e2⟩, e3⟩
        exact ⟨⟨p, by simp [hp], e2⟩, e3⟩
      · rintro ⟨⟨p, hp, e2⟩, e3⟩
        refine ⟨?_, e3⟩
        rcases List.mem_append.1 hp with hp | hp
        · exact ⟨p, hp, e2⟩
        · obtain rfl : p = r := by simpa using hp
          exact absurd e2.symm e

/-- What Short answers, by the lines. -/
def ShortOut (F : LineFn) (l4 : List S103) (xs : List ByteArray) (er : Int) : Prop :=
  (∃ pre r post, l4 = pre ++ r :: post ∧ (∀ q ∈ pre, (F q.f0).2 = 0) ∧ (F r.f0).2 = er ∧ er ≠ 0 ∧ xs = []) ∨
  (er = 0 ∧ (∀ q ∈ l4, (F q.f0).2 = 0) ∧ xs.Pairwise (fun s t => toL s < toL t) ∧ ∀ s, s ∈ xs ↔ ∃ r ∈ l4, r.f0 = s ∧ negS (F s).1 = true)
theorem GI.done {F : LineFn} {l4 : List S103} {g : Fn} (h : GI F l4 g) {out : List ByteArray} (hn : out.Nodup) (ho : ∀ s, s ∈ out ↔ g s = some true) : ShortOut F l4 (sortS out) 0 := by
  refine .inr ⟨rfl, h.ok, sortS_up out hn, fun s => ?_⟩
  rw [sortS_mem, ho, h.said]
  constructor
  · rintro ⟨⟨r, hr, e⟩, e2⟩
    exact ⟨r, hr, e, e2.symm⟩
  · rintro ⟨r, hr, e, e2⟩
    exact ⟨⟨r, hr, e⟩, e2.symm⟩

/-- Between two that are taken. -/
structure ShI (F : LineFn) (l4 : List S103) (w : World) (B : Nat) (led : Array Value) (k : Nat) (V : World) : Prop where
  low : Below w.heap.size w V
  led : V.heap[w.heap.size]? = some (.cells led 55 (0, 0))
  base : w.heap.size < B
  map : ∃ g, SM V B k g ∧ GI F (l4.take k) g
theorem ShI.below {F : LineFn} {l4 : List S103} {w : World} {B : Nat} {led : Array Value} {k : Nat} {V V' : World} (h : ShI F l4 w B led k V) (hb : Below V.heap.size V V') : ShI F l4 w B led k V' := by
  obtain ⟨h1, h2, h3, g, h4, h5⟩ := h
  exact ⟨below_w h1 hb, (hb.block _ (blk_lt h2)).trans h2, h3, g, h4.block (hb.block _ h4.lt), h5⟩

def ShEnd (F : LineFn) (l4 : List S103) (good : Prop) (w : World) (e : Ending) (w' : World) : Prop :=
  ∃ A c xs er, e = .returned (.tuple #[.slice A xs.length c, .int .i64 er]) ∧ Kd.C Kd.string w' A xs.length xs ∧ Below w.heap.size w w' ∧ xs.length ≤ l4.length ∧ (good → ShortOut F l4 xs er) ∧ (¬ good → xs = [] ∧ er = 1)

set_option maxRecDepth 100000 in
set_option maxHeartbeats 1000000 in
theorem short_api (chk : List S165 → List S172 → List S176 → Int → Bool) (hchk : CheckLaw chk) (l0 : List S165) (l1 : List S172) (l2 : List S176) (A0 : Option Addr) (c0 : Nat) (A1 : Option Addr) (c1 : Nat) (A2 : Option Addr) (c2 : Nat) (ops : Int) (A3 : Option Addr) (c3 : Nat) (l3 : List S103) (A4 : Option Addr) (c4 : Nat) (l4 : List S103) (w : World)
    (hL : LedgerAt l0 l1 l2 A0 c0 A1 c1 A2 c2 w) (hf : FewL l0 l1 l2) (hC3 : Kd.C k103 w A3 l3.length l3) (hc3 : l3.length ≤ c3) (hl3 : l3.length ≤ 20) (hC4 : Kd.C k103 w A4 l4.length l4) (hc4 : l4.length ≤ c4) (hl4 : l4.length ≤ 20) (hr4 : ∀ r ∈ l4, RecG r) (h64 : ∀ sku, Ch64 (toldF l0 l1 l3 l4 sku)) :
    Calls Tryz.prog 17 #[.agg #[.slice A0 l0.length c0, .slice A1 l1.length c1, .slice A2 l2.length c2, .int .i64 ops], .slice A3 l3.length c3, .slice A4 l4.length c4] w
      (ShEnd (fun sku => lineF (toldF l0 l1 l3 l4 sku)) l4 (chk l0 l1 l2 ops = true ∧ mayB l3 = true ∧ mayB l4 = true) w) := by
  obtain ⟨F, hF⟩ : ∃ F : LineFn, (fun sku => lineF (toldF l0 l1 l3 l4 sku)) = F := ⟨_, rfl⟩
  have hFt : ∀ sku, lineF (toldF l0 l1 l3 l4 sku) = F sku := fun sku => by rw [← hF]
  rw [hF]
  have HF := Lib.hid hFt
  have H64 := Lib.hid h64
  clear hF hFt h64
  have hu := Tryz.underlying55
  have hur := Tryz.underlying103
  have hmm := @run_makeMap Tryz.prog
  have hcheck := fun w' (hb : Below w.heap.size w w') => hchk l0 l1 l2 A0 c0 A1 c1 A2 c2 ops w' (hL.below hb) hf
  have hbox := fun o => (Below.refl w.heap.size w).alloc (Nat.le_refl _) o
  obtain ⟨W0, hW0⟩ : ∃ W0, w.alloc (.cells #[.slice A0 l0.length c0, .slice A1 l1.length c1, .slice A2 l2.length c2, .int .i64 ops] 55) = W0 := ⟨_, rfl⟩
  have hB0 : Below w.heap.size w W0 := by rw [← hW0]; exact hbox _
  have hs0 : W0.heap.size = w.heap.size + 1 := by rw [← hW0]; simp
  have hb0 : W0.heap[w.heap.size]? = some (.cells #[.slice A0 l0.length c0, .slice A1 l1.length c1, .slice A2 l2.length c2, .int .i64 ops] 55 (0, 0)) := by rw [← hW0]; exact heap_alloc_new w _
  have hd0 : W0.cell? ⟨w.heap.size, 0, none⟩ = some (.slice A0 l0.length c0) := (blk_cell hb0 0).trans rfl
  have hd1 : W0.cell? ⟨w.heap.size, 1, none⟩ = some (.slice A1 l1.length c1) := (blk_cell hb0 1).trans rfl
  have hd2 : W0.cell? ⟨w.heap.size, 2, none⟩ = some (.slice A2 l2.length c2) := (blk_cell hb0 2).trans rfl
  have hd3 : W0.cell? ⟨w.heap.size, 3, none⟩ = some (.int .i64 ops) := (blk_cell hb0 3).trans rfl
  have Hs0 := Lib.hid hs0
  clear hs0 hbox
  go_enter Tryz.func17, Tryz.ntmps17
  go_wp2_with fail
  refine (hcheck _ hB0).mono ?_
  clear hW0 hcheck hd0 hd1 hd2 hd3
  rintro e w2 ⟨rfl, hb2⟩
  have hs0 := Hs0.out
  have hz2 := hb2.size
  cases hk : chk l0 l1 l2 ops with
  | false =>
    clear hs0
    rw [if_neg (by simp)]
    go_wp2
    go_ret2
    exact ⟨none, 0, [], 1, rfl, Kd.C_nil _ _, hB0.trans (hb2.mono hB0.size), Nat.zero_le _, fun h => absurd h.1 (by rw [hk]; decide), fun _ => ⟨rfl, rfl⟩⟩
  | true =>
    rw [if_pos rfl]
    have hBw := hB0.trans (hb2.mono hB0.size)
    have hmay := may_calls A3 c3 l3 w2 (Kd.C_below hC3 hBw) hc3
    go_wp2_with fail
    refine hmay.mono ?_
    clear hmay
    rintro e w3 ⟨rfl, hb3⟩
    have hB3 := hBw.trans (hb3.mono hBw.size)
    cases hm : mayB l3 with
    | false =>
      clear hs0
      go_wp2
      go_ret2
      exact ⟨none, 0, [], 1, rfl, Kd.C_nil _ _, hB3, Nat.zero_le _, fun h => absurd h.2.1 (by rw [hm]; decide), fun _ => ⟨rfl, rfl⟩⟩
    | true =>
      have hmay := may_calls A4 c4 l4 w3 (Kd.C_below hC4 hB3) hc4
      go_wp2_with fail
      refine hmay.mono ?_
      clear hmay
      rintro e w4 ⟨rfl, hb4⟩
      have hB4 := hB3.trans (hb4.mono hB3.size)
      cases hm4 : mayB l4 with
      | false =>
        clear hs0
        go_wp2
        go_ret2
        exact ⟨none, 0, [], 1, rfl, Kd.C_nil _ _, hB4, Nat.zero_le _, fun h => absurd h.2.2 (by rw [hm4]; decide), fun _ => ⟨rfl, rfl⟩⟩
      | true =>
        have hz3 := hb3.size
        have hz4 := hb4.size
        have hb4w := (hb4.block w.heap.size (by omega)).trans ((hb3.block w.heap.size (by omega)).trans ((hb2.block w.heap.size (by omega)).trans hb0))
        obtain ⟨W5, hW5⟩ : ∃ W5, w4.alloc (.map #[] 0) = W5 := ⟨_, rfl⟩
        have hI0 : ShI F l4 w w4.heap.size #[.slice A0 l0.length c0, .slice A1 l1.length c1, .slice A2 l2.length c2, .int .i64 ops] 0 W5 := by
          rw [← hW5]
          refine ⟨hB4.alloc hB4.size _, (Below.heap_alloc _ _ _ (blk_lt hb4w)).trans hb4w, by omega, _, SM.made (heap_alloc_new w4 _), ⟨fun r h => by simp at h, fun s x => by simp⟩⟩
        have hmax4 : l4.length ≤ 9223372036854775807 := by omega
        have hk1 := Lib.hid hk
        have hm1 := Lib.hid hm
        have hm41 := Lib.hid hm4
        clear hk hm hm4
        clear hb4w hb0 hs0 hz2 hz3 hz4 hb2 hb3 hb4 hB0 hBw hB3
        go_wp2
        clear hW5
        go_loopw [34] (fun i wr => ∃ k : Nat, k ≤ l4.length ∧ i = .int .i64 k ∧ ShI F l4 w w4.heap.size #[.slice A0 l0.length c0, .slice A1 l1.length c1, .slice A2 l2.length c2, .int .i64 ops] k wr)
          (fun i _ => l4.length - (intOf i).toNat)
        case atStart => exact ⟨0, Nat.zero_le _, rfl, hI0⟩
        case round =>
          obtain ⟨k, hk, rfl, hI⟩ := hrel
          clear hI0
          by_cases hlt : k < l4.length
          · have hd : decide ((k : Int) < (l4.length : Int)) = true := decide_eq_true (by omega)
            obtain ⟨ad, rfl, hx0, hx1, hx2⟩ := at_T103 hC4 k (by omega) (by omega)
            rw [Int.toNat_natCast] at hx0 hx1 hx2
            have hr : rd_T103 l4 k = l4[k] := by unfold rd_T103; rw [Int.toNat_natCast, List.getD_eq_getElem?_getD, List.getElem?_eq_getElem hlt]; rfl
            rw [hr] at hx0 hx1 hx2
            have hy0 := cell_below hI.low hx0
            have hy1 := cell_below hI.low hx1
            have hy2 := cell_below hI.low hx2
            have htk : l4.take (k + 1) = l4.take k ++ [l4[k]] := take_snoc hlt
            have hsplit : l4 = l4.take k ++ l4[k] :: l4.drop (k + 1) := by rw [List.getElem_cons_drop, List.take_append_drop]
            have hG := hr4 l4[k] (List.getElem_mem hlt)
            obtain ⟨r, hrr⟩ : ∃ r, l4[k] = r := ⟨_, rfl⟩
            rw [hrr] at hy0 hy1 hy2 htk hsplit hG
            have Htk := Lib.hid htk
            have Hsplit := Lib.hid hsplit
            clear hrr hr hx0 hx1 hx2 htk hsplit
            obtain ⟨W1, hW1⟩ : ∃ W1, wr.alloc (.cells #[.string r.f0, .int .i64 r.f1, .int .i64 r.f2] 103) = W1 := ⟨_, rfl⟩
            have HBlt := Lib.hid (show w4.heap.size < wr.heap.size from by obtain ⟨_, h, _⟩ := hI.map; exact h.lt)
            have hB1 : Below wr.heap.size wr W1 := by rw [← hW1]; exact (Below.refl _ _).alloc (Nat.le_refl _) _
            have hblk : W1.heap[wr.heap.size]? = some (.cells #[.string r.f0, .int .i64 r.f1, .int .i64 r.f2] 103 (0, 0)) := by rw [← hW1]; exact heap_alloc_new wr _
            have hz0 : W1.cell? ⟨wr.heap.size, 0, none⟩ = some (.string r.f0) := (blk_cell hblk 0).trans rfl
            obtain ⟨hlow, hled, hbase, g, hSM, hGI⟩ := hI.below hB1
            obtain ⟨vx, hlook⟩ := hSM.look hG.1
            cases hs : (g r.f0).isSome with
            | true =>
              rw [hs] at hlook
              have HI := Lib.hid (show ShI F l4 w w4.heap.size #[.slice A0 l0.length c0, .slice A1 l1.length c1, .slice A2 l2.length c2, .int .i64 ops] (k + 1) W1 from ⟨hlow, hled, hbase, g, hSM.mono (Nat.le_succ k), by rw [Htk.out]; exact hGI.old hs⟩)
              clear hlow hled hbase hSM hGI hs hI hB1
              go_wp2
              exact ⟨⟨k + 1, by omega, by simp, HI.out⟩, by simp [intOf]; omega⟩
            | false =>
              rw [hs] at hlook
              have hc0 : W1.cell? ⟨w.heap.size, 0, none⟩ = some (.slice A0 l0.length c0) := (blk_cell hled 0).trans rfl
              have hc1 : W1.cell? ⟨w.heap.size, 1, none⟩ = some (.slice A1 l1.length c1) := (blk_cell hled 1).trans rfl
              have hc2 : W1.cell? ⟨w.heap.size, 2, none⟩ = some (.slice A2 l2.length c2) := (blk_cell hled 2).trans rfl
              have hc3' : W1.cell? ⟨w.heap.size, 3, none⟩ = some (.int .i64 ops) := (blk_cell hled 3).trans rfl
              have hL1 := hL.below hlow
              have htold := told_calls A0 c0 l0 A1 c1 l1 A2 c2 l2.length ops A3 c3 l3 (some ad) c4 l4 r.f0 W1 hL1.r0 hL1.h0 hL1.r1 hL1.h1 (Kd.C_below hC3 hlow) hc3 (Kd.C_below hC4 hlow) hc4 (by have := hf.1; have := hf.2.1; omega)
              have htl := told_len (l0 := l0) (l1 := l1) (l3 := l3) (l4 := l4) (sku := r.f0)
              have hnX : (toldF l0 l1 l3 l4 r.f0).length ≤ 90000 := by have := hf.1; have := hf.2.1; omega
              have hFr := HF.out r.f0
              have h64 := H64.out r.f0
              obtain ⟨X, hX⟩ : ∃ X, toldF l0 l1 l3 l4 r.f0 = X := ⟨_, rfl⟩
              rw [hX] at htold hnX h64 hFr
              have HFr := Lib.hid hFr
              have HI := Lib.hid (And.intro hlow (And.intro hled (And.intro hbase (And.intro hSM (And.intro hGI hs)))))
              clear hX htl hL1 hFr hlow hled hbase hSM hGI hs hI hB1
              go_wp2_with fail
              refine htold.mono ?_
              clear htold
              rintro e w5 ⟨v, rfl, hR, hb5⟩
              obtain ⟨Av, cv, rfl⟩ := Kd.R_slice hR
              have hrd := Kd.R_reads' hR
              have hline := line_calls Av cv X hnX h64 w5 hrd.2.2 hrd.2.1
              unfold LineEnd at hline
              rw [HFr.out] at hline
              obtain ⟨ls, er, hfe⟩ : ∃ ls er, F r.f0 = (ls, er) := ⟨_, _, rfl⟩
              rw [hfe] at hline
              have Hfe := Lib.hid hfe
              clear hR hrd hfe
              go_wp2_with fail
              refine hline.mono ?_
              clear hline
              rintro e w6 ⟨A', c', rfl, hR6, hb6⟩
              have hb16 : Below W1.heap.size W1 w6 := below_chain hb5 hb6
              have hy := cell_below hb16 hz0
              have hrd6 := Kd.R_reads' hR6
              clear hb5 hb6 hR6
              by_cases he : er = 0
              · have heb : (er != 0) = false := by rw [he]; rfl
                have H0 := Lib.hid (show (F r.f0).2 = 0 from by rw [Hfe.out]; exact he)
                have HM := Lib.hid (show ∀ V, Below w6.heap.size w6 V → ∃ w7, (Instr.mapUpdate 113 (.map (some w4.heap.size)) (.string r.f0) (.bool (negS ls))).run Tryz.prog V = .ok () w7 ∧ ShI F l4 w w4.heap.size #[.slice A0 l0.length c0, .slice A1 l1.length c1, .slice A2 l2.length c2, .int .i64 ops] (k + 1) w7 ∧ w7.cell? ⟨wr.heap.size, 0, none⟩ = some (.string r.f0) from fun V hV => by
                  obtain ⟨hlow, hled, hbase, hSM, hGI, hs⟩ := HI.out
                  have hbV := below_chain hb16 hV
                  have hSV := hSM.block (hbV.block _ hSM.lt)
                  obtain ⟨w7, r1, r2, r3⟩ := hSV.update (by unfold maxLen; omega) hG.1 (negS ls)
                  have hlowV := below_w hlow hbV
                  have hyV := cell_below hV hy
                  refine ⟨w7, r1, ⟨hlowV.grown r3 hlowV.size (fun j hj => by cases hj; omega), (r3.block _ (Nat.lt_of_lt_of_le (blk_lt hled) hbV.size) (by simp; omega)).trans ((hbV.block _ (blk_lt hled)).trans hled), hbase, _, r2, ?_⟩, ?_⟩
                  rotate_left
                  · have hne : some wr.heap.size ≠ some w4.heap.size := by have := HBlt.out; simp; omega
                    have hbl := r3.block wr.heap.size (World.block_lt_of_cell? V _ hyV) hne
                    unfold World.cell? at hyV ⊢
                    rw [hbl]
                    exact hyV
                  rw [Htk.out, show negS ls = negS (F r.f0).1 from by rw [Hfe.out]]
                  exact hGI.new hs H0.out)
                have Hcon := Lib.hid (show ∀ V, Below w6.heap.size w6 V → _ from fun V hV => con_neg A' c' ls V (Kd.C_below hrd6.2.2 hV) hrd6.2.1)
                clear he hrd6 hb16 hz0 hc0 hc1 hc2 hc3' hy0 hy1 hy2
                go_wp2
                go_region_held3 (fun V => V.cell? ⟨wr.heap.size, 0, none⟩ = some (.string r.f0))
                  (first | assumption | exact cell_below (below_drew (Below.refl _ _)) hy | exact cell_below hbw hy | exact hy7)
                  (first | (go_at_call 43; refine (Hcon.out _ (below_drew (Below.refl _ _))).mono ?_; rintro e w' ⟨rfl, hbn⟩; have hbw : Below w6.heap.size w6 w' := below_chain (below_drew (Below.refl _ _)) hbn; obtain ⟨w7, r1, hI7, hy7⟩ := HM.out _ hbw))
                go_wp2
                exact ⟨⟨k + 1, by omega, by simp, hI7⟩, by simp [intOf]; omega⟩
              · have heb : (er != 0) = true := by simpa using he
                have He := Lib.hid he
                clear he hrd6 hz0 hc0 hc1 hc2 hc3' hy0 hy1 hy2 hy
                go_wp2
                go_ret2
                obtain ⟨hlow, hled, hbase, hSM, hGI, hs⟩ := HI.out
                exact ⟨none, 0, [], er, rfl, Kd.C_nil _ _, below_w hlow hb16, Nat.zero_le _, fun _ => .inl ⟨_, _, _, Hsplit.out, hGI.ok, by rw [Hfe.out], He.out, rfl⟩, fun h => absurd ⟨hk1.out, hm1.out, hm41.out⟩ h⟩
          · obtain rfl : k = l4.length := by omega
            have hd : decide ((l4.length : Int) < (l4.length : Int)) = false := decide_eq_false (by omega)
            obtain ⟨hlow, hled, hbase, g, hSM, hGI⟩ := hI
            rw [List.take_length] at hGI
            obtain ⟨w5, hrange, ⟨cnt, hSR⟩, hg5, hs5⟩ := hSM.range
            obtain ⟨rb, hrb⟩ : ∃ rb, wr.heap.size = rb := ⟨_, rfl⟩
            have hlow5 : Below w.heap.size w w5 := hlow.grown hg5 hlow.size (fun j hj => by cases hj)
            have HGI := Lib.hid hGI
            rw [hrb] at hSR hrange
            have Hrb := Lib.hid (show w.heap.size ≤ rb from by rw [← hrb]; exact hlow.size)
            clear hlow hled hSM hGI hg5 hs5 hrb
            go_wp2
            go_loopw [15] (fun v V => ∃ cnt out, SR V w4.heap.size rb l4.length g cnt out ∧ Kd.R Kd.string 9 V w.heap.size (fun j => j ≠ rb) v out ∧ Below w.heap.size w V)
              (fun _ V => V.rangeLeft w4.heap.size rb)
            case atStart => exact ⟨cnt, [], hSR, Kd.R_nil _ _ _ _ _, hlow5⟩
            case round =>
              obtain ⟨cnt1, out, hSR1, hR1, hlow1⟩ := hrel
              clear hSR hlow5
              rcases hSR1.next 0 with ⟨hnd, hmem, hnx⟩ | ⟨s, x, w6, cnt2, hs, hnx, hSR2, hclt, hg6, hs6, hent⟩
              · have hsort := sort_strs wr w.heap.size _ _ out hR1 (by have := hSR1.out_le; omega)
                have hol := hSR1.out_le
                obtain ⟨Ao, co, rfl⟩ := Kd.R_slice hR1
                have hfin := Lib.hid (And.intro hnd (And.intro hmem (And.intro hol hlow1)))
                have HSR := Lib.hid (And.intro hSR1 hR1)
                clear hSR1 hR1 hnd hmem hol hlow1
                go_wp2_with fail
                refine hsort.mono ?_
                clear hsort
                rintro e w7 ⟨rfl, hg7, hR7⟩
                have hbl := Kd.R_own HSR.out.2
                have hlow7 : Below w.heap.size w w7 := hfin.out.2.2.2.grown hg7 hfin.out.2.2.2.size (fun j hj => by obtain ⟨inner, ho⟩ := hbl; exact (ho.lt j hj).1)
                have hrd7 := Kd.R_reads' hR7
                rw [sortS_len] at hrd7
                have Hrd := Lib.hid hrd7
                clear hg7 hR7 hbl hrd7
                go_wp2
                go_ret2
                have hb : ∀ s, s ∈ out ∨ g s = some true → s.size ≤ maxLen := fun s h => by
                  rcases h with h | h
                  · exact HSR.out.1.sizes s h
                  · obtain ⟨⟨r, hr, rfl⟩, _⟩ := (HGI.out.said s true).1 h
                    exact (hr4 r hr).1
                refine ⟨Ao, co, sortS out, 0, by rw [sortS_len]; rfl, by rw [sortS_len]; exact Hrd.out.2.2, hlow7, by rw [sortS_len]; exact hfin.out.2.2.1, fun _ => HGI.out.done hfin.out.1 (fun s => ?_), fun h => absurd ⟨hk1.out, hm1.out, hm41.out⟩ h⟩
                constructor
                · intro h
                  exact (hfin.out.2.1 s (hb s (.inl h))).2 h
                · intro h
                  exact (hfin.out.2.1 s (hb s (.inr h))).1 h
              · have hol := hSR2.out_le
                have hne6 : some rb ≠ some w4.heap.size := by have := hSR1.ne; simpa using this
                have hlow6 : Below w.heap.size w w6 := hlow1.grown hg6 hlow1.size (fun j hj => by cases hj; exact Hrb.out)
                have hR6 : Kd.R Kd.string 9 w6 w.heap.size (fun j => j ≠ rb) _ out := Kd.R_grown hR1 hg6 (fun j hj => by simpa using hj)
                cases x with
                | true =>
                  have hR6' := hR6
                  obtain ⟨Ao, co, rfl⟩ := Kd.R_slice hR6'
                  rw [if_pos rfl] at hSR2
                  rw [if_pos rfl, List.length_append, List.length_singleton] at hol
                  obtain ⟨A8, c8, w8, hrun, hR8, hg8⟩ := append_made Kd.string (P := Tryz.prog) w.heap.size 33 33 9 (.string ⟨#[]⟩) 16 Tryz.underlying33 info_str rfl (by decide) (by decide) w6 _ out s [.string s] (fun j => j ≠ rb) (fun _ => False)
                    rfl (fun j hj => hj.elim) (fun j hj => by have := hSR2.lt; omega) hR6 hlow6.size (by omega)
                  have ho6 := own_strs hR6
                  have hne7 : some rb ≠ (Value.slice Ao out.length co).ownBlock := hSR2.ne_row ho6
                  have hne8 : some w4.heap.size ≠ (Value.slice Ao out.length co).ownBlock := hSR2.ne_map ho6
                  have hSR8 := hSR2.kept hg8 hne8 hne7
                  have hlow8 : Below w.heap.size w w8 := hlow6.grown hg8 hlow6.size (fun j hj => (ho6.lt j hj).1)
                  have HF8 := Lib.hid (And.intro hSR8 (And.intro hR8 hlow8))
                  have HM := Lib.hid (show w8.rangeLeft w4.heap.size rb < wr.rangeLeft w4.heap.size rb from by rw [hSR8.left_eq, hSR1.left_eq]; exact hclt)
                  clear hSR8 hR8 hlow8 hSR2 hR6 hR6' hlow6 hol hg8 hne7 hne8 ho6 hg6 hs6 hSR1 hR1 hlow1 hclt hne6
                  go_wp2_with (at_builtin; refine wpList_append_run rfl _ _ _ rfl hrun ?_)
                  exact ⟨⟨_, _, HF8.out.1, by have h8 := HF8.out.2.1; rw [List.length_append, List.length_singleton] at h8; exact h8, HF8.out.2.2⟩, HM.out⟩
                | false =>
                  rw [if_neg (by decide)] at hSR2
                  have HF8 := Lib.hid (And.intro hSR2 (And.intro hR6 hlow6))
                  have HM := Lib.hid (show w6.rangeLeft w4.heap.size rb < wr.rangeLeft w4.heap.size rb from by rw [hSR2.left_eq, hSR1.left_eq]; exact hclt)
                  clear hSR2 hR6 hlow6 hol hg6 hs6 hSR1 hR1 hlow1 hclt hne6
                  go_wp2
                  exact ⟨⟨_, _, HF8.out.1, HF8.out.2.1, HF8.out.2.2⟩, HM.out⟩

