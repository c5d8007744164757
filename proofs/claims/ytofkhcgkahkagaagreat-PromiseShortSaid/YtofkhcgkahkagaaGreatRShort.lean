/- The reference's Short. (For the seat of PromiseShort alone.) -/
import Derived.Test.YtofkhcgkahkagaaGreatRLine
import Derived.Test.YtofkhcgkahkagaaGreatRApi
import Derived.Test.YtofkhcgkahkagaaGreatShort
import Derived.Test.YtofkhcgkahkagaaGreatApp
import Derived.Test.YtofkhcgkahkagaaGreatQ22
import Derived.BigQuiet
namespace Go.Proofs.YtofkhcgkahkagaaGreat
open Go.RowKit Go.Shelf Go.Proofs.YtofkhcgkahkagaaGreatW.PrintWords Go.Proofs.YtofkhcgkahkagaaGreatW.PrintLast Go.Proofs.YtofkhcgkahkagaaGreatW.PrintMore Go.Proofs.YtofkhcgkahkagaaGreat.PPromiseShort
set_option linter.unusedVariables false
set_option linter.unusedSimpArgs false

theorem rd_Bs {l : List ByteArray} {i : Nat} (h : i < l.length) : rdOf ByteArray.empty l (i : Int) = l[i] := by unfold rdOf; rw [Int.toNat_natCast, List.getD_eq_getElem?_getD, List.getElem?_eq_getElem h]; rfl
def memB (l : List ByteArray) (s : ByteArray) : Bool := l.any (fun t => decide (t.toList = s.toList))
theorem memB_iff {l : List ByteArray} {s : ByteArray} : memB l s = true ↔ s ∈ l := by
  unfold memB
  rw [List.any_eq_true]
  constructor
  · rintro ⟨t, ht, e⟩
    rw [← str_eq.1 (of_decide_eq_true e)]
    exact ht
  · intro h
    exact ⟨s, h, decide_eq_true rfl⟩
theorem has_loop (l : List ByteArray) (s : ByteArray) (hn : l.length ≤ 1000) : ∀ d k i : Nat, i + d = l.length → d < k → quaysideref33_has.l0 k l s (i : Int) = some (memB (l.drop i) s) := by
  intro d
  induction d with
  | zero =>
    intro k i h1 h2
    obtain ⟨k, rfl⟩ : ∃ m, k = m + 1 := ⟨k - 1, by omega⟩
    rw [quaysideref33_has.l0, if_neg (by omega), List.drop_eq_nil_of_le (by omega)]
    rfl
  | succ d ih =>
    intro k i h1 h2
    obtain ⟨k, rfl⟩ : ∃ m, k = m + 1 := ⟨k - 1, by omega⟩
    have hlt : i < l.length := by omega
    rw [quaysideref33_has.l0, if_pos (by omega), if_pos (by omega), rd_Bs hlt, List.drop_eq_getElem_cons hlt, wrap_next hlt (by omega)]
    unfold memB
    rw [List.any_cons]
    by_cases e : l[i].toList = s.toList
    · rw [if_pos e, decide_eq_true e]
      rfl
    · rw [if_neg e, decide_eq_false e, Bool.false_or]
      exact ih k (i + 1) (by omega) (by omega)
theorem has_law (l : List ByteArray) (s : ByteArray) (hn : l.length ≤ 1000) : quaysideref33_has.f 2000 l s = some (memB l s) := by
  have := has_loop l s hn l.length 2000 0 (by omega) (by omega)
  exact this

/-- What was found among some that are taken. -/
structure RI (F : LineFn) (pre : List S103) (out : List ByteArray) : Prop where
  ok : ∀ r ∈ pre, (F r.f0).2 = 0
  up : out.Pairwise (fun s t => toL s < toL t)
  mem : ∀ s, s ∈ out ↔ ∃ r ∈ pre, r.f0 = s ∧ negS (F s).1 = true
  len : out.length ≤ pre.length
theorem RI.stay {F : LineFn} {pre : List S103} {out : List ByteArray} (h : RI F pre out) {r : S103} (h0 : (F r.f0).2 = 0) (hn : negS (F r.f0).1 = false ∨ r.f0 ∈ out) : RI F (pre ++ [r]) out := by
  refine ⟨fun p hp => ?_, h.up, fun s => ?_, by have := h.len; rw [List.length_append]; omega⟩
  · rcases List.mem_append.1 hp with hp | hp
    · exact h.ok p hp
    · obtain rfl : p = r := by simpa using hp
      exact h0
  · rw [h.mem s]
    constructor
    · rintro ⟨p, hp, e⟩
      exact ⟨p, by simp [hp], e⟩
    · rintro ⟨p, hp, e1, e2⟩
      rcases List.mem_append.1 hp with hp | hp
      · exact ⟨p, hp, e1, e2⟩
      · obtain rfl : p = r := by simpa using hp
        rcases hn with hn | hn
        · rw [e1, e2] at hn; cases hn
        · rw [← e1]
          exact (h.mem p.f0).1 hn
theorem RI.add {F : LineFn} {pre : List S103} {out : List ByteArray} (h : RI F pre out) {r : S103} (h0 : (F r.f0).2 = 0) (hn : negS (F r.f0).1 = true) (hnew : r.f0 ∉ out) {k : Nat} (hk : k ≤ out.length)
    (hlo : ∀ j (hj : j < out.length), j < k → toL out[j] < toL r.f0) (hhi : ∀ hj : k < out.length, ¬ toL out[k] < toL r.f0) : RI F (pre ++ [r]) (out.take k ++ [r.f0] ++ out.drop k) := by
  have hsplit : out.take k ++ out.drop k = out := List.take_append_drop k out
  have hup := h.up
  rw [← hsplit] at hup
  obtain ⟨u1, u2, u3⟩ := List.pairwise_append.1 hup
  have hlt : ∀ a ∈ out.take k, toL a < toL r.f0 := fun a ha => by
    obtain ⟨j, hj, rfl⟩ := List.getElem_of_mem ha
    rw [List.length_take] at hj
    rw [List.getElem_take]
    exact hlo j (by omega) (by omega)
  have hgt : ∀ a ∈ out.drop k, toL r.f0 < toL a := fun a ha => by
    by_cases hkl : k < out.length
    · have hne : ∀ b ∈ out, toL r.f0 ≠ toL b := fun b hb e => hnew (by rw [toL_inj e]; exact hb)
      have h1 : toL r.f0 < toL out[k] := by
        rcases List.le_iff_lt_or_eq.1 (List.not_lt.1 (hhi hkl)) with h | h
        · exact h
        · exact absurd h (hne _ (List.getElem_mem hkl))
      rw [List.drop_eq_getElem_cons hkl] at ha u2
      rcases List.mem_cons.1 ha with rfl | ha
      · exact h1
      · exact List.lt_trans h1 ((List.pairwise_cons.1 u2).1 a ha)
    · rw [List.drop_eq_nil_of_le (by omega)] at ha
      cases ha
  refine ⟨fun p hp => ?_, ?_, fun s => ?_, ?_⟩
  · rcases List.mem_append.1 hp with hp | hp
    · exact h.ok p hp
    · obtain rfl : p = r := by simpa using hp
      exact h0
  · rw [List.append_assoc]
    refine List.pairwise_append.2 ⟨u1, List.pairwise_cons.2 ⟨hgt, u2⟩, fun a ha b hb => ?_⟩
    rcases List.mem_cons.1 hb with rfl | hb
    · exact hlt a ha
    · exact u3 a ha b hb
  · have : s ∈ out.take k ++ [r.f0] ++ out.drop k ↔ s = r.f0 ∨ s ∈ out := by
      conv => rhs; rw [← hsplit]
      simp only [List.mem_append, List.mem_singleton]
      constructor
      · rintro ((h | h) | h)
        · exact .inr (.inl h)
        · exact .inl h
        · exact .inr (.inr h)
      · rintro (h | h | h)
        · exact .inl (.inr h)
        · exact .inl (.inl h)
        · exact .inr h
    rw [this, h.mem s]
    constructor
    · rintro (e | ⟨p, hp, e⟩)
      · exact ⟨r, by simp, e.symm, by rw [e]; exact hn⟩
      · exact ⟨p, by simp [hp], e⟩
    · rintro ⟨p, hp, e1, e2⟩
      rcases List.mem_append.1 hp with hp | hp
      · exact .inr ⟨p, hp, e1, e2⟩
      · obtain rfl : p = r := by simpa using hp
        exact .inl e1.symm
  · have := h.len
    simp only [List.length_append, List.length_take, List.length_drop, List.length_singleton]
    omega
theorem RI.done {F : LineFn} {l4 : List S103} {out : List ByteArray} (h : RI F l4 out) : ShortOut F l4 out 0 := .inr ⟨rfl, h.ok, h.up, h.mem⟩
theorem neg_take {l : List S111} {k : Nat} (h : k < l.length) : negS (l.take (k + 1)) = (negS (l.take k) || decide (l[k].f1 < 0)) := by
  unfold negS
  rw [take_snoc h, List.any_append]
  simp

/-- Two that answer alike are one. -/
theorem short_one {F : LineFn} {l4 : List S103} {xs ys : List ByteArray} {a b : Int} (h1 : ShortOut F l4 xs a) (h2 : ShortOut F l4 ys b) : xs = ys ∧ a = b := by
  have first : ∀ (p1 q1 : List S103) (r1 : S103) (p2 q2 : List S103) (r2 : S103), p1 ++ r1 :: q1 = p2 ++ r2 :: q2 → (∀ q ∈ p1, (F q.f0).2 = 0) → (F r1.f0).2 ≠ 0 → (∀ q ∈ p2, (F q.f0).2 = 0) → (F r2.f0).2 ≠ 0 → r1 = r2 := by
    intro p1
    induction p1 with
    | nil =>
      intro q1 r1 p2 q2 r2 e _ h2 h3 h4
      cases p2 with
      | nil => exact (List.cons.inj e).1
      | cons c p2 =>
        have := (List.cons.inj e).1
        subst this
        exact absurd (h3 _ (by simp)) h2
    | cons c p1 ih =>
      intro q1 r1 p2 q2 r2 e h1 h2 h3 h4
      cases p2 with
      | nil =>
        have := (List.cons.inj e).1
        subst this
        exact absurd (h1 _ (by simp)) h4
      | cons c2 p2 => exact ih q1 r1 p2 q2 r2 (List.cons.inj e).2 (fun q hq => h1 q (by simp [hq])) h2 (fun q hq => h3 q (by simp [hq])) h4
  rcases h1 with ⟨p1, r1, q1, e1, o1, f1, n1, x1⟩ | ⟨a0, o1, u1, m1⟩ <;> rcases h2 with ⟨p2, r2, q2, e2, o2, f2, n2, x2⟩ | ⟨b0, o2, u2, m2⟩
  · have := first p1 q1 r1 p2 q2 r2 (e1.symm.trans e2) o1 (by rw [f1]; exact n1) o2 (by rw [f2]; exact n2)
    subst this
    exact ⟨x1.trans x2.symm, f1.symm.trans f2⟩
  · exact absurd (f1.symm.trans (o2 r1 (by rw [e1]; simp))) n1
  · exact absurd (f2.symm.trans (o1 r2 (by rw [e2]; simp))) n2
  · refine ⟨?_, a0.trans b0.symm⟩
    refine List.Perm.eq_of_pairwise (le := fun s t => toL s < toL t) (fun s t _ _ g1 g2 => absurd (List.lt_trans g1 g2) (List.lt_irrefl _)) u1 u2 ?_
    have nd : ∀ {l : List ByteArray}, l.Pairwise (fun s t => toL s < toL t) → l.Nodup := fun h => h.imp (fun h e => by rw [e] at h; exact List.lt_irrefl _ h)
    exact (List.perm_ext_iff_of_nodup (nd u1) (nd u2)).2 (fun s => by rw [m1, m2])

/-- A text is put into its place: three appends. -/
theorem ins_runs {V : World} {Ao : Option Addr} {co : Nat} {out : List ByteArray} (hC : Kd.C Kd.string V Ao out.length out) (hco : out.length ≤ co) (hn : out.length ≤ 1000) {j : Nat} (hj : j ≤ out.length) (s : ByteArray) :
    ∃ v1 w1 v2 w2 v3 w3, (Builtin.append_ #[33, 33] 33 #[.slice none 0 0, .slice Ao j co]).run Tryz.prog V = .ok v1 w1 ∧
      (Builtin.append_ #[33, 33] 33 #[v1, .slice (some ⟨w1.heap.size, 0, none⟩) 1 1]).run Tryz.prog (w1.alloc (.cells #[.string s] 9)) = .ok v2 w2 ∧
      (Builtin.append_ #[33, 33] 33 #[v2, .slice (if co = j then Ao else Ao.map (fun a => a.add j)) (out.length - j) (co - j)]).run Tryz.prog w2 = .ok v3 w3 ∧
      Kd.R Kd.string 9 w3 V.heap.size (fun _ => True) v3 (out.take j ++ [s] ++ out.drop j) ∧ Below V.heap.size V w1 ∧ Below V.heap.size V w2 ∧ Below V.heap.size V w3 := by
  have hlt : (out.take j).length = j := by rw [List.length_take]; omega
  have hld : (out.drop j).length = out.length - j := List.length_drop
  obtain ⟨v1, w1, r1, R1, g1⟩ := append_rows Kd.string (P := Tryz.prog) V.heap.size 33 33 9 (.string ⟨#[]⟩) 16 Tryz.underlying33 info_str rfl (by decide) (by decide) V (.slice none 0 0) [] (out.take j) Ao co (Kd.R_nil _ _ _ _ _) (Kd.C_take hC hj) (fun _ _ h => h) (Nat.le_refl _) (by rw [hlt, List.length_nil]; omega)
  rw [hlt] at r1
  rw [List.nil_append] at R1
  have hb1 : Below V.heap.size V w1 := (Below.refl _ V).grown g1 (Nat.le_refl _) (fun i hi => by simp [Value.ownBlock] at hi)
  have o1 := own_strs R1
  obtain ⟨A2, c2, w2, r2, R2, g2⟩ := append_made Kd.string (P := Tryz.prog) V.heap.size 33 33 9 (.string ⟨#[]⟩) 16 Tryz.underlying33 info_str rfl (by decide) (by decide) w1 v1 (out.take j) s [.string s] (fun _ => True) (fun _ => False)
    rfl (fun _ h => h.elim) (fun _ _ => trivial) R1 hb1.size (by rw [hlt]; omega)
  have hb2 : Below V.heap.size V w2 := hb1.grown g2 hb1.size (fun i hi => (o1.lt i hi).1)
  have o2 := own_strs R2
  have hC2 := Kd.C_drop (c := co) (Kd.C_below hC hb2) hj hco
  obtain ⟨v3, w3, r3, R3, g3⟩ := append_rows Kd.string (P := Tryz.prog) V.heap.size 33 33 9 (.string ⟨#[]⟩) 16 Tryz.underlying33 info_str rfl (by decide) (by decide) w2 _ (out.take j ++ [s]) (out.drop j) _ (co - j) R2 hC2 (fun _ _ h => h) hb2.size (by rw [List.length_append, hlt, hld, List.length_singleton]; omega)
  rw [hld] at r3
  have hb3 : Below V.heap.size V w3 := hb2.grown g3 hb2.size (fun i hi => (o2.lt i hi).1)
  have hsz : (fun a : Addr => a.add (j * Kd.string.sz)) = fun a => a.add j := by
    funext a
    rw [show Kd.string.sz = 1 from rfl, Nat.mul_one]
  rw [hsz] at r3
  exact ⟨v1, w1, _, w2, v3, w3, r1, r2, r3, R3, hb1, hb2, hb3⟩

/-- Between two that are taken. -/
structure RsI (w : World) (led : Array Value) (V : World) : Prop where
  low : Below w.heap.size w V
  led : V.heap[w.heap.size]? = some (.cells led 55 (0, 0))
theorem RsI.below {w : World} {led : Array Value} {V V' : World} (h : RsI w led V) (hb : Below V.heap.size V V') : RsI w led V' :=
  ⟨below_w h.low hb, (hb.block _ (blk_lt h.led)).trans h.led⟩

set_option maxRecDepth 100000 in
set_option maxHeartbeats 2000000 in
theorem rshort_calls (l0 : List S165) (l1 : List S172) (l2 : List S176) (A0 : Option Addr) (c0 : Nat) (A1 : Option Addr) (c1 : Nat) (A2 : Option Addr) (c2 : Nat) (ops : Int) (A3 : Option Addr) (c3 : Nat) (l3 : List S103) (A4 : Option Addr) (c4 : Nat) (l4 : List S103) (w : World)
    (hL : LedgerAt l0 l1 l2 A0 c0 A1 c1 A2 c2 w) (hf : FewL l0 l1 l2) (hC3 : Kd.C k103 w A3 l3.length l3) (hc3 : l3.length ≤ c3) (hl3 : l3.length ≤ 20) (hC4 : Kd.C k103 w A4 l4.length l4) (hc4 : l4.length ≤ c4) (hl4 : l4.length ≤ 20) (h64 : ∀ sku t, In64 (frL l0 l1 l3 l4 sku t)) :
    Calls Tryz.prog 18 #[.agg #[.slice A0 l0.length c0, .slice A1 l1.length c1, .slice A2 l2.length c2, .int .i64 ops], .slice A3 l3.length c3, .slice A4 l4.length c4] w
      (ShEnd (fun sku => lineG (fun t => sumOf (frL l0 l1 l3 l4 sku t)) (timesR l1 l3 l4) []) l4 (ckB l0 l1 l2 ops = true ∧ mayB l3 = true ∧ mayB l4 = true) w) := by
  obtain ⟨F, hF⟩ : ∃ F : LineFn, (fun sku => lineG (fun t => sumOf (frL l0 l1 l3 l4 sku t)) (timesR l1 l3 l4) []) = F := ⟨_, rfl⟩
  have hFt : ∀ sku, lineG (fun t => sumOf (frL l0 l1 l3 l4 sku t)) (timesR l1 l3 l4) [] = F sku := fun sku => by rw [← hF]
  rw [hF]
  have hline0 := fun sku V (hV : Below w.heap.size w V) => rline_calls l0 l1 l2 A0 c0 A1 c1 A2 c2 ops A3 c3 l3 A4 c4 l4 sku V (hL.below hV) hf (Kd.C_below hC3 hV) (Kd.C_below hC4 hV) hc3 hc4 hl3 hl4 (h64 sku)
  have HL1 := Lib.hid (show ∀ sku V, Below w.heap.size w V → Calls Tryz.prog 48 #[.agg #[.slice A0 l0.length c0, .slice A1 l1.length c1, .slice A2 l2.length c2, .int .i64 ops], .slice A3 l3.length c3, .slice A4 l4.length c4, .string sku] V (LnEnd V (F sku)) from fun sku V hV => by rw [← hFt]; exact hline0 sku V hV)
  clear hF hFt h64 hline0
  have hu := Tryz.underlying55
  have hur := Tryz.underlying103
  have hus := Tryz.underlying111
  have hbox := fun o => (Below.refl w.heap.size w).alloc (Nat.le_refl _) o
  obtain ⟨W0, hW0⟩ : ∃ W0, w.alloc (.cells #[.slice A0 l0.length c0, .slice A1 l1.length c1, .slice A2 l2.length c2, .int .i64 ops] 55) = W0 := ⟨_, rfl⟩
  have hI0 : RsI w #[.slice A0 l0.length c0, .slice A1 l1.length c1, .slice A2 l2.length c2, .int .i64 ops] W0 := by rw [← hW0]; exact ⟨hbox _, heap_alloc_new w _⟩
  have hd0 : W0.cell? ⟨w.heap.size, 0, none⟩ = some (.slice A0 l0.length c0) := (blk_cell hI0.led 0).trans rfl
  have hd1 : W0.cell? ⟨w.heap.size, 1, none⟩ = some (.slice A1 l1.length c1) := (blk_cell hI0.led 1).trans rfl
  have hd2 : W0.cell? ⟨w.heap.size, 2, none⟩ = some (.slice A2 l2.length c2) := (blk_cell hI0.led 2).trans rfl
  have hd3 : W0.cell? ⟨w.heap.size, 3, none⟩ = some (.int .i64 ops) := (blk_cell hI0.led 3).trans rfl
  have hcheck := rmay_calls l0 l1 l2 A0 c0 A1 c1 A2 c2 ops W0 (hL.below hI0.low) hf
  clear hbox
  go_enter Tryz.func18, Tryz.ntmps18
  go_wp2_with fail
  refine hcheck.mono ?_
  clear hcheck hW0 hd0 hd1 hd2 hd3
  rintro e w2 ⟨rfl, hb2⟩
  have hI2 := hI0.below hb2
  clear hI0 hb2
  cases hk : ckB l0 l1 l2 ops with
  | false =>
    have hlow := hI2.low
    go_wp2
    go_ret2
    exact ⟨none, 0, [], 1, rfl, Kd.C_nil _ _, hlow, Nat.zero_le _, fun h => absurd h.1 (by rw [hk]; decide), fun _ => ⟨rfl, rfl⟩⟩
  | true =>
    have hmay := quaysideref33_May.calls 1000 A3 c3 l3 (mayB l3) w2 (Kd.C_below hC3 hI2.low) hc3 (rmayR_law l3 hl3)
    go_wp2_with fail
    refine hmay.mono ?_
    clear hmay
    rintro e w3 ⟨rfl, hdr⟩
    have hI3 := hI2.below hdr.below
    clear hdr hI2
    cases hm : mayB l3 with
    | false =>
      have hlow := hI3.low
      go_wp2
      go_ret2
      exact ⟨none, 0, [], 1, rfl, Kd.C_nil _ _, hlow, Nat.zero_le _, fun h => absurd h.2.1 (by rw [hm]; decide), fun _ => ⟨rfl, rfl⟩⟩
    | true =>
      have hmay := quaysideref33_May.calls 1000 A4 c4 l4 (mayB l4) w3 (Kd.C_below hC4 hI3.low) hc4 (rmayR_law l4 hl4)
      go_wp2_with fail
      refine hmay.mono ?_
      clear hmay
      rintro e w4 ⟨rfl, hdr⟩
      have hI4 := hI3.below hdr.below
      clear hdr hI3
      cases hm4 : mayB l4 with
      | false =>
        have hlow := hI4.low
        go_wp2
        go_ret2
        exact ⟨none, 0, [], 1, rfl, Kd.C_nil _ _, hlow, Nat.zero_le _, fun h => absurd h.2.2 (by rw [hm4]; decide), fun _ => ⟨rfl, rfl⟩⟩
      | true =>
        have hk1 := Lib.hid hk
        have hm1 := Lib.hid hm
        have hm41 := Lib.hid hm4
        have hmax4 : l4.length ≤ 9223372036854775807 := by omega
        clear hk hm hm4
        go_wp2
        go_loopw [8, 9] (fun v i wr => ∃ (k : Nat) (out : List ByteArray), k ≤ l4.length ∧ i = .int .i64 k ∧ RsI w #[.slice A0 l0.length c0, .slice A1 l1.length c1, .slice A2 l2.length c2, .int .i64 ops] wr ∧ Kd.R Kd.string 9 wr w.heap.size (fun _ => True) v out ∧ RI F (l4.take k) out)
          (fun _ i _ => l4.length - (intOf i).toNat)
        case atStart => exact ⟨0, [], Nat.zero_le _, rfl, hI4, Kd.R_nil _ _ _ _ _, ⟨by simp, List.Pairwise.nil, by simp, by simp⟩⟩
        case round =>
          obtain ⟨k, out, hk, rfl, hI, hR, hRI⟩ := hrel
          clear hI4
          have hol := hRI.len
          rw [List.length_take] at hol
          by_cases hlt : k < l4.length
          · have hd : decide ((k : Int) < (l4.length : Int)) = true := decide_eq_true (by omega)
            have hk1' : (k : Int) < (l4.length : Int) := by omega
            have hk2' : (0 : Int) ≤ (k : Int) := Int.natCast_nonneg _
            obtain ⟨ad, rfl, hx0, hx1, hx2⟩ := at_T103 hC4 k (by omega) (by omega)
            rw [Int.toNat_natCast] at hx0
            have hr : rd_T103 l4 k = l4[k] := by unfold rd_T103; rw [Int.toNat_natCast, List.getD_eq_getElem?_getD, List.getElem?_eq_getElem hlt]; rfl
            rw [hr] at hx0
            have hy := cell_below hI.low hx0
            have htk : l4.take (k + 1) = l4.take k ++ [l4[k]] := take_snoc hlt
            have hsplit : l4 = l4.take k ++ l4[k] :: l4.drop (k + 1) := by rw [List.getElem_cons_drop, List.take_append_drop]
            obtain ⟨r, hrr⟩ : ∃ r, l4[k] = r := ⟨_, rfl⟩
            rw [hrr] at hx0 hy htk hsplit
            have Htk := Lib.hid htk
            have Hsplit := Lib.hid hsplit
            have HX0 := Lib.hid hx0
            clear hrr hr hx0 hx1 hx2 htk hsplit
            have hd0 : wr.cell? ⟨w.heap.size, 0, none⟩ = some (.slice A0 l0.length c0) := (blk_cell hI.led 0).trans rfl
            have hd1 : wr.cell? ⟨w.heap.size, 1, none⟩ = some (.slice A1 l1.length c1) := (blk_cell hI.led 1).trans rfl
            have hd2 : wr.cell? ⟨w.heap.size, 2, none⟩ = some (.slice A2 l2.length c2) := (blk_cell hI.led 2).trans rfl
            have hd3 : wr.cell? ⟨w.heap.size, 3, none⟩ = some (.int .i64 ops) := (blk_cell hI.led 3).trans rfl
            obtain ⟨ls, er, hfe⟩ : ∃ ls er, F r.f0 = (ls, er) := ⟨_, _, rfl⟩
            have hcall := HL1.out r.f0
            rw [hfe] at hcall
            unfold LnEnd at hcall
            have Hcall := Lib.hid hcall
            have Hfe := Lib.hid hfe
            have HI := Lib.hid (And.intro hI (And.intro hR hRI))
            have hlow := hI.low
            have hR' := hR
            obtain ⟨Ao, co, rfl⟩ := Kd.R_slice hR'
            clear hcall hfe hI hR hR' hRI
            go_wp2
            go_region_held3 (fun V => V.cell? ⟨w.heap.size, 0, none⟩ = some (.slice A0 l0.length c0) ∧ V.cell? ⟨w.heap.size, 1, none⟩ = some (.slice A1 l1.length c1) ∧ V.cell? ⟨w.heap.size, 2, none⟩ = some (.slice A2 l2.length c2) ∧ V.cell? ⟨w.heap.size, 3, none⟩ = some (.int .i64 ops) ∧ V.cell? (ad.add (k * 3)) = some (.string r.f0))
              (first | assumption | exact ⟨cell_below (below_drew (Below.refl _ _)) hd0, cell_below (below_drew (Below.refl _ _)) hd1, cell_below (below_drew (Below.refl _ _)) hd2, cell_below (below_drew (Below.refl _ _)) hd3, cell_below (below_drew (Below.refl _ _)) hy⟩ | exact ⟨cell_below hbw hd0, cell_below hbw hd1, cell_below hbw hd2, cell_below hbw hd3, cell_below hbw hy⟩)
              (first | (go_at_call 48; refine (Hcall.out _ (below_w hlow (below_drew (Below.refl _ _)))).mono ?_; rintro e w' ⟨Al, cl, rfl, hR7, hbn⟩; have hbw : Below wr.heap.size wr w' := below_chain (below_drew (Below.refl _ _)) hbn))
            have hy' := cell_below hbw hy
            go_split_ands
            have hI7 := HI.out.1.below hbw
            have hR8 := Kd.R_below HI.out.2.1 hbw
            have hrd7 := Kd.R_reads' hR7
            clear hd0 hd1 hd2 hd3 hy hR7
            by_cases he : er = 0
            · have heb : (er != 0) = false := by rw [he]; rfl
              have H0 := Lib.hid (show (F r.f0).2 = 0 from by rw [Hfe.out]; exact he)
              have HN := Lib.hid (show negS (F r.f0).1 = negS ls from by rw [Hfe.out])
              have hCl := hrd7.2.2
              have hll := hrd7.2.1
              have hmaxl := hCl.2.1
              have HI7 := Lib.hid hI7
              have HR8 := Lib.hid hR8
              clear he hrd7 hI7 hR8
              go_wp2
              go_loopw [12, 13] (fun s i V => ∃ j : Nat, j ≤ ls.length ∧ i = .int .i64 j ∧ s = .bool (negS (ls.take j)) ∧ Below w'.heap.size w' V)
                (fun _ i _ => ls.length - (intOf i).toNat)
              case atStart => exact ⟨0, Nat.zero_le _, rfl, rfl, Below.refl _ _⟩
              case round =>
                obtain ⟨j, hj, rfl, rfl, hbj⟩ := hrel
                by_cases hjl : j < ls.length
                · have hdj : decide ((j : Int) < (ls.length : Int)) = true := decide_eq_true (by omega)
                  have hj1 : (j : Int) < (ls.length : Int) := by omega
                  have hj2 : (0 : Int) ≤ (j : Int) := Int.natCast_nonneg _
                  obtain ⟨ad2, rfl, hs0, hs1⟩ := at_T111 hCl j (by omega) (by omega)
                  rw [Int.toNat_natCast] at hs1
                  have hrs : rd_T111 ls j = ls[j] := by unfold rd_T111; rw [Int.toNat_natCast, List.getD_eq_getElem?_getD, List.getElem?_eq_getElem hjl]; rfl
                  rw [hrs] at hs1
                  have hz1 := cell_below hbj hs1
                  have hnt := neg_take hjl
                  obtain ⟨x, hx⟩ : ∃ x, ls[j] = x := ⟨_, rfl⟩
                  rw [hx] at hz1 hnt
                  clear hrs hs0 hs1 hx
                  cases hb : negS (ls.take j) with
                  | true =>
                    rw [hb] at hnt
                    have Hnt := Lib.hid hnt
                    clear hnt
                    go_wp2
                    exact ⟨⟨j + 1, by omega, by simp, by rw [Hnt.out]; rfl, hbj⟩, by simp [intOf]; omega⟩
                  | false =>
                    rw [hb, Bool.false_or] at hnt
                    have Hnt := Lib.hid hnt
                    clear hnt
                    go_wp2
                    exact ⟨⟨j + 1, by omega, by simp, by rw [Hnt.out], hbj⟩, by simp [intOf]; omega⟩
                · obtain rfl : j = ls.length := by omega
                  have hdj : decide ((ls.length : Int) < (ls.length : Int)) = false := decide_eq_false (by omega)
                  rw [List.take_length] at *
                  have hI9 := HI7.out.below hbj
                  have hR9 := Kd.R_below HR8.out hbj
                  have hy9 := cell_below hbj hy'
                  clear hy'
                  cases hneg : negS ls with
                  | false =>
                    have HQ := Lib.hid (And.intro hI9 (And.intro hR9 (show RI F (l4.take (k + 1)) out from by rw [Htk.out]; exact HI.out.2.2.stay H0.out (.inl (by rw [HN.out]; exact hneg)))))
                    clear hI9 hR9 hneg
                    go_wp2
                    exact ⟨⟨k + 1, out, by omega, by simp, HQ.out.1, HQ.out.2.1, HQ.out.2.2⟩, by simp [intOf]; omega⟩
                  | true =>
                    have hrd9 := Kd.R_reads' hR9
                    have hhas := quaysideref33_has.calls 2000 Ao co out r.f0 (memB out r.f0) wr hrd9.2.2 hrd9.2.1 (has_law out r.f0 (by omega))
                    have HQ := Lib.hid (And.intro hI9 hR9)
                    have Hneg := Lib.hid (show negS (F r.f0).1 = true from by rw [HN.out]; exact hneg)
                    clear hI9 hR9 hneg hrd9
                    go_wp2_with fail
                    refine hhas.mono ?_
                    clear hhas
                    rintro e w8 ⟨rfl, hdr⟩
                    have hb8 := hdr.below
                    have hI8 := HQ.out.1.below hb8
                    have hR8' := Kd.R_below HQ.out.2 hb8
                    have hy8 := cell_below hb8 hy9
                    clear hdr hy9
                    cases hmb : memB out r.f0 with
                    | true =>
                      have HQ2 := Lib.hid (And.intro hI8 (And.intro hR8' (show RI F (l4.take (k + 1)) out from by rw [Htk.out]; exact HI.out.2.2.stay H0.out (.inr (memB_iff.1 hmb)))))
                      clear hI8 hR8' hmb
                      go_wp2
                      exact ⟨⟨k + 1, out, by omega, by simp, HQ2.out.1, HQ2.out.2.1, HQ2.out.2.2⟩, by simp [intOf]; omega⟩
                    | false =>
                      have hnew := Lib.hid (show r.f0 ∉ out from fun h => by rw [memB_iff.2 h] at hmb; cases hmb)
                      have hmaxo : out.length ≤ 9223372036854775807 := by omega
                      have hrd8 := Kd.R_reads' hR8'
                      have hCo := hrd8.2.2
                      have hco := hrd8.2.1
                      have HQ2 := Lib.hid (And.intro hI8 hR8')
                      clear hI8 hR8' hmb hrd8
                      go_wp2
                      go_loopw [14] (fun i V => ∃ j : Nat, j ≤ out.length ∧ i = .int .i64 j ∧ (∀ q (hq : q < out.length), q < j → toL out[q] < toL r.f0) ∧ Below w8.heap.size w8 V)
                        (fun i _ => out.length - (intOf i).toNat)
                      case atStart => exact ⟨0, Nat.zero_le _, rfl, fun q _ h => absurd h (Nat.not_lt_zero _), Below.refl _ _⟩
                      case round =>
                        obtain ⟨j, hj, rfl, hall, hbj⟩ := hrel
                        have hyj := cell_below hbj hy8
                        by_cases hjl : j < out.length
                        · have hdj : decide ((j : Int) < (out.length : Int)) = true := decide_eq_true (by omega)
                          have hj1 : (j : Int) < (out.length : Int) := by omega
                          have hj2 : (0 : Int) ≤ (j : Int) := Int.natCast_nonneg _
                          obtain ⟨ad3, hA3, hx⟩ := Kd.at_string hCo (j : Int) (by omega) (by omega)
                          cases hA3
                          rw [Int.toNat_natCast, rd_Bs hjl] at hx
                          have hxj := cell_below hbj hx
                          have hcmp : Op.bytesLess out[j].toList r.f0.toList = decide (toL out[j] < toL r.f0) := by
                            rw [bytesLess_eq, Lib.toList_data, Lib.toList_data]
                            rfl
                          have hlj := hall
                          obtain ⟨s, hs⟩ : ∃ s, out[j] = s := ⟨_, rfl⟩
                          rw [hs] at hxj hcmp
                          have Hs := Lib.hid hs
                          clear hx hs hlj
                          by_cases hless : toL s < toL r.f0
                          · rw [decide_eq_true hless] at hcmp
                            have HA := Lib.hid (show ∀ q (hq : q < out.length), q < j + 1 → toL out[q] < toL r.f0 from fun q hq hqj => by
                              rcases Nat.lt_or_ge q j with h1 | h1
                              · exact hall q hq h1
                              · obtain rfl : q = j := by omega
                                rw [Hs.out]; exact hless)
                            clear hless hall
                            go_wp2
                            go_quiet (fail)
                            go_wp2
                            exact ⟨⟨j + 1, by omega, by simp, HA.out, pw_below_drewN hbj nq⟩, by simp [intOf]; omega⟩
                          · rw [decide_eq_false hless] at hcmp
                            have HA := Lib.hid hall
                            have HA2 := Lib.hid (show ∀ hj : j < out.length, ¬ toL out[j] < toL r.f0 from fun _ => by rw [Hs.out]; exact hless)
                            clear hless hall
                            go_wp2
                            go_quiet (fail)
                            obtain ⟨v1, w1, v2, w2', v3, w3, r1, r2, r3, R3, hb1, hb2, hb3⟩ := ins_runs (Kd.C_below hCo (pw_below_drewN hbj nq)) hco (by omega) hj r.f0
                            have hyq := cell_below (pw_below_drewN (Below.refl _ _) nq) hyj
                            have hyw := cell_below hb1 hyq
                            rw [if_neg (show ¬ co = j by omega), Option.map_some] at r3
                            have HQ3 := Lib.hid (show RsI w #[.slice A0 l0.length c0, .slice A1 l1.length c1, .slice A2 l2.length c2, .int .i64 ops] w3 ∧ Kd.R Kd.string 9 w3 w.heap.size (fun _ => True) v3 (out.take j ++ [r.f0] ++ out.drop j) ∧ RI F (l4.take (k + 1)) (out.take j ++ [r.f0] ++ out.drop j) from by
                              have hI10 := HQ2.out.1.below (pw_below_drewN hbj nq)
                              refine ⟨hI10.below hb3, Kd.R_lower R3 hI10.low.size, ?_⟩
                              rw [Htk.out]
                              exact HI.out.2.2.add H0.out Hneg.out hnew.out hj HA.out HA2.out)
                            clear R3 hb1 hb2 hb3
                            go_wp2_with (first
                              | (at_builtin; refine wpList_append_run rfl _ _ _ rfl r1 ?_)
                              | (at_builtin; refine wpList_append_run rfl _ _ _ rfl r2 ?_)
                              | (at_builtin; refine wpList_append_run rfl _ _ _ rfl r3 ?_))
                            exact ⟨⟨k + 1, _, by omega, by simp, HQ3.out.1, HQ3.out.2.1, HQ3.out.2.2⟩, by simp [intOf]; omega⟩
                        · obtain rfl : j = out.length := by omega
                          have hdj : decide ((out.length : Int) < (out.length : Int)) = false := decide_eq_false (by omega)
                          have HA := Lib.hid hall
                          have HA2 := Lib.hid (show ∀ hj : out.length < out.length, ¬ toL out[out.length] < toL r.f0 from fun h => absurd h (by omega))
                          clear hall
                          go_wp2
                          go_quiet (fail)
                          obtain ⟨v1, w1, v2, w2', v3, w3, r1, r2, r3, R3, hb1, hb2, hb3⟩ := ins_runs (Kd.C_below hCo (pw_below_drewN hbj nq)) hco (by omega) hj r.f0
                          have hyq := cell_below (pw_below_drewN (Below.refl _ _) nq) hyj
                          have hyw := cell_below hb1 hyq
                          have HQ3 := Lib.hid (show RsI w #[.slice A0 l0.length c0, .slice A1 l1.length c1, .slice A2 l2.length c2, .int .i64 ops] w3 ∧ Kd.R Kd.string 9 w3 w.heap.size (fun _ => True) v3 (out.take out.length ++ [r.f0] ++ out.drop out.length) ∧ RI F (l4.take (k + 1)) (out.take out.length ++ [r.f0] ++ out.drop out.length) from by
                            have hI10 := HQ2.out.1.below (pw_below_drewN hbj nq)
                            refine ⟨hI10.below hb3, Kd.R_lower R3 hI10.low.size, ?_⟩
                            rw [Htk.out]
                            exact HI.out.2.2.add H0.out Hneg.out hnew.out hj HA.out HA2.out)
                          clear R3 hb1 hb2 hb3
                          rw [Nat.sub_self] at r3
                          cases Ao with
                          | none =>
                            have ho := own_strs HQ2.out.2
                            have hz : co = 0 ∧ out = [] := by
                              rcases ho.2 with ⟨h1, h2⟩ | ⟨g, cap, cur, h1, _⟩
                              · simp only [Value.slice.injEq] at h1
                                exact ⟨h1.2.2, List.eq_nil_of_length_eq_zero h2⟩
                              · simp at h1
                            obtain ⟨rfl, rfl⟩ := hz
                            simp only [List.length_nil, ite_self, Option.map_none, Nat.sub_self] at r1 r3 ⊢
                            go_wp2_with (first
                              | (at_builtin; refine wpList_append_run rfl _ _ _ rfl r1 ?_)
                              | (at_builtin; refine wpList_append_run rfl _ _ _ rfl r2 ?_)
                              | (at_builtin; refine wpList_append_run rfl _ _ _ rfl r3 ?_))
                            exact ⟨⟨k + 1, _, by omega, by simp, HQ3.out.1, HQ3.out.2.1, HQ3.out.2.2⟩, by simp [intOf]; omega⟩
                          | some ad3 =>
                            by_cases hcj : co = out.length
                            · subst hcj
                              rw [if_pos rfl, Nat.sub_self] at r3
                              go_wp2_with (first
                                | (at_builtin; refine wpList_append_run rfl _ _ _ rfl r1 ?_)
                                | (at_builtin; refine wpList_append_run rfl _ _ _ rfl r2 ?_)
                                | (at_builtin; refine wpList_append_run rfl _ _ _ rfl r3 ?_))
                              exact ⟨⟨k + 1, _, by omega, by simp, HQ3.out.1, HQ3.out.2.1, HQ3.out.2.2⟩, by simp [intOf]; omega⟩
                            · rw [if_neg hcj, Option.map_some] at r3
                              go_wp2_with (first
                                | (at_builtin; refine wpList_append_run rfl _ _ _ rfl r1 ?_)
                                | (at_builtin; refine wpList_append_run rfl _ _ _ rfl r2 ?_)
                                | (at_builtin; refine wpList_append_run rfl _ _ _ rfl r3 ?_))
                              exact ⟨⟨k + 1, _, by omega, by simp, HQ3.out.1, HQ3.out.2.1, HQ3.out.2.2⟩, by simp [intOf]; omega⟩
            · have heb : (er != 0) = true := by simpa using he
              have He := Lib.hid he
              have hlow7 := hI7.low
              clear he hrd7 hR8 hI7 hy'
              go_wp2
              go_ret2
              exact ⟨none, 0, [], er, rfl, Kd.C_nil _ _, hlow7, Nat.zero_le _, fun _ => .inl ⟨_, _, _, Hsplit.out, HI.out.2.2.ok, by rw [Hfe.out], He.out, rfl⟩, fun h => absurd ⟨hk1.out, hm1.out, hm41.out⟩ h⟩
          · obtain rfl : k = l4.length := by omega
            have hd : decide ((l4.length : Int) < (l4.length : Int)) = false := decide_eq_false (by omega)
            rw [List.take_length] at hRI
            have hlow := hI.low
            have hR' := hR
            obtain ⟨Ao, co, rfl⟩ := Kd.R_slice hR'
            have hrd := Kd.R_reads' hR
            have Hrd := Lib.hid hrd
            clear hR'
            have HRI := Lib.hid hRI
            clear hRI hR hrd hI
            go_wp2
            go_ret2
            exact ⟨Ao, co, out, 0, rfl, Hrd.out.2.2, hlow, HRI.out.len, fun _ => HRI.out.done, fun h => absurd ⟨hk1.out, hm1.out, hm41.out⟩ h⟩
end Go.Proofs.YtofkhcgkahkagaaGreat
