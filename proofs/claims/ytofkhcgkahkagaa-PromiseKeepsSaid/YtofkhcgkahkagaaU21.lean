/- Texts behind the row of PromiseKeeps, part 21. -/
import Derived.Test.YtofkhcgkahkagaaU19
import Derived.Test.YtofkhcgkahkagaaU04
import Derived.Test.YtofkhcgkahkagaaU20
import Derived.Test.YtofkhcgkahkagaaU10
import Derived.Test.YtofkhcgkahkagaaU11
import Derived.Test.YtofkhcgkahkagaaU17
import Derived.Test.YtofkhcgkahkagaaU02
import Derived.Deep.Slices
import Derived.ChangeOld
import Derived.OpenShut
/- The laws PromiseLines and PromiseEarliest, over whatever answers for awake. -/
namespace Go.Proofs.Ytofkhcgkahkagaa
open Go.RowKit Go.Proofs.YtofkhcgkahkagaaW.PrintWords Go.Proofs.YtofkhcgkahkagaaW.PrintLast Go.Proofs.YtofkhcgkahkagaaW.PrintMore Go.Proofs.Ytofkhcgkahkagaa.PPromiseLines
set_option linter.unusedVariables false
set_option linter.unusedSimpArgs false

theorem light_loop (l : List S44) : ∀ d k i : Nat, i + d = 20 → 2 * d + 4 < k → ∃ b, quaysidelaw33_light.l0 k l (i : Int) = some b ∧ (b = true → l.length ≤ 20) := by
  intro d
  induction d with
  | zero =>
    intro k i h1 h2
    obtain ⟨k, rfl⟩ : ∃ m, k = m + 1 + 1 := ⟨k - 2, by omega⟩
    rw [quaysidelaw33_light.l0]
    have hf : ∃ b, quaysidelaw33_light.j1 (k + 1) l (i : Int) false = some b ∧ (b = true → l.length ≤ 20) := by
      rw [quaysidelaw33_light.j1, if_neg (by decide)]
      exact ⟨_, rfl, fun h => by have := of_decide_eq_true h; omega⟩
    split
    · rw [decide_eq_false (by omega)]
      exact hf
    · exact hf
  | succ d ih =>
    intro k i h1 h2
    obtain ⟨k, rfl⟩ : ∃ m, k = m + 1 + 1 := ⟨k - 2, by omega⟩
    rw [quaysidelaw33_light.l0]
    by_cases hi : i < l.length
    · rw [if_pos (by omega), decide_eq_true (by omega), quaysidelaw33_light.j1, if_pos rfl, if_pos (by omega), if_pos (by omega)]
      split
      · exact ⟨false, rfl, fun h => by cases h⟩
      · rw [show wrap64 ((i : Int) + 1) = ((i + 1 : Nat) : Int) from by unfold wrap64; omega]
        exact ih k (i + 1) (by omega) (by omega)
    · rw [if_neg (by omega), quaysidelaw33_light.j1, if_neg (by decide)]
      exact ⟨_, rfl, fun h => by have := of_decide_eq_true h; omega⟩
theorem light_law (l : List S44) : ∃ b, quaysidelaw33_light.f 100 l = some b ∧ (b = true → l.length ≤ 20) := light_loop l 20 100 0 (by omega) (by omega)
theorem rd_St {l : List S58} {i : Nat} (h : i < l.length) : rd_T58 l (i : Int) = l[i] := by unfold rd_T58; rw [Int.toNat_natCast, List.getD_eq_getElem?_getD, List.getElem?_eq_getElem h]; rfl
theorem i64_wrap (x : Int) : i64B (wrap64 x) := by unfold i64B wrap64; omega
theorem told_64 {l0 : List S100} {l1 : List S107} {l2 : List S111} {l3 : List S44} (hF : FewL l0 l1 l2) (hr : ∀ r ∈ l3, RecG r) (sku : ByteArray) : Ch64 (toldF l0 l1 l3 [] sku) := by
  intro x hx
  unfold toldF at hx
  simp only [List.mem_append] at hx
  rcases hx with ((hx | hx) | hx) | hx
  · unfold chStocks at hx
    obtain ⟨s, hs, rfl⟩ := List.mem_map.1 hx
    exact (hF.2.2.2.1 s (List.mem_filter.1 hs).1).2.2.1
  · unfold chHolds at hx
    obtain ⟨h, hh, hx⟩ := List.mem_flatMap.1 hx
    unfold chHold at hx
    split at hx
    · rcases List.mem_cons.1 hx with rfl | hx
      · exact i64_wrap _
      · split at hx
        · rw [List.mem_singleton.1 hx]
          exact (hF.2.2.2.2.1 h hh).2.2.2.1
        · cases hx
    · cases hx
  · unfold chComing at hx
    obtain ⟨r, hh, rfl⟩ := List.mem_map.1 hx
    exact (hr r (List.mem_filter.1 hh).1).2.1
  · cases hx
/-! ### from when on -/
theorem line_pos (f : Int → Int × Int) : ∀ (T : List Int) (acc : List S58), (∀ t ∈ T, 0 ≤ t) → (∀ x ∈ acc, 0 ≤ x.f0) → ∀ x ∈ (lineG f T acc).1, 0 ≤ x.f0
  | [], acc, _, h => h
  | t :: T, acc, hT, h => by
    rw [lineG]
    split
    · refine line_pos f T _ (fun y hy => hT y (by simp [hy])) (fun x hx => ?_)
      unfold pushG at hx
      split at hx
      · exact h x hx
      · rcases List.mem_append.1 hx with hx | hx
        · exact h x hx
        · rw [List.mem_singleton.1 hx]
          exact hT t (by simp)
    · intro x hx
      cases hx
theorem early_fold (s : List S58) (q : Int) (hp : ∀ x ∈ s, 0 ≤ x.f0) : ∀ k, k ≤ s.length → (s.take k).foldl (atStep q) (-1) = if backN s q k = k then -1 else (s.getD (backN s q k) z58).f0 := by
  intro k
  induction k with
  | zero => intro _; rfl
  | succ k ih =>
    intro hk
    have hlt : k < s.length := by omega
    have hI := ih (by omega)
    have hle := backN_le s q k
    have hg : s.getD k z58 = s[k] := by rw [List.getD_eq_getElem?_getD, List.getElem?_eq_getElem hlt]; rfl
    rw [take_snoc hlt, List.foldl_append, hI]
    show atStep q _ s[k] = _
    unfold atStep
    rw [backN, hg]
    by_cases c : s[k].f1 < q
    · rw [if_pos c, show (if q ≤ s[k].f1 then backN s q k else k + 1) = k + 1 from if_neg (by omega), if_pos rfl]
    · rw [if_neg c, show (if q ≤ s[k].f1 then backN s q k else k + 1) = backN s q k from if_pos (by omega), if_neg (show ¬ backN s q k = k + 1 by omega)]
      by_cases e : backN s q k = k
      · rw [if_pos e, if_pos (by omega), e, hg]
      · rw [if_neg e]
        have hb : backN s q k < s.length := by omega
        have h2 : s.getD (backN s q k) z58 = s[backN s q k] := by rw [List.getD_eq_getElem?_getD, List.getElem?_eq_getElem hb]; rfl
        have := hp _ (List.getElem_mem hb)
        rw [h2, if_neg (by omega)]
theorem early_eq (s : List S58) (q : Int) (hp : ∀ x ∈ s, 0 ≤ x.f0) : earlyF s q = rearlyF s q := by
  have h := early_fold s q hp s.length (Nat.le_refl _)
  rw [List.take_length] at h
  unfold earlyF rearlyF
  rw [h]
  by_cases e : backN s q s.length = s.length
  · rw [if_pos e, if_pos e, if_pos (by omega)]
  · have hle := backN_le s q s.length
    have hb : backN s q s.length < s.length := by omega
    have h2 : s.getD (backN s q s.length) z58 = s[backN s q s.length] := by rw [List.getD_eq_getElem?_getD, List.getElem?_eq_getElem hb]; rfl
    have := hp _ (List.getElem_mem hb)
    rw [if_neg e, if_neg e, h2, if_neg (by omega)]
theorem rline_pos {l0 : List S100} {l1 : List S107} {l2 : List S111} {ops : Int} {l3 : List S44} (hF : FewL l0 l1 l2) (hr : ∀ r ∈ l3, RecG r) (sku : ByteArray) : ∀ x ∈ (rlineA l0 l1 l2 ops l3 sku).1, 0 ≤ x.f0 := by
  unfold rlineA
  split
  · rename_i h
    have hg := good_of hF hr h.1 h.2
    exact line_pos _ _ _ (fun y hy => (all_range hg y ((timesR_mem l1 l3 [] y).1 hy)).1) (fun x hx => by cases hx)
  · intro x hx; cases hx
theorem earlyA_eq {l0 : List S100} {l1 : List S107} {l2 : List S111} {ops : Int} {l3 : List S44} (hF : FewL l0 l1 l2) (hr : ∀ r ∈ l3, RecG r) (sku : ByteArray) (q : Int) : earlyA ckB l0 l1 l2 ops l3 sku q = rearlyA l0 l1 l2 ops l3 sku q := by
  unfold earlyA rearlyA
  rw [lineA_eq hF hr sku, early_eq _ q (rline_pos hF hr sku)]
end Go.Proofs.Ytofkhcgkahkagaa
/- The laws PromiseLines and PromiseEarliest, walked over an awake that returns true. -/
namespace Go.Proofs.Ytofkhcgkahkagaa
open Go.RowKit Go.Proofs.YtofkhcgkahkagaaW.PrintWords Go.Proofs.YtofkhcgkahkagaaW.PrintLast Go.Proofs.YtofkhcgkahkagaaW.PrintMore Go.Proofs.Ytofkhcgkahkagaa.PPromiseLines
set_option linter.unusedVariables false
set_option linter.unusedSimpArgs false

/-- awake returns true, wherever it is called. -/
def AwakeLaw : Prop := ∀ w : World, Calls Try.prog 17 #[] w fun e w' => e = .returned (.bool true) ∧ Below w.heap.size w w'

section
variable (l0 : List S100) (l1 : List S107) (l2 : List S111) (A0 : Option Addr) (c0 : Nat) (A1 : Option Addr) (c1 : Nat) (A2 : Option Addr) (c2 : Nat) (ops : Int) (A3 : Option Addr) (c3 : Nat) (l3 : List S44) (sku : ByteArray) (qty time : Int) (w : World)

/-- The laws' two boxes. -/
structure LwW (V : World) : Prop where
  low : Below w.heap.size w V
  led : V.heap[w.heap.size]? = some (.cells #[.slice A0 l0.length c0, .slice A1 l1.length c1, .slice A2 l2.length c2, .int .i64 ops] 41 (0, 0))
  rcp : V.heap[w.heap.size + 1]? = some (.cells #[.string sku, .int .i64 qty, .int .i64 time] 44 (0, 0))
end
section
variable {l0 : List S100} {l1 : List S107} {l2 : List S111} {A0 : Option Addr} {c0 : Nat} {A1 : Option Addr} {c1 : Nat} {A2 : Option Addr} {c2 : Nat} {ops : Int} {sku : ByteArray} {qty time : Int} {w V V' : World}
theorem LwW.below (h : LwW l0 l1 l2 A0 c0 A1 c1 A2 c2 ops sku qty time w V) (hb : Below V.heap.size V V') : LwW l0 l1 l2 A0 c0 A1 c1 A2 c2 ops sku qty time w V' :=
  ⟨below_w h.low hb, (hb.block _ (blk_lt h.led)).trans h.led, (hb.block _ (blk_lt h.rcp)).trans h.rcp⟩
end
section
variable (l0 : List S100) (l1 : List S107) (l2 : List S111) (A0 : Option Addr) (c0 : Nat) (A1 : Option Addr) (c1 : Nat) (A2 : Option Addr) (c2 : Nat) (ops : Int) (A3 : Option Addr) (c3 : Nat) (l3 : List S44) (sku : ByteArray) (qty time : Int) (w : World)

end
end Go.Proofs.Ytofkhcgkahkagaa
/- What awake computes. -/
namespace Go.Proofs.Ytofkhcgkahkagaa
open Go.RowKit Go.Proofs.YtofkhcgkahkagaaW.PrintWords Go.Proofs.YtofkhcgkahkagaaW.PrintLast Go.Proofs.YtofkhcgkahkagaaW.PrintMore Go.Proofs.Ytofkhcgkahkagaa.PPromiseLines
set_option linter.unusedVariables false
set_option linter.unusedSimpArgs false

theorem ck_some : ckB sm0 sm1 sm2 2 = true := by
  rw [ckB_iff]
  refine ⟨by omega, fun j h => ?_, fun j h => ?_, fun j h => ?_, fun j h => ?_⟩
  · obtain rfl : j = 0 := by simp [sm0] at h; omega
    exact ⟨nS, nX, show (0 : Int) ≤ 3 by decide, show (3 : Int) ≤ 5 by decide, fun h => by omega⟩
  · obtain rfl : j = 0 := by simp [sm1] at h; omega
    exact ⟨⟨rfl, nS, nX, show (1 : Int) ≤ 3 by decide, show (0 : Int) ≤ 0 by decide, show (0 : Int) ≤ 2 by decide, show (0 : Int) ≤ 7 by decide⟩, fun _ => by simp [sm0, sm1, hoP, stP]⟩
  · obtain rfl : j = 0 := by simp [sm2] at h; omega
    exact ⟨⟨.inl ⟨.inl rfl, rfl⟩, rfl, nS, nX, show (5 : Int) ≠ 0 by decide⟩, by simp [sm0, sm2, moP, stP]⟩
  · obtain rfl : j = 0 := by simp [sm0] at h; omega
    exact ⟨by kernel_rfl, by kernel_rfl⟩
theorem few_some : FewL sm0 sm1 sm2 := by
  refine ⟨by simp [sm0], by simp [sm1], by simp [sm2], fun s h => ?_, fun s h => ?_, fun s h => ?_⟩
  · obtain rfl : s = ⟨kS, kX, 5, 3⟩ := by simpa [sm0] using h
    exact ⟨by decide, by decide, i64_small (by decide), i64_small (by decide)⟩
  · obtain rfl : s = ⟨1, kS, kX, 3, 0, 7⟩ := by simpa [sm1] using h
    exact ⟨i64_small (by decide), by decide, by decide, i64_small (by decide), i64_small (by decide), i64_small (by decide)⟩
  · obtain rfl : s = ⟨1, kS, kX, 5, 1, 0⟩ := by simpa [sm2] using h
    exact ⟨i64_small (by decide), by decide, by decide, i64_small (by decide), i64_small (by decide), i64_small (by decide)⟩
theorem rec_some : ∀ r ∈ ([⟨kS, 4, 3⟩] : List S44), RecG r := by
  intro r h
  obtain rfl : r = ⟨kS, 4, 3⟩ := by simpa using h
  exact ⟨by decide, i64_small (by decide), i64_small (by decide)⟩
theorem line_some : lineA ckB sm0 sm1 sm2 2 [⟨kS, 4, 3⟩] kS = ([⟨0, 2⟩, ⟨3, 6⟩, ⟨8, 9⟩], 0) := by
  rw [lineA_eq few_some rec_some]
  unfold rlineA
  rw [if_pos ⟨ck_some, by kernel_rfl⟩]
  kernel_rfl
theorem early_some : earlyA ckB sm0 sm1 sm2 2 [] kS 5 = (8, 0) := by
  rw [earlyA_eq few_some (fun r h => by cases h)]
  have h : rlineA sm0 sm1 sm2 2 [] kS = ([⟨0, 2⟩, ⟨8, 5⟩], 0) := by
    unfold rlineA
    rw [if_pos ⟨ck_some, by kernel_rfl⟩]
    kernel_rfl
  unfold rearlyA
  rw [h]
  show (if (5 : Int) < 0 then _ else _) = _
  rw [if_neg (by decide), if_neg (by decide)]
  kernel_rfl
end Go.Proofs.Ytofkhcgkahkagaa
/- awake returns true. -/
namespace Go.Proofs.Ytofkhcgkahkagaa
open Go.RowKit Go.Proofs.YtofkhcgkahkagaaW.PrintWords Go.Proofs.YtofkhcgkahkagaaW.PrintLast Go.Proofs.YtofkhcgkahkagaaW.PrintMore Go.Proofs.Ytofkhcgkahkagaa.PPromiseLines
set_option linter.unusedVariables false
set_option linter.unusedSimpArgs false

/-- A fresh row of one receipt. -/
theorem one_rec {W : World} {g : Nat} (s : ByteArray) (q t : Int) (h : W.heap[g]? = some (.cells #[.string s, .int .i64 q, .int .i64 t] 44 (0, 0))) : Kd.C k44 W (some ⟨g, 0, none⟩) 1 [⟨s, q, t⟩] := by
  refine ⟨rfl, by decide, fun _ => ⟨_, rfl, fun j p hp => ?_⟩⟩
  obtain rfl : j = 0 := by
    rcases j with _ | j
    · rfl
    · simp at hp
  obtain rfl : (⟨s, q, t⟩ : S44) = p := by simpa using hp
  refine ⟨[.string s, .int .i64 q, .int .i64 t], rfl, k44.K_of_M (k44_mkM W 0 (fun _ => False) ⟨s, q, t⟩), fun i u hu => ?_⟩
  have e : (⟨g, 0, none⟩ : Addr).add (0 * k44.sz + i) = ⟨g, i, none⟩ := by
    rw [Nat.zero_mul, Nat.zero_add]
    unfold Addr.add
    split
    · rename_i h0
      rw [h0]
    · simp
  rw [e, blk_cell h]
  rw [← hu]
  match i with
  | 0 => rfl
  | 1 => rfl
  | 2 => rfl
  | n + 3 => simp

set_option maxRecDepth 100000 in
set_option maxHeartbeats 2000000 in
theorem awake_law : AwakeLaw := by
  intro w
  have hu := Try.underlying41
  have hur := Try.underlying44
  have hus := Try.underlying58
  go_enter Try.func17, Try.ntmps17
  go_wp2_with fail
  refine (some_calls _).mono ?_
  rintro e W1 ⟨A0, c0, A1, c1, A2, c2, rfl, hL1, hb1⟩
  obtain ⟨W2, hW2⟩ : ∃ W2, W1.alloc (.cells #[.string ⟨#[115]⟩, .int .i64 4, .int .i64 3] 44) = W2 := ⟨_, rfl⟩
  have hb2 : Below W1.heap.size W1 W2 := by rw [← hW2]; exact (Below.refl _ _).alloc (Nat.le_refl _) _
  have hn : W2.heap[W1.heap.size]? = some (.cells #[.string ⟨#[115]⟩, .int .i64 4, .int .i64 3] 44 (0, 0)) := by rw [← hW2]; exact blk_new _ _
  have hline := line_api ckB check_law sm0 sm1 sm2 A0 c0 A1 c1 A2 c2 2 (some ⟨W1.heap.size, 0, none⟩) 1 [⟨kS, 4, 3⟩] kS W2 (hL1.below hb2) few_some (one_rec kS 4 3 hn) (Nat.le_refl _) (by simp) (told_64 few_some rec_some kS)
  rw [line_some] at hline
  go_wp2_with fail
  refine Calls.mono hline ?_
  clear hline hW2
  rintro e W3 ⟨A, c, rfl, hR3, hb3⟩
  have hC3 := (Kd.R_reads' hR3).2.2
  change Kd.C k58 W3 A 3 [⟨0, 2⟩, ⟨3, 6⟩, ⟨8, 9⟩] at hC3
  go_wp2_with fail
  refine (some_calls _).mono ?_
  rintro e W4 ⟨B0, d0, B1, d1, B2, d2, rfl, hL4, hb4⟩
  have hearly := early_api ckB check_law sm0 sm1 sm2 B0 d0 B1 d1 B2 d2 2 none 0 [] kS 5 W4 hL4 few_some (Kd.C_nil _ _) (Nat.le_refl _) (by simp) (told_64 few_some (fun r h => by cases h) kS)
  rw [early_some] at hearly
  go_wp2_with fail
  refine Calls.mono hearly ?_
  clear hearly
  rintro e W5 ⟨rfl, hb5⟩
  have hC5 := Kd.C_below (Kd.C_below hC3 hb4) hb5
  obtain ⟨ad, rfl, x0, x1⟩ := at_T58 hC5 0 (by omega) (by omega)
  obtain ⟨ad', e1, y0, y1⟩ := at_T58 hC5 1 (by omega) (by omega)
  obtain rfl := Option.some.inj e1
  obtain ⟨ad', e1, z0, z1⟩ := at_T58 hC5 2 (by omega) (by omega)
  obtain rfl := Option.some.inj e1
  simp [rd_T58] at x0 x1 y0 y1 z0 z1
  rw [Addr.add_zero'] at x0 x1
  have y0' : W5.cell? ⟨ad.block, ad.off + 2, none⟩ = some (.int .i64 3) := y0
  have y1' : W5.cell? ⟨ad.block, ad.off + 2 + 1, none⟩ = some (.int .i64 6) := y1
  have z0' : W5.cell? ⟨ad.block, ad.off + 4, none⟩ = some (.int .i64 8) := z0
  have z1' : W5.cell? ⟨ad.block, ad.off + 4 + 1, none⟩ = some (.int .i64 9) := z1
  clear hC3 hC5 hR3 y0 y1 z0 z1
  go_wp2
  go_ret
  exact ⟨rfl, below_w (below_w (below_w (below_w hb1 hb2) hb3) hb4) hb5⟩
end Go.Proofs.Ytofkhcgkahkagaa
/- PromiseKeeps, walked. -/
namespace Go.Proofs.Ytofkhcgkahkagaa
open Go.RowKit Go.Proofs.YtofkhcgkahkagaaW.PrintWords Go.Proofs.YtofkhcgkahkagaaW.PrintLast Go.Proofs.YtofkhcgkahkagaaW.PrintMore Go.Proofs.Ytofkhcgkahkagaa.PPromiseLines
attribute [local go_sem] max2_int min2_int
set_option linter.unusedVariables false
set_option linter.unusedSimpArgs false

def kA : ByteArray := ⟨#[97]⟩
theorem and31 (n : Int) : bits .and .i64 n 31 = n % 32 := by
  have h31 : (BitVec.ofInt 64 31).toNat = 2 ^ 5 - 1 := by decide
  have key : (BitVec.ofInt 64 n &&& BitVec.ofInt 64 31).toNat = (n % ((2 ^ 64 : Nat) : Int)).toNat % 2 ^ 5 := by
    rw [BitVec.toNat_and, BitVec.toNat_ofInt, h31, Nat.and_two_pow_sub_one_eq_mod]
  show IntKind.i64.wrap ((BitVec.ofInt 64 n &&& BitVec.ofInt 64 31).toNat : Nat) = n % 32
  rw [key, IntKind.wrap_i64]
  omega
section
variable (os : List Opr) (S : Option Addr) (c : Nat) (A3 : Option Addr) (c3 : Nat) (l3 : List S44) (qty : Int) (w : World)
set_option maxRecDepth 100000 in
set_option maxHeartbeats 4000000 in
theorem keeps_calls (hC : Kd.C k88 w S os.length os) (hG : ∀ o ∈ os, OprG o) (hmaxo : os.length ≤ 9223372036854775807) (hC3 : Kd.C k44 w A3 l3.length l3) (hc3 : l3.length ≤ c3) (hr3 : ∀ r ∈ l3, RecG r) (hqty : i64B qty) :
    Calls Try.prog 6 #[.slice S os.length c, .slice A3 l3.length c3, .int .i64 qty] w fun e w' => e = .returned (.bool true) ∧ Below w.heap.size w w' := by
  have hu := Try.underlying41
  have hur := Try.underlying44
  have hus := Try.underlying58
  obtain ⟨b2, hb2, hL2⟩ := light_law l3
  have haw := awake_law
  unfold AwakeLaw at haw
  have HAW := Lib.hid haw
  clear haw
  have hplay := play_calls os S c w hC hG hmaxo
  go_enter Try.func6, Try.ntmps6
  go_wp2_with fail
  refine hplay.mono ?_
  clear hplay
  rintro e W1 ⟨b, m0, m1, m2, nn, B0, d0, B1, d1, B2, d2, rfl, hL1, hb1, hI, s0, s1, s2, t0, t1⟩
  obtain ⟨W2, hW2⟩ : ∃ W2, W1.alloc (.cells #[.slice B0 m0.length d0, .slice B1 m1.length d1, .slice B2 m2.length d2, .int .i64 nn] 41) = W2 := ⟨_, rfl⟩
  have hb12 : Below W1.heap.size W1 W2 := by rw [← hW2]; exact (Below.refl _ _).alloc (Nat.le_refl _) _
  have g2 : W2.heap[W1.heap.size]? = some (.cells #[.slice B0 m0.length d0, .slice B1 m1.length d1, .slice B2 m2.length d2, .int .i64 nn] 41 (0, 0)) := by rw [← hW2]; exact blk_new _ _
  have hB2 := below_w hb1 hb12
  have hL2' := hL1.below hb12
  have hF : FewL m0 m1 m2 := hI.few (by omega) (by omega) (by omega)
  have hck : ckB m0 m1 m2 nn = true := hI.ck t0
  have HI := Lib.hid (And.intro hI (And.intro hF hck))
  clear hI hF hck s0 s1 s2 t0 t1 hL1
  cases b with
  | false =>
    go_wp2_with fail
    refine (HAW.out _).mono ?_
    rintro e w3 ⟨rfl, hB3⟩
    go_wp2
    go_ret
    exact ⟨rfl, below_w hB2 hB3⟩
  | true =>
    have hlight2 := quaysidelaw33_light.calls 100 A3 c3 l3 b2 W2 (Kd.C_below hC3 hB2) hc3 hb2
    go_wp2_with fail
    refine hlight2.mono ?_
    clear hlight2 hW2
    rintro e W3 ⟨rfl, hdr⟩
    have g3 := blk_below g2 hdr.below
    have hB3 := below_w hB2 hdr.below
    have hL3 := hL2'.below hdr.below
    clear g2 hB2 hL2' hdr hb12 hb1
    cases b2 with
    | false =>
      go_wp2_with fail
      refine (HAW.out _).mono ?_
      rintro e w3 ⟨rfl, hB4⟩
      go_wp2
      go_ret
      exact ⟨rfl, below_w hB3 hB4⟩
    | true =>
      have h20 := hL2 rfl
      clear hL2 hb2
      have hmay := quaysideref33_May.calls 1000 A3 c3 l3 (mayB l3) W3 (Kd.C_below hC3 hB3) hc3 (rmayR_law l3 h20)
      cases hm : mayB l3 with
      | false =>
        rw [hm] at hmay
        clear hm
        go_wp2_with fail
        refine hmay.mono ?_
        clear hmay
        rintro e W4 ⟨rfl, hdr⟩
        have hB4 := below_w hB3 hdr.below
        clear hdr
        go_wp2_with fail
        refine (HAW.out _).mono ?_
        rintro e w3 ⟨rfl, hB5⟩
        go_wp2
        go_ret
        exact ⟨rfl, below_w hB4 hB5⟩
      | true =>
        rw [hm] at hmay
        have HM := Lib.hid hm
        clear hm
        go_wp2_with fail
        refine hmay.mono ?_
        clear hmay
        rintro e W4 ⟨rfl, hdr⟩
        have g4 := blk_below g3 hdr.below
        have hB4 := below_w hB3 hdr.below
        have hL4 := hL3.below hdr.below
        have hlt4 : W1.heap.size < W4.heap.size := blk_lt g4
        clear hdr g3 hB3 hL3
        obtain ⟨P, hP⟩ : ∃ P, P = W1.heap.size := ⟨_, rfl⟩
        rw [← hP] at g4 hlt4 ⊢
        clear hP
        have ht64 := told_64 HI.out.2.1 hr3 kA
        have hd0 : W4.cell? ⟨P, 0, none⟩ = some (.slice B0 m0.length d0) := (blk_cell g4 0).trans rfl
        have hd1 : W4.cell? ⟨P, 1, none⟩ = some (.slice B1 m1.length d1) := (blk_cell g4 1).trans rfl
        have hd2 : W4.cell? ⟨P, 2, none⟩ = some (.slice B2 m2.length d2) := (blk_cell g4 2).trans rfl
        have hd3 : W4.cell? ⟨P, 3, none⟩ = some (.int .i64 nn) := (blk_cell g4 3).trans rfl
        have hcall := line_api ckB check_law m0 m1 m2 B0 d0 B1 d1 B2 d2 nn A3 c3 l3 kA W4 hL4 HI.out.2.1 (Kd.C_below hC3 hB4) hc3 h20 ht64
        unfold lineA at hcall
        rw [if_pos ⟨HI.out.2.2, HM.out⟩] at hcall
        unfold kA at hcall
        go_wp2_with fail
        refine hcall.mono ?_
        clear hcall hd0 hd1 hd2 hd3
        rintro e W5 ⟨Av, cv, rfl, hR5, hb5⟩
        have hS5 := (Kd.R_reads' hR5).2.2
        have g5 := blk_below g4 hb5
        have hB5 := below_w hB4 hb5
        have hL5 := hL4.below hb5
        clear hR5 hb5 g4 hB4 hL4 hlt4
        have hXp : ∀ x ∈ (toldF m0 m1 l3 [] kA).map (fun x => x.1), (0 : Int) ≤ x := fun x hx => ((all_range (good_of HI.out.2.1 hr3 HI.out.2.2 HM.out)) x (told_times (good_of HI.out.2.1 hr3 HI.out.2.2 HM.out) kA x hx)).1
        have hXm : ∀ x ∈ (toldF m0 m1 l3 [] kA).map (fun x => x.1), x ≤ 9223372036854775807 := fun x hx => ((all_range (good_of HI.out.2.1 hr3 HI.out.2.2 HM.out)) x (told_times (good_of HI.out.2.1 hr3 HI.out.2.2 HM.out) kA x hx)).2
        change Kd.C k58 W5 Av (lineF (toldF m0 m1 l3 [] kA)).1.length (lineF (toldF m0 m1 l3 [] kA)).1 at hS5
        have hline : (lineF (toldF m0 m1 l3 [] kA)).2 = 0 → LineP (toldF m0 m1 l3 [] kA) (lineF (toldF m0 m1 l3 [] kA)).1 := fun h => line_law h hXp
        have her := line_er (toldF m0 m1 l3 [] kA)
        obtain ⟨Y, hY⟩ : ∃ Y, lineF (toldF m0 m1 l3 [] kA) = Y := ⟨_, rfl⟩
        rw [show (⟨#[97]⟩ : ByteArray) = kA from rfl, hY]
        rw [hY] at hS5 hline her
        obtain ⟨s, er⟩ := Y
        dsimp only at hS5 hline her ⊢
        obtain ⟨X, hX⟩ : ∃ X, toldF m0 m1 l3 [] kA = X := ⟨_, rfl⟩
        rw [hX] at hline hXm hXp hY ht64
        have HY := hY
        have HY := Lib.hid HY
        have HX := Lib.hid (And.intro hX hXm)
        have HXp := Lib.hid hXp
        clear hXp hXm hX hY
        rcases her with rfl | rfl
        · have hP := hline rfl
          have HYY := Lib.hid (show lineF X = (s, 0) from HY.out)
          clear hline
          have hpos : 0 < s.length := hP.pos
          have hmax := hS5.2.1
          have HP := Lib.hid hP
          clear hP
          obtain ⟨a0, ha0, z0, z1⟩ := at_T58 hS5 0 (by omega) (by omega)
          cases ha0
          have hrd : ∀ i (h : i < s.length), rd_T58 s (i : Int) = s[i] := fun i h => rd_St h
          have hr0 : rd_T58 s 0 = s[0] := hrd 0 hpos
          rw [show a0.add (Int.toNat 0 * 2) = a0 from rfl, hr0, HP.out.zero hpos] at z0
          have hpos1 : ((s.length : Int) == 0) = false := beq_eq_false_iff_ne.2 (by omega)
          have hpos2 : (0 : Int) < (s.length : Int) := by omega
          have h64 : ∀ i (h : i < s.length), 0 ≤ s[i].f0 ∧ s[i].f0 ≤ 9223372036854775807 := fun i h => by
            rcases HP.out.mem i h with e | e
            · omega
            · have := HX.out.2 _ e
              have := HXp.out _ e
              omega
          have H64 := Lib.hid h64
          clear z1 hr0 h64
          go_wp2
          go_loopw [12] (fun i wr => ∃ k : Nat, k ≤ s.length ∧ i = .int .i64 k ∧ Below W5.heap.size W5 wr)
            (fun i _ => s.length - (intOf i).toNat)
          case atStart => exact ⟨0, Nat.zero_le _, rfl, Below.refl _ _⟩
          case round =>
            obtain ⟨k, hk, rfl, hbw⟩ := hrel
            have hg := blk_below g5 hbw
            have hlow := below_w hB5 hbw
            have hLw := hL5.below hbw
            by_cases hlt : k < s.length
            · have hd : decide ((k : Int) < (s.length : Int)) = true := decide_eq_true (by omega)
              have hk1 : (k : Int) < (s.length : Int) := by omega
              have hk2 : (0 : Int) ≤ (k : Int) := Int.natCast_nonneg _
              obtain ⟨a1, ha1, x0, x1⟩ := at_T58 hS5 (k : Int) (by omega) (by omega)
              cases ha1
              rw [Int.toNat_natCast, hrd k hlt] at x0 x1
              have v1 := HP.out.val k hlt
              have hx64 := H64.out k hlt
              have HK := Lib.hid (show ∀ j (hj : j + 1 = k), s[j].f0 < s[k].f0 ∧ s[j].f1 ≠ s[k].f1 ∧ sumAt X (s[k].f0 - 1) = (s[j].f1, 0) from fun j hj => by
                subst hj
                exact ⟨HP.out.up j (j + 1) hlt (by omega), HP.out.ne j hlt, HP.out.back j hlt⟩)
              obtain ⟨x, hx⟩ : ∃ x, s[k] = x := ⟨_, rfl⟩
              rw [hx] at x0 x1 v1 hx64 HK
              have hd0 : wr.cell? ⟨P, 0, none⟩ = some (.slice B0 m0.length d0) := (blk_cell hg 0).trans rfl
              have hd1 : wr.cell? ⟨P, 1, none⟩ = some (.slice B1 m1.length d1) := (blk_cell hg 1).trans rfl
              have hd2 : wr.cell? ⟨P, 2, none⟩ = some (.slice B2 m2.length d2) := (blk_cell hg 2).trans rfl
              have hd3 : wr.cell? ⟨P, 3, none⟩ = some (.int .i64 nn) := (blk_cell hg 3).trans rfl
              have y0 := cell_below hbw x0
              have y1 := cell_below hbw x1
              clear hx
              have hAt : ∀ (t v : Int), 0 ≤ t → sumAt X t = (v, 0) → atA ckB m0 m1 m2 nn l3 kA t = (v, 0) := fun t v ht hv => by
                unfold atA
                rw [if_pos ⟨HI.out.2.2, HM.out, ht⟩, HX.out.1]
                exact hv
              have hcall := fun V (hV : Below wr.heap.size wr V) => at_api ckB check_law m0 m1 m2 B0 d0 B1 d1 B2 d2 nn A3 c3 l3 kA x.f0 V (hLw.below hV) HI.out.2.1 (Kd.C_below hC3 (below_w hlow hV)) hc3 h20 (by rw [HX.out.1]; exact ht64)
              rw [hAt x.f0 x.f1 hx64.1 v1] at hcall
              unfold kA at hcall
              have HAt := Lib.hid hAt
              clear hAt
              go_wp2
              clear hd0 hd1 hd2 hd3 y0 y1
              have hd0x : wr.cell? ⟨P, 0, none⟩ = some (.slice B0 m0.length d0) := (blk_cell hg 0).trans rfl
              have hd1x : wr.cell? ⟨P, 1, none⟩ = some (.slice B1 m1.length d1) := (blk_cell hg 1).trans rfl
              have hd2x : wr.cell? ⟨P, 2, none⟩ = some (.slice B2 m2.length d2) := (blk_cell hg 2).trans rfl
              have hd3x : wr.cell? ⟨P, 3, none⟩ = some (.int .i64 nn) := (blk_cell hg 3).trans rfl
              have y0x : wr.cell? (a0.add (k * 2)) = some (.int .i64 x.f0) := cell_below hbw x0
              have HF := Lib.hid hcall
              clear hcall
              go_region_held3 (fun V => V.cell? ⟨P, 0, none⟩ = some (.slice B0 m0.length d0) ∧ V.cell? ⟨P, 1, none⟩ = some (.slice B1 m1.length d1) ∧ V.cell? ⟨P, 2, none⟩ = some (.slice B2 m2.length d2) ∧ V.cell? ⟨P, 3, none⟩ = some (.int .i64 nn) ∧ V.cell? (a0.add (k * 2)) = some (.int .i64 x.f0))
                (first | assumption | exact ⟨cell_below (below_drew (Below.refl _ _)) hd0x, cell_below (below_drew (Below.refl _ _)) hd1x, cell_below (below_drew (Below.refl _ _)) hd2x, cell_below (below_drew (Below.refl _ _)) hd3x, cell_below (below_drew (Below.refl _ _)) y0x⟩ | exact ⟨cell_below hbw2 hd0x, cell_below hbw2 hd1x, cell_below hbw2 hd2x, cell_below hbw2 hd3x, cell_below hbw2 y0x⟩)
                (first | (go_at_call 22; refine (HF.out _ (below_drew (Below.refl _ _))).mono ?_; rintro e w' ⟨rfl, hbn⟩; have hbw2 : Below wr.heap.size wr w' := below_chain (below_drew (Below.refl _ _)) hbn))
              clear hd0x hd1x hd2x hd3x y0x HF
              go_split_ands
              have hbw3 := below_chain hbw hbw2
              have y0 := cell_below hbw3 x0
              have y1 := cell_below hbw3 x1
              have e1 : (x.f1 != x.f1) = false := by simp
              by_cases hk0 : k = 0
              · have hkb : decide ((0 : Int) < (k : Int)) = false := decide_eq_false (by omega)
                have hkc : decide (0 < k) = false := decide_eq_false (by omega)
                have HK0 := Lib.hid hk0
                clear hk0 x0 x1
                go_wp2
                refine wp_region_still_lit (by kernel_rfl) (by kernel_rfl) ?_
                repeat (first | ((with_reducible refine wpStill_step (fun K hK => ?_)); rw [if_pos (by rfl)]; go_simp; (with_reducible refine hK _ ?_); clear hK K) | (with_reducible refine wpStill_unwanted (by with_unfolding_all rfl) ?_; simp only [Act.put, List.setIfInBounds_toArray, List.set_cons_zero, List.set_cons_succ]))
                refine wpStill_nil ?_
                have hbw6 := below_chain hbw3 (below_drew (Below.refl _ w'))
                go_wp2
                exact ⟨⟨k + 1, by omega, by simp, hbw6⟩, by simp [intOf]; omega⟩
              · have hkb : decide ((0 : Int) < (k : Int)) = true := decide_eq_true (by omega)
                have hkc : decide (0 < k) = true := decide_eq_true (by omega)
                obtain ⟨j, hj⟩ : ∃ j, j + 1 = k := ⟨k - 1, by omega⟩
                obtain ⟨q1, q2, q3⟩ := HK.out j hj
                have hjl : j < s.length := by omega
                obtain ⟨a1, ha1, u0, u1⟩ := at_T58 hS5 (j : Int) (by omega) (by omega)
                cases ha1
                rw [Int.toNat_natCast, hrd j hjl] at u0 u1
                have hu64 := H64.out j hjl
                obtain ⟨u, hu4⟩ : ∃ u, s[j] = u := ⟨_, rfl⟩
                rw [hu4] at u0 u1 q1 q2 q3 hu64
                clear hu4 HK
                have r0 := cell_below hbw3 u0
                have r1 := cell_below hbw3 u1
                have hw1 : wrap64 ((k : Int) - 1) = (j : Int) := by unfold wrap64; omega
                have hw2 : wrap64 (x.f0 - 1) = x.f0 - 1 := by unfold wrap64; omega
                have hw1b : IntKind.i64.wrap ((k : Int) - 1) = (j : Int) := by rw [IntKind.wrap_i64]; omega
                have hw2b : IntKind.i64.wrap (x.f0 - 1) = x.f0 - 1 := by rw [IntKind.wrap_i64]; omega
                have hj1 : (j : Int) < (s.length : Int) := by omega
                have hj2 : (0 : Int) ≤ (j : Int) := Int.natCast_nonneg _
                have e2 : decide (x.f0 ≤ u.f0) = false := decide_eq_false (by omega)
                have e3 : (x.f1 == u.f1) = false := beq_eq_false_iff_ne.2 (fun e => q2 e.symm)
                have e4 : (u.f1 != u.f1) = false := by simp
                have hcall := fun V (hV : Below wr.heap.size wr V) => at_api ckB check_law m0 m1 m2 B0 d0 B1 d1 B2 d2 nn A3 c3 l3 kA (x.f0 - 1) V (hLw.below hV) HI.out.2.1 (Kd.C_below hC3 (below_w hlow hV)) hc3 h20 (by rw [HX.out.1]; exact ht64)
                rw [HAt.out (x.f0 - 1) u.f1 (by omega) q3] at hcall
                unfold kA at hcall
                have HF := Lib.hid hcall
                have HJ := Lib.hid hj
                clear hcall hk0 hj q1 q2 q3
                have hg2 := blk_below hg hbw2
                have hd0 : w'.cell? ⟨P, 0, none⟩ = some (.slice B0 m0.length d0) := (blk_cell hg2 0).trans rfl
                have hd1 : w'.cell? ⟨P, 1, none⟩ = some (.slice B1 m1.length d1) := (blk_cell hg2 1).trans rfl
                have hd2 : w'.cell? ⟨P, 2, none⟩ = some (.slice B2 m2.length d2) := (blk_cell hg2 2).trans rfl
                have hd3 : w'.cell? ⟨P, 3, none⟩ = some (.int .i64 nn) := (blk_cell hg2 3).trans rfl
                go_wp2
                refine wp_region_still_lit (by kernel_rfl) (by kernel_rfl) ?_
                repeat (first | ((with_reducible refine wpStill_step (fun K hK => ?_)); rw [if_pos (by rfl)]; go_simp; (with_reducible refine hK _ ?_); clear hK K) | (with_reducible refine wpStill_unwanted (by with_unfolding_all rfl) ?_; simp only [Act.put, List.setIfInBounds_toArray, List.set_cons_zero, List.set_cons_succ]))
                refine wpStill_nil ?_
                go_wp2
                clear hd0 hd1 hd2 hd3 y0 y1 r0 r1
                obtain ⟨w6, hw6⟩ : ∃ w6, World.drew w' = w6 := ⟨_, rfl⟩
                have hbd : Below w'.heap.size w' w6 := by rw [← hw6]; exact below_drew (Below.refl _ _)
                rw [hw6]
                clear hw6
                have hg6 := blk_below hg2 hbd
                have hbw6 := below_chain hbw3 hbd
                have hd0x : w6.cell? ⟨P, 0, none⟩ = some (.slice B0 m0.length d0) := (blk_cell hg6 0).trans rfl
                have hd1x : w6.cell? ⟨P, 1, none⟩ = some (.slice B1 m1.length d1) := (blk_cell hg6 1).trans rfl
                have hd2x : w6.cell? ⟨P, 2, none⟩ = some (.slice B2 m2.length d2) := (blk_cell hg6 2).trans rfl
                have hd3x : w6.cell? ⟨P, 3, none⟩ = some (.int .i64 nn) := (blk_cell hg6 3).trans rfl
                have y0x : w6.cell? (a0.add (k * 2)) = some (.int .i64 x.f0) := cell_below hbw6 x0
                go_region_held3 (fun V => V.cell? ⟨P, 0, none⟩ = some (.slice B0 m0.length d0) ∧ V.cell? ⟨P, 1, none⟩ = some (.slice B1 m1.length d1) ∧ V.cell? ⟨P, 2, none⟩ = some (.slice B2 m2.length d2) ∧ V.cell? ⟨P, 3, none⟩ = some (.int .i64 nn) ∧ V.cell? (a0.add (k * 2)) = some (.int .i64 x.f0))
                  (first | assumption | exact ⟨cell_below (below_drew (Below.refl _ _)) hd0x, cell_below (below_drew (Below.refl _ _)) hd1x, cell_below (below_drew (Below.refl _ _)) hd2x, cell_below (below_drew (Below.refl _ _)) hd3x, cell_below (below_drew (Below.refl _ _)) y0x⟩ | exact ⟨cell_below hbw4 hd0x, cell_below hbw4 hd1x, cell_below hbw4 hd2x, cell_below hbw4 hd3x, cell_below hbw4 y0x⟩)
                  (first | (go_at_call 22; refine (HF.out _ (below_chain (below_chain hbw2 hbd) (below_drew (Below.refl _ _)))).mono ?_; rintro e w9 ⟨rfl, hbn2⟩; have hbw4 : Below w6.heap.size w6 w9 := below_chain (below_drew (Below.refl _ _)) hbn2))
                clear hd0x hd1x hd2x hd3x y0x HF
                go_split_ands
                have hbw5 := below_chain hbw6 hbw4
                have r0 := cell_below hbw5 u0
                have r1 := cell_below hbw5 u1
                clear x0 x1 u0 u1
                go_wp2
                exact ⟨⟨k + 1, by omega, by simp, hbw5⟩, by simp [intOf]; omega⟩
            · have hd : decide ((k : Int) < (s.length : Int)) = false := decide_eq_false (by omega)
              have hd9 : decide (k < s.length) = false := decide_eq_false (by omega)
              clear hk hlt
              have hd0 : wr.cell? ⟨P, 0, none⟩ = some (.slice B0 m0.length d0) := (blk_cell hg 0).trans rfl
              have hd1 : wr.cell? ⟨P, 1, none⟩ = some (.slice B1 m1.length d1) := (blk_cell hg 1).trans rfl
              have hd2 : wr.cell? ⟨P, 2, none⟩ = some (.slice B2 m2.length d2) := (blk_cell hg 2).trans rfl
              have hd3 : wr.cell? ⟨P, 3, none⟩ = some (.int .i64 nn) := (blk_cell hg 3).trans rfl
              obtain ⟨Q, hQ⟩ : ∃ Q, bits .and .i64 qty 31 = Q := ⟨_, rfl⟩
              have hQ1 : 0 ≤ Q ∧ Q ≤ 31 := by rw [← hQ, and31]; omega
              have hcall := early_api ckB check_law m0 m1 m2 B0 d0 B1 d1 B2 d2 nn A3 c3 l3 kA Q wr hLw HI.out.2.1 (Kd.C_below hC3 hlow) hc3 h20 (by rw [HX.out.1]; exact ht64)
              have hea : earlyA ckB m0 m1 m2 nn l3 kA Q = earlyF s Q := by
                have hla : lineA ckB m0 m1 m2 nn l3 kA = (s, 0) := by
                  unfold lineA
                  rw [if_pos ⟨HI.out.2.2, HM.out⟩, HX.out.1]
                  exact HYY.out
                unfold earlyA
                rw [hla, if_neg (by omega), if_neg (by simp)]
              rw [hea] at hcall
              clear hea
              have hlaw := early_law hpos Q
              have HQ := Lib.hid hQ1
              clear hQ1
              go_wp2_with fail
              refine hcall.mono ?_
              clear hcall hd0 hd1 hd2 hd3 hQ
              obtain ⟨n, hn⟩ : ∃ n, n + 1 = s.length := ⟨s.length - 1, by omega⟩
              have hn1 : n < s.length := by omega
              have hn2 : (n : Int) < (s.length : Int) := by omega
              have hn3 : (0 : Int) ≤ (n : Int) := Int.natCast_nonneg _
              obtain ⟨a1, ha1, x0, x1⟩ := at_T58 hS5 (n : Int) (by omega) (by omega)
              cases ha1
              rw [Int.toNat_natCast, hrd n hn1] at x0 x1
              have hw1 : wrap64 ((s.length : Int) - 1) = (n : Int) := by unfold wrap64; omega
              have hw1b : IntKind.i64.wrap ((s.length : Int) - 1) = (n : Int) := by rw [IntKind.wrap_i64]; omega
              rcases hlaw with ⟨he, hle⟩ | ⟨k2, hk2, he, hge⟩
              · rw [he]
                dsimp only
                rintro e w6 ⟨rfl, hb6⟩
                have hlow6 := below_w hlow hb6
                have hle2 : decide (s[n].f1 < Q) = true := decide_eq_true (by simpa only [← hn, Nat.add_sub_cancel] using hle)
                have hbw6 := below_chain hbw hb6
                have y1 := cell_below hbw6 x1
                obtain ⟨v, hv⟩ : ∃ v, s[n].f1 = v := ⟨_, rfl⟩
                rw [hv] at x1 y1 hle2
                clear hv hle he
                go_wp2_with fail
                refine (HAW.out _).mono ?_
                rintro e w7 ⟨rfl, hB7⟩
                go_wp2
                go_ret
                exact ⟨rfl, below_w hlow6 hB7⟩
              · rw [he]
                dsimp only
                rintro e w6 ⟨rfl, hb6⟩
                have hlow6 := below_w hlow hb6
                have hbw6 := below_chain hbw hb6
                have hg6 := blk_below hg hb6
                have hL6 := hLw.below hb6
                have hk64 := H64.out k2 hk2
                have htk := taken_line HP.out hk2 HQ.out (m := max 1 Q) (by have := HQ.out; omega) hge
                have hq2 : i64B (max 1 Q) := by have := HQ.out; unfold i64B; omega
                have hwm : wrap64 (-(max 1 Q)) = -(max 1 Q) := by have := HQ.out; unfold wrap64; omega
                obtain ⟨mx, hmx⟩ : ∃ mx, max 1 Q = mx := ⟨_, rfl⟩
                obtain ⟨at_, hat⟩ : ∃ t, s[k2].f0 = t := ⟨_, rfl⟩
                rw [hmx] at htk hq2 hwm
                rw [hat] at htk hk64 ⊢
                obtain ⟨W7, hW7⟩ : ∃ W7, w6.alloc (.cells #[.string kA, .int .i64 mx, .int .i64 at_] 44) = W7 := ⟨_, rfl⟩
                have hb7 : Below w6.heap.size w6 W7 := by rw [← hW7]; exact (Below.refl _ _).alloc (Nat.le_refl _) _
                have hn7 : W7.heap[w6.heap.size]? = some (.cells #[.string kA, .int .i64 mx, .int .i64 at_] 44 (0, 0)) := by rw [← hW7]; exact blk_new _ _
                have hlow7 := below_w hlow6 hb7
                have hbw7 := below_chain hbw6 hb7
                have hg7 := blk_below hg6 hb7
                have hr4 : ∀ r ∈ ([⟨kA, mx, at_⟩] : List S44), RecG r := fun r hr => by
                  rw [List.mem_singleton.1 hr]
                  exact ⟨show kA.size ≤ maxLen from by decide, hq2, show i64B at_ from by unfold i64B; omega⟩
                have hm4 : mayB [⟨kA, mx, at_⟩] = true := by
                  have h1 : 1 ≤ mx := by have := HQ.out; omega
                  have h2 := hk64.1
                  unfold mayB recB
                  simp [h1, h2]
                  decide
                have hcall := short_api ckB check_law m0 m1 m2 B0 d0 B1 d1 B2 d2 nn A3 c3 l3 (some ⟨w6.heap.size, 0, none⟩) 1 [⟨kA, mx, at_⟩] W7 (hL6.below hb7) HI.out.2.1 (Kd.C_below hC3 hlow7) hc3 h20 (one_rec kA mx at_ hn7) (Nat.le_refl _) (by simp) hr4 (fun sku => told_64T HI.out.2.1 hr3 sku)
                have hd0 : W7.cell? ⟨P, 0, none⟩ = some (.slice B0 m0.length d0) := (blk_cell hg7 0).trans rfl
                have hd1 : W7.cell? ⟨P, 1, none⟩ = some (.slice B1 m1.length d1) := (blk_cell hg7 1).trans rfl
                have hd2 : W7.cell? ⟨P, 2, none⟩ = some (.slice B2 m2.length d2) := (blk_cell hg7 2).trans rfl
                have hd3 : W7.cell? ⟨P, 3, none⟩ = some (.int .i64 nn) := (blk_cell hg7 3).trans rfl
                have he0 : w6.cell? ⟨P, 0, none⟩ = some (.slice B0 m0.length d0) := (blk_cell hg6 0).trans rfl
                have he1 : w6.cell? ⟨P, 1, none⟩ = some (.slice B1 m1.length d1) := (blk_cell hg6 1).trans rfl
                have he2 : w6.cell? ⟨P, 2, none⟩ = some (.slice B2 m2.length d2) := (blk_cell hg6 2).trans rfl
                have he3 : w6.cell? ⟨P, 3, none⟩ = some (.int .i64 nn) := (blk_cell hg6 3).trans rfl
                have HT := Lib.hid (And.intro htk (And.intro hwm (And.intro hm4 hat)))
                have HMX := Lib.hid hmx
                have HGE := Lib.hid hge
                clear htk hwm hm4 hat hge he hq2 hr4
                go_wp2_with fail
                refine hcall.mono ?_
                clear hcall hd0 hd1 hd2 hd3 he0 he1 he2 he3 hW7
                rintro e w8 ⟨Ax, cx, xs, er, rfl, hCx, hb8, hxl, hgood, hbad⟩
                have hsh := hgood ⟨HI.out.2.2, HM.out, HT.out.2.2.1⟩
                clear hgood hbad hCx
                have hlow8 := below_w hlow7 hb8
                have hbw8 := below_chain hbw7 hb8
                have hFX : lineF (toldF m0 m1 l3 [⟨kA, mx, at_⟩] kA) = lineF (X ++ [(at_, -mx)]) := by
                  have : toldF m0 m1 l3 [⟨kA, mx, at_⟩] kA = toldF m0 m1 l3 [] kA ++ [(at_, wrap64 (-mx))] := by
                    unfold toldF chTaken
                    simp
                  rw [this, HX.out.1, HT.out.2.1]
                obtain ⟨rfl, hxs⟩ : er = 0 ∧ ((0 : Int) < (xs.length : Int) ↔ negS (lineF (X ++ [(at_, -mx)])).1 = true) := by
                  rcases hsh with ⟨pre, r, post, h1, h2, h3, h4, h5⟩ | ⟨h1, h2, h3, h4⟩
                  · have hr : r = ⟨kA, mx, at_⟩ := by
                      have : r ∈ ([⟨kA, mx, at_⟩] : List S44) := by rw [h1]; simp
                      exact List.mem_singleton.1 this
                    rw [hr] at h3
                    dsimp only at h3
                    rw [hFX, HT.out.1.1] at h3
                    exact absurd h3.symm h4
                  · refine ⟨h1, ?_⟩
                    rw [← hFX]
                    constructor
                    · intro h
                      cases xs with
                      | nil => simp at h
                      | cons y ys =>
                        obtain ⟨r, hr, e1, e2⟩ := (h4 y).1 (by simp)
                        rw [List.mem_singleton.1 hr] at e1
                        dsimp only at e1
                        have e3 := e2
                        rw [← e1] at e3
                        exact e3
                    · intro h
                      have := (h4 kA).2 ⟨_, List.mem_singleton.2 rfl, rfl, h⟩
                      cases xs with
                      | nil => simp at this
                      | cons y ys => simp
                have HXS := Lib.hid (hxs.trans HT.out.1.2)
                clear hxs hsh hFX hxl
                have y0 := cell_below hbw8 x0
                have y1 := cell_below hbw8 x1
                obtain ⟨v, hv⟩ : ∃ v, s[n].f1 = v := ⟨_, rfl⟩
                rw [hv] at x1 y1
                have HV := Lib.hid hv
                clear hv
                go_wp2
                go_loopw [22, 23] (fun L i wr => ∃ (kk : Nat) (Lv : Int), kk ≤ s.length ∧ i = .int .i64 kk ∧ L = .int .i64 Lv ∧ LeastI s k2 kk Lv ∧ Below W5.heap.size W5 wr)
                  (fun L i _ => s.length - (intOf i).toNat)
                case atStart => exact ⟨0, v, Nat.zero_le _, rfl, rfl, (by have := LeastI.start hk2 hn; rw [HV.out] at this; exact this), hbw8⟩
                case round =>
                  obtain ⟨kk, Lv, hkk, rfl, rfl, hLe, hbr⟩ := hrel
                  clear x0 x1 y0 y1
                  by_cases hlt : kk < s.length
                  · have hd : decide ((kk : Int) < (s.length : Int)) = true := decide_eq_true (by omega)
                    have hd9 : decide (kk < s.length) = true := decide_eq_true (by omega)
                    have hk1 : (kk : Int) < (s.length : Int) := by omega
                    have hk3 : (0 : Int) ≤ (kk : Int) := Int.natCast_nonneg _
                    obtain ⟨a1, ha1, x0, x1⟩ := at_T58 hS5 (kk : Int) (by omega) (by omega)
                    cases ha1
                    rw [Int.toNat_natCast, hrd kk hlt] at x0 x1
                    have hup : ∀ j (hj : j < s.length), kk < j → s[kk].f0 < s[j].f0 := fun j hj h => HP.out.up kk j hj h
                    have hup2 : k2 < kk → s[k2].f0 < s[kk].f0 := fun h => HP.out.up k2 kk hlt h
                    obtain ⟨x, hx⟩ : ∃ x, s[kk] = x := ⟨_, rfl⟩
                    rw [hx] at x0 x1 hup hup2
                    have y0 := cell_below hbr x0
                    have y1 := cell_below hbr x1
                    have hbrd := below_chain hbr (below_drew (Below.refl _ wr))
                    by_cases hc : k2 ≤ kk
                    · have hge : at_ ≤ x.f0 := by
                        rw [← HT.out.2.2.2]
                        rcases Nat.eq_or_lt_of_le hc with e | e
                        · subst e; rw [hx]; exact Int.le_refl _
                        · exact Int.le_of_lt (hup2 e)
                      have e1 : decide (at_ ≤ x.f0) = true := decide_eq_true hge
                      have HL := Lib.hid (LeastI.take hLe hlt hc (congrArg (fun y => y.f1) hx))
                      clear hup hup2 hLe hge hc hx
                      go_wp2
                      first
                        | exact ⟨⟨kk + 1, _, by omega, by simp, rfl, HL.out, hbr⟩, by simp [intOf]; omega⟩
                        | exact ⟨⟨kk + 1, _, by omega, by simp, rfl, HL.out, hbrd⟩, by simp [intOf]; omega⟩
                    · have hkk2 : kk + 1 < s.length := by omega
                      obtain ⟨a1, ha1, u0, u1⟩ := at_T58 hS5 ((kk + 1 : Nat) : Int) (by omega) (by omega)
                      cases ha1
                      rw [Int.toNat_natCast, hrd (kk + 1) hkk2] at u0 u1
                      have hlt2 : x.f0 < at_ := by rw [← HT.out.2.2.2]; exact hup k2 hk2 (by omega)
                      have hle2 : s[kk + 1].f0 ≤ at_ := by
                        rw [← HT.out.2.2.2]
                        rcases Nat.eq_or_lt_of_le (show kk + 1 ≤ k2 by omega) with e | e
                        · subst e; exact Int.le_refl _
                        · exact Int.le_of_lt (HP.out.up (kk + 1) k2 hk2 e)
                      obtain ⟨u, hu5⟩ : ∃ u, s[kk + 1] = u := ⟨_, rfl⟩
                      rw [hu5] at u0 u1 hle2
                      have r0 := cell_below hbr u0
                      have r1 := cell_below hbr u1
                      have e1 : decide (at_ ≤ x.f0) = false := decide_eq_false (by omega)
                      have e2 : decide (at_ < u.f0) = false := decide_eq_false (by omega)
                      have e3 : decide ((kk : Int) + 1 < (s.length : Int)) = true := decide_eq_true (by omega)
                      have e6 : (kk : Int) + 1 < (s.length : Int) := by omega
                      have e7 : (0 : Int) ≤ (kk : Int) + 1 := by omega
                      have e8 : ((kk : Int) + 1).toNat = kk + 1 := by omega
                      have HL := Lib.hid (LeastI.skip hLe (show kk < k2 by omega))
                      obtain ⟨e4, e5⟩ : wrap64 ((kk : Int) + 1) = (kk : Int) + 1 ∧ IntKind.i64.wrap ((kk : Int) + 1) = (kk : Int) + 1 := ⟨by unfold wrap64; omega, by rw [IntKind.wrap_i64]; omega⟩
                      clear hup hup2 hLe hlt2 hle2 hc hx hu5 u0 u1 x0 x1
                      go_wp2
                      clear e4 e5
                      first
                        | exact ⟨⟨kk + 1, _, by omega, by simp, rfl, HL.out, hbr⟩, by simp [intOf]; omega⟩
                        | exact ⟨⟨kk + 1, _, by omega, by simp, rfl, HL.out, hbrd⟩, by simp [intOf]; omega⟩
                  · have hd : decide ((kk : Int) < (s.length : Int)) = false := decide_eq_false (by omega)
                    have hd9 : decide (kk < s.length) = false := decide_eq_false (by omega)
                    have hkk5 : kk = s.length := by omega
                    have HLE := Lib.hid (show LeastI s k2 s.length Lv from by rw [← hkk5]; exact hLe)
                    clear hLe hkk5 hlt hkk
                    go_wp2
                    clear hd hd9
                    go_loopw [24, 25] (fun L i wr => ∃ (jj : Nat) (Av : Int), jj ≤ s.length ∧ i = .int .i64 jj ∧ L = .int .i64 Av ∧ AheadI s k2 jj Av ∧ Below W5.heap.size W5 wr)
                      (fun L i _ => s.length - (intOf i).toNat)
                    case atStart => exact ⟨0, 0, Nat.zero_le _, rfl, rfl, AheadI.start s k2, hbr⟩
                    case round =>
                      clear hbr
                      obtain ⟨jj, Av, hjj, rfl, rfl, hAe, hbr⟩ := hrel
                      by_cases hlt : jj < s.length
                      · have hd : decide ((jj : Int) < (s.length : Int)) = true := decide_eq_true (by omega)
                        have hd9 : decide (jj < s.length) = true := decide_eq_true (by omega)
                        have hk1 : (jj : Int) < (s.length : Int) := by omega
                        have hk3 : (0 : Int) ≤ (jj : Int) := Int.natCast_nonneg _
                        obtain ⟨a1, ha1, x0, x1⟩ := at_T58 hS5 (jj : Int) (by omega) (by omega)
                        cases ha1
                        rw [Int.toNat_natCast, hrd jj hlt] at x0 x1
                        have hup : jj < k2 → s[jj].f0 < s[k2].f0 := fun h => HP.out.up jj k2 hk2 h
                        have hup2 : k2 < jj → s[k2].f0 < s[jj].f0 := fun h => HP.out.up k2 jj hlt h
                        rw [HT.out.2.2.2] at hup hup2
                        have hup3 : k2 = jj → s[jj].f0 = at_ := fun h => by rw [← HT.out.2.2.2]; subst h; rfl
                        obtain ⟨x, hx⟩ : ∃ x, s[jj] = x := ⟨_, rfl⟩
                        rw [hx] at x0 x1 hup hup2 hup3
                        have y0 := cell_below hbr x0
                        have y1 := cell_below hbr x1
                        by_cases hc : jj < k2
                        · have e1 : decide (x.f0 < at_) = true := decide_eq_true (hup hc)
                          have HL := Lib.hid (AheadI.take hAe hlt hc (congrArg (fun y => y.f1) hx))
                          clear hup hup2 hup3 hAe hc hx
                          go_wp2
                          exact ⟨⟨jj + 1, _, by omega, by simp, rfl, HL.out, hbr⟩, by simp [intOf]; omega⟩
                        · have e1 : decide (x.f0 < at_) = false := decide_eq_false (by
                            rcases Nat.eq_or_lt_of_le (Nat.le_of_not_lt hc) with e | e
                            · have := hup3 e; omega
                            · have := hup2 e; omega)
                          have HL := Lib.hid (AheadI.skip hAe (Nat.le_of_not_lt hc))
                          clear hup hup2 hup3 hAe hc hx
                          go_wp2
                          exact ⟨⟨jj + 1, _, by omega, by simp, rfl, HL.out, hbr⟩, by simp [intOf]; omega⟩
                      · have hd : decide ((jj : Int) < (s.length : Int)) = false := decide_eq_false (by omega)
                        have hd9 : decide (jj < s.length) = false := decide_eq_false (by omega)
                        have hjj5 : jj = s.length := by omega
                        have hAE : AheadI s k2 s.length Av := by rw [← hjj5]; exact hAe
                        have hlowE := below_w hB5 hbr
                        have hQL : decide (Q ≤ Lv) = true := decide_eq_true (by
                          obtain ⟨⟨j, hj, j1, j2⟩, _⟩ := HLE.out
                          rw [j2]
                          exact HGE.out j hj j1)
                        by_cases hA0 : Av < 0
                        · have e1 : decide (Av < 0) = true := decide_eq_true hA0
                          clear hA0 hAE hAe hjj5 hlt hjj
                          go_wp2_with fail
                          refine (HAW.out _).mono ?_
                          rintro e w9 ⟨rfl, hB9⟩
                          go_wp2
                          go_ret
                          exact ⟨rfl, below_w hlowE hB9⟩
                        · have e1 : decide (Av < 0) = false := decide_eq_false hA0
                          obtain ⟨b, hb⟩ : ∃ b, decide ((0 : Int) < (xs.length : Int)) = b := ⟨_, rfl⟩
                          have hbb := keeps_end HLE.out hAE (b := b) (by rw [← hb, decide_eq_true_iff]; exact HXS.out) hA0
                          have hb2 : decide (0 < xs.length) = b := by rw [← hb, decide_eq_decide]; omega
                          have hb3 : decide (Lv < mx) = b := by
                            cases b with
                            | true => exact decide_eq_true (hbb.1 rfl)
                            | false => exact decide_eq_false (fun h => by have := hbb.2 h; cases this)
                          clear hbb hA0 hAE hAe hjj5 hlt hjj
                          cases b with
                          | true =>
                            go_wp2_with fail
                            refine (HAW.out _).mono ?_
                            rintro e w9 ⟨rfl, hB9⟩
                            go_wp2
                            go_ret
                            exact ⟨rfl, below_w hlowE hB9⟩
                          | false =>
                            go_wp2_with fail
                            refine (HAW.out _).mono ?_
                            rintro e w9 ⟨rfl, hB9⟩
                            go_wp2
                            go_ret
                            exact ⟨rfl, below_w hlowE hB9⟩
        · clear hline
          go_wp2_with fail
          refine (HAW.out _).mono ?_
          rintro e w3 ⟨rfl, hB6⟩
          go_wp2
          go_ret
          exact ⟨rfl, below_w hB5 hB6⟩
end
end Go.Proofs.Ytofkhcgkahkagaa
/- How an argument's reading tells its list, and that each element is of a kind that can be. -/
namespace Go.Proofs.Ytofkhcgkahkagaa
open Go.RowKit Go.Deep Go.Proofs.YtofkhcgkahkagaaW.PrintWords Go.Proofs.YtofkhcgkahkagaaW.PrintLast Go.Proofs.YtofkhcgkahkagaaW.PrintMore Go.Proofs.Ytofkhcgkahkagaa.PPromiseLines
set_option linter.unusedVariables false
set_option linter.unusedSimpArgs false

/-- Whatever reads at type t is told by d, and is as G says. -/
def ToldG {α : Type} (P : Program) (w : World) (t : TypeId) (d : Kd α) (G : α → Prop) : Prop :=
  ∀ {H : Type} (enc : TypeId × Value → H) (base : Nat) (spare : Nat → Bool) (held : Bool) (fuel : Nat) (cs : List Value) (x : DataW H × List MemPlace), DataW.trod enc P w base spare held fuel t cs = some x → ∃ a, d.K w a cs ∧ G a

theorem toldG_row {α : Type} {P : Program} {w : World} {t e : TypeId} {d : Kd α} {G : α → Prop} (ht : P.underlying t = some (.slice e)) (hc : P.cellsOf e = d.sz) (hd : ToldG P w e d G) {H : Type} (enc : TypeId × Value → H) (base : Nat) (spare : Nat → Bool) (held : Bool) (fuel : Nat) (cs : List Value) (x : DataW H × List MemPlace) (h : DataW.trod enc P w base spare held fuel t cs = some x) :
    ∃ (xs : List α) (A : Option Addr) (c : Nat), cs = [.slice A xs.length c] ∧ xs.length ≤ c ∧ d.C w A xs.length xs ∧ ∀ p ∈ xs, G p := by
  rcases open_slice ht h with ⟨rfl, _⟩ | ⟨a, len, cap, m, n, D, Pl, rfl, hb, hl, hm, hmm, rfl, hx⟩
  · exact ⟨[], none, 0, rfl, Nat.le_refl _, Kd.C_nil d w, fun p hp => by cases hp⟩
  · have hlm : len ≤ m := by rw [hmm]; split <;> omega
    have hall : ∀ i, i < len → ∃ a', ∃ cs', w.cells? base (a.add (i * P.cellsOf e)) (P.cellsOf e) = some cs' ∧ d.K w a' cs' ∧ G a' := fun i hi => by
      obtain ⟨cs', h1, h2⟩ := hx i (by omega)
      obtain ⟨a', h3⟩ := hd enc base spare held n cs' _ h2
      exact ⟨a', cs', h1, h3⟩
    obtain ⟨xs, hxl, hxs⟩ : ∃ xs : List α, xs.length = len ∧ ∀ j p, xs[j]? = some p → ∃ cs', w.cells? base (a.add (j * P.cellsOf e)) (P.cellsOf e) = some cs' ∧ d.K w p cs' ∧ G p := by
      clear hx hl hmm hlm h
      induction len with
      | zero => exact ⟨[], rfl, fun j p hj => by simp at hj⟩
      | succ len ih =>
        obtain ⟨xs, h1, h2⟩ := ih (fun i hi => hall i (by omega))
        obtain ⟨a', cs', h3, h4⟩ := hall len (by omega)
        refine ⟨xs ++ [a'], by simp [h1], fun j p hj => ?_⟩
        rcases Nat.lt_trichotomy j xs.length with hj1 | hj1 | hj1
        · rw [List.getElem?_append_left hj1] at hj
          exact h2 j p hj
        · subst hj1
          simp at hj
          subst hj
          rw [h1]
          exact ⟨cs', h3, h4⟩
        · rw [List.getElem?_eq_none (by simp; omega)] at hj
          cases hj
    refine ⟨xs, some a, cap, by rw [hxl], by omega, ⟨rfl, by rw [hxl]; exact Nat.le_trans hl (Nat.le_trans hm (by decide)), fun _ => ⟨a, rfl, fun j p hj => ?_⟩⟩, fun p hp => ?_⟩
    · obtain ⟨cs', h1, h2, _⟩ := hxs j p hj
      obtain ⟨_, h3, h4⟩ := World.cells?_some h1
      refine ⟨cs', by rw [h3, hc], h2, fun i u hu => ?_⟩
      have hi : i < cs'.length := (List.getElem?_eq_some_iff.1 hu).1
      rw [← hu, ← h4 i (by omega), Go.Deep.add_add, hc]
    · obtain ⟨j, hj, rfl⟩ := List.getElem_of_mem hp
      obtain ⟨_, _, _, h3⟩ := hxs j _ (List.getElem?_eq_getElem hj)
      exact h3
theorem list1 {α : Type} {l : List α} (h : l.length = 1) : ∃ a, l = [a] := by
  rcases l with _ | ⟨a, l⟩
  · cases h
  · have e := List.eq_nil_of_length_eq_zero (l := l) (by simpa using h)
    exact ⟨a, by rw [e]⟩
theorem list3 {α : Type} {l : List α} (h : l.length = 3) : ∃ a b c, l = [a, b, c] := by
  rcases l with _ | ⟨a, _ | ⟨b, l⟩⟩
  · cases h
  · cases h
  · obtain ⟨c, rfl⟩ := list1 (l := l) (by simpa using h)
    exact ⟨a, b, c, rfl⟩
theorem list4 {α : Type} {l : List α} (h : l.length = 4) : ∃ a b c d, l = [a, b, c, d] := by
  rcases l with _ | ⟨a, l⟩
  · cases h
  · obtain ⟨b, c, d, rfl⟩ := list3 (l := l) (by simpa using h)
    exact ⟨a, b, c, d, rfl⟩
theorem list6 {α : Type} {l : List α} (h : l.length = 6) : ∃ a b c d e f, l = [a, b, c, d, e, f] := by
  rcases l with _ | ⟨a, _ | ⟨b, l⟩⟩
  · cases h
  · cases h
  · obtain ⟨c, d, e, f, rfl⟩ := list4 (l := l) (by simpa using h)
    exact ⟨a, b, c, d, e, f, rfl⟩
theorem wf_B {n : Int} (h : (Lit.int .i64 n).wf = true) : i64B n := bounds_i64 h

theorem told_rec {w : World} : ToldG Try.prog w 44 k44 RecG := by
  intro H enc base spare held fuel cs x h
  obtain ⟨xs, n, _, _, hl, hxl, hf⟩ := DataW.trod_struct Try.underlying44 h
  have cN : Try.prog.cellsOf 44 = 3 := by kernel_rfl
  rw [cN] at hl
  obtain ⟨u0, u1, u2, rfl⟩ : ∃ u0 u1 u2, cs = [u0, u1, u2] := by
    exact list3 hl
  have e0 := hf 0 _ rfl
  have e1 := hf 1 _ rfl
  have e2 := hf 2 _ rfl
  rw [List.getElem?_eq_getElem (by rw [hxl]; decide)] at e0 e1 e2
  have c0 : Try.prog.cellsOf 3 = 1 := by kernel_rfl
  have c9 : Try.prog.cellsOf 9 = 1 := by kernel_rfl
  obtain ⟨n0, h0, _, b0⟩ := DataW.trod_string Try.underlying9 e0
  obtain ⟨n1, h1, _, b1⟩ := DataW.trod_int Try.underlying3 e1
  obtain ⟨n2, h2, _, b2⟩ := DataW.trod_int Try.underlying3 e2
  simp [c0] at h1 h2
  simp [c9] at h0
  subst h0 h1 h2
  exact ⟨⟨n0, n1, n2⟩, k44.K_of_M (k44_mkM w 0 (fun _ => False) _), b0, wf_B b1, wf_B b2⟩

end Go.Proofs.Ytofkhcgkahkagaa
