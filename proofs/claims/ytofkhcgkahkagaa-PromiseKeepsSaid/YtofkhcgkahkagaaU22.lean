/- The row of PromiseKeeps, and the last texts behind it. -/
import Derived.Test.YtofkhcgkahkagaaRows
import Derived.Test.YtofkhcgkahkagaaU21
import Derived.WalkKit
import Derived.ProofKit
import Derived.OpenShut
import Derived.ShutString
import Derived.ChangeOld
import Derived.Below
import Derived.SizedLaws
/- The row of the law PromiseKeeps. -/
namespace Go.Proofs.Ytofkhcgkahkagaa.promiseKeeps
open Go.ChangeShapes Go.WideShapes Go.ChangeAt Go.RowKit
open Go.Proofs.YtofkhcgkahkagaaW.PrintWords Go.Proofs.YtofkhcgkahkagaaW.PrintLast Go.Proofs.YtofkhcgkahkagaaW.PrintMore Go.Proofs.Ytofkhcgkahkagaa.PPromiseLines
set_option linter.unusedVariables false
theorem own : ownKnob Try.prog.godebug = none := by kernel_rfl
theorem laidOut : laidOutB Try.prog = true := by kernel_rfl

theorem list7 {α : Type} {l : List α} (h : l.length = 7) : ∃ a b c d e f g, l = [a, b, c, d, e, f, g] := by
  rcases l with _ | ⟨a, l⟩
  · cases h
  · obtain ⟨b, c, d, e, f, g, rfl⟩ := list6 (l := l) (by simpa using h)
    exact ⟨a, b, c, d, e, f, g, rfl⟩
theorem told_op {w : World} : ToldG Try.prog w 88 k88 OprG := by
  intro H enc base spare held fuel cs x h
  obtain ⟨xs, n, _, _, hl, hxl, hf⟩ := DataW.trod_struct Try.underlying88 h
  have cN : Try.prog.cellsOf 88 = 7 := by kernel_rfl
  rw [cN] at hl
  obtain ⟨u0, u1, u2, u3, u4, u5, u6, rfl⟩ : ∃ u0 u1 u2 u3 u4 u5 u6, cs = [u0, u1, u2, u3, u4, u5, u6] := by
    exact list7 hl
  have e0 := hf 0 _ rfl
  have e1 := hf 1 _ rfl
  have e2 := hf 2 _ rfl
  have e3 := hf 3 _ rfl
  have e4 := hf 4 _ rfl
  have e5 := hf 5 _ rfl
  have e6 := hf 6 _ rfl
  rw [List.getElem?_eq_getElem (by rw [hxl]; decide)] at e0 e1 e2 e3 e4 e5 e6
  have c0 : Try.prog.cellsOf 3 = 1 := by kernel_rfl
  have c9 : Try.prog.cellsOf 9 = 1 := by kernel_rfl
  obtain ⟨n0, h0, _, b0⟩ := DataW.trod_int Try.underlying3 e0
  obtain ⟨n1, h1, _, b1⟩ := DataW.trod_string Try.underlying9 e1
  obtain ⟨n2, h2, _, b2⟩ := DataW.trod_string Try.underlying9 e2
  obtain ⟨n3, h3, _, b3⟩ := DataW.trod_string Try.underlying9 e3
  obtain ⟨n4, h4, _, b4⟩ := DataW.trod_int Try.underlying3 e4
  obtain ⟨n5, h5, _, b5⟩ := DataW.trod_int Try.underlying3 e5
  obtain ⟨n6, h6, _, b6⟩ := DataW.trod_int Try.underlying3 e6
  simp [c0] at h0 h4 h5 h6
  simp [c9] at h1 h2 h3
  subst h0 h1 h2 h3 h4 h5 h6
  exact ⟨⟨n0, n1, n2, n3, n4, n5, n6⟩, k88.K_of_M (k88_mkM w 0 (fun _ => False) _), wf_B b0, wf_B b4, wf_B b5, wf_B b6⟩

set_option maxRecDepth 100000 in
theorem lifted (os : Os) (started : os.Started) (H : Type) (enc : TypeId × Value → H) :
    ReturnsInHanded {} Try.checked os 6 .any (Rows.promiseKeepsSpec.pre6 enc Try.prog Try.f6 Rows.promiseKeepsRow.domain false) (Rows.promiseKeepsSpec.post enc Try.prog Try.f6 false true false false) := by
  refine returnsInHanded_of_change (C := Try.checked) own started (by kernel_rfl) Try.func6
    (ChangeSpec.witness6 (enc := enc) (C := Try.checked) false ⟨#[], #[.slice none 0 0, .slice none 0 0, .int .i64 0], []⟩ 8 (by kernel_rfl) (by kernel_rfl) (by kernel_rfl) (by kernel_rfl)) ?_
  intro W base args ds gs before hval0 hW hcnd _
  have hval : ∀ (j : Nat) t v, Try.f6.params[j]? = some t → args[j]? = some v → Value.okWide Try.prog W .any base t v := hval0
  have hW' := hW
  obtain ⟨p, q, hA0, hV, rfl, hfz, hnd⟩ := hW
  have hA : DataW.TrodAll enc Try.prog W 0 (fun _ => true) true Try.f6.params.toList args.toList ds p := hA0
  rw [Try.params6] at hA hval
  obtain ⟨v0, vs0, d0, ds0, p0, q0, hargs, rfl, rfl, h0, r0⟩ := trodAll_cons hA
  obtain ⟨v1, vs1, d1, ds1, p1, q1, rfl, rfl, rfl, h1, r1⟩ := trodAll_cons r0
  obtain ⟨v2, vs2, d2, ds2, p2, q2, rfl, rfl, rfl, h2, r2⟩ := trodAll_cons r1
  obtain ⟨rfl, rfl, rfl⟩ := trodAll_nil r2
  obtain rfl : args = #[v0, v1, v2] := by cases args; simp_all
  obtain ⟨rfl, rfl⟩ := trodVars_none hV
  obtain ⟨a0, len0, cap0, rfl⟩ := okWide_slice Try.underlying54 (hval 0 54 v0 rfl rfl)
  obtain ⟨a1, len1, cap1, rfl⟩ := okWide_slice Try.underlying42 (hval 1 42 v1 rfl rfl)
  obtain ⟨n2, rfl⟩ := okWide_int Try.underlying3 (hval 2 3 v2 rfl rfl)
  have k0 := h0
  have k1 := h1
  have k2 := h2
  have lt0 : ∀ x ∈ p0, x.block < W.heap.size := by obtain ⟨m, hm⟩ := k0; exact DataW.trod_lt m _ _ _ hm
  have lt1 : ∀ x ∈ p1, x.block < W.heap.size := by obtain ⟨m, hm⟩ := k1; exact DataW.trod_lt m _ _ _ hm
  have lt2 : ∀ x ∈ p2, x.block < W.heap.size := by obtain ⟨m, hm⟩ := k2; exact DataW.trod_lt m _ _ _ hm
  obtain ⟨fuel0, hf0⟩ := h0
  obtain ⟨fuel1, hf1⟩ := h1
  obtain ⟨fuel2, hf2⟩ := h2
  obtain ⟨lo, A0, c0, hcs0, hlo, hC0, hs0⟩ := toldG_row Try.underlying54 (by kernel_rfl) told_op enc 0 (fun _ => true) true fuel0 _ _ hf0
  obtain ⟨l3, A3, c3, hcs1, hl3, hC3, hs3⟩ := toldG_row Try.underlying42 (by kernel_rfl) told_rec enc 0 (fun _ => true) true fuel1 _ _ hf1
  obtain ⟨n3, hcs2, _, b3⟩ := DataW.trod_int Try.underlying3 hf2
  clear hA0 hval0
  simp only [Value.cells, List.cons.injEq, Value.slice.injEq, and_true] at hcs0 hcs1 hcs2
  obtain ⟨rfl, rfl, rfl⟩ := hcs0
  obtain ⟨rfl, rfl, rfl⟩ := hcs1
  obtain rfl : n2 = n3 := by injection hcs2
  refine (keeps_calls lo a0 cap0 a1 cap1 l3 _ W hC0 hs0 hC0.2.1 hC3 hl3 hs3 (wf_B b3)).mono fun e W' ⟨he, bel⟩ => ?_
  subst he
  exact ⟨_, rfl, _, _, _, [], _, [], hW', trodAll_mk1 (shut_bool Try.underlying4 _), (trodAll_cons_mk (Below.trod laidOut (by kernel_rfl) (of_decide_eq_true (by kernel_rfl)) k0 bel lt0) (trodAll_cons_mk (Below.trod laidOut (by kernel_rfl) (of_decide_eq_true (by kernel_rfl)) k1 bel lt1) (trodAll_cons_mk (Below.trod laidOut (by kernel_rfl) (of_decide_eq_true (by kernel_rfl)) k2 bel lt2) trodAll_mk0))), rfl, bel.frame _, fun h => by cases h⟩

theorem over : Rows.promiseKeepsRow.holds Try.pinned (OpenSpec.ofChange Rows.promiseKeepsSpec) :=
  OpenClaim.holds_of_wide 6 Try.f6 rfl rfl rfl rfl rfl rfl rfl ⟨rfl, rfl, rfl, rfl, rfl⟩ rfl rfl rfl rfl rfl (by kernel_rfl) Try.func6 (by kernel_rfl)
    (of_decide_eq_true (by kernel_rfl)) (by unfold Func.isWrapper; first | (rw [if_pos (by decide +kernel)]; kernel_rfl) | (rw [if_neg (by decide +kernel)]; exact ⟨rfl, rfl⟩))
    (fun os started H enc _ => lifted os started H enc)
theorem proved : Rows.PromiseKeepsSaid := over
end Go.Proofs.Ytofkhcgkahkagaa.promiseKeeps
namespace Go.Proofs.Ytofkhcgkahkagaa
/-- The row, under a short name, for the claim. -/
theorem promiseKeeps_holds : Rows.PromiseKeepsSaid := promiseKeeps.proved
end Go.Proofs.Ytofkhcgkahkagaa
