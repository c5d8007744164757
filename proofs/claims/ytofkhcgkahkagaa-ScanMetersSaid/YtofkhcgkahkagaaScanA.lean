/- The iterator scan.List has its contract, at every list of rows that can be read. -/
import Derived.Test.YtofkhcgkahkagaaIter
import Derived.Test.YtofkhcgkahkagaaPScanMetersx0
import Derived.Lib.Hide
namespace Go.Proofs.Ytofkhcgkahkagaa
open Go.RowKit Go.Proofs.YtofkhcgkahkagaaW.PrintWords Go.Proofs.YtofkhcgkahkagaaW.PrintLast Go.Proofs.YtofkhcgkahkagaaW.PrintMore Go.Proofs.Ytofkhcgkahkagaa.PScanMeters
attribute [local go_sem] Oper.semAt_some
set_option linter.unusedVariables false
set_option linter.unusedSimpArgs false

/-- A row and its error as yield is handed them: what the row leads to is none of D's blocks, nor of X's. -/
def RowEnc (X : Nat → Prop) (x : List S66 × Int) (args : Array Value) (D : Nat → Prop) (W : World) : Prop :=
  ∃ A c, args = #[.slice A x.1.length c, .int .i64 x.2] ∧ x.1.length ≤ c ∧ Kd.F k66 W (fun k => ¬ D k ∧ ¬ X k) A x.1.length x.1

theorem list_calls (A : Option Addr) (n c : Nat) (w : World) : Calls Try.prog 12 #[.slice A n c] w fun e w' => e = .returned (.func (.func 36) #[] #[.pointer (some ⟨w.heap.size, 0, none⟩)]) ∧ w' = w.alloc (.cells #[.slice A n c] 22) := by
  go_enter Try.func12, Try.ntmps12
  go_wp2
  go_ret
  exact ⟨rfl, rfl⟩

/-- What scan.List's closure starts from: its box, and the rows, in blocks of ok. -/
def ListPre (B : Nat) (ok : Nat → Prop) (A : Option Addr) (c : Nat) (rows : List (List S66)) (W : World) : Prop :=
  W.heap[B]? = some (.cells #[.slice A rows.length c] 22 (0, 0)) ∧ Kd.F (Kd.slice 66 k66) W ok A rows.length rows

theorem rd_get (rows : List (List S66)) (k : Nat) (h : k < rows.length) : rd_L3 rows k = rows[k] := by
  simp [rd_L3, h]

set_option maxRecDepth 100000 in
set_option maxHeartbeats 2000000 in
theorem list_iter (B : Nat) (ok X : Nat → Prop) (A : Option Addr) (c : Nat) (rows : List (List S66)) (hok : ∀ k, ok k → ¬ X k) :
    Iter Try.prog 36 #[.pointer (some ⟨B, 0, none⟩)] (RowEnc X) (rows.map (fun r => (r, (0 : Int)))) (fun k => k = B ∨ ok k) (fun _ => False) (ListPre B ok A c rows) (fun _ => True) (fun _ _ => True) := by
  intro W l J Jx D hP hJ hJx hD hR h0
  obtain ⟨hb, hF⟩ := hP
  have hcell : W.cell? ⟨B, 0, none⟩ = some (.slice A rows.length c) := by simp [World.cell?, hb]
  have hmax := Kd.F_max hF
  refine callsIn_wide (n := 0).1 ?_
  refine callsIn_of_wp Try.func36 rfl trivial ?_ rfl
  simp only [Try.ntmps36, List.size_toArray, List.length_cons, List.length_nil, Nat.reduceAdd, Nat.reduceSub, Array.replicate_succ, Array.replicate_zero, List.push_toArray, List.append_toArray, List.nil_append, List.cons_append]
  gi_wp2
  gi_loopw [7] (fun i wr => ∃ (k : Nat) (D' : Nat → Prop), k ≤ rows.length ∧ i = .int .i64 k ∧ J ((rows.take k).map (fun r => (r, (0 : Int)))) D' wr ∧ (∀ j, D' j → j < wr.heap.size) ∧ (∀ j, D' j → D j ∨ W.heap.size ≤ j) ∧ Same (fun j => j < W.heap.size ∧ ¬ D j) W wr)
    (fun i _ => rows.length - (intOf i).toNat)
  case atStart => exact ⟨0, D, Nat.zero_le _, rfl, h0, fun k hk => (hD k hk).1, fun k hk => .inl hk, Same.refl _ _⟩
  case round =>
    obtain ⟨k, D1, hk, rfl, hJs, hlt, hsub, hsame⟩ := hrel
    by_cases hlt' : k < rows.length
    · have hF1 := Kd.F_step (Kd.F_bound hF) (W1 := wr) (fun j hj hjl => hsame.block j ⟨hjl, fun h => (hD j h).2 (.inr hj.1)⟩)
      obtain ⟨ad, cs, rfl, _, hK, hcs, _⟩ := Kd.F_get hF1 ([] : List S66) (k : Int) (by omega) (by omega)
      obtain ⟨A0, c0, rfl, hl0, hF0⟩ := Kd.FK_slice_open hK
      have hget : rows.getD (k : Int).toNat [] = rows[k] := by simp [hlt']
      rw [hget] at hcs hl0 hF0
      have hc0 := hcs 0 _ rfl
      rw [show (k : Int).toNat * (Kd.slice 66 k66).sz + 0 = k from by simp [Kd.slice]] at hc0
      clear hcs hget hK
      have hsplit : rows.map (fun r => (r, (0 : Int))) = (rows.take k).map (fun r => (r, (0 : Int))) ++ (rows[k], 0) :: (rows.drop (k + 1)).map (fun r => (r, (0 : Int))) := by
        rw [show (rows[k], (0 : Int)) :: (rows.drop (k + 1)).map (fun r => (r, (0 : Int))) = (rows.drop k).map (fun r => (r, (0 : Int))) from by rw [List.drop_eq_getElem_cons hlt']; rfl]
        rw [← List.map_append, List.take_append_drop]
      have hround := hR _ (rows[k], 0) _ D1 wr #[.slice A0 (rows[k]).length c0, .int .i64 0] hsplit hJs hlt hsame.size hsub ⟨A0, c0, rfl, hl0, Kd.F_mono hF0 (fun j hj => ⟨fun hd => by
        rcases hsub j hd with h1 | h1
        · exact (hD j h1).2 (.inr hj.1)
        · exact absurd hj.2 (by omega), hok j hj.1⟩)⟩
      obtain ⟨fn, tmps, assign, body, hy, hRd⟩ := hround
      have Hsplit := Lib.hid hsplit
      clear hsplit
      generalize hrk : rows[k] = rk at *
      have Hrk := Lib.hid hrk
      clear hrk
      gi_wp2
      refine ⟨rfl, hRd.mono ?_⟩
      rintro e W3 ⟨D3, hT, (⟨rfl, hJ3⟩ | ⟨rfl, hJx3⟩)⟩
      · gi_wp2
        go_roundw
        case rel => exact ⟨k + 1, D3, by omega, by go_num, by rw [List.take_succ_eq_append_getElem hlt', Hrk.out, List.map_append]; exact hJ3, hT.lt, fun j hj => by
          rcases hT.sub j hj with h1 | h1
          · exact hsub j h1
          · exact .inr (Nat.le_trans hsame.size h1), hsame.trans hT.same (fun _ hj => hj) (fun j hj => ⟨Nat.lt_of_lt_of_le hj.1 hsame.size, fun h1 => by
            rcases hsub j h1 with h2 | h2
            · exact hj.2 h2
            · exact absurd hj.1 (by omega)⟩)⟩
        case measure => simp [intOf]; omega
      · gi_wp2
        refine bodyPost_ret (results_none rfl _ _ _) rfl ?_
        exact Ended.mk D3 (fun j hj => by
          rcases hT.sub j hj with h1 | h1
          · exact hsub j h1
          · exact .inr (Nat.le_trans hsame.size h1)) hT.lt (hsame.trans hT.same (fun j hj => ⟨hj.1, hj.2.1⟩) (fun j hj => ⟨Nat.lt_of_lt_of_le hj.1 hsame.size, fun h1 => by
            rcases hsub j h1 with h2 | h2
            · exact hj.2.1 h2
            · exact absurd hj.1 (by omega)⟩)) (.inr ⟨_, _, _, Hsplit.out, hJx3, trivial⟩)
    · obtain rfl : k = rows.length := by omega
      gi_wp2
      go_end0
      refine Ended.mk D1 hsub hlt (hsame.mono (fun j hj => ⟨hj.1, hj.2.1⟩)) (.inl ⟨?_, trivial⟩)
      rw [List.take_length] at hJs
      exact hJs
end Go.Proofs.Ytofkhcgkahkagaa
