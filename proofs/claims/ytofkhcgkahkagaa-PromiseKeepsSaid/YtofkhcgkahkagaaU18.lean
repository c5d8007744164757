/- Texts behind the row of PromiseKeeps, part 18. -/
import Derived.Test.YtofkhcgkahkagaaChecked
import Derived.Ground.NamesProg
import Derived.Ground.Names2Prog
import Derived.Shelf.Sort.Plain
import Derived.Shelf.Slices.CompactI
import Derived.Test.YtofkhcgkahkagaaU17
import Derived.Test.YtofkhcgkahkagaaU08
import Derived.Sort.OwnSortedInts
import Derived.Lib.OwnBridge
import Derived.Lib.SlicesCompact
import Derived.Test.YtofkhcgkahkagaaU01
import Derived.Deep.Slices
import Derived.ChangeOld
import Derived.RangeFuncBox
/- What Go's library sorts and compacts: its contracts, laid at this program in plain words by the kit's tool. -/
namespace Go.Proofs
open Go.Shelf
def Try.laysSort_ren : Go.Shelf.Ren := ⟨fun | 189 => 80 | 125 => 74 | 257 => 105 | 128 => 102 | 129 => 103 | 294 => 117 | 295 => 118 | 296 => 119 | 297 => 120 | 298 => 121 | 299 => 122 | 216 => 123 | 300 => 124 | 301 => 125 | 328 => 128 | 329 => 111 | 330 => 112 | 331 => 129 | 332 => 130 | 215 => 131 | 343 => 132 | n => n, fun | 28 => 105 | 3 => 3 | 46 => 129 | 0 => 0 | 51 => 160 | 53 => 132 | 4 => 4 | 183 => 152 | 182 => 151 | 131 => 157 | 5 => 5 | 9 => 9 | 218 => 166 | 222 => 170 | 228 => 179 | 229 => 180 | n => n, fun | n => n⟩
theorem Try.laysSort : Go.Proofs.Lays.n189 Try.prog Try.laysSort_ren := {
  mixed := by kernel_rfl
  f125 := Try.func74.trans (congrArg some (by kernel_rfl))
  f128 := Try.func102.trans (congrArg some (by kernel_rfl))
  f129 := Try.func103.trans (congrArg some (by kernel_rfl))
  f189 := Try.func80.trans (congrArg some (by kernel_rfl))
  f215 := Try.func131.trans (congrArg some (by kernel_rfl))
  f216 := Try.func123.trans (congrArg some (by kernel_rfl))
  f257 := Try.func105.trans (congrArg some (by kernel_rfl))
  f294 := Try.func117.trans (congrArg some (by kernel_rfl))
  f295 := Try.func118.trans (congrArg some (by kernel_rfl))
  f296 := Try.func119.trans (congrArg some (by kernel_rfl))
  f297 := Try.func120.trans (congrArg some (by kernel_rfl))
  f298 := Try.func121.trans (congrArg some (by kernel_rfl))
  f299 := Try.func122.trans (congrArg some (by kernel_rfl))
  f300 := Try.func124.trans (congrArg some (by kernel_rfl))
  f301 := Try.func125.trans (congrArg some (by kernel_rfl))
  f328 := Try.func128.trans (congrArg some (by kernel_rfl))
  f329 := Try.func111.trans (congrArg some (by kernel_rfl))
  f330 := Try.func112.trans (congrArg some (by kernel_rfl))
  f331 := Try.func129.trans (congrArg some (by kernel_rfl))
  f332 := Try.func130.trans (congrArg some (by kernel_rfl))
  f343 := Try.func132.trans (congrArg some (by kernel_rfl))
  t0 := Try.underlying0
  a0 := Try.isAgg0
  z0 := Try.sizeOf0
  v0 := Try.zeroValue0
  t3 := Try.underlying3
  a3 := Try.isAgg3
  z3 := Try.sizeOf3
  v3 := Try.zeroValue3
  t4 := Try.underlying4
  a4 := Try.isAgg4
  z4 := Try.sizeOf4
  v4 := Try.zeroValue4
  t5 := Try.underlying5
  a5 := Try.isAgg5
  z5 := Try.sizeOf5
  v5 := Try.zeroValue5
  t9 := Try.underlying9
  a9 := Try.isAgg9
  z9 := Try.sizeOf9
  v9 := Try.zeroValue9
  t28 := Try.underlying105
  a28 := Try.isAgg105
  z28 := Try.sizeOf105
  v28 := Try.zeroValue105
  t46 := Try.underlying129
  a46 := Try.isAgg129
  z46 := Try.sizeOf129
  v46 := Try.zeroValue129
  t51 := Try.underlying160
  a51 := Try.isAgg160
  z51 := Try.sizeOf160
  v51 := Try.zeroValue160
  t53 := Try.underlying132
  a53 := Try.isAgg132
  z53 := Try.sizeOf132
  v53 := Try.zeroValue132
  t131 := Try.underlying157
  a131 := Try.isAgg157
  z131 := Try.sizeOf157
  v131 := Try.zeroValue157
  t182 := Try.underlying151
  a182 := Try.isAgg151
  z182 := Try.sizeOf151
  v182 := Try.zeroValue151
  t183 := Try.underlying152
  a183 := Try.isAgg152
  z183 := Try.sizeOf152
  v183 := Try.zeroValue152
  t218 := Try.underlying166
  a218 := Try.isAgg166
  z218 := Try.sizeOf166
  v218 := Try.zeroValue166
  t222 := Try.underlying170
  a222 := Try.isAgg170
  z222 := Try.sizeOf170
  v222 := Try.zeroValue170
  t228 := Try.underlying179
  a228 := Try.isAgg179
  z228 := Try.sizeOf179
  v228 := Try.zeroValue179
  t229 := Try.underlying180
  a229 := Try.isAgg180
  z229 := Try.sizeOf180
  v229 := Try.zeroValue180 }
def Try.laysCompact_ren : Go.Shelf.Ren := ⟨fun | 20 => 81 | n => n, fun | 22 => 105 | 3 => 3 | 4 => 4 | 0 => 0 | n => n, fun | n => n⟩
theorem Try.laysCompact : Go.Proofs.Lays2.n20 Try.prog Try.laysCompact_ren := {
  mixed := by kernel_rfl
  f20 := Try.func81.trans (congrArg some (by kernel_rfl))
  t0 := Try.underlying0
  a0 := Try.isAgg0
  z0 := Try.sizeOf0
  v0 := Try.zeroValue0
  t3 := Try.underlying3
  a3 := Try.isAgg3
  z3 := Try.sizeOf3
  v3 := Try.zeroValue3
  t4 := Try.underlying4
  a4 := Try.isAgg4
  z4 := Try.sizeOf4
  v4 := Try.zeroValue4
  t22 := Try.underlying105
  a22 := Try.isAgg105
  z22 := Try.sizeOf105
  v22 := Try.zeroValue105
  i3 := by kernel_rfl }
def Try.laysSortS_ren : Go.Shelf.Ren := ⟨fun | 190 => 50 | 125 => 74 | 258 => 73 | 128 => 102 | 129 => 103 | 302 => 93 | 303 => 94 | 304 => 95 | 305 => 96 | 306 => 97 | 307 => 98 | 308 => 99 | 309 => 100 | 310 => 101 | 333 => 110 | 329 => 111 | 330 => 112 | 334 => 113 | 335 => 114 | 336 => 115 | 344 => 127 | n => n, fun | 31 => 59 | 9 => 9 | 3 => 3 | 46 => 129 | 0 => 0 | 51 => 160 | 53 => 132 | 4 => 4 | 183 => 152 | 182 => 151 | 131 => 157 | 5 => 5 | 218 => 166 | 222 => 170 | 228 => 179 | 229 => 180 | n => n, fun | n => n⟩
theorem Try.laysSortS : Go.Proofs.Lays.n190 Try.prog Try.laysSortS_ren := {
  mixed := by kernel_rfl
  f125 := Try.func74.trans (congrArg some (by kernel_rfl))
  f128 := Try.func102.trans (congrArg some (by kernel_rfl))
  f129 := Try.func103.trans (congrArg some (by kernel_rfl))
  f190 := Try.func50.trans (congrArg some (by kernel_rfl))
  f258 := Try.func73.trans (congrArg some (by kernel_rfl))
  f302 := Try.func93.trans (congrArg some (by kernel_rfl))
  f303 := Try.func94.trans (congrArg some (by kernel_rfl))
  f304 := Try.func95.trans (congrArg some (by kernel_rfl))
  f305 := Try.func96.trans (congrArg some (by kernel_rfl))
  f306 := Try.func97.trans (congrArg some (by kernel_rfl))
  f307 := Try.func98.trans (congrArg some (by kernel_rfl))
  f308 := Try.func99.trans (congrArg some (by kernel_rfl))
  f309 := Try.func100.trans (congrArg some (by kernel_rfl))
  f310 := Try.func101.trans (congrArg some (by kernel_rfl))
  f329 := Try.func111.trans (congrArg some (by kernel_rfl))
  f330 := Try.func112.trans (congrArg some (by kernel_rfl))
  f333 := Try.func110.trans (congrArg some (by kernel_rfl))
  f334 := Try.func113.trans (congrArg some (by kernel_rfl))
  f335 := Try.func114.trans (congrArg some (by kernel_rfl))
  f336 := Try.func115.trans (congrArg some (by kernel_rfl))
  f344 := Try.func127.trans (congrArg some (by kernel_rfl))
  t0 := Try.underlying0
  a0 := Try.isAgg0
  z0 := Try.sizeOf0
  v0 := Try.zeroValue0
  t3 := Try.underlying3
  a3 := Try.isAgg3
  z3 := Try.sizeOf3
  v3 := Try.zeroValue3
  t4 := Try.underlying4
  a4 := Try.isAgg4
  z4 := Try.sizeOf4
  v4 := Try.zeroValue4
  t5 := Try.underlying5
  a5 := Try.isAgg5
  z5 := Try.sizeOf5
  v5 := Try.zeroValue5
  t9 := Try.underlying9
  a9 := Try.isAgg9
  z9 := Try.sizeOf9
  v9 := Try.zeroValue9
  t31 := Try.underlying59
  a31 := Try.isAgg59
  z31 := Try.sizeOf59
  v31 := Try.zeroValue59
  t46 := Try.underlying129
  a46 := Try.isAgg129
  z46 := Try.sizeOf129
  v46 := Try.zeroValue129
  t51 := Try.underlying160
  a51 := Try.isAgg160
  z51 := Try.sizeOf160
  v51 := Try.zeroValue160
  t53 := Try.underlying132
  a53 := Try.isAgg132
  z53 := Try.sizeOf132
  v53 := Try.zeroValue132
  t131 := Try.underlying157
  a131 := Try.isAgg157
  z131 := Try.sizeOf157
  v131 := Try.zeroValue157
  t182 := Try.underlying151
  a182 := Try.isAgg151
  z182 := Try.sizeOf151
  v182 := Try.zeroValue151
  t183 := Try.underlying152
  a183 := Try.isAgg152
  z183 := Try.sizeOf152
  v183 := Try.zeroValue152
  t218 := Try.underlying166
  a218 := Try.isAgg166
  z218 := Try.sizeOf166
  v218 := Try.zeroValue166
  t222 := Try.underlying170
  a222 := Try.isAgg170
  z222 := Try.sizeOf170
  v222 := Try.zeroValue170
  t228 := Try.underlying179
  a228 := Try.isAgg179
  z228 := Try.sizeOf179
  v228 := Try.zeroValue179
  t229 := Try.underlying180
  a229 := Try.isAgg180
  z229 := Try.sizeOf180
  v229 := Try.zeroValue180 }
end Go.Proofs
/- work.times hands on, rising, nought and the times at which something changes. -/
namespace Go.Proofs.Ytofkhcgkahkagaa
open Go.RowKit Go.Shelf Go.Sort Go.Proofs.YtofkhcgkahkagaaW.PrintWords Go.Proofs.YtofkhcgkahkagaaW.PrintLast Go.Proofs.YtofkhcgkahkagaaW.PrintMore Go.Proofs.Ytofkhcgkahkagaa.PPromiseLines
set_option linter.unusedVariables false
set_option linter.unusedSimpArgs false

/-- The times, rising. -/
def timesL (xs : List (Int × Int)) : List Int := Lib.compact ((0 :: xs.map (fun x => x.1)).mergeSort (fun x y => decide (x ≤ y)))

def IntEnc (x : Int) (args : Array Value) (_D : Nat → Prop) (_W : World) : Prop := args = #[.int .i64 x]

def TimesPre (Bw : Nat) (A : Option Addr) (c : Nat) (xs : List (Int × Int)) (W : World) : Prop :=
  W.heap[Bw]? = some (.cells #[.slice A xs.length c] 81 (0, 0)) ∧ Kd.C kCh W A xs.length xs ∧ xs.length ≤ c

theorem times_calls (A : Option Addr) (n c : Nat) (w : World) : Calls Try.prog 62 #[.agg #[.slice A n c]] w fun e w' => e = .returned (.func (.func 79) #[] #[.pointer (some ⟨w.heap.size, 0, none⟩)]) ∧ w' = w.alloc (.cells #[.slice A n c] 81) := by
  have hu := Try.underlying81
  go_enter Try.func62, Try.ntmps62
  go_wp2
  go_ret
  exact ⟨rfl, rfl⟩

theorem reps_int {R : Int → List Value → Prop} {zs : List Int} {cs : List Value} (h : Reps R 1 zs cs) (hR : ∀ p c, R p c → c = [.int .i64 p]) : cs = zs.map (Value.int .i64) := by
  apply List.ext_getElem?
  intro j
  by_cases hj : j < zs.length
  · have := hR _ _ (h.2 j _ (List.getElem?_eq_getElem hj))
    rw [Nat.mul_one] at this
    have h2 : ((cs.drop j).take 1)[0]? = cs[j]? := by rw [List.getElem?_take_of_lt (by omega), List.getElem?_drop, Nat.add_zero]
    rw [← h2, this]
    simp [hj]
  · rw [List.getElem?_eq_none (by have := h.1; omega), List.getElem?_eq_none (by simp; omega)]

/-- A row of whole numbers of the call's own, in the library's words. -/
theorem own_ints {w : World} {base : Nat} {ok : Nat → Prop} {v : Value} {zs : List Int} (hR : Kd.R (Kd.int .i64) 3 w base ok v zs) : w.ownsRow base 3 1 v zs.length (zs.map (Value.int .i64)) := by
  obtain ⟨_, inner, ho, hr⟩ := hR
  have := reps_int hr (fun p c h => h)
  subst this
  exact ho

/-- A row of the call's own, sorted by Go's library. -/
theorem sort_own (w : World) (base : Nat) (v : Value) (zs : List Int) (hO : w.ownsRow base 3 1 v zs.length (zs.map (Value.int .i64))) (hne : zs ≠ []) (hn : zs.length ≤ 200000) :
    ∃ g cap, v = .slice (some ⟨g, 0, none⟩) zs.length cap ∧ base ≤ g ∧ g < w.heap.size ∧
      Calls Try.prog 80 #[.slice (some ⟨g, 0, none⟩) zs.length cap] w fun e w' => e = .returned (.tuple #[]) ∧ w.grownBy w' (some g) ∧
        w'.ownsRow base 3 1 (.slice (some ⟨g, 0, none⟩) zs.length cap) zs.length ((zs.mergeSort fun x y => decide (x ≤ y)).map (Value.int .i64)) := by
  have hO2 := hO
  rcases hO2.2 with ⟨_, h0⟩ | ⟨g, cap, cur, rfl, hb, hg, hle, hm, hs, ht⟩
  · exact absurd (List.length_eq_zero_iff.1 h0) hne
  · have hlt : g < w.heap.size := (Array.getElem?_eq_some_iff.1 hg).1
    rw [Nat.mul_one] at ht
    refine ⟨g, cap, rfl, hb, hlt, ?_⟩
    refine (Any.slices_Sort_int Try.laysSort g 0 cap zs w (holds_of_blockI hg ht) hlt (by omega)).mono ?_
    rintro e w' ⟨rfl, n, os, rfl⟩
    refine ⟨rfl, grownBy_sortedI _, ownsRow_sortedI (by rw [List.length_mergeSort]) hb hg hle hm (by omega)⟩

theorem compact_len (zs : List Int) : (Lib.compact zs).length ≤ zs.length := by
  unfold Lib.compact Lib.compactUpTo
  rw [List.length_map]
  exact Nat.le_trans (List.length_filter_le _ _) (by simp)

/-- A row of the call's own, compacted by Go's library. -/
theorem compact_own (w : World) (base g cap : Nat) (zs : List Int) (hO : w.ownsRow base 3 1 (.slice (some ⟨g, 0, none⟩) zs.length cap) zs.length (zs.map (Value.int .i64))) (hn : zs.length ≤ 200000) :
    Calls Try.prog 81 #[.slice (some ⟨g, 0, none⟩) zs.length cap] w fun e w' => e = .returned (.slice (some ⟨g, 0, none⟩) (Lib.compact zs).length cap) ∧ w.grownBy w' (some g) ∧
        w'.ownsRow base 3 1 (.slice (some ⟨g, 0, none⟩) (Lib.compact zs).length cap) (Lib.compact zs).length ((Lib.compact zs).map (Value.int .i64)) := by
  have hO2 := hO
  rcases hO2.2 with ⟨h0, _⟩ | ⟨g', cap', cur, e0, hb, hg, hle, hm, hs, ht⟩
  · cases h0
  · injection e0 with e1 _ e3
    injection e1 with e1
    injection e1 with e1
    subst e1; subst e3
    rw [Nat.mul_one] at ht
    have hcl := compact_len zs
    refine (Any.slices_Compact_int Try.laysCompact g 0 cap zs w (holds_of_blockI hg ht) (by omega) hle).mono ?_
    rintro e w' ⟨rfl, q, rfl⟩
    have hlen : (Lib.compact zs ++ List.replicate (zs.length - (Lib.compact zs).length) (0 : Int)).length = zs.length := by rw [List.length_append, List.length_replicate]; omega
    refine ⟨rfl, ?_, ?_⟩
    · have := grownBy_sortedI (w := w) (g := g) (n := q) (os := #[]) (Lib.compact zs ++ List.replicate (zs.length - (Lib.compact zs).length) (0 : Int)).toArray
      have e : ∀ X : World, grow X #[] = X := fun X => by unfold grow; rw [Array.append_empty]
      rw [e] at this
      exact this
    · have := Lib.ownsRow_putRow (q := q) (k := (Lib.compact zs).length) hO hlen hcl
      rw [List.take_left] at this
      exact this

set_option maxRecDepth 100000 in
set_option maxHeartbeats 1000000 in
theorem times_iter (Bw : Nat) (A : Option Addr) (c : Nat) (xs : List (Int × Int)) (hn : xs.length ≤ 100000) :
    Iter Try.prog 79 #[.pointer (some ⟨Bw, 0, none⟩)] IntEnc (timesL xs) (fun _ => False) (fun _ => False) (TimesPre Bw A c xs) (fun _ => True) (fun _ _ => True) := by
  obtain ⟨ys, hyd⟩ : ∃ ys, timesL xs = ys := ⟨_, rfl⟩
  rw [hyd]
  have HY := Lib.hid hyd
  clear hyd
  intro W l J Jx D hP hJ hJx hD hR h0
  obtain ⟨hb, hC, hc⟩ := hP
  have hbl : Bw < W.heap.size := (Array.getElem?_eq_some_iff.1 hb).1
  have hcell : W.cell? ⟨Bw, 0, none⟩ = some (.slice A xs.length c) := by simp [World.cell?, hb]
  have hu := Try.underlying81
  have hu2 := Try.underlying117
  have hmax := hC.2.1
  refine callsIn_wide (n := 0).1 ?_
  refine callsIn_of_wp Try.func79 rfl trivial ?_ rfl
  simp only [Try.ntmps79, List.size_toArray, List.length_cons, List.length_nil, Nat.reduceAdd, Nat.reduceSub, Array.replicate_succ, Array.replicate_zero, List.push_toArray, List.append_toArray, List.nil_append, List.cons_append]
  refine wpIn_wide.2 ?_
  obtain ⟨W1, hW1⟩ : ∃ W1, W.alloc (.cells #[.int .i64 0] 3) = W1 := ⟨_, rfl⟩
  have hB1 : Below W.heap.size W W1 := by rw [← hW1]; exact (Below.refl _ W).alloc (Nat.le_refl _) _
  have hs1 : W1.heap.size = W.heap.size + 1 := by rw [← hW1]; simp
  have hcell1 : W1.cell? ⟨Bw, 0, none⟩ = some (.slice A xs.length c) := (hB1.cell (p := ⟨Bw, 0, none⟩) hbl).trans hcell
  have hR1 : Kd.R (Kd.int .i64) 3 W1 W.heap.size (fun _ => True) (.slice (some ⟨W.heap.size, 0, none⟩) 1 1) (0 :: (xs.take 0).map (fun x => x.1)) := by
    rw [← hW1]
    exact ⟨fun _ _ => trivial, [.int .i64 0], ⟨rfl, .inr ⟨W.heap.size, 1, #[.int .i64 0], rfl, Nat.le_refl _, heap_alloc_new W _, Nat.le_refl _, by decide, rfl, rfl⟩⟩, Reps.snoc (Reps.none _ _) rfl rfl⟩
  go_wp2
  go_loopw [3, 12] (fun v i wr => ∃ k : Nat, k ≤ xs.length ∧ i = .int .i64 k ∧ Kd.R (Kd.int .i64) 3 wr W.heap.size (fun _ => True) v (0 :: (xs.take k).map (fun x => x.1)) ∧ Below W.heap.size W wr)
    (fun _ i _ => xs.length - (intOf i).toNat)
  case atStart => exact ⟨0, Nat.zero_le _, rfl, hR1, hB1⟩
  case round =>
    obtain ⟨k, hk, rfl, hRk, hB⟩ := hrel
    clear hR1 hcell1 hW1 hB1 hs1
    by_cases hlt : k < xs.length
    · have hd : decide ((k : Int) < (xs.length : Int)) = true := decide_eq_true (by omega)
      obtain ⟨ad, rfl, hx0, hx1⟩ := at_ch hC hlt
      have hy0 := (hB.cell (World.block_lt_of_cell? W _ hx0)).trans hx0
      have hy1 := (hB.cell (World.block_lt_of_cell? W _ hx1)).trans hx1
      obtain ⟨y, hyy⟩ : ∃ y, y = xs[k] := ⟨_, rfl⟩
      rw [← hyy] at hy0 hy1
      have Hy := Aside0.mk hyy
      clear hyy hx0 hx1
      have hz := hB.size
      have hB2 := fun o => hB.alloc hz o
      have hR2 := fun o => Kd.R_alloc hRk o
      have hlen2 := List.length_take_le' k xs
      go_wp2_with ((with_reducible refine gate_builtin (b := .append) (xs := #[.tmp 16, .tmp 19]) rfl ?_); at_builtin; refine Kd.R_append (Kd.int .i64) (w0 := W) W.heap.size rfl (.tmp 16) (.tmp 19) 105 3 (.int .i64 0) 8 rfl Try.underlying105 info3 rfl (by decide) (by decide) _ (0 :: (xs.take k).map (fun x => x.1)) y.1 [.int .i64 y.1] (fun _ => True) (fun _ => False) rfl ?hx ?aP (fun k hk => hk.elim) (fun k hk => trivial) ?aO ?aB ?aS ?aL ?_; (case hx => rw [World.size_alloc]; rfl); (case aP => exact rfl); (case aO => exact hR2 _); (case aB => exact hB2 _); (case aS => rw [World.size_alloc]; omega); (case aL => rw [List.length_cons, List.length_map]; omega); intro v1 w1 hR1 hB1 hg1 hat1)
      refine ⟨⟨k + 1, by omega, by simp, ?_, hB1⟩, by simp [intOf]; omega⟩
      rw [take_snoc hlt, List.map_append, ← Hy.out]
      exact hR1
    · obtain rfl : k = xs.length := by omega
      have hd : decide ((xs.length : Int) < (xs.length : Int)) = false := decide_eq_false (by omega)
      rw [List.take_length] at hRk
      have hzl : (0 :: xs.map (fun x => x.1)).length ≤ 200000 := by rw [List.length_cons, List.length_map]; omega
      obtain ⟨g, cap, rfl, hg, hgl, hsort⟩ := sort_own wr W.heap.size _ _ (own_ints hRk) (by simp) hzl
      rw [List.length_cons, List.length_map] at hsort
      go_wp2_with fail
      refine hsort.mono ?_
      clear hsort
      rintro e w2 ⟨rfl, hG2, hO2⟩
      have hO2b : w2.ownsRow W.heap.size 3 1 (.slice (some ⟨g, 0, none⟩) ((0 :: xs.map (fun x => x.1)).mergeSort fun x y => decide (x ≤ y)).length cap) ((0 :: xs.map (fun x => x.1)).mergeSort fun x y => decide (x ≤ y)).length ((((0 :: xs.map (fun x => x.1)).mergeSort fun x y => decide (x ≤ y))).map (Value.int .i64)) := by
        rw [List.length_mergeSort, List.length_cons, List.length_map]; exact hO2
      have hcomp := compact_own w2 W.heap.size g cap _ hO2b (by rw [List.length_mergeSort]; exact hzl)
      rw [List.length_mergeSort, List.length_cons, List.length_map] at hcomp
      clear hO2b hO2
      have hys : timesL xs = Lib.compact ((0 :: xs.map (fun x => x.1)).mergeSort fun x y => decide (x ≤ y)) := rfl
      rw [← hys, HY.out] at hcomp
      clear hys
      go_wp2_with fail
      refine hcomp.mono ?_
      clear hcomp
      rintro e w3 ⟨rfl, hG3, hO3⟩
      have hB3 : Below W.heap.size W w3 := (hB.grown hG2 hB.size (fun j hj => by cases hj; exact hg)).grown hG3 (Nat.le_trans hB.size hG2.size) (fun j hj => by cases hj; exact hg)
      have hgl3 : g < w3.heap.size := Nat.lt_of_lt_of_le (Nat.lt_of_lt_of_le hgl hG2.size) hG3.size
      have h03 : J [] D w3 := hJ _ _ _ _ h0 ((Same.of_below hB3).mono (fun k hk => (hD k hk).1))
      have hmax3 : ys.length ≤ 9223372036854775807 := by rw [← HY.out]; exact Nat.le_trans (compact_len _) (by rw [List.length_mergeSort]; omega)
      clear hRk hB hG2 hG3 hcell
      go_wp2
      refine (wpIn_wide (n := 0)).1 ?_
      gi_loopw [27] (fun i wr => ∃ (k : Nat) (D' : Nat → Prop), k ≤ ys.length ∧ i = .int .i64 k ∧ J (ys.take k) D' wr ∧ (∀ j, D' j → j < wr.heap.size) ∧ (∀ j, D' j → D j ∨ w3.heap.size ≤ j) ∧ Same (fun j => j < w3.heap.size ∧ ¬ D j) w3 wr)
        (fun i _ => ys.length - (intOf i).toNat)
      case atStart => exact ⟨0, D, Nat.zero_le _, rfl, h03, fun k hk => Nat.lt_of_lt_of_le (hD k hk).1 hB3.size, fun k hk => .inl hk, Same.refl _ _⟩
      case round =>
        obtain ⟨k, D1, hk, rfl, hJs, hltD, hsub, hsame⟩ := hrel
        have hz3 := hB3.size
        have hsub2 : ∀ j, D1 j → D j ∨ W.heap.size ≤ j := fun j hj => (hsub j hj).imp id (fun h => Nat.le_trans hz3 h)
        have hsameW : Same (fun j => j < W.heap.size ∧ ¬ D j) W wr := (Same.of_below hB3).trans hsame (fun j hj => hj.1) (fun j hj => ⟨Nat.lt_of_lt_of_le hj.1 hz3, hj.2⟩)
        by_cases hlt : k < ys.length
        · have hcy : wr.cell? ⟨g, k, none⟩ = some (.int .i64 ys[k]) := by
            have h1 := hO3.cellAt k (by simpa using hlt)
            rw [hsame.cell (p := ⟨g, k, none⟩) ⟨hgl3, fun h => absurd (hD g h).1 (by omega)⟩]
            simpa [hlt] using h1
          have hsplit : ys = ys.take k ++ ys[k] :: ys.drop (k + 1) := by
            rw [List.getElem_cons_drop, List.take_append_drop]
          have hround := hR _ (ys[k]) _ D1 wr #[.int .i64 ys[k]] hsplit hJs hltD (Nat.le_trans hz3 hsame.size) hsub2 rfl
          obtain ⟨fn, tmps, assign, body, hy, hRd⟩ := hround
          have Hsplit := Lib.hid hsplit
          clear hsplit
          generalize hrk : ys[k] = rk at *
          have Hrk := Lib.hid hrk
          clear hrk
          gi_wp2
          refine ⟨rfl, hRd.mono ?_⟩
          rintro e W4 ⟨D3, hT, (⟨rfl, hJ3⟩ | ⟨rfl, hJx3⟩)⟩
          · gi_wp2
            go_roundw
            case rel => exact ⟨k + 1, D3, by omega, by go_num, by rw [List.take_succ_eq_append_getElem hlt, Hrk.out]; exact hJ3, hT.lt, fun j hj => by
              rcases hT.sub j hj with h1 | h1
              · exact hsub j h1
              · exact .inr (Nat.le_trans hsame.size h1), hsame.trans hT.same (fun _ hj => hj) (fun j hj => ⟨Nat.lt_of_lt_of_le hj.1 hsame.size, fun h1 => by
                rcases hsub j h1 with h2 | h2
                · exact hj.2 h2
                · exact absurd hj.1 (by omega)⟩)⟩
            case measure => simp [intOf]; omega
          · gi_wp2
            refine bodyPost_ret (results_none rfl _ _ _) rfl ?_
            exact Ended.mk D3 (fun j hj => by
              rcases hT.sub j hj with h1 | h1
              · exact hsub2 j h1
              · exact .inr (Nat.le_trans hsameW.size h1)) hT.lt (hsameW.trans hT.same (fun j hj => ⟨hj.1, hj.2.1⟩) (fun j hj => ⟨Nat.lt_of_lt_of_le hj.1 hsameW.size, fun h1 => by
                rcases hsub2 j h1 with h2 | h2
                · exact hj.2.1 h2
                · exact absurd hj.1 (by omega)⟩)) (.inr ⟨_, _, _, Hsplit.out, hJx3, trivial⟩)
        · obtain rfl : k = ys.length := by omega
          gi_wp2
          go_end0
          refine Ended.mk D1 hsub2 hltD (hsameW.mono (fun j hj => ⟨hj.1, hj.2.1⟩)) (.inl ⟨?_, trivial⟩)
          rw [List.take_length] at hJs
          exact hJs
end Go.Proofs.Ytofkhcgkahkagaa
/- How an argument's reading tells its list, over the words alone; and what hangs on the blocks alone. -/
namespace Go.Proofs.Ytofkhcgkahkagaa
open Go.RowKit Go.Deep Go.Proofs.YtofkhcgkahkagaaW.PrintWords Go.Proofs.YtofkhcgkahkagaaW.PrintLast Go.Proofs.YtofkhcgkahkagaaW.PrintMore
set_option linter.unusedVariables false

/-- What d tells of cells hangs on the blocks alone. -/
def Local {α : Type} (d : Kd α) : Prop := ∀ (w W : World) (x : α) (cs : List Value), (∀ k, k < w.heap.size → W.heap[k]? = w.heap[k]?) → d.K w x cs → d.K W x cs

theorem local_int (k : IntKind) : Local (Kd.int k) := fun w W x cs _ h => h
theorem local_pair {α β : Type} {d : Kd α} {e : Kd β} (hd : Local d) (he : Local e) : Local (Kd.pair d e) := fun w W x cs hW h => by
  obtain ⟨c0, c1, h1, h2, h3⟩ := h
  exact ⟨c0, c1, h1, hd w W _ _ hW h2, he w W _ _ hW h3⟩
theorem local_row {α : Type} {d : Kd α} (hd : Local d) (w W : World) (A : Option Addr) (n : Nat) (xs : List α) (hW : ∀ k, k < w.heap.size → W.heap[k]? = w.heap[k]?) (h : d.C w A n xs) : d.C W A n xs := by
  refine ⟨h.1, h.2.1, fun hn => ?_⟩
  obtain ⟨ad, e, hc⟩ := h.2.2 hn
  refine ⟨ad, e, fun j p hj => ?_⟩
  obtain ⟨c, hs, hr, hcell⟩ := hc j p hj
  refine ⟨c, hs, hd w W p c hW hr, fun i u hu => ?_⟩
  have h1 := hcell i u hu
  rw [World.cell?_of_block (w := w) (hW _ ?_)]
  · exact h1
  · exact World.block_lt_of_cell? w _ h1

/-- A row that is read now is read in every world that has this one's blocks. -/
theorem F_all {α : Type} {d : Kd α} (hd : Local d) {w : World} {A : Option Addr} {n : Nat} {xs : List α} (h : d.C w A n xs) : Kd.F d w (fun k => k < w.heap.size) A n xs :=
  fun W hW => local_row hd w W A n xs (fun k hk => hW k hk hk) h
end Go.Proofs.Ytofkhcgkahkagaa
/- work.line lists from when on how many are free. -/
namespace Go.Proofs.Ytofkhcgkahkagaa
open Go.RowKit Go.Shelf Go.Proofs.YtofkhcgkahkagaaW.PrintWords Go.Proofs.YtofkhcgkahkagaaW.PrintLast Go.Proofs.YtofkhcgkahkagaaW.PrintMore Go.Proofs.Ytofkhcgkahkagaa.PPromiseLines
attribute [local go_sem] Oper.semAt_some
set_option linter.unusedVariables false
set_option linter.unusedSimpArgs false

def sumAt (xs : List (Int × Int)) (t : Int) : Int × Int := sumOf (freeL t xs)
def pushS (xs : List (Int × Int)) (acc : List S58) (t : Int) : List S58 := if acc.getLast?.map (fun s => s.f1) = some (sumAt xs t).1 then acc else acc ++ [⟨t, (sumAt xs t).1⟩]
def lineR (xs : List (Int × Int)) : List Int → List S58 → List S58 × Int
  | [], acc => (acc, 0)
  | t :: ts, acc => if (sumAt xs t).2 = 0 then lineR xs ts (pushS xs acc t) else ([], (sumAt xs t).2)
def lineF (xs : List (Int × Int)) : List S58 × Int := lineR xs (timesL xs) []

theorem lineR_ok (xs : List (Int × Int)) : ∀ (pre ts : List Int) (acc : List S58), (∀ t ∈ pre, (sumAt xs t).2 = 0) → lineR xs (pre ++ ts) acc = lineR xs ts (pre.foldl (pushS xs) acc)
  | [], ts, acc, _ => rfl
  | t :: pre, ts, acc, h => by
    rw [List.cons_append, lineR, if_pos (h t (by simp)), List.foldl_cons]
    exact lineR_ok xs pre ts _ (fun y hy => h y (by simp [hy]))

theorem local_ch : Local kCh := local_pair (local_int _) (local_int _)

theorem pushS_len (xs : List (Int × Int)) (acc : List S58) (t : Int) : (pushS xs acc t).length ≤ acc.length + 1 := by
  unfold pushS
  split
  · omega
  · simp
theorem foldl_len (xs : List (Int × Int)) : ∀ (pre : List Int) (acc : List S58), (pre.foldl (pushS xs) acc).length ≤ acc.length + pre.length
  | [], acc => by simp
  | t :: pre, acc => by
    have h1 := foldl_len xs pre (pushS xs acc t)
    have h2 := pushS_len xs acc t
    rw [List.foldl_cons, List.length_cons]
    omega

/-- line's blocks between two rounds. -/
structure LineI (w : World) (A : Option Addr) (c : Nat) (xs : List (Int × Int)) (pre : List Int) (D : Nat → Prop) (V : World) : Prop where
  all : ∀ t ∈ pre, (sumAt xs t).2 = 0
  own : ∀ k, k < w.heap.size + 4 → D k
  low : Same (fun k => k < w.heap.size) w V
  b0 : V.heap[w.heap.size]? = some (.cells #[.slice A xs.length c] 81 (0, 0))
  b1 : V.heap[w.heap.size + 1]? = some (.cells #[.slice none 0 0] 50 (0, 0))
  b2 : V.heap[w.heap.size + 2]? = some (.cells #[.int .i64 0] 27 (0, 0))
  out : ∃ v, V.heap[w.heap.size + 3]? = some (.cells #[v] 50 (0, 0)) ∧ Kd.R k58 58 V (w.heap.size + 4) (fun k => D k ∧ w.heap.size + 4 ≤ k) v (pre.foldl (pushS xs) [])

theorem LineI.same {w : World} {A : Option Addr} {c : Nat} {xs : List (Int × Int)} {pre : List Int} {D : Nat → Prop} {V V' : World} (h : LineI w A c xs pre D V) (hs : Same D V V') : LineI w A c xs pre D V' := by
  obtain ⟨h0, h1, h2, h3, h4, h5, v, h6, h7⟩ := h
  exact ⟨h0, h1, h2.trans' (hs.mono (fun k hk => h1 k (by omega))), (hs.block _ (h1 _ (by omega))).trans h3, (hs.block _ (h1 _ (by omega))).trans h4, (hs.block _ (h1 _ (by omega))).trans h5, v, (hs.block _ (h1 _ (by omega))).trans h6, Kd.R_step h7 (fun k hk _ => hs.block k hk.1)⟩

/-- What a round that returns has left. -/
def LineX (w : World) (xs : List (Int × Int)) (pre : List Int) (D : Nat → Prop) (V : World) : Prop :=
  ∃ pre2 t, pre = pre2 ++ [t] ∧ (∀ y ∈ pre2, (sumAt xs y).2 = 0) ∧ (sumAt xs t).2 ≠ 0 ∧ (∀ k, k < w.heap.size + 4 → D k) ∧ Same (fun k => k < w.heap.size) w V ∧
    V.heap[w.heap.size + 1]? = some (.cells #[.slice none 0 0] 50 (0, 0)) ∧ V.heap[w.heap.size + 2]? = some (.cells #[.int .i64 (sumAt xs t).2] 27 (0, 0))

/-- How work.line ends. -/
def LineEnd (w : World) (xs : List (Int × Int)) (e : Ending) (w' : World) : Prop :=
  ∃ A c, e = .returned (.tuple #[.slice A (lineF xs).1.length c, .int .i64 (lineF xs).2]) ∧ Kd.R k58 58 w' w.heap.size (fun k => w.heap.size ≤ k) (.slice A (lineF xs).1.length c) (lineF xs).1 ∧ Below w.heap.size w w'

/-- A round that goes on has left this. -/
def LineDone (w : World) (A : Option Addr) (c : Nat) (xs : List (Int × Int)) (pre : List Int) (D : Nat → Prop) (V W : World) : Prop := ∃ D', Turn D D' V W ∧ LineI w A c xs pre D' W

theorem LineI.stay {w : World} {A : Option Addr} {c : Nat} {xs : List (Int × Int)} {pre : List Int} {t : Int} {D : Nat → Prop} {V V2 : World} (h : LineI w A c xs pre D V) (hlt : ∀ k, D k → k < V.heap.size) (hb : Below V.heap.size V V2) (h0 : (sumAt xs t).2 = 0)
    (hp : pushS xs (pre.foldl (pushS xs) []) t = pre.foldl (pushS xs) []) : LineDone w A c xs (pre ++ [t]) D V V2 := by
  have h2 := h.same ((Same.of_below hb).mono hlt)
  refine ⟨D, ⟨fun k hk => .inl hk, fun k hk => Nat.lt_of_lt_of_le (hlt k hk) hb.size, (Same.of_below hb).mono (fun k hk => hk.1)⟩, ⟨fun y hy => ?_, h2.own, h2.low, h2.b0, h2.b1, h2.b2, ?_⟩⟩
  · rcases List.mem_append.1 hy with hy | hy
    · exact h.all y hy
    · rw [List.mem_singleton.1 hy]; exact h0
  · rw [List.foldl_append]
    show ∃ v, _ ∧ Kd.R k58 58 V2 _ _ v (pushS xs (pre.foldl (pushS xs) []) t)
    rw [hp]
    exact h2.out

theorem LineI.push {w : World} {A : Option Addr} {c : Nat} {xs : List (Int × Int)} {pre : List Int} {t : Int} {D : Nat → Prop} {V V2 : World} {v : Value} (h : LineI w A c xs pre D V) (hlt : ∀ k, D k → k < V.heap.size) (hb : Below V.heap.size V V2) (h0 : (sumAt xs t).2 = 0)
    (hp : pushS xs (pre.foldl (pushS xs) []) t = pre.foldl (pushS xs) [] ++ [⟨t, (sumAt xs t).1⟩]) (hlen : pre.length ≤ 200000)
    (b3 : V.heap[w.heap.size + 3]? = some (.cells #[v] 50 (0, 0))) (hR : Kd.R k58 58 V (w.heap.size + 4) (fun k => D k ∧ w.heap.size + 4 ≤ k) v (pre.foldl (pushS xs) [])) :
    ∃ A1 n1 c1 w1, (Builtin.append_ #[50, 50] 50 #[v, .slice (some ⟨V2.heap.size, 0, none⟩) 1 1]).run Try.prog (V2.alloc (.cells #[.int .i64 t, .int .i64 (sumAt xs t).1] 58)) = .ok (.slice A1 n1 c1) w1 ∧
      w1.cell? ⟨w.heap.size + 1 + 1 + 1, 0, none⟩ = some v ∧ w1.frozen? ⟨w.heap.size + 1 + 1 + 1, 0, none⟩ = false ∧ LineDone w A c xs (pre ++ [t]) D V (w1.setCell ⟨w.heap.size + 1 + 1 + 1, 0, none⟩ (.slice A1 n1 c1)) := by
  have hl := foldl_len xs pre []
  rw [List.length_nil] at hl
  have hl3 : w.heap.size + 3 < V.heap.size := (Array.getElem?_eq_some_iff.1 b3).1
  have hz := hb.size
  have hR2 := Kd.R_below hR hb
  have hRb := Kd.R_bound hR
  obtain ⟨A1, c1, w1, hrun, hR1, hg1⟩ := append_made k58 (P := Try.prog) (w.heap.size + 4) 50 50 58 _ 16 Try.underlying50 info58 rfl (by decide) (by decide) V2 v _ ⟨t, (sumAt xs t).1⟩ [.int .i64 t, .int .i64 (sumAt xs t).1] (fun k => (D k ∧ w.heap.size + 4 ≤ k) ∨ V.heap.size ≤ k) (fun _ => False)
    (k58_mkM _ _ _ ⟨t, (sumAt xs t).1⟩) (fun k hk => hk.elim) (fun k hk => .inr (by omega)) (Kd.R_mono hR2 (fun k hk => .inl hk)) (by omega) (by omega)
  have hne : ∀ k, k < w.heap.size + 4 → some k ≠ v.ownBlock := fun k hk he => by
    have := (hR.1 k he.symm).2
    omega
  have hkeep : ∀ k, k < V.heap.size → some k ≠ v.ownBlock → w1.heap[k]? = V.heap[k]? := fun k hk hk2 => (hg1.block k (by omega) hk2).trans (hb.block k hk)
  have b3w : w1.heap[w.heap.size + 1 + 1 + 1]? = some (.cells #[v] 50 (0, 0)) := (hkeep _ (by omega) (hne _ (by omega))).trans b3
  have hz1 := hg1.size
  refine ⟨A1, _, c1, w1, hrun, by simp [World.cell?, b3w], by simp [World.frozen?, b3w], fun k => D k ∨ (V.heap.size ≤ k ∧ k < w1.heap.size), ⟨fun k hk => hk.elim .inl (fun h => .inr h.1), fun k hk => ?_, ?_⟩, ⟨fun y hy => ?_, fun k hk => .inl (h.own k hk), ?_, ?_, ?_, ?_, _, blk_set b3w 0 _, ?_⟩⟩
  · rcases hk with hk | hk
    · have := hlt k hk; simp [World.setCell]; omega
    · simpa [World.setCell] using hk.2
  · refine ⟨hg1.os.trans hb.os, hg1.tape.trans hb.tape, hg1.output.trans hb.output, by simp [World.setCell]; omega, fun k hk => (Below.heap_setCell _ _ _ _ (fun e => hk.2 (by rw [show k = w.heap.size + 1 + 1 + 1 from e]; exact h.own _ (by omega)))).trans (hkeep k hk.1 (fun he => hk.2 (hR.1 k he.symm).1))⟩
  · rcases List.mem_append.1 hy with hy | hy
    · exact h.all y hy
    · rw [List.mem_singleton.1 hy]; exact h0
  · refine ⟨hg1.os.trans (hb.os.trans h.low.os), hg1.tape.trans (hb.tape.trans h.low.tape), hg1.output.trans (hb.output.trans h.low.output), by simp [World.setCell]; have := h.low.size; omega, fun k hk => (Below.heap_setCell _ _ _ _ (show k ≠ w.heap.size + 1 + 1 + 1 by omega)).trans ((hkeep k (by omega) (hne k (by omega))).trans (h.low.block k hk))⟩
  · exact blk_far ((hkeep _ (by omega) (hne _ (by omega))).trans h.b0) (show w.heap.size ≠ w.heap.size + 1 + 1 + 1 by omega) _
  · exact blk_far ((hkeep _ (by omega) (hne _ (by omega))).trans h.b1) (show w.heap.size + 1 ≠ w.heap.size + 1 + 1 + 1 by omega) _
  · exact blk_far ((hkeep _ (by omega) (hne _ (by omega))).trans h.b2) (show w.heap.size + 2 ≠ w.heap.size + 1 + 1 + 1 by omega) _
  · rw [List.foldl_append]
    show Kd.R k58 58 _ _ _ _ (pushS xs (pre.foldl (pushS xs) []) t)
    rw [hp]
    refine Kd.R_mono (Kd.R_far (Kd.R_bound hR1) (p := ⟨w.heap.size + 1 + 1 + 1, 0, none⟩) (fun k hk => ?_) _) (fun k hk => ?_)
    · exact Nat.ne_of_gt (show w.heap.size + 3 < k from by have := hk.2.1; omega)
    · exact ⟨hk.1.elim (fun h => .inl h.1) (fun h => .inr ⟨h, hk.2.2.1⟩), hk.2.1⟩

set_option maxRecDepth 100000 in
set_option maxHeartbeats 4000000 in
theorem line_calls (A : Option Addr) (c : Nat) (xs : List (Int × Int)) (hn : xs.length ≤ 90000) (hx : Ch64 xs) (w : World) (hF : Kd.C kCh w A xs.length xs) (hc : xs.length ≤ c) :
    Calls Try.prog 41 #[.agg #[.slice A xs.length c]] w (LineEnd w xs) := by
  refine callsIn_wide (n := 0).1 ?_
  refine callsIn_of_wp_marks Try.func41 rfl trivial ?_ rfl
  simp only [Try.ntmps41, List.size_toArray, List.length_cons, List.length_nil, Nat.reduceAdd, Nat.reduceSub, Array.replicate_succ, Array.replicate_zero, List.push_toArray, List.append_toArray, List.nil_append, List.cons_append]
  have hu := Try.underlying81
  gi_wp2_with fail
  refine ⟨trivial, rfl, (callsIn_wide.2 (times_calls A _ c _)).mono ?_⟩
  rintro e w' ⟨rfl, rfl⟩
  gi_wp2
  obtain ⟨W1, hW1⟩ : ∃ W1, ((((w.alloc (.cells #[.slice A xs.length c] 81)).alloc (.cells #[.slice none 0 0] 50)).alloc (.cells #[.int .i64 0] 27)).alloc (.cells #[.slice none 0 0] 50)).alloc (.cells #[.slice A xs.length c] 81) = W1 := ⟨_, rfl⟩
  rw [hW1]
  have hB1 : Below w.heap.size w W1 := by rw [← hW1]; exact (((((Below.refl _ w).alloc (Nat.le_refl _) _).alloc (by simp) _).alloc (by simp <;> omega) _).alloc (by simp <;> omega) _).alloc (by simp <;> omega) _
  have hs1 : W1.heap.size = w.heap.size + 5 := by rw [← hW1]; simp
  have c0 : W1.heap[w.heap.size]? = some (.cells #[.slice A xs.length c] 81 (0, 0)) := by
    rw [← hW1]
    exact (Below.heap_alloc _ _ _ (by simp <;> omega)).trans ((Below.heap_alloc _ _ _ (by simp <;> omega)).trans ((Below.heap_alloc _ _ _ (by simp <;> omega)).trans ((Below.heap_alloc _ _ _ (by simp)).trans (heap_alloc_new w _))))
  have c1 : W1.heap[w.heap.size + 1]? = some (.cells #[.slice none 0 0] 50 (0, 0)) := by
    rw [← hW1]
    have := heap_alloc_new (w.alloc (.cells #[.slice A xs.length c] 81)) (.cells #[.slice none 0 0] 50)
    rw [World.size_alloc] at this
    exact (Below.heap_alloc _ _ _ (by simp <;> omega)).trans ((Below.heap_alloc _ _ _ (by simp <;> omega)).trans ((Below.heap_alloc _ _ _ (by simp)).trans this))
  have c2 : W1.heap[w.heap.size + 2]? = some (.cells #[.int .i64 0] 27 (0, 0)) := by
    rw [← hW1]
    have := heap_alloc_new ((w.alloc (.cells #[.slice A xs.length c] 81)).alloc (.cells #[.slice none 0 0] 50)) (.cells #[.int .i64 0] 27)
    rw [World.size_alloc, World.size_alloc] at this
    exact (Below.heap_alloc _ _ _ (by simp <;> omega)).trans ((Below.heap_alloc _ _ _ (by simp)).trans this)
  have c3 : W1.heap[w.heap.size + 3]? = some (.cells #[.slice none 0 0] 50 (0, 0)) := by
    rw [← hW1]
    have := heap_alloc_new (((w.alloc (.cells #[.slice A xs.length c] 81)).alloc (.cells #[.slice none 0 0] 50)).alloc (.cells #[.int .i64 0] 27)) (.cells #[.slice none 0 0] 50)
    rw [World.size_alloc, World.size_alloc, World.size_alloc] at this
    exact (Below.heap_alloc _ _ _ (by simp)).trans this
  have c4 : W1.heap[w.heap.size + 4]? = some (.cells #[.slice A xs.length c] 81 (0, 0)) := by
    rw [← hW1]
    have := heap_alloc_new ((((w.alloc (.cells #[.slice A xs.length c] 81)).alloc (.cells #[.slice none 0 0] 50)).alloc (.cells #[.int .i64 0] 27)).alloc (.cells #[.slice none 0 0] 50)) (.cells #[.slice A xs.length c] 81)
    rw [World.size_alloc, World.size_alloc, World.size_alloc, World.size_alloc] at this
    exact this
  clear hW1
  have hFa := F_all local_ch hF
  have hFat : ∀ V : World, Same (fun k => k < w.heap.size) w V → Kd.C kCh V A xs.length xs := fun V hV => hFa V (fun k hk _ => hV.block k hk)
  clear hFa
  have h0 : LineI w A c xs [] (fun k => k < w.heap.size + 4) W1 := ⟨by simp, fun k hk => hk, Same.of_below hB1, c0, c1, c2, _, c3, Kd.R_nil _ _ _ _ _⟩
  have htl : (timesL xs).length ≤ 100000 := by
    refine Nat.le_trans (compact_len _) ?_
    rw [List.length_mergeSort, List.length_cons, List.length_map]
    omega
  refine wp_range (gf := 79) (lb := #[.pointer (some ⟨w.heap.size + 4, 0, none⟩)]) rfl (enters_of Try.func79 (by kernel_rfl) rfl) (times_iter (w.heap.size + 4) A c xs (by omega))
    (fun V hV => ⟨(hV.block _ (by omega)).trans c4, hFat V ((Same.of_below hB1).trans' ((Same.of_below hV).mono (fun k hk => by omega))), hc⟩) (fun k hk => hk.elim) (fun x args D W h => by rw [h]; rfl) (fun x args D D' W h _ => h)
    (fun k => k < w.heap.size + 4) (fun k hk => ⟨by omega, fun h => h⟩)
    (fun pre D V => LineI w A c xs pre D V) (fun cd pre D V => cd = .ret ∧ LineX w xs pre D V)
    ?hI ?hIx h0 ?round ?done ?stop
  case hI => exact fun pre D A B h hs => h.same hs
  case hIx =>
    rintro cd pre D A B ⟨hcd, pre2, t, h1, h2, h3, h4, h5, h6, h7⟩ hs
    exact ⟨hcd, pre2, t, h1, h2, h3, h4, h5.trans' (hs.mono (fun k hk => h4 k (by omega))), (hs.block _ (h4 _ (by omega))).trans h6, (hs.block _ (h4 _ (by omega))).trans h7⟩
  case round =>
    rintro l' pre t post D1 V Vb args hxx hl' hnl _ _ hIb hlt hsz hsub rfl hsame hsize
    have hltb : ∀ k, D1 k → k < Vb.heap.size := fun k hk => by rw [← hsize]; exact hlt k hk
    have hCb := hFat Vb hIb.low
    have hlen : pre.length ≤ 200000 := by
      have := congrArg List.length hxx
      rw [List.length_append, List.length_cons] at this
      omega
    have hfree := free_calls A c xs t Vb hCb hc hx (by omega)
    have hc0 : Vb.cell? ⟨w.heap.size, 0, none⟩ = some (.slice A xs.length c) := (blk_cell hIb.b0 0).trans rfl
    obtain ⟨v, b3, hR⟩ := hIb.out
    have Hs1 := Lib.hid hs1
    have Hxx := Lib.hid hxx
    have Hsz := Lib.hid hsize
    clear hs1 hxx hsize c0 c1 c2 c3 c4 h0 hF hFat hB1
    gi_wp2
    refine ⟨trivial, ?_⟩
    gi_wp2_with fail
    refine ⟨trivial, rfl, (CallsIn.inRound l' (callsIn_wide.2 hfree)).mono ?_⟩
    clear hfree
    rintro e W2 ⟨rfl, hb2⟩
    have hsum : sumOf (freeL t xs) = sumAt xs t := rfl
    rw [hsum]
    clear hsum
    by_cases he : (sumAt xs t).2 = 0
    · have he2 : ((sumAt xs t).2 != 0) = false := by rw [he]; rfl
      obtain ⟨Av, cv, rfl⟩ := Kd.R_slice hR
      have b3w := (hb2.block _ (hltb _ (hIb.own _ (by omega)))).trans b3
      have hc3 : W2.cell? ⟨w.heap.size + 1 + 1 + 1, 0, none⟩ = some (.slice Av (pre.foldl (pushS xs) []).length cv) := (blk_cell b3w 0).trans rfl
      have hpush := fun hp => hIb.push hltb hb2 he hp hlen b3 hR
      have hstay := fun hp => hIb.stay hltb hb2 he hp
      have hrd := Kd.R_reads' (Kd.R_below hR hb2)
      have hl := foldl_len xs pre []
      rw [List.length_nil] at hl
      obtain ⟨acc, hacc⟩ : ∃ acc, pre.foldl (pushS xs) [] = acc := ⟨_, rfl⟩
      rw [hacc] at hc3 hpush hstay hrd hl
      have He := Lib.hid he
      clear hacc hR b3 b3w he hCb hIb
      rcases List.eq_nil_or_concat acc with rfl | ⟨ys, y, hcat⟩
      · obtain ⟨A1, n1, c1, w1, hrun, hw1, hw2, D', hT, hI2⟩ := hpush (by unfold pushS; rw [if_neg (by simp)])
        have hl0 : ((([] : List S58).length : Int) == 0) = true := rfl
        clear hpush hstay hrd
        gi_wp2_with (refine wpListIn_append_run rfl _ _ _ rfl hrun ?_)
        exact ⟨D', hT, hI2⟩
      · rw [List.concat_eq_append] at hcat
        subst hcat
        have hl0 : (((ys ++ [y]).length : Int) == 0) = false := by simp; omega
        obtain ⟨ad, rfl, hx0, hx1⟩ := at_T58 hrd.2.2 (ys.length : Int) (by omega) (by simp <;> omega)
        have hy : rd_T58 (ys ++ [y]) (ys.length : Int) = y := by unfold rd_T58; simp
        rw [hy, Int.toNat_natCast] at hx0 hx1
        clear hy hrd
        have hgl : (ys ++ [y]).getLast? = some y := by simp
        by_cases hn1 : y.f1 = (sumAt xs t).1
        · have hI2 := hstay (by unfold pushS; rw [if_pos (by rw [hgl, Option.map_some, hn1])])
          have hb1 : (y.f1 != (sumAt xs t).1) = false := by rw [hn1]; simp
          have Hn1 := Lib.hid hn1
          have HI2 := Lib.hid hI2
          clear hpush hstay hn1 hI2 hgl
          simp only [List.length_append, List.length_singleton] at hc3 hl0 hl
          gi_wp2
          obtain ⟨D', hT, hI2⟩ := HI2.out
          exact ⟨D', hT, hI2⟩
        · obtain ⟨A1, n1, c1, w1, hrun, hw1, hw2, D', hT, hI2⟩ := hpush (by unfold pushS; rw [if_neg (by rw [hgl, Option.map_some]; simpa using hn1)])
          have hb1 : (y.f1 != (sumAt xs t).1) = true := by simpa using hn1
          clear hpush hstay hn1 hgl
          simp only [List.length_append, List.length_singleton] at hc3 hl0 hl hrun hw1
          gi_wp2_with (refine wpListIn_append_run rfl _ _ _ rfl hrun ?_)
          exact ⟨D', hT, hI2⟩
    · have he2 : ((sumAt xs t).2 != 0) = true := by simpa using he
      have b1w := (hb2.block _ (hltb _ (hIb.own _ (by omega)))).trans hIb.b1
      have b2w := (hb2.block _ (hltb _ (hIb.own _ (by omega)))).trans hIb.b2
      have hc1 : W2.cell? ⟨w.heap.size + 1, 0, none⟩ = some (.slice none 0 0) := (blk_cell b1w 0).trans rfl
      have hf1 : W2.frozen? ⟨w.heap.size + 1, 0, none⟩ = false := blk_frozen b1w 0
      have hc2 : W2.cell? ⟨w.heap.size + 1 + 1, 0, none⟩ = some (.int .i64 0) := (blk_cell b2w 0).trans rfl
      have hf2 : W2.frozen? ⟨w.heap.size + 1 + 1, 0, none⟩ = false := blk_frozen b2w 0
      gi_wp2
      have hlt2 : ∀ k, D1 k → k < W2.heap.size := fun k hk => Nat.lt_of_lt_of_le (hltb k hk) hb2.size
      have ht0 : Turn D1 D1 Vb W2 := ⟨fun k hk => .inl hk, hlt2, (Same.of_below hb2).mono (fun k hk => hk.1)⟩
      have ht := (ht0.trans (Turn.set hlt2 (p := ⟨w.heap.size + 1, 0, none⟩) (hIb.own _ (show w.heap.size + 1 < w.heap.size + 4 by omega)) (.slice none 0 0))).trans (Turn.set (fun k hk => by simpa [World.setCell] using hlt2 k hk) (p := ⟨w.heap.size + 1 + 1, 0, none⟩) (hIb.own _ (show w.heap.size + 1 + 1 < w.heap.size + 4 by omega)) (.int .i64 (sumAt xs t).2))
      refine ⟨D1, ht, rfl, pre, t, rfl, hIb.all, he, hIb.own, ?_, blk_far (blk_set b1w 0 _) (show w.heap.size + 1 ≠ w.heap.size + 1 + 1 by omega) _, blk_set (blk_far b2w (show w.heap.size + 2 ≠ w.heap.size + 1 by omega) _) 0 _⟩
      refine (hIb.low.trans' ((Same.of_below hb2).mono (fun k hk => by have := hltb _ (hIb.own k (by omega)); exact this))).trans' ⟨rfl, rfl, rfl, by simp [World.setCell], fun k hk => (Below.heap_setCell _ _ _ _ (show k ≠ w.heap.size + 1 + 1 by omega)).trans (Below.heap_setCell _ _ _ _ (show k ≠ w.heap.size + 1 by omega))⟩
  case done =>
    rintro K D1 V hK hsub hnK hlt hsame hI _ hdef
    obtain ⟨v, b3, hR⟩ := hI.out
    have hlF : lineF xs = ((timesL xs).foldl (pushS xs) [], 0) := by
      unfold lineF
      have := lineR_ok xs (timesL xs) [] [] hI.all
      rw [List.append_nil] at this
      rw [this]
      rfl
    obtain ⟨A2, cv, rfl⟩ := Kd.R_slice hR
    have hlow := hI.low
    have b1 := hI.b1
    have b2 := hI.b2
    obtain ⟨acc, hacc⟩ : ∃ acc, (timesL xs).foldl (pushS xs) [] = acc := ⟨_, rfl⟩
    rw [hacc] at hR hlF b3
    clear hacc hI c0 c1 c2 c3 c4 h0 hF hFat
    have hc1 : V.cell? ⟨w.heap.size + 1, 0, none⟩ = some (.slice none 0 0) := (blk_cell b1 0).trans rfl
    have hf1 : V.frozen? ⟨w.heap.size + 1, 0, none⟩ = false := blk_frozen b1 0
    have hc2 : V.cell? ⟨w.heap.size + 1 + 1, 0, none⟩ = some (.int .i64 0) := (blk_cell b2 0).trans rfl
    have hf2 : V.frozen? ⟨w.heap.size + 1 + 1, 0, none⟩ = false := blk_frozen b2 0
    have hc3 : V.cell? ⟨w.heap.size + 1 + 1 + 1, 0, none⟩ = some (.slice A2 acc.length cv) := (blk_cell b3 0).trans rfl
    have hKne : K ≠ w.heap.size + 1 ∧ K ≠ w.heap.size + 1 + 1 := ⟨by omega, by omega⟩
    obtain ⟨V2, hV2⟩ : ∃ V2, (V.setCell ⟨w.heap.size + 1, 0, none⟩ (.slice A2 acc.length cv)).setCell ⟨w.heap.size + 1 + 1, 0, none⟩ (.int .i64 0) = V2 := ⟨_, rfl⟩
    have hg : Same (fun k => k ≠ w.heap.size + 1 ∧ k ≠ w.heap.size + 1 + 1) V V2 := by
      rw [← hV2]
      exact ⟨rfl, rfl, rfl, by simp [World.setCell], fun k hk => (Below.heap_setCell _ _ _ _ hk.2).trans (Below.heap_setCell _ _ _ _ hk.1)⟩
    have hdef2 : V2.heap[K]? = some (.deferred (some [])) := (hg.block K hKne).trans hdef
    have e1 : V2.heap[w.heap.size + 1]? = some (.cells #[.slice A2 acc.length cv] 50 (0, 0)) := by rw [← hV2]; exact blk_far (blk_set b1 0 _) (show w.heap.size + 1 ≠ w.heap.size + 1 + 1 by omega) _
    have e2 : V2.heap[w.heap.size + 1 + 1]? = some (.cells #[.int .i64 0] 27 (0, 0)) := by rw [← hV2]; exact blk_set (blk_far b2 (show w.heap.size + 2 ≠ w.heap.size + 1 by omega) _) 0 _
    obtain ⟨V3, hV3⟩ : ∃ V3, V2.putObj K (.deferred none) = V3 := ⟨_, rfl⟩
    have hg3 : Same (fun k => k ≠ K) V2 V3 := by rw [← hV3]; exact Same.putObj _ _ _
    have q0 : V3.cell? ⟨w.heap.size + 1, 0, none⟩ = some (.slice A2 acc.length cv) := (blk_cell ((hg3.block _ (Ne.symm hKne.1)).trans e1) 0).trans rfl
    have q1 : V3.cell? ⟨w.heap.size + 1 + 1, 0, none⟩ = some (.int .i64 0) := (blk_cell ((hg3.block _ (Ne.symm hKne.2)).trans e2) 0).trans rfl
    have hR3 : Kd.R k58 58 V3 w.heap.size (fun k => w.heap.size ≤ k) (.slice A2 acc.length cv) acc := by
      refine Kd.R_lower (Kd.R_mono (Kd.R_step (Kd.R_step hR (fun k hk _ => hg.block k ⟨by have := hk.2; omega, by have := hk.2; omega⟩)) (fun k hk _ => hg3.block k (fun h => hnK (h ▸ hk.1)))) (fun k hk => by have := hk.2; omega)) (by omega)
    have hlow2 : Below w.heap.size w V3 := Same.below (hlow.trans' ((hg.mono (fun k hk => ⟨by omega, by omega⟩)).trans' (hg3.mono (fun k hk => by omega))))
    have hfin : LineEnd w xs (.returned (.tuple #[.slice A2 acc.length cv, .int .i64 0])) V3 := ⟨A2, cv, by rw [hlF], by rw [hlF]; exact hR3, hlow2⟩
    have HS1 := Lib.hid hs1
    have HV3 := Lib.hid hV3
    clear hs1 hV3 hlF
    gi_wp2
    refine ⟨by simp, .inl ⟨_, _, rfl, run_takeDeferred hdef2, ?_⟩⟩
    rw [HV3.out]
    exact ⟨.tuple #[.slice A2 acc.length cv, .int .i64 0], by simp [results, Try.results41, go_sem, q0, q1], hfin⟩
  case stop =>
    rintro K cd pre t post D1 V hxx hK hsub hnK hlt hsame ⟨rfl, pre2, t2, hp, hall, her, hown, hlow, b1, b2⟩ _ hdef
    obtain ⟨rfl, rfl⟩ : pre = pre2 ∧ t = t2 := by
      have h1 := congrArg List.length hp
      simp only [List.length_append, List.length_singleton] at h1
      have h2 := List.append_inj hp (by omega)
      exact ⟨h2.1, by simpa using h2.2⟩
    have hlF : lineF xs = ([], (sumAt xs t).2) := by
      unfold lineF
      rw [hxx, lineR_ok xs pre (t :: post) [] hall, lineR, if_neg her]
    have hKne : K ≠ w.heap.size + 1 ∧ K ≠ w.heap.size + 1 + 1 := ⟨by omega, by omega⟩
    obtain ⟨V3, hV3⟩ : ∃ V3, V.putObj K (.deferred none) = V3 := ⟨_, rfl⟩
    have hg3 : Same (fun k => k ≠ K) V V3 := by rw [← hV3]; exact Same.putObj _ _ _
    have q0 : V3.cell? ⟨w.heap.size + 1, 0, none⟩ = some (.slice none 0 0) := (blk_cell ((hg3.block _ (Ne.symm hKne.1)).trans b1) 0).trans rfl
    have q1 : V3.cell? ⟨w.heap.size + 1 + 1, 0, none⟩ = some (.int .i64 (sumAt xs t).2) := (blk_cell ((hg3.block _ (Ne.symm hKne.2)).trans b2) 0).trans rfl
    have hlow2 : Below w.heap.size w V3 := Same.below (hlow.trans' (hg3.mono (fun k hk => by omega)))
    have hfin : LineEnd w xs (.returned (.tuple #[.slice none 0 0, .int .i64 (sumAt xs t).2])) V3 := ⟨none, 0, by rw [hlF]; rfl, by rw [hlF]; exact Kd.R_nil _ _ _ _ _, hlow2⟩
    have HS1 := Lib.hid hs1
    have HV3 := Lib.hid hV3
    clear hs1 hV3 hall hp hxx hlF c0 c1 c2 c3 c4 h0 hF hFat
    gi_wp2
    refine ⟨by simp, .inl ⟨_, _, rfl, run_takeDeferred hdef, ?_⟩⟩
    rw [HV3.out]
    exact ⟨.tuple #[.slice none 0 0, .int .i64 (sumAt xs t).2], by simp [results, Try.results41, go_sem, q0, q1], hfin⟩
end Go.Proofs.Ytofkhcgkahkagaa
