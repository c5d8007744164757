/- Texts behind the row of PromiseKeeps, part 2. -/
import Derived.Test.YtofkhcgkahkagaaU01
import Derived.Test.YtofkhcgkahkagaaProg
import Derived.Below
import Derived.Deep.Draws
import Derived.Deep.AppendLies
import Derived.Maps.AppendAt
import Derived.OwnWalk
import Derived.Laws.BytesArg
import Derived.Laws.MakeOwn
import Derived.Laws.OwnMore
import Derived.Deep.OwnRows
import Derived.Tactics
import Derived.Lib.ConvBytes
import Derived.Laws.Slices
import Derived.WalkKit
import Derived.KernelRfl
import Derived.RowKit3
import Derived.Deep.LoopGhost
import Derived.Deep.QuietTactic
import Derived.BigQuiet
import Derived.WideLaws
import Derived.Deep.DeepCutAuto
import Derived.Deep.CutBlock
import Derived.Deep.RegionHeld3
import Derived.Laws.Rows
import Derived.Lib.AppendStr
import Derived.ArgAppend
import Derived.Laws.IdiomCopy
import Derived.OrdersHeld
import Derived.Laws.BitsLemmas
import Derived.RowKit
import Derived.Maps.GroupsBeside
import Derived.WideKeyEntry
import Derived.DeepKeys5
/- Contracts of the reference's functions, printed by print.sh for PromiseLines, cut by a program to those that the claim uses. -/
namespace Go.Proofs.Ytofkhcgkahkagaa.PPromiseLines
open Go.RowKit Go.Proofs.YtofkhcgkahkagaaW.PrintWords Go.Proofs.YtofkhcgkahkagaaW.PrintLast Go.Proofs.YtofkhcgkahkagaaW.PrintMore
attribute [local go_sem] max2_int min2_int max_two min_two max_three min_three max_four min_four   -- for this text's walks alone
set_option linter.unusedVariables false
set_option linter.unusedSimpArgs false



def errW : Option Int → Value
  | none => .nilIface
  | some c => .iface 0 (.int .i64 c)
theorem errW_none : errW none = .nilIface := rfl
theorem errW_some (c : Int) : errW (some c) = .iface 0 (.int .i64 c) := rfl

theorem info3 : (Try.prog.info? 3).map (fun i => (i.zero, i.size, i.bytes)) = some (some (.int .i64 0), 1, 8) := by kernel_rfl
theorem info58 : (Try.prog.info? 58).map (fun i => (i.zero, i.size, i.bytes)) = some (some (.agg #[(.int .i64 0), (.int .i64 0)]), 2, 16) := by kernel_rfl
theorem info100 : (Try.prog.info? 100).map (fun i => (i.zero, i.size, i.bytes)) = some (some (.agg #[(.string ⟨#[]⟩), (.string ⟨#[]⟩), (.int .i64 0), (.int .i64 0)]), 4, 48) := by kernel_rfl
theorem info107 : (Try.prog.info? 107).map (fun i => (i.zero, i.size, i.bytes)) = some (some (.agg #[(.int .i64 0), (.string ⟨#[]⟩), (.string ⟨#[]⟩), (.int .i64 0), (.int .i64 0), (.int .i64 0)]), 6, 64) := by kernel_rfl
theorem info111 : (Try.prog.info? 111).map (fun i => (i.zero, i.size, i.bytes)) = some (some (.agg #[(.int .i64 0), (.string ⟨#[]⟩), (.string ⟨#[]⟩), (.int .i64 0), (.int .i64 0), (.int .i64 0)]), 6, 64) := by kernel_rfl
-- the values' own types
/-! #### struct type 100 -/
structure S100 where
  f0 : ByteArray
  f1 : ByteArray
  f2 : Int
  f3 : Int
def z100 : S100 := ⟨(⟨#[]⟩ : ByteArray), (⟨#[]⟩ : ByteArray), (0 : Int), (0 : Int)⟩
def k100 : Kd S100 := Kd.iso (Kd.pair Kd.string (Kd.pair Kd.string (Kd.pair (Kd.int .i64) (Kd.int .i64)))) (fun x : S100 => (x.f0, x.f1, x.f2, x.f3))
theorem k100_open {w : World} {x : S100} {cs : List Value} (h : k100.K w x cs) : cs = [.string x.f0, .string x.f1, .int .i64 x.f2, .int .i64 x.f3] := by
  obtain ⟨_, _, rfl, rfl, ⟨_, _, rfl, rfl, ⟨_, _, rfl, rfl, rfl⟩⟩⟩ := h
  exact rfl
theorem k100_mkM (w : World) (base : Nat) (ok : Nat → Prop) (x : S100)  : k100.M w base ok x [.string x.f0, .string x.f1, .int .i64 x.f2, .int .i64 x.f3] := ⟨[.string x.f0], [.string x.f1, .int .i64 x.f2, .int .i64 x.f3], rfl, rfl, ⟨[.string x.f1], [.int .i64 x.f2, .int .i64 x.f3], rfl, rfl, ⟨[.int .i64 x.f2], [.int .i64 x.f3], rfl, rfl, rfl⟩⟩⟩
def rd_T100 (xs : List S100) (i : Int) : S100 := xs.getD i.toNat z100
theorem at_T100 {w : World} {A : Option Addr} {n : Nat} {xs : List S100} (h : Kd.C k100 w A n xs) (i : Int) (h0 : 0 ≤ i) (h1 : i < n) : ∃ ad , A = some ad ∧ w.cell? (ad.add (i.toNat * 4)) = some (.string (rd_T100 xs i).f0) ∧ w.cell? ⟨(ad.add (i.toNat * 4)).block, (ad.add (i.toNat * 4)).off + 1, none⟩ = some (.string (rd_T100 xs i).f1) ∧ w.cell? ⟨(ad.add (i.toNat * 4)).block, (ad.add (i.toNat * 4)).off + 2, none⟩ = some (.int .i64 (rd_T100 xs i).f2) ∧ w.cell? ⟨(ad.add (i.toNat * 4)).block, (ad.add (i.toNat * 4)).off + 3, none⟩ = some (.int .i64 (rd_T100 xs i).f3) := by
  obtain ⟨ad, c, e, _, hK, hc0⟩ := Kd.C_get h z100 i h0 h1
  have hc : ∀ j u, c[j]? = some u → w.cell? (ad.add (i.toNat * 4 + j)) = some u := hc0
  obtain rfl := k100_open hK
  exact ⟨ad, e, hc 0 _ rfl, by rw [← add_field _ _ 1 (by omega)]; exact hc 1 _ rfl, by rw [← add_field _ _ 2 (by omega)]; exact hc 2 _ rfl, by rw [← add_field _ _ 3 (by omega)]; exact hc 3 _ rfl⟩

/-! #### struct type 107 -/
structure S107 where
  f0 : Int
  f1 : ByteArray
  f2 : ByteArray
  f3 : Int
  f4 : Int
  f5 : Int
def z107 : S107 := ⟨(0 : Int), (⟨#[]⟩ : ByteArray), (⟨#[]⟩ : ByteArray), (0 : Int), (0 : Int), (0 : Int)⟩
def k107 : Kd S107 := Kd.iso (Kd.pair (Kd.int .i64) (Kd.pair Kd.string (Kd.pair Kd.string (Kd.pair (Kd.int .i64) (Kd.pair (Kd.int .i64) (Kd.int .i64)))))) (fun x : S107 => (x.f0, x.f1, x.f2, x.f3, x.f4, x.f5))
theorem k107_open {w : World} {x : S107} {cs : List Value} (h : k107.K w x cs) : cs = [.int .i64 x.f0, .string x.f1, .string x.f2, .int .i64 x.f3, .int .i64 x.f4, .int .i64 x.f5] := by
  obtain ⟨_, _, rfl, rfl, ⟨_, _, rfl, rfl, ⟨_, _, rfl, rfl, ⟨_, _, rfl, rfl, ⟨_, _, rfl, rfl, rfl⟩⟩⟩⟩⟩ := h
  exact rfl
theorem k107_mkM (w : World) (base : Nat) (ok : Nat → Prop) (x : S107)  : k107.M w base ok x [.int .i64 x.f0, .string x.f1, .string x.f2, .int .i64 x.f3, .int .i64 x.f4, .int .i64 x.f5] := ⟨[.int .i64 x.f0], [.string x.f1, .string x.f2, .int .i64 x.f3, .int .i64 x.f4, .int .i64 x.f5], rfl, rfl, ⟨[.string x.f1], [.string x.f2, .int .i64 x.f3, .int .i64 x.f4, .int .i64 x.f5], rfl, rfl, ⟨[.string x.f2], [.int .i64 x.f3, .int .i64 x.f4, .int .i64 x.f5], rfl, rfl, ⟨[.int .i64 x.f3], [.int .i64 x.f4, .int .i64 x.f5], rfl, rfl, ⟨[.int .i64 x.f4], [.int .i64 x.f5], rfl, rfl, rfl⟩⟩⟩⟩⟩
def rd_T107 (xs : List S107) (i : Int) : S107 := xs.getD i.toNat z107
theorem at_T107 {w : World} {A : Option Addr} {n : Nat} {xs : List S107} (h : Kd.C k107 w A n xs) (i : Int) (h0 : 0 ≤ i) (h1 : i < n) : ∃ ad , A = some ad ∧ w.cell? (ad.add (i.toNat * 6)) = some (.int .i64 (rd_T107 xs i).f0) ∧ w.cell? ⟨(ad.add (i.toNat * 6)).block, (ad.add (i.toNat * 6)).off + 1, none⟩ = some (.string (rd_T107 xs i).f1) ∧ w.cell? ⟨(ad.add (i.toNat * 6)).block, (ad.add (i.toNat * 6)).off + 2, none⟩ = some (.string (rd_T107 xs i).f2) ∧ w.cell? ⟨(ad.add (i.toNat * 6)).block, (ad.add (i.toNat * 6)).off + 3, none⟩ = some (.int .i64 (rd_T107 xs i).f3) ∧ w.cell? ⟨(ad.add (i.toNat * 6)).block, (ad.add (i.toNat * 6)).off + 4, none⟩ = some (.int .i64 (rd_T107 xs i).f4) ∧ w.cell? ⟨(ad.add (i.toNat * 6)).block, (ad.add (i.toNat * 6)).off + 5, none⟩ = some (.int .i64 (rd_T107 xs i).f5) := by
  obtain ⟨ad, c, e, _, hK, hc0⟩ := Kd.C_get h z107 i h0 h1
  have hc : ∀ j u, c[j]? = some u → w.cell? (ad.add (i.toNat * 6 + j)) = some u := hc0
  obtain rfl := k107_open hK
  exact ⟨ad, e, hc 0 _ rfl, by rw [← add_field _ _ 1 (by omega)]; exact hc 1 _ rfl, by rw [← add_field _ _ 2 (by omega)]; exact hc 2 _ rfl, by rw [← add_field _ _ 3 (by omega)]; exact hc 3 _ rfl, by rw [← add_field _ _ 4 (by omega)]; exact hc 4 _ rfl, by rw [← add_field _ _ 5 (by omega)]; exact hc 5 _ rfl⟩

/-! #### struct type 111 -/
structure S111 where
  f0 : Int
  f1 : ByteArray
  f2 : ByteArray
  f3 : Int
  f4 : Int
  f5 : Int
def z111 : S111 := ⟨(0 : Int), (⟨#[]⟩ : ByteArray), (⟨#[]⟩ : ByteArray), (0 : Int), (0 : Int), (0 : Int)⟩
def k111 : Kd S111 := Kd.iso (Kd.pair (Kd.int .i64) (Kd.pair Kd.string (Kd.pair Kd.string (Kd.pair (Kd.int .i64) (Kd.pair (Kd.int .i64) (Kd.int .i64)))))) (fun x : S111 => (x.f0, x.f1, x.f2, x.f3, x.f4, x.f5))
theorem k111_open {w : World} {x : S111} {cs : List Value} (h : k111.K w x cs) : cs = [.int .i64 x.f0, .string x.f1, .string x.f2, .int .i64 x.f3, .int .i64 x.f4, .int .i64 x.f5] := by
  obtain ⟨_, _, rfl, rfl, ⟨_, _, rfl, rfl, ⟨_, _, rfl, rfl, ⟨_, _, rfl, rfl, ⟨_, _, rfl, rfl, rfl⟩⟩⟩⟩⟩ := h
  exact rfl
theorem k111_mkM (w : World) (base : Nat) (ok : Nat → Prop) (x : S111)  : k111.M w base ok x [.int .i64 x.f0, .string x.f1, .string x.f2, .int .i64 x.f3, .int .i64 x.f4, .int .i64 x.f5] := ⟨[.int .i64 x.f0], [.string x.f1, .string x.f2, .int .i64 x.f3, .int .i64 x.f4, .int .i64 x.f5], rfl, rfl, ⟨[.string x.f1], [.string x.f2, .int .i64 x.f3, .int .i64 x.f4, .int .i64 x.f5], rfl, rfl, ⟨[.string x.f2], [.int .i64 x.f3, .int .i64 x.f4, .int .i64 x.f5], rfl, rfl, ⟨[.int .i64 x.f3], [.int .i64 x.f4, .int .i64 x.f5], rfl, rfl, ⟨[.int .i64 x.f4], [.int .i64 x.f5], rfl, rfl, rfl⟩⟩⟩⟩⟩
def rd_T111 (xs : List S111) (i : Int) : S111 := xs.getD i.toNat z111
theorem at_T111 {w : World} {A : Option Addr} {n : Nat} {xs : List S111} (h : Kd.C k111 w A n xs) (i : Int) (h0 : 0 ≤ i) (h1 : i < n) : ∃ ad , A = some ad ∧ w.cell? (ad.add (i.toNat * 6)) = some (.int .i64 (rd_T111 xs i).f0) ∧ w.cell? ⟨(ad.add (i.toNat * 6)).block, (ad.add (i.toNat * 6)).off + 1, none⟩ = some (.string (rd_T111 xs i).f1) ∧ w.cell? ⟨(ad.add (i.toNat * 6)).block, (ad.add (i.toNat * 6)).off + 2, none⟩ = some (.string (rd_T111 xs i).f2) ∧ w.cell? ⟨(ad.add (i.toNat * 6)).block, (ad.add (i.toNat * 6)).off + 3, none⟩ = some (.int .i64 (rd_T111 xs i).f3) ∧ w.cell? ⟨(ad.add (i.toNat * 6)).block, (ad.add (i.toNat * 6)).off + 4, none⟩ = some (.int .i64 (rd_T111 xs i).f4) ∧ w.cell? ⟨(ad.add (i.toNat * 6)).block, (ad.add (i.toNat * 6)).off + 5, none⟩ = some (.int .i64 (rd_T111 xs i).f5) := by
  obtain ⟨ad, c, e, _, hK, hc0⟩ := Kd.C_get h z111 i h0 h1
  have hc : ∀ j u, c[j]? = some u → w.cell? (ad.add (i.toNat * 6 + j)) = some u := hc0
  obtain rfl := k111_open hK
  exact ⟨ad, e, hc 0 _ rfl, by rw [← add_field _ _ 1 (by omega)]; exact hc 1 _ rfl, by rw [← add_field _ _ 2 (by omega)]; exact hc 2 _ rfl, by rw [← add_field _ _ 3 (by omega)]; exact hc 3 _ rfl, by rw [← add_field _ _ 4 (by omega)]; exact hc 4 _ rfl, by rw [← add_field _ _ 5 (by omega)]; exact hc 5 _ rfl⟩

/-! #### struct type 44 -/
structure S44 where
  f0 : ByteArray
  f1 : Int
  f2 : Int
def z44 : S44 := ⟨(⟨#[]⟩ : ByteArray), (0 : Int), (0 : Int)⟩
def k44 : Kd S44 := Kd.iso (Kd.pair Kd.string (Kd.pair (Kd.int .i64) (Kd.int .i64))) (fun x : S44 => (x.f0, x.f1, x.f2))
theorem k44_open {w : World} {x : S44} {cs : List Value} (h : k44.K w x cs) : cs = [.string x.f0, .int .i64 x.f1, .int .i64 x.f2] := by
  obtain ⟨_, _, rfl, rfl, ⟨_, _, rfl, rfl, rfl⟩⟩ := h
  exact rfl
theorem k44_mkM (w : World) (base : Nat) (ok : Nat → Prop) (x : S44)  : k44.M w base ok x [.string x.f0, .int .i64 x.f1, .int .i64 x.f2] := ⟨[.string x.f0], [.int .i64 x.f1, .int .i64 x.f2], rfl, rfl, ⟨[.int .i64 x.f1], [.int .i64 x.f2], rfl, rfl, rfl⟩⟩
def rd_T44 (xs : List S44) (i : Int) : S44 := xs.getD i.toNat z44
theorem at_T44 {w : World} {A : Option Addr} {n : Nat} {xs : List S44} (h : Kd.C k44 w A n xs) (i : Int) (h0 : 0 ≤ i) (h1 : i < n) : ∃ ad , A = some ad ∧ w.cell? (ad.add (i.toNat * 3)) = some (.string (rd_T44 xs i).f0) ∧ w.cell? ⟨(ad.add (i.toNat * 3)).block, (ad.add (i.toNat * 3)).off + 1, none⟩ = some (.int .i64 (rd_T44 xs i).f1) ∧ w.cell? ⟨(ad.add (i.toNat * 3)).block, (ad.add (i.toNat * 3)).off + 2, none⟩ = some (.int .i64 (rd_T44 xs i).f2) := by
  obtain ⟨ad, c, e, _, hK, hc0⟩ := Kd.C_get h z44 i h0 h1
  have hc : ∀ j u, c[j]? = some u → w.cell? (ad.add (i.toNat * 3 + j)) = some u := hc0
  obtain rfl := k44_open hK
  exact ⟨ad, e, hc 0 _ rfl, by rw [← add_field _ _ 1 (by omega)]; exact hc 1 _ rfl, by rw [← add_field _ _ 2 (by omega)]; exact hc 2 _ rfl⟩

/-! #### struct type 58 -/
structure S58 where
  f0 : Int
  f1 : Int
def z58 : S58 := ⟨(0 : Int), (0 : Int)⟩
def k58 : Kd S58 := Kd.iso (Kd.pair (Kd.int .i64) (Kd.int .i64)) (fun x : S58 => (x.f0, x.f1))
theorem k58_open {w : World} {x : S58} {cs : List Value} (h : k58.K w x cs) : cs = [.int .i64 x.f0, .int .i64 x.f1] := by
  obtain ⟨_, _, rfl, rfl, rfl⟩ := h
  exact rfl
theorem k58_mkM (w : World) (base : Nat) (ok : Nat → Prop) (x : S58)  : k58.M w base ok x [.int .i64 x.f0, .int .i64 x.f1] := ⟨[.int .i64 x.f0], [.int .i64 x.f1], rfl, rfl, rfl⟩
def rd_T58 (xs : List S58) (i : Int) : S58 := xs.getD i.toNat z58
theorem at_T58 {w : World} {A : Option Addr} {n : Nat} {xs : List S58} (h : Kd.C k58 w A n xs) (i : Int) (h0 : 0 ≤ i) (h1 : i < n) : ∃ ad , A = some ad ∧ w.cell? (ad.add (i.toNat * 2)) = some (.int .i64 (rd_T58 xs i).f0) ∧ w.cell? ⟨(ad.add (i.toNat * 2)).block, (ad.add (i.toNat * 2)).off + 1, none⟩ = some (.int .i64 (rd_T58 xs i).f1) := by
  obtain ⟨ad, c, e, _, hK, hc0⟩ := Kd.C_get h z58 i h0 h1
  have hc : ∀ j u, c[j]? = some u → w.cell? (ad.add (i.toNat * 2 + j)) = some u := hc0
  obtain rfl := k58_open hK
  exact ⟨ad, e, hc 0 _ rfl, by rw [← add_field _ _ 1 (by omega)]; exact hc 1 _ rfl⟩

end Go.Proofs.Ytofkhcgkahkagaa.PPromiseLines
/- promise.may tells whether receipts may be: at most 1000, each of a name, one or more, and no time below nought. -/
namespace Go.Proofs.Ytofkhcgkahkagaa
open Go.RowKit Go.Proofs.YtofkhcgkahkagaaW.PrintWords Go.Proofs.YtofkhcgkahkagaaW.PrintLast Go.Proofs.YtofkhcgkahkagaaW.PrintMore Go.Proofs.Ytofkhcgkahkagaa.PPromiseLines
set_option linter.unusedVariables false
set_option linter.unusedSimpArgs false

def nameB (s : ByteArray) : Bool := decide (1 ≤ s.size ∧ s.size ≤ 64)
def recB (r : S44) : Bool := nameB r.f0 && decide (1 ≤ r.f1) && decide (0 ≤ r.f2)
def mayB (l : List S44) : Bool := decide (l.length ≤ 1000) && l.all recB

def recV (r : S44) : Value := .agg #[.string r.f0, .int .i64 r.f1, .int .i64 r.f2]

set_option maxRecDepth 100000 in
theorem bad_calls (r : S44) (w : World) : Calls Try.prog 60 #[recV r] w fun e w' => e = .returned (.bool (!recB r)) ∧ Below w.heap.size w w' := by
  have hu := Try.underlying44
  unfold recV
  go_enter Try.func60, Try.ntmps60
  go_wp2
  all_goals
    go_ret
    refine ⟨congrArg Ending.returned (congrArg Value.bool ?_), (Below.refl _ w).alloc (Nat.le_refl _) _⟩
    rw [Bool.eq_iff_iff]
    simp only [recB, nameB, Bool.not_eq_true', Bool.and_eq_false_iff, decide_eq_false_iff_not, decide_eq_true_iff, Bool.not_and, Bool.or_eq_true, true_iff, reduceCtorEq, false_iff]
    omega

set_option maxRecDepth 100000 in
theorem index_bad (A : Option Addr) (c : Nat) (l : List S44) (w : World) (hC : Kd.C k44 w A l.length l) (hc : l.length ≤ c) :
    Calls Try.prog 78 #[.slice A l.length c, .func (.func 60) #[] #[]] w fun e w' => (∃ i : Int, e = .returned (.int .i64 i) ∧ decide (0 ≤ i) = !l.all recB) ∧ Below w.heap.size w w' := by
  have hu := Try.underlying44
  have hmax := hC.2.1
  go_enter Try.func78, Try.ntmps78
  go_wp2
  go_loopw [8] (fun i wr => ∃ k : Nat, k ≤ l.length ∧ i = .int .i64 k ∧ (∀ r ∈ l.take k, recB r = true) ∧ Below w.heap.size w wr)
    (fun i _ => l.length - (intOf i).toNat)
  case atStart => exact ⟨0, Nat.zero_le _, rfl, by simp, Below.refl _ _⟩
  case round =>
    obtain ⟨k, hk, rfl, hall, hB⟩ := hrel
    by_cases hlt : k < l.length
    · have hd : decide ((k : Int) < (l.length : Int)) = true := decide_eq_true (by omega)
      obtain ⟨ad, rfl, hx0, hx1, hx2⟩ := at_T44 hC k (by omega) (by omega)
      rw [Int.toNat_natCast] at hx0 hx1 hx2
      have hy0 := (hB.cell (World.block_lt_of_cell? w _ hx0)).trans hx0
      have hy1 := (hB.cell (World.block_lt_of_cell? w _ hx1)).trans hx1
      have hy2 := (hB.cell (World.block_lt_of_cell? w _ hx2)).trans hx2
      have hr : rd_T44 l k = l[k] := by unfold rd_T44; rw [Int.toNat_natCast, List.getD_eq_getElem?_getD, List.getElem?_eq_getElem hlt]; rfl
      rw [hr] at hy0 hy1 hy2
      obtain ⟨r, hrr⟩ : ∃ r, r = l[k] := ⟨_, rfl⟩
      rw [← hrr] at hy0 hy1 hy2
      have Hr := Aside0.mk hrr
      clear hrr hr hx0 hx1 hx2
      have hbad := fun w => bad_calls r w
      unfold recV at hbad
      go_wp2_with fail
      refine (hbad _).mono ?_
      rintro e w2 ⟨rfl, hB2⟩
      clear hbad hy0 hy1 hy2
      cases hb : recB r with
      | true =>
        rw [Bool.not_true]
        go_wp2
        refine ⟨⟨k + 1, by omega, by simp, ?_, hB.trans (hB2.mono hB.size)⟩, by simp [intOf]; omega⟩
        intro r2 hr2
        rw [List.take_add_one, List.getElem?_eq_getElem hlt] at hr2
        rcases List.mem_append.1 hr2 with h | h
        · exact hall r2 h
        · obtain rfl : r2 = l[k] := by simpa using h
          rw [← Hr.out]; exact hb
      | false =>
        rw [Bool.not_false]
        go_wp2
        go_ret
        refine ⟨⟨_, rfl, ?_⟩, hB.trans (hB2.mono hB.size)⟩
        rw [show l.all recB = false from List.all_eq_false.2 ⟨l[k], List.getElem_mem hlt, by rw [← Hr.out, hb]; simp⟩]
        simp
    · obtain rfl : k = l.length := by omega
      have hd : decide ((l.length : Int) < (l.length : Int)) = false := decide_eq_false (by omega)
      go_wp2
      go_ret
      refine ⟨⟨_, rfl, ?_⟩, hB⟩
      rw [show l.all recB = true from List.all_eq_true.2 (fun r hr => hall r (by rw [List.take_length]; exact hr))]
      rfl

set_option maxRecDepth 100000 in
theorem may_calls (A : Option Addr) (c : Nat) (l : List S44) (w : World) (hC : Kd.C k44 w A l.length l) (hc : l.length ≤ c) :
    Calls Try.prog 39 #[.slice A l.length c] w fun e w' => e = .returned (.bool (mayB l)) ∧ Below w.heap.size w w' := by
  have hcon : ∀ w, Kd.C k44 w A l.length l → Calls Try.prog 59 #[.slice A l.length c, .func (.func 60) #[] #[]] w fun e w' => e = .returned (.bool (!l.all recB)) ∧ Below w.heap.size w w' := by
    intro w hC
    go_enter Try.func59, Try.ntmps59
    go_wp2_with (go_at_call 78; refine (index_bad A c l _ hC hc).mono ?_; rintro e w2 ⟨⟨i, rfl, hi⟩, hB2⟩)
    go_ret
    exact ⟨rfl, hB2⟩
  go_enter Try.func39, Try.ntmps39
  by_cases h : (l.length : Int) ≤ 1000
  · have hd : decide ((l.length : Int) ≤ 1000) = true := decide_eq_true h
    go_wp2_with (go_at_call 59; refine (hcon _ hC).mono ?_; rintro e w2 ⟨rfl, hB2⟩)
    go_ret
    exact ⟨by simp [mayB, show l.length ≤ 1000 by omega], hB2⟩
  · have hd : decide ((l.length : Int) ≤ 1000) = false := decide_eq_false h
    go_wp2_with (go_at_call 59; refine (hcon _ hC).mono ?_; rintro e w2 ⟨rfl, hB2⟩)
    go_ret
    exact ⟨by simp [mayB, show ¬ l.length ≤ 1000 by omega], hB2⟩
end Go.Proofs.Ytofkhcgkahkagaa
/- promise.told lists the changes of a sku. -/
namespace Go.Proofs.Ytofkhcgkahkagaa
open Go.RowKit Go.Proofs.YtofkhcgkahkagaaW.PrintWords Go.Proofs.YtofkhcgkahkagaaW.PrintLast Go.Proofs.YtofkhcgkahkagaaW.PrintMore Go.Proofs.Ytofkhcgkahkagaa.PPromiseLines
set_option linter.unusedVariables false
set_option linter.unusedSimpArgs false

abbrev kCh : Kd (Int × Int) := Kd.pair (Kd.int .i64) (Kd.int .i64)
theorem info_ch : (Try.prog.info? 117).map (fun i => (i.zero, i.size, i.bytes)) = some (some (.agg #[.int .i64 0, .int .i64 0]), 2, 16) := by kernel_rfl

/-- Block B holds the work whose changes are xs; they lie in newer blocks. -/
def WorkAt (B : Nat) (xs : List (Int × Int)) (W : World) : Prop := ∃ v, W.heap[B]? = some (.cells #[v] 81 (0, 0)) ∧ Kd.R kCh 117 W (B + 1) (fun k => B + 1 ≤ k) v xs

theorem WorkAt.lt {B : Nat} {xs : List (Int × Int)} {W : World} (h : WorkAt B xs W) : B < W.heap.size := by
  obtain ⟨v, h, _⟩ := h
  exact (Array.getElem?_eq_some_iff.1 h).1
theorem WorkAt.below {B : Nat} {xs : List (Int × Int)} {W W' : World} (h : WorkAt B xs W) (hB : Below W.heap.size W W') : WorkAt B xs W' := by
  have hl := h.lt
  obtain ⟨v, h1, h2⟩ := h
  exact ⟨v, (hB.block B hl).trans h1, Kd.R_below h2 hB⟩

/-- The same, and the changes lie in none of block z. -/
def WorkZ (B z : Nat) (xs : List (Int × Int)) (W : World) : Prop := ∃ v, W.heap[B]? = some (.cells #[v] 81 (0, 0)) ∧ Kd.R kCh 117 W (B + 1) (fun k => B + 1 ≤ k ∧ k ≠ z) v xs
theorem WorkZ.plain {B z : Nat} {xs : List (Int × Int)} {W : World} (h : WorkZ B z xs W) : WorkAt B xs W := by
  obtain ⟨v, h1, h2⟩ := h
  exact ⟨v, h1, Kd.R_mono h2 (fun k hk => hk.1)⟩
theorem WorkAt.fresh {B : Nat} {xs : List (Int × Int)} {W : World} (h : WorkAt B xs W) (o : Obj) : WorkZ B W.heap.size xs (W.alloc o) := by
  have hl := h.lt
  obtain ⟨v, h1, h2⟩ := h
  refine ⟨v, ((Below.refl _ W).alloc (Nat.le_refl _) o |>.block B hl).trans h1, Kd.R_alloc (Kd.R_mono (Kd.R_bound h2) (fun k hk => ⟨hk.1, by have := hk.2.2.1; omega⟩)) o⟩
theorem WorkZ.lt {B z : Nat} {xs : List (Int × Int)} {W : World} (h : WorkZ B z xs W) : B < W.heap.size := h.plain.lt

theorem after_append {B z : Nat} {xs ys : List (Int × Int)} {w w1 : World} {v v1 : Value} (hlt : B < w.heap.size) (hb : w.heap[B]? = some (.cells #[v] 81 (0, 0))) (hR : Kd.R kCh 117 w (B + 1) (fun k => B + 1 ≤ k ∧ k ≠ z) v xs)
    (hR1 : Kd.R kCh 117 w1 (B + 1) (fun k => B + 1 ≤ k ∧ k ≠ z) v1 ys) (hg : w.grownBy w1 v.ownBlock) :
    ∃ A c, v1 = .slice A ys.length c ∧ w1.heap[B]? = some (.cells #[v] 81 (0, 0)) ∧ w1.cell? ⟨B, 0, none⟩ = some v ∧ w1.frozen? ⟨B, 0, none⟩ = false := by
  obtain ⟨A1, c1, h⟩ := Kd.R_slice hR1
  have hb1 : w1.heap[B]? = some (.cells #[v] 81 (0, 0)) := (hg.block B hlt (fun e => Nat.not_succ_le_self B (hR.1 B e.symm).1)).trans hb
  exact ⟨A1, c1, h, hb1, by simp [World.cell?, hb1], by simp [World.frozen?, hb1]⟩

set_option maxRecDepth 100000 in
theorem add_calls (B z : Nat) (xs : List (Int × Int)) (x q : Int) (w : World) (h : WorkZ B z xs w) (hz : z < w.heap.size) (hzB : z ≠ B) (hl : xs.length ≤ 100000) :
    Calls Try.prog 61 #[.int .i64 x, .int .i64 q, .pointer (some ⟨B, 0, none⟩)] w fun e w' => (e = .returned (.tuple #[]) ∧ WorkZ B z (xs ++ [(x, q)]) w' ∧ w'.heap[z]? = w.heap[z]?) ∧ Below B w w' ∧ w.heap.size ≤ w'.heap.size := by
  have hlt := h.lt
  obtain ⟨v, hb, hR⟩ := h
  have hc : w.cell? ⟨B, 0, none⟩ = some v := by simp [World.cell?, hb]
  have hf : w.frozen? ⟨B, 0, none⟩ = false := by simp [World.frozen?, hb]
  have hu := Try.underlying81
  have hu2 := Try.underlying117
  go_enter Try.func61, Try.ntmps61
  go_wp2_with ((with_reducible refine gate_builtin (b := .append) (xs := #[.tmp 6, .tmp 10]) rfl ?_); at_builtin; refine Kd.R_append kCh (w0 := w) (B + 1) rfl (.tmp 6) (.tmp 10) 79 117 (.agg #[.int .i64 0, .int .i64 0]) 16 rfl Try.underlying79 info_ch rfl (by decide) (by decide) v xs (x, q) [.int .i64 x, .int .i64 q] (fun k => B + 1 ≤ k ∧ k ≠ z) (fun _ => False) rfl rfl ⟨[.int .i64 x], [.int .i64 q], rfl, rfl, rfl⟩ (fun k hk => hk.elim) (fun k hk => ⟨by omega, by omega⟩) hR (Below.refl _ _) (by omega) (by omega) ?_; intro v1 w1 hR1 hB1 hg1 hat1; obtain ⟨A1, c1, rfl, hb1, hc1, hf1⟩ := after_append hlt hb hR hR1 hg1)
  go_end0
  have hl1 : B < w1.heap.size := (Array.getElem?_eq_some_iff.1 hb1).1
  refine ⟨⟨rfl, ⟨_, blk_set hb1 0 _, ?_⟩, ?_⟩, ?_, ?_⟩
  · rw [List.length_append] at hR1
    exact Kd.R_far hR1 (p := ⟨B, 0, none⟩) (fun k hk => Nat.ne_of_gt hk.1) _
  · exact (Below.heap_setCell _ _ _ _ hzB).trans (hg1.block z hz (fun e => (hR.1 z e.symm).2 rfl))
  · exact (hB1.mono (Nat.le_succ B)).setCell (Nat.le_refl B) _
  · simpa [World.setCell] using hB1.size

/-- The changes that stocks, holds, what comes and what is taken make. -/
def chStocks (sku : ByteArray) (l : List S100) : List (Int × Int) := (l.filter (fun s => s.f0.toList == sku.toList)).map (fun s => (0, s.f2))
def chHold (sku : ByteArray) (h : S107) : List (Int × Int) := if h.f1.toList = sku.toList ∧ h.f4 = 0 then (0, wrap64 (-h.f3)) :: (if 0 < h.f5 ∧ h.f5 < 9223372036854775807 then [(wrap64 (h.f5 + 1), h.f3)] else []) else []
def chHolds (sku : ByteArray) (l : List S107) : List (Int × Int) := l.flatMap (chHold sku)
def chComing (sku : ByteArray) (l : List S44) : List (Int × Int) := (l.filter (fun r => r.f0.toList == sku.toList)).map (fun r => (r.f2, r.f1))
def chTaken (sku : ByteArray) (l : List S44) : List (Int × Int) := (l.filter (fun r => r.f0.toList == sku.toList)).map (fun r => (r.f2, wrap64 (-r.f1)))
def toldF (l0 : List S100) (l1 : List S107) (l2 l3 : List S44) (sku : ByteArray) : List (Int × Int) := chStocks sku l0 ++ chHolds sku l1 ++ chComing sku l2 ++ chTaken sku l3

theorem take_snoc {α : Type} {l : List α} {k : Nat} (h : k < l.length) : l.take (k + 1) = l.take k ++ [l[k]] := by
  rw [List.take_add_one, List.getElem?_eq_getElem h]
  rfl
theorem chStocks_snoc (sku : ByteArray) (l : List S100) (s : S100) : chStocks sku (l ++ [s]) = chStocks sku l ++ (if s.f0.toList = sku.toList then [(0, s.f2)] else []) := by
  unfold chStocks
  rw [List.filter_append, List.map_append]
  split <;> rename_i h <;> simp [h]
theorem chHolds_snoc (sku : ByteArray) (l : List S107) (s : S107) : chHolds sku (l ++ [s]) = chHolds sku l ++ chHold sku s := by
  unfold chHolds
  rw [List.flatMap_append]
  simp
theorem chComing_snoc (sku : ByteArray) (l : List S44) (s : S44) : chComing sku (l ++ [s]) = chComing sku l ++ (if s.f0.toList = sku.toList then [(s.f2, s.f1)] else []) := by
  unfold chComing
  rw [List.filter_append, List.map_append]
  split <;> rename_i h <;> simp [h]
theorem chTaken_snoc (sku : ByteArray) (l : List S44) (s : S44) : chTaken sku (l ++ [s]) = chTaken sku l ++ (if s.f0.toList = sku.toList then [(s.f2, wrap64 (-s.f1))] else []) := by
  unfold chTaken
  rw [List.filter_append, List.map_append]
  split <;> rename_i h <;> simp [h]

theorem chStocks_len (sku : ByteArray) (l : List S100) : (chStocks sku l).length ≤ l.length := by
  unfold chStocks
  rw [List.length_map]
  exact List.length_filter_le _ _
theorem chHold_len (sku : ByteArray) (h : S107) : (chHold sku h).length ≤ 2 := by
  unfold chHold
  split
  · split <;> simp
  · simp
theorem chHolds_len (sku : ByteArray) : ∀ l : List S107, (chHolds sku l).length ≤ 2 * l.length
  | [] => by simp [chHolds]
  | h :: l => by
    have h1 := chHold_len sku h
    have h2 := chHolds_len sku l
    unfold chHolds at h2 ⊢
    rw [List.flatMap_cons, List.length_append, List.length_cons]
    omega
theorem chComing_len (sku : ByteArray) (l : List S44) : (chComing sku l).length ≤ l.length := by
  unfold chComing
  rw [List.length_map]
  exact List.length_filter_le _ _
theorem chTaken_len (sku : ByteArray) (l : List S44) : (chTaken sku l).length ≤ l.length := by
  unfold chTaken
  rw [List.length_map]
  exact List.length_filter_le _ _

set_option maxRecDepth 100000 in
set_option maxHeartbeats 1000000 in
theorem told_calls (A0 : Option Addr) (c0 : Nat) (l0 : List S100) (A1 : Option Addr) (c1 : Nat) (l1 : List S107) (A2 : Option Addr) (c2 n2 : Nat) (ops : Int) (A3 : Option Addr) (c3 : Nat) (l3 : List S44) (A4 : Option Addr) (c4 : Nat) (l4 : List S44) (sku : ByteArray) (w : World)
    (hC0 : Kd.C k100 w A0 l0.length l0) (hc0 : l0.length ≤ c0) (hC1 : Kd.C k107 w A1 l1.length l1) (hc1 : l1.length ≤ c1) (hC3 : Kd.C k44 w A3 l3.length l3) (hc3 : l3.length ≤ c3) (hC4 : Kd.C k44 w A4 l4.length l4) (hc4 : l4.length ≤ c4)
    (hn : l0.length + 2 * l1.length + l3.length + l4.length ≤ 90000) :
    Calls Try.prog 40 #[.agg #[.slice A0 l0.length c0, .slice A1 l1.length c1, .slice A2 n2 c2, .int .i64 ops], .slice A3 l3.length c3, .slice A4 l4.length c4, .string sku] w fun e w' =>
      ∃ v, e = .returned (.agg #[v]) ∧ Kd.R kCh 117 w' w.heap.size (fun k => w.heap.size ≤ k) v (toldF l0 l1 l3 l4 sku) ∧ Below w.heap.size w w' := by
  have hu0 := Try.underlying100
  have hu1 := Try.underlying107
  have hu2 := Try.underlying44
  have hu3 := Try.underlying41
  have hu4 := Try.underlying81
  go_enter Try.func40, Try.ntmps40
  go_wp2
  obtain ⟨W0, hW0⟩ : ∃ W0, ((w.alloc (.cells #[.slice A0 l0.length c0, .slice A1 l1.length c1, .slice A2 n2 c2, .int .i64 ops] 41)).alloc (.cells #[.slice none 0 0] 81)).alloc (.cells #[.slice none 0 0] 81) = W0 := ⟨_, rfl⟩
  have hs0 : W0.heap.size = w.heap.size + 3 := by rw [← hW0]; simp
  have hB0 : Below w.heap.size w W0 := by rw [← hW0]; exact (((Below.refl _ w).alloc (Nat.le_refl _) _).alloc (by simp) _).alloc (by simp; omega) _
  have hL0 : W0.heap[w.heap.size]? = some (.cells #[.slice A0 l0.length c0, .slice A1 l1.length c1, .slice A2 n2 c2, .int .i64 ops] 41 (0, 0)) := by
    rw [← hW0]; exact (Below.heap_alloc _ _ _ (by simp; omega)).trans ((Below.heap_alloc _ _ _ (by simp)).trans (heap_alloc_new w _))
  have hr0 : W0.heap[w.heap.size + 1]? = some (.cells #[.slice none 0 0] 81 (0, 0)) := by
    rw [← hW0]; refine (Below.heap_alloc _ _ _ (by simp)).trans ?_
    have := heap_alloc_new (w.alloc (.cells #[.slice A0 l0.length c0, .slice A1 l1.length c1, .slice A2 n2 c2, .int .i64 ops] 41)) (.cells #[.slice none 0 0] 81)
    rwa [World.size_alloc] at this
  have hK0 : WorkAt (w.heap.size + 1 + 1) ([] ++ chStocks sku (l0.take 0)) W0 := by
    refine ⟨.slice none 0 0, ?_, Kd.R_nil _ _ _ _ _⟩
    rw [← hW0]
    have := heap_alloc_new ((w.alloc (.cells #[.slice A0 l0.length c0, .slice A1 l1.length c1, .slice A2 n2 c2, .int .i64 ops] 41)).alloc (.cells #[.slice none 0 0] 81)) (.cells #[.slice none 0 0] 81)
    rwa [World.size_alloc, World.size_alloc] at this
  rw [hW0]
  clear hW0
  go_loopw [23] (fun i wr => ∃ k : Nat, k ≤ l0.length ∧ i = .int .i64 k ∧ WorkAt (w.heap.size + 1 + 1) ([] ++ chStocks sku (l0.take k)) wr ∧ Below (w.heap.size + 1 + 1) W0 wr)
    (fun i _ => l0.length - (intOf i).toNat)
  case atStart => exact ⟨0, Nat.zero_le _, rfl, hK0, Below.refl _ _⟩
  case round =>
    obtain ⟨k, hk, rfl, hK, hB⟩ := hrel
    have hwr : Below w.heap.size w wr := hB0.trans (hB.mono (by omega))
    by_cases hlt : k < l0.length
    · have hd : decide ((k : Int) < (l0.length : Int)) = true := decide_eq_true (by omega)
      obtain ⟨ad, rfl, hx0, hx1, hx2, hx3⟩ := at_T100 hC0 k (by omega) (by omega)
      rw [Int.toNat_natCast] at hx0 hx1 hx2 hx3
      have hy0 := (hwr.cell (World.block_lt_of_cell? w _ hx0)).trans hx0
      have hy1 := (hwr.cell (World.block_lt_of_cell? w _ hx1)).trans hx1
      have hy2 := (hwr.cell (World.block_lt_of_cell? w _ hx2)).trans hx2
      have hy3 := (hwr.cell (World.block_lt_of_cell? w _ hx3)).trans hx3
      have hr : rd_T100 l0 k = l0[k] := by unfold rd_T100; rw [Int.toNat_natCast, List.getD_eq_getElem?_getD, List.getElem?_eq_getElem hlt]; rfl
      rw [hr] at hy0 hy1 hy2 hy3
      obtain ⟨r, hrr⟩ : ∃ r, r = l0[k] := ⟨_, rfl⟩
      rw [← hrr] at hy0 hy1 hy2 hy3
      have Hr := Aside0.mk hrr
      clear hrr hr hx0 hx1 hx2 hx3
      have hKb := fun o => hK.fresh o
      have hKl := hK.lt
      have hlen : ([] ++ chStocks sku (l0.take k)).length ≤ 90000 := by
        simp only [List.length_append, List.length_nil]
        have := chStocks_len sku l0; have := chHolds_len sku l1; have := chComing_len sku l3; have := chStocks_len sku (l0.take k); have : (l0.take k).length ≤ l0.length := List.length_take_le' _ _
        omega
      cases he : (r.f0.toList == sku.toList) with
      | true =>
        go_wp2_with fail
        refine (add_calls (w.heap.size + 1 + 1) _ _ 0 r.f2 _ (hKb _) (by simp) (by omega) (by omega)).mono ?_
        rintro e w2 ⟨⟨rfl, hK2, _⟩, hB2, hs2⟩
        go_wp2
        refine ⟨⟨k + 1, by omega, by simp, ?_, (hB.trans (((Below.refl _ wr).alloc (Nat.le_of_lt hKl) _).trans hB2))⟩, by simp [intOf]; omega⟩
        rw [take_snoc hlt, chStocks_snoc, ← Hr.out, if_pos (beq_iff_eq.1 he), ← List.append_assoc]
        exact hK2.plain
      | false =>
        go_wp2
        refine ⟨⟨k + 1, by omega, by simp, ?_, (hB.trans ((Below.refl _ wr).alloc (Nat.le_of_lt hKl) _))⟩, by simp [intOf]; omega⟩
        rw [take_snoc hlt, chStocks_snoc, ← Hr.out, if_neg (beq_eq_false_iff_ne.1 he), List.append_nil]
        exact (hKb _).plain
    · obtain rfl : k = l0.length := by omega
      have hd : decide ((l0.length : Int) < (l0.length : Int)) = false := decide_eq_false (by omega)
      rw [List.take_length] at hK
      have hLk := (hB.block w.heap.size (by omega)).trans hL0
      have hrk := (hB.block (w.heap.size + 1) (by omega)).trans hr0
      have hcl : wr.cell? ⟨w.heap.size, 1, none⟩ = some (.slice A1 l1.length c1) := (blk_cell hLk 1).trans rfl
      go_wp2
      clear hC0
      go_loopw [39] (fun i wr => ∃ k : Nat, k ≤ l1.length ∧ i = .int .i64 k ∧ WorkAt (w.heap.size + 1 + 1) (([] ++ chStocks sku l0) ++ chHolds sku (l1.take k)) wr ∧ Below (w.heap.size + 1 + 1) W0 wr)
        (fun i _ => l1.length - (intOf i).toNat)
      case atStart => exact ⟨0, Nat.zero_le _, rfl, by rw [show chHolds sku (l1.take 0) = [] from rfl, List.append_nil]; exact hK, hB⟩
      case round =>
        obtain ⟨k, hk, rfl, hK, hB⟩ := hrel
        have hwr : Below w.heap.size w wr := hB0.trans (hB.mono (by omega))
        by_cases hlt : k < l1.length
        · have hd : decide ((k : Int) < (l1.length : Int)) = true := decide_eq_true (by omega)
          obtain ⟨ad, rfl, hx0, hx1, hx2, hx3, hx4, hx5⟩ := at_T107 hC1 k (by omega) (by omega)
          rw [Int.toNat_natCast] at hx0 hx1 hx2 hx3 hx4 hx5
          have hy0 := (hwr.cell (World.block_lt_of_cell? w _ hx0)).trans hx0
          have hy1 := (hwr.cell (World.block_lt_of_cell? w _ hx1)).trans hx1
          have hy2 := (hwr.cell (World.block_lt_of_cell? w _ hx2)).trans hx2
          have hy3 := (hwr.cell (World.block_lt_of_cell? w _ hx3)).trans hx3
          have hy4 := (hwr.cell (World.block_lt_of_cell? w _ hx4)).trans hx4
          have hy5 := (hwr.cell (World.block_lt_of_cell? w _ hx5)).trans hx5
          have hr : rd_T107 l1 k = l1[k] := by unfold rd_T107; rw [Int.toNat_natCast, List.getD_eq_getElem?_getD, List.getElem?_eq_getElem hlt]; rfl
          rw [hr] at hy0 hy1 hy2 hy3 hy4 hy5
          obtain ⟨r, hrr⟩ : ∃ r, r = l1[k] := ⟨_, rfl⟩
          rw [← hrr] at hy0 hy1 hy2 hy3 hy4 hy5
          have Hr := Aside0.mk hrr
          clear hrr hr hx0 hx1 hx2 hx3 hx4 hx5
          have hKb := fun o => hK.fresh o
          have hKl := hK.lt
          have hlen : (([] ++ chStocks sku l0) ++ chHolds sku (l1.take k)).length ≤ 90000 := by
            simp only [List.length_append, List.length_nil]
            have := chStocks_len sku l0; have := chHolds_len sku l1; have := chComing_len sku l3; have := chHolds_len sku (l1.take k); have : (l1.take k).length ≤ l1.length := List.length_take_le' _ _
            omega
          have hgo : ∀ (xs : List (Int × Int)) W, WorkAt (w.heap.size + 1 + 1) xs W → Below (w.heap.size + 1 + 1) W0 W → xs = ([] ++ chStocks sku l0) ++ chHolds sku (l1.take k) ++ chHold sku r → WorkAt (w.heap.size + 1 + 1) (([] ++ chStocks sku l0) ++ chHolds sku (l1.take (k + 1))) W := by
            rintro xs W h1 _ rfl
            rw [take_snoc hlt, chHolds_snoc, ← Hr.out, ← List.append_assoc]
            exact h1
          cases he : (r.f1.toList == sku.toList) with
          | true =>
            have he2 : (r.f1.toList != sku.toList) = false := by rw [bne, he]; rfl
            have hek := beq_iff_eq.1 he
            by_cases h4 : r.f4 = 0
            · have h4b : (r.f4 != 0) = false := by simp [h4]
              have H4 := Aside0.mk h4
              clear h4
              go_wp2_with fail
              refine (add_calls (w.heap.size + 1 + 1) _ _ 0 (wrap64 (-r.f3)) _ (hKb _) (by simp) (by omega) (by omega)).mono ?_
              rintro e w2 ⟨⟨rfl, hK2, hz2⟩, hB2, hs2⟩
              rw [heap_alloc_new] at hz2
              have hc3 : w2.cell? ⟨wr.heap.size, 3, none⟩ = some (.int .i64 r.f3) := (blk_cell hz2 3).trans rfl
              have hc5 : w2.cell? ⟨wr.heap.size, 5, none⟩ = some (.int .i64 r.f5) := (blk_cell hz2 5).trans rfl
              have hsz2 : wr.heap.size + 1 ≤ w2.heap.size := by simpa using hs2
              have hBn := hB.trans (((Below.refl _ wr).alloc (Nat.le_of_lt hKl) _).trans hB2)
              by_cases h5 : 0 < r.f5
              · have h5b : decide (0 < r.f5) = true := decide_eq_true h5
                by_cases h6 : r.f5 < 9223372036854775807
                · have h6b : decide (r.f5 < 9223372036854775807) = true := decide_eq_true h6
                  have H56 := Aside0.mk (And.intro h5 h6)
                  clear h5 h6
                  go_wp2_with fail
                  refine (add_calls (w.heap.size + 1 + 1) _ _ _ _ _ hK2 (by omega) (by omega) (by rw [List.length_append, List.length_singleton]; omega)).mono ?_
                  rintro e w3 ⟨⟨rfl, hK3, _⟩, hB3, hs3⟩
                  go_wp2
                  refine ⟨⟨k + 1, by omega, by simp, ?_, hBn.trans hB3⟩, by simp [intOf]; omega⟩
                  exact hgo _ _ hK3.plain (hBn.trans hB3) (by unfold chHold; rw [if_pos ⟨hek, H4.out⟩, if_pos H56.out]; simp)
                · have h6b : decide (r.f5 < 9223372036854775807) = false := decide_eq_false h6
                  have H6 := Aside0.mk h6
                  clear h5 h6
                  go_wp2
                  refine ⟨⟨k + 1, by omega, by simp, ?_, hBn⟩, by simp [intOf]; omega⟩
                  exact hgo _ _ hK2.plain hBn (by unfold chHold; rw [if_pos ⟨hek, H4.out⟩, if_neg (fun h => by have := H6.out; omega)])
              · have h5b : decide (0 < r.f5) = false := decide_eq_false h5
                have H5 := Aside0.mk h5
                clear h5
                go_wp2
                refine ⟨⟨k + 1, by omega, by simp, ?_, hBn⟩, by simp [intOf]; omega⟩
                exact hgo _ _ hK2.plain hBn (by unfold chHold; rw [if_pos ⟨hek, H4.out⟩, if_neg (fun h => by have := H5.out; omega)])
            · have h4b : (r.f4 != 0) = true := by simp [h4]
              have H4 := Aside0.mk h4
              clear h4
              go_wp2
              have hBn := fun o => hB.trans ((Below.refl _ wr).alloc (Nat.le_of_lt hKl) o)
              refine ⟨⟨k + 1, by omega, by simp, ?_, hBn _⟩, by simp [intOf]; omega⟩
              exact hgo _ _ (hKb _).plain (hBn _) (by unfold chHold; rw [if_neg (fun h => H4.out h.2), List.append_nil])
          | false =>
            have he2 : (r.f1.toList != sku.toList) = true := by rw [bne, he]; rfl
            have hek := beq_eq_false_iff_ne.1 he
            go_wp2
            have hBn := fun o => hB.trans ((Below.refl _ wr).alloc (Nat.le_of_lt hKl) o)
            refine ⟨⟨k + 1, by omega, by simp, ?_, hBn _⟩, by simp [intOf]; omega⟩
            exact hgo _ _ (hKb _).plain (hBn _) (by unfold chHold; rw [if_neg (fun h => hek h.1), List.append_nil])
        · obtain rfl : k = l1.length := by omega
          have hd : decide ((l1.length : Int) < (l1.length : Int)) = false := decide_eq_false (by omega)
          rw [List.take_length] at hK
          have hLk := (hB.block w.heap.size (by omega)).trans hL0
          have hrk := (hB.block (w.heap.size + 1) (by omega)).trans hr0
          have hcl : wr.cell? ⟨w.heap.size, 1, none⟩ = some (.slice A1 l1.length c1) := (blk_cell hLk 1).trans rfl
          go_wp2
          clear hC1
          go_loopw [75] (fun i wr => ∃ k : Nat, k ≤ l3.length ∧ i = .int .i64 k ∧ WorkAt (w.heap.size + 1 + 1) ((([] ++ chStocks sku l0) ++ chHolds sku l1) ++ chComing sku (l3.take k)) wr ∧ Below (w.heap.size + 1 + 1) W0 wr)
            (fun i _ => l3.length - (intOf i).toNat)
          case atStart => exact ⟨0, Nat.zero_le _, rfl, by rw [show chComing sku (l3.take 0) = [] from rfl, List.append_nil]; exact hK, hB⟩
          case round =>
            obtain ⟨k, hk, rfl, hK, hB⟩ := hrel
            have hwr : Below w.heap.size w wr := hB0.trans (hB.mono (by omega))
            by_cases hlt : k < l3.length
            · have hd : decide ((k : Int) < (l3.length : Int)) = true := decide_eq_true (by omega)
              obtain ⟨ad, rfl, hx0, hx1, hx2⟩ := at_T44 hC3 k (by omega) (by omega)
              rw [Int.toNat_natCast] at hx0 hx1 hx2
              have hy0 := (hwr.cell (World.block_lt_of_cell? w _ hx0)).trans hx0
              have hy1 := (hwr.cell (World.block_lt_of_cell? w _ hx1)).trans hx1
              have hy2 := (hwr.cell (World.block_lt_of_cell? w _ hx2)).trans hx2
              have hr : rd_T44 l3 k = l3[k] := by unfold rd_T44; rw [Int.toNat_natCast, List.getD_eq_getElem?_getD, List.getElem?_eq_getElem hlt]; rfl
              rw [hr] at hy0 hy1 hy2
              obtain ⟨r, hrr⟩ : ∃ r, r = l3[k] := ⟨_, rfl⟩
              rw [← hrr] at hy0 hy1 hy2
              have Hr := Aside0.mk hrr
              clear hrr hr hx0 hx1 hx2
              have hKb := fun o => hK.fresh o
              have hKl := hK.lt
              have hlen : ((([] ++ chStocks sku l0) ++ chHolds sku l1) ++ chComing sku (l3.take k)).length ≤ 90000 := by
                simp only [List.length_append, List.length_nil]
                have := chStocks_len sku l0; have := chHolds_len sku l1; have := chComing_len sku l3; have := chComing_len sku (l3.take k); have : (l3.take k).length ≤ l3.length := List.length_take_le' _ _
                omega
              cases he : (r.f0.toList == sku.toList) with
              | true =>
                go_wp2_with fail
                refine (add_calls (w.heap.size + 1 + 1) _ _ r.f2 r.f1 _ (hKb _) (by simp) (by omega) (by omega)).mono ?_
                rintro e w2 ⟨⟨rfl, hK2, _⟩, hB2, hs2⟩
                go_wp2
                refine ⟨⟨k + 1, by omega, by simp, ?_, (hB.trans (((Below.refl _ wr).alloc (Nat.le_of_lt hKl) _).trans hB2))⟩, by simp [intOf]; omega⟩
                rw [take_snoc hlt, chComing_snoc, ← Hr.out, if_pos (beq_iff_eq.1 he), ← List.append_assoc]
                exact hK2.plain
              | false =>
                go_wp2
                refine ⟨⟨k + 1, by omega, by simp, ?_, (hB.trans ((Below.refl _ wr).alloc (Nat.le_of_lt hKl) _))⟩, by simp [intOf]; omega⟩
                rw [take_snoc hlt, chComing_snoc, ← Hr.out, if_neg (beq_eq_false_iff_ne.1 he), List.append_nil]
                exact (hKb _).plain
            · obtain rfl : k = l3.length := by omega
              have hd : decide ((l3.length : Int) < (l3.length : Int)) = false := decide_eq_false (by omega)
              rw [List.take_length] at hK
              have hLk := (hB.block w.heap.size (by omega)).trans hL0
              have hrk := (hB.block (w.heap.size + 1) (by omega)).trans hr0
              have hcl : wr.cell? ⟨w.heap.size, 1, none⟩ = some (.slice A1 l1.length c1) := (blk_cell hLk 1).trans rfl
              go_wp2
              clear hC3
              go_loopw [92] (fun i wr => ∃ k : Nat, k ≤ l4.length ∧ i = .int .i64 k ∧ WorkAt (w.heap.size + 1 + 1) (((([] ++ chStocks sku l0) ++ chHolds sku l1) ++ chComing sku l3) ++ chTaken sku (l4.take k)) wr ∧ Below (w.heap.size + 1 + 1) W0 wr)
                (fun i _ => l4.length - (intOf i).toNat)
              case atStart => exact ⟨0, Nat.zero_le _, rfl, by rw [show chTaken sku (l4.take 0) = [] from rfl, List.append_nil]; exact hK, hB⟩
              case round =>
                obtain ⟨k, hk, rfl, hK, hB⟩ := hrel
                have hwr : Below w.heap.size w wr := hB0.trans (hB.mono (by omega))
                by_cases hlt : k < l4.length
                · have hd : decide ((k : Int) < (l4.length : Int)) = true := decide_eq_true (by omega)
                  obtain ⟨ad, rfl, hx0, hx1, hx2⟩ := at_T44 hC4 k (by omega) (by omega)
                  rw [Int.toNat_natCast] at hx0 hx1 hx2
                  have hy0 := (hwr.cell (World.block_lt_of_cell? w _ hx0)).trans hx0
                  have hy1 := (hwr.cell (World.block_lt_of_cell? w _ hx1)).trans hx1
                  have hy2 := (hwr.cell (World.block_lt_of_cell? w _ hx2)).trans hx2
                  have hr : rd_T44 l4 k = l4[k] := by unfold rd_T44; rw [Int.toNat_natCast, List.getD_eq_getElem?_getD, List.getElem?_eq_getElem hlt]; rfl
                  rw [hr] at hy0 hy1 hy2
                  obtain ⟨r, hrr⟩ : ∃ r, r = l4[k] := ⟨_, rfl⟩
                  rw [← hrr] at hy0 hy1 hy2
                  have Hr := Aside0.mk hrr
                  clear hrr hr hx0 hx1 hx2
                  have hKb := fun o => hK.fresh o
                  have hKl := hK.lt
                  have hlen : (((([] ++ chStocks sku l0) ++ chHolds sku l1) ++ chComing sku l3) ++ chTaken sku (l4.take k)).length ≤ 90000 := by
                    simp only [List.length_append, List.length_nil]
                    have := chStocks_len sku l0; have := chHolds_len sku l1; have := chComing_len sku l3; have := chTaken_len sku (l4.take k); have : (l4.take k).length ≤ l4.length := List.length_take_le' _ _
                    omega
                  cases he : (r.f0.toList == sku.toList) with
                  | true =>
                    go_wp2_with fail
                    refine (add_calls (w.heap.size + 1 + 1) _ _ r.f2 (wrap64 (-r.f1)) _ (hKb _) (by simp) (by omega) (by omega)).mono ?_
                    rintro e w2 ⟨⟨rfl, hK2, _⟩, hB2, hs2⟩
                    go_wp2
                    refine ⟨⟨k + 1, by omega, by simp, ?_, (hB.trans (((Below.refl _ wr).alloc (Nat.le_of_lt hKl) _).trans hB2))⟩, by simp [intOf]; omega⟩
                    rw [take_snoc hlt, chTaken_snoc, ← Hr.out, if_pos (beq_iff_eq.1 he), ← List.append_assoc]
                    exact hK2.plain
                  | false =>
                    go_wp2
                    refine ⟨⟨k + 1, by omega, by simp, ?_, (hB.trans ((Below.refl _ wr).alloc (Nat.le_of_lt hKl) _))⟩, by simp [intOf]; omega⟩
                    rw [take_snoc hlt, chTaken_snoc, ← Hr.out, if_neg (beq_eq_false_iff_ne.1 he), List.append_nil]
                    exact (hKb _).plain
                · obtain rfl : k = l4.length := by omega
                  have hd : decide ((l4.length : Int) < (l4.length : Int)) = false := decide_eq_false (by omega)
                  rw [List.take_length] at hK
                  have hLk := (hB.block w.heap.size (by omega)).trans hL0
                  have hrk := (hB.block (w.heap.size + 1) (by omega)).trans hr0
                  have hcl : wr.cell? ⟨w.heap.size, 1, none⟩ = some (.slice A1 l1.length c1) := (blk_cell hLk 1).trans rfl
                  obtain ⟨v, hv, hR⟩ := hK
                  obtain ⟨X, hX⟩ : ∃ X, (((([] ++ chStocks sku l0) ++ chHolds sku l1) ++ chComing sku l3) ++ chTaken sku l4) = X := ⟨_, rfl⟩
                  have hT : X = toldF l0 l1 l3 l4 sku := by rw [← hX, List.nil_append]; rfl
                  have HT := Aside0.mk hT
                  rw [hX] at hR
                  clear hX hT
                  obtain ⟨Av, cv, rfl⟩ := Kd.R_slice hR
                  have hcv : wr.cell? ⟨w.heap.size + 1 + 1, 0, none⟩ = some (.slice Av X.length cv) := (blk_cell hv 0).trans rfl
                  have hcr : wr.cell? ⟨w.heap.size + 1, 0, none⟩ = some (.slice none 0 0) := (blk_cell hrk 0).trans rfl
                  have hfr : wr.frozen? ⟨w.heap.size + 1, 0, none⟩ = false := blk_frozen hrk 0
                  go_wp2
                  have q0 : (wr.setCell ⟨w.heap.size + 1, 0, none⟩ (.slice Av X.length cv)).cell? ⟨w.heap.size + 1, 0, none⟩ = some (.slice Av X.length cv) := World.cell?_setCell_same' _ _ _ (by rw [hcr]; rfl)
                  refine bodyPost_ret (v := .agg #[.slice Av X.length cv]) (by simp [results, Try.results40, go_sem, q0]) rfl ⟨_, rfl, ?_, (hB0.trans (hB.mono (by omega))).setCell (show w.heap.size ≤ w.heap.size + 1 from Nat.le_succ _) _⟩
                  rw [← HT.out]
                  refine Kd.R_lower (Kd.R_mono (Kd.R_far hR (p := ⟨w.heap.size + 1, 0, none⟩) (fun k hk => ?_) _) (fun k hk => ?_)) (show w.heap.size ≤ w.heap.size + 1 + 1 + 1 by omega)
                  · exact Nat.ne_of_gt (show w.heap.size + 1 < k from by have : w.heap.size + 1 + 1 + 1 ≤ k := hk; omega)
                  · have : w.heap.size + 1 + 1 + 1 ≤ k := hk
                    omega
end Go.Proofs.Ytofkhcgkahkagaa
/- What is asked of ledger.Check, whoever answers for it. -/
namespace Go.Proofs.Ytofkhcgkahkagaa
open Go.RowKit Go.Proofs.YtofkhcgkahkagaaW.PrintWords Go.Proofs.YtofkhcgkahkagaaW.PrintLast Go.Proofs.YtofkhcgkahkagaaW.PrintMore Go.Proofs.Ytofkhcgkahkagaa.PPromiseLines
set_option linter.unusedVariables false
set_option linter.unusedSimpArgs false

/-- A ledger lies there and can be read. -/
structure LedgerAt (l0 : List S100) (l1 : List S107) (l2 : List S111) (A0 : Option Addr) (c0 : Nat) (A1 : Option Addr) (c1 : Nat) (A2 : Option Addr) (c2 : Nat) (w : World) : Prop where
  r0 : Kd.C k100 w A0 l0.length l0
  r1 : Kd.C k107 w A1 l1.length l1
  r2 : Kd.C k111 w A2 l2.length l2
  h0 : l0.length ≤ c0
  h1 : l1.length ≤ c1
  h2 : l2.length ≤ c2
theorem LedgerAt.below {l0 : List S100} {l1 : List S107} {l2 : List S111} {A0 : Option Addr} {c0 : Nat} {A1 : Option Addr} {c1 : Nat} {A2 : Option Addr} {c2 : Nat} {w w' : World} (h : LedgerAt l0 l1 l2 A0 c0 A1 c1 A2 c2 w) (hb : Below w.heap.size w w') : LedgerAt l0 l1 l2 A0 c0 A1 c1 A2 c2 w' :=
  ⟨Kd.C_below h.r0 hb, Kd.C_below h.r1 hb, Kd.C_below h.r2 hb, h.h0, h.h1, h.h2⟩

def i64B (n : Int) : Prop := -9223372036854775808 ≤ n ∧ n ≤ 9223372036854775807
def StockG (s : S100) : Prop := s.f0.size ≤ maxLen ∧ s.f1.size ≤ maxLen ∧ i64B s.f2 ∧ i64B s.f3
def HoldG (h : S107) : Prop := i64B h.f0 ∧ h.f1.size ≤ maxLen ∧ h.f2.size ≤ maxLen ∧ i64B h.f3 ∧ i64B h.f4 ∧ i64B h.f5
def MoveG (m : S111) : Prop := i64B m.f0 ∧ m.f1.size ≤ maxLen ∧ m.f2.size ≤ maxLen ∧ i64B m.f3 ∧ i64B m.f4 ∧ i64B m.f5
def RecG (r : S44) : Prop := r.f0.size ≤ maxLen ∧ i64B r.f1 ∧ i64B r.f2
/-- Few parts, and each of a kind that can be. -/
def FewL (l0 : List S100) (l1 : List S107) (l2 : List S111) : Prop := l0.length ≤ 30 ∧ l1.length ≤ 30 ∧ l2.length ≤ 60 ∧ (∀ s ∈ l0, StockG s) ∧ (∀ h ∈ l1, HoldG h) ∧ ∀ m ∈ l2, MoveG m

def CheckLaw (chk : List S100 → List S107 → List S111 → Int → Bool) : Prop :=
  ∀ (l0 : List S100) (l1 : List S107) (l2 : List S111) (A0 : Option Addr) (c0 : Nat) (A1 : Option Addr) (c1 : Nat) (A2 : Option Addr) (c2 : Nat) (ops : Int) (w : World), LedgerAt l0 l1 l2 A0 c0 A1 c1 A2 c2 w → FewL l0 l1 l2 →
    Calls Try.prog 38 #[.agg #[.slice A0 l0.length c0, .slice A1 l1.length c1, .slice A2 l2.length c2, .int .i64 ops]] w fun e w' => e = .returned (.int .i64 (if chk l0 l1 l2 ops = true then 0 else 1)) ∧ Below w.heap.size w w'
end Go.Proofs.Ytofkhcgkahkagaa
/- A map of slices that the call owns, where an entry is opened, its slice grown, and the entry stored: what it reads as behind it. -/
namespace Go.Proofs.Ytofkhcgkahkagaa
open Go.Maps Go.WideElems Go.MapKept Go.RowKit Go.ChangeShapes
open Go.ChangeMaps (setBlock heap_setBlock_same heap_setBlock_other)

section
variable {H : Type} {P : Program} {k t E : TypeId} {w : World} {base : Nat} {e : TypeId} {q : IntKind} {b n : Nat} {D : DataW H} {key : Value} {kl : Lit}

theorem grown_setBlock {w : World} {b : Nat} {es es' : Array MapEntry} {clock clock' : Nat} (hb : w.heap[b]? = some (.map es clock)) : w.grownBy (setBlock w b (.map es' clock')) (some b) :=
  ⟨rfl, rfl, rfl, by simp [setBlock], fun i _ hi => heap_setBlock_other hb _ (fun e1 => hi (by rw [e1]))⟩

theorem owns_off {w : World} {v : Value} {zs : List Int} (h : w.ownsInts base e q v zs) (hb : b < base) : v.ownBlock = none ∨ v.ownBlock ≠ some b := by
  cases hv : v.ownBlock with
  | none => exact .inl rfl
  | some g =>
    refine .inr (fun e1 => ?_)
    have := (h.1.lt g hv).1
    cases e1
    omega

/-- The entry is opened: what stands there, and the way back. -/
theorem groups_entry (K : WideMaps.KeyLaw P k) (ht : P.underlying t = some (.map k E)) (hz : ∀ u : World, (zeroValue E).run P u = .ok (.slice none 0 0) u)
    (h : w.ownsGroups P k base e q b n D) (hn : n < maxLen) (hkey : keyOf P k key = some kl) :
    ∃ v0 zs st wE, (Instr.mapEntry t (.map (some b)) key).run P w = .ok (.tuple #[v0, goInt st]) wE ∧ D.atKey kl .nil = rowDatum q v0 zs ∧ wE.ownsInts base e q v0 zs ∧ zs.length ≤ n ∧ w.grownBy wE (some b) ∧
      ∀ (w1 : World) (v' : Value) (zs' : List Int), wE.grownBy w1 v0.ownBlock → w1.ownsInts base e q v' zs' → zs'.length ≤ n + 1 → (v'.ownBlock = v0.ownBlock ∨ ∃ g, v'.ownBlock = some g ∧ w.heap.size ≤ g) →
        ∃ w2, (Instr.entryStore t (.map (some b)) (goInt st) v').run P w1 = .ok () w2 ∧ w2.ownsGroups P k base e q b (n + 1) (D.put kl (rowDatum q v' zs')) ∧ w1.grownBy w2 (some b) := by
  have K' := Keyed.of_law K
  obtain ⟨es, clock, hb, F, hs, rfl, hbb, hlen, hap⟩ := h
  obtain ⟨v0, st, es1, clock1, hrun, hv0, hst⟩ := entry_then_store K ht hz hb F hkey
  have hblt : b < w.heap.size := (Array.getElem?_eq_some_iff.1 hb).1
  have hgE := grown_setBlock (es' := es1) (clock' := clock1) hb
  have owned : ∀ x ∈ es.toList, ∃ zs, w.ownsInts base e q x.val zs := fun x hx => by
    obtain ⟨y, hy⟩ := F.reads x hx
    obtain ⟨z, hz, _⟩ := rd_val hy
    obtain ⟨zs, ho, _⟩ := rowElem_inv hz
    exact ⟨zs, ho⟩
  have hat := WideShapes.atKey_sorted (es.toList.map (rg P k (rowElem (H := H) w base e q))) (fit_rising K' F) kl (K'.key hkey)
  have hv : ∃ zs, (DataW.map ((es.toList.map (rg P k (rowElem (H := H) w base e q))).foldr DataW.insert [])).atKey kl .nil = rowDatum q v0 zs ∧ w.ownsInts base e q v0 zs ∧ zs.length ≤ n ∧
      (∀ x ∈ es.toList, x.key ≠ key → x.val.ownBlock = none ∨ x.val.ownBlock ≠ v0.ownBlock) := by
    rcases hv0 with ⟨e0, hm0, h3, rfl⟩ | ⟨h2, rfl⟩
    · obtain ⟨y0, hy0⟩ := F.reads e0 hm0
      obtain ⟨z, hz', hd⟩ := rd_val hy0
      obtain ⟨zs, ho, rfl⟩ := rowElem_inv hz'
      refine ⟨zs, ?_, ho, hlen e0 hm0 zs ho, fun x hx hne => hap x hx e0 hm0 (by rw [h3]; exact hne)⟩
      have m0 := rd_key hy0
      rw [h3, hkey] at m0
      rw [hat.2 (rg P k _ e0) (List.mem_map.2 ⟨e0, hm0, rfl⟩) (by rw [rg_of hy0]; exact (Option.some.inj m0).symm), rg_of hy0, hd]
    · refine ⟨[], hat.1 (fun p hp e1 => ?_) _, World.ownsInts_nil _ _ _ _, Nat.zero_le _, fun x _ _ => ?_⟩
      · obtain ⟨x, hx, rfl⟩ := List.mem_map.1 hp
        obtain ⟨y, hy⟩ := F.reads x hx
        have m1 := rd_key hy
        rw [rg_of hy] at e1
        rw [e1] at m1
        exact h2 x hx (K'.inj m1 hkey)
      · cases x.val.ownBlock <;> simp [Value.ownBlock]
  obtain ⟨zs, hat0, ho0, hzl, hvo⟩ := hv
  refine ⟨v0, zs, st, _, hrun, hat0, ho0.kept hgE (owns_off ho0 hbb), hzl, hgE, fun w1 v' zs' hg hown' hl' hloc => ?_⟩
  have hvb : v0.ownBlock ≠ some b := fun e1 => by
    have := (ho0.1.lt b e1).1
    omega
  have hb1 : w1.heap[b]? = some (.map es1 clock1) := (hg.block b (by simpa [setBlock] using hblt) (fun e1 => hvb e1.symm)).trans (heap_setBlock_same hb _)
  obtain ⟨es', clock', hes, hmu⟩ := hst w1 v' hb1
  have hs1 : ∀ x ∈ es.toList, x.key ≠ key → ∀ z, rowElem (H := H) w base e q x.val = some z → rowElem w1 base e q x.val = some z := by
    intro x hx hne z hz
    obtain ⟨ys, ho, rfl⟩ := rowElem_inv hz
    exact rowElem_mk ((ho.kept hgE (owns_off ho hbb)).kept hg (hvo x hx hne))
  obtain ⟨es'', clock'', hrun', F', hput, _, _, hwho⟩ := Maps.fit_store (R' := rowElem w1 base e q) K' ht hb F (Nat.lt_of_le_of_lt hs hn) hs1 hkey (rowElem_mk hown')
  have hsame : setBlock w b (.map es'' clock'') = setBlock w b (.map es' clock') := by
    rw [hrun'] at hmu
    simpa using hmu
  obtain ⟨rfl, rfl⟩ : es'' = es' ∧ clock'' = clock' := by
    have h1 := heap_setBlock_same hb (.map es'' clock'')
    rw [hsame, heap_setBlock_same hb] at h1
    simp only [Option.some.injEq, Obj.map.injEq] at h1
    exact ⟨h1.1.symm, h1.2.symm⟩
  have hg2 := grown_setBlock (es' := es'') (clock' := clock'') hb1
  have hs2 : ∀ x ∈ es''.toList, ∀ z, rowElem (H := H) w1 base e q x.val = some z → rowElem (setBlock w1 b (.map es'' clock'')) base e q x.val = some z := by
    intro x _ z hz
    obtain ⟨ys, ho, rfl⟩ := rowElem_inv hz
    exact rowElem_mk (ho.kept hg2 (owns_off ho hbb))
  obtain ⟨F2, hmap2, _⟩ := F'.stay hs2
  have old_new : ∀ x ∈ es.toList, x.key ≠ key → x.val.ownBlock = none ∨ x.val.ownBlock ≠ v'.ownBlock := by
    intro x hx hne
    rcases hloc with h1 | ⟨g, h1, h2⟩
    · rw [h1]
      exact hvo x hx hne
    · cases hx' : x.val.ownBlock with
      | none => exact .inl rfl
      | some gx =>
        obtain ⟨ys, ho⟩ := owned x hx
        have := (ho.1.lt gx hx').2
        refine .inr (fun e1 => ?_)
        rw [h1] at e1
        cases e1
        omega
  refine ⟨_, hes, ⟨es'', clock'', heap_setBlock_same hb1 _, F2, ?_, ?_, hbb, ?_, ?_⟩, hg2⟩
  · have e1 : es''.size = ((es''.toList.map (rg P k (rowElem (H := H) w1 base e q))).foldr DataW.insert []).length := by rw [Go.length_sorted]; simp
    rw [e1, hput]
    unfold Go.ChangeMaps.putKey
    rw [Go.length_insert]
    have e2 := List.length_filter_le (Go.ChangeMaps.notKey kl) ((es.toList.map (rg P k (rowElem (H := H) w base e q))).foldr DataW.insert [])
    rw [Go.length_sorted] at e2
    simp at e2
    omega
  · rw [hmap2, DataW.put_eq, hput]
  · intro x hx ys ho
    have back : w1.ownsInts base e q x.val ys := by
      obtain ⟨y, hy⟩ := F'.reads x hx
      obtain ⟨z, hz, _⟩ := rd_val hy
      obtain ⟨ys', ho', _⟩ := rowElem_inv hz
      rw [ho.unique (ho'.kept hg2 (owns_off ho' hbb))]
      exact ho'
    rcases hwho x hx with ⟨hx0, hne⟩ | ⟨_, hval⟩
    · obtain ⟨ys0, ho0'⟩ := owned x hx0
      have := hlen x hx0 ys0 ho0'
      rw [back.unique ((ho0'.kept hgE (owns_off ho0' hbb)).kept hg (hvo x hx0 hne))]
      omega
    · rw [hval] at back
      rw [back.unique hown']
      exact hl'
  · intro x hx y hy hne
    rcases hwho x hx with ⟨hx0, hxk⟩ | ⟨hxk, hxv⟩ <;> rcases hwho y hy with ⟨hy0, hyk⟩ | ⟨hyk, hyv⟩
    · exact hap x hx0 y hy0 hne
    · rw [hyv]
      exact old_new x hx0 hxk
    · rw [hxv]
      cases hv' : v'.ownBlock with
      | none => exact .inl rfl
      | some g =>
        refine .inr (fun e1 => ?_)
        rcases old_new y hy0 hyk with h | h
        · rw [h] at e1
          cases e1
        · exact h (by rw [hv', e1])
    · exact absurd (hxk.trans hyk.symm) hne

/-- An empty map holds nothing; its rows may begin anywhere behind it. -/
theorem groups_empty {w : World} {clock : Nat} (hb : w.heap[b]? = some (.map #[] clock)) (hlt : b < base) : w.ownsGroups (H := H) P k base e q b 0 (.map []) :=
  ⟨#[], clock, hb, ⟨by simp, stamped_empty clock, by simp⟩, Nat.le_refl _, rfl, hlt, by simp, by simp⟩

theorem groups_mono {m : Nat} (h : w.ownsGroups P k base e q b n D) (hm : n ≤ m) : w.ownsGroups P k base e q b m D := by
  obtain ⟨es, clock, hb, F, hs, hD, hbb, hlen, hap⟩ := h
  exact ⟨es, clock, hb, F, Nat.le_trans hs hm, hD, hbb, fun x hx zs ho => Nat.le_trans (hlen x hx zs ho) hm, hap⟩
end
end Go.Proofs.Ytofkhcgkahkagaa
