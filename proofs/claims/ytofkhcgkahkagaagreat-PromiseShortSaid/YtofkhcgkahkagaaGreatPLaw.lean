/- What is asked of ledger.Check, whoever answers for it. -/
import Derived.Test.YtofkhcgkahkagaaGreatPTold
namespace Go.Proofs.YtofkhcgkahkagaaGreat
open Go.RowKit Go.Proofs.YtofkhcgkahkagaaGreatW.PrintWords Go.Proofs.YtofkhcgkahkagaaGreatW.PrintLast Go.Proofs.YtofkhcgkahkagaaGreatW.PrintMore Go.Proofs.YtofkhcgkahkagaaGreat.PPromiseShort
set_option linter.unusedVariables false
set_option linter.unusedSimpArgs false

/-- A ledger lies there and can be read. -/
structure LedgerAt (l0 : List S165) (l1 : List S172) (l2 : List S176) (A0 : Option Addr) (c0 : Nat) (A1 : Option Addr) (c1 : Nat) (A2 : Option Addr) (c2 : Nat) (w : World) : Prop where
  r0 : Kd.C k165 w A0 l0.length l0
  r1 : Kd.C k172 w A1 l1.length l1
  r2 : Kd.C k176 w A2 l2.length l2
  h0 : l0.length ≤ c0
  h1 : l1.length ≤ c1
  h2 : l2.length ≤ c2
theorem LedgerAt.below {l0 : List S165} {l1 : List S172} {l2 : List S176} {A0 : Option Addr} {c0 : Nat} {A1 : Option Addr} {c1 : Nat} {A2 : Option Addr} {c2 : Nat} {w w' : World} (h : LedgerAt l0 l1 l2 A0 c0 A1 c1 A2 c2 w) (hb : Below w.heap.size w w') : LedgerAt l0 l1 l2 A0 c0 A1 c1 A2 c2 w' :=
  ⟨Kd.C_below h.r0 hb, Kd.C_below h.r1 hb, Kd.C_below h.r2 hb, h.h0, h.h1, h.h2⟩

def i64B (n : Int) : Prop := -9223372036854775808 ≤ n ∧ n ≤ 9223372036854775807
def StockG (s : S165) : Prop := s.f0.size ≤ maxLen ∧ s.f1.size ≤ maxLen ∧ i64B s.f2 ∧ i64B s.f3
def HoldG (h : S172) : Prop := i64B h.f0 ∧ h.f1.size ≤ maxLen ∧ h.f2.size ≤ maxLen ∧ i64B h.f3 ∧ i64B h.f4 ∧ i64B h.f5
def MoveG (m : S176) : Prop := i64B m.f0 ∧ m.f1.size ≤ maxLen ∧ m.f2.size ≤ maxLen ∧ i64B m.f3 ∧ i64B m.f4 ∧ i64B m.f5
def RecG (r : S103) : Prop := r.f0.size ≤ maxLen ∧ i64B r.f1 ∧ i64B r.f2
/-- Few parts, and each of a kind that can be. -/
def FewL (l0 : List S165) (l1 : List S172) (l2 : List S176) : Prop := l0.length ≤ 30 ∧ l1.length ≤ 30 ∧ l2.length ≤ 60 ∧ (∀ s ∈ l0, StockG s) ∧ (∀ h ∈ l1, HoldG h) ∧ ∀ m ∈ l2, MoveG m

def ledV (A0 : Option Addr) (n0 c0 : Nat) (A1 : Option Addr) (n1 c1 : Nat) (A2 : Option Addr) (n2 c2 : Nat) (ops : Int) : Value := .agg #[.slice A0 n0 c0, .slice A1 n1 c1, .slice A2 n2 c2, .int .i64 ops]

def CheckLaw (chk : List S165 → List S172 → List S176 → Int → Bool) : Prop :=
  ∀ (l0 : List S165) (l1 : List S172) (l2 : List S176) (A0 : Option Addr) (c0 : Nat) (A1 : Option Addr) (c1 : Nat) (A2 : Option Addr) (c2 : Nat) (ops : Int) (w : World), LedgerAt l0 l1 l2 A0 c0 A1 c1 A2 c2 w → FewL l0 l1 l2 →
    Calls Tryz.prog 39 #[.agg #[.slice A0 l0.length c0, .slice A1 l1.length c1, .slice A2 l2.length c2, .int .i64 ops]] w fun e w' => e = .returned (.int .i64 (if chk l0 l1 l2 ops = true then 0 else 1)) ∧ Below w.heap.size w w'
end Go.Proofs.YtofkhcgkahkagaaGreat

