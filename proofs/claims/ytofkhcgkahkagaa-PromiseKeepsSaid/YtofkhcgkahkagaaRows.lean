/-
  No cell of these rows narrows 'for every input' (looked for: loops, veiled, ifaces, maps, wideKeys, modest, calm, conditions, laid).
  DERIVED. THE GIVEN ROWS OF THIS SEAT. 4 by the template 'for every input the law returns true; each argument reads behind the call as it read before'; 0 by the template 'total and deterministic' (their statements: YtofkhcgkahkagaaTotals.lean).
  GIVEN WITH THE SEED: the statements are not yours to turn. If you find one false, say at which input.
  Laid BY PROGRAM, IN A SANDBOX (cutbox-rows.mjs): the forced cells as the released guide's own fill.sh prints them over the translation ac77b13b51435614… (all of the seat's roots in one cut). By AI agents, Wed Nov 11 2026. No macro, syntax, notation, axiom, sorry.
-/
import Derived.Test.YtofkhcgkahkagaaChecked
import GoSem.Claim
import GoSem.ClaimJoined
import GoSem.ClaimMapViews
import Derived.JoinedTies
import Derived.KernelRfl
namespace Go.Proofs.Ytofkhcgkahkagaa
/- THE CELL 'sum', in the pinned program and in every row, IS THE sha256 OF THE DUMP (.gsa) THAT YtofkhcgkahkagaaProg.lean LOADS. Nothing in Lean hashes anything: it is a label: what it is worth is what the hold of that sum in a sandbox is worth. -/
noncomputable def Try.pinned : Pinned := { name := "ytofkhcgkahkagaa", sum := "ac77b13b514356145561ebeb16ff196a75845d41b63fcb57ecd0c0972164cb4e", checked := Try.checked }
namespace Rows
def none {H : Type} : Left H := { results := [], args := [] }

/-- 'quaysidelaw26.ScanMeters': WHATEVER THE INPUT: true; the input reads as it did. -/
def scanMetersSpec : ChangeSpec := { name := "scanMeters", fn := fun _ => fun
  | [d1, d2] => { results := [.lit (.bool true)], args := [d1, d2] }
  | _ => none }
def scanMetersRow : OpenClaim := { program := "ytofkhcgkahkagaa", sum := "ac77b13b514356145561ebeb16ff196a75845d41b63fcb57ecd0c0972164cb4e", func := "quayside/quaysidelaw26.ScanMeters", spec := "scanMeters", unfollowed := true, recurses := true, plainKeys := false, apart := false }
def ScanMetersSaid : Prop := scanMetersRow.holds Try.pinned (OpenSpec.ofChange scanMetersSpec)

/-- ITS FALSE NEIGHBOUR: 'it returns false'. Refute it at one input. -/
def scanMetersWrong : ChangeSpec := { name := "scanMeters", fn := fun _ => fun
  | [d1, d2] => { results := [.lit (.bool false)], args := [d1, d2] }
  | _ => none }
def ScanMetersWrongFalsely : Prop := scanMetersRow.holds Try.pinned (OpenSpec.ofChange scanMetersWrong)

/-- 'quaysidelaw33.PromiseEarliest': WHATEVER THE INPUT: true; the input reads as it did. -/
def promiseEarliestSpec : ChangeSpec := { name := "promiseEarliest", fn := fun _ => fun
  | [d1, d2, d3] => { results := [.lit (.bool true)], args := [d1, d2, d3] }
  | _ => none }
def promiseEarliestRow : OpenClaim := { program := "ytofkhcgkahkagaa", sum := "ac77b13b514356145561ebeb16ff196a75845d41b63fcb57ecd0c0972164cb4e", func := "quayside/quaysidelaw33.PromiseEarliest", spec := "promiseEarliest", inPlace := ["internal/bytealg.abigen_runtime_cmpstring", "math/bits.Add64"], unfollowed := true, recurses := true, plainKeys := false, apart := false }
def PromiseEarliestSaid : Prop := promiseEarliestRow.holds Try.pinned (OpenSpec.ofChange promiseEarliestSpec)

/-- ITS FALSE NEIGHBOUR: 'it returns false'. Refute it at one input. -/
def promiseEarliestWrong : ChangeSpec := { name := "promiseEarliest", fn := fun _ => fun
  | [d1, d2, d3] => { results := [.lit (.bool false)], args := [d1, d2, d3] }
  | _ => none }
def PromiseEarliestWrongFalsely : Prop := promiseEarliestRow.holds Try.pinned (OpenSpec.ofChange promiseEarliestWrong)

/-- 'quaysidelaw33.PromiseLines': WHATEVER THE INPUT: true; the input reads as it did. -/
def promiseLinesSpec : ChangeSpec := { name := "promiseLines", fn := fun _ => fun
  | [d1, d2, d3] => { results := [.lit (.bool true)], args := [d1, d2, d3] }
  | _ => none }
def promiseLinesRow : OpenClaim := { program := "ytofkhcgkahkagaa", sum := "ac77b13b514356145561ebeb16ff196a75845d41b63fcb57ecd0c0972164cb4e", func := "quayside/quaysidelaw33.PromiseLines", spec := "promiseLines", inPlace := ["internal/bytealg.abigen_runtime_cmpstring", "math/bits.Add64"], unfollowed := true, recurses := true, plainKeys := false, apart := false }
def PromiseLinesSaid : Prop := promiseLinesRow.holds Try.pinned (OpenSpec.ofChange promiseLinesSpec)

/-- ITS FALSE NEIGHBOUR: 'it returns false'. Refute it at one input. -/
def promiseLinesWrong : ChangeSpec := { name := "promiseLines", fn := fun _ => fun
  | [d1, d2, d3] => { results := [.lit (.bool false)], args := [d1, d2, d3] }
  | _ => none }
def PromiseLinesWrongFalsely : Prop := promiseLinesRow.holds Try.pinned (OpenSpec.ofChange promiseLinesWrong)

/-- 'quaysidelaw33.PromiseKeeps': WHATEVER THE INPUT: true; the input reads as it did. -/
def promiseKeepsSpec : ChangeSpec := { name := "promiseKeeps", fn := fun _ => fun
  | [d1, d2, d3] => { results := [.lit (.bool true)], args := [d1, d2, d3] }
  | _ => none }
def promiseKeepsRow : OpenClaim := { program := "ytofkhcgkahkagaa", sum := "ac77b13b514356145561ebeb16ff196a75845d41b63fcb57ecd0c0972164cb4e", func := "quayside/quaysidelaw33.PromiseKeeps", spec := "promiseKeeps", inPlace := ["internal/bytealg.abigen_runtime_cmpstring", "math/bits.Add64"], unfollowed := true, recurses := true, plainKeys := false, apart := false }
def PromiseKeepsSaid : Prop := promiseKeepsRow.holds Try.pinned (OpenSpec.ofChange promiseKeepsSpec)

/-- ITS FALSE NEIGHBOUR: 'it returns false'. Refute it at one input. -/
def promiseKeepsWrong : ChangeSpec := { name := "promiseKeeps", fn := fun _ => fun
  | [d1, d2, d3] => { results := [.lit (.bool false)], args := [d1, d2, d3] }
  | _ => none }
def PromiseKeepsWrongFalsely : Prop := promiseKeepsRow.holds Try.pinned (OpenSpec.ofChange promiseKeepsWrong)

/- THE SECOND FORM. 'bulk': how many values and letters a reading holds, each counted each time it is reached (what is shared counts as often as it is met; a slice's spare places count too). A statement '..UptoSaid' is the law's where the arguments, and the package variables that the reading takes, are together of bulk at most 1048576: NARROWER than '..Said'. Prove '..Said' where nothing that the law and all that it calls make is longer than what came in: it says more and counts as full. Else prove '..UptoSaid'. A law counts once. -/
mutual
def uptoBulk {H : Type} : DataW H → Nat
  | .lit (.string bytes) => bytes.length + 1
  | .lit _ => 1
  | .nil => 1
  | .ptr d => uptoBulk d + 1
  | .slice elems spare => uptoBulkAll elems + uptoBulkAll spare + 1
  | .agg parts => uptoBulkAll parts + 1
  | .iface _ d => uptoBulk d + 1
  | .map entries => uptoBulkEntries entries + 1
  | .held _ => 1
def uptoBulkAll {H : Type} : List (DataW H) → Nat
  | [] => 0
  | d :: r => uptoBulk d + uptoBulkAll r
def uptoBulkEntries {H : Type} : List (Lit × DataW H) → Nat
  | [] => 0
  | x :: r => uptoBulkEntry x + uptoBulkEntries r
def uptoBulkEntry {H : Type} : Lit × DataW H → Nat
  | (.string bytes, d) => bytes.length + uptoBulk d + 1
  | (_, d) => uptoBulk d + 1
 end
def uptoSmall : (H : Type) → List (DataW H) → Bool := fun _ ds => decide (uptoBulkAll ds ≤ 1048576)
def OpenSpec.upto (s : _root_.Go.ChangeSpec) : _root_.Go.OpenSpec := { _root_.Go.OpenSpec.ofChange s with cond := some uptoSmall }

/-- 'quaysidelaw26.ScanMeters', WHERE WHAT IT READS IS OF BULK AT MOST 1048576: true; the input reads as it did. -/
def scanMetersUptoRow : OpenClaim := { program := "ytofkhcgkahkagaa", sum := "ac77b13b514356145561ebeb16ff196a75845d41b63fcb57ecd0c0972164cb4e", func := "quayside/quaysidelaw26.ScanMeters", spec := "scanMeters", unfollowed := true, recurses := true, plainKeys := false, apart := false, narrowed := true }
def ScanMetersUptoSaid : Prop := scanMetersUptoRow.holds Try.pinned (OpenSpec.upto scanMetersSpec)

/-- 'quaysidelaw33.PromiseEarliest', WHERE WHAT IT READS IS OF BULK AT MOST 1048576: true; the input reads as it did. -/
def promiseEarliestUptoRow : OpenClaim := { program := "ytofkhcgkahkagaa", sum := "ac77b13b514356145561ebeb16ff196a75845d41b63fcb57ecd0c0972164cb4e", func := "quayside/quaysidelaw33.PromiseEarliest", spec := "promiseEarliest", inPlace := ["internal/bytealg.abigen_runtime_cmpstring", "math/bits.Add64"], unfollowed := true, recurses := true, plainKeys := false, apart := false, narrowed := true }
def PromiseEarliestUptoSaid : Prop := promiseEarliestUptoRow.holds Try.pinned (OpenSpec.upto promiseEarliestSpec)

/-- 'quaysidelaw33.PromiseLines', WHERE WHAT IT READS IS OF BULK AT MOST 1048576: true; the input reads as it did. -/
def promiseLinesUptoRow : OpenClaim := { program := "ytofkhcgkahkagaa", sum := "ac77b13b514356145561ebeb16ff196a75845d41b63fcb57ecd0c0972164cb4e", func := "quayside/quaysidelaw33.PromiseLines", spec := "promiseLines", inPlace := ["internal/bytealg.abigen_runtime_cmpstring", "math/bits.Add64"], unfollowed := true, recurses := true, plainKeys := false, apart := false, narrowed := true }
def PromiseLinesUptoSaid : Prop := promiseLinesUptoRow.holds Try.pinned (OpenSpec.upto promiseLinesSpec)

/-- 'quaysidelaw33.PromiseKeeps', WHERE WHAT IT READS IS OF BULK AT MOST 1048576: true; the input reads as it did. -/
def promiseKeepsUptoRow : OpenClaim := { program := "ytofkhcgkahkagaa", sum := "ac77b13b514356145561ebeb16ff196a75845d41b63fcb57ecd0c0972164cb4e", func := "quayside/quaysidelaw33.PromiseKeeps", spec := "promiseKeeps", inPlace := ["internal/bytealg.abigen_runtime_cmpstring", "math/bits.Add64"], unfollowed := true, recurses := true, plainKeys := false, apart := false, narrowed := true }
def PromiseKeepsUptoSaid : Prop := promiseKeepsUptoRow.holds Try.pinned (OpenSpec.upto promiseKeepsSpec)

end Rows
end Go.Proofs.Ytofkhcgkahkagaa
