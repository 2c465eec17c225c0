/-
  No cell of these rows narrows 'for every input' (looked for: loops, veiled, ifaces, maps, wideKeys, modest, calm, conditions, laid).
  DERIVED. THE GIVEN ROWS OF THIS SEAT. 12 by the template 'for every input the law returns true; each argument reads behind the call as it read before'; 0 by the template 'total and deterministic' (their statements: YtkaaiocbiknipaaTotals.lean).
  GIVEN WITH THE SEED: the statements are not yours to turn. If you find one false, say at which input.
  Laid BY PROGRAM, IN A SANDBOX (cutbox-rows.mjs): the forced cells as the released guide's own fill.sh prints them over the translation ecaccb2931512db6… (all of the seat's roots in one cut). By AI agents, Wed Nov 11 2026. No macro, syntax, notation, axiom, sorry.
-/
import Derived.Test.YtkaaiocbiknipaaChecked
import GoSem.Claim
import GoSem.ClaimJoined
import GoSem.ClaimMapViews
import Derived.JoinedTies
import Derived.KernelRfl
namespace Go.Proofs.Ytkaaiocbiknipaa
/- THE CELL 'sum', in the pinned program and in every row, IS THE sha256 OF THE DUMP (.gsa) THAT YtkaaiocbiknipaaProg.lean LOADS. Nothing in Lean hashes anything: it is a label: what it is worth is what the hold of that sum in a sandbox is worth. -/
noncomputable def Try.pinned : Pinned := { name := "ytkaaiocbiknipaa", sum := "ecaccb2931512db63b8eaa1cf7aa5818343a720ae202684dcd86af5f710a979f", checked := Try.checked }
namespace Rows
def none {H : Type} : Left H := { results := [], args := [] }

/-- 'laws.FnAccumulated': WHATEVER THE INPUT: true; the input reads as it did. -/
def fnAccumulatedSpec : ChangeSpec := { name := "fnAccumulated", fn := fun _ => fun
  | [d] => { results := [.lit (.bool true)], args := [d] }
  | _ => none }
def fnAccumulatedRow : OpenClaim := { program := "ytkaaiocbiknipaa", sum := "ecaccb2931512db63b8eaa1cf7aa5818343a720ae202684dcd86af5f710a979f", func := "loop.example/g00930/laws.FnAccumulated", spec := "fnAccumulated", apart := false }
def FnAccumulatedSaid : Prop := fnAccumulatedRow.holds Try.pinned (OpenSpec.ofChange fnAccumulatedSpec)

/-- ITS FALSE NEIGHBOUR: 'it returns false'. Refute it at one input. -/
def fnAccumulatedWrong : ChangeSpec := { name := "fnAccumulated", fn := fun _ => fun
  | [d] => { results := [.lit (.bool false)], args := [d] }
  | _ => none }
def FnAccumulatedWrongFalsely : Prop := fnAccumulatedRow.holds Try.pinned (OpenSpec.ofChange fnAccumulatedWrong)

/-- 'laws.FnTurned': WHATEVER THE INPUT: true; the input reads as it did. -/
def fnTurnedSpec : ChangeSpec := { name := "fnTurned", fn := fun _ => fun
  | [d] => { results := [.lit (.bool true)], args := [d] }
  | _ => none }
def fnTurnedRow : OpenClaim := { program := "ytkaaiocbiknipaa", sum := "ecaccb2931512db63b8eaa1cf7aa5818343a720ae202684dcd86af5f710a979f", func := "loop.example/g00930/laws.FnTurned", spec := "fnTurned", apart := false }
def FnTurnedSaid : Prop := fnTurnedRow.holds Try.pinned (OpenSpec.ofChange fnTurnedSpec)

/-- ITS FALSE NEIGHBOUR: 'it returns false'. Refute it at one input. -/
def fnTurnedWrong : ChangeSpec := { name := "fnTurned", fn := fun _ => fun
  | [d] => { results := [.lit (.bool false)], args := [d] }
  | _ => none }
def FnTurnedWrongFalsely : Prop := fnTurnedRow.holds Try.pinned (OpenSpec.ofChange fnTurnedWrong)

/-- 'laws.FnExactDivideOn': WHATEVER THE INPUT: true; the input reads as it did. -/
def fnExactDivideOnSpec : ChangeSpec := { name := "fnExactDivideOn", fn := fun _ => fun
  | [d1, d2, d3] => { results := [.lit (.bool true)], args := [d1, d2, d3] }
  | _ => none }
def fnExactDivideOnRow : OpenClaim := { program := "ytkaaiocbiknipaa", sum := "ecaccb2931512db63b8eaa1cf7aa5818343a720ae202684dcd86af5f710a979f", func := "loop.example/g00930/laws.FnExactDivideOn", spec := "fnExactDivideOn", recurses := true, apart := false }
def FnExactDivideOnSaid : Prop := fnExactDivideOnRow.holds Try.pinned (OpenSpec.ofChange fnExactDivideOnSpec)

/-- ITS FALSE NEIGHBOUR: 'it returns false'. Refute it at one input. -/
def fnExactDivideOnWrong : ChangeSpec := { name := "fnExactDivideOn", fn := fun _ => fun
  | [d1, d2, d3] => { results := [.lit (.bool false)], args := [d1, d2, d3] }
  | _ => none }
def FnExactDivideOnWrongFalsely : Prop := fnExactDivideOnRow.holds Try.pinned (OpenSpec.ofChange fnExactDivideOnWrong)

/-- 'laws.FnExactTraceProgram': WHATEVER THE INPUT: true; the input reads as it did. -/
def fnExactTraceProgramSpec : ChangeSpec := { name := "fnExactTraceProgram", fn := fun _ => fun
  | [d1, d2] => { results := [.lit (.bool true)], args := [d1, d2] }
  | _ => none }
def fnExactTraceProgramRow : OpenClaim := { program := "ytkaaiocbiknipaa", sum := "ecaccb2931512db63b8eaa1cf7aa5818343a720ae202684dcd86af5f710a979f", func := "loop.example/g00930/laws.FnExactTraceProgram", spec := "fnExactTraceProgram", recurses := true, apart := false }
def FnExactTraceProgramSaid : Prop := fnExactTraceProgramRow.holds Try.pinned (OpenSpec.ofChange fnExactTraceProgramSpec)

/-- ITS FALSE NEIGHBOUR: 'it returns false'. Refute it at one input. -/
def fnExactTraceProgramWrong : ChangeSpec := { name := "fnExactTraceProgram", fn := fun _ => fun
  | [d1, d2] => { results := [.lit (.bool false)], args := [d1, d2] }
  | _ => none }
def FnExactTraceProgramWrongFalsely : Prop := fnExactTraceProgramRow.holds Try.pinned (OpenSpec.ofChange fnExactTraceProgramWrong)

/-- 'laws.FnExactRunProgram': WHATEVER THE INPUT: true; the input reads as it did. -/
def fnExactRunProgramSpec : ChangeSpec := { name := "fnExactRunProgram", fn := fun _ => fun
  | [d1, d2] => { results := [.lit (.bool true)], args := [d1, d2] }
  | _ => none }
def fnExactRunProgramRow : OpenClaim := { program := "ytkaaiocbiknipaa", sum := "ecaccb2931512db63b8eaa1cf7aa5818343a720ae202684dcd86af5f710a979f", func := "loop.example/g00930/laws.FnExactRunProgram", spec := "fnExactRunProgram", recurses := true, apart := false }
def FnExactRunProgramSaid : Prop := fnExactRunProgramRow.holds Try.pinned (OpenSpec.ofChange fnExactRunProgramSpec)

/-- ITS FALSE NEIGHBOUR: 'it returns false'. Refute it at one input. -/
def fnExactRunProgramWrong : ChangeSpec := { name := "fnExactRunProgram", fn := fun _ => fun
  | [d1, d2] => { results := [.lit (.bool false)], args := [d1, d2] }
  | _ => none }
def FnExactRunProgramWrongFalsely : Prop := fnExactRunProgramRow.holds Try.pinned (OpenSpec.ofChange fnExactRunProgramWrong)

/-- 'laws.FnExactSumOn': WHATEVER THE INPUT: true; the input reads as it did. -/
def fnExactSumOnSpec : ChangeSpec := { name := "fnExactSumOn", fn := fun _ => fun
  | [d1, d2] => { results := [.lit (.bool true)], args := [d1, d2] }
  | _ => none }
def fnExactSumOnRow : OpenClaim := { program := "ytkaaiocbiknipaa", sum := "ecaccb2931512db63b8eaa1cf7aa5818343a720ae202684dcd86af5f710a979f", func := "loop.example/g00930/laws.FnExactSumOn", spec := "fnExactSumOn", recurses := true, apart := false }
def FnExactSumOnSaid : Prop := fnExactSumOnRow.holds Try.pinned (OpenSpec.ofChange fnExactSumOnSpec)

/-- ITS FALSE NEIGHBOUR: 'it returns false'. Refute it at one input. -/
def fnExactSumOnWrong : ChangeSpec := { name := "fnExactSumOn", fn := fun _ => fun
  | [d1, d2] => { results := [.lit (.bool false)], args := [d1, d2] }
  | _ => none }
def FnExactSumOnWrongFalsely : Prop := fnExactSumOnRow.holds Try.pinned (OpenSpec.ofChange fnExactSumOnWrong)

/-- 'laws.FnExactMultiplyOn': WHATEVER THE INPUT: true; the input reads as it did. -/
def fnExactMultiplyOnSpec : ChangeSpec := { name := "fnExactMultiplyOn", fn := fun _ => fun
  | [d1, d2, d3, d4] => { results := [.lit (.bool true)], args := [d1, d2, d3, d4] }
  | _ => none }
def fnExactMultiplyOnRow : OpenClaim := { program := "ytkaaiocbiknipaa", sum := "ecaccb2931512db63b8eaa1cf7aa5818343a720ae202684dcd86af5f710a979f", func := "loop.example/g00930/laws.FnExactMultiplyOn", spec := "fnExactMultiplyOn", recurses := true, apart := false }
def FnExactMultiplyOnSaid : Prop := fnExactMultiplyOnRow.holds Try.pinned (OpenSpec.ofChange fnExactMultiplyOnSpec)

/-- ITS FALSE NEIGHBOUR: 'it returns false'. Refute it at one input. -/
def fnExactMultiplyOnWrong : ChangeSpec := { name := "fnExactMultiplyOn", fn := fun _ => fun
  | [d1, d2, d3, d4] => { results := [.lit (.bool false)], args := [d1, d2, d3, d4] }
  | _ => none }
def FnExactMultiplyOnWrongFalsely : Prop := fnExactMultiplyOnRow.holds Try.pinned (OpenSpec.ofChange fnExactMultiplyOnWrong)

/-- 'laws.FnExactKeepsPromise': WHATEVER THE INPUT: true; the input reads as it did. -/
def fnExactKeepsPromiseSpec : ChangeSpec := { name := "fnExactKeepsPromise", fn := fun _ => fun
  | [d1, d2, d3, d4] => { results := [.lit (.bool true)], args := [d1, d2, d3, d4] }
  | _ => none }
def fnExactKeepsPromiseRow : OpenClaim := { program := "ytkaaiocbiknipaa", sum := "ecaccb2931512db63b8eaa1cf7aa5818343a720ae202684dcd86af5f710a979f", func := "loop.example/g00930/laws.FnExactKeepsPromise", spec := "fnExactKeepsPromise", recurses := true, apart := false }
def FnExactKeepsPromiseSaid : Prop := fnExactKeepsPromiseRow.holds Try.pinned (OpenSpec.ofChange fnExactKeepsPromiseSpec)

/-- ITS FALSE NEIGHBOUR: 'it returns false'. Refute it at one input. -/
def fnExactKeepsPromiseWrong : ChangeSpec := { name := "fnExactKeepsPromise", fn := fun _ => fun
  | [d1, d2, d3, d4] => { results := [.lit (.bool false)], args := [d1, d2, d3, d4] }
  | _ => none }
def FnExactKeepsPromiseWrongFalsely : Prop := fnExactKeepsPromiseRow.holds Try.pinned (OpenSpec.ofChange fnExactKeepsPromiseWrong)

/-- 'laws.FnExactCountFailures': WHATEVER THE INPUT: true; the input reads as it did. -/
def fnExactCountFailuresSpec : ChangeSpec := { name := "fnExactCountFailures", fn := fun _ => fun
  | [d1, d2, d3, d4, d5, d6, d7] => { results := [.lit (.bool true)], args := [d1, d2, d3, d4, d5, d6, d7] }
  | _ => none }
def fnExactCountFailuresRow : OpenClaim := { program := "ytkaaiocbiknipaa", sum := "ecaccb2931512db63b8eaa1cf7aa5818343a720ae202684dcd86af5f710a979f", func := "loop.example/g00930/laws.FnExactCountFailures", spec := "fnExactCountFailures", recurses := true, apart := false }
def FnExactCountFailuresSaid : Prop := fnExactCountFailuresRow.holds Try.pinned (OpenSpec.ofChange fnExactCountFailuresSpec)

/-- ITS FALSE NEIGHBOUR: 'it returns false'. Refute it at one input. -/
def fnExactCountFailuresWrong : ChangeSpec := { name := "fnExactCountFailures", fn := fun _ => fun
  | [d1, d2, d3, d4, d5, d6, d7] => { results := [.lit (.bool false)], args := [d1, d2, d3, d4, d5, d6, d7] }
  | _ => none }
def FnExactCountFailuresWrongFalsely : Prop := fnExactCountFailuresRow.holds Try.pinned (OpenSpec.ofChange fnExactCountFailuresWrong)

/-- 'laws.FnExactFirstFailure': WHATEVER THE INPUT: true; the input reads as it did. -/
def fnExactFirstFailureSpec : ChangeSpec := { name := "fnExactFirstFailure", fn := fun _ => fun
  | [d1, d2, d3, d4, d5, d6, d7] => { results := [.lit (.bool true)], args := [d1, d2, d3, d4, d5, d6, d7] }
  | _ => none }
def fnExactFirstFailureRow : OpenClaim := { program := "ytkaaiocbiknipaa", sum := "ecaccb2931512db63b8eaa1cf7aa5818343a720ae202684dcd86af5f710a979f", func := "loop.example/g00930/laws.FnExactFirstFailure", spec := "fnExactFirstFailure", recurses := true, apart := false }
def FnExactFirstFailureSaid : Prop := fnExactFirstFailureRow.holds Try.pinned (OpenSpec.ofChange fnExactFirstFailureSpec)

/-- ITS FALSE NEIGHBOUR: 'it returns false'. Refute it at one input. -/
def fnExactFirstFailureWrong : ChangeSpec := { name := "fnExactFirstFailure", fn := fun _ => fun
  | [d1, d2, d3, d4, d5, d6, d7] => { results := [.lit (.bool false)], args := [d1, d2, d3, d4, d5, d6, d7] }
  | _ => none }
def FnExactFirstFailureWrongFalsely : Prop := fnExactFirstFailureRow.holds Try.pinned (OpenSpec.ofChange fnExactFirstFailureWrong)

/-- 'laws.FnExactShortestFor': WHATEVER THE INPUT: true; the input reads as it did. -/
def fnExactShortestForSpec : ChangeSpec := { name := "fnExactShortestFor", fn := fun _ => fun
  | [d1, d2, d3, d4, d5, d6, d7] => { results := [.lit (.bool true)], args := [d1, d2, d3, d4, d5, d6, d7] }
  | _ => none }
def fnExactShortestForRow : OpenClaim := { program := "ytkaaiocbiknipaa", sum := "ecaccb2931512db63b8eaa1cf7aa5818343a720ae202684dcd86af5f710a979f", func := "loop.example/g00930/laws.FnExactShortestFor", spec := "fnExactShortestFor", recurses := true, apart := false }
def FnExactShortestForSaid : Prop := fnExactShortestForRow.holds Try.pinned (OpenSpec.ofChange fnExactShortestForSpec)

/-- ITS FALSE NEIGHBOUR: 'it returns false'. Refute it at one input. -/
def fnExactShortestForWrong : ChangeSpec := { name := "fnExactShortestFor", fn := fun _ => fun
  | [d1, d2, d3, d4, d5, d6, d7] => { results := [.lit (.bool false)], args := [d1, d2, d3, d4, d5, d6, d7] }
  | _ => none }
def FnExactShortestForWrongFalsely : Prop := fnExactShortestForRow.holds Try.pinned (OpenSpec.ofChange fnExactShortestForWrong)

/-- 'laws.FnExactFactorProofs': WHATEVER THE INPUT: true; the input reads as it did. -/
def fnExactFactorProofsSpec : ChangeSpec := { name := "fnExactFactorProofs", fn := fun _ => fun
  | [d1, d2, d3, d4, d5, d6] => { results := [.lit (.bool true)], args := [d1, d2, d3, d4, d5, d6] }
  | _ => none }
def fnExactFactorProofsRow : OpenClaim := { program := "ytkaaiocbiknipaa", sum := "ecaccb2931512db63b8eaa1cf7aa5818343a720ae202684dcd86af5f710a979f", func := "loop.example/g00930/laws.FnExactFactorProofs", spec := "fnExactFactorProofs", recurses := true, apart := false }
def FnExactFactorProofsSaid : Prop := fnExactFactorProofsRow.holds Try.pinned (OpenSpec.ofChange fnExactFactorProofsSpec)

/-- ITS FALSE NEIGHBOUR: 'it returns false'. Refute it at one input. -/
def fnExactFactorProofsWrong : ChangeSpec := { name := "fnExactFactorProofs", fn := fun _ => fun
  | [d1, d2, d3, d4, d5, d6] => { results := [.lit (.bool false)], args := [d1, d2, d3, d4, d5, d6] }
  | _ => none }
def FnExactFactorProofsWrongFalsely : Prop := fnExactFactorProofsRow.holds Try.pinned (OpenSpec.ofChange fnExactFactorProofsWrong)

/- THE SECOND FORM. 'bulk': how many values and letters a reading holds, each counted each time it is reached (what is shared counts as often as it is met; a slice's spare places count too). A statement '..UptoSaid' is the law's where the arguments, and the package variables that the reading takes, are together of bulk at most 1048576: NARROWER than '..Said'. Prove '..Said' where nothing that the law and all that it calls make is longer than what came in: it says more and counts as full. Else prove '..UptoSaid'. A law counts once. -/
mutual
def uptoBulk {H : Type} : DataW H → Nat
  | .lit (.string bytes) => bytes.length + 1
  | .lit _ => 1
  | .nil => 1
  | .ptr d => uptoBulk d + 1
  | .slice elems spare => uptoBulkAll elems + uptoBulkAll spare + 1
  | .agg parts => uptoBulkAll parts + 1
  | .iface _ d => uptoBulk d + 1
  | .map entries => uptoBulkEntries entries + 1
  | .held _ => 1
def uptoBulkAll {H : Type} : List (DataW H) → Nat
  | [] => 0
  | d :: r => uptoBulk d + uptoBulkAll r
def uptoBulkEntries {H : Type} : List (Lit × DataW H) → Nat
  | [] => 0
  | x :: r => uptoBulkEntry x + uptoBulkEntries r
def uptoBulkEntry {H : Type} : Lit × DataW H → Nat
  | (.string bytes, d) => bytes.length + uptoBulk d + 1
  | (_, d) => uptoBulk d + 1
 end
def uptoSmall : (H : Type) → List (DataW H) → Bool := fun _ ds => decide (uptoBulkAll ds ≤ 1048576)
def OpenSpec.upto (s : _root_.Go.ChangeSpec) : _root_.Go.OpenSpec := { _root_.Go.OpenSpec.ofChange s with cond := some uptoSmall }

/-- 'laws.FnAccumulated', WHERE WHAT IT READS IS OF BULK AT MOST 1048576: true; the input reads as it did. -/
def fnAccumulatedUptoRow : OpenClaim := { program := "ytkaaiocbiknipaa", sum := "ecaccb2931512db63b8eaa1cf7aa5818343a720ae202684dcd86af5f710a979f", func := "loop.example/g00930/laws.FnAccumulated", spec := "fnAccumulated", apart := false, narrowed := true }
def FnAccumulatedUptoSaid : Prop := fnAccumulatedUptoRow.holds Try.pinned (OpenSpec.upto fnAccumulatedSpec)

/-- 'laws.FnTurned', WHERE WHAT IT READS IS OF BULK AT MOST 1048576: true; the input reads as it did. -/
def fnTurnedUptoRow : OpenClaim := { program := "ytkaaiocbiknipaa", sum := "ecaccb2931512db63b8eaa1cf7aa5818343a720ae202684dcd86af5f710a979f", func := "loop.example/g00930/laws.FnTurned", spec := "fnTurned", apart := false, narrowed := true }
def FnTurnedUptoSaid : Prop := fnTurnedUptoRow.holds Try.pinned (OpenSpec.upto fnTurnedSpec)

/-- 'laws.FnExactDivideOn', WHERE WHAT IT READS IS OF BULK AT MOST 1048576: true; the input reads as it did. -/
def fnExactDivideOnUptoRow : OpenClaim := { program := "ytkaaiocbiknipaa", sum := "ecaccb2931512db63b8eaa1cf7aa5818343a720ae202684dcd86af5f710a979f", func := "loop.example/g00930/laws.FnExactDivideOn", spec := "fnExactDivideOn", recurses := true, apart := false, narrowed := true }
def FnExactDivideOnUptoSaid : Prop := fnExactDivideOnUptoRow.holds Try.pinned (OpenSpec.upto fnExactDivideOnSpec)

/-- 'laws.FnExactTraceProgram', WHERE WHAT IT READS IS OF BULK AT MOST 1048576: true; the input reads as it did. -/
def fnExactTraceProgramUptoRow : OpenClaim := { program := "ytkaaiocbiknipaa", sum := "ecaccb2931512db63b8eaa1cf7aa5818343a720ae202684dcd86af5f710a979f", func := "loop.example/g00930/laws.FnExactTraceProgram", spec := "fnExactTraceProgram", recurses := true, apart := false, narrowed := true }
def FnExactTraceProgramUptoSaid : Prop := fnExactTraceProgramUptoRow.holds Try.pinned (OpenSpec.upto fnExactTraceProgramSpec)

/-- 'laws.FnExactRunProgram', WHERE WHAT IT READS IS OF BULK AT MOST 1048576: true; the input reads as it did. -/
def fnExactRunProgramUptoRow : OpenClaim := { program := "ytkaaiocbiknipaa", sum := "ecaccb2931512db63b8eaa1cf7aa5818343a720ae202684dcd86af5f710a979f", func := "loop.example/g00930/laws.FnExactRunProgram", spec := "fnExactRunProgram", recurses := true, apart := false, narrowed := true }
def FnExactRunProgramUptoSaid : Prop := fnExactRunProgramUptoRow.holds Try.pinned (OpenSpec.upto fnExactRunProgramSpec)

/-- 'laws.FnExactSumOn', WHERE WHAT IT READS IS OF BULK AT MOST 1048576: true; the input reads as it did. -/
def fnExactSumOnUptoRow : OpenClaim := { program := "ytkaaiocbiknipaa", sum := "ecaccb2931512db63b8eaa1cf7aa5818343a720ae202684dcd86af5f710a979f", func := "loop.example/g00930/laws.FnExactSumOn", spec := "fnExactSumOn", recurses := true, apart := false, narrowed := true }
def FnExactSumOnUptoSaid : Prop := fnExactSumOnUptoRow.holds Try.pinned (OpenSpec.upto fnExactSumOnSpec)

/-- 'laws.FnExactMultiplyOn', WHERE WHAT IT READS IS OF BULK AT MOST 1048576: true; the input reads as it did. -/
def fnExactMultiplyOnUptoRow : OpenClaim := { program := "ytkaaiocbiknipaa", sum := "ecaccb2931512db63b8eaa1cf7aa5818343a720ae202684dcd86af5f710a979f", func := "loop.example/g00930/laws.FnExactMultiplyOn", spec := "fnExactMultiplyOn", recurses := true, apart := false, narrowed := true }
def FnExactMultiplyOnUptoSaid : Prop := fnExactMultiplyOnUptoRow.holds Try.pinned (OpenSpec.upto fnExactMultiplyOnSpec)

/-- 'laws.FnExactKeepsPromise', WHERE WHAT IT READS IS OF BULK AT MOST 1048576: true; the input reads as it did. -/
def fnExactKeepsPromiseUptoRow : OpenClaim := { program := "ytkaaiocbiknipaa", sum := "ecaccb2931512db63b8eaa1cf7aa5818343a720ae202684dcd86af5f710a979f", func := "loop.example/g00930/laws.FnExactKeepsPromise", spec := "fnExactKeepsPromise", recurses := true, apart := false, narrowed := true }
def FnExactKeepsPromiseUptoSaid : Prop := fnExactKeepsPromiseUptoRow.holds Try.pinned (OpenSpec.upto fnExactKeepsPromiseSpec)

/-- 'laws.FnExactCountFailures', WHERE WHAT IT READS IS OF BULK AT MOST 1048576: true; the input reads as it did. -/
def fnExactCountFailuresUptoRow : OpenClaim := { program := "ytkaaiocbiknipaa", sum := "ecaccb2931512db63b8eaa1cf7aa5818343a720ae202684dcd86af5f710a979f", func := "loop.example/g00930/laws.FnExactCountFailures", spec := "fnExactCountFailures", recurses := true, apart := false, narrowed := true }
def FnExactCountFailuresUptoSaid : Prop := fnExactCountFailuresUptoRow.holds Try.pinned (OpenSpec.upto fnExactCountFailuresSpec)

/-- 'laws.FnExactFirstFailure', WHERE WHAT IT READS IS OF BULK AT MOST 1048576: true; the input reads as it did. -/
def fnExactFirstFailureUptoRow : OpenClaim := { program := "ytkaaiocbiknipaa", sum := "ecaccb2931512db63b8eaa1cf7aa5818343a720ae202684dcd86af5f710a979f", func := "loop.example/g00930/laws.FnExactFirstFailure", spec := "fnExactFirstFailure", recurses := true, apart := false, narrowed := true }
def FnExactFirstFailureUptoSaid : Prop := fnExactFirstFailureUptoRow.holds Try.pinned (OpenSpec.upto fnExactFirstFailureSpec)

/-- 'laws.FnExactShortestFor', WHERE WHAT IT READS IS OF BULK AT MOST 1048576: true; the input reads as it did. -/
def fnExactShortestForUptoRow : OpenClaim := { program := "ytkaaiocbiknipaa", sum := "ecaccb2931512db63b8eaa1cf7aa5818343a720ae202684dcd86af5f710a979f", func := "loop.example/g00930/laws.FnExactShortestFor", spec := "fnExactShortestFor", recurses := true, apart := false, narrowed := true }
def FnExactShortestForUptoSaid : Prop := fnExactShortestForUptoRow.holds Try.pinned (OpenSpec.upto fnExactShortestForSpec)

/-- 'laws.FnExactFactorProofs', WHERE WHAT IT READS IS OF BULK AT MOST 1048576: true; the input reads as it did. -/
def fnExactFactorProofsUptoRow : OpenClaim := { program := "ytkaaiocbiknipaa", sum := "ecaccb2931512db63b8eaa1cf7aa5818343a720ae202684dcd86af5f710a979f", func := "loop.example/g00930/laws.FnExactFactorProofs", spec := "fnExactFactorProofs", recurses := true, apart := false, narrowed := true }
def FnExactFactorProofsUptoSaid : Prop := fnExactFactorProofsUptoRow.holds Try.pinned (OpenSpec.upto fnExactFactorProofsSpec)

end Rows
end Go.Proofs.Ytkaaiocbiknipaa
