/-
  No cell of these rows narrows 'for every input' (looked for: loops, veiled, ifaces, maps, wideKeys, modest, calm, conditions, laid).
  DERIVED. THE GIVEN ROWS OF THIS SEAT. 5 by the template 'for every input the law returns true; each argument reads behind the call as it read before'; 0 by the template 'total and deterministic' (their statements: YtmnegfhigfipbaaTotals.lean).
  GIVEN WITH THE SEED: the statements are not yours to turn. If you find one false, say at which input.
  Laid BY PROGRAM, IN A SANDBOX (cutbox-rows.mjs): the forced cells as the released guide's own fill.sh prints them over the translation 4bfc3b993a373eb0… (all of the seat's roots in one cut). By AI agents, Wed Nov 11 2026. No macro, syntax, notation, axiom, sorry.
-/
import Derived.Test.YtmnegfhigfipbaaChecked
import GoSem.Claim
import GoSem.ClaimJoined
import GoSem.ClaimMapViews
import Derived.JoinedTies
import Derived.KernelRfl
namespace Go.Proofs.Ytmnegfhigfipbaa
/- THE CELL 'sum', in the pinned program and in every row, IS THE sha256 OF THE DUMP (.gsa) THAT YtmnegfhigfipbaaProg.lean LOADS. Nothing in Lean hashes anything: it is a label: what it is worth is what the hold of that sum in a sandbox is worth. -/
noncomputable def Try.pinned : Pinned := { name := "ytmnegfhigfipbaa", sum := "4bfc3b993a373eb07136ae7660fe780cf9f0d60b5632da590836915d2362a6ad", checked := Try.checked }
namespace Rows
def none {H : Type} : Left H := { results := [], args := [] }

/-- 'laws.FnExactCountExplanations': WHATEVER THE INPUT: true; the input reads as it did. -/
def fnExactCountExplanationsSpec : ChangeSpec := { name := "fnExactCountExplanations", fn := fun _ => fun
  | [d1, d2] => { results := [.lit (.bool true)], args := [d1, d2] }
  | _ => none }
def fnExactCountExplanationsRow : OpenClaim := { program := "ytmnegfhigfipbaa", sum := "4bfc3b993a373eb07136ae7660fe780cf9f0d60b5632da590836915d2362a6ad", func := "loop.example/g00930/laws.FnExactCountExplanations", spec := "fnExactCountExplanations", apart := false }
def FnExactCountExplanationsSaid : Prop := fnExactCountExplanationsRow.holds Try.pinned (OpenSpec.ofChange fnExactCountExplanationsSpec)

/-- ITS FALSE NEIGHBOUR: 'it returns false'. Refute it at one input. -/
def fnExactCountExplanationsWrong : ChangeSpec := { name := "fnExactCountExplanations", fn := fun _ => fun
  | [d1, d2] => { results := [.lit (.bool false)], args := [d1, d2] }
  | _ => none }
def FnExactCountExplanationsWrongFalsely : Prop := fnExactCountExplanationsRow.holds Try.pinned (OpenSpec.ofChange fnExactCountExplanationsWrong)

/-- 'laws.FnDiagnosed': WHATEVER THE INPUT: true; the input reads as it did. -/
def fnDiagnosedSpec : ChangeSpec := { name := "fnDiagnosed", fn := fun _ => fun
  | [d] => { results := [.lit (.bool true)], args := [d] }
  | _ => none }
def fnDiagnosedRow : OpenClaim := { program := "ytmnegfhigfipbaa", sum := "4bfc3b993a373eb07136ae7660fe780cf9f0d60b5632da590836915d2362a6ad", func := "loop.example/g00930/laws.FnDiagnosed", spec := "fnDiagnosed", apart := false }
def FnDiagnosedSaid : Prop := fnDiagnosedRow.holds Try.pinned (OpenSpec.ofChange fnDiagnosedSpec)

/-- ITS FALSE NEIGHBOUR: 'it returns false'. Refute it at one input. -/
def fnDiagnosedWrong : ChangeSpec := { name := "fnDiagnosed", fn := fun _ => fun
  | [d] => { results := [.lit (.bool false)], args := [d] }
  | _ => none }
def FnDiagnosedWrongFalsely : Prop := fnDiagnosedRow.holds Try.pinned (OpenSpec.ofChange fnDiagnosedWrong)

/-- 'laws.FnExactKindOfBytes': WHATEVER THE INPUT: true; the input reads as it did. -/
def fnExactKindOfBytesSpec : ChangeSpec := { name := "fnExactKindOfBytes", fn := fun _ => fun
  | [d] => { results := [.lit (.bool true)], args := [d] }
  | _ => none }
def fnExactKindOfBytesRow : OpenClaim := { program := "ytmnegfhigfipbaa", sum := "4bfc3b993a373eb07136ae7660fe780cf9f0d60b5632da590836915d2362a6ad", func := "loop.example/g00930/laws.FnExactKindOfBytes", spec := "fnExactKindOfBytes", apart := false }
def FnExactKindOfBytesSaid : Prop := fnExactKindOfBytesRow.holds Try.pinned (OpenSpec.ofChange fnExactKindOfBytesSpec)

/-- ITS FALSE NEIGHBOUR: 'it returns false'. Refute it at one input. -/
def fnExactKindOfBytesWrong : ChangeSpec := { name := "fnExactKindOfBytes", fn := fun _ => fun
  | [d] => { results := [.lit (.bool false)], args := [d] }
  | _ => none }
def FnExactKindOfBytesWrongFalsely : Prop := fnExactKindOfBytesRow.holds Try.pinned (OpenSpec.ofChange fnExactKindOfBytesWrong)

/-- 'laws.FnExactSuspectLevers': WHATEVER THE INPUT: true; the input reads as it did. -/
def fnExactSuspectLeversSpec : ChangeSpec := { name := "fnExactSuspectLevers", fn := fun _ => fun
  | [d1, d2] => { results := [.lit (.bool true)], args := [d1, d2] }
  | _ => none }
def fnExactSuspectLeversRow : OpenClaim := { program := "ytmnegfhigfipbaa", sum := "4bfc3b993a373eb07136ae7660fe780cf9f0d60b5632da590836915d2362a6ad", func := "loop.example/g00930/laws.FnExactSuspectLevers", spec := "fnExactSuspectLevers", apart := false }
def FnExactSuspectLeversSaid : Prop := fnExactSuspectLeversRow.holds Try.pinned (OpenSpec.ofChange fnExactSuspectLeversSpec)

/-- ITS FALSE NEIGHBOUR: 'it returns false'. Refute it at one input. -/
def fnExactSuspectLeversWrong : ChangeSpec := { name := "fnExactSuspectLevers", fn := fun _ => fun
  | [d1, d2] => { results := [.lit (.bool false)], args := [d1, d2] }
  | _ => none }
def FnExactSuspectLeversWrongFalsely : Prop := fnExactSuspectLeversRow.holds Try.pinned (OpenSpec.ofChange fnExactSuspectLeversWrong)

/-- 'laws.FnExactDiagnose': WHATEVER THE INPUT: true; the input reads as it did. -/
def fnExactDiagnoseSpec : ChangeSpec := { name := "fnExactDiagnose", fn := fun _ => fun
  | [d] => { results := [.lit (.bool true)], args := [d] }
  | _ => none }
def fnExactDiagnoseRow : OpenClaim := { program := "ytmnegfhigfipbaa", sum := "4bfc3b993a373eb07136ae7660fe780cf9f0d60b5632da590836915d2362a6ad", func := "loop.example/g00930/laws.FnExactDiagnose", spec := "fnExactDiagnose", apart := false }
def FnExactDiagnoseSaid : Prop := fnExactDiagnoseRow.holds Try.pinned (OpenSpec.ofChange fnExactDiagnoseSpec)

/-- ITS FALSE NEIGHBOUR: 'it returns false'. Refute it at one input. -/
def fnExactDiagnoseWrong : ChangeSpec := { name := "fnExactDiagnose", fn := fun _ => fun
  | [d] => { results := [.lit (.bool false)], args := [d] }
  | _ => none }
def FnExactDiagnoseWrongFalsely : Prop := fnExactDiagnoseRow.holds Try.pinned (OpenSpec.ofChange fnExactDiagnoseWrong)

/- THE SECOND FORM. 'bulk': how many values and letters a reading holds, each counted each time it is reached (what is shared counts as often as it is met; a slice's spare places count too). A statement '..UptoSaid' is the law's where the arguments, and the package variables that the reading takes, are together of bulk at most 1048576: NARROWER than '..Said'. Prove '..Said' where nothing that the law and all that it calls make is longer than what came in: it says more and counts as full. Else prove '..UptoSaid'. A law counts once. -/
mutual
def uptoBulk {H : Type} : DataW H → Nat
  | .lit (.string bytes) => bytes.length + 1
  | .lit _ => 1
  | .nil => 1
  | .ptr d => uptoBulk d + 1
  | .slice elems spare => uptoBulkAll elems + uptoBulkAll spare + 1
  | .agg parts => uptoBulkAll parts + 1
  | .iface _ d => uptoBulk d + 1
  | .map entries => uptoBulkEntries entries + 1
  | .held _ => 1
def uptoBulkAll {H : Type} : List (DataW H) → Nat
  | [] => 0
  | d :: r => uptoBulk d + uptoBulkAll r
def uptoBulkEntries {H : Type} : List (Lit × DataW H) → Nat
  | [] => 0
  | x :: r => uptoBulkEntry x + uptoBulkEntries r
def uptoBulkEntry {H : Type} : Lit × DataW H → Nat
  | (.string bytes, d) => bytes.length + uptoBulk d + 1
  | (_, d) => uptoBulk d + 1
 end
def uptoSmall : (H : Type) → List (DataW H) → Bool := fun _ ds => decide (uptoBulkAll ds ≤ 1048576)
def OpenSpec.upto (s : _root_.Go.ChangeSpec) : _root_.Go.OpenSpec := { _root_.Go.OpenSpec.ofChange s with cond := some uptoSmall }

/-- 'laws.FnExactCountExplanations', WHERE WHAT IT READS IS OF BULK AT MOST 1048576: true; the input reads as it did. -/
def fnExactCountExplanationsUptoRow : OpenClaim := { program := "ytmnegfhigfipbaa", sum := "4bfc3b993a373eb07136ae7660fe780cf9f0d60b5632da590836915d2362a6ad", func := "loop.example/g00930/laws.FnExactCountExplanations", spec := "fnExactCountExplanations", apart := false, narrowed := true }
def FnExactCountExplanationsUptoSaid : Prop := fnExactCountExplanationsUptoRow.holds Try.pinned (OpenSpec.upto fnExactCountExplanationsSpec)

/-- 'laws.FnDiagnosed', WHERE WHAT IT READS IS OF BULK AT MOST 1048576: true; the input reads as it did. -/
def fnDiagnosedUptoRow : OpenClaim := { program := "ytmnegfhigfipbaa", sum := "4bfc3b993a373eb07136ae7660fe780cf9f0d60b5632da590836915d2362a6ad", func := "loop.example/g00930/laws.FnDiagnosed", spec := "fnDiagnosed", apart := false, narrowed := true }
def FnDiagnosedUptoSaid : Prop := fnDiagnosedUptoRow.holds Try.pinned (OpenSpec.upto fnDiagnosedSpec)

/-- 'laws.FnExactKindOfBytes', WHERE WHAT IT READS IS OF BULK AT MOST 1048576: true; the input reads as it did. -/
def fnExactKindOfBytesUptoRow : OpenClaim := { program := "ytmnegfhigfipbaa", sum := "4bfc3b993a373eb07136ae7660fe780cf9f0d60b5632da590836915d2362a6ad", func := "loop.example/g00930/laws.FnExactKindOfBytes", spec := "fnExactKindOfBytes", apart := false, narrowed := true }
def FnExactKindOfBytesUptoSaid : Prop := fnExactKindOfBytesUptoRow.holds Try.pinned (OpenSpec.upto fnExactKindOfBytesSpec)

/-- 'laws.FnExactSuspectLevers', WHERE WHAT IT READS IS OF BULK AT MOST 1048576: true; the input reads as it did. -/
def fnExactSuspectLeversUptoRow : OpenClaim := { program := "ytmnegfhigfipbaa", sum := "4bfc3b993a373eb07136ae7660fe780cf9f0d60b5632da590836915d2362a6ad", func := "loop.example/g00930/laws.FnExactSuspectLevers", spec := "fnExactSuspectLevers", apart := false, narrowed := true }
def FnExactSuspectLeversUptoSaid : Prop := fnExactSuspectLeversUptoRow.holds Try.pinned (OpenSpec.upto fnExactSuspectLeversSpec)

/-- 'laws.FnExactDiagnose', WHERE WHAT IT READS IS OF BULK AT MOST 1048576: true; the input reads as it did. -/
def fnExactDiagnoseUptoRow : OpenClaim := { program := "ytmnegfhigfipbaa", sum := "4bfc3b993a373eb07136ae7660fe780cf9f0d60b5632da590836915d2362a6ad", func := "loop.example/g00930/laws.FnExactDiagnose", spec := "fnExactDiagnose", apart := false, narrowed := true }
def FnExactDiagnoseUptoSaid : Prop := fnExactDiagnoseUptoRow.holds Try.pinned (OpenSpec.upto fnExactDiagnoseSpec)

end Rows
end Go.Proofs.Ytmnegfhigfipbaa
