/-
  No cell of these rows narrows 'for every input' (looked for: loops, veiled, ifaces, maps, wideKeys, modest, calm, conditions, laid).
  DERIVED. THE GIVEN ROWS OF THIS SEAT. 4 by the template 'for every input the law returns true; each argument reads behind the call as it read before'; 0 by the template 'total and deterministic' (their statements: YtkfbfainhmkkdaaTotals.lean).
  GIVEN WITH THE SEED: the statements are not yours to turn. If you find one false, say at which input.
  Laid BY PROGRAM, IN A SANDBOX (cutbox-rows.mjs): the forced cells as the released guide's own fill.sh prints them over the translation af5d4ea9c78bc573… (all of the seat's roots in one cut). By AI agents, Wed Nov 11 2026. No macro, syntax, notation, axiom, sorry.
-/
import Derived.Test.YtkfbfainhmkkdaaChecked
import GoSem.Claim
import GoSem.ClaimJoined
import GoSem.ClaimMapViews
import Derived.JoinedTies
import Derived.KernelRfl
namespace Go.Proofs.Ytkfbfainhmkkdaa
/- THE CELL 'sum', in the pinned program and in every row, IS THE sha256 OF THE DUMP (.gsa) THAT YtkfbfainhmkkdaaProg.lean LOADS. Nothing in Lean hashes anything: it is a label: what it is worth is what the hold of that sum in a sandbox is worth. -/
noncomputable def Try.pinned : Pinned := { name := "ytkfbfainhmkkdaa", sum := "af5d4ea9c78bc573c4a7e38d8336fdbd287f065e80a8a970857feecba68cae42", checked := Try.checked }
namespace Rows
def none {H : Type} : Left H := { results := [], args := [] }

/-- 'laws.FnRuns': WHATEVER THE INPUT: true; the input reads as it did. -/
def fnRunsSpec : ChangeSpec := { name := "fnRuns", fn := fun _ => fun
  | [d] => { results := [.lit (.bool true)], args := [d] }
  | _ => none }
def fnRunsRow : OpenClaim := { program := "ytkfbfainhmkkdaa", sum := "af5d4ea9c78bc573c4a7e38d8336fdbd287f065e80a8a970857feecba68cae42", func := "loop.example/g00930/laws.FnRuns", spec := "fnRuns", recurses := true, apart := false }
def FnRunsSaid : Prop := fnRunsRow.holds Try.pinned (OpenSpec.ofChange fnRunsSpec)

/-- ITS FALSE NEIGHBOUR: 'it returns false'. Refute it at one input. -/
def fnRunsWrong : ChangeSpec := { name := "fnRuns", fn := fun _ => fun
  | [d] => { results := [.lit (.bool false)], args := [d] }
  | _ => none }
def FnRunsWrongFalsely : Prop := fnRunsRow.holds Try.pinned (OpenSpec.ofChange fnRunsWrong)

/-- 'laws.FnPacked': WHATEVER THE INPUT: true; the input reads as it did. -/
def fnPackedSpec : ChangeSpec := { name := "fnPacked", fn := fun _ => fun
  | [d] => { results := [.lit (.bool true)], args := [d] }
  | _ => none }
def fnPackedRow : OpenClaim := { program := "ytkfbfainhmkkdaa", sum := "af5d4ea9c78bc573c4a7e38d8336fdbd287f065e80a8a970857feecba68cae42", func := "loop.example/g00930/laws.FnPacked", spec := "fnPacked", recurses := true, apart := false }
def FnPackedSaid : Prop := fnPackedRow.holds Try.pinned (OpenSpec.ofChange fnPackedSpec)

/-- ITS FALSE NEIGHBOUR: 'it returns false'. Refute it at one input. -/
def fnPackedWrong : ChangeSpec := { name := "fnPacked", fn := fun _ => fun
  | [d] => { results := [.lit (.bool false)], args := [d] }
  | _ => none }
def FnPackedWrongFalsely : Prop := fnPackedRow.holds Try.pinned (OpenSpec.ofChange fnPackedWrong)

/-- 'laws.FnUnpacked': WHATEVER THE INPUT: true; the input reads as it did. -/
def fnUnpackedSpec : ChangeSpec := { name := "fnUnpacked", fn := fun _ => fun
  | [d] => { results := [.lit (.bool true)], args := [d] }
  | _ => none }
def fnUnpackedRow : OpenClaim := { program := "ytkfbfainhmkkdaa", sum := "af5d4ea9c78bc573c4a7e38d8336fdbd287f065e80a8a970857feecba68cae42", func := "loop.example/g00930/laws.FnUnpacked", spec := "fnUnpacked", recurses := true, apart := false }
def FnUnpackedSaid : Prop := fnUnpackedRow.holds Try.pinned (OpenSpec.ofChange fnUnpackedSpec)

/-- ITS FALSE NEIGHBOUR: 'it returns false'. Refute it at one input. -/
def fnUnpackedWrong : ChangeSpec := { name := "fnUnpacked", fn := fun _ => fun
  | [d] => { results := [.lit (.bool false)], args := [d] }
  | _ => none }
def FnUnpackedWrongFalsely : Prop := fnUnpackedRow.holds Try.pinned (OpenSpec.ofChange fnUnpackedWrong)

/-- 'laws.FnTurned': WHATEVER THE INPUT: true; the input reads as it did. -/
def fnTurnedSpec : ChangeSpec := { name := "fnTurned", fn := fun _ => fun
  | [d] => { results := [.lit (.bool true)], args := [d] }
  | _ => none }
def fnTurnedRow : OpenClaim := { program := "ytkfbfainhmkkdaa", sum := "af5d4ea9c78bc573c4a7e38d8336fdbd287f065e80a8a970857feecba68cae42", func := "loop.example/g00930/laws.FnTurned", spec := "fnTurned", apart := false }
def FnTurnedSaid : Prop := fnTurnedRow.holds Try.pinned (OpenSpec.ofChange fnTurnedSpec)

/-- ITS FALSE NEIGHBOUR: 'it returns false'. Refute it at one input. -/
def fnTurnedWrong : ChangeSpec := { name := "fnTurned", fn := fun _ => fun
  | [d] => { results := [.lit (.bool false)], args := [d] }
  | _ => none }
def FnTurnedWrongFalsely : Prop := fnTurnedRow.holds Try.pinned (OpenSpec.ofChange fnTurnedWrong)

/- THE SECOND FORM. 'bulk': how many values and letters a reading holds, each counted each time it is reached (what is shared counts as often as it is met; a slice's spare places count too). A statement '..UptoSaid' is the law's where the arguments, and the package variables that the reading takes, are together of bulk at most 1048576: NARROWER than '..Said'. Prove '..Said' where nothing that the law and all that it calls make is longer than what came in: it says more and counts as full. Else prove '..UptoSaid'. A law counts once. -/
mutual
def uptoBulk {H : Type} : DataW H → Nat
  | .lit (.string bytes) => bytes.length + 1
  | .lit _ => 1
  | .nil => 1
  | .ptr d => uptoBulk d + 1
  | .slice elems spare => uptoBulkAll elems + uptoBulkAll spare + 1
  | .agg parts => uptoBulkAll parts + 1
  | .iface _ d => uptoBulk d + 1
  | .map entries => uptoBulkEntries entries + 1
  | .held _ => 1
def uptoBulkAll {H : Type} : List (DataW H) → Nat
  | [] => 0
  | d :: r => uptoBulk d + uptoBulkAll r
def uptoBulkEntries {H : Type} : List (Lit × DataW H) → Nat
  | [] => 0
  | x :: r => uptoBulkEntry x + uptoBulkEntries r
def uptoBulkEntry {H : Type} : Lit × DataW H → Nat
  | (.string bytes, d) => bytes.length + uptoBulk d + 1
  | (_, d) => uptoBulk d + 1
 end
def uptoSmall : (H : Type) → List (DataW H) → Bool := fun _ ds => decide (uptoBulkAll ds ≤ 1048576)
def OpenSpec.upto (s : _root_.Go.ChangeSpec) : _root_.Go.OpenSpec := { _root_.Go.OpenSpec.ofChange s with cond := some uptoSmall }

/-- 'laws.FnRuns', WHERE WHAT IT READS IS OF BULK AT MOST 1048576: true; the input reads as it did. -/
def fnRunsUptoRow : OpenClaim := { program := "ytkfbfainhmkkdaa", sum := "af5d4ea9c78bc573c4a7e38d8336fdbd287f065e80a8a970857feecba68cae42", func := "loop.example/g00930/laws.FnRuns", spec := "fnRuns", recurses := true, apart := false, narrowed := true }
def FnRunsUptoSaid : Prop := fnRunsUptoRow.holds Try.pinned (OpenSpec.upto fnRunsSpec)

/-- 'laws.FnPacked', WHERE WHAT IT READS IS OF BULK AT MOST 1048576: true; the input reads as it did. -/
def fnPackedUptoRow : OpenClaim := { program := "ytkfbfainhmkkdaa", sum := "af5d4ea9c78bc573c4a7e38d8336fdbd287f065e80a8a970857feecba68cae42", func := "loop.example/g00930/laws.FnPacked", spec := "fnPacked", recurses := true, apart := false, narrowed := true }
def FnPackedUptoSaid : Prop := fnPackedUptoRow.holds Try.pinned (OpenSpec.upto fnPackedSpec)

/-- 'laws.FnUnpacked', WHERE WHAT IT READS IS OF BULK AT MOST 1048576: true; the input reads as it did. -/
def fnUnpackedUptoRow : OpenClaim := { program := "ytkfbfainhmkkdaa", sum := "af5d4ea9c78bc573c4a7e38d8336fdbd287f065e80a8a970857feecba68cae42", func := "loop.example/g00930/laws.FnUnpacked", spec := "fnUnpacked", recurses := true, apart := false, narrowed := true }
def FnUnpackedUptoSaid : Prop := fnUnpackedUptoRow.holds Try.pinned (OpenSpec.upto fnUnpackedSpec)

/-- 'laws.FnTurned', WHERE WHAT IT READS IS OF BULK AT MOST 1048576: true; the input reads as it did. -/
def fnTurnedUptoRow : OpenClaim := { program := "ytkfbfainhmkkdaa", sum := "af5d4ea9c78bc573c4a7e38d8336fdbd287f065e80a8a970857feecba68cae42", func := "loop.example/g00930/laws.FnTurned", spec := "fnTurned", apart := false, narrowed := true }
def FnTurnedUptoSaid : Prop := fnTurnedUptoRow.holds Try.pinned (OpenSpec.upto fnTurnedSpec)

end Rows
end Go.Proofs.Ytkfbfainhmkkdaa
