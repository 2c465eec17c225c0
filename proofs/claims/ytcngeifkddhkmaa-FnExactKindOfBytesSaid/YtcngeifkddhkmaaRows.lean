/-
  No cell of these rows narrows 'for every input' (looked for: loops, veiled, ifaces, maps, wideKeys, modest, calm, conditions, laid).
  DERIVED. THE GIVEN ROWS OF THIS SEAT. 4 by the template 'for every input the law returns true; each argument reads behind the call as it read before'; 0 by the template 'total and deterministic' (their statements: YtcngeifkddhkmaaTotals.lean).
  GIVEN WITH THE SEED: the statements are not yours to turn. If you find one false, say at which input.
  Laid BY PROGRAM, IN A SANDBOX (cutbox-rows.mjs): the forced cells as the released guide's own fill.sh prints them over the translation 3dd0dcb389953856… (all of the seat's roots in one cut). By AI agents, Wed Nov 11 2026. No macro, syntax, notation, axiom, sorry.
-/
import Derived.Test.YtcngeifkddhkmaaChecked
import GoSem.Claim
import GoSem.ClaimJoined
import GoSem.ClaimMapViews
import Derived.JoinedTies
import Derived.KernelRfl
namespace Go.Proofs.Ytcngeifkddhkmaa
/- THE CELL 'sum', in the pinned program and in every row, IS THE sha256 OF THE DUMP (.gsa) THAT YtcngeifkddhkmaaProg.lean LOADS. Nothing in Lean hashes anything: it is a label: what it is worth is what the hold of that sum in a sandbox is worth. -/
noncomputable def Try.pinned : Pinned := { name := "ytcngeifkddhkmaa", sum := "3dd0dcb38995385666be62b7b17738e006ccf1dee49ef05f9543b4734ad5fdc3", checked := Try.checked }
namespace Rows
def none {H : Type} : Left H := { results := [], args := [] }

/-- 'laws.FnAccumulated': WHATEVER THE INPUT: true; the input reads as it did. -/
def fnAccumulatedSpec : ChangeSpec := { name := "fnAccumulated", fn := fun _ => fun
  | [d] => { results := [.lit (.bool true)], args := [d] }
  | _ => none }
def fnAccumulatedRow : OpenClaim := { program := "ytcngeifkddhkmaa", sum := "3dd0dcb38995385666be62b7b17738e006ccf1dee49ef05f9543b4734ad5fdc3", func := "loop.example/g00930/laws.FnAccumulated", spec := "fnAccumulated", apart := false }
def FnAccumulatedSaid : Prop := fnAccumulatedRow.holds Try.pinned (OpenSpec.ofChange fnAccumulatedSpec)

/-- ITS FALSE NEIGHBOUR: 'it returns false'. Refute it at one input. -/
def fnAccumulatedWrong : ChangeSpec := { name := "fnAccumulated", fn := fun _ => fun
  | [d] => { results := [.lit (.bool false)], args := [d] }
  | _ => none }
def FnAccumulatedWrongFalsely : Prop := fnAccumulatedRow.holds Try.pinned (OpenSpec.ofChange fnAccumulatedWrong)

/-- 'laws.FnExactKindOfBytes': WHATEVER THE INPUT: true; the input reads as it did. -/
def fnExactKindOfBytesSpec : ChangeSpec := { name := "fnExactKindOfBytes", fn := fun _ => fun
  | [d] => { results := [.lit (.bool true)], args := [d] }
  | _ => none }
def fnExactKindOfBytesRow : OpenClaim := { program := "ytcngeifkddhkmaa", sum := "3dd0dcb38995385666be62b7b17738e006ccf1dee49ef05f9543b4734ad5fdc3", func := "loop.example/g00930/laws.FnExactKindOfBytes", spec := "fnExactKindOfBytes", apart := false }
def FnExactKindOfBytesSaid : Prop := fnExactKindOfBytesRow.holds Try.pinned (OpenSpec.ofChange fnExactKindOfBytesSpec)

/-- ITS FALSE NEIGHBOUR: 'it returns false'. Refute it at one input. -/
def fnExactKindOfBytesWrong : ChangeSpec := { name := "fnExactKindOfBytes", fn := fun _ => fun
  | [d] => { results := [.lit (.bool false)], args := [d] }
  | _ => none }
def FnExactKindOfBytesWrongFalsely : Prop := fnExactKindOfBytesRow.holds Try.pinned (OpenSpec.ofChange fnExactKindOfBytesWrong)

/-- 'laws.FnTurned': WHATEVER THE INPUT: true; the input reads as it did. -/
def fnTurnedSpec : ChangeSpec := { name := "fnTurned", fn := fun _ => fun
  | [d] => { results := [.lit (.bool true)], args := [d] }
  | _ => none }
def fnTurnedRow : OpenClaim := { program := "ytcngeifkddhkmaa", sum := "3dd0dcb38995385666be62b7b17738e006ccf1dee49ef05f9543b4734ad5fdc3", func := "loop.example/g00930/laws.FnTurned", spec := "fnTurned", apart := false }
def FnTurnedSaid : Prop := fnTurnedRow.holds Try.pinned (OpenSpec.ofChange fnTurnedSpec)

/-- ITS FALSE NEIGHBOUR: 'it returns false'. Refute it at one input. -/
def fnTurnedWrong : ChangeSpec := { name := "fnTurned", fn := fun _ => fun
  | [d] => { results := [.lit (.bool false)], args := [d] }
  | _ => none }
def FnTurnedWrongFalsely : Prop := fnTurnedRow.holds Try.pinned (OpenSpec.ofChange fnTurnedWrong)

/-- 'laws.FnExactDivideOn': WHATEVER THE INPUT: true; the input reads as it did. -/
def fnExactDivideOnSpec : ChangeSpec := { name := "fnExactDivideOn", fn := fun _ => fun
  | [d1, d2, d3] => { results := [.lit (.bool true)], args := [d1, d2, d3] }
  | _ => none }
def fnExactDivideOnRow : OpenClaim := { program := "ytcngeifkddhkmaa", sum := "3dd0dcb38995385666be62b7b17738e006ccf1dee49ef05f9543b4734ad5fdc3", func := "loop.example/g00930/laws.FnExactDivideOn", spec := "fnExactDivideOn", recurses := true, apart := false }
def FnExactDivideOnSaid : Prop := fnExactDivideOnRow.holds Try.pinned (OpenSpec.ofChange fnExactDivideOnSpec)

/-- ITS FALSE NEIGHBOUR: 'it returns false'. Refute it at one input. -/
def fnExactDivideOnWrong : ChangeSpec := { name := "fnExactDivideOn", fn := fun _ => fun
  | [d1, d2, d3] => { results := [.lit (.bool false)], args := [d1, d2, d3] }
  | _ => none }
def FnExactDivideOnWrongFalsely : Prop := fnExactDivideOnRow.holds Try.pinned (OpenSpec.ofChange fnExactDivideOnWrong)

/- THE SECOND FORM. 'bulk': how many values and letters a reading holds, each counted each time it is reached (what is shared counts as often as it is met; a slice's spare places count too). A statement '..UptoSaid' is the law's where the arguments, and the package variables that the reading takes, are together of bulk at most 1048576: NARROWER than '..Said'. Prove '..Said' where nothing that the law and all that it calls make is longer than what came in: it says more and counts as full. Else prove '..UptoSaid'. A law counts once. -/
mutual
def uptoBulk {H : Type} : DataW H → Nat
  | .lit (.string bytes) => bytes.length + 1
  | .lit _ => 1
  | .nil => 1
  | .ptr d => uptoBulk d + 1
  | .slice elems spare => uptoBulkAll elems + uptoBulkAll spare + 1
  | .agg parts => uptoBulkAll parts + 1
  | .iface _ d => uptoBulk d + 1
  | .map entries => uptoBulkEntries entries + 1
  | .held _ => 1
def uptoBulkAll {H : Type} : List (DataW H) → Nat
  | [] => 0
  | d :: r => uptoBulk d + uptoBulkAll r
def uptoBulkEntries {H : Type} : List (Lit × DataW H) → Nat
  | [] => 0
  | x :: r => uptoBulkEntry x + uptoBulkEntries r
def uptoBulkEntry {H : Type} : Lit × DataW H → Nat
  | (.string bytes, d) => bytes.length + uptoBulk d + 1
  | (_, d) => uptoBulk d + 1
 end
def uptoSmall : (H : Type) → List (DataW H) → Bool := fun _ ds => decide (uptoBulkAll ds ≤ 1048576)
def OpenSpec.upto (s : _root_.Go.ChangeSpec) : _root_.Go.OpenSpec := { _root_.Go.OpenSpec.ofChange s with cond := some uptoSmall }

/-- 'laws.FnAccumulated', WHERE WHAT IT READS IS OF BULK AT MOST 1048576: true; the input reads as it did. -/
def fnAccumulatedUptoRow : OpenClaim := { program := "ytcngeifkddhkmaa", sum := "3dd0dcb38995385666be62b7b17738e006ccf1dee49ef05f9543b4734ad5fdc3", func := "loop.example/g00930/laws.FnAccumulated", spec := "fnAccumulated", apart := false, narrowed := true }
def FnAccumulatedUptoSaid : Prop := fnAccumulatedUptoRow.holds Try.pinned (OpenSpec.upto fnAccumulatedSpec)

/-- 'laws.FnExactKindOfBytes', WHERE WHAT IT READS IS OF BULK AT MOST 1048576: true; the input reads as it did. -/
def fnExactKindOfBytesUptoRow : OpenClaim := { program := "ytcngeifkddhkmaa", sum := "3dd0dcb38995385666be62b7b17738e006ccf1dee49ef05f9543b4734ad5fdc3", func := "loop.example/g00930/laws.FnExactKindOfBytes", spec := "fnExactKindOfBytes", apart := false, narrowed := true }
def FnExactKindOfBytesUptoSaid : Prop := fnExactKindOfBytesUptoRow.holds Try.pinned (OpenSpec.upto fnExactKindOfBytesSpec)

/-- 'laws.FnTurned', WHERE WHAT IT READS IS OF BULK AT MOST 1048576: true; the input reads as it did. -/
def fnTurnedUptoRow : OpenClaim := { program := "ytcngeifkddhkmaa", sum := "3dd0dcb38995385666be62b7b17738e006ccf1dee49ef05f9543b4734ad5fdc3", func := "loop.example/g00930/laws.FnTurned", spec := "fnTurned", apart := false, narrowed := true }
def FnTurnedUptoSaid : Prop := fnTurnedUptoRow.holds Try.pinned (OpenSpec.upto fnTurnedSpec)

/-- 'laws.FnExactDivideOn', WHERE WHAT IT READS IS OF BULK AT MOST 1048576: true; the input reads as it did. -/
def fnExactDivideOnUptoRow : OpenClaim := { program := "ytcngeifkddhkmaa", sum := "3dd0dcb38995385666be62b7b17738e006ccf1dee49ef05f9543b4734ad5fdc3", func := "loop.example/g00930/laws.FnExactDivideOn", spec := "fnExactDivideOn", recurses := true, apart := false, narrowed := true }
def FnExactDivideOnUptoSaid : Prop := fnExactDivideOnUptoRow.holds Try.pinned (OpenSpec.upto fnExactDivideOnSpec)

end Rows
end Go.Proofs.Ytcngeifkddhkmaa
