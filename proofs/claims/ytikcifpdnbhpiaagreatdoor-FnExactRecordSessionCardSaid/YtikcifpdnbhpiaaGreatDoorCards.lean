/-
  DERIVED. GIVEN WITH THE SEED: THE CARDS: each row of YtikcifpdnbhpiaaGreatDoorRows.lean that lists a variable, with what it lists TIED to the program's text (the seventh form; the later family's looks); each row that meets fmt, with fmt's text TOLD by the authors' own Lean function (tested against real Go, not proved from fmt's source: count such statements apart). THE CARD IS WHAT COUNTS. Prove the row's statement (the work); the ties are given (YtikcifpdnbhpiaaGreatDoorTie.lean); close each card by the builder's one call (the guide's Derived/Test/ToyasCard.lean, 'card_holds'). Laid BY PROGRAM, IN A SANDBOX (cutbox-door.mjs). By AI agents, Wed Nov 11 2026. No macro, syntax, notation, axiom, sorry.
-/
import Derived.Test.YtikcifpdnbhpiaaGreatDoorRows
import GoSem.ClaimSeven
namespace Go.Proofs.YtikcifpdnbhpiaaGreatDoor
namespace Rows

/-- THE TIED CARD OF 'laws.FnExactReplaySession'. -/
def fnExactReplaySessionCard : Claim7 := { stood := { row := fnExactReplaySessionRow, standIns := [], harness := (true, "ee121f041d4d6b8bece61ee2d8de455150b9f1f14692b417de3e16663f6aa638"), looks := false }, kinds := [], alts := [], laidByText := true, laidKinds := [.data, .data, .data], laidTests := true, laidLooks := .later }
def FnExactReplaySessionCardSaid : Prop := Claim7.holds Tryz.pinned (.plain (OpenSpec.ofChange fnExactReplaySessionSpec)) fnExactReplaySessionCard

/-- THE TIED CARD OF 'laws.FnExactRecordSession'. -/
def fnExactRecordSessionCard : Claim7 := { stood := { row := fnExactRecordSessionRow, standIns := [], harness := (true, "ee121f041d4d6b8bece61ee2d8de455150b9f1f14692b417de3e16663f6aa638"), looks := false }, kinds := [], alts := [], laidByText := true, laidKinds := [.data, .data, .data], laidTests := true, laidLooks := .later }
def FnExactRecordSessionCardSaid : Prop := Claim7.holds Tryz.pinned (.plain (OpenSpec.ofChange fnExactRecordSessionSpec)) fnExactRecordSessionCard

/-- THE SECOND FORM's CARD OF 'laws.FnExactReplaySession'. -/
def fnExactReplaySessionUptoCard : Claim7 := { stood := { row := fnExactReplaySessionUptoRow, standIns := [], harness := (true, "ee121f041d4d6b8bece61ee2d8de455150b9f1f14692b417de3e16663f6aa638"), looks := false }, kinds := [], alts := [], laidByText := true, laidKinds := [.data, .data, .data], laidTests := true, laidLooks := .later }
def FnExactReplaySessionUptoCardSaid : Prop := Claim7.holds Tryz.pinned (.plain (OpenSpec.upto fnExactReplaySessionSpec)) fnExactReplaySessionUptoCard

/-- THE SECOND FORM's CARD OF 'laws.FnExactRecordSession'. -/
def fnExactRecordSessionUptoCard : Claim7 := { stood := { row := fnExactRecordSessionUptoRow, standIns := [], harness := (true, "ee121f041d4d6b8bece61ee2d8de455150b9f1f14692b417de3e16663f6aa638"), looks := false }, kinds := [], alts := [], laidByText := true, laidKinds := [.data, .data, .data], laidTests := true, laidLooks := .later }
def FnExactRecordSessionUptoCardSaid : Prop := Claim7.holds Tryz.pinned (.plain (OpenSpec.upto fnExactRecordSessionSpec)) fnExactRecordSessionUptoCard
end Rows
end Go.Proofs.YtikcifpdnbhpiaaGreatDoor
