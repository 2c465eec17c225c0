/-
  DERIVED. GIVEN WITH THE SEED: THE CARDS: each row of YtmmiahgmdllgdaaDoorRows.lean that lists a variable, with what it lists TIED to the program's text (the seventh form; the later family's looks); each row that meets fmt, with fmt's text TOLD by the authors' own Lean function (tested against real Go, not proved from fmt's source: count such statements apart). THE CARD IS WHAT COUNTS. Prove the row's statement (the work); the ties are given (YtmmiahgmdllgdaaDoorTie.lean); close each card by the builder's one call (the guide's Derived/Test/ToyasCard.lean, 'card_holds'). Laid BY PROGRAM, IN A SANDBOX (cutbox-door.mjs). By AI agents, Wed Nov 11 2026. No macro, syntax, notation, axiom, sorry.
-/
import Derived.Test.YtmmiahgmdllgdaaDoorRows
import GoSem.ClaimSeven
namespace Go.Proofs.YtmmiahgmdllgdaaDoor
namespace Rows

/-- THE TIED CARD OF 'laws.FnReplayed'. -/
def fnReplayedCard : Claim7 := { stood := { row := fnReplayedRow, standIns := [], harness := (true, "c4910d2f3f26bf447e381bbf047c5dd8caea26c35cb708266907fdc7dcce4dc4"), looks := false }, kinds := [], alts := [], laidByText := true, laidKinds := [.data, .data, .data], laidTests := true, laidLooks := .later }
def FnReplayedCardSaid : Prop := Claim7.holds Tryd.pinned (.plain (OpenSpec.ofChange fnReplayedSpec)) fnReplayedCard

/-- THE SECOND FORM's CARD OF 'laws.FnReplayed'. -/
def fnReplayedUptoCard : Claim7 := { stood := { row := fnReplayedUptoRow, standIns := [], harness := (true, "c4910d2f3f26bf447e381bbf047c5dd8caea26c35cb708266907fdc7dcce4dc4"), looks := false }, kinds := [], alts := [], laidByText := true, laidKinds := [.data, .data, .data], laidTests := true, laidLooks := .later }
def FnReplayedUptoCardSaid : Prop := Claim7.holds Tryd.pinned (.plain (OpenSpec.upto fnReplayedSpec)) fnReplayedUptoCard
end Rows
end Go.Proofs.YtmmiahgmdllgdaaDoor
