/-
  DERIVED. GIVEN WITH THE SEED: THE CARDS: each row of YtikcifpdnbhpiaaDoorRows.lean that lists a variable, with what it lists TIED to the program's text (the seventh form; the later family's looks); each row that meets fmt, with fmt's text TOLD by the authors' own Lean function (tested against real Go, not proved from fmt's source: count such statements apart). THE CARD IS WHAT COUNTS. Prove the row's statement (the work); the ties are given (YtikcifpdnbhpiaaDoorTie.lean); close each card by the builder's one call (the guide's Derived/Test/ToyasCard.lean, 'card_holds'). Laid BY PROGRAM, IN A SANDBOX (cutbox-door.mjs). By AI agents, Wed Nov 11 2026. No macro, syntax, notation, axiom, sorry.
-/
import Derived.Test.YtikcifpdnbhpiaaDoorRows
import GoSem.ClaimSeven
namespace Go.Proofs.YtikcifpdnbhpiaaDoor
namespace Rows

/-- THE TIED CARD OF 'laws.FnAccumulators'. -/
def fnAccumulatorsCard : Claim7 := { stood := { row := fnAccumulatorsRow, standIns := [], harness := (true, "94af407ef1fd3d7e4e26cd9f8c2b00f609d35775f6e15f966a095a5436dcf0b7"), looks := false }, kinds := [], alts := [], laidByText := true, laidKinds := [.data, .data, .data], laidTests := true, laidLooks := .later }
def FnAccumulatorsCardSaid : Prop := Claim7.holds Tryd.pinned (.plain (OpenSpec.ofChange fnAccumulatorsSpec)) fnAccumulatorsCard

/-- THE TIED CARD OF 'laws.FnExactSessionFault'. -/
def fnExactSessionFaultCard : Claim7 := { stood := { row := fnExactSessionFaultRow, standIns := [], harness := (true, "94af407ef1fd3d7e4e26cd9f8c2b00f609d35775f6e15f966a095a5436dcf0b7"), looks := false }, kinds := [], alts := [], laidByText := true, laidKinds := [.data, .data, .data], laidTests := true, laidLooks := .later }
def FnExactSessionFaultCardSaid : Prop := Claim7.holds Tryd.pinned (.plain (OpenSpec.ofChange fnExactSessionFaultSpec)) fnExactSessionFaultCard

/-- THE TIED CARD OF 'laws.FnExactSessionStrokes'. -/
def fnExactSessionStrokesCard : Claim7 := { stood := { row := fnExactSessionStrokesRow, standIns := [], harness := (true, "94af407ef1fd3d7e4e26cd9f8c2b00f609d35775f6e15f966a095a5436dcf0b7"), looks := false }, kinds := [], alts := [], laidByText := true, laidKinds := [.data, .data, .data], laidTests := true, laidLooks := .later }
def FnExactSessionStrokesCardSaid : Prop := Claim7.holds Tryd.pinned (.plain (OpenSpec.ofChange fnExactSessionStrokesSpec)) fnExactSessionStrokesCard

/-- THE TIED CARD OF 'laws.FnExactBellLines'. -/
def fnExactBellLinesCard : Claim7 := { stood := { row := fnExactBellLinesRow, standIns := [], harness := (true, "94af407ef1fd3d7e4e26cd9f8c2b00f609d35775f6e15f966a095a5436dcf0b7"), looks := false }, kinds := [], alts := [], laidByText := true, laidKinds := [.data, .data, .data], laidTests := true, laidLooks := .later }
def FnExactBellLinesCardSaid : Prop := Claim7.holds Tryd.pinned (.plain (OpenSpec.ofChange fnExactBellLinesSpec)) fnExactBellLinesCard

/-- THE TIED CARD OF 'laws.FnExactSessionsAgree'. -/
def fnExactSessionsAgreeCard : Claim7 := { stood := { row := fnExactSessionsAgreeRow, standIns := [], harness := (true, "94af407ef1fd3d7e4e26cd9f8c2b00f609d35775f6e15f966a095a5436dcf0b7"), looks := false }, kinds := [], alts := [], laidByText := true, laidKinds := [.data, .data, .data], laidTests := true, laidLooks := .later }
def FnExactSessionsAgreeCardSaid : Prop := Claim7.holds Tryd.pinned (.plain (OpenSpec.ofChange fnExactSessionsAgreeSpec)) fnExactSessionsAgreeCard

/-- THE TIED CARD OF 'laws.FnExactShownSession'. -/
def fnExactShownSessionCard : Claim7 := { stood := { row := fnExactShownSessionRow, standIns := [], harness := (true, "94af407ef1fd3d7e4e26cd9f8c2b00f609d35775f6e15f966a095a5436dcf0b7"), looks := false }, kinds := [], alts := [], laidByText := true, laidKinds := [.data, .data, .data], laidTests := true, laidLooks := .later }
def FnExactShownSessionCardSaid : Prop := Claim7.holds Tryd.pinned (.plain (OpenSpec.ofChange fnExactShownSessionSpec)) fnExactShownSessionCard

/-- THE TIED CARD OF 'laws.FnExactShortSession'. -/
def fnExactShortSessionCard : Claim7 := { stood := { row := fnExactShortSessionRow, standIns := [], harness := (true, "94af407ef1fd3d7e4e26cd9f8c2b00f609d35775f6e15f966a095a5436dcf0b7"), looks := false }, kinds := [], alts := [], laidByText := true, laidKinds := [.data, .data, .data], laidTests := true, laidLooks := .later }
def FnExactShortSessionCardSaid : Prop := Claim7.holds Tryd.pinned (.plain (OpenSpec.ofChange fnExactShortSessionSpec)) fnExactShortSessionCard

/-- THE TIED CARD OF 'laws.FnExactReplayJournal'. -/
def fnExactReplayJournalCard : Claim7 := { stood := { row := fnExactReplayJournalRow, standIns := [], harness := (true, "94af407ef1fd3d7e4e26cd9f8c2b00f609d35775f6e15f966a095a5436dcf0b7"), looks := false }, kinds := [], alts := [], laidByText := true, laidKinds := [.data, .data, .data], laidTests := true, laidLooks := .later }
def FnExactReplayJournalCardSaid : Prop := Claim7.holds Tryd.pinned (.plain (OpenSpec.ofChange fnExactReplayJournalSpec)) fnExactReplayJournalCard

/-- THE TIED CARD OF 'laws.FnExactRecordStroke'. -/
def fnExactRecordStrokeCard : Claim7 := { stood := { row := fnExactRecordStrokeRow, standIns := [], harness := (true, "94af407ef1fd3d7e4e26cd9f8c2b00f609d35775f6e15f966a095a5436dcf0b7"), looks := false }, kinds := [], alts := [], laidByText := true, laidKinds := [.data, .data, .data], laidTests := true, laidLooks := .later }
def FnExactRecordStrokeCardSaid : Prop := Claim7.holds Tryd.pinned (.plain (OpenSpec.ofChange fnExactRecordStrokeSpec)) fnExactRecordStrokeCard

/-- THE SECOND FORM's CARD OF 'laws.FnAccumulators'. -/
def fnAccumulatorsUptoCard : Claim7 := { stood := { row := fnAccumulatorsUptoRow, standIns := [], harness := (true, "94af407ef1fd3d7e4e26cd9f8c2b00f609d35775f6e15f966a095a5436dcf0b7"), looks := false }, kinds := [], alts := [], laidByText := true, laidKinds := [.data, .data, .data], laidTests := true, laidLooks := .later }
def FnAccumulatorsUptoCardSaid : Prop := Claim7.holds Tryd.pinned (.plain (OpenSpec.upto fnAccumulatorsSpec)) fnAccumulatorsUptoCard

/-- THE SECOND FORM's CARD OF 'laws.FnExactSessionFault'. -/
def fnExactSessionFaultUptoCard : Claim7 := { stood := { row := fnExactSessionFaultUptoRow, standIns := [], harness := (true, "94af407ef1fd3d7e4e26cd9f8c2b00f609d35775f6e15f966a095a5436dcf0b7"), looks := false }, kinds := [], alts := [], laidByText := true, laidKinds := [.data, .data, .data], laidTests := true, laidLooks := .later }
def FnExactSessionFaultUptoCardSaid : Prop := Claim7.holds Tryd.pinned (.plain (OpenSpec.upto fnExactSessionFaultSpec)) fnExactSessionFaultUptoCard

/-- THE SECOND FORM's CARD OF 'laws.FnExactSessionStrokes'. -/
def fnExactSessionStrokesUptoCard : Claim7 := { stood := { row := fnExactSessionStrokesUptoRow, standIns := [], harness := (true, "94af407ef1fd3d7e4e26cd9f8c2b00f609d35775f6e15f966a095a5436dcf0b7"), looks := false }, kinds := [], alts := [], laidByText := true, laidKinds := [.data, .data, .data], laidTests := true, laidLooks := .later }
def FnExactSessionStrokesUptoCardSaid : Prop := Claim7.holds Tryd.pinned (.plain (OpenSpec.upto fnExactSessionStrokesSpec)) fnExactSessionStrokesUptoCard

/-- THE SECOND FORM's CARD OF 'laws.FnExactBellLines'. -/
def fnExactBellLinesUptoCard : Claim7 := { stood := { row := fnExactBellLinesUptoRow, standIns := [], harness := (true, "94af407ef1fd3d7e4e26cd9f8c2b00f609d35775f6e15f966a095a5436dcf0b7"), looks := false }, kinds := [], alts := [], laidByText := true, laidKinds := [.data, .data, .data], laidTests := true, laidLooks := .later }
def FnExactBellLinesUptoCardSaid : Prop := Claim7.holds Tryd.pinned (.plain (OpenSpec.upto fnExactBellLinesSpec)) fnExactBellLinesUptoCard

/-- THE SECOND FORM's CARD OF 'laws.FnExactSessionsAgree'. -/
def fnExactSessionsAgreeUptoCard : Claim7 := { stood := { row := fnExactSessionsAgreeUptoRow, standIns := [], harness := (true, "94af407ef1fd3d7e4e26cd9f8c2b00f609d35775f6e15f966a095a5436dcf0b7"), looks := false }, kinds := [], alts := [], laidByText := true, laidKinds := [.data, .data, .data], laidTests := true, laidLooks := .later }
def FnExactSessionsAgreeUptoCardSaid : Prop := Claim7.holds Tryd.pinned (.plain (OpenSpec.upto fnExactSessionsAgreeSpec)) fnExactSessionsAgreeUptoCard

/-- THE SECOND FORM's CARD OF 'laws.FnExactShownSession'. -/
def fnExactShownSessionUptoCard : Claim7 := { stood := { row := fnExactShownSessionUptoRow, standIns := [], harness := (true, "94af407ef1fd3d7e4e26cd9f8c2b00f609d35775f6e15f966a095a5436dcf0b7"), looks := false }, kinds := [], alts := [], laidByText := true, laidKinds := [.data, .data, .data], laidTests := true, laidLooks := .later }
def FnExactShownSessionUptoCardSaid : Prop := Claim7.holds Tryd.pinned (.plain (OpenSpec.upto fnExactShownSessionSpec)) fnExactShownSessionUptoCard

/-- THE SECOND FORM's CARD OF 'laws.FnExactShortSession'. -/
def fnExactShortSessionUptoCard : Claim7 := { stood := { row := fnExactShortSessionUptoRow, standIns := [], harness := (true, "94af407ef1fd3d7e4e26cd9f8c2b00f609d35775f6e15f966a095a5436dcf0b7"), looks := false }, kinds := [], alts := [], laidByText := true, laidKinds := [.data, .data, .data], laidTests := true, laidLooks := .later }
def FnExactShortSessionUptoCardSaid : Prop := Claim7.holds Tryd.pinned (.plain (OpenSpec.upto fnExactShortSessionSpec)) fnExactShortSessionUptoCard

/-- THE SECOND FORM's CARD OF 'laws.FnExactReplayJournal'. -/
def fnExactReplayJournalUptoCard : Claim7 := { stood := { row := fnExactReplayJournalUptoRow, standIns := [], harness := (true, "94af407ef1fd3d7e4e26cd9f8c2b00f609d35775f6e15f966a095a5436dcf0b7"), looks := false }, kinds := [], alts := [], laidByText := true, laidKinds := [.data, .data, .data], laidTests := true, laidLooks := .later }
def FnExactReplayJournalUptoCardSaid : Prop := Claim7.holds Tryd.pinned (.plain (OpenSpec.upto fnExactReplayJournalSpec)) fnExactReplayJournalUptoCard

/-- THE SECOND FORM's CARD OF 'laws.FnExactRecordStroke'. -/
def fnExactRecordStrokeUptoCard : Claim7 := { stood := { row := fnExactRecordStrokeUptoRow, standIns := [], harness := (true, "94af407ef1fd3d7e4e26cd9f8c2b00f609d35775f6e15f966a095a5436dcf0b7"), looks := false }, kinds := [], alts := [], laidByText := true, laidKinds := [.data, .data, .data], laidTests := true, laidLooks := .later }
def FnExactRecordStrokeUptoCardSaid : Prop := Claim7.holds Tryd.pinned (.plain (OpenSpec.upto fnExactRecordStrokeSpec)) fnExactRecordStrokeUptoCard
end Rows
end Go.Proofs.YtikcifpdnbhpiaaDoor
