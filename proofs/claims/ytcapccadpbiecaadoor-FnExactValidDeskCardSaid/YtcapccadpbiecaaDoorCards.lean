/-
  DERIVED. GIVEN WITH THE SEED: THE CARDS: each row of YtcapccadpbiecaaDoorRows.lean that lists a variable, with what it lists TIED to the program's text (the seventh form; the later family's looks); each row that meets fmt, with fmt's text TOLD by the authors' own Lean function (tested against real Go, not proved from fmt's source: count such statements apart). THE CARD IS WHAT COUNTS. Prove the row's statement (the work); the ties are given (YtcapccadpbiecaaDoorTie.lean); close each card by the builder's one call (the guide's Derived/Test/ToyasCard.lean, 'card_holds'). Laid BY PROGRAM, IN A SANDBOX (cutbox-door.mjs). By AI agents, Wed Nov 11 2026. No macro, syntax, notation, axiom, sorry.
-/
import Derived.Test.YtcapccadpbiecaaDoorRows
import GoSem.ClaimSeven
namespace Go.Proofs.YtcapccadpbiecaaDoor
namespace Rows

/-- THE TIED CARD OF 'laws.FnExactShownSession'. -/
def fnExactShownSessionCard : Claim7 := { stood := { row := fnExactShownSessionRow, standIns := [], harness := (true, "4a0512bba24acc3c1386667096887df5dc985f4e299c9bb6792e664483a6c8fe"), looks := false }, kinds := [], alts := [], laidByText := true, laidKinds := [.data, .data, .data], laidTests := true, laidLooks := .later }
def FnExactShownSessionCardSaid : Prop := Claim7.holds Tryd.pinned (.plain (OpenSpec.ofChange fnExactShownSessionSpec)) fnExactShownSessionCard

/-- THE TIED CARD OF 'laws.FnExactReplayJournal'. -/
def fnExactReplayJournalCard : Claim7 := { stood := { row := fnExactReplayJournalRow, standIns := [], harness := (true, "4a0512bba24acc3c1386667096887df5dc985f4e299c9bb6792e664483a6c8fe"), looks := false }, kinds := [], alts := [], laidByText := true, laidKinds := [.data, .data, .data], laidTests := true, laidLooks := .later }
def FnExactReplayJournalCardSaid : Prop := Claim7.holds Tryd.pinned (.plain (OpenSpec.ofChange fnExactReplayJournalSpec)) fnExactReplayJournalCard

/-- THE TIED CARD OF 'laws.FnExactRecordStroke'. -/
def fnExactRecordStrokeCard : Claim7 := { stood := { row := fnExactRecordStrokeRow, standIns := [], harness := (true, "4a0512bba24acc3c1386667096887df5dc985f4e299c9bb6792e664483a6c8fe"), looks := false }, kinds := [], alts := [], laidByText := true, laidKinds := [.data, .data, .data], laidTests := true, laidLooks := .later }
def FnExactRecordStrokeCardSaid : Prop := Claim7.holds Tryd.pinned (.plain (OpenSpec.ofChange fnExactRecordStrokeSpec)) fnExactRecordStrokeCard

/-- THE TIED CARD OF 'laws.FnExactShortSession'. -/
def fnExactShortSessionCard : Claim7 := { stood := { row := fnExactShortSessionRow, standIns := [], harness := (true, "4a0512bba24acc3c1386667096887df5dc985f4e299c9bb6792e664483a6c8fe"), looks := false }, kinds := [], alts := [], laidByText := true, laidKinds := [.data, .data, .data], laidTests := true, laidLooks := .later }
def FnExactShortSessionCardSaid : Prop := Claim7.holds Tryd.pinned (.plain (OpenSpec.ofChange fnExactShortSessionSpec)) fnExactShortSessionCard

/-- THE TIED CARD OF 'laws.FnReplayed'. -/
def fnReplayedCard : Claim7 := { stood := { row := fnReplayedRow, standIns := [], harness := (true, "4a0512bba24acc3c1386667096887df5dc985f4e299c9bb6792e664483a6c8fe"), looks := false }, kinds := [], alts := [], laidByText := true, laidKinds := [.data, .data, .data], laidTests := true, laidLooks := .later }
def FnReplayedCardSaid : Prop := Claim7.holds Tryd.pinned (.plain (OpenSpec.ofChange fnReplayedSpec)) fnReplayedCard

/-- THE TIED CARD OF 'laws.FnAccumulators'. -/
def fnAccumulatorsCard : Claim7 := { stood := { row := fnAccumulatorsRow, standIns := [], harness := (true, "4a0512bba24acc3c1386667096887df5dc985f4e299c9bb6792e664483a6c8fe"), looks := false }, kinds := [], alts := [], laidByText := true, laidKinds := [.data, .data, .data], laidTests := true, laidLooks := .later }
def FnAccumulatorsCardSaid : Prop := Claim7.holds Tryd.pinned (.plain (OpenSpec.ofChange fnAccumulatorsSpec)) fnAccumulatorsCard

/-- THE TIED CARD OF 'laws.FnStrokes'. -/
def fnStrokesCard : Claim7 := { stood := { row := fnStrokesRow, standIns := [], harness := (true, "4a0512bba24acc3c1386667096887df5dc985f4e299c9bb6792e664483a6c8fe"), looks := false }, kinds := [], alts := [], laidByText := true, laidKinds := [.data, .data, .data], laidTests := true, laidLooks := .later }
def FnStrokesCardSaid : Prop := Claim7.holds Tryd.pinned (.plain (OpenSpec.ofChange fnStrokesSpec)) fnStrokesCard

/-- THE TIED CARD OF 'laws.FnExactValidDesk'. -/
def fnExactValidDeskCard : Claim7 := { stood := { row := fnExactValidDeskRow, standIns := [], harness := (true, "4a0512bba24acc3c1386667096887df5dc985f4e299c9bb6792e664483a6c8fe"), looks := false }, kinds := [], alts := [], laidByText := true, laidKinds := [.data, .data, .data], laidTests := true, laidLooks := .later }
def FnExactValidDeskCardSaid : Prop := Claim7.holds Tryd.pinned (.plain (OpenSpec.ofChange fnExactValidDeskSpec)) fnExactValidDeskCard

/-- THE TIED CARD OF 'laws.FnExactDeskText'. -/
def fnExactDeskTextCard : Claim7 := { stood := { row := fnExactDeskTextRow, standIns := [], harness := (true, "4a0512bba24acc3c1386667096887df5dc985f4e299c9bb6792e664483a6c8fe"), looks := false }, kinds := [], alts := [], laidByText := true, laidKinds := [.data, .data, .data], laidTests := true, laidLooks := .later }
def FnExactDeskTextCardSaid : Prop := Claim7.holds Tryd.pinned (.plain (OpenSpec.ofChange fnExactDeskTextSpec)) fnExactDeskTextCard

/-- THE SECOND FORM's CARD OF 'laws.FnExactShownSession'. -/
def fnExactShownSessionUptoCard : Claim7 := { stood := { row := fnExactShownSessionUptoRow, standIns := [], harness := (true, "4a0512bba24acc3c1386667096887df5dc985f4e299c9bb6792e664483a6c8fe"), looks := false }, kinds := [], alts := [], laidByText := true, laidKinds := [.data, .data, .data], laidTests := true, laidLooks := .later }
def FnExactShownSessionUptoCardSaid : Prop := Claim7.holds Tryd.pinned (.plain (OpenSpec.upto fnExactShownSessionSpec)) fnExactShownSessionUptoCard

/-- THE SECOND FORM's CARD OF 'laws.FnExactReplayJournal'. -/
def fnExactReplayJournalUptoCard : Claim7 := { stood := { row := fnExactReplayJournalUptoRow, standIns := [], harness := (true, "4a0512bba24acc3c1386667096887df5dc985f4e299c9bb6792e664483a6c8fe"), looks := false }, kinds := [], alts := [], laidByText := true, laidKinds := [.data, .data, .data], laidTests := true, laidLooks := .later }
def FnExactReplayJournalUptoCardSaid : Prop := Claim7.holds Tryd.pinned (.plain (OpenSpec.upto fnExactReplayJournalSpec)) fnExactReplayJournalUptoCard

/-- THE SECOND FORM's CARD OF 'laws.FnExactRecordStroke'. -/
def fnExactRecordStrokeUptoCard : Claim7 := { stood := { row := fnExactRecordStrokeUptoRow, standIns := [], harness := (true, "4a0512bba24acc3c1386667096887df5dc985f4e299c9bb6792e664483a6c8fe"), looks := false }, kinds := [], alts := [], laidByText := true, laidKinds := [.data, .data, .data], laidTests := true, laidLooks := .later }
def FnExactRecordStrokeUptoCardSaid : Prop := Claim7.holds Tryd.pinned (.plain (OpenSpec.upto fnExactRecordStrokeSpec)) fnExactRecordStrokeUptoCard

/-- THE SECOND FORM's CARD OF 'laws.FnExactShortSession'. -/
def fnExactShortSessionUptoCard : Claim7 := { stood := { row := fnExactShortSessionUptoRow, standIns := [], harness := (true, "4a0512bba24acc3c1386667096887df5dc985f4e299c9bb6792e664483a6c8fe"), looks := false }, kinds := [], alts := [], laidByText := true, laidKinds := [.data, .data, .data], laidTests := true, laidLooks := .later }
def FnExactShortSessionUptoCardSaid : Prop := Claim7.holds Tryd.pinned (.plain (OpenSpec.upto fnExactShortSessionSpec)) fnExactShortSessionUptoCard

/-- THE SECOND FORM's CARD OF 'laws.FnReplayed'. -/
def fnReplayedUptoCard : Claim7 := { stood := { row := fnReplayedUptoRow, standIns := [], harness := (true, "4a0512bba24acc3c1386667096887df5dc985f4e299c9bb6792e664483a6c8fe"), looks := false }, kinds := [], alts := [], laidByText := true, laidKinds := [.data, .data, .data], laidTests := true, laidLooks := .later }
def FnReplayedUptoCardSaid : Prop := Claim7.holds Tryd.pinned (.plain (OpenSpec.upto fnReplayedSpec)) fnReplayedUptoCard

/-- THE SECOND FORM's CARD OF 'laws.FnAccumulators'. -/
def fnAccumulatorsUptoCard : Claim7 := { stood := { row := fnAccumulatorsUptoRow, standIns := [], harness := (true, "4a0512bba24acc3c1386667096887df5dc985f4e299c9bb6792e664483a6c8fe"), looks := false }, kinds := [], alts := [], laidByText := true, laidKinds := [.data, .data, .data], laidTests := true, laidLooks := .later }
def FnAccumulatorsUptoCardSaid : Prop := Claim7.holds Tryd.pinned (.plain (OpenSpec.upto fnAccumulatorsSpec)) fnAccumulatorsUptoCard

/-- THE SECOND FORM's CARD OF 'laws.FnStrokes'. -/
def fnStrokesUptoCard : Claim7 := { stood := { row := fnStrokesUptoRow, standIns := [], harness := (true, "4a0512bba24acc3c1386667096887df5dc985f4e299c9bb6792e664483a6c8fe"), looks := false }, kinds := [], alts := [], laidByText := true, laidKinds := [.data, .data, .data], laidTests := true, laidLooks := .later }
def FnStrokesUptoCardSaid : Prop := Claim7.holds Tryd.pinned (.plain (OpenSpec.upto fnStrokesSpec)) fnStrokesUptoCard

/-- THE SECOND FORM's CARD OF 'laws.FnExactValidDesk'. -/
def fnExactValidDeskUptoCard : Claim7 := { stood := { row := fnExactValidDeskUptoRow, standIns := [], harness := (true, "4a0512bba24acc3c1386667096887df5dc985f4e299c9bb6792e664483a6c8fe"), looks := false }, kinds := [], alts := [], laidByText := true, laidKinds := [.data, .data, .data], laidTests := true, laidLooks := .later }
def FnExactValidDeskUptoCardSaid : Prop := Claim7.holds Tryd.pinned (.plain (OpenSpec.upto fnExactValidDeskSpec)) fnExactValidDeskUptoCard

/-- THE SECOND FORM's CARD OF 'laws.FnExactDeskText'. -/
def fnExactDeskTextUptoCard : Claim7 := { stood := { row := fnExactDeskTextUptoRow, standIns := [], harness := (true, "4a0512bba24acc3c1386667096887df5dc985f4e299c9bb6792e664483a6c8fe"), looks := false }, kinds := [], alts := [], laidByText := true, laidKinds := [.data, .data, .data], laidTests := true, laidLooks := .later }
def FnExactDeskTextUptoCardSaid : Prop := Claim7.holds Tryd.pinned (.plain (OpenSpec.upto fnExactDeskTextSpec)) fnExactDeskTextUptoCard
end Rows
end Go.Proofs.YtcapccadpbiecaaDoor
