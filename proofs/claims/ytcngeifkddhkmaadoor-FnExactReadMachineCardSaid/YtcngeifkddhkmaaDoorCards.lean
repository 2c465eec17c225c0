/-
  DERIVED. GIVEN WITH THE SEED: THE CARDS: each row of YtcngeifkddhkmaaDoorRows.lean that lists a variable, with what it lists TIED to the program's text (the seventh form; the later family's looks); each row that meets fmt, with fmt's text TOLD by the authors' own Lean function (tested against real Go, not proved from fmt's source: count such statements apart). THE CARD IS WHAT COUNTS. Prove the row's statement (the work); the ties are given (YtcngeifkddhkmaaDoorTie.lean); close each card by the builder's one call (the guide's Derived/Test/ToyasCard.lean, 'card_holds'). Laid BY PROGRAM, IN A SANDBOX (cutbox-door.mjs). By AI agents, Wed Nov 11 2026. No macro, syntax, notation, axiom, sorry.
-/
import Derived.Test.YtcngeifkddhkmaaDoorRows
import GoSem.ClaimSeven
namespace Go.Proofs.YtcngeifkddhkmaaDoor
namespace Rows

/-- THE TIED CARD OF 'laws.FnRegisters'. -/
def fnRegistersCard : Claim7 := { stood := { row := fnRegistersRow, standIns := [], harness := (true, "c0a9eccf167369ba4ded5c91291c5420fc614907e884267953054797a587cb6d"), looks := false }, kinds := [], alts := [], laidByText := true, laidKinds := [.data, .data, .data], laidTests := true, laidLooks := .later }
def FnRegistersCardSaid : Prop := Claim7.holds Tryd.pinned (.plain (OpenSpec.ofChange fnRegistersSpec)) fnRegistersCard

/-- THE TIED CARD OF 'laws.FnStandardTrials'. -/
def fnStandardTrialsCard : Claim7 := { stood := { row := fnStandardTrialsRow, standIns := [], harness := (true, "c0a9eccf167369ba4ded5c91291c5420fc614907e884267953054797a587cb6d"), looks := false }, kinds := [], alts := [], laidByText := true, laidKinds := [.data, .data, .data], laidTests := true, laidLooks := .later }
def FnStandardTrialsCardSaid : Prop := Claim7.holds Tryd.pinned (.plain (OpenSpec.ofChange fnStandardTrialsSpec)) fnStandardTrialsCard

/-- THE TIED CARD OF 'laws.FnLevers'. -/
def fnLeversCard : Claim7 := { stood := { row := fnLeversRow, standIns := [], harness := (true, "c0a9eccf167369ba4ded5c91291c5420fc614907e884267953054797a587cb6d"), looks := false }, kinds := [], alts := [], laidByText := true, laidKinds := [.data, .data, .data], laidTests := true, laidLooks := .later }
def FnLeversCardSaid : Prop := Claim7.holds Tryd.pinned (.plain (OpenSpec.ofChange fnLeversSpec)) fnLeversCard

/-- THE TIED CARD OF 'laws.FnEvents'. -/
def fnEventsCard : Claim7 := { stood := { row := fnEventsRow, standIns := [], harness := (true, "c0a9eccf167369ba4ded5c91291c5420fc614907e884267953054797a587cb6d"), looks := false }, kinds := [], alts := [], laidByText := true, laidKinds := [.data, .data, .data], laidTests := true, laidLooks := .later }
def FnEventsCardSaid : Prop := Claim7.holds Tryd.pinned (.plain (OpenSpec.ofChange fnEventsSpec)) fnEventsCard

/-- THE TIED CARD OF 'laws.FnEngines'. -/
def fnEnginesCard : Claim7 := { stood := { row := fnEnginesRow, standIns := [], harness := (true, "c0a9eccf167369ba4ded5c91291c5420fc614907e884267953054797a587cb6d"), looks := false }, kinds := [], alts := [], laidByText := true, laidKinds := [.data, .data, .data], laidTests := true, laidLooks := .later }
def FnEnginesCardSaid : Prop := Claim7.holds Tryd.pinned (.plain (OpenSpec.ofChange fnEnginesSpec)) fnEnginesCard

/-- THE TIED CARD OF 'laws.FnExactReadMachine'. -/
def fnExactReadMachineCard : Claim7 := { stood := { row := fnExactReadMachineRow, standIns := [], harness := (true, "c0a9eccf167369ba4ded5c91291c5420fc614907e884267953054797a587cb6d"), looks := false }, kinds := [], alts := [], laidByText := true, laidKinds := [.data, .data, .data], laidTests := true, laidLooks := .later }
def FnExactReadMachineCardSaid : Prop := Claim7.holds Tryd.pinned (.plain (OpenSpec.ofChange fnExactReadMachineSpec)) fnExactReadMachineCard

/-- THE TIED CARD OF 'laws.FnAccumulators'. -/
def fnAccumulatorsCard : Claim7 := { stood := { row := fnAccumulatorsRow, standIns := [], harness := (true, "c0a9eccf167369ba4ded5c91291c5420fc614907e884267953054797a587cb6d"), looks := false }, kinds := [], alts := [], laidByText := true, laidKinds := [.data, .data, .data], laidTests := true, laidLooks := .later }
def FnAccumulatorsCardSaid : Prop := Claim7.holds Tryd.pinned (.plain (OpenSpec.ofChange fnAccumulatorsSpec)) fnAccumulatorsCard

/-- THE TIED CARD OF 'laws.FnStrokes'. -/
def fnStrokesCard : Claim7 := { stood := { row := fnStrokesRow, standIns := [], harness := (true, "c0a9eccf167369ba4ded5c91291c5420fc614907e884267953054797a587cb6d"), looks := false }, kinds := [], alts := [], laidByText := true, laidKinds := [.data, .data, .data], laidTests := true, laidLooks := .later }
def FnStrokesCardSaid : Prop := Claim7.holds Tryd.pinned (.plain (OpenSpec.ofChange fnStrokesSpec)) fnStrokesCard

/-- THE SECOND FORM's CARD OF 'laws.FnRegisters'. -/
def fnRegistersUptoCard : Claim7 := { stood := { row := fnRegistersUptoRow, standIns := [], harness := (true, "c0a9eccf167369ba4ded5c91291c5420fc614907e884267953054797a587cb6d"), looks := false }, kinds := [], alts := [], laidByText := true, laidKinds := [.data, .data, .data], laidTests := true, laidLooks := .later }
def FnRegistersUptoCardSaid : Prop := Claim7.holds Tryd.pinned (.plain (OpenSpec.upto fnRegistersSpec)) fnRegistersUptoCard

/-- THE SECOND FORM's CARD OF 'laws.FnStandardTrials'. -/
def fnStandardTrialsUptoCard : Claim7 := { stood := { row := fnStandardTrialsUptoRow, standIns := [], harness := (true, "c0a9eccf167369ba4ded5c91291c5420fc614907e884267953054797a587cb6d"), looks := false }, kinds := [], alts := [], laidByText := true, laidKinds := [.data, .data, .data], laidTests := true, laidLooks := .later }
def FnStandardTrialsUptoCardSaid : Prop := Claim7.holds Tryd.pinned (.plain (OpenSpec.upto fnStandardTrialsSpec)) fnStandardTrialsUptoCard

/-- THE SECOND FORM's CARD OF 'laws.FnLevers'. -/
def fnLeversUptoCard : Claim7 := { stood := { row := fnLeversUptoRow, standIns := [], harness := (true, "c0a9eccf167369ba4ded5c91291c5420fc614907e884267953054797a587cb6d"), looks := false }, kinds := [], alts := [], laidByText := true, laidKinds := [.data, .data, .data], laidTests := true, laidLooks := .later }
def FnLeversUptoCardSaid : Prop := Claim7.holds Tryd.pinned (.plain (OpenSpec.upto fnLeversSpec)) fnLeversUptoCard

/-- THE SECOND FORM's CARD OF 'laws.FnEvents'. -/
def fnEventsUptoCard : Claim7 := { stood := { row := fnEventsUptoRow, standIns := [], harness := (true, "c0a9eccf167369ba4ded5c91291c5420fc614907e884267953054797a587cb6d"), looks := false }, kinds := [], alts := [], laidByText := true, laidKinds := [.data, .data, .data], laidTests := true, laidLooks := .later }
def FnEventsUptoCardSaid : Prop := Claim7.holds Tryd.pinned (.plain (OpenSpec.upto fnEventsSpec)) fnEventsUptoCard

/-- THE SECOND FORM's CARD OF 'laws.FnEngines'. -/
def fnEnginesUptoCard : Claim7 := { stood := { row := fnEnginesUptoRow, standIns := [], harness := (true, "c0a9eccf167369ba4ded5c91291c5420fc614907e884267953054797a587cb6d"), looks := false }, kinds := [], alts := [], laidByText := true, laidKinds := [.data, .data, .data], laidTests := true, laidLooks := .later }
def FnEnginesUptoCardSaid : Prop := Claim7.holds Tryd.pinned (.plain (OpenSpec.upto fnEnginesSpec)) fnEnginesUptoCard

/-- THE SECOND FORM's CARD OF 'laws.FnExactReadMachine'. -/
def fnExactReadMachineUptoCard : Claim7 := { stood := { row := fnExactReadMachineUptoRow, standIns := [], harness := (true, "c0a9eccf167369ba4ded5c91291c5420fc614907e884267953054797a587cb6d"), looks := false }, kinds := [], alts := [], laidByText := true, laidKinds := [.data, .data, .data], laidTests := true, laidLooks := .later }
def FnExactReadMachineUptoCardSaid : Prop := Claim7.holds Tryd.pinned (.plain (OpenSpec.upto fnExactReadMachineSpec)) fnExactReadMachineUptoCard

/-- THE SECOND FORM's CARD OF 'laws.FnAccumulators'. -/
def fnAccumulatorsUptoCard : Claim7 := { stood := { row := fnAccumulatorsUptoRow, standIns := [], harness := (true, "c0a9eccf167369ba4ded5c91291c5420fc614907e884267953054797a587cb6d"), looks := false }, kinds := [], alts := [], laidByText := true, laidKinds := [.data, .data, .data], laidTests := true, laidLooks := .later }
def FnAccumulatorsUptoCardSaid : Prop := Claim7.holds Tryd.pinned (.plain (OpenSpec.upto fnAccumulatorsSpec)) fnAccumulatorsUptoCard

/-- THE SECOND FORM's CARD OF 'laws.FnStrokes'. -/
def fnStrokesUptoCard : Claim7 := { stood := { row := fnStrokesUptoRow, standIns := [], harness := (true, "c0a9eccf167369ba4ded5c91291c5420fc614907e884267953054797a587cb6d"), looks := false }, kinds := [], alts := [], laidByText := true, laidKinds := [.data, .data, .data], laidTests := true, laidLooks := .later }
def FnStrokesUptoCardSaid : Prop := Claim7.holds Tryd.pinned (.plain (OpenSpec.upto fnStrokesSpec)) fnStrokesUptoCard
end Rows
end Go.Proofs.YtcngeifkddhkmaaDoor
