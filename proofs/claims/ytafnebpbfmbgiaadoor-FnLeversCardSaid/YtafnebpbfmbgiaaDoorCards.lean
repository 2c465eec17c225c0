/-
  DERIVED. GIVEN WITH THE SEED: THE CARDS: each row of YtafnebpbfmbgiaaDoorRows.lean that lists a variable, with what it lists TIED to the program's text (the seventh form; the later family's looks); each row that meets fmt, with fmt's text TOLD by the authors' own Lean function (tested against real Go, not proved from fmt's source: count such statements apart). THE CARD IS WHAT COUNTS. Prove the row's statement (the work); the ties are given (YtafnebpbfmbgiaaDoorTie.lean); close each card by the builder's one call (the guide's Derived/Test/ToyasCard.lean, 'card_holds'). Laid BY PROGRAM, IN A SANDBOX (cutbox-door.mjs). By AI agents, Wed Nov 11 2026. No macro, syntax, notation, axiom, sorry.
-/
import Derived.Test.YtafnebpbfmbgiaaDoorRows
import GoSem.ClaimSeven
namespace Go.Proofs.YtafnebpbfmbgiaaDoor
namespace Rows

/-- THE TIED CARD OF 'laws.FnReplayed'. -/
def fnReplayedCard : Claim7 := { stood := { row := fnReplayedRow, standIns := [], harness := (true, "6712f94298d976042b001a421f29473903aa1fbd26efe6ff5b035858cdbac27c"), looks := false }, kinds := [], alts := [], laidByText := true, laidKinds := [.data, .data, .data], laidTests := true, laidLooks := .later }
def FnReplayedCardSaid : Prop := Claim7.holds Tryd.pinned (.plain (OpenSpec.ofChange fnReplayedSpec)) fnReplayedCard

/-- THE TIED CARD OF 'laws.FnRegisters'. -/
def fnRegistersCard : Claim7 := { stood := { row := fnRegistersRow, standIns := [], harness := (true, "6712f94298d976042b001a421f29473903aa1fbd26efe6ff5b035858cdbac27c"), looks := false }, kinds := [], alts := [], laidByText := true, laidKinds := [.data, .data, .data], laidTests := true, laidLooks := .later }
def FnRegistersCardSaid : Prop := Claim7.holds Tryd.pinned (.plain (OpenSpec.ofChange fnRegistersSpec)) fnRegistersCard

/-- THE TIED CARD OF 'laws.FnStandardTrials'. -/
def fnStandardTrialsCard : Claim7 := { stood := { row := fnStandardTrialsRow, standIns := [], harness := (true, "6712f94298d976042b001a421f29473903aa1fbd26efe6ff5b035858cdbac27c"), looks := false }, kinds := [], alts := [], laidByText := true, laidKinds := [.data, .data, .data], laidTests := true, laidLooks := .later }
def FnStandardTrialsCardSaid : Prop := Claim7.holds Tryd.pinned (.plain (OpenSpec.ofChange fnStandardTrialsSpec)) fnStandardTrialsCard

/-- THE TIED CARD OF 'laws.FnLevers'. -/
def fnLeversCard : Claim7 := { stood := { row := fnLeversRow, standIns := [], harness := (true, "6712f94298d976042b001a421f29473903aa1fbd26efe6ff5b035858cdbac27c"), looks := false }, kinds := [], alts := [], laidByText := true, laidKinds := [.data, .data, .data], laidTests := true, laidLooks := .later }
def FnLeversCardSaid : Prop := Claim7.holds Tryd.pinned (.plain (OpenSpec.ofChange fnLeversSpec)) fnLeversCard

/-- THE TIED CARD OF 'laws.FnEvents'. -/
def fnEventsCard : Claim7 := { stood := { row := fnEventsRow, standIns := [], harness := (true, "6712f94298d976042b001a421f29473903aa1fbd26efe6ff5b035858cdbac27c"), looks := false }, kinds := [], alts := [], laidByText := true, laidKinds := [.data, .data, .data], laidTests := true, laidLooks := .later }
def FnEventsCardSaid : Prop := Claim7.holds Tryd.pinned (.plain (OpenSpec.ofChange fnEventsSpec)) fnEventsCard

/-- THE TIED CARD OF 'laws.FnEngines'. -/
def fnEnginesCard : Claim7 := { stood := { row := fnEnginesRow, standIns := [], harness := (true, "6712f94298d976042b001a421f29473903aa1fbd26efe6ff5b035858cdbac27c"), looks := false }, kinds := [], alts := [], laidByText := true, laidKinds := [.data, .data, .data], laidTests := true, laidLooks := .later }
def FnEnginesCardSaid : Prop := Claim7.holds Tryd.pinned (.plain (OpenSpec.ofChange fnEnginesSpec)) fnEnginesCard

/-- THE TIED CARD OF 'laws.FnMultiplied'. -/
def fnMultipliedCard : Claim7 := { stood := { row := fnMultipliedRow, standIns := [], harness := (true, "6712f94298d976042b001a421f29473903aa1fbd26efe6ff5b035858cdbac27c"), looks := false }, kinds := [], alts := [], laidByText := true, laidKinds := [.data, .data, .data], laidTests := true, laidLooks := .later }
def FnMultipliedCardSaid : Prop := Claim7.holds Tryd.pinned (.plain (OpenSpec.ofChange fnMultipliedSpec)) fnMultipliedCard

/-- THE TIED CARD OF 'laws.FnExactShortSession'. -/
def fnExactShortSessionCard : Claim7 := { stood := { row := fnExactShortSessionRow, standIns := [], harness := (true, "6712f94298d976042b001a421f29473903aa1fbd26efe6ff5b035858cdbac27c"), looks := false }, kinds := [], alts := [], laidByText := true, laidKinds := [.data, .data, .data], laidTests := true, laidLooks := .later }
def FnExactShortSessionCardSaid : Prop := Claim7.holds Tryd.pinned (.plain (OpenSpec.ofChange fnExactShortSessionSpec)) fnExactShortSessionCard

/-- THE SECOND FORM's CARD OF 'laws.FnReplayed'. -/
def fnReplayedUptoCard : Claim7 := { stood := { row := fnReplayedUptoRow, standIns := [], harness := (true, "6712f94298d976042b001a421f29473903aa1fbd26efe6ff5b035858cdbac27c"), looks := false }, kinds := [], alts := [], laidByText := true, laidKinds := [.data, .data, .data], laidTests := true, laidLooks := .later }
def FnReplayedUptoCardSaid : Prop := Claim7.holds Tryd.pinned (.plain (OpenSpec.upto fnReplayedSpec)) fnReplayedUptoCard

/-- THE SECOND FORM's CARD OF 'laws.FnRegisters'. -/
def fnRegistersUptoCard : Claim7 := { stood := { row := fnRegistersUptoRow, standIns := [], harness := (true, "6712f94298d976042b001a421f29473903aa1fbd26efe6ff5b035858cdbac27c"), looks := false }, kinds := [], alts := [], laidByText := true, laidKinds := [.data, .data, .data], laidTests := true, laidLooks := .later }
def FnRegistersUptoCardSaid : Prop := Claim7.holds Tryd.pinned (.plain (OpenSpec.upto fnRegistersSpec)) fnRegistersUptoCard

/-- THE SECOND FORM's CARD OF 'laws.FnStandardTrials'. -/
def fnStandardTrialsUptoCard : Claim7 := { stood := { row := fnStandardTrialsUptoRow, standIns := [], harness := (true, "6712f94298d976042b001a421f29473903aa1fbd26efe6ff5b035858cdbac27c"), looks := false }, kinds := [], alts := [], laidByText := true, laidKinds := [.data, .data, .data], laidTests := true, laidLooks := .later }
def FnStandardTrialsUptoCardSaid : Prop := Claim7.holds Tryd.pinned (.plain (OpenSpec.upto fnStandardTrialsSpec)) fnStandardTrialsUptoCard

/-- THE SECOND FORM's CARD OF 'laws.FnLevers'. -/
def fnLeversUptoCard : Claim7 := { stood := { row := fnLeversUptoRow, standIns := [], harness := (true, "6712f94298d976042b001a421f29473903aa1fbd26efe6ff5b035858cdbac27c"), looks := false }, kinds := [], alts := [], laidByText := true, laidKinds := [.data, .data, .data], laidTests := true, laidLooks := .later }
def FnLeversUptoCardSaid : Prop := Claim7.holds Tryd.pinned (.plain (OpenSpec.upto fnLeversSpec)) fnLeversUptoCard

/-- THE SECOND FORM's CARD OF 'laws.FnEvents'. -/
def fnEventsUptoCard : Claim7 := { stood := { row := fnEventsUptoRow, standIns := [], harness := (true, "6712f94298d976042b001a421f29473903aa1fbd26efe6ff5b035858cdbac27c"), looks := false }, kinds := [], alts := [], laidByText := true, laidKinds := [.data, .data, .data], laidTests := true, laidLooks := .later }
def FnEventsUptoCardSaid : Prop := Claim7.holds Tryd.pinned (.plain (OpenSpec.upto fnEventsSpec)) fnEventsUptoCard

/-- THE SECOND FORM's CARD OF 'laws.FnEngines'. -/
def fnEnginesUptoCard : Claim7 := { stood := { row := fnEnginesUptoRow, standIns := [], harness := (true, "6712f94298d976042b001a421f29473903aa1fbd26efe6ff5b035858cdbac27c"), looks := false }, kinds := [], alts := [], laidByText := true, laidKinds := [.data, .data, .data], laidTests := true, laidLooks := .later }
def FnEnginesUptoCardSaid : Prop := Claim7.holds Tryd.pinned (.plain (OpenSpec.upto fnEnginesSpec)) fnEnginesUptoCard

/-- THE SECOND FORM's CARD OF 'laws.FnMultiplied'. -/
def fnMultipliedUptoCard : Claim7 := { stood := { row := fnMultipliedUptoRow, standIns := [], harness := (true, "6712f94298d976042b001a421f29473903aa1fbd26efe6ff5b035858cdbac27c"), looks := false }, kinds := [], alts := [], laidByText := true, laidKinds := [.data, .data, .data], laidTests := true, laidLooks := .later }
def FnMultipliedUptoCardSaid : Prop := Claim7.holds Tryd.pinned (.plain (OpenSpec.upto fnMultipliedSpec)) fnMultipliedUptoCard

/-- THE SECOND FORM's CARD OF 'laws.FnExactShortSession'. -/
def fnExactShortSessionUptoCard : Claim7 := { stood := { row := fnExactShortSessionUptoRow, standIns := [], harness := (true, "6712f94298d976042b001a421f29473903aa1fbd26efe6ff5b035858cdbac27c"), looks := false }, kinds := [], alts := [], laidByText := true, laidKinds := [.data, .data, .data], laidTests := true, laidLooks := .later }
def FnExactShortSessionUptoCardSaid : Prop := Claim7.holds Tryd.pinned (.plain (OpenSpec.upto fnExactShortSessionSpec)) fnExactShortSessionUptoCard
end Rows
end Go.Proofs.YtafnebpbfmbgiaaDoor
