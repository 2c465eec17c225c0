/-
  DERIVED. GIVEN WITH THE SEED: THE CARDS: each row of YtgpmngcemnnpmaaDoorRows.lean that lists a variable, with what it lists TIED to the program's text (the seventh form; the later family's looks); each row that meets fmt, with fmt's text TOLD by the authors' own Lean function (tested against real Go, not proved from fmt's source: count such statements apart). THE CARD IS WHAT COUNTS. Prove the row's statement (the work); the ties are given (YtgpmngcemnnpmaaDoorTie.lean); close each card by the builder's one call (the guide's Derived/Test/ToyasCard.lean, 'card_holds'). Laid BY PROGRAM, IN A SANDBOX (cutbox-door.mjs). By AI agents, Wed Nov 11 2026. No macro, syntax, notation, axiom, sorry.
-/
import Derived.Test.YtgpmngcemnnpmaaDoorRows
import GoSem.ClaimSeven
namespace Go.Proofs.YtgpmngcemnnpmaaDoor
namespace Rows

/-- THE TIED CARD OF 'laws.FnStandardTrials'. -/
def fnStandardTrialsCard : Claim7 := { stood := { row := fnStandardTrialsRow, standIns := [], harness := (true, "0501ce453447072b38f8658171bb8bc98a4b8382e49a4fd03716e257ea74b255"), looks := false }, kinds := [], alts := [], laidByText := true, laidKinds := [.data, .data, .data], laidTests := true, laidLooks := .later }
def FnStandardTrialsCardSaid : Prop := Claim7.holds Tryd.pinned (.plain (OpenSpec.ofChange fnStandardTrialsSpec)) fnStandardTrialsCard

/-- THE TIED CARD OF 'laws.FnEngines'. -/
def fnEnginesCard : Claim7 := { stood := { row := fnEnginesRow, standIns := [], harness := (true, "0501ce453447072b38f8658171bb8bc98a4b8382e49a4fd03716e257ea74b255"), looks := false }, kinds := [], alts := [], laidByText := true, laidKinds := [.data, .data, .data], laidTests := true, laidLooks := .later }
def FnEnginesCardSaid : Prop := Claim7.holds Tryd.pinned (.plain (OpenSpec.ofChange fnEnginesSpec)) fnEnginesCard

/-- THE TIED CARD OF 'laws.FnExactShortSession'. -/
def fnExactShortSessionCard : Claim7 := { stood := { row := fnExactShortSessionRow, standIns := [], harness := (true, "0501ce453447072b38f8658171bb8bc98a4b8382e49a4fd03716e257ea74b255"), looks := false }, kinds := [], alts := [], laidByText := true, laidKinds := [.data, .data, .data], laidTests := true, laidLooks := .later }
def FnExactShortSessionCardSaid : Prop := Claim7.holds Tryd.pinned (.plain (OpenSpec.ofChange fnExactShortSessionSpec)) fnExactShortSessionCard

/-- THE SECOND FORM's CARD OF 'laws.FnStandardTrials'. -/
def fnStandardTrialsUptoCard : Claim7 := { stood := { row := fnStandardTrialsUptoRow, standIns := [], harness := (true, "0501ce453447072b38f8658171bb8bc98a4b8382e49a4fd03716e257ea74b255"), looks := false }, kinds := [], alts := [], laidByText := true, laidKinds := [.data, .data, .data], laidTests := true, laidLooks := .later }
def FnStandardTrialsUptoCardSaid : Prop := Claim7.holds Tryd.pinned (.plain (OpenSpec.upto fnStandardTrialsSpec)) fnStandardTrialsUptoCard

/-- THE SECOND FORM's CARD OF 'laws.FnEngines'. -/
def fnEnginesUptoCard : Claim7 := { stood := { row := fnEnginesUptoRow, standIns := [], harness := (true, "0501ce453447072b38f8658171bb8bc98a4b8382e49a4fd03716e257ea74b255"), looks := false }, kinds := [], alts := [], laidByText := true, laidKinds := [.data, .data, .data], laidTests := true, laidLooks := .later }
def FnEnginesUptoCardSaid : Prop := Claim7.holds Tryd.pinned (.plain (OpenSpec.upto fnEnginesSpec)) fnEnginesUptoCard

/-- THE SECOND FORM's CARD OF 'laws.FnExactShortSession'. -/
def fnExactShortSessionUptoCard : Claim7 := { stood := { row := fnExactShortSessionUptoRow, standIns := [], harness := (true, "0501ce453447072b38f8658171bb8bc98a4b8382e49a4fd03716e257ea74b255"), looks := false }, kinds := [], alts := [], laidByText := true, laidKinds := [.data, .data, .data], laidTests := true, laidLooks := .later }
def FnExactShortSessionUptoCardSaid : Prop := Claim7.holds Tryd.pinned (.plain (OpenSpec.upto fnExactShortSessionSpec)) fnExactShortSessionUptoCard
end Rows
end Go.Proofs.YtgpmngcemnnpmaaDoor
