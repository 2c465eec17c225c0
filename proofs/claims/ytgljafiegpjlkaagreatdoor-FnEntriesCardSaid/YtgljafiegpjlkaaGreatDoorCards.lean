/-
  DERIVED. GIVEN WITH THE SEED: THE CARDS: each row of YtgljafiegpjlkaaGreatDoorRows.lean that lists a variable, with what it lists TIED to the program's text (the seventh form; the later family's looks); each row that meets fmt, with fmt's text TOLD by the authors' own Lean function (tested against real Go, not proved from fmt's source: count such statements apart). THE CARD IS WHAT COUNTS. Prove the row's statement (the work); the ties are given (YtgljafiegpjlkaaGreatDoorTie.lean); close each card by the builder's one call (the guide's Derived/Test/ToyasCard.lean, 'card_holds'). Laid BY PROGRAM, IN A SANDBOX (cutbox-door.mjs). By AI agents, Wed Nov 11 2026. No macro, syntax, notation, axiom, sorry.
-/
import Derived.Test.YtgljafiegpjlkaaGreatDoorRows
import GoSem.ClaimSeven
namespace Go.Proofs.YtgljafiegpjlkaaGreatDoor
namespace Rows

/-- THE TIED CARD OF 'laws.FnEntries'. -/
def fnEntriesCard : Claim7 := { stood := { row := fnEntriesRow, standIns := [], harness := (true, "8a4572e1d7fe24a217424d338887d9667536b3417302e072aa6d90819812932a"), looks := false }, kinds := [], alts := [], laidByText := true, laidKinds := [.data, .data, .data], laidTests := true, laidLooks := .later }
def FnEntriesCardSaid : Prop := Claim7.holds Tryz.pinned (.plain (OpenSpec.ofChange fnEntriesSpec)) fnEntriesCard

/-- THE TIED CARD OF 'laws.FnFound'. -/
def fnFoundCard : Claim7 := { stood := { row := fnFoundRow, standIns := [], harness := (true, "8a4572e1d7fe24a217424d338887d9667536b3417302e072aa6d90819812932a"), looks := false }, kinds := [], alts := [], laidByText := true, laidKinds := [.data, .data, .data], laidTests := true, laidLooks := .later }
def FnFoundCardSaid : Prop := Claim7.holds Tryz.pinned (.plain (OpenSpec.ofChange fnFoundSpec)) fnFoundCard

/-- THE TIED CARD OF 'laws.FnConsole'. -/
def fnConsoleCard : Claim7 := { stood := { row := fnConsoleRow, standIns := [], harness := (true, "8a4572e1d7fe24a217424d338887d9667536b3417302e072aa6d90819812932a"), looks := false }, kinds := [], alts := [], laidByText := true, laidKinds := [.data, .data, .data], laidTests := true, laidLooks := .later }
def FnConsoleCardSaid : Prop := Claim7.holds Tryz.pinned (.plain (OpenSpec.ofChange fnConsoleSpec)) fnConsoleCard

/-- THE TIED CARD OF 'laws.FnExactRunDesk'. -/
def fnExactRunDeskCard : Claim7 := { stood := { row := fnExactRunDeskRow, standIns := [], harness := (true, "8a4572e1d7fe24a217424d338887d9667536b3417302e072aa6d90819812932a"), looks := false }, kinds := [], alts := [], laidByText := true, laidKinds := [.data, .data, .data], laidTests := true, laidLooks := .later }
def FnExactRunDeskCardSaid : Prop := Claim7.holds Tryz.pinned (.plain (OpenSpec.ofChange fnExactRunDeskSpec)) fnExactRunDeskCard

/-- THE TIED CARD OF 'laws.FnExactDeskCommand'. -/
def fnExactDeskCommandCard : Claim7 := { stood := { row := fnExactDeskCommandRow, standIns := [], harness := (true, "8a4572e1d7fe24a217424d338887d9667536b3417302e072aa6d90819812932a"), looks := false }, kinds := [], alts := [], laidByText := true, laidKinds := [.data, .data, .data], laidTests := true, laidLooks := .later }
def FnExactDeskCommandCardSaid : Prop := Claim7.holds Tryz.pinned (.plain (OpenSpec.ofChange fnExactDeskCommandSpec)) fnExactDeskCommandCard

/-- THE SECOND FORM's CARD OF 'laws.FnEntries'. -/
def fnEntriesUptoCard : Claim7 := { stood := { row := fnEntriesUptoRow, standIns := [], harness := (true, "8a4572e1d7fe24a217424d338887d9667536b3417302e072aa6d90819812932a"), looks := false }, kinds := [], alts := [], laidByText := true, laidKinds := [.data, .data, .data], laidTests := true, laidLooks := .later }
def FnEntriesUptoCardSaid : Prop := Claim7.holds Tryz.pinned (.plain (OpenSpec.upto fnEntriesSpec)) fnEntriesUptoCard

/-- THE SECOND FORM's CARD OF 'laws.FnFound'. -/
def fnFoundUptoCard : Claim7 := { stood := { row := fnFoundUptoRow, standIns := [], harness := (true, "8a4572e1d7fe24a217424d338887d9667536b3417302e072aa6d90819812932a"), looks := false }, kinds := [], alts := [], laidByText := true, laidKinds := [.data, .data, .data], laidTests := true, laidLooks := .later }
def FnFoundUptoCardSaid : Prop := Claim7.holds Tryz.pinned (.plain (OpenSpec.upto fnFoundSpec)) fnFoundUptoCard

/-- THE SECOND FORM's CARD OF 'laws.FnConsole'. -/
def fnConsoleUptoCard : Claim7 := { stood := { row := fnConsoleUptoRow, standIns := [], harness := (true, "8a4572e1d7fe24a217424d338887d9667536b3417302e072aa6d90819812932a"), looks := false }, kinds := [], alts := [], laidByText := true, laidKinds := [.data, .data, .data], laidTests := true, laidLooks := .later }
def FnConsoleUptoCardSaid : Prop := Claim7.holds Tryz.pinned (.plain (OpenSpec.upto fnConsoleSpec)) fnConsoleUptoCard

/-- THE SECOND FORM's CARD OF 'laws.FnExactRunDesk'. -/
def fnExactRunDeskUptoCard : Claim7 := { stood := { row := fnExactRunDeskUptoRow, standIns := [], harness := (true, "8a4572e1d7fe24a217424d338887d9667536b3417302e072aa6d90819812932a"), looks := false }, kinds := [], alts := [], laidByText := true, laidKinds := [.data, .data, .data], laidTests := true, laidLooks := .later }
def FnExactRunDeskUptoCardSaid : Prop := Claim7.holds Tryz.pinned (.plain (OpenSpec.upto fnExactRunDeskSpec)) fnExactRunDeskUptoCard

/-- THE SECOND FORM's CARD OF 'laws.FnExactDeskCommand'. -/
def fnExactDeskCommandUptoCard : Claim7 := { stood := { row := fnExactDeskCommandUptoRow, standIns := [], harness := (true, "8a4572e1d7fe24a217424d338887d9667536b3417302e072aa6d90819812932a"), looks := false }, kinds := [], alts := [], laidByText := true, laidKinds := [.data, .data, .data], laidTests := true, laidLooks := .later }
def FnExactDeskCommandUptoCardSaid : Prop := Claim7.holds Tryz.pinned (.plain (OpenSpec.upto fnExactDeskCommandSpec)) fnExactDeskCommandUptoCard
end Rows
end Go.Proofs.YtgljafiegpjlkaaGreatDoor
