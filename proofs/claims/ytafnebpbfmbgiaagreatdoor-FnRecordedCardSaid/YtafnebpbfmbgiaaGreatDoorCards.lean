/-
  DERIVED. GIVEN WITH THE SEED: THE CARDS: each row of YtafnebpbfmbgiaaGreatDoorRows.lean that lists a variable, with what it lists TIED to the program's text (the seventh form; the later family's looks); each row that meets fmt, with fmt's text TOLD by the authors' own Lean function (tested against real Go, not proved from fmt's source: count such statements apart). THE CARD IS WHAT COUNTS. Prove the row's statement (the work); the ties are given (YtafnebpbfmbgiaaGreatDoorTie.lean); close each card by the builder's one call (the guide's Derived/Test/ToyasCard.lean, 'card_holds'). Laid BY PROGRAM, IN A SANDBOX (cutbox-door.mjs). By AI agents, Wed Nov 11 2026. No macro, syntax, notation, axiom, sorry.
-/
import Derived.Test.YtafnebpbfmbgiaaGreatDoorRows
import GoSem.ClaimSeven
namespace Go.Proofs.YtafnebpbfmbgiaaGreatDoor
namespace Rows

/-- THE TIED CARD OF 'laws.FnSessions'. -/
def fnSessionsCard : Claim7 := { stood := { row := fnSessionsRow, standIns := [], harness := (true, "ff652b8aa606df3168455fceeb6f4ff544058f59ffa4c2246746d254c48c4119"), looks := false }, kinds := [], alts := [], laidByText := true, laidKinds := [.data, .data, .data], laidTests := true, laidLooks := .later }
def FnSessionsCardSaid : Prop := Claim7.holds Tryz.pinned (.plain (OpenSpec.ofChange fnSessionsSpec)) fnSessionsCard

/-- THE TIED CARD OF 'laws.FnRecorded'. -/
def fnRecordedCard : Claim7 := { stood := { row := fnRecordedRow, standIns := [], harness := (true, "ff652b8aa606df3168455fceeb6f4ff544058f59ffa4c2246746d254c48c4119"), looks := false }, kinds := [], alts := [], laidByText := true, laidKinds := [.data, .data, .data], laidTests := true, laidLooks := .later }
def FnRecordedCardSaid : Prop := Claim7.holds Tryz.pinned (.plain (OpenSpec.ofChange fnRecordedSpec)) fnRecordedCard

/-- THE SECOND FORM's CARD OF 'laws.FnSessions'. -/
def fnSessionsUptoCard : Claim7 := { stood := { row := fnSessionsUptoRow, standIns := [], harness := (true, "ff652b8aa606df3168455fceeb6f4ff544058f59ffa4c2246746d254c48c4119"), looks := false }, kinds := [], alts := [], laidByText := true, laidKinds := [.data, .data, .data], laidTests := true, laidLooks := .later }
def FnSessionsUptoCardSaid : Prop := Claim7.holds Tryz.pinned (.plain (OpenSpec.upto fnSessionsSpec)) fnSessionsUptoCard

/-- THE SECOND FORM's CARD OF 'laws.FnRecorded'. -/
def fnRecordedUptoCard : Claim7 := { stood := { row := fnRecordedUptoRow, standIns := [], harness := (true, "ff652b8aa606df3168455fceeb6f4ff544058f59ffa4c2246746d254c48c4119"), looks := false }, kinds := [], alts := [], laidByText := true, laidKinds := [.data, .data, .data], laidTests := true, laidLooks := .later }
def FnRecordedUptoCardSaid : Prop := Claim7.holds Tryz.pinned (.plain (OpenSpec.upto fnRecordedSpec)) fnRecordedUptoCard
end Rows
end Go.Proofs.YtafnebpbfmbgiaaGreatDoor
