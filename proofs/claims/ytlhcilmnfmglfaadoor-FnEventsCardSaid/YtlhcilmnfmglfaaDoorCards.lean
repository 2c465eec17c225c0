/-
  DERIVED. GIVEN WITH THE SEED: THE CARDS: each row of YtlhcilmnfmglfaaDoorRows.lean that lists a variable, with what it lists TIED to the program's text (the seventh form; the later family's looks); each row that meets fmt, with fmt's text TOLD by the authors' own Lean function (tested against real Go, not proved from fmt's source: count such statements apart). THE CARD IS WHAT COUNTS. Prove the row's statement (the work); the ties are given (YtlhcilmnfmglfaaDoorTie.lean); close each card by the builder's one call (the guide's Derived/Test/ToyasCard.lean, 'card_holds'). Laid BY PROGRAM, IN A SANDBOX (cutbox-door.mjs). By AI agents, Wed Nov 11 2026. No macro, syntax, notation, axiom, sorry.
-/
import Derived.Test.YtlhcilmnfmglfaaDoorRows
import GoSem.ClaimSeven
namespace Go.Proofs.YtlhcilmnfmglfaaDoor
namespace Rows

/-- THE TIED CARD OF 'laws.FnMultiplied'. -/
def fnMultipliedCard : Claim7 := { stood := { row := fnMultipliedRow, standIns := [], harness := (true, "ee9e61aad1dbbd28e07eedd2bbba793921827440aa595c61a11855ba87e05278"), looks := false }, kinds := [], alts := [], laidByText := true, laidKinds := [.data, .data, .data], laidTests := true, laidLooks := .later }
def FnMultipliedCardSaid : Prop := Claim7.holds Tryd.pinned (.plain (OpenSpec.ofChange fnMultipliedSpec)) fnMultipliedCard

/-- THE TIED CARD OF 'laws.FnStandardTrials'. -/
def fnStandardTrialsCard : Claim7 := { stood := { row := fnStandardTrialsRow, standIns := [], harness := (true, "ee9e61aad1dbbd28e07eedd2bbba793921827440aa595c61a11855ba87e05278"), looks := false }, kinds := [], alts := [], laidByText := true, laidKinds := [.data, .data, .data], laidTests := true, laidLooks := .later }
def FnStandardTrialsCardSaid : Prop := Claim7.holds Tryd.pinned (.plain (OpenSpec.ofChange fnStandardTrialsSpec)) fnStandardTrialsCard

/-- THE TIED CARD OF 'laws.FnEvents'. -/
def fnEventsCard : Claim7 := { stood := { row := fnEventsRow, standIns := [], harness := (true, "ee9e61aad1dbbd28e07eedd2bbba793921827440aa595c61a11855ba87e05278"), looks := false }, kinds := [], alts := [], laidByText := true, laidKinds := [.data, .data, .data], laidTests := true, laidLooks := .later }
def FnEventsCardSaid : Prop := Claim7.holds Tryd.pinned (.plain (OpenSpec.ofChange fnEventsSpec)) fnEventsCard

/-- THE TIED CARD OF 'laws.FnEngines'. -/
def fnEnginesCard : Claim7 := { stood := { row := fnEnginesRow, standIns := [], harness := (true, "ee9e61aad1dbbd28e07eedd2bbba793921827440aa595c61a11855ba87e05278"), looks := false }, kinds := [], alts := [], laidByText := true, laidKinds := [.data, .data, .data], laidTests := true, laidLooks := .later }
def FnEnginesCardSaid : Prop := Claim7.holds Tryd.pinned (.plain (OpenSpec.ofChange fnEnginesSpec)) fnEnginesCard

/-- THE TIED CARD OF 'laws.FnExactShortSession'. -/
def fnExactShortSessionCard : Claim7 := { stood := { row := fnExactShortSessionRow, standIns := [], harness := (true, "ee9e61aad1dbbd28e07eedd2bbba793921827440aa595c61a11855ba87e05278"), looks := false }, kinds := [], alts := [], laidByText := true, laidKinds := [.data, .data, .data], laidTests := true, laidLooks := .later }
def FnExactShortSessionCardSaid : Prop := Claim7.holds Tryd.pinned (.plain (OpenSpec.ofChange fnExactShortSessionSpec)) fnExactShortSessionCard

/-- THE SECOND FORM's CARD OF 'laws.FnMultiplied'. -/
def fnMultipliedUptoCard : Claim7 := { stood := { row := fnMultipliedUptoRow, standIns := [], harness := (true, "ee9e61aad1dbbd28e07eedd2bbba793921827440aa595c61a11855ba87e05278"), looks := false }, kinds := [], alts := [], laidByText := true, laidKinds := [.data, .data, .data], laidTests := true, laidLooks := .later }
def FnMultipliedUptoCardSaid : Prop := Claim7.holds Tryd.pinned (.plain (OpenSpec.upto fnMultipliedSpec)) fnMultipliedUptoCard

/-- THE SECOND FORM's CARD OF 'laws.FnStandardTrials'. -/
def fnStandardTrialsUptoCard : Claim7 := { stood := { row := fnStandardTrialsUptoRow, standIns := [], harness := (true, "ee9e61aad1dbbd28e07eedd2bbba793921827440aa595c61a11855ba87e05278"), looks := false }, kinds := [], alts := [], laidByText := true, laidKinds := [.data, .data, .data], laidTests := true, laidLooks := .later }
def FnStandardTrialsUptoCardSaid : Prop := Claim7.holds Tryd.pinned (.plain (OpenSpec.upto fnStandardTrialsSpec)) fnStandardTrialsUptoCard

/-- THE SECOND FORM's CARD OF 'laws.FnEvents'. -/
def fnEventsUptoCard : Claim7 := { stood := { row := fnEventsUptoRow, standIns := [], harness := (true, "ee9e61aad1dbbd28e07eedd2bbba793921827440aa595c61a11855ba87e05278"), looks := false }, kinds := [], alts := [], laidByText := true, laidKinds := [.data, .data, .data], laidTests := true, laidLooks := .later }
def FnEventsUptoCardSaid : Prop := Claim7.holds Tryd.pinned (.plain (OpenSpec.upto fnEventsSpec)) fnEventsUptoCard

/-- THE SECOND FORM's CARD OF 'laws.FnEngines'. -/
def fnEnginesUptoCard : Claim7 := { stood := { row := fnEnginesUptoRow, standIns := [], harness := (true, "ee9e61aad1dbbd28e07eedd2bbba793921827440aa595c61a11855ba87e05278"), looks := false }, kinds := [], alts := [], laidByText := true, laidKinds := [.data, .data, .data], laidTests := true, laidLooks := .later }
def FnEnginesUptoCardSaid : Prop := Claim7.holds Tryd.pinned (.plain (OpenSpec.upto fnEnginesSpec)) fnEnginesUptoCard

/-- THE SECOND FORM's CARD OF 'laws.FnExactShortSession'. -/
def fnExactShortSessionUptoCard : Claim7 := { stood := { row := fnExactShortSessionUptoRow, standIns := [], harness := (true, "ee9e61aad1dbbd28e07eedd2bbba793921827440aa595c61a11855ba87e05278"), looks := false }, kinds := [], alts := [], laidByText := true, laidKinds := [.data, .data, .data], laidTests := true, laidLooks := .later }
def FnExactShortSessionUptoCardSaid : Prop := Claim7.holds Tryd.pinned (.plain (OpenSpec.upto fnExactShortSessionSpec)) fnExactShortSessionUptoCard
end Rows
end Go.Proofs.YtlhcilmnfmglfaaDoor
