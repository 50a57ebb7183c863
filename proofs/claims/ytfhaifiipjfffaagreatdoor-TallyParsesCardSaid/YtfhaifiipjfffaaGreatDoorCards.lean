/-
  DERIVED. GIVEN WITH THE SEED: THE CARDS: each row of YtfhaifiipjfffaaGreatDoorRows.lean that lists a variable, with what it lists TIED to the program's text (the seventh form; the later family's looks); each row that meets fmt, with fmt's text TOLD by the authors' own Lean function (tested against real Go, not proved from fmt's source: count such statements apart). THE CARD IS WHAT COUNTS. Prove the row's statement (the work); the ties are given (YtfhaifiipjfffaaGreatDoorTie.lean); close each card by the builder's one call (the guide's Derived/Test/ToyasCard.lean, 'card_holds'). Laid BY PROGRAM, IN A SANDBOX (cutbox-door.mjs). By AI agents, Wed Nov 11 2026. No macro, syntax, notation, axiom, sorry.
-/
import Derived.Test.YtfhaifiipjfffaaGreatDoorRows
import GoSem.ClaimSeven
namespace Go.Proofs.YtfhaifiipjfffaaGreatDoor
namespace Rows

/-- THE TIED CARD OF 'horologelaw32.TallyParses'. -/
def tallyParsesCard : Claim7 := { stood := { row := tallyParsesRow, standIns := [], harness := (true, "69890575b6d28f439bf2cadcb55ea7fd72126105573923faa9425fb6e2c7a52f"), looks := true }, kinds := [], alts := [], laidByText := true, laidKinds := [.data, .data, .data, .data, .listed, .data, .pinned], laidTests := true, laidLooks := .later }
def TallyParsesCardSaid : Prop := Claim7.holds Tryz.pinned (.plain (OpenSpec.ofChange tallyParsesSpec)) tallyParsesCard

/-- THE TIED CARD OF 'horologelaw35.ConfigParses'. -/
def configParsesCard : Claim7 := { stood := { row := configParsesRow, standIns := [], harness := (true, "69890575b6d28f439bf2cadcb55ea7fd72126105573923faa9425fb6e2c7a52f"), looks := true }, kinds := [], alts := [], laidByText := true, laidKinds := [.data, .listed, .data, .pinned], laidTests := true, laidLooks := .later }
def ConfigParsesCardSaid : Prop := Claim7.holds Tryz.pinned (.plain (OpenSpec.ofChange configParsesSpec)) configParsesCard

/-- THE TIED CARD OF 'horologelaw35.ConfigSettings'. -/
def configSettingsCard : Claim7 := { stood := { row := configSettingsRow, standIns := [], harness := (true, "69890575b6d28f439bf2cadcb55ea7fd72126105573923faa9425fb6e2c7a52f"), looks := true }, kinds := [], alts := [], laidByText := true, laidKinds := [.data, .data, .data, .data, .listed, .data, .pinned], laidTests := true, laidLooks := .later }
def ConfigSettingsCardSaid : Prop := Claim7.holds Tryz.pinned (.plain (OpenSpec.ofChange configSettingsSpec)) configSettingsCard

/-- THE TIED CARD OF 'horologelaw35.ConfigBack'. -/
def configBackCard : Claim7 := { stood := { row := configBackRow, standIns := [], harness := (true, "69890575b6d28f439bf2cadcb55ea7fd72126105573923faa9425fb6e2c7a52f"), looks := true }, kinds := [], alts := [], laidByText := true, laidKinds := [.data, .data, .data, .data, .listed, .data, .pinned], laidTests := true, laidLooks := .later }
def ConfigBackCardSaid : Prop := Claim7.holds Tryz.pinned (.plain (OpenSpec.ofChange configBackSpec)) configBackCard

/-- THE SECOND FORM's CARD OF 'horologelaw32.TallyParses'. -/
def tallyParsesUptoCard : Claim7 := { stood := { row := tallyParsesUptoRow, standIns := [], harness := (true, "69890575b6d28f439bf2cadcb55ea7fd72126105573923faa9425fb6e2c7a52f"), looks := true }, kinds := [], alts := [], laidByText := true, laidKinds := [.data, .data, .data, .data, .listed, .data, .pinned], laidTests := true, laidLooks := .later }
def TallyParsesUptoCardSaid : Prop := Claim7.holds Tryz.pinned (.plain (OpenSpec.upto tallyParsesSpec)) tallyParsesUptoCard

/-- THE SECOND FORM's CARD OF 'horologelaw35.ConfigParses'. -/
def configParsesUptoCard : Claim7 := { stood := { row := configParsesUptoRow, standIns := [], harness := (true, "69890575b6d28f439bf2cadcb55ea7fd72126105573923faa9425fb6e2c7a52f"), looks := true }, kinds := [], alts := [], laidByText := true, laidKinds := [.data, .listed, .data, .pinned], laidTests := true, laidLooks := .later }
def ConfigParsesUptoCardSaid : Prop := Claim7.holds Tryz.pinned (.plain (OpenSpec.upto configParsesSpec)) configParsesUptoCard

/-- THE SECOND FORM's CARD OF 'horologelaw35.ConfigSettings'. -/
def configSettingsUptoCard : Claim7 := { stood := { row := configSettingsUptoRow, standIns := [], harness := (true, "69890575b6d28f439bf2cadcb55ea7fd72126105573923faa9425fb6e2c7a52f"), looks := true }, kinds := [], alts := [], laidByText := true, laidKinds := [.data, .data, .data, .data, .listed, .data, .pinned], laidTests := true, laidLooks := .later }
def ConfigSettingsUptoCardSaid : Prop := Claim7.holds Tryz.pinned (.plain (OpenSpec.upto configSettingsSpec)) configSettingsUptoCard

/-- THE SECOND FORM's CARD OF 'horologelaw35.ConfigBack'. -/
def configBackUptoCard : Claim7 := { stood := { row := configBackUptoRow, standIns := [], harness := (true, "69890575b6d28f439bf2cadcb55ea7fd72126105573923faa9425fb6e2c7a52f"), looks := true }, kinds := [], alts := [], laidByText := true, laidKinds := [.data, .data, .data, .data, .listed, .data, .pinned], laidTests := true, laidLooks := .later }
def ConfigBackUptoCardSaid : Prop := Claim7.holds Tryz.pinned (.plain (OpenSpec.upto configBackSpec)) configBackUptoCard
end Rows
end Go.Proofs.YtfhaifiipjfffaaGreatDoor
