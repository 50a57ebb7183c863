/-
  DERIVED. GIVEN WITH THE SEED: THE CARDS: each row of YtcnngodgngmghaaGreatDoorRows.lean that lists a variable, with what it lists TIED to the program's text (the seventh form; the later family's looks); each row that meets fmt, with fmt's text TOLD by the authors' own Lean function (tested against real Go, not proved from fmt's source: count such statements apart). THE CARD IS WHAT COUNTS. Prove the row's statement (the work); the ties are given (YtcnngodgngmghaaGreatDoorTie.lean); close each card by the builder's one call (the guide's Derived/Test/ToyasCard.lean, 'card_holds'). Laid BY PROGRAM, IN A SANDBOX (cutbox-door.mjs). By AI agents, Wed Nov 11 2026. No macro, syntax, notation, axiom, sorry.
-/
import Derived.Test.YtcnngodgngmghaaGreatDoorRows
import GoSem.ClaimSeven
namespace Go.Proofs.YtcnngodgngmghaaGreatDoor
namespace Rows

/-- THE TIED CARD OF 'horologelaw11.ListParses'. -/
def listParsesCard : Claim7 := { stood := { row := listParsesRow, standIns := [], harness := (true, "0b11df09327505f5cf352d782a40a5c160b97369d7b77ba3bd80e0c2155b667e"), looks := true }, kinds := [], alts := [], laidByText := true, laidKinds := [.data, .pinned, .pinned], laidTests := true, laidLooks := .later }
def ListParsesCardSaid : Prop := Claim7.holds Tryz.pinned (.plain (OpenSpec.ofChange listParsesSpec)) listParsesCard

/-- THE TIED CARD OF 'horologelaw11.ListRemarks'. -/
def listRemarksCard : Claim7 := { stood := { row := listRemarksRow, standIns := [], harness := (true, "0b11df09327505f5cf352d782a40a5c160b97369d7b77ba3bd80e0c2155b667e"), looks := true }, kinds := [], alts := [], laidByText := true, laidKinds := [.data, .pinned, .pinned], laidTests := true, laidLooks := .later }
def ListRemarksCardSaid : Prop := Claim7.holds Tryz.pinned (.plain (OpenSpec.ofChange listRemarksSpec)) listRemarksCard

/-- THE TIED CARD OF 'horologelaw11.ListPuts'. -/
def listPutsCard : Claim7 := { stood := { row := listPutsRow, standIns := [], harness := (true, "0b11df09327505f5cf352d782a40a5c160b97369d7b77ba3bd80e0c2155b667e"), looks := true }, kinds := [], alts := [], laidByText := true, laidKinds := [.data, .pinned, .pinned], laidTests := true, laidLooks := .later }
def ListPutsCardSaid : Prop := Claim7.holds Tryz.pinned (.plain (OpenSpec.ofChange listPutsSpec)) listPutsCard

/-- THE TIED CARD OF 'horologelaw11.ListBack'. -/
def listBackCard : Claim7 := { stood := { row := listBackRow, standIns := [], harness := (true, "0b11df09327505f5cf352d782a40a5c160b97369d7b77ba3bd80e0c2155b667e"), looks := true }, kinds := [], alts := [], laidByText := true, laidKinds := [.data, .pinned, .pinned], laidTests := true, laidLooks := .later }
def ListBackCardSaid : Prop := Claim7.holds Tryz.pinned (.plain (OpenSpec.ofChange listBackSpec)) listBackCard

/-- THE SECOND FORM's CARD OF 'horologelaw11.ListParses'. -/
def listParsesUptoCard : Claim7 := { stood := { row := listParsesUptoRow, standIns := [], harness := (true, "0b11df09327505f5cf352d782a40a5c160b97369d7b77ba3bd80e0c2155b667e"), looks := true }, kinds := [], alts := [], laidByText := true, laidKinds := [.data, .pinned, .pinned], laidTests := true, laidLooks := .later }
def ListParsesUptoCardSaid : Prop := Claim7.holds Tryz.pinned (.plain (OpenSpec.upto listParsesSpec)) listParsesUptoCard

/-- THE SECOND FORM's CARD OF 'horologelaw11.ListRemarks'. -/
def listRemarksUptoCard : Claim7 := { stood := { row := listRemarksUptoRow, standIns := [], harness := (true, "0b11df09327505f5cf352d782a40a5c160b97369d7b77ba3bd80e0c2155b667e"), looks := true }, kinds := [], alts := [], laidByText := true, laidKinds := [.data, .pinned, .pinned], laidTests := true, laidLooks := .later }
def ListRemarksUptoCardSaid : Prop := Claim7.holds Tryz.pinned (.plain (OpenSpec.upto listRemarksSpec)) listRemarksUptoCard

/-- THE SECOND FORM's CARD OF 'horologelaw11.ListPuts'. -/
def listPutsUptoCard : Claim7 := { stood := { row := listPutsUptoRow, standIns := [], harness := (true, "0b11df09327505f5cf352d782a40a5c160b97369d7b77ba3bd80e0c2155b667e"), looks := true }, kinds := [], alts := [], laidByText := true, laidKinds := [.data, .pinned, .pinned], laidTests := true, laidLooks := .later }
def ListPutsUptoCardSaid : Prop := Claim7.holds Tryz.pinned (.plain (OpenSpec.upto listPutsSpec)) listPutsUptoCard

/-- THE SECOND FORM's CARD OF 'horologelaw11.ListBack'. -/
def listBackUptoCard : Claim7 := { stood := { row := listBackUptoRow, standIns := [], harness := (true, "0b11df09327505f5cf352d782a40a5c160b97369d7b77ba3bd80e0c2155b667e"), looks := true }, kinds := [], alts := [], laidByText := true, laidKinds := [.data, .pinned, .pinned], laidTests := true, laidLooks := .later }
def ListBackUptoCardSaid : Prop := Claim7.holds Tryz.pinned (.plain (OpenSpec.upto listBackSpec)) listBackUptoCard
end Rows
end Go.Proofs.YtcnngodgngmghaaGreatDoor
