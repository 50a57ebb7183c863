/-
  DERIVED. GIVEN WITH THE SEED: THE CARDS: each row of YtodnllhjikeafaaDoorRows.lean that lists a variable, with what it lists TIED to the program's text (the seventh form; the later family's looks); each row that meets fmt, with fmt's text TOLD by the authors' own Lean function (tested against real Go, not proved from fmt's source: count such statements apart). THE CARD IS WHAT COUNTS. Prove the row's statement (the work); the ties are given (YtodnllhjikeafaaDoorTie.lean); close each card by the builder's one call (the guide's Derived/Test/ToyasCard.lean, 'card_holds'). Laid BY PROGRAM, IN A SANDBOX (cutbox-door.mjs). By AI agents, Wed Nov 11 2026. No macro, syntax, notation, axiom, sorry.
-/
import Derived.Test.YtodnllhjikeafaaDoorRows
import GoSem.ClaimSeven
namespace Go.Proofs.YtodnllhjikeafaaDoor
namespace Rows

/-- THE TIED CARD OF 'horologelaw30.RefidParses'. -/
def refidParsesCard : Claim7 := { stood := { row := refidParsesRow, standIns := [], harness := (true, "355ad5965483f80569b5205d4ae418054eed61ae34710d4b8baa2ee982486b18"), looks := true }, kinds := [], alts := [], laidByText := true, laidKinds := [.data, .pinned], laidTests := true, laidLooks := .later }
def RefidParsesCardSaid : Prop := Claim7.holds Tryd.pinned (.plain (OpenSpec.ofChange refidParsesSpec)) refidParsesCard

/-- THE TIED CARD OF 'horologelaw30.RefidBack'. -/
def refidBackCard : Claim7 := { stood := { row := refidBackRow, standIns := [], harness := (true, "355ad5965483f80569b5205d4ae418054eed61ae34710d4b8baa2ee982486b18"), looks := true }, kinds := [], alts := [], laidByText := true, laidKinds := [.data, .data, .data, .data, .pinned], laidTests := true, laidLooks := .later }
def RefidBackCardSaid : Prop := Claim7.holds Tryd.pinned (.plain (OpenSpec.ofChange refidBackSpec)) refidBackCard

/-- THE TIED CARD OF 'horologelaw30.RefidTexts'. -/
def refidTextsCard : Claim7 := { stood := { row := refidTextsRow, standIns := [], harness := (true, "355ad5965483f80569b5205d4ae418054eed61ae34710d4b8baa2ee982486b18"), looks := true }, kinds := [], alts := [], laidByText := true, laidKinds := [.data, .data, .data, .data, .pinned], laidTests := true, laidLooks := .later }
def RefidTextsCardSaid : Prop := Claim7.holds Tryd.pinned (.plain (OpenSpec.ofChange refidTextsSpec)) refidTextsCard

/-- THE SECOND FORM's CARD OF 'horologelaw30.RefidParses'. -/
def refidParsesUptoCard : Claim7 := { stood := { row := refidParsesUptoRow, standIns := [], harness := (true, "355ad5965483f80569b5205d4ae418054eed61ae34710d4b8baa2ee982486b18"), looks := true }, kinds := [], alts := [], laidByText := true, laidKinds := [.data, .pinned], laidTests := true, laidLooks := .later }
def RefidParsesUptoCardSaid : Prop := Claim7.holds Tryd.pinned (.plain (OpenSpec.upto refidParsesSpec)) refidParsesUptoCard

/-- THE SECOND FORM's CARD OF 'horologelaw30.RefidBack'. -/
def refidBackUptoCard : Claim7 := { stood := { row := refidBackUptoRow, standIns := [], harness := (true, "355ad5965483f80569b5205d4ae418054eed61ae34710d4b8baa2ee982486b18"), looks := true }, kinds := [], alts := [], laidByText := true, laidKinds := [.data, .data, .data, .data, .pinned], laidTests := true, laidLooks := .later }
def RefidBackUptoCardSaid : Prop := Claim7.holds Tryd.pinned (.plain (OpenSpec.upto refidBackSpec)) refidBackUptoCard

/-- THE SECOND FORM's CARD OF 'horologelaw30.RefidTexts'. -/
def refidTextsUptoCard : Claim7 := { stood := { row := refidTextsUptoRow, standIns := [], harness := (true, "355ad5965483f80569b5205d4ae418054eed61ae34710d4b8baa2ee982486b18"), looks := true }, kinds := [], alts := [], laidByText := true, laidKinds := [.data, .data, .data, .data, .pinned], laidTests := true, laidLooks := .later }
def RefidTextsUptoCardSaid : Prop := Claim7.holds Tryd.pinned (.plain (OpenSpec.upto refidTextsSpec)) refidTextsUptoCard
end Rows
end Go.Proofs.YtodnllhjikeafaaDoor
