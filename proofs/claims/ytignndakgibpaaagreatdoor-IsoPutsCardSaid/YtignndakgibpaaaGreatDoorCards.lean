/-
  DERIVED. GIVEN WITH THE SEED: THE CARDS: each row of YtignndakgibpaaaGreatDoorRows.lean that lists a variable, with what it lists TIED to the program's text (the seventh form; the later family's looks); each row that meets fmt, with fmt's text TOLD by the authors' own Lean function (tested against real Go, not proved from fmt's source: count such statements apart). THE CARD IS WHAT COUNTS. Prove the row's statement (the work); the ties are given (YtignndakgibpaaaGreatDoorTie.lean); close each card by the builder's one call (the guide's Derived/Test/ToyasCard.lean, 'card_holds'). Laid BY PROGRAM, IN A SANDBOX (cutbox-door.mjs). By AI agents, Wed Nov 11 2026. No macro, syntax, notation, axiom, sorry.
-/
import Derived.Test.YtignndakgibpaaaGreatDoorRows
import GoSem.ClaimSeven
namespace Go.Proofs.YtignndakgibpaaaGreatDoor
namespace Rows

/-- THE TIED CARD OF 'horologelaw24.IsoPuts'. -/
def isoPutsCard : Claim7 := { stood := { row := isoPutsRow, standIns := [], harness := (true, "d3494c7415f8987e50683811816f3c9a82eb6a200299e700d1d5fea9dbf353b4"), looks := true }, kinds := [], alts := [], laidByText := true, laidKinds := [.data, .pinned], laidTests := true, laidLooks := .later }
def IsoPutsCardSaid : Prop := Claim7.holds Tryz.pinned (.plain (OpenSpec.ofChange isoPutsSpec)) isoPutsCard

/-- THE TIED CARD OF 'horologelaw37.AnswerMatches'. -/
def answerMatchesCard : Claim7 := { stood := { row := answerMatchesRow, standIns := [], harness := (true, "d3494c7415f8987e50683811816f3c9a82eb6a200299e700d1d5fea9dbf353b4"), looks := true }, kinds := [], alts := [], laidByText := true, laidKinds := [.data, .pinned], laidTests := true, laidLooks := .later }
def AnswerMatchesCardSaid : Prop := Claim7.holds Tryz.pinned (.plain (OpenSpec.ofChange answerMatchesSpec)) answerMatchesCard

/-- THE SECOND FORM's CARD OF 'horologelaw24.IsoPuts'. -/
def isoPutsUptoCard : Claim7 := { stood := { row := isoPutsUptoRow, standIns := [], harness := (true, "d3494c7415f8987e50683811816f3c9a82eb6a200299e700d1d5fea9dbf353b4"), looks := true }, kinds := [], alts := [], laidByText := true, laidKinds := [.data, .pinned], laidTests := true, laidLooks := .later }
def IsoPutsUptoCardSaid : Prop := Claim7.holds Tryz.pinned (.plain (OpenSpec.upto isoPutsSpec)) isoPutsUptoCard

/-- THE SECOND FORM's CARD OF 'horologelaw37.AnswerMatches'. -/
def answerMatchesUptoCard : Claim7 := { stood := { row := answerMatchesUptoRow, standIns := [], harness := (true, "d3494c7415f8987e50683811816f3c9a82eb6a200299e700d1d5fea9dbf353b4"), looks := true }, kinds := [], alts := [], laidByText := true, laidKinds := [.data, .pinned], laidTests := true, laidLooks := .later }
def AnswerMatchesUptoCardSaid : Prop := Claim7.holds Tryz.pinned (.plain (OpenSpec.upto answerMatchesSpec)) answerMatchesUptoCard
end Rows
end Go.Proofs.YtignndakgibpaaaGreatDoor
