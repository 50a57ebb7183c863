/-
  DERIVED. GIVEN WITH THE SEED: THE CARDS: each row of YtodnllhjikeafaaGreatDoorRows.lean that lists a variable, with what it lists TIED to the program's text (the seventh form; the later family's looks); each row that meets fmt, with fmt's text TOLD by the authors' own Lean function (tested against real Go, not proved from fmt's source: count such statements apart). THE CARD IS WHAT COUNTS. Prove the row's statement (the work); the ties are given (YtodnllhjikeafaaGreatDoorTie.lean); close each card by the builder's one call (the guide's Derived/Test/ToyasCard.lean, 'card_holds'). Laid BY PROGRAM, IN A SANDBOX (cutbox-door.mjs). By AI agents, Wed Nov 11 2026. No macro, syntax, notation, axiom, sorry.
-/
import Derived.Test.YtodnllhjikeafaaGreatDoorRows
import GoSem.ClaimSeven
namespace Go.Proofs.YtodnllhjikeafaaGreatDoor
namespace Rows

/-- THE TIED CARD OF 'horologelaw37.AnswerMatches'. -/
def answerMatchesCard : Claim7 := { stood := { row := answerMatchesRow, standIns := [], harness := (true, "cb859eaceb7805e4a7c7f1abd9e8cc5fa98820107920bb6ff369964c4e4b9626"), looks := true }, kinds := [], alts := [], laidByText := true, laidKinds := [.data, .pinned], laidTests := true, laidLooks := .later }
def AnswerMatchesCardSaid : Prop := Claim7.holds Tryz.pinned (.plain (OpenSpec.ofChange answerMatchesSpec)) answerMatchesCard

/-- THE SECOND FORM's CARD OF 'horologelaw37.AnswerMatches'. -/
def answerMatchesUptoCard : Claim7 := { stood := { row := answerMatchesUptoRow, standIns := [], harness := (true, "cb859eaceb7805e4a7c7f1abd9e8cc5fa98820107920bb6ff369964c4e4b9626"), looks := true }, kinds := [], alts := [], laidByText := true, laidKinds := [.data, .pinned], laidTests := true, laidLooks := .later }
def AnswerMatchesUptoCardSaid : Prop := Claim7.holds Tryz.pinned (.plain (OpenSpec.upto answerMatchesSpec)) answerMatchesUptoCard
end Rows
end Go.Proofs.YtodnllhjikeafaaGreatDoor
