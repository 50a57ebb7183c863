/-
  DERIVED. GIVEN WITH THE SEED: THE CARDS: each row of YtfdppbfefplikaaDoorRows.lean that lists a variable, with what it lists TIED to the program's text (the seventh form; the later family's looks); each row that meets fmt, with fmt's text TOLD by the authors' own Lean function (tested against real Go, not proved from fmt's source: count such statements apart). THE CARD IS WHAT COUNTS. Prove the row's statement (the work); the ties are given (YtfdppbfefplikaaDoorTie.lean); close each card by the builder's one call (the guide's Derived/Test/ToyasCard.lean, 'card_holds'). Laid BY PROGRAM, IN A SANDBOX (cutbox-door.mjs). By AI agents, Wed Nov 11 2026. No macro, syntax, notation, axiom, sorry.
-/
import Derived.Test.YtfdppbfefplikaaDoorRows
import GoSem.ClaimSeven
namespace Go.Proofs.YtfdppbfefplikaaDoor
namespace Rows

/-- THE TIED CARD OF 'horologelaw02.FiguresFractions'. -/
def figuresFractionsCard : Claim7 := { stood := { row := figuresFractionsRow, standIns := [], harness := (true, "7a49a9f78479ce492e2be980859e280a7836e1220feab575489269dbb077153a"), looks := true }, kinds := [], alts := [], laidByText := true, laidKinds := [.data, .pinned], laidTests := true, laidLooks := .later }
def FiguresFractionsCardSaid : Prop := Claim7.holds Tryd.pinned (.plain (OpenSpec.ofChange figuresFractionsSpec)) figuresFractionsCard

/-- THE TIED CARD OF 'horologelaw02.FiguresBack'. -/
def figuresBackCard : Claim7 := { stood := { row := figuresBackRow, standIns := [], harness := (true, "7a49a9f78479ce492e2be980859e280a7836e1220feab575489269dbb077153a"), looks := true }, kinds := [], alts := [], laidByText := true, laidKinds := [.data, .pinned], laidTests := true, laidLooks := .later }
def FiguresBackCardSaid : Prop := Claim7.holds Tryd.pinned (.plain (OpenSpec.ofChange figuresBackSpec)) figuresBackCard

/-- THE SECOND FORM's CARD OF 'horologelaw02.FiguresFractions'. -/
def figuresFractionsUptoCard : Claim7 := { stood := { row := figuresFractionsUptoRow, standIns := [], harness := (true, "7a49a9f78479ce492e2be980859e280a7836e1220feab575489269dbb077153a"), looks := true }, kinds := [], alts := [], laidByText := true, laidKinds := [.data, .pinned], laidTests := true, laidLooks := .later }
def FiguresFractionsUptoCardSaid : Prop := Claim7.holds Tryd.pinned (.plain (OpenSpec.upto figuresFractionsSpec)) figuresFractionsUptoCard

/-- THE SECOND FORM's CARD OF 'horologelaw02.FiguresBack'. -/
def figuresBackUptoCard : Claim7 := { stood := { row := figuresBackUptoRow, standIns := [], harness := (true, "7a49a9f78479ce492e2be980859e280a7836e1220feab575489269dbb077153a"), looks := true }, kinds := [], alts := [], laidByText := true, laidKinds := [.data, .pinned], laidTests := true, laidLooks := .later }
def FiguresBackUptoCardSaid : Prop := Claim7.holds Tryd.pinned (.plain (OpenSpec.upto figuresBackSpec)) figuresBackUptoCard
end Rows
end Go.Proofs.YtfdppbfefplikaaDoor
