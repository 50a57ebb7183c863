/-
  No cell of these rows narrows 'for every input' (looked for: loops, veiled, ifaces, maps, wideKeys, modest, calm, conditions, laid).
  DERIVED. THE GIVEN ROWS OF THIS SEAT. 3 by the template 'for every input the law returns true; each argument reads behind the call as it read before'; 0 by the template 'total and deterministic' (their statements: YtfdppbfefplikaaTotals.lean).
  GIVEN WITH THE SEED: the statements are not yours to turn. If you find one false, say at which input.
  Laid BY PROGRAM, IN A SANDBOX (cutbox-rows.mjs): the forced cells as the released guide's own fill.sh prints them over the translation 97bed2068e499b45… (all of the seat's roots in one cut). By AI agents, Wed Nov 11 2026. No macro, syntax, notation, axiom, sorry.
-/
import Derived.Test.YtfdppbfefplikaaChecked
import GoSem.Claim
import GoSem.ClaimJoined
import GoSem.ClaimMapViews
import Derived.JoinedTies
import Derived.KernelRfl
namespace Go.Proofs.Ytfdppbfefplikaa
/- THE CELL 'sum', in the pinned program and in every row, IS THE sha256 OF THE DUMP (.gsa) THAT YtfdppbfefplikaaProg.lean LOADS. Nothing in Lean hashes anything: it is a label: what it is worth is what the hold of that sum in a sandbox is worth. -/
noncomputable def Try.pinned : Pinned := { name := "ytfdppbfefplikaa", sum := "97bed2068e499b45542ab5c54518f2030ecf848e8733d5d3abc68ce6d722ee4c", checked := Try.checked }
namespace Rows
def none {H : Type} : Left H := { results := [], args := [] }

/-- 'horologelaw02.FiguresPuts': WHATEVER THE INPUT: true; the input reads as it did. -/
def figuresPutsSpec : ChangeSpec := { name := "figuresPuts", fn := fun _ => fun
  | [d1, d2, d3] => { results := [.lit (.bool true)], args := [d1, d2, d3] }
  | _ => none }
def figuresPutsRow : OpenClaim := { program := "ytfdppbfefplikaa", sum := "97bed2068e499b45542ab5c54518f2030ecf848e8733d5d3abc68ce6d722ee4c", func := "horologe/horologelaw02.FiguresPuts", spec := "figuresPuts", inPlace := ["internal/abi.NoEscape", "internal/bytealg.MakeNoZero"], apart := false }
def FiguresPutsSaid : Prop := figuresPutsRow.holds Try.pinned (OpenSpec.ofChange figuresPutsSpec)

/-- ITS FALSE NEIGHBOUR: 'it returns false'. Refute it at one input. -/
def figuresPutsWrong : ChangeSpec := { name := "figuresPuts", fn := fun _ => fun
  | [d1, d2, d3] => { results := [.lit (.bool false)], args := [d1, d2, d3] }
  | _ => none }
def FiguresPutsWrongFalsely : Prop := figuresPutsRow.holds Try.pinned (OpenSpec.ofChange figuresPutsWrong)

/-- 'horologelaw02.FiguresTakes': WHATEVER THE INPUT: true; the input reads as it did. -/
def figuresTakesSpec : ChangeSpec := { name := "figuresTakes", fn := fun _ => fun
  | [d1, d2, d3] => { results := [.lit (.bool true)], args := [d1, d2, d3] }
  | _ => none }
def figuresTakesRow : OpenClaim := { program := "ytfdppbfefplikaa", sum := "97bed2068e499b45542ab5c54518f2030ecf848e8733d5d3abc68ce6d722ee4c", func := "horologe/horologelaw02.FiguresTakes", spec := "figuresTakes", inPlace := ["internal/abi.NoEscape", "internal/bytealg.MakeNoZero"], apart := false }
def FiguresTakesSaid : Prop := figuresTakesRow.holds Try.pinned (OpenSpec.ofChange figuresTakesSpec)

/-- ITS FALSE NEIGHBOUR: 'it returns false'. Refute it at one input. -/
def figuresTakesWrong : ChangeSpec := { name := "figuresTakes", fn := fun _ => fun
  | [d1, d2, d3] => { results := [.lit (.bool false)], args := [d1, d2, d3] }
  | _ => none }
def FiguresTakesWrongFalsely : Prop := figuresTakesRow.holds Try.pinned (OpenSpec.ofChange figuresTakesWrong)

/-- 'horologelaw02.FiguresSigned': WHATEVER THE INPUT: true; the input reads as it did. -/
def figuresSignedSpec : ChangeSpec := { name := "figuresSigned", fn := fun _ => fun
  | [d1, d2] => { results := [.lit (.bool true)], args := [d1, d2] }
  | _ => none }
def figuresSignedRow : OpenClaim := { program := "ytfdppbfefplikaa", sum := "97bed2068e499b45542ab5c54518f2030ecf848e8733d5d3abc68ce6d722ee4c", func := "horologe/horologelaw02.FiguresSigned", spec := "figuresSigned", inPlace := ["internal/abi.NoEscape", "internal/bytealg.MakeNoZero"], apart := false }
def FiguresSignedSaid : Prop := figuresSignedRow.holds Try.pinned (OpenSpec.ofChange figuresSignedSpec)

/-- ITS FALSE NEIGHBOUR: 'it returns false'. Refute it at one input. -/
def figuresSignedWrong : ChangeSpec := { name := "figuresSigned", fn := fun _ => fun
  | [d1, d2] => { results := [.lit (.bool false)], args := [d1, d2] }
  | _ => none }
def FiguresSignedWrongFalsely : Prop := figuresSignedRow.holds Try.pinned (OpenSpec.ofChange figuresSignedWrong)

/- THE SECOND FORM. 'bulk': how many values and letters a reading holds, each counted each time it is reached (what is shared counts as often as it is met; a slice's spare places count too). A statement '..UptoSaid' is the law's where the arguments, and the package variables that the reading takes, are together of bulk at most 1048576: NARROWER than '..Said'. Prove '..Said' where nothing that the law and all that it calls make is longer than what came in: it says more and counts as full. Else prove '..UptoSaid'. A law counts once. -/
mutual
def uptoBulk {H : Type} : DataW H → Nat
  | .lit (.string bytes) => bytes.length + 1
  | .lit _ => 1
  | .nil => 1
  | .ptr d => uptoBulk d + 1
  | .slice elems spare => uptoBulkAll elems + uptoBulkAll spare + 1
  | .agg parts => uptoBulkAll parts + 1
  | .iface _ d => uptoBulk d + 1
  | .map entries => uptoBulkEntries entries + 1
  | .held _ => 1
def uptoBulkAll {H : Type} : List (DataW H) → Nat
  | [] => 0
  | d :: r => uptoBulk d + uptoBulkAll r
def uptoBulkEntries {H : Type} : List (Lit × DataW H) → Nat
  | [] => 0
  | x :: r => uptoBulkEntry x + uptoBulkEntries r
def uptoBulkEntry {H : Type} : Lit × DataW H → Nat
  | (.string bytes, d) => bytes.length + uptoBulk d + 1
  | (_, d) => uptoBulk d + 1
 end
def uptoSmall : (H : Type) → List (DataW H) → Bool := fun _ ds => decide (uptoBulkAll ds ≤ 1048576)
def OpenSpec.upto (s : _root_.Go.ChangeSpec) : _root_.Go.OpenSpec := { _root_.Go.OpenSpec.ofChange s with cond := some uptoSmall }

/-- 'horologelaw02.FiguresPuts', WHERE WHAT IT READS IS OF BULK AT MOST 1048576: true; the input reads as it did. -/
def figuresPutsUptoRow : OpenClaim := { program := "ytfdppbfefplikaa", sum := "97bed2068e499b45542ab5c54518f2030ecf848e8733d5d3abc68ce6d722ee4c", func := "horologe/horologelaw02.FiguresPuts", spec := "figuresPuts", inPlace := ["internal/abi.NoEscape", "internal/bytealg.MakeNoZero"], apart := false, narrowed := true }
def FiguresPutsUptoSaid : Prop := figuresPutsUptoRow.holds Try.pinned (OpenSpec.upto figuresPutsSpec)

/-- 'horologelaw02.FiguresTakes', WHERE WHAT IT READS IS OF BULK AT MOST 1048576: true; the input reads as it did. -/
def figuresTakesUptoRow : OpenClaim := { program := "ytfdppbfefplikaa", sum := "97bed2068e499b45542ab5c54518f2030ecf848e8733d5d3abc68ce6d722ee4c", func := "horologe/horologelaw02.FiguresTakes", spec := "figuresTakes", inPlace := ["internal/abi.NoEscape", "internal/bytealg.MakeNoZero"], apart := false, narrowed := true }
def FiguresTakesUptoSaid : Prop := figuresTakesUptoRow.holds Try.pinned (OpenSpec.upto figuresTakesSpec)

/-- 'horologelaw02.FiguresSigned', WHERE WHAT IT READS IS OF BULK AT MOST 1048576: true; the input reads as it did. -/
def figuresSignedUptoRow : OpenClaim := { program := "ytfdppbfefplikaa", sum := "97bed2068e499b45542ab5c54518f2030ecf848e8733d5d3abc68ce6d722ee4c", func := "horologe/horologelaw02.FiguresSigned", spec := "figuresSigned", inPlace := ["internal/abi.NoEscape", "internal/bytealg.MakeNoZero"], apart := false, narrowed := true }
def FiguresSignedUptoSaid : Prop := figuresSignedUptoRow.holds Try.pinned (OpenSpec.upto figuresSignedSpec)

end Rows
end Go.Proofs.Ytfdppbfefplikaa
