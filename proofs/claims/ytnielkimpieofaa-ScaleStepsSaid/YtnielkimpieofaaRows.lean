/-
  No cell of these rows narrows 'for every input' (looked for: loops, veiled, ifaces, maps, wideKeys, modest, calm, conditions, laid).
  DERIVED. THE GIVEN ROWS OF THIS SEAT. 8 by the template 'for every input the law returns true; each argument reads behind the call as it read before'; 0 by the template 'total and deterministic' (their statements: YtnielkimpieofaaTotals.lean).
  GIVEN WITH THE SEED: the statements are not yours to turn. If you find one false, say at which input.
  Laid BY PROGRAM, IN A SANDBOX (cutbox-rows.mjs): the forced cells as the released guide's own fill.sh prints them over the translation 5c1a76d28671154e… (all of the seat's roots in one cut). By AI agents, Wed Nov 11 2026. No macro, syntax, notation, axiom, sorry.
-/
import Derived.Test.YtnielkimpieofaaChecked
import GoSem.Claim
import GoSem.ClaimJoined
import GoSem.ClaimMapViews
import Derived.JoinedTies
import Derived.KernelRfl
namespace Go.Proofs.Ytnielkimpieofaa
/- THE CELL 'sum', in the pinned program and in every row, IS THE sha256 OF THE DUMP (.gsa) THAT YtnielkimpieofaaProg.lean LOADS. Nothing in Lean hashes anything: it is a label: what it is worth is what the hold of that sum in a sandbox is worth. -/
noncomputable def Try.pinned : Pinned := { name := "ytnielkimpieofaa", sum := "5c1a76d28671154e148e969c5d87b6604580b6704a70753a384559b0100eb341", checked := Try.checked }
namespace Rows
def none {H : Type} : Left H := { results := [], args := [] }

/-- 'horologelaw12.ScaleLabels': WHATEVER THE INPUT: true; the input reads as it did. -/
def scaleLabelsSpec : ChangeSpec := { name := "scaleLabels", fn := fun _ => fun
  | [d1, d2] => { results := [.lit (.bool true)], args := [d1, d2] }
  | _ => none }
def scaleLabelsRow : OpenClaim := { program := "ytnielkimpieofaa", sum := "5c1a76d28671154e148e969c5d87b6604580b6704a70753a384559b0100eb341", func := "horologe/horologelaw12.ScaleLabels", spec := "scaleLabels", unfollowed := true, recurses := true, apart := false }
def ScaleLabelsSaid : Prop := scaleLabelsRow.holds Try.pinned (OpenSpec.ofChange scaleLabelsSpec)

/-- ITS FALSE NEIGHBOUR: 'it returns false'. Refute it at one input. -/
def scaleLabelsWrong : ChangeSpec := { name := "scaleLabels", fn := fun _ => fun
  | [d1, d2] => { results := [.lit (.bool false)], args := [d1, d2] }
  | _ => none }
def ScaleLabelsWrongFalsely : Prop := scaleLabelsRow.holds Try.pinned (OpenSpec.ofChange scaleLabelsWrong)

/-- 'horologelaw12.ScaleMachines': WHATEVER THE INPUT: true; the input reads as it did. -/
def scaleMachinesSpec : ChangeSpec := { name := "scaleMachines", fn := fun _ => fun
  | [d1, d2, d3] => { results := [.lit (.bool true)], args := [d1, d2, d3] }
  | _ => none }
def scaleMachinesRow : OpenClaim := { program := "ytnielkimpieofaa", sum := "5c1a76d28671154e148e969c5d87b6604580b6704a70753a384559b0100eb341", func := "horologe/horologelaw12.ScaleMachines", spec := "scaleMachines", unfollowed := true, recurses := true, apart := false }
def ScaleMachinesSaid : Prop := scaleMachinesRow.holds Try.pinned (OpenSpec.ofChange scaleMachinesSpec)

/-- ITS FALSE NEIGHBOUR: 'it returns false'. Refute it at one input. -/
def scaleMachinesWrong : ChangeSpec := { name := "scaleMachines", fn := fun _ => fun
  | [d1, d2, d3] => { results := [.lit (.bool false)], args := [d1, d2, d3] }
  | _ => none }
def ScaleMachinesWrongFalsely : Prop := scaleMachinesRow.holds Try.pinned (OpenSpec.ofChange scaleMachinesWrong)

/-- 'horologelaw12.ScaleSeconds': WHATEVER THE INPUT: true; the input reads as it did. -/
def scaleSecondsSpec : ChangeSpec := { name := "scaleSeconds", fn := fun _ => fun
  | [d1, d2, d3] => { results := [.lit (.bool true)], args := [d1, d2, d3] }
  | _ => none }
def scaleSecondsRow : OpenClaim := { program := "ytnielkimpieofaa", sum := "5c1a76d28671154e148e969c5d87b6604580b6704a70753a384559b0100eb341", func := "horologe/horologelaw12.ScaleSeconds", spec := "scaleSeconds", unfollowed := true, recurses := true, apart := false }
def ScaleSecondsSaid : Prop := scaleSecondsRow.holds Try.pinned (OpenSpec.ofChange scaleSecondsSpec)

/-- ITS FALSE NEIGHBOUR: 'it returns false'. Refute it at one input. -/
def scaleSecondsWrong : ChangeSpec := { name := "scaleSeconds", fn := fun _ => fun
  | [d1, d2, d3] => { results := [.lit (.bool false)], args := [d1, d2, d3] }
  | _ => none }
def ScaleSecondsWrongFalsely : Prop := scaleSecondsRow.holds Try.pinned (OpenSpec.ofChange scaleSecondsWrong)

/-- 'horologelaw12.ScaleBack': WHATEVER THE INPUT: true; the input reads as it did. -/
def scaleBackSpec : ChangeSpec := { name := "scaleBack", fn := fun _ => fun
  | [d1, d2, d3] => { results := [.lit (.bool true)], args := [d1, d2, d3] }
  | _ => none }
def scaleBackRow : OpenClaim := { program := "ytnielkimpieofaa", sum := "5c1a76d28671154e148e969c5d87b6604580b6704a70753a384559b0100eb341", func := "horologe/horologelaw12.ScaleBack", spec := "scaleBack", unfollowed := true, recurses := true, apart := false }
def ScaleBackSaid : Prop := scaleBackRow.holds Try.pinned (OpenSpec.ofChange scaleBackSpec)

/-- ITS FALSE NEIGHBOUR: 'it returns false'. Refute it at one input. -/
def scaleBackWrong : ChangeSpec := { name := "scaleBack", fn := fun _ => fun
  | [d1, d2, d3] => { results := [.lit (.bool false)], args := [d1, d2, d3] }
  | _ => none }
def ScaleBackWrongFalsely : Prop := scaleBackRow.holds Try.pinned (OpenSpec.ofChange scaleBackWrong)

/-- 'horologelaw12.ScaleSteps': WHATEVER THE INPUT: true; the input reads as it did. -/
def scaleStepsSpec : ChangeSpec := { name := "scaleSteps", fn := fun _ => fun
  | [d1, d2] => { results := [.lit (.bool true)], args := [d1, d2] }
  | _ => none }
def scaleStepsRow : OpenClaim := { program := "ytnielkimpieofaa", sum := "5c1a76d28671154e148e969c5d87b6604580b6704a70753a384559b0100eb341", func := "horologe/horologelaw12.ScaleSteps", spec := "scaleSteps", unfollowed := true, recurses := true, apart := false }
def ScaleStepsSaid : Prop := scaleStepsRow.holds Try.pinned (OpenSpec.ofChange scaleStepsSpec)

/-- ITS FALSE NEIGHBOUR: 'it returns false'. Refute it at one input. -/
def scaleStepsWrong : ChangeSpec := { name := "scaleSteps", fn := fun _ => fun
  | [d1, d2] => { results := [.lit (.bool false)], args := [d1, d2] }
  | _ => none }
def ScaleStepsWrongFalsely : Prop := scaleStepsRow.holds Try.pinned (OpenSpec.ofChange scaleStepsWrong)

/-- 'horologelaw27.WordPuts': WHATEVER THE INPUT: true; the input reads as it did. -/
def wordPutsSpec : ChangeSpec := { name := "wordPuts", fn := fun _ => fun
  | [d1, d2] => { results := [.lit (.bool true)], args := [d1, d2] }
  | _ => none }
def wordPutsRow : OpenClaim := { program := "ytnielkimpieofaa", sum := "5c1a76d28671154e148e969c5d87b6604580b6704a70753a384559b0100eb341", func := "horologe/horologelaw27.WordPuts", spec := "wordPuts", apart := false }
def WordPutsSaid : Prop := wordPutsRow.holds Try.pinned (OpenSpec.ofChange wordPutsSpec)

/-- ITS FALSE NEIGHBOUR: 'it returns false'. Refute it at one input. -/
def wordPutsWrong : ChangeSpec := { name := "wordPuts", fn := fun _ => fun
  | [d1, d2] => { results := [.lit (.bool false)], args := [d1, d2] }
  | _ => none }
def WordPutsWrongFalsely : Prop := wordPutsRow.holds Try.pinned (OpenSpec.ofChange wordPutsWrong)

/-- 'horologelaw27.WordNears': WHATEVER THE INPUT: true; the input reads as it did. -/
def wordNearsSpec : ChangeSpec := { name := "wordNears", fn := fun _ => fun
  | [d1, d2] => { results := [.lit (.bool true)], args := [d1, d2] }
  | _ => none }
def wordNearsRow : OpenClaim := { program := "ytnielkimpieofaa", sum := "5c1a76d28671154e148e969c5d87b6604580b6704a70753a384559b0100eb341", func := "horologe/horologelaw27.WordNears", spec := "wordNears", apart := false }
def WordNearsSaid : Prop := wordNearsRow.holds Try.pinned (OpenSpec.ofChange wordNearsSpec)

/-- ITS FALSE NEIGHBOUR: 'it returns false'. Refute it at one input. -/
def wordNearsWrong : ChangeSpec := { name := "wordNears", fn := fun _ => fun
  | [d1, d2] => { results := [.lit (.bool false)], args := [d1, d2] }
  | _ => none }
def WordNearsWrongFalsely : Prop := wordNearsRow.holds Try.pinned (OpenSpec.ofChange wordNearsWrong)

/-- 'horologelaw37.AnswerAsks': WHATEVER THE INPUT: true; the input reads as it did. -/
def answerAsksSpec : ChangeSpec := { name := "answerAsks", fn := fun _ => fun
  | [d1, d2, d3] => { results := [.lit (.bool true)], args := [d1, d2, d3] }
  | _ => none }
def answerAsksRow : OpenClaim := { program := "ytnielkimpieofaa", sum := "5c1a76d28671154e148e969c5d87b6604580b6704a70753a384559b0100eb341", func := "horologe/horologelaw37.AnswerAsks", spec := "answerAsks", unfollowed := true, recurses := true, apart := false }
def AnswerAsksSaid : Prop := answerAsksRow.holds Try.pinned (OpenSpec.ofChange answerAsksSpec)

/-- ITS FALSE NEIGHBOUR: 'it returns false'. Refute it at one input. -/
def answerAsksWrong : ChangeSpec := { name := "answerAsks", fn := fun _ => fun
  | [d1, d2, d3] => { results := [.lit (.bool false)], args := [d1, d2, d3] }
  | _ => none }
def AnswerAsksWrongFalsely : Prop := answerAsksRow.holds Try.pinned (OpenSpec.ofChange answerAsksWrong)

/- THE SECOND FORM. 'bulk': how many values and letters a reading holds, each counted each time it is reached (what is shared counts as often as it is met; a slice's spare places count too). A statement '..UptoSaid' is the law's where the arguments, and the package variables that the reading takes, are together of bulk at most 1048576: NARROWER than '..Said'. Prove '..Said' where nothing that the law and all that it calls make is longer than what came in: it says more and counts as full. Else prove '..UptoSaid'. A law counts once. -/
mutual
def uptoBulk {H : Type} : DataW H → Nat
  | .lit (.string bytes) => bytes.length + 1
  | .lit _ => 1
  | .nil => 1
  | .ptr d => uptoBulk d + 1
  | .slice elems spare => uptoBulkAll elems + uptoBulkAll spare + 1
  | .agg parts => uptoBulkAll parts + 1
  | .iface _ d => uptoBulk d + 1
  | .map entries => uptoBulkEntries entries + 1
  | .held _ => 1
def uptoBulkAll {H : Type} : List (DataW H) → Nat
  | [] => 0
  | d :: r => uptoBulk d + uptoBulkAll r
def uptoBulkEntries {H : Type} : List (Lit × DataW H) → Nat
  | [] => 0
  | x :: r => uptoBulkEntry x + uptoBulkEntries r
def uptoBulkEntry {H : Type} : Lit × DataW H → Nat
  | (.string bytes, d) => bytes.length + uptoBulk d + 1
  | (_, d) => uptoBulk d + 1
 end
def uptoSmall : (H : Type) → List (DataW H) → Bool := fun _ ds => decide (uptoBulkAll ds ≤ 1048576)
def OpenSpec.upto (s : _root_.Go.ChangeSpec) : _root_.Go.OpenSpec := { _root_.Go.OpenSpec.ofChange s with cond := some uptoSmall }

/-- 'horologelaw12.ScaleLabels', WHERE WHAT IT READS IS OF BULK AT MOST 1048576: true; the input reads as it did. -/
def scaleLabelsUptoRow : OpenClaim := { program := "ytnielkimpieofaa", sum := "5c1a76d28671154e148e969c5d87b6604580b6704a70753a384559b0100eb341", func := "horologe/horologelaw12.ScaleLabels", spec := "scaleLabels", unfollowed := true, recurses := true, apart := false, narrowed := true }
def ScaleLabelsUptoSaid : Prop := scaleLabelsUptoRow.holds Try.pinned (OpenSpec.upto scaleLabelsSpec)

/-- 'horologelaw12.ScaleMachines', WHERE WHAT IT READS IS OF BULK AT MOST 1048576: true; the input reads as it did. -/
def scaleMachinesUptoRow : OpenClaim := { program := "ytnielkimpieofaa", sum := "5c1a76d28671154e148e969c5d87b6604580b6704a70753a384559b0100eb341", func := "horologe/horologelaw12.ScaleMachines", spec := "scaleMachines", unfollowed := true, recurses := true, apart := false, narrowed := true }
def ScaleMachinesUptoSaid : Prop := scaleMachinesUptoRow.holds Try.pinned (OpenSpec.upto scaleMachinesSpec)

/-- 'horologelaw12.ScaleSeconds', WHERE WHAT IT READS IS OF BULK AT MOST 1048576: true; the input reads as it did. -/
def scaleSecondsUptoRow : OpenClaim := { program := "ytnielkimpieofaa", sum := "5c1a76d28671154e148e969c5d87b6604580b6704a70753a384559b0100eb341", func := "horologe/horologelaw12.ScaleSeconds", spec := "scaleSeconds", unfollowed := true, recurses := true, apart := false, narrowed := true }
def ScaleSecondsUptoSaid : Prop := scaleSecondsUptoRow.holds Try.pinned (OpenSpec.upto scaleSecondsSpec)

/-- 'horologelaw12.ScaleBack', WHERE WHAT IT READS IS OF BULK AT MOST 1048576: true; the input reads as it did. -/
def scaleBackUptoRow : OpenClaim := { program := "ytnielkimpieofaa", sum := "5c1a76d28671154e148e969c5d87b6604580b6704a70753a384559b0100eb341", func := "horologe/horologelaw12.ScaleBack", spec := "scaleBack", unfollowed := true, recurses := true, apart := false, narrowed := true }
def ScaleBackUptoSaid : Prop := scaleBackUptoRow.holds Try.pinned (OpenSpec.upto scaleBackSpec)

/-- 'horologelaw12.ScaleSteps', WHERE WHAT IT READS IS OF BULK AT MOST 1048576: true; the input reads as it did. -/
def scaleStepsUptoRow : OpenClaim := { program := "ytnielkimpieofaa", sum := "5c1a76d28671154e148e969c5d87b6604580b6704a70753a384559b0100eb341", func := "horologe/horologelaw12.ScaleSteps", spec := "scaleSteps", unfollowed := true, recurses := true, apart := false, narrowed := true }
def ScaleStepsUptoSaid : Prop := scaleStepsUptoRow.holds Try.pinned (OpenSpec.upto scaleStepsSpec)

/-- 'horologelaw27.WordPuts', WHERE WHAT IT READS IS OF BULK AT MOST 1048576: true; the input reads as it did. -/
def wordPutsUptoRow : OpenClaim := { program := "ytnielkimpieofaa", sum := "5c1a76d28671154e148e969c5d87b6604580b6704a70753a384559b0100eb341", func := "horologe/horologelaw27.WordPuts", spec := "wordPuts", apart := false, narrowed := true }
def WordPutsUptoSaid : Prop := wordPutsUptoRow.holds Try.pinned (OpenSpec.upto wordPutsSpec)

/-- 'horologelaw27.WordNears', WHERE WHAT IT READS IS OF BULK AT MOST 1048576: true; the input reads as it did. -/
def wordNearsUptoRow : OpenClaim := { program := "ytnielkimpieofaa", sum := "5c1a76d28671154e148e969c5d87b6604580b6704a70753a384559b0100eb341", func := "horologe/horologelaw27.WordNears", spec := "wordNears", apart := false, narrowed := true }
def WordNearsUptoSaid : Prop := wordNearsUptoRow.holds Try.pinned (OpenSpec.upto wordNearsSpec)

/-- 'horologelaw37.AnswerAsks', WHERE WHAT IT READS IS OF BULK AT MOST 1048576: true; the input reads as it did. -/
def answerAsksUptoRow : OpenClaim := { program := "ytnielkimpieofaa", sum := "5c1a76d28671154e148e969c5d87b6604580b6704a70753a384559b0100eb341", func := "horologe/horologelaw37.AnswerAsks", spec := "answerAsks", unfollowed := true, recurses := true, apart := false, narrowed := true }
def AnswerAsksUptoSaid : Prop := answerAsksUptoRow.holds Try.pinned (OpenSpec.upto answerAsksSpec)

end Rows
end Go.Proofs.Ytnielkimpieofaa
