/-
  No cell of these rows narrows 'for every input' (looked for: loops, veiled, ifaces, maps, wideKeys, modest, calm, conditions, laid).
  DERIVED. THE GIVEN ROWS OF THIS SEAT. 9 by the template 'for every input the law returns true; each argument reads behind the call as it read before'; 0 by the template 'total and deterministic' (their statements: YtjeghckeceegjaaTotals.lean).
  GIVEN WITH THE SEED: the statements are not yours to turn. If you find one false, say at which input.
  Laid BY PROGRAM, IN A SANDBOX (cutbox-rows.mjs): the forced cells as the released guide's own fill.sh prints them over the translation 7509d0c6eaf782e3… (all of the seat's roots in one cut). By AI agents, Wed Nov 11 2026. No macro, syntax, notation, axiom, sorry.
-/
import Derived.Test.YtjeghckeceegjaaChecked
import GoSem.Claim
import GoSem.ClaimJoined
import GoSem.ClaimMapViews
import Derived.JoinedTies
import Derived.KernelRfl
namespace Go.Proofs.Ytjeghckeceegjaa
/- THE CELL 'sum', in the pinned program and in every row, IS THE sha256 OF THE DUMP (.gsa) THAT YtjeghckeceegjaaProg.lean LOADS. Nothing in Lean hashes anything: it is a label: what it is worth is what the hold of that sum in a sandbox is worth. -/
noncomputable def Try.pinned : Pinned := { name := "ytjeghckeceegjaa", sum := "7509d0c6eaf782e39f0022037da601bf044b7a1b5387811699360c955f7e9d60", checked := Try.checked }
namespace Rows
def none {H : Type} : Left H := { results := [], args := [] }

/-- 'horologelaw08.LabelChecks': WHATEVER THE INPUT: true; the input reads as it did. -/
def labelChecksSpec : ChangeSpec := { name := "labelChecks", fn := fun _ => fun
  | [d] => { results := [.lit (.bool true)], args := [d] }
  | _ => none }
def labelChecksRow : OpenClaim := { program := "ytjeghckeceegjaa", sum := "7509d0c6eaf782e39f0022037da601bf044b7a1b5387811699360c955f7e9d60", func := "horologe/horologelaw08.LabelChecks", spec := "labelChecks", apart := false }
def LabelChecksSaid : Prop := labelChecksRow.holds Try.pinned (OpenSpec.ofChange labelChecksSpec)

/-- ITS FALSE NEIGHBOUR: 'it returns false'. Refute it at one input. -/
def labelChecksWrong : ChangeSpec := { name := "labelChecks", fn := fun _ => fun
  | [d] => { results := [.lit (.bool false)], args := [d] }
  | _ => none }
def LabelChecksWrongFalsely : Prop := labelChecksRow.holds Try.pinned (OpenSpec.ofChange labelChecksWrong)

/-- 'horologelaw08.LabelOrders': WHATEVER THE INPUT: true; the input reads as it did. -/
def labelOrdersSpec : ChangeSpec := { name := "labelOrders", fn := fun _ => fun
  | [d1, d2, d3] => { results := [.lit (.bool true)], args := [d1, d2, d3] }
  | _ => none }
def labelOrdersRow : OpenClaim := { program := "ytjeghckeceegjaa", sum := "7509d0c6eaf782e39f0022037da601bf044b7a1b5387811699360c955f7e9d60", func := "horologe/horologelaw08.LabelOrders", spec := "labelOrders", apart := false }
def LabelOrdersSaid : Prop := labelOrdersRow.holds Try.pinned (OpenSpec.ofChange labelOrdersSpec)

/-- ITS FALSE NEIGHBOUR: 'it returns false'. Refute it at one input. -/
def labelOrdersWrong : ChangeSpec := { name := "labelOrders", fn := fun _ => fun
  | [d1, d2, d3] => { results := [.lit (.bool false)], args := [d1, d2, d3] }
  | _ => none }
def LabelOrdersWrongFalsely : Prop := labelOrdersRow.holds Try.pinned (OpenSpec.ofChange labelOrdersWrong)

/-- 'horologelaw08.LabelMakes': WHATEVER THE INPUT: true; the input reads as it did. -/
def labelMakesSpec : ChangeSpec := { name := "labelMakes", fn := fun _ => fun
  | [d1, d2, d3] => { results := [.lit (.bool true)], args := [d1, d2, d3] }
  | _ => none }
def labelMakesRow : OpenClaim := { program := "ytjeghckeceegjaa", sum := "7509d0c6eaf782e39f0022037da601bf044b7a1b5387811699360c955f7e9d60", func := "horologe/horologelaw08.LabelMakes", spec := "labelMakes", apart := false }
def LabelMakesSaid : Prop := labelMakesRow.holds Try.pinned (OpenSpec.ofChange labelMakesSpec)

/-- ITS FALSE NEIGHBOUR: 'it returns false'. Refute it at one input. -/
def labelMakesWrong : ChangeSpec := { name := "labelMakes", fn := fun _ => fun
  | [d1, d2, d3] => { results := [.lit (.bool false)], args := [d1, d2, d3] }
  | _ => none }
def LabelMakesWrongFalsely : Prop := labelMakesRow.holds Try.pinned (OpenSpec.ofChange labelMakesWrong)

/-- 'horologelaw08.LabelShifts': WHATEVER THE INPUT: true; the input reads as it did. -/
def labelShiftsSpec : ChangeSpec := { name := "labelShifts", fn := fun _ => fun
  | [d1, d2] => { results := [.lit (.bool true)], args := [d1, d2] }
  | _ => none }
def labelShiftsRow : OpenClaim := { program := "ytjeghckeceegjaa", sum := "7509d0c6eaf782e39f0022037da601bf044b7a1b5387811699360c955f7e9d60", func := "horologe/horologelaw08.LabelShifts", spec := "labelShifts", apart := false }
def LabelShiftsSaid : Prop := labelShiftsRow.holds Try.pinned (OpenSpec.ofChange labelShiftsSpec)

/-- ITS FALSE NEIGHBOUR: 'it returns false'. Refute it at one input. -/
def labelShiftsWrong : ChangeSpec := { name := "labelShifts", fn := fun _ => fun
  | [d1, d2] => { results := [.lit (.bool false)], args := [d1, d2] }
  | _ => none }
def LabelShiftsWrongFalsely : Prop := labelShiftsRow.holds Try.pinned (OpenSpec.ofChange labelShiftsWrong)

/-- 'horologelaw08.LabelBack': WHATEVER THE INPUT: true; the input reads as it did. -/
def labelBackSpec : ChangeSpec := { name := "labelBack", fn := fun _ => fun
  | [d1, d2] => { results := [.lit (.bool true)], args := [d1, d2] }
  | _ => none }
def labelBackRow : OpenClaim := { program := "ytjeghckeceegjaa", sum := "7509d0c6eaf782e39f0022037da601bf044b7a1b5387811699360c955f7e9d60", func := "horologe/horologelaw08.LabelBack", spec := "labelBack", apart := false }
def LabelBackSaid : Prop := labelBackRow.holds Try.pinned (OpenSpec.ofChange labelBackSpec)

/-- ITS FALSE NEIGHBOUR: 'it returns false'. Refute it at one input. -/
def labelBackWrong : ChangeSpec := { name := "labelBack", fn := fun _ => fun
  | [d1, d2] => { results := [.lit (.bool false)], args := [d1, d2] }
  | _ => none }
def LabelBackWrongFalsely : Prop := labelBackRow.holds Try.pinned (OpenSpec.ofChange labelBackWrong)

/-- 'horologelaw10.LeapSteps': WHATEVER THE INPUT: true; the input reads as it did. -/
def leapStepsSpec : ChangeSpec := { name := "leapSteps", fn := fun _ => fun
  | [d1, d2] => { results := [.lit (.bool true)], args := [d1, d2] }
  | _ => none }
def leapStepsRow : OpenClaim := { program := "ytjeghckeceegjaa", sum := "7509d0c6eaf782e39f0022037da601bf044b7a1b5387811699360c955f7e9d60", func := "horologe/horologelaw10.LeapSteps", spec := "leapSteps", unfollowed := true, recurses := true, apart := false }
def LeapStepsSaid : Prop := leapStepsRow.holds Try.pinned (OpenSpec.ofChange leapStepsSpec)

/-- ITS FALSE NEIGHBOUR: 'it returns false'. Refute it at one input. -/
def leapStepsWrong : ChangeSpec := { name := "leapSteps", fn := fun _ => fun
  | [d1, d2] => { results := [.lit (.bool false)], args := [d1, d2] }
  | _ => none }
def LeapStepsWrongFalsely : Prop := leapStepsRow.holds Try.pinned (OpenSpec.ofChange leapStepsWrong)

/-- 'horologelaw10.LeapTables': WHATEVER THE INPUT: true; the input reads as it did. -/
def leapTablesSpec : ChangeSpec := { name := "leapTables", fn := fun _ => fun
  | [d1, d2] => { results := [.lit (.bool true)], args := [d1, d2] }
  | _ => none }
def leapTablesRow : OpenClaim := { program := "ytjeghckeceegjaa", sum := "7509d0c6eaf782e39f0022037da601bf044b7a1b5387811699360c955f7e9d60", func := "horologe/horologelaw10.LeapTables", spec := "leapTables", unfollowed := true, recurses := true, apart := false }
def LeapTablesSaid : Prop := leapTablesRow.holds Try.pinned (OpenSpec.ofChange leapTablesSpec)

/-- ITS FALSE NEIGHBOUR: 'it returns false'. Refute it at one input. -/
def leapTablesWrong : ChangeSpec := { name := "leapTables", fn := fun _ => fun
  | [d1, d2] => { results := [.lit (.bool false)], args := [d1, d2] }
  | _ => none }
def LeapTablesWrongFalsely : Prop := leapTablesRow.holds Try.pinned (OpenSpec.ofChange leapTablesWrong)

/-- 'horologelaw10.LeapDays': WHATEVER THE INPUT: true; the input reads as it did. -/
def leapDaysSpec : ChangeSpec := { name := "leapDays", fn := fun _ => fun
  | [d1, d2, d3] => { results := [.lit (.bool true)], args := [d1, d2, d3] }
  | _ => none }
def leapDaysRow : OpenClaim := { program := "ytjeghckeceegjaa", sum := "7509d0c6eaf782e39f0022037da601bf044b7a1b5387811699360c955f7e9d60", func := "horologe/horologelaw10.LeapDays", spec := "leapDays", unfollowed := true, recurses := true, apart := false }
def LeapDaysSaid : Prop := leapDaysRow.holds Try.pinned (OpenSpec.ofChange leapDaysSpec)

/-- ITS FALSE NEIGHBOUR: 'it returns false'. Refute it at one input. -/
def leapDaysWrong : ChangeSpec := { name := "leapDays", fn := fun _ => fun
  | [d1, d2, d3] => { results := [.lit (.bool false)], args := [d1, d2, d3] }
  | _ => none }
def LeapDaysWrongFalsely : Prop := leapDaysRow.holds Try.pinned (OpenSpec.ofChange leapDaysWrong)

/-- 'horologelaw10.LeapSame': WHATEVER THE INPUT: true; the input reads as it did. -/
def leapSameSpec : ChangeSpec := { name := "leapSame", fn := fun _ => fun
  | [d1, d2, d3] => { results := [.lit (.bool true)], args := [d1, d2, d3] }
  | _ => none }
def leapSameRow : OpenClaim := { program := "ytjeghckeceegjaa", sum := "7509d0c6eaf782e39f0022037da601bf044b7a1b5387811699360c955f7e9d60", func := "horologe/horologelaw10.LeapSame", spec := "leapSame", unfollowed := true, recurses := true, apart := false }
def LeapSameSaid : Prop := leapSameRow.holds Try.pinned (OpenSpec.ofChange leapSameSpec)

/-- ITS FALSE NEIGHBOUR: 'it returns false'. Refute it at one input. -/
def leapSameWrong : ChangeSpec := { name := "leapSame", fn := fun _ => fun
  | [d1, d2, d3] => { results := [.lit (.bool false)], args := [d1, d2, d3] }
  | _ => none }
def LeapSameWrongFalsely : Prop := leapSameRow.holds Try.pinned (OpenSpec.ofChange leapSameWrong)

/- THE SECOND FORM. 'bulk': how many values and letters a reading holds, each counted each time it is reached (what is shared counts as often as it is met; a slice's spare places count too). A statement '..UptoSaid' is the law's where the arguments, and the package variables that the reading takes, are together of bulk at most 1048576: NARROWER than '..Said'. Prove '..Said' where nothing that the law and all that it calls make is longer than what came in: it says more and counts as full. Else prove '..UptoSaid'. A law counts once. -/
mutual
def uptoBulk {H : Type} : DataW H → Nat
  | .lit (.string bytes) => bytes.length + 1
  | .lit _ => 1
  | .nil => 1
  | .ptr d => uptoBulk d + 1
  | .slice elems spare => uptoBulkAll elems + uptoBulkAll spare + 1
  | .agg parts => uptoBulkAll parts + 1
  | .iface _ d => uptoBulk d + 1
  | .map entries => uptoBulkEntries entries + 1
  | .held _ => 1
def uptoBulkAll {H : Type} : List (DataW H) → Nat
  | [] => 0
  | d :: r => uptoBulk d + uptoBulkAll r
def uptoBulkEntries {H : Type} : List (Lit × DataW H) → Nat
  | [] => 0
  | x :: r => uptoBulkEntry x + uptoBulkEntries r
def uptoBulkEntry {H : Type} : Lit × DataW H → Nat
  | (.string bytes, d) => bytes.length + uptoBulk d + 1
  | (_, d) => uptoBulk d + 1
 end
def uptoSmall : (H : Type) → List (DataW H) → Bool := fun _ ds => decide (uptoBulkAll ds ≤ 1048576)
def OpenSpec.upto (s : _root_.Go.ChangeSpec) : _root_.Go.OpenSpec := { _root_.Go.OpenSpec.ofChange s with cond := some uptoSmall }

/-- 'horologelaw08.LabelChecks', WHERE WHAT IT READS IS OF BULK AT MOST 1048576: true; the input reads as it did. -/
def labelChecksUptoRow : OpenClaim := { program := "ytjeghckeceegjaa", sum := "7509d0c6eaf782e39f0022037da601bf044b7a1b5387811699360c955f7e9d60", func := "horologe/horologelaw08.LabelChecks", spec := "labelChecks", apart := false, narrowed := true }
def LabelChecksUptoSaid : Prop := labelChecksUptoRow.holds Try.pinned (OpenSpec.upto labelChecksSpec)

/-- 'horologelaw08.LabelOrders', WHERE WHAT IT READS IS OF BULK AT MOST 1048576: true; the input reads as it did. -/
def labelOrdersUptoRow : OpenClaim := { program := "ytjeghckeceegjaa", sum := "7509d0c6eaf782e39f0022037da601bf044b7a1b5387811699360c955f7e9d60", func := "horologe/horologelaw08.LabelOrders", spec := "labelOrders", apart := false, narrowed := true }
def LabelOrdersUptoSaid : Prop := labelOrdersUptoRow.holds Try.pinned (OpenSpec.upto labelOrdersSpec)

/-- 'horologelaw08.LabelMakes', WHERE WHAT IT READS IS OF BULK AT MOST 1048576: true; the input reads as it did. -/
def labelMakesUptoRow : OpenClaim := { program := "ytjeghckeceegjaa", sum := "7509d0c6eaf782e39f0022037da601bf044b7a1b5387811699360c955f7e9d60", func := "horologe/horologelaw08.LabelMakes", spec := "labelMakes", apart := false, narrowed := true }
def LabelMakesUptoSaid : Prop := labelMakesUptoRow.holds Try.pinned (OpenSpec.upto labelMakesSpec)

/-- 'horologelaw08.LabelShifts', WHERE WHAT IT READS IS OF BULK AT MOST 1048576: true; the input reads as it did. -/
def labelShiftsUptoRow : OpenClaim := { program := "ytjeghckeceegjaa", sum := "7509d0c6eaf782e39f0022037da601bf044b7a1b5387811699360c955f7e9d60", func := "horologe/horologelaw08.LabelShifts", spec := "labelShifts", apart := false, narrowed := true }
def LabelShiftsUptoSaid : Prop := labelShiftsUptoRow.holds Try.pinned (OpenSpec.upto labelShiftsSpec)

/-- 'horologelaw08.LabelBack', WHERE WHAT IT READS IS OF BULK AT MOST 1048576: true; the input reads as it did. -/
def labelBackUptoRow : OpenClaim := { program := "ytjeghckeceegjaa", sum := "7509d0c6eaf782e39f0022037da601bf044b7a1b5387811699360c955f7e9d60", func := "horologe/horologelaw08.LabelBack", spec := "labelBack", apart := false, narrowed := true }
def LabelBackUptoSaid : Prop := labelBackUptoRow.holds Try.pinned (OpenSpec.upto labelBackSpec)

/-- 'horologelaw10.LeapSteps', WHERE WHAT IT READS IS OF BULK AT MOST 1048576: true; the input reads as it did. -/
def leapStepsUptoRow : OpenClaim := { program := "ytjeghckeceegjaa", sum := "7509d0c6eaf782e39f0022037da601bf044b7a1b5387811699360c955f7e9d60", func := "horologe/horologelaw10.LeapSteps", spec := "leapSteps", unfollowed := true, recurses := true, apart := false, narrowed := true }
def LeapStepsUptoSaid : Prop := leapStepsUptoRow.holds Try.pinned (OpenSpec.upto leapStepsSpec)

/-- 'horologelaw10.LeapTables', WHERE WHAT IT READS IS OF BULK AT MOST 1048576: true; the input reads as it did. -/
def leapTablesUptoRow : OpenClaim := { program := "ytjeghckeceegjaa", sum := "7509d0c6eaf782e39f0022037da601bf044b7a1b5387811699360c955f7e9d60", func := "horologe/horologelaw10.LeapTables", spec := "leapTables", unfollowed := true, recurses := true, apart := false, narrowed := true }
def LeapTablesUptoSaid : Prop := leapTablesUptoRow.holds Try.pinned (OpenSpec.upto leapTablesSpec)

/-- 'horologelaw10.LeapDays', WHERE WHAT IT READS IS OF BULK AT MOST 1048576: true; the input reads as it did. -/
def leapDaysUptoRow : OpenClaim := { program := "ytjeghckeceegjaa", sum := "7509d0c6eaf782e39f0022037da601bf044b7a1b5387811699360c955f7e9d60", func := "horologe/horologelaw10.LeapDays", spec := "leapDays", unfollowed := true, recurses := true, apart := false, narrowed := true }
def LeapDaysUptoSaid : Prop := leapDaysUptoRow.holds Try.pinned (OpenSpec.upto leapDaysSpec)

/-- 'horologelaw10.LeapSame', WHERE WHAT IT READS IS OF BULK AT MOST 1048576: true; the input reads as it did. -/
def leapSameUptoRow : OpenClaim := { program := "ytjeghckeceegjaa", sum := "7509d0c6eaf782e39f0022037da601bf044b7a1b5387811699360c955f7e9d60", func := "horologe/horologelaw10.LeapSame", spec := "leapSame", unfollowed := true, recurses := true, apart := false, narrowed := true }
def LeapSameUptoSaid : Prop := leapSameUptoRow.holds Try.pinned (OpenSpec.upto leapSameSpec)

end Rows
end Go.Proofs.Ytjeghckeceegjaa
