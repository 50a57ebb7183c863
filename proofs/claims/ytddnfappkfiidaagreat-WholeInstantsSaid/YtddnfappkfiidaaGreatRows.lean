/-
  No cell of these rows narrows 'for every input' (looked for: loops, veiled, ifaces, maps, wideKeys, modest, calm, conditions, laid).
  DERIVED. THE GIVEN ROWS OF THIS SEAT. 3 by the template 'for every input the law returns true; each argument reads behind the call as it read before'; 0 by the template 'total and deterministic' (their statements: YtddnfappkfiidaaGreatTotals.lean).
  GIVEN WITH THE SEED: the statements are not yours to turn. If you find one false, say at which input.
  Laid BY PROGRAM, IN A SANDBOX (cutbox-rows.mjs): the forced cells as the released guide's own fill.sh prints them over the translation e0cd263e1c57ddd8… (all of the seat's roots in one cut). By AI agents, Wed Nov 11 2026. No macro, syntax, notation, axiom, sorry.
-/
import Derived.Test.YtddnfappkfiidaaGreatChecked
import GoSem.Claim
import GoSem.ClaimJoined
import GoSem.ClaimMapViews
import Derived.JoinedTies
import Derived.KernelRfl
namespace Go.Proofs.YtddnfappkfiidaaGreat
/- THE CELL 'sum', in the pinned program and in every row, IS THE sha256 OF THE DUMP (.gsa) THAT YtddnfappkfiidaaGreatProg.lean LOADS. Nothing in Lean hashes anything: it is a label: what it is worth is what the hold of that sum in a sandbox is worth. -/
noncomputable def Tryz.pinned : Pinned := { name := "ytddnfappkfiidaagreat", sum := "e0cd263e1c57ddd8bd14e35b49d3a694d5d2edaf28fea5ac204634ceac4ac498", checked := Tryz.checked }
namespace Rows
def none {H : Type} : Left H := { results := [], args := [] }

/-- 'horologelaw25.MailParses': WHATEVER THE INPUT: true; the input reads as it did. -/
def mailParsesSpec : ChangeSpec := { name := "mailParses", fn := fun _ => fun
  | [d1, d2] => { results := [.lit (.bool true)], args := [d1, d2] }
  | _ => none }
def mailParsesRow : OpenClaim := { program := "ytddnfappkfiidaagreat", sum := "e0cd263e1c57ddd8bd14e35b49d3a694d5d2edaf28fea5ac204634ceac4ac498", func := "horologe/horologelaw25.MailParses", spec := "mailParses", inPlace := ["internal/bytealg.IndexByteString"], unfollowed := true, recurses := true, apart := false }
def MailParsesSaid : Prop := mailParsesRow.holds Tryz.pinned (OpenSpec.ofChange mailParsesSpec)

/-- ITS FALSE NEIGHBOUR: 'it returns false'. Refute it at one input. -/
def mailParsesWrong : ChangeSpec := { name := "mailParses", fn := fun _ => fun
  | [d1, d2] => { results := [.lit (.bool false)], args := [d1, d2] }
  | _ => none }
def MailParsesWrongFalsely : Prop := mailParsesRow.holds Tryz.pinned (OpenSpec.ofChange mailParsesWrong)

/-- 'horologetop.WholeLabels': WHATEVER THE INPUT: true; the input reads as it did. -/
def wholeLabelsSpec : ChangeSpec := { name := "wholeLabels", fn := fun _ => fun
  | [d1, d2] => { results := [.lit (.bool true)], args := [d1, d2] }
  | _ => none }
def wholeLabelsRow : OpenClaim := { program := "ytddnfappkfiidaagreat", sum := "e0cd263e1c57ddd8bd14e35b49d3a694d5d2edaf28fea5ac204634ceac4ac498", func := "horologe/horologetop.WholeLabels", spec := "wholeLabels", inPlace := ["internal/bytealg.IndexByteString", "internal/abi.NoEscape", "internal/bytealg.MakeNoZero"], unfollowed := true, recurses := true, apart := false }
def WholeLabelsSaid : Prop := wholeLabelsRow.holds Tryz.pinned (OpenSpec.ofChange wholeLabelsSpec)

/-- ITS FALSE NEIGHBOUR: 'it returns false'. Refute it at one input. -/
def wholeLabelsWrong : ChangeSpec := { name := "wholeLabels", fn := fun _ => fun
  | [d1, d2] => { results := [.lit (.bool false)], args := [d1, d2] }
  | _ => none }
def WholeLabelsWrongFalsely : Prop := wholeLabelsRow.holds Tryz.pinned (OpenSpec.ofChange wholeLabelsWrong)

/-- 'horologetop.WholeInstants': WHATEVER THE INPUT: true; the input reads as it did. -/
def wholeInstantsSpec : ChangeSpec := { name := "wholeInstants", fn := fun _ => fun
  | [d1, d2, d3] => { results := [.lit (.bool true)], args := [d1, d2, d3] }
  | _ => none }
def wholeInstantsRow : OpenClaim := { program := "ytddnfappkfiidaagreat", sum := "e0cd263e1c57ddd8bd14e35b49d3a694d5d2edaf28fea5ac204634ceac4ac498", func := "horologe/horologetop.WholeInstants", spec := "wholeInstants", inPlace := ["internal/bytealg.IndexByteString", "internal/abi.NoEscape", "internal/bytealg.MakeNoZero"], unfollowed := true, recurses := true, apart := false }
def WholeInstantsSaid : Prop := wholeInstantsRow.holds Tryz.pinned (OpenSpec.ofChange wholeInstantsSpec)

/-- ITS FALSE NEIGHBOUR: 'it returns false'. Refute it at one input. -/
def wholeInstantsWrong : ChangeSpec := { name := "wholeInstants", fn := fun _ => fun
  | [d1, d2, d3] => { results := [.lit (.bool false)], args := [d1, d2, d3] }
  | _ => none }
def WholeInstantsWrongFalsely : Prop := wholeInstantsRow.holds Tryz.pinned (OpenSpec.ofChange wholeInstantsWrong)

/- THE SECOND FORM. 'bulk': how many values and letters a reading holds, each counted each time it is reached (what is shared counts as often as it is met; a slice's spare places count too). A statement '..UptoSaid' is the law's where the arguments, and the package variables that the reading takes, are together of bulk at most 1048576: NARROWER than '..Said'. Prove '..Said' where nothing that the law and all that it calls make is longer than what came in: it says more and counts as full. Else prove '..UptoSaid'. A law counts once. -/
mutual
def uptoBulk {H : Type} : DataW H → Nat
  | .lit (.string bytes) => bytes.length + 1
  | .lit _ => 1
  | .nil => 1
  | .ptr d => uptoBulk d + 1
  | .slice elems spare => uptoBulkAll elems + uptoBulkAll spare + 1
  | .agg parts => uptoBulkAll parts + 1
  | .iface _ d => uptoBulk d + 1
  | .map entries => uptoBulkEntries entries + 1
  | .held _ => 1
def uptoBulkAll {H : Type} : List (DataW H) → Nat
  | [] => 0
  | d :: r => uptoBulk d + uptoBulkAll r
def uptoBulkEntries {H : Type} : List (Lit × DataW H) → Nat
  | [] => 0
  | x :: r => uptoBulkEntry x + uptoBulkEntries r
def uptoBulkEntry {H : Type} : Lit × DataW H → Nat
  | (.string bytes, d) => bytes.length + uptoBulk d + 1
  | (_, d) => uptoBulk d + 1
 end
def uptoSmall : (H : Type) → List (DataW H) → Bool := fun _ ds => decide (uptoBulkAll ds ≤ 1048576)
def OpenSpec.upto (s : _root_.Go.ChangeSpec) : _root_.Go.OpenSpec := { _root_.Go.OpenSpec.ofChange s with cond := some uptoSmall }

/-- 'horologelaw25.MailParses', WHERE WHAT IT READS IS OF BULK AT MOST 1048576: true; the input reads as it did. -/
def mailParsesUptoRow : OpenClaim := { program := "ytddnfappkfiidaagreat", sum := "e0cd263e1c57ddd8bd14e35b49d3a694d5d2edaf28fea5ac204634ceac4ac498", func := "horologe/horologelaw25.MailParses", spec := "mailParses", inPlace := ["internal/bytealg.IndexByteString"], unfollowed := true, recurses := true, apart := false, narrowed := true }
def MailParsesUptoSaid : Prop := mailParsesUptoRow.holds Tryz.pinned (OpenSpec.upto mailParsesSpec)

/-- 'horologetop.WholeLabels', WHERE WHAT IT READS IS OF BULK AT MOST 1048576: true; the input reads as it did. -/
def wholeLabelsUptoRow : OpenClaim := { program := "ytddnfappkfiidaagreat", sum := "e0cd263e1c57ddd8bd14e35b49d3a694d5d2edaf28fea5ac204634ceac4ac498", func := "horologe/horologetop.WholeLabels", spec := "wholeLabels", inPlace := ["internal/bytealg.IndexByteString", "internal/abi.NoEscape", "internal/bytealg.MakeNoZero"], unfollowed := true, recurses := true, apart := false, narrowed := true }
def WholeLabelsUptoSaid : Prop := wholeLabelsUptoRow.holds Tryz.pinned (OpenSpec.upto wholeLabelsSpec)

/-- 'horologetop.WholeInstants', WHERE WHAT IT READS IS OF BULK AT MOST 1048576: true; the input reads as it did. -/
def wholeInstantsUptoRow : OpenClaim := { program := "ytddnfappkfiidaagreat", sum := "e0cd263e1c57ddd8bd14e35b49d3a694d5d2edaf28fea5ac204634ceac4ac498", func := "horologe/horologetop.WholeInstants", spec := "wholeInstants", inPlace := ["internal/bytealg.IndexByteString", "internal/abi.NoEscape", "internal/bytealg.MakeNoZero"], unfollowed := true, recurses := true, apart := false, narrowed := true }
def WholeInstantsUptoSaid : Prop := wholeInstantsUptoRow.holds Tryz.pinned (OpenSpec.upto wholeInstantsSpec)

end Rows
end Go.Proofs.YtddnfappkfiidaaGreat
