/-
  No cell of these rows narrows 'for every input' (looked for: loops, veiled, ifaces, maps, wideKeys, modest, calm, conditions, laid).
  DERIVED. THE GIVEN ROWS OF THIS SEAT. 2 by the template 'for every input the law returns true; each argument reads behind the call as it read before'; 0 by the template 'total and deterministic' (their statements: YtignndakgibpaaaGreatTotals.lean).
  GIVEN WITH THE SEED: the statements are not yours to turn. If you find one false, say at which input.
  Laid BY PROGRAM, IN A SANDBOX (cutbox-rows.mjs): the forced cells as the released guide's own fill.sh prints them over the translation 7bf5ea4307c591df… (all of the seat's roots in one cut). By AI agents, Wed Nov 11 2026. No macro, syntax, notation, axiom, sorry.
-/
import Derived.Test.YtignndakgibpaaaGreatChecked
import GoSem.Claim
import GoSem.ClaimJoined
import GoSem.ClaimMapViews
import Derived.JoinedTies
import Derived.KernelRfl
namespace Go.Proofs.YtignndakgibpaaaGreat
/- THE CELL 'sum', in the pinned program and in every row, IS THE sha256 OF THE DUMP (.gsa) THAT YtignndakgibpaaaGreatProg.lean LOADS. Nothing in Lean hashes anything: it is a label: what it is worth is what the hold of that sum in a sandbox is worth. -/
noncomputable def Tryz.pinned : Pinned := { name := "ytignndakgibpaaagreat", sum := "7bf5ea4307c591df25cf40b54d453ac2c5438459f53057beff69ad6fa04b0100", checked := Tryz.checked }
namespace Rows
def none {H : Type} : Left H := { results := [], args := [] }

/-- 'horologelaw24.IsoDates': WHATEVER THE INPUT: true; the input reads as it did. -/
def isoDatesSpec : ChangeSpec := { name := "isoDates", fn := fun _ => fun
  | [d1, d2] => { results := [.lit (.bool true)], args := [d1, d2] }
  | _ => none }
def isoDatesRow : OpenClaim := { program := "ytignndakgibpaaagreat", sum := "7bf5ea4307c591df25cf40b54d453ac2c5438459f53057beff69ad6fa04b0100", func := "horologe/horologelaw24.IsoDates", spec := "isoDates", inPlace := ["internal/bytealg.IndexByteString", "internal/abi.NoEscape", "internal/bytealg.MakeNoZero"], apart := false }
def IsoDatesSaid : Prop := isoDatesRow.holds Tryz.pinned (OpenSpec.ofChange isoDatesSpec)

/-- ITS FALSE NEIGHBOUR: 'it returns false'. Refute it at one input. -/
def isoDatesWrong : ChangeSpec := { name := "isoDates", fn := fun _ => fun
  | [d1, d2] => { results := [.lit (.bool false)], args := [d1, d2] }
  | _ => none }
def IsoDatesWrongFalsely : Prop := isoDatesRow.holds Tryz.pinned (OpenSpec.ofChange isoDatesWrong)

/-- 'horologelaw24.IsoParses': WHATEVER THE INPUT: true; the input reads as it did. -/
def isoParsesSpec : ChangeSpec := { name := "isoParses", fn := fun _ => fun
  | [d1, d2] => { results := [.lit (.bool true)], args := [d1, d2] }
  | _ => none }
def isoParsesRow : OpenClaim := { program := "ytignndakgibpaaagreat", sum := "7bf5ea4307c591df25cf40b54d453ac2c5438459f53057beff69ad6fa04b0100", func := "horologe/horologelaw24.IsoParses", spec := "isoParses", inPlace := ["internal/bytealg.IndexByteString", "internal/abi.NoEscape", "internal/bytealg.MakeNoZero"], unfollowed := true, recurses := true, apart := false }
def IsoParsesSaid : Prop := isoParsesRow.holds Tryz.pinned (OpenSpec.ofChange isoParsesSpec)

/-- ITS FALSE NEIGHBOUR: 'it returns false'. Refute it at one input. -/
def isoParsesWrong : ChangeSpec := { name := "isoParses", fn := fun _ => fun
  | [d1, d2] => { results := [.lit (.bool false)], args := [d1, d2] }
  | _ => none }
def IsoParsesWrongFalsely : Prop := isoParsesRow.holds Tryz.pinned (OpenSpec.ofChange isoParsesWrong)

/- THE SECOND FORM. 'bulk': how many values and letters a reading holds, each counted each time it is reached (what is shared counts as often as it is met; a slice's spare places count too). A statement '..UptoSaid' is the law's where the arguments, and the package variables that the reading takes, are together of bulk at most 1048576: NARROWER than '..Said'. Prove '..Said' where nothing that the law and all that it calls make is longer than what came in: it says more and counts as full. Else prove '..UptoSaid'. A law counts once. -/
mutual
def uptoBulk {H : Type} : DataW H → Nat
  | .lit (.string bytes) => bytes.length + 1
  | .lit _ => 1
  | .nil => 1
  | .ptr d => uptoBulk d + 1
  | .slice elems spare => uptoBulkAll elems + uptoBulkAll spare + 1
  | .agg parts => uptoBulkAll parts + 1
  | .iface _ d => uptoBulk d + 1
  | .map entries => uptoBulkEntries entries + 1
  | .held _ => 1
def uptoBulkAll {H : Type} : List (DataW H) → Nat
  | [] => 0
  | d :: r => uptoBulk d + uptoBulkAll r
def uptoBulkEntries {H : Type} : List (Lit × DataW H) → Nat
  | [] => 0
  | x :: r => uptoBulkEntry x + uptoBulkEntries r
def uptoBulkEntry {H : Type} : Lit × DataW H → Nat
  | (.string bytes, d) => bytes.length + uptoBulk d + 1
  | (_, d) => uptoBulk d + 1
 end
def uptoSmall : (H : Type) → List (DataW H) → Bool := fun _ ds => decide (uptoBulkAll ds ≤ 1048576)
def OpenSpec.upto (s : _root_.Go.ChangeSpec) : _root_.Go.OpenSpec := { _root_.Go.OpenSpec.ofChange s with cond := some uptoSmall }

/-- 'horologelaw24.IsoDates', WHERE WHAT IT READS IS OF BULK AT MOST 1048576: true; the input reads as it did. -/
def isoDatesUptoRow : OpenClaim := { program := "ytignndakgibpaaagreat", sum := "7bf5ea4307c591df25cf40b54d453ac2c5438459f53057beff69ad6fa04b0100", func := "horologe/horologelaw24.IsoDates", spec := "isoDates", inPlace := ["internal/bytealg.IndexByteString", "internal/abi.NoEscape", "internal/bytealg.MakeNoZero"], apart := false, narrowed := true }
def IsoDatesUptoSaid : Prop := isoDatesUptoRow.holds Tryz.pinned (OpenSpec.upto isoDatesSpec)

/-- 'horologelaw24.IsoParses', WHERE WHAT IT READS IS OF BULK AT MOST 1048576: true; the input reads as it did. -/
def isoParsesUptoRow : OpenClaim := { program := "ytignndakgibpaaagreat", sum := "7bf5ea4307c591df25cf40b54d453ac2c5438459f53057beff69ad6fa04b0100", func := "horologe/horologelaw24.IsoParses", spec := "isoParses", inPlace := ["internal/bytealg.IndexByteString", "internal/abi.NoEscape", "internal/bytealg.MakeNoZero"], unfollowed := true, recurses := true, apart := false, narrowed := true }
def IsoParsesUptoSaid : Prop := isoParsesUptoRow.holds Tryz.pinned (OpenSpec.upto isoParsesSpec)

end Rows
end Go.Proofs.YtignndakgibpaaaGreat
