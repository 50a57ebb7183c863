/-
  No cell of these rows narrows 'for every input' (looked for: loops, veiled, ifaces, maps, wideKeys, modest, calm, conditions, laid).
  DERIVED. THE GIVEN ROWS OF THIS SEAT. 7 by the template 'for every input the law returns true; each argument reads behind the call as it read before'; 0 by the template 'total and deterministic' (their statements: YticfncahnhbhbaaTotals.lean).
  GIVEN WITH THE SEED: the statements are not yours to turn. If you find one false, say at which input.
  Laid BY PROGRAM, IN A SANDBOX (cutbox-rows.mjs): the forced cells as the released guide's own fill.sh prints them over the translation 4377e476767401b7… (all of the seat's roots in one cut). By AI agents, Wed Nov 11 2026. No macro, syntax, notation, axiom, sorry.
-/
import Derived.Test.YticfncahnhbhbaaChecked
import GoSem.Claim
import GoSem.ClaimJoined
import GoSem.ClaimMapViews
import Derived.JoinedTies
import Derived.KernelRfl
namespace Go.Proofs.Yticfncahnhbhbaa
/- THE CELL 'sum', in the pinned program and in every row, IS THE sha256 OF THE DUMP (.gsa) THAT YticfncahnhbhbaaProg.lean LOADS. Nothing in Lean hashes anything: it is a label: what it is worth is what the hold of that sum in a sandbox is worth. -/
noncomputable def Try.pinned : Pinned := { name := "yticfncahnhbhbaa", sum := "4377e476767401b798be3717b2ed0e3022d61555280f10729f9bfb644aca98d9", checked := Try.checked }
namespace Rows
def none {H : Type} : Left H := { results := [], args := [] }

/-- 'horologelaw26.NistPuts': WHATEVER THE INPUT: true; the input reads as it did. -/
def nistPutsSpec : ChangeSpec := { name := "nistPuts", fn := fun _ => fun
  | [d] => { results := [.lit (.bool true)], args := [d] }
  | _ => none }
def nistPutsRow : OpenClaim := { program := "yticfncahnhbhbaa", sum := "4377e476767401b798be3717b2ed0e3022d61555280f10729f9bfb644aca98d9", func := "horologe/horologelaw26.NistPuts", spec := "nistPuts", inPlace := ["internal/abi.NoEscape", "internal/bytealg.MakeNoZero"], apart := false }
def NistPutsSaid : Prop := nistPutsRow.holds Try.pinned (OpenSpec.ofChange nistPutsSpec)

/-- ITS FALSE NEIGHBOUR: 'it returns false'. Refute it at one input. -/
def nistPutsWrong : ChangeSpec := { name := "nistPuts", fn := fun _ => fun
  | [d] => { results := [.lit (.bool false)], args := [d] }
  | _ => none }
def NistPutsWrongFalsely : Prop := nistPutsRow.holds Try.pinned (OpenSpec.ofChange nistPutsWrong)

/-- 'horologelaw26.NistLeaps': WHATEVER THE INPUT: true; the input reads as it did. -/
def nistLeapsSpec : ChangeSpec := { name := "nistLeaps", fn := fun _ => fun
  | [d1, d2] => { results := [.lit (.bool true)], args := [d1, d2] }
  | _ => none }
def nistLeapsRow : OpenClaim := { program := "yticfncahnhbhbaa", sum := "4377e476767401b798be3717b2ed0e3022d61555280f10729f9bfb644aca98d9", func := "horologe/horologelaw26.NistLeaps", spec := "nistLeaps", inPlace := ["internal/abi.NoEscape", "internal/bytealg.MakeNoZero"], unfollowed := true, recurses := true, apart := false }
def NistLeapsSaid : Prop := nistLeapsRow.holds Try.pinned (OpenSpec.ofChange nistLeapsSpec)

/-- ITS FALSE NEIGHBOUR: 'it returns false'. Refute it at one input. -/
def nistLeapsWrong : ChangeSpec := { name := "nistLeaps", fn := fun _ => fun
  | [d1, d2] => { results := [.lit (.bool false)], args := [d1, d2] }
  | _ => none }
def NistLeapsWrongFalsely : Prop := nistLeapsRow.holds Try.pinned (OpenSpec.ofChange nistLeapsWrong)

/-- 'horologelaw26.NistBack': WHATEVER THE INPUT: true; the input reads as it did. -/
def nistBackSpec : ChangeSpec := { name := "nistBack", fn := fun _ => fun
  | [d1, d2] => { results := [.lit (.bool true)], args := [d1, d2] }
  | _ => none }
def nistBackRow : OpenClaim := { program := "yticfncahnhbhbaa", sum := "4377e476767401b798be3717b2ed0e3022d61555280f10729f9bfb644aca98d9", func := "horologe/horologelaw26.NistBack", spec := "nistBack", inPlace := ["internal/abi.NoEscape", "internal/bytealg.MakeNoZero", "internal/bytealg.IndexByteString"], apart := false }
def NistBackSaid : Prop := nistBackRow.holds Try.pinned (OpenSpec.ofChange nistBackSpec)

/-- ITS FALSE NEIGHBOUR: 'it returns false'. Refute it at one input. -/
def nistBackWrong : ChangeSpec := { name := "nistBack", fn := fun _ => fun
  | [d1, d2] => { results := [.lit (.bool false)], args := [d1, d2] }
  | _ => none }
def NistBackWrongFalsely : Prop := nistBackRow.holds Try.pinned (OpenSpec.ofChange nistBackWrong)

/-- 'horologelaw25.MailPuts': WHATEVER THE INPUT: true; the input reads as it did. -/
def mailPutsSpec : ChangeSpec := { name := "mailPuts", fn := fun _ => fun
  | [d] => { results := [.lit (.bool true)], args := [d] }
  | _ => none }
def mailPutsRow : OpenClaim := { program := "yticfncahnhbhbaa", sum := "4377e476767401b798be3717b2ed0e3022d61555280f10729f9bfb644aca98d9", func := "horologe/horologelaw25.MailPuts", spec := "mailPuts", inPlace := ["internal/bytealg.IndexByteString"], apart := false }
def MailPutsSaid : Prop := mailPutsRow.holds Try.pinned (OpenSpec.ofChange mailPutsSpec)

/-- ITS FALSE NEIGHBOUR: 'it returns false'. Refute it at one input. -/
def mailPutsWrong : ChangeSpec := { name := "mailPuts", fn := fun _ => fun
  | [d] => { results := [.lit (.bool false)], args := [d] }
  | _ => none }
def MailPutsWrongFalsely : Prop := mailPutsRow.holds Try.pinned (OpenSpec.ofChange mailPutsWrong)

/-- 'horologelaw25.MailParts': WHATEVER THE INPUT: true; the input reads as it did. -/
def mailPartsSpec : ChangeSpec := { name := "mailParts", fn := fun _ => fun
  | [d1, d2, d3] => { results := [.lit (.bool true)], args := [d1, d2, d3] }
  | _ => none }
def mailPartsRow : OpenClaim := { program := "yticfncahnhbhbaa", sum := "4377e476767401b798be3717b2ed0e3022d61555280f10729f9bfb644aca98d9", func := "horologe/horologelaw25.MailParts", spec := "mailParts", inPlace := ["internal/bytealg.IndexByteString"], recurses := true, apart := false }
def MailPartsSaid : Prop := mailPartsRow.holds Try.pinned (OpenSpec.ofChange mailPartsSpec)

/-- ITS FALSE NEIGHBOUR: 'it returns false'. Refute it at one input. -/
def mailPartsWrong : ChangeSpec := { name := "mailParts", fn := fun _ => fun
  | [d1, d2, d3] => { results := [.lit (.bool false)], args := [d1, d2, d3] }
  | _ => none }
def MailPartsWrongFalsely : Prop := mailPartsRow.holds Try.pinned (OpenSpec.ofChange mailPartsWrong)

/-- 'horologelaw25.MailBack': WHATEVER THE INPUT: true; the input reads as it did. -/
def mailBackSpec : ChangeSpec := { name := "mailBack", fn := fun _ => fun
  | [d1, d2] => { results := [.lit (.bool true)], args := [d1, d2] }
  | _ => none }
def mailBackRow : OpenClaim := { program := "yticfncahnhbhbaa", sum := "4377e476767401b798be3717b2ed0e3022d61555280f10729f9bfb644aca98d9", func := "horologe/horologelaw25.MailBack", spec := "mailBack", inPlace := ["internal/bytealg.IndexByteString"], apart := false }
def MailBackSaid : Prop := mailBackRow.holds Try.pinned (OpenSpec.ofChange mailBackSpec)

/-- ITS FALSE NEIGHBOUR: 'it returns false'. Refute it at one input. -/
def mailBackWrong : ChangeSpec := { name := "mailBack", fn := fun _ => fun
  | [d1, d2] => { results := [.lit (.bool false)], args := [d1, d2] }
  | _ => none }
def MailBackWrongFalsely : Prop := mailBackRow.holds Try.pinned (OpenSpec.ofChange mailBackWrong)

/-- 'horologelaw25.MailGaps': WHATEVER THE INPUT: true; the input reads as it did. -/
def mailGapsSpec : ChangeSpec := { name := "mailGaps", fn := fun _ => fun
  | [d1, d2, d3] => { results := [.lit (.bool true)], args := [d1, d2, d3] }
  | _ => none }
def mailGapsRow : OpenClaim := { program := "yticfncahnhbhbaa", sum := "4377e476767401b798be3717b2ed0e3022d61555280f10729f9bfb644aca98d9", func := "horologe/horologelaw25.MailGaps", spec := "mailGaps", inPlace := ["internal/bytealg.IndexByteString"], apart := false }
def MailGapsSaid : Prop := mailGapsRow.holds Try.pinned (OpenSpec.ofChange mailGapsSpec)

/-- ITS FALSE NEIGHBOUR: 'it returns false'. Refute it at one input. -/
def mailGapsWrong : ChangeSpec := { name := "mailGaps", fn := fun _ => fun
  | [d1, d2, d3] => { results := [.lit (.bool false)], args := [d1, d2, d3] }
  | _ => none }
def MailGapsWrongFalsely : Prop := mailGapsRow.holds Try.pinned (OpenSpec.ofChange mailGapsWrong)

/- THE SECOND FORM. 'bulk': how many values and letters a reading holds, each counted each time it is reached (what is shared counts as often as it is met; a slice's spare places count too). A statement '..UptoSaid' is the law's where the arguments, and the package variables that the reading takes, are together of bulk at most 1048576: NARROWER than '..Said'. Prove '..Said' where nothing that the law and all that it calls make is longer than what came in: it says more and counts as full. Else prove '..UptoSaid'. A law counts once. -/
mutual
def uptoBulk {H : Type} : DataW H → Nat
  | .lit (.string bytes) => bytes.length + 1
  | .lit _ => 1
  | .nil => 1
  | .ptr d => uptoBulk d + 1
  | .slice elems spare => uptoBulkAll elems + uptoBulkAll spare + 1
  | .agg parts => uptoBulkAll parts + 1
  | .iface _ d => uptoBulk d + 1
  | .map entries => uptoBulkEntries entries + 1
  | .held _ => 1
def uptoBulkAll {H : Type} : List (DataW H) → Nat
  | [] => 0
  | d :: r => uptoBulk d + uptoBulkAll r
def uptoBulkEntries {H : Type} : List (Lit × DataW H) → Nat
  | [] => 0
  | x :: r => uptoBulkEntry x + uptoBulkEntries r
def uptoBulkEntry {H : Type} : Lit × DataW H → Nat
  | (.string bytes, d) => bytes.length + uptoBulk d + 1
  | (_, d) => uptoBulk d + 1
 end
def uptoSmall : (H : Type) → List (DataW H) → Bool := fun _ ds => decide (uptoBulkAll ds ≤ 1048576)
def OpenSpec.upto (s : _root_.Go.ChangeSpec) : _root_.Go.OpenSpec := { _root_.Go.OpenSpec.ofChange s with cond := some uptoSmall }

/-- 'horologelaw26.NistPuts', WHERE WHAT IT READS IS OF BULK AT MOST 1048576: true; the input reads as it did. -/
def nistPutsUptoRow : OpenClaim := { program := "yticfncahnhbhbaa", sum := "4377e476767401b798be3717b2ed0e3022d61555280f10729f9bfb644aca98d9", func := "horologe/horologelaw26.NistPuts", spec := "nistPuts", inPlace := ["internal/abi.NoEscape", "internal/bytealg.MakeNoZero"], apart := false, narrowed := true }
def NistPutsUptoSaid : Prop := nistPutsUptoRow.holds Try.pinned (OpenSpec.upto nistPutsSpec)

/-- 'horologelaw26.NistLeaps', WHERE WHAT IT READS IS OF BULK AT MOST 1048576: true; the input reads as it did. -/
def nistLeapsUptoRow : OpenClaim := { program := "yticfncahnhbhbaa", sum := "4377e476767401b798be3717b2ed0e3022d61555280f10729f9bfb644aca98d9", func := "horologe/horologelaw26.NistLeaps", spec := "nistLeaps", inPlace := ["internal/abi.NoEscape", "internal/bytealg.MakeNoZero"], unfollowed := true, recurses := true, apart := false, narrowed := true }
def NistLeapsUptoSaid : Prop := nistLeapsUptoRow.holds Try.pinned (OpenSpec.upto nistLeapsSpec)

/-- 'horologelaw26.NistBack', WHERE WHAT IT READS IS OF BULK AT MOST 1048576: true; the input reads as it did. -/
def nistBackUptoRow : OpenClaim := { program := "yticfncahnhbhbaa", sum := "4377e476767401b798be3717b2ed0e3022d61555280f10729f9bfb644aca98d9", func := "horologe/horologelaw26.NistBack", spec := "nistBack", inPlace := ["internal/abi.NoEscape", "internal/bytealg.MakeNoZero", "internal/bytealg.IndexByteString"], apart := false, narrowed := true }
def NistBackUptoSaid : Prop := nistBackUptoRow.holds Try.pinned (OpenSpec.upto nistBackSpec)

/-- 'horologelaw25.MailPuts', WHERE WHAT IT READS IS OF BULK AT MOST 1048576: true; the input reads as it did. -/
def mailPutsUptoRow : OpenClaim := { program := "yticfncahnhbhbaa", sum := "4377e476767401b798be3717b2ed0e3022d61555280f10729f9bfb644aca98d9", func := "horologe/horologelaw25.MailPuts", spec := "mailPuts", inPlace := ["internal/bytealg.IndexByteString"], apart := false, narrowed := true }
def MailPutsUptoSaid : Prop := mailPutsUptoRow.holds Try.pinned (OpenSpec.upto mailPutsSpec)

/-- 'horologelaw25.MailParts', WHERE WHAT IT READS IS OF BULK AT MOST 1048576: true; the input reads as it did. -/
def mailPartsUptoRow : OpenClaim := { program := "yticfncahnhbhbaa", sum := "4377e476767401b798be3717b2ed0e3022d61555280f10729f9bfb644aca98d9", func := "horologe/horologelaw25.MailParts", spec := "mailParts", inPlace := ["internal/bytealg.IndexByteString"], recurses := true, apart := false, narrowed := true }
def MailPartsUptoSaid : Prop := mailPartsUptoRow.holds Try.pinned (OpenSpec.upto mailPartsSpec)

/-- 'horologelaw25.MailBack', WHERE WHAT IT READS IS OF BULK AT MOST 1048576: true; the input reads as it did. -/
def mailBackUptoRow : OpenClaim := { program := "yticfncahnhbhbaa", sum := "4377e476767401b798be3717b2ed0e3022d61555280f10729f9bfb644aca98d9", func := "horologe/horologelaw25.MailBack", spec := "mailBack", inPlace := ["internal/bytealg.IndexByteString"], apart := false, narrowed := true }
def MailBackUptoSaid : Prop := mailBackUptoRow.holds Try.pinned (OpenSpec.upto mailBackSpec)

/-- 'horologelaw25.MailGaps', WHERE WHAT IT READS IS OF BULK AT MOST 1048576: true; the input reads as it did. -/
def mailGapsUptoRow : OpenClaim := { program := "yticfncahnhbhbaa", sum := "4377e476767401b798be3717b2ed0e3022d61555280f10729f9bfb644aca98d9", func := "horologe/horologelaw25.MailGaps", spec := "mailGaps", inPlace := ["internal/bytealg.IndexByteString"], apart := false, narrowed := true }
def MailGapsUptoSaid : Prop := mailGapsUptoRow.holds Try.pinned (OpenSpec.upto mailGapsSpec)

end Rows
end Go.Proofs.Yticfncahnhbhbaa
