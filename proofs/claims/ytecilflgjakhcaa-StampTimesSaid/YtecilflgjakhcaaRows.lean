/-
  No cell of these rows narrows 'for every input' (looked for: loops, veiled, ifaces, maps, wideKeys, modest, calm, conditions, laid).
  DERIVED. THE GIVEN ROWS OF THIS SEAT. 12 by the template 'for every input the law returns true; each argument reads behind the call as it read before'; 0 by the template 'total and deterministic' (their statements: YtecilflgjakhcaaTotals.lean).
  GIVEN WITH THE SEED: the statements are not yours to turn. If you find one false, say at which input.
  Laid BY PROGRAM, IN A SANDBOX (cutbox-rows.mjs): the forced cells as the released guide's own fill.sh prints them over the translation b2f6fb6fede630cc… (all of the seat's roots in one cut). By AI agents, Wed Nov 11 2026. No macro, syntax, notation, axiom, sorry.
-/
import Derived.Test.YtecilflgjakhcaaChecked
import GoSem.Claim
import GoSem.ClaimJoined
import GoSem.ClaimMapViews
import Derived.JoinedTies
import Derived.KernelRfl
namespace Go.Proofs.Ytecilflgjakhcaa
/- THE CELL 'sum', in the pinned program and in every row, IS THE sha256 OF THE DUMP (.gsa) THAT YtecilflgjakhcaaProg.lean LOADS. Nothing in Lean hashes anything: it is a label: what it is worth is what the hold of that sum in a sandbox is worth. -/
noncomputable def Try.pinned : Pinned := { name := "ytecilflgjakhcaa", sum := "b2f6fb6fede630cc1718da78c953d1dc7dcbcb199a88510d85a9027e8490dd9f", checked := Try.checked }
namespace Rows
def none {H : Type} : Left H := { results := [], args := [] }

/-- 'horologelaw15.StampFractions': WHATEVER THE INPUT: true; the input reads as it did. -/
def stampFractionsSpec : ChangeSpec := { name := "stampFractions", fn := fun _ => fun
  | [d1, d2, d3] => { results := [.lit (.bool true)], args := [d1, d2, d3] }
  | _ => none }
def stampFractionsRow : OpenClaim := { program := "ytecilflgjakhcaa", sum := "b2f6fb6fede630cc1718da78c953d1dc7dcbcb199a88510d85a9027e8490dd9f", func := "horologe/horologelaw15.StampFractions", spec := "stampFractions", apart := false }
def StampFractionsSaid : Prop := stampFractionsRow.holds Try.pinned (OpenSpec.ofChange stampFractionsSpec)

/-- ITS FALSE NEIGHBOUR: 'it returns false'. Refute it at one input. -/
def stampFractionsWrong : ChangeSpec := { name := "stampFractions", fn := fun _ => fun
  | [d1, d2, d3] => { results := [.lit (.bool false)], args := [d1, d2, d3] }
  | _ => none }
def StampFractionsWrongFalsely : Prop := stampFractionsRow.holds Try.pinned (OpenSpec.ofChange stampFractionsWrong)

/-- 'horologelaw03.OctetsCuts': WHATEVER THE INPUT: true; the input reads as it did. -/
def octetsCutsSpec : ChangeSpec := { name := "octetsCuts", fn := fun _ => fun
  | [d1, d2, d3] => { results := [.lit (.bool true)], args := [d1, d2, d3] }
  | _ => none }
def octetsCutsRow : OpenClaim := { program := "ytecilflgjakhcaa", sum := "b2f6fb6fede630cc1718da78c953d1dc7dcbcb199a88510d85a9027e8490dd9f", func := "horologe/horologelaw03.OctetsCuts", spec := "octetsCuts", apart := false }
def OctetsCutsSaid : Prop := octetsCutsRow.holds Try.pinned (OpenSpec.ofChange octetsCutsSpec)

/-- ITS FALSE NEIGHBOUR: 'it returns false'. Refute it at one input. -/
def octetsCutsWrong : ChangeSpec := { name := "octetsCuts", fn := fun _ => fun
  | [d1, d2, d3] => { results := [.lit (.bool false)], args := [d1, d2, d3] }
  | _ => none }
def OctetsCutsWrongFalsely : Prop := octetsCutsRow.holds Try.pinned (OpenSpec.ofChange octetsCutsWrong)

/-- 'horologelaw15.StampTimes': WHATEVER THE INPUT: true; the input reads as it did. -/
def stampTimesSpec : ChangeSpec := { name := "stampTimes", fn := fun _ => fun
  | [d1, d2, d3] => { results := [.lit (.bool true)], args := [d1, d2, d3] }
  | _ => none }
def stampTimesRow : OpenClaim := { program := "ytecilflgjakhcaa", sum := "b2f6fb6fede630cc1718da78c953d1dc7dcbcb199a88510d85a9027e8490dd9f", func := "horologe/horologelaw15.StampTimes", spec := "stampTimes", apart := false }
def StampTimesSaid : Prop := stampTimesRow.holds Try.pinned (OpenSpec.ofChange stampTimesSpec)

/-- ITS FALSE NEIGHBOUR: 'it returns false'. Refute it at one input. -/
def stampTimesWrong : ChangeSpec := { name := "stampTimes", fn := fun _ => fun
  | [d1, d2, d3] => { results := [.lit (.bool false)], args := [d1, d2, d3] }
  | _ => none }
def StampTimesWrongFalsely : Prop := stampTimesRow.holds Try.pinned (OpenSpec.ofChange stampTimesWrong)

/-- 'horologelaw28.HeadPuts': WHATEVER THE INPUT: true; the input reads as it did. -/
def headPutsSpec : ChangeSpec := { name := "headPuts", fn := fun _ => fun
  | [d] => { results := [.lit (.bool true)], args := [d] }
  | _ => none }
def headPutsRow : OpenClaim := { program := "ytecilflgjakhcaa", sum := "b2f6fb6fede630cc1718da78c953d1dc7dcbcb199a88510d85a9027e8490dd9f", func := "horologe/horologelaw28.HeadPuts", spec := "headPuts", apart := false }
def HeadPutsSaid : Prop := headPutsRow.holds Try.pinned (OpenSpec.ofChange headPutsSpec)

/-- ITS FALSE NEIGHBOUR: 'it returns false'. Refute it at one input. -/
def headPutsWrong : ChangeSpec := { name := "headPuts", fn := fun _ => fun
  | [d] => { results := [.lit (.bool false)], args := [d] }
  | _ => none }
def HeadPutsWrongFalsely : Prop := headPutsRow.holds Try.pinned (OpenSpec.ofChange headPutsWrong)

/-- 'horologelaw03.OctetsBack': WHATEVER THE INPUT: true; the input reads as it did. -/
def octetsBackSpec : ChangeSpec := { name := "octetsBack", fn := fun _ => fun
  | [d1, d2, d3] => { results := [.lit (.bool true)], args := [d1, d2, d3] }
  | _ => none }
def octetsBackRow : OpenClaim := { program := "ytecilflgjakhcaa", sum := "b2f6fb6fede630cc1718da78c953d1dc7dcbcb199a88510d85a9027e8490dd9f", func := "horologe/horologelaw03.OctetsBack", spec := "octetsBack", unfollowed := true, recurses := true, apart := false }
def OctetsBackSaid : Prop := octetsBackRow.holds Try.pinned (OpenSpec.ofChange octetsBackSpec)

/-- ITS FALSE NEIGHBOUR: 'it returns false'. Refute it at one input. -/
def octetsBackWrong : ChangeSpec := { name := "octetsBack", fn := fun _ => fun
  | [d1, d2, d3] => { results := [.lit (.bool false)], args := [d1, d2, d3] }
  | _ => none }
def OctetsBackWrongFalsely : Prop := octetsBackRow.holds Try.pinned (OpenSpec.ofChange octetsBackWrong)

/-- 'horologelaw28.HeadRounds': WHATEVER THE INPUT: true; the input reads as it did. -/
def headRoundsSpec : ChangeSpec := { name := "headRounds", fn := fun _ => fun
  | [d1, d2] => { results := [.lit (.bool true)], args := [d1, d2] }
  | _ => none }
def headRoundsRow : OpenClaim := { program := "ytecilflgjakhcaa", sum := "b2f6fb6fede630cc1718da78c953d1dc7dcbcb199a88510d85a9027e8490dd9f", func := "horologe/horologelaw28.HeadRounds", spec := "headRounds", apart := false }
def HeadRoundsSaid : Prop := headRoundsRow.holds Try.pinned (OpenSpec.ofChange headRoundsSpec)

/-- ITS FALSE NEIGHBOUR: 'it returns false'. Refute it at one input. -/
def headRoundsWrong : ChangeSpec := { name := "headRounds", fn := fun _ => fun
  | [d1, d2] => { results := [.lit (.bool false)], args := [d1, d2] }
  | _ => none }
def HeadRoundsWrongFalsely : Prop := headRoundsRow.holds Try.pinned (OpenSpec.ofChange headRoundsWrong)

/-- 'horologelaw03.OctetsWords': WHATEVER THE INPUT: true; the input reads as it did. -/
def octetsWordsSpec : ChangeSpec := { name := "octetsWords", fn := fun _ => fun
  | [d1, d2, d3] => { results := [.lit (.bool true)], args := [d1, d2, d3] }
  | _ => none }
def octetsWordsRow : OpenClaim := { program := "ytecilflgjakhcaa", sum := "b2f6fb6fede630cc1718da78c953d1dc7dcbcb199a88510d85a9027e8490dd9f", func := "horologe/horologelaw03.OctetsWords", spec := "octetsWords", unfollowed := true, recurses := true, apart := false }
def OctetsWordsSaid : Prop := octetsWordsRow.holds Try.pinned (OpenSpec.ofChange octetsWordsSpec)

/-- ITS FALSE NEIGHBOUR: 'it returns false'. Refute it at one input. -/
def octetsWordsWrong : ChangeSpec := { name := "octetsWords", fn := fun _ => fun
  | [d1, d2, d3] => { results := [.lit (.bool false)], args := [d1, d2, d3] }
  | _ => none }
def OctetsWordsWrongFalsely : Prop := octetsWordsRow.holds Try.pinned (OpenSpec.ofChange octetsWordsWrong)

/-- 'horologelaw15.StampBytes': WHATEVER THE INPUT: true; the input reads as it did. -/
def stampBytesSpec : ChangeSpec := { name := "stampBytes", fn := fun _ => fun
  | [d1, d2, d3] => { results := [.lit (.bool true)], args := [d1, d2, d3] }
  | _ => none }
def stampBytesRow : OpenClaim := { program := "ytecilflgjakhcaa", sum := "b2f6fb6fede630cc1718da78c953d1dc7dcbcb199a88510d85a9027e8490dd9f", func := "horologe/horologelaw15.StampBytes", spec := "stampBytes", unfollowed := true, recurses := true, apart := false }
def StampBytesSaid : Prop := stampBytesRow.holds Try.pinned (OpenSpec.ofChange stampBytesSpec)

/-- ITS FALSE NEIGHBOUR: 'it returns false'. Refute it at one input. -/
def stampBytesWrong : ChangeSpec := { name := "stampBytes", fn := fun _ => fun
  | [d1, d2, d3] => { results := [.lit (.bool false)], args := [d1, d2, d3] }
  | _ => none }
def StampBytesWrongFalsely : Prop := stampBytesRow.holds Try.pinned (OpenSpec.ofChange stampBytesWrong)

/-- 'horologelaw15.StampBack': WHATEVER THE INPUT: true; the input reads as it did. -/
def stampBackSpec : ChangeSpec := { name := "stampBack", fn := fun _ => fun
  | [d1, d2, d3] => { results := [.lit (.bool true)], args := [d1, d2, d3] }
  | _ => none }
def stampBackRow : OpenClaim := { program := "ytecilflgjakhcaa", sum := "b2f6fb6fede630cc1718da78c953d1dc7dcbcb199a88510d85a9027e8490dd9f", func := "horologe/horologelaw15.StampBack", spec := "stampBack", unfollowed := true, recurses := true, apart := false }
def StampBackSaid : Prop := stampBackRow.holds Try.pinned (OpenSpec.ofChange stampBackSpec)

/-- ITS FALSE NEIGHBOUR: 'it returns false'. Refute it at one input. -/
def stampBackWrong : ChangeSpec := { name := "stampBack", fn := fun _ => fun
  | [d1, d2, d3] => { results := [.lit (.bool false)], args := [d1, d2, d3] }
  | _ => none }
def StampBackWrongFalsely : Prop := stampBackRow.holds Try.pinned (OpenSpec.ofChange stampBackWrong)

/-- 'horologelaw28.HeadBack': WHATEVER THE INPUT: true; the input reads as it did. -/
def headBackSpec : ChangeSpec := { name := "headBack", fn := fun _ => fun
  | [d1, d2, d3] => { results := [.lit (.bool true)], args := [d1, d2, d3] }
  | _ => none }
def headBackRow : OpenClaim := { program := "ytecilflgjakhcaa", sum := "b2f6fb6fede630cc1718da78c953d1dc7dcbcb199a88510d85a9027e8490dd9f", func := "horologe/horologelaw28.HeadBack", spec := "headBack", unfollowed := true, recurses := true, apart := false }
def HeadBackSaid : Prop := headBackRow.holds Try.pinned (OpenSpec.ofChange headBackSpec)

/-- ITS FALSE NEIGHBOUR: 'it returns false'. Refute it at one input. -/
def headBackWrong : ChangeSpec := { name := "headBack", fn := fun _ => fun
  | [d1, d2, d3] => { results := [.lit (.bool false)], args := [d1, d2, d3] }
  | _ => none }
def HeadBackWrongFalsely : Prop := headBackRow.holds Try.pinned (OpenSpec.ofChange headBackWrong)

/-- 'horologelaw28.HeadParses': WHATEVER THE INPUT: true; the input reads as it did. -/
def headParsesSpec : ChangeSpec := { name := "headParses", fn := fun _ => fun
  | [d1, d2] => { results := [.lit (.bool true)], args := [d1, d2] }
  | _ => none }
def headParsesRow : OpenClaim := { program := "ytecilflgjakhcaa", sum := "b2f6fb6fede630cc1718da78c953d1dc7dcbcb199a88510d85a9027e8490dd9f", func := "horologe/horologelaw28.HeadParses", spec := "headParses", unfollowed := true, recurses := true, apart := false }
def HeadParsesSaid : Prop := headParsesRow.holds Try.pinned (OpenSpec.ofChange headParsesSpec)

/-- ITS FALSE NEIGHBOUR: 'it returns false'. Refute it at one input. -/
def headParsesWrong : ChangeSpec := { name := "headParses", fn := fun _ => fun
  | [d1, d2] => { results := [.lit (.bool false)], args := [d1, d2] }
  | _ => none }
def HeadParsesWrongFalsely : Prop := headParsesRow.holds Try.pinned (OpenSpec.ofChange headParsesWrong)

/-- 'horologelaw27.WordBack': WHATEVER THE INPUT: true; the input reads as it did. -/
def wordBackSpec : ChangeSpec := { name := "wordBack", fn := fun _ => fun
  | [d1, d2] => { results := [.lit (.bool true)], args := [d1, d2] }
  | _ => none }
def wordBackRow : OpenClaim := { program := "ytecilflgjakhcaa", sum := "b2f6fb6fede630cc1718da78c953d1dc7dcbcb199a88510d85a9027e8490dd9f", func := "horologe/horologelaw27.WordBack", spec := "wordBack", apart := false }
def WordBackSaid : Prop := wordBackRow.holds Try.pinned (OpenSpec.ofChange wordBackSpec)

/-- ITS FALSE NEIGHBOUR: 'it returns false'. Refute it at one input. -/
def wordBackWrong : ChangeSpec := { name := "wordBack", fn := fun _ => fun
  | [d1, d2] => { results := [.lit (.bool false)], args := [d1, d2] }
  | _ => none }
def WordBackWrongFalsely : Prop := wordBackRow.holds Try.pinned (OpenSpec.ofChange wordBackWrong)

/- THE SECOND FORM. 'bulk': how many values and letters a reading holds, each counted each time it is reached (what is shared counts as often as it is met; a slice's spare places count too). A statement '..UptoSaid' is the law's where the arguments, and the package variables that the reading takes, are together of bulk at most 1048576: NARROWER than '..Said'. Prove '..Said' where nothing that the law and all that it calls make is longer than what came in: it says more and counts as full. Else prove '..UptoSaid'. A law counts once. -/
mutual
def uptoBulk {H : Type} : DataW H → Nat
  | .lit (.string bytes) => bytes.length + 1
  | .lit _ => 1
  | .nil => 1
  | .ptr d => uptoBulk d + 1
  | .slice elems spare => uptoBulkAll elems + uptoBulkAll spare + 1
  | .agg parts => uptoBulkAll parts + 1
  | .iface _ d => uptoBulk d + 1
  | .map entries => uptoBulkEntries entries + 1
  | .held _ => 1
def uptoBulkAll {H : Type} : List (DataW H) → Nat
  | [] => 0
  | d :: r => uptoBulk d + uptoBulkAll r
def uptoBulkEntries {H : Type} : List (Lit × DataW H) → Nat
  | [] => 0
  | x :: r => uptoBulkEntry x + uptoBulkEntries r
def uptoBulkEntry {H : Type} : Lit × DataW H → Nat
  | (.string bytes, d) => bytes.length + uptoBulk d + 1
  | (_, d) => uptoBulk d + 1
 end
def uptoSmall : (H : Type) → List (DataW H) → Bool := fun _ ds => decide (uptoBulkAll ds ≤ 1048576)
def OpenSpec.upto (s : _root_.Go.ChangeSpec) : _root_.Go.OpenSpec := { _root_.Go.OpenSpec.ofChange s with cond := some uptoSmall }

/-- 'horologelaw15.StampFractions', WHERE WHAT IT READS IS OF BULK AT MOST 1048576: true; the input reads as it did. -/
def stampFractionsUptoRow : OpenClaim := { program := "ytecilflgjakhcaa", sum := "b2f6fb6fede630cc1718da78c953d1dc7dcbcb199a88510d85a9027e8490dd9f", func := "horologe/horologelaw15.StampFractions", spec := "stampFractions", apart := false, narrowed := true }
def StampFractionsUptoSaid : Prop := stampFractionsUptoRow.holds Try.pinned (OpenSpec.upto stampFractionsSpec)

/-- 'horologelaw03.OctetsCuts', WHERE WHAT IT READS IS OF BULK AT MOST 1048576: true; the input reads as it did. -/
def octetsCutsUptoRow : OpenClaim := { program := "ytecilflgjakhcaa", sum := "b2f6fb6fede630cc1718da78c953d1dc7dcbcb199a88510d85a9027e8490dd9f", func := "horologe/horologelaw03.OctetsCuts", spec := "octetsCuts", apart := false, narrowed := true }
def OctetsCutsUptoSaid : Prop := octetsCutsUptoRow.holds Try.pinned (OpenSpec.upto octetsCutsSpec)

/-- 'horologelaw15.StampTimes', WHERE WHAT IT READS IS OF BULK AT MOST 1048576: true; the input reads as it did. -/
def stampTimesUptoRow : OpenClaim := { program := "ytecilflgjakhcaa", sum := "b2f6fb6fede630cc1718da78c953d1dc7dcbcb199a88510d85a9027e8490dd9f", func := "horologe/horologelaw15.StampTimes", spec := "stampTimes", apart := false, narrowed := true }
def StampTimesUptoSaid : Prop := stampTimesUptoRow.holds Try.pinned (OpenSpec.upto stampTimesSpec)

/-- 'horologelaw28.HeadPuts', WHERE WHAT IT READS IS OF BULK AT MOST 1048576: true; the input reads as it did. -/
def headPutsUptoRow : OpenClaim := { program := "ytecilflgjakhcaa", sum := "b2f6fb6fede630cc1718da78c953d1dc7dcbcb199a88510d85a9027e8490dd9f", func := "horologe/horologelaw28.HeadPuts", spec := "headPuts", apart := false, narrowed := true }
def HeadPutsUptoSaid : Prop := headPutsUptoRow.holds Try.pinned (OpenSpec.upto headPutsSpec)

/-- 'horologelaw03.OctetsBack', WHERE WHAT IT READS IS OF BULK AT MOST 1048576: true; the input reads as it did. -/
def octetsBackUptoRow : OpenClaim := { program := "ytecilflgjakhcaa", sum := "b2f6fb6fede630cc1718da78c953d1dc7dcbcb199a88510d85a9027e8490dd9f", func := "horologe/horologelaw03.OctetsBack", spec := "octetsBack", unfollowed := true, recurses := true, apart := false, narrowed := true }
def OctetsBackUptoSaid : Prop := octetsBackUptoRow.holds Try.pinned (OpenSpec.upto octetsBackSpec)

/-- 'horologelaw28.HeadRounds', WHERE WHAT IT READS IS OF BULK AT MOST 1048576: true; the input reads as it did. -/
def headRoundsUptoRow : OpenClaim := { program := "ytecilflgjakhcaa", sum := "b2f6fb6fede630cc1718da78c953d1dc7dcbcb199a88510d85a9027e8490dd9f", func := "horologe/horologelaw28.HeadRounds", spec := "headRounds", apart := false, narrowed := true }
def HeadRoundsUptoSaid : Prop := headRoundsUptoRow.holds Try.pinned (OpenSpec.upto headRoundsSpec)

/-- 'horologelaw03.OctetsWords', WHERE WHAT IT READS IS OF BULK AT MOST 1048576: true; the input reads as it did. -/
def octetsWordsUptoRow : OpenClaim := { program := "ytecilflgjakhcaa", sum := "b2f6fb6fede630cc1718da78c953d1dc7dcbcb199a88510d85a9027e8490dd9f", func := "horologe/horologelaw03.OctetsWords", spec := "octetsWords", unfollowed := true, recurses := true, apart := false, narrowed := true }
def OctetsWordsUptoSaid : Prop := octetsWordsUptoRow.holds Try.pinned (OpenSpec.upto octetsWordsSpec)

/-- 'horologelaw15.StampBytes', WHERE WHAT IT READS IS OF BULK AT MOST 1048576: true; the input reads as it did. -/
def stampBytesUptoRow : OpenClaim := { program := "ytecilflgjakhcaa", sum := "b2f6fb6fede630cc1718da78c953d1dc7dcbcb199a88510d85a9027e8490dd9f", func := "horologe/horologelaw15.StampBytes", spec := "stampBytes", unfollowed := true, recurses := true, apart := false, narrowed := true }
def StampBytesUptoSaid : Prop := stampBytesUptoRow.holds Try.pinned (OpenSpec.upto stampBytesSpec)

/-- 'horologelaw15.StampBack', WHERE WHAT IT READS IS OF BULK AT MOST 1048576: true; the input reads as it did. -/
def stampBackUptoRow : OpenClaim := { program := "ytecilflgjakhcaa", sum := "b2f6fb6fede630cc1718da78c953d1dc7dcbcb199a88510d85a9027e8490dd9f", func := "horologe/horologelaw15.StampBack", spec := "stampBack", unfollowed := true, recurses := true, apart := false, narrowed := true }
def StampBackUptoSaid : Prop := stampBackUptoRow.holds Try.pinned (OpenSpec.upto stampBackSpec)

/-- 'horologelaw28.HeadBack', WHERE WHAT IT READS IS OF BULK AT MOST 1048576: true; the input reads as it did. -/
def headBackUptoRow : OpenClaim := { program := "ytecilflgjakhcaa", sum := "b2f6fb6fede630cc1718da78c953d1dc7dcbcb199a88510d85a9027e8490dd9f", func := "horologe/horologelaw28.HeadBack", spec := "headBack", unfollowed := true, recurses := true, apart := false, narrowed := true }
def HeadBackUptoSaid : Prop := headBackUptoRow.holds Try.pinned (OpenSpec.upto headBackSpec)

/-- 'horologelaw28.HeadParses', WHERE WHAT IT READS IS OF BULK AT MOST 1048576: true; the input reads as it did. -/
def headParsesUptoRow : OpenClaim := { program := "ytecilflgjakhcaa", sum := "b2f6fb6fede630cc1718da78c953d1dc7dcbcb199a88510d85a9027e8490dd9f", func := "horologe/horologelaw28.HeadParses", spec := "headParses", unfollowed := true, recurses := true, apart := false, narrowed := true }
def HeadParsesUptoSaid : Prop := headParsesUptoRow.holds Try.pinned (OpenSpec.upto headParsesSpec)

/-- 'horologelaw27.WordBack', WHERE WHAT IT READS IS OF BULK AT MOST 1048576: true; the input reads as it did. -/
def wordBackUptoRow : OpenClaim := { program := "ytecilflgjakhcaa", sum := "b2f6fb6fede630cc1718da78c953d1dc7dcbcb199a88510d85a9027e8490dd9f", func := "horologe/horologelaw27.WordBack", spec := "wordBack", apart := false, narrowed := true }
def WordBackUptoSaid : Prop := wordBackUptoRow.holds Try.pinned (OpenSpec.upto wordBackSpec)

end Rows
end Go.Proofs.Ytecilflgjakhcaa
