/-
  No cell of these rows narrows 'for every input' (looked for: loops, veiled, ifaces, maps, wideKeys, modest, calm, conditions, laid).
  DERIVED. THE GIVEN ROWS OF THIS SEAT. 8 by the template 'for every input the law returns true; each argument reads behind the call as it read before'; 0 by the template 'total and deterministic' (their statements: YthcegipmninkdaaTotals.lean).
  GIVEN WITH THE SEED: the statements are not yours to turn. If you find one false, say at which input.
  Laid BY PROGRAM, IN A SANDBOX (cutbox-rows.mjs): the forced cells as the released guide's own fill.sh prints them over the translation fd989b99bb8fb873… (all of the seat's roots in one cut). By AI agents, Wed Nov 11 2026. No macro, syntax, notation, axiom, sorry.
-/
import Derived.Test.YthcegipmninkdaaChecked
import GoSem.Claim
import GoSem.ClaimJoined
import GoSem.ClaimMapViews
import Derived.JoinedTies
import Derived.KernelRfl
namespace Go.Proofs.Ythcegipmninkdaa
/- THE CELL 'sum', in the pinned program and in every row, IS THE sha256 OF THE DUMP (.gsa) THAT YthcegipmninkdaaProg.lean LOADS. Nothing in Lean hashes anything: it is a label: what it is worth is what the hold of that sum in a sandbox is worth. -/
noncomputable def Try.pinned : Pinned := { name := "ythcegipmninkdaa", sum := "fd989b99bb8fb873ecd04c3eb523e9229efabc1978bd3eb09ca1a4c352b6ca29", checked := Try.checked }
namespace Rows
def none {H : Type} : Left H := { results := [], args := [] }

/-- 'horologelaw28.HeadPuts': WHATEVER THE INPUT: true; the input reads as it did. -/
def headPutsSpec : ChangeSpec := { name := "headPuts", fn := fun _ => fun
  | [d] => { results := [.lit (.bool true)], args := [d] }
  | _ => none }
def headPutsRow : OpenClaim := { program := "ythcegipmninkdaa", sum := "fd989b99bb8fb873ecd04c3eb523e9229efabc1978bd3eb09ca1a4c352b6ca29", func := "horologe/horologelaw28.HeadPuts", spec := "headPuts", apart := false }
def HeadPutsSaid : Prop := headPutsRow.holds Try.pinned (OpenSpec.ofChange headPutsSpec)

/-- ITS FALSE NEIGHBOUR: 'it returns false'. Refute it at one input. -/
def headPutsWrong : ChangeSpec := { name := "headPuts", fn := fun _ => fun
  | [d] => { results := [.lit (.bool false)], args := [d] }
  | _ => none }
def HeadPutsWrongFalsely : Prop := headPutsRow.holds Try.pinned (OpenSpec.ofChange headPutsWrong)

/-- 'horologelaw03.OctetsBack': WHATEVER THE INPUT: true; the input reads as it did. -/
def octetsBackSpec : ChangeSpec := { name := "octetsBack", fn := fun _ => fun
  | [d1, d2, d3] => { results := [.lit (.bool true)], args := [d1, d2, d3] }
  | _ => none }
def octetsBackRow : OpenClaim := { program := "ythcegipmninkdaa", sum := "fd989b99bb8fb873ecd04c3eb523e9229efabc1978bd3eb09ca1a4c352b6ca29", func := "horologe/horologelaw03.OctetsBack", spec := "octetsBack", unfollowed := true, recurses := true, apart := false }
def OctetsBackSaid : Prop := octetsBackRow.holds Try.pinned (OpenSpec.ofChange octetsBackSpec)

/-- ITS FALSE NEIGHBOUR: 'it returns false'. Refute it at one input. -/
def octetsBackWrong : ChangeSpec := { name := "octetsBack", fn := fun _ => fun
  | [d1, d2, d3] => { results := [.lit (.bool false)], args := [d1, d2, d3] }
  | _ => none }
def OctetsBackWrongFalsely : Prop := octetsBackRow.holds Try.pinned (OpenSpec.ofChange octetsBackWrong)

/-- 'horologelaw28.HeadRounds': WHATEVER THE INPUT: true; the input reads as it did. -/
def headRoundsSpec : ChangeSpec := { name := "headRounds", fn := fun _ => fun
  | [d1, d2] => { results := [.lit (.bool true)], args := [d1, d2] }
  | _ => none }
def headRoundsRow : OpenClaim := { program := "ythcegipmninkdaa", sum := "fd989b99bb8fb873ecd04c3eb523e9229efabc1978bd3eb09ca1a4c352b6ca29", func := "horologe/horologelaw28.HeadRounds", spec := "headRounds", apart := false }
def HeadRoundsSaid : Prop := headRoundsRow.holds Try.pinned (OpenSpec.ofChange headRoundsSpec)

/-- ITS FALSE NEIGHBOUR: 'it returns false'. Refute it at one input. -/
def headRoundsWrong : ChangeSpec := { name := "headRounds", fn := fun _ => fun
  | [d1, d2] => { results := [.lit (.bool false)], args := [d1, d2] }
  | _ => none }
def HeadRoundsWrongFalsely : Prop := headRoundsRow.holds Try.pinned (OpenSpec.ofChange headRoundsWrong)

/-- 'horologelaw03.OctetsWords': WHATEVER THE INPUT: true; the input reads as it did. -/
def octetsWordsSpec : ChangeSpec := { name := "octetsWords", fn := fun _ => fun
  | [d1, d2, d3] => { results := [.lit (.bool true)], args := [d1, d2, d3] }
  | _ => none }
def octetsWordsRow : OpenClaim := { program := "ythcegipmninkdaa", sum := "fd989b99bb8fb873ecd04c3eb523e9229efabc1978bd3eb09ca1a4c352b6ca29", func := "horologe/horologelaw03.OctetsWords", spec := "octetsWords", unfollowed := true, recurses := true, apart := false }
def OctetsWordsSaid : Prop := octetsWordsRow.holds Try.pinned (OpenSpec.ofChange octetsWordsSpec)

/-- ITS FALSE NEIGHBOUR: 'it returns false'. Refute it at one input. -/
def octetsWordsWrong : ChangeSpec := { name := "octetsWords", fn := fun _ => fun
  | [d1, d2, d3] => { results := [.lit (.bool false)], args := [d1, d2, d3] }
  | _ => none }
def OctetsWordsWrongFalsely : Prop := octetsWordsRow.holds Try.pinned (OpenSpec.ofChange octetsWordsWrong)

/-- 'horologelaw15.StampBytes': WHATEVER THE INPUT: true; the input reads as it did. -/
def stampBytesSpec : ChangeSpec := { name := "stampBytes", fn := fun _ => fun
  | [d1, d2, d3] => { results := [.lit (.bool true)], args := [d1, d2, d3] }
  | _ => none }
def stampBytesRow : OpenClaim := { program := "ythcegipmninkdaa", sum := "fd989b99bb8fb873ecd04c3eb523e9229efabc1978bd3eb09ca1a4c352b6ca29", func := "horologe/horologelaw15.StampBytes", spec := "stampBytes", unfollowed := true, recurses := true, apart := false }
def StampBytesSaid : Prop := stampBytesRow.holds Try.pinned (OpenSpec.ofChange stampBytesSpec)

/-- ITS FALSE NEIGHBOUR: 'it returns false'. Refute it at one input. -/
def stampBytesWrong : ChangeSpec := { name := "stampBytes", fn := fun _ => fun
  | [d1, d2, d3] => { results := [.lit (.bool false)], args := [d1, d2, d3] }
  | _ => none }
def StampBytesWrongFalsely : Prop := stampBytesRow.holds Try.pinned (OpenSpec.ofChange stampBytesWrong)

/-- 'horologelaw15.StampBack': WHATEVER THE INPUT: true; the input reads as it did. -/
def stampBackSpec : ChangeSpec := { name := "stampBack", fn := fun _ => fun
  | [d1, d2, d3] => { results := [.lit (.bool true)], args := [d1, d2, d3] }
  | _ => none }
def stampBackRow : OpenClaim := { program := "ythcegipmninkdaa", sum := "fd989b99bb8fb873ecd04c3eb523e9229efabc1978bd3eb09ca1a4c352b6ca29", func := "horologe/horologelaw15.StampBack", spec := "stampBack", unfollowed := true, recurses := true, apart := false }
def StampBackSaid : Prop := stampBackRow.holds Try.pinned (OpenSpec.ofChange stampBackSpec)

/-- ITS FALSE NEIGHBOUR: 'it returns false'. Refute it at one input. -/
def stampBackWrong : ChangeSpec := { name := "stampBack", fn := fun _ => fun
  | [d1, d2, d3] => { results := [.lit (.bool false)], args := [d1, d2, d3] }
  | _ => none }
def StampBackWrongFalsely : Prop := stampBackRow.holds Try.pinned (OpenSpec.ofChange stampBackWrong)

/-- 'horologelaw28.HeadBack': WHATEVER THE INPUT: true; the input reads as it did. -/
def headBackSpec : ChangeSpec := { name := "headBack", fn := fun _ => fun
  | [d1, d2, d3] => { results := [.lit (.bool true)], args := [d1, d2, d3] }
  | _ => none }
def headBackRow : OpenClaim := { program := "ythcegipmninkdaa", sum := "fd989b99bb8fb873ecd04c3eb523e9229efabc1978bd3eb09ca1a4c352b6ca29", func := "horologe/horologelaw28.HeadBack", spec := "headBack", unfollowed := true, recurses := true, apart := false }
def HeadBackSaid : Prop := headBackRow.holds Try.pinned (OpenSpec.ofChange headBackSpec)

/-- ITS FALSE NEIGHBOUR: 'it returns false'. Refute it at one input. -/
def headBackWrong : ChangeSpec := { name := "headBack", fn := fun _ => fun
  | [d1, d2, d3] => { results := [.lit (.bool false)], args := [d1, d2, d3] }
  | _ => none }
def HeadBackWrongFalsely : Prop := headBackRow.holds Try.pinned (OpenSpec.ofChange headBackWrong)

/-- 'horologelaw28.HeadParses': WHATEVER THE INPUT: true; the input reads as it did. -/
def headParsesSpec : ChangeSpec := { name := "headParses", fn := fun _ => fun
  | [d1, d2] => { results := [.lit (.bool true)], args := [d1, d2] }
  | _ => none }
def headParsesRow : OpenClaim := { program := "ythcegipmninkdaa", sum := "fd989b99bb8fb873ecd04c3eb523e9229efabc1978bd3eb09ca1a4c352b6ca29", func := "horologe/horologelaw28.HeadParses", spec := "headParses", unfollowed := true, recurses := true, apart := false }
def HeadParsesSaid : Prop := headParsesRow.holds Try.pinned (OpenSpec.ofChange headParsesSpec)

/-- ITS FALSE NEIGHBOUR: 'it returns false'. Refute it at one input. -/
def headParsesWrong : ChangeSpec := { name := "headParses", fn := fun _ => fun
  | [d1, d2] => { results := [.lit (.bool false)], args := [d1, d2] }
  | _ => none }
def HeadParsesWrongFalsely : Prop := headParsesRow.holds Try.pinned (OpenSpec.ofChange headParsesWrong)

/- THE SECOND FORM. 'bulk': how many values and letters a reading holds, each counted each time it is reached (what is shared counts as often as it is met; a slice's spare places count too). A statement '..UptoSaid' is the law's where the arguments, and the package variables that the reading takes, are together of bulk at most 1048576: NARROWER than '..Said'. Prove '..Said' where nothing that the law and all that it calls make is longer than what came in: it says more and counts as full. Else prove '..UptoSaid'. A law counts once. -/
mutual
def uptoBulk {H : Type} : DataW H → Nat
  | .lit (.string bytes) => bytes.length + 1
  | .lit _ => 1
  | .nil => 1
  | .ptr d => uptoBulk d + 1
  | .slice elems spare => uptoBulkAll elems + uptoBulkAll spare + 1
  | .agg parts => uptoBulkAll parts + 1
  | .iface _ d => uptoBulk d + 1
  | .map entries => uptoBulkEntries entries + 1
  | .held _ => 1
def uptoBulkAll {H : Type} : List (DataW H) → Nat
  | [] => 0
  | d :: r => uptoBulk d + uptoBulkAll r
def uptoBulkEntries {H : Type} : List (Lit × DataW H) → Nat
  | [] => 0
  | x :: r => uptoBulkEntry x + uptoBulkEntries r
def uptoBulkEntry {H : Type} : Lit × DataW H → Nat
  | (.string bytes, d) => bytes.length + uptoBulk d + 1
  | (_, d) => uptoBulk d + 1
 end
def uptoSmall : (H : Type) → List (DataW H) → Bool := fun _ ds => decide (uptoBulkAll ds ≤ 1048576)
def OpenSpec.upto (s : _root_.Go.ChangeSpec) : _root_.Go.OpenSpec := { _root_.Go.OpenSpec.ofChange s with cond := some uptoSmall }

/-- 'horologelaw28.HeadPuts', WHERE WHAT IT READS IS OF BULK AT MOST 1048576: true; the input reads as it did. -/
def headPutsUptoRow : OpenClaim := { program := "ythcegipmninkdaa", sum := "fd989b99bb8fb873ecd04c3eb523e9229efabc1978bd3eb09ca1a4c352b6ca29", func := "horologe/horologelaw28.HeadPuts", spec := "headPuts", apart := false, narrowed := true }
def HeadPutsUptoSaid : Prop := headPutsUptoRow.holds Try.pinned (OpenSpec.upto headPutsSpec)

/-- 'horologelaw03.OctetsBack', WHERE WHAT IT READS IS OF BULK AT MOST 1048576: true; the input reads as it did. -/
def octetsBackUptoRow : OpenClaim := { program := "ythcegipmninkdaa", sum := "fd989b99bb8fb873ecd04c3eb523e9229efabc1978bd3eb09ca1a4c352b6ca29", func := "horologe/horologelaw03.OctetsBack", spec := "octetsBack", unfollowed := true, recurses := true, apart := false, narrowed := true }
def OctetsBackUptoSaid : Prop := octetsBackUptoRow.holds Try.pinned (OpenSpec.upto octetsBackSpec)

/-- 'horologelaw28.HeadRounds', WHERE WHAT IT READS IS OF BULK AT MOST 1048576: true; the input reads as it did. -/
def headRoundsUptoRow : OpenClaim := { program := "ythcegipmninkdaa", sum := "fd989b99bb8fb873ecd04c3eb523e9229efabc1978bd3eb09ca1a4c352b6ca29", func := "horologe/horologelaw28.HeadRounds", spec := "headRounds", apart := false, narrowed := true }
def HeadRoundsUptoSaid : Prop := headRoundsUptoRow.holds Try.pinned (OpenSpec.upto headRoundsSpec)

/-- 'horologelaw03.OctetsWords', WHERE WHAT IT READS IS OF BULK AT MOST 1048576: true; the input reads as it did. -/
def octetsWordsUptoRow : OpenClaim := { program := "ythcegipmninkdaa", sum := "fd989b99bb8fb873ecd04c3eb523e9229efabc1978bd3eb09ca1a4c352b6ca29", func := "horologe/horologelaw03.OctetsWords", spec := "octetsWords", unfollowed := true, recurses := true, apart := false, narrowed := true }
def OctetsWordsUptoSaid : Prop := octetsWordsUptoRow.holds Try.pinned (OpenSpec.upto octetsWordsSpec)

/-- 'horologelaw15.StampBytes', WHERE WHAT IT READS IS OF BULK AT MOST 1048576: true; the input reads as it did. -/
def stampBytesUptoRow : OpenClaim := { program := "ythcegipmninkdaa", sum := "fd989b99bb8fb873ecd04c3eb523e9229efabc1978bd3eb09ca1a4c352b6ca29", func := "horologe/horologelaw15.StampBytes", spec := "stampBytes", unfollowed := true, recurses := true, apart := false, narrowed := true }
def StampBytesUptoSaid : Prop := stampBytesUptoRow.holds Try.pinned (OpenSpec.upto stampBytesSpec)

/-- 'horologelaw15.StampBack', WHERE WHAT IT READS IS OF BULK AT MOST 1048576: true; the input reads as it did. -/
def stampBackUptoRow : OpenClaim := { program := "ythcegipmninkdaa", sum := "fd989b99bb8fb873ecd04c3eb523e9229efabc1978bd3eb09ca1a4c352b6ca29", func := "horologe/horologelaw15.StampBack", spec := "stampBack", unfollowed := true, recurses := true, apart := false, narrowed := true }
def StampBackUptoSaid : Prop := stampBackUptoRow.holds Try.pinned (OpenSpec.upto stampBackSpec)

/-- 'horologelaw28.HeadBack', WHERE WHAT IT READS IS OF BULK AT MOST 1048576: true; the input reads as it did. -/
def headBackUptoRow : OpenClaim := { program := "ythcegipmninkdaa", sum := "fd989b99bb8fb873ecd04c3eb523e9229efabc1978bd3eb09ca1a4c352b6ca29", func := "horologe/horologelaw28.HeadBack", spec := "headBack", unfollowed := true, recurses := true, apart := false, narrowed := true }
def HeadBackUptoSaid : Prop := headBackUptoRow.holds Try.pinned (OpenSpec.upto headBackSpec)

/-- 'horologelaw28.HeadParses', WHERE WHAT IT READS IS OF BULK AT MOST 1048576: true; the input reads as it did. -/
def headParsesUptoRow : OpenClaim := { program := "ythcegipmninkdaa", sum := "fd989b99bb8fb873ecd04c3eb523e9229efabc1978bd3eb09ca1a4c352b6ca29", func := "horologe/horologelaw28.HeadParses", spec := "headParses", unfollowed := true, recurses := true, apart := false, narrowed := true }
def HeadParsesUptoSaid : Prop := headParsesUptoRow.holds Try.pinned (OpenSpec.upto headParsesSpec)

end Rows
end Go.Proofs.Ythcegipmninkdaa
