/- A part of bytes, cut. -/
import Derived.Test.YtodnllhjikeafaaGreatDoorPuFrom
import Derived.Test.YtodnllhjikeafaaGreatDoorPuClone
namespace Go.Proofs.YtodnllhjikeafaaGreatDoor.Ev
open Go
set_option linter.unusedVariables false
set_option linter.unusedSimpArgs false
theorem octets_cut (b : List Int) (hl : b.length ≤ 100000000) (at_ many : Int) (h0 : -9223372036854775808 ≤ many) (h1 : many ≤ 9223372036854775807) :
    g_octets_Cut ((), ((b, ()), ((at_, ()), ((many, ()), ())))) = some (
      if at_ < 0 ∨ (b.length : Int) < at_ ∨ many < 0 then (([], ()), ((), ((some 1, ()), ())))
      else if (b.length : Int) - at_ < many then (([], ()), ((), ((some 4, ()), ())))
      else (((b.take (at_ + many).toNat).drop at_.toNat, ()), ((), ((none, ()), ())))) := by
  unfold g_octets_Cut f_octets_Cut_m
  simp only
  rw [from_ b (by omega) at_ many h0 h1]
  by_cases c1 : at_ < 0 ∨ (b.length : Int) < at_ ∨ many < 0
  · rw [if_pos c1, if_pos c1]; rfl
  rw [if_neg c1, if_neg c1]
  by_cases c2 : (b.length : Int) - at_ < many
  · rw [if_pos c2, if_pos c2]; rfl
  rw [if_neg c2, if_neg c2]
  simp only [Option.bind_some, Option.isNone_none, Bool.not_true, cond_false]
  rw [clone _ (by simp only [List.length_drop, List.length_take]; omega)]
  rfl
end Go.Proofs.YtodnllhjikeafaaGreatDoor.Ev
