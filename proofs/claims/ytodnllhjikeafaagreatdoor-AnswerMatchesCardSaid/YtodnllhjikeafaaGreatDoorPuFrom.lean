/- A part of bytes. -/
import Derived.Test.YtodnllhjikeafaaGreatDoorEvG
import Derived.Test.YtodnllhjikeafaaGreatDoorEvE
namespace Go.Proofs.YtodnllhjikeafaaGreatDoor.Ev
open Go
set_option linter.unusedVariables false
set_option linter.unusedSimpArgs false
theorem from_ (b : List Int) (hl : b.length ≤ 140737488355328) (at_ many : Int) (h0 : -9223372036854775808 ≤ many) (h1 : many ≤ 9223372036854775807) :
    g_octets_from ((), ((b, ()), ((at_, ()), ((many, ()), ())))) = some (
      if at_ < 0 ∨ (b.length : Int) < at_ ∨ many < 0 then ((), (([], ()), ((some 1, ()), ())))
      else if (b.length : Int) - at_ < many then ((), (([], ()), ((some 4, ()), ())))
      else ((), (((b.take (at_ + many).toNat).drop at_.toNat, ()), ((none, ()), ())))) := by
  unfold g_octets_from f_octets_from_m
  simp only
  by_cases c1 : at_ < 0
  · rw [decide_eq_true c1, if_pos (Or.inl c1)]; rfl
  rw [decide_eq_false c1]
  by_cases c2 : at_ > (b.length : Int)
  · rw [decide_eq_true c2, if_pos (Or.inr (Or.inl c2))]; rfl
  rw [decide_eq_false c2]
  by_cases c3 : many < 0
  · rw [decide_eq_true c3, if_pos (Or.inr (Or.inr c3))]; rfl
  rw [decide_eq_false c3, isub_i64 (by omega), if_neg (by omega)]
  by_cases c4 : many > (b.length : Int) - at_
  · rw [decide_eq_true c4, if_pos c4]; rfl
  rw [decide_eq_false c4, if_neg c4, iadd_i64 (by omega), decide_eq_true (show (0 : Int) ≤ at_ by omega), decide_eq_true (by omega), decide_eq_true (by omega)]
  rfl
end Go.Proofs.YtodnllhjikeafaaGreatDoor.Ev
