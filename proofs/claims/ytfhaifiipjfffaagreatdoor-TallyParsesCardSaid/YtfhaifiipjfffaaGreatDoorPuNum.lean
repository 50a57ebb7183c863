/- Sums that may be too large; bytes that are the same; an error's number. -/
import Derived.Test.YtfhaifiipjfffaaGreatDoorEvG
import Derived.Test.YtfhaifiipjfffaaGreatDoorEvE
namespace Go.Proofs.YtfhaifiipjfffaaGreatDoor.Ev
open Go
set_option linter.unusedVariables false
set_option linter.unusedSimpArgs false
@[reducible] def i64 (a : Int) : Prop := -9223372036854775808 ≤ a ∧ a ≤ 9223372036854775807
theorem num_add (a b : Int) (ha : i64 a) (hb : i64 b) : g_num_Add ((), ((a, ()), ((b, ()), ()))) = some ((), ((if i64 (a + b) then a + b else 0, ()), ((if i64 (a + b) then none else some 5, ()), ()))) := by
  simp only [g_num_Add, f_num_Add_m, fitsS_dec, Option.bind_some, Option.isNone_none, Option.isNone_some, Option.isSome_none, Option.isSome_some, Bool.not_true, Bool.not_false, cond_true, cond_false, cond_dec, beq_int, bne_int, not_dec, gt_iff_lt]
  unfold i64 at *
  by_cases h : -9223372036854775808 ≤ a + b ∧ a + b ≤ 9223372036854775807
  · rw [iadd_i64 h, if_pos h, if_pos h]
    by_cases h1 : 0 < b
    · rw [if_pos h1, if_neg (by omega), if_neg (by omega)]
    · rw [if_neg h1]
      by_cases h2 : b < 0
      · rw [if_pos h2, if_neg (by omega)]
      · rw [if_neg h2]
  · rw [if_neg h, if_neg h]
    have e : iadd .i64 a b = (a + b + 9223372036854775808) % 18446744073709551616 - 9223372036854775808 := wrap_i64 _
    rw [e]
    by_cases h1 : 0 < b
    · rw [if_pos h1, if_pos (by omega)]
    · rw [if_neg h1, if_pos (by omega), if_pos (by omega)]
theorem be_byte (w : Int) : ∀ (n : Nat), ∀ x ∈ be w n, 0 ≤ x ∧ x < 256
  | 0, x, h => by simp [be] at h
  | n + 1, x, h => by
    rcases List.mem_cons.1 h with rfl | h
    · omega
    · exact be_byte w n x h
end Go.Proofs.YtfhaifiipjfffaaGreatDoor.Ev
