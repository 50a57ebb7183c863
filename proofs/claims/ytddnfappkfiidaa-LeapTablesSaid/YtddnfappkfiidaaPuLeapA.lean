/- Leap tables: layer 10's fixed fact. -/
import Derived.Test.YtddnfappkfiidaaPuLeap2
namespace Go.Proofs.Ytddnfappkfiidaa.Ev
open Go
set_option linter.unusedVariables false
set_option linter.unusedSimpArgs false
theorem leap_alive : g_law10_alive ((), ()) = some ((), ((true, ()), ())) := by
  have hg := (good_of demo_good).1
  obtain ⟨k, hk, hb⟩ := behind hg 5 9 911
  have : k = 1 := cnt_unique hk ⟨by decide, fun i hi => by obtain rfl : i = 0 := by omega
                                                           decide, fun i h1 h2 => by
      have h2 : i < 2 := h2
      obtain rfl : i = 1 := by omega
      decide⟩
  subst this
  have hl := table_leap hg 5 9 hk hb
  rw [show leapV [(730, 10), (912, 11)] 911 1 = 1 by decide] at hl
  simp only [g_law10_alive, f_law10_alive_m, leap_new, demo_good, if_true, errOf_zero, fitsS_dec, Option.bind_some, Option.isNone_none, Option.isNone_some, Option.isSome_none, Option.isSome_some, Bool.not_true, Bool.not_false, cond_true, cond_false, cond_dec, beq_int, bne_int, not_dec, g_leap_Table_Length, f_leap_Table_Length_m, hl, g_leap_Table_Len, f_leap_Table_Len_m, g_leap_Table_list, f_leap_Table_list_m]
  rw [iadd_i64 (by omega), if_pos (by omega)]; rfl
end Go.Proofs.Ytddnfappkfiidaa.Ev
