/- An error's number. -/
import Derived.Test.YtfhaifiipjfffaaGreatDoorEvG
import Derived.Test.YtfhaifiipjfffaaGreatDoorEvE
namespace Go.Proofs.YtfhaifiipjfffaaGreatDoor.Ev
open Go
set_option linter.unusedVariables false
set_option linter.unusedSimpArgs false
theorem num_num (c : Int) : g_hnum_Num ((), ((errOf c, ()), ())) = some ((), ((c, ()), ())) := by
  simp only [g_hnum_Num, f_hnum_Num_m, errOf]
  by_cases h : c = 0
  · subst h; rfl
  · rw [if_neg h]
    simp only [fitsS_dec, Option.bind_some, Option.isNone_none, Option.isNone_some, Option.isSome_none, Option.isSome_some, Bool.not_true, Bool.not_false, cond_true, cond_false, cond_dec, beq_int, bne_int, not_dec, Option.getD_some]
    rw [if_pos h]
end Go.Proofs.YtfhaifiipjfffaaGreatDoor.Ev
