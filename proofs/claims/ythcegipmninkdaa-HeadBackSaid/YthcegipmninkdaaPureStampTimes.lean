/- The law StampTimes, plain. -/
import Derived.Test.YthcegipmninkdaaPuEra
import Derived.Test.YthcegipmninkdaaPuFold
namespace Go.Proofs.Ythcegipmninkdaa.Ev
open Go
set_option linter.unusedVariables false
set_option linter.unusedSimpArgs false
theorem num_num (c : Int) : g_hnum_Num ((), ((errOf c, ()), ())) = some ((), ((c, ()), ())) := by
  simp only [g_hnum_Num, f_hnum_Num_m, errOf]
  by_cases h : c = 0
  · subst h; rfl
  · rw [if_neg h]
    simp only [fitsS_dec, Option.bind_some, Option.isNone_none, Option.isNone_some, Option.isSome_none, Option.isSome_some, Bool.not_true, Bool.not_false, cond_true, cond_false, cond_dec, beq_int, bne_int, not_dec, Option.getD_some]
    rw [if_pos h]
def fracV (n : Int) : Int := if 0 ≤ n ∧ n ≤ 999999999 then (n * 4294967296 + 999999999) / 1000000000 else 0
def fracE (n : Int) : Int := if 0 ≤ n ∧ n ≤ 999999999 then 0 else 1
end Go.Proofs.Ythcegipmninkdaa.Ev
