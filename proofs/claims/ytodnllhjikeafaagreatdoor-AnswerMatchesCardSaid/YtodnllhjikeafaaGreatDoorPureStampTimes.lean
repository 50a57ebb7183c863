/- The law StampTimes, plain. -/
import Derived.Test.YtodnllhjikeafaaGreatDoorPuEra
import Derived.Test.YtodnllhjikeafaaGreatDoorPuFold
namespace Go.Proofs.YtodnllhjikeafaaGreatDoor.Ev
open Go
set_option linter.unusedVariables false
set_option linter.unusedSimpArgs false
theorem num_num (c : Int) : g_hnum_Num ((), ((errOf c, ()), ())) = some ((), ((c, ()), ())) := by
  simp only [g_hnum_Num, f_hnum_Num_m, errOf]
  by_cases h : c = 0
  · subst h; rfl
  · rw [if_neg h]
    simp only [fitsS_dec, Option.bind_some, Option.isNone_none, Option.isNone_some, Option.isSome_none, Option.isSome_some, Bool.not_true, Bool.not_false, cond_true, cond_false, cond_dec, beq_int, bne_int, not_dec, Option.getD_some]
    rw [if_pos h]
def stFracV (n : Int) : Int := if 0 ≤ n ∧ n ≤ 999999999 then (n * 4294967296 + 999999999) / 1000000000 else 0
def stFracE (n : Int) : Int := if 0 ≤ n ∧ n ≤ 999999999 then 0 else 1
theorem stamp_right' (n : Int) : g_stamp_right ((), ((n, ()), ())) = some ((), ((decide (0 ≤ n ∧ n ≤ 999999999), ()), ())) := by
  simp only [g_stamp_right, f_stamp_right_m, fitsS_dec, Option.bind_some, Option.isNone_none, Option.isNone_some, Option.isSome_none, Option.isSome_some, Bool.not_true, Bool.not_false, cond_true, cond_false, cond_dec, beq_int, bne_int, not_dec, ge_iff_le]
  by_cases h : 0 ≤ n
  · rw [if_pos h]; congr 4; simp only [decide_eq_decide]; omega
  · rw [if_neg h, decide_eq_false (by omega)]
theorem stamp_fraction (n : Int) (hn : i64 n) : g_stamp_Fraction ((), ((n, ()), ())) = some ((), ((stFracV n, ()), ((errOf (stFracE n), ()), ()))) := by
  unfold i64 at hn
  simp only [g_stamp_Fraction, f_stamp_Fraction_m, stamp_right', fitsS_dec, Option.bind_some, Option.isNone_none, Option.isNone_some, Option.isSome_none, Option.isSome_some, Bool.not_true, Bool.not_false, cond_true, cond_false, cond_dec, beq_int, bne_int, not_dec]
  unfold stFracV stFracE
  by_cases h : 0 ≤ n ∧ n ≤ 999999999
  · have e1 : ishl .u64 n 32 = n * 4294967296 := IntWalk.u64_in _ (by simp only [show min (32 : Int).toNat (IntKind.bits .u64) = 32 from rfl, show (2 : Int) ^ 32 = 4294967296 from rfl]; omega)
    have e2 : iquo .u64 (n * 4294967296 + 999999999) 1000000000 = (n * 4294967296 + 999999999) / 1000000000 := by
      unfold iquo
      rw [Int.tdiv_eq_ediv_of_nonneg (by omega)]
      exact IntWalk.u64_in _ (by omega)
    rw [if_neg (not_not_intro h), iconv_u64, Int.emod_eq_of_lt h.1 (by omega), e1, iadd_u64, isub_u64, show ((n * 4294967296 + 1000000000) % 18446744073709551616 - 1) % 18446744073709551616 = n * 4294967296 + 999999999 by omega, e2, iconv_u32, Int.emod_eq_of_lt (by omega) (by omega), if_pos h, if_pos h]; rfl
  · rw [if_pos h, if_neg h, if_neg h]; rfl
theorem stamp_of (t n : Int) (hn : i64 n) : g_stamp_Of ((), ((t, ()), ((n, ()), ()))) = some ((), ((if stFracE n = 0 then t % 4294967296 else 0, (stFracV n, ())), ((errOf (stFracE n), ()), ()))) := by
  simp only [g_stamp_Of, f_stamp_Of_m, stamp_fraction n hn, fitsS_dec, Option.bind_some, Option.isNone_none, Option.isNone_some, Option.isSome_none, Option.isSome_some, Bool.not_true, Bool.not_false, cond_true, cond_false, cond_dec, beq_int, bne_int, not_dec, errOf_none]
  by_cases h : 0 ≤ n ∧ n ≤ 999999999
  · have hE : stFracE n = 0 := if_pos h
    simp only [hE, not_true_eq_false, if_false, if_true, g_era_Fold_u32, f_era_Fold_u32_m, iconv_u32, Option.bind_some]; rfl
  · have hE : stFracE n = 1 := if_neg h
    have hV : stFracV n = 0 := if_neg h
    rw [hE, hV]; rfl
end Go.Proofs.YtodnllhjikeafaaGreatDoor.Ev
