/- The law StampTimes, plain. -/
import Derived.Test.YthcegipmninkdaaPuEra
import Derived.Test.YthcegipmninkdaaPuFold
namespace Go.Proofs.Ythcegipmninkdaa.Ev
open Go
set_option linter.unusedVariables false
set_option linter.unusedSimpArgs false
theorem num_num (c : Int) : g_hnum_Num ((), ((errOf c, ()), ())) = some ((), ((c, ()), ())) := by
  simp only [g_hnum_Num, f_hnum_Num_m, errOf]
  by_cases h : c = 0
  · subst h; rfl
  · rw [if_neg h]
    simp only [fitsS_dec, Option.bind_some, Option.isNone_none, Option.isNone_some, Option.isSome_none, Option.isSome_some, Bool.not_true, Bool.not_false, cond_true, cond_false, cond_dec, beq_int, bne_int, not_dec, Option.getD_some]
    rw [if_pos h]
def fracV (n : Int) : Int := if 0 ≤ n ∧ n ≤ 999999999 then (n * 4294967296 + 999999999) / 1000000000 else 0
def fracE (n : Int) : Int := if 0 ≤ n ∧ n ≤ 999999999 then 0 else 1
theorem stamp_right' (n : Int) : g_stamp_right ((), ((n, ()), ())) = some ((), ((decide (0 ≤ n ∧ n ≤ 999999999), ()), ())) := by
  simp only [g_stamp_right, f_stamp_right_m, fitsS_dec, Option.bind_some, Option.isNone_none, Option.isNone_some, Option.isSome_none, Option.isSome_some, Bool.not_true, Bool.not_false, cond_true, cond_false, cond_dec, beq_int, bne_int, not_dec, ge_iff_le]
  by_cases h : 0 ≤ n
  · rw [if_pos h]; congr 4; simp only [decide_eq_decide]; omega
  · rw [if_neg h, decide_eq_false (by omega)]
theorem stamp_fraction (n : Int) (hn : i64 n) : g_stamp_Fraction ((), ((n, ()), ())) = some ((), ((fracV n, ()), ((errOf (fracE n), ()), ()))) := by
  unfold i64 at hn
  simp only [g_stamp_Fraction, f_stamp_Fraction_m, stamp_right', fitsS_dec, Option.bind_some, Option.isNone_none, Option.isNone_some, Option.isSome_none, Option.isSome_some, Bool.not_true, Bool.not_false, cond_true, cond_false, cond_dec, beq_int, bne_int, not_dec]
  unfold fracV fracE
  by_cases h : 0 ≤ n ∧ n ≤ 999999999
  · have e1 : ishl .u64 n 32 = n * 4294967296 := IntWalk.u64_in _ (by simp only [show min (32 : Int).toNat (IntKind.bits .u64) = 32 from rfl, show (2 : Int) ^ 32 = 4294967296 from rfl]; omega)
    have e2 : iquo .u64 (n * 4294967296 + 999999999) 1000000000 = (n * 4294967296 + 999999999) / 1000000000 := by
      unfold iquo
      rw [Int.tdiv_eq_ediv_of_nonneg (by omega)]
      exact IntWalk.u64_in _ (by omega)
    rw [if_neg (not_not_intro h), iconv_u64, Int.emod_eq_of_lt h.1 (by omega), e1, iadd_u64, isub_u64, show ((n * 4294967296 + 1000000000) % 18446744073709551616 - 1) % 18446744073709551616 = n * 4294967296 + 999999999 by omega, e2, iconv_u32, Int.emod_eq_of_lt (by omega) (by omega), if_pos h, if_pos h]; rfl
  · rw [if_pos h, if_neg h, if_neg h]; rfl
theorem stamp_nano (f : Int) (h0 : 0 ≤ f) (h1 : f < 4294967296) : g_stamp_Nano ((), ((f, ()), ())) = some ((), ((f * 1000000000 / 4294967296, ()), ())) := by
  have e : ishr .u64 (f * 1000000000) 32 = f * 1000000000 / 4294967296 := by
    unfold ishr
    rw [show min (32 : Int).toNat (IntKind.bits .u64) = 32 from rfl, show ((2 : Int) ^ 32) = 4294967296 from rfl, Int.fdiv_eq_ediv_of_nonneg _ (by decide)]
  simp only [g_stamp_Nano, f_stamp_Nano_m]
  rw [iconv_u64, Int.emod_eq_of_lt h0 (by omega), imul_u64, Int.emod_eq_of_lt (by omega) (by omega), e, iconv_i64 (by omega)]
theorem stamp_of (t n : Int) (hn : i64 n) : g_stamp_Of ((), ((t, ()), ((n, ()), ()))) = some ((), ((if fracE n = 0 then t % 4294967296 else 0, (fracV n, ())), ((errOf (fracE n), ()), ()))) := by
  simp only [g_stamp_Of, f_stamp_Of_m, stamp_fraction n hn, fitsS_dec, Option.bind_some, Option.isNone_none, Option.isNone_some, Option.isSome_none, Option.isSome_some, Bool.not_true, Bool.not_false, cond_true, cond_false, cond_dec, beq_int, bne_int, not_dec, errOf_none]
  by_cases h : 0 ≤ n ∧ n ≤ 999999999
  · have hE : fracE n = 0 := if_pos h
    simp only [hE, not_true_eq_false, if_false, if_true, g_era_Fold_u32, f_era_Fold_u32_m, iconv_u32, Option.bind_some]; rfl
  · have hE : fracE n = 1 := if_neg h
    have hV : fracV n = 0 := if_neg h
    rw [hE, hV]; rfl
theorem stamp_time (s f p : Int) (hs : 0 ≤ s ∧ s < 4294967296) (hf : 0 ≤ f ∧ f < 4294967296) (hp : i64 p) : g_stamp_Time ((), ((s, (f, ())), ((p, ()), ()))) =
    some ((), ((i64V (nearV s p), ()), ((if i64E (nearV s p) = 0 then f * 1000000000 / 4294967296 else 0, ()), ((errOf (i64E (nearV s p)), ()), ())))) := by
  simp only [g_stamp_Time, f_stamp_Time_m, era_unfold s p hs.1 hs.2 hp, fitsS_dec, Option.bind_some, Option.isNone_none, Option.isNone_some, Option.isSome_none, Option.isSome_some, Bool.not_true, Bool.not_false, cond_true, cond_false, cond_dec, beq_int, bne_int, not_dec, errOf_none]
  by_cases h : i64E (nearV s p) = 0
  · simp only [h, not_true_eq_false, if_false, if_true, stamp_nano f hf.1 hf.2, Option.bind_some]; rfl
  · have : i64V (nearV s p) = 0 := by
      unfold i64E at h; unfold i64V
      by_cases c : i64 (nearV s p)
      · rw [if_pos c] at h; exact absurd rfl h
      · rw [if_neg c]
    rw [if_pos h, if_neg h, this]
theorem stamp_alive : g_law15_alive ((), ()) = some ((), ((true, ()), ())) := by
  simp only [g_law15_alive, f_law15_alive_m, stamp_fraction 500000000 (by unfold i64; omega)]
  have e1 : fracV 500000000 = 2147483648 := by decide
  have e2 : fracE 500000000 = 0 := by decide
  simp only [e1, e2, errOf_zero, stamp_nano 2147483648 (by omega) (by omega), fitsS_dec, Option.bind_some, Option.isNone_none, Option.isNone_some, Option.isSome_none, Option.isSome_some, Bool.not_true, Bool.not_false, cond_true, cond_false, cond_dec, beq_int, bne_int, not_dec]
  rfl
end Go.Proofs.Ythcegipmninkdaa.Ev
