/- The law StampTimes, plain. -/
import Derived.Test.YtecilflgjakhcaaPuEra
import Derived.Test.YtecilflgjakhcaaPuFold
namespace Go.Proofs.Ytecilflgjakhcaa.Ev
open Go
set_option linter.unusedVariables false
set_option linter.unusedSimpArgs false
theorem num_num (c : Int) : g_hnum_Num ((), ((errOf c, ()), ())) = some ((), ((c, ()), ())) := by
  simp only [g_hnum_Num, f_hnum_Num_m, errOf]
  by_cases h : c = 0
  · subst h; rfl
  · rw [if_neg h]
    simp only [Option.bind_some, Option.isNone_none, Option.isNone_some, Option.isSome_none, Option.isSome_some, Bool.not_true, Bool.not_false, cond_true, cond_false, cond_dec, beq_int, bne_int, not_dec, Option.getD_some]
    rw [if_pos h]
def fracV (n : Int) : Int := if 0 ≤ n ∧ n ≤ 999999999 then (n * 4294967296 + 999999999) / 1000000000 else 0
def fracE (n : Int) : Int := if 0 ≤ n ∧ n ≤ 999999999 then 0 else 1
theorem stamp_right' (n : Int) : g_stamp_right ((), ((n, ()), ())) = some ((), ((decide (0 ≤ n ∧ n ≤ 999999999), ()), ())) := by
  simp only [g_stamp_right, f_stamp_right_m, Option.bind_some, Option.isNone_none, Option.isNone_some, Option.isSome_none, Option.isSome_some, Bool.not_true, Bool.not_false, cond_true, cond_false, cond_dec, beq_int, bne_int, not_dec, ge_iff_le]
  by_cases h : 0 ≤ n
  · rw [if_pos h]; congr 4; simp only [decide_eq_decide]; omega
  · rw [if_neg h, decide_eq_false (by omega)]
theorem stamp_fraction (n : Int) (hn : i64 n) : g_stamp_Fraction ((), ((n, ()), ())) = some ((), ((fracV n, ()), ((errOf (fracE n), ()), ()))) := by
  unfold i64 at hn
  simp only [g_stamp_Fraction, f_stamp_Fraction_m, stamp_right', Option.bind_some, Option.isNone_none, Option.isNone_some, Option.isSome_none, Option.isSome_some, Bool.not_true, Bool.not_false, cond_true, cond_false, cond_dec, beq_int, bne_int, not_dec]
  unfold fracV fracE
  by_cases h : 0 ≤ n ∧ n ≤ 999999999
  · have e1 : ishl .u64 n 32 = n * 4294967296 := IntWalk.u64_in _ (by simp only [show min (32 : Int).toNat (IntKind.bits .u64) = 32 from rfl, show (2 : Int) ^ 32 = 4294967296 from rfl]; omega)
    have e2 : iquo .u64 (n * 4294967296 + 999999999) 1000000000 = (n * 4294967296 + 999999999) / 1000000000 := by
      unfold iquo
      rw [Int.tdiv_eq_ediv_of_nonneg (by omega)]
      exact IntWalk.u64_in _ (by omega)
    rw [if_neg (not_not_intro h), iconv_u64, Int.emod_eq_of_lt h.1 (by omega), e1, iadd_u64, isub_u64, show ((n * 4294967296 + 1000000000) % 18446744073709551616 - 1) % 18446744073709551616 = n * 4294967296 + 999999999 by omega, e2, iconv_u32, Int.emod_eq_of_lt (by omega) (by omega), if_pos h, if_pos h]; rfl
  · rw [if_pos h, if_neg h, if_neg h]; rfl
theorem stamp_nano (f : Int) (h0 : 0 ≤ f) (h1 : f < 4294967296) : g_stamp_Nano ((), ((f, ()), ())) = some ((), ((f * 1000000000 / 4294967296, ()), ())) := by
  have e : ishr .u64 (f * 1000000000) 32 = f * 1000000000 / 4294967296 := by
    unfold ishr
    rw [show min (32 : Int).toNat (IntKind.bits .u64) = 32 from rfl, show ((2 : Int) ^ 32) = 4294967296 from rfl, Int.fdiv_eq_ediv_of_nonneg _ (by decide)]
  simp only [g_stamp_Nano, f_stamp_Nano_m]
  rw [iconv_u64, Int.emod_eq_of_lt h0 (by omega), imul_u64, Int.emod_eq_of_lt (by omega) (by omega), e, iconv_i64 (by omega)]
theorem ref15_least (n : Int) (h : 0 ≤ n ∧ n ≤ 999999999) : g_ref15_Least ((), ((fracV n, ()), ((4294967296, ()), ((n, ()), ())))) = some ((), ((true, ()), ())) := by
  simp only [g_ref15_Least, f_ref15_Least_m, Option.bind_some, Option.isNone_none, Option.isNone_some, Option.isSome_none, Option.isSome_some, Bool.not_true, Bool.not_false, cond_true, cond_false, cond_dec, beq_int, bne_int, not_dec, ge_iff_le]
  unfold fracV
  rw [if_pos h]
  generalize hx : (n * 4294967296 + 999999999) / 1000000000 = x
  rw [imul_u64, imul_u64, Int.emod_eq_of_lt (a := x * 1000000000) (by omega) (by omega), Int.emod_eq_of_lt (a := n * 4294967296) (by omega) (by omega), if_pos (by omega)]
  by_cases h0 : x = 0
  · rw [if_pos h0]
  · rw [if_neg h0, isub_u64, Int.emod_eq_of_lt (a := x - 1) (by omega) (by omega), imul_u64, Int.emod_eq_of_lt (a := (x - 1) * 1000000000) (by omega) (by omega), decide_eq_true (by omega)]
theorem ref15_whole (f : Int) (h0 : 0 ≤ f) (h1 : f < 4294967296) : g_ref15_Whole ((), ((f * 1000000000 / 4294967296, ()), ((f, ()), ((4294967296, ()), ())))) = some ((), ((true, ()), ())) := by
  simp only [g_ref15_Whole, f_ref15_Whole_m, Option.bind_some, Option.isNone_none, Option.isNone_some, Option.isSome_none, Option.isSome_some, Bool.not_true, Bool.not_false, cond_true, cond_false, cond_dec, beq_int, bne_int, not_dec, gt_iff_lt]
  generalize hx : f * 1000000000 / 4294967296 = x
  rw [imul_u64, imul_u64, Int.emod_eq_of_lt (a := x * 4294967296) (by omega) (by omega), Int.emod_eq_of_lt (a := f * 1000000000) (by omega) (by omega), if_pos (by omega), iadd_u64, Int.emod_eq_of_lt (a := x + 1) (by omega) (by omega),
    imul_u64, Int.emod_eq_of_lt (a := (x + 1) * 4294967296) (by omega) (by omega), decide_eq_true (by omega)]
theorem ref15_back (p : Int) (h : i64 p) : g_ref15_Back ((), ((p, ()), ())) = some ((), ((i64V (p - 2208988800), ()), ((i64E (p - 2208988800), ()), ()))) := by
  unfold i64 at h
  have b1 := big_of p h
  have b2 := big_of 2208988800 (by omega)
  have m := big_minus 2208988800
  have q := big_plus p (-2208988800) (sm_of (by omega)) (sm_of (by omega))
  have s := big_small (p + -2208988800) (sm_of (by omega))
  simp only [big] at b1 b2 m q s
  simp only [g_ref15_Back, f_ref15_Back_m, begin_1900, b1, b2, m, q, s, Option.bind_some, Option.isNone_none, Option.isNone_some, Option.isSome_none, Option.isSome_some, Bool.not_true, Bool.not_false, cond_true, cond_false, cond_dec, beq_int, bne_int, not_dec]
  rfl
theorem stamp_of (t n : Int) (hn : i64 n) : g_stamp_Of ((), ((t, ()), ((n, ()), ()))) = some ((), ((if fracE n = 0 then t % 4294967296 else 0, (fracV n, ())), ((errOf (fracE n), ()), ()))) := by
  simp only [g_stamp_Of, f_stamp_Of_m, stamp_fraction n hn, Option.bind_some, Option.isNone_none, Option.isNone_some, Option.isSome_none, Option.isSome_some, Bool.not_true, Bool.not_false, cond_true, cond_false, cond_dec, beq_int, bne_int, not_dec, errOf_none]
  by_cases h : 0 ≤ n ∧ n ≤ 999999999
  · have hE : fracE n = 0 := if_pos h
    simp only [hE, not_true_eq_false, if_false, if_true, g_era_Fold_u32, f_era_Fold_u32_m, iconv_u32, Option.bind_some]; rfl
  · have hE : fracE n = 1 := if_neg h
    have hV : fracV n = 0 := if_neg h
    rw [hE, hV]; rfl
theorem stamp_time (s f p : Int) (hs : 0 ≤ s ∧ s < 4294967296) (hf : 0 ≤ f ∧ f < 4294967296) (hp : i64 p) : g_stamp_Time ((), ((s, (f, ())), ((p, ()), ()))) =
    some ((), ((i64V (nearV s p), ()), ((if i64E (nearV s p) = 0 then f * 1000000000 / 4294967296 else 0, ()), ((errOf (i64E (nearV s p)), ()), ())))) := by
  simp only [g_stamp_Time, f_stamp_Time_m, era_unfold s p hs.1 hs.2 hp, Option.bind_some, Option.isNone_none, Option.isNone_some, Option.isSome_none, Option.isSome_some, Bool.not_true, Bool.not_false, cond_true, cond_false, cond_dec, beq_int, bne_int, not_dec, errOf_none]
  by_cases h : i64E (nearV s p) = 0
  · simp only [h, not_true_eq_false, if_false, if_true, stamp_nano f hf.1 hf.2, Option.bind_some]; rfl
  · have : i64V (nearV s p) = 0 := by
      unfold i64E at h; unfold i64V
      by_cases c : i64 (nearV s p)
      · rw [if_pos c] at h; exact absurd rfl h
      · rw [if_neg c]
    rw [if_pos h, if_neg h, this]
theorem stamp_alive : g_law15_alive ((), ()) = some ((), ((true, ()), ())) := by
  simp only [g_law15_alive, f_law15_alive_m, stamp_fraction 500000000 (by unfold i64; omega)]
  have e1 : fracV 500000000 = 2147483648 := by decide
  have e2 : fracE 500000000 = 0 := by decide
  simp only [e1, e2, errOf_zero, stamp_nano 2147483648 (by omega) (by omega), Option.bind_some, Option.isNone_none, Option.isNone_some, Option.isSome_none, Option.isSome_some, Bool.not_true, Bool.not_false, cond_true, cond_false, cond_dec, beq_int, bne_int, not_dec]
  rfl
theorem stamp_times (t p n : Int) (ht : i64 t) (hp : i64 p) (hn : i64 n) : g_law15_StampTimes ((), ((t, ()), ((p, ()), ((n, ()), ())))) = some ((), ((true, ()), ())) := by
  have hfold : ∀ p : Int, i64 p → g_ref13_Fold ((), ((p, ()), ((32, ()), ()))) = some ((), ((p % 4294967296, ()), ())) := fun p hp => by
    have := ref13_fold p 32 (by decide) hp
    rw [show (2 : Int) ^ 32 = 4294967296 from rfl] at this; exact this
  -- behind the checks
  have h14 : Evn (fun j => (f_law15_StampTimes_t j).2.1 ((), ((t, ()), ((false, ()), ())))) ((), ((true, ()), ())) := by
    refine Evn.some 1 fun j => ?_
    have ha := ref15_ahead t ht
    have hb := ref15_back t ht
    have hc : g_stamp_FromPosix ((), ((t, ()), ())) = some ((), ((i64V (t + 2208988800), ()), ((errOf (i64E (t + 2208988800)), ()), ()))) := by
      simp only [g_stamp_FromPosix, f_stamp_FromPosix_m, num_add' t 2208988800 ht (by unfold i64; omega), Option.bind_some]
    have hd : g_stamp_ToPosix ((), ((t, ()), ())) = some ((), ((i64V (t - 2208988800), ()), ((errOf (i64E (t - 2208988800)), ()), ()))) := by
      simp only [g_stamp_ToPosix, f_stamp_ToPosix_m, num_sub' t 2208988800 ht (by unfold i64; omega), Option.bind_some]
    have ha' : g_ref15_Ahead ((), ((t, ()), ())) = some ((), ((i64V (t + 2208988800), ()), ((i64E (t + 2208988800), ()), ()))) := ha
    simp only [t_law15_StampTimes, f_law15_StampTimes_p14, ha', hb, hc, hd, num_num, Option.bind_some, Option.isNone_none, Option.isNone_some, Option.isSome_none, Option.isSome_some, Bool.not_true, Bool.not_false, cond_true, cond_false, cond_dec, beq_int, bne_int, not_dec, if_true, decide_true]
  have h5 : ∀ s f : Int, 0 ≤ s ∧ s < 4294967296 → 0 ≤ f ∧ f < 4294967296 → Evn (fun j => (f_law15_StampTimes_t j).1 (((s, (f, ())), ()), ((t, ()), ((p, ()), ((), ()))))) ((), ((true, ()), ())) := fun s f hs hf => by
    refine h14.step fun j => ?_
    have hb := ref13_bits32 hfold s p hs.1 hs.2 hp
    simp only [t_law15_StampTimes, f_law15_StampTimes_p5, stamp_time s f p hs hf hp, iconv_u64]
    rw [Int.emod_eq_of_lt hs.1 (by omega), hb]
    simp only [num_num, Option.bind_some, Option.isNone_none, Option.isNone_some, Option.isSome_none, Option.isSome_some, Bool.not_true, Bool.not_false, cond_true, cond_false, cond_dec, beq_int, bne_int, not_dec, ne_eq, not_true_eq_false, if_false]
    by_cases h : i64E (nearV s p) = 0
    · rw [if_neg (not_not_intro h), if_pos h, if_pos h, if_neg (by omega), Int.emod_eq_of_lt (a := f * 1000000000 / 4294967296) (by omega) (by omega), Int.emod_eq_of_lt hf.1 (by omega), ref15_whole f hf.1 hf.2]
      rfl
    · rw [if_pos h, if_neg h, if_neg (by decide), if_neg h]
  have hfr : 0 ≤ fracV n ∧ fracV n < 4294967296 := by unfold fracV; split <;> omega
  by_cases h : 0 ≤ n ∧ n ≤ 999999999
  · have hE : fracE n = 0 := if_pos h
    refine ((h5 (t % 4294967296) (fracV n) (by omega) hfr).cast fun j => ?_).lim
    have hl := ref15_least n h
    simp only [f_law15_StampTimes_m, stamp_alive, stamp_of t n hn, hE, if_true, errOf_zero, hfold t ht, Option.bind_some, Option.isNone_none, Option.isNone_some, Option.isSome_none, Option.isSome_some, Bool.not_true, Bool.not_false, cond_true, cond_false, cond_dec, beq_int, bne_int, not_dec, gt_iff_lt]
    rw [if_neg (by omega), if_neg (by omega), iconv_i64 (by omega), if_neg (by simp), iconv_u64, Int.emod_eq_of_lt hfr.1 (by omega), iconv_u64, Int.emod_eq_of_lt h.1 (by omega), hl]
    rfl
  · have hE : fracE n = 1 := if_neg h
    have hV : fracV n = 0 := if_neg h
    have key := h5 0 0 (by decide) (by decide)
    have hi : g_hnum_Is ((), ((errOf 1, ()), ((1, ()), ()))) = some ((), ((true, ()), ())) := rfl
    refine (key.cast fun j => ?_).lim
    simp only [f_law15_StampTimes_m, stamp_alive, stamp_of t n hn, hE, hV, Option.bind_some, Option.isNone_none, Option.isNone_some, Option.isSome_none, Option.isSome_some, Bool.not_true, Bool.not_false, cond_true, cond_false, cond_dec, beq_int, bne_int, not_dec, gt_iff_lt, hi]
    by_cases c : n < 0
    · rw [if_pos c]; rfl
    · rw [if_neg c, if_pos (by omega)]; rfl
end Go.Proofs.Ytecilflgjakhcaa.Ev
