/- The law NistLeaps, plain. -/
import Derived.Test.YticfncahnhbhbaaPuNist2
import Derived.Test.YticfncahnhbhbaaPuLeap2
namespace Go.Proofs.Yticfncahnhbhbaa.Ev
open Go
set_option linter.unusedVariables false
set_option linter.unusedSimpArgs false
theorem nl_none_leap (n : Int) : g_leap_Table_Leap ((), ((none, ()), ((n, ()), ()))) = some ((), ((0, ()), ())) := by
  have h : g_slices_BinarySearchFunc_leap_Row_leap_Row_i64_leap_Table_behind_1 ((), (([], ()), ((n, ()), ((), ())))) = some ((), ((0, ()), ((false, ()), ()))) := by
    refine (Evn.some 1 fun k => ?_).lim
    simp only [f_slices_BinarySearchFunc_leap_Row_leap_Row_i64_leap_Table_behind_1_m, t_slices_BinarySearchFunc_leap_Row_leap_Row_i64_leap_Table_behind_1, f_slices_BinarySearchFunc_leap_Row_leap_Row_i64_leap_Table_behind_1_p4, fitsS_dec, Option.bind_some, Option.isNone_none, Option.isNone_some, Option.isSome_none, Option.isSome_some, Bool.not_true, Bool.not_false, cond_true, cond_false, cond_dec, beq_int, bne_int, not_dec, List.length_nil]
    rw [if_neg (by decide), if_neg (by decide)]
  have hb : g_leap_Table_behind ((), ((none, ()), ((n, ()), ()))) = some ((), ((0, ()), ())) := by
    simp only [g_leap_Table_behind, f_leap_Table_behind_m, g_leap_Table_list, f_leap_Table_list_m, fitsS_dec, Option.bind_some, Option.isNone_none, Option.isNone_some, Option.isSome_none, Option.isSome_some, Bool.not_true, Bool.not_false, cond_true, cond_false, cond_dec, beq_int, bne_int, not_dec, h]
  have hr : g_leap_Table_Row ((), ((none, ()), ((0, ()), ()))) = some ((), ((0, (0, ())), ((false, ()), ()))) := by
    simp only [g_leap_Table_Row, f_leap_Table_Row_m, g_leap_Table_Len, f_leap_Table_Len_m, g_leap_Table_list, f_leap_Table_list_m, fitsS_dec, Option.bind_some, Option.isNone_none, Option.isNone_some, Option.isSome_none, Option.isSome_some, Bool.not_true, Bool.not_false, cond_true, cond_false, cond_dec, beq_int, bne_int, not_dec, List.length_nil]; simp
  simp only [g_leap_Table_Leap, f_leap_Table_Leap_m, hb, hr, fitsS_dec, Option.bind_some, Option.isNone_none, Option.isNone_some, Option.isSome_none, Option.isSome_some, Bool.not_true, Bool.not_false, cond_true, cond_false, cond_dec, beq_int, bne_int, not_dec]
theorem month_end {n y m d : Int} (hn : there n) (h : IsDate n y m d) : mErr y m = 0 ∧ dErr y m (mlen y m) = 0 ∧ (-9999 ≤ y ∧ y ≤ 9999) := by
  have hy := year_bound h hn
  have hm := mlen_range y m
  obtain ⟨hm1, _, _⟩ := h
  refine ⟨?_, dErr_zero.2 ⟨hy, hm1, by omega, by omega⟩, hy⟩
  unfold mErr; rw [if_neg (by omega), if_neg (by omega)]
theorem nist_leap_bad (t : Option (List (Int × Int) × (Int × Int))) (n : Int) (h : ¬ there n) : g_nist_Leap ((), ((t, ()), ((n, ()), ()))) = some ((), ((0, ()), ((errOf 13, ()), ()))) := by
  simp only [g_nist_Leap, f_nist_Leap_m, day_date_bad h, fitsS_dec, Option.bind_some, Option.isNone_none, Option.isNone_some, Option.isSome_none, Option.isSome_some, Bool.not_true, Bool.not_false, cond_true, cond_false, cond_dec, beq_int, bne_int, not_dec]; rfl
theorem nist_leap_eq {t : Option (List (Int × Int) × (Int × Int))} {n y m d v : Int} (hn : there n) (hd : IsDate n y m d) (hv : -1 ≤ v ∧ v ≤ 1)
    (ht : g_leap_Table_Leap ((), ((t, ()), ((dnum y m (mlen y m), ()), ()))) = some ((), ((v, ()), ()))) : g_nist_Leap ((), ((t, ()), ((n, ()), ()))) = some ((), ((v % 3, ()), ((none, ()), ()))) := by
  obtain ⟨e1, e2, _⟩ := month_end hn hd
  simp only [g_nist_Leap, f_nist_Leap_m, day_date hn hd, day_month, day_of, e1, e2, errOf_zero, if_true, ht, nist_modulo v 3 (by omega) (by omega), fitsS_dec, Option.bind_some, Option.isNone_none, Option.isNone_some, Option.isSome_none, Option.isSome_some, Bool.not_true, Bool.not_false, cond_true, cond_false, cond_dec, beq_int, bne_int, not_dec]
theorem nist_leaps (l : List (Int × Int)) (u e n : Int) : g_law26_NistLeaps ((), (tb l u e, ((n, ()), ()))) = some ((), ((true, ()), ())) := by
  simp only [g_law26_NistLeaps, f_law26_NistLeaps_m, nist_alive, g_law10_Long, f_law10_Long_m, ref07_there, fitsS_dec, Option.bind_some, Option.isNone_none, Option.isNone_some, Option.isSome_none, Option.isSome_some, Bool.not_true, Bool.not_false, cond_true, cond_false, cond_dec, beq_int, bne_int, not_dec, gt_iff_lt]
  by_cases c0 : 296 < l.length
  · rw [if_pos (by omega)]
  rw [if_neg (by omega)]
  have hm := made l (by omega) u e
  have hc := ref10_check l u e
  by_cases hn : there n
  · obtain ⟨y, m, d, hd⟩ := date_ex n hn
    obtain ⟨e1, e2, hy⟩ := month_end hn hd
    have hml := mlen_range y m
    have hm1 := hd.1
    have h0 := nist_leap_eq hn hd (by omega) (nl_none_leap _)
    simp only [h0, hn, hm, hc, fitsS_dec, Option.bind_some, Option.isNone_none, Option.isNone_some, Option.isSome_none, Option.isSome_some, Bool.not_true, Bool.not_false, cond_true, cond_false, cond_dec, beq_int, bne_int, not_dec, decide_true]
    by_cases c : tErr l u e = 0
    · obtain ⟨hg, _, _⟩ := good_of c
      obtain ⟨k, hk, hb⟩ := behind hg u e (dnum y m (mlen y m))
      have hr := leapV_range hg (dnum y m (mlen y m)) k
      have h1 := nist_leap_eq hn hd hr (table_leap hg u e hk hb)
      have h3 := ref10_leap hg u e (dnum y m (mlen y m)) hk
      have h2 : g_ref26_Leap ((), (tb l u e, ((n, ()), ()))) = some ((), ((leapV l (dnum y m (mlen y m)) k % 3, ()), ((0, ()), ()))) := by
        simp only [g_ref26_Leap, f_ref26_Leap_m, ref07_there, hn, ref05_date hn hd, ref05_month y m hm1, ref05_of y m (mlen y m) (by omega) hm1 (by omega), h3, fitsS_dec, Option.bind_some, Option.isNone_none, Option.isNone_some, Option.isSome_none, Option.isSome_some, Bool.not_true, Bool.not_false, cond_true, cond_false, cond_dec, beq_int, bne_int, not_dec, decide_true]
        by_cases c1 : leapV l (dnum y m (mlen y m)) k < 0
        · rw [if_pos c1, show leapV l (dnum y m (mlen y m)) k = -1 by omega]; rfl
        · rw [if_neg c1, Int.emod_eq_of_lt (by omega) (by omega)]
      have hn0 : g_hnum_Num ((), ((none, ()), ())) = some ((), ((0, ()), ())) := num_num 0
      simp only [c, if_true, h1, h2, hn0, fitsS_dec, Option.bind_some, Option.isNone_none, Option.isNone_some, Option.isSome_none, Option.isSome_some, Bool.not_true, Bool.not_false, cond_true, cond_false, cond_dec, beq_int, bne_int, not_dec, decide_true]
      simp
    · simp [c]
  · have hi : g_hnum_Is ((), ((errOf 13, ()), ((13, ()), ()))) = some ((), ((true, ()), ())) := rfl
    have hn13 : g_hnum_Num ((), ((errOf 13, ()), ())) = some ((), ((13, ()), ())) := num_num 13
    have h0 := fun t => nist_leap_bad t n hn
    have h2 : g_ref26_Leap ((), (tb l u e, ((n, ()), ()))) = some ((), ((0, ()), ((13, ()), ()))) := by
      simp only [g_ref26_Leap, f_ref26_Leap_m, ref07_there, hn, fitsS_dec, Option.bind_some, Option.isNone_none, Option.isNone_some, Option.isSome_none, Option.isSome_some, Bool.not_true, Bool.not_false, cond_true, cond_false, cond_dec, beq_int, bne_int, not_dec, decide_false]
    simp only [h0, hn, hm, hc, hi, h2, hn13, fitsS_dec, Option.bind_some, Option.isNone_none, Option.isNone_some, Option.isSome_none, Option.isSome_some, Bool.not_true, Bool.not_false, cond_true, cond_false, cond_dec, beq_int, bne_int, not_dec, decide_false]
    by_cases c : tErr l u e = 0
    · simp [c, errOf]
    · simp [c, errOf]
end Go.Proofs.Yticfncahnhbhbaa.Ev
