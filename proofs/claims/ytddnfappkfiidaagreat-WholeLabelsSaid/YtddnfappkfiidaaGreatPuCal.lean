/- The calendar: what day's functions and their references tell, in closed form. -/
import Derived.Test.YtddnfappkfiidaaGreatEvG
import Derived.Test.YtddnfappkfiidaaGreatEvE
namespace Go.Proofs.YtddnfappkfiidaaGreat.Ev
open Go
set_option linter.unusedVariables false
set_option linter.unusedSimpArgs false
def isLeap (y : Int) : Prop := y % 4 = 0 ∧ (y % 100 ≠ 0 ∨ y % 400 = 0)
instance (y : Int) : Decidable (isLeap y) := by unfold isLeap; infer_instance
def mlen (y m : Int) : Int := if m = 2 then (if isLeap y then 29 else 28) else if m = 4 ∨ m = 6 ∨ m = 9 ∨ m = 11 then 30 else 31
def ylen (y : Int) : Int := if isLeap y then 366 else 365
/-- A date's number. -/
def dnum (y m d : Int) : Int :=
  if m ≤ 2 then 365 * (y - 1) + (y - 1) / 4 - (y - 1) / 100 + (y - 1) / 400 + (153 * (m + 9) + 2) / 5 + d - 1 - 719468
  else 365 * y + y / 4 - y / 100 + y / 400 + (153 * (m - 3) + 2) / 5 + d - 1 - 719468
def mErr (y m : Int) : Int := if y < -9999 ∨ 9999 < y then 13 else if m < 1 ∨ 12 < m then 1 else 0
def dErr (y m d : Int) : Int := if y < -9999 ∨ 9999 < y then 13 else if m < 1 ∨ 12 < m then 1 else if d < 1 ∨ mlen y m < d then 1 else 0
theorem mlen_range (y m : Int) : 28 ≤ mlen y m ∧ mlen y m ≤ 31 := by
  unfold mlen; split <;> (split <;> omega)
theorem tmod_zero_iff {a c : Int} : Int.tmod a c = 0 ↔ a % c = 0 :=
  ⟨fun h => Int.emod_eq_zero_of_dvd (Int.dvd_of_tmod_eq_zero h), fun h => Int.tmod_eq_zero_of_dvd (Int.dvd_of_emod_eq_zero h)⟩
theorem day_leap (y : Int) : g_day_Leap ((), ((y, ()), ())) = some ((), ((decide (isLeap y), ()), ())) := by
  simp only [g_day_Leap, f_day_Leap_m, fitsS_dec, Option.bind_some, Option.isNone_none, Option.isNone_some, Option.isSome_none, Option.isSome_some, Bool.not_true, Bool.not_false, cond_true, cond_false, cond_dec, beq_int, bne_int, not_dec, ne_eq, tmod_zero_iff, isLeap]
  by_cases h1 : y % 4 = 0 <;> by_cases h2 : y % 100 = 0 <;> simp [h1, h2]
theorem day_right (y : Int) : g_day_right ((), ((y, ()), ())) = some ((), ((decide (-9999 ≤ y ∧ y ≤ 9999), ()), ())) := by
  simp only [g_day_right, f_day_right_m, fitsS_dec, Option.bind_some, Option.isNone_none, Option.isNone_some, Option.isSome_none, Option.isSome_some, Bool.not_true, Bool.not_false, cond_true, cond_false, cond_dec, beq_int, bne_int, not_dec, ge_iff_le]
  by_cases h1 : -9999 ≤ y <;> simp [h1]
theorem day_month (y m : Int) : g_day_Month ((), ((y, ()), ((m, ()), ()))) = some ((), ((if mErr y m = 0 then mlen y m else 0, ()), ((errOf (mErr y m), ()), ()))) := by
  simp only [g_day_Month, f_day_Month_m, day_right, day_leap, fitsS_dec, Option.bind_some, Option.isNone_none, Option.isNone_some, Option.isSome_none, Option.isSome_some, Bool.not_true, Bool.not_false, cond_true, cond_false, cond_dec, beq_int, bne_int, not_dec, gt_iff_lt]
  by_cases h1 : -9999 ≤ y ∧ y ≤ 9999
  · rw [if_neg (by omega)]
    by_cases h2 : m < 1
    · have e : mErr y m = 1 := by unfold mErr; rw [if_neg (by omega), if_pos (by omega)]
      rw [if_pos h2, e]; rfl
    rw [if_neg h2]
    by_cases h3 : 12 < m
    · have e : mErr y m = 1 := by unfold mErr; rw [if_neg (by omega), if_pos (by omega)]
      rw [if_pos h3, e]; rfl
    rw [if_neg h3]
    have e : mErr y m = 0 := by unfold mErr; rw [if_neg (by omega), if_neg (by omega)]
    rw [e, if_pos rfl, errOf_zero]
    by_cases h4 : m = 2
    · subst h4
      simp only [if_true, mlen]
      by_cases h5 : isLeap y
      · simp [h5]
      · simp [h5]
    · rw [if_neg h4, if_neg h4]
      simp (disch := omega) only [iquo_nn, iadd_i64, tmod_nn]
      have : 30 + (m + m / 8) % 2 = mlen y m := by
        have : m = 1 ∨ m = 3 ∨ m = 4 ∨ m = 5 ∨ m = 6 ∨ m = 7 ∨ m = 8 ∨ m = 9 ∨ m = 10 ∨ m = 11 ∨ m = 12 := by omega
        rcases this with rfl | rfl | rfl | rfl | rfl | rfl | rfl | rfl | rfl | rfl | rfl <;> rfl
      rw [this]
  · rw [if_pos (by omega)]
    have e : mErr y m = 13 := by unfold mErr; rw [if_pos (by omega)]
    rw [e]; rfl
theorem day_check (y m d : Int) : g_day_check ((), ((y, ()), ((m, ()), ((d, ()), ())))) = some ((), ((errOf (dErr y m d), ()), ())) := by
  simp only [g_day_check, f_day_check_m, day_month, fitsS_dec, Option.bind_some, Option.isNone_none, Option.isNone_some, Option.isSome_none, Option.isSome_some, Bool.not_true, Bool.not_false, cond_true, cond_false, cond_dec, beq_int, bne_int, not_dec, gt_iff_lt, errOf_none]
  by_cases h1 : mErr y m = 0
  · have h2 : ¬(y < -9999 ∨ 9999 < y) ∧ ¬(m < 1 ∨ 12 < m) := by
      unfold mErr at h1; constructor <;> intro h <;> simp [h] at h1
      split at h1 <;> omega
    rw [if_neg (by simp [h1]), if_pos h1]
    unfold dErr; rw [if_neg h2.1, if_neg h2.2]
    by_cases h3 : d < 1
    · rw [if_pos h3, if_pos (.inl h3)]; rfl
    · rw [if_neg h3]
      by_cases h4 : mlen y m < d
      · rw [if_pos h4, if_pos (.inr h4)]; rfl
      · rw [if_neg h4, if_neg (by omega)]; rfl
  · rw [if_pos h1]
    have : dErr y m d = mErr y m := by
      unfold dErr mErr; unfold mErr at h1
      split
      · rfl
      · rename_i h; rw [if_neg h] at h1
        split
        · rfl
        · rename_i h'; rw [if_neg h'] at h1; omega
    rw [this]
theorem day_floor (a c : Int) (hc : 0 < c) (h : -9223372036854775807 ≤ a ∧ a ≤ 9223372036854775807) : g_day_floor ((), ((a, ()), ((c, ()), ()))) = some ((), ((a / c, ()), ())) := by
  simp only [g_day_floor, f_day_floor_m, fitsS_dec, Option.bind_some, Option.isNone_none, Option.isNone_some, Option.isSome_none, Option.isSome_some, Bool.not_true, Bool.not_false, cond_true, cond_false, cond_dec, beq_int, bne_int, not_dec]
  rw [if_neg (by omega), if_neg (by omega), iquo_pos hc (by omega), tmod_pos c hc]
  have hm : 0 ≤ a % c := Int.emod_nonneg _ (by omega)
  have hn : 0 ≤ (-a) % c := Int.emod_nonneg _ (by omega)
  by_cases h0 : 0 ≤ a
  · rw [if_pos h0, if_pos h0, if_neg (by omega)]
  · rw [if_neg h0, if_neg h0]
    have e1 := Int.mul_ediv_add_emod a c
    have e2 := Int.mul_ediv_add_emod (-a) c
    have l1 := Int.emod_lt_of_pos a hc
    have l2 := Int.emod_lt_of_pos (-a) hc
    have q0 : 0 ≤ (-a) / c := Int.ediv_nonneg (by omega) (by omega)
    have q1 : (-a) / c ≤ -a := Int.ediv_le_self _ (by omega)
    by_cases h1 : -(-a % c) < 0
    · rw [if_pos h1, isub_i64 (by omega)]
      have : a / c = -(-a / c) - 1 := ((Int.ediv_emod_unique (r := c - -a % c) hc).2 ⟨by rw [Int.mul_sub, Int.mul_neg]; omega, by omega, by omega⟩).1
      rw [this]
    · rw [if_neg h1]
      have : a / c = -(-a / c) := ((Int.ediv_emod_unique (r := 0) hc).2 ⟨by rw [Int.mul_neg]; omega, by omega, by omega⟩).1
      rw [this]
theorem day_number (y m d : Int) (hy : -20000 ≤ y ∧ y ≤ 20000) (hm : 1 ≤ m ∧ m ≤ 12) (hd : 1 ≤ d ∧ d ≤ 31) : g_day_number ((), ((y, ()), ((m, ()), ((d, ()), ())))) = some ((), ((dnum y m d, ()), ())) := by
  simp only [g_day_number, f_day_number_m, fitsS_dec, Option.bind_some, Option.isNone_none, Option.isNone_some, Option.isSome_none, Option.isSome_some, Bool.not_true, Bool.not_false, cond_true, cond_false, cond_dec, beq_int, bne_int, not_dec, dnum]
  by_cases h : m ≤ 2
  · rw [if_pos h, if_pos h]
    simp (disch := omega) only [day_floor, Option.bind_some, isub_i64, iadd_i64, imul_i64, iquo_nn]
    rw [show y - 1 - (y - 1) / 400 * 400 = (y - 1) % 400 by omega]
    congr 4
    omega
  · rw [if_neg h, if_neg h]
    simp (disch := omega) only [day_floor, Option.bind_some, isub_i64, iadd_i64, imul_i64, iquo_nn]
    rw [show y - y / 400 * 400 = y % 400 by omega]
    congr 4
    omega
theorem day_of (y m d : Int) : g_day_Of ((), ((y, ()), ((m, ()), ((d, ()), ())))) = some ((), ((if dErr y m d = 0 then dnum y m d else 0, ()), ((errOf (dErr y m d), ()), ()))) := by
  simp only [g_day_Of, f_day_Of_m, day_check, fitsS_dec, Option.bind_some, Option.isNone_none, Option.isNone_some, Option.isSome_none, Option.isSome_some, Bool.not_true, Bool.not_false, cond_true, cond_false, cond_dec, beq_int, bne_int, not_dec, errOf_none]
  by_cases h : dErr y m d = 0
  · rw [if_neg (by simp [h]), if_pos h, h]
    have : (-9999 ≤ y ∧ y ≤ 9999) ∧ (1 ≤ m ∧ m ≤ 12) ∧ (1 ≤ d ∧ d ≤ mlen y m) := by
      unfold dErr at h; split at h
      · omega
      · split at h
        · omega
        · split at h <;> omega
    have := mlen_range y m
    rw [day_number y m d (by omega) (by omega) (by omega)]; rfl
  · rw [if_pos h, if_neg h]
theorem dErr_zero {y m d : Int} : dErr y m d = 0 ↔ (-9999 ≤ y ∧ y ≤ 9999) ∧ (1 ≤ m ∧ m ≤ 12) ∧ (1 ≤ d ∧ d ≤ mlen y m) := by
  unfold dErr; constructor
  · intro h; split at h
    · omega
    · split at h
      · omega
      · split at h <;> omega
  · intro h; rw [if_neg (by omega), if_neg (by omega), if_neg (by omega)]
theorem day_first : g_day_First ((), ()) = some ((), ((-4371587, ()), ())) := by
  simp only [g_day_First, f_day_First_m, day_number (-9999) 1 1 (by omega) (by omega) (by omega)]; rfl
theorem day_last : g_day_Last ((), ()) = some ((), ((2932896, ()), ())) := by
  simp only [g_day_Last, f_day_Last_m, day_number 9999 12 31 (by omega) (by omega) (by omega)]; rfl
end Go.Proofs.YtddnfappkfiidaaGreat.Ev
