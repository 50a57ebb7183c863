/- The calendar: what day's functions and their references tell, in closed form. -/
import Derived.Test.YtcnngodgngmghaaGreatDoorEvG
import Derived.Test.YtcnngodgngmghaaGreatDoorEvE
namespace Go.Proofs.YtcnngodgngmghaaGreatDoor.Ev
open Go
set_option linter.unusedVariables false
set_option linter.unusedSimpArgs false
def isLeap (y : Int) : Prop := y % 4 = 0 ∧ (y % 100 ≠ 0 ∨ y % 400 = 0)
instance (y : Int) : Decidable (isLeap y) := by unfold isLeap; infer_instance
def mlen (y m : Int) : Int := if m = 2 then (if isLeap y then 29 else 28) else if m = 4 ∨ m = 6 ∨ m = 9 ∨ m = 11 then 30 else 31
def ylen (y : Int) : Int := if isLeap y then 366 else 365
/-- A date's number. -/
def dnum (y m d : Int) : Int :=
  if m ≤ 2 then 365 * (y - 1) + (y - 1) / 4 - (y - 1) / 100 + (y - 1) / 400 + (153 * (m + 9) + 2) / 5 + d - 1 - 719468
  else 365 * y + y / 4 - y / 100 + y / 400 + (153 * (m - 3) + 2) / 5 + d - 1 - 719468
def mErr (y m : Int) : Int := if y < -9999 ∨ 9999 < y then 13 else if m < 1 ∨ 12 < m then 1 else 0
def dErr (y m d : Int) : Int := if y < -9999 ∨ 9999 < y then 13 else if m < 1 ∨ 12 < m then 1 else if d < 1 ∨ mlen y m < d then 1 else 0
theorem mlen_range (y m : Int) : 28 ≤ mlen y m ∧ mlen y m ≤ 31 := by
  unfold mlen; split <;> (split <;> omega)
theorem tmod_zero_iff {a c : Int} : Int.tmod a c = 0 ↔ a % c = 0 :=
  ⟨fun h => Int.emod_eq_zero_of_dvd (Int.dvd_of_tmod_eq_zero h), fun h => Int.tmod_eq_zero_of_dvd (Int.dvd_of_emod_eq_zero h)⟩
theorem day_floor (a c : Int) (hc : 0 < c) (h : -9223372036854775807 ≤ a ∧ a ≤ 9223372036854775807) : g_day_floor ((), ((a, ()), ((c, ()), ()))) = some ((), ((a / c, ()), ())) := by
  simp only [g_day_floor, f_day_floor_m, fitsS_dec, Option.bind_some, Option.isNone_none, Option.isNone_some, Option.isSome_none, Option.isSome_some, Bool.not_true, Bool.not_false, cond_true, cond_false, cond_dec, beq_int, bne_int, not_dec]
  rw [if_neg (by omega), if_neg (by omega), iquo_pos hc (by omega), tmod_pos c hc]
  have hm : 0 ≤ a % c := Int.emod_nonneg _ (by omega)
  have hn : 0 ≤ (-a) % c := Int.emod_nonneg _ (by omega)
  by_cases h0 : 0 ≤ a
  · rw [if_pos h0, if_pos h0, if_neg (by omega)]
  · rw [if_neg h0, if_neg h0]
    have e1 := Int.mul_ediv_add_emod a c
    have e2 := Int.mul_ediv_add_emod (-a) c
    have l1 := Int.emod_lt_of_pos a hc
    have l2 := Int.emod_lt_of_pos (-a) hc
    have q0 : 0 ≤ (-a) / c := Int.ediv_nonneg (by omega) (by omega)
    have q1 : (-a) / c ≤ -a := Int.ediv_le_self _ (by omega)
    by_cases h1 : -(-a % c) < 0
    · rw [if_pos h1, isub_i64 (by omega)]
      have : a / c = -(-a / c) - 1 := ((Int.ediv_emod_unique (r := c - -a % c) hc).2 ⟨by rw [Int.mul_sub, Int.mul_neg]; omega, by omega, by omega⟩).1
      rw [this]
    · rw [if_neg h1]
      have : a / c = -(-a / c) := ((Int.ediv_emod_unique (r := 0) hc).2 ⟨by rw [Int.mul_neg]; omega, by omega, by omega⟩).1
      rw [this]
theorem day_number (y m d : Int) (hy : -20000 ≤ y ∧ y ≤ 20000) (hm : 1 ≤ m ∧ m ≤ 12) (hd : 1 ≤ d ∧ d ≤ 31) : g_day_number ((), ((y, ()), ((m, ()), ((d, ()), ())))) = some ((), ((dnum y m d, ()), ())) := by
  simp only [g_day_number, f_day_number_m, fitsS_dec, Option.bind_some, Option.isNone_none, Option.isNone_some, Option.isSome_none, Option.isSome_some, Bool.not_true, Bool.not_false, cond_true, cond_false, cond_dec, beq_int, bne_int, not_dec, dnum]
  by_cases h : m ≤ 2
  · rw [if_pos h, if_pos h]
    simp (disch := omega) only [day_floor, Option.bind_some, isub_i64, iadd_i64, imul_i64, iquo_nn]
    rw [show y - 1 - (y - 1) / 400 * 400 = (y - 1) % 400 by omega]
    congr 4
    omega
  · rw [if_neg h, if_neg h]
    simp (disch := omega) only [day_floor, Option.bind_some, isub_i64, iadd_i64, imul_i64, iquo_nn]
    rw [show y - y / 400 * 400 = y % 400 by omega]
    congr 4
    omega
theorem dErr_zero {y m d : Int} : dErr y m d = 0 ↔ (-9999 ≤ y ∧ y ≤ 9999) ∧ (1 ≤ m ∧ m ≤ 12) ∧ (1 ≤ d ∧ d ≤ mlen y m) := by
  unfold dErr; constructor
  · intro h; split at h
    · omega
    · split at h
      · omega
      · split at h <;> omega
  · intro h; rw [if_neg (by omega), if_neg (by omega), if_neg (by omega)]
theorem day_first : g_day_First ((), ()) = some ((), ((-4371587, ()), ())) := by
  simp only [g_day_First, f_day_First_m, day_number (-9999) 1 1 (by omega) (by omega) (by omega)]; rfl
theorem day_last : g_day_Last ((), ()) = some ((), ((2932896, ()), ())) := by
  simp only [g_day_Last, f_day_Last_m, day_number 9999 12 31 (by omega) (by omega) (by omega)]; rfl
end Go.Proofs.YtcnngodgngmghaaGreatDoor.Ev
