/- The calendar's reference: years and months counted one by one come to the closed form. -/
import Derived.Test.YtddnfappkfiidaaGreatPuCal
namespace Go.Proofs.YtddnfappkfiidaaGreat.Ev
open Go
set_option linter.unusedVariables false
set_option linter.unusedSimpArgs false
theorem ylen_eq (y : Int) : dnum (y + 1) 1 1 = dnum y 1 1 + ylen y := by
  unfold ylen dnum
  simp only [show (1 : Int) ≤ 2 by decide, if_true]
  by_cases h : isLeap y
  · rw [if_pos h]; unfold isLeap at h; omega
  · rw [if_neg h]; unfold isLeap at h; omega
theorem ystart_400 (y : Int) : dnum (y + 400) 1 1 = dnum y 1 1 + 146097 := by
  unfold dnum
  simp only [show (1 : Int) ≤ 2 by decide, if_true]
  omega
theorem mlen_eq (y m : Int) (h : 1 ≤ m ∧ m ≤ 11) : dnum y (m + 1) 1 = dnum y m 1 + mlen y m := by
  have : m = 1 ∨ m = 2 ∨ m = 3 ∨ m = 4 ∨ m = 5 ∨ m = 6 ∨ m = 7 ∨ m = 8 ∨ m = 9 ∨ m = 10 ∨ m = 11 := by omega
  rcases this with rfl | rfl | rfl | rfl | rfl | rfl | rfl | rfl | rfl | rfl | rfl <;> simp [dnum, mlen]
  all_goals first | omega | (by_cases h : isLeap y <;> simp only [h, if_true, if_false] <;> unfold isLeap at h <;> omega)
theorem dnum_day (y m d : Int) : dnum y m d = dnum y m 1 + d - 1 := by
  unfold dnum; split <;> omega
theorem ystart_range (y : Int) (h : -30000 ≤ y ∧ y ≤ 30000) : -12000000 ≤ dnum y 1 1 ∧ dnum y 1 1 ≤ 12000000 := by
  unfold dnum; rw [if_pos (by decide)]; omega
theorem dnum_range (y m d : Int) (hy : -30000 ≤ y ∧ y ≤ 30000) (hm : 1 ≤ m ∧ m ≤ 12) (hd : 1 ≤ d ∧ d ≤ 31) : -12000000 ≤ dnum y m d ∧ dnum y m d ≤ 12000000 := by
  unfold dnum; split <;> omega
theorem ref05_month (y m : Int) (hm : 1 ≤ m ∧ m ≤ 12) : g_ref05_Month ((), ((y, ()), ((m, ()), ()))) = some ((), ((mlen y m, ()), ())) := by
  simp only [g_ref05_Month, f_ref05_Month_m, fitsS_dec, Option.bind_some, Option.isNone_none, Option.isNone_some, Option.isSome_none, Option.isSome_some, Bool.not_true, Bool.not_false, cond_true, cond_false, cond_dec, beq_int, bne_int, not_dec, ref05_leap, and_dec]
  by_cases h : m = 2
  · subst h
    simp only [if_true, mlen]
    by_cases h5 : isLeap y
    · simp [h5]
    · simp only [h5, if_false]; rfl
  · rw [if_neg h]
    simp (disch := omega) only [isub_i64]
    have : m = 1 ∨ m = 3 ∨ m = 4 ∨ m = 5 ∨ m = 6 ∨ m = 7 ∨ m = 8 ∨ m = 9 ∨ m = 10 ∨ m = 11 ∨ m = 12 := by omega
    rcases this with rfl | rfl | rfl | rfl | rfl | rfl | rfl | rfl | rfl | rfl | rfl <;> rfl
theorem start_p14 (y : Int) (hy : -30000 ≤ y ∧ y ≤ 30000) : ∀ (n : Nat) (x N : Int), -30000 ≤ x → x ≤ y → y - x = n → -30000000 ≤ N → N ≤ 50000000 - 366 * n →
    Evn (fun k => (f_ref05_Start_t k).2.2.1 ((), ((y, ()), ((N, ()), ((x, ()), ()))))) ((), ((N + dnum y 1 1 - dnum x 1 1, ()), ())) := by
  intro n; induction n with
  | zero =>
    intro x  N  h0  h1  h2  _  _
    obtain rfl : x = y := by omega
    refine Evn.some 1 fun k => ?_
    simp only [t_ref05_Start, f_ref05_Start_p14, fitsS_dec, Option.bind_some, Option.isNone_none, Option.isNone_some, Option.isSome_none, Option.isSome_some, Bool.not_true, Bool.not_false, cond_true, cond_false, cond_dec, beq_int, bne_int, not_dec, Int.lt_irrefl, if_false]
    rw [show N + dnum x 1 1 - dnum x 1 1 = N by omega]
  | succ n ihn =>
    intro x  N  h0  h1  h2  h3  h4
    have h' : 365 ≤ ylen x ∧ ylen x ≤ 366 := by unfold ylen; split <;> omega
    have ih := ihn (x + 1) (N + ylen x) (by omega) (by omega) (by omega) (by omega) (by omega)
    rw [ylen_eq, show N + ylen x + dnum y 1 1 - (dnum x 1 1 + ylen x) = N + dnum y 1 1 - dnum x 1 1 by omega] at ih
    refine ih.step fun k => ?_
    simp only [t_ref05_Start, f_ref05_Start_p14, fitsS_dec, Option.bind_some, Option.isNone_none, Option.isNone_some, Option.isSome_none, Option.isSome_some, Bool.not_true, Bool.not_false, cond_true, cond_false, cond_dec, beq_int, bne_int, not_dec, ref05_days]
    rw [if_pos (by omega), iadd_i64 (by omega), iadd_i64 (by omega)]
theorem start_p8_0 : ∀ (y N : Int), 1970 ≤ y → y ≤ 30000 → y < 1970 + 400 * (((0 : Nat) : Int) + 1) → -20000000 ≤ N → N ≤ 40000000 - 146097 * ((0 : Nat) : Int) →
    Evn (fun k => (f_ref05_Start_t k).2.1 ((), ((y, ()), ((N, ()), ())))) ((), ((N + dnum y 1 1, ()), ())) := by
  intro y  N  h0  h1  h2  h3  h4
  have ih := start_p14 y (by omega) (y - 1970).toNat 1970 N (by omega) (by omega) (by omega) (by omega) (by omega)
  rw [show dnum 1970 1 1 = 0 from rfl, Int.sub_zero] at ih
  refine ih.step fun k => ?_
  simp only [t_ref05_Start, f_ref05_Start_p8, fitsS_dec, Option.bind_some, Option.isNone_none, Option.isNone_some, Option.isSome_none, Option.isSome_some, Bool.not_true, Bool.not_false, cond_true, cond_false, cond_dec, beq_int, bne_int, not_dec, ge_iff_le]
  rw [if_neg (by omega)]
theorem start_p8 : ∀ (n : Nat) (y N : Int), 1970 ≤ y → y ≤ 30000 → y < 1970 + 400 * (n + 1) → -20000000 ≤ N → N ≤ 40000000 - 146097 * n →
    Evn (fun k => (f_ref05_Start_t k).2.1 ((), ((y, ()), ((N, ()), ())))) ((), ((N + dnum y 1 1, ()), ())) := by
  intro n; induction n with
  | zero => exact start_p8_0
  | succ n ihn =>
    intro y  N  h0  h1  h2  h3  h4
    by_cases h : 2370 ≤ y
    · have ih := ihn (y - 400) (N + 146097) (by omega) (by omega) (by omega) (by omega) (by omega)
      have e := ystart_400 (y - 400)
      rw [show y - 400 + 400 = y by omega] at e
      rw [show N + 146097 + dnum (y - 400) 1 1 = N + dnum y 1 1 by omega] at ih
      refine ih.step fun k => ?_
      simp only [t_ref05_Start, f_ref05_Start_p8, fitsS_dec, Option.bind_some, Option.isNone_none, Option.isNone_some, Option.isSome_none, Option.isSome_some, Bool.not_true, Bool.not_false, cond_true, cond_false, cond_dec, beq_int, bne_int, not_dec, ge_iff_le]
      rw [if_pos h, isub_i64 (by omega), iadd_i64 (by omega)]
    · exact start_p8_0 y N h0 h1 (by omega) h3 (by omega)
theorem start_p3_0 : ∀ (y N : Int), -30000 ≤ y → y ≤ 30000 → 1970 ≤ y + 400 * ((0 : Nat) : Int) → -20000000 + 146097 * ((0 : Nat) : Int) ≤ N → N ≤ 0 →
    Evn (fun k => (f_ref05_Start_t k).1 ((), ((y, ()), ((N, ()), ())))) ((), ((N + dnum y 1 1, ()), ())) := by
  intro y  N  h0  h1  h2  h3  h4
  have ih := start_p8 100 y N (by omega) (by omega) (by omega) (by omega) (by omega)
  refine ih.step fun k => ?_
  simp only [t_ref05_Start, f_ref05_Start_p3, fitsS_dec, Option.bind_some, Option.isNone_none, Option.isNone_some, Option.isSome_none, Option.isSome_some, Bool.not_true, Bool.not_false, cond_true, cond_false, cond_dec, beq_int, bne_int, not_dec]
  rw [if_neg (by omega)]
theorem start_p3 : ∀ (n : Nat) (y N : Int), -30000 ≤ y → y ≤ 30000 → 1970 ≤ y + 400 * n → -20000000 + 146097 * n ≤ N → N ≤ 0 →
    Evn (fun k => (f_ref05_Start_t k).1 ((), ((y, ()), ((N, ()), ())))) ((), ((N + dnum y 1 1, ()), ())) := by
  intro n; induction n with
  | zero => exact start_p3_0
  | succ n ihn =>
    intro y  N  h0  h1  h2  h3  h4
    by_cases h : y < 1970
    · have ih := ihn (y + 400) (N - 146097) (by omega) (by omega) (by omega) (by omega) (by omega)
      have e := ystart_400 y
      rw [show N - 146097 + dnum (y + 400) 1 1 = N + dnum y 1 1 by omega] at ih
      refine ih.step fun k => ?_
      simp only [t_ref05_Start, f_ref05_Start_p3, fitsS_dec, Option.bind_some, Option.isNone_none, Option.isNone_some, Option.isSome_none, Option.isSome_some, Bool.not_true, Bool.not_false, cond_true, cond_false, cond_dec, beq_int, bne_int, not_dec]
      rw [if_pos h, iadd_i64 (by omega), isub_i64 (by omega)]
    · exact start_p3_0 y N h0 h1 (by omega) (by omega) h4
theorem ref05_start (y : Int) (h : -30000 ≤ y ∧ y ≤ 30000) : g_ref05_Start ((), ((y, ()), ())) = some ((), ((dnum y 1 1, ()), ())) := by
  have := start_p3 80 y 0 (by omega) (by omega) (by omega) (by omega) (by omega)
  rw [Int.zero_add] at this
  exact this.lim
theorem ref05_first : g_ref05_First ((), ()) = some ((), ((-4371587, ()), ())) := by
  simp only [g_ref05_First, f_ref05_First_m, ref05_start (-9999) (by omega)]; rfl
theorem ref05_last : g_ref05_Last ((), ()) = some ((), ((2932896, ()), ())) := by
  simp only [g_ref05_Last, f_ref05_Last_m, ref05_start 10000 (by omega)]; rfl
theorem ref05_check (y m d : Int) : g_ref05_Check ((), ((y, ()), ((m, ()), ((d, ()), ())))) = some ((), ((dErr y m d, ()), ())) := by
  simp only [g_ref05_Check, f_ref05_Check_m, ref05_year, fitsS_dec, Option.bind_some, Option.isNone_none, Option.isNone_some, Option.isSome_none, Option.isSome_some, Bool.not_true, Bool.not_false, cond_true, cond_false, cond_dec, beq_int, bne_int, not_dec, gt_iff_lt]
  by_cases h1 : -9999 ≤ y ∧ y ≤ 9999
  · rw [if_neg (by omega)]
    unfold dErr; rw [if_neg (show ¬(y < -9999 ∨ 9999 < y) by omega)]
    by_cases h2 : m < 1
    · rw [if_pos h2, if_pos (.inl h2)]
    rw [if_neg h2]
    by_cases h3 : 12 < m
    · rw [if_pos h3, if_pos (.inr h3)]
    rw [if_neg h3, if_neg (show ¬(m < 1 ∨ 12 < m) by omega)]
    by_cases h4 : d < 1
    · rw [if_pos h4, if_pos (.inl h4)]
    rw [if_neg h4, ref05_month y m (by omega)]
    simp only [Option.bind_some]
    by_cases h5 : mlen y m < d
    · rw [if_pos h5, if_pos (.inr h5)]
    · rw [if_neg h5, if_neg (by omega)]
  · rw [if_pos (by omega)]
    unfold dErr; rw [if_pos (show (y < -9999 ∨ 9999 < y) by omega)]
theorem of_p4 (y m : Int) (hm : 1 ≤ m ∧ m ≤ 12) : ∀ (n : Nat) (x N : Int), 1 ≤ x → x ≤ m → m - x = n → -30000000 ≤ N → N ≤ 50000000 - 31 * n →
    Evn (fun k => (f_ref05_Of_t k).1 ((), ((y, ()), ((m, ()), ((N, ()), ((x, ()), ())))))) ((), ((N + dnum y m 1 - dnum y x 1, ()), ())) := by
  intro n; induction n with
  | zero =>
    intro x  N  h0  h1  h2  _  _
    obtain rfl : x = m := by omega
    refine Evn.some 1 fun k => ?_
    simp only [t_ref05_Of, f_ref05_Of_p4, fitsS_dec, Option.bind_some, Option.isNone_none, Option.isNone_some, Option.isSome_none, Option.isSome_some, Bool.not_true, Bool.not_false, cond_true, cond_false, cond_dec, beq_int, bne_int, not_dec, Int.lt_irrefl, if_false]
    rw [show N + dnum y x 1 - dnum y x 1 = N by omega]
  | succ n ihn =>
    intro x  N  h0  h1  h2  h3  h4
    have h' := mlen_range y x
    have ih := ihn (x + 1) (N + mlen y x) (by omega) (by omega) (by omega) (by omega) (by omega)
    rw [mlen_eq y x (by omega), show N + mlen y x + dnum y m 1 - (dnum y x 1 + mlen y x) = N + dnum y m 1 - dnum y x 1 by omega] at ih
    refine ih.step fun k => ?_
    simp only [t_ref05_Of, f_ref05_Of_p4, fitsS_dec, Option.bind_some, Option.isNone_none, Option.isNone_some, Option.isSome_none, Option.isSome_some, Bool.not_true, Bool.not_false, cond_true, cond_false, cond_dec, beq_int, bne_int, not_dec, ref05_month y x (by omega)]
    rw [if_pos (by omega), iadd_i64 (by omega), iadd_i64 (by omega)]
theorem ref05_of (y m d : Int) (hy : -30000 ≤ y ∧ y ≤ 30000) (hm : 1 ≤ m ∧ m ≤ 12) (hd : 1 ≤ d ∧ d ≤ 31) : g_ref05_Of ((), ((y, ()), ((m, ()), ((d, ()), ())))) = some ((), ((dnum y m d, ()), ())) := by
  have hr := ystart_range y hy
  have ih := of_p4 y m hm (m - 1).toNat 1 (dnum y 1 1 + d - 1) (by omega) (by omega) (by omega) (by omega) (by omega)
  rw [show dnum y 1 1 + d - 1 + dnum y m 1 - dnum y 1 1 = dnum y m d by rw [dnum_day y m d]; omega] at ih
  refine (ih.cast fun k => ?_).lim
  simp only [f_ref05_Of_m, fitsS_dec, Option.bind_some, Option.isNone_none, Option.isNone_some, Option.isSome_none, Option.isSome_some, Bool.not_true, Bool.not_false, cond_true, cond_false, cond_dec, beq_int, bne_int, not_dec, ref05_start y hy]
  rw [iadd_i64 (by omega), isub_i64 (by omega)]
/-- Which date a number has. -/
def IsDate (n y m d : Int) : Prop := (1 ≤ m ∧ m ≤ 12) ∧ (1 ≤ d ∧ d ≤ mlen y m) ∧ dnum y m d = n
theorem mstart (y m : Int) (hm : 1 ≤ m ∧ m ≤ 12) : dnum y 1 1 + 28 * (m - 1) ≤ dnum y m 1 ∧ dnum y m 1 + mlen y m ≤ dnum (y + 1) 1 1 := by
  rw [ylen_eq]
  have : m = 1 ∨ m = 2 ∨ m = 3 ∨ m = 4 ∨ m = 5 ∨ m = 6 ∨ m = 7 ∨ m = 8 ∨ m = 9 ∨ m = 10 ∨ m = 11 ∨ m = 12 := by omega
  rcases this with rfl | rfl | rfl | rfl | rfl | rfl | rfl | rfl | rfl | rfl | rfl | rfl <;> simp [dnum, mlen, ylen]
  all_goals (by_cases h : isLeap y <;> simp only [h, if_true, if_false] <;> unfold isLeap at h <;> omega)
end Go.Proofs.YtddnfappkfiidaaGreat.Ev
