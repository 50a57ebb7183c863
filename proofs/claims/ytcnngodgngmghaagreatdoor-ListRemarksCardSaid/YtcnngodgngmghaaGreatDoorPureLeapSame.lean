/- The law LeapSame, plain. -/
import Derived.Test.YtcnngodgngmghaaGreatDoorPuLeapA
namespace Go.Proofs.YtcnngodgngmghaaGreatDoor.Ev
open Go
set_option linter.unusedVariables false
set_option linter.unusedSimpArgs false
def rowsEq (a b : List (Int × Int)) : Prop := a.length = b.length ∧ ∀ i : Nat, i < a.length → (gd_i64_i64 a i).1 = (gd_i64_i64 b i).1 ∧ (gd_i64_i64 a i).2 = (gd_i64_i64 b i).2
noncomputable instance (a b : List (Int × Int)) : Decidable (rowsEq a b) := Classical.propDecidable _
theorem equal_p6 {a b : List (Int × Int)} (hl : a.length = b.length) (ha : a.length ≤ 300) : ∀ (k i : Nat), i + k = a.length → (∀ j : Nat, j < i → (gd_i64_i64 a j).1 = (gd_i64_i64 b j).1 ∧ (gd_i64_i64 a j).2 = (gd_i64_i64 b j).2) →
    Evn (fun j => (f_slices_Equal_leap_Row_leap_Row_t j).1 ((), ((a, ()), ((b, ()), (((a.length : Int), ()), (((i : Int), ()), ())))))) ((), ((decide (rowsEq a b), ()), ())) := by
  intro k; induction k with
  | zero =>
    intro i h hp
    rw [decide_eq_true (show rowsEq a b from ⟨hl, fun j hj => hp j (by omega)⟩)]
    refine Evn.some 1 fun j => ?_
    simp only [t_slices_Equal_leap_Row_leap_Row, f_slices_Equal_leap_Row_leap_Row_p6, fitsS_dec, Option.bind_some, Option.isNone_none, Option.isNone_some, Option.isSome_none, Option.isSome_some, Bool.not_true, Bool.not_false, cond_true, cond_false, cond_dec, beq_int, bne_int, not_dec]
    rw [if_neg (by omega)]
  | succ k ih =>
    intro i h hp
    by_cases c : (gd_i64_i64 a i).1 = (gd_i64_i64 b i).1 ∧ (gd_i64_i64 a i).2 = (gd_i64_i64 b i).2
    · refine (ih (i + 1) (by omega) (fun j hj => by
        by_cases e : j = i
        · subst e; exact c
        · exact hp j (by omega))).step fun j => ?_
      simp only [t_slices_Equal_leap_Row_leap_Row, f_slices_Equal_leap_Row_leap_Row_p6, fitsS_dec, Option.bind_some, Option.isNone_none, Option.isNone_some, Option.isSome_none, Option.isSome_some, Bool.not_true, Bool.not_false, cond_true, cond_false, cond_dec, beq_int, bne_int, not_dec, and_dec, Bool.and_true]
      rw [if_pos (by omega), if_pos (by omega), if_pos (by omega), if_neg (not_not_intro c), iadd_i64 (by omega)]; rfl
    · rw [decide_eq_false (show ¬ rowsEq a b from fun hh => c (hh.2 i (by omega)))]
      refine Evn.some 1 fun j => ?_
      simp only [t_slices_Equal_leap_Row_leap_Row, f_slices_Equal_leap_Row_leap_Row_p6, fitsS_dec, Option.bind_some, Option.isNone_none, Option.isNone_some, Option.isSome_none, Option.isSome_some, Bool.not_true, Bool.not_false, cond_true, cond_false, cond_dec, beq_int, bne_int, not_dec, and_dec, Bool.and_true]
      rw [if_pos (by omega), if_pos (by omega), if_pos (by omega), if_pos c]
theorem rows_equal (a b : List (Int × Int)) (ha : a.length ≤ 300) (hb : b.length ≤ 300) : g_slices_Equal_leap_Row_leap_Row ((), ((a, ()), ((b, ()), ()))) = some ((), ((decide (rowsEq a b), ()), ())) := by
  by_cases hl : a.length = b.length
  · refine ((equal_p6 hl ha a.length 0 (by omega) (fun j hj => by omega)).cast fun k => ?_).lim
    simp only [f_slices_Equal_leap_Row_leap_Row_m, fitsS_dec, Option.bind_some, Option.isNone_none, Option.isNone_some, Option.isSome_none, Option.isSome_some, Bool.not_true, Bool.not_false, cond_true, cond_false, cond_dec, beq_int, bne_int, not_dec]
    rw [if_neg (by omega)]; rfl
  · rw [decide_eq_false (show ¬ rowsEq a b from fun hh => hl hh.1)]
    refine (Evn.some 0 fun k => ?_).lim
    simp only [f_slices_Equal_leap_Row_leap_Row_m, fitsS_dec, Option.bind_some, Option.isNone_none, Option.isNone_some, Option.isSome_none, Option.isSome_some, Bool.not_true, Bool.not_false, cond_true, cond_false, cond_dec, beq_int, bne_int, not_dec]
    rw [if_pos (by omega)]
theorem leap_same (a b : List (Int × Int)) (u e u' e' : Int) (ha : a.length ≤ 300) (hb : b.length ≤ 300) : g_leap_Same ((), ((some (a, (u, e)), ()), ((some (b, (u', e')), ()), ()))) = some ((), ((decide (u = u' ∧ e = e' ∧ rowsEq a b), ()), ())) := by
  simp only [g_leap_Same, f_leap_Same_m, fitsS_dec, Option.bind_some, Option.isNone_none, Option.isNone_some, Option.isSome_none, Option.isSome_some, Bool.not_true, Bool.not_false, cond_true, cond_false, cond_dec, beq_int, bne_int, not_dec, rows_equal a b ha hb]
  by_cases c1 : u = u' <;> by_cases c2 : e = e' <;> simp [c1, c2]
theorem none_row (n : Int) : g_leap_Table_Row ((), ((none, ()), ((n, ()), ()))) = some ((), ((0, (0, ())), ((false, ()), ()))) := by
  simp only [g_leap_Table_Row, f_leap_Table_Row_m, g_leap_Table_Len, f_leap_Table_Len_m, g_leap_Table_list, f_leap_Table_list_m, fitsS_dec, Option.bind_some, Option.isNone_none, Option.isNone_some, Option.isSome_none, Option.isSome_some, Bool.not_true, Bool.not_false, cond_true, cond_false, cond_dec, beq_int, bne_int, not_dec, List.length_nil, ge_iff_le]
  by_cases c : n < 0
  · rw [if_pos c]
  · rw [if_neg c, if_pos (by omega)]
theorem none_len : g_leap_Table_Len ((), ((none, ()), ())) = some ((), ((0, ()), ())) := by
  simp only [g_leap_Table_Len, f_leap_Table_Len_m, g_leap_Table_list, f_leap_Table_list_m, fitsS_dec, Option.bind_some, Option.isNone_none, Option.isNone_some, Option.isSome_none, Option.isSome_some, Bool.not_true, Bool.not_false, cond_true, cond_false, cond_dec, beq_int, bne_int, not_dec]; rfl
theorem none_rows : g_leap_Table_Rows ((), ((none, ()), ())) = some (([], ()), ((), ())) := by
  simp only [g_leap_Table_Rows, f_leap_Table_Rows_m, g_leap_Table_list, f_leap_Table_list_m, fitsS_dec, Option.bind_some, Option.isNone_none, Option.isNone_some, Option.isSome_none, Option.isSome_some, Bool.not_true, Bool.not_false, cond_true, cond_false, cond_dec, beq_int, bne_int, not_dec, clone_rows [] (by decide)]
end Go.Proofs.YtcnngodgngmghaaGreatDoor.Ev
