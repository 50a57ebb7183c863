/- The law LeapSame, plain. -/
import Derived.Test.YtddnfappkfiidaaPuLeapA
namespace Go.Proofs.Ytddnfappkfiidaa.Ev
open Go
set_option linter.unusedVariables false
set_option linter.unusedSimpArgs false
def rowsEq (a b : List (Int × Int)) : Prop := a.length = b.length ∧ ∀ i : Nat, i < a.length → (gd_i64_i64 a i).1 = (gd_i64_i64 b i).1 ∧ (gd_i64_i64 a i).2 = (gd_i64_i64 b i).2
noncomputable instance (a b : List (Int × Int)) : Decidable (rowsEq a b) := Classical.propDecidable _
theorem same_p6 {a b : List (Int × Int)} (u e u' e' : Int) (hl : a.length = b.length) (ha : a.length ≤ 300) : ∀ (k i : Nat), i + k = a.length → (∀ j : Nat, j < i → (gd_i64_i64 a j).1 = (gd_i64_i64 b j).1 ∧ (gd_i64_i64 a j).2 = (gd_i64_i64 b j).2) →
    Evn (fun j => (f_ref10_Same_t j).1 ((tbR a u e, (tbR b u' e', ())), ((), ((), (((i : Int), ()), ()))))) ((), ((decide (rowsEq a b), ()), ())) := by
  intro k; induction k with
  | zero =>
    intro i h hp
    rw [decide_eq_true (show rowsEq a b from ⟨hl, fun j hj => hp j (by omega)⟩)]
    refine Evn.some 1 fun j => ?_
    simp only [t_ref10_Same, f_ref10_Same_p6, fitsS_dec, Option.bind_some, Option.isNone_none, Option.isNone_some, Option.isSome_none, Option.isSome_some, Bool.not_true, Bool.not_false, cond_true, cond_false, cond_dec, beq_int, bne_int, not_dec]
    rw [if_neg (by omega)]
  | succ k ih =>
    intro i h hp
    by_cases c : (gd_i64_i64 a i).1 = (gd_i64_i64 b i).1 ∧ (gd_i64_i64 a i).2 = (gd_i64_i64 b i).2
    · refine (ih (i + 1) (by omega) (fun j hj => by
        by_cases e : j = i
        · subst e; exact c
        · exact hp j (by omega))).step fun j => ?_
      simp only [t_ref10_Same, f_ref10_Same_p6, fitsS_dec, Option.bind_some, Option.isNone_none, Option.isNone_some, Option.isSome_none, Option.isSome_some, Bool.not_true, Bool.not_false, cond_true, cond_false, cond_dec, beq_int, bne_int, not_dec, and_dec, Bool.and_true]
      rw [if_pos (by omega), if_pos (by omega), if_pos (by omega), if_neg (not_not_intro c), iadd_i64 (by omega)]; rfl
    · rw [decide_eq_false (show ¬ rowsEq a b from fun hh => c (hh.2 i (by omega)))]
      refine Evn.some 1 fun j => ?_
      simp only [t_ref10_Same, f_ref10_Same_p6, fitsS_dec, Option.bind_some, Option.isNone_none, Option.isNone_some, Option.isSome_none, Option.isSome_some, Bool.not_true, Bool.not_false, cond_true, cond_false, cond_dec, beq_int, bne_int, not_dec, and_dec, Bool.and_true]
      rw [if_pos (by omega), if_pos (by omega), if_pos (by omega), if_pos c]
theorem ref10_same (a b : List (Int × Int)) (u e u' e' : Int) (ha : a.length ≤ 300) (hb : b.length ≤ 300) : g_ref10_Same ((), (tbR a u e, (tbR b u' e', ()))) = some ((), ((decide (u = u' ∧ e = e' ∧ rowsEq a b), ()), ())) := by
  by_cases hl : a.length = b.length
  · by_cases c1 : u = u'
    · by_cases c2 : e = e'
      · rw [show decide (u = u' ∧ e = e' ∧ rowsEq a b) = decide (rowsEq a b) by simp [c1, c2]]
        refine ((same_p6 u e u' e' hl ha a.length 0 (by omega) (fun j hj => by omega)).cast fun k => ?_).lim
        simp only [f_ref10_Same_m, fitsS_dec, Option.bind_some, Option.isNone_none, Option.isNone_some, Option.isSome_none, Option.isSome_some, Bool.not_true, Bool.not_false, cond_true, cond_false, cond_dec, beq_int, bne_int, not_dec]
        rw [if_neg (by omega), if_neg (not_not_intro c1), if_neg (not_not_intro c2)]; rfl
      · rw [decide_eq_false (by simp [c2])]
        refine (Evn.some 0 fun k => ?_).lim
        simp only [f_ref10_Same_m, fitsS_dec, Option.bind_some, Option.isNone_none, Option.isNone_some, Option.isSome_none, Option.isSome_some, Bool.not_true, Bool.not_false, cond_true, cond_false, cond_dec, beq_int, bne_int, not_dec]
        rw [if_neg (by omega), if_neg (not_not_intro c1), if_pos c2]
    · rw [decide_eq_false (by simp [c1])]
      refine (Evn.some 0 fun k => ?_).lim
      simp only [f_ref10_Same_m, fitsS_dec, Option.bind_some, Option.isNone_none, Option.isNone_some, Option.isSome_none, Option.isSome_some, Bool.not_true, Bool.not_false, cond_true, cond_false, cond_dec, beq_int, bne_int, not_dec]
      rw [if_neg (by omega), if_pos c1]
  · rw [decide_eq_false (fun hh => hl hh.2.2.1)]
    refine (Evn.some 0 fun k => ?_).lim
    simp only [f_ref10_Same_m, fitsS_dec, Option.bind_some, Option.isNone_none, Option.isNone_some, Option.isSome_none, Option.isSome_some, Bool.not_true, Bool.not_false, cond_true, cond_false, cond_dec, beq_int, bne_int, not_dec]
    rw [if_pos (by omega)]
theorem none_behind (n : Int) : g_leap_Table_behind ((), ((none, ()), ((n, ()), ()))) = some ((), ((0, ()), ())) := by
  have h : g_slices_BinarySearchFunc_leap_Row_leap_Row_i64_leap_Table_behind_1 ((), (([], ()), ((n, ()), ((), ())))) = some ((), ((0, ()), ((false, ()), ()))) := by
    refine (Evn.some 1 fun k => ?_).lim
    simp only [f_slices_BinarySearchFunc_leap_Row_leap_Row_i64_leap_Table_behind_1_m, t_slices_BinarySearchFunc_leap_Row_leap_Row_i64_leap_Table_behind_1, f_slices_BinarySearchFunc_leap_Row_leap_Row_i64_leap_Table_behind_1_p4, fitsS_dec, Option.bind_some, Option.isNone_none, Option.isNone_some, Option.isSome_none, Option.isSome_some, Bool.not_true, Bool.not_false, cond_true, cond_false, cond_dec, beq_int, bne_int, not_dec, List.length_nil]
    rw [if_neg (by decide), if_neg (by decide)]
  simp only [g_leap_Table_behind, f_leap_Table_behind_m, g_leap_Table_list, f_leap_Table_list_m, fitsS_dec, Option.bind_some, Option.isNone_none, Option.isNone_some, Option.isSome_none, Option.isSome_some, Bool.not_true, Bool.not_false, cond_true, cond_false, cond_dec, beq_int, bne_int, not_dec, h]
theorem none_row (n : Int) : g_leap_Table_Row ((), ((none, ()), ((n, ()), ()))) = some ((), ((0, (0, ())), ((false, ()), ()))) := by
  simp only [g_leap_Table_Row, f_leap_Table_Row_m, g_leap_Table_Len, f_leap_Table_Len_m, g_leap_Table_list, f_leap_Table_list_m, fitsS_dec, Option.bind_some, Option.isNone_none, Option.isNone_some, Option.isSome_none, Option.isSome_some, Bool.not_true, Bool.not_false, cond_true, cond_false, cond_dec, beq_int, bne_int, not_dec, List.length_nil, ge_iff_le]
  by_cases c : n < 0
  · rw [if_pos c]
  · rw [if_neg c, if_pos (by omega)]
theorem none_leap (n : Int) : g_leap_Table_Leap ((), ((none, ()), ((n, ()), ()))) = some ((), ((0, ()), ())) := by
  simp only [g_leap_Table_Leap, f_leap_Table_Leap_m, none_behind, none_row, fitsS_dec, Option.bind_some, Option.isNone_none, Option.isNone_some, Option.isSome_none, Option.isSome_some, Bool.not_true, Bool.not_false, cond_true, cond_false, cond_dec, beq_int, bne_int, not_dec]
theorem none_length (n : Int) : g_leap_Table_Length ((), ((none, ()), ((n, ()), ()))) = some ((), ((86400, ()), ())) := by
  simp only [g_leap_Table_Length, f_leap_Table_Length_m, none_leap, Option.bind_some]
  rw [iadd_i64 (by omega)]; rfl
theorem none_len : g_leap_Table_Len ((), ((none, ()), ())) = some ((), ((0, ()), ())) := by
  simp only [g_leap_Table_Len, f_leap_Table_Len_m, g_leap_Table_list, f_leap_Table_list_m, fitsS_dec, Option.bind_some, Option.isNone_none, Option.isNone_some, Option.isSome_none, Option.isSome_some, Bool.not_true, Bool.not_false, cond_true, cond_false, cond_dec, beq_int, bne_int, not_dec]; rfl
theorem none_rows : g_leap_Table_Rows ((), ((none, ()), ())) = some (([], ()), ((), ())) := by
  simp only [g_leap_Table_Rows, f_leap_Table_Rows_m, g_leap_Table_list, f_leap_Table_list_m, fitsS_dec, Option.bind_some, Option.isNone_none, Option.isNone_some, Option.isSome_none, Option.isSome_some, Bool.not_true, Bool.not_false, cond_true, cond_false, cond_dec, beq_int, bne_int, not_dec, clone_rows [] (by decide)]
end Go.Proofs.Ytddnfappkfiidaa.Ev
