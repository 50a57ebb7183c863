/- The law LeapSame, plain. -/
import Derived.Test.YtjeghckeceegjaaPuLeap2
namespace Go.Proofs.Ytjeghckeceegjaa.Ev
open Go
set_option linter.unusedVariables false
set_option linter.unusedSimpArgs false
def rowsEq (a b : List (Int × Int)) : Prop := a.length = b.length ∧ ∀ i : Nat, i < a.length → (gd_i64_i64 a i).1 = (gd_i64_i64 b i).1 ∧ (gd_i64_i64 a i).2 = (gd_i64_i64 b i).2
noncomputable instance (a b : List (Int × Int)) : Decidable (rowsEq a b) := Classical.propDecidable _
theorem equal_p6 {a b : List (Int × Int)} (hl : a.length = b.length) (ha : a.length ≤ 300) : ∀ (k i : Nat), i + k = a.length → (∀ j : Nat, j < i → (gd_i64_i64 a j).1 = (gd_i64_i64 b j).1 ∧ (gd_i64_i64 a j).2 = (gd_i64_i64 b j).2) →
    Evn (fun j => (f_slices_Equal_leap_Row_leap_Row_t j).1 ((), ((a, ()), ((b, ()), (((a.length : Int), ()), (((i : Int), ()), ())))))) ((), ((decide (rowsEq a b), ()), ())) := by
  intro k; induction k with
  | zero =>
    intro i h hp
    rw [decide_eq_true (show rowsEq a b from ⟨hl, fun j hj => hp j (by omega)⟩)]
    refine Evn.some 1 fun j => ?_
    simp only [t_slices_Equal_leap_Row_leap_Row, f_slices_Equal_leap_Row_leap_Row_p6, Option.bind_some, Option.isNone_none, Option.isNone_some, Option.isSome_none, Option.isSome_some, Bool.not_true, Bool.not_false, cond_true, cond_false, cond_dec, beq_int, bne_int, not_dec]
    rw [if_neg (by omega)]
  | succ k ih =>
    intro i h hp
    by_cases c : (gd_i64_i64 a i).1 = (gd_i64_i64 b i).1 ∧ (gd_i64_i64 a i).2 = (gd_i64_i64 b i).2
    · refine (ih (i + 1) (by omega) (fun j hj => by
        by_cases e : j = i
        · subst e; exact c
        · exact hp j (by omega))).step fun j => ?_
      simp only [t_slices_Equal_leap_Row_leap_Row, f_slices_Equal_leap_Row_leap_Row_p6, Option.bind_some, Option.isNone_none, Option.isNone_some, Option.isSome_none, Option.isSome_some, Bool.not_true, Bool.not_false, cond_true, cond_false, cond_dec, beq_int, bne_int, not_dec, and_dec, Bool.and_true]
      rw [if_pos (by omega), if_pos (by omega), if_pos (by omega), if_neg (not_not_intro c), iadd_i64 (by omega)]; rfl
    · rw [decide_eq_false (show ¬ rowsEq a b from fun hh => c (hh.2 i (by omega)))]
      refine Evn.some 1 fun j => ?_
      simp only [t_slices_Equal_leap_Row_leap_Row, f_slices_Equal_leap_Row_leap_Row_p6, Option.bind_some, Option.isNone_none, Option.isNone_some, Option.isSome_none, Option.isSome_some, Bool.not_true, Bool.not_false, cond_true, cond_false, cond_dec, beq_int, bne_int, not_dec, and_dec, Bool.and_true]
      rw [if_pos (by omega), if_pos (by omega), if_pos (by omega), if_pos c]
theorem rows_equal (a b : List (Int × Int)) (ha : a.length ≤ 300) (hb : b.length ≤ 300) : g_slices_Equal_leap_Row_leap_Row ((), ((a, ()), ((b, ()), ()))) = some ((), ((decide (rowsEq a b), ()), ())) := by
  by_cases hl : a.length = b.length
  · refine ((equal_p6 hl ha a.length 0 (by omega) (fun j hj => by omega)).cast fun k => ?_).lim
    simp only [f_slices_Equal_leap_Row_leap_Row_m, Option.bind_some, Option.isNone_none, Option.isNone_some, Option.isSome_none, Option.isSome_some, Bool.not_true, Bool.not_false, cond_true, cond_false, cond_dec, beq_int, bne_int, not_dec]
    rw [if_neg (by omega)]; rfl
  · rw [decide_eq_false (show ¬ rowsEq a b from fun hh => hl hh.1)]
    refine (Evn.some 0 fun k => ?_).lim
    simp only [f_slices_Equal_leap_Row_leap_Row_m, Option.bind_some, Option.isNone_none, Option.isNone_some, Option.isSome_none, Option.isSome_some, Bool.not_true, Bool.not_false, cond_true, cond_false, cond_dec, beq_int, bne_int, not_dec]
    rw [if_pos (by omega)]
theorem same_p6 {a b : List (Int × Int)} (u e u' e' : Int) (hl : a.length = b.length) (ha : a.length ≤ 300) : ∀ (k i : Nat), i + k = a.length → (∀ j : Nat, j < i → (gd_i64_i64 a j).1 = (gd_i64_i64 b j).1 ∧ (gd_i64_i64 a j).2 = (gd_i64_i64 b j).2) →
    Evn (fun j => (f_ref10_Same_t j).1 ((tb a u e, (tb b u' e', ())), ((), ((), (((i : Int), ()), ()))))) ((), ((decide (rowsEq a b), ()), ())) := by
  intro k; induction k with
  | zero =>
    intro i h hp
    rw [decide_eq_true (show rowsEq a b from ⟨hl, fun j hj => hp j (by omega)⟩)]
    refine Evn.some 1 fun j => ?_
    simp only [t_ref10_Same, f_ref10_Same_p6, Option.bind_some, Option.isNone_none, Option.isNone_some, Option.isSome_none, Option.isSome_some, Bool.not_true, Bool.not_false, cond_true, cond_false, cond_dec, beq_int, bne_int, not_dec]
    rw [if_neg (by omega)]
  | succ k ih =>
    intro i h hp
    by_cases c : (gd_i64_i64 a i).1 = (gd_i64_i64 b i).1 ∧ (gd_i64_i64 a i).2 = (gd_i64_i64 b i).2
    · refine (ih (i + 1) (by omega) (fun j hj => by
        by_cases e : j = i
        · subst e; exact c
        · exact hp j (by omega))).step fun j => ?_
      simp only [t_ref10_Same, f_ref10_Same_p6, Option.bind_some, Option.isNone_none, Option.isNone_some, Option.isSome_none, Option.isSome_some, Bool.not_true, Bool.not_false, cond_true, cond_false, cond_dec, beq_int, bne_int, not_dec, and_dec, Bool.and_true]
      rw [if_pos (by omega), if_pos (by omega), if_pos (by omega), if_neg (not_not_intro c), iadd_i64 (by omega)]; rfl
    · rw [decide_eq_false (show ¬ rowsEq a b from fun hh => c (hh.2 i (by omega)))]
      refine Evn.some 1 fun j => ?_
      simp only [t_ref10_Same, f_ref10_Same_p6, Option.bind_some, Option.isNone_none, Option.isNone_some, Option.isSome_none, Option.isSome_some, Bool.not_true, Bool.not_false, cond_true, cond_false, cond_dec, beq_int, bne_int, not_dec, and_dec, Bool.and_true]
      rw [if_pos (by omega), if_pos (by omega), if_pos (by omega), if_pos c]
theorem ref10_same (a b : List (Int × Int)) (u e u' e' : Int) (ha : a.length ≤ 300) (hb : b.length ≤ 300) : g_ref10_Same ((), (tb a u e, (tb b u' e', ()))) = some ((), ((decide (u = u' ∧ e = e' ∧ rowsEq a b), ()), ())) := by
  by_cases hl : a.length = b.length
  · by_cases c1 : u = u'
    · by_cases c2 : e = e'
      · rw [show decide (u = u' ∧ e = e' ∧ rowsEq a b) = decide (rowsEq a b) by simp [c1, c2]]
        refine ((same_p6 u e u' e' hl ha a.length 0 (by omega) (fun j hj => by omega)).cast fun k => ?_).lim
        simp only [f_ref10_Same_m, Option.bind_some, Option.isNone_none, Option.isNone_some, Option.isSome_none, Option.isSome_some, Bool.not_true, Bool.not_false, cond_true, cond_false, cond_dec, beq_int, bne_int, not_dec]
        rw [if_neg (by omega), if_neg (not_not_intro c1), if_neg (not_not_intro c2)]; rfl
      · rw [decide_eq_false (by simp [c2])]
        refine (Evn.some 0 fun k => ?_).lim
        simp only [f_ref10_Same_m, Option.bind_some, Option.isNone_none, Option.isNone_some, Option.isSome_none, Option.isSome_some, Bool.not_true, Bool.not_false, cond_true, cond_false, cond_dec, beq_int, bne_int, not_dec]
        rw [if_neg (by omega), if_neg (not_not_intro c1), if_pos c2]
    · rw [decide_eq_false (by simp [c1])]
      refine (Evn.some 0 fun k => ?_).lim
      simp only [f_ref10_Same_m, Option.bind_some, Option.isNone_none, Option.isNone_some, Option.isSome_none, Option.isSome_some, Bool.not_true, Bool.not_false, cond_true, cond_false, cond_dec, beq_int, bne_int, not_dec]
      rw [if_neg (by omega), if_pos c1]
  · rw [decide_eq_false (fun hh => hl hh.2.2.1)]
    refine (Evn.some 0 fun k => ?_).lim
    simp only [f_ref10_Same_m, Option.bind_some, Option.isNone_none, Option.isNone_some, Option.isSome_none, Option.isSome_some, Bool.not_true, Bool.not_false, cond_true, cond_false, cond_dec, beq_int, bne_int, not_dec]
    rw [if_pos (by omega)]
theorem leap_same (a b : List (Int × Int)) (u e u' e' : Int) (ha : a.length ≤ 300) (hb : b.length ≤ 300) : g_leap_Same ((), ((some (a, (u, e)), ()), ((some (b, (u', e')), ()), ()))) = some ((), ((decide (u = u' ∧ e = e' ∧ rowsEq a b), ()), ())) := by
  simp only [g_leap_Same, f_leap_Same_m, Option.bind_some, Option.isNone_none, Option.isNone_some, Option.isSome_none, Option.isSome_some, Bool.not_true, Bool.not_false, cond_true, cond_false, cond_dec, beq_int, bne_int, not_dec, rows_equal a b ha hb]
  by_cases c1 : u = u' <;> by_cases c2 : e = e' <;> simp [c1, c2]
theorem none_behind (n : Int) : g_leap_Table_behind ((), ((none, ()), ((n, ()), ()))) = some ((), ((0, ()), ())) := by
  have h : g_slices_BinarySearchFunc_leap_Row_leap_Row_i64_leap_Table_behind_1 ((), (([], ()), ((n, ()), ((), ())))) = some ((), ((0, ()), ((false, ()), ()))) := by
    refine (Evn.some 1 fun k => ?_).lim
    simp only [f_slices_BinarySearchFunc_leap_Row_leap_Row_i64_leap_Table_behind_1_m, t_slices_BinarySearchFunc_leap_Row_leap_Row_i64_leap_Table_behind_1, f_slices_BinarySearchFunc_leap_Row_leap_Row_i64_leap_Table_behind_1_p4, Option.bind_some, Option.isNone_none, Option.isNone_some, Option.isSome_none, Option.isSome_some, Bool.not_true, Bool.not_false, cond_true, cond_false, cond_dec, beq_int, bne_int, not_dec, List.length_nil]
    rw [if_neg (by decide), if_neg (by decide)]
  simp only [g_leap_Table_behind, f_leap_Table_behind_m, g_leap_Table_list, f_leap_Table_list_m, Option.bind_some, Option.isNone_none, Option.isNone_some, Option.isSome_none, Option.isSome_some, Bool.not_true, Bool.not_false, cond_true, cond_false, cond_dec, beq_int, bne_int, not_dec, h]
theorem none_row (n : Int) : g_leap_Table_Row ((), ((none, ()), ((n, ()), ()))) = some ((), ((0, (0, ())), ((false, ()), ()))) := by
  simp only [g_leap_Table_Row, f_leap_Table_Row_m, g_leap_Table_Len, f_leap_Table_Len_m, g_leap_Table_list, f_leap_Table_list_m, Option.bind_some, Option.isNone_none, Option.isNone_some, Option.isSome_none, Option.isSome_some, Bool.not_true, Bool.not_false, cond_true, cond_false, cond_dec, beq_int, bne_int, not_dec, List.length_nil, ge_iff_le]
  by_cases c : n < 0
  · rw [if_pos c]
  · rw [if_neg c, if_pos (by omega)]
theorem none_offset (n : Int) : g_leap_Table_Offset ((), ((none, ()), ((n, ()), ()))) = some ((), ((0, ()), ((false, ()), ()))) := by
  simp only [g_leap_Table_Offset, f_leap_Table_Offset_m, none_behind, none_row, Option.bind_some]
theorem none_leap (n : Int) : g_leap_Table_Leap ((), ((none, ()), ((n, ()), ()))) = some ((), ((0, ()), ())) := by
  simp only [g_leap_Table_Leap, f_leap_Table_Leap_m, none_behind, none_row, Option.bind_some, Option.isNone_none, Option.isNone_some, Option.isSome_none, Option.isSome_some, Bool.not_true, Bool.not_false, cond_true, cond_false, cond_dec, beq_int, bne_int, not_dec]
theorem none_length (n : Int) : g_leap_Table_Length ((), ((none, ()), ((n, ()), ()))) = some ((), ((86400, ()), ())) := by
  simp only [g_leap_Table_Length, f_leap_Table_Length_m, none_leap, Option.bind_some]
  rw [iadd_i64 (by omega)]; rfl
theorem none_has (n s : Int) : g_leap_Table_Has ((), ((none, ()), ((n, ()), ((s, ()), ())))) = some ((), ((decide (0 ≤ s ∧ s < 86400), ()), ())) := by
  simp only [g_leap_Table_Has, f_leap_Table_Has_m, none_length, Option.bind_some, Option.isNone_none, Option.isNone_some, Option.isSome_none, Option.isSome_some, Bool.not_true, Bool.not_false, cond_true, cond_false, cond_dec, beq_int, bne_int, not_dec, ge_iff_le]
  by_cases c : 0 ≤ s <;> simp [c]
theorem none_next (n : Int) : g_leap_Table_Next ((), ((none, ()), ((n, ()), ()))) = some ((), ((0, ()), ((0, ()), ((false, ()), ())))) := by
  simp only [g_leap_Table_Next, f_leap_Table_Next_m, none_behind, none_row, Option.bind_some, Option.isNone_none, Option.isNone_some, Option.isSome_none, Option.isSome_some, Bool.not_true, Bool.not_false, cond_true, cond_false, cond_dec, beq_int, bne_int, not_dec]
theorem none_len : g_leap_Table_Len ((), ((none, ()), ())) = some ((), ((0, ()), ())) := by
  simp only [g_leap_Table_Len, f_leap_Table_Len_m, g_leap_Table_list, f_leap_Table_list_m, Option.bind_some, Option.isNone_none, Option.isNone_some, Option.isSome_none, Option.isSome_some, Bool.not_true, Bool.not_false, cond_true, cond_false, cond_dec, beq_int, bne_int, not_dec]; rfl
theorem none_rows : g_leap_Table_Rows ((), ((none, ()), ())) = some (([], ()), ((), ())) := by
  simp only [g_leap_Table_Rows, f_leap_Table_Rows_m, g_leap_Table_list, f_leap_Table_list_m, Option.bind_some, Option.isNone_none, Option.isNone_some, Option.isSome_none, Option.isSome_some, Bool.not_true, Bool.not_false, cond_true, cond_false, cond_dec, beq_int, bne_int, not_dec, clone_rows [] (by decide)]
theorem leap_sames (a b : List (Int × Int)) (u e u' e' n : Int) : g_law10_LeapSame ((), (tb a u e, (tb b u' e', ((n, ()), ())))) = some ((), ((true, ()), ())) := by
  simp only [g_law10_LeapSame, f_law10_LeapSame_m, leap_alive, Option.bind_some, Option.isNone_none, Option.isNone_some, Option.isSome_none, Option.isSome_some, Bool.not_true, Bool.not_false, cond_true, cond_false, cond_dec, beq_int, bne_int, not_dec, gt_iff_lt]
  by_cases c0 : 300 < a.length
  · rw [if_pos (by omega)]
  rw [if_neg (by omega)]
  by_cases c1 : 300 < b.length
  · rw [if_pos (by omega)]
  rw [if_neg (by omega)]
  have hm := made a (by omega) u e
  have hm' := made b (by omega) u' e'
  have hc := ref10_check a u e
  have hc' := ref10_check b u' e'
  have hs := leap_same a b u e u' e' (by omega) (by omega)
  have hs' := leap_same a a u e u e (by omega) (by omega)
  have hr := ref10_same a b u e u' e' (by omega) (by omega)
  have haa : rowsEq a a := ⟨rfl, fun _ _ => ⟨rfl, rfl⟩⟩
  have hn : g_leap_Same ((), ((none, ()), ((none, ()), ()))) = some ((), ((true, ()), ())) := by simp only [g_leap_Same, f_leap_Same_m, Option.bind_some, Option.isNone_none, Option.isNone_some, Option.isSome_none, Option.isSome_some, Bool.not_true, Bool.not_false, cond_true, cond_false, cond_dec, beq_int, bne_int, not_dec]
  have hn1 : g_leap_Same ((), ((some (a, (u, e)), ()), ((none, ()), ()))) = some ((), ((false, ()), ())) := by simp only [g_leap_Same, f_leap_Same_m, Option.bind_some, Option.isNone_none, Option.isNone_some, Option.isSome_none, Option.isSome_some, Bool.not_true, Bool.not_false, cond_true, cond_false, cond_dec, beq_int, bne_int, not_dec]
  have hn2 : g_leap_Same ((), ((none, ()), ((some (b, (u', e')), ()), ()))) = some ((), ((false, ()), ())) := by simp only [g_leap_Same, f_leap_Same_m, Option.bind_some, Option.isNone_none, Option.isNone_some, Option.isSome_none, Option.isSome_some, Bool.not_true, Bool.not_false, cond_true, cond_false, cond_dec, beq_int, bne_int, not_dec]
  simp only [none_offset, none_row, none_next, none_len, none_rows, none_leap, none_length, none_has, g_leap_Table_Updated, f_leap_Table_Updated_m, g_leap_Table_Expires, f_leap_Table_Expires_m, g_leap_Table_Expired, f_leap_Table_Expired_m, hn, hm, hm', Option.bind_some, Option.isNone_none, Option.isNone_some, Option.isSome_none, Option.isSome_some, Bool.not_true, Bool.not_false, cond_true, cond_false, cond_dec, beq_int, bne_int, not_dec, List.length_nil, ne_eq, not_true_eq_false, if_false, decide_true, Bool.and_self]
  by_cases e1 : tErr a u e = 0
  · by_cases e2 : tErr b u' e' = 0
    · simp [e1, e2, hs, hs', hr, hn1, hn2, haa]
    · simp [e1, e2, hc']
  · by_cases e2 : tErr b u' e' = 0
    · simp [e1, e2, hc, hc']
    · simp [e1, e2, hc, hc']
end Go.Proofs.Ytjeghckeceegjaa.Ev
