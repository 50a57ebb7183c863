/- The law LeapTables, plain. -/
import Derived.Test.YtddnfappkfiidaaPuLeapA
import Derived.Test.YtddnfappkfiidaaPureLeapSame
import Derived.Test.YtddnfappkfiidaaPuNn
namespace Go.Proofs.Ytddnfappkfiidaa.Ev
open Go
set_option linter.unusedVariables false
set_option linter.unusedSimpArgs false
theorem index_io1 (l : List (Int × Int)) (n : Int) : ∀ (k : Nat) (i : Int), (f_slices_IndexFunc_leap_Row_leap_Row_leap_New_1_2_t k).1 ((l, ()), ((), ((), ((n, ()), ((i, ()), ()))))) =
    ((f_slices_IndexFunc_leap_Row_leap_Row_leap_New_1_t k).1 ((), ((l, ()), ((), ((n, ()), ((i, ()), ())))))).map fun o => ((l, ()), ((o.2.1.1, ()), ((), ())))
  | 0, i => rfl
  | k + 1, i => by
    rw [t_slices_IndexFunc_leap_Row_leap_Row_leap_New_1_2, t_slices_IndexFunc_leap_Row_leap_Row_leap_New_1]
    simp only [f_slices_IndexFunc_leap_Row_leap_Row_leap_New_1_2_p3, f_slices_IndexFunc_leap_Row_leap_Row_leap_New_1_p3]
    cases decide (i < n) with
    | false => rfl
    | true =>
      simp only [cond_true]
      cases (decide ((0 : Int) ≤ i) && decide (i < (l.length : Int))) with
      | false => rfl
      | true =>
        simp only [cond_true]
        cases g_leap_New_1 ((), (((gd_i64_i64 l i).1, ((gd_i64_i64 l i).2, ())), ())) with
        | none => rfl
        | some o =>
          simp only [Option.bind_some]
          cases o.2.1.1 with
          | true => rfl
          | false => simp only [cond_false]; exact index_io1 l n k _
theorem index_io2 (l : List (Int × Int)) (n : Int) : ∀ (k : Nat) (i : Int), (f_slices_IndexFunc_leap_Row_leap_Row_leap_New_2_2_t k).1 ((l, ()), ((), ((), ((n, ()), ((i, ()), ()))))) =
    ((f_slices_IndexFunc_leap_Row_leap_Row_leap_New_2_t k).1 ((), ((l, ()), ((), ((n, ()), ((i, ()), ())))))).map fun o => ((l, ()), ((o.2.1.1, ()), ((), ())))
  | 0, i => rfl
  | k + 1, i => by
    rw [t_slices_IndexFunc_leap_Row_leap_Row_leap_New_2_2, t_slices_IndexFunc_leap_Row_leap_Row_leap_New_2]
    simp only [f_slices_IndexFunc_leap_Row_leap_Row_leap_New_2_2_p3, f_slices_IndexFunc_leap_Row_leap_Row_leap_New_2_p3]
    cases decide (i < n) with
    | false => rfl
    | true =>
      simp only [cond_true]
      cases (decide ((0 : Int) ≤ i) && decide (i < (l.length : Int))) with
      | false => rfl
      | true =>
        simp only [cond_true]
        cases g_leap_New_2 ((), (((gd_i64_i64 l i).1, ((gd_i64_i64 l i).2, ())), ())) with
        | none => rfl
        | some o =>
          simp only [Option.bind_some]
          cases o.2.1.1 with
          | true => rfl
          | false => simp only [cond_false]; exact index_io2 l n k _
theorem Evn.mapS {R S : Type} {F : Nat → Option R} {r : R} (h : Evn F r) (f : R → S) : Evn (fun k => (F k).map f) (f r) := by
  obtain ⟨n, h⟩ := h
  exact ⟨n, fun k hk => by show (F k).map f = _; rw [h k hk]; rfl⟩
theorem any_undated_io (l : List (Int × Int)) (hl : l.length ≤ 1000) : g_slices_ContainsFunc_leap_Row_leap_Row_leap_New_1_2 ((l, ()), ((), ((), ()))) = some ((l, ()), ((decide (undatedL l), ()), ((), ()))) := by
  obtain ⟨x, h1, h2⟩ := index_undated l hl l.length 0 (by omega)
  have e := (h1.mapS fun o => (((l, ()), ((o.2.1.1, ()), ((), ()))) : ((List (Int × Int)) × Unit) × ((Int × Unit) × (Unit × Unit))))
  have h1 : g_slices_IndexFunc_leap_Row_leap_Row_leap_New_1_2 ((l, ()), ((), ((), ()))) = some ((l, ()), ((x, ()), ((), ()))) := (e.cast fun k => by simp only [f_slices_IndexFunc_leap_Row_leap_Row_leap_New_1_2_m]; exact index_io1 l _ k _).lim
  simp only [g_slices_ContainsFunc_leap_Row_leap_Row_leap_New_1_2, f_slices_ContainsFunc_leap_Row_leap_Row_leap_New_1_2_m, h1, Option.bind_some, ge_iff_le]
  have : decide (0 ≤ x) = decide (undatedL l) := by
    simp only [decide_eq_decide]
    rcases h2 with ⟨h2, h3⟩ | ⟨h2, h3⟩
    · subst h2
      exact ⟨fun h => absurd h (by decide), fun ⟨j, h4, h5⟩ => absurd (h3 j (Nat.zero_le _) h4) h5⟩
    · exact ⟨fun _ => h3, fun _ => h2⟩
  rw [this]
theorem any_wrong_io (l : List (Int × Int)) (hl : l.length ≤ 1000) (hd : ¬ undatedL l) : g_slices_ContainsFunc_leap_Row_leap_Row_leap_New_2_2 ((l, ()), ((), ((), ()))) = some ((l, ()), ((decide (wrongL l), ()), ((), ()))) := by
  obtain ⟨x, h1, h2⟩ := index_wrong l hl hd l.length 0 (by omega)
  have e := (h1.mapS fun o => (((l, ()), ((o.2.1.1, ()), ((), ()))) : ((List (Int × Int)) × Unit) × ((Int × Unit) × (Unit × Unit))))
  have h1 : g_slices_IndexFunc_leap_Row_leap_Row_leap_New_2_2 ((l, ()), ((), ((), ()))) = some ((l, ()), ((x, ()), ((), ()))) := (e.cast fun k => by simp only [f_slices_IndexFunc_leap_Row_leap_Row_leap_New_2_2_m]; exact index_io2 l _ k _).lim
  have h3 := any_wrong l hl hd
  obtain ⟨x', k1, _⟩ := index_wrong l hl hd l.length 0 (by omega)
  have g1 : g_slices_IndexFunc_leap_Row_leap_Row_leap_New_2 ((), ((l, ()), ((), ()))) = some ((), ((x, ()), ())) := by
    obtain ⟨y, q1, q2⟩ := index_wrong l hl hd l.length 0 (by omega)
    have f1 : g_slices_IndexFunc_leap_Row_leap_Row_leap_New_2_2 ((l, ()), ((), ((), ()))) = some ((l, ()), ((y, ()), ((), ()))) := ((q1.mapS fun o => (((l, ()), ((o.2.1.1, ()), ((), ()))) : ((List (Int × Int)) × Unit) × ((Int × Unit) × (Unit × Unit)))).cast fun k => by simp only [f_slices_IndexFunc_leap_Row_leap_Row_leap_New_2_2_m]; exact index_io2 l _ k _).lim
    rw [h1] at f1
    simp only [Option.some.injEq, Prod.mk.injEq, and_true, true_and] at f1
    subst f1
    exact (q1.cast fun k => by simp only [f_slices_IndexFunc_leap_Row_leap_Row_leap_New_2_m]; rfl).lim
  simp only [g_slices_ContainsFunc_leap_Row_leap_Row_leap_New_2, f_slices_ContainsFunc_leap_Row_leap_Row_leap_New_2_m, g1, Option.bind_some, Option.some.injEq, Prod.mk.injEq, and_true, true_and] at h3
  simp only [g_slices_ContainsFunc_leap_Row_leap_Row_leap_New_2_2, f_slices_ContainsFunc_leap_Row_leap_Row_leap_New_2_2_m, h1, Option.bind_some, h3]
theorem leap_new_io (l : List (Int × Int)) (u e : Int) : g_leap_New_io ((l, ()), ((), ((u, ()), ((e, ()), ())))) = some ((l, ()), ((if tErr l u e = 0 then some (l, (u, e)) else none, ()), ((errOf (tErr l u e), ()), ((), ())))) := by
  simp only [g_leap_New_io, f_leap_New_io_m, fitsS_dec, Option.bind_some, Option.isNone_none, Option.isNone_some, Option.isSome_none, Option.isSome_some, Bool.not_true, Bool.not_false, cond_true, cond_false, cond_dec, beq_int, bne_int, not_dec, gt_iff_lt]
  unfold tErr
  by_cases c1 : l.length = 0
  · rw [if_pos (by omega), if_pos c1]; rfl
  rw [if_neg (by omega), if_neg c1]
  by_cases c2 : 256 < l.length
  · rw [if_pos (by omega), if_pos c2]; rfl
  rw [if_neg (by omega), if_neg c2, any_undated_io l (by omega)]
  simp only [Option.bind_some, cond_dec]
  by_cases c3 : undatedL l
  · rw [if_pos c3, if_pos c3]; rfl
  rw [if_neg c3, if_neg c3, any_wrong_io l (by omega) c3]
  simp only [Option.bind_some, cond_dec, leap_time, not_dec]
  by_cases c4 : wrongL l
  · have hE : (if wrongL l ∨ ¬ timeP u ∨ ¬ timeP e then (1 : Int) else if ¬ rises l then 6 else 0) = 1 := if_pos (.inl c4)
    rw [if_pos c4, hE]; rfl
  rw [if_neg c4]
  by_cases c5 : timeP u
  · rw [if_neg (show ¬¬(0 ≤ u ∧ u ≤ 1099511627776) by unfold timeP at c5; omega)]
    by_cases c6 : timeP e
    · rw [if_neg (show ¬¬(0 ≤ e ∧ e ≤ 1099511627776) by unfold timeP at c6; omega), leap_rise l (by omega) (fun i hi => (offs_of c4 i hi).2)]
      simp only [Option.bind_some, cond_dec, not_dec]
      by_cases c7 : rises l
      · have hE : (if wrongL l ∨ ¬ timeP u ∨ ¬ timeP e then (1 : Int) else if ¬ rises l then 6 else 0) = 0 := by
          rw [if_neg (show ¬(wrongL l ∨ ¬ timeP u ∨ ¬ timeP e) by simp [c4, c5, c6]), if_neg (not_not_intro c7)]
        rw [hE, if_neg (not_not_intro c7), clone_rows l (by omega)]; rfl
      · have hE : (if wrongL l ∨ ¬ timeP u ∨ ¬ timeP e then (1 : Int) else if ¬ rises l then 6 else 0) = 6 := by
          rw [if_neg (show ¬(wrongL l ∨ ¬ timeP u ∨ ¬ timeP e) by simp [c4, c5, c6]), if_pos c7]
        rw [hE, if_pos c7]; rfl
    · have hE : (if wrongL l ∨ ¬ timeP u ∨ ¬ timeP e then (1 : Int) else if ¬ rises l then 6 else 0) = 1 := if_pos (.inr (.inr c6))
      rw [if_pos (show ¬(0 ≤ e ∧ e ≤ 1099511627776) from c6), hE]; rfl
  · have hE : (if wrongL l ∨ ¬ timeP u ∨ ¬ timeP e then (1 : Int) else if ¬ rises l then 6 else 0) = 1 := if_pos (.inr (.inl c5))
    rw [if_pos (show ¬(0 ≤ u ∧ u ≤ 1099511627776) from c5), hE]; rfl
theorem law10_is (l : List (Int × Int)) (u e : Int) (hl : l.length ≤ 300) : g_law10_Is ((), ((some (l, (u, e)), ()), (tbR l u e, ()))) = some ((), ((true, ()), ())) := by
  have h1 := document10 l (by omega) u e
  have h2 := ref10_same l l u e u e hl hl
  rw [decide_eq_true (show u = u ∧ e = e ∧ rowsEq l l from ⟨rfl, rfl, rfl, fun i hi => ⟨rfl, rfl⟩⟩)] at h2
  simp only [g_law10_Is, f_law10_Is_m, g_leap_Table_Rows, f_leap_Table_Rows_m, g_leap_Table_Updated, f_leap_Table_Updated_m, g_leap_Table_Expires, f_leap_Table_Expires_m, g_leap_Table_list, f_leap_Table_list_m, clone_rows l (by omega), h1, h2, fitsS_dec, Option.bind_some, Option.isNone_none, Option.isNone_some, Option.isSome_none, Option.isSome_some, Bool.not_true, Bool.not_false, cond_true, cond_false, cond_dec, beq_int, bne_int, not_dec]
theorem tables_p18 (l : List (Int × Int)) (u e i : Int) (hl : l.length ≤ 300) (k : Nat) : (f_law10_LeapTables_t (k + 1)).1 (((u, (e, ())), (l, ())), ((i, ()), ((some (l, (u, e)), ()), ((), ())))) = some ((), ((true, ()), ())) := by
  have his := law10_is l u e hl
  simp only [tbR] at his
  rw [t_law10_LeapTables]
  simp only [f_law10_LeapTables_p18, g_leap_Table_Row, f_leap_Table_Row_m, g_leap_Table_Len, f_leap_Table_Len_m, g_leap_Table_list, f_leap_Table_list_m, his, fitsS_dec, Option.bind_some, Option.isNone_none, Option.isNone_some, Option.isSome_none, Option.isSome_some, Bool.not_true, Bool.not_false, cond_true, cond_false, cond_dec, beq_int, bne_int, not_dec, and_dec, ge_iff_le]
  by_cases c : i < 0
  · simp only [c, if_true, fitsS_dec, Option.bind_some, Option.isNone_none, Option.isNone_some, Option.isSome_none, Option.isSome_some, Bool.not_true, Bool.not_false, cond_true, cond_false, cond_dec, beq_int, bne_int, not_dec]
    rw [if_neg (by omega)]
    simp
  · simp only [c, if_false]
    by_cases d : (l.length : Int) ≤ i
    · simp only [d, if_true, fitsS_dec, Option.bind_some, Option.isNone_none, Option.isNone_some, Option.isSome_none, Option.isSome_some, Bool.not_true, Bool.not_false, cond_true, cond_false, cond_dec, beq_int, bne_int, not_dec]
      rw [if_pos (by omega), decide_eq_false (by omega)]
      simp
    · simp only [d, if_false]
      rw [if_pos (by omega)]
      simp only [fitsS_dec, Option.bind_some, Option.isNone_none, Option.isNone_some, Option.isSome_none, Option.isSome_some, Bool.not_true, Bool.not_false, cond_true, cond_false, cond_dec, beq_int, bne_int, not_dec]
      rw [if_pos (by omega), decide_eq_true (by omega)]
      simp
      omega
theorem leap_tables (l : List (Int × Int)) (u e i : Int) : g_law10_LeapTables ((), (tbR l u e, ((i, ()), ()))) = some ((), ((true, ()), ())) := by
  refine (Evn.some (F := fun j => f_law10_LeapTables_m (f_law10_LeapTables_t j) ((), (tbR l u e, ((i, ()), ())))) 1 fun j => ?_).lim
  simp only [f_law10_LeapTables_m, leap_alive, fitsS_dec, Option.bind_some, Option.isNone_none, Option.isNone_some, Option.isSome_none, Option.isSome_some, Bool.not_true, Bool.not_false, cond_true, cond_false, cond_dec, beq_int, bne_int, not_dec, not_true_eq_false, if_false, gt_iff_lt, List.nil_append, List.length_nil, Nat.zero_add, and_dec]
  by_cases c : 300 < (l.length : Int)
  · rw [if_pos c]
  rw [if_neg c, if_pos (by omega)]
  have h1 := document10 l (by omega) u e
  have h2 := ref10_check l u e
  have h3 := law10_is l u e (by omega)
  simp only [tbR] at h1 h2 h3
  simp only [leap_new_io, h1, h2, fitsS_dec, Option.bind_some, Option.isNone_none, Option.isNone_some, Option.isSome_none, Option.isSome_some, Bool.not_true, Bool.not_false, cond_true, cond_false, cond_dec, beq_int, bne_int, not_dec, ne_eq]
  by_cases t : tErr l u e = 0
  · have hne : 0 < l.length := by
      unfold tErr at t
      by_cases z : l.length = 0
      · rw [if_pos z] at t; cases t
      · omega
    simp only [t, not_true_eq_false, if_false, if_true, errOf_zero, h3, g_leap_Table_Len, f_leap_Table_Len_m, g_leap_Table_Rows, f_leap_Table_Rows_m, g_leap_Table_list, f_leap_Table_list_m, clone_rows l (by omega), fitsS_dec, Option.bind_some, Option.isNone_none, Option.isNone_some, Option.isSome_none, Option.isSome_some, Bool.not_true, Bool.not_false, cond_true, cond_false, cond_dec, beq_int, bne_int, not_dec]
    have q := tables_p18 l u e i (by omega) j
    have p0 : (0 : Int) ≤ 0 ∧ (0 : Int) < (l.length : Int) := by omega
    have p1 : (0 : Int) < (l.length : Int) := by omega
    simp only [if_pos p0, if_pos p1, q]
  · have hn : g_hnum_Num ((), ((errOf (tErr l u e), ()), ())) = some ((), ((tErr l u e, ()), ())) := num_num _
    simp only [t, not_false_eq_true, if_true, if_false, Option.isNone_none, hn, fitsS_dec, Option.bind_some, Option.isNone_none, Option.isNone_some, Option.isSome_none, Option.isSome_some, Bool.not_true, Bool.not_false, cond_true, cond_false, cond_dec, beq_int, bne_int, not_dec, decide_true]
end Go.Proofs.Ytddnfappkfiidaa.Ev
