/- Pure texts, put together. -/
import Derived.Test.YtddnfappkfiidaaGreatJoint0
namespace Go.Proofs.YtddnfappkfiidaaGreat.Ev
open Go
set_option linter.unusedVariables false
set_option linter.unusedSimpArgs false
def dated (n : Int) : Prop := -25567 ≤ n ∧ n ≤ 2932896
def first (n : Int) : Prop := ∃ y m, IsDate n y m 1
def undatedL (l : List (Int × Int)) : Prop := ∃ i : Nat, i < l.length ∧ ¬ dated (gd_i64_i64 l i).1
def wrongL (l : List (Int × Int)) : Prop := ∃ i : Nat, i < l.length ∧ ¬(first (gd_i64_i64 l i).1 ∧ 0 ≤ (gd_i64_i64 l i).2 ∧ (gd_i64_i64 l i).2 ≤ 1000)
def foll (b a : Int × Int) : Prop := b.1 > a.1 ∧ (b.2 - a.2 = 1 ∨ b.2 - a.2 = -1)
def rises (l : List (Int × Int)) : Prop := ∀ i : Nat, i + 1 < l.length → foll (gd_i64_i64 l ((i + 1 : Nat) : Int)) (gd_i64_i64 l i)
def timeP (s : Int) : Prop := 0 ≤ s ∧ s ≤ 1099511627776
instance (n : Int) : Decidable (dated n) := by unfold dated; infer_instance
instance (n : Int) : Decidable (timeP n) := by unfold timeP; infer_instance
noncomputable instance (n : Int) : Decidable (first n) := Classical.propDecidable _
noncomputable instance (l : List (Int × Int)) : Decidable (undatedL l) := Classical.propDecidable _
noncomputable instance (l : List (Int × Int)) : Decidable (wrongL l) := Classical.propDecidable _
noncomputable instance (l : List (Int × Int)) : Decidable (rises l) := Classical.propDecidable _
/-- An error's number of a table. -/
noncomputable def tErr (l : List (Int × Int)) (u e : Int) : Int :=
  if l.length = 0 then 8 else if 256 < l.length then 3 else if undatedL l then 13 else if wrongL l ∨ ¬ timeP u ∨ ¬ timeP e then 1 else if ¬ rises l then 6 else 0
theorem date_1900 {n y m d : Int} (h : IsDate n y m d) : 1900 ≤ y ↔ -25567 ≤ n := by
  have a := isDate_year h
  have e : dnum 1900 1 1 = -25567 := rfl
  constructor
  · intro hy
    by_cases c : y = 1900
    · subst c; omega
    · have := ystart_mono (y := 1900) (y' := y) (by omega)
      have := ylen_eq 1900
      have : ylen 1900 = 365 := by decide
      omega
  · intro hn
    by_cases c : y < 1900
    · have := ystart_mono c; omega
    · omega
theorem row_dated (n o : Int) : g_leap_Row_dated ((), ((n, (o, ())), ())) = some ((), ((decide (dated n), ()), ())) := by
  simp only [g_leap_Row_dated, f_leap_Row_dated_m]
  by_cases h : -4371587 ≤ n ∧ n ≤ 2932896
  · obtain ⟨y, m, d, e, hd⟩ := day_date_ex n h
    simp only [e, fitsS_dec, Option.bind_some, Option.isNone_none, Option.isNone_some, Option.isSome_none, Option.isSome_some, Bool.not_true, Bool.not_false, cond_true, cond_false, cond_dec, beq_int, bne_int, not_dec, ge_iff_le]
    have := date_1900 hd
    congr 4
    rw [decide_eq_decide]; unfold dated
    constructor <;> intro hh <;> omega
  · simp only [day_date_bad h, fitsS_dec, Option.bind_some, Option.isNone_none, Option.isNone_some, Option.isSome_none, Option.isSome_some, Bool.not_true, Bool.not_false, cond_true, cond_false, cond_dec, beq_int, bne_int, not_dec]
    rw [decide_eq_false (by unfold dated; omega)]
theorem row_may (n o : Int) : g_leap_Row_may ((), ((n, (o, ())), ())) = some ((), ((decide (first n ∧ (-4371587 ≤ n ∧ n ≤ 2932896) ∧ 0 ≤ o ∧ o ≤ 1000), ()), ())) := by
  simp only [g_leap_Row_may, f_leap_Row_may_m]
  by_cases h : -4371587 ≤ n ∧ n ≤ 2932896
  · obtain ⟨y, m, d, e, hd⟩ := day_date_ex n h
    simp only [e, fitsS_dec, Option.bind_some, Option.isNone_none, Option.isNone_some, Option.isSome_none, Option.isSome_some, Bool.not_true, Bool.not_false, cond_true, cond_false, cond_dec, beq_int, bne_int, not_dec, ge_iff_le]
    by_cases c : d = 1
    · subst c
      rw [if_pos rfl]
      have hf : first n := ⟨y, m, hd⟩
      by_cases c2 : 0 ≤ o
      · rw [if_pos c2]; congr 4; simp [hf, h, c2]
      · rw [if_neg c2, decide_eq_false (by simp [c2])]
    · rw [if_neg c, decide_eq_false]
      rintro ⟨⟨y', m', h'⟩, _⟩
      exact c (isDate_unique hd h').2.2
  · simp only [day_date_bad h, fitsS_dec, Option.bind_some, Option.isNone_none, Option.isNone_some, Option.isSome_none, Option.isSome_some, Bool.not_true, Bool.not_false, cond_true, cond_false, cond_dec, beq_int, bne_int, not_dec]
    rw [decide_eq_false (by simp only [h, false_and, and_false, not_false_eq_true])]
theorem leap_time (s : Int) : g_leap_time ((), ((s, ()), ())) = some ((), ((decide (0 ≤ s ∧ s ≤ 1099511627776), ()), ())) := by
  simp only [g_leap_time, f_leap_time_m, fitsS_dec, Option.bind_some, Option.isNone_none, Option.isNone_some, Option.isSome_none, Option.isSome_some, Bool.not_true, Bool.not_false, cond_true, cond_false, cond_dec, beq_int, bne_int, not_dec, ge_iff_le]
  by_cases h : 0 ≤ s <;> simp [h]
theorem follows (a b c d : Int) (hb : 0 ≤ b ∧ b ≤ 1000) (hd : 0 ≤ d ∧ d ≤ 1000) : g_leap_Row_follows ((), ((a, (b, ())), ((c, (d, ())), ()))) = some ((), ((decide (a > c ∧ (b - d = 1 ∨ b - d = -1)), ()), ())) := by
  simp only [g_leap_Row_follows, f_leap_Row_follows_m, fitsS_dec, Option.bind_some, Option.isNone_none, Option.isNone_some, Option.isSome_none, Option.isSome_some, Bool.not_true, Bool.not_false, cond_true, cond_false, cond_dec, beq_int, bne_int, not_dec]
  rw [isub_i64 (by omega)]
  by_cases h1 : a > c <;> by_cases h2 : b - d = 1 <;> by_cases h3 : b - d = -1 <;> simp [h1, h2, h3]
theorem index_undated (l : List (Int × Int)) (hl : l.length ≤ 1000) : ∀ (k i : Nat), i + k = l.length → ∃ x : Int, Evn (fun j => (f_slices_IndexFunc_leap_Row_leap_Row_leap_New_1_t j).1 ((), ((l, ()), ((), (((l.length : Int), ()), (((i : Int), ()), ())))))) ((), ((x, ()), ())) ∧
    ((x = -1 ∧ ∀ j : Nat, i ≤ j → j < l.length → dated (gd_i64_i64 l j).1) ∨ (0 ≤ x ∧ ∃ j : Nat, j < l.length ∧ ¬ dated (gd_i64_i64 l j).1)) := by
  intro k; induction k with
  | zero =>
    intro i h
    refine ⟨-1, Evn.some 1 fun j => ?_, .inl ⟨rfl, fun j h1 h2 => by omega⟩⟩
    simp only [t_slices_IndexFunc_leap_Row_leap_Row_leap_New_1, f_slices_IndexFunc_leap_Row_leap_Row_leap_New_1_p3, fitsS_dec, Option.bind_some, Option.isNone_none, Option.isNone_some, Option.isSome_none, Option.isSome_some, Bool.not_true, Bool.not_false, cond_true, cond_false, cond_dec, beq_int, bne_int, not_dec]
    rw [if_neg (by omega)]
  | succ k ih =>
    intro i h
    by_cases c : dated (gd_i64_i64 l i).1
    · obtain ⟨x, h1, h2⟩ := ih (i + 1) (by omega)
      refine ⟨x, h1.step fun j => ?_, ?_⟩
      · simp only [t_slices_IndexFunc_leap_Row_leap_Row_leap_New_1, f_slices_IndexFunc_leap_Row_leap_Row_leap_New_1_p3, g_leap_New_1, f_leap_New_1_m, row_dated, fitsS_dec, Option.bind_some, Option.isNone_none, Option.isNone_some, Option.isSome_none, Option.isSome_some, Bool.not_true, Bool.not_false, cond_true, cond_false, cond_dec, beq_int, bne_int, not_dec, and_dec]
        rw [if_pos (by omega), if_pos (by omega), if_neg (by simpa using c), iadd_i64 (by omega)]; rfl
      · rcases h2 with ⟨h2, h3⟩ | h2
        · refine .inl ⟨h2, fun j h4 h5 => ?_⟩
          by_cases e : j = i
          · subst e; exact c
          · exact h3 j (by omega) h5
        · exact .inr h2
    · refine ⟨i, Evn.some 1 fun j => ?_, .inr ⟨by omega, i, by omega, c⟩⟩
      simp only [t_slices_IndexFunc_leap_Row_leap_Row_leap_New_1, f_slices_IndexFunc_leap_Row_leap_Row_leap_New_1_p3, g_leap_New_1, f_leap_New_1_m, row_dated, fitsS_dec, Option.bind_some, Option.isNone_none, Option.isNone_some, Option.isSome_none, Option.isSome_some, Bool.not_true, Bool.not_false, cond_true, cond_false, cond_dec, beq_int, bne_int, not_dec, and_dec]
      rw [if_pos (by omega), if_pos (by omega), if_pos (by simpa using c)]
theorem any_undated (l : List (Int × Int)) (hl : l.length ≤ 1000) : g_slices_ContainsFunc_leap_Row_leap_Row_leap_New_1 ((), ((l, ()), ((), ()))) = some ((), ((decide (undatedL l), ()), ())) := by
  obtain ⟨x, h1, h2⟩ := index_undated l hl l.length 0 (by omega)
  have h1 : g_slices_IndexFunc_leap_Row_leap_Row_leap_New_1 ((), ((l, ()), ((), ()))) = some ((), ((x, ()), ())) := (h1.cast fun k => by simp only [f_slices_IndexFunc_leap_Row_leap_Row_leap_New_1_m]; rfl).lim
  simp only [g_slices_ContainsFunc_leap_Row_leap_Row_leap_New_1, f_slices_ContainsFunc_leap_Row_leap_Row_leap_New_1_m, h1, Option.bind_some, ge_iff_le]
  congr 4
  simp only [decide_eq_decide]
  rcases h2 with ⟨h2, h3⟩ | ⟨h2, h3⟩
  · subst h2
    exact ⟨fun h => absurd h (by decide), fun ⟨j, h4, h5⟩ => absurd (h3 j (Nat.zero_le _) h4) h5⟩
  · exact ⟨fun _ => h3, fun _ => h2⟩
theorem index_wrong (l : List (Int × Int)) (hl : l.length ≤ 1000) (hd : ¬ undatedL l) : ∀ (k i : Nat), i + k = l.length → ∃ x : Int, Evn (fun j => (f_slices_IndexFunc_leap_Row_leap_Row_leap_New_2_t j).1 ((), ((l, ()), ((), (((l.length : Int), ()), (((i : Int), ()), ())))))) ((), ((x, ()), ())) ∧
    ((x = -1 ∧ ∀ j : Nat, i ≤ j → j < l.length → (first (gd_i64_i64 l j).1 ∧ 0 ≤ (gd_i64_i64 l j).2 ∧ (gd_i64_i64 l j).2 ≤ 1000)) ∨ (0 ≤ x ∧ ∃ j : Nat, j < l.length ∧ ¬(first (gd_i64_i64 l j).1 ∧ 0 ≤ (gd_i64_i64 l j).2 ∧ (gd_i64_i64 l j).2 ≤ 1000))) := by
  have hdt : ∀ j : Nat, j < l.length → (-4371587 ≤ (gd_i64_i64 l j).1 ∧ (gd_i64_i64 l j).1 ≤ 2932896) := fun j hj => by
    by_cases c : dated (gd_i64_i64 l j).1
    · unfold dated at c; omega
    · exact absurd ⟨j, hj, c⟩ hd
  intro k; induction k with
  | zero =>
    intro i h
    refine ⟨-1, Evn.some 1 fun j => ?_, .inl ⟨rfl, fun j h1 h2 => by omega⟩⟩
    simp only [t_slices_IndexFunc_leap_Row_leap_Row_leap_New_2, f_slices_IndexFunc_leap_Row_leap_Row_leap_New_2_p3, fitsS_dec, Option.bind_some, Option.isNone_none, Option.isNone_some, Option.isSome_none, Option.isSome_some, Bool.not_true, Bool.not_false, cond_true, cond_false, cond_dec, beq_int, bne_int, not_dec]
    rw [if_neg (by omega)]
  | succ k ih =>
    intro i h
    have hi := hdt i (by omega)
    by_cases c : first (gd_i64_i64 l i).1 ∧ 0 ≤ (gd_i64_i64 l i).2 ∧ (gd_i64_i64 l i).2 ≤ 1000
    · obtain ⟨x, h1, h2⟩ := ih (i + 1) (by omega)
      refine ⟨x, h1.step fun j => ?_, ?_⟩
      · simp only [t_slices_IndexFunc_leap_Row_leap_Row_leap_New_2, f_slices_IndexFunc_leap_Row_leap_Row_leap_New_2_p3, g_leap_New_2, f_leap_New_2_m, row_may, fitsS_dec, Option.bind_some, Option.isNone_none, Option.isNone_some, Option.isSome_none, Option.isSome_some, Bool.not_true, Bool.not_false, cond_true, cond_false, cond_dec, beq_int, bne_int, not_dec, and_dec]
        rw [if_pos (by omega), if_pos (by omega), if_neg (by simp only [Decidable.not_not]; exact ⟨c.1, hi, c.2⟩), iadd_i64 (by omega)]; rfl
      · rcases h2 with ⟨h2, h3⟩ | h2
        · refine .inl ⟨h2, fun j h4 h5 => ?_⟩
          by_cases e : j = i
          · subst e; exact c
          · exact h3 j (by omega) h5
        · exact .inr h2
    · refine ⟨i, Evn.some 1 fun j => ?_, .inr ⟨by omega, i, by omega, c⟩⟩
      simp only [t_slices_IndexFunc_leap_Row_leap_Row_leap_New_2, f_slices_IndexFunc_leap_Row_leap_Row_leap_New_2_p3, g_leap_New_2, f_leap_New_2_m, row_may, fitsS_dec, Option.bind_some, Option.isNone_none, Option.isNone_some, Option.isSome_none, Option.isSome_some, Bool.not_true, Bool.not_false, cond_true, cond_false, cond_dec, beq_int, bne_int, not_dec, and_dec]
      rw [if_pos (by omega), if_pos (by omega), if_pos (fun hh => c ⟨hh.1, hh.2.2⟩)]
theorem any_wrong (l : List (Int × Int)) (hl : l.length ≤ 1000) (hd : ¬ undatedL l) : g_slices_ContainsFunc_leap_Row_leap_Row_leap_New_2 ((), ((l, ()), ((), ()))) = some ((), ((decide (wrongL l), ()), ())) := by
  obtain ⟨x, h1, h2⟩ := index_wrong l hl hd l.length 0 (by omega)
  have h1 : g_slices_IndexFunc_leap_Row_leap_Row_leap_New_2 ((), ((l, ()), ((), ()))) = some ((), ((x, ()), ())) := (h1.cast fun k => by simp only [f_slices_IndexFunc_leap_Row_leap_Row_leap_New_2_m]; rfl).lim
  simp only [g_slices_ContainsFunc_leap_Row_leap_Row_leap_New_2, f_slices_ContainsFunc_leap_Row_leap_Row_leap_New_2_m, h1, Option.bind_some, ge_iff_le]
  congr 4
  simp only [decide_eq_decide]
  rcases h2 with ⟨h2, h3⟩ | ⟨h2, h3⟩
  · subst h2
    exact ⟨fun h => absurd h (by decide), fun ⟨j, h4, h5⟩ => absurd (h3 j (Nat.zero_le _) h4) h5⟩
  · exact ⟨fun _ => h3, fun _ => h2⟩
theorem rise_p3 (l : List (Int × Int)) (hl : l.length ≤ 1000) (ho : ∀ i : Nat, i < l.length → 0 ≤ (gd_i64_i64 l i).2 ∧ (gd_i64_i64 l i).2 ≤ 1000) : ∀ (k i : Nat), 1 ≤ i → i + k = max l.length 1 → ∃ b : Bool, Evn (fun j => (f_leap_rise_t j).1 ((), ((l, ()), (((i : Int), ()), ())))) ((), ((b, ()), ())) ∧
    ((b = true ∧ ∀ j : Nat, i ≤ j + 1 → j + 1 < l.length → foll (gd_i64_i64 l ((j + 1 : Nat) : Int)) (gd_i64_i64 l j)) ∨ (b = false ∧ ¬ rises l)) := by
  intro k; induction k with
  | zero =>
    intro i hi h
    refine ⟨true, Evn.some 1 fun j => ?_, .inl ⟨rfl, fun j h1 h2 => by omega⟩⟩
    simp only [t_leap_rise, f_leap_rise_p3, fitsS_dec, Option.bind_some, Option.isNone_none, Option.isNone_some, Option.isSome_none, Option.isSome_some, Bool.not_true, Bool.not_false, cond_true, cond_false, cond_dec, beq_int, bne_int, not_dec]
    rw [if_neg (by omega)]
  | succ k ih =>
    intro i hi h
    obtain ⟨m, rfl⟩ : ∃ m, i = m + 1 := ⟨i - 1, by omega⟩
    have e1 : isub .i64 (((m + 1 : Nat) : Int)) 1 = (m : Int) := by rw [isub_i64 (by omega)]; omega
    have h1 := ho (m + 1) (by omega)
    have h2 := ho m (by omega)
    have hf := follows (gd_i64_i64 l ((m + 1 : Nat) : Int)).1 (gd_i64_i64 l ((m + 1 : Nat) : Int)).2 (gd_i64_i64 l m).1 (gd_i64_i64 l m).2 h1 h2
    by_cases c : foll (gd_i64_i64 l ((m + 1 : Nat) : Int)) (gd_i64_i64 l m)
    · obtain ⟨b, q1, q2⟩ := ih (m + 1 + 1) (by omega) (by omega)
      refine ⟨b, q1.step fun j => ?_, ?_⟩
      · simp only [t_leap_rise, f_leap_rise_p3, fitsS_dec, Option.bind_some, Option.isNone_none, Option.isNone_some, Option.isSome_none, Option.isSome_some, Bool.not_true, Bool.not_false, cond_true, cond_false, cond_dec, beq_int, bne_int, not_dec, and_dec, e1]
        rw [if_pos (by omega), if_pos (by omega), if_pos (by omega), hf]
        simp only [Option.bind_some, not_dec, cond_dec]
        have c' := c
        unfold foll at c'
        rw [if_neg (not_not_intro c'), iadd_i64 (by omega)]; rfl
      · rcases q2 with ⟨q2, q3⟩ | q2
        · refine .inl ⟨q2, fun j h4 h5 => ?_⟩
          by_cases e : j = m
          · subst e; exact c
          · exact q3 j (by omega) h5
        · exact .inr q2
    · refine ⟨false, Evn.some 1 fun j => ?_, .inr ⟨rfl, fun hr => c (hr m (by omega))⟩⟩
      simp only [t_leap_rise, f_leap_rise_p3, fitsS_dec, Option.bind_some, Option.isNone_none, Option.isNone_some, Option.isSome_none, Option.isSome_some, Bool.not_true, Bool.not_false, cond_true, cond_false, cond_dec, beq_int, bne_int, not_dec, and_dec, e1]
      rw [if_pos (by omega), if_pos (by omega), if_pos (by omega), hf]
      simp only [Option.bind_some, not_dec, cond_dec]
      have c' := c
      unfold foll at c'
      rw [if_pos c']
theorem leap_rise (l : List (Int × Int)) (hl : l.length ≤ 1000) (ho : ∀ i : Nat, i < l.length → 0 ≤ (gd_i64_i64 l i).2 ∧ (gd_i64_i64 l i).2 ≤ 1000) : g_leap_rise ((), ((l, ()), ())) = some ((), ((decide (rises l), ()), ())) := by
  obtain ⟨b, h1, h2⟩ := rise_p3 l hl ho (max l.length 1 - 1) 1 (by omega) (by omega)
  have h1 : g_leap_rise ((), ((l, ()), ())) = some ((), ((b, ()), ())) := (h1.cast fun k => by simp only [f_leap_rise_m]; rfl).lim
  rw [h1]
  rcases h2 with ⟨rfl, h3⟩ | ⟨rfl, h3⟩
  · rw [decide_eq_true (show rises l from fun i hi => h3 i (by omega) hi)]
  · rw [decide_eq_false h3]
theorem clone_rows (l : List (Int × Int)) (h : l.length ≤ 1000) : g_slices_Clone_leap_Row_leap_Row ((), ((l, ()), ())) = some ((l, ()), ((), ())) := by
  unfold g_slices_Clone_leap_Row_leap_Row f_slices_Clone_leap_Row_leap_Row_m
  simp only [List.length_nil, List.nil_append]
  rw [decide_eq_true (show (0 + l.length) * 16 ≤ 140737488355328 by omega), decide_eq_true (show 0 + l.length ≤ 9223372036854775807 by omega)]
  simp only [Bool.and_self, cond_true]
  cases l with
  | nil => simp [agree]
  | cons x l => rfl
theorem offs_of {l : List (Int × Int)} (h : ¬ wrongL l) : ∀ i : Nat, i < l.length → first (gd_i64_i64 l i).1 ∧ 0 ≤ (gd_i64_i64 l i).2 ∧ (gd_i64_i64 l i).2 ≤ 1000 := fun i hi =>
  Classical.byContradiction fun c => h ⟨i, hi, c⟩
theorem days_of {l : List (Int × Int)} (h : ¬ undatedL l) : ∀ i : Nat, i < l.length → dated (gd_i64_i64 l i).1 := fun i hi =>
  Classical.byContradiction fun c => h ⟨i, hi, c⟩
/-- What New tells. -/
theorem leap_new (l : List (Int × Int)) (u e : Int) : g_leap_New ((), ((l, ()), ((u, ()), ((e, ()), ())))) = some ((), ((if tErr l u e = 0 then some (l, (u, e)) else none, ()), ((errOf (tErr l u e), ()), ()))) := by
  simp only [g_leap_New, f_leap_New_m, fitsS_dec, Option.bind_some, Option.isNone_none, Option.isNone_some, Option.isSome_none, Option.isSome_some, Bool.not_true, Bool.not_false, cond_true, cond_false, cond_dec, beq_int, bne_int, not_dec, gt_iff_lt]
  unfold tErr
  by_cases c1 : l.length = 0
  · rw [if_pos (by omega), if_pos c1]; rfl
  rw [if_neg (by omega), if_neg c1]
  by_cases c2 : 256 < l.length
  · rw [if_pos (by omega), if_pos c2]; rfl
  rw [if_neg (by omega), if_neg c2, any_undated l (by omega)]
  simp only [Option.bind_some, cond_dec]
  by_cases c3 : undatedL l
  · rw [if_pos c3, if_pos c3]; rfl
  rw [if_neg c3, if_neg c3, any_wrong l (by omega) c3]
  simp only [Option.bind_some, cond_dec, leap_time, not_dec]
  by_cases c4 : wrongL l
  · have hE : (if wrongL l ∨ ¬ timeP u ∨ ¬ timeP e then (1 : Int) else if ¬ rises l then 6 else 0) = 1 := if_pos (.inl c4)
    rw [if_pos c4, hE]; rfl
  rw [if_neg c4]
  by_cases c5 : timeP u
  · rw [if_neg (show ¬¬(0 ≤ u ∧ u ≤ 1099511627776) by unfold timeP at c5; omega)]
    by_cases c6 : timeP e
    · rw [if_neg (show ¬¬(0 ≤ e ∧ e ≤ 1099511627776) by unfold timeP at c6; omega), leap_rise l (by omega) (fun i hi => (offs_of c4 i hi).2)]
      simp only [Option.bind_some, cond_dec, not_dec]
      by_cases c7 : rises l
      · have hE : (if wrongL l ∨ ¬ timeP u ∨ ¬ timeP e then (1 : Int) else if ¬ rises l then 6 else 0) = 0 := by
          rw [if_neg (show ¬(wrongL l ∨ ¬ timeP u ∨ ¬ timeP e) by simp [c4, c5, c6]), if_neg (not_not_intro c7)]
        rw [hE, if_neg (not_not_intro c7), clone_rows l (by omega)]; rfl
      · have hE : (if wrongL l ∨ ¬ timeP u ∨ ¬ timeP e then (1 : Int) else if ¬ rises l then 6 else 0) = 6 := by
          rw [if_neg (show ¬(wrongL l ∨ ¬ timeP u ∨ ¬ timeP e) by simp [c4, c5, c6]), if_pos c7]
        rw [hE, if_pos c7]; rfl
    · have hE : (if wrongL l ∨ ¬ timeP u ∨ ¬ timeP e then (1 : Int) else if ¬ rises l then 6 else 0) = 1 := if_pos (.inr (.inr c6))
      rw [if_pos (show ¬(0 ≤ e ∧ e ≤ 1099511627776) from c6), hE]; rfl
  · have hE : (if wrongL l ∨ ¬ timeP u ∨ ¬ timeP e then (1 : Int) else if ¬ rises l then 6 else 0) = 1 := if_pos (.inr (.inl c5))
    rw [if_pos (show ¬(0 ≤ u ∧ u ≤ 1099511627776) from c5), hE]; rfl
/-- What a good table has. -/
structure GoodT (l : List (Int × Int)) : Prop where
  len : 1 ≤ l.length ∧ l.length ≤ 256
  day : ∀ i : Nat, i < l.length → dated (gd_i64_i64 l i).1
  off : ∀ i : Nat, i < l.length → 0 ≤ (gd_i64_i64 l i).2 ∧ (gd_i64_i64 l i).2 ≤ 1000
  rise : rises l
theorem good_of {l : List (Int × Int)} {u e : Int} (h : tErr l u e = 0) : GoodT l ∧ timeP u ∧ timeP e := by
  unfold tErr at h
  split at h
  · cases h
  rename_i c1
  split at h
  · cases h
  rename_i c2
  split at h
  · cases h
  rename_i c3
  split at h
  · cases h
  rename_i c4
  split at h
  · cases h
  rename_i c5
  have c4w : ¬ wrongL l := fun hh => c4 (.inl hh)
  exact ⟨⟨by omega, days_of c3, fun i hi => (offs_of c4w i hi).2, Classical.not_not.1 c5⟩, Classical.byContradiction fun hh => c4 (.inr (.inl hh)), Classical.byContradiction fun hh => c4 (.inr (.inr hh))⟩
theorem GoodT.mono {l : List (Int × Int)} (h : GoodT l) : ∀ (k i : Nat), i + 1 + k < l.length → (gd_i64_i64 l i).1 < (gd_i64_i64 l ((i + 1 + k : Nat) : Int)).1 := by
  intro k; induction k with
  | zero => intro i hi; exact (h.rise i hi).1
  | succ k ih =>
    intro i hi
    have := ih i (by omega)
    have := (h.rise (i + 1 + k) (by omega)).1
    rw [show i + 1 + (k + 1) = i + 1 + k + 1 by omega]; omega
theorem GoodT.lt {l : List (Int × Int)} (h : GoodT l) {i j : Nat} (hij : i < j) (hj : j < l.length) : (gd_i64_i64 l i).1 < (gd_i64_i64 l j).1 := by
  have := h.mono (j - i - 1) i (by omega)
  rw [show i + 1 + (j - i - 1) = j by omega] at this; exact this
/-- How many rows are not behind a day. -/
structure Cnt (l : List (Int × Int)) (n : Int) (k : Nat) : Prop where
  le : k ≤ l.length
  lo : ∀ i : Nat, i < k → (gd_i64_i64 l i).1 ≤ n
  hi : ∀ i : Nat, k ≤ i → i < l.length → n < (gd_i64_i64 l i).1
theorem behind_one (a b n : Int) : g_leap_Table_behind_1 ((), ((a, (b, ())), ((n, ()), ()))) = some ((), ((if a < n then -1 else if a > n then 1 else 0, ()), ())) := by
  simp only [g_leap_Table_behind_1, f_leap_Table_behind_1_m, fitsS_dec, Option.bind_some, Option.isNone_none, Option.isNone_some, Option.isSome_none, Option.isSome_some, Bool.not_true, Bool.not_false, cond_true, cond_false, cond_dec, beq_int, bne_int, not_dec]
  split
  · rfl
  · split <;> rfl
theorem search_p4 {l : List (Int × Int)} (h : GoodT l) (n : Int) : ∀ (k lo hi : Nat), hi - lo ≤ k → lo ≤ hi → hi ≤ l.length → (∀ i : Nat, i < lo → (gd_i64_i64 l i).1 < n) → (∀ i : Nat, hi ≤ i → i < l.length → n ≤ (gd_i64_i64 l i).1) →
    ∃ x : Nat, Evn (fun j => (f_slices_BinarySearchFunc_leap_Row_leap_Row_i64_leap_Table_behind_1_t j).1 ((), ((l, ()), ((n, ()), ((), (((l.length : Int), ()), (((lo : Int), ()), (((hi : Int), ()), ())))))))) ((), (((x : Int), ()), ((decide (x < l.length ∧ (gd_i64_i64 l x).1 = n), ()), ()))) ∧
      x ≤ l.length ∧ (∀ i : Nat, i < x → (gd_i64_i64 l i).1 < n) ∧ (∀ i : Nat, x ≤ i → i < l.length → n ≤ (gd_i64_i64 l i).1) := by
  have hlen := h.len
  intro k; induction k with
  | zero =>
    intro lo hi hk hle hh h1 h2
    obtain rfl : lo = hi := by omega
    refine ⟨lo, Evn.some 1 fun j => ?_, hh, h1, h2⟩
    simp only [t_slices_BinarySearchFunc_leap_Row_leap_Row_i64_leap_Table_behind_1, f_slices_BinarySearchFunc_leap_Row_leap_Row_i64_leap_Table_behind_1_p4, fitsS_dec, Option.bind_some, Option.isNone_none, Option.isNone_some, Option.isSome_none, Option.isSome_some, Bool.not_true, Bool.not_false, cond_true, cond_false, cond_dec, beq_int, bne_int, not_dec, and_dec, behind_one]
    rw [if_neg (by omega)]
    by_cases c : lo < l.length
    · rw [if_pos (by omega), if_pos (by omega)]
      have := h2 lo (Nat.le_refl _) c
      congr 5
      simp only [decide_eq_decide]
      by_cases e : (gd_i64_i64 l lo).1 = n
      · rw [e]; simp [c]
      · rw [if_neg (by omega), if_pos (by omega)]; simp [e]
    · rw [if_neg (by omega), decide_eq_false (by omega)]
  | succ k ih =>
    intro lo hi hk hle hh h1 h2
    by_cases c : lo < hi
    · have hm : iconv .i64 (ishr .u64 (iconv .u64 (iadd .i64 (lo : Int) (hi : Int))) 1) = (((lo + hi) / 2 : Nat) : Int) := by
        rw [iadd_i64 (by omega), iconv_u64]
        have : ishr .u64 (((lo : Int) + (hi : Int)) % 18446744073709551616) 1 = ((lo : Int) + (hi : Int)) / 2 := by
          unfold ishr
          rw [show min (1 : Int).toNat (IntKind.bits .u64) = 1 from rfl, Int.fdiv_eq_ediv_of_nonneg _ (by decide)]
          rw [show ((2 : Int) ^ 1) = 2 from rfl]; omega
        rw [this, iconv_i64 (by omega)]; omega
      have hmid : lo ≤ (lo + hi) / 2 ∧ (lo + hi) / 2 < hi := by omega
      by_cases c2 : (gd_i64_i64 l (((lo + hi) / 2 : Nat) : Int)).1 < n
      · obtain ⟨x, q1, q2⟩ := ih ((lo + hi) / 2 + 1) hi (by omega) (by omega) hh (fun i hi' => by
          by_cases e : i = (lo + hi) / 2
          · subst e; exact c2
          · have := h.lt (i := i) (j := (lo + hi) / 2) (by omega) (by omega); omega) h2
        refine ⟨x, q1.step fun j => ?_, q2⟩
        simp only [t_slices_BinarySearchFunc_leap_Row_leap_Row_i64_leap_Table_behind_1, f_slices_BinarySearchFunc_leap_Row_leap_Row_i64_leap_Table_behind_1_p4, fitsS_dec, Option.bind_some, Option.isNone_none, Option.isNone_some, Option.isSome_none, Option.isSome_some, Bool.not_true, Bool.not_false, cond_true, cond_false, cond_dec, beq_int, bne_int, not_dec, and_dec, behind_one, hm]
        rw [if_pos (by omega), if_pos (by omega), if_pos (by rw [if_pos c2]; decide), iadd_i64 (by omega)]; rfl
      · obtain ⟨x, q1, q2⟩ := ih lo ((lo + hi) / 2) (by omega) (by omega) (by omega) h1 (fun i hi' hil => by
          by_cases e : i = (lo + hi) / 2
          · subst e; omega
          · have := h.lt (i := (lo + hi) / 2) (j := i) (by omega) hil; omega)
        refine ⟨x, q1.step fun j => ?_, q2⟩
        simp only [t_slices_BinarySearchFunc_leap_Row_leap_Row_i64_leap_Table_behind_1, f_slices_BinarySearchFunc_leap_Row_leap_Row_i64_leap_Table_behind_1_p4, fitsS_dec, Option.bind_some, Option.isNone_none, Option.isNone_some, Option.isSome_none, Option.isSome_some, Bool.not_true, Bool.not_false, cond_true, cond_false, cond_dec, beq_int, bne_int, not_dec, and_dec, behind_one, hm]
        rw [if_pos (by omega), if_pos (by omega), if_neg (by rw [if_neg c2]; split <;> decide)]
    · exact ih lo hi (by omega) hle hh h1 h2
theorem behind {l : List (Int × Int)} (h : GoodT l) (u e n : Int) : ∃ k : Nat, Cnt l n k ∧ g_leap_Table_behind ((), ((some (l, (u, e)), ()), ((n, ()), ()))) = some ((), (((k : Int), ()), ())) := by
  have hlen := h.len
  obtain ⟨x, q1, q2, q3, q4⟩ := search_p4 h n l.length 0 l.length (by omega) (by omega) (by omega) (fun i hi => by omega) (fun i h1 h2 => by omega)
  have q1 : g_slices_BinarySearchFunc_leap_Row_leap_Row_i64_leap_Table_behind_1 ((), ((l, ()), ((n, ()), ((), ())))) = some ((), (((x : Int), ()), ((decide (x < l.length ∧ (gd_i64_i64 l x).1 = n), ()), ()))) :=
    (q1.cast fun k => by simp only [f_slices_BinarySearchFunc_leap_Row_leap_Row_i64_leap_Table_behind_1_m]; rfl).lim
  by_cases c : x < l.length ∧ (gd_i64_i64 l x).1 = n
  · refine ⟨x + 1, ⟨by omega, fun i hi => ?_, fun i h1 h2 => ?_⟩, ?_⟩
    · by_cases e : i = x
      · subst e; omega
      · have := q3 i (by omega); omega
    · have := h.lt (i := x) (j := i) (by omega) h2; omega
    · simp only [g_leap_Table_behind, f_leap_Table_behind_m, g_leap_Table_list, f_leap_Table_list_m, fitsS_dec, Option.bind_some, Option.isNone_none, Option.isNone_some, Option.isSome_none, Option.isSome_some, Bool.not_true, Bool.not_false, cond_true, cond_false, cond_dec, beq_int, bne_int, not_dec, q1]
      rw [if_pos c, iadd_i64 (by omega)]; rfl
  · refine ⟨x, ⟨q2, fun i hi => by have := q3 i hi; omega, fun i h1 h2 => ?_⟩, ?_⟩
    · by_cases e : i = x
      · subst e
        have := q4 i h1 h2
        have : (gd_i64_i64 l i).1 ≠ n := fun e => c ⟨h2, e⟩
        omega
      · have := q4 x (Nat.le_refl _) (by omega)
        have := h.lt (i := x) (j := i) (by omega) h2; omega
    · simp only [g_leap_Table_behind, f_leap_Table_behind_m, g_leap_Table_list, f_leap_Table_list_m, fitsS_dec, Option.bind_some, Option.isNone_none, Option.isNone_some, Option.isSome_none, Option.isSome_some, Bool.not_true, Bool.not_false, cond_true, cond_false, cond_dec, beq_int, bne_int, not_dec, q1]
      rw [if_neg c]
theorem table_row {l : List (Int × Int)} (hl : l.length ≤ 1000) (u e i : Int) : g_leap_Table_Row ((), ((some (l, (u, e)), ()), ((i, ()), ()))) =
    some ((), (((if 0 ≤ i ∧ i < l.length then (gd_i64_i64 l i).1 else 0), ((if 0 ≤ i ∧ i < l.length then (gd_i64_i64 l i).2 else 0), ())), ((decide (0 ≤ i ∧ i < l.length), ()), ()))) := by
  simp only [g_leap_Table_Row, f_leap_Table_Row_m, g_leap_Table_Len, f_leap_Table_Len_m, g_leap_Table_list, f_leap_Table_list_m, fitsS_dec, Option.bind_some, Option.isNone_none, Option.isNone_some, Option.isSome_none, Option.isSome_some, Bool.not_true, Bool.not_false, cond_true, cond_false, cond_dec, beq_int, bne_int, not_dec, and_dec, ge_iff_le]
  by_cases c : 0 ≤ i ∧ i < l.length
  · rw [if_neg (by omega), if_neg (by omega), if_pos c, if_pos c, if_pos c, decide_eq_true c]
  · rw [show (if 0 ≤ i ∧ i < (l.length : Int) then (gd_i64_i64 l i).1 else 0) = 0 from if_neg c, show (if 0 ≤ i ∧ i < (l.length : Int) then (gd_i64_i64 l i).2 else 0) = 0 from if_neg c, decide_eq_false c]
    by_cases c1 : i < 0
    · rw [if_pos c1]
    · rw [if_neg c1, if_pos (by omega)]
theorem table_offset {l : List (Int × Int)} (h : GoodT l) (u e : Int) {n : Int} {k : Nat} (hk : Cnt l n k) (hb : g_leap_Table_behind ((), ((some (l, (u, e)), ()), ((n, ()), ()))) = some ((), (((k : Int), ()), ()))) :
    g_leap_Table_Offset ((), ((some (l, (u, e)), ()), ((n, ()), ()))) = some ((), ((if k = 0 then 0 else (gd_i64_i64 l ((k : Int) - 1)).2, ()), ((decide (k ≠ 0), ()), ()))) := by
  have := h.len; have := hk.le
  simp only [g_leap_Table_Offset, f_leap_Table_Offset_m, hb, Option.bind_some]
  rw [isub_i64 (by omega), table_row (by omega)]
  simp only [Option.bind_some]
  by_cases c : k = 0
  · rw [if_neg (by omega), decide_eq_false (by omega), if_pos c, decide_eq_false (by simp [c])]
  · rw [if_pos (by omega), decide_eq_true (by omega), if_neg c, decide_eq_true (by simp [c])]
theorem table_change {l : List (Int × Int)} (h : GoodT l) (u e : Int) {i : Nat} (hi : i < l.length) :
    g_leap_Table_change ((), ((some (l, (u, e)), ()), (((i : Int), ()), ()))) = some ((), ((if i = 0 then 0 else (gd_i64_i64 l i).2 - (gd_i64_i64 l ((i : Int) - 1)).2, ()), ())) := by
  have := h.len
  simp only [g_leap_Table_change, f_leap_Table_change_m]
  rw [isub_i64 (by omega), table_row (by omega)]
  simp only [fitsS_dec, Option.bind_some, Option.isNone_none, Option.isNone_some, Option.isSome_none, Option.isSome_some, Bool.not_true, Bool.not_false, cond_true, cond_false, cond_dec, beq_int, bne_int, not_dec, and_dec]
  by_cases c : i = 0
  · rw [if_pos (by omega), if_pos c]
  · have h1 := h.off i hi
    have h2 := h.off (i - 1) (by omega)
    rw [show ((i - 1 : Nat) : Int) = (i : Int) - 1 by omega] at h2
    rw [if_neg (by omega), if_pos (by omega), if_neg c, if_pos (by omega), isub_i64 (by omega)]
/-- A day's Leap. -/
def leapV (l : List (Int × Int)) (n : Int) (k : Nat) : Int := if k < l.length ∧ (gd_i64_i64 l k).1 - 1 = n ∧ k ≠ 0 then (gd_i64_i64 l k).2 - (gd_i64_i64 l ((k : Int) - 1)).2 else 0
theorem table_leap {l : List (Int × Int)} (h : GoodT l) (u e : Int) {n : Int} {k : Nat} (hk : Cnt l n k) (hb : g_leap_Table_behind ((), ((some (l, (u, e)), ()), ((n, ()), ()))) = some ((), (((k : Int), ()), ()))) :
    g_leap_Table_Leap ((), ((some (l, (u, e)), ()), ((n, ()), ()))) = some ((), ((leapV l n k, ()), ())) := by
  have := h.len; have := hk.le
  simp only [g_leap_Table_Leap, f_leap_Table_Leap_m, hb, Option.bind_some]
  rw [table_row (by omega)]
  simp only [fitsS_dec, Option.bind_some, Option.isNone_none, Option.isNone_some, Option.isSome_none, Option.isSome_some, Bool.not_true, Bool.not_false, cond_true, cond_false, cond_dec, beq_int, bne_int, not_dec]
  unfold leapV
  by_cases c : k < l.length
  · have hd := h.day k c
    unfold dated at hd
    have hc : (0 : Int) ≤ k ∧ (k : Int) < l.length := by omega
    simp only [hc, and_self, not_true_eq_false, if_false, if_true]
    rw [isub_i64 (by omega)]
    by_cases c2 : (gd_i64_i64 l k).1 - 1 = n
    · rw [if_neg (by simpa using c2), table_change h u e c]
      simp only [Option.bind_some]
      by_cases c3 : k = 0
      · rw [if_pos c3, if_neg (by simp [c3])]
      · rw [if_neg c3, if_pos ⟨c, c2, c3⟩]
    · rw [if_pos c2, if_neg (by simp [c2])]
  · rw [if_pos (by omega), if_neg (by simp [c])]
theorem leapV_range {l : List (Int × Int)} (h : GoodT l) (n : Int) (k : Nat) : -1 ≤ leapV l n k ∧ leapV l n k ≤ 1 := by
  unfold leapV
  split
  · rename_i c
    have := (h.rise (k - 1) (by omega)).2
    rw [show ((k - 1 + 1 : Nat) : Int) = (k : Int) by omega, show ((k - 1 : Nat) : Int) = (k : Int) - 1 by omega] at this
    omega
  · omega
theorem cnt_unique {l : List (Int × Int)} {n : Int} {k k' : Nat} (h : Cnt l n k) (h' : Cnt l n k') : k = k' := by
  rcases Nat.lt_trichotomy k k' with c | c | c
  · have := h.hi k (Nat.le_refl _) (by have := h'.le; omega); have := h'.lo k c; omega
  · exact c
  · have := h'.hi k' (Nat.le_refl _) (by have := h.le; omega); have := h.lo k' c; omega
end Go.Proofs.YtddnfappkfiidaaGreat.Ev
namespace Go.Proofs.YtddnfappkfiidaaGreat.Ev
open Go
set_option linter.unusedVariables false
set_option linter.unusedSimpArgs false
/-- A table as the reference's functions take it. -/
@[reducible] def tbR (l : List (Int × Int)) (u e : Int) : (List (Int × Int)) × (Int × (Int × Unit)) := (l, (u, (e, ())))
theorem table_length {l : List (Int × Int)} (h : GoodT l) (u e : Int) {n : Int} {k : Nat} (hk : Cnt l n k) (hb : g_leap_Table_behind ((), ((some (l, (u, e)), ()), ((n, ()), ()))) = some ((), (((k : Int), ()), ()))) :
    g_leap_Table_Length ((), ((some (l, (u, e)), ()), ((n, ()), ()))) = some ((), ((86400 + leapV l n k, ()), ())) := by
  have := leapV_range h n k
  simp only [g_leap_Table_Length, f_leap_Table_Length_m, table_leap h u e hk hb, Option.bind_some]
  rw [iadd_i64 (by omega)]
theorem table_has {l : List (Int × Int)} (h : GoodT l) (u e : Int) {n : Int} {k : Nat} (hk : Cnt l n k) (hb : g_leap_Table_behind ((), ((some (l, (u, e)), ()), ((n, ()), ()))) = some ((), (((k : Int), ()), ()))) (s : Int) :
    g_leap_Table_Has ((), ((some (l, (u, e)), ()), ((n, ()), ((s, ()), ())))) = some ((), ((decide (0 ≤ s ∧ s < 86400 + leapV l n k), ()), ())) := by
  simp only [g_leap_Table_Has, f_leap_Table_Has_m, table_length h u e hk hb, fitsS_dec, Option.bind_some, Option.isNone_none, Option.isNone_some, Option.isSome_none, Option.isSome_some, Bool.not_true, Bool.not_false, cond_true, cond_false, cond_dec, beq_int, bne_int, not_dec, ge_iff_le]
  by_cases c : 0 ≤ s <;> simp [c]
end Go.Proofs.YtddnfappkfiidaaGreat.Ev
namespace Go.Proofs.YtddnfappkfiidaaGreat.Ev
open Go
set_option linter.unusedVariables false
set_option linter.unusedSimpArgs false
@[reducible] def wlI : List Int := [50, 48, 50, 52, 45, 49, 48, 45, 48, 57, 84, 49, 49, 58, 49, 50, 58, 49, 51, 90]
@[reducible] def wlM : List Int := [87, 101, 100, 44, 32, 57, 32, 79, 99, 116, 32, 50, 48, 50, 52, 32, 49, 49, 58, 49, 50, 58, 49, 51, 32, 71, 77, 84]
@[reducible] def wlN : List Int := [10, 54, 48, 53, 57, 50, 32, 50, 52, 45, 49, 48, 45, 48, 57, 32, 49, 49, 58, 49, 50, 58, 49, 51, 32, 53, 48, 32, 48, 32, 48, 32, 32, 53, 48, 46, 48, 32, 85, 84, 67, 40, 78, 73, 83, 84, 41, 32, 42, 10]
theorem wl_iso : g_iso_Parse ((), (((⟨#[50, 48, 50, 52, 45, 49, 48, 45, 48, 57, 84, 49, 49, 58, 49, 50, 58, 49, 51, 90]⟩ : ByteArray), ()), ())) = some ((), ((2024, (10, (9, (11, (12, (13, (0, (0, ())))))))), ((none, ()), ()))) := by
  have lit : (⟨#[50, 48, 50, 52, 45, 49, 48, 45, 48, 57, 84, 49, 49, 58, 49, 50, 58, 49, 51, 90]⟩ : ByteArray) = strOf wlI := by kernel_rfl
  have ho : okBy wlI := by intro x hx; simp only [wlI, List.mem_cons, List.not_mem_nil, or_false] at hx; omega
  have hp := iso_parse (strOf wlI) (by rw [str_size]; decide)
  rw [by_str ho, str_size] at hp
  have hX : ipX wlI.length wlI = ⟨2024, 10, 9, 11, 12, 13, [], 0, true, .good []⟩ := by kernel_rfl
  rw [hX] at hp
  have he : IP.err ⟨2024, 10, 9, 11, 12, 13, [], 0, true, .good []⟩ = 0 := by kernel_rfl
  rw [he, if_pos rfl] at hp
  rw [lit, hp]; rfl
theorem wl_mail : g_mail_Parse ((), (((⟨#[87, 101, 100, 44, 32, 57, 32, 79, 99, 116, 32, 50, 48, 50, 52, 32, 49, 49, 58, 49, 50, 58, 49, 51, 32, 71, 77, 84]⟩ : ByteArray), ()), ())) = some ((), ((2024, (10, (9, (11, (12, (13, (0, (0, ())))))))), ((none, ()), ()))) := by
  have lit : (⟨#[87, 101, 100, 44, 32, 57, 32, 79, 99, 116, 32, 50, 48, 50, 52, 32, 49, 49, 58, 49, 50, 58, 49, 51, 32, 71, 77, 84]⟩ : ByteArray) = strOf wlM := by kernel_rfl
  have ho : okBy wlM := by intro x hx; simp only [wlM, List.mem_cons, List.not_mem_nil, or_false] at hx; omega
  have hp := mail_parse (strOf wlM) (by rw [str_size]; decide)
  rw [by_str ho, str_size] at hp
  have hX : mpX wlM.length wlM = ⟨3, 2024, 10, 9, 11, 12, 13, 0, true, .good []⟩ := by kernel_rfl
  rw [hX] at hp
  have he : MP.err ⟨3, 2024, 10, 9, 11, 12, 13, 0, true, .good []⟩ = 0 := by kernel_rfl
  rw [he, if_pos rfl] at hp
  rw [lit, hp]; rfl
theorem wl_nist : g_nist_Parse ((), (((⟨#[10, 54, 48, 53, 57, 50, 32, 50, 52, 45, 49, 48, 45, 48, 57, 32, 49, 49, 58, 49, 50, 58, 49, 51, 32, 53, 48, 32, 48, 32, 48, 32, 32, 53, 48, 46, 48, 32, 85, 84, 67, 40, 78, 73, 83, 84, 41, 32, 42, 10]⟩ : ByteArray), ()), ())) = some ((), ((20005, (40333, (50, (0, (0, (500, (false, ()))))))), ((none, ()), ()))) ∧
    g_nist_Label ((), ((20005, (40333, (50, (0, (0, (500, (false, ()))))))), ())) = some ((), ((2024, (10, (9, (11, (12, (13, (0, (0, ())))))))), ((none, ()), ()))) := by
  have hd : IsDate 20005 2024 10 9 := by unfold IsDate; decide
  have he : NL.err ⟨20005, 40333, 50, 0, 0, 500, false⟩ = 0 := by decide
  have hp := nist_forth he hd
  have e : lineL ⟨20005, 40333, 50, 0, 0, 500, false⟩ 2024 10 9 = wlN := by kernel_rfl
  have lit : (⟨#[10, 54, 48, 53, 57, 50, 32, 50, 52, 45, 49, 48, 45, 48, 57, 32, 49, 49, 58, 49, 50, 58, 49, 51, 32, 53, 48, 32, 48, 32, 48, 32, 32, 53, 48, 46, 48, 32, 85, 84, 67, 40, 78, 73, 83, 84, 41, 32, 42, 10]⟩ : ByteArray) = strOf wlN := by kernel_rfl
  rw [e] at hp
  simp only [NL.t] at hp
  refine ⟨by rw [lit, hp], ?_⟩
  have hc := nist_check ⟨20005, 40333, 50, 0, 0, 500, false⟩
  rw [he, errOf_zero] at hc
  simp only [NL.t] at hc
  have ho : ofErr 20005 40333 0 0 = 0 := by decide
  have hof := label_of_ok ho (y := 2024) (m := 10) (d := 9) (by unfold IsDate; decide)
  have hl : (ofLab 2024 10 9 40333 0 0).t = (2024, (10, (9, (11, (12, (13, (0, (0, ())))))))) := by kernel_rfl
  rw [hl] at hof
  simp only [g_nist_Label, f_nist_Label_m, hc, hof, fitsS_dec, Option.bind_some, Option.isNone_none, Option.isNone_some, Option.isSome_none, Option.isSome_some, Bool.not_true, Bool.not_false, cond_true, cond_false, cond_dec, beq_int, bne_int, not_dec]
theorem labels_stand : g_top_labelsStand ((), ()) = some ((), ((true, ()), ())) := by
  simp only [g_top_labelsStand, f_top_labelsStand_m, wl_iso, wl_mail, wl_nist.1, wl_nist.2, fitsS_dec, Option.bind_some, Option.isNone_none, Option.isNone_some, Option.isSome_none, Option.isSome_some, Bool.not_true, Bool.not_false, cond_true, cond_false, cond_dec, beq_int, bne_int, not_dec]
  rfl
end Go.Proofs.YtddnfappkfiidaaGreat.Ev
namespace Go.Proofs.YtddnfappkfiidaaGreat.Ev
open Go
set_option linter.unusedVariables false
set_option linter.unusedSimpArgs false
/-- A good table's pointer. -/
@[reducible] def tp (l : List (Int × Int)) (u e : Int) : Option ((List (Int × Int)) × (Int × Int)) := some (l, (u, e))
/-- The error's number of a day's second by a table. -/
def secErr (l : List (Int × Int)) (n s : Int) (k : Nat) : Int := if k = 0 then 8 else if 0 ≤ s ∧ s < 86400 + leapV l n k then 0 else 12
def secVal (l : List (Int × Int)) (n s : Int) (k : Nat) : Int := n * 86400 + s + (gd_i64_i64 l ((k : Int) - 1)).2
/-- A label's error's number by a table. -/
def taiErr (l : List (Int × Int)) (a : Lab) (k : Nat) : Int := if labErr a ≠ 0 then labErr a else secErr l (labN a) (labS a) k
theorem scale_tai {l : List (Int × Int)} (h : GoodT l) (u e : Int) (a : Lab) {k : Nat} (hk : Cnt l (labN a) k) (hb : g_leap_Table_behind ((), ((some (l, (u, e)), ()), ((labN a, ()), ()))) = some ((), (((k : Int), ()), ()))) :
    g_scale_Tai ((), ((tp l u e, ()), (a.t, ()))) =
    some ((), ((if taiErr l a k = 0 then secVal l (labN a) (labS a) k else 0, ()), ((errOf (taiErr l a k), ()), ()))) := by
  have hlen := h.len; have hkl := hk.le
  have h1 := label_split a
  simp only [Lab.t] at h1
  simp only [g_scale_Tai, f_scale_Tai_m, h1, Lab.t, fitsS_dec, Option.bind_some, Option.isNone_none, Option.isNone_some, Option.isSome_none, Option.isSome_some, Bool.not_true, Bool.not_false, cond_true, cond_false, cond_dec, beq_int, bne_int, not_dec, errOf_none]
  unfold taiErr
  by_cases c : labErr a = 0
  · obtain ⟨_, _, h3, _⟩ := labErr_zero c
    unfold there at h3
    have h2 := table_offset h u e hk hb
    have h4 := table_has h u e hk hb (labS a)
    simp only [c, ne_eq, not_true_eq_false, if_false, if_true, h2, h4, fitsS_dec, Option.bind_some, Option.isNone_none, Option.isNone_some, Option.isSome_none, Option.isSome_some, Bool.not_true, Bool.not_false, cond_true, cond_false, cond_dec, beq_int, bne_int, not_dec]
    unfold secErr
    by_cases c1 : k = 0
    · simp only [c1, not_true_eq_false, not_false_eq_true, if_true]; rfl
    · have ho := h.off (k - 1) (by omega)
      rw [show ((k - 1 : Nat) : Int) = (k : Int) - 1 by omega] at ho
      simp only [c1, not_false_eq_true, not_true_eq_false, if_false]
      by_cases c2 : 0 ≤ labS a ∧ labS a < 86400 + leapV l (labN a) k
      · have := leapV_range h (labN a) k
        simp only [c2, and_self, not_true_eq_false, if_false, if_true]
        simp (disch := omega) only [imul_i64, iadd_i64]; rw [show labN a * 86400 + (labS a + (gd_i64_i64 l ((k : Int) - 1)).2) = secVal l (labN a) (labS a) k by unfold secVal; omega]; rfl
      · simp only [c2, not_false_eq_true, if_true, if_false]; rfl
  · simp only [c, ne_eq, not_false_eq_true, if_true, if_false]
end Go.Proofs.YtddnfappkfiidaaGreat.Ev
namespace Go.Proofs.YtddnfappkfiidaaGreat.Ev
open Go
set_option linter.unusedVariables false
set_option linter.unusedSimpArgs false
theorem GoodT.step {l : List (Int × Int)} (h : GoodT l) : ∀ (j i : Nat), i + j < l.length → (gd_i64_i64 l i).1 + j ≤ (gd_i64_i64 l ((i + j : Nat) : Int)).1 ∧
    -(j : Int) ≤ (gd_i64_i64 l ((i + j : Nat) : Int)).2 - (gd_i64_i64 l i).2 ∧ (gd_i64_i64 l ((i + j : Nat) : Int)).2 - (gd_i64_i64 l i).2 ≤ j := by
  intro j; induction j with
  | zero => intro i _; rw [show i + 0 = i from rfl]; omega
  | succ j ih =>
    intro i hi
    have := ih i (by omega)
    have := h.rise (i + j) (by omega)
    unfold foll at this
    rw [show i + (j + 1) = i + j + 1 by omega]; omega
/-- A day and its second stand for these atomic seconds. -/
def At (l : List (Int × Int)) (n s t : Int) : Prop := ∃ k : Nat, Cnt l n k ∧ k ≠ 0 ∧ 0 ≤ s ∧ s < 86400 + leapV l n k ∧ t = secVal l n s k
theorem at_lt {l : List (Int × Int)} (h : GoodT l) {n s t n' s' t' : Int} (a : At l n s t) (b : At l n' s' t') (hn : n < n') : t < t' := by
  obtain ⟨k, hk, k0, s0, s1, e⟩ := a
  obtain ⟨k', hk', k0', s0', s1', e'⟩ := b
  have hr := leapV_range h n k
  have hkl := hk.le; have hkl' := hk'.le
  have hle : k ≤ k' := by
    by_cases q : k' < k
    · have := hk.lo k' q; have := hk'.hi k' (Nat.le_refl _) (by omega); omega
    · omega
  unfold secVal at e e'
  by_cases c : k = k'
  · subst c
    have : leapV l n k ≤ 0 := by
      unfold leapV
      split
      · rename_i q
        have := hk'.hi k (Nat.le_refl _) q.1
        omega
      · omega
    omega
  · have hs := h.step (k' - k) (k - 1) (by omega)
    rw [show ((k - 1 : Nat) : Int) = (k : Int) - 1 by omega, show ((k - 1 + (k' - k) : Nat) : Int) = (k' : Int) - 1 by omega] at hs
    have hs2 := h.step (k' - 1 - k) k (by omega)
    rw [show ((k + (k' - 1 - k) : Nat) : Int) = ((k' - 1 : Nat) : Int) by omega] at hs2
    have h1 := hk.hi k (Nat.le_refl _) (by omega)
    have h2 := hk'.lo (k' - 1) (by omega)
    by_cases d : n' = n + 1
    · have : k' = k + 1 := by omega
      subst this
      rw [show (((k + 1 : Nat) : Int) - 1) = (k : Int) by omega] at *
      have : leapV l n k = (gd_i64_i64 l k).2 - (gd_i64_i64 l ((k : Int) - 1)).2 := by
        unfold leapV; rw [if_pos ⟨by omega, by
          rw [show (k + 1 - 1 : Nat) = k from rfl] at h2; omega, k0⟩]
      omega
    · omega
theorem at_lt2 {l : List (Int × Int)} {n s t s' t' : Int} (a : At l n s t) (b : At l n s' t') (hs : s < s') : t < t' := by
  obtain ⟨k, hk, k0, s0, s1, e⟩ := a
  obtain ⟨k', hk', k0', s0', s1', e'⟩ := b
  obtain rfl := cnt_unique hk hk'
  unfold secVal at e e'; omega
theorem at_unique {l : List (Int × Int)} (h : GoodT l) {n s n' s' t : Int} (a : At l n s t) (b : At l n' s' t) : n = n' ∧ s = s' := by
  rcases Int.lt_trichotomy n n' with c | c | c
  · have := at_lt h a b c; omega
  · subst c
    rcases Int.lt_trichotomy s s' with d | d | d
    · have := at_lt2 a b d; omega
    · exact ⟨rfl, d⟩
    · have := at_lt2 b a d; omega
  · have := at_lt h b a c; omega
def beg (l : List (Int × Int)) (i : Int) : Int := (gd_i64_i64 l i).1 * 86400 + (gd_i64_i64 l i).2
/-- How many rows begin at these atomic seconds or before. -/
structure Beg (l : List (Int × Int)) (t : Int) (i : Nat) : Prop where
  le : i ≤ l.length
  lo : ∀ j : Nat, j < i → beg l j ≤ t
  hi : ∀ j : Nat, i ≤ j → j < l.length → t < beg l j
theorem GoodT.beg_lt {l : List (Int × Int)} (h : GoodT l) {i j : Nat} (hij : i < j) (hj : j < l.length) : beg l i < beg l j := by
  have := h.step (j - i) i (by omega)
  rw [show i + (j - i) = j by omega] at this
  unfold beg; omega
/-- What stands for them. -/
theorem at_of {l : List (Int × Int)} (h : GoodT l) {t : Int} {i : Nat} (hb : Beg l t i) (i0 : i ≠ 0) :
    (i < l.length ∧ (t - (gd_i64_i64 l ((i : Int) - 1)).2) / 86400 = (gd_i64_i64 l i).1 → At l ((t - (gd_i64_i64 l ((i : Int) - 1)).2) / 86400 - 1) (86400 + (t - (gd_i64_i64 l ((i : Int) - 1)).2) % 86400) t) ∧
    (¬(i < l.length ∧ (t - (gd_i64_i64 l ((i : Int) - 1)).2) / 86400 = (gd_i64_i64 l i).1) → At l ((t - (gd_i64_i64 l ((i : Int) - 1)).2) / 86400) ((t - (gd_i64_i64 l ((i : Int) - 1)).2) % 86400) t) := by
  have hle := hb.le
  have h1 := hb.lo (i - 1) (by omega)
  unfold beg at h1
  rw [show ((i - 1 : Nat) : Int) = (i : Int) - 1 by omega] at h1
  have hbel : ∀ j : Nat, j < i → (gd_i64_i64 l j).1 ≤ (gd_i64_i64 l ((i : Int) - 1)).1 := fun j hj => by
    by_cases e : j = i - 1
    · subst e; rw [show ((i - 1 : Nat) : Int) = (i : Int) - 1 by omega]; exact Int.le_refl _
    · have := h.lt (i := j) (j := i - 1) (by omega) (by omega)
      rw [show ((i - 1 : Nat) : Int) = (i : Int) - 1 by omega] at this; omega
  constructor
  · rintro ⟨hi, e⟩
    have h2 := hb.hi i (Nat.le_refl _) hi
    have h3 := h.rise (i - 1) (by omega)
    unfold foll at h3
    rw [show ((i - 1 : Nat) : Int) = (i : Int) - 1 by omega, show ((i - 1 + 1 : Nat) : Int) = (i : Int) by omega] at h3
    unfold beg at h2
    have hab : ∀ j : Nat, i ≤ j → j < l.length → (gd_i64_i64 l i).1 ≤ (gd_i64_i64 l j).1 := fun j h4 h5 => by
      by_cases e : j = i
      · subst e; exact Int.le_refl _
      · have := h.lt (i := i) (j := j) (by omega) h5; omega
    refine ⟨i, ⟨hle, fun j hj => ?_, fun j h4 h5 => ?_⟩, i0, by omega, ?_, ?_⟩
    · have := hbel j hj; omega
    · have := hab j h4 h5; omega
    · unfold leapV; rw [if_pos ⟨hi, by omega, i0⟩]; omega
    · unfold secVal; omega
  · intro hn
    have hx : ∀ j : Nat, i ≤ j → j < l.length → (t - (gd_i64_i64 l ((i : Int) - 1)).2) / 86400 < (gd_i64_i64 l j).1 := fun j h4 h5 => by
      have h2 := hb.hi i (Nat.le_refl _) (by omega)
      have h3 := h.rise (i - 1) (by omega)
      unfold foll at h3
      rw [show ((i - 1 : Nat) : Int) = (i : Int) - 1 by omega, show ((i - 1 + 1 : Nat) : Int) = (i : Int) by omega] at h3
      unfold beg at h2
      have h6 : (t - (gd_i64_i64 l ((i : Int) - 1)).2) / 86400 ≠ (gd_i64_i64 l i).1 := fun e => hn ⟨by omega, e⟩
      by_cases e : j = i
      · subst e; omega
      · have := h.lt (i := i) (j := j) (by omega) h5; omega
    refine ⟨i, ⟨hle, fun j hj => ?_, hx⟩, i0, by omega, ?_, ?_⟩
    · have := hbel j hj; omega
    · unfold leapV
      split
      · rename_i q
        have h2 := hb.hi i (Nat.le_refl _) (by omega)
        have h3 := h.rise (i - 1) (by omega)
        unfold foll at h3
        rw [show ((i - 1 : Nat) : Int) = (i : Int) - 1 by omega, show ((i - 1 + 1 : Nat) : Int) = (i : Int) by omega] at h3
        unfold beg at h2; omega
      · omega
    · unfold secVal; omega
theorem at_beg {l : List (Int × Int)} (h : GoodT l) {n s t : Int} (a : At l n s t) : beg l 0 ≤ t := by
  obtain ⟨k, hk, k0, s0, s1, e⟩ := a
  have hkl := hk.le
  have hs := h.step (k - 1) 0 (by omega)
  rw [show ((0 + (k - 1) : Nat) : Int) = (k : Int) - 1 by omega, show (((0 : Nat) : Int)) = 0 from rfl] at hs
  have h1 := hk.lo (k - 1) (by omega)
  rw [show ((k - 1 : Nat) : Int) = (k : Int) - 1 by omega] at h1
  unfold secVal at e; unfold beg; omega
theorem at_near {l : List (Int × Int)} (h : GoodT l) {n s t : Int} (a : At l n s t) : n * 86400 ≤ t ∧ t ≤ n * 86400 + 87400 := by
  obtain ⟨k, hk, k0, s0, s1, e⟩ := a
  have hr := leapV_range h n k
  have hkl := hk.le
  have ho := h.off (k - 1) (by omega)
  rw [show ((k - 1 : Nat) : Int) = (k : Int) - 1 by omega] at ho
  unfold secVal at e; omega
/-- What place tells. -/
def PlaceIs (l : List (Int × Int)) (t n s c : Int) : Prop :=
  (t < beg l 0 ∧ n = 0 ∧ s = 0 ∧ c = 8) ∨ ((∃ n' s', At l n' s' t ∧ 2932896 < n') ∧ n = 0 ∧ s = 0 ∧ c = 13) ∨ (At l n s t ∧ n ≤ 2932896 ∧ c = 0)
theorem place_unique {l : List (Int × Int)} (h : GoodT l) {t n s c n' s' c' : Int} (a : PlaceIs l t n s c) (b : PlaceIs l t n' s' c') : n = n' ∧ s = s' ∧ c = c' := by
  rcases a with ⟨a1, a2, a3, a4⟩ | ⟨⟨x, y, a1, a5⟩, a2, a3, a4⟩ | ⟨a1, a2, a3⟩
  · rcases b with ⟨b1, b2, b3, b4⟩ | ⟨⟨x', y', b1, b5⟩, b2, b3, b4⟩ | ⟨b1, b2, b3⟩
    · omega
    · have := at_beg h b1; omega
    · have := at_beg h b1; omega
  · rcases b with ⟨b1, b2, b3, b4⟩ | ⟨⟨x', y', b1, b5⟩, b2, b3, b4⟩ | ⟨b1, b2, b3⟩
    · have := at_beg h a1; omega
    · omega
    · have := at_unique h a1 b1; omega
  · rcases b with ⟨b1, b2, b3, b4⟩ | ⟨⟨x', y', b1, b5⟩, b2, b3, b4⟩ | ⟨b1, b2, b3⟩
    · have := at_beg h a1; omega
    · have := at_unique h a1 b1; omega
    · have := at_unique h a1 b1; omega
theorem scBegins {n o : Int} (h : -100000000 ≤ n ∧ n ≤ 100000000) (ho : 0 ≤ o ∧ o ≤ 1000) : g_scale_begins ((), ((n, (o, ())), ())) = some ((), ((n * 86400 + o, ()), ())) := by
  simp only [g_scale_begins, f_scale_begins_m]
  simp (disch := omega) only [imul_i64, iadd_i64]
theorem find_p3 {l : List (Int × Int)} (h : GoodT l) (t : Int) : ∀ (k lo hi : Nat), hi - lo ≤ k → lo ≤ hi → hi ≤ l.length → (∀ i : Nat, i < lo → beg l i ≤ t) → (∀ i : Nat, hi ≤ i → i < l.length → t < beg l i) →
    ∃ x : Nat, Evn (fun j => (f_sort_Search_scale_place_1_t j).1 (((), (l, ((t, ()), ()))), ((), (((lo : Int), ()), (((hi : Int), ()), ()))))) (((), (l, ((t, ()), ()))), (((x : Int), ()), ((), ((), ())))) ∧ Beg l t x := by
  have hlen := h.len
  intro k; induction k with
  | zero =>
    intro lo hi hk hle hh h1 h2
    obtain rfl : lo = hi := by omega
    refine ⟨lo, Evn.some 1 fun j => ?_, hh, h1, h2⟩
    simp only [t_sort_Search_scale_place_1, f_sort_Search_scale_place_1_p3, fitsS_dec, Option.bind_some, Option.isNone_none, Option.isNone_some, Option.isSome_none, Option.isSome_some, Bool.not_true, Bool.not_false, cond_true, cond_false, cond_dec, beq_int, bne_int, not_dec]
    rw [if_neg (by omega)]
  | succ k ih =>
    intro lo hi hk hle hh h1 h2
    by_cases c : lo < hi
    · have hm : iconv .i64 (ishr .u64 (iconv .u64 (iadd .i64 (lo : Int) (hi : Int))) 1) = (((lo + hi) / 2 : Nat) : Int) := by
        rw [iadd_i64 (by omega), iconv_u64]
        have : ishr .u64 (((lo : Int) + (hi : Int)) % 18446744073709551616) 1 = ((lo : Int) + (hi : Int)) / 2 := by
          unfold ishr
          rw [show min (1 : Int).toNat (IntKind.bits .u64) = 1 from rfl, Int.fdiv_eq_ediv_of_nonneg _ (by decide)]
          rw [show ((2 : Int) ^ 1) = 2 from rfl]; omega
        rw [this, iconv_i64 (by omega)]; omega
      have hmid : lo ≤ (lo + hi) / 2 ∧ (lo + hi) / 2 < hi := by omega
      have hday := h.day ((lo + hi) / 2) (by omega)
      unfold dated at hday
      have hoff := h.off ((lo + hi) / 2) (by omega)
      have hbg := scBegins (n := (gd_i64_i64 l (((lo + hi) / 2 : Nat) : Int)).1) (o := (gd_i64_i64 l (((lo + hi) / 2 : Nat) : Int)).2) (by omega) hoff
      by_cases c2 : t < beg l (((lo + hi) / 2 : Nat) : Int)
      · obtain ⟨x, q1, q2⟩ := ih lo ((lo + hi) / 2) (by omega) (by omega) (by omega) h1 (fun i hi' hil => by
          by_cases e : i = (lo + hi) / 2
          · subst e; exact c2
          · have := h.beg_lt (i := (lo + hi) / 2) (j := i) (by omega) hil; omega)
        refine ⟨x, q1.step fun j => ?_, q2⟩
        unfold beg at c2
        simp only [t_sort_Search_scale_place_1, f_sort_Search_scale_place_1_p3, g_scale_place_1_io, f_scale_place_1_io_m, hbg, fitsS_dec, Option.bind_some, Option.isNone_none, Option.isNone_some, Option.isSome_none, Option.isSome_some, Bool.not_true, Bool.not_false, cond_true, cond_false, cond_dec, beq_int, bne_int, not_dec, and_dec, hm, gt_iff_lt]
        rw [if_pos (by omega), if_pos (by omega)]
        simp only [Option.bind_some, not_dec, cond_dec]
        rw [if_neg (not_not_intro c2)]
      · obtain ⟨x, q1, q2⟩ := ih ((lo + hi) / 2 + 1) hi (by omega) (by omega) hh (fun i hi' => by
          by_cases e : i = (lo + hi) / 2
          · subst e; omega
          · have := h.beg_lt (i := i) (j := (lo + hi) / 2) (by omega) (by omega); omega) h2
        refine ⟨x, q1.step fun j => ?_, q2⟩
        unfold beg at c2
        simp only [t_sort_Search_scale_place_1, f_sort_Search_scale_place_1_p3, g_scale_place_1_io, f_scale_place_1_io_m, hbg, fitsS_dec, Option.bind_some, Option.isNone_none, Option.isNone_some, Option.isSome_none, Option.isSome_some, Bool.not_true, Bool.not_false, cond_true, cond_false, cond_dec, beq_int, bne_int, not_dec, and_dec, hm, gt_iff_lt]
        rw [if_pos (by omega), if_pos (by omega)]
        simp only [Option.bind_some, not_dec, cond_dec]
        rw [if_pos c2, iadd_i64 (by omega)]; rfl
    · exact ih lo hi (by omega) hle hh h1 h2
theorem rows_of (l : List (Int × Int)) (hl : l.length ≤ 1000) (u e : Int) : g_leap_Table_Rows ((), ((tp l u e, ()), ())) = some ((l, ()), ((), ())) := by
  simp only [g_leap_Table_Rows, f_leap_Table_Rows_m, g_leap_Table_list, f_leap_Table_list_m, fitsS_dec, Option.bind_some, Option.isNone_none, Option.isNone_some, Option.isSome_none, Option.isSome_some, Bool.not_true, Bool.not_false, cond_true, cond_false, cond_dec, beq_int, bne_int, not_dec, clone_rows l hl]
theorem scale_place {l : List (Int × Int)} (h : GoodT l) (u e t : Int) (ht : -9223372036854775808 ≤ t ∧ t ≤ 9223372036854775807) : ∃ n s c : Int, g_scale_place ((), ((tp l u e, ()), ((t, ()), ()))) = some ((), ((n, ()), ((s, ()), ((errOf c, ()), ())))) ∧ PlaceIs l t n s c := by
  have hlen := h.len
  have hrow := rows_of l (by omega) u e
  simp only [tp] at hrow
  obtain ⟨x, q1, q2⟩ := find_p3 h t l.length 0 l.length (by omega) (by omega) (by omega) (fun i hi => by omega) (fun i h1 h2 => by omega)
  have q1 : g_sort_Search_scale_place_1 (((), (l, ((t, ()), ()))), (((l.length : Int), ()), ((), ()))) = some (((), (l, ((t, ()), ()))), (((x : Int), ()), ((), ((), ())))) :=
    (q1.cast fun k => by simp only [f_sort_Search_scale_place_1_m]; rfl).lim
  have hxl := q2.le
  simp only [g_scale_place, f_scale_place_m, hrow, q1, day_last, fitsS_dec, Option.bind_some, Option.isNone_none, Option.isNone_some, Option.isSome_none, Option.isSome_some, Bool.not_true, Bool.not_false, cond_true, cond_false, cond_dec, beq_int, bne_int, not_dec, and_dec, tp, ge_iff_le]
  by_cases x0 : x = 0
  · subst x0
    have := q2.hi 0 (Nat.le_refl _) (by omega)
    exact ⟨0, 0, 8, rfl, .inl ⟨this, rfl, rfl, rfl⟩⟩
  have h1 := q2.lo (x - 1) (by omega)
  have hday := h.day (x - 1) (by omega)
  have hoff := h.off (x - 1) (by omega)
  unfold dated at hday
  unfold beg at h1
  rw [show ((x - 1 : Nat) : Int) = (x : Int) - 1 by omega] at h1 hday hoff
  have hat := at_of h q2 x0
  rw [if_neg (by omega), isub_i64 (by omega), if_pos (by omega), iadd_i64 (by omega), scBegins (by omega) hoff]
  simp only [Option.bind_some]
  by_cases c1 : (2932896 + 1) * 86400 + (gd_i64_i64 l ((x : Int) - 1)).2 ≤ t
  · rw [if_pos c1]
    refine ⟨0, 0, 13, rfl, .inr (.inl ⟨?_, rfl, rfl, rfl⟩)⟩
    have hno : ¬(x < l.length ∧ (t - (gd_i64_i64 l ((x : Int) - 1)).2) / 86400 = (gd_i64_i64 l x).1) := by
      rintro ⟨a, b⟩
      have := h.day x a
      unfold dated at this; omega
    exact ⟨_, _, hat.2 hno, by omega⟩
  · rw [if_neg c1, isub_i64 (by omega), num_split _ _ (by decide) (by decide) (by omega)]
    simp only [fitsS_dec, Option.bind_some, Option.isNone_none, Option.isNone_some, Option.isSome_none, Option.isSome_some, Bool.not_true, Bool.not_false, cond_true, cond_false, cond_dec, beq_int, bne_int, not_dec]
    by_cases c2 : x < l.length
    · rw [if_pos (by omega), if_pos (by omega)]
      by_cases c3 : (t - (gd_i64_i64 l ((x : Int) - 1)).2) / 86400 = (gd_i64_i64 l x).1
      · rw [if_pos c3, isub_i64 (by omega), iadd_i64 (by omega)]
        exact ⟨_, _, 0, rfl, .inr (.inr ⟨hat.1 ⟨c2, c3⟩, by omega, rfl⟩)⟩
      · rw [if_neg c3]
        exact ⟨_, _, 0, rfl, .inr (.inr ⟨hat.2 (fun hh => c3 hh.2), by omega, rfl⟩)⟩
    · rw [if_neg (by omega)]
      exact ⟨_, _, 0, rfl, .inr (.inr ⟨hat.2 (fun hh => c2 hh.1), by omega, rfl⟩)⟩
end Go.Proofs.YtddnfappkfiidaaGreat.Ev
namespace Go.Proofs.YtddnfappkfiidaaGreat.Ev
open Go
set_option linter.unusedVariables false
set_option linter.unusedSimpArgs false
theorem at_low {l : List (Int × Int)} (h : GoodT l) {n s t : Int} (a : At l n s t) : -25567 ≤ n := by
  obtain ⟨k, hk, k0, s0, s1, e⟩ := a
  have h1 := hk.lo 0 (by omega)
  have h2 := h.day 0 (by have := h.len; omega)
  unfold dated at h2; omega
theorem at_sec {l : List (Int × Int)} (h : GoodT l) {n s t : Int} (a : At l n s t) : 0 ≤ s ∧ s ≤ 86400 := by
  obtain ⟨k, hk, k0, s0, s1, e⟩ := a
  have := leapV_range h n k; omega
theorem at_tai {l : List (Int × Int)} {a : Lab} {k : Nat} (hk : Cnt l (labN a) k) (h : taiErr l a k = 0) : labErr a = 0 ∧ At l (labN a) (labS a) (secVal l (labN a) (labS a) k) := by
  unfold taiErr at h
  by_cases c : labErr a = 0
  · rw [if_neg (by simp [c])] at h
    unfold secErr at h
    split at h
    · cases h
    rename_i k0
    split at h
    · rename_i hs; exact ⟨c, k, hk, k0, hs.1, hs.2, rfl⟩
    · cases h
  · rw [if_pos c] at h; exact absurd h c
theorem tai_at {l : List (Int × Int)} {a : Lab} {t : Int} (ha : labErr a = 0) (h : At l (labN a) (labS a) t) {k : Nat} (hk : Cnt l (labN a) k) : taiErr l a k = 0 ∧ secVal l (labN a) (labS a) k = t := by
  obtain ⟨k', hk', k0, s0, s1, e⟩ := h
  obtain rfl := cnt_unique hk hk'
  refine ⟨?_, e.symm⟩
  unfold taiErr secErr
  rw [if_neg (by simp [ha]), if_neg k0, if_pos ⟨s0, s1⟩]
theorem place_at {l : List (Int × Int)} (h : GoodT l) {t n s n' s' c : Int} (a : At l n s t) (hn : n ≤ 2932896) (b : PlaceIs l t n' s' c) : n' = n ∧ s' = s ∧ c = 0 := by
  have := place_unique h b (.inr (.inr ⟨a, hn, rfl⟩)); exact this
end Go.Proofs.YtddnfappkfiidaaGreat.Ev
namespace Go.Proofs.YtddnfappkfiidaaGreat.Ev
open Go
set_option linter.unusedVariables false
set_option linter.unusedSimpArgs false
@[reducible] def i64 (a : Int) : Prop := -9223372036854775808 ≤ a ∧ a ≤ 9223372036854775807
theorem num_add (a b : Int) (ha : i64 a) (hb : i64 b) : g_num_Add ((), ((a, ()), ((b, ()), ()))) = some ((), ((if i64 (a + b) then a + b else 0, ()), ((if i64 (a + b) then none else some 5, ()), ()))) := by
  simp only [g_num_Add, f_num_Add_m, fitsS_dec, Option.bind_some, Option.isNone_none, Option.isNone_some, Option.isSome_none, Option.isSome_some, Bool.not_true, Bool.not_false, cond_true, cond_false, cond_dec, beq_int, bne_int, not_dec, gt_iff_lt]
  unfold i64 at *
  by_cases h : -9223372036854775808 ≤ a + b ∧ a + b ≤ 9223372036854775807
  · rw [iadd_i64 h, if_pos h, if_pos h]
    by_cases h1 : 0 < b
    · rw [if_pos h1, if_neg (by omega), if_neg (by omega)]
    · rw [if_neg h1]
      by_cases h2 : b < 0
      · rw [if_pos h2, if_neg (by omega)]
      · rw [if_neg h2]
  · rw [if_neg h, if_neg h]
    have e : iadd .i64 a b = (a + b + 9223372036854775808) % 18446744073709551616 - 9223372036854775808 := wrap_i64 _
    rw [e]
    by_cases h1 : 0 < b
    · rw [if_pos h1, if_pos (by omega)]
    · rw [if_neg h1, if_pos (by omega), if_pos (by omega)]
theorem be_byte (w : Int) : ∀ (n : Nat), ∀ x ∈ be w n, 0 ≤ x ∧ x < 256
  | 0, x, h => by simp [be] at h
  | n + 1, x, h => by
    rcases List.mem_cons.1 h with rfl | h
    · omega
    · exact be_byte w n x h
end Go.Proofs.YtddnfappkfiidaaGreat.Ev
namespace Go.Proofs.YtddnfappkfiidaaGreat.Ev
open Go
set_option linter.unusedVariables false
set_option linter.unusedSimpArgs false
end Go.Proofs.YtddnfappkfiidaaGreat.Ev
namespace Go.Proofs.YtddnfappkfiidaaGreat.Ev
open Go
set_option linter.unusedVariables false
set_option linter.unusedSimpArgs false
@[reducible] def bytesL (l : List Int) : Prop := ∀ x ∈ l, 0 ≤ x ∧ x < 256
theorem wordv_eq (w : Int) (n : Nat) (hn : n ≤ 8) (h0 : 0 ≤ w) (h1 : w < 256 ^ n) : wordv (be w n) 0 = w := by
  rw [wordv_be w h0 n 0 hn (by decide) (Int.pow_pos (by decide)), Int.emod_eq_of_lt h0 h1]; omega
end Go.Proofs.YtddnfappkfiidaaGreat.Ev
namespace Go.Proofs.YtddnfappkfiidaaGreat.Ev
open Go
set_option linter.unusedVariables false
set_option linter.unusedSimpArgs false
def chunks (s : Nat) : Nat → List Int → List (List Int)
  | 0, _ => []
  | m + 1, b => b.take s :: chunks s m (b.drop s)
end Go.Proofs.YtddnfappkfiidaaGreat.Ev
namespace Go.Proofs.YtddnfappkfiidaaGreat.Ev
open Go
set_option linter.unusedVariables false
set_option linter.unusedSimpArgs false
theorem from_ (b : List Int) (hl : b.length ≤ 140737488355328) (at_ many : Int) (h0 : -9223372036854775808 ≤ many) (h1 : many ≤ 9223372036854775807) :
    g_octets_from ((), ((b, ()), ((at_, ()), ((many, ()), ())))) = some (
      if at_ < 0 ∨ (b.length : Int) < at_ ∨ many < 0 then ((), (([], ()), ((some 1, ()), ())))
      else if (b.length : Int) - at_ < many then ((), (([], ()), ((some 4, ()), ())))
      else ((), (((b.take (at_ + many).toNat).drop at_.toNat, ()), ((none, ()), ())))) := by
  unfold g_octets_from f_octets_from_m
  simp only
  by_cases c1 : at_ < 0
  · rw [decide_eq_true c1, if_pos (Or.inl c1)]; rfl
  rw [decide_eq_false c1]
  by_cases c2 : at_ > (b.length : Int)
  · rw [decide_eq_true c2, if_pos (Or.inr (Or.inl c2))]; rfl
  rw [decide_eq_false c2]
  by_cases c3 : many < 0
  · rw [decide_eq_true c3, if_pos (Or.inr (Or.inr c3))]; rfl
  rw [decide_eq_false c3, isub_i64 (by omega), if_neg (by omega)]
  by_cases c4 : many > (b.length : Int) - at_
  · rw [decide_eq_true c4, if_pos c4]; rfl
  rw [decide_eq_false c4, if_neg c4, iadd_i64 (by omega), decide_eq_true (show (0 : Int) ≤ at_ by omega), decide_eq_true (by omega), decide_eq_true (by omega)]
  rfl
end Go.Proofs.YtddnfappkfiidaaGreat.Ev
namespace Go.Proofs.YtddnfappkfiidaaGreat.Ev
open Go
set_option linter.unusedVariables false
set_option linter.unusedSimpArgs false

theorem size_u32 : g_octets_Size_u32 ((), ()) = some ((), ((4, ()), ())) :=
  Evn.lim ⟨10, fun k hk => by obtain ⟨m, rfl⟩ := Nat.exists_eq_add_of_le hk; rw [Nat.add_comm]; kernel_rfl⟩
end Go.Proofs.YtddnfappkfiidaaGreat.Ev
namespace Go.Proofs.YtddnfappkfiidaaGreat.Ev
open Go
set_option linter.unusedVariables false
set_option linter.unusedSimpArgs false

theorem word_at_u32 {b : List Int} (hb : ∀ x ∈ b, 0 ≤ x ∧ x < 256) (hl : b.length ≤ 140737488355328) : ∀ (n i : Nat) (v : Int), i + n = b.length → 0 ≤ v → v < 18446744073709551616 →
    Evn (fun k => (f_octets_word_u32_t k).1 ((), ((v, ()), ((b, ()), (((b.length : Int), ()), (((i : Int), ()), ())))))) ((), ((iconv .u32 (wordv (b.drop i) v), ()), ()))
  | 0, i, v, hi, h0, h1 => by
    refine Evn.step (Evn.const fun _ => rfl) fun k => ?_
    rw [t_octets_word_u32]
    simp only [f_octets_word_u32_p4]
    rw [decide_eq_false (by omega), List.drop_eq_nil_of_le (by omega)]
    rfl
  | n + 1, i, v, hi, h0, h1 => by
    have hlt : i < b.length := by omega
    have hi2 := hb b[i] (List.getElem_mem hlt)
    rw [List.drop_eq_getElem_cons hlt]
    have ih := word_at_u32 hb hl n (i + 1) ((v * 256 + b[i]) % 18446744073709551616) (by omega) (by omega) (by omega)
    refine Evn.step ih fun k => ?_
    rw [t_octets_word_u32]
    simp only [f_octets_word_u32_p4]
    rw [decide_eq_true (by omega), decide_eq_true (by omega), gd_get (.int .u8) b (i : Int) (by omega) (by omega), iadd_i64 (by omega)]
    simp only [Int.toNat_natCast]
    rw [iconv_u64, Int.emod_eq_of_lt hi2.1 (by omega), ior_byte h0 hi2.1 hi2.2]
    rfl
theorem word_u32 (b : List Int) (hb : ∀ x ∈ b, 0 ≤ x ∧ x < 256) (hl : b.length ≤ 140737488355328) :
    g_octets_word_u32 ((), ((b, ()), ())) = some ((), ((iconv .u32 (wordv b 0), ()), ())) :=
  Evn.lim (Evn.cast (word_at_u32 hb hl b.length 0 0 (by omega) (by omega) (by omega)) fun k => rfl)

theorem get_u32 (b : List Int) (hb : ∀ x ∈ b, 0 ≤ x ∧ x < 256) (hl : b.length ≤ 140737488355328) (at_ : Int) :
    g_octets_Get_u32 ((), ((b, ()), ((at_, ()), ()))) = some (
      if at_ < 0 ∨ (b.length : Int) < at_ then ((), ((0, ()), ((some 1, ()), ())))
      else if (b.length : Int) - at_ < 4 then ((), ((0, ()), ((some 4, ()), ())))
      else ((), ((iconv .u32 (wordv ((b.take (at_.toNat + 4)).drop at_.toNat) 0), ()), ((none, ()), ())))) := by
  unfold g_octets_Get_u32 f_octets_Get_u32_m
  rw [size_u32]
  simp only [Option.bind_some]
  have hf := from_ b hl at_ 4 (by omega) (by omega)
  by_cases h1 : at_ < 0 ∨ (b.length : Int) < at_
  · rw [if_pos (by omega)] at hf
    rw [hf, if_pos h1]; rfl
  · by_cases h2 : (b.length : Int) - at_ < 4
    · rw [if_neg (by omega), if_pos h2] at hf
      rw [hf, if_neg h1, if_pos h2]; rfl
    · rw [if_neg (by omega), if_neg h2] at hf
      rw [hf, if_neg h1, if_neg h2]
      rw [show (at_ + 4).toNat = at_.toNat + 4 by omega]
      simp only [Option.bind_some, Option.isNone_none, Bool.not_true, cond_false]
      rw [word_u32 _ (fun x hx => hb x (List.mem_of_mem_take (List.mem_of_mem_drop hx))) (by simp only [List.length_drop, List.length_take]; omega)]
      rfl
end Go.Proofs.YtddnfappkfiidaaGreat.Ev
namespace Go.Proofs.YtddnfappkfiidaaGreat.Ev
open Go
set_option linter.unusedVariables false
set_option linter.unusedSimpArgs false
end Go.Proofs.YtddnfappkfiidaaGreat.Ev
namespace Go.Proofs.YtddnfappkfiidaaGreat.Ev
open Go
set_option linter.unusedVariables false
set_option linter.unusedSimpArgs false

end Go.Proofs.YtddnfappkfiidaaGreat.Ev
namespace Go.Proofs.YtddnfappkfiidaaGreat.Ev
open Go
set_option linter.unusedVariables false
set_option linter.unusedSimpArgs false

end Go.Proofs.YtddnfappkfiidaaGreat.Ev
namespace Go.Proofs.YtddnfappkfiidaaGreat.Ev
open Go
set_option linter.unusedVariables false
set_option linter.unusedSimpArgs false
end Go.Proofs.YtddnfappkfiidaaGreat.Ev
namespace Go.Proofs.YtddnfappkfiidaaGreat.Ev
open Go
set_option linter.unusedVariables false
set_option linter.unusedSimpArgs false
theorem clone (l : List Int) (h : l.length ≤ 140737488355328) : g_slices_Clone_byte_byte ((), ((l, ()), ())) = some ((l, ()), ((), ())) := by
  unfold g_slices_Clone_byte_byte f_slices_Clone_byte_byte_m
  simp only [List.length_nil, List.nil_append]
  rw [decide_eq_true (show (0 + l.length) * 1 ≤ 140737488355328 by omega), decide_eq_true (show 0 + l.length ≤ 9223372036854775807 by omega)]
  simp only [Bool.and_self, cond_true]
  cases l with
  | nil => simp [agree]
  | cons x l => rfl
end Go.Proofs.YtddnfappkfiidaaGreat.Ev
namespace Go.Proofs.YtddnfappkfiidaaGreat.Ev
open Go
set_option linter.unusedVariables false
set_option linter.unusedSimpArgs false

theorem put_in_u32 {o : po_octets_Put_u32.den} : ∀ (n : Nat) (out : List Int) (size w : Int) (words : List Int) (len idx : Int), n ≤ 4 → 0 ≤ w → w < 18446744073709551616 → out.length + n ≤ 140737488355328 →
    Evn (fun k => (f_octets_Put_u32_t k).1 ((out ++ be w n, ()), ((size, ()), ((), ((words, ()), ((len, ()), ((iadd .i64 idx 1, ()), ()))))))) o →
    Evn (fun k => (f_octets_Put_u32_t k).2.1 ((out, ()), ((size, ()), ((), ((w, ()), (((n : Int) - 1, ()), ((words, ()), ((len, ()), ((idx, ()), ()))))))))) o
  | 0, out, size, w, words, len, idx, hn, h0, h1, hl, h => by
    refine Evn.step h fun k => ?_
    rw [t_octets_Put_u32]
    simp only [f_octets_Put_u32_p11, be, List.append_nil]
    rw [decide_eq_false (by omega)]
    rfl
  | n + 1, out, size, w, words, len, idx, hn, h0, h1, hl, h => by
    refine Evn.step (put_in_u32 n (out ++ [w / 256 ^ n % 256]) size w words len idx (by omega) h0 h1 (by simp; omega) ?_) fun k => ?_
    · simpa only [be, List.append_assoc, List.singleton_append] using h
    · rw [t_octets_Put_u32]
      simp only [f_octets_Put_u32_p11]
      have e1 : (((n + 1 : Nat) : Int) - 1) = (n : Int) := by omega
      rw [e1, decide_eq_true (show (n : Int) ≥ 0 by omega), imul_i64 (by omega), decide_eq_false (by omega)]
      simp only [cond_true, cond_false]
      rw [iconv_u64, Int.emod_eq_of_lt h0 h1, ishr_byte (by omega) h0, iconv_u8, isub_i64 (by omega)]
      rw [decide_eq_true (by simp only [List.length_singleton]; omega), decide_eq_true (by simp only [List.length_singleton]; omega)]
      rfl
theorem put_out_u32 {words : List Int} (hw : ∀ w ∈ words, 0 ≤ w ∧ w < 2 ^ 32) (hwl : words.length ≤ 140737488355328) : ∀ (n i : Nat) (out : List Int), i + n = words.length → out.length + n * 4 ≤ 140737488355328 →
    Evn (fun k => (f_octets_Put_u32_t k).1 ((out, ()), (((4 : Int), ()), ((), ((words, ()), (((words.length : Int), ()), (((i : Int), ()), ()))))))) ((out ++ (words.drop i).flatMap (be · 4), ()), ((), ()))
  | 0, i, out, hi, hl => by
    refine Evn.step (Evn.const fun _ => rfl) fun k => ?_
    rw [t_octets_Put_u32]
    simp only [f_octets_Put_u32_p5]
    rw [decide_eq_false (by omega), List.drop_eq_nil_of_le (by omega)]
    simp
  | n + 1, i, out, hi, hl => by
    have hlt : i < words.length := by omega
    have hi2 := hw words[i] (List.getElem_mem hlt)
    rw [List.drop_eq_getElem_cons hlt, List.flatMap_cons, ← List.append_assoc]
    have ih := put_out_u32 hw hwl n (i + 1) (out ++ be words[i] 4) (by omega) (by rw [List.length_append, length_be]; omega)
    refine Evn.step (put_in_u32 4 out 4 words[i] words words.length i (Nat.le_refl _) hi2.1 (by omega) (by omega) (Evn.cast ih fun k => ?_)) fun k => ?_
    · rw [iadd_i64 (by omega)]; rfl
    · rw [t_octets_Put_u32]
      simp only [f_octets_Put_u32_p5]
      rw [decide_eq_true (by omega), decide_eq_true (by omega), isub_i64 (by omega), gd_get (.int .u32) words (i : Int) (by omega) (by omega)]
      rfl
theorem put_u32 (b words : List Int) (hw : ∀ w ∈ words, 0 ≤ w ∧ w < 2 ^ 32) (hl : b.length + words.length * 4 ≤ 140737488355328) :
    g_octets_Put_u32 ((), ((b, ()), ((words, ()), ()))) = some ((b ++ words.flatMap (be · 4), ()), ((), ())) := by
  refine Evn.lim (Evn.cast (put_out_u32 hw (by omega) words.length 0 b (by omega) hl) fun k => ?_)
  simp only [f_octets_Put_u32_m]
  rw [size_u32, clone b (by omega)]
  rfl
end Go.Proofs.YtddnfappkfiidaaGreat.Ev
namespace Go.Proofs.YtddnfappkfiidaaGreat.Ev
open Go
set_option linter.unusedVariables false
set_option linter.unusedSimpArgs false

end Go.Proofs.YtddnfappkfiidaaGreat.Ev
namespace Go.Proofs.YtddnfappkfiidaaGreat.Ev
open Go
set_option linter.unusedVariables false
set_option linter.unusedSimpArgs false
/-- The number near p with the lowest 32 bits n. -/
def nearV (n p : Int) : Int := if 2147483648 ≤ (n - p) % 4294967296 then p + ((n - p) % 4294967296 - 4294967296) else p + (n - p) % 4294967296
def i64V (a : Int) : Int := if i64 a then a else 0
def i64E (a : Int) : Int := if i64 a then 0 else 5
theorem num_add' (a b : Int) (ha : i64 a) (hb : i64 b) : g_num_Add ((), ((a, ()), ((b, ()), ()))) = some ((), ((i64V (a + b), ()), ((errOf (i64E (a + b)), ()), ()))) := by
  rw [num_add a b ha hb]
  unfold i64V i64E
  by_cases h : i64 (a + b)
  · rw [if_pos h, if_pos h, if_pos h]; rfl
  · rw [if_neg h, if_neg h, if_neg h]; rfl
theorem num_sub' (a b : Int) (ha : i64 a) (hb : i64 b) : g_num_Sub ((), ((a, ()), ((b, ()), ()))) = some ((), ((i64V (a - b), ()), ((errOf (i64E (a - b)), ()), ()))) := by
  simp only [g_num_Sub, f_num_Sub_m, fitsS_dec, Option.bind_some, Option.isNone_none, Option.isNone_some, Option.isSome_none, Option.isSome_some, Bool.not_true, Bool.not_false, cond_true, cond_false, cond_dec, beq_int, bne_int, not_dec, gt_iff_lt]
  unfold i64V i64E i64 at *
  by_cases h : -9223372036854775808 ≤ a - b ∧ a - b ≤ 9223372036854775807
  · rw [isub_i64 h, if_pos h, if_pos h]
    by_cases h1 : 0 < b
    · rw [if_pos h1, if_neg (by omega), if_neg (by omega)]; rfl
    · rw [if_neg h1]
      by_cases h2 : b < 0
      · rw [if_pos h2, if_neg (by omega)]; rfl
      · rw [if_neg h2]; rfl
  · rw [if_neg h, if_neg h]
    have e : isub .i64 a b = (a - b + 9223372036854775808) % 18446744073709551616 - 9223372036854775808 := wrap_i64 _
    rw [e]
    by_cases h1 : 0 < b
    · rw [if_pos h1, if_pos (by omega)]; rfl
    · rw [if_neg h1, if_pos (by omega), if_pos (by omega)]; rfl
theorem era_bits32 (n p : Int) (h0 : 0 ≤ n) (h1 : n < 4294967296) (hp : i64 p) : g_era_Bits ((), ((n, ()), ((32, ()), ((p, ()), ())))) = some ((), ((i64V (nearV n p), ()), ((errOf (i64E (nearV n p)), ()), ()))) := by
  have hmask : g_era_mask ((), ((32, ()), ())) = some ((), ((4294967295, ()), ())) := by kernel_rfl
  have hright : g_era_right ((), ((32, ()), ())) = some ((), ((true, ()), ())) := by kernel_rfl
  unfold i64 at hp
  simp only [g_era_Bits, f_era_Bits_m, hmask, hright, fitsS_dec, Option.bind_some, Option.isNone_none, Option.isNone_some, Option.isSome_none, Option.isSome_some, Bool.not_true, Bool.not_false, cond_true, cond_false, cond_dec, beq_int, bne_int, not_dec, gt_iff_lt, ge_iff_le]
  have e1 : iand .u64 (isub .u64 n (iconv .u64 p)) 4294967295 = (n - p) % 4294967296 := by
    rw [iconv_u64, isub_u64]
    have := iand_mask (k := .u64) (a := (n - p % 18446744073709551616) % 18446744073709551616) 32 (by decide) rfl (by omega) (by simp only [IntKind.bits]; omega)
    rw [show ((2 : Int) ^ 32 - 1) = 4294967295 from rfl, show ((2 : Int) ^ 32) = 4294967296 from rfl] at this
    rw [this]; omega
  rw [if_neg (by omega), e1, iconv_i64 (by omega), isub_i64 (a := 32) (by omega), if_neg (by omega), show ishl .i64 1 (32 - 1) = 2147483648 by kernel_rfl, show ishl .i64 1 32 = 4294967296 by kernel_rfl]
  unfold nearV
  by_cases hc : 2147483648 ≤ (n - p) % 4294967296
  · rw [if_pos hc, if_pos hc, if_neg (by omega), isub_i64 (by omega), num_add' p _ hp (by unfold i64; omega)]
    simp only [Option.bind_some]
  · rw [if_neg hc, if_neg hc, num_add' p _ hp (by unfold i64; omega)]
    simp only [Option.bind_some]
theorem era_unfold (n p : Int) (h0 : 0 ≤ n) (h1 : n < 4294967296) (hp : i64 p) : g_era_Unfold_u32 ((), ((n, ()), ((p, ()), ()))) = some ((), ((i64V (nearV n p), ()), ((errOf (i64E (nearV n p)), ()), ()))) := by
  simp only [g_era_Unfold_u32, f_era_Unfold_u32_m, size_u32, Option.bind_some]
  rw [iconv_u64, Int.emod_eq_of_lt h0 (by omega), imul_i64 (by omega), show (4 : Int) * 8 = 32 from rfl, era_bits32 n p h0 h1 hp]
  simp only [Option.bind_some]
end Go.Proofs.YtddnfappkfiidaaGreat.Ev
namespace Go.Proofs.YtddnfappkfiidaaGreat.Ev
open Go
set_option linter.unusedVariables false
set_option linter.unusedSimpArgs false
end Go.Proofs.YtddnfappkfiidaaGreat.Ev
namespace Go.Proofs.YtddnfappkfiidaaGreat.Ev
open Go
set_option linter.unusedVariables false
set_option linter.unusedSimpArgs false
def stFracV (n : Int) : Int := if 0 ≤ n ∧ n ≤ 999999999 then (n * 4294967296 + 999999999) / 1000000000 else 0
def stFracE (n : Int) : Int := if 0 ≤ n ∧ n ≤ 999999999 then 0 else 1
theorem stamp_right' (n : Int) : g_stamp_right ((), ((n, ()), ())) = some ((), ((decide (0 ≤ n ∧ n ≤ 999999999), ()), ())) := by
  simp only [g_stamp_right, f_stamp_right_m, fitsS_dec, Option.bind_some, Option.isNone_none, Option.isNone_some, Option.isSome_none, Option.isSome_some, Bool.not_true, Bool.not_false, cond_true, cond_false, cond_dec, beq_int, bne_int, not_dec, ge_iff_le]
  by_cases h : 0 ≤ n
  · rw [if_pos h]; congr 4; simp only [decide_eq_decide]; omega
  · rw [if_neg h, decide_eq_false (by omega)]
theorem stamp_fraction (n : Int) (hn : i64 n) : g_stamp_Fraction ((), ((n, ()), ())) = some ((), ((stFracV n, ()), ((errOf (stFracE n), ()), ()))) := by
  unfold i64 at hn
  simp only [g_stamp_Fraction, f_stamp_Fraction_m, stamp_right', fitsS_dec, Option.bind_some, Option.isNone_none, Option.isNone_some, Option.isSome_none, Option.isSome_some, Bool.not_true, Bool.not_false, cond_true, cond_false, cond_dec, beq_int, bne_int, not_dec]
  unfold stFracV stFracE
  by_cases h : 0 ≤ n ∧ n ≤ 999999999
  · have e1 : ishl .u64 n 32 = n * 4294967296 := IntWalk.u64_in _ (by simp only [show min (32 : Int).toNat (IntKind.bits .u64) = 32 from rfl, show (2 : Int) ^ 32 = 4294967296 from rfl]; omega)
    have e2 : iquo .u64 (n * 4294967296 + 999999999) 1000000000 = (n * 4294967296 + 999999999) / 1000000000 := by
      unfold iquo
      rw [Int.tdiv_eq_ediv_of_nonneg (by omega)]
      exact IntWalk.u64_in _ (by omega)
    rw [if_neg (not_not_intro h), iconv_u64, Int.emod_eq_of_lt h.1 (by omega), e1, iadd_u64, isub_u64, show ((n * 4294967296 + 1000000000) % 18446744073709551616 - 1) % 18446744073709551616 = n * 4294967296 + 999999999 by omega, e2, iconv_u32, Int.emod_eq_of_lt (by omega) (by omega), if_pos h, if_pos h]; rfl
  · rw [if_pos h, if_neg h, if_neg h]; rfl
theorem stamp_nano (f : Int) (h0 : 0 ≤ f) (h1 : f < 4294967296) : g_stamp_Nano ((), ((f, ()), ())) = some ((), ((f * 1000000000 / 4294967296, ()), ())) := by
  have e : ishr .u64 (f * 1000000000) 32 = f * 1000000000 / 4294967296 := by
    unfold ishr
    rw [show min (32 : Int).toNat (IntKind.bits .u64) = 32 from rfl, show ((2 : Int) ^ 32) = 4294967296 from rfl, Int.fdiv_eq_ediv_of_nonneg _ (by decide)]
  simp only [g_stamp_Nano, f_stamp_Nano_m]
  rw [iconv_u64, Int.emod_eq_of_lt h0 (by omega), imul_u64, Int.emod_eq_of_lt (by omega) (by omega), e, iconv_i64 (by omega)]
theorem stamp_of (t n : Int) (hn : i64 n) : g_stamp_Of ((), ((t, ()), ((n, ()), ()))) = some ((), ((if stFracE n = 0 then t % 4294967296 else 0, (stFracV n, ())), ((errOf (stFracE n), ()), ()))) := by
  simp only [g_stamp_Of, f_stamp_Of_m, stamp_fraction n hn, fitsS_dec, Option.bind_some, Option.isNone_none, Option.isNone_some, Option.isSome_none, Option.isSome_some, Bool.not_true, Bool.not_false, cond_true, cond_false, cond_dec, beq_int, bne_int, not_dec, errOf_none]
  by_cases h : 0 ≤ n ∧ n ≤ 999999999
  · have hE : stFracE n = 0 := if_pos h
    simp only [hE, not_true_eq_false, if_false, if_true, g_era_Fold_u32, f_era_Fold_u32_m, iconv_u32, Option.bind_some]; rfl
  · have hE : stFracE n = 1 := if_neg h
    have hV : stFracV n = 0 := if_neg h
    rw [hE, hV]; rfl
theorem stamp_time (s f p : Int) (hs : 0 ≤ s ∧ s < 4294967296) (hf : 0 ≤ f ∧ f < 4294967296) (hp : i64 p) : g_stamp_Time ((), ((s, (f, ())), ((p, ()), ()))) =
    some ((), ((i64V (nearV s p), ()), ((if i64E (nearV s p) = 0 then f * 1000000000 / 4294967296 else 0, ()), ((errOf (i64E (nearV s p)), ()), ())))) := by
  simp only [g_stamp_Time, f_stamp_Time_m, era_unfold s p hs.1 hs.2 hp, fitsS_dec, Option.bind_some, Option.isNone_none, Option.isNone_some, Option.isSome_none, Option.isSome_some, Bool.not_true, Bool.not_false, cond_true, cond_false, cond_dec, beq_int, bne_int, not_dec, errOf_none]
  by_cases h : i64E (nearV s p) = 0
  · simp only [h, not_true_eq_false, if_false, if_true, stamp_nano f hf.1 hf.2, Option.bind_some]; rfl
  · have : i64V (nearV s p) = 0 := by
      unfold i64E at h; unfold i64V
      by_cases c : i64 (nearV s p)
      · rw [if_pos c] at h; exact absurd rfl h
      · rw [if_neg c]
    rw [if_pos h, if_neg h, this]
end Go.Proofs.YtddnfappkfiidaaGreat.Ev
namespace Go.Proofs.YtddnfappkfiidaaGreat.Ev
open Go
set_option linter.unusedVariables false
set_option linter.unusedSimpArgs false
@[reducible] def u32 (a : Int) : Prop := 0 ≤ a ∧ a < 4294967296
@[reducible] def u16 (a : Int) : Prop := 0 ≤ a ∧ a < 65536
@[reducible] def u64 (a : Int) : Prop := 0 ≤ a ∧ a < 18446744073709551616
end Go.Proofs.YtddnfappkfiidaaGreat.Ev
namespace Go.Proofs.YtddnfappkfiidaaGreat.Ev
open Go
set_option linter.unusedVariables false
set_option linter.unusedSimpArgs false
theorem near_self (t by_ : Int) (h : -2147483648 < by_ ∧ by_ ≤ 2147483647) : nearV (t % 4294967296) (t + by_) = t := by
  unfold nearV
  have e : (t % 4294967296 - (t + by_)) % 4294967296 = (-by_) % 4294967296 := by omega
  rw [e]
  split <;> omega
theorem stamp_fromPosix (t : Int) (ht : i64 t) : g_stamp_FromPosix ((), ((t, ()), ())) = some ((), ((i64V (t + 2208988800), ()), ((errOf (i64E (t + 2208988800)), ()), ()))) := by
  simp only [g_stamp_FromPosix, f_stamp_FromPosix_m, num_add' t 2208988800 ht (by unfold i64; omega), Option.bind_some]
theorem stamp_toPosix (t : Int) (ht : i64 t) : g_stamp_ToPosix ((), ((t, ()), ())) = some ((), ((i64V (t - 2208988800), ()), ((errOf (i64E (t - 2208988800)), ()), ()))) := by
  simp only [g_stamp_ToPosix, f_stamp_ToPosix_m, num_sub' t 2208988800 ht (by unfold i64; omega), Option.bind_some]
theorem i64_in {a : Int} (h : i64 a) : i64V a = a ∧ i64E a = 0 := ⟨if_pos h, if_pos h⟩
end Go.Proofs.YtddnfappkfiidaaGreat.Ev
namespace Go.Proofs.YtddnfappkfiidaaGreat.Ev
open Go
set_option linter.unusedVariables false
set_option linter.unusedSimpArgs false
def wordB (p : Int) : List Int := if i64 (p + 2208988800) then be ((p + 2208988800) % 4294967296) 4 else []
def wordE (p : Int) : Int := if i64 (p + 2208988800) then 0 else 5
theorem word_put (p : Int) (h : i64 p) : g_word_Put ((), ((p, ()), ())) = some ((wordB p, ()), ((), ((errOf (wordE p), ()), ()))) := by
  simp only [g_word_Put, f_word_Put_m, g_stamp_FromPosix, f_stamp_FromPosix_m, num_add p 2208988800 h (by omega), fitsS_dec, Option.bind_some, Option.isNone_none, Option.isNone_some, Option.isSome_none, Option.isSome_some, Bool.not_true, Bool.not_false, cond_true, cond_false, cond_dec, beq_int, bne_int, not_dec, wordB, wordE]
  by_cases c : i64 (p + 2208988800)
  · simp only [if_pos c, fitsS_dec, Option.bind_some, Option.isNone_none, Option.isNone_some, Option.isSome_none, Option.isSome_some, Bool.not_true, Bool.not_false, cond_true, cond_false, cond_dec, beq_int, bne_int, not_dec, g_era_Fold_u32, f_era_Fold_u32_m, iconv_u32, errOf_zero]
    rw [put_u32 [] _ (by intro w hw; simp only [List.mem_singleton] at hw; subst hw; omega) (by simp)]
    simp
  · simp only [if_neg c, fitsS_dec, Option.bind_some, Option.isNone_none, Option.isNone_some, Option.isSome_none, Option.isSome_some, Bool.not_true, Bool.not_false, cond_true, cond_false, cond_dec, beq_int, bne_int, not_dec]; rfl
theorem posix_range {l : Lab} (h : labErr l = 0) : (-377705116800 ≤ labN l * 86400 + labS l ∧ labN l * 86400 + labS l ≤ 253402300800) ∧ 0 ≤ labS l ∧ labS l ≤ 86400 := by
  obtain ⟨h0, h1, h2, h3⟩ := labErr_zero h
  have hf := fErr_zero.1 h1
  have : 0 ≤ labS l ∧ labS l ≤ 86400 := by
    unfold labS
    by_cases c : l.s = 60
    · have := h3 c; omega
    · omega
  unfold there at h2
  omega
theorem scale_posix (l : Lab) : g_scale_Posix ((), (l.t, ())) = some ((), ((if labErr l = 0 then labN l * 86400 + labS l else 0, ()), ((errOf (labErr l), ()), ()))) := by
  have h1 := label_split l
  simp only [Lab.t] at h1
  simp only [g_scale_Posix, f_scale_Posix_m, Lab.t, h1, fitsS_dec, Option.bind_some, Option.isNone_none, Option.isNone_some, Option.isSome_none, Option.isSome_some, Bool.not_true, Bool.not_false, cond_true, cond_false, cond_dec, beq_int, bne_int, not_dec, errOf_none]
  by_cases h : labErr l = 0
  · have hr := posix_range h
    have hn := (labErr_zero h).2.2.1
    unfold there at hn
    simp only [h, not_true_eq_false, if_false, if_true, errOf_zero]
    rw [imul_i64 (by omega), iadd_i64 (by omega)]
  · simp only [h, not_false_eq_true, if_true, if_false]
end Go.Proofs.YtddnfappkfiidaaGreat.Ev
