/- Leap tables: what leap's functions tell of a table whose rows rise. -/
import Derived.Test.YtcnngodgngmghaaGreatDoorPuCal3
namespace Go.Proofs.YtcnngodgngmghaaGreatDoor.Ev
open Go
set_option linter.unusedVariables false
set_option linter.unusedSimpArgs false
def dated (n : Int) : Prop := -25567 ≤ n ∧ n ≤ 2932896
def first (n : Int) : Prop := ∃ y m, IsDate n y m 1
def undatedL (l : List (Int × Int)) : Prop := ∃ i : Nat, i < l.length ∧ ¬ dated (gd_i64_i64 l i).1
def wrongL (l : List (Int × Int)) : Prop := ∃ i : Nat, i < l.length ∧ ¬(first (gd_i64_i64 l i).1 ∧ 0 ≤ (gd_i64_i64 l i).2 ∧ (gd_i64_i64 l i).2 ≤ 1000)
def foll (b a : Int × Int) : Prop := b.1 > a.1 ∧ (b.2 - a.2 = 1 ∨ b.2 - a.2 = -1)
def rises (l : List (Int × Int)) : Prop := ∀ i : Nat, i + 1 < l.length → foll (gd_i64_i64 l ((i + 1 : Nat) : Int)) (gd_i64_i64 l i)
def timeP (s : Int) : Prop := 0 ≤ s ∧ s ≤ 1099511627776
instance (n : Int) : Decidable (dated n) := by unfold dated; infer_instance
instance (n : Int) : Decidable (timeP n) := by unfold timeP; infer_instance
noncomputable instance (n : Int) : Decidable (first n) := Classical.propDecidable _
noncomputable instance (l : List (Int × Int)) : Decidable (undatedL l) := Classical.propDecidable _
noncomputable instance (l : List (Int × Int)) : Decidable (wrongL l) := Classical.propDecidable _
noncomputable instance (l : List (Int × Int)) : Decidable (rises l) := Classical.propDecidable _
/-- An error's number of a table. -/
noncomputable def tErr (l : List (Int × Int)) (u e : Int) : Int :=
  if l.length = 0 then 8 else if 256 < l.length then 3 else if undatedL l then 13 else if wrongL l ∨ ¬ timeP u ∨ ¬ timeP e then 1 else if ¬ rises l then 6 else 0
theorem date_1900 {n y m d : Int} (h : IsDate n y m d) : 1900 ≤ y ↔ -25567 ≤ n := by
  have a := isDate_year h
  have e : dnum 1900 1 1 = -25567 := rfl
  constructor
  · intro hy
    by_cases c : y = 1900
    · subst c; omega
    · have := ystart_mono (y := 1900) (y' := y) (by omega)
      have := ylen_eq 1900
      have : ylen 1900 = 365 := by decide
      omega
  · intro hn
    by_cases c : y < 1900
    · have := ystart_mono c; omega
    · omega
theorem row_dated (n o : Int) : g_leap_Row_dated ((), ((n, (o, ())), ())) = some ((), ((decide (dated n), ()), ())) := by
  simp only [g_leap_Row_dated, f_leap_Row_dated_m]
  by_cases h : -4371587 ≤ n ∧ n ≤ 2932896
  · obtain ⟨y, m, d, e, hd⟩ := day_date_ex n h
    simp only [e, fitsS_dec, Option.bind_some, Option.isNone_none, Option.isNone_some, Option.isSome_none, Option.isSome_some, Bool.not_true, Bool.not_false, cond_true, cond_false, cond_dec, beq_int, bne_int, not_dec, ge_iff_le]
    have := date_1900 hd
    congr 4
    rw [decide_eq_decide]; unfold dated
    constructor <;> intro hh <;> omega
  · simp only [day_date_bad h, fitsS_dec, Option.bind_some, Option.isNone_none, Option.isNone_some, Option.isSome_none, Option.isSome_some, Bool.not_true, Bool.not_false, cond_true, cond_false, cond_dec, beq_int, bne_int, not_dec]
    rw [decide_eq_false (by unfold dated; omega)]
theorem row_may (n o : Int) : g_leap_Row_may ((), ((n, (o, ())), ())) = some ((), ((decide (first n ∧ (-4371587 ≤ n ∧ n ≤ 2932896) ∧ 0 ≤ o ∧ o ≤ 1000), ()), ())) := by
  simp only [g_leap_Row_may, f_leap_Row_may_m]
  by_cases h : -4371587 ≤ n ∧ n ≤ 2932896
  · obtain ⟨y, m, d, e, hd⟩ := day_date_ex n h
    simp only [e, fitsS_dec, Option.bind_some, Option.isNone_none, Option.isNone_some, Option.isSome_none, Option.isSome_some, Bool.not_true, Bool.not_false, cond_true, cond_false, cond_dec, beq_int, bne_int, not_dec, ge_iff_le]
    by_cases c : d = 1
    · subst c
      rw [if_pos rfl]
      have hf : first n := ⟨y, m, hd⟩
      by_cases c2 : 0 ≤ o
      · rw [if_pos c2]; congr 4; simp [hf, h, c2]
      · rw [if_neg c2, decide_eq_false (by simp [c2])]
    · rw [if_neg c, decide_eq_false]
      rintro ⟨⟨y', m', h'⟩, _⟩
      exact c (isDate_unique hd h').2.2
  · simp only [day_date_bad h, fitsS_dec, Option.bind_some, Option.isNone_none, Option.isNone_some, Option.isSome_none, Option.isSome_some, Bool.not_true, Bool.not_false, cond_true, cond_false, cond_dec, beq_int, bne_int, not_dec]
    rw [decide_eq_false (by simp only [h, false_and, and_false, not_false_eq_true])]
theorem leap_time (s : Int) : g_leap_time ((), ((s, ()), ())) = some ((), ((decide (0 ≤ s ∧ s ≤ 1099511627776), ()), ())) := by
  simp only [g_leap_time, f_leap_time_m, fitsS_dec, Option.bind_some, Option.isNone_none, Option.isNone_some, Option.isSome_none, Option.isSome_some, Bool.not_true, Bool.not_false, cond_true, cond_false, cond_dec, beq_int, bne_int, not_dec, ge_iff_le]
  by_cases h : 0 ≤ s <;> simp [h]
theorem follows (a b c d : Int) (hb : 0 ≤ b ∧ b ≤ 1000) (hd : 0 ≤ d ∧ d ≤ 1000) : g_leap_Row_follows ((), ((a, (b, ())), ((c, (d, ())), ()))) = some ((), ((decide (a > c ∧ (b - d = 1 ∨ b - d = -1)), ()), ())) := by
  simp only [g_leap_Row_follows, f_leap_Row_follows_m, fitsS_dec, Option.bind_some, Option.isNone_none, Option.isNone_some, Option.isSome_none, Option.isSome_some, Bool.not_true, Bool.not_false, cond_true, cond_false, cond_dec, beq_int, bne_int, not_dec]
  rw [isub_i64 (by omega)]
  by_cases h1 : a > c <;> by_cases h2 : b - d = 1 <;> by_cases h3 : b - d = -1 <;> simp [h1, h2, h3]
theorem index_undated (l : List (Int × Int)) (hl : l.length ≤ 1000) : ∀ (k i : Nat), i + k = l.length → ∃ x : Int, Evn (fun j => (f_slices_IndexFunc_leap_Row_leap_Row_leap_New_1_t j).1 ((), ((l, ()), ((), (((l.length : Int), ()), (((i : Int), ()), ())))))) ((), ((x, ()), ())) ∧
    ((x = -1 ∧ ∀ j : Nat, i ≤ j → j < l.length → dated (gd_i64_i64 l j).1) ∨ (0 ≤ x ∧ ∃ j : Nat, j < l.length ∧ ¬ dated (gd_i64_i64 l j).1)) := by
  intro k; induction k with
  | zero =>
    intro i h
    refine ⟨-1, Evn.some 1 fun j => ?_, .inl ⟨rfl, fun j h1 h2 => by omega⟩⟩
    simp only [t_slices_IndexFunc_leap_Row_leap_Row_leap_New_1, f_slices_IndexFunc_leap_Row_leap_Row_leap_New_1_p3, fitsS_dec, Option.bind_some, Option.isNone_none, Option.isNone_some, Option.isSome_none, Option.isSome_some, Bool.not_true, Bool.not_false, cond_true, cond_false, cond_dec, beq_int, bne_int, not_dec]
    rw [if_neg (by omega)]
  | succ k ih =>
    intro i h
    by_cases c : dated (gd_i64_i64 l i).1
    · obtain ⟨x, h1, h2⟩ := ih (i + 1) (by omega)
      refine ⟨x, h1.step fun j => ?_, ?_⟩
      · simp only [t_slices_IndexFunc_leap_Row_leap_Row_leap_New_1, f_slices_IndexFunc_leap_Row_leap_Row_leap_New_1_p3, g_leap_New_1, f_leap_New_1_m, row_dated, fitsS_dec, Option.bind_some, Option.isNone_none, Option.isNone_some, Option.isSome_none, Option.isSome_some, Bool.not_true, Bool.not_false, cond_true, cond_false, cond_dec, beq_int, bne_int, not_dec, and_dec]
        rw [if_pos (by omega), if_pos (by omega), if_neg (by simpa using c), iadd_i64 (by omega)]; rfl
      · rcases h2 with ⟨h2, h3⟩ | h2
        · refine .inl ⟨h2, fun j h4 h5 => ?_⟩
          by_cases e : j = i
          · subst e; exact c
          · exact h3 j (by omega) h5
        · exact .inr h2
    · refine ⟨i, Evn.some 1 fun j => ?_, .inr ⟨by omega, i, by omega, c⟩⟩
      simp only [t_slices_IndexFunc_leap_Row_leap_Row_leap_New_1, f_slices_IndexFunc_leap_Row_leap_Row_leap_New_1_p3, g_leap_New_1, f_leap_New_1_m, row_dated, fitsS_dec, Option.bind_some, Option.isNone_none, Option.isNone_some, Option.isSome_none, Option.isSome_some, Bool.not_true, Bool.not_false, cond_true, cond_false, cond_dec, beq_int, bne_int, not_dec, and_dec]
      rw [if_pos (by omega), if_pos (by omega), if_pos (by simpa using c)]
theorem any_undated (l : List (Int × Int)) (hl : l.length ≤ 1000) : g_slices_ContainsFunc_leap_Row_leap_Row_leap_New_1 ((), ((l, ()), ((), ()))) = some ((), ((decide (undatedL l), ()), ())) := by
  obtain ⟨x, h1, h2⟩ := index_undated l hl l.length 0 (by omega)
  have h1 : g_slices_IndexFunc_leap_Row_leap_Row_leap_New_1 ((), ((l, ()), ((), ()))) = some ((), ((x, ()), ())) := (h1.cast fun k => by simp only [f_slices_IndexFunc_leap_Row_leap_Row_leap_New_1_m]; rfl).lim
  simp only [g_slices_ContainsFunc_leap_Row_leap_Row_leap_New_1, f_slices_ContainsFunc_leap_Row_leap_Row_leap_New_1_m, h1, Option.bind_some, ge_iff_le]
  congr 4
  simp only [decide_eq_decide]
  rcases h2 with ⟨h2, h3⟩ | ⟨h2, h3⟩
  · subst h2
    exact ⟨fun h => absurd h (by decide), fun ⟨j, h4, h5⟩ => absurd (h3 j (Nat.zero_le _) h4) h5⟩
  · exact ⟨fun _ => h3, fun _ => h2⟩
theorem index_wrong (l : List (Int × Int)) (hl : l.length ≤ 1000) (hd : ¬ undatedL l) : ∀ (k i : Nat), i + k = l.length → ∃ x : Int, Evn (fun j => (f_slices_IndexFunc_leap_Row_leap_Row_leap_New_2_t j).1 ((), ((l, ()), ((), (((l.length : Int), ()), (((i : Int), ()), ())))))) ((), ((x, ()), ())) ∧
    ((x = -1 ∧ ∀ j : Nat, i ≤ j → j < l.length → (first (gd_i64_i64 l j).1 ∧ 0 ≤ (gd_i64_i64 l j).2 ∧ (gd_i64_i64 l j).2 ≤ 1000)) ∨ (0 ≤ x ∧ ∃ j : Nat, j < l.length ∧ ¬(first (gd_i64_i64 l j).1 ∧ 0 ≤ (gd_i64_i64 l j).2 ∧ (gd_i64_i64 l j).2 ≤ 1000))) := by
  have hdt : ∀ j : Nat, j < l.length → (-4371587 ≤ (gd_i64_i64 l j).1 ∧ (gd_i64_i64 l j).1 ≤ 2932896) := fun j hj => by
    by_cases c : dated (gd_i64_i64 l j).1
    · unfold dated at c; omega
    · exact absurd ⟨j, hj, c⟩ hd
  intro k; induction k with
  | zero =>
    intro i h
    refine ⟨-1, Evn.some 1 fun j => ?_, .inl ⟨rfl, fun j h1 h2 => by omega⟩⟩
    simp only [t_slices_IndexFunc_leap_Row_leap_Row_leap_New_2, f_slices_IndexFunc_leap_Row_leap_Row_leap_New_2_p3, fitsS_dec, Option.bind_some, Option.isNone_none, Option.isNone_some, Option.isSome_none, Option.isSome_some, Bool.not_true, Bool.not_false, cond_true, cond_false, cond_dec, beq_int, bne_int, not_dec]
    rw [if_neg (by omega)]
  | succ k ih =>
    intro i h
    have hi := hdt i (by omega)
    by_cases c : first (gd_i64_i64 l i).1 ∧ 0 ≤ (gd_i64_i64 l i).2 ∧ (gd_i64_i64 l i).2 ≤ 1000
    · obtain ⟨x, h1, h2⟩ := ih (i + 1) (by omega)
      refine ⟨x, h1.step fun j => ?_, ?_⟩
      · simp only [t_slices_IndexFunc_leap_Row_leap_Row_leap_New_2, f_slices_IndexFunc_leap_Row_leap_Row_leap_New_2_p3, g_leap_New_2, f_leap_New_2_m, row_may, fitsS_dec, Option.bind_some, Option.isNone_none, Option.isNone_some, Option.isSome_none, Option.isSome_some, Bool.not_true, Bool.not_false, cond_true, cond_false, cond_dec, beq_int, bne_int, not_dec, and_dec]
        rw [if_pos (by omega), if_pos (by omega), if_neg (by simp only [Decidable.not_not]; exact ⟨c.1, hi, c.2⟩), iadd_i64 (by omega)]; rfl
      · rcases h2 with ⟨h2, h3⟩ | h2
        · refine .inl ⟨h2, fun j h4 h5 => ?_⟩
          by_cases e : j = i
          · subst e; exact c
          · exact h3 j (by omega) h5
        · exact .inr h2
    · refine ⟨i, Evn.some 1 fun j => ?_, .inr ⟨by omega, i, by omega, c⟩⟩
      simp only [t_slices_IndexFunc_leap_Row_leap_Row_leap_New_2, f_slices_IndexFunc_leap_Row_leap_Row_leap_New_2_p3, g_leap_New_2, f_leap_New_2_m, row_may, fitsS_dec, Option.bind_some, Option.isNone_none, Option.isNone_some, Option.isSome_none, Option.isSome_some, Bool.not_true, Bool.not_false, cond_true, cond_false, cond_dec, beq_int, bne_int, not_dec, and_dec]
      rw [if_pos (by omega), if_pos (by omega), if_pos (fun hh => c ⟨hh.1, hh.2.2⟩)]
theorem any_wrong (l : List (Int × Int)) (hl : l.length ≤ 1000) (hd : ¬ undatedL l) : g_slices_ContainsFunc_leap_Row_leap_Row_leap_New_2 ((), ((l, ()), ((), ()))) = some ((), ((decide (wrongL l), ()), ())) := by
  obtain ⟨x, h1, h2⟩ := index_wrong l hl hd l.length 0 (by omega)
  have h1 : g_slices_IndexFunc_leap_Row_leap_Row_leap_New_2 ((), ((l, ()), ((), ()))) = some ((), ((x, ()), ())) := (h1.cast fun k => by simp only [f_slices_IndexFunc_leap_Row_leap_Row_leap_New_2_m]; rfl).lim
  simp only [g_slices_ContainsFunc_leap_Row_leap_Row_leap_New_2, f_slices_ContainsFunc_leap_Row_leap_Row_leap_New_2_m, h1, Option.bind_some, ge_iff_le]
  congr 4
  simp only [decide_eq_decide]
  rcases h2 with ⟨h2, h3⟩ | ⟨h2, h3⟩
  · subst h2
    exact ⟨fun h => absurd h (by decide), fun ⟨j, h4, h5⟩ => absurd (h3 j (Nat.zero_le _) h4) h5⟩
  · exact ⟨fun _ => h3, fun _ => h2⟩
theorem rise_p3 (l : List (Int × Int)) (hl : l.length ≤ 1000) (ho : ∀ i : Nat, i < l.length → 0 ≤ (gd_i64_i64 l i).2 ∧ (gd_i64_i64 l i).2 ≤ 1000) : ∀ (k i : Nat), 1 ≤ i → i + k = max l.length 1 → ∃ b : Bool, Evn (fun j => (f_leap_rise_t j).1 ((), ((l, ()), (((i : Int), ()), ())))) ((), ((b, ()), ())) ∧
    ((b = true ∧ ∀ j : Nat, i ≤ j + 1 → j + 1 < l.length → foll (gd_i64_i64 l ((j + 1 : Nat) : Int)) (gd_i64_i64 l j)) ∨ (b = false ∧ ¬ rises l)) := by
  intro k; induction k with
  | zero =>
    intro i hi h
    refine ⟨true, Evn.some 1 fun j => ?_, .inl ⟨rfl, fun j h1 h2 => by omega⟩⟩
    simp only [t_leap_rise, f_leap_rise_p3, fitsS_dec, Option.bind_some, Option.isNone_none, Option.isNone_some, Option.isSome_none, Option.isSome_some, Bool.not_true, Bool.not_false, cond_true, cond_false, cond_dec, beq_int, bne_int, not_dec]
    rw [if_neg (by omega)]
  | succ k ih =>
    intro i hi h
    obtain ⟨m, rfl⟩ : ∃ m, i = m + 1 := ⟨i - 1, by omega⟩
    have e1 : isub .i64 (((m + 1 : Nat) : Int)) 1 = (m : Int) := by rw [isub_i64 (by omega)]; omega
    have h1 := ho (m + 1) (by omega)
    have h2 := ho m (by omega)
    have hf := follows (gd_i64_i64 l ((m + 1 : Nat) : Int)).1 (gd_i64_i64 l ((m + 1 : Nat) : Int)).2 (gd_i64_i64 l m).1 (gd_i64_i64 l m).2 h1 h2
    by_cases c : foll (gd_i64_i64 l ((m + 1 : Nat) : Int)) (gd_i64_i64 l m)
    · obtain ⟨b, q1, q2⟩ := ih (m + 1 + 1) (by omega) (by omega)
      refine ⟨b, q1.step fun j => ?_, ?_⟩
      · simp only [t_leap_rise, f_leap_rise_p3, fitsS_dec, Option.bind_some, Option.isNone_none, Option.isNone_some, Option.isSome_none, Option.isSome_some, Bool.not_true, Bool.not_false, cond_true, cond_false, cond_dec, beq_int, bne_int, not_dec, and_dec, e1]
        rw [if_pos (by omega), if_pos (by omega), if_pos (by omega), hf]
        simp only [Option.bind_some, not_dec, cond_dec]
        have c' := c
        unfold foll at c'
        rw [if_neg (not_not_intro c'), iadd_i64 (by omega)]; rfl
      · rcases q2 with ⟨q2, q3⟩ | q2
        · refine .inl ⟨q2, fun j h4 h5 => ?_⟩
          by_cases e : j = m
          · subst e; exact c
          · exact q3 j (by omega) h5
        · exact .inr q2
    · refine ⟨false, Evn.some 1 fun j => ?_, .inr ⟨rfl, fun hr => c (hr m (by omega))⟩⟩
      simp only [t_leap_rise, f_leap_rise_p3, fitsS_dec, Option.bind_some, Option.isNone_none, Option.isNone_some, Option.isSome_none, Option.isSome_some, Bool.not_true, Bool.not_false, cond_true, cond_false, cond_dec, beq_int, bne_int, not_dec, and_dec, e1]
      rw [if_pos (by omega), if_pos (by omega), if_pos (by omega), hf]
      simp only [Option.bind_some, not_dec, cond_dec]
      have c' := c
      unfold foll at c'
      rw [if_pos c']
theorem leap_rise (l : List (Int × Int)) (hl : l.length ≤ 1000) (ho : ∀ i : Nat, i < l.length → 0 ≤ (gd_i64_i64 l i).2 ∧ (gd_i64_i64 l i).2 ≤ 1000) : g_leap_rise ((), ((l, ()), ())) = some ((), ((decide (rises l), ()), ())) := by
  obtain ⟨b, h1, h2⟩ := rise_p3 l hl ho (max l.length 1 - 1) 1 (by omega) (by omega)
  have h1 : g_leap_rise ((), ((l, ()), ())) = some ((), ((b, ()), ())) := (h1.cast fun k => by simp only [f_leap_rise_m]; rfl).lim
  rw [h1]
  rcases h2 with ⟨rfl, h3⟩ | ⟨rfl, h3⟩
  · rw [decide_eq_true (show rises l from fun i hi => h3 i (by omega) hi)]
  · rw [decide_eq_false h3]
theorem clone_rows (l : List (Int × Int)) (h : l.length ≤ 1000) : g_slices_Clone_leap_Row_leap_Row ((), ((l, ()), ())) = some ((l, ()), ((), ())) := by
  unfold g_slices_Clone_leap_Row_leap_Row f_slices_Clone_leap_Row_leap_Row_m
  simp only [List.length_nil, List.nil_append]
  rw [decide_eq_true (show (0 + l.length) * 16 ≤ 140737488355328 by omega), decide_eq_true (show 0 + l.length ≤ 9223372036854775807 by omega)]
  simp only [Bool.and_self, cond_true]
  cases l with
  | nil => simp [agree]
  | cons x l => rfl
theorem offs_of {l : List (Int × Int)} (h : ¬ wrongL l) : ∀ i : Nat, i < l.length → first (gd_i64_i64 l i).1 ∧ 0 ≤ (gd_i64_i64 l i).2 ∧ (gd_i64_i64 l i).2 ≤ 1000 := fun i hi =>
  Classical.byContradiction fun c => h ⟨i, hi, c⟩
theorem days_of {l : List (Int × Int)} (h : ¬ undatedL l) : ∀ i : Nat, i < l.length → dated (gd_i64_i64 l i).1 := fun i hi =>
  Classical.byContradiction fun c => h ⟨i, hi, c⟩
/-- What New tells. -/
theorem leap_new (l : List (Int × Int)) (u e : Int) : g_leap_New ((), ((l, ()), ((u, ()), ((e, ()), ())))) = some ((), ((if tErr l u e = 0 then some (l, (u, e)) else none, ()), ((errOf (tErr l u e), ()), ()))) := by
  simp only [g_leap_New, f_leap_New_m, fitsS_dec, Option.bind_some, Option.isNone_none, Option.isNone_some, Option.isSome_none, Option.isSome_some, Bool.not_true, Bool.not_false, cond_true, cond_false, cond_dec, beq_int, bne_int, not_dec, gt_iff_lt]
  unfold tErr
  by_cases c1 : l.length = 0
  · rw [if_pos (by omega), if_pos c1]; rfl
  rw [if_neg (by omega), if_neg c1]
  by_cases c2 : 256 < l.length
  · rw [if_pos (by omega), if_pos c2]; rfl
  rw [if_neg (by omega), if_neg c2, any_undated l (by omega)]
  simp only [Option.bind_some, cond_dec]
  by_cases c3 : undatedL l
  · rw [if_pos c3, if_pos c3]; rfl
  rw [if_neg c3, if_neg c3, any_wrong l (by omega) c3]
  simp only [Option.bind_some, cond_dec, leap_time, not_dec]
  by_cases c4 : wrongL l
  · have hE : (if wrongL l ∨ ¬ timeP u ∨ ¬ timeP e then (1 : Int) else if ¬ rises l then 6 else 0) = 1 := if_pos (.inl c4)
    rw [if_pos c4, hE]; rfl
  rw [if_neg c4]
  by_cases c5 : timeP u
  · rw [if_neg (show ¬¬(0 ≤ u ∧ u ≤ 1099511627776) by unfold timeP at c5; omega)]
    by_cases c6 : timeP e
    · rw [if_neg (show ¬¬(0 ≤ e ∧ e ≤ 1099511627776) by unfold timeP at c6; omega), leap_rise l (by omega) (fun i hi => (offs_of c4 i hi).2)]
      simp only [Option.bind_some, cond_dec, not_dec]
      by_cases c7 : rises l
      · have hE : (if wrongL l ∨ ¬ timeP u ∨ ¬ timeP e then (1 : Int) else if ¬ rises l then 6 else 0) = 0 := by
          rw [if_neg (show ¬(wrongL l ∨ ¬ timeP u ∨ ¬ timeP e) by simp [c4, c5, c6]), if_neg (not_not_intro c7)]
        rw [hE, if_neg (not_not_intro c7), clone_rows l (by omega)]; rfl
      · have hE : (if wrongL l ∨ ¬ timeP u ∨ ¬ timeP e then (1 : Int) else if ¬ rises l then 6 else 0) = 6 := by
          rw [if_neg (show ¬(wrongL l ∨ ¬ timeP u ∨ ¬ timeP e) by simp [c4, c5, c6]), if_pos c7]
        rw [hE, if_pos c7]; rfl
    · have hE : (if wrongL l ∨ ¬ timeP u ∨ ¬ timeP e then (1 : Int) else if ¬ rises l then 6 else 0) = 1 := if_pos (.inr (.inr c6))
      rw [if_pos (show ¬(0 ≤ e ∧ e ≤ 1099511627776) from c6), hE]; rfl
  · have hE : (if wrongL l ∨ ¬ timeP u ∨ ¬ timeP e then (1 : Int) else if ¬ rises l then 6 else 0) = 1 := if_pos (.inr (.inl c5))
    rw [if_pos (show ¬(0 ≤ u ∧ u ≤ 1099511627776) from c5), hE]; rfl
/-- What a good table has. -/
structure GoodT (l : List (Int × Int)) : Prop where
  len : 1 ≤ l.length ∧ l.length ≤ 256
  day : ∀ i : Nat, i < l.length → dated (gd_i64_i64 l i).1
  off : ∀ i : Nat, i < l.length → 0 ≤ (gd_i64_i64 l i).2 ∧ (gd_i64_i64 l i).2 ≤ 1000
  rise : rises l
theorem good_of {l : List (Int × Int)} {u e : Int} (h : tErr l u e = 0) : GoodT l ∧ timeP u ∧ timeP e := by
  unfold tErr at h
  split at h
  · cases h
  rename_i c1
  split at h
  · cases h
  rename_i c2
  split at h
  · cases h
  rename_i c3
  split at h
  · cases h
  rename_i c4
  split at h
  · cases h
  rename_i c5
  have c4w : ¬ wrongL l := fun hh => c4 (.inl hh)
  exact ⟨⟨by omega, days_of c3, fun i hi => (offs_of c4w i hi).2, Classical.not_not.1 c5⟩, Classical.byContradiction fun hh => c4 (.inr (.inl hh)), Classical.byContradiction fun hh => c4 (.inr (.inr hh))⟩
theorem GoodT.mono {l : List (Int × Int)} (h : GoodT l) : ∀ (k i : Nat), i + 1 + k < l.length → (gd_i64_i64 l i).1 < (gd_i64_i64 l ((i + 1 + k : Nat) : Int)).1 := by
  intro k; induction k with
  | zero => intro i hi; exact (h.rise i hi).1
  | succ k ih =>
    intro i hi
    have := ih i (by omega)
    have := (h.rise (i + 1 + k) (by omega)).1
    rw [show i + 1 + (k + 1) = i + 1 + k + 1 by omega]; omega
theorem GoodT.lt {l : List (Int × Int)} (h : GoodT l) {i j : Nat} (hij : i < j) (hj : j < l.length) : (gd_i64_i64 l i).1 < (gd_i64_i64 l j).1 := by
  have := h.mono (j - i - 1) i (by omega)
  rw [show i + 1 + (j - i - 1) = j by omega] at this; exact this
/-- How many rows are not behind a day. -/
structure Cnt (l : List (Int × Int)) (n : Int) (k : Nat) : Prop where
  le : k ≤ l.length
  lo : ∀ i : Nat, i < k → (gd_i64_i64 l i).1 ≤ n
  hi : ∀ i : Nat, k ≤ i → i < l.length → n < (gd_i64_i64 l i).1
theorem table_row {l : List (Int × Int)} (hl : l.length ≤ 1000) (u e i : Int) : g_leap_Table_Row ((), ((some (l, (u, e)), ()), ((i, ()), ()))) =
    some ((), (((if 0 ≤ i ∧ i < l.length then (gd_i64_i64 l i).1 else 0), ((if 0 ≤ i ∧ i < l.length then (gd_i64_i64 l i).2 else 0), ())), ((decide (0 ≤ i ∧ i < l.length), ()), ()))) := by
  simp only [g_leap_Table_Row, f_leap_Table_Row_m, g_leap_Table_Len, f_leap_Table_Len_m, g_leap_Table_list, f_leap_Table_list_m, fitsS_dec, Option.bind_some, Option.isNone_none, Option.isNone_some, Option.isSome_none, Option.isSome_some, Bool.not_true, Bool.not_false, cond_true, cond_false, cond_dec, beq_int, bne_int, not_dec, and_dec, ge_iff_le]
  by_cases c : 0 ≤ i ∧ i < l.length
  · rw [if_neg (by omega), if_neg (by omega), if_pos c, if_pos c, if_pos c, decide_eq_true c]
  · rw [show (if 0 ≤ i ∧ i < (l.length : Int) then (gd_i64_i64 l i).1 else 0) = 0 from if_neg c, show (if 0 ≤ i ∧ i < (l.length : Int) then (gd_i64_i64 l i).2 else 0) = 0 from if_neg c, decide_eq_false c]
    by_cases c1 : i < 0
    · rw [if_pos c1]
    · rw [if_neg c1, if_pos (by omega)]
/-- A day's Leap. -/
def leapV (l : List (Int × Int)) (n : Int) (k : Nat) : Int := if k < l.length ∧ (gd_i64_i64 l k).1 - 1 = n ∧ k ≠ 0 then (gd_i64_i64 l k).2 - (gd_i64_i64 l ((k : Int) - 1)).2 else 0
theorem leapV_range {l : List (Int × Int)} (h : GoodT l) (n : Int) (k : Nat) : -1 ≤ leapV l n k ∧ leapV l n k ≤ 1 := by
  unfold leapV
  split
  · rename_i c
    have := (h.rise (k - 1) (by omega)).2
    rw [show ((k - 1 + 1 : Nat) : Int) = (k : Int) by omega, show ((k - 1 : Nat) : Int) = (k : Int) - 1 by omega] at this
    omega
  · omega
theorem cnt_unique {l : List (Int × Int)} {n : Int} {k k' : Nat} (h : Cnt l n k) (h' : Cnt l n k') : k = k' := by
  rcases Nat.lt_trichotomy k k' with c | c | c
  · have := h.hi k (Nat.le_refl _) (by have := h'.le; omega); have := h'.lo k c; omega
  · exact c
  · have := h'.hi k' (Nat.le_refl _) (by have := h.le; omega); have := h.lo k' c; omega
theorem first_730 : first 730 := ⟨1972, 1, by decide, by decide, rfl⟩
theorem first_912 : first 912 := ⟨1972, 7, by decide, by decide, rfl⟩
theorem demo_good : tErr [(730, 10), (912, 11)] 5 9 = 0 := by
  have h0 : gd_i64_i64 [(730, 10), (912, 11)] ((0 : Nat) : Int) = (730, 10) := rfl
  have h1 : gd_i64_i64 [(730, 10), (912, 11)] ((1 : Nat) : Int) = (912, 11) := rfl
  have hu : ¬ undatedL [(730, 10), (912, 11)] := by
    rintro ⟨i, hi, hh⟩
    match i, hi with
    | 0, _ => rw [h0] at hh; exact hh (by unfold dated; decide)
    | 1, _ => rw [h1] at hh; exact hh (by unfold dated; decide)
  have hw : ¬ wrongL [(730, 10), (912, 11)] := by
    rintro ⟨i, hi, hh⟩
    match i, hi with
    | 0, _ => rw [h0] at hh; exact hh ⟨first_730, by decide, by decide⟩
    | 1, _ => rw [h1] at hh; exact hh ⟨first_912, by decide, by decide⟩
  have hr : rises [(730, 10), (912, 11)] := by
    intro i hi
    match i, hi with
    | 0, _ => exact ⟨by decide, .inl rfl⟩
  unfold tErr
  rw [if_neg (by decide), if_neg (by decide), if_neg hu, if_neg, if_neg (not_not_intro hr)]
  rintro (h | h | h)
  · exact hw h
  · exact h (by unfold timeP; decide)
  · exact h (by unfold timeP; decide)
end Go.Proofs.YtcnngodgngmghaaGreatDoor.Ev
