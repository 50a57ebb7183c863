/- Labels: what label's functions and their reference tell, in closed form. -/
import Derived.Test.YtddnfappkfiidaaGreatPuCal3
import Derived.Test.YtddnfappkfiidaaGreatPuNn
namespace Go.Proofs.YtddnfappkfiidaaGreat.Ev
open Go
set_option linter.unusedVariables false
set_option linter.unusedSimpArgs false
/-- A label. -/
structure Lab where
  (y m d h i s n o : Int)
@[reducible] def Lab.t (l : Lab) : Int × (Int × (Int × (Int × (Int × (Int × (Int × (Int × Unit))))))) := (l.y, (l.m, (l.d, (l.h, (l.i, (l.s, (l.n, (l.o, ()))))))))
def fErr (l : Lab) : Int := if (0 ≤ l.h ∧ l.h ≤ 23) ∧ (0 ≤ l.i ∧ l.i ≤ 59) ∧ (0 ≤ l.s ∧ l.s ≤ 60) ∧ (0 ≤ l.n ∧ l.n ≤ 999999999) ∧ (-1439 ≤ l.o ∧ l.o ≤ 1439) then 0 else 1
def there (n : Int) : Prop := -4371587 ≤ n ∧ n ≤ 2932896
instance (n : Int) : Decidable (there n) := by unfold there; infer_instance
/-- The minutes from the date's midnight, without its offset. -/
def labM (l : Lab) : Int := l.h * 60 + l.i - l.o
def labN (l : Lab) : Int := dnum l.y l.m l.d + labM l / 1440
def labS (l : Lab) : Int := labM l % 1440 * 60 + l.s
def labErr (l : Lab) : Int :=
  if dErr l.y l.m l.d ≠ 0 then dErr l.y l.m l.d else if fErr l ≠ 0 then 1 else if ¬ there (labN l) then 13 else if l.s = 60 ∧ labM l % 1440 ≠ 1439 then 12 else 0
theorem label_in (x b : Int) : g_label_in ((), ((x, ()), ((b, ()), ()))) = some ((), ((decide (0 ≤ x ∧ x < b), ()), ())) := by
  simp only [g_label_in, f_label_in_m, fitsS_dec, Option.bind_some, Option.isNone_none, Option.isNone_some, Option.isSome_none, Option.isSome_some, Bool.not_true, Bool.not_false, cond_true, cond_false, cond_dec, beq_int, bne_int, not_dec, ge_iff_le]
  by_cases h : 0 ≤ x <;> simp [h]
theorem label_shifts (x : Int) : g_label_shifts ((), ((x, ()), ())) = some ((), ((decide (-1439 ≤ x ∧ x ≤ 1439), ()), ())) := by
  simp only [g_label_shifts, f_label_shifts_m, fitsS_dec, Option.bind_some, Option.isNone_none, Option.isNone_some, Option.isSome_none, Option.isSome_some, Bool.not_true, Bool.not_false, cond_true, cond_false, cond_dec, beq_int, bne_int, not_dec, gt_iff_lt]
  by_cases h : -1440 < x
  · rw [if_pos h]; congr 4; simp only [decide_eq_decide]; omega
  · rw [if_neg h, decide_eq_false (by omega)]
theorem label_there (n : Int) : g_label_there ((), ((n, ()), ())) = some ((), ((decide (there n), ()), ())) := by
  simp only [g_label_there, f_label_there_m, day_first, day_last, fitsS_dec, Option.bind_some, Option.isNone_none, Option.isNone_some, Option.isSome_none, Option.isSome_some, Bool.not_true, Bool.not_false, cond_true, cond_false, cond_dec, beq_int, bne_int, not_dec, ge_iff_le, there]
  by_cases h : -4371587 ≤ n <;> simp [h]
theorem num_div (a b : Int) (hb : 0 < b) (ha : -9223372036854775807 ≤ a ∧ a ≤ 9223372036854775807) : g_num_Div ((), ((a, ()), ((b, ()), ()))) = some ((), ((a / b, ()), ((none, ()), ()))) := by
  simp only [g_num_Div, f_num_Div_m, fitsS_dec, Option.bind_some, Option.isNone_none, Option.isNone_some, Option.isSome_none, Option.isSome_some, Bool.not_true, Bool.not_false, cond_true, cond_false, cond_dec, beq_int, bne_int, not_dec]
  rw [if_neg (by omega), if_neg (by omega), if_neg (by omega), if_neg (by omega), iquo_pos hb (by omega), tmod_pos b hb]
  have hm : 0 ≤ a % b := Int.emod_nonneg _ (by omega)
  have hn : 0 ≤ (-a) % b := Int.emod_nonneg _ (by omega)
  by_cases h0 : 0 ≤ a
  · rw [if_pos h0, if_pos h0]
    rw [decide_eq_false (show ¬ a < 0 by omega), decide_eq_false (show ¬ b < 0 by omega)]
    simp
  · rw [if_neg h0, if_neg h0]
    rw [decide_eq_true (show a < 0 by omega), decide_eq_false (show ¬ b < 0 by omega)]
    have e1 := Int.mul_ediv_add_emod a b
    have e2 := Int.mul_ediv_add_emod (-a) b
    have l1 := Int.emod_lt_of_pos a hb
    have l2 := Int.emod_lt_of_pos (-a) hb
    have q0 : 0 ≤ (-a) / b := Int.ediv_nonneg (by omega) (by omega)
    have q1 : (-a) / b ≤ -a := Int.ediv_le_self _ (by omega)
    simp only [show (true == false) = false from rfl, Bool.not_false, cond_true]
    by_cases h1 : -(-a % b) ≠ 0
    · rw [if_pos h1, isub_i64 (by omega)]
      have : a / b = -(-a / b) - 1 := ((Int.ediv_emod_unique (r := b - -a % b) hb).2 ⟨by rw [Int.mul_sub, Int.mul_neg]; omega, by omega, by omega⟩).1
      rw [this]
    · rw [if_neg h1]
      have : a / b = -(-a / b) := ((Int.ediv_emod_unique (r := 0) hb).2 ⟨by rw [Int.mul_neg]; omega, by omega, by omega⟩).1
      rw [this]
theorem num_mod (a b : Int) (hb : 0 < b) (hb2 : b ≤ 9223372036854775807) (ha : -9223372036854775807 ≤ a ∧ a ≤ 9223372036854775807) : g_num_Mod ((), ((a, ()), ((b, ()), ()))) = some ((), ((a % b, ()), ((none, ()), ()))) := by
  simp only [g_num_Mod, f_num_Mod_m, fitsS_dec, Option.bind_some, Option.isNone_none, Option.isNone_some, Option.isSome_none, Option.isSome_some, Bool.not_true, Bool.not_false, cond_true, cond_false, cond_dec, beq_int, bne_int, not_dec]
  rw [if_neg (by omega), if_neg (by omega), if_neg (by omega), tmod_pos b hb]
  have hm : 0 ≤ a % b := Int.emod_nonneg _ (by omega)
  have hn : 0 ≤ (-a) % b := Int.emod_nonneg _ (by omega)
  have l1 := Int.emod_lt_of_pos a hb
  have l2 := Int.emod_lt_of_pos (-a) hb
  by_cases h0 : 0 ≤ a
  · rw [if_pos h0, decide_eq_false (show ¬ a % b < 0 by omega), decide_eq_false (show ¬ b < 0 by omega)]
    simp
  · rw [if_neg h0, decide_eq_false (show ¬ b < 0 by omega)]
    have e2 := Int.mul_ediv_add_emod (-a) b
    by_cases h1 : -(-a % b) ≠ 0
    · rw [if_pos h1, decide_eq_true (show -(-a % b) < 0 by omega), iadd_i64 (by omega)]
      have : a % b = -(-a % b) + b := ((Int.ediv_emod_unique (q := -(-a / b) - 1) hb).2 ⟨by rw [Int.mul_sub, Int.mul_neg]; omega, by omega, by omega⟩).2
      rw [this]; rfl
    · rw [if_neg h1]
      have : a % b = -(-a % b) := ((Int.ediv_emod_unique (q := -(-a / b)) hb).2 ⟨by rw [Int.mul_neg]; omega, by omega, by omega⟩).2
      rw [this]
theorem num_split (a b : Int) (hb : 0 < b) (hb2 : b ≤ 9223372036854775807) (ha : -9223372036854775807 ≤ a ∧ a ≤ 9223372036854775807) : g_num_Split ((), ((a, ()), ((b, ()), ()))) = some ((), ((a / b, ()), ((a % b, ()), ((none, ()), ())))) := by
  simp only [g_num_Split, f_num_Split_m, num_div a b hb ha, num_mod a b hb hb2 ha, fitsS_dec, Option.bind_some, Option.isNone_none, Option.isNone_some, Option.isSome_none, Option.isSome_some, Bool.not_true, Bool.not_false, cond_true, cond_false, cond_dec, beq_int, bne_int, not_dec]
  rw [if_neg (by omega)]
theorem label_fields (l : Lab) : g_label_Label_fields ((), (l.t, ())) = some ((), ((errOf (if dErr l.y l.m l.d ≠ 0 then dErr l.y l.m l.d else fErr l), ()), ())) := by
  simp only [g_label_Label_fields, f_label_Label_fields_m, Lab.t, day_of, label_in, label_shifts, fitsS_dec, Option.bind_some, Option.isNone_none, Option.isNone_some, Option.isSome_none, Option.isSome_some, Bool.not_true, Bool.not_false, cond_true, cond_false, cond_dec, beq_int, bne_int, not_dec, errOf_none]
  by_cases h0 : dErr l.y l.m l.d = 0
  · rw [show (if dErr l.y l.m l.d ≠ 0 then dErr l.y l.m l.d else fErr l) = fErr l from if_neg (by simp [h0]), if_neg (by simp [h0])]
    unfold fErr
    by_cases h1 : 0 ≤ l.h ∧ l.h ≤ 23
    · rw [if_neg (by omega)]
      by_cases h2 : 0 ≤ l.i ∧ l.i ≤ 59
      · rw [if_neg (by omega)]
        by_cases h3 : 0 ≤ l.s ∧ l.s ≤ 60
        · rw [if_neg (by omega)]
          by_cases h4 : 0 ≤ l.n ∧ l.n ≤ 999999999
          · rw [if_neg (by omega)]
            by_cases h5 : -1439 ≤ l.o ∧ l.o ≤ 1439
            · rw [if_neg (by simp [h5]), if_pos ⟨h1, h2, h3, h4, h5⟩]; rfl
            · rw [if_pos h5, if_neg (fun h => h5 h.2.2.2.2)]; rfl
          · rw [if_pos (by omega), if_neg (fun h => h4 h.2.2.2.1)]; rfl
        · rw [if_pos (by omega), if_neg (fun h => h3 h.2.2.1)]; rfl
      · rw [if_pos (by omega), if_neg (fun h => h2 h.2.1)]; rfl
    · rw [if_pos (by omega), if_neg (fun h => h1 h.1)]; rfl
  · rw [if_pos h0, if_pos h0]
theorem fErr_zero {l : Lab} : fErr l = 0 ↔ (0 ≤ l.h ∧ l.h ≤ 23) ∧ (0 ≤ l.i ∧ l.i ≤ 59) ∧ (0 ≤ l.s ∧ l.s ≤ 60) ∧ (0 ≤ l.n ∧ l.n ≤ 999999999) ∧ (-1439 ≤ l.o ∧ l.o ≤ 1439) := by
  unfold fErr; split <;> simp_all
theorem fErr_one {l : Lab} (h : fErr l ≠ 0) : fErr l = 1 := by
  unfold fErr at *; split <;> simp_all
theorem label_place (l : Lab) (h0 : dErr l.y l.m l.d = 0) (h1 : fErr l = 0) : g_label_Label_place ((), (l.t, ())) = some ((), ((labN l, ()), ((labM l % 1440, ()), ((none, ()), ())))) := by
  obtain ⟨a, b, c, d, e⟩ := fErr_zero.1 h1
  have hd := dErr_zero.1 h0
  have hl := mlen_range l.y l.m
  have hr := dnum_range l.y l.m l.d (by omega) (by omega) (by omega)
  simp only [g_label_Label_place, f_label_Label_place_m, Lab.t, day_of, fitsS_dec, Option.bind_some, Option.isNone_none, Option.isNone_some, Option.isSome_none, Option.isSome_some, Bool.not_true, Bool.not_false, cond_true, cond_false, cond_dec, beq_int, bne_int, not_dec, errOf_none, h0]
  rw [if_neg (by simp)]
  have e1 : isub .i64 (iadd .i64 (imul .i64 l.h 60) l.i) l.o = labM l := by
    unfold labM; rw [imul_i64 (by omega), iadd_i64 (by omega), isub_i64 (by omega)]
  rw [e1, num_split _ _ (by decide) (by decide) (by unfold labM; omega)]
  simp only [fitsS_dec, Option.bind_some, Option.isNone_none, Option.isNone_some, Option.isSome_none, Option.isSome_some, Bool.not_true, Bool.not_false, cond_true, cond_false, cond_dec, beq_int, bne_int, not_dec, if_true]
  rw [iadd_i64 (by unfold labM; omega)]; rfl
theorem label_check (l : Lab) : g_label_Check ((), (l.t, ())) = some ((), ((errOf (labErr l), ()), ())) := by
  have hf := label_fields l
  simp only [Lab.t] at hf
  simp only [g_label_Check, f_label_Check_m, Lab.t, hf, fitsS_dec, Option.bind_some, Option.isNone_none, Option.isNone_some, Option.isSome_none, Option.isSome_some, Bool.not_true, Bool.not_false, cond_true, cond_false, cond_dec, beq_int, bne_int, not_dec, errOf_none]
  unfold labErr
  by_cases h0 : dErr l.y l.m l.d = 0
  · rw [if_neg (show ¬ (dErr l.y l.m l.d ≠ 0) by simp [h0])]
    by_cases h1 : fErr l = 0
    · rw [if_neg (by simp [h1])]
      have hp := label_place l h0 h1
      simp only [Lab.t] at hp
      simp only [hp, label_there, fitsS_dec, Option.bind_some, Option.isNone_none, Option.isNone_some, Option.isSome_none, Option.isSome_some, Bool.not_true, Bool.not_false, cond_true, cond_false, cond_dec, beq_int, bne_int, not_dec]
      rw [if_neg (show ¬ (dErr l.y l.m l.d ≠ 0) by simp [h0]), if_neg (show ¬ (fErr l ≠ 0) by simp [h1])]
      by_cases h2 : there (labN l)
      · rw [if_neg (show ¬¬ there (labN l) by simp [h2]), if_neg (show ¬¬ there (labN l) by simp [h2])]
        by_cases h3 : l.s = 60
        · rw [if_pos h3]
          by_cases h4 : labM l % 1440 ≠ 1439
          · rw [if_pos h4, if_pos ⟨h3, h4⟩]; rfl
          · rw [if_neg h4, if_neg (fun h => h4 h.2)]; rfl
        · rw [if_neg h3, if_neg (fun h => h3 h.1)]; rfl
      · rw [if_pos h2, if_pos h2]; rfl
    · rw [if_pos (by simpa using h1), if_neg (show ¬ (dErr l.y l.m l.d ≠ 0) by simp [h0]), if_pos h1, fErr_one h1]
  · rw [if_pos (show dErr l.y l.m l.d ≠ 0 from h0), if_pos h0, if_pos h0]
theorem labErr_zero {l : Lab} (h : labErr l = 0) : dErr l.y l.m l.d = 0 ∧ fErr l = 0 ∧ there (labN l) ∧ (l.s = 60 → labM l % 1440 = 1439) := by
  unfold labErr at h
  split at h
  · rename_i c; exact absurd h c
  · rename_i c
    split at h
    · cases h
    · rename_i c1
      split at h
      · cases h
      · rename_i c2
        split at h
        · cases h
        · rename_i c3
          refine ⟨by simpa using c, by simpa using c1, by simpa using c2, fun e => ?_⟩
          by_cases h' : labM l % 1440 = 1439
          · exact h'
          · exact absurd ⟨e, h'⟩ c3
theorem label_split (l : Lab) : g_label_Split ((), (l.t, ())) = some ((), ((if labErr l = 0 then labN l else 0, ()), ((if labErr l = 0 then labS l else 0, ()), ((errOf (labErr l), ()), ())))) := by
  have hc := label_check l
  simp only [Lab.t] at hc
  simp only [g_label_Split, f_label_Split_m, Lab.t, hc, fitsS_dec, Option.bind_some, Option.isNone_none, Option.isNone_some, Option.isSome_none, Option.isSome_some, Bool.not_true, Bool.not_false, cond_true, cond_false, cond_dec, beq_int, bne_int, not_dec, errOf_none]
  by_cases h : labErr l = 0
  · obtain ⟨h0, h1, h2, h3⟩ := labErr_zero h
    have hs := fErr_zero.1 h1
    have hp := label_place l h0 h1
    simp only [Lab.t] at hp
    rw [if_neg (by simp [h]), hp]
    simp only [fitsS_dec, Option.bind_some, Option.isNone_none, Option.isNone_some, Option.isSome_none, Option.isSome_some, Bool.not_true, Bool.not_false, cond_true, cond_false, cond_dec, beq_int, bne_int, not_dec, h, if_true, errOf_zero]
    rw [imul_i64 (by omega), iadd_i64 (by omega)]; rfl
  · rw [if_pos h, if_neg h, if_neg h]
end Go.Proofs.YtddnfappkfiidaaGreat.Ev
