/- Labels: comparing, making and shifting. -/
import Derived.Test.YtddnfappkfiidaaGreatPuLab
namespace Go.Proofs.YtddnfappkfiidaaGreat.Ev
open Go
set_option linter.unusedVariables false
set_option linter.unusedSimpArgs false
def cmpI (a b : Int) : Int := if a < b then -1 else if b < a then 1 else 0
def firstOf : List Int → Int
  | [] => 0
  | x :: l => if x ≠ 0 then x else firstOf l
def cErr (a b : Lab) : Int := if labErr a ≠ 0 then labErr a else labErr b
def cVal (a b : Lab) : Int := if cErr a b ≠ 0 then 0 else firstOf [cmpI (labN a) (labN b), cmpI (labS a) (labS b), cmpI a.n b.n]
theorem firstOf3 (x y z : Int) : firstOf [x, y, z] = if x ≠ 0 then x else if y ≠ 0 then y else z := by
  simp only [firstOf]; split
  · rfl
  · split
    · rfl
    · by_cases h : z = 0 <;> simp [h]
theorem lex_spec (n n' s s' x x' : Int) :
    (firstOf [cmpI n n', cmpI s s', cmpI x x'] = -1 ∧ (n < n' ∨ n = n' ∧ (s < s' ∨ s = s' ∧ x < x'))) ∨ (firstOf [cmpI n n', cmpI s s', cmpI x x'] = 0 ∧ n = n' ∧ s = s' ∧ x = x') ∨
      (firstOf [cmpI n n', cmpI s s', cmpI x x'] = 1 ∧ (n' < n ∨ n = n' ∧ (s' < s ∨ s = s' ∧ x' < x))) := by
  have key : ∀ u v : Int, cmpI u v = -1 ∧ u < v ∨ cmpI u v = 0 ∧ u = v ∨ cmpI u v = 1 ∧ v < u := by
    intro u v; unfold cmpI
    rcases Int.lt_trichotomy u v with c | c | c
    · rw [if_pos c]; exact .inl ⟨rfl, c⟩
    · subst c; simp
    · rw [if_neg (by omega), if_pos c]; exact .inr (.inr ⟨rfl, c⟩)
  rw [firstOf3]
  rcases key n n' with ⟨e1, c1⟩ | ⟨e1, c1⟩ | ⟨e1, c1⟩ <;> rw [e1]
  · exact .inl ⟨rfl, .inl c1⟩
  · rcases key s s' with ⟨e2, c2⟩ | ⟨e2, c2⟩ | ⟨e2, c2⟩ <;> rw [e2]
    · exact .inl ⟨rfl, .inr ⟨c1, .inl c2⟩⟩
    · rcases key x x' with ⟨e3, c3⟩ | ⟨e3, c3⟩ | ⟨e3, c3⟩ <;> rw [e3]
      · exact .inl ⟨rfl, .inr ⟨c1, .inr ⟨c2, c3⟩⟩⟩
      · exact .inr (.inl ⟨rfl, c1, c2, c3⟩)
      · exact .inr (.inr ⟨rfl, .inr ⟨c1, .inr ⟨c2, c3⟩⟩⟩)
    · exact .inr (.inr ⟨rfl, .inr ⟨c1, .inl c2⟩⟩)
  · exact .inr (.inr ⟨rfl, .inl c1⟩)
def zl : Lab := ⟨0, 0, 0, 0, 0, 0, 0, 0⟩
def clkM (s : Int) : Int := if s = 86400 then 1439 else s / 60
def clkS (s : Int) : Int := if s = 86400 then 60 else s % 60
def ofErr (n s x o : Int) : Int :=
  if ¬ there n then 13 else if ¬((0 ≤ s ∧ s ≤ 86400) ∧ (0 ≤ x ∧ x ≤ 999999999) ∧ (-1439 ≤ o ∧ o ≤ 1439)) then 1 else if ¬ there (n + (clkM s + o) / 1440) then 13 else 0
theorem label_clk (s : Int) (h : 0 ≤ s ∧ s ≤ 86400) : g_label_clock ((), ((s, ()), ())) = some ((), ((clkM s, ()), ((clkS s, ()), ()))) := by
  simp only [g_label_clock, f_label_clock_m, fitsS_dec, Option.bind_some, Option.isNone_none, Option.isNone_some, Option.isSome_none, Option.isSome_some, Bool.not_true, Bool.not_false, cond_true, cond_false, cond_dec, beq_int, bne_int, not_dec, clkM, clkS]
  by_cases c : s = 86400
  · simp only [c, if_true]
  · simp only [c, if_false]
    rw [iquo_nn (by decide) (by omega), tmod_nn (by omega)]
theorem clk_range {s : Int} (h : 0 ≤ s ∧ s ≤ 86400) : (0 ≤ clkM s ∧ clkM s ≤ 1439) ∧ 0 ≤ clkS s ∧ clkS s ≤ 60 := by
  unfold clkM clkS; split <;> omega
theorem ofErr_zero {n s x o : Int} : ofErr n s x o = 0 ↔ there n ∧ (0 ≤ s ∧ s ≤ 86400) ∧ (0 ≤ x ∧ x ≤ 999999999) ∧ (-1439 ≤ o ∧ o ≤ 1439) ∧ there (n + (clkM s + o) / 1440) := by
  unfold ofErr; constructor
  · intro h
    split at h
    · cases h
    · rename_i c1
      split at h
      · cases h
      · rename_i c2
        split at h
        · cases h
        · rename_i c3
          exact ⟨by simpa using c1, by omega, by omega, by omega, by simpa using c3⟩
  · rintro ⟨a, b, c, d, e⟩
    rw [if_neg (by simp [a]), if_neg (by simp [b, c, d]), if_neg (by simp [e])]
theorem label_of_bad {n s x o : Int} (h : ofErr n s x o ≠ 0) : g_label_Of ((), ((n, ()), ((s, ()), ((x, ()), ((o, ()), ()))))) = some ((), (zl.t, ((errOf (ofErr n s x o), ()), ()))) := by
  simp only [g_label_Of, f_label_Of_m, label_there, label_in, label_shifts, fitsS_dec, Option.bind_some, Option.isNone_none, Option.isNone_some, Option.isSome_none, Option.isSome_some, Bool.not_true, Bool.not_false, cond_true, cond_false, cond_dec, beq_int, bne_int, not_dec]
  unfold ofErr at *
  by_cases c1 : there n
  · rw [if_neg (show ¬¬ there n by simp [c1]), if_neg (show ¬¬ there n by simp [c1])]
    rw [if_neg (show ¬¬ there n by simp [c1])] at h
    by_cases c2 : 0 ≤ s ∧ s ≤ 86400
    · rw [if_neg (show ¬¬(0 ≤ s ∧ s < 86401) by omega)]
      by_cases c3 : 0 ≤ x ∧ x ≤ 999999999
      · rw [if_neg (show ¬¬(0 ≤ x ∧ x < 1000000000) by omega)]
        by_cases c4 : -1439 ≤ o ∧ o ≤ 1439
        · rw [if_neg (show ¬¬(-1439 ≤ o ∧ o ≤ 1439) by omega), if_neg (show ¬¬((0 ≤ s ∧ s ≤ 86400) ∧ (0 ≤ x ∧ x ≤ 999999999) ∧ (-1439 ≤ o ∧ o ≤ 1439)) by omega)]
          rw [if_neg (show ¬¬((0 ≤ s ∧ s ≤ 86400) ∧ (0 ≤ x ∧ x ≤ 999999999) ∧ (-1439 ≤ o ∧ o ≤ 1439)) by omega)] at h
          have hc : ¬ there (n + (clkM s + o) / 1440) := by intro hh; simp [hh] at h
          have hk := clk_range c2
          have hc' := hc
          unfold there at c1 hc
          simp only [label_clk s c2, Option.bind_some]
          rw [iadd_i64 (by omega), num_split _ _ (by decide) (by decide) (by omega)]
          simp only [fitsS_dec, Option.bind_some, Option.isNone_none, Option.isNone_some, Option.isSome_none, Option.isSome_some, Bool.not_true, Bool.not_false, cond_true, cond_false, cond_dec, beq_int, bne_int, not_dec]
          rw [iadd_i64 (by omega), day_date_bad hc]
          simp only [fitsS_dec, Option.bind_some, Option.isNone_none, Option.isNone_some, Option.isSome_none, Option.isSome_some, Bool.not_true, Bool.not_false, cond_true, cond_false, cond_dec, beq_int, bne_int, not_dec]
          rw [if_pos hc']; rfl
        · rw [if_pos c4, if_pos (by omega)]; rfl
      · rw [if_pos (by omega), if_pos (by omega)]; rfl
    · rw [if_pos (by omega), if_pos (by omega)]; rfl
  · rw [if_pos c1, if_pos c1]; rfl
def ofLab (y m d s x o : Int) : Lab := ⟨y, m, d, (clkM s + o) % 1440 / 60, (clkM s + o) % 1440 % 60, clkS s, x, o⟩
theorem label_of_ok {n s x o y m d : Int} (h : ofErr n s x o = 0) (hd : IsDate (n + (clkM s + o) / 1440) y m d) : g_label_Of ((), ((n, ()), ((s, ()), ((x, ()), ((o, ()), ()))))) = some ((), ((ofLab y m d s x o).t, ((none, ()), ()))) := by
  obtain ⟨c1, c2, c3, c4, c5⟩ := ofErr_zero.1 h
  simp only [g_label_Of, f_label_Of_m, label_there, label_in, label_shifts, fitsS_dec, Option.bind_some, Option.isNone_none, Option.isNone_some, Option.isSome_none, Option.isSome_some, Bool.not_true, Bool.not_false, cond_true, cond_false, cond_dec, beq_int, bne_int, not_dec]
  rw [if_neg (show ¬¬ there n by simp [c1]), if_neg (show ¬¬(0 ≤ s ∧ s < 86401) by omega), if_neg (show ¬¬(0 ≤ x ∧ x < 1000000000) by omega), if_neg (show ¬¬(-1439 ≤ o ∧ o ≤ 1439) by omega)]
  have hk := clk_range c2
  unfold there at c1 c5
  simp only [label_clk s c2, Option.bind_some]
  rw [iadd_i64 (by omega), num_split _ _ (by decide) (by decide) (by omega)]
  simp only [fitsS_dec, Option.bind_some, Option.isNone_none, Option.isNone_some, Option.isSome_none, Option.isSome_some, Bool.not_true, Bool.not_false, cond_true, cond_false, cond_dec, beq_int, bne_int, not_dec]
  rw [iadd_i64 (by omega), day_date c5 hd]
  simp only [fitsS_dec, Option.bind_some, Option.isNone_none, Option.isNone_some, Option.isSome_none, Option.isSome_some, Bool.not_true, Bool.not_false, cond_true, cond_false, cond_dec, beq_int, bne_int, not_dec]
  rw [iquo_nn (by decide) (by omega), tmod_nn (by omega)]; rfl
end Go.Proofs.YtddnfappkfiidaaGreat.Ev
