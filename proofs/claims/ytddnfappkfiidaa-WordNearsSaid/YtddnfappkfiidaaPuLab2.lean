/- Labels: comparing, making and shifting. -/
import Derived.Test.YtddnfappkfiidaaPuLab
namespace Go.Proofs.Ytddnfappkfiidaa.Ev
open Go
set_option linter.unusedVariables false
set_option linter.unusedSimpArgs false
def cmpI (a b : Int) : Int := if a < b then -1 else if b < a then 1 else 0
def firstOf : List Int → Int
  | [] => 0
  | x :: l => if x ≠ 0 then x else firstOf l
def cErr (a b : Lab) : Int := if labErr a ≠ 0 then labErr a else labErr b
def cVal (a b : Lab) : Int := if cErr a b ≠ 0 then 0 else firstOf [cmpI (labN a) (labN b), cmpI (labS a) (labS b), cmpI a.n b.n]
theorem firstOf3 (x y z : Int) : firstOf [x, y, z] = if x ≠ 0 then x else if y ≠ 0 then y else z := by
  simp only [firstOf]; split
  · rfl
  · split
    · rfl
    · by_cases h : z = 0 <;> simp [h]
theorem lex_spec (n n' s s' x x' : Int) :
    (firstOf [cmpI n n', cmpI s s', cmpI x x'] = -1 ∧ (n < n' ∨ n = n' ∧ (s < s' ∨ s = s' ∧ x < x'))) ∨ (firstOf [cmpI n n', cmpI s s', cmpI x x'] = 0 ∧ n = n' ∧ s = s' ∧ x = x') ∨
      (firstOf [cmpI n n', cmpI s s', cmpI x x'] = 1 ∧ (n' < n ∨ n = n' ∧ (s' < s ∨ s = s' ∧ x' < x))) := by
  have key : ∀ u v : Int, cmpI u v = -1 ∧ u < v ∨ cmpI u v = 0 ∧ u = v ∨ cmpI u v = 1 ∧ v < u := by
    intro u v; unfold cmpI
    rcases Int.lt_trichotomy u v with c | c | c
    · rw [if_pos c]; exact .inl ⟨rfl, c⟩
    · subst c; simp
    · rw [if_neg (by omega), if_pos c]; exact .inr (.inr ⟨rfl, c⟩)
  rw [firstOf3]
  rcases key n n' with ⟨e1, c1⟩ | ⟨e1, c1⟩ | ⟨e1, c1⟩ <;> rw [e1]
  · exact .inl ⟨rfl, .inl c1⟩
  · rcases key s s' with ⟨e2, c2⟩ | ⟨e2, c2⟩ | ⟨e2, c2⟩ <;> rw [e2]
    · exact .inl ⟨rfl, .inr ⟨c1, .inl c2⟩⟩
    · rcases key x x' with ⟨e3, c3⟩ | ⟨e3, c3⟩ | ⟨e3, c3⟩ <;> rw [e3]
      · exact .inl ⟨rfl, .inr ⟨c1, .inr ⟨c2, c3⟩⟩⟩
      · exact .inr (.inl ⟨rfl, c1, c2, c3⟩)
      · exact .inr (.inr ⟨rfl, .inr ⟨c1, .inr ⟨c2, c3⟩⟩⟩)
    · exact .inr (.inr ⟨rfl, .inr ⟨c1, .inl c2⟩⟩)
  · exact .inr (.inr ⟨rfl, .inl c1⟩)
def zl : Lab := ⟨0, 0, 0, 0, 0, 0, 0, 0⟩
def clkM (s : Int) : Int := if s = 86400 then 1439 else s / 60
def clkS (s : Int) : Int := if s = 86400 then 60 else s % 60
def ofErr (n s x o : Int) : Int :=
  if ¬ there n then 13 else if ¬((0 ≤ s ∧ s ≤ 86400) ∧ (0 ≤ x ∧ x ≤ 999999999) ∧ (-1439 ≤ o ∧ o ≤ 1439)) then 1 else if ¬ there (n + (clkM s + o) / 1440) then 13 else 0
theorem label_clk (s : Int) (h : 0 ≤ s ∧ s ≤ 86400) : g_label_clock ((), ((s, ()), ())) = some ((), ((clkM s, ()), ((clkS s, ()), ()))) := by
  simp only [g_label_clock, f_label_clock_m, fitsS_dec, Option.bind_some, Option.isNone_none, Option.isNone_some, Option.isSome_none, Option.isSome_some, Bool.not_true, Bool.not_false, cond_true, cond_false, cond_dec, beq_int, bne_int, not_dec, clkM, clkS]
  by_cases c : s = 86400
  · simp only [c, if_true]
  · simp only [c, if_false]
    rw [iquo_nn (by decide) (by omega), tmod_nn (by omega)]
theorem clk_range {s : Int} (h : 0 ≤ s ∧ s ≤ 86400) : (0 ≤ clkM s ∧ clkM s ≤ 1439) ∧ 0 ≤ clkS s ∧ clkS s ≤ 60 := by
  unfold clkM clkS; split <;> omega
theorem ofErr_zero {n s x o : Int} : ofErr n s x o = 0 ↔ there n ∧ (0 ≤ s ∧ s ≤ 86400) ∧ (0 ≤ x ∧ x ≤ 999999999) ∧ (-1439 ≤ o ∧ o ≤ 1439) ∧ there (n + (clkM s + o) / 1440) := by
  unfold ofErr; constructor
  · intro h
    split at h
    · cases h
    · rename_i c1
      split at h
      · cases h
      · rename_i c2
        split at h
        · cases h
        · rename_i c3
          exact ⟨by simpa using c1, by omega, by omega, by omega, by simpa using c3⟩
  · rintro ⟨a, b, c, d, e⟩
    rw [if_neg (by simp [a]), if_neg (by simp [b, c, d]), if_neg (by simp [e])]
theorem label_of_bad {n s x o : Int} (h : ofErr n s x o ≠ 0) : g_label_Of ((), ((n, ()), ((s, ()), ((x, ()), ((o, ()), ()))))) = some ((), (zl.t, ((errOf (ofErr n s x o), ()), ()))) := by
  simp only [g_label_Of, f_label_Of_m, label_there, label_in, label_shifts, fitsS_dec, Option.bind_some, Option.isNone_none, Option.isNone_some, Option.isSome_none, Option.isSome_some, Bool.not_true, Bool.not_false, cond_true, cond_false, cond_dec, beq_int, bne_int, not_dec]
  unfold ofErr at *
  by_cases c1 : there n
  · rw [if_neg (show ¬¬ there n by simp [c1]), if_neg (show ¬¬ there n by simp [c1])]
    rw [if_neg (show ¬¬ there n by simp [c1])] at h
    by_cases c2 : 0 ≤ s ∧ s ≤ 86400
    · rw [if_neg (show ¬¬(0 ≤ s ∧ s < 86401) by omega)]
      by_cases c3 : 0 ≤ x ∧ x ≤ 999999999
      · rw [if_neg (show ¬¬(0 ≤ x ∧ x < 1000000000) by omega)]
        by_cases c4 : -1439 ≤ o ∧ o ≤ 1439
        · rw [if_neg (show ¬¬(-1439 ≤ o ∧ o ≤ 1439) by omega), if_neg (show ¬¬((0 ≤ s ∧ s ≤ 86400) ∧ (0 ≤ x ∧ x ≤ 999999999) ∧ (-1439 ≤ o ∧ o ≤ 1439)) by omega)]
          rw [if_neg (show ¬¬((0 ≤ s ∧ s ≤ 86400) ∧ (0 ≤ x ∧ x ≤ 999999999) ∧ (-1439 ≤ o ∧ o ≤ 1439)) by omega)] at h
          have hc : ¬ there (n + (clkM s + o) / 1440) := by intro hh; simp [hh] at h
          have hk := clk_range c2
          have hc' := hc
          unfold there at c1 hc
          simp only [label_clk s c2, Option.bind_some]
          rw [iadd_i64 (by omega), num_split _ _ (by decide) (by decide) (by omega)]
          simp only [fitsS_dec, Option.bind_some, Option.isNone_none, Option.isNone_some, Option.isSome_none, Option.isSome_some, Bool.not_true, Bool.not_false, cond_true, cond_false, cond_dec, beq_int, bne_int, not_dec]
          rw [iadd_i64 (by omega), day_date_bad hc]
          simp only [fitsS_dec, Option.bind_some, Option.isNone_none, Option.isNone_some, Option.isSome_none, Option.isSome_some, Bool.not_true, Bool.not_false, cond_true, cond_false, cond_dec, beq_int, bne_int, not_dec]
          rw [if_pos hc']; rfl
        · rw [if_pos c4, if_pos (by omega)]; rfl
      · rw [if_pos (by omega), if_pos (by omega)]; rfl
    · rw [if_pos (by omega), if_pos (by omega)]; rfl
  · rw [if_pos c1, if_pos c1]; rfl
def ofLab (y m d s x o : Int) : Lab := ⟨y, m, d, (clkM s + o) % 1440 / 60, (clkM s + o) % 1440 % 60, clkS s, x, o⟩
theorem label_of_ok {n s x o y m d : Int} (h : ofErr n s x o = 0) (hd : IsDate (n + (clkM s + o) / 1440) y m d) : g_label_Of ((), ((n, ()), ((s, ()), ((x, ()), ((o, ()), ()))))) = some ((), ((ofLab y m d s x o).t, ((none, ()), ()))) := by
  obtain ⟨c1, c2, c3, c4, c5⟩ := ofErr_zero.1 h
  simp only [g_label_Of, f_label_Of_m, label_there, label_in, label_shifts, fitsS_dec, Option.bind_some, Option.isNone_none, Option.isNone_some, Option.isSome_none, Option.isSome_some, Bool.not_true, Bool.not_false, cond_true, cond_false, cond_dec, beq_int, bne_int, not_dec]
  rw [if_neg (show ¬¬ there n by simp [c1]), if_neg (show ¬¬(0 ≤ s ∧ s < 86401) by omega), if_neg (show ¬¬(0 ≤ x ∧ x < 1000000000) by omega), if_neg (show ¬¬(-1439 ≤ o ∧ o ≤ 1439) by omega)]
  have hk := clk_range c2
  unfold there at c1 c5
  simp only [label_clk s c2, Option.bind_some]
  rw [iadd_i64 (by omega), num_split _ _ (by decide) (by decide) (by omega)]
  simp only [fitsS_dec, Option.bind_some, Option.isNone_none, Option.isNone_some, Option.isSome_none, Option.isSome_some, Bool.not_true, Bool.not_false, cond_true, cond_false, cond_dec, beq_int, bne_int, not_dec]
  rw [iadd_i64 (by omega), day_date c5 hd]
  simp only [fitsS_dec, Option.bind_some, Option.isNone_none, Option.isNone_some, Option.isSome_none, Option.isSome_some, Bool.not_true, Bool.not_false, cond_true, cond_false, cond_dec, beq_int, bne_int, not_dec]
  rw [iquo_nn (by decide) (by omega), tmod_nn (by omega)]; rfl
theorem ref08_of_bad {n s x o : Int} (h : ofErr n s x o ≠ 0) : g_ref08_Of ((), ((n, ()), ((s, ()), ((x, ()), ((o, ()), ()))))) = some ((), (zl.t, ((ofErr n s x o, ()), ()))) := by
  refine (Evn.some 1 fun k => ?_).lim
  simp only [f_ref08_Of_m, t_ref08_Of, f_ref08_Of_p16, ref08_there, fitsS_dec, Option.bind_some, Option.isNone_none, Option.isNone_some, Option.isSome_none, Option.isSome_some, Bool.not_true, Bool.not_false, cond_true, cond_false, cond_dec, beq_int, bne_int, not_dec, gt_iff_lt, ge_iff_le]
  unfold ofErr at *
  by_cases c1 : there n
  · simp only [c1, not_true_eq_false, if_false] at h ⊢
    by_cases c2 : 0 ≤ s ∧ s ≤ 86400
    · rw [if_neg (show ¬(s < 0) by omega), if_neg (show ¬(86400 < s) by omega)]
      by_cases c3 : 0 ≤ x ∧ x ≤ 999999999
      · rw [if_neg (show ¬(x < 0) by omega), if_neg (show ¬(999999999 < x) by omega)]
        by_cases c4 : -1439 ≤ o ∧ o ≤ 1439
        · rw [if_neg (show ¬(o < -1439) by omega), if_neg (show ¬(1439 < o) by omega), if_neg (show ¬¬((0 ≤ s ∧ s ≤ 86400) ∧ (0 ≤ x ∧ x ≤ 999999999) ∧ (-1439 ≤ o ∧ o ≤ 1439)) by omega)]
          rw [if_neg (show ¬¬((0 ≤ s ∧ s ≤ 86400) ∧ (0 ≤ x ∧ x ≤ 999999999) ∧ (-1439 ≤ o ∧ o ≤ 1439)) by omega)] at h
          have hc : ¬ there (n + (clkM s + o) / 1440) := by intro hh; simp [hh] at h
          rw [if_pos hc]
          have hk := clk_range c2
          have e : ∀ q, q = clkM s → iadd .i64 q o = q + o := fun q hq => by subst hq; exact iadd_i64 (by omega)
          have c1' := c1
          unfold there at c1'
          by_cases c5 : s = 86400
          · have ek : clkM s = 1439 := if_pos c5
            rw [if_pos c5, e 1439 ek.symm]
            rw [ek] at hc hk
            by_cases c6 : 1439 + o < 0
            · omega
            · rw [if_neg c6]
              by_cases c7 : 1440 ≤ 1439 + o
              · rw [if_pos c7, iadd_i64 (by omega), if_pos (show ¬ there (n + 1) by rw [show n + 1 = n + (1439 + o) / 1440 by omega]; exact hc)]; rfl
              · exact absurd c1 (by rw [show n = n + (1439 + o) / 1440 by omega]; exact hc)
          · have ek : clkM s = s / 60 := if_neg c5
            rw [if_neg c5, iquo_nn (by decide) (by omega), e (s / 60) ek.symm]
            rw [ek] at hc hk
            by_cases c6 : s / 60 + o < 0
            · rw [if_pos c6, iadd_i64 (a := s / 60 + o) (by omega), isub_i64 (a := n) (by omega), if_neg (by omega), if_pos (show ¬ there (n - 1) by rw [show n - 1 = n + (s / 60 + o) / 1440 by omega]; exact hc)]; rfl
            · rw [if_neg c6]
              by_cases c7 : 1440 ≤ s / 60 + o
              · rw [if_pos c7, iadd_i64 (by omega), if_pos (show ¬ there (n + 1) by rw [show n + 1 = n + (s / 60 + o) / 1440 by omega]; exact hc)]; rfl
              · exact absurd c1 (by rw [show n = n + (s / 60 + o) / 1440 by omega]; exact hc)
        · rw [if_pos (show ¬((0 ≤ s ∧ s ≤ 86400) ∧ (0 ≤ x ∧ x ≤ 999999999) ∧ (-1439 ≤ o ∧ o ≤ 1439)) by omega)]
          by_cases c5 : o < -1439
          · rw [if_pos c5]; rfl
          · rw [if_neg c5, if_pos (by omega)]; rfl
      · rw [if_pos (show ¬((0 ≤ s ∧ s ≤ 86400) ∧ (0 ≤ x ∧ x ≤ 999999999) ∧ (-1439 ≤ o ∧ o ≤ 1439)) by omega)]
        by_cases c5 : x < 0
        · rw [if_pos c5]; rfl
        · rw [if_neg c5, if_pos (by omega)]; rfl
    · rw [if_pos (show ¬((0 ≤ s ∧ s ≤ 86400) ∧ (0 ≤ x ∧ x ≤ 999999999) ∧ (-1439 ≤ o ∧ o ≤ 1439)) by omega)]
      by_cases c5 : s < 0
      · rw [if_pos c5]; rfl
      · rw [if_neg c5, if_pos (by omega)]; rfl
  · rw [if_pos c1, if_pos c1]; rfl
theorem ref08_of_ok {n s x o y m d : Int} (h : ofErr n s x o = 0) (hd : IsDate (n + (clkM s + o) / 1440) y m d) : g_ref08_Of ((), ((n, ()), ((s, ()), ((x, ()), ((o, ()), ()))))) = some ((), ((ofLab y m d s x o).t, ((0, ()), ()))) := by
  obtain ⟨c1, c2, c3, c4, c5⟩ := ofErr_zero.1 h
  refine (Evn.some 1 fun k => ?_).lim
  simp only [f_ref08_Of_m, t_ref08_Of, f_ref08_Of_p16, ref08_there, fitsS_dec, Option.bind_some, Option.isNone_none, Option.isNone_some, Option.isSome_none, Option.isSome_some, Bool.not_true, Bool.not_false, cond_true, cond_false, cond_dec, beq_int, bne_int, not_dec, gt_iff_lt, ge_iff_le]
  rw [if_neg (show ¬¬ there n by simp [c1]), if_neg (show ¬(s < 0) by omega), if_neg (show ¬(86400 < s) by omega), if_neg (show ¬(x < 0) by omega), if_neg (show ¬(999999999 < x) by omega),
    if_neg (show ¬(o < -1439) by omega), if_neg (show ¬(1439 < o) by omega)]
  have hk := clk_range c2
  have e : ∀ q, q = clkM s → iadd .i64 q o = q + o := fun q hq => by subst hq; exact iadd_i64 (by omega)
  have fin : ∀ a b, a = n + (clkM s + o) / 1440 → b = (clkM s + o) % 1440 → there a ∧ g_ref05_Date ((), ((a, ()), ())) = some ((), ((y, ()), ((m, ()), ((d, ()), ())))) ∧ iquo .i64 b 60 = (clkM s + o) % 1440 / 60 ∧ Int.tmod b 60 = (clkM s + o) % 1440 % 60 := by
    intro a b ha hb; subst ha; subst hb
    exact ⟨c5, ref05_date (by unfold there at c5; exact c5) hd, iquo_nn (by decide) (by omega), tmod_nn (by omega)⟩
  unfold there at c1
  by_cases c6 : s = 86400
  · have ek : clkM s = 1439 := if_pos c6
    have es : clkS s = 60 := if_pos c6
    rw [if_pos c6, e 1439 ek.symm]
    rw [ek] at fin
    by_cases c7 : 1439 + o < 0
    · omega
    · rw [if_neg c7]
      by_cases c8 : 1440 ≤ 1439 + o
      · rw [if_pos c8, iadd_i64 (by omega), isub_i64 (by omega)]
        obtain ⟨f1, f2, f3, f4⟩ := fin (n + 1) (1439 + o - 1440) (by omega) (by omega)
        rw [if_neg (by simp [f1]), f2]
        simp only [Option.bind_some, f3, f4, ofLab, Lab.t, ek, es]
      · rw [if_neg c8]
        obtain ⟨f1, f2, f3, f4⟩ := fin n (1439 + o) (by omega) (by omega)
        rw [if_neg (by simp [f1]), f2]
        simp only [Option.bind_some, f3, f4, ofLab, Lab.t, ek, es]
  · have ek : clkM s = s / 60 := if_neg c6
    have es : clkS s = s % 60 := if_neg c6
    rw [if_neg c6, iquo_nn (a := s) (by decide) (by omega), e (s / 60) ek.symm, tmod_nn (a := s) (by omega)]
    rw [ek] at fin hk
    by_cases c7 : s / 60 + o < 0
    · rw [if_pos c7, iadd_i64 (a := s / 60 + o) (by omega), isub_i64 (a := n) (by omega), if_neg (by omega)]
      obtain ⟨f1, f2, f3, f4⟩ := fin (n - 1) (s / 60 + o + 1440) (by omega) (by omega)
      rw [if_neg (by simp [f1]), f2]
      simp only [Option.bind_some, f3, f4, ofLab, Lab.t, ek, es]
    · rw [if_neg c7]
      by_cases c8 : 1440 ≤ s / 60 + o
      · rw [if_pos c8, iadd_i64 (by omega), isub_i64 (by omega)]
        obtain ⟨f1, f2, f3, f4⟩ := fin (n + 1) (s / 60 + o - 1440) (by omega) (by omega)
        rw [if_neg (by simp [f1]), f2]
        simp only [Option.bind_some, f3, f4, ofLab, Lab.t, ek, es]
      · rw [if_neg c8]
        obtain ⟨f1, f2, f3, f4⟩ := fin n (s / 60 + o) (by omega) (by omega)
        rw [if_neg (by simp [f1]), f2]
        simp only [Option.bind_some, f3, f4, ofLab, Lab.t, ek, es]
/-- What Of tells, by the program and by the reference. -/
theorem of_both (n s x o : Int) : ∃ l : Lab, g_label_Of ((), ((n, ()), ((s, ()), ((x, ()), ((o, ()), ()))))) = some ((), (l.t, ((errOf (ofErr n s x o), ()), ()))) ∧
    g_ref08_Of ((), ((n, ()), ((s, ()), ((x, ()), ((o, ()), ()))))) = some ((), (l.t, ((ofErr n s x o, ()), ()))) ∧ (ofErr n s x o ≠ 0 → l = zl) ∧
    (ofErr n s x o = 0 → ∃ y m d, l = ofLab y m d s x o ∧ IsDate (n + (clkM s + o) / 1440) y m d) := by
  by_cases h : ofErr n s x o = 0
  · obtain ⟨c1, c2, c3, c4, c5⟩ := ofErr_zero.1 h
    obtain ⟨y, m, d, hd⟩ := date_ex _ (show -4371587 ≤ n + (clkM s + o) / 1440 ∧ n + (clkM s + o) / 1440 ≤ 2932896 from c5)
    refine ⟨ofLab y m d s x o, ?_, ?_, fun h' => absurd h h', fun _ => ⟨y, m, d, rfl, hd⟩⟩
    · rw [label_of_ok h hd, h]; rfl
    · rw [ref08_of_ok h hd, h]
  · exact ⟨zl, label_of_bad h, ref08_of_bad h, fun _ => rfl, fun h' => absurd h' h⟩
end Go.Proofs.Ytddnfappkfiidaa.Ev
