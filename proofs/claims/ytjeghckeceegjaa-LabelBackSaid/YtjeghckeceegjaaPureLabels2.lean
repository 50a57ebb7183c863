/- The laws of labels, plain: labels made, shifted, and undone. -/
import Derived.Test.YtjeghckeceegjaaPureLabels
namespace Go.Proofs.Ytjeghckeceegjaa.Ev
open Go
set_option linter.unusedVariables false
set_option linter.unusedSimpArgs false
theorem label_Clk (s : Int) : g_label_Clock ((), ((s, ()), ())) = some ((), ((if 0 ≤ s ∧ s ≤ 86400 then clkM s / 60 else 0, ()), ((if 0 ≤ s ∧ s ≤ 86400 then clkM s % 60 else 0, ()), ((if 0 ≤ s ∧ s ≤ 86400 then clkS s else 0, ()), ((if 0 ≤ s ∧ s ≤ 86400 then none else some 1, ()), ()))))) := by
  simp only [g_label_Clock, f_label_Clock_m, label_in, Option.bind_some, Option.isNone_none, Option.isNone_some, Option.isSome_none, Option.isSome_some, Bool.not_true, Bool.not_false, cond_true, cond_false, cond_dec, beq_int, bne_int, not_dec]
  by_cases h : 0 ≤ s ∧ s ≤ 86400
  · have hk := clk_range h
    rw [if_neg (show ¬¬(0 ≤ s ∧ s < 86401) by omega), label_clk s h]
    simp only [h, and_self, if_true, Option.bind_some]
    rw [iquo_nn (by decide) (by omega), tmod_nn (by omega)]
  · rw [if_pos (show ¬(0 ≤ s ∧ s < 86401) by omega), if_neg h, if_neg h, if_neg h, if_neg h]
theorem num_is1 : g_hnum_Is ((), ((some 1, ()), ((1, ()), ()))) = some ((), ((true, ()), ())) := rfl
theorem label_makes (n s x o : Int) : g_law08_LabelMakes ((), ((n, ()), ((s, ()), ((x, (o, ())), ())))) = some ((), ((true, ()), ())) := by
  obtain ⟨l, h1, h2, _⟩ := of_both n s x o
  simp only [Lab.t] at h1 h2
  simp only [g_law08_LabelMakes, f_law08_LabelMakes_m, label_alive, document, h1, h2, label_Clk, num_num, Option.bind_some, Option.isNone_none, Option.isNone_some, Option.isSome_none, Option.isSome_some, Bool.not_true, Bool.not_false, cond_true, cond_false, cond_dec, beq_int, bne_int, not_dec, decide_true, Bool.and_self, ne_eq, not_true_eq_false, if_false, gt_iff_lt]
  by_cases c1 : s < 0
  · simp only [c1, if_true, show ¬(0 ≤ s ∧ s ≤ 86400) by omega, if_false, num_is1, Option.bind_some]
  · by_cases c2 : 86400 < s
    · simp only [c1, c2, if_true, show ¬(0 ≤ s ∧ s ≤ 86400) by omega, if_false, num_is1, Option.bind_some]
    · have c3 : 0 ≤ s ∧ s ≤ 86400 := by omega
      simp only [c1, c2, if_true, c3, and_self, if_false, Option.isNone_none, cond_true]
      by_cases c4 : s = 86400
      · subst c4; simp only [if_true]; rfl
      · have e1 : clkM s = s / 60 := if_neg c4
        have e2 : clkS s = s % 60 := if_neg c4
        simp only [c4, if_false, e1, e2]
        rw [iquo_nn (by decide) (by omega), iquo_nn (by decide) (by omega), tmod_nn (by omega), tmod_nn (by omega), if_pos (by omega)]
        simp
theorem at_both (l : Lab) (o : Int) : ∃ (r : Lab) (e : Int), g_label_At ((), (l.t, ((o, ()), ()))) = some ((), (r.t, ((errOf e, ()), ()))) ∧ g_ref08_At ((), (l.t, ((o, ()), ()))) = some ((), (r.t, ((e, ()), ()))) ∧ (e ≠ 0 → r = zl) ∧
    (e = 0 → labErr l = 0 ∧ ofErr (labN l) (labS l) l.n o = 0 ∧ ∃ y m d, r = ofLab y m d (labS l) l.n o ∧ IsDate (labN l + (clkM (labS l) + o) / 1440) y m d) := by
  have h1 := label_split l
  have h2 := ref08_split l
  simp only [Lab.t] at h1 h2
  by_cases h : labErr l = 0
  · obtain ⟨r, k1, k2, k3, k4⟩ := of_both (labN l) (labS l) l.n o
    simp only [Lab.t] at k1 k2
    refine ⟨r, ofErr (labN l) (labS l) l.n o, ?_, ?_, k3, fun he => ⟨h, he, k4 he⟩⟩
    · simp only [g_label_At, f_label_At_m, Lab.t, h1, h, if_true, errOf_zero, Option.bind_some, Option.isNone_none, Option.isNone_some, Option.isSome_none, Option.isSome_some, Bool.not_true, Bool.not_false, cond_true, cond_false, cond_dec, beq_int, bne_int, not_dec, k1]
    · simp only [g_ref08_At, f_ref08_At_m, Lab.t, h2, h, if_true, Option.bind_some, Option.isNone_none, Option.isNone_some, Option.isSome_none, Option.isSome_some, Bool.not_true, Bool.not_false, cond_true, cond_false, cond_dec, beq_int, bne_int, not_dec, k2, ne_eq, not_true_eq_false, if_false]
  · refine ⟨zl, labErr l, ?_, ?_, fun _ => rfl, fun he => absurd he h⟩
    · simp only [g_label_At, f_label_At_m, Lab.t, h1, h, if_false, errOf_none, Option.bind_some, Option.isNone_none, Option.isNone_some, Option.isSome_none, Option.isSome_some, Bool.not_true, Bool.not_false, cond_true, cond_false, cond_dec, beq_int, bne_int, not_dec, not_false_eq_true, if_true]; rfl
    · simp only [g_ref08_At, f_ref08_At_m, Lab.t, h2, h, if_false, Option.bind_some, Option.isNone_none, Option.isNone_some, Option.isSome_none, Option.isSome_some, Bool.not_true, Bool.not_false, cond_true, cond_false, cond_dec, beq_int, bne_int, not_dec, ne_eq, not_false_eq_true, if_true]; rfl
theorem label_shifted (l : Lab) (o : Int) : g_law08_LabelShifts ((), (l.t, ((o, ()), ()))) = some ((), ((true, ()), ())) := by
  obtain ⟨r, e, h1, h2, _⟩ := at_both l o
  obtain ⟨r', e', h3, h4, _⟩ := at_both l 0
  simp only [Lab.t] at h1 h2 h3 h4
  simp only [g_law08_LabelShifts, f_law08_LabelShifts_m, label_alive, document, g_label_UTC, f_label_UTC_m, Lab.t, h1, h2, h3, h4, num_num, Option.bind_some, Option.isNone_none, Option.isNone_some, Option.isSome_none, Option.isSome_some, Bool.not_true, Bool.not_false, cond_true, cond_false, cond_dec, beq_int, bne_int, not_dec, decide_true, Bool.and_self, if_true]
theorem there_date {n y m d : Int} (h : IsDate n y m d) (hy : -9999 ≤ y ∧ y ≤ 9999) : there n := by
  have a := isDate_year h
  have e1 : dnum (-9999) 1 1 = -4371587 := rfl
  have e2 : dnum 10000 1 1 = 2932897 := rfl
  unfold there
  constructor
  · by_cases c : -9999 < y
    · have := ystart_mono (y := -9999) c
      have := ylen_eq (-9999)
      have e3 : ylen (-9999) = 365 := by decide
      omega
    · obtain rfl : y = -9999 := by omega
      omega
  · by_cases c : y + 1 < 10000
    · have := ystart_mono (y := y + 1) (y' := 10000) c
      have := ylen_eq (y + 1)
      have e3 : 365 ≤ ylen (y + 1) := by unfold ylen; split <;> omega
      omega
    · obtain rfl : y = 9999 := by omega
      rw [show (9999 : Int) + 1 = 10000 from rfl] at a; omega
theorem clk_of_lab {l : Lab} (h : labErr l = 0) : clkM (labS l) = labM l % 1440 ∧ clkS (labS l) = l.s ∧ 0 ≤ labS l ∧ labS l ≤ 86400 := by
  obtain ⟨_, h1, _, h3⟩ := labErr_zero h
  have hf := fErr_zero.1 h1
  unfold labS
  by_cases c : l.s = 60
  · have := h3 c
    rw [c, this]; exact ⟨rfl, rfl, by omega, by omega⟩
  · unfold clkM clkS
    rw [if_neg (by omega), if_neg (by omega)]; omega
theorem of_split (l : Lab) (h : labErr l = 0) : ofErr (labN l) (labS l) l.n l.o = 0 ∧ g_label_Of ((), ((labN l, ()), ((labS l, ()), ((l.n, ()), ((l.o, ()), ()))))) = some ((), (l.t, ((none, ()), ()))) := by
  obtain ⟨h0, h1, h2, h3⟩ := labErr_zero h
  obtain ⟨k1, k2, k3⟩ := clk_of_lab h
  have hf := fErr_zero.1 h1
  obtain ⟨d1, d2, d3⟩ := dErr_zero.1 h0
  have e : labN l + (clkM (labS l) + l.o) / 1440 = dnum l.y l.m l.d := by rw [k1]; unfold labN labM; omega
  have hd : IsDate (labN l + (clkM (labS l) + l.o) / 1440) l.y l.m l.d := ⟨d2, d3, e.symm⟩
  have ho : ofErr (labN l) (labS l) l.n l.o = 0 := ofErr_zero.2 ⟨h2, k3, by omega, by omega, there_date hd d1⟩
  refine ⟨ho, ?_⟩
  rw [label_of_ok ho hd]
  have e1 : (clkM (labS l) + l.o) % 1440 = l.h * 60 + l.i := by rw [k1]; unfold labM; omega
  have e2 : ofLab l.y l.m l.d (labS l) l.n l.o = l := by
    unfold ofLab; rw [e1, k2, show (l.h * 60 + l.i) / 60 = l.h by omega, show (l.h * 60 + l.i) % 60 = l.i by omega]
  rw [e2]
theorem split_of {n s x o y m d : Int} (h : ofErr n s x o = 0) (hd : IsDate (n + (clkM s + o) / 1440) y m d) : labErr (ofLab y m d s x o) = 0 ∧ labN (ofLab y m d s x o) = n ∧ labS (ofLab y m d s x o) = s := by
  obtain ⟨c1, c2, c3, c4, c5⟩ := ofErr_zero.1 h
  have hk := clk_range c2
  have hy := year_bound hd c5
  have e1 : labM (ofLab y m d s x o) = (clkM s + o) % 1440 - o := by unfold labM ofLab; simp only; omega
  have e2 : labN (ofLab y m d s x o) = n := by
    unfold labN; rw [e1]; show dnum y m d + _ = _
    rw [hd.2.2]; omega
  have e3 : labM (ofLab y m d s x o) % 1440 = clkM s := by rw [e1]; omega
  have e4 : labS (ofLab y m d s x o) = s := by
    unfold labS; rw [e3]; show clkM s * 60 + clkS s = s
    unfold clkM clkS; split <;> omega
  refine ⟨?_, e2, e4⟩
  have f0 : dErr (ofLab y m d s x o).y (ofLab y m d s x o).m (ofLab y m d s x o).d = 0 := dErr_zero.2 ⟨hy, hd.1, hd.2.1⟩
  have f1 : fErr (ofLab y m d s x o) = 0 := fErr_zero.2 (by unfold ofLab; simp only; omega)
  unfold labErr
  rw [if_neg (by simp [f0]), if_neg (by simp [f1]), e2, if_neg (by simp [c1]), e3, if_neg]
  rintro ⟨a, b⟩
  have a : clkS s = 60 := a
  unfold clkS at a; unfold clkM at b
  split at a
  · rename_i c; rw [if_pos c] at b; omega
  · omega
theorem cmp_same (a b : Lab) (ha : labErr a = 0) (hb : labErr b = 0) (h1 : labN a = labN b) (h2 : labS a = labS b) (h3 : a.n = b.n) : cVal a b = 0 ∧ cErr a b = 0 := by
  have hc : cErr a b = 0 := by unfold cErr; rw [if_neg (by simp [ha])]; exact hb
  refine ⟨?_, hc⟩
  unfold cVal; rw [if_neg (by simp [hc]), h1, h2, h3]
  simp [cmpI, firstOf]
theorem label_backed (l : Lab) (o : Int) : g_law08_LabelBack ((), (l.t, ((o, ()), ()))) = some ((), ((true, ()), ())) := by
  have h1 := label_split l
  simp only [Lab.t] at h1
  simp only [g_law08_LabelBack, f_law08_LabelBack_m, label_alive, document, Lab.t, h1, Option.bind_some, Option.isNone_none, Option.isNone_some, Option.isSome_none, Option.isSome_some, Bool.not_true, Bool.not_false, cond_true, cond_false, cond_dec, beq_int, bne_int, not_dec, errOf_none]
  by_cases h : labErr l = 0
  · obtain ⟨ho, h2⟩ := of_split l h
    simp only [Lab.t] at h2
    simp only [h, not_true_eq_false, if_false, if_true, h2, Option.bind_some, Option.isNone_none, Option.isNone_some, Option.isSome_none, Option.isSome_some, Bool.not_true, Bool.not_false, cond_true, cond_false, cond_dec, beq_int, bne_int, not_dec, decide_true, Bool.and_self]
    obtain ⟨r, e, a1, _, a3, a4⟩ := at_both l o
    simp only [Lab.t] at a1
    simp only [a1, Option.bind_some, errOf_none, Option.bind_some, Option.isNone_none, Option.isNone_some, Option.isSome_none, Option.isSome_some, Bool.not_true, Bool.not_false, cond_true, cond_false, cond_dec, beq_int, bne_int, not_dec]
    by_cases he : e = 0
    · obtain ⟨_, b1, y, m, d, rfl, b2⟩ := a4 he
      obtain ⟨s1, s2, s3⟩ := split_of b1 b2
      generalize hr : ofLab y m d (labS l) l.n o = r at *
      have rn : r.n = l.n := by rw [← hr]; rfl
      have ro : r.o = o := by rw [← hr]; rfl
      have g1 := label_split r
      obtain ⟨r2, e2, g2, _, g3, g4⟩ := at_both r l.o
      have g5 := label_compare l r
      obtain ⟨q1, q2⟩ := cmp_same l r h s1 s2.symm s3.symm rn.symm
      simp only [Lab.t] at g1 g2 g5
      have hback : g_label_At ((), (r.t, ((l.o, ()), ()))) = some ((), (l.t, ((none, ()), ()))) := by
        have g1' := g1
        simp only [g_label_At, f_label_At_m, Lab.t, g1', s1, if_true, errOf_zero, Option.bind_some, Option.isNone_none, Option.isNone_some, Option.isSome_none, Option.isSome_some, Bool.not_true, Bool.not_false, cond_true, cond_false, cond_dec, beq_int, bne_int, not_dec, s2, s3]
        simp only [rn, h2, Option.bind_some]
      simp only [Lab.t] at hback
      simp only [he, not_true_eq_false, if_false, g1, hback, g5, q1, q2, s1, s2, s3, if_true, errOf_zero, Option.bind_some, Option.isNone_none, Option.isNone_some, Option.isSome_none, Option.isSome_some, Bool.not_true, Bool.not_false, cond_true, cond_false, cond_dec, beq_int, bne_int, not_dec, decide_true, Bool.and_self]
      simp only [ro, decide_true]
    · have := a3 he
      subst this
      simp only [he, not_false_eq_true, if_true, zl]; rfl
  · simp only [h, not_false_eq_true, if_true]
end Go.Proofs.Ytjeghckeceegjaa.Ev
