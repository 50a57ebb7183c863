/- The law WholeLabels, plain. -/
import Derived.Test.YtddnfappkfiidaaGreatPuIsoB
import Derived.Test.YtddnfappkfiidaaGreatPureMailBack
import Derived.Test.YtddnfappkfiidaaGreatPureNistBack
import Derived.Test.YtddnfappkfiidaaGreatPuLab3
import Derived.Test.YtddnfappkfiidaaGreatPuLeap2
namespace Go.Proofs.YtddnfappkfiidaaGreat.Ev
open Go
set_option linter.unusedVariables false
set_option linter.unusedSimpArgs false
@[reducible] def wlI : List Int := [50, 48, 50, 52, 45, 49, 48, 45, 48, 57, 84, 49, 49, 58, 49, 50, 58, 49, 51, 90]
@[reducible] def wlM : List Int := [87, 101, 100, 44, 32, 57, 32, 79, 99, 116, 32, 50, 48, 50, 52, 32, 49, 49, 58, 49, 50, 58, 49, 51, 32, 71, 77, 84]
@[reducible] def wlN : List Int := [10, 54, 48, 53, 57, 50, 32, 50, 52, 45, 49, 48, 45, 48, 57, 32, 49, 49, 58, 49, 50, 58, 49, 51, 32, 53, 48, 32, 48, 32, 48, 32, 32, 53, 48, 46, 48, 32, 85, 84, 67, 40, 78, 73, 83, 84, 41, 32, 42, 10]
theorem wl_iso : g_iso_Parse ((), (((⟨#[50, 48, 50, 52, 45, 49, 48, 45, 48, 57, 84, 49, 49, 58, 49, 50, 58, 49, 51, 90]⟩ : ByteArray), ()), ())) = some ((), ((2024, (10, (9, (11, (12, (13, (0, (0, ())))))))), ((none, ()), ()))) := by
  have lit : (⟨#[50, 48, 50, 52, 45, 49, 48, 45, 48, 57, 84, 49, 49, 58, 49, 50, 58, 49, 51, 90]⟩ : ByteArray) = strOf wlI := by kernel_rfl
  have ho : okBy wlI := by intro x hx; simp only [wlI, List.mem_cons, List.not_mem_nil, or_false] at hx; omega
  have hp := iso_parse (strOf wlI) (by rw [str_size]; decide)
  rw [by_str ho, str_size] at hp
  have hX : ipX wlI.length wlI = ⟨2024, 10, 9, 11, 12, 13, [], 0, true, .good []⟩ := by kernel_rfl
  rw [hX] at hp
  have he : IP.err ⟨2024, 10, 9, 11, 12, 13, [], 0, true, .good []⟩ = 0 := by kernel_rfl
  rw [he, if_pos rfl] at hp
  rw [lit, hp]; rfl
theorem wl_mail : g_mail_Parse ((), (((⟨#[87, 101, 100, 44, 32, 57, 32, 79, 99, 116, 32, 50, 48, 50, 52, 32, 49, 49, 58, 49, 50, 58, 49, 51, 32, 71, 77, 84]⟩ : ByteArray), ()), ())) = some ((), ((2024, (10, (9, (11, (12, (13, (0, (0, ())))))))), ((none, ()), ()))) := by
  have lit : (⟨#[87, 101, 100, 44, 32, 57, 32, 79, 99, 116, 32, 50, 48, 50, 52, 32, 49, 49, 58, 49, 50, 58, 49, 51, 32, 71, 77, 84]⟩ : ByteArray) = strOf wlM := by kernel_rfl
  have ho : okBy wlM := by intro x hx; simp only [wlM, List.mem_cons, List.not_mem_nil, or_false] at hx; omega
  have hp := mail_parse (strOf wlM) (by rw [str_size]; decide)
  rw [by_str ho, str_size] at hp
  have hX : mpX wlM.length wlM = ⟨3, 2024, 10, 9, 11, 12, 13, 0, true, .good []⟩ := by kernel_rfl
  rw [hX] at hp
  have he : MP.err ⟨3, 2024, 10, 9, 11, 12, 13, 0, true, .good []⟩ = 0 := by kernel_rfl
  rw [he, if_pos rfl] at hp
  rw [lit, hp]; rfl
theorem wl_line {n s : Int} (h : NL.err ⟨n, s, 0, 0, 0, 500, false⟩ = 0) : ∃ r : Lab, g_nist_Label ((), ((n, (s, (0, (0, (0, (500, (false, ()))))))), ())) = some ((), (r.t, ((none, ()), ()))) ∧ g_label_Of ((), ((n, ()), ((s, ()), ((0, ()), ((0, ()), ()))))) = some ((), (r.t, ((none, ()), ()))) := by
  have hc := nist_check ⟨n, s, 0, 0, 0, 500, false⟩
  rw [h, errOf_zero] at hc
  obtain ⟨h1, h2⟩ := NL.err_zero h
  obtain ⟨t1, t2, t3⟩ := fiveE_zero h1
  unfold NL.fit at h2
  simp only at t1 t2 t3 h2
  have hk := clk_range h2.1
  have ht : there (n + (clkM s + 0) / 1440) := by unfold there at t1 ⊢; omega
  have ho : ofErr n s 0 0 = 0 := ofErr_zero.2 ⟨t1, h2.1, by omega, by omega, ht⟩
  obtain ⟨y, m, d, hd⟩ := date_ex _ ht
  have hof := label_of_ok ho hd
  refine ⟨ofLab y m d s 0 0, ?_, hof⟩
  simp only [NL.t] at hc
  simp only [Lab.t] at hof
  simp only [g_nist_Label, f_nist_Label_m, hc, hof, Lab.t, fitsS_dec, Option.bind_some, Option.isNone_none, Option.isNone_some, Option.isSome_none, Option.isSome_some, Bool.not_true, Bool.not_false, cond_true, cond_false, cond_dec, beq_int, bne_int, not_dec]
theorem wl_nist : g_nist_Parse ((), (((⟨#[10, 54, 48, 53, 57, 50, 32, 50, 52, 45, 49, 48, 45, 48, 57, 32, 49, 49, 58, 49, 50, 58, 49, 51, 32, 53, 48, 32, 48, 32, 48, 32, 32, 53, 48, 46, 48, 32, 85, 84, 67, 40, 78, 73, 83, 84, 41, 32, 42, 10]⟩ : ByteArray), ()), ())) = some ((), ((20005, (40333, (50, (0, (0, (500, (false, ()))))))), ((none, ()), ()))) ∧
    g_nist_Label ((), ((20005, (40333, (50, (0, (0, (500, (false, ()))))))), ())) = some ((), ((2024, (10, (9, (11, (12, (13, (0, (0, ())))))))), ((none, ()), ()))) := by
  have hd : IsDate 20005 2024 10 9 := by unfold IsDate; decide
  have he : NL.err ⟨20005, 40333, 50, 0, 0, 500, false⟩ = 0 := by decide
  have hp := nist_forth he hd
  have e : lineL ⟨20005, 40333, 50, 0, 0, 500, false⟩ 2024 10 9 = wlN := by kernel_rfl
  have lit : (⟨#[10, 54, 48, 53, 57, 50, 32, 50, 52, 45, 49, 48, 45, 48, 57, 32, 49, 49, 58, 49, 50, 58, 49, 51, 32, 53, 48, 32, 48, 32, 48, 32, 32, 53, 48, 46, 48, 32, 85, 84, 67, 40, 78, 73, 83, 84, 41, 32, 42, 10]⟩ : ByteArray) = strOf wlN := by kernel_rfl
  rw [e] at hp
  simp only [NL.t] at hp
  refine ⟨by rw [lit, hp], ?_⟩
  have hc := nist_check ⟨20005, 40333, 50, 0, 0, 500, false⟩
  rw [he, errOf_zero] at hc
  simp only [NL.t] at hc
  have ho : ofErr 20005 40333 0 0 = 0 := by decide
  have hof := label_of_ok ho (y := 2024) (m := 10) (d := 9) (by unfold IsDate; decide)
  have hl : (ofLab 2024 10 9 40333 0 0).t = (2024, (10, (9, (11, (12, (13, (0, (0, ())))))))) := by kernel_rfl
  rw [hl] at hof
  simp only [g_nist_Label, f_nist_Label_m, hc, hof, fitsS_dec, Option.bind_some, Option.isNone_none, Option.isNone_some, Option.isSome_none, Option.isSome_some, Bool.not_true, Bool.not_false, cond_true, cond_false, cond_dec, beq_int, bne_int, not_dec]
theorem labels_stand : g_top_labelsStand ((), ()) = some ((), ((true, ()), ())) := by
  simp only [g_top_labelsStand, f_top_labelsStand_m, wl_iso, wl_mail, wl_nist.1, wl_nist.2, fitsS_dec, Option.bind_some, Option.isNone_none, Option.isNone_some, Option.isSome_none, Option.isSome_some, Bool.not_true, Bool.not_false, cond_true, cond_false, cond_dec, beq_int, bne_int, not_dec]
  rfl
theorem wl_listed {l : List (Int × Int)} (h : GoodT l) (u e : Int) (a : Lab) {k : Nat} (hk : Cnt l (labN a) k) (hb : g_leap_Table_behind ((), ((some (l, (u, e)), ()), ((labN a, ()), ()))) = some ((), (((k : Int), ()), ()))) :
    g_scale_Listed ((), ((some (l, (u, e)), ()), (a.t, ()))) = some ((), ((errOf (if labErr a = 0 then (if 0 ≤ labS a ∧ labS a < 86400 + leapV l (labN a) k then 0 else 12) else labErr a), ()), ())) := by
  have h1 := label_split a
  simp only [Lab.t] at h1
  simp only [g_scale_Listed, f_scale_Listed_m, h1, Lab.t, fitsS_dec, Option.bind_some, Option.isNone_none, Option.isNone_some, Option.isSome_none, Option.isSome_some, Bool.not_true, Bool.not_false, cond_true, cond_false, cond_dec, beq_int, bne_int, not_dec, errOf_none]
  by_cases c : labErr a = 0
  · have h4 := table_has h u e hk hb (labS a)
    simp only [c, if_true, ne_eq, not_true_eq_false, if_false, h4, Option.bind_some]
    by_cases c2 : 0 ≤ labS a ∧ labS a < 86400 + leapV l (labN a) k
    · simp [c2, errOf_zero]
    · simp [c2, errOf]
  · simp only [c, ne_eq, not_false_eq_true, if_true, if_false]
theorem whole_labels (l : List (Int × Int)) (u e : Int) (a : Lab) : g_top_WholeLabels ((), (tbR l u e, (a.t, ()))) = some ((), ((true, ()), ())) := by
  have H0 : ∀ F : Nat → Option (Unit × ((Bool × Unit) × Unit)), (∀ f, F f = some ((), ((true, ()), ()))) → lim F = some ((), ((true, ()), ())) := fun F h => (Evn.const (F := F) h).lim
  have hn := leap_new l u e
  by_cases c0 : 296 < l.length
  · refine H0 _ fun f => ?_
    simp only [f_top_WholeLabels_m, labels_stand, g_law10_Long, f_law10_Long_m, Lab.t, fitsS_dec, Option.bind_some, Option.isNone_none, Option.isNone_some, Option.isSome_none, Option.isSome_some, Bool.not_true, Bool.not_false, cond_true, cond_false, cond_dec, beq_int, bne_int, not_dec, gt_iff_lt]
    rw [if_pos (by omega)]
  have c0' : ¬ ((296 : Int) < (l.length : Int)) := by omega
  by_cases c : tErr l u e = 0
  case neg =>
    refine H0 _ fun f => ?_
    simp only [c, if_false] at hn
    simp only [f_top_WholeLabels_m, labels_stand, g_law10_Long, f_law10_Long_m, Lab.t, hn, c0', fitsS_dec, Option.bind_some, Option.isNone_none, Option.isNone_some, Option.isSome_none, Option.isSome_some, Bool.not_true, Bool.not_false, cond_true, cond_false, cond_dec, beq_int, bne_int, not_dec, gt_iff_lt, errOf_none, c, if_false, not_false_eq_true, if_true]
    simp
  simp only [c, if_true, errOf_zero] at hn
  obtain ⟨hg, _, _⟩ := good_of c
  obtain ⟨k, hk, hb⟩ := behind hg u e (labN a)
  have hL := wl_listed hg u e a hk hb
  by_cases c1 : labErr a = 0
  case neg =>
    refine H0 _ fun f => ?_
    simp only [c1, if_false, Lab.t] at hL
    simp only [f_top_WholeLabels_m, labels_stand, g_law10_Long, f_law10_Long_m, Lab.t, hn, hL, c0', fitsS_dec, Option.bind_some, Option.isNone_none, Option.isNone_some, Option.isSome_none, Option.isSome_some, Bool.not_true, Bool.not_false, cond_true, cond_false, cond_dec, beq_int, bne_int, not_dec, gt_iff_lt, errOf_none, c1, if_false, not_false_eq_true, if_true]
    simp
  by_cases c2 : 0 ≤ labS a ∧ labS a < 86400 + leapV l (labN a) k
  case neg =>
    refine H0 _ fun f => ?_
    simp only [c1, c2, if_false, if_true, Lab.t] at hL
    simp only [f_top_WholeLabels_m, labels_stand, g_law10_Long, f_law10_Long_m, Lab.t, hn, hL, c0', fitsS_dec, Option.bind_some, Option.isNone_none, Option.isNone_some, Option.isSome_none, Option.isSome_some, Bool.not_true, Bool.not_false, cond_true, cond_false, cond_dec, beq_int, bne_int, not_dec, gt_iff_lt, errOf_none, if_false, not_false_eq_true, if_true]
    simp
  simp only [c1, c2, and_self, if_true, Lab.t, errOf_zero] at hL
  obtain ⟨b1, b2, b3, b4⟩ := labErr_zero c1
  have bf := fErr_zero.1 b2
  -- the label without nanoseconds
  have w1 : labErr ⟨a.y, a.m, a.d, a.h, a.i, a.s, 0, a.o⟩ = 0 := by
    unfold labErr at c1 ⊢
    have e1 : fErr ⟨a.y, a.m, a.d, a.h, a.i, a.s, 0, a.o⟩ = 0 := fErr_zero.2 ⟨bf.1, bf.2.1, bf.2.2.1, ⟨Int.le_refl _, show (0 : Int) ≤ 999999999 by decide⟩, bf.2.2.2.2⟩
    rw [e1]
    rw [b2] at c1
    exact c1
  have hkw : Cnt l (labN ⟨a.y, a.m, a.d, a.h, a.i, a.s, 0, a.o⟩) k := hk
  have hLw := wl_listed hg u e ⟨a.y, a.m, a.d, a.h, a.i, a.s, 0, a.o⟩ hkw hb
  have c2w : 0 ≤ labS ⟨a.y, a.m, a.d, a.h, a.i, a.s, 0, a.o⟩ ∧ labS ⟨a.y, a.m, a.d, a.h, a.i, a.s, 0, a.o⟩ < 86400 + leapV l (labN ⟨a.y, a.m, a.d, a.h, a.i, a.s, 0, a.o⟩) k := c2
  simp only [w1, c2w, and_self, if_true, Lab.t, errOf_zero] at hLw
  have hsw := label_split ⟨a.y, a.m, a.d, a.h, a.i, a.s, 0, a.o⟩
  have hN : labN ⟨a.y, a.m, a.d, a.h, a.i, a.s, 0, a.o⟩ = labN a := rfl
  have hS : labS ⟨a.y, a.m, a.d, a.h, a.i, a.s, 0, a.o⟩ = labS a := rfl
  simp only [w1, if_true, Lab.t, errOf_zero, hN, hS] at hsw
  have hsr := (clk_of_lab c1).2.2
  -- the service line
  have p25 : ∀ f, (f_top_WholeLabels_t (f + 1)).2.2.1 (((a.y, (a.m, (a.d, (a.h, (a.i, (a.s, (0, (a.o, ())))))))), ()), ((some (l, (u, e)), ()), ((none, ()), ((), ((labN a, ()), ((labS a, ()), ())))))) = some ((), ((true, ()), ())) := by
    intro f
    have h5 := mjd_five (labN a)
    by_cases c5 : fiveE (labN a) = 0
    · simp only [c5, if_true, errOf_zero] at h5
      obtain ⟨t1, t2, t3⟩ := fiveE_zero c5
      have hle : NL.err ⟨labN a, labS a, 0, 0, 0, 500, false⟩ = 0 := by
        unfold NL.err
        simp only
        rw [if_neg (not_not_intro c5), if_pos]
        unfold NL.fit
        simp only
        omega
      obtain ⟨y, m, d, hd⟩ := date_ex _ t1
      have q1 := nist_put hle hd
      have q2 := nist_forth hle hd
      have q3 := table_has hg u e hk hb (labS a)
      rw [decide_eq_true c2] at q3
      obtain ⟨r, q4, q5⟩ := wl_line hle
      simp only [NL.t, Lab.t] at q1 q2 q4 q5
      have q6 : g_nist_ParseBy ((), ((some (l, (u, e)), ()), ((strOf (lineL ⟨labN a, labS a, 0, 0, 0, 500, false⟩ y m d), ()), ()))) = some ((), ((labN a, (labS a, (0, (0, (0, (500, (false, ()))))))), ((none, ()), ()))) := by
        simp only [g_nist_ParseBy, f_nist_ParseBy_m, q2, q3, fitsS_dec, Option.bind_some, Option.isNone_none, Option.isNone_some, Option.isSome_none, Option.isSome_some, Bool.not_true, Bool.not_false, cond_true, cond_false, cond_dec, beq_int, bne_int, not_dec]
      have q7 : g_label_UTC ((), ((a.y, (a.m, (a.d, (a.h, (a.i, (a.s, (0, (a.o, ())))))))), ())) = some ((), ((r.y, (r.m, (r.d, (r.h, (r.i, (r.s, (r.n, (r.o, ())))))))), ((none, ()), ()))) := by
        simp only [g_label_UTC, f_label_UTC_m, g_label_At, f_label_At_m, hsw, q5, fitsS_dec, Option.bind_some, Option.isNone_none, Option.isNone_some, Option.isSome_none, Option.isSome_some, Bool.not_true, Bool.not_false, cond_true, cond_false, cond_dec, beq_int, bne_int, not_dec]
      simp only [t_top_WholeLabels, f_top_WholeLabels_p25, h5, q1, q6, q4, q7, fitsS_dec, Option.bind_some, Option.isNone_none, Option.isNone_some, Option.isSome_none, Option.isSome_some, Bool.not_true, Bool.not_false, cond_true, cond_false, cond_dec, beq_int, bne_int, not_dec]
      simp
    · have hle : NL.err ⟨labN a, labS a, 0, 0, 0, 500, false⟩ ≠ 0 := by
        unfold NL.err
        simp only
        rw [if_pos c5]; exact c5
      have q1 := nist_check ⟨labN a, labS a, 0, 0, 0, 500, false⟩
      simp only [NL.t] at q1
      simp only [t_top_WholeLabels, f_top_WholeLabels_p25, h5, q1, errOf_none, fitsS_dec, Option.bind_some, Option.isNone_none, Option.isNone_some, Option.isSome_none, Option.isSome_some, Bool.not_true, Bool.not_false, cond_true, cond_false, cond_dec, beq_int, bne_int, not_dec, c5, hle, ne_eq, not_false_eq_true, decide_true, if_true]
      try simp
  -- the letter's text
  have p18 : ∀ f, (f_top_WholeLabels_t (f + 3)).1 ((((a.y, (a.m, (a.d, (a.h, (a.i, (a.s, (a.n, (a.o, ())))))))), ((a.y, (a.m, (a.d, (a.h, (a.i, (a.s, (0, (a.o, ())))))))), ()))), ((), ((some (l, (u, e)), ()), ((), ())))) = some ((), ((true, ()), ())) := by
    intro f
    have h25 := p25 f
    by_cases c3 : 1900 ≤ a.y
    · have hp : putE25 ⟨a.y, a.m, a.d, a.h, a.i, a.s, 0, a.o⟩ = 0 := by
        unfold putE25
        rw [if_neg (not_not_intro w1), if_neg (by simp only; omega), if_neg (by simp)]
      have q1 := mail_put hp
      have q2 := mail_forth_parse hp
      simp only [Lab.t] at q1 q2
      have q3 : g_mail_ParseBy ((), ((some (l, (u, e)), ()), ((strOf (mailL ⟨a.y, a.m, a.d, a.h, a.i, a.s, 0, a.o⟩), ()), ()))) = some ((), ((a.y, (a.m, (a.d, (a.h, (a.i, (a.s, (0, (a.o, ())))))))), ((none, ()), ()))) := by
        simp only [g_mail_ParseBy, f_mail_ParseBy_m, q2, hLw, fitsS_dec, Option.bind_some, Option.isNone_none, Option.isNone_some, Option.isSome_none, Option.isSome_some, Bool.not_true, Bool.not_false, cond_true, cond_false, cond_dec, beq_int, bne_int, not_dec]
      have c3' : a.y ≥ 1900 := c3
      simp only [t_top_WholeLabels] at h25 ⊢
      simp only [f_top_WholeLabels_p18, q1, c3', fitsS_dec, Option.bind_some, Option.isNone_none, Option.isNone_some, Option.isSome_none, Option.isSome_some, Bool.not_true, Bool.not_false, cond_true, cond_false, cond_dec, beq_int, bne_int, not_dec, decide_true, if_true]
      simp only [f_top_WholeLabels_p21, q3, hsw, fitsS_dec, Option.bind_some, Option.isNone_none, Option.isNone_some, Option.isSome_none, Option.isSome_some, Bool.not_true, Bool.not_false, cond_true, cond_false, cond_dec, beq_int, bne_int, not_dec]
      simpa using h25
    · have hp : putE25 ⟨a.y, a.m, a.d, a.h, a.i, a.s, 0, a.o⟩ ≠ 0 := by
        unfold putE25
        rw [if_neg (not_not_intro w1), if_pos (by simp only; omega)]; decide
      have q1 := mail_put_bad hp
      simp only [Lab.t] at q1
      have c3' : ¬ a.y ≥ 1900 := c3
      have hne : (errOf (putE25 ⟨a.y, a.m, a.d, a.h, a.i, a.s, 0, a.o⟩)).isNone = false := by rw [errOf_none]; exact decide_eq_false hp
      simp only [t_top_WholeLabels] at h25 ⊢
      simp only [f_top_WholeLabels_p18, q1, c3', hne, fitsS_dec, Option.bind_some, Option.isNone_none, Option.isNone_some, Option.isSome_none, Option.isSome_some, Bool.not_true, Bool.not_false, cond_true, cond_false, cond_dec, beq_int, bne_int, not_dec, decide_false, if_false]
      simp only [f_top_WholeLabels_p21, hsw, fitsS_dec, Option.bind_some, Option.isNone_none, Option.isNone_some, Option.isSome_none, Option.isSome_some, Bool.not_true, Bool.not_false, cond_true, cond_false, cond_dec, beq_int, bne_int, not_dec]
      simpa using h25
  -- the network's text
  refine (show Evn (fun f => f_top_WholeLabels_m (f_top_WholeLabels_t f) ((), (tbR l u e, (a.t, ())))) ((), ((true, ()), ())) from ?_).lim
  refine ⟨3, fun j hj => ?_⟩
  obtain ⟨f, rfl⟩ : ∃ f, j = f + 3 := ⟨j - 3, by omega⟩
  have h18 := p18 f
  by_cases c3 : 0 ≤ a.y
  · have hp : putI a 9 = 0 := by
      unfold putI
      rw [if_neg (not_not_intro (rgtE_zero c1 c3)), if_pos]
      exact ⟨bf.2.2.2.1, by decide, by decide⟩
    have q1 := iso_put hp
    obtain ⟨n1, n2, n3⟩ := nine_f bf.2.2.2.1 9 (by omega) (nine_all bf.2.2.2.1)
    have q2 := iso_round c1 c3 n1 n2 n3
    simp only [Lab.t, show Int.toNat 9 = 9 from rfl] at q1 q2
    have q3 : g_iso_ParseBy ((), ((some (l, (u, e)), ()), ((strOf (isoL a ((nine a.n).take 9)), ()), ()))) = some ((), ((a.y, (a.m, (a.d, (a.h, (a.i, (a.s, (a.n, (a.o, ())))))))), ((none, ()), ()))) := by
      simp only [g_iso_ParseBy, f_iso_ParseBy_m, q2, hL, fitsS_dec, Option.bind_some, Option.isNone_none, Option.isNone_some, Option.isSome_none, Option.isSome_some, Bool.not_true, Bool.not_false, cond_true, cond_false, cond_dec, beq_int, bne_int, not_dec]
    have c3' : a.y ≥ 0 := c3
    simp only [f_top_WholeLabels_m, labels_stand, g_law10_Long, f_law10_Long_m, Lab.t, hn, hL, c0', q1, q3, c3', fitsS_dec, Option.bind_some, Option.isNone_none, Option.isNone_some, Option.isSome_none, Option.isSome_some, Bool.not_true, Bool.not_false, cond_true, cond_false, cond_dec, beq_int, bne_int, not_dec, gt_iff_lt, if_false, if_true, decide_true]
    simpa using h18
  · have hp : putI a 9 ≠ 0 := by
      have hr : rgtE a = 13 := by unfold rgtE; rw [if_neg (not_not_intro c1), if_pos (by omega)]
      unfold putI
      rw [hr, if_pos (by decide)]; decide
    have q1 := iso_put_bad hp
    simp only [Lab.t] at q1
    have hne : (errOf (putI a 9)).isNone = false := by rw [errOf_none]; exact decide_eq_false hp
    have c3' : ¬ a.y ≥ 0 := c3
    simp only [f_top_WholeLabels_m, labels_stand, g_law10_Long, f_law10_Long_m, Lab.t, hn, hL, c0', q1, hne, c3', fitsS_dec, Option.bind_some, Option.isNone_none, Option.isNone_some, Option.isSome_none, Option.isSome_some, Bool.not_true, Bool.not_false, cond_true, cond_false, cond_dec, beq_int, bne_int, not_dec, gt_iff_lt, if_false, decide_false]
    simpa using h18
end Go.Proofs.YtddnfappkfiidaaGreat.Ev
