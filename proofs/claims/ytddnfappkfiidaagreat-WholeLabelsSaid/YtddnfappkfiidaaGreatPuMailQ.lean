/- Mail dates: the whole reader. -/
import Derived.Test.YtddnfappkfiidaaGreatPuMailP
namespace Go.Proofs.YtddnfappkfiidaaGreat.Ev
open Go
set_option linter.unusedVariables false
set_option linter.unusedSimpArgs false
/-- Monday is 1. -/
def wdN (n : Int) : Int := (n + 3) % 7 + 1
theorem day_weekday (n : Int) (h : -1000000000 ≤ n ∧ n ≤ 1000000000) : g_day_Weekday ((), ((n, ()), ())) = some ((), ((wdN n, ()), ())) := by
  have e1 : iadd .i64 (Int.tmod n 7) 3 = Int.tmod n 7 + 3 := iadd_i64 (by rw [tmod_pos 7 (by decide)]; split <;> omega)
  have e2 : iadd .i64 (Int.tmod (Int.tmod n 7 + 3) 7) 7 = Int.tmod (Int.tmod n 7 + 3) 7 + 7 := iadd_i64 (by rw [tmod_pos 7 (by decide)]; split <;> omega)
  have h3 : -7 < Int.tmod (Int.tmod n 7 + 3) 7 := by rw [tmod_pos 7 (by decide)]; split <;> omega
  have e4 : Int.tmod (Int.tmod (Int.tmod n 7 + 3) 7 + 7) 7 = (n + 3) % 7 := by
    rw [tmod_nn (by omega), Int.add_emod_right]
    have q : ∀ a : Int, Int.tmod a 7 % 7 = a % 7 := fun a => by rw [tmod_pos 7 (by decide)]; split <;> omega
    rw [q, Int.add_emod, q, ← Int.add_emod]
  simp only [g_day_Weekday, f_day_Weekday_m, e1, e2, e4]
  rw [iadd_i64 (by omega)]; rfl
theorem mail_weekday (l : Lab) (h : dErr l.y l.m l.d = 0) : g_mail_weekday ((), (l.t, ())) = some ((), ((wdN (dnum l.y l.m l.d), ()), ((none, ()), ()))) := by
  have hz := dErr_zero.1 h
  have hd := day_of l.y l.m l.d
  rw [h, if_pos rfl] at hd
  have hml := mlen_range l.y l.m
  have hr := dnum_range l.y l.m l.d (by omega) hz.2.1 (by omega)
  simp only [g_mail_weekday, f_mail_weekday_m, Lab.t, hd, errOf_zero, day_weekday _ (show -1000000000 ≤ dnum l.y l.m l.d ∧ dnum l.y l.m l.d ≤ 1000000000 by omega), fitsS_dec, Option.bind_some, Option.isNone_none, Option.isNone_some, Option.isSome_none, Option.isSome_some, Bool.not_true, Bool.not_false, cond_true, cond_false, cond_dec, beq_int, bne_int, not_dec]
/-- The parts of a date, read one after another. -/
structure MP where (w y m d h i s o : Int) (ok : Bool) (e : X)
def mpX (n : Nat) (B : List Int) : MP :=
  let w := wkX n (gapX n (.good B)).1
  let dt := dateX n w.1
  let g := gapX n dt.1
  let c := clkX n (if g.2 then g.1 else failX n 2 g.1)
  let z := zonX n c.1
  ⟨w.2, dt.2.1, dt.2.2.1, dt.2.2.2, c.2.1, c.2.2.1, c.2.2.2, z.2.1, z.2.2, (gapX n z.1).1⟩
def MP.lab (p : MP) : Lab := ⟨p.y, p.m, p.d, p.h, p.i, p.s, 0, p.o⟩
def MP.err (p : MP) : Int :=
  if p.e.end ≠ none then 2 else if p.ok = false then 1 else if p.y < 1900 then 13 else if labErr p.lab ≠ 0 then labErr p.lab else if p.w ≠ 0 ∧ p.w ≠ wdN (dnum p.y p.m p.d) then 1 else 0
@[reducible] def zlm : Int × (Int × (Int × (Int × (Int × (Int × (Int × (Int × Unit))))))) := (0, (0, (0, (0, (0, (0, (0, (0, ()))))))))
theorem mail_parse (s : ByteArray) (hs : s.size ≤ 1000000) : g_mail_Parse ((), ((s, ()), ())) = some ((), (if (mpX s.size (bytesOf s)).err = 0 then (mpX s.size (bytesOf s)).lab.t else zlm, ((errOf (mpX s.size (bytesOf s)).err, ()), ()))) := by
  have w0 := X.wf_new s
  have h0 := scan_new s
  have h1 := mail_gapX s _ w0 hs
  have w1 := gapX_wf w0
  have h2 := mail_wkX s _ w1 hs
  have w2 := wkX_wf w1
  have h3 := mail_dateX s _ w2 hs 0 0 0 0 0 0 0 0
  have w3 := dateX_wf w2
  have h4 := mail_gapX s _ w3 hs
  have w4 := gapX_wf w3
  have h5 := scan_fail s (gapX s.size (dateX s.size (wkX s.size (gapX s.size (.good (bytesOf s))).1).1).1).1 2
  have w5 := failX_wf w4 2
  have core : ∀ x : X, x.wf s → x = (if (gapX s.size (dateX s.size (wkX s.size (gapX s.size (.good (bytesOf s))).1).1).1).2 then (gapX s.size (dateX s.size (wkX s.size (gapX s.size (.good (bytesOf s))).1).1).1).1 else failX s.size 2 (gapX s.size (dateX s.size (wkX s.size (gapX s.size (.good (bytesOf s))).1).1).1).1) → ∀ f : Nat,
      f_mail_Parse_p6 (f_mail_Parse_t f) ((zlm, ((s, ()), ((x.t s).1, (((dateX s.size (wkX s.size (gapX s.size (.good (bytesOf s))).1).1).2.1, ((dateX s.size (wkX s.size (gapX s.size (.good (bytesOf s))).1).1).2.2.1, ((dateX s.size (wkX s.size (gapX s.size (.good (bytesOf s))).1).1).2.2.2, (0, (0, (0, (0, (0, ())))))))), ())))), ((), ((), ((), (((wkX s.size (gapX s.size (.good (bytesOf s))).1).2, ()), ()))))) =
        some ((), (if (mpX s.size (bytesOf s)).err = 0 then (mpX s.size (bytesOf s)).lab.t else zlm, ((errOf (mpX s.size (bytesOf s)).err, ()), ()))) := by
    intro x hx ex f
    have k1 := mail_clkX s x hx hs (dateX s.size (wkX s.size (gapX s.size (.good (bytesOf s))).1).1).2.1 (dateX s.size (wkX s.size (gapX s.size (.good (bytesOf s))).1).1).2.2.1 (dateX s.size (wkX s.size (gapX s.size (.good (bytesOf s))).1).1).2.2.2 0 0 0 0
    have v1 := clkX_wf hx
    have k2 := mail_zonX s _ v1 hs
    have v2 := zonX_wf v1
    have k3 := mail_gapX s _ v2 hs
    have v3 := gapX_wf v2
    have k4 := scan_end s _ v3
    have hc := label_check (mpX s.size (bytesOf s)).lab
    have hp : mpX s.size (bytesOf s) = ⟨(wkX s.size (gapX s.size (.good (bytesOf s))).1).2, (dateX s.size (wkX s.size (gapX s.size (.good (bytesOf s))).1).1).2.1, (dateX s.size (wkX s.size (gapX s.size (.good (bytesOf s))).1).1).2.2.1, (dateX s.size (wkX s.size (gapX s.size (.good (bytesOf s))).1).1).2.2.2,
      (clkX s.size x).2.1, (clkX s.size x).2.2.1, (clkX s.size x).2.2.2, (zonX s.size (clkX s.size x).1).2.1, (zonX s.size (clkX s.size x).1).2.2, (gapX s.size (zonX s.size (clkX s.size x).1).1).1⟩ := by
      rw [ex]; rfl
    simp only [X.t, X.p] at k1 k2 k3 k4
    simp only [f_mail_Parse_p6, X.t, k1, k2, k3, k4, Option.bind_some]
    generalize mpX s.size (bytesOf s) = P at hc hp ⊢
    have p1 := congrArg MP.w hp
    have p2 := congrArg MP.y hp
    have p3 := congrArg MP.m hp
    have p4 := congrArg MP.d hp
    have p5 := congrArg MP.h hp
    have p6 := congrArg MP.i hp
    have p7 := congrArg MP.s hp
    have p8 := congrArg MP.o hp
    have p9 := congrArg MP.ok hp
    have p10 := congrArg MP.e hp
    simp only at p1 p2 p3 p4 p5 p6 p7 p8 p9 p10
    simp only [Lab.t, MP.lab] at hc
    simp only [← p1, ← p2, ← p3, ← p4, ← p5, ← p6, ← p7, ← p8, ← p9, ← p10, hc, fitsS_dec, Option.bind_some, Option.isNone_none, Option.isNone_some, Option.isSome_none, Option.isSome_some, Bool.not_true, Bool.not_false, cond_true, cond_false, cond_dec, beq_int, bne_int, not_dec, errOf_none]
    have hw := mail_weekday P.lab
    simp only [Lab.t, MP.lab] at hw
    unfold MP.err
    cases he : P.e.end with
    | some c =>
      rw [if_pos (show (some c : Option Int) ≠ none by simp), if_neg (show ¬((2 : Int) = 0) by decide)]; rfl
    | none =>
      rw [if_neg (show ¬((none : Option Int) ≠ none) by simp)]
      simp only [Option.isNone_none, Bool.not_true, cond_false]
      cases hk : P.ok
      · rw [if_pos rfl, if_neg (show ¬((1 : Int) = 0) by decide)]; rfl
      · rw [if_neg (show ¬((true : Bool) = false) by decide)]
        simp only [Bool.not_true, cond_false]
        by_cases c1 : P.y < 1900
        · rw [if_pos c1, if_pos c1, if_neg (show ¬((13 : Int) = 0) by decide)]; rfl
        · rw [if_neg c1, if_neg c1]
          by_cases c2 : labErr P.lab = 0
          · have hd := (labErr_zero c2).1
            simp only [MP.lab] at hd c2
            have c2' : labErr P.lab = 0 := c2
            rw [hw hd]
            simp only [c2, c2', MP.lab, not_true_eq_false, if_false, ne_eq, Option.bind_some, fitsS_dec, Option.bind_some, Option.isNone_none, Option.isNone_some, Option.isSome_none, Option.isSome_some, Bool.not_true, Bool.not_false, cond_true, cond_false, cond_dec, beq_int, bne_int, not_dec]
            by_cases c3 : P.w = 0
            · simp only [c3, not_true_eq_false, false_and, if_false, if_true]; rfl
            · by_cases c4 : P.w = wdN (dnum P.y P.m P.d)
              · have hA : ¬(¬P.w = 0 ∧ ¬P.w = wdN (dnum P.y P.m P.d)) := fun q => q.2 c4
                rw [if_pos c3, if_neg (not_not_intro c4)]
                simp only [if_neg hA, if_true]; rfl
              · have hA : ¬P.w = 0 ∧ ¬P.w = wdN (dnum P.y P.m P.d) := ⟨c3, c4⟩
                rw [if_pos c3, if_pos c4]
                simp only [if_pos hA]
                rw [if_neg (show ¬((1 : Int) = 0) by decide)]; rfl
          · have c2' := c2
            simp only [MP.lab] at c2'
            simp only [c2', c2, MP.lab, ne_eq, not_false_eq_true, if_true, if_false]
  simp only [X.t] at h0 h1 h2 h3 h4 h5 core
  unfold g_mail_Parse
  cases hb : (gapX s.size (dateX s.size (wkX s.size (gapX s.size (.good (bytesOf s))).1).1).1).2
  · refine (Evn.some 1 fun f => ?_).lim
    simp only [f_mail_Parse_m, h0, h1, h2, h3, h4, h5, Option.bind_some, hb, Bool.not_false, cond_true, t_mail_Parse]
    exact core _ w5 (by rw [hb]; rfl) f
  · refine (Evn.some 1 fun f => ?_).lim
    simp only [f_mail_Parse_m, h0, h1, h2, h3, h4, Option.bind_some, hb, Bool.not_true, cond_false, t_mail_Parse]
    exact core _ w4 (by rw [hb]; rfl) f
end Go.Proofs.YtddnfappkfiidaaGreat.Ev
