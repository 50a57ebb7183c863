/- Mail dates: what is read. -/
import Derived.Test.YtddnfappkfiidaaGreatPuMailZ
import Derived.Test.YtddnfappkfiidaaGreatPuLab
namespace Go.Proofs.YtddnfappkfiidaaGreat.Ev
open Go
set_option linter.unusedVariables false
set_option linter.unusedSimpArgs false
@[reducible] def triM := Int × (Int × Int)
def dateX (n : Nat) (x : X) : X × triM :=
  let a := figX n 1 2 x
  let o := oneK moN 12 1 (gapX n a.1).1
  let o' := if o.2 = 0 then failX n 2 o.1 else o.1
  let y := yrX n (gapX n o').1
  (y.1, (y.2, (o.2, a.2)))
theorem dateX_wf {s : ByteArray} {x : X} (h : x.wf s) : (dateX s.size x).1.wf s := by
  unfold dateX
  simp only
  refine yrX_wf (gapX_wf ?_)
  split
  · exact failX_wf (oneK_wf (gapX_wf (figX_wf h _ _))) _
  · exact oneK_wf (gapX_wf (figX_wf h _ _))
theorem mail_dateX (s : ByteArray) (x : X) (h : x.wf s) (hs : s.size ≤ 1000000) (y m d hh i sc nn o : Int) :
    g_mail_reader_date_io (((x.t s).1, ((y, (m, (d, (hh, (i, (sc, (nn, (o, ())))))))), ())), ((s, ()), ((), ()))) = some ((((dateX s.size x).1.t s).1, (((dateX s.size x).2.1, ((dateX s.size x).2.2.1, ((dateX s.size x).2.2.2, (hh, (i, (sc, (nn, (o, ())))))))), ())), ((), ((), ()))) := by
  have h1 := scan_figures s x h hs 1 2 (by decide)
  have w1 := figX_wf h 1 2
  have h2 := mail_gapX s _ w1 hs
  have w2 := gapX_wf w1
  have h3 := mail_one s hs moT moN 12 rfl (by decide) mo_name _ w2
  have w3 := oneK_wf (nm := moN) (k := 12) (i := 1) w2
  have h4 := scan_fail s (oneK moN 12 1 (gapX s.size (figX s.size 1 2 x).1).1).1 2
  have w4 := failX_wf w3 2
  have h5 := mail_gapX s _ w4 hs
  have h5' := mail_gapX s _ w3 hs
  have h6 := mail_yrX s _ (gapX_wf w4) hs
  have h6' := mail_yrX s _ (gapX_wf w3) hs
  have a1 : ((1 : Nat) : Int) = 1 := rfl
  have a2 : ((2 : Nat) : Int) = 2 := rfl
  simp only [X.t, a1, a2] at h1 h2 h3 h4 h5 h5' h6 h6'
  simp only [g_mail_reader_date_io, f_mail_reader_date_io_m, X.t, h1, h2, h3, h4, h5, h5', h6, h6', fitsS_dec, Option.bind_some, Option.isNone_none, Option.isNone_some, Option.isSome_none, Option.isSome_some, Bool.not_true, Bool.not_false, cond_true, cond_false, cond_dec, beq_int, bne_int, not_dec, dateX]
  by_cases c : (oneK moN 12 1 (gapX s.size (figX s.size 1 2 x).1).1).2 = 0
  · simp only [c, if_true]
  · simp only [c, if_false]
def secX (n : Nat) (x : X) : X × Int :=
  if oneX 58 x then ((gapX n (figX n 2 2 (gapX n (takeX 1 x)).1).1).1, (figX n 2 2 (gapX n (takeX 1 x)).1).2) else (x, 0)
def clkX (n : Nat) (x : X) : X × triM :=
  let h := figX n 2 2 x
  let i := figX n 2 2 (gapX n (mustX n [58] (gapX n h.1).1)).1
  let q := secX n (gapX n i.1).1
  (q.1, (h.2, (i.2, q.2)))
theorem secX_wf {s : ByteArray} {x : X} (h : x.wf s) : (secX s.size x).1.wf s := by
  unfold secX
  split
  · exact gapX_wf (figX_wf (gapX_wf (takeX_wf h _)) _ _)
  · exact h
theorem clkX_wf {s : ByteArray} {x : X} (h : x.wf s) : (clkX s.size x).1.wf s := secX_wf (gapX_wf (figX_wf (gapX_wf (mustX_wf (gapX_wf (figX_wf h _ _)) _)) _ _))
theorem mail_clkX (s : ByteArray) (x : X) (h : x.wf s) (hs : s.size ≤ 1000000) (y m d hh i nn o : Int) :
    g_mail_reader_clock_io (((x.t s).1, ((y, (m, (d, (hh, (i, (0, (nn, (o, ())))))))), ())), ((s, ()), ((), ()))) = some ((((clkX s.size x).1.t s).1, ((y, (m, (d, ((clkX s.size x).2.1, ((clkX s.size x).2.2.1, ((clkX s.size x).2.2.2, (nn, (o, ())))))))), ())), ((), ((), ()))) := by
  have l58 : (⟨#[58]⟩ : ByteArray) = strOf [58] := by kernel_rfl
  have h1 := scan_figures s x h hs 2 2 (by decide)
  have w1 := figX_wf h 2 2
  have h2 := mail_gapX s _ w1 hs
  have w2 := gapX_wf w1
  have h3 := scan_must s _ w2 hs [58] (mb1 (by omega)) (by decide)
  have w3 := mustX_wf w2 [58]
  have h4 := mail_gapX s _ w3 hs
  have w4 := gapX_wf w3
  have h5 := scan_figures s _ w4 hs 2 2 (by decide)
  have w5 := figX_wf w4 2 2
  have h6 := mail_gapX s _ w5 hs
  have w6 := gapX_wf w5
  have h7 := scan_Take s _ w6 hs 58
  have w7 := takeX_wf w6 1
  have h8 := mail_gapX s _ w7 hs
  have w8 := gapX_wf w7
  have h9 := scan_figures s _ w8 hs 2 2 (by decide)
  have w9 := figX_wf w8 2 2
  have h10 := mail_gapX s _ w9 hs
  have a2 : ((2 : Nat) : Int) = 2 := rfl
  simp only [X.t, a2] at h1 h2 h3 h4 h5 h6 h7 h8 h9 h10
  simp only [g_mail_reader_clock_io, f_mail_reader_clock_io_m, X.t, l58, h1, h2, h3, h4, h5, h6, h7, Option.bind_some, clkX, secX]
  by_cases c : oneX 58 (gapX s.size (figX s.size 2 2 (gapX s.size (mustX s.size [58] (gapX s.size (figX s.size 2 2 x).1).1)).1).1).1 = true
  · simp only [c, if_true, cond_true, h8, h9, h10, Option.bind_some]
  · simp only [Bool.not_eq_true] at c
    simp only [c, Bool.false_eq_true, if_false, cond_false]
@[reducible] def letL : List Int := [65, 66, 67, 68, 69, 70, 71, 72, 73, 74, 75, 76, 77, 78, 79, 80, 81, 82, 83, 84, 85, 86, 87, 88, 89, 90, 97, 98, 99, 100, 101, 102, 103, 104, 105, 106, 107, 108, 109, 110, 111, 112, 113, 114, 115, 116, 117, 118, 119, 120, 121, 122]
def numZ (n : Nat) (neg : Bool) (x : X) : X × (Int × Bool) :=
  let a := figX n 2 2 x
  let b := figX n 2 2 a.1
  (b.1, (if neg then -(a.2 * 60 + b.2) else a.2 * 60 + b.2, decide (a.2 < 24 ∧ b.2 < 60)))
def namZ (n : Nat) (x : X) : X × (Int × Bool) :=
  let v := zoV ((x.rest.take (runN letL x.rest)).map up)
  (if v.2 then takeX (runN letL x.rest) x else failX n 2 (takeX (runN letL x.rest) x), (v.1, true))
def zonX (n : Nat) (x : X) : X × (Int × Bool) :=
  if oneX 45 x then numZ n true (takeX 1 x) else if oneX 43 x then numZ n false (takeX 1 x) else namZ n x
theorem numZ_wf {s : ByteArray} {x : X} (h : x.wf s) (b : Bool) : (numZ s.size b x).1.wf s := figX_wf (figX_wf h _ _) _ _
theorem namZ_wf {s : ByteArray} {x : X} (h : x.wf s) : (namZ s.size x).1.wf s := by
  unfold namZ
  simp only
  split
  · exact takeX_wf h _
  · exact failX_wf (takeX_wf h _) _
theorem zonX_wf {s : ByteArray} {x : X} (h : x.wf s) : (zonX s.size x).1.wf s := by
  unfold zonX
  split
  · exact numZ_wf (takeX_wf h _) _
  · split
    · exact numZ_wf (takeX_wf h _) _
    · exact namZ_wf h
theorem mail_zonX (s : ByteArray) (x : X) (h : x.wf s) (hs : s.size ≤ 1000000) : g_mail_reader_zone_io (x.t s, ((s, ()), ())) = some ((zonX s.size x).1.t s, (((zonX s.size x).2.1, ()), (((zonX s.size x).2.2, ()), ((), ())))) := by
  have lL : (⟨#[65, 66, 67, 68, 69, 70, 71, 72, 73, 74, 75, 76, 77, 78, 79, 80, 81, 82, 83, 84, 85, 86, 87, 88, 89, 90, 97, 98, 99, 100, 101, 102, 103, 104, 105, 106, 107, 108, 109, 110, 111, 112, 113, 114, 115, 116, 117, 118, 119, 120, 121, 122]⟩ : ByteArray) = strOf letL := by kernel_rfl
  have oL : okBy letL := by intro y hy; simp only [letL, List.mem_cons, List.not_mem_nil, or_false] at hy; omega
  have a2 : ((2 : Nat) : Int) = 2 := rfl
  have num : ∀ x : X, x.wf s → (g_scan_Scanner_string_Figures_io (((s, (x.at s.size, (x.er, ()))), ()), ((), ((2, ()), ((2, ()), ())))) = some (((s, ((figX s.size 2 2 x).1.at s.size, ((figX s.size 2 2 x).1.er, ()))), ()), (((figX s.size 2 2 x).2, ()), ((), ()))) ∧
      g_scan_Scanner_string_Figures_io (((s, ((figX s.size 2 2 x).1.at s.size, ((figX s.size 2 2 x).1.er, ()))), ()), ((), ((2, ()), ((2, ()), ())))) = some (((s, ((figX s.size 2 2 (figX s.size 2 2 x).1).1.at s.size, ((figX s.size 2 2 (figX s.size 2 2 x).1).1.er, ()))), ()), (((figX s.size 2 2 (figX s.size 2 2 x).1).2, ()), ((), ()))) ∧
      imul .i64 (figX s.size 2 2 x).2 60 = (figX s.size 2 2 x).2 * 60 ∧ iadd .i64 ((figX s.size 2 2 x).2 * 60) (figX s.size 2 2 (figX s.size 2 2 x).1).2 = (figX s.size 2 2 x).2 * 60 + (figX s.size 2 2 (figX s.size 2 2 x).1).2 ∧
      ineg .i64 ((figX s.size 2 2 x).2 * 60 + (figX s.size 2 2 (figX s.size 2 2 x).1).2) = -((figX s.size 2 2 x).2 * 60 + (figX s.size 2 2 (figX s.size 2 2 x).1).2)) := fun x h => by
    have q1 := figX_val s.size 2 2 (by decide) x
    have q2 := figX_val s.size 2 2 (by decide) (figX s.size 2 2 x).1
    refine ⟨scan_figures s x h hs 2 2 (by decide), scan_figures s _ (figX_wf h 2 2) hs 2 2 (by decide), imul_i64 (by omega), iadd_i64 (by omega), ineg_i64 (by omega)⟩
  have h1 := scan_Take s x h hs 45
  simp only [X.t] at h1
  simp only [g_mail_reader_zone_io, f_mail_reader_zone_io_m, X.t, h1, Option.bind_some, lL]
  unfold zonX
  by_cases c1 : oneX 45 x = true
  · obtain ⟨n1, n2, n3, n4, n5⟩ := num _ (takeX_wf h 1)
    simp only [c1, if_true, Bool.not_true, cond_false, cond_true, n1, n2, n3, n4, n5, Option.bind_some, numZ]
    by_cases q1 : (figX s.size 2 2 (takeX 1 x)).2 < 24
    · simp [q1]
    · simp [q1]
  · simp only [Bool.not_eq_true] at c1
    have h2 := scan_Take s x h hs 43
    simp only [X.t] at h2
    simp only [c1, Bool.false_eq_true, if_false, Bool.not_false, cond_true, cond_false, h2, Option.bind_some]
    by_cases c2 : oneX 43 x = true
    · obtain ⟨n1, n2, n3, n4, n5⟩ := num _ (takeX_wf h 1)
      simp only [c2, if_true, Bool.not_true, cond_false, cond_true, n1, n2, n3, n4, n5, Option.bind_some, numZ, Bool.false_eq_true, if_false]
      by_cases q1 : (figX s.size 2 2 (takeX 1 x)).2 < 24
      · simp [q1]
      · simp [q1]
    · simp only [Bool.not_eq_true] at c2
      have h3 := scan_run s x h hs letL oL
      have ho := X.ok_rest h
      have h4 := mail_zone (x.rest.take (runN letL x.rest)) (okBy_take ho.1 _) (by rw [List.length_take]; omega)
      have h5 := scan_fail s (takeX (runN letL x.rest) x) 2
      simp only [X.t] at h3 h5
      simp only [c2, Bool.false_eq_true, if_false, Bool.not_false, cond_true, h3, h4, Option.bind_some, namZ]
      cases hv : (zoV ((x.rest.take (runN letL x.rest)).map up)).2
      · simp only [Bool.not_false, cond_true, h5, Option.bind_some, Bool.false_eq_true, if_false]
      · simp only [Bool.not_true, cond_false, if_true]
end Go.Proofs.YtddnfappkfiidaaGreat.Ev
