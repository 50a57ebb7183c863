/- Leap tables as texts: what a line does. -/
import Derived.Test.YtcnngodgngmghaaGreatDoorPuLstS
import Derived.Test.YtcnngodgngmghaaGreatDoorPuCal
namespace Go.Proofs.YtcnngodgngmghaaGreatDoor.Ev
open Go
set_option linter.unusedVariables false
set_option linter.unusedSimpArgs false
/-- What was read. -/
structure RS where
  up : Option Int
  ex : Option Int
  dg : Option (Int × (Int × (Int × (Int × Int))))
  rows : List (Int × Int)
@[reducible] def RS.t (r : RS) : ((Option Int) × ((Option Int) × ((Option (Int × (Int × (Int × (Int × Int))))) × Unit))) × ((List (Int × Int)) × Unit) := ((r.up, (r.ex, (r.dg, ()))), (r.rows, ()))
/-! ### a time -/
/-- What a time's rest says. -/
def timeF (l : List Int) : Int × Option Int :=
  ((figX l.length 1 13 (gapY l.length (.good l))).2, endY (figX l.length 1 13 (gapY l.length (.good l))).1)
theorem lst_time (l : List Int) (hl : okBy l) (hs : l.length ≤ 1000000) : ∃ y z : X, g_leaplist_gap_io ((X.good l).t (strOf l), ((), ())) = some (y.t (strOf l), ((), ())) ∧
    g_scan_Scanner_string_Figures_io (y.t (strOf l), ((), (((1 : Int), ()), (((13 : Int), ()), ())))) = some (z.t (strOf l), (((timeF l).1, ()), ((), ()))) ∧
    g_leaplist_end_io (z.t (strOf l), ((), ())) = some ((takeX (runN gL z.rest) z).t (strOf l), (((timeF l).2, ()), ((), ()))) := by
  have hz : (strOf l).size = l.length := str_size l
  have w0 : X.wf (strOf l) (.good l) := ⟨[], by rw [by_str hl]; rfl⟩
  have w1 := gapY_wf w0
  have h1 := lst_gap (strOf l) (.good l) w0 (by omega)
  have h2 := scan_figures (strOf l) _ w1 (by omega) 1 13 (by omega)
  have h3 := lst_end (strOf l) _ (figX_wf w1 1 13) (by omega)
  rw [hz] at h1 h2 h3
  exact ⟨_, _, h1, h2, h3⟩
theorem new_line (l : List Int) (hl : okBy l) : g_scan_New_string ((), ((strOf l, ()), ())) = some ((X.good l).t (strOf l), ((), ())) := by
  rw [scan_new, by_str hl]
/-! ### a digest -/
/-- So many words. -/
def sumX (n : Nat) : Nat → X → X × List Int
  | 0, x => (x, [])
  | k + 1, x => ((sumX n k (wdY n (gapY n x)).1).1, (wdY n (gapY n x)).2 :: (sumX n k (wdY n (gapY n x)).1).2)
theorem sumX_wf {s : ByteArray} : ∀ (k : Nat) (x : X), x.wf s → (sumX s.size k x).1.wf s
  | 0, _, h => h
  | k + 1, x, h => sumX_wf k (wdY s.size (gapY s.size x)).1 (wdY_wf (gapY_wf h))
@[reducible] def dig5 (l : List Int) : Int × (Int × (Int × (Int × Int))) := (l.getD 0 0, (l.getD 1 0, (l.getD 2 0, (l.getD 3 0, l.getD 4 0))))
def sumF (l : List Int) : List Int × Option Int := ((sumX l.length 5 (.good l)).2, endY (sumX l.length 5 (.good l)).1)
def onceD (r : RS) (l : List Int) : RS × Option Int :=
  match (sumF l).2 with
  | some c => (r, some c)
  | none => if r.dg.isSome then (r, some 2) else ({ r with dg := some (dig5 (sumF l).1) }, none)
theorem sum_end (r : RS) (s : ByteArray) (hs : s.size ≤ 1000000) (x : X) (h : x.wf s) (a b c d e : Int) : Evn (fun f => (f_leaplist_reader_sum_io_t f).1 (((r.up, (r.ex, (r.dg, ()))), (r.rows, ((s, (x.at s.size, (x.er, ()))), ((a, (b, (c, (d, (e, ()))))), ())))), ((), ((), ((), ((5, ()), ()))))))
    (((match endY x with | some c => r | none => if r.dg.isSome then r else { r with dg := some (a, (b, (c, (d, e)))) }).t, (((match endY x with | some c => some c | none => if r.dg.isSome then some 2 else none), ()), ((), ())))) := by
  have he := lst_end s x h hs
  simp only [X.t] at he
  refine Evn.some 1 fun f => ?_
  simp only [t_leaplist_reader_sum_io, f_leaplist_reader_sum_io_p5, he, fitsS_dec, Option.bind_some, Option.isNone_none, Option.isNone_some, Option.isSome_none, Option.isSome_some, Bool.not_true, Bool.not_false, cond_true, cond_false, cond_dec, beq_int, bne_int, not_dec]
  rw [if_neg (by decide)]
  cases endY x with
  | some c => rfl
  | none =>
    simp only [Option.isNone_none, Bool.not_true, cond_false]
    cases hd : r.dg with
    | some _ => simp [hd]
    | none => simp
theorem sum_4 (r : RS) (s : ByteArray) (hs : s.size ≤ 1000000) (x : X) (h : x.wf s) (a b c d e : Int) : Evn (fun f => (f_leaplist_reader_sum_io_t f).1 (((r.up, (r.ex, (r.dg, ()))), (r.rows, ((s, (x.at s.size, (x.er, ()))), ((a, (b, (c, (d, (e, ()))))), ())))), ((), ((), ((), ((4, ()), ()))))))
    (((match endY (sumX s.size 1 x).1 with | some c => r | none => if r.dg.isSome then r else { r with dg := some (a, (b, (c, (d, (sumX s.size 1 x).2.getD 0 0)))) }).t, (((match endY (sumX s.size 1 x).1 with | some c => some c | none => if r.dg.isSome then some 2 else none), ()), ((), ())))) := by
  have hg := lst_gap s x h hs
  have w1 := gapY_wf h
  have hw := lst_word s _ w1 hs
  simp only [X.t] at hg hw
  have hn := sum_end r s hs _ (wdY_wf w1) a b c d ((wdY s.size (gapY s.size x)).2)
  have e : sumX s.size 1 x = ((wdY s.size (gapY s.size x)).1, [(wdY s.size (gapY s.size x)).2]) := rfl
  rw [e]
  simp only [List.getD_cons_zero, List.getD_cons_succ]
  refine hn.step fun f => ?_
  simp only [t_leaplist_reader_sum_io, f_leaplist_reader_sum_io_p5, hg, hw, Option.bind_some, cond_true, cond_false, Bool.and_self, decide_true, decide_false, show decide ((4 : Int) < 5) = true from rfl, show decide ((0 : Int) ≤ 4) = true from rfl, show decide ((4 : Int) = 0) = false from rfl, show decide ((4 : Int) = 1) = false from rfl, show decide ((4 : Int) = 2) = false from rfl, show decide ((4 : Int) = 3) = false from rfl, show decide ((4 : Int) = 4) = true from rfl, show iadd .i64 (4 : Int) 1 = 5 from rfl]
theorem sum_3 (r : RS) (s : ByteArray) (hs : s.size ≤ 1000000) (x : X) (h : x.wf s) (a b c d e : Int) : Evn (fun f => (f_leaplist_reader_sum_io_t f).1 (((r.up, (r.ex, (r.dg, ()))), (r.rows, ((s, (x.at s.size, (x.er, ()))), ((a, (b, (c, (d, (e, ()))))), ())))), ((), ((), ((), ((3, ()), ()))))))
    (((match endY (sumX s.size 2 x).1 with | some c => r | none => if r.dg.isSome then r else { r with dg := some (a, (b, (c, ((sumX s.size 2 x).2.getD 0 0, (sumX s.size 2 x).2.getD 1 0)))) }).t, (((match endY (sumX s.size 2 x).1 with | some c => some c | none => if r.dg.isSome then some 2 else none), ()), ((), ())))) := by
  have hg := lst_gap s x h hs
  have w1 := gapY_wf h
  have hw := lst_word s _ w1 hs
  simp only [X.t] at hg hw
  have hn := sum_4 r s hs _ (wdY_wf w1) a b c ((wdY s.size (gapY s.size x)).2) e
  have e : sumX s.size 2 x = ((sumX s.size 1 (wdY s.size (gapY s.size x)).1).1, (wdY s.size (gapY s.size x)).2 :: (sumX s.size 1 (wdY s.size (gapY s.size x)).1).2) := rfl
  rw [e]
  simp only [List.getD_cons_zero, List.getD_cons_succ]
  refine hn.step fun f => ?_
  simp only [t_leaplist_reader_sum_io, f_leaplist_reader_sum_io_p5, hg, hw, Option.bind_some, cond_true, cond_false, Bool.and_self, decide_true, decide_false, show decide ((3 : Int) < 5) = true from rfl, show decide ((0 : Int) ≤ 3) = true from rfl, show decide ((3 : Int) = 0) = false from rfl, show decide ((3 : Int) = 1) = false from rfl, show decide ((3 : Int) = 2) = false from rfl, show decide ((3 : Int) = 3) = true from rfl, show iadd .i64 (3 : Int) 1 = 4 from rfl]
theorem sum_2 (r : RS) (s : ByteArray) (hs : s.size ≤ 1000000) (x : X) (h : x.wf s) (a b c d e : Int) : Evn (fun f => (f_leaplist_reader_sum_io_t f).1 (((r.up, (r.ex, (r.dg, ()))), (r.rows, ((s, (x.at s.size, (x.er, ()))), ((a, (b, (c, (d, (e, ()))))), ())))), ((), ((), ((), ((2, ()), ()))))))
    (((match endY (sumX s.size 3 x).1 with | some c => r | none => if r.dg.isSome then r else { r with dg := some (a, (b, ((sumX s.size 3 x).2.getD 0 0, ((sumX s.size 3 x).2.getD 1 0, (sumX s.size 3 x).2.getD 2 0)))) }).t, (((match endY (sumX s.size 3 x).1 with | some c => some c | none => if r.dg.isSome then some 2 else none), ()), ((), ())))) := by
  have hg := lst_gap s x h hs
  have w1 := gapY_wf h
  have hw := lst_word s _ w1 hs
  simp only [X.t] at hg hw
  have hn := sum_3 r s hs _ (wdY_wf w1) a b ((wdY s.size (gapY s.size x)).2) d e
  have e : sumX s.size 3 x = ((sumX s.size 2 (wdY s.size (gapY s.size x)).1).1, (wdY s.size (gapY s.size x)).2 :: (sumX s.size 2 (wdY s.size (gapY s.size x)).1).2) := rfl
  rw [e]
  simp only [List.getD_cons_zero, List.getD_cons_succ]
  refine hn.step fun f => ?_
  simp only [t_leaplist_reader_sum_io, f_leaplist_reader_sum_io_p5, hg, hw, Option.bind_some, cond_true, cond_false, Bool.and_self, decide_true, decide_false, show decide ((2 : Int) < 5) = true from rfl, show decide ((0 : Int) ≤ 2) = true from rfl, show decide ((2 : Int) = 0) = false from rfl, show decide ((2 : Int) = 1) = false from rfl, show decide ((2 : Int) = 2) = true from rfl, show iadd .i64 (2 : Int) 1 = 3 from rfl]
theorem sum_1 (r : RS) (s : ByteArray) (hs : s.size ≤ 1000000) (x : X) (h : x.wf s) (a b c d e : Int) : Evn (fun f => (f_leaplist_reader_sum_io_t f).1 (((r.up, (r.ex, (r.dg, ()))), (r.rows, ((s, (x.at s.size, (x.er, ()))), ((a, (b, (c, (d, (e, ()))))), ())))), ((), ((), ((), ((1, ()), ()))))))
    (((match endY (sumX s.size 4 x).1 with | some c => r | none => if r.dg.isSome then r else { r with dg := some (a, ((sumX s.size 4 x).2.getD 0 0, ((sumX s.size 4 x).2.getD 1 0, ((sumX s.size 4 x).2.getD 2 0, (sumX s.size 4 x).2.getD 3 0)))) }).t, (((match endY (sumX s.size 4 x).1 with | some c => some c | none => if r.dg.isSome then some 2 else none), ()), ((), ())))) := by
  have hg := lst_gap s x h hs
  have w1 := gapY_wf h
  have hw := lst_word s _ w1 hs
  simp only [X.t] at hg hw
  have hn := sum_2 r s hs _ (wdY_wf w1) a ((wdY s.size (gapY s.size x)).2) c d e
  have e : sumX s.size 4 x = ((sumX s.size 3 (wdY s.size (gapY s.size x)).1).1, (wdY s.size (gapY s.size x)).2 :: (sumX s.size 3 (wdY s.size (gapY s.size x)).1).2) := rfl
  rw [e]
  simp only [List.getD_cons_zero, List.getD_cons_succ]
  refine hn.step fun f => ?_
  simp only [t_leaplist_reader_sum_io, f_leaplist_reader_sum_io_p5, hg, hw, Option.bind_some, cond_true, cond_false, Bool.and_self, decide_true, decide_false, show decide ((1 : Int) < 5) = true from rfl, show decide ((0 : Int) ≤ 1) = true from rfl, show decide ((1 : Int) = 0) = false from rfl, show decide ((1 : Int) = 1) = true from rfl, show iadd .i64 (1 : Int) 1 = 2 from rfl]
theorem sum_0 (r : RS) (s : ByteArray) (hs : s.size ≤ 1000000) (x : X) (h : x.wf s) (a b c d e : Int) : Evn (fun f => (f_leaplist_reader_sum_io_t f).1 (((r.up, (r.ex, (r.dg, ()))), (r.rows, ((s, (x.at s.size, (x.er, ()))), ((a, (b, (c, (d, (e, ()))))), ())))), ((), ((), ((), ((0, ()), ()))))))
    (((match endY (sumX s.size 5 x).1 with | some c => r | none => if r.dg.isSome then r else { r with dg := some ((sumX s.size 5 x).2.getD 0 0, ((sumX s.size 5 x).2.getD 1 0, ((sumX s.size 5 x).2.getD 2 0, ((sumX s.size 5 x).2.getD 3 0, (sumX s.size 5 x).2.getD 4 0)))) }).t, (((match endY (sumX s.size 5 x).1 with | some c => some c | none => if r.dg.isSome then some 2 else none), ()), ((), ())))) := by
  have hg := lst_gap s x h hs
  have w1 := gapY_wf h
  have hw := lst_word s _ w1 hs
  simp only [X.t] at hg hw
  have hn := sum_1 r s hs _ (wdY_wf w1) ((wdY s.size (gapY s.size x)).2) b c d e
  have e : sumX s.size 5 x = ((sumX s.size 4 (wdY s.size (gapY s.size x)).1).1, (wdY s.size (gapY s.size x)).2 :: (sumX s.size 4 (wdY s.size (gapY s.size x)).1).2) := rfl
  rw [e]
  simp only [List.getD_cons_zero, List.getD_cons_succ]
  refine hn.step fun f => ?_
  simp only [t_leaplist_reader_sum_io, f_leaplist_reader_sum_io_p5, hg, hw, Option.bind_some, cond_true, cond_false, Bool.and_self, decide_true, decide_false, show decide ((0 : Int) < 5) = true from rfl, show decide ((0 : Int) ≤ 0) = true from rfl, show decide ((0 : Int) = 0) = true from rfl, show iadd .i64 (0 : Int) 1 = 1 from rfl]
theorem lst_sum (r : RS) (l : List Int) (hl : okBy l) (hs : l.length ≤ 1000000) : g_leaplist_reader_sum_io (r.t, ((), ((strOf l, ()), ()))) = some ((onceD r l).1.t, (((onceD r l).2, ()), ((), ()))) := by
  have hz : (strOf l).size = l.length := str_size l
  have w0 : X.wf (strOf l) (.good l) := ⟨[], by rw [by_str hl]; rfl⟩
  have h := sum_0 r (strOf l) (by omega) (.good l) w0 0 0 0 0 0
  rw [hz] at h
  have hn := new_line l hl
  simp only [X.t, hz] at hn
  unfold onceD sumF
  generalize sumX l.length 5 (.good l) = p at h ⊢
  have e : (((match endY p.1 with | some c => r | none => if r.dg.isSome then r else { r with dg := some (dig5 p.2) }).t, (((match endY p.1 with | some c => some c | none => if r.dg.isSome then some 2 else none), ()), ((), ())))) =
      (((match endY p.1 with | some c => ((r, some c) : RS × Option Int) | none => if r.dg.isSome then (r, some 2) else ({ r with dg := some (dig5 p.2) }, none)).1.t, (((match endY p.1 with | some c => ((r, some c) : RS × Option Int) | none => if r.dg.isSome then (r, some 2) else ({ r with dg := some (dig5 p.2) }, none)).2, ()), ((), ())))) := by
    cases endY p.1 with
    | some c => rfl
    | none =>
      simp only
      cases r.dg.isSome <;> rfl
  refine (Evn.cast (out := _) (e ▸ h) fun f => ?_).lim
  simp only [f_leaplist_reader_sum_io_m, RS.t, hn, Option.bind_some]
/-! ### a row -/
theorem mjd_start : g_mjd_Day ((), (((3 : Int), ()), (((0 : Int), ()), ()))) = some ((), ((-25567, ()), ((none, ()), ()))) := by
  have hz : g_mjd_zero ((), (((3 : Int), ()), ())) = some ((), ((25567, ()), ((none, ()), ()))) := rfl
  simp only [g_mjd_Day, f_mjd_Day_m, hz, day_first, day_last, fitsS_dec, Option.bind_some, Option.isNone_none, Option.isNone_some, Option.isSome_none, Option.isSome_some, Bool.not_true, Bool.not_false, cond_true, cond_false, cond_dec, beq_int, bne_int, not_dec]
  rw [iadd_i64 (by omega), iadd_i64 (by omega), isub_i64 (by omega)]
  rfl
/-- The day of a second. -/
def dayF (n : Int) : Int × Option Int := if n % 86400 = 0 then (n / 86400 - 25567, none) else (0, some 1)
theorem lst_first (n : Int) (h : 0 ≤ n ∧ n < 10000000000000) : g_leaplist_first ((), ((n, ()), ())) = some ((), (((dayF n).1, ()), (((dayF n).2, ()), ()))) := by
  have e1 : Int.tmod n 86400 = n % 86400 := Int.tmod_eq_emod_of_nonneg h.1
  have e2 : iquo .i64 n 86400 = n / 86400 := by
    unfold iquo
    rw [Int.tdiv_eq_ediv_of_nonneg h.1]
    exact IntWalk.i64_in _ (by omega)
  simp only [g_leaplist_first, f_leaplist_first_m, e1, e2, mjd_start, fitsS_dec, Option.bind_some, Option.isNone_none, Option.isNone_some, Option.isSome_none, Option.isSome_some, Bool.not_true, Bool.not_false, cond_true, cond_false, cond_dec, beq_int, bne_int, not_dec]
  unfold dayF
  by_cases c : n % 86400 = 0
  · rw [if_neg (not_not_intro c), if_pos c, iadd_i64 (by omega)]
    congr 4
    omega
  · rw [if_pos c, if_neg c]
theorem scan_skip_all (s : ByteArray) (x : X) (h : x.wf s) (hs : s.size ≤ 1000000) : g_scan_Scanner_string_Skip_io (x.t s, ((), (((x.rest.length : Int), ()), ()))) = some ((takeX x.rest.length x).t s, ((), ())) := by
  have hg := scan_going s x
  have hf := scan_left s x h
  have ht := scan_take s x h hs x.rest.length (Nat.le_refl _)
  simp only [X.p] at hg hf
  simp only [X.t] at ht
  simp only [g_scan_Scanner_string_Skip_io, f_scan_Scanner_string_Skip_io_m, X.t, hg, hf, fitsS_dec, Option.bind_some, Option.isNone_none, Option.isNone_some, Option.isSome_none, Option.isSome_some, Bool.not_true, Bool.not_false, cond_true, cond_false, cond_dec, beq_int, bne_int, not_dec, gt_iff_lt, Int.lt_irrefl, ht]
  cases x with
  | good l =>
    simp only [X.er, Option.isNone_none, Bool.not_true, cond_false, Bool.false_eq_true, if_false, not_true_eq_false]
    rw [if_neg (by omega)]
  | bad i c => rfl
def tailX (x : X) : X :=
  if runN gL x.rest = 0 then x else
    if oneX 35 (takeX (runN gL x.rest) x) then takeX (takeX 1 (takeX (runN gL x.rest) x)).rest.length (takeX 1 (takeX (runN gL x.rest) x)) else takeX (runN gL x.rest) x
/-- What a row says: where its reader ends, its seconds and its offset. -/
def rowX (l : List Int) : X × (Int × Int) :=
  let n := l.length
  let a := figX n 1 13 (takeX (runN gL l) (.good l))
  let b := figX n 1 4 (gapY n a.1)
  (tailX b.1, (a.2, b.2))
def rowF (l : List Int) : Option Int × List (Int × Int) :=
  match (rowX l).1.end with
  | some c => (some c, [])
  | none => match (dayF (rowX l).2.1).2 with
    | some c => (some c, [])
    | none => (none, [((dayF (rowX l).2.1).1, (rowX l).2.2)])
theorem lst_row (r : RS) (l : List Int) (hl : okBy l) (hs : l.length ≤ 1000000) (hr : r.rows.length ≤ 1000000) : g_leaplist_reader_row_io (r.t, ((), ((strOf l, ()), ()))) = some (({ r with rows := r.rows ++ (rowF l).2 } : RS).t, (((rowF l).1, ()), ((), ()))) := by
  have hz : (strOf l).size = l.length := str_size l
  have w0 : X.wf (strOf l) (.good l) := ⟨[], by rw [by_str hl]; rfl⟩
  have hn := new_line l hl
  have h1 := scan_run (strOf l) (.good l) w0 (by omega) gL gL_ok
  have w1 := takeX_wf w0 (runN gL l)
  have h2 := scan_figures (strOf l) _ w1 (by omega) 1 13 (by omega)
  have w2 := figX_wf w1 1 13
  have v2 := figX_val l.length 1 13 (by omega) (takeX (runN gL l) (.good l))
  have h3 := lst_gap (strOf l) _ w2 (by omega)
  have w3 := gapY_wf w2
  have h4 := scan_figures (strOf l) _ w3 (by omega) 1 4 (by omega)
  have w4 := figX_wf w3 1 4
  rw [hz] at h2 h3 h4 w2 w3 w4
  have hrow : (rowX l) = (tailX (figX l.length 1 4 (gapY l.length (figX l.length 1 13 (takeX (runN gL l) (.good l))).1)).1, ((figX l.length 1 13 (takeX (runN gL l) (.good l))).2, (figX l.length 1 4 (gapY l.length (figX l.length 1 13 (takeX (runN gL l) (.good l))).1)).2)) := rfl
  generalize figX l.length 1 13 (takeX (runN gL l) (.good l)) = a at *
  generalize figX l.length 1 4 (gapY l.length a.1) = b at *
  have h5 := scan_run (strOf l) b.1 w4 (by omega) gL gL_ok
  have w5 := takeX_wf w4 (runN gL b.1.rest)
  have h6 := scan_Take (strOf l) _ w5 (by omega) 35
  have fin : ∀ z : X, z.wf (strOf l) → z = tailX b.1 → (g_scan_Scanner_string_End ((), ((z.p (strOf l), ()), ())) = some ((), ((z.end, ()), ()))) := fun z hz _ => scan_end _ z hz
  have hday := lst_first a.2 (by rw [show (10000000000000 : Int) = 10 ^ 13 from rfl]; exact v2)
  have he := str_emp (b.1.rest.take (runN gL b.1.rest))
  simp only [take_run] at he
  have room : ∀ x : Int × Int, decide (((r.rows.length + [x].length) * 16 : Nat) ≤ 140737488355328) = true ∧ decide (r.rows.length + [x].length ≤ 9223372036854775807) = true := fun x => by
    simp only [List.length_cons, List.length_nil, decide_eq_true_eq]; omega
  have post : ∀ (o : Option Int) (x : Int × Int), o = (rowX l).1.end → x = ((dayF a.2).1, b.2) → (match o with
      | some c => (some (r.t, ((some c, ()), ((), ()))) : Option ((((Option Int) × ((Option Int) × ((Option (Int × (Int × (Int × (Int × Int))))) × Unit))) × ((List (Int × Int)) × Unit)) × (((Option Int) × Unit) × (Unit × Unit))))
      | none => match (dayF a.2).2 with
        | some c => some (r.t, ((some c, ()), ((), ())))
        | none => some (({ r with rows := r.rows ++ [x] } : RS).t, ((none, ()), ((), ())))) = some (({ r with rows := r.rows ++ (rowF l).2 } : RS).t, (((rowF l).1, ()), ((), ()))) := by
    intro o x ho hx
    subst hx
    unfold rowF
    rw [← ho, hrow]
    cases o with
    | some c => simp
    | none =>
      simp only
      cases hq : (dayF a.2).2 with
      | some c => simp
      | none => simp
  have k1 : ((1 : Nat) : Int) = 1 := rfl
  have k13 : ((13 : Nat) : Int) = 13 := rfl
  have k4 : ((4 : Nat) : Int) = 4 := rfl
  rw [show (X.good l).rest = l from rfl] at h1
  rw [k1, k13] at h2
  rw [k1, k4] at h4
  simp only [X.t, hz] at hn h1 h2 h3 h4 h5 h6
  simp only [g_leaplist_reader_row_io, f_leaplist_reader_row_io_m, lst_gs, RS.t, hn, h1, h2, h3, h4, h5, Option.bind_some, sc_nil, he, not_dec, cond_dec]
  by_cases c0 : runN gL b.1.rest = 0
  · have ht : tailX b.1 = b.1 := by unfold tailX; rw [if_pos c0]
    have hend := scan_end (strOf l) b.1 w4
    simp only [X.p, hz] at hend
    rw [if_neg (not_not_intro c0), c0, takeX_zero]
    simp only [hend, hday, Option.bind_some]
    have hp := post b.1.end ((dayF a.2).1, b.2) (by rw [hrow, ht]) rfl
    cases hb : b.1.end with
    | some c => rw [hb] at hp; exact hp
    | none =>
      rw [hb] at hp
      cases hd : (dayF a.2).2 with
      | some c => rw [hd] at hp; simp only [Option.isNone_none, Option.isNone_some, Bool.not_true, Bool.not_false, cond_true, cond_false]; exact hp
      | none =>
        rw [hd] at hp
        simp only [Option.isNone_none, Bool.not_true, cond_false, (room _).1, (room _).2, Bool.and_self, cond_true]; exact hp
  · rw [if_pos c0]
    simp only [h6, Option.bind_some]
    by_cases c1 : oneX 35 (takeX (runN gL b.1.rest) b.1) = true
    · have ht : tailX b.1 = takeX (takeX 1 (takeX (runN gL b.1.rest) b.1)).rest.length (takeX 1 (takeX (runN gL b.1.rest) b.1)) := by unfold tailX; rw [if_neg c0, if_pos c1]
      have w6 := takeX_wf w5 1
      have hleft := scan_left (strOf l) _ w6
      have hskip := scan_skip_all (strOf l) _ w6 (by omega)
      have w7 := takeX_wf w6 (takeX 1 (takeX (runN gL b.1.rest) b.1)).rest.length
      have hend := scan_end (strOf l) _ w7
      simp only [X.p, hz] at hleft hend
      simp only [X.t, hz] at hskip
      simp only [c1, if_true, cond_true, hleft, hskip, hend, hday, Option.bind_some]
      have hp := post _ ((dayF a.2).1, b.2) (show (takeX (takeX 1 (takeX (runN gL b.1.rest) b.1)).rest.length (takeX 1 (takeX (runN gL b.1.rest) b.1))).end = _ by rw [hrow, ht]) rfl
      cases hb : (takeX (takeX 1 (takeX (runN gL b.1.rest) b.1)).rest.length (takeX 1 (takeX (runN gL b.1.rest) b.1))).end with
      | some c => rw [hb] at hp; exact hp
      | none =>
        rw [hb] at hp
        cases hd : (dayF a.2).2 with
        | some c => rw [hd] at hp; simp only [Option.isNone_none, Option.isNone_some, Bool.not_true, Bool.not_false, cond_true, cond_false]; exact hp
        | none =>
          rw [hd] at hp
          simp only [Option.isNone_none, Bool.not_true, cond_false, (room _).1, (room _).2, Bool.and_self, cond_true]; exact hp
    · have c1' : oneX 35 (takeX (runN gL b.1.rest) b.1) = false := by simpa using c1
      have ht : tailX b.1 = takeX (runN gL b.1.rest) b.1 := by unfold tailX; rw [if_neg c0, if_neg c1]
      have hend := scan_end (strOf l) _ w5
      simp only [X.p, hz] at hend
      simp only [c1', Bool.false_eq_true, if_false, cond_false, hend, hday, Option.bind_some]
      have hp := post _ ((dayF a.2).1, b.2) (show (takeX (runN gL b.1.rest) b.1).end = _ by rw [hrow, ht]) rfl
      cases hb : (takeX (runN gL b.1.rest) b.1).end with
      | some c => rw [hb] at hp; exact hp
      | none =>
        rw [hb] at hp
        cases hd : (dayF a.2).2 with
        | some c => rw [hd] at hp; simp only [Option.isNone_none, Option.isNone_some, Bool.not_true, Bool.not_false, cond_true, cond_false]; exact hp
        | none =>
          rw [hd] at hp
          simp only [Option.isNone_none, Bool.not_true, cond_false, (room _).1, (room _).2, Bool.and_self, cond_true]; exact hp
end Go.Proofs.YtcnngodgngmghaaGreatDoor.Ev
