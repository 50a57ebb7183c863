/- Addresses, by the program. -/
import Derived.Test.YtodnllhjikeafaaDoorPuRefidA
import Derived.Test.YtodnllhjikeafaaDoorPuRun
namespace Go.Proofs.YtodnllhjikeafaaDoor.Ev
open Go
set_option linter.unusedVariables false
set_option linter.unusedSimpArgs false
theorem lead_allR : ∀ l : List Int, (∀ x ∈ l, isF x) → lead l = l.length
  | [], _ => rfl
  | x :: l, h => by
    unfold lead
    rw [if_pos (h x List.mem_cons_self), lead_allR l (fun y hy => h y (List.mem_cons_of_mem _ hy))]; rfl
theorem row_whole (l : List Int) (hl : l.length ≤ 1000000) (hf : ∀ x ∈ l, isF x) : g_figures_Whole ((), ((strOf l, ()), ((1, ()), ((3, ()), ())))) =
    some ((), ((if 1 ≤ l.length ∧ l.length ≤ 3 then val10 l else 0, ()), ((if 1 ≤ l.length ∧ l.length ≤ 3 then none else some 2, ()), ()))) := by
  have ho : okBy l := fun x hx => by
    have := hf x hx
    unfold isF at this; omega
  have ht := fig_take (strOf l) (by rw [str_size]; exact hl) 1 3 9223372036854775807 (by omega)
  unfold takeE takeK cutV at ht
  rw [by_str ho, lead_allR l hf, show Int.toNat 3 = 3 from rfl] at ht
  simp only [show ¬((1 : Int) < 1 ∨ (3 : Int) < 1 ∨ (20 : Int) < 3) by decide, if_false] at ht
  simp only [g_figures_Whole, f_figures_Whole_m, g_figures_whole, f_figures_whole_m, ht, Option.bind_some, str_size]
  by_cases c : 1 ≤ l.length
  · have hv := val10_range _ (l.take (min l.length 3)) rfl (fun x hx => hf x (List.mem_of_mem_take hx))
    have hp : (10 : Int) ^ (l.take (min l.length 3)).length ≤ 10 ^ 3 := by
      have : 10 ^ (l.take (min l.length 3)).length ≤ 10 ^ 3 := Nat.pow_le_pow_right (by omega) (by rw [List.length_take]; omega)
      exact_mod_cast this
    rw [if_neg (show ¬((min l.length 3 : Nat) : Int) < 1 by omega), if_pos (show val10 (l.take (min l.length 3)) ≤ 9223372036854775807 by omega), if_pos rfl, if_pos rfl]
    by_cases c2 : l.length ≤ 3
    · have e : min l.length 3 = l.length := by omega
      rw [e, List.take_length] at hv hp ⊢
      simp only [errOf_zero, fitsS_dec, Option.bind_some, Option.isNone_none, Option.isNone_some, Option.isSome_none, Option.isSome_some, Bool.not_true, Bool.not_false, cond_true, cond_false, cond_dec, beq_int, bne_int, not_dec]
      rw [if_neg (by omega)]
      simp only [Option.bind_some]
      rw [if_pos ⟨c, c2⟩, if_pos ⟨c, c2⟩, iconv_i64 (by omega)]
    · simp only [errOf_zero, fitsS_dec, Option.bind_some, Option.isNone_none, Option.isNone_some, Option.isSome_none, Option.isSome_some, Bool.not_true, Bool.not_false, cond_true, cond_false, cond_dec, beq_int, bne_int, not_dec]
      rw [if_pos (by omega)]
      simp only [Option.bind_some]
      rw [if_neg (fun q => c2 q.2), if_neg (fun q => c2 q.2), iconv_i64 (by omega)]
  · rw [if_pos (show ((min l.length 3 : Nat) : Int) < 1 by omega), if_neg (by decide), if_neg (by decide), if_neg (fun q => c q.1), if_neg (fun q => c q.1)]
    rw [show errOf 2 = some 2 from rfl]
    simp only [fitsS_dec, Option.bind_some, Option.isNone_none, Option.isNone_some, Option.isSome_none, Option.isSome_some, Bool.not_true, Bool.not_false, cond_true, cond_false, cond_dec, beq_int, bne_int, not_dec]
    first | done | (rw [iconv_i64 (by omega)])
/-- A row read. -/
def rowX (n : Nat) (x : X) : X × Int :=
  if rowOk (x.rest.take (lead x.rest)) then (takeX (lead x.rest) x, val10 (x.rest.take (lead x.rest)))
  else (failX n 2 (takeX (lead x.rest) x), if (x.rest.take (lead x.rest)).length ≤ 3 then val10 (x.rest.take (lead x.rest)) else 0)
theorem lead_figs (l : List Int) : ∀ x ∈ l.take (lead l), isF x := sc_lead_figs (Nat.le_refl _)
theorem figL_str : (⟨#[48, 49, 50, 51, 52, 53, 54, 55, 56, 57]⟩ : ByteArray) = strOf figL := by kernel_rfl
theorem refid_row (s : ByteArray) (x : X) (h : x.wf s) (hs : s.size ≤ 1000000) : g_refid_row_io (x.t s, ((), ())) = some ((rowX s.size x).1.t s, (((rowX s.size x).2, ()), ((), ()))) := by
  have hr := scan_run s x h hs figL (by intro y hy; simp only [figL, List.mem_cons, List.not_mem_nil, or_false] at hy; omega)
  rw [run_lead] at hr
  have hrest := X.ok_rest h
  have hlen : (x.rest.take (lead x.rest)).length ≤ 1000000 := by rw [List.length_take]; omega
  have hw := row_whole (x.rest.take (lead x.rest)) hlen (lead_figs _)
  simp only [g_refid_row_io, f_refid_row_io_m, figL_str, hr, fitsS_dec, Option.bind_some, Option.isNone_none, Option.isNone_some, Option.isSome_none, Option.isSome_some, Bool.not_true, Bool.not_false, cond_true, cond_false, cond_dec, beq_int, bne_int, not_dec, hw, gt_iff_lt, str_size, and_dec]
  have hok : okBy (x.rest.take (lead x.rest)) := fun y hy => hrest.1 y (List.mem_of_mem_take hy)
  have hfl := lead_figs x.rest
  unfold rowX
  generalize hT : x.rest.take (lead x.rest) = t at *
  generalize takeX (lead x.rest) x = x1
  by_cases c : 1 ≤ t.length ∧ t.length ≤ 3
  · simp only [c, and_self, if_true, Option.isNone_none, Bool.not_true, cond_false]
    by_cases d : 1 < (t.length : Int)
    · have hb : bt (strOf t) 0 = t.getD 0 0 := by
        rw [by_at (strOf t) (by omega) (by rw [str_size]; omega), by_str hok]; rfl
      rw [if_pos d, if_pos (by omega), hb]
      by_cases q : t.getD 0 0 = 48
      · have hn : ¬ rowOk t := fun r => r.2.2 ⟨by omega, q⟩
        rw [if_pos q, scan_fail s x1 2, if_neg hn]
        rfl
      · have hy : rowOk t := ⟨c, hfl, fun r => q r.2⟩
        rw [if_neg q, if_pos hy]
    · have hy : rowOk t := ⟨c, hfl, fun r => d (by omega)⟩
      rw [if_neg d, if_pos hy]
  · have hn : ¬ rowOk t := fun r => c r.1
    simp only [c, if_false, Option.isNone_some, Bool.not_false, cond_true]
    rw [scan_fail s x1 2, if_neg hn]
    simp only [Option.bind_some]
    by_cases d : t.length ≤ 3
    · have : t = [] := List.eq_nil_of_length_eq_zero (by omega)
      subst this; rfl
    · rw [if_neg d]
@[reducible] def setC (i : Nat) (v : Int) (q : Int × (Int × (Int × (Int × Unit)))) : Int × (Int × (Int × (Int × Unit))) :=
  (if i = 0 then v else q.1, (if i = 1 then v else q.2.1, (if i = 2 then v else q.2.2.1, (if i = 3 then v else q.2.2.2.1, ()))))
theorem pa_p14 (xt : ByteArray × (Int × (Option Int × Unit))) (codes : Int × (Int × (Int × (Int × Unit)))) (fits : Bool) (i : Nat) (hi : i < 4) (n : Int) {o : po_refid_ParseAddress.den}
    (h : Evn (fun f => (f_refid_ParseAddress_t f).1 ((z4, (xt, (setC i (n % 256) codes, ()))), ((), ((), ((), ((fits, ()), ((((i + 1 : Nat) : Int), ()), ()))))))) o) :
    Evn (fun f => (f_refid_ParseAddress_t f).2.1 ((z4, (xt, (codes, ()))), ((), ((), ((), ((fits, ()), (((i : Int), ()), ((n, ()), (((i : Int), ()), ()))))))))) o := by
  refine h.step fun f => ?_
  rw [t_refid_ParseAddress]
  simp only [f_refid_ParseAddress_p14, fitsS_dec, Option.bind_some, Option.isNone_none, Option.isNone_some, Option.isSome_none, Option.isSome_some, Bool.not_true, Bool.not_false, cond_true, cond_false, cond_dec, beq_int, bne_int, not_dec, and_dec, iconv_u8]
  rw [if_pos (by omega), iadd_i64 (by omega)]
  have : i = 0 ∨ i = 1 ∨ i = 2 ∨ i = 3 := by omega
  rcases this with rfl | rfl | rfl | rfl <;> simp [setC] <;> rfl
/-- Ahead of a row: a point, but for the first one. -/
def preX (n i : Nat) (x : X) : X := if i = 0 then x else if oneX 46 x then takeX 1 x else failX n 2 x
theorem preX_wf {s : ByteArray} {x : X} (h : x.wf s) (i : Nat) : (preX s.size i x).wf s := by
  unfold preX
  split
  · exact h
  · split
    · exact takeX_wf h 1
    · exact failX_wf h 2
theorem rowX_wf {s : ByteArray} {x : X} (h : x.wf s) : (rowX s.size x).1.wf s := by
  unfold rowX
  split
  · exact takeX_wf h _
  · exact failX_wf (takeX_wf h _) 2
theorem pa_step (s : ByteArray) (hs : s.size ≤ 1000) (x : X) (hx : x.wf s) (codes : Int × (Int × (Int × (Int × Unit)))) (fits : Bool) (i : Nat) (hi : i < 4) {o : po_refid_ParseAddress.den}
    (h : Evn (fun f => (f_refid_ParseAddress_t f).1 ((z4, (((rowX s.size (preX s.size i x)).1.t s).1, (setC i ((rowX s.size (preX s.size i x)).2 % 256) codes, ()))), ((), ((), ((), (((fits && decide ((rowX s.size (preX s.size i x)).2 ≤ 255)), ()), ((((i + 1 : Nat) : Int), ()), ()))))))) o) :
    Evn (fun f => (f_refid_ParseAddress_t f).1 ((z4, ((x.t s).1, (codes, ()))), ((), ((), ((), ((fits, ()), (((i : Int), ()), ()))))))) o := by
  have h14 := pa_p14 _ codes _ i hi _ h
  have hpre := preX_wf hx i
  have hrow := refid_row s _ hpre (by omega)
  refine h14.step fun f => ?_
  rw [t_refid_ParseAddress]
  simp only [f_refid_ParseAddress_p6, fitsS_dec, Option.bind_some, Option.isNone_none, Option.isNone_some, Option.isSome_none, Option.isSome_some, Bool.not_true, Bool.not_false, cond_true, cond_false, cond_dec, beq_int, bne_int, not_dec, gt_iff_lt]
  rw [if_pos (by omega)]
  by_cases c : i = 0
  · have e : preX s.size i x = x := if_pos c
    rw [e] at hrow ⊢
    rw [if_neg (by omega)]
    have hrow' : g_refid_row_io (((x.t s).1, ()), ((), ())) = _ := hrow
    rw [hrow']
    simp only [Option.bind_some]
    cases fits <;> rfl
  · rw [if_pos (by omega)]
    have hT := scan_Take s x hx (by omega) 46
    have hT' : g_scan_Scanner_string_Take_io (((x.t s).1, ()), ((), ((46, ()), ()))) = _ := hT
    rw [hT']
    simp only [Option.bind_some]
    cases hq : oneX 46 x with
    | true =>
      have e : preX s.size i x = takeX 1 x := by unfold preX; rw [if_neg c, hq]; rfl
      rw [e] at hrow ⊢
      simp only [fitsS_dec, Option.bind_some, Option.isNone_none, Option.isNone_some, Option.isSome_none, Option.isSome_some, Bool.not_true, Bool.not_false, cond_true, cond_false, cond_dec, beq_int, bne_int, not_dec, if_true, hrow, Bool.true_eq_false, if_false]
      cases fits <;> simp [hrow] <;> rfl
    | false =>
      have e : preX s.size i x = failX s.size 2 x := by unfold preX; rw [if_neg c, hq]; rfl
      have hF := scan_fail s x 2
      rw [e] at hrow ⊢
      simp only [fitsS_dec, Option.bind_some, Option.isNone_none, Option.isNone_some, Option.isSome_none, Option.isSome_some, Bool.not_true, Bool.not_false, cond_true, cond_false, cond_dec, beq_int, bne_int, not_dec, if_false, Bool.false_eq_true, hF, hrow]
      cases fits <;> simp [hF, hrow] <;> rfl
theorem pa_end (s : ByteArray) (x : X) (hx : x.wf s) (codes : Int × (Int × (Int × (Int × Unit)))) (fits : Bool) :
    Evn (fun f => (f_refid_ParseAddress_t f).1 ((z4, ((x.t s).1, (codes, ()))), ((), ((), ((), ((fits, ()), ((4, ()), ()))))))) ((), (if x.end = none then (if fits then (codes, ((none, ()), ())) else (z4, ((some 1, ()), ()))) else (z4, ((some 2, ()), ())))) := by
  refine Evn.some 1 fun f => ?_
  rw [t_refid_ParseAddress]
  have hE := scan_end s x hx
  have hE' : g_scan_Scanner_string_End ((), ((some ((x.t s).1.1, ((x.t s).1.2.1, (x.t s).1.2.2.1)), ()), ())) = _ := hE
  simp only [f_refid_ParseAddress_p6, fitsS_dec, Option.bind_some, Option.isNone_none, Option.isNone_some, Option.isSome_none, Option.isSome_some, Bool.not_true, Bool.not_false, cond_true, cond_false, cond_dec, beq_int, bne_int, not_dec]
  rw [if_neg (by omega), hE']
  simp only [Option.bind_some]
  cases hq : x.end with
  | none => cases fits <;> simp
  | some c => simp
theorem refid_address (s : ByteArray) (hs : s.size ≤ 1000) : ∃ r1 r2 r3 r4 : X × Int, r1 = rowX s.size (preX s.size 0 (.good (bytesOf s))) ∧ r2 = rowX s.size (preX s.size 1 r1.1) ∧ r3 = rowX s.size (preX s.size 2 r2.1) ∧ r4 = rowX s.size (preX s.size 3 r3.1) ∧
    g_refid_ParseAddress ((), ((s, ()), ())) = some ((), (if r4.1.end = none then (if (((true && decide (r1.2 ≤ 255)) && decide (r2.2 ≤ 255)) && decide (r3.2 ≤ 255)) && decide (r4.2 ≤ 255) then
      (setC 3 (r4.2 % 256) (setC 2 (r3.2 % 256) (setC 1 (r2.2 % 256) (setC 0 (r1.2 % 256) z4))), ((none, ()), ())) else (z4, ((some 1, ()), ()))) else (z4, ((some 2, ()), ())))) := by
  have w0 := X.wf_new s
  obtain ⟨r1, e1⟩ : ∃ r, r = rowX s.size (preX s.size 0 (.good (bytesOf s))) := ⟨_, rfl⟩
  have w1 : r1.1.wf s := by rw [e1]; exact rowX_wf (preX_wf w0 0)
  obtain ⟨r2, e2⟩ : ∃ r, r = rowX s.size (preX s.size 1 r1.1) := ⟨_, rfl⟩
  have w2 : r2.1.wf s := by rw [e2]; exact rowX_wf (preX_wf w1 1)
  obtain ⟨r3, e3⟩ : ∃ r, r = rowX s.size (preX s.size 2 r2.1) := ⟨_, rfl⟩
  have w3 : r3.1.wf s := by rw [e3]; exact rowX_wf (preX_wf w2 2)
  obtain ⟨r4, e4⟩ : ∃ r, r = rowX s.size (preX s.size 3 r3.1) := ⟨_, rfl⟩
  have w4 : r4.1.wf s := by rw [e4]; exact rowX_wf (preX_wf w3 3)
  refine ⟨r1, r2, r3, r4, e1, e2, e3, e4, ?_⟩
  have k4 := pa_end s r4.1 w4 (setC 3 (r4.2 % 256) (setC 2 (r3.2 % 256) (setC 1 (r2.2 % 256) (setC 0 (r1.2 % 256) z4)))) ((((true && decide (r1.2 ≤ 255)) && decide (r2.2 ≤ 255)) && decide (r3.2 ≤ 255)) && decide (r4.2 ≤ 255))
  have k3 := pa_step s hs r3.1 w3 (setC 2 (r3.2 % 256) (setC 1 (r2.2 % 256) (setC 0 (r1.2 % 256) z4))) (((true && decide (r1.2 ≤ 255)) && decide (r2.2 ≤ 255)) && decide (r3.2 ≤ 255)) 3 (by decide) (by rw [← e4]; exact k4)
  have k2 := pa_step s hs r2.1 w2 (setC 1 (r2.2 % 256) (setC 0 (r1.2 % 256) z4)) ((true && decide (r1.2 ≤ 255)) && decide (r2.2 ≤ 255)) 2 (by decide) (by rw [← e3]; exact k3)
  have k1 := pa_step s hs r1.1 w1 (setC 0 (r1.2 % 256) z4) (true && decide (r1.2 ≤ 255)) 1 (by decide) (by rw [← e2]; exact k2)
  have k0 := pa_step s hs (.good (bytesOf s)) w0 z4 true 0 (by decide) (by rw [← e1]; exact k1)
  refine (k0.cast fun f => ?_).lim
  simp only [f_refid_ParseAddress_m, scan_new, Option.bind_some]
  rfl
end Go.Proofs.YtodnllhjikeafaaDoor.Ev
