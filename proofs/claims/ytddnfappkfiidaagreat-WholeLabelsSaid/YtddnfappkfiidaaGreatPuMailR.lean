/- Mail dates: the reader's parts. -/
import Derived.Test.YtddnfappkfiidaaGreatPuMailX
namespace Go.Proofs.YtddnfappkfiidaaGreat.Ev
open Go
set_option linter.unusedVariables false
set_option linter.unusedSimpArgs false
@[reducible] def wkT : ByteArray := ⟨#[77, 111, 110, 84, 117, 101, 87, 101, 100, 84, 104, 117, 70, 114, 105, 83, 97, 116, 83, 117, 110]⟩
@[reducible] def moT : ByteArray := ⟨#[74, 97, 110, 70, 101, 98, 77, 97, 114, 65, 112, 114, 77, 97, 121, 74, 117, 110, 74, 117, 108, 65, 117, 103, 83, 101, 112, 79, 99, 116, 78, 111, 118, 68, 101, 99]⟩
@[reducible] def wkL : List (List Int) := [[77, 111, 110], [84, 117, 101], [87, 101, 100], [84, 104, 117], [70, 114, 105], [83, 97, 116], [83, 117, 110]]
@[reducible] def moL : List (List Int) := [[74, 97, 110], [70, 101, 98], [77, 97, 114], [65, 112, 114], [77, 97, 121], [74, 117, 110], [74, 117, 108], [65, 117, 103], [83, 101, 112], [79, 99, 116], [78, 111, 118], [68, 101, 99]]
def wkN (i : Nat) : List Int := wkL.getD (i - 1) []
def moN (i : Nat) : List Int := moL.getD (i - 1) []
theorem wk_name : ∀ i : Nat, 1 ≤ i → i ≤ 7 → g_mail_name ((), ((wkT, ()), (((i : Int), ()), ()))) = some ((), ((strOf (wkN i), ()), ())) ∧ okBy (wkN i) ∧ (wkN i).length ≤ 1000
  | 0, h, _ => absurd h (by decide)
  | 1, _, _ => ⟨by kernel_rfl, by unfold okBy; decide, by decide⟩
  | 2, _, _ => ⟨by kernel_rfl, by unfold okBy; decide, by decide⟩
  | 3, _, _ => ⟨by kernel_rfl, by unfold okBy; decide, by decide⟩
  | 4, _, _ => ⟨by kernel_rfl, by unfold okBy; decide, by decide⟩
  | 5, _, _ => ⟨by kernel_rfl, by unfold okBy; decide, by decide⟩
  | 6, _, _ => ⟨by kernel_rfl, by unfold okBy; decide, by decide⟩
  | 7, _, _ => ⟨by kernel_rfl, by unfold okBy; decide, by decide⟩
  | (n + 8), _, h => absurd h (by omega)
theorem mo_name : ∀ i : Nat, 1 ≤ i → i ≤ 12 → g_mail_name ((), ((moT, ()), (((i : Int), ()), ()))) = some ((), ((strOf (moN i), ()), ())) ∧ okBy (moN i) ∧ (moN i).length ≤ 1000
  | 0, h, _ => absurd h (by decide)
  | 1, _, _ => ⟨by kernel_rfl, by unfold okBy; decide, by decide⟩
  | 2, _, _ => ⟨by kernel_rfl, by unfold okBy; decide, by decide⟩
  | 3, _, _ => ⟨by kernel_rfl, by unfold okBy; decide, by decide⟩
  | 4, _, _ => ⟨by kernel_rfl, by unfold okBy; decide, by decide⟩
  | 5, _, _ => ⟨by kernel_rfl, by unfold okBy; decide, by decide⟩
  | 6, _, _ => ⟨by kernel_rfl, by unfold okBy; decide, by decide⟩
  | 7, _, _ => ⟨by kernel_rfl, by unfold okBy; decide, by decide⟩
  | 8, _, _ => ⟨by kernel_rfl, by unfold okBy; decide, by decide⟩
  | 9, _, _ => ⟨by kernel_rfl, by unfold okBy; decide, by decide⟩
  | 10, _, _ => ⟨by kernel_rfl, by unfold okBy; decide, by decide⟩
  | 11, _, _ => ⟨by kernel_rfl, by unfold okBy; decide, by decide⟩
  | 12, _, _ => ⟨by kernel_rfl, by unfold okBy; decide, by decide⟩
  | (n + 13), _, h => absurd h (by omega)
theorem mb1 {x : Int} (h : 0 ≤ x ∧ x < 256) : okBy [x] := fun y hy => by
  simp only [List.mem_cons, List.not_mem_nil, or_false] at hy
  rw [hy]; exact h
/-! ### the weekday -/
def wkX (n : Nat) (x : X) : X × Int :=
  if (oneK wkN 7 1 x).2 = 0 then ((oneK wkN 7 1 x).1, 0) else ((gapX n (mustX n [44] (gapX n (oneK wkN 7 1 x).1).1)).1, (oneK wkN 7 1 x).2)
theorem wkX_wf {s : ByteArray} {x : X} (h : x.wf s) : (wkX s.size x).1.wf s := by
  unfold wkX
  split
  · exact oneK_wf h
  · exact gapX_wf (mustX_wf (gapX_wf (oneK_wf h)) _)
theorem mail_wkX (s : ByteArray) (x : X) (h : x.wf s) (hs : s.size ≤ 1000000) : g_mail_reader_weekday_io (x.t s, ((s, ()), ())) = some ((wkX s.size x).1.t s, (((wkX s.size x).2, ()), ((), ()))) := by
  have l44 : (⟨#[44]⟩ : ByteArray) = strOf [44] := by kernel_rfl
  have h1 := mail_one s hs wkT wkN 7 rfl (by decide) wk_name x h
  have w1 := oneK_wf (nm := wkN) (k := 7) (i := 1) h
  have h2 := mail_gapX s _ w1 hs
  have w2 := gapX_wf w1
  have h3 := scan_must s _ w2 hs [44] (mb1 (by omega)) (by decide)
  have w3 := mustX_wf w2 [44]
  have h4 := mail_gapX s _ w3 hs
  simp only [X.t] at h1 h2 h3 h4
  simp only [g_mail_reader_weekday_io, f_mail_reader_weekday_io_m, X.t, h1, h2, h3, h4, l44, fitsS_dec, Option.bind_some, Option.isNone_none, Option.isNone_some, Option.isSome_none, Option.isSome_some, Bool.not_true, Bool.not_false, cond_true, cond_false, cond_dec, beq_int, bne_int, not_dec, wkX]
  by_cases c : (oneK wkN 7 1 x).2 = 0
  · simp only [c, if_true]
  · simp only [c, if_false]
/-! ### the year -/
def yrV (k : Nat) (v : Int) : Int := if k = 3 then 1900 + v else if k = 2 ∧ v < 50 then 2000 + v else if k = 2 then 1900 + v else v
def yrX (n : Nat) : X → X × Int
  | .good l => if 2 ≤ lead l ∧ lead l ≤ 4 then (.good (l.drop (lead l)), yrV (lead l) (val10 (l.take (lead l)))) else (failX n 2 (takeX (lead l) (.good l)), 0)
  | .bad i c => (.bad i c, 0)
theorem yrX_wf {s : ByteArray} {x : X} (h : x.wf s) : (yrX s.size x).1.wf s := by
  cases x with
  | bad i c => exact h
  | good l =>
    simp only [yrX]
    split
    · exact X.wf_cut h _
    · exact failX_wf (takeX_wf h _) 2
theorem lead_allM : ∀ l : List Int, (∀ x ∈ l, isF x) → lead l = l.length
  | [], _ => rfl
  | x :: l, h => by
    unfold lead
    rw [if_pos (h x List.mem_cons_self), lead_allM l (fun y hy => h y (List.mem_cons_of_mem _ hy))]; rfl
theorem mail_whole (l : List Int) (hl : l.length ≤ 1000000) (hf : ∀ x ∈ l, isF x) : g_figures_Whole ((), ((strOf l, ()), ((2, ()), ((4, ()), ())))) =
    some ((), ((if 2 ≤ l.length ∧ l.length ≤ 4 then val10 l else 0, ()), ((if 2 ≤ l.length ∧ l.length ≤ 4 then none else some 2, ()), ()))) := by
  have ho : okBy l := fun x hx => by
    have := hf x hx
    unfold isF at this; omega
  have ht := fig_take (strOf l) (by rw [str_size]; exact hl) 2 4 9223372036854775807 (by omega)
  unfold takeE takeK cutV at ht
  rw [by_str ho, lead_allM l hf, show Int.toNat 4 = 4 from rfl] at ht
  simp only [show ¬((2 : Int) < 1 ∨ (4 : Int) < 2 ∨ (20 : Int) < 4) by decide, if_false] at ht
  simp only [g_figures_Whole, f_figures_Whole_m, g_figures_whole, f_figures_whole_m, ht, Option.bind_some, str_size]
  by_cases c : 2 ≤ l.length
  · have hv := val10_range _ (l.take (min l.length 4)) rfl (fun x hx => hf x (List.mem_of_mem_take hx))
    have hp : (10 : Int) ^ (l.take (min l.length 4)).length ≤ 10 ^ 4 := by
      have : 10 ^ (l.take (min l.length 4)).length ≤ 10 ^ 4 := Nat.pow_le_pow_right (by omega) (by rw [List.length_take]; omega)
      exact_mod_cast this
    rw [if_neg (show ¬((min l.length 4 : Nat) : Int) < 2 by omega), if_pos (show val10 (l.take (min l.length 4)) ≤ 9223372036854775807 by omega), if_pos rfl, if_pos rfl]
    by_cases c2 : l.length ≤ 4
    · have e : min l.length 4 = l.length := by omega
      rw [e, List.take_length] at hv hp ⊢
      simp only [errOf_zero, fitsS_dec, Option.bind_some, Option.isNone_none, Option.isNone_some, Option.isSome_none, Option.isSome_some, Bool.not_true, Bool.not_false, cond_true, cond_false, cond_dec, beq_int, bne_int, not_dec]
      rw [if_neg (by omega)]
      simp only [Option.bind_some]
      rw [if_pos ⟨c, c2⟩, if_pos ⟨c, c2⟩, iconv_i64 (by omega)]
    · simp only [errOf_zero, fitsS_dec, Option.bind_some, Option.isNone_none, Option.isNone_some, Option.isSome_none, Option.isSome_some, Bool.not_true, Bool.not_false, cond_true, cond_false, cond_dec, beq_int, bne_int, not_dec]
      rw [if_pos (by omega)]
      simp only [Option.bind_some]
      rw [if_neg (fun q => c2 q.2), if_neg (fun q => c2 q.2), iconv_i64 (by omega)]
  · rw [if_pos (show ((min l.length 4 : Nat) : Int) < 2 by omega), if_neg (by decide), if_neg (by decide), if_neg (fun q => c q.1), if_neg (fun q => c q.1)]
    rw [show errOf 2 = some 2 from rfl]
    simp only [fitsS_dec, Option.bind_some, Option.isNone_none, Option.isNone_some, Option.isSome_none, Option.isSome_some, Bool.not_true, Bool.not_false, cond_true, cond_false, cond_dec, beq_int, bne_int, not_dec]
    rw [iconv_i64 (by omega)]
theorem mail_yrX (s : ByteArray) (x : X) (h : x.wf s) (hs : s.size ≤ 1000000) : g_mail_reader_year_io (x.t s, ((s, ()), ())) = some ((yrX s.size x).1.t s, (((yrX s.size x).2, ()), ((), ()))) := by
  have lf : (⟨#[48, 49, 50, 51, 52, 53, 54, 55, 56, 57]⟩ : ByteArray) = strOf figL := by kernel_rfl
  have of' : okBy figL := by intro x hx; simp only [figL, List.mem_cons, List.not_mem_nil, or_false] at hx; omega
  have h1 := scan_run s x h hs figL of'
  have hF := scan_fail s (takeX (lead x.rest) x) 2
  have ho := X.ok_rest h
  have hll := lead_le x.rest
  have hW := mail_whole (x.rest.take (lead x.rest)) (by rw [List.length_take]; omega) (sc_lead_figs (Nat.le_refl _))
  rw [run_lead] at h1
  have hlen : (x.rest.take (lead x.rest)).length = lead x.rest := by rw [List.length_take]; omega
  rw [hlen] at hW
  simp only [X.t] at h1 hF
  simp only [g_mail_reader_year_io, f_mail_reader_year_io_m, X.t, lf, h1, hW, hF, Option.bind_some, str_size, hlen]
  cases x with
  | bad i c =>
    have e : lead (X.bad i c).rest = 0 := rfl
    rw [e, if_neg (by decide), if_neg (by decide)]
    simp only [takeX, failX, yrX, fitsS_dec, Option.bind_some, Option.isNone_none, Option.isNone_some, Option.isSome_none, Option.isSome_some, Bool.not_true, Bool.not_false, cond_true, cond_false, cond_dec, beq_int, bne_int, not_dec]
    rw [if_neg (by decide), if_neg (by decide), if_neg (by decide)]
  | good l =>
    have e : (X.good l).rest = l := rfl
    simp only [e] at *
    by_cases c : 2 ≤ lead l ∧ lead l ≤ 4
    · have hv := val10_range _ (l.take (lead l)) rfl (sc_lead_figs (Nat.le_refl _))
      have hp : (10 : Int) ^ (l.take (lead l)).length ≤ 10 ^ 4 := by
        have : 10 ^ (l.take (lead l)).length ≤ 10 ^ 4 := Nat.pow_le_pow_right (by omega) (by rw [List.length_take]; omega)
        exact_mod_cast this
      have i1 : iadd .i64 1900 (val10 (l.take (lead l))) = 1900 + val10 (l.take (lead l)) := iadd_i64 (by omega)
      have i2 : iadd .i64 2000 (val10 (l.take (lead l))) = 2000 + val10 (l.take (lead l)) := iadd_i64 (by omega)
      simp only [yrX, if_pos c, takeX, i1, i2, fitsS_dec, Option.bind_some, Option.isNone_none, Option.isNone_some, Option.isSome_none, Option.isSome_some, Bool.not_true, Bool.not_false, cond_true, cond_false, cond_dec, beq_int, bne_int, not_dec, yrV]
      by_cases k3 : lead l = 3
      · rw [if_pos (by omega), if_pos k3]
      · rw [if_neg (by omega), if_neg k3]
        by_cases k2 : lead l = 2
        · rw [if_pos (by omega)]
          by_cases k5 : val10 (l.take (lead l)) < 50
          · rw [if_pos k5, if_pos ⟨k2, k5⟩]
          · rw [if_neg k5, if_pos (by omega), if_neg (fun q => k5 q.2), if_pos k2]
        · rw [if_neg (by omega), if_neg (by omega), if_neg (fun q => k2 q.1), if_neg k2]
    · simp only [yrX, if_neg c, takeX, fitsS_dec, Option.bind_some, Option.isNone_none, Option.isNone_some, Option.isSome_none, Option.isSome_some, Bool.not_true, Bool.not_false, cond_true, cond_false, cond_dec, beq_int, bne_int, not_dec]
      rw [if_neg (show ¬((lead l : Int) = 3) by omega), if_neg (show ¬((lead l : Int) = 2) by omega), if_neg (show ¬((lead l : Int) = 2) by omega)]
end Go.Proofs.YtddnfappkfiidaaGreat.Ev
