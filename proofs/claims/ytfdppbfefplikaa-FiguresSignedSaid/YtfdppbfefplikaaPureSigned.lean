/- The law FiguresSigned, plain. -/
import Derived.Test.YtfdppbfefplikaaPureFigures
namespace Go.Proofs.Ytfdppbfefplikaa.Ev
open Go
set_option linter.unusedVariables false
set_option linter.unusedSimpArgs false
theorem has_prefix (s t : ByteArray) : g_internal_stringslite_HasPrefix ((), ((s, ()), ((t, ()), ()))) = some ((), ((decide (t.size ≤ s.size ∧ (bytesOf s).take t.size = bytesOf t), ()), ())) := by
  simp only [g_internal_stringslite_HasPrefix, f_internal_stringslite_HasPrefix_m, Option.bind_some, Option.isNone_none, Option.isNone_some, Option.isSome_none, Option.isSome_some, Bool.not_true, Bool.not_false, cond_true, cond_false, cond_dec, beq_int, bne_int, not_dec, ge_iff_le, str_eq, and_dec]
  by_cases h : t.size ≤ s.size
  · rw [if_pos (by omega), if_pos (by omega), by_cut, Int.toNat_natCast, show Int.toNat 0 = 0 from rfl, List.drop_zero]
    congr 4
    simp only [decide_eq_decide]
    exact ⟨fun e => ⟨h, e⟩, fun e => e.2⟩
  · rw [if_neg (by omega), decide_eq_false (fun e => h e.1)]
theorem cut_prefix (s t : ByteArray) : g_strings_CutPrefix ((), ((s, ()), ((t, ()), ()))) =
    some ((), ((if t.size ≤ s.size ∧ (bytesOf s).take t.size = bytesOf t then s.extract t.size s.size else s, ()), ((decide (t.size ≤ s.size ∧ (bytesOf s).take t.size = bytesOf t), ()), ()))) := by
  simp only [g_strings_CutPrefix, f_strings_CutPrefix_m, g_internal_stringslite_CutPrefix, f_internal_stringslite_CutPrefix_m, has_prefix, Option.bind_some, Option.isNone_none, Option.isNone_some, Option.isSome_none, Option.isSome_some, Bool.not_true, Bool.not_false, cond_true, cond_false, cond_dec, beq_int, bne_int, not_dec, and_dec]
  by_cases h : t.size ≤ s.size ∧ (bytesOf s).take t.size = bytesOf t
  · rw [if_neg (not_not_intro h), if_pos (by omega), if_pos h, decide_eq_true h]; rfl
  · rw [if_pos h, if_neg h, decide_eq_false h]; rfl
theorem trim_prefix (s t : ByteArray) : g_strings_TrimPrefix ((), ((s, ()), ((t, ()), ()))) =
    some ((), ((if t.size ≤ s.size ∧ (bytesOf s).take t.size = bytesOf t then s.extract t.size s.size else s, ()), ())) := by
  simp only [g_strings_TrimPrefix, f_strings_TrimPrefix_m, g_internal_stringslite_TrimPrefix, f_internal_stringslite_TrimPrefix_m, has_prefix, Option.bind_some, Option.isNone_none, Option.isNone_some, Option.isSome_none, Option.isSome_some, Bool.not_true, Bool.not_false, cond_true, cond_false, cond_dec, beq_int, bne_int, not_dec, and_dec]
  by_cases h : t.size ≤ s.size ∧ (bytesOf s).take t.size = bytesOf t
  · rw [if_pos h, if_pos (by omega), if_pos h]; rfl
  · rw [if_neg h, if_neg h]; rfl
/-- A text that begins with this byte. -/
def begins (s : ByteArray) (c : Int) : Prop := 0 < s.size ∧ (bytesOf s).getD 0 0 = c
instance (s : ByteArray) (c : Int) : Decidable (begins s c) := by unfold begins; infer_instance
theorem begins_is (s t : ByteArray) (c : Int) (h : bytesOf t = [c]) : (t.size ≤ s.size ∧ (bytesOf s).take t.size = bytesOf t) ↔ begins s c := by
  have e : t.size = 1 := by rw [← by_len, h]; rfl
  rw [e, h, ← by_len s]
  unfold begins
  rw [← by_len s]
  cases bytesOf s with
  | nil => simp
  | cons x l => simp
/-- The text without its sign. -/
def unsg (s : ByteArray) : ByteArray := if begins s 45 ∨ begins s 43 then s.extract 1 s.size else s
theorem unsg_size (s : ByteArray) : (unsg s).size ≤ s.size := by
  unfold unsg
  split
  · rw [← by_len, by_cut, List.length_drop, List.length_take, by_len]; omega
  · exact Nat.le_refl _
def sgLim (s : ByteArray) : Int := if begins s 45 then 9223372036854775808 else (9223372036854775807 : Int)
def sgE (s : ByteArray) (most : Int) : Int := wholeE (unsg s) 1 most (sgLim s)
def sgV (s : ByteArray) (most : Int) : Int := if begins s 45 then -cutV (unsg s) (takeK (unsg s) most) else cutV (unsg s) (takeK (unsg s) most)
theorem sg_range (s : ByteArray) (most : Int) (h : sgE s most = 0) : 0 ≤ cutV (unsg s) (takeK (unsg s) most) ∧ cutV (unsg s) (takeK (unsg s) most) ≤ sgLim s := by
  have := take_val (whole_take h).1
  exact ⟨cutV_nn this.2.2.1, this.1⟩
theorem figs_Signed (s : ByteArray) (hs : s.size ≤ 1000000) (most : Int) : g_figures_Signed ((), ((s, ()), ((most, ()), ()))) =
    some ((), ((if sgE s most = 0 then sgV s most else 0, ()), ((errOf (sgE s most), ()), ()))) := by
  have hu := unsg_size s
  have h45 := begins_is s ⟨#[45]⟩ 45 (by kernel_rfl)
  have h43 := begins_is s ⟨#[43]⟩ 43 (by kernel_rfl)
  have hr := sg_range s most
  simp only [g_figures_Signed, f_figures_Signed_m, cut_prefix, trim_prefix, h45, h43, Option.bind_some, Option.isNone_none, Option.isNone_some, Option.isSome_none, Option.isSome_some, Bool.not_true, Bool.not_false, cond_true, cond_false, cond_dec, beq_int, bne_int, not_dec]
  have l45 : (⟨#[45]⟩ : ByteArray).size = 1 := rfl
  have l43 : (⟨#[43]⟩ : ByteArray).size = 1 := rfl
  by_cases c : begins s 45
  · have e : s.extract 1 s.size = unsg s := by unfold unsg; rw [if_pos (Or.inl c)]
    have eL : sgLim s = 9223372036854775808 := if_pos c
    have w := fig_whole (unsg s) (by omega) 1 most 9223372036854775808 (by omega)
    have eE : sgE s most = wholeE (unsg s) 1 most 9223372036854775808 := by unfold sgE; rw [eL]
    have eA : iadd .u64 9223372036854775807 1 = 9223372036854775808 := by kernel_rfl
    have eV : sgV s most = -cutV (unsg s) (takeK (unsg s) most) := if_pos c
    simp only [c, if_true, l45, e, eA, w, Option.bind_some, Option.isNone_none, Option.isNone_some, Option.isSome_none, Option.isSome_some, Bool.not_true, Bool.not_false, cond_true, cond_false, cond_dec, beq_int, bne_int, not_dec, errOf_none, ← eE]
    by_cases h : sgE s most = 0
    · have := hr h
      rw [eL] at this
      have e2 : iconv .i64 (ineg .u64 (cutV (unsg s) (takeK (unsg s) most))) = -cutV (unsg s) (takeK (unsg s) most) := by
        unfold ineg iconv
        rw [wrap_u64, wrap_i64]; omega
      simp only [h, if_true, not_true_eq_false, if_false, e2, eV]; rfl
    · simp only [h, if_false, not_false_eq_true, if_true]
  · have e : (if begins s 43 then s.extract 1 s.size else s) = unsg s := by
      unfold unsg
      by_cases c2 : begins s 43
      · rw [if_pos c2, if_pos (Or.inr c2)]
      · rw [if_neg c2, if_neg (by simp [c, c2])]
    have eL : sgLim s = (9223372036854775807 : Int) := if_neg c
    have w := fig_whole (unsg s) (by omega) 1 most 9223372036854775807 (by omega)
    have eE : sgE s most = wholeE (unsg s) 1 most 9223372036854775807 := by unfold sgE; rw [eL]
    have eV : sgV s most = cutV (unsg s) (takeK (unsg s) most) := if_neg c
    simp only [c, if_false, l43, e, w, Option.bind_some, Option.isNone_none, Option.isNone_some, Option.isSome_none, Option.isSome_some, Bool.not_true, Bool.not_false, cond_true, cond_false, cond_dec, beq_int, bne_int, not_dec, errOf_none, ← eE]
    by_cases h : sgE s most = 0
    · have := hr h
      rw [eL] at this
      simp only [h, if_true, not_true_eq_false, if_false, eV]
      rw [iconv_i64 (by omega)]; rfl
    · simp only [h, if_false, not_false_eq_true, if_true]
theorem big_neg (a : Int) : g_ref01_Minus ((), (big a, ())) = some ((), (big (-a), ())) := by
  simp only [g_ref01_Minus, f_ref01_Minus_m, Option.bind_some, Option.isNone_none, Option.isNone_some, Option.isSome_none, Option.isSome_some, Bool.not_true, Bool.not_false, cond_true, cond_false, cond_dec, beq_int, bne_int, not_dec, gt_iff_lt, big, Int.natAbs_neg]
  by_cases h : a < 0
  · rw [if_neg (not_not_intro h), decide_eq_false (show ¬ -a < 0 by omega)]
  · rw [if_pos h]
    congr 4
    simp only [decide_eq_decide]
    by_cases h0 : a = 0
    · subst h0
      rw [show Int.natAbs 0 = 0 from rfl, dg_zero]
      simp
    · have : dg a.natAbs ≠ [] := fun e => h0 (by have := dg_nil.1 e; omega)
      have hl : (dg a.natAbs).length ≠ 0 := fun e => this (List.eq_nil_of_length_eq_zero e)
      constructor <;> intro _ <;> omega
theorem signed_p8 (r : ByteArray) (neg : Bool) (most : Int) (hm : 1 ≤ most ∧ most ≤ 20) (hs : r.size ≤ 1000000) (L : Int) (hL : L = if neg then 9223372036854775808 else (9223372036854775807 : Int)) (k : Int) (hk : k = (takeK r most : Nat)) :
    Evn (fun j => (f_ref02_Signed_t j).1 ((), ((r, ()), ((neg, ()), ((k, ()), ()))))) ((), ((if wholeE r 1 most L = 0 then if neg then -cutV r (takeK r most) else cutV r (takeK r most) else 0, ()), ((wholeE r 1 most L, ()), ()))) := by
  subst hk
  refine Evn.some 1 fun j => ?_
  have hl := lead_le (bytesOf r)
  rw [by_len] at hl
  have hcut : bytesOf (r.extract 0 (takeK r most)) = (bytesOf r).take (takeK r most) := by rw [by_cut, List.drop_zero]
  have hK : takeK r most = min (lead (bytesOf r)) most.toNat := rfl
  have hb := ref02_big (r.extract 0 (takeK r most)) (by rw [← by_len, hcut, List.length_take]; omega) (by rw [hcut]; exact cut_figs (by omega))
  rw [hcut] at hb
  have hr := fig10 ((bytesOf r).take (takeK r most)) (by rw [List.length_take]; omega) (cut_figs (by omega))
  have hsm := big_small (val10 ((bytesOf r).take (takeK r most))) (sm_of (by omega))
  have hng := big_neg (val10 ((bytesOf r).take (takeK r most)))
  have hsn := big_small (-val10 ((bytesOf r).take (takeK r most))) (sm_of (by omega))
  have e : takeE r 1 most L = if ((takeK r most : Nat) : Int) < 1 then 2 else if cutV r (takeK r most) ≤ L then 0 else 5 := if_neg (by omega)
  simp only [t_ref02_Signed, f_ref02_Signed_p8, Option.bind_some, Option.isNone_none, Option.isNone_some, Option.isSome_none, Option.isSome_some, Bool.not_true, Bool.not_false, cond_true, cond_false, cond_dec, beq_int, bne_int, not_dec, and_dec, Int.toNat_natCast, show Int.toNat 0 = 0 from rfl, hb]
  unfold wholeE
  rw [e]
  by_cases c1 : ((takeK r most : Nat) : Int) < 1
  · simp only [c1, if_true, show ((2 : Int) = 0) = False by simp, if_false]
  · simp only [c1, if_false]
    rw [if_pos (by omega)]
    simp only [big] at hsm hng hsn
    unfold cutV
    generalize val10 ((bytesOf r).take (takeK r most)) = v at *
    cases neg with
    | true =>
      simp only [if_true] at hL ⊢
      subst hL
      simp only [big, hng, hsn, Option.bind_some, Option.isNone_none, Option.isNone_some, Option.isSome_none, Option.isSome_some, Bool.not_true, Bool.not_false, cond_true, cond_false, cond_dec, beq_int, bne_int, not_dec]
      by_cases c2 : v ≤ 9223372036854775808
      · simp only [c2, show -9223372036854775808 ≤ -v ∧ -v ≤ 9223372036854775807 by omega, and_self, if_true]
        by_cases c3 : takeK r most < r.size
        · rw [if_pos (by omega), if_pos c3]; rfl
        · rw [if_neg (by omega), if_neg c3]; rfl
      · simp only [c2, show ¬ (-9223372036854775808 ≤ -v ∧ -v ≤ 9223372036854775807) by omega, if_false, show ((5 : Int) = 0) = False by simp]
    | false =>
      simp only [Bool.false_eq_true, if_false] at hL ⊢
      subst hL
      simp only [big, hsm, Option.bind_some, Option.isNone_none, Option.isNone_some, Option.isSome_none, Option.isSome_some, Bool.not_true, Bool.not_false, cond_true, cond_false, cond_dec, beq_int, bne_int, not_dec]
      by_cases c2 : v ≤ 9223372036854775807
      · simp only [c2, show -9223372036854775808 ≤ v ∧ v ≤ 9223372036854775807 by omega, and_self, if_true]
        by_cases c3 : takeK r most < r.size
        · rw [if_pos (by omega), if_pos c3]; rfl
        · rw [if_neg (by omega), if_neg c3]; rfl
      · simp only [c2, show ¬ (-9223372036854775808 ≤ v ∧ v ≤ 9223372036854775807) by omega, and_false, if_false, show ((5 : Int) = 0) = False by simp]
theorem ref02_signed (s : ByteArray) (hs : s.size ≤ 1000000) (most : Int) : g_ref02_Signed ((), ((s, ()), ((most, ()), ()))) =
    some ((), ((if sgE s most = 0 then sgV s most else 0, ()), ((sgE s most, ()), ()))) := by
  have hu := unsg_size s
  by_cases cm : most < 1 ∨ 20 < most
  · have e : sgE s most = 1 := by
      unfold sgE wholeE
      rw [show takeE (unsg s) 1 most (sgLim s) = 1 from if_pos (by omega)]; rfl
    rw [e]
    refine (Evn.const fun j => ?_).lim
    simp only [f_ref02_Signed_m, Option.bind_some, Option.isNone_none, Option.isNone_some, Option.isSome_none, Option.isSome_some, Bool.not_true, Bool.not_false, cond_true, cond_false, cond_dec, beq_int, bne_int, not_dec, gt_iff_lt, show ((1 : Int) = 0) = False by simp, if_false]
    by_cases c1 : most < 1
    · rw [if_pos c1]
    · rw [if_neg c1, if_pos (by omega)]
  · have hb0 : ∀ h : 0 < s.size, bt s 0 = (bytesOf s).getD 0 0 := fun h => by_at s (by omega) (by omega)
    have key := signed_p8 (unsg s) (decide (begins s 45)) most (by omega) (by omega) (sgLim s) (by unfold sgLim; simp) (takeK (unsg s) most) rfl
    have eV : (if sgE s most = 0 then if (decide (begins s 45)) = true then -cutV (unsg s) (takeK (unsg s) most) else cutV (unsg s) (takeK (unsg s) most) else 0) = if sgE s most = 0 then sgV s most else 0 := by
      unfold sgV; simp only [decide_eq_true_eq]
    have key' : Evn (fun j => (f_ref02_Signed_t j).1 ((), ((unsg s, ()), ((decide (begins s 45), ()), ((((takeK (unsg s) most : Nat) : Int), ()), ()))))) ((), ((if sgE s most = 0 then sgV s most else 0, ()), ((sgE s most, ()), ()))) := by
      rw [← eV]; exact key
    refine (key'.cast fun j => ?_).lim
    have hmany := ref02_many (unsg s) (by omega)
    have hK : ∀ {α : Type} (f : Int → α), (if most < ((lead (bytesOf (unsg s)) : Nat) : Int) then f most else f ((lead (bytesOf (unsg s)) : Nat) : Int)) = f ((takeK (unsg s) most : Nat) : Int) := by
      intro α f
      have hK : takeK (unsg s) most = min (lead (bytesOf (unsg s))) most.toNat := rfl
      split
      · congr 1; omega
      · congr 1; omega
    simp only [f_ref02_Signed_m, Option.bind_some, Option.isNone_none, Option.isNone_some, Option.isSome_none, Option.isSome_some, Bool.not_true, Bool.not_false, cond_true, cond_false, cond_dec, beq_int, bne_int, not_dec, gt_iff_lt, and_dec]
    rw [if_neg (by omega), if_neg (by omega)]
    by_cases c0 : 0 < s.size
    · have hb := hb0 c0
      rw [if_pos (by omega), if_pos (by omega), if_pos (by omega), if_pos (by omega)]
      have p45 : bt s 0 = 45 ↔ begins s 45 := by unfold begins; rw [hb]; exact ⟨fun e => ⟨c0, e⟩, fun e => e.2⟩
      have p43 : bt s 0 = 43 ↔ begins s 43 := by unfold begins; rw [hb]; exact ⟨fun e => ⟨c0, e⟩, fun e => e.2⟩
      simp only [p45, p43]
      by_cases c : begins s 45
      · have e : s.extract 1 s.size = unsg s := by unfold unsg; rw [if_pos (Or.inl c)]
        rw [if_pos c, if_pos (by omega)]
        simp only [show Int.toNat 1 = 1 from rfl, Int.toNat_natCast, e, hmany, Option.bind_some, Option.isNone_none, Option.isNone_some, Option.isSome_none, Option.isSome_some, Bool.not_true, Bool.not_false, cond_true, cond_false, cond_dec, beq_int, bne_int, not_dec]
        exact hK fun k => (f_ref02_Signed_t j).1 ((), ((unsg s, ()), ((decide (begins s 45), ()), ((k, ()), ()))))
      · rw [if_neg c]
        by_cases c2 : begins s 43
        · have e : s.extract 1 s.size = unsg s := by unfold unsg; rw [if_pos (Or.inr c2)]
          rw [if_pos (by omega), if_pos c2, if_pos (by omega)]
          simp only [show Int.toNat 1 = 1 from rfl, Int.toNat_natCast, e, hmany, Option.bind_some, Option.isNone_none, Option.isNone_some, Option.isSome_none, Option.isSome_some, Bool.not_true, Bool.not_false, cond_true, cond_false, cond_dec, beq_int, bne_int, not_dec]
          exact hK fun k => (f_ref02_Signed_t j).1 ((), ((unsg s, ()), ((decide (begins s 45), ()), ((k, ()), ()))))
        · have e : s = unsg s := by unfold unsg; rw [if_neg (by simp [c, c2])]
          rw [if_pos (by omega), if_neg c2]
          rw [← e] at hmany hK ⊢
          simp only [hmany, Option.bind_some, Option.isNone_none, Option.isNone_some, Option.isSome_none, Option.isSome_some, Bool.not_true, Bool.not_false, cond_true, cond_false, cond_dec, beq_int, bne_int, not_dec]
          exact hK fun k => (f_ref02_Signed_t j).1 ((), ((s, ()), ((decide (begins s 45), ()), ((k, ()), ()))))
    · have n45 : ¬ begins s 45 := fun h => c0 h.1
      have n43 : ¬ begins s 43 := fun h => c0 h.1
      have e : s = unsg s := by unfold unsg; rw [if_neg (by simp [n45, n43])]
      rw [if_neg (by omega), if_neg (by omega), decide_eq_false n45]
      rw [← e] at hmany hK ⊢
      simp only [hmany, Option.bind_some, Option.isNone_none, Option.isNone_some, Option.isSome_none, Option.isSome_some, Bool.not_true, Bool.not_false, cond_true, cond_false, cond_dec, beq_int, bne_int, not_dec]
      exact hK fun k => (f_ref02_Signed_t j).1 ((), ((s, ()), ((false, ()), ((k, ()), ()))))
theorem figures_signed (s : ByteArray) (most : Int) : g_law02_FiguresSigned ((), ((s, ()), ((most, ()), ()))) = some ((), ((true, ()), ())) := by
  simp only [g_law02_FiguresSigned, f_law02_FiguresSigned_m, law02_alive, Option.bind_some, Option.isNone_none, Option.isNone_some, Option.isSome_none, Option.isSome_some, Bool.not_true, Bool.not_false, cond_true, cond_false, cond_dec, beq_int, bne_int, not_dec, gt_iff_lt]
  by_cases h : (300 : Int) < s.size
  · simp [h]
  · have hs : s.size ≤ 1000000 := by omega
    simp only [figs_Signed s hs, ref02_signed s hs, num_num, Option.bind_some, Option.isNone_none, Option.isNone_some, Option.isSome_none, Option.isSome_some, Bool.not_true, Bool.not_false, cond_true, cond_false, cond_dec, beq_int, bne_int, not_dec]
    simp [h]
end Go.Proofs.Ytfdppbfefplikaa.Ev
