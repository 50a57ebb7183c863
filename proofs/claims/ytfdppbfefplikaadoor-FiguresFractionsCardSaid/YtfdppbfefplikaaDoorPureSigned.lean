/- The law FiguresSigned, plain. -/
import Derived.Test.YtfdppbfefplikaaDoorPureFigures
namespace Go.Proofs.YtfdppbfefplikaaDoor.Ev
open Go
set_option linter.unusedVariables false
set_option linter.unusedSimpArgs false
theorem has_prefix (s t : ByteArray) : g_internal_stringslite_HasPrefix ((), ((s, ()), ((t, ()), ()))) = some ((), ((decide (t.size ≤ s.size ∧ (bytesOf s).take t.size = bytesOf t), ()), ())) := by
  simp only [g_internal_stringslite_HasPrefix, f_internal_stringslite_HasPrefix_m, Option.bind_some, Option.isNone_none, Option.isNone_some, Option.isSome_none, Option.isSome_some, Bool.not_true, Bool.not_false, cond_true, cond_false, cond_dec, beq_int, bne_int, not_dec, ge_iff_le, str_eq, and_dec]
  by_cases h : t.size ≤ s.size
  · rw [if_pos (by omega), if_pos (by omega), by_cut, Int.toNat_natCast, show Int.toNat 0 = 0 from rfl, List.drop_zero]
    congr 4
    simp only [decide_eq_decide]
    exact ⟨fun e => ⟨h, e⟩, fun e => e.2⟩
  · rw [if_neg (by omega), decide_eq_false (fun e => h e.1)]
theorem cut_prefix (s t : ByteArray) : g_strings_CutPrefix ((), ((s, ()), ((t, ()), ()))) =
    some ((), ((if t.size ≤ s.size ∧ (bytesOf s).take t.size = bytesOf t then s.extract t.size s.size else s, ()), ((decide (t.size ≤ s.size ∧ (bytesOf s).take t.size = bytesOf t), ()), ()))) := by
  simp only [g_strings_CutPrefix, f_strings_CutPrefix_m, g_internal_stringslite_CutPrefix, f_internal_stringslite_CutPrefix_m, has_prefix, Option.bind_some, Option.isNone_none, Option.isNone_some, Option.isSome_none, Option.isSome_some, Bool.not_true, Bool.not_false, cond_true, cond_false, cond_dec, beq_int, bne_int, not_dec, and_dec]
  by_cases h : t.size ≤ s.size ∧ (bytesOf s).take t.size = bytesOf t
  · rw [if_neg (not_not_intro h), if_pos (by omega), if_pos h, decide_eq_true h]; rfl
  · rw [if_pos h, if_neg h, decide_eq_false h]; rfl
theorem trim_prefix (s t : ByteArray) : g_strings_TrimPrefix ((), ((s, ()), ((t, ()), ()))) =
    some ((), ((if t.size ≤ s.size ∧ (bytesOf s).take t.size = bytesOf t then s.extract t.size s.size else s, ()), ())) := by
  simp only [g_strings_TrimPrefix, f_strings_TrimPrefix_m, g_internal_stringslite_TrimPrefix, f_internal_stringslite_TrimPrefix_m, has_prefix, Option.bind_some, Option.isNone_none, Option.isNone_some, Option.isSome_none, Option.isSome_some, Bool.not_true, Bool.not_false, cond_true, cond_false, cond_dec, beq_int, bne_int, not_dec, and_dec]
  by_cases h : t.size ≤ s.size ∧ (bytesOf s).take t.size = bytesOf t
  · rw [if_pos h, if_pos (by omega), if_pos h]; rfl
  · rw [if_neg h, if_neg h]; rfl
/-- A text that begins with this byte. -/
def begins (s : ByteArray) (c : Int) : Prop := 0 < s.size ∧ (bytesOf s).getD 0 0 = c
instance (s : ByteArray) (c : Int) : Decidable (begins s c) := by unfold begins; infer_instance
theorem begins_is (s t : ByteArray) (c : Int) (h : bytesOf t = [c]) : (t.size ≤ s.size ∧ (bytesOf s).take t.size = bytesOf t) ↔ begins s c := by
  have e : t.size = 1 := by rw [← by_len, h]; rfl
  rw [e, h, ← by_len s]
  unfold begins
  rw [← by_len s]
  cases bytesOf s with
  | nil => simp
  | cons x l => simp
/-- The text without its sign. -/
def unsg (s : ByteArray) : ByteArray := if begins s 45 ∨ begins s 43 then s.extract 1 s.size else s
theorem unsg_size (s : ByteArray) : (unsg s).size ≤ s.size := by
  unfold unsg
  split
  · rw [← by_len, by_cut, List.length_drop, List.length_take, by_len]; omega
  · exact Nat.le_refl _
def sgLim (s : ByteArray) : Int := if begins s 45 then 9223372036854775808 else (9223372036854775807 : Int)
def sgE (s : ByteArray) (most : Int) : Int := wholeE (unsg s) 1 most (sgLim s)
def sgV (s : ByteArray) (most : Int) : Int := if begins s 45 then -cutV (unsg s) (takeK (unsg s) most) else cutV (unsg s) (takeK (unsg s) most)
theorem sg_range (s : ByteArray) (most : Int) (h : sgE s most = 0) : 0 ≤ cutV (unsg s) (takeK (unsg s) most) ∧ cutV (unsg s) (takeK (unsg s) most) ≤ sgLim s := by
  have := take_val (whole_take h).1
  exact ⟨cutV_nn this.2.2.1, this.1⟩
theorem figs_Signed (s : ByteArray) (hs : s.size ≤ 1000000) (most : Int) : g_figures_Signed ((), ((s, ()), ((most, ()), ()))) =
    some ((), ((if sgE s most = 0 then sgV s most else 0, ()), ((errOf (sgE s most), ()), ()))) := by
  have hu := unsg_size s
  have h45 := begins_is s ⟨#[45]⟩ 45 (by kernel_rfl)
  have h43 := begins_is s ⟨#[43]⟩ 43 (by kernel_rfl)
  have hr := sg_range s most
  simp only [g_figures_Signed, f_figures_Signed_m, cut_prefix, trim_prefix, h45, h43, Option.bind_some, Option.isNone_none, Option.isNone_some, Option.isSome_none, Option.isSome_some, Bool.not_true, Bool.not_false, cond_true, cond_false, cond_dec, beq_int, bne_int, not_dec]
  have l45 : (⟨#[45]⟩ : ByteArray).size = 1 := rfl
  have l43 : (⟨#[43]⟩ : ByteArray).size = 1 := rfl
  by_cases c : begins s 45
  · have e : s.extract 1 s.size = unsg s := by unfold unsg; rw [if_pos (Or.inl c)]
    have eL : sgLim s = 9223372036854775808 := if_pos c
    have w := fig_whole (unsg s) (by omega) 1 most 9223372036854775808 (by omega)
    have eE : sgE s most = wholeE (unsg s) 1 most 9223372036854775808 := by unfold sgE; rw [eL]
    have eA : iadd .u64 9223372036854775807 1 = 9223372036854775808 := by kernel_rfl
    have eV : sgV s most = -cutV (unsg s) (takeK (unsg s) most) := if_pos c
    simp only [c, if_true, l45, e, eA, w, Option.bind_some, Option.isNone_none, Option.isNone_some, Option.isSome_none, Option.isSome_some, Bool.not_true, Bool.not_false, cond_true, cond_false, cond_dec, beq_int, bne_int, not_dec, errOf_none, ← eE]
    by_cases h : sgE s most = 0
    · have := hr h
      rw [eL] at this
      have e2 : iconv .i64 (ineg .u64 (cutV (unsg s) (takeK (unsg s) most))) = -cutV (unsg s) (takeK (unsg s) most) := by
        unfold ineg iconv
        rw [wrap_u64, wrap_i64]; omega
      simp only [h, if_true, not_true_eq_false, if_false, e2, eV]; rfl
    · simp only [h, if_false, not_false_eq_true, if_true]
  · have e : (if begins s 43 then s.extract 1 s.size else s) = unsg s := by
      unfold unsg
      by_cases c2 : begins s 43
      · rw [if_pos c2, if_pos (Or.inr c2)]
      · rw [if_neg c2, if_neg (by simp [c, c2])]
    have eL : sgLim s = (9223372036854775807 : Int) := if_neg c
    have w := fig_whole (unsg s) (by omega) 1 most 9223372036854775807 (by omega)
    have eE : sgE s most = wholeE (unsg s) 1 most 9223372036854775807 := by unfold sgE; rw [eL]
    have eV : sgV s most = cutV (unsg s) (takeK (unsg s) most) := if_neg c
    simp only [c, if_false, l43, e, w, Option.bind_some, Option.isNone_none, Option.isNone_some, Option.isSome_none, Option.isSome_some, Bool.not_true, Bool.not_false, cond_true, cond_false, cond_dec, beq_int, bne_int, not_dec, errOf_none, ← eE]
    by_cases h : sgE s most = 0
    · have := hr h
      rw [eL] at this
      simp only [h, if_true, not_true_eq_false, if_false, eV]
      rw [iconv_i64 (by omega)]; rfl
    · simp only [h, if_false, not_false_eq_true, if_true]
end Go.Proofs.YtfdppbfefplikaaDoor.Ev
