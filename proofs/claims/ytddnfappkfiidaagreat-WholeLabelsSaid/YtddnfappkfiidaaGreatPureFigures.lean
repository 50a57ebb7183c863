/- The laws of figures, plain. -/
import Derived.Test.YtddnfappkfiidaaGreatPuPutF
import Derived.Test.YtddnfappkfiidaaGreatPuNn
namespace Go.Proofs.YtddnfappkfiidaaGreat.Ev
open Go
set_option linter.unusedVariables false
set_option linter.unusedSimpArgs false
theorem take_val {s : ByteArray} {least most limit : Int} (h : takeE s least most limit = 0) : cutV s (takeK s most) ≤ limit ∧ takeK s most ≤ 20 ∧ takeK s most ≤ lead (bytesOf s) ∧ least ≤ takeK s most ∧ 1 ≤ least := by
  unfold takeE at h
  split at h
  · cases h
  · split at h
    · cases h
    · split at h
      · rename_i h1 h2 h3
        unfold takeK
        exact ⟨h3, by omega, by omega, by omega, by omega⟩
      · cases h
theorem cutV_nn {s : ByteArray} {k : Nat} (h : k ≤ lead (bytesOf s)) : 0 ≤ cutV s k := (val10_range _ _ rfl (cut_figs h)).1
theorem figs_Take (s : ByteArray) (hs : s.size ≤ 1000000) (least most : Int) : g_figures_Take ((), ((s, ()), ((least, ()), ((most, ()), ())))) =
    some ((), ((if takeE s least most (9223372036854775807 : Int) = 0 then cutV s (takeK s most) else 0, ()), ((if takeE s least most (9223372036854775807 : Int) = 0 then (takeK s most : Int) else 0, ()), ((errOf (takeE s least most (9223372036854775807 : Int)), ()), ())))) := by
  simp only [g_figures_Take, f_figures_Take_m, fig_take s hs least most (9223372036854775807 : Int) (by omega), Option.bind_some]
  by_cases h : takeE s least most (9223372036854775807 : Int) = 0
  · have := take_val h
    have := cutV_nn this.2.2.1
    rw [if_pos h, iconv_i64 (by omega)]
  · rw [if_neg h, iconv_i64 (by omega)]
/-- What whole gives: the error's number. -/
def wholeE (s : ByteArray) (least most limit : Int) : Int := if takeE s least most limit = 0 then if takeK s most < s.size then 2 else 0 else takeE s least most limit
theorem whole_take {s : ByteArray} {least most limit : Int} (h : wholeE s least most limit = 0) : takeE s least most limit = 0 ∧ s.size ≤ takeK s most := by
  unfold wholeE at h
  split at h
  · split at h
    · cases h
    · exact ⟨by assumption, by omega⟩
  · contradiction
theorem fig_whole (s : ByteArray) (hs : s.size ≤ 1000000) (least most limit : Int) (hlm : 9 ≤ limit ∧ limit ≤ 10000000000000000000) : g_figures_whole ((), ((s, ()), ((least, ()), ((most, ()), ((limit, ()), ()))))) =
    some ((), ((if wholeE s least most limit = 0 then cutV s (takeK s most) else 0, ()), ((errOf (wholeE s least most limit), ()), ()))) := by
  simp only [g_figures_whole, f_figures_whole_m, fig_take s hs least most limit hlm, fitsS_dec, Option.bind_some, Option.isNone_none, Option.isNone_some, Option.isSome_none, Option.isSome_some, Bool.not_true, Bool.not_false, cond_true, cond_false, cond_dec, beq_int, bne_int, not_dec, errOf_none]
  unfold wholeE
  by_cases h : takeE s least most limit = 0
  · simp only [h, if_true, not_true_eq_false, if_false]
    by_cases c : takeK s most < s.size
    · rw [if_pos (by omega), if_pos c]; rfl
    · rw [if_neg (by omega), if_neg c]; rfl
  · simp only [h, if_false, not_false_eq_true, if_true]
theorem figs_Whole (s : ByteArray) (hs : s.size ≤ 1000000) (least most : Int) : g_figures_Whole ((), ((s, ()), ((least, ()), ((most, ()), ())))) =
    some ((), ((if wholeE s least most (9223372036854775807 : Int) = 0 then cutV s (takeK s most) else 0, ()), ((errOf (wholeE s least most (9223372036854775807 : Int)), ()), ()))) := by
  simp only [g_figures_Whole, f_figures_Whole_m, fig_whole s hs least most (9223372036854775807 : Int) (by omega), Option.bind_some]
  by_cases h : wholeE s least most (9223372036854775807 : Int) = 0
  · have := take_val (whole_take h).1
    have := cutV_nn this.2.2.1
    rw [if_pos h, iconv_i64 (by omega)]
  · rw [if_neg h, iconv_i64 (by omega)]
/-! ### one of them works -/
theorem fig_fraction5 : g_figures_Fraction ((), ((⟨#[48, 53]⟩, ()), ())) = some ((), ((50000000, ()), ((none, ()), ()))) := by
  have w1 := figs_Whole ⟨#[48, 53]⟩ (by decide) 1 9
  rw [show wholeE ⟨#[48, 53]⟩ 1 9 (9223372036854775807 : Int) = 0 by decide, if_pos rfl] at w1
  have w2 := figs_Whole ⟨#[48, 53, 48, 48, 48, 48, 48, 48, 48]⟩ (by decide) 9 9
  rw [show wholeE ⟨#[48, 53, 48, 48, 48, 48, 48, 48, 48]⟩ 9 9 (9223372036854775807 : Int) = 0 by decide, if_pos rfl, show cutV ⟨#[48, 53, 48, 48, 48, 48, 48, 48, 48]⟩ (takeK ⟨#[48, 53, 48, 48, 48, 48, 48, 48, 48]⟩ 9) = 50000000 by decide] at w2
  have r : g_strings_Repeat ((), ((⟨#[48]⟩, ()), ((7, ()), ()))) = some ((), ((⟨#[48, 48, 48, 48, 48, 48, 48]⟩, ()), ())) := by kernel_rfl
  have z : isub .i64 9 2 = 7 := by kernel_rfl
  simp only [g_figures_Fraction, f_figures_Fraction_m, w1, fitsS_dec, Option.bind_some, Option.isNone_none, Option.isNone_some, Option.isSome_none, Option.isSome_some, Bool.not_true, Bool.not_false, cond_true, cond_false, cond_dec, beq_int, bne_int, not_dec, gt_iff_lt, show ((⟨#[48, 53]⟩ : ByteArray).size : Int) = 2 from rfl, z, r, errOf, if_true, Option.isNone_none]
  rw [if_neg (by omega), if_pos (by decide), show (⟨#[48, 53]⟩ ++ ⟨#[48, 48, 48, 48, 48, 48, 48]⟩ : ByteArray) = ⟨#[48, 53, 48, 48, 48, 48, 48, 48, 48]⟩ by kernel_rfl, w2]
  rfl
end Go.Proofs.YtddnfappkfiidaaGreat.Ev
