/- The laws of figures, plain. -/
import Derived.Test.YtfdppbfefplikaaPuPutF
import Derived.Test.YtfdppbfefplikaaPuNn
namespace Go.Proofs.Ytfdppbfefplikaa.Ev
open Go
set_option linter.unusedVariables false
set_option linter.unusedSimpArgs false
theorem take_val {s : ByteArray} {least most limit : Int} (h : takeE s least most limit = 0) : cutV s (takeK s most) ≤ limit ∧ takeK s most ≤ 20 ∧ takeK s most ≤ lead (bytesOf s) ∧ least ≤ takeK s most ∧ 1 ≤ least := by
  unfold takeE at h
  split at h
  · cases h
  · split at h
    · cases h
    · split at h
      · rename_i h1 h2 h3
        unfold takeK
        exact ⟨h3, by omega, by omega, by omega, by omega⟩
      · cases h
theorem cutV_nn {s : ByteArray} {k : Nat} (h : k ≤ lead (bytesOf s)) : 0 ≤ cutV s k := (val10_range _ _ rfl (cut_figs h)).1
theorem figs_Take (s : ByteArray) (hs : s.size ≤ 1000000) (least most : Int) : g_figures_Take ((), ((s, ()), ((least, ()), ((most, ()), ())))) =
    some ((), ((if takeE s least most (9223372036854775807 : Int) = 0 then cutV s (takeK s most) else 0, ()), ((if takeE s least most (9223372036854775807 : Int) = 0 then (takeK s most : Int) else 0, ()), ((errOf (takeE s least most (9223372036854775807 : Int)), ()), ())))) := by
  simp only [g_figures_Take, f_figures_Take_m, fig_take s hs least most (9223372036854775807 : Int) (by omega), Option.bind_some]
  by_cases h : takeE s least most (9223372036854775807 : Int) = 0
  · have := take_val h
    have := cutV_nn this.2.2.1
    rw [if_pos h, iconv_i64 (by omega)]
  · rw [if_neg h, iconv_i64 (by omega)]
theorem ref02_take (s : ByteArray) (hs : s.size ≤ 1000000) (least most : Int) : g_ref02_Take ((), ((s, ()), ((least, ()), ((most, ()), ())))) =
    some ((), ((if takeE s least most (9223372036854775807 : Int) = 0 then cutV s (takeK s most) else 0, ()), ((if takeE s least most (9223372036854775807 : Int) = 0 then (takeK s most : Int) else 0, ()), ((takeE s least most (9223372036854775807 : Int), ()), ())))) := by
  simp only [g_ref02_Take, f_ref02_Take_m, Option.bind_some, Option.isNone_none, Option.isNone_some, Option.isSome_none, Option.isSome_some, Bool.not_true, Bool.not_false, cond_true, cond_false, cond_dec, beq_int, bne_int, not_dec, gt_iff_lt]
  by_cases c : least < 1 ∨ most < least ∨ 20 < most
  · have e : takeE s least most (9223372036854775807 : Int) = 1 := if_pos c
    rw [e]
    simp only [show ((1 : Int) = 0) = False by simp, if_false]
    by_cases c1 : least < 1
    · rw [if_pos c1]
    · rw [if_neg c1]
      by_cases c2 : most < least
      · rw [if_pos c2]
      · rw [if_neg c2, if_pos (by omega)]
  · rw [if_neg (by omega), if_neg (by omega), if_neg (by omega), ref02_many s hs]
    simp only [Option.bind_some]
    have hl := lead_le (bytesOf s)
    rw [by_len] at hl
    have hcut : bytesOf (s.extract 0 (takeK s most)) = (bytesOf s).take (takeK s most) := by rw [by_cut, List.drop_zero]
    have hK : takeK s most = min (lead (bytesOf s)) most.toNat := rfl
    have hb := ref02_big (s.extract 0 (takeK s most)) (by rw [← by_len, hcut, List.length_take]; omega) (by rw [hcut]; exact cut_figs (by omega))
    rw [hcut] at hb
    have hr := fig10 ((bytesOf s).take (takeK s most)) (by rw [List.length_take]; omega) (cut_figs (by omega))
    have hsm := big_small (val10 ((bytesOf s).take (takeK s most))) (sm_of (by omega))
    have e : takeE s least most (9223372036854775807 : Int) = if ((takeK s most : Nat) : Int) < least then 2 else if cutV s (takeK s most) ≤ (9223372036854775807 : Int) then 0 else 5 := if_neg c
    rw [e]
    have fin : ∀ k : Int, k = ((takeK s most : Nat) : Int) → ((if k < least then some ((), (0, ()), (0, ()), (2, ()), ()) else if ((0 : Int) ≤ 0 ∧ 0 ≤ k) ∧ k ≤ (s.size : Int) then
        (g_ref02_Big ((), ((s.extract (Int.toNat 0) k.toNat, ()), ()))).bind fun x8 => (g_ref01_Small ((), ((x8.2.1.1, (x8.2.1.2.1, ())), ()))).bind fun x9 => if x9.2.2.1.1 ≠ 0 then some ((), (0, ()), (0, ()), (x9.2.2.1.1, ()), ()) else some ((), (x9.2.1.1, ()), (k, ()), (0, ()), ()) else none) : Option (Unit × (Int × Unit) × (Int × Unit) × (Int × Unit) × Unit)) =
        some ((), ((if (if ((takeK s most : Nat) : Int) < least then (2 : Int) else if cutV s (takeK s most) ≤ (9223372036854775807 : Int) then 0 else 5) = 0 then cutV s (takeK s most) else 0, ()), ((if (if ((takeK s most : Nat) : Int) < least then (2 : Int) else if cutV s (takeK s most) ≤ (9223372036854775807 : Int) then 0 else 5) = 0 then (takeK s most : Int) else 0, ()), ((if ((takeK s most : Nat) : Int) < least then (2 : Int) else if cutV s (takeK s most) ≤ (9223372036854775807 : Int) then 0 else 5, ()), ())))) := by
      intro k hk
      subst hk
      by_cases c1 : ((takeK s most : Nat) : Int) < least
      · simp only [c1, if_true, show ((2 : Int) = 0) = False by simp, if_false]
      · simp only [c1, if_false]
        rw [if_pos (by omega), Int.toNat_natCast, show Int.toNat 0 = 0 from rfl, hb]
        simp only [big] at hsm
        simp only [Option.bind_some, big, hsm]
        unfold cutV
        by_cases c2 : val10 ((bytesOf s).take (takeK s most)) ≤ (9223372036854775807 : Int)
        · simp only [c2, show -9223372036854775808 ≤ val10 ((bytesOf s).take (takeK s most)) by omega, and_self, if_true, ne_eq, not_true_eq_false, if_false]
        · simp only [c2, and_false, if_false, show ((5 : Int) = 0) = False by simp, ne_eq, not_false_eq_true, if_true]
    by_cases c3 : most < ((lead (bytesOf s) : Nat) : Int)
    · rw [if_pos c3]
      simp only [and_dec, cond_dec]
      exact fin most (by omega)
    · rw [if_neg c3]
      simp only [and_dec, cond_dec]
      exact fin ((lead (bytesOf s) : Nat) : Int) (by omega)
/-- What whole gives: the error's number. -/
def wholeE (s : ByteArray) (least most limit : Int) : Int := if takeE s least most limit = 0 then if takeK s most < s.size then 2 else 0 else takeE s least most limit
theorem whole_take {s : ByteArray} {least most limit : Int} (h : wholeE s least most limit = 0) : takeE s least most limit = 0 ∧ s.size ≤ takeK s most := by
  unfold wholeE at h
  split at h
  · split at h
    · cases h
    · exact ⟨by assumption, by omega⟩
  · contradiction
theorem fig_whole (s : ByteArray) (hs : s.size ≤ 1000000) (least most limit : Int) (hlm : 9 ≤ limit ∧ limit ≤ 10000000000000000000) : g_figures_whole ((), ((s, ()), ((least, ()), ((most, ()), ((limit, ()), ()))))) =
    some ((), ((if wholeE s least most limit = 0 then cutV s (takeK s most) else 0, ()), ((errOf (wholeE s least most limit), ()), ()))) := by
  simp only [g_figures_whole, f_figures_whole_m, fig_take s hs least most limit hlm, Option.bind_some, Option.isNone_none, Option.isNone_some, Option.isSome_none, Option.isSome_some, Bool.not_true, Bool.not_false, cond_true, cond_false, cond_dec, beq_int, bne_int, not_dec, errOf_none]
  unfold wholeE
  by_cases h : takeE s least most limit = 0
  · simp only [h, if_true, not_true_eq_false, if_false]
    by_cases c : takeK s most < s.size
    · rw [if_pos (by omega), if_pos c]; rfl
    · rw [if_neg (by omega), if_neg c]; rfl
  · simp only [h, if_false, not_false_eq_true, if_true]
theorem figs_Whole (s : ByteArray) (hs : s.size ≤ 1000000) (least most : Int) : g_figures_Whole ((), ((s, ()), ((least, ()), ((most, ()), ())))) =
    some ((), ((if wholeE s least most (9223372036854775807 : Int) = 0 then cutV s (takeK s most) else 0, ()), ((errOf (wholeE s least most (9223372036854775807 : Int)), ()), ()))) := by
  simp only [g_figures_Whole, f_figures_Whole_m, fig_whole s hs least most (9223372036854775807 : Int) (by omega), Option.bind_some]
  by_cases h : wholeE s least most (9223372036854775807 : Int) = 0
  · have := take_val (whole_take h).1
    have := cutV_nn this.2.2.1
    rw [if_pos h, iconv_i64 (by omega)]
  · rw [if_neg h, iconv_i64 (by omega)]
theorem ref02_whole (s : ByteArray) (hs : s.size ≤ 1000000) (least most : Int) : g_ref02_Whole ((), ((s, ()), ((least, ()), ((most, ()), ())))) =
    some ((), ((if wholeE s least most (9223372036854775807 : Int) = 0 then cutV s (takeK s most) else 0, ()), ((wholeE s least most (9223372036854775807 : Int), ()), ()))) := by
  simp only [g_ref02_Whole, f_ref02_Whole_m, ref02_take s hs least most, Option.bind_some, Option.isNone_none, Option.isNone_some, Option.isSome_none, Option.isSome_some, Bool.not_true, Bool.not_false, cond_true, cond_false, cond_dec, beq_int, bne_int, not_dec]
  unfold wholeE
  by_cases h : takeE s least most (9223372036854775807 : Int) = 0
  · simp only [h, if_true]
    by_cases c : takeK s most < s.size
    · rw [if_pos (by omega), if_pos c]; rfl
    · rw [if_neg (by omega), if_neg c]; rfl
  · simp only [h, if_false]
/-! ### one of them works -/
theorem fig_fraction5 : g_figures_Fraction ((), ((⟨#[48, 53]⟩, ()), ())) = some ((), ((50000000, ()), ((none, ()), ()))) := by
  have w1 := figs_Whole ⟨#[48, 53]⟩ (by decide) 1 9
  rw [show wholeE ⟨#[48, 53]⟩ 1 9 (9223372036854775807 : Int) = 0 by decide, if_pos rfl] at w1
  have w2 := figs_Whole ⟨#[48, 53, 48, 48, 48, 48, 48, 48, 48]⟩ (by decide) 9 9
  rw [show wholeE ⟨#[48, 53, 48, 48, 48, 48, 48, 48, 48]⟩ 9 9 (9223372036854775807 : Int) = 0 by decide, if_pos rfl, show cutV ⟨#[48, 53, 48, 48, 48, 48, 48, 48, 48]⟩ (takeK ⟨#[48, 53, 48, 48, 48, 48, 48, 48, 48]⟩ 9) = 50000000 by decide] at w2
  have r : g_strings_Repeat ((), ((⟨#[48]⟩, ()), ((7, ()), ()))) = some ((), ((⟨#[48, 48, 48, 48, 48, 48, 48]⟩, ()), ())) := by kernel_rfl
  have z : isub .i64 9 2 = 7 := by kernel_rfl
  simp only [g_figures_Fraction, f_figures_Fraction_m, w1, Option.bind_some, Option.isNone_none, Option.isNone_some, Option.isSome_none, Option.isSome_some, Bool.not_true, Bool.not_false, cond_true, cond_false, cond_dec, beq_int, bne_int, not_dec, gt_iff_lt, show ((⟨#[48, 53]⟩ : ByteArray).size : Int) = 2 from rfl, z, r, errOf, if_true, Option.isNone_none]
  rw [if_neg (by omega), if_pos (by decide), show (⟨#[48, 53]⟩ ++ ⟨#[48, 48, 48, 48, 48, 48, 48]⟩ : ByteArray) = ⟨#[48, 53, 48, 48, 48, 48, 48, 48, 48]⟩ by kernel_rfl, w2]
  rfl
theorem law02_alive : g_law02_alive ((), ()) = some ((), ((true, ()), ())) := by
  have p := fig_put 7 2 (by unfold isI64; omega)
  rw [show putE 2 = 0 by decide, if_pos rfl, show strOf (putL 7 2) = ⟨#[48, 55]⟩ by
    unfold putL padd
    rw [show figs (Int.natAbs 7) = [55] by simp [figs_pos, figs_zero]]; kernel_rfl] at p
  simp only [g_law02_alive, f_law02_alive_m, p, fig_fraction5, Option.bind_some, Option.isNone_none, Option.isNone_some, Option.isSome_none, Option.isSome_some, Bool.not_true, Bool.not_false, cond_true, cond_false, cond_dec, beq_int, bne_int, not_dec, str_eq, errOf, if_true, Option.isNone_none, decide_true]
/-! ### the laws -/
theorem figures_puts (v w x : Int) (hv : -9223372036854775808 ≤ v ∧ v ≤ 9223372036854775807) (hx : 0 ≤ x ∧ x ≤ 255) : g_law02_FiguresPuts ((), ((v, ()), ((w, ()), ((x, ()), ())))) = some ((), ((true, ()), ())) := by
  simp only [g_law02_FiguresPuts, f_law02_FiguresPuts_m, law02_alive, fig_put v w hv, ref02_put v w hv, num_num, fig_is, ref02_is x (by omega), Option.bind_some, Option.isNone_none, Option.isNone_some, Option.isSome_none, Option.isSome_some, Bool.not_true, Bool.not_false, cond_true, cond_false, cond_dec, beq_int, bne_int, not_dec, str_eq]
  simp
theorem figures_takes (s : ByteArray) (least most : Int) : g_law02_FiguresTakes ((), ((s, ()), ((least, ()), ((most, ()), ())))) = some ((), ((true, ()), ())) := by
  simp only [g_law02_FiguresTakes, f_law02_FiguresTakes_m, law02_alive, Option.bind_some, Option.isNone_none, Option.isNone_some, Option.isSome_none, Option.isSome_some, Bool.not_true, Bool.not_false, cond_true, cond_false, cond_dec, beq_int, bne_int, not_dec, gt_iff_lt]
  by_cases h : (300 : Int) < s.size
  · simp [h]
  · have hs : s.size ≤ 1000000 := by omega
    simp only [figs_Take s hs, ref02_take s hs, figs_Whole s hs, ref02_whole s hs, num_num, Option.bind_some, Option.isNone_none, Option.isNone_some, Option.isSome_none, Option.isSome_some, Bool.not_true, Bool.not_false, cond_true, cond_false, cond_dec, beq_int, bne_int, not_dec]
    simp [h]
end Go.Proofs.Ytfdppbfefplikaa.Ev
