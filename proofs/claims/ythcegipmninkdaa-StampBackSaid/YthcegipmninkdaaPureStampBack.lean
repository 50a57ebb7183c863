/- The law StampBack, plain. -/
import Derived.Test.YthcegipmninkdaaPuStamp
namespace Go.Proofs.Ythcegipmninkdaa.Ev
open Go
set_option linter.unusedVariables false
set_option linter.unusedSimpArgs false
theorem near_self (t by_ : Int) (h : -2147483648 < by_ ∧ by_ ≤ 2147483647) : nearV (t % 4294967296) (t + by_) = t := by
  unfold nearV
  have e : (t % 4294967296 - (t + by_)) % 4294967296 = (-by_) % 4294967296 := by omega
  rw [e]
  split <;> omega
theorem stamp_fromPosix (t : Int) (ht : i64 t) : g_stamp_FromPosix ((), ((t, ()), ())) = some ((), ((i64V (t + 2208988800), ()), ((errOf (i64E (t + 2208988800)), ()), ()))) := by
  simp only [g_stamp_FromPosix, f_stamp_FromPosix_m, num_add' t 2208988800 ht (by unfold i64; omega), Option.bind_some]
theorem stamp_toPosix (t : Int) (ht : i64 t) : g_stamp_ToPosix ((), ((t, ()), ())) = some ((), ((i64V (t - 2208988800), ()), ((errOf (i64E (t - 2208988800)), ()), ()))) := by
  simp only [g_stamp_ToPosix, f_stamp_ToPosix_m, num_sub' t 2208988800 ht (by unfold i64; omega), Option.bind_some]
theorem i64_in {a : Int} (h : i64 a) : i64V a = a ∧ i64E a = 0 := ⟨if_pos h, if_pos h⟩
theorem stamp_back (t by_ w n : Int) (ht : i64 t) (hb : -2147483648 ≤ by_ ∧ by_ ≤ 2147483647) (hn : i64 n) : g_law15_StampBack ((), ((t, ()), ((by_, (w, ())), ((n, ()), ())))) = some ((), ((true, ()), ())) := by
  unfold i64 at ht hn
  simp only [g_law15_StampBack, f_law15_StampBack_m, stamp_alive, fitsS_dec, Option.bind_some, Option.isNone_none, Option.isNone_some, Option.isSome_none, Option.isSome_some, Bool.not_true, Bool.not_false, cond_true, cond_false, cond_dec, beq_int, bne_int, not_dec, gt_iff_lt, not_true_eq_false, if_false]
  rw [iconv_u32]
  have hf : u32 (w % 4294967296) := by unfold u32; omega
  generalize w % 4294967296 = f at hf ⊢
  have hN : 0 ≤ f * 1000000000 / 4294967296 ∧ f * 1000000000 / 4294967296 ≤ 999999999 := by omega
  simp only [stamp_nano f hf.1 hf.2, Option.bind_some, stamp_fraction (f * 1000000000 / 4294967296) (by unfold i64; omega)]
  have hV : fracV (f * 1000000000 / 4294967296) = (f * 1000000000 / 4294967296 * 4294967296 + 999999999) / 1000000000 := if_pos hN
  have hE : fracE (f * 1000000000 / 4294967296) = 0 := if_pos hN
  rw [hE]
  simp only [errOf_zero, fitsS_dec, Option.bind_some, Option.isNone_none, Option.isNone_some, Option.isSome_none, Option.isSome_some, Bool.not_true, Bool.not_false, cond_true, cond_false, cond_dec, beq_int, bne_int, not_dec, not_true_eq_false, if_false]
  have hle : fracV (f * 1000000000 / 4294967296) ≤ f ∧ f - fracV (f * 1000000000 / 4294967296) ≤ 4 := by rw [hV]; omega
  have hV0 : 0 ≤ fracV (f * 1000000000 / 4294967296) := by rw [hV]; omega
  have es : isub .u32 f (fracV (f * 1000000000 / 4294967296)) = f - fracV (f * 1000000000 / 4294967296) := by
    unfold isub; rw [wrap_u32, Int.emod_eq_of_lt (by omega) (by omega)]
  rw [if_neg (by omega), es, if_neg (by omega)]
  simp only [stamp_of t n hn, Option.bind_some, errOf_none, decide_eq_true_eq]
  by_cases h : 0 ≤ n ∧ n ≤ 999999999
  · have hE : fracE n = 0 := if_pos h
    have hV : fracV n = (n * 4294967296 + 999999999) / 1000000000 := if_pos h
    have hr : u32 (fracV n) := by unfold u32; rw [hV]; omega
    have hb2 : fracV n * 1000000000 / 4294967296 = n := by rw [hV]; omega
    simp only [hE, fitsS_dec, Option.bind_some, Option.isNone_none, Option.isNone_some, Option.isSome_none, Option.isSome_some, Bool.not_true, Bool.not_false, cond_true, cond_false, cond_dec, beq_int, bne_int, not_dec, not_true_eq_false, if_false, if_true, errOf_zero, stamp_nano (fracV n) hr.1 hr.2, hb2, decide_true]
    by_cases c1 : 4611686018427387904 < t
    · rw [if_pos c1]
    by_cases c2 : t < -4611686018427387904
    · rw [if_neg c1, if_pos c2]
    by_cases c3 : by_ = -2147483648
    · rw [if_neg c1, if_neg c2, if_pos c3]
    rw [if_neg c1, if_neg c2, if_neg c3, iconv_i64 (by omega), iadd_i64 (by omega)]
    have hs : u32 (t % 4294967296) := by unfold u32; omega
    have nr : nearV (t % 4294967296) (t + by_) = t := near_self t by_ (by omega)
    have x64 : 0 ≤ t % 4294967296 * 4294967296 + fracV n ∧ t % 4294967296 * 4294967296 + fracV n < 256 ^ 8 := by
      rw [show (256 : Int) ^ 8 = 18446744073709551616 from rfl]; unfold u32 at hs hr; omega
    have bl : (be (t % 4294967296 * 4294967296 + fracV n) 8).length = 8 := length_be _ 8
    have wv := wordv_eq _ 8 (by decide) x64.1 x64.2
    simp only [stamp_time _ _ (t + by_) hs hr (by unfold i64; omega), nr, (i64_in ht).1, (i64_in ht).2, stamp_bytes _ _ hs hr, Option.bind_some,
      stamp_parse _ (fun x hx => be_byte _ 8 x hx) (by rw [bl]; decide), bl, wv, stamp_fromPosix t ht, (i64_in (show i64 (t + 2208988800) by unfold i64; omega)).1, (i64_in (show i64 (t + 2208988800) by unfold i64; omega)).2,
      stamp_toPosix (t + 2208988800) (by unfold i64; omega), show t + 2208988800 - 2208988800 = t by omega, errOf_zero, hb2, fitsS_dec, Option.bind_some, Option.isNone_none, Option.isNone_some, Option.isSome_none, Option.isSome_some, Bool.not_true, Bool.not_false, cond_true, cond_false, cond_dec, beq_int, bne_int, not_dec, if_true, decide_true]
    rw [show (t % 4294967296 * 4294967296 + fracV n) / 4294967296 = t % 4294967296 by omega, show (t % 4294967296 * 4294967296 + fracV n) % 4294967296 = fracV n by omega]
    simp
  · have hE : fracE n = 1 := if_neg h
    simp only [hE, fitsS_dec, Option.bind_some, Option.isNone_none, Option.isNone_some, Option.isSome_none, Option.isSome_some, Bool.not_true, Bool.not_false, cond_true, cond_false, cond_dec, beq_int, bne_int, not_dec]
    rw [if_pos (by decide)]
    by_cases c : n < 0
    · rw [if_pos c]
    · rw [if_neg c, decide_eq_true (by omega)]
end Go.Proofs.Ythcegipmninkdaa.Ev
