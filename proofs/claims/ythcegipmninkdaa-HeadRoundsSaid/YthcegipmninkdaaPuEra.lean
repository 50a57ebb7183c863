/- Eras: the number near a pivot, by the program and by its reference. -/
import Derived.Test.YthcegipmninkdaaPuBig
import Derived.Test.YthcegipmninkdaaPuNum
import Derived.Test.YthcegipmninkdaaPuSizeU32
namespace Go.Proofs.Ythcegipmninkdaa.Ev
open Go
set_option linter.unusedVariables false
set_option linter.unusedSimpArgs false
/-- The number near p with the lowest 32 bits n. -/
def nearV (n p : Int) : Int := if 2147483648 ≤ (n - p) % 4294967296 then p + ((n - p) % 4294967296 - 4294967296) else p + (n - p) % 4294967296
def i64V (a : Int) : Int := if i64 a then a else 0
def i64E (a : Int) : Int := if i64 a then 0 else 5
theorem num_add' (a b : Int) (ha : i64 a) (hb : i64 b) : g_num_Add ((), ((a, ()), ((b, ()), ()))) = some ((), ((i64V (a + b), ()), ((errOf (i64E (a + b)), ()), ()))) := by
  rw [num_add a b ha hb]
  unfold i64V i64E
  by_cases h : i64 (a + b)
  · rw [if_pos h, if_pos h, if_pos h]; rfl
  · rw [if_neg h, if_neg h, if_neg h]; rfl
theorem num_sub' (a b : Int) (ha : i64 a) (hb : i64 b) : g_num_Sub ((), ((a, ()), ((b, ()), ()))) = some ((), ((i64V (a - b), ()), ((errOf (i64E (a - b)), ()), ()))) := by
  simp only [g_num_Sub, f_num_Sub_m, fitsS_dec, Option.bind_some, Option.isNone_none, Option.isNone_some, Option.isSome_none, Option.isSome_some, Bool.not_true, Bool.not_false, cond_true, cond_false, cond_dec, beq_int, bne_int, not_dec, gt_iff_lt]
  unfold i64V i64E i64 at *
  by_cases h : -9223372036854775808 ≤ a - b ∧ a - b ≤ 9223372036854775807
  · rw [isub_i64 h, if_pos h, if_pos h]
    by_cases h1 : 0 < b
    · rw [if_pos h1, if_neg (by omega), if_neg (by omega)]; rfl
    · rw [if_neg h1]
      by_cases h2 : b < 0
      · rw [if_pos h2, if_neg (by omega)]; rfl
      · rw [if_neg h2]; rfl
  · rw [if_neg h, if_neg h]
    have e : isub .i64 a b = (a - b + 9223372036854775808) % 18446744073709551616 - 9223372036854775808 := wrap_i64 _
    rw [e]
    by_cases h1 : 0 < b
    · rw [if_pos h1, if_pos (by omega)]; rfl
    · rw [if_neg h1, if_pos (by omega), if_pos (by omega)]; rfl
theorem era_bits32 (n p : Int) (h0 : 0 ≤ n) (h1 : n < 4294967296) (hp : i64 p) : g_era_Bits ((), ((n, ()), ((32, ()), ((p, ()), ())))) = some ((), ((i64V (nearV n p), ()), ((errOf (i64E (nearV n p)), ()), ()))) := by
  have hmask : g_era_mask ((), ((32, ()), ())) = some ((), ((4294967295, ()), ())) := by kernel_rfl
  have hright : g_era_right ((), ((32, ()), ())) = some ((), ((true, ()), ())) := by kernel_rfl
  unfold i64 at hp
  simp only [g_era_Bits, f_era_Bits_m, hmask, hright, fitsS_dec, Option.bind_some, Option.isNone_none, Option.isNone_some, Option.isSome_none, Option.isSome_some, Bool.not_true, Bool.not_false, cond_true, cond_false, cond_dec, beq_int, bne_int, not_dec, gt_iff_lt, ge_iff_le]
  have e1 : iand .u64 (isub .u64 n (iconv .u64 p)) 4294967295 = (n - p) % 4294967296 := by
    rw [iconv_u64, isub_u64]
    have := iand_mask (k := .u64) (a := (n - p % 18446744073709551616) % 18446744073709551616) 32 (by decide) rfl (by omega) (by simp only [IntKind.bits]; omega)
    rw [show ((2 : Int) ^ 32 - 1) = 4294967295 from rfl, show ((2 : Int) ^ 32) = 4294967296 from rfl] at this
    rw [this]; omega
  rw [if_neg (by omega), e1, iconv_i64 (by omega), isub_i64 (a := 32) (by omega), if_neg (by omega), show ishl .i64 1 (32 - 1) = 2147483648 by kernel_rfl, show ishl .i64 1 32 = 4294967296 by kernel_rfl]
  unfold nearV
  by_cases hc : 2147483648 ≤ (n - p) % 4294967296
  · rw [if_pos hc, if_pos hc, if_neg (by omega), isub_i64 (by omega), num_add' p _ hp (by unfold i64; omega)]
    simp only [Option.bind_some]
  · rw [if_neg hc, if_neg hc, num_add' p _ hp (by unfold i64; omega)]
    simp only [Option.bind_some]
theorem era_unfold (n p : Int) (h0 : 0 ≤ n) (h1 : n < 4294967296) (hp : i64 p) : g_era_Unfold_u32 ((), ((n, ()), ((p, ()), ()))) = some ((), ((i64V (nearV n p), ()), ((errOf (i64E (nearV n p)), ()), ()))) := by
  simp only [g_era_Unfold_u32, f_era_Unfold_u32_m, size_u32, Option.bind_some]
  rw [iconv_u64, Int.emod_eq_of_lt h0 (by omega), imul_i64 (by omega), show (4 : Int) * 8 = 32 from rfl, era_bits32 n p h0 h1 hp]
  simp only [Option.bind_some]
theorem sm_pow {i : Nat} (h : i ≤ 62) : sm ((2 : Int) ^ i) := by
  have h1 : ∀ i : Nat, i ≤ 62 → (0 : Int) ≤ 2 ^ i ∧ (2 : Int) ^ i ≤ 4611686018427387904 := by decide
  have := h1 i h
  exact sm_of (by omega)
end Go.Proofs.Ythcegipmninkdaa.Ev
