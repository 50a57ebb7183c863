/- The law StampBytes, plain. -/
import Derived.Test.YthcegipmninkdaaPuStamp
namespace Go.Proofs.Ythcegipmninkdaa.Ev
open Go
set_option linter.unusedVariables false
set_option linter.unusedSimpArgs false
theorem ishr32 {x : Int} (h : u64 x) : ishr .u64 x 32 = x / 4294967296 := by
  unfold ishr
  rw [show min (32 : Int).toNat (IntKind.bits .u64) = 32 from rfl, show ((2 : Int) ^ 32) = 4294967296 from rfl, Int.fdiv_eq_ediv_of_nonneg _ (by decide)]
theorem ishr16 {x : Int} (h : u64 x) : ishr .u64 x 16 = x / 65536 := by
  unfold ishr
  rw [show min (16 : Int).toNat (IntKind.bits .u64) = 16 from rfl, show ((2 : Int) ^ 16) = 65536 from rfl, Int.fdiv_eq_ediv_of_nonneg _ (by decide)]
theorem is_form : g_hnum_Is ((), ((some 2, ()), ((2, ()), ()))) = some ((), ((true, ()), ())) := rfl
theorem stamp_bytes_law (x y : Int) (b : List Int) (hx : u64 x) (hy : u64 y) (hb : bytesL b) : g_law15_StampBytes ((), ((x, ()), ((y, ()), ((b, ()), ())))) = some ((), ((true, ()), ())) := by
  by_cases hl : (b.length : Int) > 100
  · refine (Evn.const fun k => ?_).lim
    simp only [f_law15_StampBytes_m, stamp_alive, fitsS_dec, Option.bind_some, Option.isNone_none, Option.isNone_some, Option.isSome_none, Option.isSome_some, Bool.not_true, Bool.not_false, cond_true, cond_false, cond_dec, beq_int, bne_int, not_dec, if_neg Bool.false_ne_true]
    rw [if_pos hl]
  have hn0 : wordv b 0 = wordv b 0 := rfl
  have hv := wordv_range b 0 (by decide) (by decide)
  have key : Evn (fun k => (f_law15_StampBytes_t k).1 (((if b.length = 4 then wordv b 0 / 65536 else 0, (if b.length = 4 then wordv b 0 % 65536 else 0, ())), ()), ((b, ()), ((), ((if b.length = 4 then none else some 2, ()), ((wordv b 0, ()), ((false, ()), ()))))))) ((), ((true, ()), ())) := by
    refine Evn.some 1 fun k => ?_
    rw [t_law15_StampBytes]
    simp only [f_law15_StampBytes_p20, fitsS_dec, Option.bind_some, Option.isNone_none, Option.isNone_some, Option.isSome_none, Option.isSome_some, Bool.not_true, Bool.not_false, cond_true, cond_false, cond_dec, beq_int, bne_int, not_dec, Bool.and_true]
    by_cases h : b.length = 4
    · have hlt := wordv_lt hb (by omega)
      rw [h, show (256 : Int) ^ 4 = 4294967296 from rfl] at hlt
      rw [if_pos (by omega), ishr16 hv, iconv_u16, iconv_u16]
      simp only [h, if_true, fitsS_dec, Option.bind_some, Option.isNone_none, Option.isNone_some, Option.isSome_none, Option.isSome_some, Bool.not_true, Bool.not_false, cond_true, cond_false, cond_dec, beq_int, bne_int, not_dec]
      rw [Int.emod_eq_of_lt (a := wordv b 0 / 65536) (by omega) (by omega)]
      simp
    · rw [if_neg (by omega), if_pos (by omega)]
      simp only [h, if_false, is_form, fitsS_dec, Option.bind_some, Option.isNone_none, Option.isNone_some, Option.isSome_none, Option.isSome_some, Bool.not_true, Bool.not_false, cond_true, cond_false, cond_dec, beq_int, bne_int, not_dec]
      simp
  refine (key.cast fun k => ?_).lim
  simp only [f_law15_StampBytes_m, stamp_alive, fitsS_dec, Option.bind_some, Option.isNone_none, Option.isNone_some, Option.isSome_none, Option.isSome_some, Bool.not_true, Bool.not_false, cond_true, cond_false, cond_dec, beq_int, bne_int, not_dec]
  rw [if_neg hl, ishr32 hx, ishr32 hy, ishr16 hx, iconv_u32, iconv_u32, iconv_u32, iconv_u32, iconv_u16, iconv_u16, tmod_nn hx.1]
  have e1 : x / 4294967296 % 4294967296 * 4294967296 + x % 4294967296 = x := by omega
  have e2 : y / 4294967296 % 4294967296 * 4294967296 + y % 4294967296 = y := by omega
  have e3 : x / 65536 % 65536 * 65536 + x % 65536 = x % 4294967296 := by omega
  have n8 := ref03_number x 8 hx (by decide)
  have n4 := ref03_number (x % 4294967296) 4 (by omega) (by decide)
  simp only [stamp_bytes _ _ (show u32 (x / 4294967296 % 4294967296) by unfold u32; omega) (show u32 (x % 4294967296) by unfold u32; omega), e1, stamp_shortBytes _ _ (show u16 (x / 65536 % 65536) by unfold u16; omega) (show u16 (x % 65536) by unfold u16; omega), e3,
    show ((8 : Nat) : Int) = 8 from rfl, show ((4 : Nat) : Int) = 4 from rfl] at n8 n4 ⊢
  simp only [n8, n4, bytes_same, fitsS_dec, Option.bind_some, Option.isNone_none, Option.isNone_some, Option.isSome_none, Option.isSome_some, Bool.not_true, Bool.not_false, cond_true, cond_false, cond_dec, beq_int, bne_int, not_dec]
  simp only [stamp_sub _ _ _ _ (show u32 (x / 4294967296 % 4294967296) by unfold u32; omega) (show u32 (x % 4294967296) by unfold u32; omega) (show u32 (y / 4294967296 % 4294967296) by unfold u32; omega) (show u32 (y % 4294967296) by unfold u32; omega), e1, e2, fitsS_dec, Option.bind_some, Option.isNone_none, Option.isNone_some, Option.isSome_none, Option.isSome_some, Bool.not_true, Bool.not_false, cond_true, cond_false, cond_dec, beq_int, bne_int, not_dec, ne_eq, not_true_eq_false, if_false]
  have z : g_stamp_Zero ((), ((x / 4294967296 % 4294967296, (x % 4294967296, ())), ())) = some ((), ((decide (x = 0), ()), ())) := by
    simp only [g_stamp_Zero, f_stamp_Zero_m, beq_int, Bool.and_true, and_dec]
    rw [decide_eq_decide.2 (show (x / 4294967296 % 4294967296 = 0 ∧ x % 4294967296 = 0) ↔ x = 0 by unfold u64 at hx; omega)]
  simp only [z, fitsS_dec, Option.bind_some, Option.isNone_none, Option.isNone_some, Option.isSome_none, Option.isSome_some, Bool.not_true, Bool.not_false, cond_true, cond_false, cond_dec, beq_int, bne_int, not_dec, beq_self_eq_true, Bool.not_true, List.nil_append, List.length_nil, Nat.zero_add, and_dec]
  rw [if_pos (by omega)]
  simp only [stamp_parse b hb (by omega), stamp_parseShort b hb (by omega), bytes_same, ref03_value b hb (by omega), fitsS_dec, Option.bind_some, Option.isNone_none, Option.isNone_some, Option.isSome_none, Option.isSome_some, Bool.not_true, Bool.not_false, cond_true, cond_false, cond_dec, beq_int, bne_int, not_dec]
  by_cases h : b.length = 8
  · have hlt := wordv_lt hb (by omega)
    rw [h, show (256 : Int) ^ 8 = 18446744073709551616 from rfl] at hlt
    have h4 : ¬ b.length = 4 := by omega
    have h8 : ((b.length : Int) = 8) := by omega
    simp only [h, h4, h8, if_true, if_false, fitsS_dec, Option.bind_some, Option.isNone_none, Option.isNone_some, Option.isSome_none, Option.isSome_some, Bool.not_true, Bool.not_false, cond_true, cond_false, cond_dec, beq_int, bne_int, not_dec]
    rw [ishr32 hv, iconv_u32, iconv_u32, Int.emod_eq_of_lt (a := wordv b 0 / 4294967296) (by omega) (by omega)]
    simp
  · have h8 : ¬ ((b.length : Int) = 8) := by omega
    simp only [h, h8, if_false, not_false_eq_true, if_true, fitsS_dec, Option.bind_some, Option.isNone_none, Option.isNone_some, Option.isSome_none, Option.isSome_some, Bool.not_true, Bool.not_false, cond_true, cond_false, cond_dec, beq_int, bne_int, not_dec, is_form]
    by_cases h4 : b.length = 4
    · simp only [h4, if_true]; simp
    · simp only [h4, if_false]; simp
end Go.Proofs.Ythcegipmninkdaa.Ev
