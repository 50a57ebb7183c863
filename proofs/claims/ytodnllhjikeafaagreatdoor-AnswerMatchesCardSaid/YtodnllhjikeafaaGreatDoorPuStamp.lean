/- Stamps and their bytes. -/
import Derived.Test.YtodnllhjikeafaaGreatDoorPuWordv
import Derived.Test.YtodnllhjikeafaaGreatDoorPuListU32
import Derived.Test.YtodnllhjikeafaaGreatDoorPuListU16
import Derived.Test.YtodnllhjikeafaaGreatDoorPuPutU32
import Derived.Test.YtodnllhjikeafaaGreatDoorPuPutU16
import Derived.Test.YtodnllhjikeafaaGreatDoorPureStampTimes
namespace Go.Proofs.YtodnllhjikeafaaGreatDoor.Ev
open Go
set_option linter.unusedVariables false
set_option linter.unusedSimpArgs false
@[reducible] def u32 (a : Int) : Prop := 0 ≤ a ∧ a < 4294967296
@[reducible] def u16 (a : Int) : Prop := 0 ≤ a ∧ a < 65536
@[reducible] def u64 (a : Int) : Prop := 0 ≤ a ∧ a < 18446744073709551616
theorem stamp_bytes (s f : Int) (hs : u32 s) (hf : u32 f) : g_stamp_Bytes ((), ((s, (f, ())), ())) = some ((be (s * 4294967296 + f) 8, ()), ((), ())) := by
  have h := be_split s f 4 (by exact hf) 4
  rw [show (256 : Int) ^ 4 = 4294967296 from rfl] at h
  simp only [g_stamp_Bytes, f_stamp_Bytes_m]
  rw [put_u32 [] [s, f] (by intro w hw; simp only [List.mem_cons, List.not_mem_nil, or_false] at hw; rcases hw with rfl | rfl; exact hs; exact hf) (by simp)]
  simp only [fitsS_dec, Option.bind_some, Option.isNone_none, Option.isNone_some, Option.isSome_none, Option.isSome_some, Bool.not_true, Bool.not_false, cond_true, cond_false, cond_dec, beq_int, bne_int, not_dec, List.nil_append, List.flatMap_cons, List.flatMap_nil, List.append_nil, ← h]
theorem stamp_shortBytes (s f : Int) (hs : u16 s) (hf : u16 f) : g_stamp_ShortBytes ((), ((s, (f, ())), ())) = some ((be (s * 65536 + f) 4, ()), ((), ())) := by
  have h := be_split s f 2 (by exact hf) 2
  rw [show (256 : Int) ^ 2 = 65536 from rfl] at h
  simp only [g_stamp_ShortBytes, f_stamp_ShortBytes_m]
  rw [put_u16 [] [s, f] (by intro w hw; simp only [List.mem_cons, List.not_mem_nil, or_false] at hw; rcases hw with rfl | rfl; exact hs; exact hf) (by simp)]
  simp only [fitsS_dec, Option.bind_some, Option.isNone_none, Option.isNone_some, Option.isSome_none, Option.isSome_some, Bool.not_true, Bool.not_false, cond_true, cond_false, cond_dec, beq_int, bne_int, not_dec, List.nil_append, List.flatMap_cons, List.flatMap_nil, List.append_nil, ← h]
theorem ior_parts {s f : Int} (hs : u32 s) (hf : u32 f) : ior .u64 (ishl .u64 (iconv .u64 s) 32) (iconv .u64 f) = s * 4294967296 + f := by
  rw [iconv_u64, iconv_u64, Int.emod_eq_of_lt hs.1 (by omega), Int.emod_eq_of_lt hf.1 (by omega)]
  have e1 : ishl .u64 s 32 = s * 4294967296 := IntWalk.u64_in _ (by simp only [show min (32 : Int).toNat (IntKind.bits .u64) = 32 from rfl, show (2 : Int) ^ 32 = 4294967296 from rfl]; omega)
  rw [e1]
  exact ior_high 32 (by decide) hs.1 (by exact hf) (by omega)
theorem stamp_two (b : List Int) (hb : bytesL b) (hl : b.length ≤ 100000000) : g_stamp_two_u32 ((), ((b, ()), ())) = some (
    if b.length = 8 then ((), ((wordv b 0 / 4294967296, ()), ((wordv b 0 % 4294967296, ()), ((none, ()), ()))))
    else ((), ((0, ()), ((0, ()), ((some 2, ()), ()))))) := by
  simp only [g_stamp_two_u32, f_stamp_two_u32_m]
  rw [list_u32 b hb hl 0 2 (by unfold i64; omega) (by unfold i64; omega), size_u32, if_neg (by omega), Int.sub_zero]
  by_cases h : b.length = 8
  · rw [if_neg (by omega), if_pos h]
    have h1 : (b.take 4).length = 4 := by simp; omega
    have h2 : (b.drop 4).length = 4 := by simp; omega
    have b1 : bytesL (b.take 4) := fun x hx => hb x (List.mem_of_mem_take hx)
    have b2 : bytesL (b.drop 4) := fun x hx => hb x (List.mem_of_mem_drop hx)
    have w := wordv_two b1 b2 (by omega)
    have w1 := wordv_lt b1 (by omega)
    have w2 := wordv_lt b2 (by omega)
    rw [List.take_append_drop, h2] at w
    rw [h1] at w1
    rw [h2] at w2
    have p : (256 : Int) ^ 4 = 4294967296 := rfl
    rw [p] at w w1 w2
    simp only [fitsS_dec, Option.bind_some, Option.isNone_none, Option.isNone_some, Option.isSome_none, Option.isSome_some, Bool.not_true, Bool.not_false, cond_true, cond_false, cond_dec, beq_int, bne_int, not_dec, imul_i64 (show (-9223372036854775808 : Int) ≤ 2 * 4 ∧ (2 : Int) * 4 ≤ 9223372036854775807 by omega)]
    rw [if_neg (by omega)]
    have e : chunks 4 (Int.toNat 2) (b.drop (Int.toNat 0)) = [b.take 4, b.drop 4] := by
      show [(b.drop 0).take 4, ((b.drop 0).drop 4).take 4] = _
      rw [List.drop_zero, List.take_of_length_le (l := b.drop 4) (by omega)]
    rw [e]
    have q1 : wordv b 0 / 4294967296 = wordv (b.take 4) 0 := by omega
    have q2 : wordv b 0 % 4294967296 = wordv (b.drop 4) 0 := by omega
    rw [q1, q2]
    simp only [List.map_cons, List.map_nil, iconv_u32]
    rw [Int.emod_eq_of_lt w1.1 w1.2, Int.emod_eq_of_lt w2.1 w2.2]
    rfl
  · rw [if_neg h]
    by_cases c : (b.length : Int) / 4 < 2
    · rw [if_pos c]; rfl
    · rw [if_neg c]
      simp only [fitsS_dec, Option.bind_some, Option.isNone_none, Option.isNone_some, Option.isSome_none, Option.isSome_some, Bool.not_true, Bool.not_false, cond_true, cond_false, cond_dec, beq_int, bne_int, not_dec, imul_i64 (show (-9223372036854775808 : Int) ≤ 2 * 4 ∧ (2 : Int) * 4 ≤ 9223372036854775807 by omega)]
      rw [if_pos (by omega)]
theorem stamp_two16 (b : List Int) (hb : bytesL b) (hl : b.length ≤ 100000000) : g_stamp_two_u16 ((), ((b, ()), ())) = some (
    if b.length = 4 then ((), ((wordv b 0 / 65536, ()), ((wordv b 0 % 65536, ()), ((none, ()), ()))))
    else ((), ((0, ()), ((0, ()), ((some 2, ()), ()))))) := by
  simp only [g_stamp_two_u16, f_stamp_two_u16_m]
  rw [list_u16 b hb hl 0 2 (by unfold i64; omega) (by unfold i64; omega), size_u16, if_neg (by omega), Int.sub_zero]
  by_cases h : b.length = 4
  · rw [if_neg (by omega), if_pos h]
    have h1 : (b.take 2).length = 2 := by simp; omega
    have h2 : (b.drop 2).length = 2 := by simp; omega
    have b1 : bytesL (b.take 2) := fun x hx => hb x (List.mem_of_mem_take hx)
    have b2 : bytesL (b.drop 2) := fun x hx => hb x (List.mem_of_mem_drop hx)
    have w := wordv_two b1 b2 (by omega)
    have w1 := wordv_lt b1 (by omega)
    have w2 := wordv_lt b2 (by omega)
    rw [List.take_append_drop, h2] at w
    rw [h1] at w1
    rw [h2] at w2
    have p : (256 : Int) ^ 2 = 65536 := rfl
    rw [p] at w w1 w2
    simp only [fitsS_dec, Option.bind_some, Option.isNone_none, Option.isNone_some, Option.isSome_none, Option.isSome_some, Bool.not_true, Bool.not_false, cond_true, cond_false, cond_dec, beq_int, bne_int, not_dec, imul_i64 (show (-9223372036854775808 : Int) ≤ 2 * 2 ∧ (2 : Int) * 2 ≤ 9223372036854775807 by omega)]
    rw [if_neg (by omega)]
    have e : chunks 2 (Int.toNat 2) (b.drop (Int.toNat 0)) = [b.take 2, b.drop 2] := by
      show [(b.drop 0).take 2, ((b.drop 0).drop 2).take 2] = _
      rw [List.drop_zero, List.take_of_length_le (l := b.drop 2) (by omega)]
    rw [e]
    have q1 : wordv b 0 / 65536 = wordv (b.take 2) 0 := by omega
    have q2 : wordv b 0 % 65536 = wordv (b.drop 2) 0 := by omega
    rw [q1, q2]
    simp only [List.map_cons, List.map_nil, iconv_u16]
    rw [Int.emod_eq_of_lt w1.1 w1.2, Int.emod_eq_of_lt w2.1 w2.2]
    rfl
  · rw [if_neg h]
    by_cases c : (b.length : Int) / 2 < 2
    · rw [if_pos c]; rfl
    · rw [if_neg c]
      simp only [fitsS_dec, Option.bind_some, Option.isNone_none, Option.isNone_some, Option.isSome_none, Option.isSome_some, Bool.not_true, Bool.not_false, cond_true, cond_false, cond_dec, beq_int, bne_int, not_dec, imul_i64 (show (-9223372036854775808 : Int) ≤ 2 * 2 ∧ (2 : Int) * 2 ≤ 9223372036854775807 by omega)]
      rw [if_pos (by omega)]
theorem stamp_parse (b : List Int) (hb : bytesL b) (hl : b.length ≤ 100000000) : g_stamp_Parse ((), ((b, ()), ())) = some (
    if b.length = 8 then ((), ((wordv b 0 / 4294967296, (wordv b 0 % 4294967296, ())), ((none, ()), ())))
    else ((), ((0, (0, ())), ((some 2, ()), ())))) := by
  simp only [g_stamp_Parse, f_stamp_Parse_m, stamp_two b hb hl, Option.bind_some]
  by_cases h : b.length = 8
  · rw [if_pos h, if_pos h]
  · rw [if_neg h, if_neg h]
theorem stamp_parseShort (b : List Int) (hb : bytesL b) (hl : b.length ≤ 100000000) : g_stamp_ParseShort ((), ((b, ()), ())) = some (
    if b.length = 4 then ((), ((wordv b 0 / 65536, (wordv b 0 % 65536, ())), ((none, ()), ())))
    else ((), ((0, (0, ())), ((some 2, ()), ())))) := by
  simp only [g_stamp_ParseShort, f_stamp_ParseShort_m, stamp_two16 b hb hl, Option.bind_some]
  by_cases h : b.length = 4
  · rw [if_pos h, if_pos h]
  · rw [if_neg h, if_neg h]
end Go.Proofs.YtodnllhjikeafaaGreatDoor.Ev
