/- The law OctetsWords, plain. -/
import Derived.Test.YtodnllhjikeafaaPuOneU8
import Derived.Test.YtodnllhjikeafaaPuOneU16
import Derived.Test.YtodnllhjikeafaaPuOneU32
import Derived.Test.YtodnllhjikeafaaPuOneU64
namespace Go.Proofs.Ytodnllhjikeafaa.Ev
open Go
set_option linter.unusedVariables false
set_option linter.unusedSimpArgs false
theorem octw_alive : g_law03_alive ((), ()) = some ((), ((true, ()), ())) := by
  unfold g_law03_alive f_law03_alive_m
  have h := put_u16 [] [258] (by intro w hw; simp only [List.mem_singleton] at hw; subst hw; omega) (by simp)
  simp only
  rw [h, size_u64]
  rfl
theorem octets_words (b : List Int) (hb : bytesL b) (at_ many w : Int) (ha : i64 at_) (hm : i64 many) (hw : 0 ≤ w ∧ w < 18446744073709551616) :
    g_law03_OctetsWords ((), ((b, ()), ((at_, (many, ())), ((w, ()), ())))) = some ((), ((true, ()), ())) := by
  simp only [g_law03_OctetsWords, f_law03_OctetsWords_m, octw_alive, fitsS_dec, Option.bind_some, Option.isNone_none, Option.isNone_some, Option.isSome_none, Option.isSome_some, Bool.not_true, Bool.not_false, cond_true, cond_false, cond_dec, beq_int, bne_int, not_dec, gt_iff_lt, iconv_u8, iconv_u16, iconv_u32]
  by_cases c : 300 < (b.length : Int)
  · rw [if_pos c]
  rw [if_neg c, one_u8 b hb (by omega) at_ many (w % 256) ha hm (by omega)]
  simp only [fitsS_dec, Option.bind_some, Option.isNone_none, Option.isNone_some, Option.isSome_none, Option.isSome_some, Bool.not_true, Bool.not_false, cond_true, cond_false, cond_dec, beq_int, bne_int, not_dec]
  rw [one_u16 b hb (by omega) at_ many (w % 65536) ha hm (by omega)]
  simp only [fitsS_dec, Option.bind_some, Option.isNone_none, Option.isNone_some, Option.isSome_none, Option.isSome_some, Bool.not_true, Bool.not_false, cond_true, cond_false, cond_dec, beq_int, bne_int, not_dec]
  rw [one_u32 b hb (by omega) at_ many (w % 4294967296) ha hm (by omega)]
  simp only [fitsS_dec, Option.bind_some, Option.isNone_none, Option.isNone_some, Option.isSome_none, Option.isSome_some, Bool.not_true, Bool.not_false, cond_true, cond_false, cond_dec, beq_int, bne_int, not_dec]
  rw [one_u64 b hb (by omega) at_ many w ha hm hw]
  rfl
end Go.Proofs.Ytodnllhjikeafaa.Ev
