/- Words put. -/
import Derived.Test.YtddnfappkfiidaaPuLab
import Derived.Test.YtddnfappkfiidaaPuBig
import Derived.Test.YtddnfappkfiidaaPuPutU32
import Derived.Test.YtddnfappkfiidaaPuFold
import Derived.Test.YtddnfappkfiidaaPuNumber
import Derived.Test.YtddnfappkfiidaaPuEra
import Derived.Test.YtddnfappkfiidaaPuNum
namespace Go.Proofs.Ytddnfappkfiidaa.Ev
open Go
set_option linter.unusedVariables false
set_option linter.unusedSimpArgs false
def wordB (p : Int) : List Int := if i64 (p + 2208988800) then be ((p + 2208988800) % 4294967296) 4 else []
def wordE (p : Int) : Int := if i64 (p + 2208988800) then 0 else 5
theorem word_put (p : Int) (h : i64 p) : g_word_Put ((), ((p, ()), ())) = some ((wordB p, ()), ((), ((errOf (wordE p), ()), ()))) := by
  simp only [g_word_Put, f_word_Put_m, g_stamp_FromPosix, f_stamp_FromPosix_m, num_add p 2208988800 h (by omega), fitsS_dec, Option.bind_some, Option.isNone_none, Option.isNone_some, Option.isSome_none, Option.isSome_some, Bool.not_true, Bool.not_false, cond_true, cond_false, cond_dec, beq_int, bne_int, not_dec, wordB, wordE]
  by_cases c : i64 (p + 2208988800)
  · simp only [if_pos c, fitsS_dec, Option.bind_some, Option.isNone_none, Option.isNone_some, Option.isSome_none, Option.isSome_some, Bool.not_true, Bool.not_false, cond_true, cond_false, cond_dec, beq_int, bne_int, not_dec, g_era_Fold_u32, f_era_Fold_u32_m, iconv_u32, errOf_zero]
    rw [put_u32 [] _ (by intro w hw; simp only [List.mem_singleton] at hw; subst hw; omega) (by simp)]
    simp
  · simp only [if_neg c, fitsS_dec, Option.bind_some, Option.isNone_none, Option.isNone_some, Option.isSome_none, Option.isSome_some, Bool.not_true, Bool.not_false, cond_true, cond_false, cond_dec, beq_int, bne_int, not_dec]; rfl
theorem word_alive : g_law27_alive ((), ()) = some ((), ((true, ()), ())) := by
  simp only [g_law27_alive, f_law27_alive_m, word_put 0 (by omega), fitsS_dec, Option.bind_some, Option.isNone_none, Option.isNone_some, Option.isSome_none, Option.isSome_some, Bool.not_true, Bool.not_false, cond_true, cond_false, cond_dec, beq_int, bne_int, not_dec]
  kernel_rfl
theorem posix_range {l : Lab} (h : labErr l = 0) : (-377705116800 ≤ labN l * 86400 + labS l ∧ labN l * 86400 + labS l ≤ 253402300800) ∧ 0 ≤ labS l ∧ labS l ≤ 86400 := by
  obtain ⟨h0, h1, h2, h3⟩ := labErr_zero h
  have hf := fErr_zero.1 h1
  have : 0 ≤ labS l ∧ labS l ≤ 86400 := by
    unfold labS
    by_cases c : l.s = 60
    · have := h3 c; omega
    · omega
  unfold there at h2
  omega
theorem ref15_back (p : Int) (h : i64 p) : g_ref15_Back ((), ((p, ()), ())) = some ((), ((i64V (p - 2208988800), ()), ((i64E (p - 2208988800), ()), ()))) := by
  unfold i64 at h
  have b1 := big_of p h
  have b2 := big_of 2208988800 (by omega)
  have m := big_minus 2208988800
  have q := big_plus p (-2208988800) (sm_of (by omega)) (sm_of (by omega))
  have s := big_small (p + -2208988800) (sm_of (by omega))
  simp only [big] at b1 b2 m q s
  simp only [g_ref15_Back, f_ref15_Back_m, begin_1900, b1, b2, m, q, s, fitsS_dec, Option.bind_some, Option.isNone_none, Option.isNone_some, Option.isSome_none, Option.isSome_some, Bool.not_true, Bool.not_false, cond_true, cond_false, cond_dec, beq_int, bne_int, not_dec]
  rfl
end Go.Proofs.Ytddnfappkfiidaa.Ev
