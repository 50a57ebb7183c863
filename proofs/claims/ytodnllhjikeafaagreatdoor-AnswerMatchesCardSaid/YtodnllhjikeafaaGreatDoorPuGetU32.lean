/- A word got out of bytes. -/
import Derived.Test.YtodnllhjikeafaaGreatDoorPuFrom
import Derived.Test.YtodnllhjikeafaaGreatDoorPuSizeU32
namespace Go.Proofs.YtodnllhjikeafaaGreatDoor.Ev
open Go
set_option linter.unusedVariables false
set_option linter.unusedSimpArgs false

theorem word_at_u32 {b : List Int} (hb : ∀ x ∈ b, 0 ≤ x ∧ x < 256) (hl : b.length ≤ 140737488355328) : ∀ (n i : Nat) (v : Int), i + n = b.length → 0 ≤ v → v < 18446744073709551616 →
    Evn (fun k => (f_octets_word_u32_t k).1 ((), ((v, ()), ((b, ()), (((b.length : Int), ()), (((i : Int), ()), ())))))) ((), ((iconv .u32 (wordv (b.drop i) v), ()), ()))
  | 0, i, v, hi, h0, h1 => by
    refine Evn.step (Evn.const fun _ => rfl) fun k => ?_
    rw [t_octets_word_u32]
    simp only [f_octets_word_u32_p4]
    rw [decide_eq_false (by omega), List.drop_eq_nil_of_le (by omega)]
    rfl
  | n + 1, i, v, hi, h0, h1 => by
    have hlt : i < b.length := by omega
    have hi2 := hb b[i] (List.getElem_mem hlt)
    rw [List.drop_eq_getElem_cons hlt]
    have ih := word_at_u32 hb hl n (i + 1) ((v * 256 + b[i]) % 18446744073709551616) (by omega) (by omega) (by omega)
    refine Evn.step ih fun k => ?_
    rw [t_octets_word_u32]
    simp only [f_octets_word_u32_p4]
    rw [decide_eq_true (by omega), decide_eq_true (by omega), gd_get (.int .u8) b (i : Int) (by omega) (by omega), iadd_i64 (by omega)]
    simp only [Int.toNat_natCast]
    rw [iconv_u64, Int.emod_eq_of_lt hi2.1 (by omega), ior_byte h0 hi2.1 hi2.2]
    rfl
theorem word_u32 (b : List Int) (hb : ∀ x ∈ b, 0 ≤ x ∧ x < 256) (hl : b.length ≤ 140737488355328) :
    g_octets_word_u32 ((), ((b, ()), ())) = some ((), ((iconv .u32 (wordv b 0), ()), ())) :=
  Evn.lim (Evn.cast (word_at_u32 hb hl b.length 0 0 (by omega) (by omega) (by omega)) fun k => rfl)

end Go.Proofs.YtodnllhjikeafaaGreatDoor.Ev
