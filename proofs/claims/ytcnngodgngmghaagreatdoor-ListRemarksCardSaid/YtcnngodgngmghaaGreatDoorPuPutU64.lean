/- Words put as bytes. -/
import Derived.Test.YtcnngodgngmghaaGreatDoorPuClone
import Derived.Test.YtcnngodgngmghaaGreatDoorPuSizeU64
namespace Go.Proofs.YtcnngodgngmghaaGreatDoor.Ev
open Go
set_option linter.unusedVariables false
set_option linter.unusedSimpArgs false

theorem put_in_u64 {o : po_octets_Put_u64.den} : ∀ (n : Nat) (out : List Int) (size w : Int) (words : List Int) (len idx : Int), n ≤ 8 → 0 ≤ w → w < 18446744073709551616 → out.length + n ≤ 140737488355328 →
    Evn (fun k => (f_octets_Put_u64_t k).1 ((out ++ be w n, ()), ((size, ()), ((), ((words, ()), ((len, ()), ((iadd .i64 idx 1, ()), ()))))))) o →
    Evn (fun k => (f_octets_Put_u64_t k).2.1 ((out, ()), ((size, ()), ((), ((w, ()), (((n : Int) - 1, ()), ((words, ()), ((len, ()), ((idx, ()), ()))))))))) o
  | 0, out, size, w, words, len, idx, hn, h0, h1, hl, h => by
    refine Evn.step h fun k => ?_
    rw [t_octets_Put_u64]
    simp only [f_octets_Put_u64_p11, be, List.append_nil]
    rw [decide_eq_false (by omega)]
    rfl
  | n + 1, out, size, w, words, len, idx, hn, h0, h1, hl, h => by
    refine Evn.step (put_in_u64 n (out ++ [w / 256 ^ n % 256]) size w words len idx (by omega) h0 h1 (by simp; omega) ?_) fun k => ?_
    · simpa only [be, List.append_assoc, List.singleton_append] using h
    · rw [t_octets_Put_u64]
      simp only [f_octets_Put_u64_p11]
      have e1 : (((n + 1 : Nat) : Int) - 1) = (n : Int) := by omega
      rw [e1, decide_eq_true (show (n : Int) ≥ 0 by omega), imul_i64 (by omega), decide_eq_false (by omega)]
      simp only [cond_true, cond_false]
      rw [ishr_byte (by omega) h0, iconv_u8, isub_i64 (by omega)]
      rw [decide_eq_true (by simp only [List.length_singleton]; omega), decide_eq_true (by simp only [List.length_singleton]; omega)]
      rfl
theorem put_out_u64 {words : List Int} (hw : ∀ w ∈ words, 0 ≤ w ∧ w < 2 ^ 64) (hwl : words.length ≤ 140737488355328) : ∀ (n i : Nat) (out : List Int), i + n = words.length → out.length + n * 8 ≤ 140737488355328 →
    Evn (fun k => (f_octets_Put_u64_t k).1 ((out, ()), (((8 : Int), ()), ((), ((words, ()), (((words.length : Int), ()), (((i : Int), ()), ()))))))) ((out ++ (words.drop i).flatMap (be · 8), ()), ((), ()))
  | 0, i, out, hi, hl => by
    refine Evn.step (Evn.const fun _ => rfl) fun k => ?_
    rw [t_octets_Put_u64]
    simp only [f_octets_Put_u64_p5]
    rw [decide_eq_false (by omega), List.drop_eq_nil_of_le (by omega)]
    simp
  | n + 1, i, out, hi, hl => by
    have hlt : i < words.length := by omega
    have hi2 := hw words[i] (List.getElem_mem hlt)
    rw [List.drop_eq_getElem_cons hlt, List.flatMap_cons, ← List.append_assoc]
    have ih := put_out_u64 hw hwl n (i + 1) (out ++ be words[i] 8) (by omega) (by rw [List.length_append, length_be]; omega)
    refine Evn.step (put_in_u64 8 out 8 words[i] words words.length i (Nat.le_refl _) hi2.1 (by omega) (by omega) (Evn.cast ih fun k => ?_)) fun k => ?_
    · rw [iadd_i64 (by omega)]; rfl
    · rw [t_octets_Put_u64]
      simp only [f_octets_Put_u64_p5]
      rw [decide_eq_true (by omega), decide_eq_true (by omega), isub_i64 (by omega), gd_get (.int .u64) words (i : Int) (by omega) (by omega)]
      rfl
theorem put_u64 (b words : List Int) (hw : ∀ w ∈ words, 0 ≤ w ∧ w < 2 ^ 64) (hl : b.length + words.length * 8 ≤ 140737488355328) :
    g_octets_Put_u64 ((), ((b, ()), ((words, ()), ()))) = some ((b ++ words.flatMap (be · 8), ()), ((), ())) := by
  refine Evn.lim (Evn.cast (put_out_u64 hw (by omega) words.length 0 b (by omega) hl) fun k => ?_)
  simp only [f_octets_Put_u64_m]
  rw [size_u64, clone b (by omega)]
  rfl
end Go.Proofs.YtcnngodgngmghaaGreatDoor.Ev
