/- What the functions of octets tell. -/
import Derived.Test.YtecilflgjakhcaaEvG
import Derived.Test.YtecilflgjakhcaaEv20
namespace Go.Proofs.Ytecilflgjakhcaa.Ev
open Go
set_option linter.unusedVariables false
set_option linter.unusedSimpArgs false
theorem clone (l : List Int) (h : l.length ≤ 140737488355328) : g76 ((), ((l, ()), ())) = some ((l, ()), ((), ())) := by
  unfold g76 f76_m
  simp only [List.length_nil, List.nil_append]
  rw [decide_eq_true (show (0 + l.length) * 1 ≤ 140737488355328 by omega), decide_eq_true (show 0 + l.length ≤ 9223372036854775807 by omega)]
  simp only [Bool.and_self, cond_true]
  cases l with
  | nil => simp [agree]
  | cons x l => rfl
theorem from_ (b : List Int) (hl : b.length ≤ 140737488355328) (at_ many : Int) (h0 : -9223372036854775808 ≤ many) (h1 : many ≤ 9223372036854775807) :
    g75 ((), ((b, ()), ((at_, ()), ((many, ()), ())))) = some (
      if at_ < 0 ∨ (b.length : Int) < at_ ∨ many < 0 then ((), (([], ()), ((some 1, ()), ())))
      else if (b.length : Int) - at_ < many then ((), (([], ()), ((some 4, ()), ())))
      else ((), (((b.take (at_ + many).toNat).drop at_.toNat, ()), ((none, ()), ())))) := by
  unfold g75 f75_m
  simp only
  by_cases c1 : at_ < 0
  · rw [decide_eq_true c1, if_pos (Or.inl c1)]; rfl
  rw [decide_eq_false c1]
  by_cases c2 : at_ > (b.length : Int)
  · rw [decide_eq_true c2, if_pos (Or.inr (Or.inl c2))]; rfl
  rw [decide_eq_false c2]
  by_cases c3 : many < 0
  · rw [decide_eq_true c3, if_pos (Or.inr (Or.inr c3))]; rfl
  rw [decide_eq_false c3, isub_i64 (by omega), if_neg (by omega)]
  by_cases c4 : many > (b.length : Int) - at_
  · rw [decide_eq_true c4, if_pos c4]; rfl
  rw [decide_eq_false c4, if_neg c4, iadd_i64 (by omega), decide_eq_true (show (0 : Int) ≤ at_ by omega), decide_eq_true (by omega), decide_eq_true (by omega)]
  rfl

theorem size_u8 : g98 ((), ()) = some ((), ((1, ()), ())) :=
  Evn.lim ⟨10, fun k hk => by obtain ⟨m, rfl⟩ := Nat.exists_eq_add_of_le hk; rw [Nat.add_comm]; kernel_rfl⟩

theorem put_in_u8 {o : po102.den} : ∀ (n : Nat) (out : List Int) (size w : Int) (words : List Int) (len idx : Int), n ≤ 1 → 0 ≤ w → w < 18446744073709551616 → out.length + n ≤ 140737488355328 →
    Evn (fun k => (f102_t k).1 ((out ++ be w n, ()), ((size, ()), ((), ((words, ()), ((len, ()), ((iadd .i64 idx 1, ()), ()))))))) o →
    Evn (fun k => (f102_t k).2.1 ((out, ()), ((size, ()), ((), ((w, ()), (((n : Int) - 1, ()), ((words, ()), ((len, ()), ((idx, ()), ()))))))))) o
  | 0, out, size, w, words, len, idx, hn, h0, h1, hl, h => by
    refine Evn.step h fun k => ?_
    rw [t102_s]
    simp only [f102_p11, be, List.append_nil]
    rw [decide_eq_false (by omega)]
    rfl
  | n + 1, out, size, w, words, len, idx, hn, h0, h1, hl, h => by
    refine Evn.step (put_in_u8 n (out ++ [w / 256 ^ n % 256]) size w words len idx (by omega) h0 h1 (by simp; omega) ?_) fun k => ?_
    · simpa only [be, List.append_assoc, List.singleton_append] using h
    · rw [t102_s]
      simp only [f102_p11]
      have e1 : (((n + 1 : Nat) : Int) - 1) = (n : Int) := by omega
      rw [e1, decide_eq_true (show (n : Int) ≥ 0 by omega), imul_i64 (by omega), decide_eq_false (by omega)]
      simp only [cond_true, cond_false]
      rw [iconv_u64, Int.emod_eq_of_lt h0 h1, ishr_byte (by omega) h0, iconv_u8, isub_i64 (by omega)]
      rw [decide_eq_true (by simp only [List.length_singleton]; omega), decide_eq_true (by simp only [List.length_singleton]; omega)]
      rfl
theorem put_out_u8 {words : List Int} (hw : ∀ w ∈ words, 0 ≤ w ∧ w < 2 ^ 8) (hwl : words.length ≤ 140737488355328) : ∀ (n i : Nat) (out : List Int), i + n = words.length → out.length + n * 1 ≤ 140737488355328 →
    Evn (fun k => (f102_t k).1 ((out, ()), (((1 : Int), ()), ((), ((words, ()), (((words.length : Int), ()), (((i : Int), ()), ()))))))) ((out ++ (words.drop i).flatMap (be · 1), ()), ((), ()))
  | 0, i, out, hi, hl => by
    refine Evn.step (Evn.const fun _ => rfl) fun k => ?_
    rw [t102_s]
    simp only [f102_p5]
    rw [decide_eq_false (by omega), List.drop_eq_nil_of_le (by omega)]
    simp
  | n + 1, i, out, hi, hl => by
    have hlt : i < words.length := by omega
    have hi2 := hw words[i] (List.getElem_mem hlt)
    rw [List.drop_eq_getElem_cons hlt, List.flatMap_cons, ← List.append_assoc]
    have ih := put_out_u8 hw hwl n (i + 1) (out ++ be words[i] 1) (by omega) (by rw [List.length_append, length_be]; omega)
    refine Evn.step (put_in_u8 1 out 1 words[i] words words.length i (Nat.le_refl _) hi2.1 (by omega) (by omega) (Evn.cast ih fun k => ?_)) fun k => ?_
    · rw [iadd_i64 (by omega)]; rfl
    · rw [t102_s]
      simp only [f102_p5]
      rw [decide_eq_true (by omega), decide_eq_true (by omega), isub_i64 (by omega), gd_get (.int .u8) words (i : Int) (by omega) (by omega)]
      rfl
theorem put_u8 (b words : List Int) (hw : ∀ w ∈ words, 0 ≤ w ∧ w < 2 ^ 8) (hl : b.length + words.length * 1 ≤ 140737488355328) :
    g102 ((), ((b, ()), ((words, ()), ()))) = some ((b ++ words.flatMap (be · 1), ()), ((), ())) := by
  refine Evn.lim (Evn.cast (put_out_u8 hw (by omega) words.length 0 b (by omega) hl) fun k => ?_)
  simp only [f102_m]
  rw [size_u8, clone b (by omega)]
  rfl

theorem word_at_u8 {b : List Int} (hb : ∀ x ∈ b, 0 ≤ x ∧ x < 256) (hl : b.length ≤ 140737488355328) : ∀ (n i : Nat) (v : Int), i + n = b.length → 0 ≤ v → v < 18446744073709551616 →
    Evn (fun k => (f123_t k).1 ((), ((v, ()), ((b, ()), (((b.length : Int), ()), (((i : Int), ()), ())))))) ((), ((iconv .u8 (wordv (b.drop i) v), ()), ()))
  | 0, i, v, hi, h0, h1 => by
    refine Evn.step (Evn.const fun _ => rfl) fun k => ?_
    rw [t123_s]
    simp only [f123_p4]
    rw [decide_eq_false (by omega), List.drop_eq_nil_of_le (by omega)]
    rfl
  | n + 1, i, v, hi, h0, h1 => by
    have hlt : i < b.length := by omega
    have hi2 := hb b[i] (List.getElem_mem hlt)
    rw [List.drop_eq_getElem_cons hlt]
    have ih := word_at_u8 hb hl n (i + 1) ((v * 256 + b[i]) % 18446744073709551616) (by omega) (by omega) (by omega)
    refine Evn.step ih fun k => ?_
    rw [t123_s]
    simp only [f123_p4]
    rw [decide_eq_true (by omega), decide_eq_true (by omega), gd_get (.int .u8) b (i : Int) (by omega) (by omega), iadd_i64 (by omega)]
    simp only [Int.toNat_natCast]
    rw [iconv_u64, Int.emod_eq_of_lt hi2.1 (by omega), ior_byte h0 hi2.1 hi2.2]
    rfl
theorem word_u8 (b : List Int) (hb : ∀ x ∈ b, 0 ≤ x ∧ x < 256) (hl : b.length ≤ 140737488355328) :
    g123 ((), ((b, ()), ())) = some ((), ((iconv .u8 (wordv b 0), ()), ())) :=
  Evn.lim (Evn.cast (word_at_u8 hb hl b.length 0 0 (by omega) (by omega) (by omega)) fun k => rfl)

theorem get_u8 (b : List Int) (hb : ∀ x ∈ b, 0 ≤ x ∧ x < 256) (hl : b.length ≤ 140737488355328) (at_ : Int) :
    g99 ((), ((b, ()), ((at_, ()), ()))) = some (
      if at_ < 0 ∨ (b.length : Int) < at_ then ((), ((0, ()), ((some 1, ()), ())))
      else if (b.length : Int) - at_ < 1 then ((), ((0, ()), ((some 4, ()), ())))
      else ((), ((iconv .u8 (wordv ((b.take (at_.toNat + 1)).drop at_.toNat) 0), ()), ((none, ()), ())))) := by
  unfold g99 f99_m
  rw [size_u8]
  simp only [Option.bind_some]
  have hf := from_ b hl at_ 1 (by omega) (by omega)
  by_cases h1 : at_ < 0 ∨ (b.length : Int) < at_
  · rw [if_pos (by omega)] at hf
    rw [hf, if_pos h1]; rfl
  · by_cases h2 : (b.length : Int) - at_ < 1
    · rw [if_neg (by omega), if_pos h2] at hf
      rw [hf, if_neg h1, if_pos h2]; rfl
    · rw [if_neg (by omega), if_neg h2] at hf
      rw [hf, if_neg h1, if_neg h2]
      rw [show (at_ + 1).toNat = at_.toNat + 1 by omega]
      simp only [Option.bind_some, Option.isNone_none, Bool.not_true, cond_false]
      rw [word_u8 _ (fun x hx => hb x (List.mem_of_mem_take (List.mem_of_mem_drop hx))) (by simp only [List.length_drop, List.length_take]; omega)]
      rfl

theorem size_u16 : g92 ((), ()) = some ((), ((2, ()), ())) :=
  Evn.lim ⟨10, fun k hk => by obtain ⟨m, rfl⟩ := Nat.exists_eq_add_of_le hk; rw [Nat.add_comm]; kernel_rfl⟩

theorem put_in_u16 {o : po44.den} : ∀ (n : Nat) (out : List Int) (size w : Int) (words : List Int) (len idx : Int), n ≤ 2 → 0 ≤ w → w < 18446744073709551616 → out.length + n ≤ 140737488355328 →
    Evn (fun k => (f44_t k).1 ((out ++ be w n, ()), ((size, ()), ((), ((words, ()), ((len, ()), ((iadd .i64 idx 1, ()), ()))))))) o →
    Evn (fun k => (f44_t k).2.1 ((out, ()), ((size, ()), ((), ((w, ()), (((n : Int) - 1, ()), ((words, ()), ((len, ()), ((idx, ()), ()))))))))) o
  | 0, out, size, w, words, len, idx, hn, h0, h1, hl, h => by
    refine Evn.step h fun k => ?_
    rw [t44_s]
    simp only [f44_p11, be, List.append_nil]
    rw [decide_eq_false (by omega)]
    rfl
  | n + 1, out, size, w, words, len, idx, hn, h0, h1, hl, h => by
    refine Evn.step (put_in_u16 n (out ++ [w / 256 ^ n % 256]) size w words len idx (by omega) h0 h1 (by simp; omega) ?_) fun k => ?_
    · simpa only [be, List.append_assoc, List.singleton_append] using h
    · rw [t44_s]
      simp only [f44_p11]
      have e1 : (((n + 1 : Nat) : Int) - 1) = (n : Int) := by omega
      rw [e1, decide_eq_true (show (n : Int) ≥ 0 by omega), imul_i64 (by omega), decide_eq_false (by omega)]
      simp only [cond_true, cond_false]
      rw [iconv_u64, Int.emod_eq_of_lt h0 h1, ishr_byte (by omega) h0, iconv_u8, isub_i64 (by omega)]
      rw [decide_eq_true (by simp only [List.length_singleton]; omega), decide_eq_true (by simp only [List.length_singleton]; omega)]
      rfl
theorem put_out_u16 {words : List Int} (hw : ∀ w ∈ words, 0 ≤ w ∧ w < 2 ^ 16) (hwl : words.length ≤ 140737488355328) : ∀ (n i : Nat) (out : List Int), i + n = words.length → out.length + n * 2 ≤ 140737488355328 →
    Evn (fun k => (f44_t k).1 ((out, ()), (((2 : Int), ()), ((), ((words, ()), (((words.length : Int), ()), (((i : Int), ()), ()))))))) ((out ++ (words.drop i).flatMap (be · 2), ()), ((), ()))
  | 0, i, out, hi, hl => by
    refine Evn.step (Evn.const fun _ => rfl) fun k => ?_
    rw [t44_s]
    simp only [f44_p5]
    rw [decide_eq_false (by omega), List.drop_eq_nil_of_le (by omega)]
    simp
  | n + 1, i, out, hi, hl => by
    have hlt : i < words.length := by omega
    have hi2 := hw words[i] (List.getElem_mem hlt)
    rw [List.drop_eq_getElem_cons hlt, List.flatMap_cons, ← List.append_assoc]
    have ih := put_out_u16 hw hwl n (i + 1) (out ++ be words[i] 2) (by omega) (by rw [List.length_append, length_be]; omega)
    refine Evn.step (put_in_u16 2 out 2 words[i] words words.length i (Nat.le_refl _) hi2.1 (by omega) (by omega) (Evn.cast ih fun k => ?_)) fun k => ?_
    · rw [iadd_i64 (by omega)]; rfl
    · rw [t44_s]
      simp only [f44_p5]
      rw [decide_eq_true (by omega), decide_eq_true (by omega), isub_i64 (by omega), gd_get (.int .u16) words (i : Int) (by omega) (by omega)]
      rfl
theorem put_u16 (b words : List Int) (hw : ∀ w ∈ words, 0 ≤ w ∧ w < 2 ^ 16) (hl : b.length + words.length * 2 ≤ 140737488355328) :
    g44 ((), ((b, ()), ((words, ()), ()))) = some ((b ++ words.flatMap (be · 2), ()), ((), ())) := by
  refine Evn.lim (Evn.cast (put_out_u16 hw (by omega) words.length 0 b (by omega) hl) fun k => ?_)
  simp only [f44_m]
  rw [size_u16, clone b (by omega)]
  rfl

theorem word_at_u16 {b : List Int} (hb : ∀ x ∈ b, 0 ≤ x ∧ x < 256) (hl : b.length ≤ 140737488355328) : ∀ (n i : Nat) (v : Int), i + n = b.length → 0 ≤ v → v < 18446744073709551616 →
    Evn (fun k => (f94_t k).1 ((), ((v, ()), ((b, ()), (((b.length : Int), ()), (((i : Int), ()), ())))))) ((), ((iconv .u16 (wordv (b.drop i) v), ()), ()))
  | 0, i, v, hi, h0, h1 => by
    refine Evn.step (Evn.const fun _ => rfl) fun k => ?_
    rw [t94_s]
    simp only [f94_p4]
    rw [decide_eq_false (by omega), List.drop_eq_nil_of_le (by omega)]
    rfl
  | n + 1, i, v, hi, h0, h1 => by
    have hlt : i < b.length := by omega
    have hi2 := hb b[i] (List.getElem_mem hlt)
    rw [List.drop_eq_getElem_cons hlt]
    have ih := word_at_u16 hb hl n (i + 1) ((v * 256 + b[i]) % 18446744073709551616) (by omega) (by omega) (by omega)
    refine Evn.step ih fun k => ?_
    rw [t94_s]
    simp only [f94_p4]
    rw [decide_eq_true (by omega), decide_eq_true (by omega), gd_get (.int .u8) b (i : Int) (by omega) (by omega), iadd_i64 (by omega)]
    simp only [Int.toNat_natCast]
    rw [iconv_u64, Int.emod_eq_of_lt hi2.1 (by omega), ior_byte h0 hi2.1 hi2.2]
    rfl
theorem word_u16 (b : List Int) (hb : ∀ x ∈ b, 0 ≤ x ∧ x < 256) (hl : b.length ≤ 140737488355328) :
    g94 ((), ((b, ()), ())) = some ((), ((iconv .u16 (wordv b 0), ()), ())) :=
  Evn.lim (Evn.cast (word_at_u16 hb hl b.length 0 0 (by omega) (by omega) (by omega)) fun k => rfl)

theorem get_u16 (b : List Int) (hb : ∀ x ∈ b, 0 ≤ x ∧ x < 256) (hl : b.length ≤ 140737488355328) (at_ : Int) :
    g47 ((), ((b, ()), ((at_, ()), ()))) = some (
      if at_ < 0 ∨ (b.length : Int) < at_ then ((), ((0, ()), ((some 1, ()), ())))
      else if (b.length : Int) - at_ < 2 then ((), ((0, ()), ((some 4, ()), ())))
      else ((), ((iconv .u16 (wordv ((b.take (at_.toNat + 2)).drop at_.toNat) 0), ()), ((none, ()), ())))) := by
  unfold g47 f47_m
  rw [size_u16]
  simp only [Option.bind_some]
  have hf := from_ b hl at_ 2 (by omega) (by omega)
  by_cases h1 : at_ < 0 ∨ (b.length : Int) < at_
  · rw [if_pos (by omega)] at hf
    rw [hf, if_pos h1]; rfl
  · by_cases h2 : (b.length : Int) - at_ < 2
    · rw [if_neg (by omega), if_pos h2] at hf
      rw [hf, if_neg h1, if_pos h2]; rfl
    · rw [if_neg (by omega), if_neg h2] at hf
      rw [hf, if_neg h1, if_neg h2]
      rw [show (at_ + 2).toNat = at_.toNat + 2 by omega]
      simp only [Option.bind_some, Option.isNone_none, Bool.not_true, cond_false]
      rw [word_u16 _ (fun x hx => hb x (List.mem_of_mem_take (List.mem_of_mem_drop hx))) (by simp only [List.length_drop, List.length_take]; omega)]
      rfl

theorem size_u32 : g91 ((), ()) = some ((), ((4, ()), ())) :=
  Evn.lim ⟨10, fun k hk => by obtain ⟨m, rfl⟩ := Nat.exists_eq_add_of_le hk; rw [Nat.add_comm]; kernel_rfl⟩

theorem put_in_u32 {o : po43.den} : ∀ (n : Nat) (out : List Int) (size w : Int) (words : List Int) (len idx : Int), n ≤ 4 → 0 ≤ w → w < 18446744073709551616 → out.length + n ≤ 140737488355328 →
    Evn (fun k => (f43_t k).1 ((out ++ be w n, ()), ((size, ()), ((), ((words, ()), ((len, ()), ((iadd .i64 idx 1, ()), ()))))))) o →
    Evn (fun k => (f43_t k).2.1 ((out, ()), ((size, ()), ((), ((w, ()), (((n : Int) - 1, ()), ((words, ()), ((len, ()), ((idx, ()), ()))))))))) o
  | 0, out, size, w, words, len, idx, hn, h0, h1, hl, h => by
    refine Evn.step h fun k => ?_
    rw [t43_s]
    simp only [f43_p11, be, List.append_nil]
    rw [decide_eq_false (by omega)]
    rfl
  | n + 1, out, size, w, words, len, idx, hn, h0, h1, hl, h => by
    refine Evn.step (put_in_u32 n (out ++ [w / 256 ^ n % 256]) size w words len idx (by omega) h0 h1 (by simp; omega) ?_) fun k => ?_
    · simpa only [be, List.append_assoc, List.singleton_append] using h
    · rw [t43_s]
      simp only [f43_p11]
      have e1 : (((n + 1 : Nat) : Int) - 1) = (n : Int) := by omega
      rw [e1, decide_eq_true (show (n : Int) ≥ 0 by omega), imul_i64 (by omega), decide_eq_false (by omega)]
      simp only [cond_true, cond_false]
      rw [iconv_u64, Int.emod_eq_of_lt h0 h1, ishr_byte (by omega) h0, iconv_u8, isub_i64 (by omega)]
      rw [decide_eq_true (by simp only [List.length_singleton]; omega), decide_eq_true (by simp only [List.length_singleton]; omega)]
      rfl
theorem put_out_u32 {words : List Int} (hw : ∀ w ∈ words, 0 ≤ w ∧ w < 2 ^ 32) (hwl : words.length ≤ 140737488355328) : ∀ (n i : Nat) (out : List Int), i + n = words.length → out.length + n * 4 ≤ 140737488355328 →
    Evn (fun k => (f43_t k).1 ((out, ()), (((4 : Int), ()), ((), ((words, ()), (((words.length : Int), ()), (((i : Int), ()), ()))))))) ((out ++ (words.drop i).flatMap (be · 4), ()), ((), ()))
  | 0, i, out, hi, hl => by
    refine Evn.step (Evn.const fun _ => rfl) fun k => ?_
    rw [t43_s]
    simp only [f43_p5]
    rw [decide_eq_false (by omega), List.drop_eq_nil_of_le (by omega)]
    simp
  | n + 1, i, out, hi, hl => by
    have hlt : i < words.length := by omega
    have hi2 := hw words[i] (List.getElem_mem hlt)
    rw [List.drop_eq_getElem_cons hlt, List.flatMap_cons, ← List.append_assoc]
    have ih := put_out_u32 hw hwl n (i + 1) (out ++ be words[i] 4) (by omega) (by rw [List.length_append, length_be]; omega)
    refine Evn.step (put_in_u32 4 out 4 words[i] words words.length i (Nat.le_refl _) hi2.1 (by omega) (by omega) (Evn.cast ih fun k => ?_)) fun k => ?_
    · rw [iadd_i64 (by omega)]; rfl
    · rw [t43_s]
      simp only [f43_p5]
      rw [decide_eq_true (by omega), decide_eq_true (by omega), isub_i64 (by omega), gd_get (.int .u32) words (i : Int) (by omega) (by omega)]
      rfl
theorem put_u32 (b words : List Int) (hw : ∀ w ∈ words, 0 ≤ w ∧ w < 2 ^ 32) (hl : b.length + words.length * 4 ≤ 140737488355328) :
    g43 ((), ((b, ()), ((words, ()), ()))) = some ((b ++ words.flatMap (be · 4), ()), ((), ())) := by
  refine Evn.lim (Evn.cast (put_out_u32 hw (by omega) words.length 0 b (by omega) hl) fun k => ?_)
  simp only [f43_m]
  rw [size_u32, clone b (by omega)]
  rfl

theorem word_at_u32 {b : List Int} (hb : ∀ x ∈ b, 0 ≤ x ∧ x < 256) (hl : b.length ≤ 140737488355328) : ∀ (n i : Nat) (v : Int), i + n = b.length → 0 ≤ v → v < 18446744073709551616 →
    Evn (fun k => (f96_t k).1 ((), ((v, ()), ((b, ()), (((b.length : Int), ()), (((i : Int), ()), ())))))) ((), ((iconv .u32 (wordv (b.drop i) v), ()), ()))
  | 0, i, v, hi, h0, h1 => by
    refine Evn.step (Evn.const fun _ => rfl) fun k => ?_
    rw [t96_s]
    simp only [f96_p4]
    rw [decide_eq_false (by omega), List.drop_eq_nil_of_le (by omega)]
    rfl
  | n + 1, i, v, hi, h0, h1 => by
    have hlt : i < b.length := by omega
    have hi2 := hb b[i] (List.getElem_mem hlt)
    rw [List.drop_eq_getElem_cons hlt]
    have ih := word_at_u32 hb hl n (i + 1) ((v * 256 + b[i]) % 18446744073709551616) (by omega) (by omega) (by omega)
    refine Evn.step ih fun k => ?_
    rw [t96_s]
    simp only [f96_p4]
    rw [decide_eq_true (by omega), decide_eq_true (by omega), gd_get (.int .u8) b (i : Int) (by omega) (by omega), iadd_i64 (by omega)]
    simp only [Int.toNat_natCast]
    rw [iconv_u64, Int.emod_eq_of_lt hi2.1 (by omega), ior_byte h0 hi2.1 hi2.2]
    rfl
theorem word_u32 (b : List Int) (hb : ∀ x ∈ b, 0 ≤ x ∧ x < 256) (hl : b.length ≤ 140737488355328) :
    g96 ((), ((b, ()), ())) = some ((), ((iconv .u32 (wordv b 0), ()), ())) :=
  Evn.lim (Evn.cast (word_at_u32 hb hl b.length 0 0 (by omega) (by omega) (by omega)) fun k => rfl)

theorem get_u32 (b : List Int) (hb : ∀ x ∈ b, 0 ≤ x ∧ x < 256) (hl : b.length ≤ 140737488355328) (at_ : Int) :
    g106 ((), ((b, ()), ((at_, ()), ()))) = some (
      if at_ < 0 ∨ (b.length : Int) < at_ then ((), ((0, ()), ((some 1, ()), ())))
      else if (b.length : Int) - at_ < 4 then ((), ((0, ()), ((some 4, ()), ())))
      else ((), ((iconv .u32 (wordv ((b.take (at_.toNat + 4)).drop at_.toNat) 0), ()), ((none, ()), ())))) := by
  unfold g106 f106_m
  rw [size_u32]
  simp only [Option.bind_some]
  have hf := from_ b hl at_ 4 (by omega) (by omega)
  by_cases h1 : at_ < 0 ∨ (b.length : Int) < at_
  · rw [if_pos (by omega)] at hf
    rw [hf, if_pos h1]; rfl
  · by_cases h2 : (b.length : Int) - at_ < 4
    · rw [if_neg (by omega), if_pos h2] at hf
      rw [hf, if_neg h1, if_pos h2]; rfl
    · rw [if_neg (by omega), if_neg h2] at hf
      rw [hf, if_neg h1, if_neg h2]
      rw [show (at_ + 4).toNat = at_.toNat + 4 by omega]
      simp only [Option.bind_some, Option.isNone_none, Bool.not_true, cond_false]
      rw [word_u32 _ (fun x hx => hb x (List.mem_of_mem_take (List.mem_of_mem_drop hx))) (by simp only [List.length_drop, List.length_take]; omega)]
      rfl

theorem size_u64 : g74 ((), ()) = some ((), ((8, ()), ())) :=
  Evn.lim ⟨10, fun k hk => by obtain ⟨m, rfl⟩ := Nat.exists_eq_add_of_le hk; rw [Nat.add_comm]; kernel_rfl⟩

theorem put_in_u64 {o : po45.den} : ∀ (n : Nat) (out : List Int) (size w : Int) (words : List Int) (len idx : Int), n ≤ 8 → 0 ≤ w → w < 18446744073709551616 → out.length + n ≤ 140737488355328 →
    Evn (fun k => (f45_t k).1 ((out ++ be w n, ()), ((size, ()), ((), ((words, ()), ((len, ()), ((iadd .i64 idx 1, ()), ()))))))) o →
    Evn (fun k => (f45_t k).2.1 ((out, ()), ((size, ()), ((), ((w, ()), (((n : Int) - 1, ()), ((words, ()), ((len, ()), ((idx, ()), ()))))))))) o
  | 0, out, size, w, words, len, idx, hn, h0, h1, hl, h => by
    refine Evn.step h fun k => ?_
    rw [t45_s]
    simp only [f45_p11, be, List.append_nil]
    rw [decide_eq_false (by omega)]
    rfl
  | n + 1, out, size, w, words, len, idx, hn, h0, h1, hl, h => by
    refine Evn.step (put_in_u64 n (out ++ [w / 256 ^ n % 256]) size w words len idx (by omega) h0 h1 (by simp; omega) ?_) fun k => ?_
    · simpa only [be, List.append_assoc, List.singleton_append] using h
    · rw [t45_s]
      simp only [f45_p11]
      have e1 : (((n + 1 : Nat) : Int) - 1) = (n : Int) := by omega
      rw [e1, decide_eq_true (show (n : Int) ≥ 0 by omega), imul_i64 (by omega), decide_eq_false (by omega)]
      simp only [cond_true, cond_false]
      rw [ishr_byte (by omega) h0, iconv_u8, isub_i64 (by omega)]
      rw [decide_eq_true (by simp only [List.length_singleton]; omega), decide_eq_true (by simp only [List.length_singleton]; omega)]
      rfl
theorem put_out_u64 {words : List Int} (hw : ∀ w ∈ words, 0 ≤ w ∧ w < 2 ^ 64) (hwl : words.length ≤ 140737488355328) : ∀ (n i : Nat) (out : List Int), i + n = words.length → out.length + n * 8 ≤ 140737488355328 →
    Evn (fun k => (f45_t k).1 ((out, ()), (((8 : Int), ()), ((), ((words, ()), (((words.length : Int), ()), (((i : Int), ()), ()))))))) ((out ++ (words.drop i).flatMap (be · 8), ()), ((), ()))
  | 0, i, out, hi, hl => by
    refine Evn.step (Evn.const fun _ => rfl) fun k => ?_
    rw [t45_s]
    simp only [f45_p5]
    rw [decide_eq_false (by omega), List.drop_eq_nil_of_le (by omega)]
    simp
  | n + 1, i, out, hi, hl => by
    have hlt : i < words.length := by omega
    have hi2 := hw words[i] (List.getElem_mem hlt)
    rw [List.drop_eq_getElem_cons hlt, List.flatMap_cons, ← List.append_assoc]
    have ih := put_out_u64 hw hwl n (i + 1) (out ++ be words[i] 8) (by omega) (by rw [List.length_append, length_be]; omega)
    refine Evn.step (put_in_u64 8 out 8 words[i] words words.length i (Nat.le_refl _) hi2.1 (by omega) (by omega) (Evn.cast ih fun k => ?_)) fun k => ?_
    · rw [iadd_i64 (by omega)]; rfl
    · rw [t45_s]
      simp only [f45_p5]
      rw [decide_eq_true (by omega), decide_eq_true (by omega), isub_i64 (by omega), gd_get (.int .u64) words (i : Int) (by omega) (by omega)]
      rfl
theorem put_u64 (b words : List Int) (hw : ∀ w ∈ words, 0 ≤ w ∧ w < 2 ^ 64) (hl : b.length + words.length * 8 ≤ 140737488355328) :
    g45 ((), ((b, ()), ((words, ()), ()))) = some ((b ++ words.flatMap (be · 8), ()), ((), ())) := by
  refine Evn.lim (Evn.cast (put_out_u64 hw (by omega) words.length 0 b (by omega) hl) fun k => ?_)
  simp only [f45_m]
  rw [size_u64, clone b (by omega)]
  rfl

theorem word_at_u64 {b : List Int} (hb : ∀ x ∈ b, 0 ≤ x ∧ x < 256) (hl : b.length ≤ 140737488355328) : ∀ (n i : Nat) (v : Int), i + n = b.length → 0 ≤ v → v < 18446744073709551616 →
    Evn (fun k => (f93_t k).1 ((), ((v, ()), ((b, ()), (((b.length : Int), ()), (((i : Int), ()), ())))))) ((), ((wordv (b.drop i) v, ()), ()))
  | 0, i, v, hi, h0, h1 => by
    refine Evn.step (Evn.const fun _ => rfl) fun k => ?_
    rw [t93_s]
    simp only [f93_p4]
    rw [decide_eq_false (by omega), List.drop_eq_nil_of_le (by omega)]
    rfl
  | n + 1, i, v, hi, h0, h1 => by
    have hlt : i < b.length := by omega
    have hi2 := hb b[i] (List.getElem_mem hlt)
    rw [List.drop_eq_getElem_cons hlt]
    have ih := word_at_u64 hb hl n (i + 1) ((v * 256 + b[i]) % 18446744073709551616) (by omega) (by omega) (by omega)
    refine Evn.step ih fun k => ?_
    rw [t93_s]
    simp only [f93_p4]
    rw [decide_eq_true (by omega), decide_eq_true (by omega), gd_get (.int .u8) b (i : Int) (by omega) (by omega), iadd_i64 (by omega)]
    simp only [Int.toNat_natCast]
    rw [iconv_u64, Int.emod_eq_of_lt hi2.1 (by omega), ior_byte h0 hi2.1 hi2.2]
    rfl
theorem word_u64 (b : List Int) (hb : ∀ x ∈ b, 0 ≤ x ∧ x < 256) (hl : b.length ≤ 140737488355328) :
    g93 ((), ((b, ()), ())) = some ((), ((wordv b 0, ()), ())) :=
  Evn.lim (Evn.cast (word_at_u64 hb hl b.length 0 0 (by omega) (by omega) (by omega)) fun k => rfl)

theorem get_u64 (b : List Int) (hb : ∀ x ∈ b, 0 ≤ x ∧ x < 256) (hl : b.length ≤ 140737488355328) (at_ : Int) :
    g46 ((), ((b, ()), ((at_, ()), ()))) = some (
      if at_ < 0 ∨ (b.length : Int) < at_ then ((), ((0, ()), ((some 1, ()), ())))
      else if (b.length : Int) - at_ < 8 then ((), ((0, ()), ((some 4, ()), ())))
      else ((), ((wordv ((b.take (at_.toNat + 8)).drop at_.toNat) 0, ()), ((none, ()), ())))) := by
  unfold g46 f46_m
  rw [size_u64]
  simp only [Option.bind_some]
  have hf := from_ b hl at_ 8 (by omega) (by omega)
  by_cases h1 : at_ < 0 ∨ (b.length : Int) < at_
  · rw [if_pos (by omega)] at hf
    rw [hf, if_pos h1]; rfl
  · by_cases h2 : (b.length : Int) - at_ < 8
    · rw [if_neg (by omega), if_pos h2] at hf
      rw [hf, if_neg h1, if_pos h2]; rfl
    · rw [if_neg (by omega), if_neg h2] at hf
      rw [hf, if_neg h1, if_neg h2]
      rw [show (at_ + 8).toNat = at_.toNat + 8 by omega]
      simp only [Option.bind_some, Option.isNone_none, Bool.not_true, cond_false]
      rw [word_u64 _ (fun x hx => hb x (List.mem_of_mem_take (List.mem_of_mem_drop hx))) (by simp only [List.length_drop, List.length_take]; omega)]
      rfl
end Go.Proofs.Ytecilflgjakhcaa.Ev
