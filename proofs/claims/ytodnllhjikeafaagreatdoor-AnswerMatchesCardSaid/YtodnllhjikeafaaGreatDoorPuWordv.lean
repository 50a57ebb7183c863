/- The number of bytes. -/
import Derived.Test.YtodnllhjikeafaaGreatDoorPuNum
import Derived.Test.YtodnllhjikeafaaGreatDoorPuNumber
import Derived.Test.YtodnllhjikeafaaGreatDoorEvE
namespace Go.Proofs.YtodnllhjikeafaaGreatDoor.Ev
open Go
set_option linter.unusedVariables false
set_option linter.unusedSimpArgs false
@[reducible] def bytesL (l : List Int) : Prop := ∀ x ∈ l, 0 ≤ x ∧ x < 256
theorem arg_u64 {B : Nat} {a : Int} (h : ArgOk B (.int .u64) a) : 0 ≤ a ∧ a < 18446744073709551616 := by
  have h1 : 0 ≤ a := h.1
  have h2 : a ≤ 18446744073709551615 := h.2
  omega
theorem arg_u32 {B : Nat} {a : Int} (h : ArgOk B (.int .u32) a) : 0 ≤ a ∧ a < 4294967296 := by
  have h1 : 0 ≤ a := h.1
  have h2 : a ≤ 4294967295 := h.2
  omega
theorem arg_u16 {B : Nat} {a : Int} (h : ArgOk B (.int .u16) a) : 0 ≤ a ∧ a < 65536 := by
  have h1 : 0 ≤ a := h.1
  have h2 : a ≤ 65535 := h.2
  omega
theorem arg_u8 {B : Nat} {a : Int} (h : ArgOk B (.int .u8) a) : 0 ≤ a ∧ a < 256 := by
  have h1 : 0 ≤ a := h.1
  have h2 : a ≤ 255 := h.2
  omega
theorem arg_bytes {B : Nat} {b : List Int} (h : ArgOk B (.sl (.int .u8)) b) : bytesL b := fun x hx => arg_u8 (h.2 x hx)
theorem arg_u32s {B : Nat} {b : List Int} (h : ArgOk B (.sl (.int .u32)) b) : ∀ x ∈ b, 0 ≤ x ∧ x < 2 ^ 32 := fun x hx => arg_u32 (h.2 x hx)
theorem p256 {a b : Nat} (h : a ≤ b) : (256 : Int) ^ a ≤ 256 ^ b := by
  obtain ⟨c, rfl⟩ := Nat.exists_eq_add_of_le h
  rw [Int.pow_add]
  have h1 : (0 : Int) < 256 ^ a := Int.pow_pos (by decide)
  have h2 : (1 : Int) ≤ 256 ^ c := Int.pow_pos (by decide)
  have := Int.mul_le_mul_of_nonneg_left h2 (Int.le_of_lt h1)
  omega
theorem wordv_app (a b : List Int) (n : Int) : wordv (a ++ b) n = wordv b (wordv a n) := List.foldl_append ..
theorem wordv_hi : ∀ (l : List Int) (p : Int), bytesL l → l.length ≤ 8 → 0 ≤ p → p < 256 ^ (8 - l.length) →
    wordv l p = p * 256 ^ l.length + wordv l 0 ∧ 0 ≤ wordv l 0 ∧ wordv l 0 < 256 ^ l.length
  | [], p, hb, hl, h0, h1 => by simp [wordv]
  | x :: l, p, hb, hl, h0, h1 => by
    rw [List.length_cons] at hl h1 ⊢
    have hx := hb x (List.mem_cons_self ..)
    have hb' : bytesL l := fun y hy => hb y (List.mem_cons_of_mem _ hy)
    have e8 : (256 : Int) ^ (8 - l.length) = 256 ^ (8 - (l.length + 1)) * 256 := by
      rw [show 8 - l.length = 8 - (l.length + 1) + 1 by omega, Int.pow_succ]
    have hM : (256 : Int) ^ (8 - l.length) ≤ 18446744073709551616 := Int.le_trans (p256 (b := 8) (by omega)) (by decide)
    have p1 : (1 : Int) ≤ 256 ^ (8 - (l.length + 1)) := Int.pow_pos (by decide)
    have pl : (0 : Int) < 256 ^ l.length := Int.pow_pos (by decide)
    have k1 := wordv_hi l (p * 256 + x) hb' (by omega) (by omega) (by omega)
    have k2 := wordv_hi l x hb' (by omega) (by omega) (by omega)
    have s1 : wordv (x :: l) p = wordv l (p * 256 + x) := by
      show wordv l ((p * 256 + x) % 18446744073709551616) = _
      rw [Int.emod_eq_of_lt (by omega) (by omega)]
    have s2 : wordv (x :: l) 0 = wordv l x := by
      show wordv l ((0 * 256 + x) % 18446744073709551616) = _
      rw [Int.emod_eq_of_lt (by omega) (by omega), Int.zero_mul, Int.zero_add]
    rw [s1, s2, k1.1, k2.1, Int.pow_succ]
    have a1 : 0 ≤ x * 256 ^ l.length := Int.mul_nonneg hx.1 (by omega)
    have a2 : x * 256 ^ l.length ≤ 255 * 256 ^ l.length := Int.mul_le_mul_of_nonneg_right (by omega) (by omega)
    refine ⟨?_, by omega, by omega⟩
    rw [Int.add_mul, Int.mul_assoc p 256, Int.mul_comm 256, Int.add_assoc]
theorem wordv_lt {l : List Int} (hb : bytesL l) (hl : l.length ≤ 8) : 0 ≤ wordv l 0 ∧ wordv l 0 < 256 ^ l.length :=
  (wordv_hi l 0 hb hl (by decide) (Int.pow_pos (by decide))).2
theorem wordv_two {a b : List Int} (ha : bytesL a) (hb : bytesL b) (h : a.length + b.length ≤ 8) : wordv (a ++ b) 0 = wordv a 0 * 256 ^ b.length + wordv b 0 := by
  rw [wordv_app]
  have h1 := wordv_lt ha (by omega)
  refine (wordv_hi b _ hb (by omega) h1.1 (Int.lt_of_lt_of_le h1.2 (p256 (by omega)))).1
theorem wordv_eq (w : Int) (n : Nat) (hn : n ≤ 8) (h0 : 0 ≤ w) (h1 : w < 256 ^ n) : wordv (be w n) 0 = w := by
  rw [wordv_be w h0 n 0 hn (by decide) (Int.pow_pos (by decide)), Int.emod_eq_of_lt h0 h1]; omega
theorem be_wordv : ∀ (n : Nat) (l : List Int), l.length = n → bytesL l → n ≤ 8 → be (wordv l 0) n = l
  | 0, l, h, hb, hn => by rw [List.length_eq_zero_iff.1 h]; rfl
  | n + 1, [], h, hb, hn => by simp at h
  | n + 1, x :: l, h, hb, hn => by
    have hx := hb x (List.mem_cons_self ..)
    have hb' : bytesL l := fun y hy => hb y (List.mem_cons_of_mem _ hy)
    rw [List.length_cons] at h
    have hl : l.length = n := by omega
    have h1 := wordv_two (a := [x]) (b := l) (fun y hy => by rw [List.mem_singleton.1 hy]; exact hx) hb' (by simp; omega)
    have hx0 : wordv [x] 0 = x := by
      show (0 * 256 + x) % 18446744073709551616 = x
      omega
    have h2 := wordv_lt hb' (by omega)
    rw [List.singleton_append, hx0, hl] at h1
    rw [hl] at h2
    have := be_split x (wordv l 0) n h2 1
    rw [h1, Nat.add_comm n 1, this, be_wordv n l hl hb' (by omega)]
    have : be x 1 = [x] := by simp [be]; omega
    rw [this]; rfl
theorem wvalue_p4 (b : List Int) (hb : bytesL b) (hl : b.length ≤ 140737488355328) : ∀ (n i : Nat) (v : Int), i + n = b.length →
    Evn (fun k => (f_ref03_Value_t k).1 ((), ((b, ()), ((v, ()), (((i : Int), ()), ()))))) ((), ((wordv (b.drop i) v, ()), ()))
  | 0, i, v, hi => by
    refine Evn.step (Evn.const fun _ => rfl) fun k => ?_
    rw [t_ref03_Value]
    simp only [f_ref03_Value_p4, fitsS_dec, Option.bind_some, Option.isNone_none, Option.isNone_some, Option.isSome_none, Option.isSome_some, Bool.not_true, Bool.not_false, cond_true, cond_false, cond_dec, beq_int, bne_int, not_dec]
    rw [if_neg (by omega), List.drop_eq_nil_of_le (by omega)]
    rfl
  | n + 1, i, v, hi => by
    have hlt : i < b.length := by omega
    have hi2 := hb b[i] (List.getElem_mem hlt)
    rw [List.drop_eq_getElem_cons hlt]
    have ih := wvalue_p4 b hb hl n (i + 1) ((v * 256 + b[i]) % 18446744073709551616) (by omega)
    refine Evn.step ih fun k => ?_
    rw [t_ref03_Value]
    simp only [f_ref03_Value_p4, fitsS_dec, Option.bind_some, Option.isNone_none, Option.isNone_some, Option.isSome_none, Option.isSome_some, Bool.not_true, Bool.not_false, cond_true, cond_false, cond_dec, beq_int, bne_int, not_dec, and_dec]
    rw [if_pos (by omega), if_pos (by omega), gd_get (.int .u8) b (i : Int) (by omega) (by omega), iadd_i64 (by omega), iconv_u64, imul_u64, iadd_u64]
    simp only [Int.toNat_natCast]
    rw [Int.emod_eq_of_lt (a := b[i]) hi2.1 (by omega), show (v * 256 % 18446744073709551616 + b[i]) % 18446744073709551616 = (v * 256 + b[i]) % 18446744073709551616 by omega]
    rfl
theorem ref03_value (b : List Int) (hb : bytesL b) (hl : b.length ≤ 140737488355328) : g_ref03_Value ((), ((b, ()), ())) = some ((), ((wordv b 0, ()), ())) := by
  have := wvalue_p4 b hb hl b.length 0 0 (by omega)
  rw [List.drop_zero] at this
  exact (this.cast fun k => rfl).lim
end Go.Proofs.YtodnllhjikeafaaGreatDoor.Ev
