/- Plain laws of the arithmetic that the printed functions use. -/
import Derived.Test.YtfdppbfefplikaaEv19
import Derived.IntWalk
namespace Go.Proofs.Ytfdppbfefplikaa.Ev
open Go
set_option linter.unusedVariables false
section
variable {a b : Int}
theorem iadd_i64 (h : -9223372036854775808 ≤ a + b ∧ a + b ≤ 9223372036854775807) : iadd .i64 a b = a + b := IntWalk.i64_in _ h
theorem isub_i64 (h : -9223372036854775808 ≤ a - b ∧ a - b ≤ 9223372036854775807) : isub .i64 a b = a - b := IntWalk.i64_in _ h
theorem imul_i64 (h : -9223372036854775808 ≤ a * b ∧ a * b ≤ 9223372036854775807) : imul .i64 a b = a * b := IntWalk.i64_in _ h
theorem wrap_i64 (n : Int) : IntKind.i64.wrap n = (n + 9223372036854775808) % 18446744073709551616 - 9223372036854775808 := by rw [IntKind.wrap_i64]
theorem wrap_u64 (n : Int) : IntKind.u64.wrap n = n % 18446744073709551616 := by simp [IntKind.wrap, IntKind.bits, IntKind.signed]
theorem wrap_u32 (n : Int) : IntKind.u32.wrap n = n % 4294967296 := by rw [IntKind.wrap_u32]
theorem wrap_u16 (n : Int) : IntKind.u16.wrap n = n % 65536 := by simp [IntKind.wrap, IntKind.bits, IntKind.signed]
theorem wrap_u8 (n : Int) : IntKind.u8.wrap n = n % 256 := by rw [IntKind.wrap_u8]
theorem iadd_u64 : iadd .u64 a b = (a + b) % 18446744073709551616 := wrap_u64 _
theorem isub_u64 : isub .u64 a b = (a - b) % 18446744073709551616 := wrap_u64 _
theorem imul_u64 : imul .u64 a b = (a * b) % 18446744073709551616 := wrap_u64 _
theorem iconv_u64 : iconv .u64 a = a % 18446744073709551616 := wrap_u64 _
theorem iconv_u32 : iconv .u32 a = a % 4294967296 := wrap_u32 _
theorem iconv_u16 : iconv .u16 a = a % 65536 := wrap_u16 _
theorem iconv_u8 : iconv .u8 a = a % 256 := wrap_u8 _
theorem iconv_i64 (h : -9223372036854775808 ≤ a ∧ a ≤ 9223372036854775807) : iconv .i64 a = a := IntWalk.i64_in _ h
/-- Bits cut off at the top. -/
theorem iand_mask {k : IntKind} (n : Nat) (hn : n ≤ k.bits) (hs : k.signed = false) (h0 : 0 ≤ a) (ha : a < 2 ^ k.bits) : iand k a (2 ^ n - 1) = a % 2 ^ n := by
  obtain ⟨x, rfl⟩ := Int.eq_ofNat_of_zero_le h0
  have hx : x < 2 ^ k.bits := by exact_mod_cast ha
  have hm : (2 : Nat) ^ n - 1 < 2 ^ k.bits := Nat.lt_of_lt_of_le (Nat.sub_lt (Nat.two_pow_pos n) (by decide)) (Nat.pow_le_pow_right (by decide) hn)
  have e : ((2 : Int) ^ n - 1) = ((2 ^ n - 1 : Nat) : Int) := by
    have := Nat.two_pow_pos n
    rw [Int.ofNat_sub this]; simp
  unfold iand
  rw [e]
  have h1 : (BitVec.ofInt k.bits (x : Int) &&& BitVec.ofInt k.bits ((2 ^ n - 1 : Nat) : Int)).toNat = x % 2 ^ n := by
    rw [BitVec.toNat_and, BitVec.toNat_ofInt, BitVec.toNat_ofInt]
    have e1 : (((x : Int) % ((2 ^ k.bits : Nat) : Int)).toNat) = x := by
      rw [← Int.natCast_emod, Int.toNat_natCast, Nat.mod_eq_of_lt hx]
    have e2 : ((((2 ^ n - 1 : Nat) : Int) % ((2 ^ k.bits : Nat) : Int)).toNat) = 2 ^ n - 1 := by
      rw [← Int.natCast_emod, Int.toNat_natCast, Nat.mod_eq_of_lt hm]
    rw [e1, e2, Nat.and_two_pow_sub_one_eq_mod]
  rw [h1]
  unfold IntKind.wrap
  simp only [hs, Bool.false_and, Bool.false_eq_true, if_false]
  rw [Int.emod_eq_of_lt (by omega)]
  · simp
  · have : x % 2 ^ n < 2 ^ k.bits := Nat.lt_of_le_of_lt (Nat.mod_le ..) hx
    exact_mod_cast this
end
/-- With enough rounds it tells that. -/
def Evn {R : Type} (F : Nat → Option R) (out : R) : Prop := ∃ n, ∀ k, n ≤ k → F k = some out
theorem Evn.lim {R : Type} {F : Nat → Option R} {out : R} (h : Evn F out) : lim F = some out := let ⟨n, h⟩ := h; lim_eq n h
theorem Evn.step {R : Type} {F G : Nat → Option R} {out : R} (h : Evn G out) (e : ∀ k, F (k + 1) = G k) : Evn F out := by
  obtain ⟨n, h⟩ := h
  refine ⟨n + 1, fun k hk => ?_⟩
  obtain ⟨m, rfl⟩ := Nat.exists_eq_add_of_le hk
  rw [show n + 1 + m = (n + m) + 1 by omega, e]
  exact h _ (Nat.le_add_right ..)
theorem Evn.cast {R : Type} {F G : Nat → Option R} {out : R} (h : Evn G out) (e : ∀ k, F k = G k) : Evn F out := by
  obtain ⟨n, h⟩ := h
  exact ⟨n, fun k hk => (e k).trans (h k hk)⟩
theorem Evn.const {R : Type} {F : Nat → Option R} {out : R} (e : ∀ k, F k = some out) : Evn F out := ⟨0, fun k _ => e k⟩
/-- A number's lowest n bytes, the highest first. -/
def be (w : Int) : Nat → List Int
  | 0 => []
  | n + 1 => (w / 256 ^ n % 256) :: be w n
theorem length_be (w : Int) : ∀ n, (be w n).length = n
  | 0 => rfl
  | n + 1 => by simp [be, length_be w n]
theorem pow256 (n : Nat) : (2 : Int) ^ (8 * n) = 256 ^ n := by rw [Int.pow_mul]; rfl
theorem ishr_byte {w : Int} {n : Nat} (hn : n ≤ 8) (hw : 0 ≤ w) : ishr .u64 w (8 * (n : Int)) = w / 256 ^ n := by
  unfold ishr
  rw [show (8 * (n : Int)).toNat = 8 * n by omega, show min (8 * n) (IntKind.bits .u64) = 8 * n by simp only [IntKind.bits]; omega, pow256, Int.fdiv_eq_ediv_of_nonneg _ (Int.le_of_lt (Int.pow_pos (by decide)))]
/-- The number of bytes. -/
def val (l : List Int) (n : Int) : Int := l.foldl (fun n x => n * 256 + x) n
theorem ior_byte {n x : Int} (hn : 0 ≤ n) (h0 : 0 ≤ x) (h1 : x < 256) : ior .u64 (ishl .u64 n 8) x = (n * 256 + x) % 18446744073709551616 := by
  obtain ⟨a, rfl⟩ := Int.eq_ofNat_of_zero_le hn
  obtain ⟨y, rfl⟩ := Int.eq_ofNat_of_zero_le h0
  have hy : y < 256 := by omega
  have e1 : ishl .u64 (a : Int) 8 = ((a % 2 ^ 56) <<< 8 : Nat) := by
    unfold ishl
    rw [wrap_u64, show min (8 : Int).toNat (IntKind.bits .u64) = 8 from rfl, Nat.shiftLeft_eq]
    omega
  rw [e1]
  unfold ior
  have hlt : (a % 2 ^ 56) <<< 8 < 2 ^ IntKind.bits .u64 := by rw [Nat.shiftLeft_eq]; simp only [IntKind.bits]; omega
  have e2 : (BitVec.ofInt (IntKind.bits .u64) (((a % 2 ^ 56) <<< 8 : Nat) : Int) ||| BitVec.ofInt (IntKind.bits .u64) (y : Int)).toNat = (a % 2 ^ 56) <<< 8 + y := by
    rw [BitVec.toNat_or, BitVec.toNat_ofInt, BitVec.toNat_ofInt]
    have k1 : ((((a % 2 ^ 56) <<< 8 : Nat) : Int) % ((2 ^ IntKind.bits .u64 : Nat) : Int)).toNat = (a % 2 ^ 56) <<< 8 := by
      rw [← Int.natCast_emod, Int.toNat_natCast, Nat.mod_eq_of_lt hlt]
    have k2 : ((y : Int) % ((2 ^ IntKind.bits .u64 : Nat) : Int)).toNat = y := by
      rw [← Int.natCast_emod, Int.toNat_natCast, Nat.mod_eq_of_lt (by simp only [IntKind.bits]; omega)]
    rw [k1, k2, Nat.shiftLeft_add_eq_or_of_lt (by omega)]
  rw [e2, wrap_u64, Nat.shiftLeft_eq]
  omega
/-- The word of bytes, as a uint64. -/
def wordv (l : List Int) (n : Int) : Int := l.foldl (fun n x => (n * 256 + x) % 18446744073709551616) n
theorem wordv_range : ∀ (l : List Int) (n : Int), 0 ≤ n → n < 18446744073709551616 → 0 ≤ wordv l n ∧ wordv l n < 18446744073709551616
  | [], n, h0, h1 => ⟨h0, h1⟩
  | x :: l, n, h0, h1 => wordv_range l ((n * 256 + x) % 18446744073709551616) (by omega) (by omega)
theorem wordv_be (w : Int) (h0 : 0 ≤ w) : ∀ (n : Nat) (p : Int), n ≤ 8 → 0 ≤ p → p < 256 ^ (8 - n) → wordv (be w n) p = p * 256 ^ n + w % 256 ^ n
  | 0, p, _, _, _ => by
    show p = p * 1 + w % 1
    omega
  | n + 1, p, hn, hp, hp1 => by
    have hpow : (256 : Int) ^ (8 - n) = 256 ^ (8 - (n + 1)) * 256 := by
      rw [show 8 - n = (8 - (n + 1)) + 1 by omega, Int.pow_succ]
    have hle : (256 : Int) ^ (8 - n) ≤ 18446744073709551616 := by
      have h : n = 0 ∨ n = 1 ∨ n = 2 ∨ n = 3 ∨ n = 4 ∨ n = 5 ∨ n = 6 ∨ n = 7 := by omega
      clear hpow hp1
      rcases h with rfl | rfl | rfl | rfl | rfl | rfl | rfl | rfl <;> decide
    have hb0 : 0 ≤ w / 256 ^ n % 256 := by omega
    have hb1 : w / 256 ^ n % 256 < 256 := by omega
    have hq : p * 256 + w / 256 ^ n % 256 < 256 ^ (8 - n) := by rw [hpow]; omega
    show wordv (be w n) ((p * 256 + w / 256 ^ n % 256) % 18446744073709551616) = _
    rw [Int.emod_eq_of_lt (by omega) (by omega), wordv_be w h0 n _ (by omega) (by omega) hq]
    have e : w % 256 ^ (n + 1) = w / 256 ^ n % 256 * 256 ^ n + w % 256 ^ n := by
      have hp : (0 : Int) < 256 ^ n := Int.pow_pos (by decide)
      have h1 := Int.emod_add_mul_ediv w (256 ^ n)
      have h2 := Int.emod_add_mul_ediv (w / 256 ^ n) 256
      have h3 : 0 ≤ w % 256 ^ n := Int.emod_nonneg _ (by omega)
      have h4 : w % 256 ^ n < 256 ^ n := Int.emod_lt_of_pos _ hp
      rw [Int.pow_succ, Int.mul_comm (256 ^ n) 256]
      have h5 : w = (w / 256 ^ n % 256 * 256 ^ n + w % 256 ^ n) + (256 * 256 ^ n) * (w / 256 ^ n / 256) := by
        calc w = w % 256 ^ n + 256 ^ n * (w / 256 ^ n) := h1.symm
          _ = w % 256 ^ n + 256 ^ n * (w / 256 ^ n % 256 + 256 * (w / 256 ^ n / 256)) := by rw [h2]
          _ = _ := by
            rw [Int.mul_add, Int.mul_comm (256 ^ n) (w / 256 ^ n % 256), ← Int.mul_assoc, Int.mul_comm (256 ^ n) 256]
            omega
      have h6 : w / 256 ^ n % 256 * 256 ^ n + w % 256 ^ n < 256 * 256 ^ n := by
        have : w / 256 ^ n % 256 * 256 ^ n ≤ 255 * 256 ^ n := Int.mul_le_mul_of_nonneg_right (by omega) (by omega)
        omega
      have h7 : 0 ≤ w / 256 ^ n % 256 * 256 ^ n := Int.mul_nonneg hb0 (by omega)
      conv => lhs; rw [h5]
      rw [Int.add_mul_emod_self_left, Int.emod_eq_of_lt (by omega) h6]
    rw [e, Int.pow_succ]
    rw [Int.add_mul, Int.mul_assoc, Int.mul_comm 256 (256 ^ n)]
    omega
end Go.Proofs.Ytfdppbfefplikaa.Ev
