/- The bytes of a number, by the reference. -/
import Derived.Test.YtodnllhjikeafaaGreatDoorPuNum
namespace Go.Proofs.YtodnllhjikeafaaGreatDoor.Ev
open Go
set_option linter.unusedVariables false
set_option linter.unusedSimpArgs false
theorem be_snoc (x : Int) : ∀ (n : Nat), be x (n + 1) = be (x / 256) n ++ [x % 256]
  | 0 => by simp [be]
  | n + 1 => by
    have e : x / 256 / 256 ^ n = x / 256 ^ (n + 1) := by rw [Int.ediv_ediv_of_nonneg (by decide), Int.pow_succ, Int.mul_comm]
    rw [be, be_snoc x n, be, e]; rfl
theorem be_split (x y : Int) (m : Nat) (hy : 0 ≤ y ∧ y < 256 ^ m) : ∀ n, be (x * 256 ^ m + y) (n + m) = be x n ++ be y m := by
  induction m generalizing x y with
  | zero =>
    intro n
    have : y = 0 := by have := hy.2; simp at this; omega
    subst this
    simp [be]
  | succ m ih =>
    intro n
    have hp : (0 : Int) < 256 ^ m := Int.pow_pos (by decide)
    have e : (256 : Int) ^ (m + 1) = 256 ^ m * 256 := Int.pow_succ ..
    have hy2 := hy.2
    rw [e] at hy2
    have e2 : (x * 256 ^ (m + 1) + y) / 256 = x * 256 ^ m + y / 256 := by
      rw [e, ← Int.mul_assoc, Int.add_comm, Int.add_mul_ediv_right _ _ (by decide)]; omega
    have e3 : (x * 256 ^ (m + 1) + y) % 256 = y % 256 := by
      rw [e, ← Int.mul_assoc, Int.add_comm, Int.add_mul_emod_self_right]
    have hy3 : y / 256 < 256 ^ m := Int.ediv_lt_of_lt_mul (by decide) hy2
    rw [← Nat.add_assoc, be_snoc, be_snoc, e2, e3, ih x (y / 256) ⟨by omega, hy3⟩ n, List.append_assoc]
theorem ior_high {a b : Int} (k : Nat) (hk : k ≤ 63) (ha : 0 ≤ a) (hb : 0 ≤ b ∧ b < 2 ^ k) (h : a * 2 ^ k + b < 18446744073709551616) : ior .u64 (a * 2 ^ k) b = a * 2 ^ k + b := by
  obtain ⟨a, rfl⟩ := Int.eq_ofNat_of_zero_le ha
  obtain ⟨b, rfl⟩ := Int.eq_ofNat_of_zero_le hb.1
  have hb2 : b < 2 ^ k := by have := hb.2; exact_mod_cast this
  have e1 : ((a : Int) * 2 ^ k) = ((a <<< k : Nat) : Int) := by rw [Nat.shiftLeft_eq]; push_cast; rfl
  have h2 : a <<< k + b < 18446744073709551616 := by
    rw [e1] at h
    generalize a <<< k = q at h ⊢
    omega
  have p64 : 18446744073709551616 ≤ 2 ^ IntKind.bits .u64 := by decide
  rw [e1]
  unfold ior
  have e2 : (BitVec.ofInt (IntKind.bits .u64) ((a <<< k : Nat) : Int) ||| BitVec.ofInt (IntKind.bits .u64) (b : Int)).toNat = a <<< k + b := by
    rw [BitVec.toNat_or, BitVec.toNat_ofInt, BitVec.toNat_ofInt]
    have k1 : (((a <<< k : Nat) : Int) % ((2 ^ IntKind.bits .u64 : Nat) : Int)).toNat = a <<< k := by
      rw [← Int.natCast_emod, Int.toNat_natCast, Nat.mod_eq_of_lt (Nat.lt_of_lt_of_le (Nat.lt_of_le_of_lt (Nat.le_add_right _ _) h2) p64)]
    have k2 : ((b : Int) % ((2 ^ IntKind.bits .u64 : Nat) : Int)).toNat = b := by
      rw [← Int.natCast_emod, Int.toNat_natCast, Nat.mod_eq_of_lt (Nat.lt_of_lt_of_le (Nat.lt_of_le_of_lt (Nat.le_add_left _ _) h2) p64)]
    rw [k1, k2, Nat.shiftLeft_add_eq_or_of_lt hb2]
  rw [e2, wrap_u64]
  omega
end Go.Proofs.YtodnllhjikeafaaGreatDoor.Ev
