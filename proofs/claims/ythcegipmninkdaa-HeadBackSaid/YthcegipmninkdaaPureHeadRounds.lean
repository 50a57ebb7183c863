/- The law HeadRounds, plain. -/
import Derived.Test.YthcegipmninkdaaPuHead
namespace Go.Proofs.Ythcegipmninkdaa.Ev
open Go
set_option linter.unusedVariables false
set_option linter.unusedSimpArgs false
theorem mod2 (a : Int) : a % 2 = 0 ∨ a % 2 = 1 := by omega
theorem nat_and2 (x y : Nat) : (x &&& y) % 2 = x % 2 * (y % 2) := by
  have h := Nat.and_mod_two_pow (a := x) (b := y) (n := 1)
  rw [Nat.pow_one] at h
  rw [h]
  rcases Nat.mod_two_eq_zero_or_one x with e | e <;> rcases Nat.mod_two_eq_zero_or_one y with f | f <;> rw [e, f] <;> rfl
theorem and1 (a b : Int) : iand .i64 (iand .i64 a b) 1 = a % 2 * (b % 2) := by
  have hA : ∀ a : Int, (BitVec.ofInt 64 a).toNat % 2 = (a % 2).toNat := fun a => by
    rw [BitVec.toNat_ofInt]; omega
  have e0 : BitVec.ofInt 64 (IntKind.i64.wrap ((BitVec.ofInt 64 a &&& BitVec.ofInt 64 b).toNat : Int)) = BitVec.ofInt 64 a &&& BitVec.ofInt 64 b := by
    apply BitVec.eq_of_toNat_eq
    rw [BitVec.toNat_ofInt, wrap_i64]
    have := (BitVec.ofInt 64 a &&& BitVec.ofInt 64 b).isLt
    omega
  show IntKind.i64.wrap ((BitVec.ofInt 64 (IntKind.i64.wrap ((BitVec.ofInt 64 a &&& BitVec.ofInt 64 b).toNat : Int)) &&& BitVec.ofInt 64 1).toNat : Int) = _
  rw [e0, BitVec.toNat_and, BitVec.toNat_and]
  have e1 : (BitVec.ofInt 64 1).toNat = 1 := by decide
  rw [e1, Nat.and_one_is_mod, nat_and2, hA, hA, wrap_i64]
  rcases mod2 a with e | e <;> rcases mod2 b with f | f <;> rw [e, f] <;> rfl
theorem ishr1 (a : Int) : ishr .i64 a 1 = a / 2 := by
  unfold ishr
  rw [show min (1 : Int).toNat (IntKind.bits .i64) = 1 from rfl, show ((2 : Int) ^ 1) = 2 from rfl, Int.fdiv_eq_ediv_of_nonneg _ (by decide)]
theorem conv_i64 (a : Int) : i64 (iconv .i64 a) := by
  have : iconv .i64 a = (a + 9223372036854775808) % 18446744073709551616 - 9223372036854775808 := wrap_i64 a
  unfold i64; omega
end Go.Proofs.Ythcegipmninkdaa.Ev
