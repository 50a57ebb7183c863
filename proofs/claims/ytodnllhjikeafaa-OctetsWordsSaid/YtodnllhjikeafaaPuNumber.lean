/- The bytes of a number, by the reference. -/
import Derived.Test.YtodnllhjikeafaaPuNum
namespace Go.Proofs.Ytodnllhjikeafaa.Ev
open Go
set_option linter.unusedVariables false
set_option linter.unusedSimpArgs false
theorem be_snoc (x : Int) : ∀ (n : Nat), be x (n + 1) = be (x / 256) n ++ [x % 256]
  | 0 => by simp [be]
  | n + 1 => by
    have e : x / 256 / 256 ^ n = x / 256 ^ (n + 1) := by rw [Int.ediv_ediv_of_nonneg (by decide), Int.pow_succ, Int.mul_comm]
    rw [be, be_snoc x n, be, e]; rfl
theorem number_p4 : ∀ (n : Nat) (out : List Int) (x : Int), n ≤ out.length → out.length ≤ 1000 → 0 ≤ x ∧ x < 18446744073709551616 →
    Evn (fun j => (f_ref03_Number_t j).1 ((out, ()), ((x, ()), ((), ((((n : Int) - 1), ()), ()))))) ((be x n ++ out.drop n, ()), ((), ())) := by
  intro n; induction n with
  | zero =>
    intro out x h1 h2 h3
    refine Evn.some 1 fun j => ?_
    simp only [t_ref03_Number, f_ref03_Number_p4, fitsS_dec, Option.bind_some, Option.isNone_none, Option.isNone_some, Option.isSome_none, Option.isSome_some, Bool.not_true, Bool.not_false, cond_true, cond_false, cond_dec, beq_int, bne_int, not_dec, ge_iff_le]
    rw [if_neg (by omega)]; rfl
  | succ n ih =>
    intro out x h1 h2 h3
    have := ih (out.set n (x % 256)) (x / 256) (by simp; omega) (by simp; omega) (by omega)
    have e : (out.set n (x % 256)).drop n = (x % 256) :: out.drop (n + 1) := by
      rw [List.drop_eq_getElem_cons (by simp; omega)]
      simp only [List.getElem_set_self]
      rw [List.drop_set_of_lt (by omega)]
    rw [e, List.append_cons, ← be_snoc] at this
    refine this.step fun j => ?_
    have e1 : ((n + 1 : Nat) : Int) - 1 = (n : Int) := by omega
    rw [e1]
    simp only [t_ref03_Number, f_ref03_Number_p4, fitsS_dec, Option.bind_some, Option.isNone_none, Option.isNone_some, Option.isSome_none, Option.isSome_some, Bool.not_true, Bool.not_false, cond_true, cond_false, cond_dec, beq_int, bne_int, not_dec, ge_iff_le, and_dec]
    have e2 : iquo .u64 x 256 = x / 256 := by unfold iquo; rw [Int.tdiv_eq_ediv_of_nonneg h3.1, wrap_u64]; omega
    rw [if_pos (by omega), if_pos (by omega), tmod_nn h3.1, iconv_u8, e2, isub_i64 (by omega), show x % 256 % 256 = x % 256 by omega, Int.toNat_natCast]
theorem ref03_number (x : Int) (n : Nat) (h : 0 ≤ x ∧ x < 18446744073709551616) (hn : n ≤ 100) : g_ref03_Number ((), ((x, ()), (((n : Int), ()), ()))) = some ((be x n, ()), ((), ())) := by
  have := number_p4 n (List.replicate n 0) x (by simp) (by simp; omega) h
  rw [List.drop_eq_nil_of_le (by simp), List.append_nil] at this
  refine (this.cast fun k => ?_).lim
  simp only [f_ref03_Number_m, fitsS_dec, Option.bind_some, Option.isNone_none, Option.isNone_some, Option.isSome_none, Option.isSome_some, Bool.not_true, Bool.not_false, cond_true, cond_false, cond_dec, beq_int, bne_int, not_dec, and_dec]
  rw [if_pos (by omega), isub_i64 (by omega), Int.toNat_natCast]
theorem be_split (x y : Int) (m : Nat) (hy : 0 ≤ y ∧ y < 256 ^ m) : ∀ n, be (x * 256 ^ m + y) (n + m) = be x n ++ be y m := by
  induction m generalizing x y with
  | zero =>
    intro n
    have : y = 0 := by have := hy.2; simp at this; omega
    subst this
    simp [be]
  | succ m ih =>
    intro n
    have hp : (0 : Int) < 256 ^ m := Int.pow_pos (by decide)
    have e : (256 : Int) ^ (m + 1) = 256 ^ m * 256 := Int.pow_succ ..
    have hy2 := hy.2
    rw [e] at hy2
    have e2 : (x * 256 ^ (m + 1) + y) / 256 = x * 256 ^ m + y / 256 := by
      rw [e, ← Int.mul_assoc, Int.add_comm, Int.add_mul_ediv_right _ _ (by decide)]; omega
    have e3 : (x * 256 ^ (m + 1) + y) % 256 = y % 256 := by
      rw [e, ← Int.mul_assoc, Int.add_comm, Int.add_mul_emod_self_right]
    have hy3 : y / 256 < 256 ^ m := Int.ediv_lt_of_lt_mul (by decide) hy2
    rw [← Nat.add_assoc, be_snoc, be_snoc, e2, e3, ih x (y / 256) ⟨by omega, hy3⟩ n, List.append_assoc]
theorem ior_high {a b : Int} (k : Nat) (hk : k ≤ 63) (ha : 0 ≤ a) (hb : 0 ≤ b ∧ b < 2 ^ k) (h : a * 2 ^ k + b < 18446744073709551616) : ior .u64 (a * 2 ^ k) b = a * 2 ^ k + b := by
  obtain ⟨a, rfl⟩ := Int.eq_ofNat_of_zero_le ha
  obtain ⟨b, rfl⟩ := Int.eq_ofNat_of_zero_le hb.1
  have hb2 : b < 2 ^ k := by have := hb.2; exact_mod_cast this
  have e1 : ((a : Int) * 2 ^ k) = ((a <<< k : Nat) : Int) := by rw [Nat.shiftLeft_eq]; push_cast; rfl
  have h2 : a <<< k + b < 18446744073709551616 := by
    rw [e1] at h
    generalize a <<< k = q at h ⊢
    omega
  have p64 : 18446744073709551616 ≤ 2 ^ IntKind.bits .u64 := by decide
  rw [e1]
  unfold ior
  have e2 : (BitVec.ofInt (IntKind.bits .u64) ((a <<< k : Nat) : Int) ||| BitVec.ofInt (IntKind.bits .u64) (b : Int)).toNat = a <<< k + b := by
    rw [BitVec.toNat_or, BitVec.toNat_ofInt, BitVec.toNat_ofInt]
    have k1 : (((a <<< k : Nat) : Int) % ((2 ^ IntKind.bits .u64 : Nat) : Int)).toNat = a <<< k := by
      rw [← Int.natCast_emod, Int.toNat_natCast, Nat.mod_eq_of_lt (Nat.lt_of_lt_of_le (Nat.lt_of_le_of_lt (Nat.le_add_right _ _) h2) p64)]
    have k2 : ((b : Int) % ((2 ^ IntKind.bits .u64 : Nat) : Int)).toNat = b := by
      rw [← Int.natCast_emod, Int.toNat_natCast, Nat.mod_eq_of_lt (Nat.lt_of_lt_of_le (Nat.lt_of_le_of_lt (Nat.le_add_left _ _) h2) p64)]
    rw [k1, k2, Nat.shiftLeft_add_eq_or_of_lt hb2]
  rw [e2, wrap_u64]
  omega
end Go.Proofs.Ytodnllhjikeafaa.Ev
