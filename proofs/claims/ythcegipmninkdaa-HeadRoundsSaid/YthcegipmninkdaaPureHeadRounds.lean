/- The law HeadRounds, plain. -/
import Derived.Test.YthcegipmninkdaaPuHead
namespace Go.Proofs.Ythcegipmninkdaa.Ev
open Go
set_option linter.unusedVariables false
set_option linter.unusedSimpArgs false
theorem mod2 (a : Int) : a % 2 = 0 ∨ a % 2 = 1 := by omega
theorem nat_and2 (x y : Nat) : (x &&& y) % 2 = x % 2 * (y % 2) := by
  have h := Nat.and_mod_two_pow (a := x) (b := y) (n := 1)
  rw [Nat.pow_one] at h
  rw [h]
  rcases Nat.mod_two_eq_zero_or_one x with e | e <;> rcases Nat.mod_two_eq_zero_or_one y with f | f <;> rw [e, f] <;> rfl
theorem and1 (a b : Int) : iand .i64 (iand .i64 a b) 1 = a % 2 * (b % 2) := by
  have hA : ∀ a : Int, (BitVec.ofInt 64 a).toNat % 2 = (a % 2).toNat := fun a => by
    rw [BitVec.toNat_ofInt]; omega
  have e0 : BitVec.ofInt 64 (IntKind.i64.wrap ((BitVec.ofInt 64 a &&& BitVec.ofInt 64 b).toNat : Int)) = BitVec.ofInt 64 a &&& BitVec.ofInt 64 b := by
    apply BitVec.eq_of_toNat_eq
    rw [BitVec.toNat_ofInt, wrap_i64]
    have := (BitVec.ofInt 64 a &&& BitVec.ofInt 64 b).isLt
    omega
  show IntKind.i64.wrap ((BitVec.ofInt 64 (IntKind.i64.wrap ((BitVec.ofInt 64 a &&& BitVec.ofInt 64 b).toNat : Int)) &&& BitVec.ofInt 64 1).toNat : Int) = _
  rw [e0, BitVec.toNat_and, BitVec.toNat_and]
  have e1 : (BitVec.ofInt 64 1).toNat = 1 := by decide
  rw [e1, Nat.and_one_is_mod, nat_and2, hA, hA, wrap_i64]
  rcases mod2 a with e | e <;> rcases mod2 b with f | f <;> rw [e, f] <;> rfl
theorem ishr1 (a : Int) : ishr .i64 a 1 = a / 2 := by
  unfold ishr
  rw [show min (1 : Int).toNat (IntKind.bits .i64) = 1 from rfl, show ((2 : Int) ^ 1) = 2 from rfl, Int.fdiv_eq_ediv_of_nonneg _ (by decide)]
theorem ref_half (a : Int) (h : i64 a) : g_ref28_half ((), ((a, ()), ())) = some ((), ((a / 2, ()), ((a % 2, ()), ()))) := by
  unfold i64 at h
  simp only [g_ref28_half, f_ref28_half_m, fitsS_dec, Option.bind_some, Option.isNone_none, Option.isNone_some, Option.isSome_none, Option.isSome_some, Bool.not_true, Bool.not_false, cond_true, cond_false, cond_dec, beq_int, bne_int, not_dec]
  by_cases c : 0 ≤ a
  · rw [tmod_nn c, if_neg (by omega), isub_i64 (by omega), iquo_nn (by decide) (by omega)]
    rw [show (a - a % 2) / 2 = a / 2 by omega]
  · rw [tmod_pos 2 (by decide), if_neg c]
    by_cases c2 : -(-a % 2) < 0
    · rw [if_pos c2, isub_i64 (by omega), iquo_pos (by decide) (by omega), if_neg (by omega)]
      rw [show -(-(a - 1) / 2) = a / 2 by omega, show a % 2 = 1 by omega]
    · rw [if_neg c2, isub_i64 (by omega), iquo_pos (by decide) (by omega), if_neg (by omega)]
      rw [show -(-(a - -(-a % 2)) / 2) = a / 2 by omega, show a % 2 = -(-a % 2) by omega]
theorem conv_i64 (a : Int) : i64 (iconv .i64 a) := by
  have : iconv .i64 a = (a + 9223372036854775808) % 18446744073709551616 - 9223372036854775808 := wrap_i64 a
  unfold i64; omega
theorem head_rounds (le v m st po pr d1 d2 p1 p2 r0 r1 r2 r3 a1 a2 o1 o2 e1 e2 t1 t2 en : Int) (hpo : -128 ≤ po ∧ po ≤ 127) (hpr : -128 ≤ pr ∧ pr ≤ 127) (hst : 0 ≤ st ∧ st < 256) (hd1 : u16 d1) (hd2 : u16 d2) (hp1 : u16 p1) (hp2 : u16 p2) (ha1 : u32 a1) (ha2 : u32 a2) (ho1 : u32 o1) (ho2 : u32 o2) (he1 : u32 e1) (he2 : u32 e2) (ht1 : u32 t1) (ht2 : u32 t2) (hen : u64 en) :
    g_law28_HeadRounds ((), ((le, (v, (m, (st, (po, (pr, (d1, (d2, (p1, (p2, (r0, (r1, (r2, (r3, (a1, (a2, (o1, (o2, (e1, (e2, (t1, (t2, ())))))))))))))))))))))), ((en, ()), ()))) = some ((), ((true, ()), ())) := by
  have hd := document le v m st po pr d1 d2 p1 p2 r0 r1 r2 r3 a1 a2 o1 o2 e1 e2 t1 t2 hpo hpr hst hd1 hd2 hp1 hp2 ha1 ha2 ho1 ho2 he1 he2 ht1 ht2
  have f1 : u32 (en / 4294967296 % 4294967296) := by unfold u32; omega
  have f2 : u32 (en % 4294967296) := by unfold u32; omega
  have f3 : en / 4294967296 % 4294967296 * 4294967296 + en % 4294967296 = en := by unfold u64 at hen; omega
  simp only [g_law28_HeadRounds, f_law28_HeadRounds_m, head_alive, hd, fitsS_dec, Option.bind_some, Option.isNone_none, Option.isNone_some, Option.isSome_none, Option.isSome_some, Bool.not_true, Bool.not_false, cond_true, cond_false, cond_dec, beq_int, bne_int, not_dec, not_true_eq_false, if_false]
  rw [ishr32 hen, iconv_u32, iconv_u32]
  simp only [g_head_Round, f_head_Round_m, stamp_sub e1 e2 o1 o2 he1 he2 ho1 ho2, stamp_sub t1 t2 _ _ ht1 ht2 f1 f2, stamp_sub _ _ o1 o2 f1 f2 ho1 ho2, stamp_sub t1 t2 e1 e2 ht1 ht2 he1 he2, f3, Option.bind_some,
    g_ref28_Round, f_ref28_Round_m, ref_half _ (conv_i64 _), ishr1, and1]
  generalize hA : iconv .i64 (isub .u64 (e1 * 4294967296 + e2) (o1 * 4294967296 + o2)) = A
  generalize hB : iconv .i64 (isub .u64 (t1 * 4294967296 + t2) en) = B
  have hm : imul .i64 (A % 2) (B % 2) = A % 2 * (B % 2) := by
    rcases mod2 A with e | e <;> rcases mod2 B with f | f <;> rw [e, f] <;> rfl
  rw [hm]
  simp
theorem head_rounds_all {B : Nat} (le v m st po pr d1 d2 p1 p2 r0 r1 r2 r3 a1 a2 o1 o2 e1 e2 t1 t2 en : Int) (f0 : ArgOk B (.int .i64) le) (f1 : ArgOk B (.int .i64) v) (f2 : ArgOk B (.int .i64) m) (f3 : ArgOk B (.int .u8) st) (f4 : ArgOk B (.int .i8) po) (f5 : ArgOk B (.int .i8) pr) (f6 : ArgOk B (.int .u16) d1) (f7 : ArgOk B (.int .u16) d2) (f8 : ArgOk B (.int .u16) p1) (f9 : ArgOk B (.int .u16) p2) (f10 : ArgOk B (.int .u8) r0) (f11 : ArgOk B (.int .u8) r1) (f12 : ArgOk B (.int .u8) r2) (f13 : ArgOk B (.int .u8) r3) (f14 : ArgOk B (.int .u32) a1) (f15 : ArgOk B (.int .u32) a2) (f16 : ArgOk B (.int .u32) o1) (f17 : ArgOk B (.int .u32) o2) (f18 : ArgOk B (.int .u32) e1) (f19 : ArgOk B (.int .u32) e2) (f20 : ArgOk B (.int .u32) t1) (f21 : ArgOk B (.int .u32) t2) (fe : ArgOk B (.int .u64) en) : g_law28_HeadRounds ((), ((le, (v, (m, (st, (po, (pr, (d1, (d2, (p1, (p2, (r0, (r1, (r2, (r3, (a1, (a2, (o1, (o2, (e1, (e2, (t1, (t2, ())))))))))))))))))))))), ((en, ()), ()))) = some ((), ((true, ()), ())) := head_rounds le v m st po pr d1 d2 p1 p2 r0 r1 r2 r3 a1 a2 o1 o2 e1 e2 t1 t2 en f4 f5 (arg_u8 f3) (arg_u16 f6) (arg_u16 f7) (arg_u16 f8) (arg_u16 f9) (arg_u32 f14) (arg_u32 f15) (arg_u32 f16) (arg_u32 f17) (arg_u32 f18) (arg_u32 f19) (arg_u32 f20) (arg_u32 f21) (arg_u64 fe)
end Go.Proofs.Ythcegipmninkdaa.Ev
