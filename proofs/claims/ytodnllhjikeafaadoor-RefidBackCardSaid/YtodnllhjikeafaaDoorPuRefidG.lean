/- Addresses as texts, by the program and by the reference. -/
import Derived.Test.YtodnllhjikeafaaDoorPuRefidF
import Derived.Test.YtodnllhjikeafaaDoorPuPutF
namespace Go.Proofs.YtodnllhjikeafaaDoor.Ev
open Go
set_option linter.unusedVariables false
set_option linter.unusedSimpArgs false
@[reducible] def pd1 (x : Int) : List Int := padd x.toNat 1
theorem pd_len {x : Int} (h : 0 ≤ x ∧ x < 256) : 1 ≤ (pd1 x).length ∧ (pd1 x).length ≤ 3 := (padd_row (n := x.toNat) (by omega)).1.1
theorem pd_raw {x : Int} (h : 0 ≤ x ∧ x < 256) : g_ref02_Raw ((), ((x, ()), ((1, ()), ()))) = some ((), ((strOf (pd1 x), ()), ())) := by
  have := ref02_raw x.toNat 1 (by omega) (by omega)
  rw [show ((x.toNat : Nat) : Int) = x by omega] at this
  exact this
theorem pd_itoa {x : Int} (h : 0 ≤ x ∧ x < 256) : g_strconv_Itoa ((), ((x, ()), ())) = some ((), ((strOf (pd1 x), ()), ())) := itoa_call (by omega)
theorem addr_four (a b c d : Int) : addrL [a, b, c, d] = pd1 a ++ 46 :: (pd1 b ++ 46 :: (pd1 c ++ 46 :: pd1 d)) := rfl
theorem addr_join {a b c d : Int} (ha : 0 ≤ a ∧ a < 256) (hb : 0 ≤ b ∧ b < 256) (hc : 0 ≤ c ∧ c < 256) (hd : 0 ≤ d ∧ d < 256) :
    g_strings_Join ((), (([strOf (pd1 a), strOf (pd1 b), strOf (pd1 c), strOf (pd1 d)], ()), (((⟨#[46]⟩ : ByteArray), ()), ()))) = some ((), ((strOf (addrL [a, b, c, d]), ()), ())) := by
  have la := pd_len ha
  have lb := pd_len hb
  have lc := pd_len hc
  have ld := pd_len hd
  have e : (⟨(Lib.join ([strOf (pd1 a), strOf (pd1 b), strOf (pd1 c), strOf (pd1 d)].map (·.data.toList)) (⟨#[46]⟩ : ByteArray).data.toList).toArray⟩ : ByteArray) = strOf (addrL [a, b, c, d]) := by
    rw [addr_four]
    unfold Lib.join strOf
    simp [List.intercalate, List.intersperse]
  have hs := congrArg ByteArray.size e
  rw [str_size, addr_four] at hs
  have hs2 : (Lib.join ([strOf (pd1 a), strOf (pd1 b), strOf (pd1 c), strOf (pd1 d)].map (·.data.toList)) (⟨#[46]⟩ : ByteArray).data.toList).length ≤ 140737488355328 := by
    have : (Lib.join ([strOf (pd1 a), strOf (pd1 b), strOf (pd1 c), strOf (pd1 d)].map (·.data.toList)) (⟨#[46]⟩ : ByteArray).data.toList).length = (pd1 a ++ 46 :: (pd1 b ++ 46 :: (pd1 c ++ 46 :: pd1 d))).length := by
      rw [← hs]; rfl
    rw [this]
    simp only [List.length_append, List.length_cons]
    omega
  show lib_join _ = _
  unfold lib_join
  rw [if_pos ⟨by simp, hs2⟩, e]
theorem iadd_lits : iadd .i64 (0 : Int) 1 = 1 ∧ iadd .i64 (1 : Int) 1 = 2 ∧ iadd .i64 (2 : Int) 1 = 3 ∧ iadd .i64 (3 : Int) 1 = 4 := by
  refine ⟨?_, ?_, ?_, ?_⟩ <;> kernel_rfl
theorem refid_addr {a b c d : Int} (ha : 0 ≤ a ∧ a < 256) (hb : 0 ≤ b ∧ b < 256) (hc : 0 ≤ c ∧ c < 256) (hd : 0 ≤ d ∧ d < 256) :
    g_refid_Address ((), ((a, (b, (c, (d, ())))), ())) = some ((), ((strOf (addrL [a, b, c, d]), ()), ())) := by
  have hj := addr_join ha hb hc hd
  obtain ⟨i0, i1, i2, i3⟩ := iadd_lits
  have ca := iconv_i64 (show -9223372036854775808 ≤ a ∧ a ≤ 9223372036854775807 by omega)
  have cb := iconv_i64 (show -9223372036854775808 ≤ b ∧ b ≤ 9223372036854775807 by omega)
  have cc := iconv_i64 (show -9223372036854775808 ≤ c ∧ c ≤ 9223372036854775807 by omega)
  have cd := iconv_i64 (show -9223372036854775808 ≤ d ∧ d ≤ 9223372036854775807 by omega)
  have s4 : Evn (fun k => (f_refid_Address_t k).1 (([strOf (pd1 a), strOf (pd1 b), strOf (pd1 c), strOf (pd1 d)], ()), ((), ((a, (b, (c, (d, ())))), (((4 : Int), ()), ()))))) ((), ((strOf (addrL [a, b, c, d]), ()), ())) := by
    refine Evn.some 1 fun k => ?_
    rw [t_refid_Address]
    simp only [f_refid_Address_p4, fitsS_dec, Option.bind_some, Option.isNone_none, Option.isNone_some, Option.isSome_none, Option.isSome_some, Bool.not_true, Bool.not_false, cond_true, cond_false, cond_dec, beq_int, bne_int, not_dec, hj, Int.reduceLT, Int.reduceLE, Int.reduceEq, Int.reduceGT, gt_iff_lt, if_true, if_false, ite_true, ite_false, and_self, and_true, true_and, List.length_cons, List.length_nil, List.length_append, List.length_singleton, List.nil_append, List.cons_append, Nat.reduceAdd, Nat.reduceMul, Nat.reduceLeDiff, Nat.zero_add]
  have s3 : Evn (fun k => (f_refid_Address_t k).1 (([strOf (pd1 a), strOf (pd1 b), strOf (pd1 c)], ()), ((), ((a, (b, (c, (d, ())))), (((3 : Int), ()), ()))))) ((), ((strOf (addrL [a, b, c, d]), ()), ())) := by
    refine s4.step fun k => ?_
    rw [t_refid_Address]
    simp only [f_refid_Address_p4, fitsS_dec, Option.bind_some, Option.isNone_none, Option.isNone_some, Option.isSome_none, Option.isSome_some, Bool.not_true, Bool.not_false, cond_true, cond_false, cond_dec, beq_int, bne_int, not_dec, and_dec, cd, pd_itoa hd, i3, Int.reduceLT, Int.reduceLE, Int.reduceEq, Int.reduceGT, gt_iff_lt, if_true, if_false, ite_true, ite_false, and_self, and_true, true_and, List.length_cons, List.length_nil, List.length_append, List.length_singleton, List.nil_append, List.cons_append, Nat.reduceAdd, Nat.reduceMul, Nat.reduceLeDiff, Nat.zero_add]
  have s2 : Evn (fun k => (f_refid_Address_t k).1 (([strOf (pd1 a), strOf (pd1 b)], ()), ((), ((a, (b, (c, (d, ())))), (((2 : Int), ()), ()))))) ((), ((strOf (addrL [a, b, c, d]), ()), ())) := by
    refine s3.step fun k => ?_
    rw [t_refid_Address]
    simp only [f_refid_Address_p4, fitsS_dec, Option.bind_some, Option.isNone_none, Option.isNone_some, Option.isSome_none, Option.isSome_some, Bool.not_true, Bool.not_false, cond_true, cond_false, cond_dec, beq_int, bne_int, not_dec, and_dec, cc, pd_itoa hc, i2, Int.reduceLT, Int.reduceLE, Int.reduceEq, Int.reduceGT, gt_iff_lt, if_true, if_false, ite_true, ite_false, and_self, and_true, true_and, List.length_cons, List.length_nil, List.length_append, List.length_singleton, List.nil_append, List.cons_append, Nat.reduceAdd, Nat.reduceMul, Nat.reduceLeDiff, Nat.zero_add]
  have s1 : Evn (fun k => (f_refid_Address_t k).1 (([strOf (pd1 a)], ()), ((), ((a, (b, (c, (d, ())))), (((1 : Int), ()), ()))))) ((), ((strOf (addrL [a, b, c, d]), ()), ())) := by
    refine s2.step fun k => ?_
    rw [t_refid_Address]
    simp only [f_refid_Address_p4, fitsS_dec, Option.bind_some, Option.isNone_none, Option.isNone_some, Option.isSome_none, Option.isSome_some, Bool.not_true, Bool.not_false, cond_true, cond_false, cond_dec, beq_int, bne_int, not_dec, and_dec, cb, pd_itoa hb, i1, Int.reduceLT, Int.reduceLE, Int.reduceEq, Int.reduceGT, gt_iff_lt, if_true, if_false, ite_true, ite_false, and_self, and_true, true_and, List.length_cons, List.length_nil, List.length_append, List.length_singleton, List.nil_append, List.cons_append, Nat.reduceAdd, Nat.reduceMul, Nat.reduceLeDiff, Nat.zero_add]
  have s0 : Evn (fun k => (f_refid_Address_t k).1 ((([] : List ByteArray), ()), ((), ((a, (b, (c, (d, ())))), (((0 : Int), ()), ()))))) ((), ((strOf (addrL [a, b, c, d]), ()), ())) := by
    refine s1.step fun k => ?_
    rw [t_refid_Address]
    simp only [f_refid_Address_p4, fitsS_dec, Option.bind_some, Option.isNone_none, Option.isNone_some, Option.isSome_none, Option.isSome_some, Bool.not_true, Bool.not_false, cond_true, cond_false, cond_dec, beq_int, bne_int, not_dec, and_dec, ca, pd_itoa ha, i0, Int.reduceLT, Int.reduceLE, Int.reduceEq, Int.reduceGT, gt_iff_lt, if_true, if_false, ite_true, ite_false, and_self, and_true, true_and, List.length_cons, List.length_nil, List.length_append, List.length_singleton, List.nil_append, List.cons_append, Nat.reduceAdd, Nat.reduceMul, Nat.reduceLeDiff, Nat.zero_add]
  exact (s0.cast fun k => rfl).lim
theorem ref30_addr {a b c d : Int} (ha : 0 ≤ a ∧ a < 256) (hb : 0 ≤ b ∧ b < 256) (hc : 0 ≤ c ∧ c < 256) (hd : 0 ≤ d ∧ d < 256) :
    g_ref30_Address ((), ((a, (b, (c, (d, ())))), ())) = some ((), ((strOf (addrL [a, b, c, d]), ()), ())) := by
  have la := pd_len ha
  have lb := pd_len hb
  have lc := pd_len hc
  have ld := pd_len hd
  have e46 : (⟨#[46]⟩ : ByteArray) = strOf [46] := by kernel_rfl
  obtain ⟨i0, i1, i2, i3⟩ := iadd_lits
  have ca := iconv_i64 (show -9223372036854775808 ≤ a ∧ a ≤ 9223372036854775807 by omega)
  have cb := iconv_i64 (show -9223372036854775808 ≤ b ∧ b ≤ 9223372036854775807 by omega)
  have cc := iconv_i64 (show -9223372036854775808 ≤ c ∧ c ≤ 9223372036854775807 by omega)
  have cd := iconv_i64 (show -9223372036854775808 ≤ d ∧ d ≤ 9223372036854775807 by omega)
  have s4 : Evn (fun k => (f_ref30_Address_t k).1 (((a, (b, (c, (d, ())))), ()), ((), ((strOf (addrL [a, b, c, d]), ()), (((4 : Int), ()), ()))))) ((), ((strOf (addrL [a, b, c, d]), ()), ())) := by
    refine Evn.some 1 fun k => ?_
    rw [t_ref30_Address]
    simp only [f_ref30_Address_p4, fitsS_dec, Option.bind_some, Option.isNone_none, Option.isNone_some, Option.isSome_none, Option.isSome_some, Bool.not_true, Bool.not_false, cond_true, cond_false, cond_dec, beq_int, bne_int, not_dec, Int.reduceLT, Int.reduceLE, Int.reduceEq, Int.reduceGT, gt_iff_lt, if_true, if_false, ite_true, ite_false, and_self, and_true, true_and, List.length_cons, List.length_nil, List.length_append, List.length_singleton, List.nil_append, List.cons_append, Nat.reduceAdd, Nat.reduceMul, Nat.reduceLeDiff, Nat.zero_add]
  rw [addr_four] at s4 ⊢
  have s3 : Evn (fun k => (f_ref30_Address_t k).1 (((a, (b, (c, (d, ())))), ()), ((), ((strOf (pd1 a ++ 46 :: (pd1 b ++ 46 :: pd1 c)), ()), (((3 : Int), ()), ()))))) ((), ((strOf (pd1 a ++ 46 :: (pd1 b ++ 46 :: (pd1 c ++ 46 :: pd1 d))), ()), ())) := by
    refine s4.step fun k => ?_
    rw [t_ref30_Address]
    simp only [f_ref30_Address_p4, fitsS_dec, Option.bind_some, Option.isNone_none, Option.isNone_some, Option.isSome_none, Option.isSome_some, Bool.not_true, Bool.not_false, cond_true, cond_false, cond_dec, beq_int, bne_int, not_dec, and_dec, cd, pd_raw hd, i3, e46, str_app, str_size, Int.reduceLT, Int.reduceLE, Int.reduceEq, Int.reduceGT, gt_iff_lt, if_true, if_false, ite_true, ite_false, and_self, and_true, true_and, List.length_cons, List.length_nil, List.length_append, List.length_singleton, List.nil_append, List.cons_append, Nat.reduceAdd, Nat.reduceMul, Nat.reduceLeDiff, Nat.zero_add]
    rw [if_pos (by omega), if_pos (by omega)]
    simp only [List.append_assoc, List.cons_append, List.nil_append]
  have s2 : Evn (fun k => (f_ref30_Address_t k).1 (((a, (b, (c, (d, ())))), ()), ((), ((strOf (pd1 a ++ 46 :: pd1 b), ()), (((2 : Int), ()), ()))))) ((), ((strOf (pd1 a ++ 46 :: (pd1 b ++ 46 :: (pd1 c ++ 46 :: pd1 d))), ()), ())) := by
    refine s3.step fun k => ?_
    rw [t_ref30_Address]
    simp only [f_ref30_Address_p4, fitsS_dec, Option.bind_some, Option.isNone_none, Option.isNone_some, Option.isSome_none, Option.isSome_some, Bool.not_true, Bool.not_false, cond_true, cond_false, cond_dec, beq_int, bne_int, not_dec, and_dec, cc, pd_raw hc, i2, e46, str_app, str_size, Int.reduceLT, Int.reduceLE, Int.reduceEq, Int.reduceGT, gt_iff_lt, if_true, if_false, ite_true, ite_false, and_self, and_true, true_and, List.length_cons, List.length_nil, List.length_append, List.length_singleton, List.nil_append, List.cons_append, Nat.reduceAdd, Nat.reduceMul, Nat.reduceLeDiff, Nat.zero_add]
    rw [if_pos (by omega), if_pos (by omega)]
    simp only [List.append_assoc, List.cons_append, List.nil_append]
  have s1 : Evn (fun k => (f_ref30_Address_t k).1 (((a, (b, (c, (d, ())))), ()), ((), ((strOf (pd1 a), ()), (((1 : Int), ()), ()))))) ((), ((strOf (pd1 a ++ 46 :: (pd1 b ++ 46 :: (pd1 c ++ 46 :: pd1 d))), ()), ())) := by
    refine s2.step fun k => ?_
    rw [t_ref30_Address]
    simp only [f_ref30_Address_p4, fitsS_dec, Option.bind_some, Option.isNone_none, Option.isNone_some, Option.isSome_none, Option.isSome_some, Bool.not_true, Bool.not_false, cond_true, cond_false, cond_dec, beq_int, bne_int, not_dec, and_dec, cb, pd_raw hb, i1, e46, str_app, str_size, Int.reduceLT, Int.reduceLE, Int.reduceEq, Int.reduceGT, gt_iff_lt, if_true, if_false, ite_true, ite_false, and_self, and_true, true_and, List.length_cons, List.length_nil, List.length_append, List.length_singleton, List.nil_append, List.cons_append, Nat.reduceAdd, Nat.reduceMul, Nat.reduceLeDiff, Nat.zero_add]
    rw [if_pos (by omega), if_pos (by omega)]
    simp only [List.append_assoc, List.cons_append, List.nil_append]
  have s0 : Evn (fun k => (f_ref30_Address_t k).1 (((a, (b, (c, (d, ())))), ()), ((), ((strOf [], ()), (((0 : Int), ()), ()))))) ((), ((strOf (pd1 a ++ 46 :: (pd1 b ++ 46 :: (pd1 c ++ 46 :: pd1 d))), ()), ())) := by
    refine s1.step fun k => ?_
    rw [t_ref30_Address]
    simp only [f_ref30_Address_p4, fitsS_dec, Option.bind_some, Option.isNone_none, Option.isNone_some, Option.isSome_none, Option.isSome_some, Bool.not_true, Bool.not_false, cond_true, cond_false, cond_dec, beq_int, bne_int, not_dec, and_dec, ca, pd_raw ha, i0, e46, str_app, str_size, Int.reduceLT, Int.reduceLE, Int.reduceEq, Int.reduceGT, gt_iff_lt, if_true, if_false, ite_true, ite_false, and_self, and_true, true_and, List.length_cons, List.length_nil, List.length_append, List.length_singleton, List.nil_append, List.cons_append, Nat.reduceAdd, Nat.reduceMul, Nat.reduceLeDiff, Nat.zero_add]
    rw [if_pos (by omega)]
  refine (s0.cast fun k => ?_).lim
  simp only [f_ref30_Address_m, emp_str]
end Go.Proofs.YtodnllhjikeafaaDoor.Ev
