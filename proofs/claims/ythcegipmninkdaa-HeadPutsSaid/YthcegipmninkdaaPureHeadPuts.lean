/- The law HeadPuts, plain. -/
import Derived.Test.YthcegipmninkdaaPuHead
namespace Go.Proofs.Ythcegipmninkdaa.Ev
open Go
set_option linter.unusedVariables false
set_option linter.unusedSimpArgs false
theorem ref_check (le v m st po pr a b r0 r1 r2 r3 w x y z : Int) : g_ref28_Check ((), ((le, (v, (m, (st, (po, (pr, (a, (b, (r0, (r1, (r2, (r3, (w, (x, (y, (z, ())))))))))))))))), ())) = some ((), ((if 0 ≤ le ∧ le ≤ 3 ∧ 0 ≤ v ∧ v ≤ 7 ∧ 0 ≤ m ∧ m ≤ 7 then 0 else 1, ()), ())) := by
  simp only [g_ref28_Check, f_ref28_Check_m, fitsS_dec, Option.bind_some, Option.isNone_none, Option.isNone_some, Option.isSome_none, Option.isSome_some, Bool.not_true, Bool.not_false, cond_true, cond_false, cond_dec, beq_int, bne_int, not_dec, gt_iff_lt]
  by_cases h1 : le < 0
  · rw [if_pos h1, if_neg (by omega)]
  by_cases h2 : 3 < le
  · rw [if_neg h1, if_pos h2, if_neg (by omega)]
  by_cases h3 : v < 0
  · rw [if_neg h1, if_neg h2, if_pos h3, if_neg (by omega)]
  by_cases h4 : 7 < v
  · rw [if_neg h1, if_neg h2, if_neg h3, if_pos h4, if_neg (by omega)]
  by_cases h5 : m < 0
  · rw [if_neg h1, if_neg h2, if_neg h3, if_neg h4, if_pos h5, if_neg (by omega)]
  by_cases h6 : 7 < m
  · rw [if_neg h1, if_neg h2, if_neg h3, if_neg h4, if_neg h5, if_pos h6, if_neg (by omega)]
  rw [if_neg h1, if_neg h2, if_neg h3, if_neg h4, if_neg h5, if_neg h6, if_pos (by omega)]
theorem ref_put_step (out ws : List Int) (hw : ∀ w ∈ ws, 0 ≤ w ∧ w < 18446744073709551616) (hn : ws.length ≤ 100) (hl : out.length ≤ 1000) (i : Nat) (hi : i < ws.length) {o : po_ref28_Put.den}
    (h : Evn (fun k => (f_ref28_Put_t k).1 ((out ++ be (ws[i]) 8, (ws, ())), ((), ((), (((ws.length : Int), ()), ((((i + 1 : Nat) : Int), ()), ())))))) o) :
    Evn (fun k => (f_ref28_Put_t k).1 ((out, (ws, ())), ((), ((), (((ws.length : Int), ()), (((i : Int), ()), ())))))) o := by
  refine h.step fun k => ?_
  rw [t_ref28_Put]
  have n8 := ref03_number (ws[i]) 8 (hw _ (List.getElem_mem hi)) (by decide)
  rw [show ((8 : Nat) : Int) = 8 from rfl] at n8
  simp only [f_ref28_Put_p7, fitsS_dec, Option.bind_some, Option.isNone_none, Option.isNone_some, Option.isSome_none, Option.isSome_some, Bool.not_true, Bool.not_false, cond_true, cond_false, cond_dec, beq_int, bne_int, not_dec, and_dec]
  rw [if_pos (by omega), if_pos (by omega), gd_get (.int .u64) ws (i : Int) (by omega) (by omega)]
  simp only [Int.toNat_natCast]
  rw [n8]
  simp only [fitsS_dec, Option.bind_some, Option.isNone_none, Option.isNone_some, Option.isSome_none, Option.isSome_some, Bool.not_true, Bool.not_false, cond_true, cond_false, cond_dec, beq_int, bne_int, not_dec, length_be]
  rw [if_pos (by omega), iadd_i64 (by omega)]
  rfl
theorem ref_put (le v m st po pr d1 d2 p1 p2 r0 r1 r2 r3 a1 a2 o1 o2 e1 e2 t1 t2 : Int) (h : 0 ≤ le ∧ le ≤ 3 ∧ 0 ≤ v ∧ v ≤ 7 ∧ 0 ≤ m ∧ m ≤ 7) (hle : i64 le) (hv : i64 v) (hm : i64 m) (hst : 0 ≤ st ∧ st < 256) (hpo : -128 ≤ po ∧ po ≤ 127) (hpr : -128 ≤ pr ∧ pr ≤ 127) (hd1 : u16 d1) (hd2 : u16 d2) (hp1 : u16 p1) (hp2 : u16 p2) (ha1 : u32 a1) (ha2 : u32 a2) (ho1 : u32 o1) (ho2 : u32 o2) (he1 : u32 e1) (he2 : u32 e2) (ht1 : u32 t1) (ht2 : u32 t2) :
    g_ref28_Put ((), ((le, (v, (m, (st, (po, (pr, ((d1 * 65536 + d2), ((p1 * 65536 + p2), (r0, (r1, (r2, (r3, ((a1 * 4294967296 + a2), ((o1 * 4294967296 + o2), ((e1 * 4294967296 + e2), ((t1 * 4294967296 + t2), ())))))))))))))))), ())) = some (([le * 64 + v * 8 + m, st, po % 256, pr % 256] ++ be (d1 * 65536 + d2) 4 ++ be (p1 * 65536 + p2) 4 ++ [r0, r1, r2, r3] ++ be (a1 * 4294967296 + a2) 8 ++ be (o1 * 4294967296 + o2) 8 ++ be (e1 * 4294967296 + e2) 8 ++ be (t1 * 4294967296 + t2) 8, ()), ((), ())) := by
  have hw : ∀ w ∈ ([a1 * 4294967296 + a2, o1 * 4294967296 + o2, e1 * 4294967296 + e2, t1 * 4294967296 + t2] : List Int), 0 ≤ w ∧ w < 18446744073709551616 := by
    unfold u32 at *
    intro w hw
    simp only [List.mem_cons, List.not_mem_nil, or_false] at hw
    rcases hw with rfl | rfl | rfl | rfl <;> omega
  have key : Evn (fun k => (f_ref28_Put_t k).1 (([le * 64 + v * 8 + m, st, po % 256, pr % 256] ++ be (d1 * 65536 + d2) 4 ++ be (p1 * 65536 + p2) 4 ++ [r0, r1, r2, r3], ([a1 * 4294967296 + a2, o1 * 4294967296 + o2, e1 * 4294967296 + e2, t1 * 4294967296 + t2], ())), ((), ((), ((((([a1 * 4294967296 + a2, o1 * 4294967296 + o2, e1 * 4294967296 + e2, t1 * 4294967296 + t2] : List Int).length : Nat) : Int), ()), ((((0 : Nat) : Int), ()), ()))))))
      (([le * 64 + v * 8 + m, st, po % 256, pr % 256] ++ be (d1 * 65536 + d2) 4 ++ be (p1 * 65536 + p2) 4 ++ [r0, r1, r2, r3] ++ be (a1 * 4294967296 + a2) 8 ++ be (o1 * 4294967296 + o2) 8 ++ be (e1 * 4294967296 + e2) 8 ++ be (t1 * 4294967296 + t2) 8, ()), ((), ())) := by
    refine ref_put_step _ _ hw (show (4 : Nat) ≤ 100 by omega) (by simp [length_be]) 0 (by simp) ?_
    refine ref_put_step _ _ hw (show (4 : Nat) ≤ 100 by omega) (by simp [length_be]) 1 (by simp) ?_
    refine ref_put_step _ _ hw (show (4 : Nat) ≤ 100 by omega) (by simp [length_be]) 2 (by simp) ?_
    refine ref_put_step _ _ hw (show (4 : Nat) ≤ 100 by omega) (by simp [length_be]) 3 (by simp) ?_
    refine Evn.some 1 fun k => ?_
    rw [t_ref28_Put]
    simp only [f_ref28_Put_p7, fitsS_dec, Option.bind_some, Option.isNone_none, Option.isNone_some, Option.isSome_none, Option.isSome_some, Bool.not_true, Bool.not_false, cond_true, cond_false, cond_dec, beq_int, bne_int, not_dec]
    rw [if_neg (by simp only [List.length_cons, List.length_nil]; omega)]
    rfl
  refine (key.cast fun k => ?_).lim
  have n1 := ref03_number (d1 * 65536 + d2) 4 (by unfold u16 at *; omega) (by decide)
  have n2 := ref03_number (p1 * 65536 + p2) 4 (by unfold u16 at *; omega) (by decide)
  rw [show ((4 : Nat) : Int) = 4 from rfl] at n1 n2
  simp only [f_ref28_Put_m, n1, n2, fitsS_dec, Option.bind_some, Option.isNone_none, Option.isNone_some, Option.isSome_none, Option.isSome_some, Bool.not_true, Bool.not_false, cond_true, cond_false, cond_dec, beq_int, bne_int, not_dec, and_dec, List.length_append, List.length_cons, List.length_nil, length_be]
  rw [if_pos (by decide), if_pos (by decide), if_pos (by decide), show imul .i64 le 64 = le * 64 from imul_i64 (by omega), show imul .i64 v 8 = v * 8 from imul_i64 (by omega), show iadd .i64 (le * 64) (v * 8) = le * 64 + v * 8 from iadd_i64 (by omega), iadd_i64 (by omega), iconv_u8, iconv_u8, iconv_u8, iconv_u8,
    Int.emod_eq_of_lt (a := le * 64 + v * 8 + m) (by omega) (by omega), Int.emod_eq_of_lt (a := st) hst.1 hst.2]
  rfl
theorem head_puts (le v m st po pr d1 d2 p1 p2 r0 r1 r2 r3 a1 a2 o1 o2 e1 e2 t1 t2 : Int) (hle : i64 le) (hv : i64 v) (hm : i64 m) (hst : 0 ≤ st ∧ st < 256) (hpo : -128 ≤ po ∧ po ≤ 127) (hpr : -128 ≤ pr ∧ pr ≤ 127) (hd1 : u16 d1) (hd2 : u16 d2) (hp1 : u16 p1) (hp2 : u16 p2) (ha1 : u32 a1) (ha2 : u32 a2) (ho1 : u32 o1) (ho2 : u32 o2) (he1 : u32 e1) (he2 : u32 e2) (ht1 : u32 t1) (ht2 : u32 t2) : g_law28_HeadPuts ((), ((le, (v, (m, (st, (po, (pr, (d1, (d2, (p1, (p2, (r0, (r1, (r2, (r3, (a1, (a2, (o1, (o2, (e1, (e2, (t1, (t2, ())))))))))))))))))))))), ())) = some ((), ((true, ()), ())) := by
  have hd := document le v m st po pr d1 d2 p1 p2 r0 r1 r2 r3 a1 a2 o1 o2 e1 e2 t1 t2 hpo hpr hst hd1 hd2 hp1 hp2 ha1 ha2 ho1 ho2 he1 he2 ht1 ht2
  simp only [g_law28_HeadPuts, f_law28_HeadPuts_m, head_alive, hd, head_check, ref_check, fitsS_dec, Option.bind_some, Option.isNone_none, Option.isNone_some, Option.isSome_none, Option.isSome_some, Bool.not_true, Bool.not_false, cond_true, cond_false, cond_dec, beq_int, bne_int, not_dec, not_true_eq_false, if_false]
  by_cases h : 0 ≤ le ∧ le ≤ 3 ∧ 0 ≤ v ∧ v ≤ 7 ∧ 0 ≤ m ∧ m ≤ 7
  · simp only [if_pos h]
    have hp := head_put le v m st po pr d1 d2 p1 p2 r0 r1 r2 r3 a1 a2 o1 o2 e1 e2 t1 t2 h hst hd1 hd2 hp1 hp2 ha1 ha2 ho1 ho2 he1 he2 ht1 ht2
    have hr := ref_put le v m st po pr d1 d2 p1 p2 r0 r1 r2 r3 a1 a2 o1 o2 e1 e2 t1 t2 h hle hv hm hst hpo hpr hd1 hd2 hp1 hp2 ha1 ha2 ho1 ho2 he1 he2 ht1 ht2
    have n0 : g_hnum_Num ((), ((none, ()), ())) = some ((), ((0, ()), ())) := rfl
    simp only [hp, hr, n0, bytes_same, fitsS_dec, Option.bind_some, Option.isNone_none, Option.isNone_some, Option.isSome_none, Option.isSome_some, Bool.not_true, Bool.not_false, cond_true, cond_false, cond_dec, beq_int, bne_int, not_dec, ne_eq, not_true_eq_false, if_false]
    first | done | simp
  · simp only [if_neg h]
    have hp := head_put_bad le v m st po pr d1 d2 p1 p2 r0 r1 r2 r3 a1 a2 o1 o2 e1 e2 t1 t2 h
    have n1 : g_hnum_Num ((), ((some 1, ()), ())) = some ((), ((1, ()), ())) := rfl
    simp only [hp, n1, fitsS_dec, Option.bind_some, Option.isNone_none, Option.isNone_some, Option.isSome_none, Option.isSome_some, Bool.not_true, Bool.not_false, cond_true, cond_false, cond_dec, beq_int, bne_int, not_dec, ne_eq, not_true_eq_false, if_false]
    first | done | simp
theorem head_puts_all {B : Nat} (le v m st po pr d1 d2 p1 p2 r0 r1 r2 r3 a1 a2 o1 o2 e1 e2 t1 t2 : Int) (f0 : ArgOk B (.int .i64) le) (f1 : ArgOk B (.int .i64) v) (f2 : ArgOk B (.int .i64) m) (f3 : ArgOk B (.int .u8) st) (f4 : ArgOk B (.int .i8) po) (f5 : ArgOk B (.int .i8) pr) (f6 : ArgOk B (.int .u16) d1) (f7 : ArgOk B (.int .u16) d2) (f8 : ArgOk B (.int .u16) p1) (f9 : ArgOk B (.int .u16) p2) (f10 : ArgOk B (.int .u8) r0) (f11 : ArgOk B (.int .u8) r1) (f12 : ArgOk B (.int .u8) r2) (f13 : ArgOk B (.int .u8) r3) (f14 : ArgOk B (.int .u32) a1) (f15 : ArgOk B (.int .u32) a2) (f16 : ArgOk B (.int .u32) o1) (f17 : ArgOk B (.int .u32) o2) (f18 : ArgOk B (.int .u32) e1) (f19 : ArgOk B (.int .u32) e2) (f20 : ArgOk B (.int .u32) t1) (f21 : ArgOk B (.int .u32) t2) : g_law28_HeadPuts ((), ((le, (v, (m, (st, (po, (pr, (d1, (d2, (p1, (p2, (r0, (r1, (r2, (r3, (a1, (a2, (o1, (o2, (e1, (e2, (t1, (t2, ())))))))))))))))))))))), ())) = some ((), ((true, ()), ())) := head_puts le v m st po pr d1 d2 p1 p2 r0 r1 r2 r3 a1 a2 o1 o2 e1 e2 t1 t2 f0 f1 f2 (arg_u8 f3) f4 f5 (arg_u16 f6) (arg_u16 f7) (arg_u16 f8) (arg_u16 f9) (arg_u32 f14) (arg_u32 f15) (arg_u32 f16) (arg_u32 f17) (arg_u32 f18) (arg_u32 f19) (arg_u32 f20) (arg_u32 f21)
end Go.Proofs.Ythcegipmninkdaa.Ev
