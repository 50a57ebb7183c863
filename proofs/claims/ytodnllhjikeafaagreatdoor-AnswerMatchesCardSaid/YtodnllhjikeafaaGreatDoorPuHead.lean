/- Heads. -/
import Derived.Test.YtodnllhjikeafaaGreatDoorPuStamp
import Derived.Test.YtodnllhjikeafaaGreatDoorPuGetU8
namespace Go.Proofs.YtodnllhjikeafaaGreatDoor.Ev
open Go
set_option linter.unusedVariables false
set_option linter.unusedSimpArgs false
theorem ishr32 {x : Int} (h : u64 x) : ishr .u64 x 32 = x / 4294967296 := by
  unfold ishr
  rw [show min (32 : Int).toNat (IntKind.bits .u64) = 32 from rfl, show ((2 : Int) ^ 32) = 4294967296 from rfl, Int.fdiv_eq_ediv_of_nonneg _ (by decide)]
theorem head_in (x m : Int) : g_head_in ((), ((x, ()), ((m, ()), ()))) = some ((), ((decide (0 ≤ x ∧ x ≤ m), ()), ())) := by
  simp only [g_head_in, f_head_in_m, fitsS_dec, Option.bind_some, Option.isNone_none, Option.isNone_some, Option.isSome_none, Option.isSome_some, Bool.not_true, Bool.not_false, cond_true, cond_false, cond_dec, beq_int, bne_int, not_dec, ge_iff_le]
  by_cases h : 0 ≤ x
  · rw [if_pos h]; congr 4; simp only [decide_eq_decide]; omega
  · rw [if_neg h, decide_eq_false (by omega)]
theorem head_check (le v m st po pr d1 d2 p1 p2 r0 r1 r2 r3 a1 a2 o1 o2 e1 e2 t1 t2 : Int) : g_head_Check ((), ((le, (v, (m, (st, (po, (pr, (d1, (d2, (p1, (p2, (r0, (r1, (r2, (r3, (a1, (a2, (o1, (o2, (e1, (e2, (t1, (t2, ())))))))))))))))))))))), ())) = some ((), ((if 0 ≤ le ∧ le ≤ 3 ∧ 0 ≤ v ∧ v ≤ 7 ∧ 0 ≤ m ∧ m ≤ 7 then none else some 1, ()), ())) := by
  simp only [g_head_Check, f_head_Check_m, head_in, fitsS_dec, Option.bind_some, Option.isNone_none, Option.isNone_some, Option.isSome_none, Option.isSome_some, Bool.not_true, Bool.not_false, cond_true, cond_false, cond_dec, beq_int, bne_int, not_dec]
  by_cases h1 : 0 ≤ le ∧ le ≤ 3
  · rw [if_neg (not_not_intro h1)]
    by_cases h2 : 0 ≤ v ∧ v ≤ 7
    · rw [if_neg (not_not_intro h2)]
      by_cases h3 : 0 ≤ m ∧ m ≤ 7
      · rw [if_neg (not_not_intro h3), if_pos (by omega)]
      · rw [if_pos h3, if_neg (by omega)]
    · rw [if_pos h2, if_neg (by omega)]
  · rw [if_pos h1, if_neg (by omega)]
theorem first_byte (le v m : Int) (h : 0 ≤ le ∧ le ≤ 3 ∧ 0 ≤ v ∧ v ≤ 7 ∧ 0 ≤ m ∧ m ≤ 7) : iconv .u8 (ior .i64 (ior .i64 (ishl .i64 le 6) (ishl .i64 v 3)) m) = le * 64 + v * 8 + m := by
  have : ∀ (a : Fin 4) (b : Fin 8) (c : Fin 8), iconv .u8 (ior .i64 (ior .i64 (ishl .i64 ((a.val : Nat) : Int) 6) (ishl .i64 ((b.val : Nat) : Int) 3)) ((c.val : Nat) : Int)) = ((a.val : Nat) : Int) * 64 + ((b.val : Nat) : Int) * 8 + ((c.val : Nat) : Int) := by decide +kernel
  have e := this ⟨le.toNat, by omega⟩ ⟨v.toNat, by omega⟩ ⟨m.toNat, by omega⟩
  simpa only [Int.toNat_of_nonneg (show 0 ≤ le by omega), Int.toNat_of_nonneg (show 0 ≤ v by omega), Int.toNat_of_nonneg (show 0 ≤ m by omega)] using e
theorem put_step0 (out : List Int) (a1 a2 o1 o2 e1 e2 t1 t2 : Int) (h1 : u32 a1) (h2 : u32 a2) (hl : out.length ≤ 1000) {o : po_head_Put.den}
    (h : Evn (fun k => (f_head_Put_t k).1 ((out ++ be (a1 * 4294967296 + a2) 8, ()), ((), ((some (a1, a2), (some (o1, o2), (some (e1, e2), (some (t1, t2), ())))), ((1, ()), ()))))) o) :
    Evn (fun k => (f_head_Put_t k).1 ((out, ()), ((), ((some (a1, a2), (some (o1, o2), (some (e1, e2), (some (t1, t2), ())))), ((0, ()), ()))))) o := by
  refine h.step fun k => ?_
  rw [t_head_Put]
  simp only [f_head_Put_p10, fitsS_dec, Option.bind_some, Option.isNone_none, Option.isNone_some, Option.isSome_none, Option.isSome_some, Bool.not_true, Bool.not_false, cond_true, cond_false, cond_dec, beq_int, bne_int, not_dec, and_dec]
  rw [if_pos (by omega), if_pos (by omega)]
  simp only [Int.reduceEq, if_true, if_false, stamp_bytes a1 a2 h1 h2, Option.bind_some, length_be, cond_dec, and_dec]
  rw [if_pos (by omega)]
  rfl
theorem put_step1 (out : List Int) (a1 a2 o1 o2 e1 e2 t1 t2 : Int) (h1 : u32 o1) (h2 : u32 o2) (hl : out.length ≤ 1000) {o : po_head_Put.den}
    (h : Evn (fun k => (f_head_Put_t k).1 ((out ++ be (o1 * 4294967296 + o2) 8, ()), ((), ((some (a1, a2), (some (o1, o2), (some (e1, e2), (some (t1, t2), ())))), ((2, ()), ()))))) o) :
    Evn (fun k => (f_head_Put_t k).1 ((out, ()), ((), ((some (a1, a2), (some (o1, o2), (some (e1, e2), (some (t1, t2), ())))), ((1, ()), ()))))) o := by
  refine h.step fun k => ?_
  rw [t_head_Put]
  simp only [f_head_Put_p10, fitsS_dec, Option.bind_some, Option.isNone_none, Option.isNone_some, Option.isSome_none, Option.isSome_some, Bool.not_true, Bool.not_false, cond_true, cond_false, cond_dec, beq_int, bne_int, not_dec, and_dec]
  rw [if_pos (by omega), if_pos (by omega)]
  simp only [Int.reduceEq, if_true, if_false, stamp_bytes o1 o2 h1 h2, Option.bind_some, length_be, cond_dec, and_dec]
  rw [if_pos (by omega)]
  rfl
theorem put_step2 (out : List Int) (a1 a2 o1 o2 e1 e2 t1 t2 : Int) (h1 : u32 e1) (h2 : u32 e2) (hl : out.length ≤ 1000) {o : po_head_Put.den}
    (h : Evn (fun k => (f_head_Put_t k).1 ((out ++ be (e1 * 4294967296 + e2) 8, ()), ((), ((some (a1, a2), (some (o1, o2), (some (e1, e2), (some (t1, t2), ())))), ((3, ()), ()))))) o) :
    Evn (fun k => (f_head_Put_t k).1 ((out, ()), ((), ((some (a1, a2), (some (o1, o2), (some (e1, e2), (some (t1, t2), ())))), ((2, ()), ()))))) o := by
  refine h.step fun k => ?_
  rw [t_head_Put]
  simp only [f_head_Put_p10, fitsS_dec, Option.bind_some, Option.isNone_none, Option.isNone_some, Option.isSome_none, Option.isSome_some, Bool.not_true, Bool.not_false, cond_true, cond_false, cond_dec, beq_int, bne_int, not_dec, and_dec]
  rw [if_pos (by omega), if_pos (by omega)]
  simp only [Int.reduceEq, if_true, if_false, stamp_bytes e1 e2 h1 h2, Option.bind_some, length_be, cond_dec, and_dec]
  rw [if_pos (by omega)]
  rfl
theorem put_step3 (out : List Int) (a1 a2 o1 o2 e1 e2 t1 t2 : Int) (h1 : u32 t1) (h2 : u32 t2) (hl : out.length ≤ 1000) {o : po_head_Put.den}
    (h : Evn (fun k => (f_head_Put_t k).1 ((out ++ be (t1 * 4294967296 + t2) 8, ()), ((), ((some (a1, a2), (some (o1, o2), (some (e1, e2), (some (t1, t2), ())))), ((4, ()), ()))))) o) :
    Evn (fun k => (f_head_Put_t k).1 ((out, ()), ((), ((some (a1, a2), (some (o1, o2), (some (e1, e2), (some (t1, t2), ())))), ((3, ()), ()))))) o := by
  refine h.step fun k => ?_
  rw [t_head_Put]
  simp only [f_head_Put_p10, fitsS_dec, Option.bind_some, Option.isNone_none, Option.isNone_some, Option.isSome_none, Option.isSome_some, Bool.not_true, Bool.not_false, cond_true, cond_false, cond_dec, beq_int, bne_int, not_dec, and_dec]
  rw [if_pos (by omega), if_pos (by omega)]
  simp only [Int.reduceEq, if_true, if_false, stamp_bytes t1 t2 h1 h2, Option.bind_some, length_be, cond_dec, and_dec]
  rw [if_pos (by omega)]
  rfl
theorem head_put (le v m st po pr d1 d2 p1 p2 r0 r1 r2 r3 a1 a2 o1 o2 e1 e2 t1 t2 : Int) (h : 0 ≤ le ∧ le ≤ 3 ∧ 0 ≤ v ∧ v ≤ 7 ∧ 0 ≤ m ∧ m ≤ 7) (hst : 0 ≤ st ∧ st < 256) (hd1 : u16 d1) (hd2 : u16 d2) (hp1 : u16 p1) (hp2 : u16 p2) (ha1 : u32 a1) (ha2 : u32 a2) (ho1 : u32 o1) (ho2 : u32 o2) (he1 : u32 e1) (he2 : u32 e2) (ht1 : u32 t1) (ht2 : u32 t2) :
    g_head_Put ((), ((le, (v, (m, (st, (po, (pr, (d1, (d2, (p1, (p2, (r0, (r1, (r2, (r3, (a1, (a2, (o1, (o2, (e1, (e2, (t1, (t2, ())))))))))))))))))))))), ())) = some (([le * 64 + v * 8 + m, st, po % 256, pr % 256] ++ be (d1 * 65536 + d2) 4 ++ be (p1 * 65536 + p2) 4 ++ [r0, r1, r2, r3] ++ be (a1 * 4294967296 + a2) 8 ++ be (o1 * 4294967296 + o2) 8 ++ be (e1 * 4294967296 + e2) 8 ++ be (t1 * 4294967296 + t2) 8, ()), ((), ((none, ()), ()))) := by
  have key : Evn (fun k => (f_head_Put_t k).1 (([le * 64 + v * 8 + m, st, po % 256, pr % 256] ++ be (d1 * 65536 + d2) 4 ++ be (p1 * 65536 + p2) 4 ++ [r0, r1, r2, r3], ()), ((), ((some (a1, a2), (some (o1, o2), (some (e1, e2), (some (t1, t2), ())))), ((0, ()), ())))))
      (([le * 64 + v * 8 + m, st, po % 256, pr % 256] ++ be (d1 * 65536 + d2) 4 ++ be (p1 * 65536 + p2) 4 ++ [r0, r1, r2, r3] ++ be (a1 * 4294967296 + a2) 8 ++ be (o1 * 4294967296 + o2) 8 ++ be (e1 * 4294967296 + e2) 8 ++ be (t1 * 4294967296 + t2) 8, ()), ((), ((none, ()), ()))) := by
    refine put_step0 _ a1 a2 o1 o2 e1 e2 t1 t2 ha1 ha2 (by simp [length_be]) ?_
    refine put_step1 _ a1 a2 o1 o2 e1 e2 t1 t2 ho1 ho2 (by simp [length_be]) ?_
    refine put_step2 _ a1 a2 o1 o2 e1 e2 t1 t2 he1 he2 (by simp [length_be]) ?_
    refine put_step3 _ a1 a2 o1 o2 e1 e2 t1 t2 ht1 ht2 (by simp [length_be]) ?_
    refine Evn.some 1 fun k => ?_
    rw [t_head_Put]
    simp only [f_head_Put_p10, fitsS_dec, Option.bind_some, Option.isNone_none, Option.isNone_some, Option.isSome_none, Option.isSome_some, Bool.not_true, Bool.not_false, cond_true, cond_false, cond_dec, beq_int, bne_int, not_dec]
    rw [if_neg (by omega)]
  refine (key.cast fun k => ?_).lim
  simp only [f_head_Put_m, head_check, fitsS_dec, Option.bind_some, Option.isNone_none, Option.isNone_some, Option.isSome_none, Option.isSome_some, Bool.not_true, Bool.not_false, cond_true, cond_false, cond_dec, beq_int, bne_int, not_dec, and_dec]
  rw [if_pos h]
  simp only [fitsS_dec, Option.bind_some, Option.isNone_none, Option.isNone_some, Option.isSome_none, Option.isSome_some, Bool.not_true, Bool.not_false, cond_true, cond_false, cond_dec, beq_int, bne_int, not_dec, stamp_shortBytes d1 d2 hd1 hd2, stamp_shortBytes p1 p2 hp1 hp2, first_byte le v m h, iconv_u8, List.length_append, List.length_cons, List.length_nil, length_be]
  rw [if_pos (by decide), if_pos (by decide), if_pos (by decide)]
  simp only [g_head_Head_longs, f_head_Head_longs_m, Option.bind_some]
theorem head_put_bad (le v m st po pr d1 d2 p1 p2 r0 r1 r2 r3 a1 a2 o1 o2 e1 e2 t1 t2 : Int) (h : ¬ (0 ≤ le ∧ le ≤ 3 ∧ 0 ≤ v ∧ v ≤ 7 ∧ 0 ≤ m ∧ m ≤ 7)) : g_head_Put ((), ((le, (v, (m, (st, (po, (pr, (d1, (d2, (p1, (p2, (r0, (r1, (r2, (r3, (a1, (a2, (o1, (o2, (e1, (e2, (t1, (t2, ())))))))))))))))))))))), ())) = some (([], ()), ((), ((some 1, ()), ()))) := by
  refine (Evn.const fun k => ?_).lim
  simp only [f_head_Put_m, head_check, fitsS_dec, Option.bind_some, Option.isNone_none, Option.isNone_some, Option.isSome_none, Option.isSome_some, Bool.not_true, Bool.not_false, cond_true, cond_false, cond_dec, beq_int, bne_int, not_dec]
  rw [if_neg h]; rfl
theorem first_of (x : Int) (hx : 0 ≤ x ∧ x < 256) (l : List Int) (hl : bytesL l) (hn : l.length ≤ 100000) : g_head_First ((), ((x :: l, ()), ())) = some ((), ((x / 64, ()), ((x / 8 % 8, ()), ((x % 8, ()), ((none, ()), ()))))) := by
  have hb : bytesL (x :: l) := fun y hy => by rcases List.mem_cons.1 hy with rfl | hy; exact hx; exact hl y hy
  have hg := get_u8 (x :: l) hb (by simp only [List.length_cons]; omega) 0
  rw [if_neg (by simp only [List.length_cons]; omega), if_neg (by simp only [List.length_cons]; omega)] at hg
  have e : (List.take ((0 : Int).toNat + 1) (x :: l)).drop (0 : Int).toNat = [x] := rfl
  have w : wordv [x] 0 = x := by show (0 * 256 + x) % 18446744073709551616 = x; omega
  rw [e, w, iconv_u8, Int.emod_eq_of_lt hx.1 hx.2] at hg
  simp only [g_head_First, f_head_First_m, hg, fitsS_dec, Option.bind_some, Option.isNone_none, Option.isNone_some, Option.isSome_none, Option.isSome_some, Bool.not_true, Bool.not_false, cond_true, cond_false, cond_dec, beq_int, bne_int, not_dec]
  have : ∀ a : Fin 256, iconv .i64 (ishr .u8 ((a.val : Nat) : Int) 6) = ((a.val : Nat) : Int) / 64 ∧ iconv .i64 (iand .u8 (ishr .u8 ((a.val : Nat) : Int) 3) 7) = ((a.val : Nat) : Int) / 8 % 8 ∧ iconv .i64 (iand .u8 ((a.val : Nat) : Int) 7) = ((a.val : Nat) : Int) % 8 := by decide +kernel
  have q := this ⟨x.toNat, by omega⟩
  simp only [Int.toNat_of_nonneg hx.1] at q
  rw [q.1, q.2.1, q.2.2]
end Go.Proofs.YtodnllhjikeafaaGreatDoor.Ev
