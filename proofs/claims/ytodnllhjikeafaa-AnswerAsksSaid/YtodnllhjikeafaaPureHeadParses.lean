/- The law HeadParses, plain. -/
import Derived.Test.YtodnllhjikeafaaPuHeadP
namespace Go.Proofs.Ytodnllhjikeafaa.Ev
open Go
set_option linter.unusedVariables false
set_option linter.unusedSimpArgs false
set_option maxRecDepth 4000
theorem ref_signed {x : Int} (h : 0 ≤ x ∧ x < 256) : g_ref28_signed ((), ((x, ()), ())) = some ((), ((i8V x, ()), ())) := by
  simp only [g_ref28_signed, f_ref28_signed_m, fitsS_dec, Option.bind_some, Option.isNone_none, Option.isNone_some, Option.isSome_none, Option.isSome_some, Bool.not_true, Bool.not_false, cond_true, cond_false, cond_dec, beq_int, bne_int, not_dec, ge_iff_le]
  unfold i8V
  by_cases c : 128 ≤ x
  · rw [if_pos c, if_neg (by omega), iconv_i64 (by omega), isub_i64 (by omega)]
  · rw [if_neg c, if_pos (by omega), iconv_i64 (by omega)]
theorem ref_step0 (c0 c1 c2 c3 c4 c5 c6 c7 r0 r1 r2 r3 c8 c9 c10 c11 q : Int) (b : List Int) (hl : 48 ≤ b.length) (hq : gd (.int .u8) b 12 = q) {o : po_ref28_Parse.den}
    (h : Evn (fun k => (f_ref28_Parse_t k).1 (((0, (0, (0, (0, (0, (0, (0, (0, (0, (0, (0, (0, (0, (0, (0, (0, ())))))))))))))))), ((c0, (c1, (c2, (c3, (c4, (c5, (c6, (c7, (q, (r1, (r2, (r3, (c8, (c9, (c10, (c11, ())))))))))))))))), ())), ((b, ()), ((), ((), ((1, ()), ())))))) o) : Evn (fun k => (f_ref28_Parse_t k).1 (((0, (0, (0, (0, (0, (0, (0, (0, (0, (0, (0, (0, (0, (0, (0, (0, ())))))))))))))))), ((c0, (c1, (c2, (c3, (c4, (c5, (c6, (c7, (r0, (r1, (r2, (r3, (c8, (c9, (c10, (c11, ())))))))))))))))), ())), ((b, ()), ((), ((), ((0, ()), ())))))) o := by
  refine Evn.step (G := fun k => (f_ref28_Parse_t k).2.1 (((0, (0, (0, (0, (0, (0, (0, (0, (0, (0, (0, (0, (0, (0, (0, (0, ())))))))))))))))), ((c0, (c1, (c2, (c3, (c4, (c5, (c6, (c7, (q, (r1, (r2, (r3, (c8, (c9, (c10, (c11, ())))))))))))))))), ())), ((b, ()), ((), ((), ((0, ()), ())))))) (Evn.step h fun k => ?_) fun k => ?_
  · rw [t_ref28_Parse]
    simp only [f_ref28_Parse_p9, fitsS_dec, Option.bind_some, Option.isNone_none, Option.isNone_some, Option.isSome_none, Option.isSome_some, Bool.not_true, Bool.not_false, cond_true, cond_false, cond_dec, beq_int, bne_int, not_dec, show iadd .i64 (0 : Int) 1 = 1 from rfl]
  · rw [t_ref28_Parse]
    simp only [f_ref28_Parse_p6, fitsS_dec, Option.bind_some, Option.isNone_none, Option.isNone_some, Option.isSome_none, Option.isSome_some, Bool.not_true, Bool.not_false, cond_true, cond_false, cond_dec, beq_int, bne_int, not_dec, and_dec, show iadd .i64 12 (0 : Int) = 12 from rfl]
    rw [if_pos (by omega), if_pos (by omega), if_pos (by omega)]
    simp only [Int.reduceEq, if_true, if_false, hq]
theorem ref_step1 (c0 c1 c2 c3 c4 c5 c6 c7 r0 r1 r2 r3 c8 c9 c10 c11 q : Int) (b : List Int) (hl : 48 ≤ b.length) (hq : gd (.int .u8) b 13 = q) {o : po_ref28_Parse.den}
    (h : Evn (fun k => (f_ref28_Parse_t k).1 (((0, (0, (0, (0, (0, (0, (0, (0, (0, (0, (0, (0, (0, (0, (0, (0, ())))))))))))))))), ((c0, (c1, (c2, (c3, (c4, (c5, (c6, (c7, (r0, (q, (r2, (r3, (c8, (c9, (c10, (c11, ())))))))))))))))), ())), ((b, ()), ((), ((), ((2, ()), ())))))) o) : Evn (fun k => (f_ref28_Parse_t k).1 (((0, (0, (0, (0, (0, (0, (0, (0, (0, (0, (0, (0, (0, (0, (0, (0, ())))))))))))))))), ((c0, (c1, (c2, (c3, (c4, (c5, (c6, (c7, (r0, (r1, (r2, (r3, (c8, (c9, (c10, (c11, ())))))))))))))))), ())), ((b, ()), ((), ((), ((1, ()), ())))))) o := by
  refine Evn.step (G := fun k => (f_ref28_Parse_t k).2.1 (((0, (0, (0, (0, (0, (0, (0, (0, (0, (0, (0, (0, (0, (0, (0, (0, ())))))))))))))))), ((c0, (c1, (c2, (c3, (c4, (c5, (c6, (c7, (r0, (q, (r2, (r3, (c8, (c9, (c10, (c11, ())))))))))))))))), ())), ((b, ()), ((), ((), ((1, ()), ())))))) (Evn.step h fun k => ?_) fun k => ?_
  · rw [t_ref28_Parse]
    simp only [f_ref28_Parse_p9, fitsS_dec, Option.bind_some, Option.isNone_none, Option.isNone_some, Option.isSome_none, Option.isSome_some, Bool.not_true, Bool.not_false, cond_true, cond_false, cond_dec, beq_int, bne_int, not_dec, show iadd .i64 (1 : Int) 1 = 2 from rfl]
  · rw [t_ref28_Parse]
    simp only [f_ref28_Parse_p6, fitsS_dec, Option.bind_some, Option.isNone_none, Option.isNone_some, Option.isSome_none, Option.isSome_some, Bool.not_true, Bool.not_false, cond_true, cond_false, cond_dec, beq_int, bne_int, not_dec, and_dec, show iadd .i64 12 (1 : Int) = 13 from rfl]
    rw [if_pos (by omega), if_pos (by omega), if_pos (by omega)]
    simp only [Int.reduceEq, if_true, if_false, hq]
theorem ref_step2 (c0 c1 c2 c3 c4 c5 c6 c7 r0 r1 r2 r3 c8 c9 c10 c11 q : Int) (b : List Int) (hl : 48 ≤ b.length) (hq : gd (.int .u8) b 14 = q) {o : po_ref28_Parse.den}
    (h : Evn (fun k => (f_ref28_Parse_t k).1 (((0, (0, (0, (0, (0, (0, (0, (0, (0, (0, (0, (0, (0, (0, (0, (0, ())))))))))))))))), ((c0, (c1, (c2, (c3, (c4, (c5, (c6, (c7, (r0, (r1, (q, (r3, (c8, (c9, (c10, (c11, ())))))))))))))))), ())), ((b, ()), ((), ((), ((3, ()), ())))))) o) : Evn (fun k => (f_ref28_Parse_t k).1 (((0, (0, (0, (0, (0, (0, (0, (0, (0, (0, (0, (0, (0, (0, (0, (0, ())))))))))))))))), ((c0, (c1, (c2, (c3, (c4, (c5, (c6, (c7, (r0, (r1, (r2, (r3, (c8, (c9, (c10, (c11, ())))))))))))))))), ())), ((b, ()), ((), ((), ((2, ()), ())))))) o := by
  refine Evn.step (G := fun k => (f_ref28_Parse_t k).2.1 (((0, (0, (0, (0, (0, (0, (0, (0, (0, (0, (0, (0, (0, (0, (0, (0, ())))))))))))))))), ((c0, (c1, (c2, (c3, (c4, (c5, (c6, (c7, (r0, (r1, (q, (r3, (c8, (c9, (c10, (c11, ())))))))))))))))), ())), ((b, ()), ((), ((), ((2, ()), ())))))) (Evn.step h fun k => ?_) fun k => ?_
  · rw [t_ref28_Parse]
    simp only [f_ref28_Parse_p9, fitsS_dec, Option.bind_some, Option.isNone_none, Option.isNone_some, Option.isSome_none, Option.isSome_some, Bool.not_true, Bool.not_false, cond_true, cond_false, cond_dec, beq_int, bne_int, not_dec, show iadd .i64 (2 : Int) 1 = 3 from rfl]
  · rw [t_ref28_Parse]
    simp only [f_ref28_Parse_p6, fitsS_dec, Option.bind_some, Option.isNone_none, Option.isNone_some, Option.isSome_none, Option.isSome_some, Bool.not_true, Bool.not_false, cond_true, cond_false, cond_dec, beq_int, bne_int, not_dec, and_dec, show iadd .i64 12 (2 : Int) = 14 from rfl]
    rw [if_pos (by omega), if_pos (by omega), if_pos (by omega)]
    simp only [Int.reduceEq, if_true, if_false, hq]
theorem ref_step3 (c0 c1 c2 c3 c4 c5 c6 c7 r0 r1 r2 r3 c8 c9 c10 c11 q : Int) (b : List Int) (hl : 48 ≤ b.length) (hq : gd (.int .u8) b 15 = q) {o : po_ref28_Parse.den}
    (h : Evn (fun k => (f_ref28_Parse_t k).1 (((0, (0, (0, (0, (0, (0, (0, (0, (0, (0, (0, (0, (0, (0, (0, (0, ())))))))))))))))), ((c0, (c1, (c2, (c3, (c4, (c5, (c6, (c7, (r0, (r1, (r2, (q, (c8, (c9, (c10, (c11, ())))))))))))))))), ())), ((b, ()), ((), ((), ((4, ()), ())))))) o) : Evn (fun k => (f_ref28_Parse_t k).1 (((0, (0, (0, (0, (0, (0, (0, (0, (0, (0, (0, (0, (0, (0, (0, (0, ())))))))))))))))), ((c0, (c1, (c2, (c3, (c4, (c5, (c6, (c7, (r0, (r1, (r2, (r3, (c8, (c9, (c10, (c11, ())))))))))))))))), ())), ((b, ()), ((), ((), ((3, ()), ())))))) o := by
  refine Evn.step (G := fun k => (f_ref28_Parse_t k).2.1 (((0, (0, (0, (0, (0, (0, (0, (0, (0, (0, (0, (0, (0, (0, (0, (0, ())))))))))))))))), ((c0, (c1, (c2, (c3, (c4, (c5, (c6, (c7, (r0, (r1, (r2, (q, (c8, (c9, (c10, (c11, ())))))))))))))))), ())), ((b, ()), ((), ((), ((3, ()), ())))))) (Evn.step h fun k => ?_) fun k => ?_
  · rw [t_ref28_Parse]
    simp only [f_ref28_Parse_p9, fitsS_dec, Option.bind_some, Option.isNone_none, Option.isNone_some, Option.isSome_none, Option.isSome_some, Bool.not_true, Bool.not_false, cond_true, cond_false, cond_dec, beq_int, bne_int, not_dec, show iadd .i64 (3 : Int) 1 = 4 from rfl]
  · rw [t_ref28_Parse]
    simp only [f_ref28_Parse_p6, fitsS_dec, Option.bind_some, Option.isNone_none, Option.isNone_some, Option.isSome_none, Option.isSome_some, Bool.not_true, Bool.not_false, cond_true, cond_false, cond_dec, beq_int, bne_int, not_dec, and_dec, show iadd .i64 12 (3 : Int) = 15 from rfl]
    rw [if_pos (by omega), if_pos (by omega), if_pos (by omega)]
    simp only [Int.reduceEq, if_true, if_false, hq]
theorem ref_parse {b : List Int} {x0 x1 x2 x3 r0 r1 r2 r3 : Int} {D P A O E T : List Int} (h : Cut48 b x0 x1 x2 x3 r0 r1 r2 r3 D P A O E T) (hs : b.length ≤ 1000000) : g_ref28_Parse ((), ((b, ()), ())) = some ((), ((x0 / 64, (x0 / 8 % 8, (x0 % 8, (x1, (i8V x2, (i8V x3, (wordv D 0, (wordv P 0, (r0, (r1, (r2, (r3, (wordv A 0, (wordv O 0, (wordv E 0, (wordv T 0, ())))))))))))))))), ())) := by
  have h48 := h.hl
  have hb := h.by_
  have cut : ∀ i j : Nat, j ≤ 48 → List.drop i (List.take j b) = List.drop i (List.take j ([x0, x1, x2, x3] ++ (D ++ (P ++ ([r0, r1, r2, r3] ++ (A ++ (O ++ (E ++ T)))))))) := fun i j hj => by
    rw [← h.eq, List.take_take, Nat.min_eq_left hj]
  have hB : bytesL (b.take 48) := fun x hx => hb x (List.mem_of_mem_take hx)
  have e := h.eq
  have all : b = ([x0, x1, x2, x3] ++ (D ++ (P ++ ([r0, r1, r2, r3] ++ (A ++ (O ++ (E ++ T))))))) ++ b.drop 48 := by rw [← e, List.take_append_drop]
  rw [e] at hB
  have hx0 := hB x0 (by simp)
  have hx1 := hB x1 (by simp)
  have hx2 := hB x2 (by simp)
  have hx3 := hB x3 (by simp)
  have bD : bytesL D := fun x hx => hB x (by simp [hx])
  have bP : bytesL P := fun x hx => hB x (by simp [hx])
  have bA : bytesL A := fun x hx => hB x (by simp [hx])
  have bO : bytesL O := fun x hx => hB x (by simp [hx])
  have bE : bytesL E := fun x hx => hB x (by simp [hx])
  have bT : bytesL T := fun x hx => hB x (by simp [hx])
  have sD : List.drop 4 (List.take 8 b) = D := by rw [cut _ _ (by decide)]; exact mid2 [x0, x1, x2, x3] D _ rfl h.hD
  have sP : List.drop 8 (List.take 12 b) = P := by
    rw [cut _ _ (by decide), ← List.append_assoc]; exact mid2 _ P _ (by simp [h.hD]) h.hP
  have sR : List.drop 12 (List.take 16 b) = [r0, r1, r2, r3] := by
    rw [cut _ _ (by decide), ← List.append_assoc, ← List.append_assoc]; exact mid2 ([x0, x1, x2, x3] ++ D ++ P) [r0, r1, r2, r3] _ (by simp [h.hD, h.hP]) rfl
  have sA : List.drop 16 (List.take 24 b) = A := by
    rw [cut _ _ (by decide), ← List.append_assoc, ← List.append_assoc, ← List.append_assoc]; exact mid2 _ A _ (by simp [h.hD, h.hP]) h.hA
  have sO : List.drop 24 (List.take 32 b) = O := by
    rw [cut _ _ (by decide), ← List.append_assoc, ← List.append_assoc, ← List.append_assoc, ← List.append_assoc]; exact mid2 _ O _ (by simp [h.hD, h.hP, h.hA]) h.hO
  have sE : List.drop 32 (List.take 40 b) = E := by
    rw [cut _ _ (by decide), ← List.append_assoc, ← List.append_assoc, ← List.append_assoc, ← List.append_assoc, ← List.append_assoc]; exact mid2 _ E _ (by simp [h.hD, h.hP, h.hA, h.hO]) h.hE
  have sT : List.drop 40 (List.take 48 b) = T := by
    rw [cut _ _ (by decide)]
    have := mid2 ([x0, x1, x2, x3] ++ D ++ P ++ [r0, r1, r2, r3] ++ A ++ O ++ E) T [] (i := 40) (by simp [h.hD, h.hP, h.hA, h.hO, h.hE]) h.hT
    simpa only [List.append_assoc, List.append_nil] using this
  have g0 : gd (.int .u8) b 0 = x0 := by rw [all]; rfl
  have g1 : gd (.int .u8) b 1 = x1 := by rw [all]; rfl
  have g2 : gd (.int .u8) b 2 = x2 := by rw [all]; rfl
  have g3 : gd (.int .u8) b 3 = x3 := by rw [all]; rfl
  have gr : ∀ i : Nat, i < 4 → gd (.int .u8) b ((12 + i : Nat) : Int) = ([r0, r1, r2, r3] : List Int).getD i 0 := fun i hi => by
    rw [← sR, gd_get (.int .u8) b _ (by omega) (by omega), List.getD_eq_getElem?_getD, List.getElem?_drop, List.getElem?_take, if_pos (by omega), List.getElem?_eq_getElem (by omega)]
    rfl
  have q0 : gd (.int .u8) b 12 = r0 := gr 0 (by decide)
  have q1 : gd (.int .u8) b 13 = r1 := gr 1 (by decide)
  have q2 : gd (.int .u8) b 14 = r2 := gr 2 (by decide)
  have q3 : gd (.int .u8) b 15 = r3 := gr 3 (by decide)
  have key : Evn (fun k => (f_ref28_Parse_t k).1 (((0, (0, (0, (0, (0, (0, (0, (0, (0, (0, (0, (0, (0, (0, (0, (0, ())))))))))))))))), ((x0 / 64, (x0 / 8 % 8, (x0 % 8, (x1, (i8V x2, (i8V x3, (wordv D 0, (wordv P 0, (0, (0, (0, (0, (0, (0, (0, (0, ())))))))))))))))), ())), ((b, ()), ((), ((), ((0, ()), ())))))) ((), ((x0 / 64, (x0 / 8 % 8, (x0 % 8, (x1, (i8V x2, (i8V x3, (wordv D 0, (wordv P 0, (r0, (r1, (r2, (r3, (wordv A 0, (wordv O 0, (wordv E 0, (wordv T 0, ())))))))))))))))), ())) := by
    refine ref_step0 (x0 / 64) (x0 / 8 % 8) (x0 % 8) (x1) (i8V x2) (i8V x3) (wordv D 0) (wordv P 0) (0) (0) (0) (0) (0) (0) (0) (0) r0 b h48 q0 ?_
    refine ref_step1 (x0 / 64) (x0 / 8 % 8) (x0 % 8) (x1) (i8V x2) (i8V x3) (wordv D 0) (wordv P 0) (r0) (0) (0) (0) (0) (0) (0) (0) r1 b h48 q1 ?_
    refine ref_step2 (x0 / 64) (x0 / 8 % 8) (x0 % 8) (x1) (i8V x2) (i8V x3) (wordv D 0) (wordv P 0) (r0) (r1) (0) (0) (0) (0) (0) (0) r2 b h48 q2 ?_
    refine ref_step3 (x0 / 64) (x0 / 8 % 8) (x0 % 8) (x1) (i8V x2) (i8V x3) (wordv D 0) (wordv P 0) (r0) (r1) (r2) (0) (0) (0) (0) (0) r3 b h48 q3 ?_
    refine Evn.some 1 fun k => ?_
    rw [t_ref28_Parse]
    simp only [f_ref28_Parse_p6, fitsS_dec, Option.bind_some, Option.isNone_none, Option.isNone_some, Option.isSome_none, Option.isSome_some, Bool.not_true, Bool.not_false, cond_true, cond_false, cond_dec, beq_int, bne_int, not_dec]
    rw [if_neg (by omega), if_pos (by omega)]
    simp only [show Int.toNat 16 = 16 from rfl, show Int.toNat 24 = 24 from rfl, show Int.toNat 32 = 32 from rfl, show Int.toNat 40 = 40 from rfl, show Int.toNat 48 = 48 from rfl, sA, sO, sE, sT]
    rw [ref03_value A bA (by have := h.hA; omega)]
    simp only [Option.bind_some]
    rw [if_pos (by omega), ref03_value O bO (by have := h.hO; omega)]
    simp only [Option.bind_some]
    rw [if_pos (by omega), ref03_value E bE (by have := h.hE; omega)]
    simp only [Option.bind_some]
    rw [if_pos (by omega), ref03_value T bT (by have := h.hT; omega)]
    rfl
  refine (key.cast fun k => ?_).lim
  simp only [f_ref28_Parse_m, g0, g1, g2, g3, ref_signed hx2, ref_signed hx3, show Int.toNat 4 = 4 from rfl, show Int.toNat 8 = 8 from rfl, show Int.toNat 12 = 12 from rfl, sD, sP, ref03_value D bD (by have := h.hD; omega), ref03_value P bP (by have := h.hP; omega), fitsS_dec, Option.bind_some, Option.isNone_none, Option.isNone_some, Option.isSome_none, Option.isSome_some, Bool.not_true, Bool.not_false, cond_true, cond_false, cond_dec, beq_int, bne_int, not_dec, and_dec]
  rw [if_pos (by omega), if_pos (by omega), if_pos (by omega), if_pos (by omega), if_pos (by omega), if_pos (by omega), if_pos (by omega), if_pos (by omega), iconv_i64 (by omega), iconv_i64 (by omega), iquo_nn (by decide) (by omega), iquo_nn (by decide) (by omega), tmod_nn (by omega), tmod_nn (by omega)]
end Go.Proofs.Ytodnllhjikeafaa.Ev
