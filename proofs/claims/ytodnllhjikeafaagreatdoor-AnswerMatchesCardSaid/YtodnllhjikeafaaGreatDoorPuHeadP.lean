/- Heads parsed. -/
import Derived.Test.YtodnllhjikeafaaGreatDoorPuHead
import Derived.Test.YtodnllhjikeafaaGreatDoorPuOctCut
namespace Go.Proofs.YtodnllhjikeafaaGreatDoor.Ev
open Go
set_option linter.unusedVariables false
set_option linter.unusedSimpArgs false
set_option maxRecDepth 4000
def i8V (x : Int) : Int := if x < 128 then x else x - 256
theorem iconv_i8 {x : Int} (h : 0 ≤ x ∧ x < 256) : iconv .i8 x = i8V x := by
  have : ∀ a : Fin 256, iconv .i8 ((a.val : Nat) : Int) = i8V ((a.val : Nat) : Int) := by decide +kernel
  have q := this ⟨x.toNat, by omega⟩
  simpa only [Int.toNat_of_nonneg h.1] using q
theorem i8_range {x : Int} (h : 0 ≤ x ∧ x < 256) : -128 ≤ i8V x ∧ i8V x ≤ 127 ∧ i8V x % 256 = x := by unfold i8V; split <;> omega
theorem i8_back {x : Int} (h : -128 ≤ x ∧ x ≤ 127) : i8V (x % 256) = x := by unfold i8V; split <;> omega
theorem mid2 (a x c : List Int) {i j : Nat} (ha : a.length = i) (hx : x.length = j) : List.drop i (List.take (i + j) (a ++ (x ++ c))) = x := by
  rw [← List.append_assoc, List.take_left' (by rw [List.length_append, ha, hx]), List.drop_left' ha]
theorem parse_step0 (le v m st po pr d1 d2 p1 p2 r0 r1 r2 r3 a1 a2 o1 o2 e1 e2 t1 t2 : Int) (B A : List Int) (hl : B.length = 48) (hsl : List.drop 16 (List.take 24 B) = A) (hA : bytesL A) (hAl : A.length = 8) {o : po_head_Parse.den}
    (h : Evn (fun k => (f_head_Parse_t k).1 (((0, (0, (0, (0, (0, (0, (0, (0, (0, (0, (0, (0, (0, (0, (0, (0, (0, (0, (0, (0, (0, (0, ())))))))))))))))))))))), ((le, (v, (m, (st, (po, (pr, (d1, (d2, (p1, (p2, (r0, (r1, (r2, (r3, (wordv A 0 / 4294967296, (wordv A 0 % 4294967296, (o1, (o2, (e1, (e2, (t1, (t2, ())))))))))))))))))))))), ())), ((), ((B, ()), ((), ((), ((1, ()), ()))))))) o) : Evn (fun k => (f_head_Parse_t k).1 (((0, (0, (0, (0, (0, (0, (0, (0, (0, (0, (0, (0, (0, (0, (0, (0, (0, (0, (0, (0, (0, (0, ())))))))))))))))))))))), ((le, (v, (m, (st, (po, (pr, (d1, (d2, (p1, (p2, (r0, (r1, (r2, (r3, (a1, (a2, (o1, (o2, (e1, (e2, (t1, (t2, ())))))))))))))))))))))), ())), ((), ((B, ()), ((), ((), ((0, ()), ()))))))) o := by
  refine Evn.step (G := fun k => (f_head_Parse_t k).2.1 (((0, (0, (0, (0, (0, (0, (0, (0, (0, (0, (0, (0, (0, (0, (0, (0, (0, (0, (0, (0, (0, (0, ())))))))))))))))))))))), ((le, (v, (m, (st, (po, (pr, (d1, (d2, (p1, (p2, (r0, (r1, (r2, (r3, (wordv A 0 / 4294967296, (wordv A 0 % 4294967296, (o1, (o2, (e1, (e2, (t1, (t2, ())))))))))))))))))))))), ())), ((), ((B, ()), ((none, ()), ((), ((), ((0, ()), ())))))))) (Evn.step h fun k => ?_) fun k => ?_
  · rw [t_head_Parse]
    simp only [f_head_Parse_p27, fitsS_dec, Option.bind_some, Option.isNone_none, Option.isNone_some, Option.isSome_none, Option.isSome_some, Bool.not_true, Bool.not_false, cond_true, cond_false, cond_dec, beq_int, bne_int, not_dec, show iadd .i64 (0 : Int) 1 = 1 from rfl]
    first | done | rfl
  · rw [t_head_Parse]
    simp only [f_head_Parse_p22, fitsS_dec, Option.bind_some, Option.isNone_none, Option.isNone_some, Option.isSome_none, Option.isSome_some, Bool.not_true, Bool.not_false, cond_true, cond_false, cond_dec, beq_int, bne_int, not_dec, and_dec]
    rw [if_pos (by omega), if_pos (by omega)]
    simp only [Int.reduceEq, if_true, if_false, show imul .i64 8 (0 : Int) = 0 from rfl, show iadd .i64 (0 : Int) 1 = 1 from rfl, show imul .i64 8 (1 : Int) = 8 from rfl, show iadd .i64 16 (0 : Int) = 16 from rfl, show iadd .i64 16 (8 : Int) = 24 from rfl, cond_dec, and_dec]
    rw [if_pos (by omega), show Int.toNat 16 = 16 from rfl, show Int.toNat 24 = 24 from rfl, hsl, stamp_parse A hA (by omega), if_pos hAl]
    simp only [Option.bind_some]
theorem parse_step1 (le v m st po pr d1 d2 p1 p2 r0 r1 r2 r3 a1 a2 o1 o2 e1 e2 t1 t2 : Int) (B A : List Int) (hl : B.length = 48) (hsl : List.drop 24 (List.take 32 B) = A) (hA : bytesL A) (hAl : A.length = 8) {o : po_head_Parse.den}
    (h : Evn (fun k => (f_head_Parse_t k).1 (((0, (0, (0, (0, (0, (0, (0, (0, (0, (0, (0, (0, (0, (0, (0, (0, (0, (0, (0, (0, (0, (0, ())))))))))))))))))))))), ((le, (v, (m, (st, (po, (pr, (d1, (d2, (p1, (p2, (r0, (r1, (r2, (r3, (a1, (a2, (wordv A 0 / 4294967296, (wordv A 0 % 4294967296, (e1, (e2, (t1, (t2, ())))))))))))))))))))))), ())), ((), ((B, ()), ((), ((), ((2, ()), ()))))))) o) : Evn (fun k => (f_head_Parse_t k).1 (((0, (0, (0, (0, (0, (0, (0, (0, (0, (0, (0, (0, (0, (0, (0, (0, (0, (0, (0, (0, (0, (0, ())))))))))))))))))))))), ((le, (v, (m, (st, (po, (pr, (d1, (d2, (p1, (p2, (r0, (r1, (r2, (r3, (a1, (a2, (o1, (o2, (e1, (e2, (t1, (t2, ())))))))))))))))))))))), ())), ((), ((B, ()), ((), ((), ((1, ()), ()))))))) o := by
  refine Evn.step (G := fun k => (f_head_Parse_t k).2.1 (((0, (0, (0, (0, (0, (0, (0, (0, (0, (0, (0, (0, (0, (0, (0, (0, (0, (0, (0, (0, (0, (0, ())))))))))))))))))))))), ((le, (v, (m, (st, (po, (pr, (d1, (d2, (p1, (p2, (r0, (r1, (r2, (r3, (a1, (a2, (wordv A 0 / 4294967296, (wordv A 0 % 4294967296, (e1, (e2, (t1, (t2, ())))))))))))))))))))))), ())), ((), ((B, ()), ((none, ()), ((), ((), ((1, ()), ())))))))) (Evn.step h fun k => ?_) fun k => ?_
  · rw [t_head_Parse]
    simp only [f_head_Parse_p27, fitsS_dec, Option.bind_some, Option.isNone_none, Option.isNone_some, Option.isSome_none, Option.isSome_some, Bool.not_true, Bool.not_false, cond_true, cond_false, cond_dec, beq_int, bne_int, not_dec, show iadd .i64 (1 : Int) 1 = 2 from rfl]
    first | done | rfl
  · rw [t_head_Parse]
    simp only [f_head_Parse_p22, fitsS_dec, Option.bind_some, Option.isNone_none, Option.isNone_some, Option.isSome_none, Option.isSome_some, Bool.not_true, Bool.not_false, cond_true, cond_false, cond_dec, beq_int, bne_int, not_dec, and_dec]
    rw [if_pos (by omega), if_pos (by omega)]
    simp only [Int.reduceEq, if_true, if_false, show imul .i64 8 (1 : Int) = 8 from rfl, show iadd .i64 (1 : Int) 1 = 2 from rfl, show imul .i64 8 (2 : Int) = 16 from rfl, show iadd .i64 16 (8 : Int) = 24 from rfl, show iadd .i64 16 (16 : Int) = 32 from rfl, cond_dec, and_dec]
    rw [if_pos (by omega), show Int.toNat 24 = 24 from rfl, show Int.toNat 32 = 32 from rfl, hsl, stamp_parse A hA (by omega), if_pos hAl]
    simp only [Option.bind_some]
theorem parse_step2 (le v m st po pr d1 d2 p1 p2 r0 r1 r2 r3 a1 a2 o1 o2 e1 e2 t1 t2 : Int) (B A : List Int) (hl : B.length = 48) (hsl : List.drop 32 (List.take 40 B) = A) (hA : bytesL A) (hAl : A.length = 8) {o : po_head_Parse.den}
    (h : Evn (fun k => (f_head_Parse_t k).1 (((0, (0, (0, (0, (0, (0, (0, (0, (0, (0, (0, (0, (0, (0, (0, (0, (0, (0, (0, (0, (0, (0, ())))))))))))))))))))))), ((le, (v, (m, (st, (po, (pr, (d1, (d2, (p1, (p2, (r0, (r1, (r2, (r3, (a1, (a2, (o1, (o2, (wordv A 0 / 4294967296, (wordv A 0 % 4294967296, (t1, (t2, ())))))))))))))))))))))), ())), ((), ((B, ()), ((), ((), ((3, ()), ()))))))) o) : Evn (fun k => (f_head_Parse_t k).1 (((0, (0, (0, (0, (0, (0, (0, (0, (0, (0, (0, (0, (0, (0, (0, (0, (0, (0, (0, (0, (0, (0, ())))))))))))))))))))))), ((le, (v, (m, (st, (po, (pr, (d1, (d2, (p1, (p2, (r0, (r1, (r2, (r3, (a1, (a2, (o1, (o2, (e1, (e2, (t1, (t2, ())))))))))))))))))))))), ())), ((), ((B, ()), ((), ((), ((2, ()), ()))))))) o := by
  refine Evn.step (G := fun k => (f_head_Parse_t k).2.1 (((0, (0, (0, (0, (0, (0, (0, (0, (0, (0, (0, (0, (0, (0, (0, (0, (0, (0, (0, (0, (0, (0, ())))))))))))))))))))))), ((le, (v, (m, (st, (po, (pr, (d1, (d2, (p1, (p2, (r0, (r1, (r2, (r3, (a1, (a2, (o1, (o2, (wordv A 0 / 4294967296, (wordv A 0 % 4294967296, (t1, (t2, ())))))))))))))))))))))), ())), ((), ((B, ()), ((none, ()), ((), ((), ((2, ()), ())))))))) (Evn.step h fun k => ?_) fun k => ?_
  · rw [t_head_Parse]
    simp only [f_head_Parse_p27, fitsS_dec, Option.bind_some, Option.isNone_none, Option.isNone_some, Option.isSome_none, Option.isSome_some, Bool.not_true, Bool.not_false, cond_true, cond_false, cond_dec, beq_int, bne_int, not_dec, show iadd .i64 (2 : Int) 1 = 3 from rfl]
    first | done | rfl
  · rw [t_head_Parse]
    simp only [f_head_Parse_p22, fitsS_dec, Option.bind_some, Option.isNone_none, Option.isNone_some, Option.isSome_none, Option.isSome_some, Bool.not_true, Bool.not_false, cond_true, cond_false, cond_dec, beq_int, bne_int, not_dec, and_dec]
    rw [if_pos (by omega), if_pos (by omega)]
    simp only [Int.reduceEq, if_true, if_false, show imul .i64 8 (2 : Int) = 16 from rfl, show iadd .i64 (2 : Int) 1 = 3 from rfl, show imul .i64 8 (3 : Int) = 24 from rfl, show iadd .i64 16 (16 : Int) = 32 from rfl, show iadd .i64 16 (24 : Int) = 40 from rfl, cond_dec, and_dec]
    rw [if_pos (by omega), show Int.toNat 32 = 32 from rfl, show Int.toNat 40 = 40 from rfl, hsl, stamp_parse A hA (by omega), if_pos hAl]
    simp only [Option.bind_some]
theorem parse_step3 (le v m st po pr d1 d2 p1 p2 r0 r1 r2 r3 a1 a2 o1 o2 e1 e2 t1 t2 : Int) (B A : List Int) (hl : B.length = 48) (hsl : List.drop 40 (List.take 48 B) = A) (hA : bytesL A) (hAl : A.length = 8) {o : po_head_Parse.den}
    (h : Evn (fun k => (f_head_Parse_t k).1 (((0, (0, (0, (0, (0, (0, (0, (0, (0, (0, (0, (0, (0, (0, (0, (0, (0, (0, (0, (0, (0, (0, ())))))))))))))))))))))), ((le, (v, (m, (st, (po, (pr, (d1, (d2, (p1, (p2, (r0, (r1, (r2, (r3, (a1, (a2, (o1, (o2, (e1, (e2, (wordv A 0 / 4294967296, (wordv A 0 % 4294967296, ())))))))))))))))))))))), ())), ((), ((B, ()), ((), ((), ((4, ()), ()))))))) o) : Evn (fun k => (f_head_Parse_t k).1 (((0, (0, (0, (0, (0, (0, (0, (0, (0, (0, (0, (0, (0, (0, (0, (0, (0, (0, (0, (0, (0, (0, ())))))))))))))))))))))), ((le, (v, (m, (st, (po, (pr, (d1, (d2, (p1, (p2, (r0, (r1, (r2, (r3, (a1, (a2, (o1, (o2, (e1, (e2, (t1, (t2, ())))))))))))))))))))))), ())), ((), ((B, ()), ((), ((), ((3, ()), ()))))))) o := by
  refine Evn.step (G := fun k => (f_head_Parse_t k).2.1 (((0, (0, (0, (0, (0, (0, (0, (0, (0, (0, (0, (0, (0, (0, (0, (0, (0, (0, (0, (0, (0, (0, ())))))))))))))))))))))), ((le, (v, (m, (st, (po, (pr, (d1, (d2, (p1, (p2, (r0, (r1, (r2, (r3, (a1, (a2, (o1, (o2, (e1, (e2, (wordv A 0 / 4294967296, (wordv A 0 % 4294967296, ())))))))))))))))))))))), ())), ((), ((B, ()), ((none, ()), ((), ((), ((3, ()), ())))))))) (Evn.step h fun k => ?_) fun k => ?_
  · rw [t_head_Parse]
    simp only [f_head_Parse_p27, fitsS_dec, Option.bind_some, Option.isNone_none, Option.isNone_some, Option.isSome_none, Option.isSome_some, Bool.not_true, Bool.not_false, cond_true, cond_false, cond_dec, beq_int, bne_int, not_dec, show iadd .i64 (3 : Int) 1 = 4 from rfl]
    first | done | rfl
  · rw [t_head_Parse]
    simp only [f_head_Parse_p22, fitsS_dec, Option.bind_some, Option.isNone_none, Option.isNone_some, Option.isSome_none, Option.isSome_some, Bool.not_true, Bool.not_false, cond_true, cond_false, cond_dec, beq_int, bne_int, not_dec, and_dec]
    rw [if_pos (by omega), if_pos (by omega)]
    simp only [Int.reduceEq, if_true, if_false, show imul .i64 8 (3 : Int) = 24 from rfl, show iadd .i64 (3 : Int) 1 = 4 from rfl, show imul .i64 8 (4 : Int) = 32 from rfl, show iadd .i64 16 (24 : Int) = 40 from rfl, show iadd .i64 16 (32 : Int) = 48 from rfl, cond_dec, and_dec]
    rw [if_pos (by omega), show Int.toNat 40 = 40 from rfl, show Int.toNat 48 = 48 from rfl, hsl, stamp_parse A hA (by omega), if_pos hAl]
    simp only [Option.bind_some]
structure Cut48 (b : List Int) (x0 x1 x2 x3 r0 r1 r2 r3 : Int) (D P A O E T : List Int) : Prop where
  eq : b.take 48 = [x0, x1, x2, x3] ++ (D ++ (P ++ ([r0, r1, r2, r3] ++ (A ++ (O ++ (E ++ T))))))
  by_ : bytesL b
  hl : 48 ≤ b.length
  hD : D.length = 4
  hP : P.length = 4
  hA : A.length = 8
  hO : O.length = 8
  hE : E.length = 8
  hT : T.length = 8
theorem head_parse {b : List Int} {x0 x1 x2 x3 r0 r1 r2 r3 : Int} {D P A O E T : List Int} (h : Cut48 b x0 x1 x2 x3 r0 r1 r2 r3 D P A O E T) (hs : b.length ≤ 1000000) : g_head_Parse ((), ((b, ()), ())) = some ((), ((x0 / 64, (x0 / 8 % 8, (x0 % 8, (x1, (i8V x2, (i8V x3, (wordv D 0 / 65536, (wordv D 0 % 65536, (wordv P 0 / 65536, (wordv P 0 % 65536, (r0, (r1, (r2, (r3, (wordv A 0 / 4294967296, (wordv A 0 % 4294967296, (wordv O 0 / 4294967296, (wordv O 0 % 4294967296, (wordv E 0 / 4294967296, (wordv E 0 % 4294967296, (wordv T 0 / 4294967296, (wordv T 0 % 4294967296, ())))))))))))))))))))))), ((none, ()), ()))) := by
  have hc := octets_cut b (by omega) 0 48 (by omega) (by omega)
  have h48 := h.hl
  rw [if_neg (by omega), if_neg (by omega), show ((0 : Int) + 48).toNat = 48 from rfl, show (0 : Int).toNat = 0 from rfl, List.drop_zero] at hc
  have hB : bytesL (b.take 48) := fun x hx => h.by_ x (List.mem_of_mem_take hx)
  have hlen : (b.take 48).length = 48 := by rw [List.length_take]; omega
  rw [h.eq] at hc hB hlen
  have hx0 := hB x0 (List.mem_cons_self ..)
  have hx1 := hB x1 (by simp)
  have hx2 := hB x2 (by simp)
  have hx3 := hB x3 (by simp)
  have bD : bytesL D := fun x hx => hB x (by simp [hx])
  have bP : bytesL P := fun x hx => hB x (by simp [hx])
  have bA : bytesL A := fun x hx => hB x (by simp [hx])
  have bO : bytesL O := fun x hx => hB x (by simp [hx])
  have bE : bytesL E := fun x hx => hB x (by simp [hx])
  have bT : bytesL T := fun x hx => hB x (by simp [hx])
  have sD : List.drop 4 (List.take 8 ([x0, x1, x2, x3] ++ (D ++ (P ++ ([r0, r1, r2, r3] ++ (A ++ (O ++ (E ++ T)))))))) = D := mid2 [x0, x1, x2, x3] D _ rfl h.hD
  have sP : List.drop 8 (List.take 12 ([x0, x1, x2, x3] ++ (D ++ (P ++ ([r0, r1, r2, r3] ++ (A ++ (O ++ (E ++ T)))))))) = P := by
    rw [← List.append_assoc]; exact mid2 _ P _ (by simp [h.hD]) h.hP
  have sR : List.drop 12 (List.take 16 ([x0, x1, x2, x3] ++ (D ++ (P ++ ([r0, r1, r2, r3] ++ (A ++ (O ++ (E ++ T)))))))) = [r0, r1, r2, r3] := by
    rw [← List.append_assoc, ← List.append_assoc]; exact mid2 ([x0, x1, x2, x3] ++ D ++ P) [r0, r1, r2, r3] _ (by simp [h.hD, h.hP]) rfl
  have sA : List.drop 16 (List.take 24 ([x0, x1, x2, x3] ++ (D ++ (P ++ ([r0, r1, r2, r3] ++ (A ++ (O ++ (E ++ T)))))))) = A := by
    rw [← List.append_assoc, ← List.append_assoc, ← List.append_assoc]; exact mid2 _ A _ (by simp [h.hD, h.hP]) h.hA
  have sO : List.drop 24 (List.take 32 ([x0, x1, x2, x3] ++ (D ++ (P ++ ([r0, r1, r2, r3] ++ (A ++ (O ++ (E ++ T)))))))) = O := by
    rw [← List.append_assoc, ← List.append_assoc, ← List.append_assoc, ← List.append_assoc]; exact mid2 _ O _ (by simp [h.hD, h.hP, h.hA]) h.hO
  have sE : List.drop 32 (List.take 40 ([x0, x1, x2, x3] ++ (D ++ (P ++ ([r0, r1, r2, r3] ++ (A ++ (O ++ (E ++ T)))))))) = E := by
    rw [← List.append_assoc, ← List.append_assoc, ← List.append_assoc, ← List.append_assoc, ← List.append_assoc]; exact mid2 _ E _ (by simp [h.hD, h.hP, h.hA, h.hO]) h.hE
  have sT : List.drop 40 (List.take 48 ([x0, x1, x2, x3] ++ (D ++ (P ++ ([r0, r1, r2, r3] ++ (A ++ (O ++ (E ++ T)))))))) = T := by
    have := mid2 ([x0, x1, x2, x3] ++ D ++ P ++ [r0, r1, r2, r3] ++ A ++ O ++ E) T [] (i := 40) (by simp [h.hD, h.hP, h.hA, h.hO, h.hE]) h.hT
    simpa only [List.append_assoc, List.append_nil] using this
  have g1 : gd (.int .u8) ([x0, x1, x2, x3] ++ (D ++ (P ++ ([r0, r1, r2, r3] ++ (A ++ (O ++ (E ++ T))))))) 1 = x1 := rfl
  have g2 : gd (.int .u8) ([x0, x1, x2, x3] ++ (D ++ (P ++ ([r0, r1, r2, r3] ++ (A ++ (O ++ (E ++ T))))))) 2 = x2 := rfl
  have g3 : gd (.int .u8) ([x0, x1, x2, x3] ++ (D ++ (P ++ ([r0, r1, r2, r3] ++ (A ++ (O ++ (E ++ T))))))) 3 = x3 := rfl
  have hf := first_of x0 hx0 ([x1, x2, x3] ++ (D ++ (P ++ ([r0, r1, r2, r3] ++ (A ++ (O ++ (E ++ T))))))) (fun y hy => hB y (List.mem_cons_of_mem _ hy)) (by simp [h.hD, h.hP, h.hA, h.hO, h.hE, h.hT])
  have hf' : g_head_First ((), (([x0, x1, x2, x3] ++ (D ++ (P ++ ([r0, r1, r2, r3] ++ (A ++ (O ++ (E ++ T)))))), ()), ())) = _ := hf
  generalize hBB : [x0, x1, x2, x3] ++ (D ++ (P ++ ([r0, r1, r2, r3] ++ (A ++ (O ++ (E ++ T)))))) = B at *
  have key : Evn (fun k => (f_head_Parse_t k).1 (((0, (0, (0, (0, (0, (0, (0, (0, (0, (0, (0, (0, (0, (0, (0, (0, (0, (0, (0, (0, (0, (0, ())))))))))))))))))))))), ((x0 / 64, (x0 / 8 % 8, (x0 % 8, (x1, (i8V x2, (i8V x3, (wordv D 0 / 65536, (wordv D 0 % 65536, (wordv P 0 / 65536, (wordv P 0 % 65536, (r0, (r1, (r2, (r3, (0, (0, (0, (0, (0, (0, (0, (0, ())))))))))))))))))))))), ())), ((), ((B, ()), ((), ((), ((0, ()), ()))))))) ((), ((x0 / 64, (x0 / 8 % 8, (x0 % 8, (x1, (i8V x2, (i8V x3, (wordv D 0 / 65536, (wordv D 0 % 65536, (wordv P 0 / 65536, (wordv P 0 % 65536, (r0, (r1, (r2, (r3, (wordv A 0 / 4294967296, (wordv A 0 % 4294967296, (wordv O 0 / 4294967296, (wordv O 0 % 4294967296, (wordv E 0 / 4294967296, (wordv E 0 % 4294967296, (wordv T 0 / 4294967296, (wordv T 0 % 4294967296, ())))))))))))))))))))))), ((none, ()), ()))) := by
    refine parse_step0 (x0 / 64) (x0 / 8 % 8) (x0 % 8) (x1) (i8V x2) (i8V x3) (wordv D 0 / 65536) (wordv D 0 % 65536) (wordv P 0 / 65536) (wordv P 0 % 65536) (r0) (r1) (r2) (r3) (0) (0) (0) (0) (0) (0) (0) (0) B A hlen sA bA h.hA ?_
    refine parse_step1 (x0 / 64) (x0 / 8 % 8) (x0 % 8) (x1) (i8V x2) (i8V x3) (wordv D 0 / 65536) (wordv D 0 % 65536) (wordv P 0 / 65536) (wordv P 0 % 65536) (r0) (r1) (r2) (r3) (wordv A 0 / 4294967296) (wordv A 0 % 4294967296) (0) (0) (0) (0) (0) (0) B O hlen sO bO h.hO ?_
    refine parse_step2 (x0 / 64) (x0 / 8 % 8) (x0 % 8) (x1) (i8V x2) (i8V x3) (wordv D 0 / 65536) (wordv D 0 % 65536) (wordv P 0 / 65536) (wordv P 0 % 65536) (r0) (r1) (r2) (r3) (wordv A 0 / 4294967296) (wordv A 0 % 4294967296) (wordv O 0 / 4294967296) (wordv O 0 % 4294967296) (0) (0) (0) (0) B E hlen sE bE h.hE ?_
    refine parse_step3 (x0 / 64) (x0 / 8 % 8) (x0 % 8) (x1) (i8V x2) (i8V x3) (wordv D 0 / 65536) (wordv D 0 % 65536) (wordv P 0 / 65536) (wordv P 0 % 65536) (r0) (r1) (r2) (r3) (wordv A 0 / 4294967296) (wordv A 0 % 4294967296) (wordv O 0 / 4294967296) (wordv O 0 % 4294967296) (wordv E 0 / 4294967296) (wordv E 0 % 4294967296) (0) (0) B T hlen sT bT h.hT ?_
    refine Evn.some 1 fun k => ?_
    rw [t_head_Parse]
    simp only [f_head_Parse_p22, fitsS_dec, Option.bind_some, Option.isNone_none, Option.isNone_some, Option.isSome_none, Option.isSome_some, Bool.not_true, Bool.not_false, cond_true, cond_false, cond_dec, beq_int, bne_int, not_dec]
    rw [if_neg (by omega)]
  refine (key.cast fun k => ?_).lim
  simp only [f_head_Parse_m, hc, hf', fitsS_dec, Option.bind_some, Option.isNone_none, Option.isNone_some, Option.isSome_none, Option.isSome_some, Bool.not_true, Bool.not_false, cond_true, cond_false, cond_dec, beq_int, bne_int, not_dec, not_true_eq_false, if_false, and_dec, g1, g2, g3, show Int.toNat 4 = 4 from rfl, show Int.toNat 8 = 8 from rfl, show Int.toNat 12 = 12 from rfl, show Int.toNat 16 = 16 from rfl, sD, sP, sR]
  rw [if_pos (by omega), if_pos (by omega), if_pos (by omega), if_pos (by omega), stamp_parseShort D bD (by have := h.hD; omega), if_pos h.hD, stamp_parseShort P bP (by have := h.hP; omega), if_pos h.hP, iconv_i8 hx2, iconv_i8 hx3]
  simp only [fitsS_dec, Option.bind_some, Option.isNone_none, Option.isNone_some, Option.isSome_none, Option.isSome_some, Bool.not_true, Bool.not_false, cond_true, cond_false, cond_dec, beq_int, bne_int, not_dec, not_true_eq_false, if_false]
  rw [if_pos (by omega), if_pos (by omega), if_pos (by simp only [List.length_cons, List.length_nil]; omega)]
  rfl
theorem head_parse_short (b : List Int) (hb : bytesL b) (h : b.length < 48) : g_head_Parse ((), ((b, ()), ())) = some ((), ((0, (0, (0, (0, (0, (0, (0, (0, (0, (0, (0, (0, (0, (0, (0, (0, (0, (0, (0, (0, (0, (0, ())))))))))))))))))))))), ((some 4, ()), ()))) := by
  have hc := octets_cut b (by omega) 0 48 (by omega) (by omega)
  rw [if_neg (by omega), if_pos (by omega)] at hc
  refine (Evn.const fun k => ?_).lim
  simp only [f_head_Parse_m, hc, fitsS_dec, Option.bind_some, Option.isNone_none, Option.isNone_some, Option.isSome_none, Option.isSome_some, Bool.not_true, Bool.not_false, cond_true, cond_false, cond_dec, beq_int, bne_int, not_dec]
  first | done | rfl
theorem cut48 (b : List Int) (hb : bytesL b) (hl : 48 ≤ b.length) : ∃ x0 x1 x2 x3 r0 r1 r2 r3 D P A O E T, Cut48 b x0 x1 x2 x3 r0 r1 r2 r3 D P A O E T := by
  have hlen : (b.take 48).length = 48 := by rw [List.length_take]; omega
  have sp : ∀ (l : List Int) (n : Nat), n ≤ l.length → ∃ x y, l = x ++ y ∧ x.length = n ∧ y.length = l.length - n := fun l n h => ⟨l.take n, l.drop n, (List.take_append_drop ..).symm, by simp; omega, by simp⟩
  have l4 : ∀ l : List Int, l.length = 4 → ∃ a b c d, l = [a, b, c, d] := fun l h => by
    match l, h with
    | [a, b, c, d], _ => exact ⟨a, b, c, d, rfl⟩
  obtain ⟨X, y1, e1, n1, m1⟩ := sp (b.take 48) 4 (by omega)
  obtain ⟨D, y2, e2, n2, m2⟩ := sp y1 4 (by omega)
  obtain ⟨P, y3, e3, n3, m3⟩ := sp y2 4 (by omega)
  obtain ⟨R, y4, e4, n4, m4⟩ := sp y3 4 (by omega)
  obtain ⟨A, y5, e5, n5, m5⟩ := sp y4 8 (by omega)
  obtain ⟨O, y6, e6, n6, m6⟩ := sp y5 8 (by omega)
  obtain ⟨E, T, e7, n7, m7⟩ := sp y6 8 (by omega)
  obtain ⟨x0, x1, x2, x3, rfl⟩ := l4 X n1
  obtain ⟨r0, r1, r2, r3, rfl⟩ := l4 R n4
  exact ⟨x0, x1, x2, x3, r0, r1, r2, r3, D, P, A, O, E, T, by rw [e1, e2, e3, e4, e5, e6, e7], hb, hl, n2, n3, n5, n6, n7, by omega⟩
end Go.Proofs.YtodnllhjikeafaaGreatDoor.Ev
