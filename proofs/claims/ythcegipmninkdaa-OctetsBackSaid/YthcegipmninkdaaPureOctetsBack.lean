/- The law OctetsBack, plain. -/
import Derived.Test.YthcegipmninkdaaPuWordv
import Derived.Test.YthcegipmninkdaaPuListU32
import Derived.Test.YthcegipmninkdaaPuGetU64
import Derived.Test.YthcegipmninkdaaPuGetU16
import Derived.Test.YthcegipmninkdaaPuPutU64
import Derived.Test.YthcegipmninkdaaPuPutU32
import Derived.Test.YthcegipmninkdaaPuPutU16
namespace Go.Proofs.Ythcegipmninkdaa.Ev
open Go
set_option linter.unusedVariables false
set_option linter.unusedSimpArgs false
theorem octets_alive : g_law03_alive ((), ()) = some ((), ((true, ()), ())) := by
  unfold g_law03_alive f_law03_alive_m
  have h := put_u16 [] [258] (by intro w hw; simp only [List.mem_singleton] at hw; subst hw; omega) (by simp)
  simp only
  rw [h, size_u64]
  rfl
theorem octets_cut (b : List Int) (hl : b.length ≤ 100000000) (at_ many : Int) (h0 : -9223372036854775808 ≤ many) (h1 : many ≤ 9223372036854775807) :
    g_octets_Cut ((), ((b, ()), ((at_, ()), ((many, ()), ())))) = some (
      if at_ < 0 ∨ (b.length : Int) < at_ ∨ many < 0 then (([], ()), ((), ((some 1, ()), ())))
      else if (b.length : Int) - at_ < many then (([], ()), ((), ((some 4, ()), ())))
      else (((b.take (at_ + many).toNat).drop at_.toNat, ()), ((), ((none, ()), ())))) := by
  unfold g_octets_Cut f_octets_Cut_m
  simp only
  rw [from_ b (by omega) at_ many h0 h1]
  by_cases c1 : at_ < 0 ∨ (b.length : Int) < at_ ∨ many < 0
  · rw [if_pos c1, if_pos c1]; rfl
  rw [if_neg c1, if_neg c1]
  by_cases c2 : (b.length : Int) - at_ < many
  · rw [if_pos c2, if_pos c2]; rfl
  rw [if_neg c2, if_neg c2]
  simp only [Option.bind_some, Option.isNone_none, Bool.not_true, cond_false]
  rw [clone _ (by simp only [List.length_drop, List.length_take]; omega)]
  rfl
theorem mid (a x c : List Int) : List.drop a.length (List.take (a.length + x.length) (a ++ x ++ c)) = x := by
  rw [List.take_left' (by rw [List.length_append]), List.drop_left' rfl]
theorem chunks_flat : ∀ (l : List Int), (∀ w ∈ l, 0 ≤ w ∧ w < 2 ^ 32) → (chunks 4 l.length (l.flatMap (be · 4))).map (fun c => iconv .u32 (wordv c 0)) = l
  | [], h => rfl
  | w :: l, h => by
    have hw := h w (List.mem_cons_self ..)
    rw [List.length_cons, List.flatMap_cons, chunks, List.map_cons, List.take_left' (length_be w 4), List.drop_left' (length_be w 4), chunks_flat l fun w hw => h w (List.mem_cons_of_mem _ hw),
      wordv_eq w 4 (by decide) hw.1 (by exact hw.2), iconv_u32, Int.emod_eq_of_lt hw.1 (by exact hw.2)]
theorem flat_len : ∀ (l : List Int), (l.flatMap (be · 4)).length = 4 * l.length
  | [] => rfl
  | w :: l => by rw [List.flatMap_cons, List.length_append, flat_len l, length_be, List.length_cons]; omega
theorem flat_bytes (l : List Int) : bytesL (l.flatMap (be · 4)) := fun x hx => by
  obtain ⟨w, _, h⟩ := List.mem_flatMap.1 hx
  exact be_byte w 4 x h
theorem octets_back_p17 (p b : List Int) (l : List Int) (hb : b.length ≤ 300) (hl : l.length ≤ 60) (hp : p.length = b.length + 10 + 4 * l.length) : ∀ (n i : Nat), i + n = l.length →
    Evn (fun k => (f_law03_OctetsBack_t k).1 ((p, (l, ())), ((b, ()), ((l, ()), ((), ((), ((l, ()), (((l.length : Int), ()), (((i : Int), ()), ()))))))))) ((), ((true, ()), ()))
  | 0, i, hi => by
    refine Evn.some 1 fun k => ?_
    rw [t_law03_OctetsBack]
    simp only [f_law03_OctetsBack_p17, fitsS_dec, Option.bind_some, Option.isNone_none, Option.isNone_some, Option.isSome_none, Option.isSome_some, Bool.not_true, Bool.not_false, cond_true, cond_false, cond_dec, beq_int, bne_int, not_dec]
    have e1 : iadd .i64 (b.length : Int) 10 = b.length + 10 := iadd_i64 (by omega)
    have e2 : imul .i64 4 (l.length : Int) = 4 * l.length := imul_i64 (by omega)
    rw [if_neg (by omega), e1, e2, iadd_i64 (by omega), decide_eq_true (by omega)]
  | n + 1, i, hi => by
    have ih := octets_back_p17 p b l hb hl hp n (i + 1) (by omega)
    refine ih.step fun k => ?_
    rw [t_law03_OctetsBack]
    simp only [f_law03_OctetsBack_p17, fitsS_dec, Option.bind_some, Option.isNone_none, Option.isNone_some, Option.isSome_none, Option.isSome_some, Bool.not_true, Bool.not_false, cond_true, cond_false, cond_dec, beq_int, bne_int, not_dec, and_dec, ne_eq, not_true_eq_false, if_false]
    rw [if_pos (by omega), if_pos (by omega), if_pos (by omega), iadd_i64 (by omega)]; rfl
theorem octets_back (b : List Int) (w : Int) (l : List Int) (hb : bytesL b) (hw : 0 ≤ w ∧ w < 18446744073709551616) (hl : ∀ x ∈ l, 0 ≤ x ∧ x < 2 ^ 32) :
    g_law03_OctetsBack ((), ((b, ()), ((w, ()), ((l, ()), ())))) = some ((), ((true, ()), ())) := by
  by_cases c1 : (b.length : Int) > 300
  · refine (Evn.const fun k => ?_).lim
    simp only [f_law03_OctetsBack_m, octets_alive, fitsS_dec, Option.bind_some, Option.isNone_none, Option.isNone_some, Option.isSome_none, Option.isSome_some, Bool.not_true, Bool.not_false, cond_true, cond_false, cond_dec, beq_int, bne_int, not_dec, if_neg Bool.false_ne_true]
    rw [if_pos c1]
  by_cases c2 : (l.length : Int) > 60
  · refine (Evn.const fun k => ?_).lim
    simp only [f_law03_OctetsBack_m, octets_alive, fitsS_dec, Option.bind_some, Option.isNone_none, Option.isNone_some, Option.isSome_none, Option.isSome_some, Bool.not_true, Bool.not_false, cond_true, cond_false, cond_dec, beq_int, bne_int, not_dec, if_neg Bool.false_ne_true]
    rw [if_neg c1, if_pos c2]
  have e64 := put_u64 b [w] (by intro x hx; rw [List.mem_singleton.1 hx]; exact hw) (by simp only [List.length_singleton]; omega)
  have e16 := put_u16 (b ++ be w 8) [w % 65536] (by intro x hx; rw [List.mem_singleton.1 hx]; constructor <;> omega) (by simp only [List.length_append, length_be, List.length_singleton]; omega)
  have e32 := put_u32 (b ++ be w 8 ++ be (w % 65536) 2) l hl (by simp only [List.length_append, length_be]; omega)
  simp only [List.flatMap_cons, List.flatMap_nil, List.append_nil] at e64 e16 e32
  have hlen : (b ++ be w 8 ++ be (w % 65536) 2 ++ l.flatMap (be · 4)).length = b.length + 10 + 4 * l.length := by
    simp only [List.length_append, length_be, flat_len]; try omega
  have hpb : bytesL (b ++ be w 8 ++ be (w % 65536) 2 ++ l.flatMap (be · 4)) := fun x hx => by
    rcases List.mem_append.1 hx with hx | hx
    · rcases List.mem_append.1 hx with hx | hx
      · rcases List.mem_append.1 hx with hx | hx
        · exact hb x hx
        · exact be_byte _ _ x hx
      · exact be_byte _ _ x hx
    · exact flat_bytes l x hx
  have m1 : List.drop b.length (List.take (b.length + 8) (b ++ be w 8 ++ be (w % 65536) 2 ++ l.flatMap (be · 4))) = be w 8 := by
    have := mid b (be w 8) (be (w % 65536) 2 ++ l.flatMap (be · 4))
    rwa [length_be, ← List.append_assoc] at this
  have m2 : List.drop (b.length + 8) (List.take (b.length + 8 + 2) (b ++ be w 8 ++ be (w % 65536) 2 ++ l.flatMap (be · 4))) = be (w % 65536) 2 := by
    have := mid (b ++ be w 8) (be (w % 65536) 2) (l.flatMap (be · 4))
    rwa [List.length_append, length_be, length_be] at this
  have m3 : List.drop (b.length + 10) (b ++ be w 8 ++ be (w % 65536) 2 ++ l.flatMap (be · 4)) = l.flatMap (be · 4) :=
    List.drop_left' (by simp only [List.length_append, length_be])
  have m4 : List.drop 0 (List.take b.length (b ++ be w 8 ++ be (w % 65536) 2 ++ l.flatMap (be · 4))) = b := by
    rw [List.append_assoc, List.append_assoc, List.take_left' rfl, List.drop_zero]
  generalize hp : b ++ be w 8 ++ be (w % 65536) 2 ++ l.flatMap (be · 4) = p at *
  have g64 := get_u64 p hpb (by omega) (b.length : Int)
  rw [if_neg (by omega), if_neg (by omega)] at g64
  simp only [Int.toNat_natCast] at g64
  rw [m1, wordv_eq w 8 (by decide) hw.1 (by exact hw.2)] at g64
  have g16 := get_u16 p hpb (by omega) ((b.length : Int) + 8)
  rw [if_neg (by omega), if_neg (by omega), show ((b.length : Int) + 8).toNat = b.length + 8 by omega] at g16
  rw [m2, wordv_eq (w % 65536) 2 (by decide) (by omega) (by rw [show (256 : Int) ^ 2 = 65536 from rfl]; omega), iconv_u16, Int.emod_eq_of_lt (a := w % 65536) (by omega) (by omega)] at g16
  have g32 := list_u32 p hpb (by omega) ((b.length : Int) + 10) (l.length : Int) (by unfold i64; omega) (by unfold i64; omega)
  rw [if_neg (by omega), if_neg (by omega), show ((b.length : Int) + 10).toNat = b.length + 10 by omega, m3, Int.toNat_natCast, chunks_flat l hl] at g32
  have gc := octets_cut p (by omega) 0 (b.length : Int) (by omega) (by omega)
  rw [if_neg (by omega), if_neg (by omega), show ((0 : Int) + (b.length : Int)).toNat = b.length by omega, show (0 : Int).toNat = 0 from rfl, m4] at gc
  refine ((octets_back_p17 p b l (by omega) (by omega) hlen l.length 0 (by omega)).cast fun k => ?_).lim
  simp only [f_law03_OctetsBack_m, octets_alive, fitsS_dec, Option.bind_some, Option.isNone_none, Option.isNone_some, Option.isSome_none, Option.isSome_some, Bool.not_true, Bool.not_false, cond_true, cond_false, cond_dec, beq_int, bne_int, not_dec, e64, iconv_u16, e16, e32, if_neg Bool.false_ne_true]
  rw [if_neg c1, if_neg c2, iadd_i64 (by omega), iadd_i64 (by omega)]
  simp only [g64, g16, g32, gc, bytes_same, fitsS_dec, Option.bind_some, Option.isNone_none, Option.isNone_some, Option.isSome_none, Option.isSome_some, Bool.not_true, Bool.not_false, cond_true, cond_false, cond_dec, beq_int, bne_int, not_dec, ne_eq, not_true_eq_false, if_false]
  rfl
end Go.Proofs.Ythcegipmninkdaa.Ev
