/- Words listed out of bytes. -/
import Derived.Test.YtodnllhjikeafaaGreatDoorPuChunk
import Derived.Test.YtodnllhjikeafaaGreatDoorPuNum
import Derived.Test.YtodnllhjikeafaaGreatDoorPuGetU16
namespace Go.Proofs.YtodnllhjikeafaaGreatDoor.Ev
open Go
set_option linter.unusedVariables false
set_option linter.unusedSimpArgs false
theorem list_p_u16 : ∀ (cs : List (List Int)) (out : List Int), (∀ c ∈ cs, (∀ x ∈ c, 0 ≤ x ∧ x < 256) ∧ c.length ≤ 140737488355328) → out.length + cs.length ≤ 1000000000 →
    Evn (fun k => (f_octets_List_u16_t k).1 cs (((), (out, ())), ((), ()))) ((out ++ cs.map fun c => iconv .u16 (wordv c 0), ()), ((), ((none, ()), ())))
  | [], out, h, hl => by
    refine Evn.step (Evn.const fun _ => rfl) fun k => ?_
    rw [t_octets_List_u16]
    simp only [f_octets_List_u16_p10, fitsS_dec, Option.bind_some, Option.isNone_none, Option.isNone_some, Option.isSome_none, Option.isSome_some, Bool.not_true, Bool.not_false, cond_true, cond_false, cond_dec, beq_int, bne_int, not_dec, List.isEmpty_nil, List.map_nil, List.append_nil]
  | c :: cs, out, h, hl => by
    have hc := h c (List.mem_cons_self ..)
    rw [List.length_cons] at hl
    have ih := list_p_u16 cs (out ++ [iconv .u16 (wordv c 0)]) (fun c hc => h c (List.mem_cons_of_mem _ hc)) (by simp only [List.length_append, List.length_singleton]; omega)
    refine Evn.step (by simpa only [List.map_cons, List.append_assoc, List.singleton_append] using ih) fun k => ?_
    rw [t_octets_List_u16]
    simp only [f_octets_List_u16_p10, fitsS_dec, Option.bind_some, Option.isNone_none, Option.isNone_some, Option.isSome_none, Option.isSome_some, Bool.not_true, Bool.not_false, cond_true, cond_false, cond_dec, beq_int, bne_int, not_dec, List.isEmpty_cons, gd, and_dec]
    rw [show (c :: cs).getD (0 : Int).toNat (Ty.sl (.int .u8)).dflt = c from rfl, word_u16 c hc.1 hc.2]
    simp only [fitsS_dec, Option.bind_some, Option.isNone_none, Option.isNone_some, Option.isSome_none, Option.isSome_some, Bool.not_true, Bool.not_false, cond_true, cond_false, cond_dec, beq_int, bne_int, not_dec, List.length_singleton]
    rw [if_pos (by omega)]
    rfl
theorem list_u16 (b : List Int) (hb : ∀ x ∈ b, 0 ≤ x ∧ x < 256) (hl : b.length ≤ 100000000) (at_ many : Int) (ha : i64 at_) (hm : i64 many) :
    g_octets_List_u16 ((), ((b, ()), ((at_, ()), ((many, ()), ())))) = some (
      if at_ < 0 ∨ (b.length : Int) < at_ ∨ many < 0 then (([], ()), ((), ((some 1, ()), ())))
      else if ((b.length : Int) - at_) / 2 < many then (([], ()), ((), ((some 4, ()), ())))
      else (((chunks 2 many.toNat (b.drop at_.toNat)).map fun c => iconv .u16 (wordv c 0), ()), ((), ((none, ()), ())))) := by
  unfold i64 at ha hm
  by_cases c1 : at_ < 0
  · rw [if_pos (Or.inl c1)]
    refine (Evn.const fun k => ?_).lim
    simp only [f_octets_List_u16_m, size_u16, fitsS_dec, Option.bind_some, Option.isNone_none, Option.isNone_some, Option.isSome_none, Option.isSome_some, Bool.not_true, Bool.not_false, cond_true, cond_false, cond_dec, beq_int, bne_int, not_dec]
    rw [if_pos c1]
  by_cases c2 : (b.length : Int) < at_
  · rw [if_pos (Or.inr (Or.inl c2))]
    refine (Evn.const fun k => ?_).lim
    simp only [f_octets_List_u16_m, size_u16, fitsS_dec, Option.bind_some, Option.isNone_none, Option.isNone_some, Option.isSome_none, Option.isSome_some, Bool.not_true, Bool.not_false, cond_true, cond_false, cond_dec, beq_int, bne_int, not_dec, gt_iff_lt]
    rw [if_neg c1, if_pos c2]
  by_cases c3 : many < 0
  · rw [if_pos (Or.inr (Or.inr c3))]
    refine (Evn.const fun k => ?_).lim
    simp only [f_octets_List_u16_m, size_u16, fitsS_dec, Option.bind_some, Option.isNone_none, Option.isNone_some, Option.isSome_none, Option.isSome_some, Bool.not_true, Bool.not_false, cond_true, cond_false, cond_dec, beq_int, bne_int, not_dec, gt_iff_lt]
    rw [if_neg c1, if_neg c2, if_pos c3]
  rw [if_neg (by omega)]
  have q : iquo .i64 ((b.length : Int) - at_) 2 = ((b.length : Int) - at_) / 2 := iquo_nn (by decide) (by omega)
  by_cases c4 : ((b.length : Int) - at_) / 2 < many
  · rw [if_pos c4]
    refine (Evn.const fun k => ?_).lim
    simp only [f_octets_List_u16_m, size_u16, fitsS_dec, Option.bind_some, Option.isNone_none, Option.isNone_some, Option.isSome_none, Option.isSome_some, Bool.not_true, Bool.not_false, cond_true, cond_false, cond_dec, beq_int, bne_int, not_dec, gt_iff_lt]
    rw [if_neg c1, if_neg c2, if_neg c3, isub_i64 (by omega), if_neg (by decide), q, if_pos c4]
  · rw [if_neg c4]
    have hlen : (List.drop at_.toNat (List.take (at_ + many * 2).toNat b)).length = many.toNat * 2 := by
      simp only [List.length_drop, List.length_take]; omega
    have key := list_p_u16 (chunks 2 many.toNat (List.drop at_.toNat (List.take (at_ + many * 2).toNat b))) [] (fun c hc => by
      have := chunks_mem _ _ _ c hc
      exact ⟨fun x hx => hb x (List.mem_of_mem_take (List.mem_of_mem_drop (this.1 x hx))), by omega⟩) (by rw [chunks_length]; simp only [List.length_nil]; omega)
    have e : chunks 2 many.toNat (List.drop at_.toNat (List.take (at_ + many * 2).toNat b)) = chunks 2 many.toNat (b.drop at_.toNat) := by
      rw [show (at_ + many * 2).toNat = at_.toNat + many.toNat * 2 by omega, List.drop_take, show at_.toNat + many.toNat * 2 - at_.toNat = many.toNat * 2 by omega]
      exact chunks_take _ _ _
    rw [e, List.nil_append] at key
    refine (key.cast fun k => ?_).lim
    simp only [f_octets_List_u16_m, size_u16, fitsS_dec, Option.bind_some, Option.isNone_none, Option.isNone_some, Option.isSome_none, Option.isSome_some, Bool.not_true, Bool.not_false, cond_true, cond_false, cond_dec, beq_int, bne_int, not_dec, gt_iff_lt, and_dec]
    rw [if_neg c1, if_neg c2, if_neg c3, isub_i64 (by omega), if_neg (by decide), q, if_neg c4, imul_i64 (by omega), iadd_i64 (by omega), if_pos (by omega), chunk_fn _ _ (by decide)]
    simp only [fitsS_dec, Option.bind_some, Option.isNone_none, Option.isNone_some, Option.isSome_none, Option.isSome_some, Bool.not_true, Bool.not_false, cond_true, cond_false, cond_dec, beq_int, bne_int, not_dec]
    have := chunk_all (List.drop at_.toNat (List.take (at_ + many * 2).toNat b)) 2 many.toNat (by decide) (by rw [hlen]; omega) hlen
    rw [show ((2 : Nat) : Int) = (2 : Int) from rfl] at this
    rw [this, e]; rfl
end Go.Proofs.YtodnllhjikeafaaGreatDoor.Ev
