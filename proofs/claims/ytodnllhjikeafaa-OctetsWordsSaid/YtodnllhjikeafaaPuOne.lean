/- Words at a place, by the reference. -/
import Derived.Test.YtodnllhjikeafaaPuWordv
import Derived.Test.YtodnllhjikeafaaPuChunk
import Derived.Test.YtodnllhjikeafaaPuNum
import Derived.Test.YtodnllhjikeafaaPuNumber
namespace Go.Proofs.Ytodnllhjikeafaa.Ev
open Go
set_option linter.unusedVariables false
set_option linter.unusedSimpArgs false
/-- The error's number of a word at a place. -/
def wE (b : List Int) (at_ : Int) (s : Nat) : Int := if at_ < 0 ∨ (b.length : Int) < at_ then 1 else if (b.length : Int) - at_ < s then 4 else 0
def wV (b : List Int) (at_ : Int) (s : Nat) : Int := if wE b at_ s = 0 then wordv ((b.drop at_.toNat).take s) 0 else 0
theorem wE_zero {b : List Int} {at_ : Int} {s : Nat} : wE b at_ s = 0 ↔ 0 ≤ at_ ∧ at_ + s ≤ b.length := by
  unfold wE
  by_cases c1 : at_ < 0 ∨ (b.length : Int) < at_
  · rw [if_pos c1]; constructor
    · intro h; cases h
    · intro h; omega
  · rw [if_neg c1]
    by_cases c2 : (b.length : Int) - at_ < s
    · rw [if_pos c2]; constructor
      · intro h; cases h
      · intro h; omega
    · rw [if_neg c2]; constructor
      · intro _; omega
      · intro _; rfl
theorem wV_range {b : List Int} (hb : bytesL b) {at_ : Int} {s : Nat} (hs : s ≤ 8) : 0 ≤ wV b at_ s ∧ wV b at_ s < 256 ^ s := by
  unfold wV
  by_cases c : wE b at_ s = 0
  · rw [if_pos c]
    have := wE_zero.1 c
    have hl : ((b.drop at_.toNat).take s).length = s := by simp only [List.length_take, List.length_drop]; omega
    have := wordv_lt (l := (b.drop at_.toNat).take s) (fun x hx => hb x (List.mem_of_mem_drop (List.mem_of_mem_take hx))) (by omega)
    rw [hl] at this; exact this
  · rw [if_neg c]; exact ⟨Int.le_refl _, Int.pow_pos (by decide)⟩
theorem ref03_get (b : List Int) (hb : bytesL b) (hl : b.length ≤ 100000) (at_ : Int) (s : Nat) (hs : s ≤ 8) : g_ref03_Get ((), ((b, ()), ((at_, ()), (((s : Int), ()), ())))) = some ((), ((wV b at_ s, ()), ((wE b at_ s, ()), ()))) := by
  simp only [g_ref03_Get, f_ref03_Get_m, g_ref03_Part, f_ref03_Part_m, fitsS_dec, Option.bind_some, Option.isNone_none, Option.isNone_some, Option.isSome_none, Option.isSome_some, Bool.not_true, Bool.not_false, cond_true, cond_false, cond_dec, beq_int, bne_int, not_dec, gt_iff_lt, and_dec]
  by_cases c1 : at_ < 0
  · have e : wE b at_ s = 1 := if_pos (.inl c1)
    unfold wV
    rw [e, if_pos c1]; rfl
  rw [if_neg c1, if_neg (by omega)]
  by_cases c2 : (b.length : Int) < at_
  · have e : wE b at_ s = 1 := if_pos (.inr c2)
    unfold wV
    rw [e, if_pos c2]; rfl
  rw [if_neg c2, if_pos (by omega)]
  have e1 : List.drop at_.toNat (List.take (Int.toNat (b.length : Int)) b) = b.drop at_.toNat := by
    rw [show Int.toNat (b.length : Int) = b.length by omega, List.take_length]
  simp only [e1, List.length_drop]
  by_cases c3 : (b.length : Int) - at_ < s
  · have e : wE b at_ s = 4 := by unfold wE; rw [if_neg (by omega), if_pos c3]
    unfold wV
    rw [e, if_pos (by omega)]; rfl
  · have e : wE b at_ s = 0 := by unfold wE; rw [if_neg (by omega), if_neg c3]
    have hv := ref03_value ((b.drop at_.toNat).take s) (fun x hx => hb x (List.mem_of_mem_drop (List.mem_of_mem_take hx))) (by simp only [List.length_take, List.length_drop]; omega)
    unfold wV
    rw [e, if_neg (by omega), if_pos (by omega), if_pos rfl]
    simp only [fitsS_dec, Option.bind_some, Option.isNone_none, Option.isNone_some, Option.isSome_none, Option.isSome_some, Bool.not_true, Bool.not_false, cond_true, cond_false, cond_dec, beq_int, bne_int, not_dec, Int.toNat_natCast, show Int.toNat 0 = 0 from rfl, List.drop_zero, hv, not_true_eq_false, if_false, ne_eq]
theorem chunks_get (s : Nat) : ∀ (m : Nat) (b : List Int) (i : Nat), i < m → (chunks s m b)[i]? = some ((b.drop (i * s)).take s)
  | 0, _, _, h => by omega
  | m + 1, b, 0, _ => by rw [chunks, Nat.zero_mul, List.drop_zero]; rfl
  | m + 1, b, i + 1, h => by
    rw [chunks, List.getElem?_cons_succ, chunks_get s m _ i (by omega), List.drop_drop, Nat.succ_mul, Nat.add_comm]
theorem own_num (c : Int) : g_hnum_Num ((), ((errOf c, ()), ())) = some ((), ((c, ()), ())) := by
  simp only [g_hnum_Num, f_hnum_Num_m, errOf]
  by_cases h : c = 0
  · subst h; rfl
  · rw [if_neg h]
    simp only [fitsS_dec, Option.bind_some, Option.isNone_none, Option.isNone_some, Option.isSome_none, Option.isSome_some, Bool.not_true, Bool.not_false, cond_true, cond_false, cond_dec, beq_int, bne_int, not_dec, Option.getD_some]
    rw [if_pos h]
end Go.Proofs.Ytodnllhjikeafaa.Ev
