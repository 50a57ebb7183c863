/- Twelve counts. -/
import Derived.Test.YtfhaifiipjfffaaGreatDoorPuBig
import Derived.Test.YtfhaifiipjfffaaGreatDoorPuNum
import Derived.Test.YtfhaifiipjfffaaGreatDoorPuNn
namespace Go.Proofs.YtfhaifiipjfffaaGreatDoor.Ev
open Go
set_option linter.unusedVariables false
set_option linter.unusedSimpArgs false
set_option maxRecDepth 4000
@[reducible] def tU (m : List Int) : Int × (Int × (Int × (Int × (Int × (Int × (Int × (Int × (Int × (Int × (Int × (Int × (Unit)))))))))))) := (m.getD 0 0, (m.getD 1 0, (m.getD 2 0, (m.getD 3 0, (m.getD 4 0, (m.getD 5 0, (m.getD 6 0, (m.getD 7 0, (m.getD 8 0, (m.getD 9 0, (m.getD 10 0, (m.getD 11 0, ()))))))))))))
@[reducible] def tN (m : List Int) : Int × (Int × (Int × (Int × (Int × (Int × (Int × (Int × (Int × (Int × (Int × (Int))))))))))) := (m.getD 0 0, (m.getD 1 0, (m.getD 2 0, (m.getD 3 0, (m.getD 4 0, (m.getD 5 0, (m.getD 6 0, (m.getD 7 0, (m.getD 8 0, (m.getD 9 0, (m.getD 10 0, m.getD 11 0)))))))))))
theorem l12 {m : List Int} (h : m.length = 12) : ∃ a0 a1 a2 a3 a4 a5 a6 a7 a8 a9 a10 a11 : Int, m = [a0, a1, a2, a3, a4, a5, a6, a7, a8, a9, a10, a11] := by
  match m, h with
  | [a0, a1, a2, a3, a4, a5, a6, a7, a8, a9, a10, a11], _ => exact ⟨a0, a1, a2, a3, a4, a5, a6, a7, a8, a9, a10, a11, rfl⟩
theorem kinds {k : Int} (h : 1 ≤ k ∧ k ≤ 12) : k = 1 ∨ k = 2 ∨ k = 3 ∨ k = 4 ∨ k = 5 ∨ k = 6 ∨ k = 7 ∨ k = 8 ∨ k = 9 ∨ k = 10 ∨ k = 11 ∨ k = 12 := by omega
theorem places {k : Int} (h : 0 ≤ k ∧ k < 12) : k = 0 ∨ k = 1 ∨ k = 2 ∨ k = 3 ∨ k = 4 ∨ k = 5 ∨ k = 6 ∨ k = 7 ∨ k = 8 ∨ k = 9 ∨ k = 10 ∨ k = 11 := by omega
theorem isub_kinds : isub .i64 (1 : Int) 1 = 0 ∧ isub .i64 (2 : Int) 1 = 1 ∧ isub .i64 (3 : Int) 1 = 2 ∧ isub .i64 (4 : Int) 1 = 3 ∧ isub .i64 (5 : Int) 1 = 4 ∧ isub .i64 (6 : Int) 1 = 5 ∧ isub .i64 (7 : Int) 1 = 6 ∧ isub .i64 (8 : Int) 1 = 7 ∧ isub .i64 (9 : Int) 1 = 8 ∧ isub .i64 (10 : Int) 1 = 9 ∧ isub .i64 (11 : Int) 1 = 10 ∧ isub .i64 (12 : Int) 1 = 11 := by
  refine ⟨?_, ?_, ?_, ?_, ?_, ?_, ?_, ?_, ?_, ?_, ?_, ?_⟩ <;> kernel_rfl
/-- A count. -/
def cntK (m : List Int) (k : Int) : Int := if 1 ≤ k ∧ k ≤ 12 then m.getD (k - 1).toNat 0 else 0
def addE (m : List Int) (k b : Int) : Int := if ¬ (1 ≤ k ∧ k ≤ 12) then 11 else if b < 0 then 1 else if 9223372036854775807 < cntK m k + b then 5 else 0
def addM (m : List Int) (k b : Int) : List Int := if addE m k b = 0 then m.set (k - 1).toNat (cntK m k + b) else m
/-- Twelve counts, none below nought. -/
def cntOk (m : List Int) : Prop := m.length = 12 ∧ ∀ x ∈ m, 0 ≤ x ∧ x ≤ 9223372036854775807
theorem cnt_range {m : List Int} (h : cntOk m) (k : Int) : 0 ≤ cntK m k ∧ cntK m k ≤ 9223372036854775807 := by
  unfold cntK
  by_cases c : 1 ≤ k ∧ k ≤ 12
  · rw [if_pos c, List.getD_eq_getElem?_getD, List.getElem?_eq_getElem (by have := h.1; omega)]
    exact h.2 _ (List.getElem_mem _)
  · rw [if_neg c]; decide
theorem addM_ok {m : List Int} (h : cntOk m) (k b : Int) : cntOk (addM m k b) := by
  unfold addM
  by_cases c : addE m k b = 0
  · rw [if_pos c]
    refine ⟨by rw [List.length_set]; exact h.1, fun x hx => ?_⟩
    have hr := cnt_range h k
    unfold addE at c
    rcases List.mem_or_eq_of_mem_set hx with q | q
    · exact h.2 x q
    · subst q
      split at c
      · exact absurd c (by decide)
      split at c
      · exact absurd c (by decide)
      split at c
      · exact absurd c (by decide)
      omega
  · rw [if_neg c]; exact h
theorem known_eq (k : Int) : g_tally_known ((), ((k, ()), ())) = some ((), ((decide (1 ≤ k ∧ k ≤ 12), ()), ())) := by
  simp only [g_tally_known, f_tally_known_m, fitsS_dec, Option.bind_some, Option.isNone_none, Option.isNone_some, Option.isSome_none, Option.isSome_some, Bool.not_true, Bool.not_false, cond_true, cond_false, cond_dec, beq_int, bne_int, not_dec, ge_iff_le]
  by_cases c1 : 1 ≤ k
  · rw [if_pos c1]; congr 4; simp [c1]
  · rw [if_neg c1]; congr 4; simp [c1]
theorem tally_all (m : List Int) : g_tally_Tally_All ((), ((some (tN m), ()), ())) = some ((), (tU m, ())) := by
  simp only [g_tally_Tally_All, f_tally_Tally_All_m, fitsS_dec, Option.bind_some, Option.isNone_none, Option.isNone_some, Option.isSome_none, Option.isSome_some, Bool.not_true, Bool.not_false, cond_true, cond_false, cond_dec, beq_int, bne_int, not_dec, tU, tN]
theorem tally_count (m : List Int) (k : Int) : g_tally_Tally_Count ((), ((some (tN m), ()), ((k, ()), ()))) = some ((), ((cntK m k, ()), ())) := by
  obtain ⟨s1, s2, s3, s4, s5, s6, s7, s8, s9, s10, s11, s12⟩ := isub_kinds
  simp only [g_tally_Tally_Count, f_tally_Tally_Count_m, known_eq, tally_all, fitsS_dec, Option.bind_some, Option.isNone_none, Option.isNone_some, Option.isSome_none, Option.isSome_some, Bool.not_true, Bool.not_false, cond_true, cond_false, cond_dec, beq_int, bne_int, not_dec, and_dec]
  unfold cntK
  by_cases c : 1 ≤ k ∧ k ≤ 12
  · rcases kinds c with rfl | rfl | rfl | rfl | rfl | rfl | rfl | rfl | rfl | rfl | rfl | rfl <;> simp only [s1, s2, s3, s4, s5, s6, s7, s8, s9, s10, s11, s12, tU, Int.reduceLT, Int.reduceLE, Int.reduceEq, Int.reduceGT, Int.reduceSub, Int.reduceAdd, gt_iff_lt, ge_iff_le, if_true, if_false, and_self, and_true, true_and, not_true_eq_false] <;> rfl
  · simp [c]
theorem same_list {a b : List Int} (ha : a.length = 12) (hb : b.length = 12) : ((a.getD 0 0 == b.getD 0 0) && ((a.getD 1 0 == b.getD 1 0) && ((a.getD 2 0 == b.getD 2 0) && ((a.getD 3 0 == b.getD 3 0) && ((a.getD 4 0 == b.getD 4 0) && ((a.getD 5 0 == b.getD 5 0) && ((a.getD 6 0 == b.getD 6 0) && ((a.getD 7 0 == b.getD 7 0) && ((a.getD 8 0 == b.getD 8 0) && ((a.getD 9 0 == b.getD 9 0) && ((a.getD 10 0 == b.getD 10 0) && ((a.getD 11 0 == b.getD 11 0) &&  true)))))))))))) = decide (a = b) := by
  obtain ⟨a0, a1, a2, a3, a4, a5, a6, a7, a8, a9, a10, a11, rfl⟩ := l12 ha
  obtain ⟨b0, b1, b2, b3, b4, b5, b6, b7, b8, b9, b10, b11, rfl⟩ := l12 hb
  rw [Bool.eq_iff_iff]
  simp
theorem tally_same {a b : List Int} (ha : a.length = 12) (hb : b.length = 12) : g_tally_Same ((), ((some (tN a), ()), ((some (tN b), ()), ()))) = some ((), ((decide (a = b), ()), ())) := by
  have e := same_list ha hb
  simp only [g_tally_Same, f_tally_Same_m, Option.isNone_some, cond_false, Option.bind_some, tN]
  rw [e]
theorem tally_add {m : List Int} (h : cntOk m) (k b : Int) (hb : i64 b) : g_tally_Tally_Add_io ((tU m, ()), ((), ((k, ()), ((b, ()), ())))) = some ((tU (addM m k b), ()), ((errOf (addE m k b), ()), ((), ()))) := by
  have hr := cnt_range h k
  have hn := num_add (cntK m k) b (by unfold i64; omega) hb
  obtain ⟨hl, _⟩ := h
  obtain ⟨a0, a1, a2, a3, a4, a5, a6, a7, a8, a9, a10, a11, rfl⟩ := l12 hl
  obtain ⟨s1, s2, s3, s4, s5, s6, s7, s8, s9, s10, s11, s12⟩ := isub_kinds
  refine (Evn.some (F := fun f => f_tally_Tally_Add_io_m (f_tally_Tally_Add_io_t f) ((tU [a0, a1, a2, a3, a4, a5, a6, a7, a8, a9, a10, a11], ()), ((), ((k, ()), ((b, ()), ()))))) 3 fun f => ?_).lim
  simp only [f_tally_Tally_Add_io_m, t_tally_Tally_Add_io, f_tally_Tally_Add_io_p8, f_tally_Tally_Add_io_p12, f_tally_Tally_Add_io_p13, known_eq, fitsS_dec, Option.bind_some, Option.isNone_none, Option.isNone_some, Option.isSome_none, Option.isSome_some, Bool.not_true, Bool.not_false, cond_true, cond_false, cond_dec, beq_int, bne_int, not_dec, and_dec]
  by_cases c : 1 ≤ k ∧ k ≤ 12
  · by_cases c2 : b < 0
    · have e : addE [a0, a1, a2, a3, a4, a5, a6, a7, a8, a9, a10, a11] k b = 1 := by unfold addE; rw [if_neg (not_not_intro c), if_pos c2]
      unfold addM
      rw [e]
      simp only [c, c2, Int.reduceLT, Int.reduceLE, Int.reduceEq, Int.reduceGT, Int.reduceSub, Int.reduceAdd, gt_iff_lt, ge_iff_le, if_true, if_false, and_self, and_true, true_and, not_true_eq_false]
      rfl
    · have e : addE [a0, a1, a2, a3, a4, a5, a6, a7, a8, a9, a10, a11] k b = if 9223372036854775807 < cntK [a0, a1, a2, a3, a4, a5, a6, a7, a8, a9, a10, a11] k + b then 5 else 0 := by unfold addE; rw [if_neg (not_not_intro c), if_neg c2]
      unfold addM
      rw [e]
      by_cases c3 : 9223372036854775807 < cntK [a0, a1, a2, a3, a4, a5, a6, a7, a8, a9, a10, a11] k + b
      · rw [if_neg (by unfold i64; omega), if_neg (by unfold i64; omega)] at hn
        rw [if_pos c3]
        rcases kinds c with rfl | rfl | rfl | rfl | rfl | rfl | rfl | rfl | rfl | rfl | rfl | rfl <;> (simp only [cntK, Int.reduceLT, Int.reduceLE, Int.reduceEq, Int.reduceGT, Int.reduceSub, Int.reduceAdd, gt_iff_lt, ge_iff_le, if_true, if_false, and_self, and_true, true_and, Int.reduceToNat, List.getD_cons_zero, List.getD_cons_succ] at hn; simp only [c2, s1, s2, s3, s4, s5, s6, s7, s8, s9, s10, s11, s12, tU, Int.reduceLT, Int.reduceLE, Int.reduceEq, Int.reduceGT, Int.reduceSub, Int.reduceAdd, gt_iff_lt, ge_iff_le, if_true, if_false, and_self, and_true, true_and, not_true_eq_false, List.getD_cons_zero, List.getD_cons_succ, hn, fitsS_dec, Option.bind_some, Option.isNone_none, Option.isNone_some, Option.isSome_none, Option.isSome_some, Bool.not_true, Bool.not_false, cond_true, cond_false, cond_dec, beq_int, bne_int, not_dec]; rfl)
      · rw [if_pos (by unfold i64; omega), if_pos (by unfold i64; omega)] at hn
        rw [if_neg c3]
        rcases kinds c with rfl | rfl | rfl | rfl | rfl | rfl | rfl | rfl | rfl | rfl | rfl | rfl <;> (simp only [cntK, Int.reduceLT, Int.reduceLE, Int.reduceEq, Int.reduceGT, Int.reduceSub, Int.reduceAdd, gt_iff_lt, ge_iff_le, if_true, if_false, and_self, and_true, true_and, Int.reduceToNat, List.getD_cons_zero, List.getD_cons_succ] at hn ⊢; simp only [c2, s1, s2, s3, s4, s5, s6, s7, s8, s9, s10, s11, s12, tU, Int.reduceLT, Int.reduceLE, Int.reduceEq, Int.reduceGT, Int.reduceSub, Int.reduceAdd, gt_iff_lt, ge_iff_le, if_true, if_false, and_self, and_true, true_and, not_true_eq_false, List.getD_cons_zero, List.getD_cons_succ, hn, fitsS_dec, Option.bind_some, Option.isNone_none, Option.isNone_some, Option.isSome_none, Option.isSome_some, Bool.not_true, Bool.not_false, cond_true, cond_false, cond_dec, beq_int, bne_int, not_dec]; rfl)
  · have e : addE [a0, a1, a2, a3, a4, a5, a6, a7, a8, a9, a10, a11] k b = 11 := by unfold addE; rw [if_pos c]
    unfold addM
    rw [e]
    simp only [c, Int.reduceLT, Int.reduceLE, Int.reduceEq, Int.reduceGT, Int.reduceSub, Int.reduceAdd, gt_iff_lt, ge_iff_le, if_true, if_false, and_self, and_true, true_and, not_false_eq_true]
    rfl
end Go.Proofs.YtfhaifiipjfffaaGreatDoor.Ev
