/- Codes of four bytes. -/
import Derived.Test.YtodnllhjikeafaaGreatDoorPuStr
import Derived.Test.YtodnllhjikeafaaGreatDoorEvG
namespace Go.Proofs.YtodnllhjikeafaaGreatDoor.Ev
open Go
set_option linter.unusedVariables false
set_option linter.unusedSimpArgs false
@[reducible] def rcoded (x : Int) : Prop := (33 ≤ x ∧ x ≤ 126) ∧ x ≠ 46
def codeV (l : List Int) : Int × (Int × (Int × (Int × Unit))) := (l.getD 0 0, (l.getD 1 0, (l.getD 2 0, (l.getD 3 0, ()))))
theorem refid_coded (x : Int) : g_refid_coded ((), ((x, ()), ())) = some ((), ((decide (rcoded x), ()), ())) := by
  simp only [g_refid_coded, f_refid_coded_m, fitsS_dec, Option.bind_some, Option.isNone_none, Option.isNone_some, Option.isSome_none, Option.isSome_some, Bool.not_true, Bool.not_false, cond_true, cond_false, cond_dec, beq_int, bne_int, not_dec, ge_iff_le]
  by_cases c1 : 33 ≤ x
  · rw [if_pos c1]
    by_cases c2 : x ≤ 126
    · rw [if_pos c2]; congr 4; simp [rcoded, c1, c2]
    · rw [if_neg c2]; congr 4; simp [rcoded, c2]
  · rw [if_neg c1]; congr 4; simp [rcoded, c1]
theorem by_mid {s : ByteArray} {l r : List Int} {x : Int} (h : bytesOf s = l ++ x :: r) : bt s (l.length : Int) = x ∧ (l.length : Int) < s.size := by
  have hl := by_len s
  rw [h, List.length_append, List.length_cons] at hl
  have h1 : (l.length : Int) < s.size := by omega
  refine ⟨?_, h1⟩
  rw [by_at s (by omega) h1, h, Int.toNat_natCast, List.getD_eq_getElem?_getD, List.getElem?_append_right (Nat.le_refl _), Nat.sub_self]
  rfl
theorem codeV_snoc (l : List Int) (x : Int) (h : l.length < 4) : codeV (l ++ [x]) = (if l.length = 0 then x else (codeV l).1, (if l.length = 1 then x else (codeV l).2.1, (if l.length = 2 then x else (codeV l).2.2.1, (if l.length = 3 then x else (codeV l).2.2.2.1, ())))) := by
  match l, h with
  | [], _ => rfl
  | [a], _ => rfl
  | [a, b], _ => rfl
  | [a, b, c], _ => rfl
theorem code_p7 (s : ByteArray) (hs : s.size ≤ 4) : ∀ (r l : List Int), bytesOf s = l ++ r →
    Evn (fun k => (f_refid_Code_t k).1 (((0, (0, (0, (0, ())))), (codeV l, ())), ((s, ()), ((), ((), (((s.size : Int), ()), (((l.length : Int), ()), ()))))))) ((), (if ∀ x ∈ r, rcoded x then (codeV (l ++ r), ((none, ()), ())) else ((0, (0, (0, (0, ())))), ((some 2, ()), ()))))
  | [], l, h => by
    have hl := by_len s
    rw [h, List.append_nil] at hl
    refine Evn.some 1 fun k => ?_
    rw [t_refid_Code]
    simp only [f_refid_Code_p7, fitsS_dec, Option.bind_some, Option.isNone_none, Option.isNone_some, Option.isSome_none, Option.isSome_some, Bool.not_true, Bool.not_false, cond_true, cond_false, cond_dec, beq_int, bne_int, not_dec]
    rw [if_neg (by omega), if_pos (by simp), List.append_nil]
  | x :: r, l, h => by
    have hl := by_len s
    rw [h, List.length_append, List.length_cons] at hl
    obtain ⟨hx, hlt⟩ := by_mid h
    by_cases c : rcoded x
    · have ih := code_p7 s hs r (l ++ [x]) (by rw [h, List.append_assoc]; rfl)
      have e : (∀ y ∈ x :: r, rcoded y) ↔ (∀ y ∈ r, rcoded y) := by
        constructor
        · intro q y hy; exact q y (List.mem_cons_of_mem _ hy)
        · intro q y hy; rcases List.mem_cons.1 hy with rfl | hy
          · exact c
          · exact q y hy
      simp only [e, List.append_assoc, List.singleton_append] at ih ⊢
      refine ih.step fun k => ?_
      rw [t_refid_Code, codeV_snoc l x (by omega)]
      simp only [f_refid_Code_p7, fitsS_dec, Option.bind_some, Option.isNone_none, Option.isNone_some, Option.isSome_none, Option.isSome_some, Bool.not_true, Bool.not_false, cond_true, cond_false, cond_dec, beq_int, bne_int, not_dec, and_dec, hx, refid_coded, decide_eq_true c, List.length_append, List.length_singleton]
      rw [if_pos hlt, if_pos (by omega), if_pos (by omega), if_pos (by omega), iadd_i64 (by omega)]
      have : l.length = 0 ∨ l.length = 1 ∨ l.length = 2 ∨ l.length = 3 := by omega
      rcases this with q | q | q | q <;> simp [q] <;> rfl
    · have e : ¬ (∀ y ∈ x :: r, rcoded y) := fun q => c (q x (List.mem_cons_self ..))
      rw [if_neg e]
      refine Evn.some 1 fun k => ?_
      rw [t_refid_Code]
      simp only [f_refid_Code_p7, fitsS_dec, Option.bind_some, Option.isNone_none, Option.isNone_some, Option.isSome_none, Option.isSome_some, Bool.not_true, Bool.not_false, cond_true, cond_false, cond_dec, beq_int, bne_int, not_dec, and_dec, hx, refid_coded, decide_eq_false c]
      rw [if_pos hlt, if_pos (by omega)]
def codeOk (l : List Int) : Prop := (1 ≤ l.length ∧ l.length ≤ 4) ∧ ∀ x ∈ l, rcoded x
instance (l : List Int) : Decidable (codeOk l) := by unfold codeOk; infer_instance
theorem refid_code (s : ByteArray) (hs : s.size ≤ 1000000) : g_refid_Code ((), ((s, ()), ())) = some ((), (if codeOk (bytesOf s) then (codeV (bytesOf s), ((none, ()), ())) else ((0, (0, (0, (0, ())))), ((some 2, ()), ())))) := by
  have hl := by_len s
  by_cases c1 : s.size < 1
  · have e : ¬ codeOk (bytesOf s) := fun q => by have := q.1.1; omega
    rw [if_neg e]
    refine (Evn.const fun k => ?_).lim
    simp only [f_refid_Code_m, fitsS_dec, Option.bind_some, Option.isNone_none, Option.isNone_some, Option.isSome_none, Option.isSome_some, Bool.not_true, Bool.not_false, cond_true, cond_false, cond_dec, beq_int, bne_int, not_dec, gt_iff_lt]
    rw [if_pos (by omega)]
  by_cases c2 : 4 < s.size
  · have e : ¬ codeOk (bytesOf s) := fun q => by have := q.1.2; omega
    rw [if_neg e]
    refine (Evn.const fun k => ?_).lim
    simp only [f_refid_Code_m, fitsS_dec, Option.bind_some, Option.isNone_none, Option.isNone_some, Option.isSome_none, Option.isSome_some, Bool.not_true, Bool.not_false, cond_true, cond_false, cond_dec, beq_int, bne_int, not_dec, gt_iff_lt]
    rw [if_neg (by omega), if_pos (by omega)]
  have key := code_p7 s (by omega) (bytesOf s) [] rfl
  have e : (∀ x ∈ bytesOf s, rcoded x) ↔ codeOk (bytesOf s) := by
    unfold codeOk; constructor
    · intro q; exact ⟨by omega, q⟩
    · intro q; exact q.2
  simp only [e, List.nil_append] at key
  refine (key.cast fun k => ?_).lim
  simp only [f_refid_Code_m, fitsS_dec, Option.bind_some, Option.isNone_none, Option.isNone_some, Option.isSome_none, Option.isSome_some, Bool.not_true, Bool.not_false, cond_true, cond_false, cond_dec, beq_int, bne_int, not_dec, gt_iff_lt]
  rw [if_neg (by omega), if_neg (by omega)]
  rfl
theorem rcode_p7 (s : ByteArray) (hs : s.size ≤ 4) : ∀ (r l : List Int), bytesOf s = l ++ r →
    Evn (fun k => (f_ref30_Code_t k).1 (((0, (0, (0, (0, ())))), (codeV l, ())), ((s, ()), ((), ((), (((l.length : Int), ()), ())))))) ((), (if ∀ x ∈ r, rcoded x then (codeV (l ++ r), ((0, ()), ())) else ((0, (0, (0, (0, ())))), ((2, ()), ()))))
  | [], l, h => by
    have hl := by_len s
    rw [h, List.append_nil] at hl
    refine Evn.some 1 fun k => ?_
    rw [t_ref30_Code]
    simp only [f_ref30_Code_p7, fitsS_dec, Option.bind_some, Option.isNone_none, Option.isNone_some, Option.isSome_none, Option.isSome_some, Bool.not_true, Bool.not_false, cond_true, cond_false, cond_dec, beq_int, bne_int, not_dec]
    rw [if_neg (by omega), if_pos (by simp), List.append_nil]
  | x :: r, l, h => by
    have hl := by_len s
    rw [h, List.length_append, List.length_cons] at hl
    obtain ⟨hx, hlt⟩ := by_mid h
    by_cases c : rcoded x
    · have ih := rcode_p7 s hs r (l ++ [x]) (by rw [h, List.append_assoc]; rfl)
      have e : (∀ y ∈ x :: r, rcoded y) ↔ (∀ y ∈ r, rcoded y) := by
        constructor
        · intro q y hy; exact q y (List.mem_cons_of_mem _ hy)
        · intro q y hy; rcases List.mem_cons.1 hy with rfl | hy
          · exact c
          · exact q y hy
      simp only [e, List.append_assoc, List.singleton_append] at ih ⊢
      refine ih.step fun k => ?_
      rw [t_ref30_Code, codeV_snoc l x (by omega)]
      simp only [f_ref30_Code_p7, fitsS_dec, Option.bind_some, Option.isNone_none, Option.isNone_some, Option.isSome_none, Option.isSome_some, Bool.not_true, Bool.not_false, cond_true, cond_false, cond_dec, beq_int, bne_int, not_dec, and_dec, hx, gt_iff_lt, List.length_append, List.length_singleton]
      rw [if_pos hlt, if_pos (by omega), if_neg (by omega), if_pos (by omega), if_neg (by omega), if_pos (by omega), if_neg c.2, if_pos (by omega), if_pos (by omega), iadd_i64 (by omega)]
      have : l.length = 0 ∨ l.length = 1 ∨ l.length = 2 ∨ l.length = 3 := by omega
      rcases this with q | q | q | q <;> simp [q] <;> rfl
    · have e : ¬ (∀ y ∈ x :: r, rcoded y) := fun q => c (q x (List.mem_cons_self ..))
      rw [if_neg e]
      refine Evn.some 1 fun k => ?_
      rw [t_ref30_Code]
      simp only [f_ref30_Code_p7, fitsS_dec, Option.bind_some, Option.isNone_none, Option.isNone_some, Option.isSome_none, Option.isSome_some, Bool.not_true, Bool.not_false, cond_true, cond_false, cond_dec, beq_int, bne_int, not_dec, and_dec, hx, gt_iff_lt]
      rw [if_pos hlt, if_pos (by omega)]
      by_cases d1 : x < 33
      · rw [if_pos d1]
      rw [if_neg d1, if_pos (by omega)]
      by_cases d2 : 126 < x
      · rw [if_pos d2]
      rw [if_neg d2, if_pos (by omega), if_pos (by unfold rcoded at c; omega)]
theorem ref30_code (s : ByteArray) (hs : s.size ≤ 1000000) : g_ref30_Code ((), ((s, ()), ())) = some ((), (if codeOk (bytesOf s) then (codeV (bytesOf s), ((0, ()), ())) else ((0, (0, (0, (0, ())))), ((2, ()), ())))) := by
  have hl := by_len s
  by_cases c1 : s.size < 1
  · have e : ¬ codeOk (bytesOf s) := fun q => by have := q.1.1; omega
    rw [if_neg e]
    refine (Evn.const fun k => ?_).lim
    simp only [f_ref30_Code_m, fitsS_dec, Option.bind_some, Option.isNone_none, Option.isNone_some, Option.isSome_none, Option.isSome_some, Bool.not_true, Bool.not_false, cond_true, cond_false, cond_dec, beq_int, bne_int, not_dec, gt_iff_lt]
    rw [if_pos (by omega)]
  by_cases c2 : 4 < s.size
  · have e : ¬ codeOk (bytesOf s) := fun q => by have := q.1.2; omega
    rw [if_neg e]
    refine (Evn.const fun k => ?_).lim
    simp only [f_ref30_Code_m, fitsS_dec, Option.bind_some, Option.isNone_none, Option.isNone_some, Option.isSome_none, Option.isSome_some, Bool.not_true, Bool.not_false, cond_true, cond_false, cond_dec, beq_int, bne_int, not_dec, gt_iff_lt]
    rw [if_neg (by omega), if_pos (by omega)]
  have key := rcode_p7 s (by omega) (bytesOf s) [] rfl
  have e : (∀ x ∈ bytesOf s, rcoded x) ↔ codeOk (bytesOf s) := by
    unfold codeOk; constructor
    · intro q; exact ⟨by omega, q⟩
    · intro q; exact q.2
  simp only [e, List.nil_append] at key
  refine (key.cast fun k => ?_).lim
  simp only [f_ref30_Code_m, fitsS_dec, Option.bind_some, Option.isNone_none, Option.isNone_some, Option.isSome_none, Option.isSome_some, Bool.not_true, Bool.not_false, cond_true, cond_false, cond_dec, beq_int, bne_int, not_dec, gt_iff_lt]
  rw [if_neg (by omega), if_neg (by omega)]
  rfl
end Go.Proofs.YtodnllhjikeafaaGreatDoor.Ev
