/- Addresses: the program and the reference read the same rows. -/
import Derived.Test.YtodnllhjikeafaaDoorPuRefidB
namespace Go.Proofs.YtodnllhjikeafaaDoor.Ev
open Go
set_option linter.unusedVariables false
set_option linter.unusedSimpArgs false
def isBad : X → Prop
  | .good _ => False
  | .bad _ _ => True
theorem bad_row {n : Nat} {x : X} (h : isBad x) : isBad (rowX n x).1 := by
  cases x with
  | good l => exact h.elim
  | bad j c =>
    unfold rowX
    split <;> exact trivial
theorem bad_pre {n i : Nat} {x : X} (h : isBad x) : isBad (preX n i x) := by
  cases x with
  | good l => exact h.elim
  | bad j c =>
    unfold preX
    split
    · exact trivial
    · split <;> exact trivial
theorem bad_end {x : X} (h : isBad x) : ¬ x.end = none := by
  cases x with
  | good l => exact h.elim
  | bad j c => simp [X.end]
theorem good_row {n : Nat} {l : List Int} (h : rowOk (l.take (lead l))) : rowX n (.good l) = (.good (l.drop (lead l)), val10 (l.take (lead l))) := by
  unfold rowX
  rw [if_pos (show rowOk (List.take (lead (X.good l).rest) (X.good l).rest) from h)]; rfl
theorem good_row_bad {n : Nat} {l : List Int} (h : ¬ rowOk (l.take (lead l))) : isBad (rowX n (.good l)).1 := by
  unfold rowX
  rw [if_neg (show ¬ rowOk (List.take (lead (X.good l).rest) (X.good l).rest) from h)]
  exact trivial
theorem good_pre {n i : Nat} {m : List Int} (hi : i ≠ 0) : preX n i (.good (46 :: m)) = .good m := by
  unfold preX
  rw [if_neg hi, if_pos (by simp [oneX, X.rest])]
  rfl
theorem good_pre_bad {n i : Nat} {l : List Int} (hi : i ≠ 0) (h : l.head? ≠ some 46) : isBad (preX n i (.good l)) := by
  unfold preX
  rw [if_neg hi, if_neg (show ¬ oneX 46 (.good l) = true from fun q => h (of_decide_eq_true q))]
  exact trivial
theorem dots_figs : ∀ (t cur m : List Int), (∀ x ∈ t, isF x) → dotsA cur (t ++ m) = dotsA (cur ++ t) m
  | [], cur, m, h => by rw [List.nil_append, List.append_nil]
  | x :: t, cur, m, h => by
    have hx := h x (List.mem_cons_self ..)
    unfold isF at hx
    rw [List.cons_append, dotsA, if_neg (by omega), dots_figs t (cur ++ [x]) m (fun y hy => h y (List.mem_cons_of_mem _ hy)), List.append_assoc]
    rfl
theorem dots_first : ∀ (m cur : List Int), ∃ w rest, dotsA cur m = (cur ++ w) :: rest
  | [], cur => ⟨[], [], by rw [List.append_nil]; rfl⟩
  | x :: m, cur => by
    unfold dotsA
    by_cases c : x = 46
    · rw [if_pos c]; exact ⟨[], _, by rw [List.append_nil]⟩
    · rw [if_neg c]
      obtain ⟨w, rest, e⟩ := dots_first m (cur ++ [x])
      exact ⟨x :: w, rest, by rw [e, List.append_assoc]; rfl⟩
/-- The rows of a text: its figures, and behind them nothing, a point or something else. -/
theorem dots_cases (l : List Int) : (l.drop (lead l) = [] ∧ dotsA [] l = [l.take (lead l)]) ∨ (∃ m, l.drop (lead l) = 46 :: m ∧ dotsA [] l = l.take (lead l) :: dotsA [] m) ∨
    ((l.drop (lead l)) ≠ [] ∧ (l.drop (lead l)).head? ≠ some 46 ∧ ∃ w rest, dotsA [] l = w :: rest ∧ ¬ rowOk w) := by
  have e := dots_figs (l.take (lead l)) [] (l.drop (lead l)) (lead_figs l)
  rw [List.take_append_drop, List.nil_append] at e
  cases h : l.drop (lead l) with
  | nil => rw [h] at e; exact .inl ⟨rfl, e⟩
  | cons y m =>
    rw [h] at e
    by_cases c : y = 46
    · subst c
      rw [dotsA, if_pos rfl] at e
      exact .inr (.inl ⟨m, rfl, e⟩)
    · rw [dotsA, if_neg c] at e
      obtain ⟨w, rest, e2⟩ := dots_first m (l.take (lead l) ++ [y])
      refine .inr (.inr ⟨by simp, by simpa using c, _, rest, e.trans e2, fun q => ?_⟩)
      have hy : isF y := q.2.1 y (by simp)
      have hlt : lead l < l.length := by
        have := congrArg List.length h
        rw [List.length_drop, List.length_cons] at this; omega
      have hs := lead_stop hlt
      have : l.getD (lead l) 0 = y := by
        have := congrArg (·[0]?) h
        simp only [List.getElem?_drop, Nat.add_zero, List.getElem?_cons_zero] at this
        rw [List.getD_eq_getElem?_getD, this]; rfl
      rw [this] at hs
      exact hs hy
@[reducible] def okRows (k : Nat) (R : List (List Int)) : Prop := R.length = k ∧ ∀ w ∈ R, rowOk w
/-- One row, and what is behind it. -/
theorem row_one (n i : Nat) (hi : i ≠ 0) (l : List Int) (k : Nat) : (¬ okRows (k + 2) (dotsA [] l) ∧ isBad (preX n i (rowX n (.good l)).1)) ∨
    ∃ m, rowOk (l.take (lead l)) ∧ (rowX n (.good l)).2 = val10 (l.take (lead l)) ∧ preX n i (rowX n (.good l)).1 = .good m ∧ dotsA [] l = l.take (lead l) :: dotsA [] m := by
  by_cases c : rowOk (l.take (lead l))
  · rw [good_row c]
    rcases dots_cases l with ⟨h1, h2⟩ | ⟨m, h1, h2⟩ | ⟨h1, h2, w, rest, h3, h4⟩
    · refine .inl ⟨fun q => ?_, ?_⟩
      · have := q.1; rw [h2] at this; simp at this
      · simp only [h1]; exact good_pre_bad hi (by simp)
    · refine .inr ⟨m, c, rfl, ?_, h2⟩
      simp only [h1]; exact good_pre hi
    · refine .inl ⟨fun q => ?_, good_pre_bad hi h2⟩
      rw [h3] at q
      exact h4 (q.2 w (List.mem_cons_self ..))
  · refine .inl ⟨fun q => ?_, bad_pre (good_row_bad c)⟩
    rcases dots_cases l with ⟨h1, h2⟩ | ⟨m, h1, h2⟩ | ⟨h1, h2, w, rest, h3, h4⟩
    · have := q.1; rw [h2] at this; simp at this
    · rw [h2] at q; exact c (q.2 _ (List.mem_cons_self ..))
    · rw [h3] at q; exact h4 (q.2 w (List.mem_cons_self ..))
theorem row_last (n : Nat) (l : List Int) : (¬ okRows 1 (dotsA [] l) ∧ ¬ (rowX n (.good l)).1.end = none) ∨
    (rowOk (l.take (lead l)) ∧ (rowX n (.good l)).2 = val10 (l.take (lead l)) ∧ (rowX n (.good l)).1.end = none ∧ dotsA [] l = [l.take (lead l)]) := by
  by_cases c : rowOk (l.take (lead l))
  · rw [good_row c]
    rcases dots_cases l with ⟨h1, h2⟩ | ⟨m, h1, h2⟩ | ⟨h1, h2, w, rest, h3, h4⟩
    · refine .inr ⟨c, rfl, ?_, h2⟩
      simp only [h1]; rfl
    · refine .inl ⟨fun q => ?_, by simp only [h1]; simp [X.end]⟩
      have := q.1; rw [h2] at this
      obtain ⟨w, rest, e⟩ := dots_first m []
      rw [e] at this; simp at this
    · refine .inl ⟨fun q => ?_, ?_⟩
      · rw [h3] at q; exact h4 (q.2 w (List.mem_cons_self ..))
      · cases hd : l.drop (lead l) with
        | nil => exact absurd hd h1
        | cons y m => simp [X.end]
  · refine .inl ⟨fun q => ?_, bad_end (good_row_bad c)⟩
    rcases dots_cases l with ⟨h1, h2⟩ | ⟨m, h1, h2⟩ | ⟨h1, h2, w, rest, h3, h4⟩
    · rw [h2] at q; exact c (q.2 _ (List.mem_cons_self ..))
    · rw [h2] at q; exact c (q.2 _ (List.mem_cons_self ..))
    · rw [h3] at q; exact h4 (q.2 w (List.mem_cons_self ..))
theorem address_prog (s : ByteArray) (hs : s.size ≤ 100) : ∃ (q : Int × (Int × (Int × (Int × Unit)))) (e : Int), g_refid_ParseAddress ((), ((s, ()), ())) = some ((), (q, ((errOf e, ()), ()))) ∧ refA (dotsA [] (bytesOf s)) = (q, ((e, ()), ())) := by
  obtain ⟨r1, r2, r3, r4, e1, e2, e3, e4, hP⟩ := refid_address s (by omega)
  rw [hP]
  generalize bytesOf s = L at e1 ⊢
  clear hP
  have e0 : r1 = rowX s.size (.good L) := e1
  clear e1
  generalize s.size = n at *
  have key : (¬ okRows 4 (dotsA [] L) ∧ ¬ r4.1.end = none) ∨ ∃ t1 t2 t3 t4 : List Int, (rowOk t1 ∧ rowOk t2 ∧ rowOk t3 ∧ rowOk t4) ∧ (r1.2 = val10 t1 ∧ r2.2 = val10 t2 ∧ r3.2 = val10 t3 ∧ r4.2 = val10 t4) ∧ r4.1.end = none ∧ dotsA [] L = [t1, t2, t3, t4] := by
    rcases row_one n 1 (by decide) L 2 with ⟨h1, h2⟩ | ⟨m1, h1, h2, h3, h4⟩
    · rw [← e0] at h2
      refine .inl ⟨h1, ?_⟩
      rw [e4, e3, e2]
      exact bad_end (bad_row (bad_pre (bad_row (bad_pre (bad_row h2)))))
    rw [← e0] at h2 h3
    rw [h3] at e2
    rcases row_one n 2 (by decide) m1 1 with ⟨g1, g2⟩ | ⟨m2, g1, g2, g3, g4⟩
    · rw [← e2] at g2
      refine .inl ⟨fun q => ?_, ?_⟩
      · rw [h4] at q
        exact g1 ⟨by have := q.1; simpa using this, fun w hw => q.2 w (List.mem_cons_of_mem _ hw)⟩
      · rw [e4, e3]
        exact bad_end (bad_row (bad_pre (bad_row g2)))
    rw [← e2] at g2 g3
    rw [g3] at e3
    rcases row_one n 3 (by decide) m2 0 with ⟨f1, f2⟩ | ⟨m3, f1, f2, f3, f4⟩
    · rw [← e3] at f2
      refine .inl ⟨fun q => ?_, ?_⟩
      · rw [h4, g4] at q
        exact f1 ⟨by have := q.1; simpa using this, fun w hw => q.2 w (List.mem_cons_of_mem _ (List.mem_cons_of_mem _ hw))⟩
      · rw [e4]
        exact bad_end (bad_row f2)
    rw [← e3] at f2 f3
    rw [f3] at e4
    rcases row_last n m3 with ⟨d1, d2⟩ | ⟨d1, d2, d3, d4⟩
    · rw [← e4] at d2
      refine .inl ⟨fun q => ?_, d2⟩
      rw [h4, g4, f4] at q
      exact d1 ⟨by have := q.1; simpa using this, fun w hw => q.2 w (List.mem_cons_of_mem _ (List.mem_cons_of_mem _ (List.mem_cons_of_mem _ hw)))⟩
    · rw [← e4] at d2 d3
      exact .inr ⟨_, _, _, _, ⟨h1, g1, f1, d1⟩, ⟨h2, g2, f2, d2⟩, d3, by rw [h4, g4, f4, d4]⟩
  rcases key with ⟨h1, h2⟩ | ⟨t1, t2, t3, t4, ⟨o1, o2, o3, o4⟩, ⟨v1, v2, v3, v4⟩, h2, h3⟩
  · refine ⟨z4, 2, ?_, ?_⟩
    · rw [if_neg h2]; rfl
    · unfold refA
      by_cases c : (dotsA [] L).length ≠ 4
      · rw [if_pos c]
      · rw [if_neg c, if_neg (fun q => h1 ⟨Classical.not_not.1 c, q⟩)]
  · rw [if_pos h2, h3, v1, v2, v3, v4]
    have hA : refA [t1, t2, t3, t4] = (if ([t1, t2, t3, t4].any fun w => decide (255 < val10 w)) = true then (z4, ((1, ()), ())) else (codeV (valsB [t1, t2, t3, t4]), ((0, ()), ()))) := by
      unfold refA
      rw [if_neg (by simp), if_pos (by intro w hw; simp only [List.mem_cons, List.not_mem_nil, or_false] at hw; rcases hw with rfl | rfl | rfl | rfl <;> assumption)]
    rw [hA]
    by_cases c : ((val10 t1 ≤ 255 ∧ val10 t2 ≤ 255) ∧ val10 t3 ≤ 255) ∧ val10 t4 ≤ 255
    · refine ⟨codeV (valsB [t1, t2, t3, t4]), 0, ?_, ?_⟩
      · rw [if_pos (by simp [c])]; rfl
      · rw [if_neg (by simp; omega)]
    · refine ⟨z4, 1, ?_, ?_⟩
      · rw [if_neg (by simp; omega)]; rfl
      · rw [if_pos (by simp; omega)]
theorem parse_prog (s : ByteArray) (hs : s.size ≤ 100) (h : 46 ∈ bytesOf s) : g_refid_Parse ((), ((s, ()), ())) = g_refid_ParseAddress ((), ((s, ()), ())) := by
  obtain ⟨q, e, h1, h2⟩ := address_prog s hs
  obtain ⟨v, i1, i2⟩ := sc_index (bytesOf s) (by_ok s) 46 (by omega)
  rw [str_by] at i1
  simp only [g_refid_Parse, f_refid_Parse_m, i1, fitsS_dec, Option.bind_some, Option.isNone_none, Option.isNone_some, Option.isSome_none, Option.isSome_some, Bool.not_true, Bool.not_false, cond_true, cond_false, cond_dec, beq_int, bne_int, not_dec, ge_iff_le]
  rw [if_pos (i2.2 h), h1]
  rfl
end Go.Proofs.YtodnllhjikeafaaDoor.Ev
