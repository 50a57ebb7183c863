/- Addresses: the program and the reference read the same rows. -/
import Derived.Test.YtodnllhjikeafaaGreatDoorPuRefidB
namespace Go.Proofs.YtodnllhjikeafaaGreatDoor.Ev
open Go
set_option linter.unusedVariables false
set_option linter.unusedSimpArgs false
def isBad : X → Prop
  | .good _ => False
  | .bad _ _ => True
theorem bad_row {n : Nat} {x : X} (h : isBad x) : isBad (rowX n x).1 := by
  cases x with
  | good l => exact h.elim
  | bad j c =>
    unfold rowX
    split <;> exact trivial
theorem bad_pre {n i : Nat} {x : X} (h : isBad x) : isBad (preX n i x) := by
  cases x with
  | good l => exact h.elim
  | bad j c =>
    unfold preX
    split
    · exact trivial
    · split <;> exact trivial
theorem bad_end {x : X} (h : isBad x) : ¬ x.end = none := by
  cases x with
  | good l => exact h.elim
  | bad j c => simp [X.end]
theorem good_row {n : Nat} {l : List Int} (h : rowOk (l.take (lead l))) : rowX n (.good l) = (.good (l.drop (lead l)), val10 (l.take (lead l))) := by
  unfold rowX
  rw [if_pos (show rowOk (List.take (lead (X.good l).rest) (X.good l).rest) from h)]; rfl
theorem good_row_bad {n : Nat} {l : List Int} (h : ¬ rowOk (l.take (lead l))) : isBad (rowX n (.good l)).1 := by
  unfold rowX
  rw [if_neg (show ¬ rowOk (List.take (lead (X.good l).rest) (X.good l).rest) from h)]
  exact trivial
theorem good_pre {n i : Nat} {m : List Int} (hi : i ≠ 0) : preX n i (.good (46 :: m)) = .good m := by
  unfold preX
  rw [if_neg hi, if_pos (by simp [oneX, X.rest])]
  rfl
theorem good_pre_bad {n i : Nat} {l : List Int} (hi : i ≠ 0) (h : l.head? ≠ some 46) : isBad (preX n i (.good l)) := by
  unfold preX
  rw [if_neg hi, if_neg (show ¬ oneX 46 (.good l) = true from fun q => h (of_decide_eq_true q))]
  exact trivial
theorem dots_figs : ∀ (t cur m : List Int), (∀ x ∈ t, isF x) → dotsA cur (t ++ m) = dotsA (cur ++ t) m
  | [], cur, m, h => by rw [List.nil_append, List.append_nil]
  | x :: t, cur, m, h => by
    have hx := h x (List.mem_cons_self ..)
    unfold isF at hx
    rw [List.cons_append, dotsA, if_neg (by omega), dots_figs t (cur ++ [x]) m (fun y hy => h y (List.mem_cons_of_mem _ hy)), List.append_assoc]
    rfl
theorem dots_first : ∀ (m cur : List Int), ∃ w rest, dotsA cur m = (cur ++ w) :: rest
  | [], cur => ⟨[], [], by rw [List.append_nil]; rfl⟩
  | x :: m, cur => by
    unfold dotsA
    by_cases c : x = 46
    · rw [if_pos c]; exact ⟨[], _, by rw [List.append_nil]⟩
    · rw [if_neg c]
      obtain ⟨w, rest, e⟩ := dots_first m (cur ++ [x])
      exact ⟨x :: w, rest, by rw [e, List.append_assoc]; rfl⟩
/-- The rows of a text: its figures, and behind them nothing, a point or something else. -/
theorem dots_cases (l : List Int) : (l.drop (lead l) = [] ∧ dotsA [] l = [l.take (lead l)]) ∨ (∃ m, l.drop (lead l) = 46 :: m ∧ dotsA [] l = l.take (lead l) :: dotsA [] m) ∨
    ((l.drop (lead l)) ≠ [] ∧ (l.drop (lead l)).head? ≠ some 46 ∧ ∃ w rest, dotsA [] l = w :: rest ∧ ¬ rowOk w) := by
  have e := dots_figs (l.take (lead l)) [] (l.drop (lead l)) (lead_figs l)
  rw [List.take_append_drop, List.nil_append] at e
  cases h : l.drop (lead l) with
  | nil => rw [h] at e; exact .inl ⟨rfl, e⟩
  | cons y m =>
    rw [h] at e
    by_cases c : y = 46
    · subst c
      rw [dotsA, if_pos rfl] at e
      exact .inr (.inl ⟨m, rfl, e⟩)
    · rw [dotsA, if_neg c] at e
      obtain ⟨w, rest, e2⟩ := dots_first m (l.take (lead l) ++ [y])
      refine .inr (.inr ⟨by simp, by simpa using c, _, rest, e.trans e2, fun q => ?_⟩)
      have hy : isF y := q.2.1 y (by simp)
      have hlt : lead l < l.length := by
        have := congrArg List.length h
        rw [List.length_drop, List.length_cons] at this; omega
      have hs := lead_stop hlt
      have : l.getD (lead l) 0 = y := by
        have := congrArg (·[0]?) h
        simp only [List.getElem?_drop, Nat.add_zero, List.getElem?_cons_zero] at this
        rw [List.getD_eq_getElem?_getD, this]; rfl
      rw [this] at hs
      exact hs hy
@[reducible] def okRows (k : Nat) (R : List (List Int)) : Prop := R.length = k ∧ ∀ w ∈ R, rowOk w
/-- One row, and what is behind it. -/
theorem row_one (n i : Nat) (hi : i ≠ 0) (l : List Int) (k : Nat) : (¬ okRows (k + 2) (dotsA [] l) ∧ isBad (preX n i (rowX n (.good l)).1)) ∨
    ∃ m, rowOk (l.take (lead l)) ∧ (rowX n (.good l)).2 = val10 (l.take (lead l)) ∧ preX n i (rowX n (.good l)).1 = .good m ∧ dotsA [] l = l.take (lead l) :: dotsA [] m := by
  by_cases c : rowOk (l.take (lead l))
  · rw [good_row c]
    rcases dots_cases l with ⟨h1, h2⟩ | ⟨m, h1, h2⟩ | ⟨h1, h2, w, rest, h3, h4⟩
    · refine .inl ⟨fun q => ?_, ?_⟩
      · have := q.1; rw [h2] at this; simp at this
      · simp only [h1]; exact good_pre_bad hi (by simp)
    · refine .inr ⟨m, c, rfl, ?_, h2⟩
      simp only [h1]; exact good_pre hi
    · refine .inl ⟨fun q => ?_, good_pre_bad hi h2⟩
      rw [h3] at q
      exact h4 (q.2 w (List.mem_cons_self ..))
  · refine .inl ⟨fun q => ?_, bad_pre (good_row_bad c)⟩
    rcases dots_cases l with ⟨h1, h2⟩ | ⟨m, h1, h2⟩ | ⟨h1, h2, w, rest, h3, h4⟩
    · have := q.1; rw [h2] at this; simp at this
    · rw [h2] at q; exact c (q.2 _ (List.mem_cons_self ..))
    · rw [h3] at q; exact h4 (q.2 w (List.mem_cons_self ..))
theorem row_last (n : Nat) (l : List Int) : (¬ okRows 1 (dotsA [] l) ∧ ¬ (rowX n (.good l)).1.end = none) ∨
    (rowOk (l.take (lead l)) ∧ (rowX n (.good l)).2 = val10 (l.take (lead l)) ∧ (rowX n (.good l)).1.end = none ∧ dotsA [] l = [l.take (lead l)]) := by
  by_cases c : rowOk (l.take (lead l))
  · rw [good_row c]
    rcases dots_cases l with ⟨h1, h2⟩ | ⟨m, h1, h2⟩ | ⟨h1, h2, w, rest, h3, h4⟩
    · refine .inr ⟨c, rfl, ?_, h2⟩
      simp only [h1]; rfl
    · refine .inl ⟨fun q => ?_, by simp only [h1]; simp [X.end]⟩
      have := q.1; rw [h2] at this
      obtain ⟨w, rest, e⟩ := dots_first m []
      rw [e] at this; simp at this
    · refine .inl ⟨fun q => ?_, ?_⟩
      · rw [h3] at q; exact h4 (q.2 w (List.mem_cons_self ..))
      · cases hd : l.drop (lead l) with
        | nil => exact absurd hd h1
        | cons y m => simp [X.end]
  · refine .inl ⟨fun q => ?_, bad_end (good_row_bad c)⟩
    rcases dots_cases l with ⟨h1, h2⟩ | ⟨m, h1, h2⟩ | ⟨h1, h2, w, rest, h3, h4⟩
    · rw [h2] at q; exact c (q.2 _ (List.mem_cons_self ..))
    · rw [h2] at q; exact c (q.2 _ (List.mem_cons_self ..))
    · rw [h3] at q; exact h4 (q.2 w (List.mem_cons_self ..))
end Go.Proofs.YtodnllhjikeafaaGreatDoor.Ev
