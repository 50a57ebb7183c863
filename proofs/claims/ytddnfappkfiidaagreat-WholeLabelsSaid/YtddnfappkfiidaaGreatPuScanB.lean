/- The reader's steps, forth and back, on lists. -/
import Derived.Test.YtddnfappkfiidaaGreatPuIsoR
import Derived.Test.YtddnfappkfiidaaGreatPuDig
namespace Go.Proofs.YtddnfappkfiidaaGreat.Ev
open Go
set_option linter.unusedVariables false
set_option linter.unusedSimpArgs false
theorem sb_one {c : Int} {x : X} {r : List Int} (h : oneX c x = true) (h2 : takeX 1 x = .good r) : x = .good (c :: r) := by
  cases x with
  | bad i e => cases h2
  | good l =>
    cases l with
    | nil => simp [oneX, X.rest] at h
    | cons a l =>
      simp only [oneX, X.rest, List.head?_cons, Option.some.injEq, decide_eq_true_eq] at h
      simp only [takeX, List.drop_succ_cons, List.drop_zero, X.good.injEq] at h2
      rw [h, h2]
theorem sb_ex1 {n : Nat} {c : Int} {x : X} {r : List Int} (h : ex1X n c x = .good r) : x = .good (c :: r) := by
  unfold ex1X at h
  by_cases q : oneX c x = true
  · rw [if_pos q] at h; exact sb_one q h
  · rw [if_neg q] at h
    cases x <;> cases h
theorem sf_ex1 (n : Nat) (c : Int) (r : List Int) : ex1X n c (.good (c :: r)) = .good r := by
  have : oneX c (.good (c :: r)) = true := by simp [oneX, X.rest]
  unfold ex1X
  rw [if_pos this]
  simp [takeX]
theorem sb_fig {n w : Nat} {x : X} {r : List Int} (h : (figX n w w x).1 = .good r) : ∃ F, x = .good (F ++ r) ∧ (∀ y ∈ F, isF y) ∧ F.length = w ∧ (figX n w w x).2 = val10 F := by
  cases x with
  | bad i c => cases h
  | good l =>
    simp only [figX] at h ⊢
    by_cases c : w ≤ min (lead l) w
    · rw [if_pos c] at h ⊢
      simp only [X.good.injEq] at h
      have hl := lead_le l
      refine ⟨l.take (min (lead l) w), by rw [← h, List.take_append_drop], sc_lead_figs (Nat.min_le_left _ _), ?_, rfl⟩
      rw [List.length_take]; omega
    · rw [if_neg c] at h; cases h
theorem sl_app : ∀ (F r : List Int), (∀ x ∈ F, isF x) → lead (F ++ r) = F.length + lead r
  | [], r, _ => by simp
  | x :: F, r, h => by
    have := sl_app F r (fun y hy => h y (List.mem_cons_of_mem _ hy))
    simp only [List.cons_append, lead, if_pos (h x List.mem_cons_self), this, List.length_cons]; omega
theorem sf_fig (n w : Nat) (F r : List Int) (hF : ∀ y ∈ F, isF y) (hw : F.length = w) : figX n w w (.good (F ++ r)) = (.good r, val10 F) := by
  have e : min (lead (F ++ r)) w = F.length := by rw [sl_app F r hF]; omega
  simp only [figX, e]
  rw [if_pos (by omega), List.drop_left, List.take_left]
theorem sb_must {n : Nat} {c : Int} {x : X} {r : List Int} (h : mustX n [c] x = .good r) : ∃ a, low a = low c ∧ x = .good (a :: r) := by
  cases x with
  | bad i e => simp [mustX, foldX, failX] at h
  | good l =>
    unfold mustX at h
    by_cases q : isW [c] l
    · have e : foldX [c] (.good l) = (.good (l.drop 1), true) := by simp only [foldX, if_pos q]; rfl
      rw [e] at h
      simp only [if_true, X.good.injEq] at h
      cases l with
      | nil => exact absurd q.1 (by simp)
      | cons a l =>
        simp only [List.drop_succ_cons, List.drop_zero] at h
        have := q.2
        simp at this
        exact ⟨a, this, by rw [h]⟩
    · have e : foldX [c] (.good l) = (.good l, false) := by simp only [foldX, if_neg q]
      rw [e] at h
      simp [failX] at h
theorem sf_must (n : Nat) {a c : Int} (h : low a = low c) (r : List Int) : mustX n [c] (.good (a :: r)) = .good r := by
  have : isW [c] (a :: r) := by unfold isW; simp [h]
  have e : foldX [c] (.good (a :: r)) = (.good r, true) := by simp only [foldX, if_pos this]; rfl
  unfold mustX
  rw [e]; rfl
theorem sb_num {n : Nat} {c : Int} {w : Nat} {x : X} {r : List Int} (h : (numI n [c] w x).1 = .good r) : ∃ a F, low a = low c ∧ x = .good (a :: (F ++ r)) ∧ (∀ y ∈ F, isF y) ∧ F.length = w ∧ (numI n [c] w x).2 = val10 F := by
  unfold numI at h ⊢
  obtain ⟨F, h1, h2, h3, h4⟩ := sb_fig h
  obtain ⟨a, h5, h6⟩ := sb_must h1
  exact ⟨a, F, h5, h6, h2, h3, h4⟩
theorem sf_num (n : Nat) {a c : Int} (h : low a = low c) (w : Nat) (F r : List Int) (hF : ∀ y ∈ F, isF y) (hw : F.length = w) : numI n [c] w (.good (a :: (F ++ r))) = (.good r, val10 F) := by
  unfold numI
  rw [sf_must n h, sf_fig n w F r hF hw]
theorem sb_date {n : Nat} {x : X} {r : List Int} (h : (dateI n x).1 = .good r) : ∃ Y M D : List Int, x = .good (Y ++ (45 :: (M ++ (45 :: (D ++ r))))) ∧ ((∀ y ∈ Y, isF y) ∧ Y.length = 4) ∧ ((∀ y ∈ M, isF y) ∧ M.length = 2) ∧ ((∀ y ∈ D, isF y) ∧ D.length = 2) ∧ (dateI n x).2 = (val10 Y, (val10 M, val10 D)) := by
  unfold dateI at h ⊢
  simp only at h ⊢
  obtain ⟨D, d1, d2, d3, d4⟩ := sb_fig h
  have e1 := sb_ex1 d1
  obtain ⟨M, m1, m2, m3, m4⟩ := sb_fig e1
  have e2 := sb_ex1 m1
  obtain ⟨Y, y1, y2, y3, y4⟩ := sb_fig e2
  exact ⟨Y, M, D, y1, ⟨y2, y3⟩, ⟨m2, m3⟩, ⟨d2, d3⟩, by rw [y4, m4, d4]⟩
theorem sf_date (n : Nat) (Y M D r : List Int) (hY : (∀ y ∈ Y, isF y) ∧ Y.length = 4) (hM : (∀ y ∈ M, isF y) ∧ M.length = 2) (hD : (∀ y ∈ D, isF y) ∧ D.length = 2) : dateI n (.good (Y ++ (45 :: (M ++ (45 :: (D ++ r)))))) = (.good r, (val10 Y, (val10 M, val10 D))) := by
  unfold dateI
  simp only [sf_fig n 4 Y _ hY.1 hY.2, sf_ex1, sf_fig n 2 M _ hM.1 hM.2, sf_fig n 2 D _ hD.1 hD.2]
theorem sb_end {x : X} (h : x.end = none) : x = .good [] := by
  cases x with
  | good l =>
    simp only [X.end] at h
    by_cases c : l = []
    · rw [c]
    · rw [if_neg c] at h; cases h
  | bad i c => cases h
end Go.Proofs.YtddnfappkfiidaaGreat.Ev
