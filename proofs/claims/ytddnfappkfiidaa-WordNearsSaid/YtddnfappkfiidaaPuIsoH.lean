/- ISO instants: both readers on any text. -/
import Derived.Test.YtddnfappkfiidaaPuIsoG
namespace Go.Proofs.Ytddnfappkfiidaa.Ev
open Go
set_option linter.unusedVariables false
set_option linter.unusedSimpArgs false
theorem low_T {t : Int} (h : t = 84 ∨ t = 116) : low t = low 84 := by rcases h with rfl | rfl <;> decide
theorem low_T' {t : Int} (h : low t = low 84) : t = 84 ∨ t = 116 := by
  rw [show low 84 = 116 by decide] at h
  unfold low at h
  split at h <;> omega
theorem low_58 {t : Int} (h : low t = low 58) : t = 58 := by
  rw [show low 58 = 58 by decide] at h
  unfold low at h
  split at h <;> omega
theorem low_90 {t : Int} (h : low t = low 90) : t = 90 ∨ t = 122 := by
  rw [show low 90 = 122 by decide] at h
  unfold low at h
  split at h <;> omega
/-! ### the zone -/
theorem numO_forth (n : Nat) (neg : Bool) (H M : List Int) (hH : (∀ y ∈ H, isF y) ∧ H.length = 2) (hM : (∀ y ∈ M, isF y) ∧ M.length = 2) :
    numO n neg (.good (H ++ (58 :: M))) = (.good [], (if neg then -(val10 H * 60 + val10 M) else val10 H * 60 + val10 M, decide (val10 H < 24 ∧ val10 M < 60))) := by
  have h2 := sf_num n (a := 58) (c := 58) rfl 2 M [] hM.1 hM.2
  rw [List.append_nil] at h2
  unfold numO
  simp only [sf_fig n 2 H (58 :: M) hH.1 hH.2, h2]
theorem numO_back {n : Nat} {neg : Bool} {x : X} (h : (numO n neg x).1 = .good []) : ∃ H M, x = .good (H ++ (58 :: M)) ∧ ((∀ y ∈ H, isF y) ∧ H.length = 2) ∧ ((∀ y ∈ M, isF y) ∧ M.length = 2) ∧
    (numO n neg x).2 = (if neg then -(val10 H * 60 + val10 M) else val10 H * 60 + val10 M, decide (val10 H < 24 ∧ val10 M < 60)) := by
  unfold numO at h ⊢
  simp only at h ⊢
  obtain ⟨a, M, h1, h2, h3, h4, h5⟩ := sb_num h
  have ha := low_58 h1
  subst ha
  rw [List.append_nil] at h2
  obtain ⟨H, g1, g2, g3, g4⟩ := sb_fig h2
  exact ⟨H, M, g1, ⟨g2, g3⟩, ⟨h3, h4⟩, by rw [h5, g4]⟩
theorem off_forth (n : Nat) {Z : List Int} {o : Int} {ok : Bool} (h : isZ Z o ok) : offI n (.good Z) = (.good [], (o, ok)) := by
  rcases h with ⟨hz, rfl, rfl⟩ | ⟨g, H, M, rfl, hg, hH, hM, rfl, rfl⟩
  · have hw : isW [90] Z := by
      unfold isW
      rcases hz with rfl | rfl <;> decide
    have hl : Z.drop 1 = [] := by rcases hz with rfl | rfl <;> rfl
    have e : foldX [90] (.good Z) = (.good [], true) := by
      simp only [foldX, if_pos hw, List.length_cons, List.length_nil, hl]
    unfold offI
    rw [e]; rfl
  · have hw : ¬ isW [90] (g :: (H ++ (58 :: M))) := by
      unfold isW
      intro q
      have := q.2
      simp at this
      have := low_90 this
      omega
    have e : foldX [90] (.good (g :: (H ++ (58 :: M)))) = (.good (g :: (H ++ (58 :: M))), false) := by
      simp only [foldX, if_neg hw]
    unfold offI
    rw [e]
    simp only [Bool.false_eq_true, if_false]
    rcases hg with rfl | rfl
    · have o1 : oneX 45 (.good (43 :: (H ++ (58 :: M)))) = false := by simp [oneX, X.rest]
      rw [o1]
      simp only [Bool.false_eq_true, if_false, sf_ex1, numO_forth n false H M hH hM]
      simp
    · have o1 : oneX 45 (.good (45 :: (H ++ (58 :: M)))) = true := by simp [oneX, X.rest]
      have t1 : takeX 1 (.good ((45 : Int) :: (H ++ (58 :: M)))) = .good (H ++ (58 :: M)) := by simp [takeX]
      rw [o1]
      simp only [if_true, t1, numO_forth n true H M hH hM]
theorem off_back {n : Nat} {x : X} (h : (offI n x).1 = .good []) : ∃ Z, x = .good Z ∧ isZ Z (offI n x).2.1 (offI n x).2.2 := by
  unfold offI at h ⊢
  cases x with
  | bad i c =>
    have e : foldX [90] (.bad i c) = (.bad i c, false) := rfl
    rw [e] at h
    simp only [Bool.false_eq_true, if_false] at h
    have o1 : ¬ oneX 45 (.bad i c) = true := by simp [oneX, X.rest]
    rw [if_neg o1] at h
    obtain ⟨H, M, h1, _⟩ := numO_back h
    have := sb_ex1 h1
    cases this
  | good Z =>
    by_cases hw : isW [90] Z
    · have e : foldX [90] (.good Z) = (.good (Z.drop 1), true) := by simp only [foldX, if_pos hw]; rfl
      rw [e] at h ⊢
      simp only [if_true, X.good.injEq] at h ⊢
      refine ⟨Z, rfl, Or.inl ⟨?_, rfl, rfl⟩⟩
      cases Z with
      | nil => exact absurd hw.1 (by simp)
      | cons a r =>
        simp only [List.drop_succ_cons, List.drop_zero] at h
        subst h
        have := hw.2
        simp at this
        rcases low_90 this with rfl | rfl
        · exact Or.inl rfl
        · exact Or.inr rfl
    · have e : foldX [90] (.good Z) = (.good Z, false) := by simp only [foldX, if_neg hw]
      rw [e] at h ⊢
      simp only [Bool.false_eq_true, if_false] at h ⊢
      by_cases c : oneX 45 (.good Z) = true
      · rw [if_pos c] at h ⊢
        obtain ⟨H, M, h1, h2, h3, h4⟩ := numO_back h
        have := sb_one c h1
        rw [h4]
        exact ⟨Z, rfl, Or.inr ⟨45, H, M, X.good.inj this, Or.inr rfl, h2, h3, rfl, rfl⟩⟩
      · rw [if_neg c] at h ⊢
        obtain ⟨H, M, h1, h2, h3, h4⟩ := numO_back h
        have := sb_ex1 h1
        rw [h4]
        exact ⟨Z, rfl, Or.inr ⟨43, H, M, X.good.inj this, Or.inl rfl, h2, h3, rfl, rfl⟩⟩
theorem lead_drop : ∀ l : List Int, lead (l.drop (lead l)) = 0
  | [] => rfl
  | x :: l => by
    by_cases c : isF x
    · have e : lead (x :: l) = lead l + 1 := by simp only [lead, if_pos c]
      rw [e, List.drop_succ_cons]; exact lead_drop l
    · have e : lead (x :: l) = 0 := by simp only [lead, if_neg c]
      rw [e, List.drop_zero, e]
/-! ### the whole form -/
structure IF where (Y M D H I S F Z : List Int) (t o : Int) (ok : Bool) (R : List Int)
def IF.good (f : IF) : Prop := ((∀ y ∈ f.Y, isF y) ∧ f.Y.length = 4) ∧ ((∀ y ∈ f.M, isF y) ∧ f.M.length = 2) ∧ ((∀ y ∈ f.D, isF y) ∧ f.D.length = 2) ∧ ((∀ y ∈ f.H, isF y) ∧ f.H.length = 2) ∧ ((∀ y ∈ f.I, isF y) ∧ f.I.length = 2) ∧ ((∀ y ∈ f.S, isF y) ∧ f.S.length = 2) ∧ (f.t = 84 ∨ f.t = 116)
def IF.L (f : IF) : List Int := f.Y ++ (45 :: (f.M ++ (45 :: (f.D ++ (f.t :: (f.H ++ (58 :: (f.I ++ (58 :: (f.S ++ f.R))))))))))
end Go.Proofs.Ytddnfappkfiidaa.Ev
