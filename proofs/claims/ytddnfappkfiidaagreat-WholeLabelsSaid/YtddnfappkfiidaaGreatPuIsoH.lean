/- ISO instants: both readers on any text. -/
import Derived.Test.YtddnfappkfiidaaGreatPuIsoG
namespace Go.Proofs.YtddnfappkfiidaaGreat.Ev
open Go
set_option linter.unusedVariables false
set_option linter.unusedSimpArgs false
theorem low_T {t : Int} (h : t = 84 ∨ t = 116) : low t = low 84 := by rcases h with rfl | rfl <;> decide
theorem low_T' {t : Int} (h : low t = low 84) : t = 84 ∨ t = 116 := by
  rw [show low 84 = 116 by decide] at h
  unfold low at h
  split at h <;> omega
theorem low_58 {t : Int} (h : low t = low 58) : t = 58 := by
  rw [show low 58 = 58 by decide] at h
  unfold low at h
  split at h <;> omega
theorem low_90 {t : Int} (h : low t = low 90) : t = 90 ∨ t = 122 := by
  rw [show low 90 = 122 by decide] at h
  unfold low at h
  split at h <;> omega
/-! ### the zone -/
theorem numO_forth (n : Nat) (neg : Bool) (H M : List Int) (hH : (∀ y ∈ H, isF y) ∧ H.length = 2) (hM : (∀ y ∈ M, isF y) ∧ M.length = 2) :
    numO n neg (.good (H ++ (58 :: M))) = (.good [], (if neg then -(val10 H * 60 + val10 M) else val10 H * 60 + val10 M, decide (val10 H < 24 ∧ val10 M < 60))) := by
  have h2 := sf_num n (a := 58) (c := 58) rfl 2 M [] hM.1 hM.2
  rw [List.append_nil] at h2
  unfold numO
  simp only [sf_fig n 2 H (58 :: M) hH.1 hH.2, h2]
theorem numO_back {n : Nat} {neg : Bool} {x : X} (h : (numO n neg x).1 = .good []) : ∃ H M, x = .good (H ++ (58 :: M)) ∧ ((∀ y ∈ H, isF y) ∧ H.length = 2) ∧ ((∀ y ∈ M, isF y) ∧ M.length = 2) ∧
    (numO n neg x).2 = (if neg then -(val10 H * 60 + val10 M) else val10 H * 60 + val10 M, decide (val10 H < 24 ∧ val10 M < 60)) := by
  unfold numO at h ⊢
  simp only at h ⊢
  obtain ⟨a, M, h1, h2, h3, h4, h5⟩ := sb_num h
  have ha := low_58 h1
  subst ha
  rw [List.append_nil] at h2
  obtain ⟨H, g1, g2, g3, g4⟩ := sb_fig h2
  exact ⟨H, M, g1, ⟨g2, g3⟩, ⟨h3, h4⟩, by rw [h5, g4]⟩
theorem off_forth (n : Nat) {Z : List Int} {o : Int} {ok : Bool} (h : isZ Z o ok) : offI n (.good Z) = (.good [], (o, ok)) := by
  rcases h with ⟨hz, rfl, rfl⟩ | ⟨g, H, M, rfl, hg, hH, hM, rfl, rfl⟩
  · have hw : isW [90] Z := by
      unfold isW
      rcases hz with rfl | rfl <;> decide
    have hl : Z.drop 1 = [] := by rcases hz with rfl | rfl <;> rfl
    have e : foldX [90] (.good Z) = (.good [], true) := by
      simp only [foldX, if_pos hw, List.length_cons, List.length_nil, hl]
    unfold offI
    rw [e]; rfl
  · have hw : ¬ isW [90] (g :: (H ++ (58 :: M))) := by
      unfold isW
      intro q
      have := q.2
      simp at this
      have := low_90 this
      omega
    have e : foldX [90] (.good (g :: (H ++ (58 :: M)))) = (.good (g :: (H ++ (58 :: M))), false) := by
      simp only [foldX, if_neg hw]
    unfold offI
    rw [e]
    simp only [Bool.false_eq_true, if_false]
    rcases hg with rfl | rfl
    · have o1 : oneX 45 (.good (43 :: (H ++ (58 :: M)))) = false := by simp [oneX, X.rest]
      rw [o1]
      simp only [Bool.false_eq_true, if_false, sf_ex1, numO_forth n false H M hH hM]
      simp
    · have o1 : oneX 45 (.good (45 :: (H ++ (58 :: M)))) = true := by simp [oneX, X.rest]
      have t1 : takeX 1 (.good ((45 : Int) :: (H ++ (58 :: M)))) = .good (H ++ (58 :: M)) := by simp [takeX]
      rw [o1]
      simp only [if_true, t1, numO_forth n true H M hH hM]
theorem off_back {n : Nat} {x : X} (h : (offI n x).1 = .good []) : ∃ Z, x = .good Z ∧ isZ Z (offI n x).2.1 (offI n x).2.2 := by
  unfold offI at h ⊢
  cases x with
  | bad i c =>
    have e : foldX [90] (.bad i c) = (.bad i c, false) := rfl
    rw [e] at h
    simp only [Bool.false_eq_true, if_false] at h
    have o1 : ¬ oneX 45 (.bad i c) = true := by simp [oneX, X.rest]
    rw [if_neg o1] at h
    obtain ⟨H, M, h1, _⟩ := numO_back h
    have := sb_ex1 h1
    cases this
  | good Z =>
    by_cases hw : isW [90] Z
    · have e : foldX [90] (.good Z) = (.good (Z.drop 1), true) := by simp only [foldX, if_pos hw]; rfl
      rw [e] at h ⊢
      simp only [if_true, X.good.injEq] at h ⊢
      refine ⟨Z, rfl, Or.inl ⟨?_, rfl, rfl⟩⟩
      cases Z with
      | nil => exact absurd hw.1 (by simp)
      | cons a r =>
        simp only [List.drop_succ_cons, List.drop_zero] at h
        subst h
        have := hw.2
        simp at this
        rcases low_90 this with rfl | rfl
        · exact Or.inl rfl
        · exact Or.inr rfl
    · have e : foldX [90] (.good Z) = (.good Z, false) := by simp only [foldX, if_neg hw]
      rw [e] at h ⊢
      simp only [Bool.false_eq_true, if_false] at h ⊢
      by_cases c : oneX 45 (.good Z) = true
      · rw [if_pos c] at h ⊢
        obtain ⟨H, M, h1, h2, h3, h4⟩ := numO_back h
        have := sb_one c h1
        rw [h4]
        exact ⟨Z, rfl, Or.inr ⟨45, H, M, X.good.inj this, Or.inr rfl, h2, h3, rfl, rfl⟩⟩
      · rw [if_neg c] at h ⊢
        obtain ⟨H, M, h1, h2, h3, h4⟩ := numO_back h
        have := sb_ex1 h1
        rw [h4]
        exact ⟨Z, rfl, Or.inr ⟨43, H, M, X.good.inj this, Or.inl rfl, h2, h3, rfl, rfl⟩⟩
/-! ### the figures behind the point -/
def isP (R F Z : List Int) : Prop := (F = [] ∧ R = Z ∧ ∀ r, R ≠ 46 :: r) ∨ (F ≠ [] ∧ (∀ y ∈ F, isF y) ∧ R = 46 :: (F ++ Z) ∧ lead Z = 0)
theorem frac_forth (n : Nat) {R F Z : List Int} (h : isP R F Z) : fracI n (.good R) = (.good Z, F) := by
  rcases h with ⟨rfl, rfl, h3⟩ | ⟨h1, h2, rfl, h4⟩
  · have o1 : oneX 46 (.good R) = false := by
      cases R with
      | nil => rfl
      | cons a r =>
        have : ¬ a = 46 := fun q => h3 r (by rw [q])
        simp [oneX, X.rest, this]
    unfold fracI
    rw [o1]; rfl
  · have o1 : oneX 46 (.good (46 :: (F ++ Z))) = true := by simp [oneX, X.rest]
    have t1 : takeX 1 (.good ((46 : Int) :: (F ++ Z))) = .good (F ++ Z) := by simp [takeX]
    have hl : lead (F ++ Z) = F.length := by rw [sl_app F Z h2, h4]; omega
    unfold fracI
    simp only [o1, if_true, t1, X.rest, hl, List.take_left, if_neg h1]
    simp only [takeX, List.drop_left]
theorem lead_drop : ∀ l : List Int, lead (l.drop (lead l)) = 0
  | [] => rfl
  | x :: l => by
    by_cases c : isF x
    · have e : lead (x :: l) = lead l + 1 := by simp only [lead, if_pos c]
      rw [e, List.drop_succ_cons]; exact lead_drop l
    · have e : lead (x :: l) = 0 := by simp only [lead, if_neg c]
      rw [e, List.drop_zero, e]
theorem frac_back {n : Nat} {x : X} {Z : List Int} (h : (fracI n x).1 = .good Z) : ∃ R, x = .good R ∧ isP R (fracI n x).2 Z := by
  unfold fracI at h ⊢
  cases x with
  | bad i c =>
    have o1 : oneX 46 (.bad i c) = false := by simp [oneX, X.rest]
    rw [o1] at h; cases h
  | good R =>
    by_cases c : oneX 46 (.good R) = true
    · rw [if_pos c] at h ⊢
      cases R with
      | nil => simp [oneX, X.rest] at c
      | cons a r =>
        have ha : a = 46 := by simpa [oneX, X.rest] using c
        subst ha
        have t1 : takeX 1 (.good ((46 : Int) :: r)) = .good r := by simp [takeX]
        simp only [t1, X.rest] at h ⊢
        by_cases q : r.take (lead r) = []
        · rw [if_pos q] at h; cases h
        · rw [if_neg q] at h
          simp only [takeX, X.good.injEq] at h
          refine ⟨_, rfl, Or.inr ⟨q, sc_lead_figs (Nat.le_refl _), ?_, ?_⟩⟩
          · rw [← h, List.take_append_drop]
          · rw [← h]; exact lead_drop r
    · rw [if_neg c] at h ⊢
      simp only [X.good.injEq] at h
      refine ⟨R, rfl, Or.inl ⟨rfl, h, fun r q => c ?_⟩⟩
      rw [q]; simp [oneX, X.rest]
/-! ### the whole form -/
structure IF where (Y M D H I S F Z : List Int) (t o : Int) (ok : Bool) (R : List Int)
def IF.good (f : IF) : Prop := ((∀ y ∈ f.Y, isF y) ∧ f.Y.length = 4) ∧ ((∀ y ∈ f.M, isF y) ∧ f.M.length = 2) ∧ ((∀ y ∈ f.D, isF y) ∧ f.D.length = 2) ∧ ((∀ y ∈ f.H, isF y) ∧ f.H.length = 2) ∧ ((∀ y ∈ f.I, isF y) ∧ f.I.length = 2) ∧ ((∀ y ∈ f.S, isF y) ∧ f.S.length = 2) ∧ (f.t = 84 ∨ f.t = 116)
def IF.L (f : IF) : List Int := f.Y ++ (45 :: (f.M ++ (45 :: (f.D ++ (f.t :: (f.H ++ (58 :: (f.I ++ (58 :: (f.S ++ f.R))))))))))
theorem iso_forth (n : Nat) (f : IF) (hg : f.good) (hp : isP f.R f.F f.Z) (hz : isZ f.Z f.o f.ok) : ipX n f.L = ⟨val10 f.Y, val10 f.M, val10 f.D, val10 f.H, val10 f.I, val10 f.S, f.F, f.o, f.ok, .good []⟩ := by
  obtain ⟨hY, hM, hD, hH, hI, hS, ht⟩ := hg
  unfold ipX IF.L
  simp only [sf_date n f.Y f.M f.D _ hY hM hD, sf_num n (low_T ht) 2 f.H _ hH.1 hH.2, sf_num n (a := 58) (c := 58) rfl 2 f.I _ hI.1 hI.2, sf_num n (a := 58) (c := 58) rfl 2 f.S _ hS.1 hS.2, frac_forth n hp, off_forth n hz]
theorem iso_backF {n : Nat} {B : List Int} (h : (ipX n B).e.end = none) : ∃ f : IF, f.good ∧ isP f.R f.F f.Z ∧ isZ f.Z f.o f.ok ∧ B = f.L := by
  have h0 := sb_end h
  obtain ⟨Z, h1, h2⟩ := off_back (n := n) h0
  obtain ⟨R, h3, h4⟩ := frac_back h1
  obtain ⟨a, S, s1, s2, s3, s4, _⟩ := sb_num h3
  obtain ⟨b, I, i1, i2, i3, i4, _⟩ := sb_num s2
  obtain ⟨t, H, t1, t2, t3, t4, _⟩ := sb_num i2
  obtain ⟨Y, M, D, d1, d2, d3, d4, _⟩ := sb_date t2
  have ha := low_58 s1
  have hb := low_58 i1
  subst ha
  subst hb
  refine ⟨⟨Y, M, D, H, I, S, _, Z, t, _, _, R⟩, ⟨d2, d3, d4, ⟨t3, t4⟩, ⟨i3, i4⟩, ⟨s3, s4⟩, low_T' t1⟩, h4, h2, ?_⟩
  exact X.good.inj d1
end Go.Proofs.YtddnfappkfiidaaGreat.Ev
