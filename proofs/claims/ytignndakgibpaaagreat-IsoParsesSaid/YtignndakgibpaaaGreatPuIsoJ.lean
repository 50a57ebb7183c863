/- ISO instants: the reference's whole reader. -/
import Derived.Test.YtignndakgibpaaaGreatPuIsoH
namespace Go.Proofs.YtignndakgibpaaaGreat.Ev
open Go
set_option linter.unusedVariables false
set_option linter.unusedSimpArgs false
@[reducible] def iSh : List Int := [48, 48, 48, 48, 45, 48, 48, 45, 48, 48, 84, 48, 48, 58, 48, 48, 58, 48, 48]
theorem fitT {b : Int} : fitAt 84 b ↔ b = 84 ∨ b = 116 := by
  unfold fitAt; rw [if_neg (by decide)]; simp
/-- The form, its rest left open. -/
def headed (B : List Int) (f : IF) : Prop := f.good ∧ B = f.L
theorem head_fits {B : List Int} {f : IF} (h : headed B f) : 19 ≤ B.length ∧ fits iSh B := by
  obtain ⟨⟨⟨hY, y4⟩, ⟨hM, m2⟩, ⟨hD, d2⟩, ⟨hH, h2⟩, ⟨hI, i2⟩, ⟨hS, s2⟩, ht⟩, rfl⟩ := h
  obtain ⟨a, b, c, d, e1⟩ := l4 y4
  obtain ⟨e, g, e2⟩ := l2 m2
  obtain ⟨j, k, e3⟩ := l2 d2
  obtain ⟨l, m, e4⟩ := l2 h2
  obtain ⟨n, o, e5⟩ := l2 i2
  obtain ⟨p, q, e6⟩ := l2 s2
  unfold IF.L
  rw [e1] at hY ⊢
  rw [e2] at hM ⊢
  rw [e3] at hD ⊢
  rw [e4] at hH ⊢
  rw [e5] at hI ⊢
  rw [e6] at hS ⊢
  refine ⟨by simp only [List.length_append, List.length_cons, List.length_nil]; omega, fun x hx => ?_⟩
  match x, hx with
  | 0, _ => exact fig24.2 (hY a (by simp))
  | 1, _ => exact fig24.2 (hY b (by simp))
  | 2, _ => exact fig24.2 (hY c (by simp))
  | 3, _ => exact fig24.2 (hY d (by simp))
  | 4, _ => exact (show fitAt 45 45 from (lit24 (by decide) (by decide)).2 rfl)
  | 5, _ => exact fig24.2 (hM e (by simp))
  | 6, _ => exact fig24.2 (hM g (by simp))
  | 7, _ => exact (show fitAt 45 45 from (lit24 (by decide) (by decide)).2 rfl)
  | 8, _ => exact fig24.2 (hD j (by simp))
  | 9, _ => exact fig24.2 (hD k (by simp))
  | 10, _ => exact fitT.2 ht
  | 11, _ => exact fig24.2 (hH l (by simp))
  | 12, _ => exact fig24.2 (hH m (by simp))
  | 13, _ => exact (show fitAt 58 58 from (lit24 (by decide) (by decide)).2 rfl)
  | 14, _ => exact fig24.2 (hI n (by simp))
  | 15, _ => exact fig24.2 (hI o (by simp))
  | 16, _ => exact (show fitAt 58 58 from (lit24 (by decide) (by decide)).2 rfl)
  | 17, _ => exact fig24.2 (hS p (by simp))
  | 18, _ => exact fig24.2 (hS q (by simp))
  | (n + 19), hi => simp at hi; omega
theorem fits_head {B : List Int} (hl : 19 ≤ B.length) (h : fits iSh B) (F Z : List Int) (o : Int) (ok : Bool) : ∃ f : IF, headed B f ∧ f.R = B.drop 19 ∧ f.F = F ∧ f.Z = Z ∧ f.o = o ∧ f.ok = ok := by
  have hT : (B.take 19).length = 19 := by rw [List.length_take]; omega
  have hB := list_getA (B.take 19)
  rw [hT] at hB
  have hg : ∀ i, i < 19 → (B.take 19).getD i 0 = B.getD i 0 := fun i hi => by
    rw [List.getD_eq_getElem?_getD, List.getD_eq_getElem?_getD, List.getElem?_take_of_lt hi]
  have hB2 : B.take 19 = [B.getD 0 0, B.getD 1 0, B.getD 2 0, B.getD 3 0, B.getD 4 0, B.getD 5 0, B.getD 6 0, B.getD 7 0, B.getD 8 0, B.getD 9 0, B.getD 10 0, B.getD 11 0, B.getD 12 0, B.getD 13 0, B.getD 14 0, B.getD 15 0, B.getD 16 0, B.getD 17 0, B.getD 18 0] := by
    rw [← hg 0 (by decide), ← hg 1 (by decide), ← hg 2 (by decide), ← hg 3 (by decide), ← hg 4 (by decide), ← hg 5 (by decide), ← hg 6 (by decide), ← hg 7 (by decide), ← hg 8 (by decide), ← hg 9 (by decide), ← hg 10 (by decide), ← hg 11 (by decide), ← hg 12 (by decide), ← hg 13 (by decide), ← hg 14 (by decide), ← hg 15 (by decide), ← hg 16 (by decide), ← hg 17 (by decide), ← hg 18 (by decide)]
    exact hB
  have f : ∀ i, i < 19 → fitAt (iSh.getD i 0) (B.getD i 0) := fun i hi => h i hi
  have F1 : ∀ i, i < 19 → iSh.getD i 0 = 48 → isF (B.getD i 0) := fun i hi e => by
    have := f i hi
    rw [e] at this
    exact fig24.1 this
  have k4 : B.getD 4 0 = 45 := (lit24 (by decide) (by decide)).1 (f 4 (by decide))
  have k7 : B.getD 7 0 = 45 := (lit24 (by decide) (by decide)).1 (f 7 (by decide))
  have k13 : B.getD 13 0 = 58 := (lit24 (by decide) (by decide)).1 (f 13 (by decide))
  have k16 : B.getD 16 0 = 58 := (lit24 (by decide) (by decide)).1 (f 16 (by decide))
  refine ⟨⟨[B.getD 0 0, B.getD 1 0, B.getD 2 0, B.getD 3 0], [B.getD 5 0, B.getD 6 0], [B.getD 8 0, B.getD 9 0], [B.getD 11 0, B.getD 12 0], [B.getD 14 0, B.getD 15 0], [B.getD 17 0, B.getD 18 0], F, Z, B.getD 10 0, o, ok, B.drop 19⟩,
    ⟨⟨⟨figs4 (F1 0 (by decide) rfl) (F1 1 (by decide) rfl) (F1 2 (by decide) rfl) (F1 3 (by decide) rfl), rfl⟩, ⟨figs2 (F1 5 (by decide) rfl) (F1 6 (by decide) rfl), rfl⟩, ⟨figs2 (F1 8 (by decide) rfl) (F1 9 (by decide) rfl), rfl⟩,
      ⟨figs2 (F1 11 (by decide) rfl) (F1 12 (by decide) rfl), rfl⟩, ⟨figs2 (F1 14 (by decide) rfl) (F1 15 (by decide) rfl), rfl⟩, ⟨figs2 (F1 17 (by decide) rfl) (F1 18 (by decide) rfl), rfl⟩, fitT.1 (f 10 (by decide))⟩, ?_⟩, rfl, rfl, rfl, rfl, rfl⟩
  have e := List.take_append_drop 19 B
  rw [hB2, k4, k7, k13, k16] at e
  exact e.symm
end Go.Proofs.YtignndakgibpaaaGreat.Ev
