/- The law IsoDates, plain. -/
import Derived.Test.YtddnfappkfiidaaPuIsoF
namespace Go.Proofs.Ytddnfappkfiidaa.Ev
open Go
set_option linter.unusedVariables false
set_option linter.unusedSimpArgs false
@[reducible] def dSh : List Int := [48, 48, 48, 48, 45, 48, 48, 45, 48, 48]
/-- A day's text: its parts. -/
def isDay (B Y M D : List Int) : Prop := B = Y ++ (45 :: (M ++ (45 :: D))) ∧ ((∀ y ∈ Y, isF y) ∧ Y.length = 4) ∧ ((∀ y ∈ M, isF y) ∧ M.length = 2) ∧ ((∀ y ∈ D, isF y) ∧ D.length = 2)
theorem day_fits {B : List Int} (hl : B.length = 10) : fits dSh B ↔ ∃ Y M D, isDay B Y M D := by
  have hB := list_getA B
  rw [hl] at hB
  have hB2 : B = [B.getD 0 0, B.getD 1 0, B.getD 2 0, B.getD 3 0, B.getD 4 0, B.getD 5 0, B.getD 6 0, B.getD 7 0, B.getD 8 0, B.getD 9 0] := hB
  constructor
  · intro h
    have f : ∀ i, i < 10 → fitAt (dSh.getD i 0) (B.getD i 0) := fun i hi => h i hi
    have k4 : B.getD 4 0 = 45 := (lit24 (by decide) (by decide)).1 (f 4 (by decide))
    have k7 : B.getD 7 0 = 45 := (lit24 (by decide) (by decide)).1 (f 7 (by decide))
    refine ⟨[B.getD 0 0, B.getD 1 0, B.getD 2 0, B.getD 3 0], [B.getD 5 0, B.getD 6 0], [B.getD 8 0, B.getD 9 0], ?_, ⟨figs4 (fig24.1 (f 0 (by decide))) (fig24.1 (f 1 (by decide))) (fig24.1 (f 2 (by decide))) (fig24.1 (f 3 (by decide))), rfl⟩,
      ⟨figs2 (fig24.1 (f 5 (by decide))) (fig24.1 (f 6 (by decide))), rfl⟩, ⟨figs2 (fig24.1 (f 8 (by decide))) (fig24.1 (f 9 (by decide))), rfl⟩⟩
    rw [k4, k7] at hB2
    exact hB2
  · rintro ⟨Y, M, D, rfl, ⟨hY, y4⟩, ⟨hM, m2⟩, ⟨hD, d2⟩⟩ i hi
    obtain ⟨a, b, c, d, rfl⟩ := l4 y4
    obtain ⟨e, g, rfl⟩ := l2 m2
    obtain ⟨j, k, rfl⟩ := l2 d2
    match i, hi with
    | 0, _ => exact fig24.2 (hY a (by simp))
    | 1, _ => exact fig24.2 (hY b (by simp))
    | 2, _ => exact fig24.2 (hY c (by simp))
    | 3, _ => exact fig24.2 (hY d (by simp))
    | 4, _ => exact (lit24 (by decide) (by decide)).2 rfl
    | 5, _ => exact fig24.2 (hM e (by simp))
    | 6, _ => exact fig24.2 (hM g (by simp))
    | 7, _ => exact (lit24 (by decide) (by decide)).2 rfl
    | 8, _ => exact fig24.2 (hD j (by simp))
    | 9, _ => exact fig24.2 (hD k (by simp))
    | (n + 10), hi => simp at hi; omega
theorem v4_range {Y : List Int} (h : (∀ y ∈ Y, isF y) ∧ Y.length = 4) : 0 ≤ val10 Y ∧ val10 Y ≤ 9999 := by
  have := val10_range _ Y h.2 h.1
  omega
theorem v2_range {Y : List Int} (h : (∀ y ∈ Y, isF y) ∧ Y.length = 2) : 0 ≤ val10 Y ∧ val10 Y ≤ 99 := by
  have := val10_range _ Y h.2 h.1
  omega
theorem ref24_date {y m d : Int} (hy : 0 ≤ y ∧ y ≤ 9999) (hm : 1 ≤ m ∧ m ≤ 12) (hd : 1 ≤ d ∧ d ≤ 31) : g_ref24_Date ((), ((y, ()), ((m, ()), ((d, ()), ())))) = some ((), ((strOf (dayL y m d), ()), ())) := by
  have l45 : (⟨#[45]⟩ : ByteArray) = strOf [45] := by kernel_rfl
  have r1 := ref02_raw_dg y 4 (by omega) (by omega)
  have r2 := ref02_raw_dg m 2 (by omega) (by omega)
  have r3 := ref02_raw_dg d 2 (by omega) (by omega)
  have e2 : ((2 : Nat) : Int) = 2 := rfl
  have e4 : ((4 : Nat) : Int) = 4 := rfl
  rw [e4] at r1
  rw [e2] at r2 r3
  simp only [g_ref24_Date, f_ref24_Date_m, l45, r1, r2, r3, Option.bind_some]
  rw [fits_str _ _ (by simp [dgs_len]), cond_true, str_app, fits_str _ _ (by simp [dgs_len]), cond_true, str_app, fits_str _ _ (by simp [dgs_len]), cond_true, str_app, fits_str _ _ (by simp [dgs_len]), cond_true, str_app]
  simp only [dayL, List.append_assoc, List.cons_append, List.nil_append]
end Go.Proofs.Ytddnfappkfiidaa.Ev
