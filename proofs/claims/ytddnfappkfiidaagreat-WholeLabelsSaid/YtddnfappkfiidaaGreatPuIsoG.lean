/- ISO instants: what the reference reads. -/
import Derived.Test.YtddnfappkfiidaaGreatPuIsoF
namespace Go.Proofs.YtddnfappkfiidaaGreat.Ev
open Go
set_option linter.unusedVariables false
set_option linter.unusedSimpArgs false
@[reducible] def L8 := Int × (Int × (Int × (Int × (Int × (Int × (Int × (Int × Unit)))))))
/-- What is told once the parts are there. -/
def finE (l : Lab) (F : List Int) (ok : Bool) : Int := if 9 < F.length then 3 else if ok = false then 1 else labErr l
def nanoF (F : List Int) : Int := if F = [] then 0 else val10 F * 10 ^ (9 - F.length)
def finR (l : Lab) (F : List Int) (ok : Bool) : Option (Unit × (L8 × ((Int × Unit) × Unit))) := some ((), (if finE l F ok = 0 then l.t else zli, ((finE l F ok, ()), ())))
/-- A zone: Z or z, or a sign and two numbers. -/
def isZ (Z : List Int) (o : Int) (ok : Bool) : Prop :=
  ((Z = [90] ∨ Z = [122]) ∧ o = 0 ∧ ok = true) ∨
  (∃ g H M, Z = g :: (H ++ (58 :: M)) ∧ (g = 43 ∨ g = 45) ∧ ((∀ y ∈ H, isF y) ∧ H.length = 2) ∧ ((∀ y ∈ M, isF y) ∧ M.length = 2) ∧ o = (if g = 45 then -(val10 H * 60 + val10 M) else val10 H * 60 + val10 M) ∧ ok = decide (val10 H < 24 ∧ val10 M < 60))
@[reducible] def zSh (c : Int) : List Int := [c, 48, 48, 58, 48, 48]
theorem zsh_fits {Z : List Int} (hl : Z.length = 6) {c : Int} (hc : c = 43 ∨ c = 45) : fits (zSh c) Z ↔ ∃ H M, Z = c :: (H ++ (58 :: M)) ∧ ((∀ y ∈ H, isF y) ∧ H.length = 2) ∧ ((∀ y ∈ M, isF y) ∧ M.length = 2) := by
  have hB := list_getA Z
  rw [hl] at hB
  have hB2 : Z = [Z.getD 0 0, Z.getD 1 0, Z.getD 2 0, Z.getD 3 0, Z.getD 4 0, Z.getD 5 0] := hB
  constructor
  · intro h
    have f : ∀ i, i < 6 → fitAt ((zSh c).getD i 0) (Z.getD i 0) := fun i hi => h i hi
    have k0 : Z.getD 0 0 = c := (lit24 (by omega) (by omega)).1 (f 0 (by decide))
    have k3 : Z.getD 3 0 = 58 := (lit24 (by decide) (by decide)).1 (f 3 (by decide))
    refine ⟨[Z.getD 1 0, Z.getD 2 0], [Z.getD 4 0, Z.getD 5 0], ?_, ⟨figs2 (fig24.1 (f 1 (by decide))) (fig24.1 (f 2 (by decide))), rfl⟩, ⟨figs2 (fig24.1 (f 4 (by decide))) (fig24.1 (f 5 (by decide))), rfl⟩⟩
    rw [k0, k3] at hB2
    exact hB2
  · rintro ⟨H, M, rfl, ⟨hH, h2⟩, ⟨hM, m2⟩⟩ i hi
    obtain ⟨e, g, rfl⟩ := l2 h2
    obtain ⟨j, k, rfl⟩ := l2 m2
    match i, hi with
    | 0, _ => exact (show fitAt c c from (lit24 (by omega) (by omega)).2 rfl)
    | 1, _ => exact fig24.2 (hH e (by simp))
    | 2, _ => exact fig24.2 (hH g (by simp))
    | 3, _ => exact (show fitAt 58 58 from (lit24 (by decide) (by decide)).2 rfl)
    | 4, _ => exact fig24.2 (hM j (by simp))
    | 5, _ => exact fig24.2 (hM k (by simp))
    | (n + 6), hi => simp at hi; omega
end Go.Proofs.YtddnfappkfiidaaGreat.Ev
