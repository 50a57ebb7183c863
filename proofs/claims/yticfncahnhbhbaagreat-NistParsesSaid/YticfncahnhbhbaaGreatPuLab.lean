/- Labels: what label's functions and their reference tell, in closed form. -/
import Derived.Test.YticfncahnhbhbaaGreatPuCal3
import Derived.Test.YticfncahnhbhbaaGreatPuNn
namespace Go.Proofs.YticfncahnhbhbaaGreat.Ev
open Go
set_option linter.unusedVariables false
set_option linter.unusedSimpArgs false
/-- A label. -/
structure Lab where
  (y m d h i s n o : Int)
@[reducible] def Lab.t (l : Lab) : Int × (Int × (Int × (Int × (Int × (Int × (Int × (Int × Unit))))))) := (l.y, (l.m, (l.d, (l.h, (l.i, (l.s, (l.n, (l.o, ()))))))))
def fErr (l : Lab) : Int := if (0 ≤ l.h ∧ l.h ≤ 23) ∧ (0 ≤ l.i ∧ l.i ≤ 59) ∧ (0 ≤ l.s ∧ l.s ≤ 60) ∧ (0 ≤ l.n ∧ l.n ≤ 999999999) ∧ (-1439 ≤ l.o ∧ l.o ≤ 1439) then 0 else 1
def there (n : Int) : Prop := -4371587 ≤ n ∧ n ≤ 2932896
instance (n : Int) : Decidable (there n) := by unfold there; infer_instance
/-- The minutes from the date's midnight, without its offset. -/
def labM (l : Lab) : Int := l.h * 60 + l.i - l.o
def labN (l : Lab) : Int := dnum l.y l.m l.d + labM l / 1440
def labS (l : Lab) : Int := labM l % 1440 * 60 + l.s
def labErr (l : Lab) : Int :=
  if dErr l.y l.m l.d ≠ 0 then dErr l.y l.m l.d else if fErr l ≠ 0 then 1 else if ¬ there (labN l) then 13 else if l.s = 60 ∧ labM l % 1440 ≠ 1439 then 12 else 0
theorem label_in (x b : Int) : g_label_in ((), ((x, ()), ((b, ()), ()))) = some ((), ((decide (0 ≤ x ∧ x < b), ()), ())) := by
  simp only [g_label_in, f_label_in_m, fitsS_dec, Option.bind_some, Option.isNone_none, Option.isNone_some, Option.isSome_none, Option.isSome_some, Bool.not_true, Bool.not_false, cond_true, cond_false, cond_dec, beq_int, bne_int, not_dec, ge_iff_le]
  by_cases h : 0 ≤ x <;> simp [h]
theorem fErr_zero {l : Lab} : fErr l = 0 ↔ (0 ≤ l.h ∧ l.h ≤ 23) ∧ (0 ≤ l.i ∧ l.i ≤ 59) ∧ (0 ≤ l.s ∧ l.s ≤ 60) ∧ (0 ≤ l.n ∧ l.n ≤ 999999999) ∧ (-1439 ≤ l.o ∧ l.o ≤ 1439) := by
  unfold fErr; split <;> simp_all
theorem fErr_one {l : Lab} (h : fErr l ≠ 0) : fErr l = 1 := by
  unfold fErr at *; split <;> simp_all
theorem labErr_zero {l : Lab} (h : labErr l = 0) : dErr l.y l.m l.d = 0 ∧ fErr l = 0 ∧ there (labN l) ∧ (l.s = 60 → labM l % 1440 = 1439) := by
  unfold labErr at h
  split at h
  · rename_i c; exact absurd h c
  · rename_i c
    split at h
    · cases h
    · rename_i c1
      split at h
      · cases h
      · rename_i c2
        split at h
        · cases h
        · rename_i c3
          refine ⟨by simpa using c, by simpa using c1, by simpa using c2, fun e => ?_⟩
          by_cases h' : labM l % 1440 = 1439
          · exact h'
          · exact absurd ⟨e, h'⟩ c3
end Go.Proofs.YticfncahnhbhbaaGreat.Ev
