/- Leap tables: what the reference's functions tell of them. -/
import Derived.Test.YtddnfappkfiidaaGreatPuLeap
namespace Go.Proofs.YtddnfappkfiidaaGreat.Ev
open Go
set_option linter.unusedVariables false
set_option linter.unusedSimpArgs false
/-- A table as the reference's functions take it. -/
@[reducible] def tbR (l : List (Int × Int)) (u e : Int) : (List (Int × Int)) × (Int × (Int × Unit)) := (l, (u, (e, ())))
theorem first_iff {n y m d : Int} (h : IsDate n y m d) : first n ↔ d = 1 := by
  constructor
  · rintro ⟨y', m', h'⟩; exact (isDate_unique h h').2.2
  · rintro rfl; exact ⟨y, m, h⟩
theorem R_eq {l : List (Int × Int)} {i : Nat} (h : i < l.length) : gd_i64_i64 l i = l[i] := by simp [gd_i64_i64, gd, h]
theorem table_length {l : List (Int × Int)} (h : GoodT l) (u e : Int) {n : Int} {k : Nat} (hk : Cnt l n k) (hb : g_leap_Table_behind ((), ((some (l, (u, e)), ()), ((n, ()), ()))) = some ((), (((k : Int), ()), ()))) :
    g_leap_Table_Length ((), ((some (l, (u, e)), ()), ((n, ()), ()))) = some ((), ((86400 + leapV l n k, ()), ())) := by
  have := leapV_range h n k
  simp only [g_leap_Table_Length, f_leap_Table_Length_m, table_leap h u e hk hb, Option.bind_some]
  rw [iadd_i64 (by omega)]
theorem table_has {l : List (Int × Int)} (h : GoodT l) (u e : Int) {n : Int} {k : Nat} (hk : Cnt l n k) (hb : g_leap_Table_behind ((), ((some (l, (u, e)), ()), ((n, ()), ()))) = some ((), (((k : Int), ()), ()))) (s : Int) :
    g_leap_Table_Has ((), ((some (l, (u, e)), ()), ((n, ()), ((s, ()), ())))) = some ((), ((decide (0 ≤ s ∧ s < 86400 + leapV l n k), ()), ())) := by
  simp only [g_leap_Table_Has, f_leap_Table_Has_m, table_length h u e hk hb, fitsS_dec, Option.bind_some, Option.isNone_none, Option.isNone_some, Option.isSome_none, Option.isSome_some, Bool.not_true, Bool.not_false, cond_true, cond_false, cond_dec, beq_int, bne_int, not_dec, ge_iff_le]
  by_cases c : 0 ≤ s <;> simp [c]
end Go.Proofs.YtddnfappkfiidaaGreat.Ev
