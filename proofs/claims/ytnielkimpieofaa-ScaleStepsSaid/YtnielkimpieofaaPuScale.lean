/- Scales: a label's atomic seconds, by the program and by its reference. -/
import Derived.Test.YtnielkimpieofaaPuLeap2
import Derived.Test.YtnielkimpieofaaPuLab3
namespace Go.Proofs.Ytnielkimpieofaa.Ev
open Go
set_option linter.unusedVariables false
set_option linter.unusedSimpArgs false
/-- A good table's pointer. -/
@[reducible] def tp (l : List (Int × Int)) (u e : Int) : Option ((List (Int × Int)) × (Int × Int)) := some (l, (u, e))
/-- The error's number of a day's second by a table. -/
def secErr (l : List (Int × Int)) (n s : Int) (k : Nat) : Int := if k = 0 then 8 else if 0 ≤ s ∧ s < 86400 + leapV l n k then 0 else 12
def secVal (l : List (Int × Int)) (n s : Int) (k : Nat) : Int := n * 86400 + s + (gd_i64_i64 l ((k : Int) - 1)).2
theorem ref12_has {l : List (Int × Int)} (h : GoodT l) (u e n s : Int) {k : Nat} (hk : Cnt l n k) : g_ref12_Has ((), (tb l u e, ((n, ()), ((s, ()), ())))) = some ((), ((decide (0 ≤ s ∧ s < 86400 + leapV l n k), ()), ())) := by
  have := leapV_range h n k
  simp only [g_ref12_Has, f_ref12_Has_m, ref10_leap h u e n hk, Option.bind_some, Option.isNone_none, Option.isNone_some, Option.isSome_none, Option.isSome_some, Bool.not_true, Bool.not_false, cond_true, cond_false, cond_dec, beq_int, bne_int, not_dec, ge_iff_le]
  rw [iadd_i64 (by omega)]
  by_cases c : 0 ≤ s <;> simp [c]
theorem ref12_of {l : List (Int × Int)} (h : GoodT l) (u e n s : Int) (hn : -100000000000000 ≤ n ∧ n ≤ 100000000000000) {k : Nat} (hk : Cnt l n k) : g_ref12_Of ((), (tb l u e, ((n, ()), ((s, ()), ())))) =
    some ((), ((if secErr l n s k = 0 then secVal l n s k else 0, ()), ((secErr l n s k, ()), ()))) := by
  have hlen := h.len; have hkl := hk.le
  have h1 := ref10_offset u e n (by omega) hk
  have h2 := ref12_has h u e n s hk
  simp only [g_ref12_Of, f_ref12_Of_m, h1, h2, Option.bind_some, Option.isNone_none, Option.isNone_some, Option.isSome_none, Option.isSome_some, Bool.not_true, Bool.not_false, cond_true, cond_false, cond_dec, beq_int, bne_int, not_dec]
  unfold secErr
  by_cases c : k = 0
  · simp [c]
  · have ho := h.off (k - 1) (by omega)
    rw [show ((k - 1 : Nat) : Int) = (k : Int) - 1 by omega] at ho
    simp only [ne_eq, c, not_false_eq_true, not_true_eq_false, if_false]
    by_cases c2 : 0 ≤ s ∧ s < 86400 + leapV l n k
    · have := leapV_range h n k
      simp only [c2, and_self, not_true_eq_false, if_false, if_true]
      simp (disch := omega) only [imul_i64, iadd_i64]; rfl
    · simp only [c2, not_false_eq_true, if_true, if_false]; rfl
/-- A label's error's number by a table. -/
def taiErr (l : List (Int × Int)) (a : Lab) (k : Nat) : Int := if labErr a ≠ 0 then labErr a else secErr l (labN a) (labS a) k
theorem labS_range {a : Lab} (h : labErr a = 0) : 0 ≤ labS a ∧ labS a ≤ 86400 := by
  have := (clk_of_lab h).2.2; exact this
theorem scale_tai {l : List (Int × Int)} (h : GoodT l) (u e : Int) (a : Lab) {k : Nat} (hk : Cnt l (labN a) k) (hb : g_leap_Table_behind ((), ((some (l, (u, e)), ()), ((labN a, ()), ()))) = some ((), (((k : Int), ()), ()))) :
    g_scale_Tai ((), ((tp l u e, ()), (a.t, ()))) =
    some ((), ((if taiErr l a k = 0 then secVal l (labN a) (labS a) k else 0, ()), ((errOf (taiErr l a k), ()), ()))) := by
  have hlen := h.len; have hkl := hk.le
  have h1 := label_split a
  simp only [Lab.t] at h1
  simp only [g_scale_Tai, f_scale_Tai_m, h1, Lab.t, Option.bind_some, Option.isNone_none, Option.isNone_some, Option.isSome_none, Option.isSome_some, Bool.not_true, Bool.not_false, cond_true, cond_false, cond_dec, beq_int, bne_int, not_dec, errOf_none]
  unfold taiErr
  by_cases c : labErr a = 0
  · obtain ⟨_, _, h3, _⟩ := labErr_zero c
    unfold there at h3
    have h2 := table_offset h u e hk hb
    have h4 := table_has h u e hk hb (labS a)
    simp only [c, ne_eq, not_true_eq_false, if_false, if_true, h2, h4, Option.bind_some, Option.isNone_none, Option.isNone_some, Option.isSome_none, Option.isSome_some, Bool.not_true, Bool.not_false, cond_true, cond_false, cond_dec, beq_int, bne_int, not_dec]
    unfold secErr
    by_cases c1 : k = 0
    · simp only [c1, not_true_eq_false, not_false_eq_true, if_true]; rfl
    · have ho := h.off (k - 1) (by omega)
      rw [show ((k - 1 : Nat) : Int) = (k : Int) - 1 by omega] at ho
      simp only [c1, not_false_eq_true, not_true_eq_false, if_false]
      by_cases c2 : 0 ≤ labS a ∧ labS a < 86400 + leapV l (labN a) k
      · have := leapV_range h (labN a) k
        simp only [c2, and_self, not_true_eq_false, if_false, if_true]
        simp (disch := omega) only [imul_i64, iadd_i64]; rw [show labN a * 86400 + (labS a + (gd_i64_i64 l ((k : Int) - 1)).2) = secVal l (labN a) (labS a) k by unfold secVal; omega]; rfl
      · simp only [c2, not_false_eq_true, if_true, if_false]; rfl
  · simp only [c, ne_eq, not_false_eq_true, if_true, if_false]
theorem scale_alive : g_law12_alive ((), ()) = some ((), ((true, ()), ())) := by
  have hg := (good_of demo_good).1
  obtain ⟨k, hk, hb⟩ := behind hg 5 9 911
  have : k = 1 := cnt_unique hk ⟨by decide, fun i hi => by obtain rfl : i = 0 := by omega
                                                           decide, fun i h1 h2 => by
      have h2 : i < 2 := h2
      obtain rfl : i = 1 := by omega
      decide⟩
  subst this
  have e : labErr ⟨1972, 6, 30, 23, 59, 60, 0, 0⟩ = 0 := by decide
  have hl := scale_tai hg 5 9 ⟨1972, 6, 30, 23, 59, 60, 0, 0⟩ (k := 1) hk hb
  have e2 : taiErr [(730, 10), (912, 11)] ⟨1972, 6, 30, 23, 59, 60, 0, 0⟩ 1 = 0 := by decide
  have e3 : secVal [(730, 10), (912, 11)] (labN ⟨1972, 6, 30, 23, 59, 60, 0, 0⟩) (labS ⟨1972, 6, 30, 23, 59, 60, 0, 0⟩) 1 = 78796810 := by decide
  rw [e2, e3] at hl
  simp only [tp, Lab.t] at hl
  simp only [g_law12_alive, f_law12_alive_m, leap_new, demo_good, if_true, errOf_zero, Option.bind_some, Option.isNone_none, Option.isNone_some, Option.isSome_none, Option.isSome_some, Bool.not_true, Bool.not_false, cond_true, cond_false, cond_dec, beq_int, bne_int, not_dec, hl]
  rfl
end Go.Proofs.Ytnielkimpieofaa.Ev
