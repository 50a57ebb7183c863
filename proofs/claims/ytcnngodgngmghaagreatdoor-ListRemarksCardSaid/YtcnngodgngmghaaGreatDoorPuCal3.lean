/- The calendar: which date a number has, by the program and by the reference; a number has one date. -/
import Derived.Test.YtcnngodgngmghaaGreatDoorPuCal2
namespace Go.Proofs.YtcnngodgngmghaaGreatDoor.Ev
open Go
set_option linter.unusedVariables false
set_option linter.unusedSimpArgs false
theorem ystart_mono {y y' : Int} (h : y < y') : dnum (y + 1) 1 1 ≤ dnum y' 1 1 := by
  unfold dnum; simp only [show (1 : Int) ≤ 2 by decide, if_true]; omega
theorem mstart_mono {y m : Int} : ∀ (n : Nat), 1 ≤ m → m + 1 + n ≤ 12 → dnum y m 1 + mlen y m ≤ dnum y (m + 1 + n) 1 := by
  intro n; induction n with
  | zero => intro h0 h1; rw [show m + 1 + ((0 : Nat) : Int) = m + 1 by omega, mlen_eq y m (by omega)]; omega
  | succ n ih =>
    intro h0 h1
    have := ih h0 (by omega)
    have e := mlen_eq y (m + 1 + n) (by omega)
    have := mlen_range y (m + 1 + n)
    rw [show m + 1 + ((n + 1 : Nat) : Int) = m + 1 + n + 1 by omega, e]; omega
theorem isDate_year {n y m d : Int} (h : IsDate n y m d) : dnum y 1 1 ≤ n ∧ n < dnum (y + 1) 1 1 := by
  obtain ⟨h1, h2, h3⟩ := h
  have := mstart y m h1
  rw [dnum_day] at h3; omega
theorem isDate_unique {n y m d y' m' d' : Int} (h : IsDate n y m d) (h' : IsDate n y' m' d') : y = y' ∧ m = m' ∧ d = d' := by
  have a := isDate_year h
  have a' := isDate_year h'
  have e : y = y' := by
    rcases Int.lt_trichotomy y y' with c | c | c
    · have := ystart_mono c; omega
    · exact c
    · have := ystart_mono c; omega
  subst e
  obtain ⟨h1, h2, h3⟩ := h
  obtain ⟨k1, k2, k3⟩ := h'
  rw [dnum_day] at h3 k3
  have e : m = m' := by
    rcases Int.lt_trichotomy m m' with c | c | c
    · have := mstart_mono (y := y) (m := m) (m' - m - 1).toNat (by omega) (by omega)
      rw [show m + 1 + ((m' - m - 1).toNat : Int) = m' by omega] at this; omega
    · exact c
    · have := mstart_mono (y := y) (m := m') (m - m' - 1).toNat (by omega) (by omega)
      rw [show m' + 1 + ((m - m' - 1).toNat : Int) = m by omega] at this; omega
  subst e
  exact ⟨rfl, rfl, by omega⟩
/-- The year of an era's day. -/
theorem of_year {f o : Int} (h : 0 ≤ f ∧ f ≤ 146096) (ho : o = (f - f / 1460 + f / 36524 - f / 146096) / 365) :
    0 ≤ o ∧ o ≤ 399 ∧ 0 ≤ f - (365 * o + o / 4 - o / 100) ∧ f - (365 * o + o / 4 - o / 100) ≤ 365 ∧
      (f - (365 * o + o / 4 - o / 100) = 365 → (o + 1) % 4 = 0 ∧ ((o + 1) % 100 ≠ 0 ∨ (o + 1) % 400 = 0)) := by
  by_cases h4 : f = 146096
  · subst h4; subst ho; decide
  obtain ⟨c, q, r, hf, hc, hq, hr, hl⟩ : ∃ c q r : Int, f = 36524 * c + 1461 * q + r ∧ (0 ≤ c ∧ c ≤ 3) ∧ (0 ≤ q ∧ q ≤ 24) ∧ (0 ≤ r ∧ r ≤ 1460) ∧ (q = 24 → r ≤ 1459) :=
    ⟨f / 36524, f % 36524 / 1461, f % 36524 % 1461, by omega, by omega, by omega, by omega, by omega⟩
  have e1 : f / 36524 = c := by omega
  have e2 : f / 146096 = 0 := by omega
  obtain ⟨e, he, hee⟩ : ∃ e : Int, f / 1460 = 25 * c + q + e ∧ ((e = 0 ∧ 24 * c + q + r < 1460) ∨ (e = 1 ∧ 1460 ≤ 24 * c + q + r)) := by
    by_cases hh : 24 * c + q + r < 1460
    · exact ⟨0, by omega, .inl ⟨rfl, hh⟩⟩
    · exact ⟨1, by omega, .inr ⟨rfl, by omega⟩⟩
  rw [e1, e2, he] at ho
  have ho' : o = (365 * (100 * c + 4 * q) + (r - e)) / 365 := by rw [ho]; congr 1; omega
  obtain ⟨s, hs, ht⟩ : ∃ s : Int, o = 100 * c + 4 * q + s ∧ (0 ≤ s ∧ s ≤ 3 ∧ 365 * s ≤ r ∧ r ≤ 365 * s + 365 ∧ (r = 365 * s + 365 → r = 1460 ∧ s = 3)) :=
    ⟨(r - e) / 365, by omega, by omega⟩
  have f1 : o / 4 = 25 * c + q := by omega
  have f2 : o / 100 = c := by omega
  rw [f1, f2]
  refine ⟨by omega, by omega, by omega, by omega, fun hh => ?_⟩
  have : r = 1460 ∧ s = 3 := ht.2.2.2.2 (by omega)
  omega
theorem date_of {y p r : Int} (hr : 0 ≤ r ∧ r ≤ 365) (hp : p = (5 * r + 2) / 153) (hl : r = 365 → isLeap (y + 1)) :
    IsDate (365 * y + y / 4 - y / 100 + y / 400 + r - 719468) (if p + 3 > 12 then y + 1 else y) (if p + 3 > 12 then p + 3 - 12 else p + 3) (r - (153 * p + 2) / 5 + 1) := by
  have hp' : p = 0 ∨ p = 1 ∨ p = 2 ∨ p = 3 ∨ p = 4 ∨ p = 5 ∨ p = 6 ∨ p = 7 ∨ p = 8 ∨ p = 9 ∨ p = 10 ∨ p = 11 := by omega
  rcases hp' with rfl | rfl | rfl | rfl | rfl | rfl | rfl | rfl | rfl | rfl | rfl | rfl <;> refine ⟨by simp, ?_, by simp [dnum]; omega⟩ <;> simp [mlen]
  all_goals first | omega | skip
  by_cases h : r = 365
  · rw [if_pos (hl h)]; omega
  · split <;> omega
theorem year_bound {n y m d : Int} (h : IsDate n y m d) (hn : -4371587 ≤ n ∧ n ≤ 2932896) : -9999 ≤ y ∧ y ≤ 9999 := by
  have := isDate_year h
  have e1 : dnum (-9999) 1 1 = -4371587 := rfl
  have e2 : dnum 10000 1 1 = 2932897 := rfl
  constructor
  · by_cases c : y < -9999
    · have := ystart_mono c; omega
    · omega
  · by_cases c : 9999 < y
    · have := ystart_mono (y := 9999) (y' := y) c
      rw [show (9999 : Int) + 1 = 10000 from rfl] at this; omega
    · omega
theorem year_era {o E : Int} (ho : 0 ≤ o ∧ o ≤ 399) : 365 * (o + E * 400) + (o + E * 400) / 4 - (o + E * 400) / 100 + (o + E * 400) / 400 = 146097 * E + (365 * o + o / 4 - o / 100) := by
  have e1 : (o + E * 400) / 4 = o / 4 + 100 * E := by omega
  have e2 : (o + E * 400) / 100 = o / 100 + 4 * E := by omega
  have e3 : (o + E * 400) / 400 = E := by omega
  rw [e1, e2, e3]; omega
theorem date_e2 {f : Int} (h : 0 ≤ f ∧ f ≤ 146096) : iquo .i64 (isub .i64 (iadd .i64 (isub .i64 f (iquo .i64 f 1460)) (iquo .i64 f 36524)) (iquo .i64 f 146096)) 365 = (f - f / 1460 + f / 36524 - f / 146096) / 365 := by
  have a : 0 ≤ f / 1460 ∧ f / 1460 ≤ f := by omega
  have b : 0 ≤ f / 36524 ∧ f / 36524 ≤ 4 := by omega
  have c : 0 ≤ f / 146096 ∧ f / 146096 ≤ 1 := by omega
  have d : 0 ≤ f - f / 1460 + f / 36524 - f / 146096 := by omega
  rw [iquo_nn (a := f) (by decide) (by omega), iquo_nn (a := f) (by decide) (by omega), iquo_nn (a := f) (by decide) (by omega)]
  generalize f / 1460 = x at *
  generalize f / 36524 = y at *
  generalize f / 146096 = z at *
  rw [isub_i64 (a := f) (by omega), iadd_i64 (by omega), isub_i64 (by omega), iquo_nn (by decide) (by omega)]
theorem date_e3 {f o : Int} (h : 0 ≤ f ∧ f ≤ 146096) (ho : 0 ≤ o ∧ o ≤ 399) : isub .i64 f (isub .i64 (iadd .i64 (imul .i64 365 o) (iquo .i64 o 4)) (iquo .i64 o 100)) = f - (365 * o + o / 4 - o / 100) := by
  have a : 0 ≤ o / 4 ∧ o / 4 ≤ 99 := by omega
  have b : 0 ≤ o / 100 ∧ o / 100 ≤ 3 := by omega
  rw [iquo_nn (a := o) (by decide) (by omega), iquo_nn (a := o) (by decide) (by omega)]
  generalize o / 4 = x at *
  generalize o / 100 = y at *
  rw [imul_i64 (by omega), iadd_i64 (by omega), isub_i64 (a := 365 * o + x) (by omega), isub_i64 (by omega)]
theorem date_e5 {r p : Int} (hr : 0 ≤ r ∧ r ≤ 365) (hp : 0 ≤ p ∧ p ≤ 11) : iadd .i64 (isub .i64 r (iquo .i64 (iadd .i64 (imul .i64 153 p) 2) 5)) 1 = r - (153 * p + 2) / 5 + 1 := by
  have a : 0 ≤ (153 * p + 2) / 5 ∧ (153 * p + 2) / 5 ≤ 400 := by omega
  rw [imul_i64 (by omega), iadd_i64 (a := 153 * p) (by omega), iquo_nn (by decide) (by omega)]
  generalize (153 * p + 2) / 5 = x at *
  rw [isub_i64 (by omega), iadd_i64 (by omega)]
theorem day_date_ex (n : Int) (hn : -4371587 ≤ n ∧ n ≤ 2932896) : ∃ y m d, g_day_Date ((), ((n, ()), ())) = some ((), ((y, ()), ((m, ()), ((d, ()), ((none, ()), ()))))) ∧ IsDate n y m d := by
  have hz : 0 ≤ (n + 719468) % 146097 ∧ (n + 719468) % 146097 ≤ 146096 := by omega
  have hg := of_year hz rfl
  generalize hf : (n + 719468) % 146097 = f at hz hg
  generalize hE : (n + 719468) / 146097 = E
  have hn2 : n + 719468 = 146097 * E + f := by omega
  have hEr : -40 ≤ E ∧ E ≤ 40 := by omega
  generalize ho : (f - f / 1460 + f / 36524 - f / 146096) / 365 = o at hg
  generalize hr : f - (365 * o + o / 4 - o / 100) = r at hg
  have hd := date_of (y := o + E * 400) (p := (5 * r + 2) / 153) (r := r) (by omega) rfl (fun h => by unfold isLeap; omega)
  have en : 365 * (o + E * 400) + (o + E * 400) / 4 - (o + E * 400) / 100 + (o + E * 400) / 400 + r - 719468 = n := by
    have ho : 0 ≤ o ∧ o ≤ 399 := ⟨hg.1, hg.2.1⟩
    rw [year_era ho]; omega
  rw [en] at hd
  refine ⟨_, _, _, ?_, hd⟩
  simp only [g_day_Date, f_day_Date_m, day_first, day_last, fitsS_dec, Option.bind_some, Option.isNone_none, Option.isNone_some, Option.isSome_none, Option.isSome_some, Bool.not_true, Bool.not_false, cond_true, cond_false, cond_dec, beq_int, bne_int, not_dec, gt_iff_lt]
  rw [if_neg (by omega), if_neg (by omega)]
  have e0 : iadd .i64 n 719468 = n + 719468 := iadd_i64 (by omega)
  simp only [e0]
  rw [day_floor _ _ (by decide) (by omega), hE]
  simp only [Option.bind_some]
  have e1 : isub .i64 (n + 719468) (imul .i64 E 146097) = f := by rw [imul_i64 (by omega), isub_i64 (by omega)]; omega
  simp only [e1]
  have e2 := date_e2 hz
  rw [ho] at e2
  simp only [e2]
  have e3 := date_e3 hz (o := o) ⟨hg.1, hg.2.1⟩
  rw [hr] at e3
  simp only [e3]
  have hr' : 0 ≤ r ∧ r ≤ 365 := ⟨hg.2.2.1, hg.2.2.2.1⟩
  have ho' : 0 ≤ o ∧ o ≤ 399 := ⟨hg.1, hg.2.1⟩
  clear hg ho hr e2 e3 en hd
  have e4 : iquo .i64 (iadd .i64 (imul .i64 5 r) 2) 153 = (5 * r + 2) / 153 := by
    rw [imul_i64 (by omega), iadd_i64 (by omega), iquo_nn (by decide) (by omega)]
  simp only [e4]
  generalize hp : (5 * r + 2) / 153 = p
  have hp' : 0 ≤ p ∧ p ≤ 11 := by omega
  have e5 := date_e5 hr' hp'
  have e6 : iadd .i64 o (imul .i64 E 400) = o + E * 400 := by rw [imul_i64 (by omega), iadd_i64 (by omega)]
  have e7 : iadd .i64 p 3 = p + 3 := iadd_i64 (by omega)
  simp only [e5, e6, e7]
  by_cases h : 12 < p + 3
  · rw [if_pos h, if_pos h, if_pos h, isub_i64 (by omega), iadd_i64 (by omega)]
  · rw [if_neg h, if_neg h, if_neg h]
theorem day_date {n y m d : Int} (hn : -4371587 ≤ n ∧ n ≤ 2932896) (h : IsDate n y m d) : g_day_Date ((), ((n, ()), ())) = some ((), ((y, ()), ((m, ()), ((d, ()), ((none, ()), ()))))) := by
  obtain ⟨y', m', d', e, h'⟩ := day_date_ex n hn
  obtain ⟨rfl, rfl, rfl⟩ := isDate_unique h h'
  exact e
theorem day_date_bad {n : Int} (hn : ¬(-4371587 ≤ n ∧ n ≤ 2932896)) : g_day_Date ((), ((n, ()), ())) = some ((), ((0, ()), ((0, ()), ((0, ()), ((some 13, ()), ()))))) := by
  simp only [g_day_Date, f_day_Date_m, day_first, day_last, fitsS_dec, Option.bind_some, Option.isNone_none, Option.isNone_some, Option.isSome_none, Option.isSome_some, Bool.not_true, Bool.not_false, cond_true, cond_false, cond_dec, beq_int, bne_int, not_dec, gt_iff_lt]
  by_cases h : n < -4371587
  · rw [if_pos h]
  · rw [if_neg h, if_pos (by omega)]
theorem date_ex (n : Int) (hn : -4371587 ≤ n ∧ n ≤ 2932896) : ∃ y m d, IsDate n y m d := by
  obtain ⟨y, m, d, _, h⟩ := day_date_ex n hn
  exact ⟨y, m, d, h⟩
theorem ystart_lt {y y' : Int} (h : dnum y 1 1 < dnum (y' + 1) 1 1) : y ≤ y' := by
  by_cases c : y' < y
  · have := ystart_mono c; omega
  · omega
end Go.Proofs.YtcnngodgngmghaaGreatDoor.Ev
