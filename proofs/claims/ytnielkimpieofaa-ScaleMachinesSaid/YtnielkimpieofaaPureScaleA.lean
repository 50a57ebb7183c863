/- The laws ScaleLabels and ScaleMachines, plain. -/
import Derived.Test.YtnielkimpieofaaPuScale
namespace Go.Proofs.Ytnielkimpieofaa.Ev
open Go
set_option linter.unusedVariables false
set_option linter.unusedSimpArgs false
theorem ref12_tai {l : List (Int × Int)} (h : GoodT l) (u e : Int) (a : Lab) {k : Nat} (hk : Cnt l (labN a) k) : g_ref12_Tai ((), (tb l u e, (a.t, ()))) =
    some ((), ((if taiErr l a k = 0 then secVal l (labN a) (labS a) k else 0, ()), ((taiErr l a k, ()), ()))) := by
  have h1 := ref08_split a
  simp only [Lab.t] at h1
  simp only [g_ref12_Tai, f_ref12_Tai_m, h1, Lab.t, Option.bind_some, Option.isNone_none, Option.isNone_some, Option.isSome_none, Option.isSome_some, Bool.not_true, Bool.not_false, cond_true, cond_false, cond_dec, beq_int, bne_int, not_dec]
  unfold taiErr
  by_cases c : labErr a = 0
  · obtain ⟨_, _, h3, _⟩ := labErr_zero c
    unfold there at h3
    have h2 := ref12_of h u e (labN a) (labS a) (by omega) hk
    simp only [c, ne_eq, not_true_eq_false, if_false, if_true, h2, Option.bind_some, Option.isNone_none, Option.isNone_some, Option.isSome_none, Option.isSome_some, Bool.not_true, Bool.not_false, cond_true, cond_false, cond_dec, beq_int, bne_int, not_dec]
  · simp only [c, ne_eq, not_false_eq_true, if_true, if_false]
theorem scale_posix (a : Lab) : g_scale_Posix ((), (a.t, ())) = some ((), ((if labErr a = 0 then labN a * 86400 + labS a else 0, ()), ((errOf (labErr a), ()), ()))) := by
  have h1 := label_split a
  simp only [Lab.t] at h1
  simp only [g_scale_Posix, f_scale_Posix_m, h1, Lab.t, Option.bind_some, Option.isNone_none, Option.isNone_some, Option.isSome_none, Option.isSome_some, Bool.not_true, Bool.not_false, cond_true, cond_false, cond_dec, beq_int, bne_int, not_dec, errOf_none]
  by_cases c : labErr a = 0
  · obtain ⟨_, _, h3, _⟩ := labErr_zero c
    have := labS_range c
    unfold there at h3
    simp only [c, ne_eq, not_true_eq_false, if_false, if_true]
    simp (disch := omega) only [imul_i64, iadd_i64]; rfl
  · simp only [c, ne_eq, not_false_eq_true, if_true, if_false]
theorem ref12_posix (a : Lab) : g_ref12_Posix ((), (a.t, ())) = some ((), ((if labErr a = 0 then labN a * 86400 + labS a else 0, ()), ((labErr a, ()), ()))) := by
  have h1 := ref08_split a
  simp only [Lab.t] at h1
  simp only [g_ref12_Posix, f_ref12_Posix_m, h1, Lab.t, Option.bind_some, Option.isNone_none, Option.isNone_some, Option.isSome_none, Option.isSome_some, Bool.not_true, Bool.not_false, cond_true, cond_false, cond_dec, beq_int, bne_int, not_dec]
  by_cases c : labErr a = 0
  · obtain ⟨_, _, h3, _⟩ := labErr_zero c
    have := labS_range c
    unfold there at h3
    simp only [c, ne_eq, not_true_eq_false, if_false, if_true]
    simp (disch := omega) only [imul_i64, iadd_i64]
  · simp only [c, ne_eq, not_false_eq_true, if_true, if_false]
theorem scale_listed {l : List (Int × Int)} (h : GoodT l) (u e : Int) (a : Lab) {k : Nat} (hk : Cnt l (labN a) k) (hb : g_leap_Table_behind ((), ((some (l, (u, e)), ()), ((labN a, ()), ()))) = some ((), (((k : Int), ()), ()))) :
    g_scale_Listed ((), ((tp l u e, ()), (a.t, ()))) = some ((), ((errOf (if labErr a ≠ 0 then labErr a else if 0 ≤ labS a ∧ labS a < 86400 + leapV l (labN a) k then 0 else 12), ()), ())) := by
  have h1 := label_split a
  simp only [Lab.t] at h1
  simp only [g_scale_Listed, f_scale_Listed_m, h1, Lab.t, Option.bind_some, Option.isNone_none, Option.isNone_some, Option.isSome_none, Option.isSome_some, Bool.not_true, Bool.not_false, cond_true, cond_false, cond_dec, beq_int, bne_int, not_dec, errOf_none]
  by_cases c : labErr a = 0
  · have h4 := table_has h u e hk hb (labS a)
    simp only [c, ne_eq, not_true_eq_false, if_false, if_true, h4, Option.bind_some, Option.isNone_none, Option.isNone_some, Option.isSome_none, Option.isSome_some, Bool.not_true, Bool.not_false, cond_true, cond_false, cond_dec, beq_int, bne_int, not_dec]
    by_cases c2 : 0 ≤ labS a ∧ labS a < 86400 + leapV l (labN a) k
    · simp only [c2, and_self, not_true_eq_false, if_false, if_true]; rfl
    · simp only [c2, not_false_eq_true, if_true, if_false]; rfl
  · simp only [c, ne_eq, not_false_eq_true, if_true, if_false]
theorem scale_labels (l : List (Int × Int)) (u e : Int) (a : Lab) : g_law12_ScaleLabels ((), (tb l u e, (a.t, ()))) = some ((), ((true, ()), ())) := by
  have p1 := scale_posix a
  have p2 := ref12_posix a
  have p3 := ref08_split a
  simp only [Lab.t] at p1 p2 p3
  simp only [g_law12_ScaleLabels, f_law12_ScaleLabels_m, scale_alive, g_law10_Long, f_law10_Long_m, Lab.t, document, p1, p2, p3, num_num, Option.bind_some, Option.isNone_none, Option.isNone_some, Option.isSome_none, Option.isSome_some, Bool.not_true, Bool.not_false, cond_true, cond_false, cond_dec, beq_int, bne_int, not_dec, gt_iff_lt]
  by_cases c0 : 296 < l.length
  · rw [if_pos (by omega)]
  have hcl : ¬ ((296 : Int) < l.length) := by omega
  rw [if_neg hcl]
  have hm := made l (by omega) u e
  have hc := ref10_check l u e
  simp only [hm, hc, Option.bind_some, Option.isNone_none, Option.isNone_some, Option.isSome_none, Option.isSome_some, Bool.not_true, Bool.not_false, cond_true, cond_false, cond_dec, beq_int, bne_int, not_dec, ne_eq, not_true_eq_false, if_false]
  by_cases c : tErr l u e = 0
  · obtain ⟨hg, _, _⟩ := good_of c
    obtain ⟨k, hk, hb⟩ := behind hg u e (labN a)
    have h1 := scale_tai hg u e a hk hb
    have h2 := ref12_tai hg u e a hk
    have h3 := scale_listed hg u e a hk hb
    have h4 := ref12_has hg u e (labN a) (labS a) hk
    simp only [Lab.t, tp] at h1 h2 h3 h4
    simp only [c, not_true_eq_false, if_false, if_true, h1, h2, h3, num_num, Option.bind_some, Option.isNone_none, Option.isNone_some, Option.isSome_none, Option.isSome_some, Bool.not_true, Bool.not_false, cond_true, cond_false, cond_dec, beq_int, bne_int, not_dec]
    by_cases c1 : labErr a = 0
    · simp only [c1, if_true, ne_eq, not_true_eq_false, if_false, h4, Option.bind_some, Option.isNone_none, Option.isNone_some, Option.isSome_none, Option.isSome_some, Bool.not_true, Bool.not_false, cond_true, cond_false, cond_dec, beq_int, bne_int, not_dec]
      by_cases c2 : 0 ≤ labS a ∧ labS a < 86400 + leapV l (labN a) k
      · simp [c2]
      · simp [c2]
    · simp [c1]
  · simp [c]
/-- The day and second of machine seconds. -/
theorem posix_split (p : Int) (hp : -9223372036854775808 ≤ p ∧ p ≤ 9223372036854775807) : g_num_Split ((), ((p, ()), ((86400, ()), ()))) = some ((), ((p / 86400, ()), ((p % 86400, ()), ((none, ()), ())))) := by
  by_cases c : p = -9223372036854775808
  · subst c; rfl
  · exact num_split p 86400 (by decide) (by decide) (by omega)
theorem from_both (p n o : Int) (hp : -9223372036854775808 ≤ p ∧ p ≤ 9223372036854775807) : ∃ a : Lab, g_scale_FromPosix ((), ((p, ()), ((n, ()), ((o, ()), ())))) = some ((), (a.t, ((errOf (ofErr (p / 86400) (p % 86400) n o), ()), ()))) ∧
    g_ref12_FromPosix ((), ((p, ()), ((n, ()), ((o, ()), ())))) = some ((), (a.t, ((ofErr (p / 86400) (p % 86400) n o, ()), ()))) := by
  obtain ⟨a, h1, h2, _⟩ := of_both (p / 86400) (p % 86400) n o
  refine ⟨a, ?_, ?_⟩
  · simp only [g_scale_FromPosix, f_scale_FromPosix_m, posix_split p hp, h1, Lab.t, Option.bind_some, Option.isNone_none, Option.isNone_some, Option.isSome_none, Option.isSome_some, Bool.not_true, Bool.not_false, cond_true, cond_false, cond_dec, beq_int, bne_int, not_dec]
  · have h3 : ∀ x y : Int, x = p / 86400 → y = p % 86400 → g_ref08_Of ((), ((x, ()), ((y, ()), ((n, ()), ((o, ()), ()))))) = some ((), (a.t, ((ofErr (p / 86400) (p % 86400) n o, ()), ()))) := fun x y e1 e2 => by rw [e1, e2]; exact h2
    simp only [g_ref12_FromPosix, f_ref12_FromPosix_m, Option.bind_some, Option.isNone_none, Option.isNone_some, Option.isSome_none, Option.isSome_some, Bool.not_true, Bool.not_false, cond_true, cond_false, cond_dec, beq_int, bne_int, not_dec]
    rw [iquo_pos (by decide) hp, tmod_pos 86400 (by decide)]
    by_cases c : 0 ≤ p
    · rw [if_pos c, if_pos c, if_neg (by omega), h3 _ _ rfl rfl]
      simp only [Lab.t, Option.bind_some]
    · rw [if_neg c, if_neg c]
      by_cases d : -(-p % 86400) < 0
      · rw [if_pos d, h3 _ _ (by rw [isub_i64 (by omega)]; omega) (by rw [iadd_i64 (by omega)]; omega)]
        simp only [Lab.t, Option.bind_some]
      · rw [if_neg d, h3 _ _ (by omega) (by omega)]
        simp only [Lab.t, Option.bind_some]
theorem scale_machines (l : List (Int × Int)) (u e p n o : Int) (hp : -9223372036854775808 ≤ p ∧ p ≤ 9223372036854775807) : g_law12_ScaleMachines ((), (tb l u e, ((p, ()), ((n, (o, ())), ())))) = some ((), ((true, ()), ())) := by
  obtain ⟨a, a1, a2⟩ := from_both p n o hp
  obtain ⟨b, b1, b2⟩ := from_both p 0 0 hp
  simp only [Lab.t] at a1 a2 b1 b2
  simp only [g_law12_ScaleMachines, f_law12_ScaleMachines_m, scale_alive, g_law10_Long, f_law10_Long_m, document, a1, a2, num_num, Option.bind_some, Option.isNone_none, Option.isNone_some, Option.isSome_none, Option.isSome_some, Bool.not_true, Bool.not_false, cond_true, cond_false, cond_dec, beq_int, bne_int, not_dec, gt_iff_lt]
  by_cases c0 : 296 < l.length
  · rw [if_pos (by omega)]
  have hcl : ¬ ((296 : Int) < l.length) := by omega
  rw [if_neg hcl]
  have hl3 : l.length ≤ 300 := by omega
  have hm := made l (by omega) u e
  have hc := ref10_check l u e
  simp only [hm, hc, Option.bind_some, Option.isNone_none, Option.isNone_some, Option.isSome_none, Option.isSome_some, Bool.not_true, Bool.not_false, cond_true, cond_false, cond_dec, beq_int, bne_int, not_dec, ne_eq, not_true_eq_false, if_false, decide_true, Bool.and_self]
  by_cases c : tErr l u e = 0
  · obtain ⟨hg, _, _⟩ := good_of c
    obtain ⟨k, hk, hb⟩ := behind hg u e (labN b)
    have h1 := scale_tai hg u e b hk hb
    have h2 := ref12_tai hg u e b hk
    simp only [Lab.t, tp] at h1 h2
    simp only [c, not_true_eq_false, if_false, if_true, g_scale_TaiOf, f_scale_TaiOf_m, b1, b2, h1, h2, num_num, Option.bind_some, Option.isNone_none, Option.isNone_some, Option.isSome_none, Option.isSome_some, Bool.not_true, Bool.not_false, cond_true, cond_false, cond_dec, beq_int, bne_int, not_dec, errOf_none, ne_eq]
    by_cases d : ofErr (p / 86400) (p % 86400) 0 0 = 0
    · simp [d, h1, h2, num_num]
    · simp [d, num_num]
  · simp [c]
end Go.Proofs.Ytnielkimpieofaa.Ev
