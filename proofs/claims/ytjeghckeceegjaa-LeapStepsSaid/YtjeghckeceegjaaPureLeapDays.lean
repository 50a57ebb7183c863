/- The laws LeapDays and LeapSteps, plain. -/
import Derived.Test.YtjeghckeceegjaaPuLeap2
namespace Go.Proofs.Ytjeghckeceegjaa.Ev
open Go
set_option linter.unusedVariables false
set_option linter.unusedSimpArgs false
theorem table_expired (l : List (Int × Int)) (u e n : Int) : g_leap_Table_Expired ((), ((some (l, (u, e)), ()), ((n, ()), ()))) = some ((), ((decide (n ≥ e), ()), ())) := by
  simp only [g_leap_Table_Expired, f_leap_Table_Expired_m, Option.bind_some, Option.isNone_none, Option.isNone_some, Option.isSome_none, Option.isSome_some, Bool.not_true, Bool.not_false, cond_true, cond_false, cond_dec, beq_int, bne_int, not_dec]
theorem leap_days (l : List (Int × Int)) (u e n s : Int) : g_law10_LeapDays ((), (tb l u e, ((n, ()), ((s, ()), ())))) = some ((), ((true, ()), ())) := by
  simp only [g_law10_LeapDays, f_law10_LeapDays_m, leap_alive, Option.bind_some, Option.isNone_none, Option.isNone_some, Option.isSome_none, Option.isSome_some, Bool.not_true, Bool.not_false, cond_true, cond_false, cond_dec, beq_int, bne_int, not_dec, gt_iff_lt]
  by_cases c0 : 300 < l.length
  · rw [if_pos (by omega)]
  rw [if_neg (by omega)]
  have hm := made l (by omega) u e
  have hc := ref10_check l u e
  simp only [hm, hc, Option.bind_some, Option.isNone_none, Option.isNone_some, Option.isSome_none, Option.isSome_some, Bool.not_true, Bool.not_false, cond_true, cond_false, cond_dec, beq_int, bne_int, not_dec]
  by_cases c : tErr l u e = 0
  · obtain ⟨hg, _, _⟩ := good_of c
    obtain ⟨k, hk, hb⟩ := behind hg u e n
    have h1 := table_offset hg u e hk hb
    have h2 := ref10_offset u e n (by omega) hk
    have h3 := ref10_leap hg u e n hk
    have h4 := table_leap hg u e hk hb
    have h5 := table_length hg u e hk hb
    have h6 := table_has hg u e hk hb s
    have h7 := table_next hg u e hk hb
    have h8 := ref10_next hg u e n hk
    have hr := leapV_range hg n k
    have e1 : iadd .i64 86400 (leapV l n k) = 86400 + leapV l n k := iadd_i64 (by omega)
    simp only [c, not_true_eq_false, if_false, if_true, h1, h2, h3, h4, h5, h6, h7, h8, table_expired, Option.bind_some, Option.isNone_none, Option.isNone_some, Option.isSome_none, Option.isSome_some, Bool.not_true, Bool.not_false, cond_true, cond_false, cond_dec, beq_int, bne_int, not_dec, ne_eq, e1, beq_self_eq_true, ge_iff_le]
    by_cases c1 : 0 ≤ s
    · simp [c1]
    · simp [c1]
  · simp [c]
theorem leap_steps (l : List (Int × Int)) (u e n : Int) : g_law10_LeapSteps ((), (tb l u e, ((n, ()), ()))) = some ((), ((true, ()), ())) := by
  simp only [g_law10_LeapSteps, f_law10_LeapSteps_m, leap_alive, Option.bind_some, Option.isNone_none, Option.isNone_some, Option.isSome_none, Option.isSome_some, Bool.not_true, Bool.not_false, cond_true, cond_false, cond_dec, beq_int, bne_int, not_dec, gt_iff_lt]
  by_cases c0 : 300 < l.length
  · rw [if_pos (by omega)]
  rw [if_neg (by omega)]
  by_cases c1 : 1099511627776 < n
  · rw [if_pos c1]
  rw [if_neg c1]
  by_cases c2 : n < -1099511627776
  · rw [if_pos c2]
  rw [if_neg c2, leap_new]
  simp only [Option.bind_some, errOf_none, not_dec, cond_dec]
  by_cases c : tErr l u e = 0
  · obtain ⟨hg, _, _⟩ := good_of c
    obtain ⟨k, hk, hb⟩ := behind hg u e n
    obtain ⟨k', hk', hb'⟩ := behind hg u e (n + 1)
    have h1 := table_offset hg u e hk hb
    have h2 := table_offset hg u e hk' hb'
    have h3 := table_leap hg u e hk hb
    have e1 : iadd .i64 n 1 = n + 1 := iadd_i64 (by omega)
    have hlen := hg.len
    have hkl := hk.le
    have hkl' := hk'.le
    simp only [c, not_true_eq_false, if_false, if_true, e1, h1, h2, h3, Option.bind_some, not_dec, cond_dec, g_leap_Table_Len, f_leap_Table_Len_m, g_leap_Table_list, f_leap_Table_list_m, Option.bind_some, Option.isNone_none, Option.isNone_some, Option.isSome_none, Option.isSome_some, Bool.not_true, Bool.not_false, cond_true, cond_false, cond_dec, beq_int, bne_int, not_dec]
    have hle : k ≤ k' := by
      by_cases q : k' < k
      · have := hk.lo k' q; have := hk'.hi k' (Nat.le_refl _) (by omega); omega
      · omega
    by_cases ck : k = 0
    · subst ck
      have : leapV l n 0 = 0 := by unfold leapV; rw [if_neg (by simp)]
      simp only [ne_eq, not_true_eq_false, not_false_eq_true, if_true, this]
      by_cases ck' : k' = 0
      · simp [ck']
      · simp [ck']; omega
    · have ck' : k' ≠ 0 := by omega
      simp only [ne_eq, ck, ck', not_false_eq_true, not_true_eq_false, if_false, if_true]
      have o1 := hg.off (k - 1) (by omega)
      have o2 := hg.off (k' - 1) (by omega)
      rw [show ((k - 1 : Nat) : Int) = (k : Int) - 1 by omega] at o1
      rw [show ((k' - 1 : Nat) : Int) = (k' : Int) - 1 by omega] at o2
      rw [isub_i64 (by omega)]
      have : (gd_i64_i64 l ((k' : Int) - 1)).2 - (gd_i64_i64 l ((k : Int) - 1)).2 = leapV l n k := by
        unfold leapV
        by_cases q : k < l.length ∧ (gd_i64_i64 l k).1 - 1 = n
        · rw [if_pos ⟨q.1, q.2, ck⟩]
          have : k' = k + 1 := by
            rcases Nat.lt_trichotomy k' (k + 1) with a | a | a
            · have := hk'.hi k (by omega) q.1; omega
            · exact a
            · have := hk'.lo (k + 1) a; have := hg.lt (i := k) (j := k + 1) (by omega) (by omega); omega
          subst this
          rw [show (((k + 1 : Nat) : Int) - 1) = (k : Int) by omega]
        · rw [if_neg (fun hh => q ⟨hh.1, hh.2.1⟩)]
          have : k' = k := by
            by_cases a : k < k'
            · have a1 := hk'.lo k a
              have a2 := hk.hi k (Nat.le_refl _) (by omega)
              exact absurd ⟨by omega, by omega⟩ q
            · omega
          subst this; omega
      rw [this]; simp
  · simp [c]
end Go.Proofs.Ytjeghckeceegjaa.Ev
