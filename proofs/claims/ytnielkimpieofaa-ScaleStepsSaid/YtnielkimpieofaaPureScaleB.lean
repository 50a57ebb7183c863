/- The laws ScaleBack and ScaleSteps, plain. -/
import Derived.Test.YtnielkimpieofaaPuScaleP
namespace Go.Proofs.Ytnielkimpieofaa.Ev
open Go
set_option linter.unusedVariables false
set_option linter.unusedSimpArgs false
theorem at_low {l : List (Int × Int)} (h : GoodT l) {n s t : Int} (a : At l n s t) : -25567 ≤ n := by
  obtain ⟨k, hk, k0, s0, s1, e⟩ := a
  have h1 := hk.lo 0 (by omega)
  have h2 := h.day 0 (by have := h.len; omega)
  unfold dated at h2; omega
theorem at_sec {l : List (Int × Int)} (h : GoodT l) {n s t : Int} (a : At l n s t) : 0 ≤ s ∧ s ≤ 86400 := by
  obtain ⟨k, hk, k0, s0, s1, e⟩ := a
  have := leapV_range h n k; omega
theorem at_tai {l : List (Int × Int)} {a : Lab} {k : Nat} (hk : Cnt l (labN a) k) (h : taiErr l a k = 0) : labErr a = 0 ∧ At l (labN a) (labS a) (secVal l (labN a) (labS a) k) := by
  unfold taiErr at h
  by_cases c : labErr a = 0
  · rw [if_neg (by simp [c])] at h
    unfold secErr at h
    split at h
    · cases h
    rename_i k0
    split at h
    · rename_i hs; exact ⟨c, k, hk, k0, hs.1, hs.2, rfl⟩
    · cases h
  · rw [if_pos c] at h; exact absurd h c
theorem tai_at {l : List (Int × Int)} {a : Lab} {t : Int} (ha : labErr a = 0) (h : At l (labN a) (labS a) t) {k : Nat} (hk : Cnt l (labN a) k) : taiErr l a k = 0 ∧ secVal l (labN a) (labS a) k = t := by
  obtain ⟨k', hk', k0, s0, s1, e⟩ := h
  obtain rfl := cnt_unique hk hk'
  refine ⟨?_, e.symm⟩
  unfold taiErr secErr
  rw [if_neg (by simp [ha]), if_neg k0, if_pos ⟨s0, s1⟩]
theorem cmp_at {l : List (Int × Int)} (h : GoodT l) {a b : Lab} (ha : labErr a = 0) (hb : labErr b = 0) {p q : Int} (hp : At l (labN a) (labS a) p) (hq : At l (labN b) (labS b) q) :
    cErr a b = 0 ∧ ((cVal a b = -1 ∧ p < q) ∨ (p = q ∧ cVal a b = cmpI a.n b.n) ∨ (cVal a b = 1 ∧ q < p)) := by
  have hc : cErr a b = 0 := by unfold cErr; rw [if_neg (by simp [ha])]; exact hb
  refine ⟨hc, ?_⟩
  unfold cVal
  rw [if_neg (by simp [hc]), firstOf3]
  rcases Int.lt_trichotomy (labN a) (labN b) with c | c | c
  · have e : cmpI (labN a) (labN b) = -1 := if_pos c
    rw [e, if_pos (by decide)]
    exact .inl ⟨rfl, at_lt h hp hq c⟩
  · rw [← c] at hq
    have e : cmpI (labN a) (labN b) = 0 := by unfold cmpI; rw [if_neg (by omega), if_neg (by omega)]
    rw [e, if_neg (by decide)]
    rcases Int.lt_trichotomy (labS a) (labS b) with d | d | d
    · have e : cmpI (labS a) (labS b) = -1 := if_pos d
      rw [e, if_pos (by decide)]
      exact .inl ⟨rfl, at_lt2 hp hq d⟩
    · rw [← d] at hq
      have e : cmpI (labS a) (labS b) = 0 := by unfold cmpI; rw [if_neg (by omega), if_neg (by omega)]
      rw [e, if_neg (by decide)]
      obtain ⟨k, hk, _, _, _, e1⟩ := hp
      obtain ⟨k', hk', _, _, _, e2⟩ := hq
      obtain rfl := cnt_unique hk hk'
      exact .inr (.inl ⟨by omega, rfl⟩)
    · have e : cmpI (labS a) (labS b) = 1 := by unfold cmpI; rw [if_neg (by omega), if_pos d]
      rw [e, if_pos (by decide)]
      exact .inr (.inr ⟨rfl, at_lt2 hq hp d⟩)
  · have e : cmpI (labN a) (labN b) = 1 := by unfold cmpI; rw [if_neg (by omega), if_pos c]
    rw [e, if_pos (by decide)]
    exact .inr (.inr ⟨rfl, at_lt h hq hp c⟩)
theorem place_at {l : List (Int × Int)} (h : GoodT l) {t n s n' s' c : Int} (a : At l n s t) (hn : n ≤ 2932896) (b : PlaceIs l t n' s' c) : n' = n ∧ s' = s ∧ c = 0 := by
  have := place_unique h b (.inr (.inr ⟨a, hn, rfl⟩)); exact this
theorem scale_back (l : List (Int × Int)) (u e : Int) (a b : Lab) : g_law12_ScaleBack ((), (tb l u e, (a.t, (b.t, ())))) = some ((), ((true, ()), ())) := by
  simp only [g_law12_ScaleBack, f_law12_ScaleBack_m, scale_alive, g_law10_Long, f_law10_Long_m, Lab.t, leap_new, Option.bind_some, Option.isNone_none, Option.isNone_some, Option.isSome_none, Option.isSome_some, Bool.not_true, Bool.not_false, cond_true, cond_false, cond_dec, beq_int, bne_int, not_dec, gt_iff_lt]
  by_cases c0 : 296 < l.length
  · rw [if_pos (by omega)]
  have hcl : ¬ ((296 : Int) < l.length) := by omega
  rw [if_neg hcl]
  simp only [errOf_none, Option.bind_some, Option.isNone_none, Option.isNone_some, Option.isSome_none, Option.isSome_some, Bool.not_true, Bool.not_false, cond_true, cond_false, cond_dec, beq_int, bne_int, not_dec, ne_eq]
  by_cases c : tErr l u e = 0
  · obtain ⟨hg, _, _⟩ := good_of c
    obtain ⟨k, hk, hb⟩ := behind hg u e (labN a)
    obtain ⟨k', hk', hb'⟩ := behind hg u e (labN b)
    have h1 := scale_tai hg u e a hk hb
    have h2 := scale_tai hg u e b hk' hb'
    have h3 := label_compare a b
    simp only [Lab.t, tp] at h1 h2 h3
    simp only [c, not_true_eq_false, if_false, if_true, g_scale_Between, f_scale_Between_m, g_scale_Label, f_scale_Label_m, h1, h2, h3, Option.bind_some, Option.isNone_none, Option.isNone_some, Option.isSome_none, Option.isSome_some, Bool.not_true, Bool.not_false, cond_true, cond_false, cond_dec, beq_int, bne_int, not_dec, errOf_none, num_num, ne_eq]
    by_cases d : taiErr l a k = 0
    · obtain ⟨la, ta⟩ := at_tai hk d
      obtain ⟨_, _, hth, _⟩ := labErr_zero la
      unfold there at hth
      have hlo := at_low hg ta
      have hne := at_near hg ta
      obtain ⟨n, s, r, p1, p2⟩ := scale_place hg u e (secVal l (labN a) (labS a) k) (by omega)
      obtain ⟨rfl, rfl, rfl⟩ := place_at hg ta hth.2 p2
      obtain ⟨_, q1⟩ := of_split a la
      simp only [Lab.t, tp] at q1 p1
      simp only [d, not_true_eq_false, if_false, if_true, p1, q1, Option.bind_some, Option.isNone_none, Option.isNone_some, Option.isSome_none, Option.isSome_some, Bool.not_true, Bool.not_false, cond_true, cond_false, cond_dec, beq_int, bne_int, not_dec, errOf_none, errOf_zero, Bool.and_true, Bool.and_self, beq_self_eq_true]
      by_cases f : taiErr l b k' = 0
      · obtain ⟨lb, tb'⟩ := at_tai hk' f
        obtain ⟨_, _, hth', _⟩ := labErr_zero lb
        unfold there at hth'
        have hne' := at_near hg tb'
        have hlo' := at_low hg tb'
        obtain ⟨ce, cc⟩ := cmp_at hg la lb ta tb'
        have e1 : isub .i64 (secVal l (labN b) (labS b) k') (secVal l (labN a) (labS a) k) = secVal l (labN b) (labS b) k' - secVal l (labN a) (labS a) k := isub_i64 (by omega)
        simp only [f, ce, e1, not_true_eq_false, if_false, if_true, Option.bind_some, Option.isNone_none, Option.isNone_some, Option.isSome_none, Option.isSome_some, Bool.not_true, Bool.not_false, cond_true, cond_false, cond_dec, beq_int, bne_int, not_dec, errOf_none, errOf_zero, ge_iff_le, gt_iff_lt]
        generalize secVal l (labN b) (labS b) k' = q at *
        generalize secVal l (labN a) (labS a) k = p at *
        generalize cVal a b = v at *
        rcases cc with ⟨rfl, c2⟩ | ⟨rfl, rfl⟩ | ⟨rfl, c2⟩
        · rw [if_pos (by decide), if_pos (by omega), if_pos c2]
        · unfold cmpI
          by_cases w : a.n < b.n
          · simp [w]
          · by_cases w' : b.n < a.n
            · simp [w, w']
            · simp [w, w']
        · rw [if_neg (by decide), if_neg (by decide), if_pos (by decide), if_pos (by omega), if_pos c2]
      · simp [f, num_num]
    · simp [d, num_num]
  · simp [c]
theorem scale_steps (l : List (Int × Int)) (u e t : Int) : g_law12_ScaleSteps ((), (tb l u e, ((t, ()), ()))) = some ((), ((true, ()), ())) := by
  simp only [g_law12_ScaleSteps, f_law12_ScaleSteps_m, scale_alive, g_law10_Long, f_law10_Long_m, leap_new, Option.bind_some, Option.isNone_none, Option.isNone_some, Option.isSome_none, Option.isSome_some, Bool.not_true, Bool.not_false, cond_true, cond_false, cond_dec, beq_int, bne_int, not_dec, gt_iff_lt]
  by_cases c0 : 296 < l.length
  · rw [if_pos (by omega)]
  have hcl : ¬ ((296 : Int) < l.length) := by omega
  rw [if_neg hcl]
  by_cases c1 : 1125899906842624 < t
  · rw [if_pos c1]
  rw [if_neg c1]
  by_cases c2 : t < -1125899906842624
  · rw [if_pos c2]
  rw [if_neg c2]
  simp only [errOf_none, Option.bind_some, Option.isNone_none, Option.isNone_some, Option.isSome_none, Option.isSome_some, Bool.not_true, Bool.not_false, cond_true, cond_false, cond_dec, beq_int, bne_int, not_dec, ne_eq]
  by_cases c : tErr l u e = 0
  · obtain ⟨hg, _, _⟩ := good_of c
    obtain ⟨n, s, r, h1, h2⟩ := scale_place hg u e t (by omega)
    obtain ⟨n', s', r', h1', h2'⟩ := scale_place hg u e (t + 1) (by omega)
    obtain ⟨a, a1, _, _, a2⟩ := of_both n s 0 0
    obtain ⟨b, b1, _, _, b2⟩ := of_both n' s' 0 0
    have e1 : iadd .i64 t 1 = t + 1 := iadd_i64 (by omega)
    simp only [tp, Lab.t] at h1 h1' a1 b1
    simp only [c, not_true_eq_false, if_false, if_true, g_scale_Label, f_scale_Label_m, g_scale_PosixOf, f_scale_PosixOf_m, g_scale_Ahead, f_scale_Ahead_m, e1, h1, h1', a1, b1, Option.bind_some, Option.isNone_none, Option.isNone_some, Option.isSome_none, Option.isSome_some, Bool.not_true, Bool.not_false, cond_true, cond_false, cond_dec, beq_int, bne_int, not_dec, errOf_none, ne_eq]
    by_cases d : r = 0
    · subst d
      simp only [not_true_eq_false, if_false, if_true, a1, Option.bind_some, Option.isNone_none, Option.isNone_some, Option.isSome_none, Option.isSome_some, Bool.not_true, Bool.not_false, cond_true, cond_false, cond_dec, beq_int, bne_int, not_dec, errOf_none, ne_eq]
      by_cases f : ofErr n s 0 0 = 0
      · by_cases d' : r' = 0
        · subst d'
          simp only [f, not_true_eq_false, if_false, if_true, b1, Option.bind_some, Option.isNone_none, Option.isNone_some, Option.isSome_none, Option.isSome_some, Bool.not_true, Bool.not_false, cond_true, cond_false, cond_dec, beq_int, bne_int, not_dec, errOf_none, ne_eq]
          by_cases f' : ofErr n' s' 0 0 = 0
          · obtain ⟨y, m, dd, rfl, hd⟩ := a2 f
            obtain ⟨y', m', dd', rfl, hd'⟩ := b2 f'
            have hat : At l n s t ∧ n ≤ 2932896 := by
              rcases h2 with h | h | h
              · omega
              · omega
              · exact ⟨h.1, h.2.1⟩
            have hat' : At l n' s' (t + 1) ∧ n' ≤ 2932896 := by
              rcases h2' with h | h | h
              · omega
              · omega
              · exact ⟨h.1, h.2.1⟩
            obtain ⟨sa1, sa2, sa3⟩ := split_of f hd
            obtain ⟨sb1, sb2, sb3⟩ := split_of f' hd'
            have ta : At l (labN (ofLab y m dd s 0 0)) (labS (ofLab y m dd s 0 0)) t := by rw [sa2, sa3]; exact hat.1
            have tb' : At l (labN (ofLab y' m' dd' s' 0 0)) (labS (ofLab y' m' dd' s' 0 0)) (t + 1) := by rw [sb2, sb3]; exact hat'.1
            obtain ⟨ce, cc⟩ := cmp_at hg sa1 sb1 ta tb'
            have cv : cVal (ofLab y m dd s 0 0) (ofLab y' m' dd' s' 0 0) = -1 := by
              rcases cc with h | h | h
              · exact h.1
              · omega
              · omega
            obtain ⟨k, hk, hb⟩ := behind hg u e n
            obtain ⟨k', hk', hb'⟩ := behind hg u e n'
            rw [← sb2] at hk' hb'
            have g1 := scale_tai hg u e _ hk' hb'
            obtain ⟨g2, g3⟩ := tai_at sb1 tb' hk'
            have g4 := label_compare (ofLab y m dd s 0 0) (ofLab y' m' dd' s' 0 0)
            have g5 := label_leap (ofLab y m dd s 0 0)
            have g6 := table_offset hg u e hk hb
            rw [g2, if_pos rfl, g3, errOf_zero] at g1
            rw [ce, cv, errOf_zero] at g4
            simp only [Lab.t, tp] at g1 g4 g5
            obtain ⟨k2, hk2, k0, s0, s1, e2⟩ := hat.1
            obtain rfl := cnt_unique hk hk2
            have hlo := at_low hg hat.1
            have hkl := hk.le
            have ho := hg.off (k - 1) (by omega)
            rw [show ((k - 1 : Nat) : Int) = (k : Int) - 1 by omega] at ho
            have hr := leapV_range hg n k
            have e3 : iadd .i64 (imul .i64 n 86400) s = n * 86400 + s := by simp (disch := omega) only [imul_i64, iadd_i64]
            have e4 : isub .i64 t (gd_i64_i64 l ((k : Int) - 1)).2 = n * 86400 + s := by
              unfold secVal at e2
              rw [isub_i64 (by omega)]; omega
            simp only [f', not_true_eq_false, if_false, if_true, g1, g4, g5, g6, k0, e3, e4, Option.bind_some, Option.isNone_none, Option.isNone_some, Option.isSome_none, Option.isSome_some, Bool.not_true, Bool.not_false, cond_true, cond_false, cond_dec, beq_int, bne_int, not_dec, errOf_none, errOf_zero, ne_eq, not_false_eq_true]
            have hs : (ofLab y m dd s 0 0).s = 60 ↔ s = 86400 := by
              show clkS s = 60 ↔ s = 86400
              unfold clkS; split <;> omega
            rw [sa1]
            simp [hs]
          · simp [f', errOf_pos f']
        · simp [f, d', errOf_pos d']
      · by_cases d' : r' = 0
        · subst d'; simp [f, b1, errOf_pos f]
        · simp [f, d', errOf_pos f, errOf_pos d']
    · by_cases d' : r' = 0
      · subst d'; simp [d, b1, errOf_pos d]
      · simp [d, d', errOf_pos d, errOf_pos d']
  · simp [c]
end Go.Proofs.Ytnielkimpieofaa.Ev
