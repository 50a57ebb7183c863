/- The law ScaleSeconds, plain. -/
import Derived.Test.YtnielkimpieofaaPuScaleP
namespace Go.Proofs.Ytnielkimpieofaa.Ev
open Go
set_option linter.unusedVariables false
set_option linter.unusedSimpArgs false
theorem at_low {l : List (Int × Int)} (h : GoodT l) {n s t : Int} (a : At l n s t) : -25567 ≤ n := by
  obtain ⟨k, hk, k0, s0, s1, e⟩ := a
  have h1 := hk.lo 0 (by omega)
  have h2 := h.day 0 (by have := h.len; omega)
  unfold dated at h2; omega
theorem at_sec {l : List (Int × Int)} (h : GoodT l) {n s t : Int} (a : At l n s t) : 0 ≤ s ∧ s ≤ 86400 := by
  obtain ⟨k, hk, k0, s0, s1, e⟩ := a
  have := leapV_range h n k; omega
/-- What the reference's search gives at a day that stands for the seconds. -/
def foundN (n : Int) : Int := if 2932896 < n then 0 else n
def foundS (n s : Int) : Int := if 2932896 < n then 0 else s
def foundC (n : Int) : Int := if 2932896 < n then 13 else 0
theorem search_hit {l : List (Int × Int)} (h : GoodT l) (u e : Int) {t m b s : Int} (hb : 0 ≤ b ∧ b ≤ 1) (hm : -10000000000000 ≤ m ∧ m ≤ 10000000000000) (ha : At l (m - b) s t) :
    Evn (fun j => (f_ref12_Place_t j).2.1 ((tb l u e, ()), ((t, ()), ((), ((m, ()), ((b, ()), ())))))) ((), ((foundN (m - b), ()), ((foundS (m - b) s, ()), ((foundC (m - b), ()), ())))) := by
  have hs := at_sec h ha
  have hn := at_near h ha
  obtain ⟨k, hk, k0, s0, s1, e1⟩ := ha
  have hlen := h.len; have hkl := hk.le
  have h1 := ref10_offset u e (m - b) (by omega) hk
  have h2 := ref10_leap h u e (m - b) hk
  have hr := leapV_range h (m - b) k
  have ho := h.off (k - 1) (by omega)
  rw [show ((k - 1 : Nat) : Int) = (k : Int) - 1 by omega] at ho
  unfold secVal at e1
  refine Evn.some 1 fun j => ?_
  have q1 : isub .i64 m b = m - b := isub_i64 (by omega)
  have q2 : imul .i64 (m - b) 86400 = (m - b) * 86400 := imul_i64 (by omega)
  have q3 : isub .i64 (isub .i64 t ((m - b) * 86400)) (gd_i64_i64 l ((k : Int) - 1)).2 = s := by
    rw [isub_i64 (a := t) (by omega), isub_i64 (by omega)]; omega
  have q4 : iadd .i64 86400 (leapV l (m - b) k) = 86400 + leapV l (m - b) k := iadd_i64 (by omega)
  simp only [t_ref12_Place, f_ref12_Place_p18, q1, h1, h2, ref05_last, Option.bind_some, Option.isNone_none, Option.isNone_some, Option.isSome_none, Option.isSome_some, Bool.not_true, Bool.not_false, cond_true, cond_false, cond_dec, beq_int, bne_int, not_dec, ge_iff_le, gt_iff_lt, k0, if_false, q2, q3, q4, ne_eq, not_false_eq_true, if_true, s0, s1]
  rw [if_pos hb.2]
  unfold foundN foundS foundC
  by_cases c : 2932896 < m - b
  · simp only [c, if_true]
  · simp only [c, if_false]
theorem search_miss {l : List (Int × Int)} (h : GoodT l) (u e : Int) {t m b : Int} (hb : 0 ≤ b ∧ b ≤ 1) (hm : -10000000000000 ≤ m ∧ m ≤ 10000000000000) (ht : -1000000000000000000 ≤ t ∧ t ≤ 1000000000000000000) (ha : ∀ s, ¬ At l (m - b) s t)
    {out : Unit × ((Int × Unit) × ((Int × Unit) × ((Int × Unit) × Unit)))}
    (hn : Evn (fun j => (f_ref12_Place_t j).2.1 ((tb l u e, ()), ((t, ()), ((), ((m, ()), ((b + 1, ()), ())))))) out) :
    Evn (fun j => (f_ref12_Place_t j).2.1 ((tb l u e, ()), ((t, ()), ((), ((m, ()), ((b, ()), ())))))) out := by
  have hlen := h.len
  obtain ⟨k, hk, _⟩ := behind h u e (m - b)
  have hkl := hk.le
  have h1 := ref10_offset u e (m - b) (by omega) hk
  have h2 := ref10_leap h u e (m - b) hk
  have hr := leapV_range h (m - b) k
  refine hn.step fun j => ?_
  have q1 : isub .i64 m b = m - b := isub_i64 (by omega)
  have q2 : imul .i64 (m - b) 86400 = (m - b) * 86400 := imul_i64 (by omega)
  have q4 : iadd .i64 86400 (leapV l (m - b) k) = 86400 + leapV l (m - b) k := iadd_i64 (by omega)
  have q5 : iadd .i64 b 1 = b + 1 := iadd_i64 (by omega)
  simp only [t_ref12_Place, f_ref12_Place_p18, q1, h1, h2, ref05_last, Option.bind_some, Option.isNone_none, Option.isNone_some, Option.isSome_none, Option.isSome_some, Bool.not_true, Bool.not_false, cond_true, cond_false, cond_dec, beq_int, bne_int, not_dec, ge_iff_le, gt_iff_lt, q2, q4, q5]
  rw [if_pos hb.2]
  by_cases k0 : k = 0
  · simp only [k0, if_true, ne_eq, not_true_eq_false, if_false]
  · have ho := h.off (k - 1) (by omega)
    rw [show ((k - 1 : Nat) : Int) = (k : Int) - 1 by omega] at ho
    have q3 : isub .i64 (isub .i64 t ((m - b) * 86400)) (gd_i64_i64 l ((k : Int) - 1)).2 = t - (m - b) * 86400 - (gd_i64_i64 l ((k : Int) - 1)).2 := by
      rw [isub_i64 (a := t) (by omega), isub_i64 (by omega)]
    simp only [k0, if_false, ne_eq, not_false_eq_true, if_true, q3]
    have hno : ¬(0 ≤ t - (m - b) * 86400 - (gd_i64_i64 l ((k : Int) - 1)).2 ∧ t - (m - b) * 86400 - (gd_i64_i64 l ((k : Int) - 1)).2 < 86400 + leapV l (m - b) k) := fun hh =>
      ha _ ⟨k, hk, k0, hh.1, hh.2, by unfold secVal; omega⟩
    by_cases c1 : 0 ≤ t - (m - b) * 86400 - (gd_i64_i64 l ((k : Int) - 1)).2
    · rw [if_pos c1, if_neg (fun hh => hno ⟨c1, hh⟩)]
    · rw [if_neg c1]
theorem search_day {l : List (Int × Int)} (u e : Int) {t m q : Int} (hq : iquo .i64 t 86400 = q) (hm : -10000000000000 ≤ q ∧ q ≤ 10000000000000) (h : q - 1 ≤ m) {out : Unit × ((Int × Unit) × ((Int × Unit) × ((Int × Unit) × Unit)))}
    (hn : Evn (fun j => (f_ref12_Place_t j).2.1 ((tb l u e, ()), ((t, ()), ((), ((m, ()), ((0, ()), ())))))) out) :
    Evn (fun j => (f_ref12_Place_t j).1 ((tb l u e, ()), ((t, ()), ((), ((m, ()), ()))))) out := by
  refine hn.step fun j => ?_
  simp only [t_ref12_Place, f_ref12_Place_p13, hq, Option.bind_some, Option.isNone_none, Option.isNone_some, Option.isSome_none, Option.isSome_some, Bool.not_true, Bool.not_false, cond_true, cond_false, cond_dec, beq_int, bne_int, not_dec, ge_iff_le]
  rw [isub_i64 (by omega), if_pos h]
theorem search_next {l : List (Int × Int)} (u e : Int) {t m : Int} (hm : -10000000000000 ≤ m ∧ m ≤ 10000000000000) {out : Unit × ((Int × Unit) × ((Int × Unit) × ((Int × Unit) × Unit)))}
    (hn : Evn (fun j => (f_ref12_Place_t j).1 ((tb l u e, ()), ((t, ()), ((), ((m - 1, ()), ()))))) out) :
    Evn (fun j => (f_ref12_Place_t j).2.1 ((tb l u e, ()), ((t, ()), ((), ((m, ()), ((2, ()), ())))))) out := by
  refine hn.step fun j => ?_
  simp only [t_ref12_Place, f_ref12_Place_p18, Option.bind_some, Option.isNone_none, Option.isNone_some, Option.isSome_none, Option.isSome_some, Bool.not_true, Bool.not_false, cond_true, cond_false, cond_dec, beq_int, bne_int, not_dec, ge_iff_le]
  rw [if_neg (by decide), isub_i64 (by omega)]
theorem ref12_place {l : List (Int × Int)} (h : GoodT l) (u e t : Int) (ht : -9223372036854775808 ≤ t ∧ t ≤ 9223372036854775807) : ∃ n s c : Int, g_ref12_Place ((), (tb l u e, ((t, ()), ()))) = some ((), ((n, ()), ((s, ()), ((c, ()), ())))) ∧ PlaceIs l t n s c := by
  have hlen := h.len
  have hd0 := h.day 0 (by omega)
  have ho0 := h.off 0 (by omega)
  unfold dated at hd0
  have hc : Cnt l (gd_i64_i64 l 0).1 1 := ⟨by omega, fun i hi => (by have e : i = 0 := (by omega); subst e; exact Int.le_refl _), fun i h1 h2 => h.lt (i := 0) (j := i) (by omega) h2⟩
  have hr := leapV_range h (gd_i64_i64 l 0).1 1
  rw [show (((0 : Nat) : Int)) = 0 from rfl] at hd0 ho0
  have hof := ref12_of h u e (gd_i64_i64 l 0).1 0 (by omega) hc
  have hz : secErr l (gd_i64_i64 l 0).1 0 1 = 0 := by unfold secErr; rw [if_neg (by decide), if_pos (by omega)]
  have hv : secVal l (gd_i64_i64 l 0).1 0 1 = beg l 0 := by unfold secVal beg; rw [show (((1 : Nat) : Int) - 1) = 0 from rfl]; omega
  rw [hz, if_pos rfl, hv] at hof
  by_cases c1 : t < beg l 0
  · refine ⟨0, 0, 8, ?_, .inl ⟨c1, rfl, rfl, rfl⟩⟩
    refine (Evn.some 0 fun k => ?_).lim
    simp only [f_ref12_Place_m, hof, Option.bind_some, Option.isNone_none, Option.isNone_some, Option.isSome_none, Option.isSome_some, Bool.not_true, Bool.not_false, cond_true, cond_false, cond_dec, beq_int, bne_int, not_dec, and_dec]
    rw [if_neg (by omega), if_pos (by omega), if_pos c1]
  obtain ⟨n0, s0, ha⟩ := at_ex h (t := t) (by omega)
  have hn := at_near h ha
  have hl := at_low h ha
  by_cases c2 : 1125899906842624 < t
  · refine ⟨0, 0, 13, ?_, .inr (.inl ⟨⟨n0, s0, ha, by omega⟩, rfl, rfl, rfl⟩)⟩
    refine (Evn.some 0 fun k => ?_).lim
    simp only [f_ref12_Place_m, hof, Option.bind_some, Option.isNone_none, Option.isNone_some, Option.isSome_none, Option.isSome_some, Bool.not_true, Bool.not_false, cond_true, cond_false, cond_dec, beq_int, bne_int, not_dec, and_dec, gt_iff_lt]
    rw [if_neg (by omega), if_pos (by omega), if_neg c1, if_pos c2]
  refine ⟨foundN n0, foundS n0 s0, foundC n0, ?_, ?_⟩
  · obtain ⟨q, hq, hq2⟩ : ∃ q, iquo .i64 t 86400 = q ∧ (n0 = q ∨ n0 = q - 1 ∨ n0 = q - 2) ∧ -100000000 ≤ q ∧ q ≤ 100000000000 := by
      refine ⟨_, rfl, ?_⟩
      rw [iquo_pos (by decide) (by omega)]
      split <;> omega
    have tr : -1000000000000000000 ≤ t ∧ t ≤ 1000000000000000000 := by omega
    have no : ∀ m, m ≠ n0 → ∀ s, ¬ At l m s t := fun m hm s hh => hm (at_unique h hh ha).1
    have key : Evn (fun j => (f_ref12_Place_t j).1 ((tb l u e, ()), ((t, ()), ((), ((q, ()), ()))))) ((), ((foundN n0, ()), ((foundS n0 s0, ()), ((foundC n0, ()), ())))) := by
      obtain ⟨hc, hq3, hq4⟩ := hq2
      refine search_day u e hq (by omega) (by omega) ?_
      by_cases d1 : n0 = q
      · have := search_hit h u e (t := t) (m := q) (b := 0) (s := s0) (by decide) (by omega) (by rw [show q - 0 = n0 by omega]; exact ha)
        rw [show q - 0 = n0 by omega] at this; exact this
      refine search_miss h u e (by decide) (by omega) tr (no _ (by omega)) ?_
      by_cases d2 : n0 = q - 1
      · have := search_hit h u e (t := t) (m := q) (b := 1) (s := s0) (by decide) (by omega) (by rw [show q - 1 = n0 by omega]; exact ha)
        rw [show q - 1 = n0 by omega] at this; exact this
      refine search_miss h u e (by decide) (by omega) tr (no _ (by omega)) ?_
      refine search_next u e (by omega) ?_
      refine search_day u e hq (by omega) (by omega) ?_
      refine search_miss h u e (by decide) (by omega) tr (no _ (by omega)) ?_
      have := search_hit h u e (t := t) (m := q - 1) (b := 1) (s := s0) (by decide) (by omega) (by rw [show q - 1 - 1 = n0 by omega]; exact ha)
      rw [show q - 1 - 1 = n0 by omega] at this; exact this
    refine (key.cast fun k => ?_).lim
    simp only [f_ref12_Place_m, hof, hq, Option.bind_some, Option.isNone_none, Option.isNone_some, Option.isSome_none, Option.isSome_some, Bool.not_true, Bool.not_false, cond_true, cond_false, cond_dec, beq_int, bne_int, not_dec, and_dec, gt_iff_lt]
    rw [if_neg (by omega), if_pos (by omega), if_neg c1, if_neg c2]
  · unfold foundN foundS foundC
    by_cases c : 2932896 < n0
    · rw [if_pos c, if_pos c, if_pos c]; exact .inr (.inl ⟨⟨n0, s0, ha, c⟩, rfl, rfl, rfl⟩)
    · rw [if_neg c, if_neg c, if_neg c]; exact .inr (.inr ⟨ha, by omega, rfl⟩)
theorem scale_seconds (l : List (Int × Int)) (u e t x o : Int) (ht : -9223372036854775808 ≤ t ∧ t ≤ 9223372036854775807) : g_law12_ScaleSeconds ((), (tb l u e, ((t, ()), ((x, (o, ())), ())))) = some ((), ((true, ()), ())) := by
  simp only [g_law12_ScaleSeconds, f_law12_ScaleSeconds_m, scale_alive, g_law10_Long, f_law10_Long_m, Option.bind_some, Option.isNone_none, Option.isNone_some, Option.isSome_none, Option.isSome_some, Bool.not_true, Bool.not_false, cond_true, cond_false, cond_dec, beq_int, bne_int, not_dec, gt_iff_lt]
  by_cases c0 : 296 < l.length
  · rw [if_pos (by omega)]
  have hcl : ¬ ((296 : Int) < l.length) := by omega
  rw [if_neg hcl]
  have hl3 : l.length ≤ 300 := by omega
  have hm := made l (by omega) u e
  have hc := ref10_check l u e
  simp only [hm, hc, Option.bind_some, Option.isNone_none, Option.isNone_some, Option.isSome_none, Option.isSome_some, Bool.not_true, Bool.not_false, cond_true, cond_false, cond_dec, beq_int, bne_int, not_dec, ne_eq]
  by_cases c : tErr l u e = 0
  · obtain ⟨hg, _, _⟩ := good_of c
    obtain ⟨n, s, r, h1, h2⟩ := scale_place hg u e t ht
    obtain ⟨n', s', r', h1', h2'⟩ := ref12_place hg u e t ht
    obtain ⟨rfl, rfl, rfl⟩ := place_unique hg h2 h2'
    simp only [c, not_true_eq_false, if_false, if_true, g_scale_Label, f_scale_Label_m, g_ref12_Label, f_ref12_Label_m, g_scale_PosixOf, f_scale_PosixOf_m, g_scale_Ahead, f_scale_Ahead_m, h1, h1', Option.bind_some, Option.isNone_none, Option.isNone_some, Option.isSome_none, Option.isSome_some, Bool.not_true, Bool.not_false, cond_true, cond_false, cond_dec, beq_int, bne_int, not_dec, errOf_none, document, num_num, ne_eq]
    by_cases d : r = 0
    · subst d
      obtain ⟨a, a1, a2, _⟩ := of_both n s x o
      have hat : At l n s t ∧ n ≤ 2932896 := by
        rcases h2 with h | h | h
        · omega
        · omega
        · exact ⟨h.1, h.2.1⟩
      have e1 := at_low hg hat.1
      have e2 := at_sec hg hat.1
      obtain ⟨k, hk, hb⟩ := behind hg u e n
      have hlen := hg.len
      have h3 := table_offset hg u e hk hb
      have h4 := ref10_offset u e n (by omega) hk
      have h5 : iadd .i64 (imul .i64 n 86400) s = n * 86400 + s := by simp (disch := omega) only [imul_i64, iadd_i64]
      simp only [not_true_eq_false, if_false, if_true, a1, a2, h3, h4, h5, Lab.t, Option.bind_some, Option.isNone_none, Option.isNone_some, Option.isSome_none, Option.isSome_some, Bool.not_true, Bool.not_false, cond_true, cond_false, cond_dec, beq_int, bne_int, not_dec, num_num, errOf_zero, errOf_none]
      simp
      have : g_hnum_Num ((), ((none, ()), ())) = some ((), ((0, ()), ())) := num_num 0
      simp [this, num_num]
    · have hz : n = 0 ∧ s = 0 := by
        rcases h2 with h | h | h
        · omega
        · omega
        · omega
      simp [d, num_num]
  · simp [c]
end Go.Proofs.Ytnielkimpieofaa.Ev
