/- Leap tables: what the reference's functions tell of them. -/
import Derived.Test.YtddnfappkfiidaaGreatPuLeap
namespace Go.Proofs.YtddnfappkfiidaaGreat.Ev
open Go
set_option linter.unusedVariables false
set_option linter.unusedSimpArgs false
/-- A table as the reference's functions take it. -/
@[reducible] def tbR (l : List (Int × Int)) (u e : Int) : (List (Int × Int)) × (Int × (Int × Unit)) := (l, (u, (e, ())))
theorem check_p30 {l : List (Int × Int)} (u e : Int) (hl : l.length ≤ 300) (ho : ∀ i : Nat, i < l.length → 0 ≤ (gd_i64_i64 l i).2 ∧ (gd_i64_i64 l i).2 ≤ 1000) : ∀ (k i : Nat), 1 ≤ i → i + k = max l.length 1 → ∃ b : Int, Evn (fun j => (f_ref10_Check_t j).2.2.1 ((tbR l u e, ()), ((), (((i : Int), ()), ())))) ((), ((b, ()), ())) ∧
    ((b = 0 ∧ ∀ j : Nat, i ≤ j + 1 → j + 1 < l.length → foll (gd_i64_i64 l ((j + 1 : Nat) : Int)) (gd_i64_i64 l j)) ∨ (b = 6 ∧ ¬ rises l)) := by
  intro k; induction k with
  | zero =>
    intro i hi h
    refine ⟨0, Evn.some 1 fun j => ?_, .inl ⟨rfl, fun j h1 h2 => by omega⟩⟩
    simp only [t_ref10_Check, f_ref10_Check_p30, fitsS_dec, Option.bind_some, Option.isNone_none, Option.isNone_some, Option.isSome_none, Option.isSome_some, Bool.not_true, Bool.not_false, cond_true, cond_false, cond_dec, beq_int, bne_int, not_dec]
    rw [if_neg (by omega)]
  | succ k ih =>
    intro i hi h
    obtain ⟨m, rfl⟩ : ∃ m, i = m + 1 := ⟨i - 1, by omega⟩
    have e1 : isub .i64 (((m + 1 : Nat) : Int)) 1 = (m : Int) := by rw [isub_i64 (by omega)]; omega
    have h1 := ho (m + 1) (by omega)
    have h2 := ho m (by omega)
    have e2 : iadd .i64 (gd_i64_i64 l m).2 1 = (gd_i64_i64 l m).2 + 1 := iadd_i64 (by omega)
    have e3 : isub .i64 (gd_i64_i64 l m).2 1 = (gd_i64_i64 l m).2 - 1 := isub_i64 (by omega)
    by_cases c : foll (gd_i64_i64 l ((m + 1 : Nat) : Int)) (gd_i64_i64 l m)
    · obtain ⟨b, q1, q2⟩ := ih (m + 1 + 1) (by omega) (by omega)
      refine ⟨b, q1.step fun j => ?_, ?_⟩
      · obtain ⟨c1, c2⟩ := c
        simp only [t_ref10_Check, f_ref10_Check_p30, fitsS_dec, Option.bind_some, Option.isNone_none, Option.isNone_some, Option.isSome_none, Option.isSome_some, Bool.not_true, Bool.not_false, cond_true, cond_false, cond_dec, beq_int, bne_int, not_dec, and_dec, e1, e2, e3]
        rw [if_pos (by omega), if_pos (by omega), if_pos (by omega)]
        rw [if_neg (by omega), iadd_i64 (by omega)]
        by_cases c3 : (gd_i64_i64 l ((m + 1 : Nat) : Int)).2 ≠ (gd_i64_i64 l m).2 + 1
        · rw [if_pos c3, if_neg (by omega)]; rfl
        · rw [if_neg c3]; rfl
      · rcases q2 with ⟨q2, q3⟩ | q2
        · refine .inl ⟨q2, fun j h4 h5 => ?_⟩
          by_cases e : j = m
          · subst e; exact c
          · exact q3 j (by omega) h5
        · exact .inr q2
    · refine ⟨6, Evn.some 1 fun j => ?_, .inr ⟨rfl, fun hr => c (hr m (by omega))⟩⟩
      simp only [t_ref10_Check, f_ref10_Check_p30, fitsS_dec, Option.bind_some, Option.isNone_none, Option.isNone_some, Option.isSome_none, Option.isSome_some, Bool.not_true, Bool.not_false, cond_true, cond_false, cond_dec, beq_int, bne_int, not_dec, and_dec, e1, e2, e3]
      rw [if_pos (by omega), if_pos (by omega), if_pos (by omega)]
      by_cases c1 : (gd_i64_i64 l ((m + 1 : Nat) : Int)).1 ≤ (gd_i64_i64 l m).1
      · rw [if_pos c1]
      · have c2 : ¬((gd_i64_i64 l ((m + 1 : Nat) : Int)).2 - (gd_i64_i64 l m).2 = 1 ∨ (gd_i64_i64 l ((m + 1 : Nat) : Int)).2 - (gd_i64_i64 l m).2 = -1) := fun hh => c ⟨by omega, hh⟩
        rw [if_neg c1, if_pos (by omega), if_pos (by omega)]
theorem first_iff {n y m d : Int} (h : IsDate n y m d) : first n ↔ d = 1 := by
  constructor
  · rintro ⟨y', m', h'⟩; exact (isDate_unique h h').2.2
  · rintro rfl; exact ⟨y, m, h⟩
theorem check_p21 {l : List (Int × Int)} (u e : Int) (hl : l.length ≤ 300) (hd : ¬ undatedL l) : ∀ (k i : Nat), i + k = l.length → (∀ j : Nat, j < i → first (gd_i64_i64 l j).1 ∧ 0 ≤ (gd_i64_i64 l j).2 ∧ (gd_i64_i64 l j).2 ≤ 1000) →
    Evn (fun j => (f_ref10_Check_t j).2.1 ((tbR l u e, ()), ((), (((i : Int), ()), ())))) ((), ((if wrongL l then 1 else if ¬ rises l then 6 else 0, ()), ())) := by
  intro k; induction k with
  | zero =>
    intro i h hp
    have hw : ¬ wrongL l := by rintro ⟨j, hj, hh⟩; exact hh (hp j (by omega))
    obtain ⟨b, q1, q2⟩ := check_p30 u e hl (fun i hi => (hp i (by omega)).2) (max l.length 1 - 1) 1 (by omega) (by omega)
    have hb : (if wrongL l then (1 : Int) else if ¬ rises l then 6 else 0) = b := by
      rw [if_neg hw]
      rcases q2 with ⟨rfl, h3⟩ | ⟨rfl, h3⟩
      · rw [if_neg (not_not_intro (show rises l from fun i hi => h3 i (by omega) hi))]
      · rw [if_pos h3]
    rw [hb]
    refine q1.step fun j => ?_
    simp only [t_ref10_Check, f_ref10_Check_p21, fitsS_dec, Option.bind_some, Option.isNone_none, Option.isNone_some, Option.isSome_none, Option.isSome_some, Bool.not_true, Bool.not_false, cond_true, cond_false, cond_dec, beq_int, bne_int, not_dec]
    rw [if_neg (by omega)]; rfl
  | succ k ih =>
    intro i h hp
    have hdt := days_of hd i (by omega)
    obtain ⟨y, m, d, hdate⟩ := date_ex (gd_i64_i64 l i).1 (by unfold dated at hdt; omega)
    have hr := ref05_date (by unfold dated at hdt; omega) hdate
    have hfi := first_iff hdate
    by_cases c : first (gd_i64_i64 l i).1 ∧ 0 ≤ (gd_i64_i64 l i).2 ∧ (gd_i64_i64 l i).2 ≤ 1000
    · refine (ih (i + 1) (by omega) (fun j hj => by
        by_cases e : j = i
        · subst e; exact c
        · exact hp j (by omega))).step fun j => ?_
      obtain ⟨c1, c2, c3⟩ := c
      have hd1 := hfi.1 c1
      simp only [t_ref10_Check, f_ref10_Check_p21, fitsS_dec, Option.bind_some, Option.isNone_none, Option.isNone_some, Option.isSome_none, Option.isSome_some, Bool.not_true, Bool.not_false, cond_true, cond_false, cond_dec, beq_int, bne_int, not_dec, and_dec, hr]
      rw [if_pos (by omega), if_pos (by omega), if_neg (by omega), if_pos (by omega), if_neg (by omega), if_pos (by omega), if_neg (by omega), iadd_i64 (by omega)]; rfl
    · rw [if_pos (show wrongL l from ⟨i, by omega, c⟩)]
      refine Evn.some 1 fun j => ?_
      simp only [t_ref10_Check, f_ref10_Check_p21, fitsS_dec, Option.bind_some, Option.isNone_none, Option.isNone_some, Option.isSome_none, Option.isSome_some, Bool.not_true, Bool.not_false, cond_true, cond_false, cond_dec, beq_int, bne_int, not_dec, and_dec, hr]
      rw [if_pos (by omega), if_pos (by omega)]
      by_cases c1 : d = 1
      · rw [if_neg (by omega), if_pos (by omega)]
        have hf := hfi.2 c1
        by_cases c2 : (gd_i64_i64 l i).2 < 0
        · rw [if_pos c2]
        · rw [if_neg c2, if_pos (by omega), if_pos]
          have : ¬(0 ≤ (gd_i64_i64 l i).2 ∧ (gd_i64_i64 l i).2 ≤ 1000) := fun hh => c ⟨hf, hh⟩
          omega
      · rw [if_pos c1]
theorem check_p9 {l : List (Int × Int)} (u e : Int) (hl : l.length ≤ 300) : ∀ (k i : Nat), i + k = l.length → (∀ j : Nat, j < i → dated (gd_i64_i64 l j).1) →
    Evn (fun j => (f_ref10_Check_t j).1 ((tbR l u e, ()), ((), (((i : Int), ()), ())))) ((), ((if undatedL l then 13 else if wrongL l ∨ ¬ timeP u ∨ ¬ timeP e then 1 else if ¬ rises l then 6 else 0, ()), ())) := by
  have e0 : dnum 1900 1 1 = -25567 := rfl
  intro k; induction k with
  | zero =>
    intro i h hp
    have hw : ¬ undatedL l := by rintro ⟨j, hj, hh⟩; exact hh (hp j (by omega))
    rw [if_neg hw]
    by_cases c1 : timeP u ∧ timeP e
    · have hb : (if wrongL l ∨ ¬ timeP u ∨ ¬ timeP e then (1 : Int) else if ¬ rises l then 6 else 0) = if wrongL l then 1 else if ¬ rises l then 6 else 0 := by
        by_cases c : wrongL l
        · rw [if_pos (.inl c), if_pos c]
        · rw [if_neg (by simp [c, c1.1, c1.2]), if_neg c]
      rw [hb]
      refine (check_p21 u e hl hw l.length 0 (by omega) (fun j hj => by omega)).step fun j => ?_
      obtain ⟨⟨a1, a2⟩, a3, a4⟩ := c1
      simp only [t_ref10_Check, f_ref10_Check_p9, fitsS_dec, Option.bind_some, Option.isNone_none, Option.isNone_some, Option.isSome_none, Option.isSome_some, Bool.not_true, Bool.not_false, cond_true, cond_false, cond_dec, beq_int, bne_int, not_dec, gt_iff_lt]
      rw [if_neg (by omega), if_neg (by omega), if_neg (by omega), if_neg (by omega), if_neg (by omega)]; rfl
    · have c2 : ¬ timeP u ∨ ¬ timeP e := by by_cases a : timeP u <;> by_cases b : timeP e <;> simp_all
      rw [if_pos (.inr c2)]
      refine Evn.some 1 fun j => ?_
      simp only [t_ref10_Check, f_ref10_Check_p9, fitsS_dec, Option.bind_some, Option.isNone_none, Option.isNone_some, Option.isSome_none, Option.isSome_some, Bool.not_true, Bool.not_false, cond_true, cond_false, cond_dec, beq_int, bne_int, not_dec, gt_iff_lt]
      rw [if_neg (by omega)]
      unfold timeP at c2
      by_cases b1 : u < 0
      · rw [if_pos b1]
      rw [if_neg b1]
      by_cases b2 : 1099511627776 < u
      · rw [if_pos b2]
      rw [if_neg b2]
      by_cases b3 : e < 0
      · rw [if_pos b3]
      rw [if_neg b3, if_pos (by omega)]
  | succ k ih =>
    intro i h hp
    by_cases c : dated (gd_i64_i64 l i).1
    · refine (ih (i + 1) (by omega) (fun j hj => by
        by_cases e : j = i
        · subst e; exact c
        · exact hp j (by omega))).step fun j => ?_
      unfold dated at c
      simp only [t_ref10_Check, f_ref10_Check_p9, fitsS_dec, Option.bind_some, Option.isNone_none, Option.isNone_some, Option.isSome_none, Option.isSome_some, Bool.not_true, Bool.not_false, cond_true, cond_false, cond_dec, beq_int, bne_int, not_dec, gt_iff_lt, and_dec, ref05_start 1900 (by omega), ref05_last, e0]
      rw [if_pos (by omega), if_pos (by omega), if_neg (by omega), if_neg (by omega), iadd_i64 (by omega)]; rfl
    · rw [if_pos (show undatedL l from ⟨i, by omega, c⟩)]
      refine Evn.some 1 fun j => ?_
      unfold dated at c
      simp only [t_ref10_Check, f_ref10_Check_p9, fitsS_dec, Option.bind_some, Option.isNone_none, Option.isNone_some, Option.isSome_none, Option.isSome_some, Bool.not_true, Bool.not_false, cond_true, cond_false, cond_dec, beq_int, bne_int, not_dec, gt_iff_lt, and_dec, ref05_start 1900 (by omega), ref05_last, e0]
      rw [if_pos (by omega), if_pos (by omega)]
      by_cases c1 : (gd_i64_i64 l i).1 < -25567
      · rw [if_pos c1]
      · rw [if_neg c1, if_pos (by omega)]
theorem ref10_check (l : List (Int × Int)) (u e : Int) : g_ref10_Check ((), (tbR l u e, ())) = some ((), ((tErr l u e, ()), ())) := by
  unfold tErr
  by_cases c1 : l.length = 0
  · rw [if_pos c1]
    refine (Evn.some 0 fun k => ?_).lim
    simp only [f_ref10_Check_m, fitsS_dec, Option.bind_some, Option.isNone_none, Option.isNone_some, Option.isSome_none, Option.isSome_some, Bool.not_true, Bool.not_false, cond_true, cond_false, cond_dec, beq_int, bne_int, not_dec]
    rw [if_pos (by omega)]
  rw [if_neg c1]
  by_cases c2 : 256 < l.length
  · rw [if_pos c2]
    refine (Evn.some 0 fun k => ?_).lim
    simp only [f_ref10_Check_m, fitsS_dec, Option.bind_some, Option.isNone_none, Option.isNone_some, Option.isSome_none, Option.isSome_some, Bool.not_true, Bool.not_false, cond_true, cond_false, cond_dec, beq_int, bne_int, not_dec]
    rw [if_neg (by omega), if_pos (by omega)]
  rw [if_neg c2]
  refine ((check_p9 u e (by omega) l.length 0 (by omega) (fun j hj => by omega)).cast fun k => ?_).lim
  simp only [f_ref10_Check_m, fitsS_dec, Option.bind_some, Option.isNone_none, Option.isNone_some, Option.isSome_none, Option.isSome_some, Bool.not_true, Bool.not_false, cond_true, cond_false, cond_dec, beq_int, bne_int, not_dec]
  rw [if_neg (by omega), if_neg (by omega)]; rfl
theorem R_eq {l : List (Int × Int)} {i : Nat} (h : i < l.length) : gd_i64_i64 l i = l[i] := by simp [gd_i64_i64, gd, h]
theorem document_p4 (l : List (Int × Int)) (hl : l.length ≤ 1000) (x y : Int × (Int × Unit)) (b : List (Int × Int)) : ∀ (k i : Nat), i + k = l.length →
    Evn (fun j => (f_law10_Document_t j).1 ((x, (b, (y, (l.take i, ())))), ((), ((), ((l, ()), (((l.length : Int), ()), (((i : Int), ()), ()))))))) ((l, ()), (y, ())) := by
  intro k; induction k with
  | zero =>
    intro i h
    refine Evn.some 1 fun j => ?_
    simp only [t_law10_Document, f_law10_Document_p4, fitsS_dec, Option.bind_some, Option.isNone_none, Option.isNone_some, Option.isSome_none, Option.isSome_some, Bool.not_true, Bool.not_false, cond_true, cond_false, cond_dec, beq_int, bne_int, not_dec]
    rw [if_neg (by omega), List.take_of_length_le (by omega)]
  | succ k ih =>
    intro i h
    have hi : i < l.length := by omega
    have e : l.take (i + 1) = l.take i ++ [((gd_i64_i64 l i).1, (gd_i64_i64 l i).2)] := by rw [List.take_succ_eq_append_getElem hi, R_eq hi]
    have := ih (i + 1) (by omega)
    rw [e] at this
    refine this.step fun j => ?_
    simp only [t_law10_Document, f_law10_Document_p4, fitsS_dec, Option.bind_some, Option.isNone_none, Option.isNone_some, Option.isSome_none, Option.isSome_some, Bool.not_true, Bool.not_false, cond_true, cond_false, cond_dec, beq_int, bne_int, not_dec, and_dec, List.length_cons, List.length_nil, List.length_take]
    rw [if_pos (by omega), if_pos (by omega), if_pos (by omega), iadd_i64 (by omega)]; rfl
theorem document10 (l : List (Int × Int)) (hl : l.length ≤ 1000) (u e : Int) : g_law10_Document ((), (tbR l u e, ())) = some ((l, ()), ((u, (e, ())), ())) := by
  refine ((document_p4 l hl (0, (0, ())) (u, (e, ())) [] l.length 0 (by omega)).cast fun k => ?_).lim
  simp only [f_law10_Document_m]; rfl
theorem made (l : List (Int × Int)) (hl : l.length ≤ 1000) (u e : Int) : g_law10_Made ((), (tbR l u e, ())) = some ((l, ()), ((if tErr l u e = 0 then some (l, (u, e)) else none, ()), ((u, (e, ())), ((decide (tErr l u e = 0), ()), ())))) := by
  have h1 := document10 l hl u e
  have h2 := ref10_check l u e
  simp only [g_law10_Made, f_law10_Made_m, leap_new, h1, fitsS_dec, Option.bind_some, Option.isNone_none, Option.isNone_some, Option.isSome_none, Option.isSome_some, Bool.not_true, Bool.not_false, cond_true, cond_false, cond_dec, beq_int, bne_int, not_dec, errOf_none, h2]
  by_cases c : tErr l u e = 0
  · simp only [c, if_true, fitsS_dec, Option.bind_some, Option.isNone_none, Option.isNone_some, Option.isSome_none, Option.isSome_some, Bool.not_true, Bool.not_false, cond_true, cond_false, cond_dec, beq_int, bne_int, not_dec]
  · simp only [c, if_false, fitsS_dec, Option.bind_some, Option.isNone_none, Option.isNone_some, Option.isSome_none, Option.isSome_some, Bool.not_true, Bool.not_false, cond_true, cond_false, cond_dec, beq_int, bne_int, not_dec, decide_false]
theorem leap_p3 {l : List (Int × Int)} (h : GoodT l) (u e n : Int) {k : Nat} (hk : Cnt l n k) : ∀ (m i : Nat), 1 ≤ i → i + m = max l.length i →
    Evn (fun j => (f_ref10_Leap_t j).1 ((tbR l u e, ()), ((n, ()), ((), (((i : Int), ()), ()))))) ((), ((if i ≤ k then leapV l n k else 0, ()), ())) := by
  have hkl := hk.le
  have hlen := h.len
  intro m; induction m with
  | zero =>
    intro i hi hm
    refine Evn.some 1 fun j => ?_
    simp only [t_ref10_Leap, f_ref10_Leap_p3, fitsS_dec, Option.bind_some, Option.isNone_none, Option.isNone_some, Option.isSome_none, Option.isSome_some, Bool.not_true, Bool.not_false, cond_true, cond_false, cond_dec, beq_int, bne_int, not_dec]
    rw [if_neg (by omega)]
    by_cases c : i ≤ k
    · rw [if_pos c]; unfold leapV; rw [if_neg (by omega)]
    · rw [if_neg c]
  | succ m ih =>
    intro i hi hm
    have hil : i < l.length := by omega
    have hd := h.day i hil
    unfold dated at hd
    have e1 : isub .i64 (gd_i64_i64 l i).1 1 = (gd_i64_i64 l i).1 - 1 := isub_i64 (by omega)
    have e2 : isub .i64 (i : Int) 1 = (i : Int) - 1 := isub_i64 (by omega)
    by_cases c : (gd_i64_i64 l i).1 - 1 = n
    · have hki : k = i := by
        rcases Nat.lt_trichotomy k i with c1 | c1 | c1
        · have := hk.hi k (Nat.le_refl _) (by omega); have := h.lt c1 hil; omega
        · exact c1
        · have := hk.lo i c1; omega
      subst hki
      refine Evn.some 1 fun j => ?_
      simp only [t_ref10_Leap, f_ref10_Leap_p3, fitsS_dec, Option.bind_some, Option.isNone_none, Option.isNone_some, Option.isSome_none, Option.isSome_some, Bool.not_true, Bool.not_false, cond_true, cond_false, cond_dec, beq_int, bne_int, not_dec, and_dec, e1, e2]
      have h1 := h.off k hil
      have h2 := h.off (k - 1) (by omega)
      rw [show ((k - 1 : Nat) : Int) = (k : Int) - 1 by omega] at h2
      rw [if_pos (by omega), if_pos (by omega), if_pos c, if_pos (by omega), if_pos (by omega), isub_i64 (by omega), if_pos (Nat.le_refl _)]
      unfold leapV; rw [if_pos ⟨hil, c, by omega⟩]
    · have := ih (i + 1) (by omega) (by omega)
      have e3 : (if i ≤ k then leapV l n k else 0) = (if i + 1 ≤ k then leapV l n k else 0) := by
        by_cases c1 : i = k
        · subst c1
          rw [if_pos (Nat.le_refl _), if_neg (by omega)]
          unfold leapV; rw [if_neg (fun hh => c hh.2.1)]
        · by_cases c2 : i ≤ k
          · rw [if_pos c2, if_pos (by omega)]
          · rw [if_neg c2, if_neg (by omega)]
      rw [e3]
      refine this.step fun j => ?_
      simp only [t_ref10_Leap, f_ref10_Leap_p3, fitsS_dec, Option.bind_some, Option.isNone_none, Option.isNone_some, Option.isSome_none, Option.isSome_some, Bool.not_true, Bool.not_false, cond_true, cond_false, cond_dec, beq_int, bne_int, not_dec, and_dec, e1, e2]
      rw [if_pos (by omega), if_pos (by omega), if_neg c, iadd_i64 (by omega)]; rfl
theorem ref10_leap {l : List (Int × Int)} (h : GoodT l) (u e n : Int) {k : Nat} (hk : Cnt l n k) : g_ref10_Leap ((), (tbR l u e, ((n, ()), ()))) = some ((), ((leapV l n k, ()), ())) := by
  have hlen := h.len
  have := leap_p3 h u e n hk (l.length - 1) 1 (by omega) (by omega)
  rw [show (if 1 ≤ k then leapV l n k else 0) = leapV l n k by
    by_cases c : k = 0
    · subst c; rw [if_neg (by omega)]; unfold leapV; rw [if_neg (by simp)]
    · rw [if_pos (by omega)]] at this
  refine (this.cast fun j => ?_).lim
  simp only [f_ref10_Leap_m]; rfl
theorem table_length {l : List (Int × Int)} (h : GoodT l) (u e : Int) {n : Int} {k : Nat} (hk : Cnt l n k) (hb : g_leap_Table_behind ((), ((some (l, (u, e)), ()), ((n, ()), ()))) = some ((), (((k : Int), ()), ()))) :
    g_leap_Table_Length ((), ((some (l, (u, e)), ()), ((n, ()), ()))) = some ((), ((86400 + leapV l n k, ()), ())) := by
  have := leapV_range h n k
  simp only [g_leap_Table_Length, f_leap_Table_Length_m, table_leap h u e hk hb, Option.bind_some]
  rw [iadd_i64 (by omega)]
theorem table_has {l : List (Int × Int)} (h : GoodT l) (u e : Int) {n : Int} {k : Nat} (hk : Cnt l n k) (hb : g_leap_Table_behind ((), ((some (l, (u, e)), ()), ((n, ()), ()))) = some ((), (((k : Int), ()), ()))) (s : Int) :
    g_leap_Table_Has ((), ((some (l, (u, e)), ()), ((n, ()), ((s, ()), ())))) = some ((), ((decide (0 ≤ s ∧ s < 86400 + leapV l n k), ()), ())) := by
  simp only [g_leap_Table_Has, f_leap_Table_Has_m, table_length h u e hk hb, fitsS_dec, Option.bind_some, Option.isNone_none, Option.isNone_some, Option.isSome_none, Option.isSome_some, Bool.not_true, Bool.not_false, cond_true, cond_false, cond_dec, beq_int, bne_int, not_dec, ge_iff_le]
  by_cases c : 0 ≤ s <;> simp [c]
end Go.Proofs.YtddnfappkfiidaaGreat.Ev
