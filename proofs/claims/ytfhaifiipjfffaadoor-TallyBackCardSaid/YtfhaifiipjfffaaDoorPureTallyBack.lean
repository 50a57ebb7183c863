/- The law TallyBack, plain. -/
import Derived.Test.YtfhaifiipjfffaaDoorPuTallyW
import Derived.Test.YtfhaifiipjfffaaDoorPureTallyPlays
namespace Go.Proofs.YtfhaifiipjfffaaDoor.Ev
open Go
set_option linter.unusedVariables false
set_option linter.unusedSimpArgs false
set_option maxRecDepth 4000
theorem never_less {m : List Int} (h : cntOk m) (k b : Int) (j : Nat) : m.getD j 0 ≤ (addM m k b).getD j 0 := by
  unfold addM
  by_cases c : addE m k b = 0
  · rw [if_pos c]
    unfold addE at c
    split at c
    · exact absurd c (by decide)
    rename_i c1
    split at c
    · exact absurd c (by decide)
    rename_i c2
    have c1' : 1 ≤ k ∧ k ≤ 12 := Classical.not_not.1 c1
    have hl := h.1
    by_cases e : j = (k - 1).toNat
    · subst e
      have hlt : (k - 1).toNat < m.length := by omega
      have hv : cntK m k = m.getD (k - 1).toNat 0 := if_pos c1'
      rw [hv]
      conv => rhs; rw [List.getD_eq_getElem?_getD, List.getElem?_set_self hlt]
      simp only [Option.getD_some]; omega
    · rw [List.getD_eq_getElem?_getD (l := m.set _ _), List.getElem?_set_ne (fun q => e q.symm), ← List.getD_eq_getElem?_getD]
      exact Int.le_refl _
  · rw [if_neg c]; exact Int.le_refl _
theorem back_p21 {m w : List Int} (hless : ∀ j : Nat, m.getD j 0 ≤ w.getD j 0) (s : ByteArray) (acts : List (Int × Int)) (idx : Nat) (hi : idx ≤ 1000)
    (h : Evn (fun k => (f_law32_TallyBack_t k).1 ((tU w, ()), ((s, ()), ((), ((acts, ()), (((acts.length : Int), ()), ((((idx + 1 : Nat) : Int), ()), ()))))))) ((), ((true, ()), ()))) : ∀ (n j : Nat), j + n = 12 →
    Evn (fun k => (f_law32_TallyBack_t k).2.1 ((tU w, (tU m, ())), ((s, ()), ((), ((), ((acts, ()), (((acts.length : Int), ()), (((idx : Int), ()), (tU w, (((j : Int), ()), ())))))))))) ((), ((true, ()), ()))
  | 0, j, e => by
    obtain rfl : j = 12 := by omega
    have i1 : iadd .i64 (idx : Int) 1 = ((idx + 1 : Nat) : Int) := by rw [iadd_i64 (by omega)]; rfl
    refine h.step fun k => ?_
    rw [t_law32_TallyBack]
    simp only [f_law32_TallyBack_p21, fitsS_dec, Option.bind_some, Option.isNone_none, Option.isNone_some, Option.isSome_none, Option.isSome_some, Bool.not_true, Bool.not_false, cond_true, cond_false, cond_dec, beq_int, bne_int, not_dec, i1]
    rw [if_neg (by omega)]
  | n + 1, j, e => by
    have ih := back_p21 hless s acts idx hi h n (j + 1) (by omega)
    have i1 : iadd .i64 (j : Int) 1 = ((j + 1 : Nat) : Int) := by rw [iadd_i64 (by omega)]; rfl
    have hlj : decide (w.getD j 0 < m.getD j 0) = false := decide_eq_false (by have := hless j; omega)
    have hj1 : (j : Int) < 12 := by omega
    have hj2 : (0 : Int) ≤ (j : Int) ∧ (j : Int) < 12 := by omega
    refine ((ih.step (F := fun k => (f_law32_TallyBack_t k).2.2.2.1 ((tU w, (tU m, ())), ((s, ()), ((), ((), ((acts, ()), (((acts.length : Int), ()), (((idx : Int), ()), (tU w, (((j : Int), ()), ((decide (w.getD j 0 < m.getD j 0), ()), ()))))))))))) fun k => ?_).step (F := fun k => (f_law32_TallyBack_t k).2.2.1 ((tU w, (tU m, ())), ((s, ()), ((), ((), ((((j : Int)), ()), ((w.getD j 0, ()), ((acts, ()), (((acts.length : Int), ()), (((idx : Int), ()), (tU w, (((j : Int), ()), ())))))))))))) fun k => ?_).step fun k => ?_
    · rw [t_law32_TallyBack]
      simp only [f_law32_TallyBack_p26, hlj, cond_false, i1]
    · rw [t_law32_TallyBack]
      simp only [f_law32_TallyBack_p25, cond_dec, and_dec, if_pos hj2]
      clear ih h i1 hlj hj1 hj2 hless
      generalize acts.length = N
      have hc : j = 0 ∨ j = 1 ∨ j = 2 ∨ j = 3 ∨ j = 4 ∨ j = 5 ∨ j = 6 ∨ j = 7 ∨ j = 8 ∨ j = 9 ∨ j = 10 ∨ j = 11 := by omega
      clear e
      rcases hc with rfl | rfl | rfl | rfl | rfl | rfl | rfl | rfl | rfl | rfl | rfl | rfl <;> simp only [tU, Int.reduceLT, Int.reduceLE, Int.reduceEq, Int.reduceGT, Int.reduceSub, Int.reduceAdd, gt_iff_lt, ge_iff_le, if_true, if_false, and_self, and_true, true_and, Int.cast_ofNat_Int]
    · rw [t_law32_TallyBack]
      simp only [f_law32_TallyBack_p21, cond_dec, and_dec, if_pos hj1, if_pos hj2]
      clear ih h i1 hlj hj1 hj2 hless
      generalize acts.length = N
      have hc : j = 0 ∨ j = 1 ∨ j = 2 ∨ j = 3 ∨ j = 4 ∨ j = 5 ∨ j = 6 ∨ j = 7 ∨ j = 8 ∨ j = 9 ∨ j = 10 ∨ j = 11 := by omega
      clear e
      rcases hc with rfl | rfl | rfl | rfl | rfl | rfl | rfl | rfl | rfl | rfl | rfl | rfl <;> simp only [tU, Int.reduceLT, Int.reduceLE, Int.reduceEq, Int.reduceGT, Int.reduceSub, Int.reduceAdd, gt_iff_lt, ge_iff_le, if_true, if_false, and_self, and_true, true_and, Int.cast_ofNat_Int]
theorem back_p13 {acts : List (Int × Int)} (ha : ∀ a ∈ acts, i64 a.2) (hal : acts.length ≤ 60) (s : ByteArray) (hs : s.size ≤ 1000) : ∀ (r done : List (Int × Int)) (m : List Int), acts = done ++ r → cntOk m →
    Evn (fun k => (f_law32_TallyBack_t k).1 ((tU m, ()), ((s, ()), ((), ((acts, ()), (((acts.length : Int), ()), (((done.length : Int), ()), ()))))))) ((), ((true, ()), ()))
  | [], done, m, e, h => by
    have hl := congrArg List.length e
    rw [List.length_append, List.length_nil] at hl
    have h1 := tally_text h
    have hsz := textP_len h 12
    have h2 := tally_parse (strOf (textP m 12)) (by rw [str_size]; omega)
    rw [by_str (textP_by m 12), read_text h] at h2
    have hv := vals_text h
    have ho : out2 (m.map fun x => padd x.toNat 1) = ((some (tN m), ()), ((none, ()), ())) := by
      unfold out2
      rw [if_pos (fun w hw => by
        have hx : val10 w ∈ (m.map fun x => padd x.toNat 1).map val10 := List.mem_map_of_mem hw
        rw [hv] at hx
        exact (h.2 _ hx).2), hv]
    simp only [outR, ho] at h2
    have h3 := tally_same h.1 h.1
    rw [decide_eq_true rfl] at h3
    have h4 := tally_parse s (by omega)
    have hb1 : ¬ (done.length : Int) < (acts.length : Int) := by omega
    refine Evn.some 1 fun k => ?_
    rw [t_law32_TallyBack]
    cases hP : rowsP 12 0 (rowsA [] (bytesOf s)) with
    | none =>
      rw [hP] at h4
      simp only [outR] at h4
      simp only [f_law32_TallyBack_p13, tU, tN, fitsS_dec, Option.bind_some, Option.isNone_none, Option.isNone_some, Option.isSome_none, Option.isSome_some, Bool.not_true, Bool.not_false, cond_true, cond_false, cond_dec, beq_int, bne_int, not_dec, if_neg hb1] at h1 h2 h3 h4 ⊢
      simp only [h1, h2, h3, h4, Option.bind_some, Option.isNone_none, Option.isNone_some, Bool.not_true, Bool.not_false, cond_true, cond_false]
    | some ws =>
      rw [hP] at h4
      have hq : ws.length = 12 ∧ ∀ w ∈ ws, wOk w := by
        have hP' := hP
        unfold rowsP at hP'
        split at hP'
        · have := rowsQ_ok _ _ _ hP'
          rename_i hc
          refine ⟨by rw [this.1, List.length_take]; omega, this.2⟩
        · cases hP'
      simp only [outR, out2] at h4
      by_cases c : ∀ w ∈ ws, val10 w ≤ 9223372036854775807
      · rw [if_pos c] at h4
        have hk := vals_ok hq.1 hq.2 c
        have h5 := tally_text hk
        rw [text_read hq.1 hq.2 hP, str_by] at h5
        have h6 : (s.toList == s.toList) = true := by rw [str_eq]; simp
        generalize ws.map val10 = v at h4 h5
        simp only [f_law32_TallyBack_p13, tU, tN, fitsS_dec, Option.bind_some, Option.isNone_none, Option.isNone_some, Option.isSome_none, Option.isSome_some, Bool.not_true, Bool.not_false, cond_true, cond_false, cond_dec, beq_int, bne_int, not_dec, if_neg hb1] at h1 h2 h3 h4 h5 ⊢
        simp only [h1, h2, h3, h4, h5, h6, Option.bind_some, Option.isNone_none, Option.isNone_some, Bool.not_true, Bool.not_false, cond_true, cond_false]
      · rw [if_neg c] at h4
        simp only [f_law32_TallyBack_p13, tU, tN, fitsS_dec, Option.bind_some, Option.isNone_none, Option.isNone_some, Option.isSome_none, Option.isSome_some, Bool.not_true, Bool.not_false, cond_true, cond_false, cond_dec, beq_int, bne_int, not_dec, if_neg hb1] at h1 h2 h3 h4 ⊢
        simp only [h1, h2, h3, h4, Option.bind_some, Option.isNone_none, Option.isNone_some, Bool.not_true, Bool.not_false, cond_true, cond_false]
  | a :: r, done, m, e, h => by
    have hl := congrArg List.length e
    simp only [List.length_append, List.length_cons] at hl
    obtain ⟨k, b⟩ := a
    have hb : i64 b := ha (k, b) (by rw [e]; simp)
    have hg : gd_i64_i64 acts (done.length : Int) = (k, b) := by
      rw [gd_acts, Int.toNat_natCast, List.getD_eq_getElem?_getD, e, List.getElem?_append_right (Nat.le_refl _), Nat.sub_self]
      rfl
    have h2 := addM_ok h k b
    have ih := back_p13 ha hal s hs r (done ++ [(k, b)]) (addM m k b) (by rw [e, List.append_assoc]; rfl) h2
    simp only [List.length_append, List.length_singleton] at ih
    have f1 := tally_all m
    have f2 := tally_add h k b hb
    have f3 := tally_all (addM m k b)
    have h21 := back_p21 (never_less h k b) s acts done.length (by omega) ih 12 0 rfl
    have hb1 : (done.length : Int) < (acts.length : Int) := by omega
    have hb2 : (0 : Int) ≤ (done.length : Int) ∧ (done.length : Int) < (acts.length : Int) := by omega
    refine h21.step fun j => ?_
    rw [t_law32_TallyBack]
    clear ih h21
    generalize addM m k b = w at *
    simp only [f_law32_TallyBack_p13, tU, tN, hg, fitsS_dec, Option.bind_some, Option.isNone_none, Option.isNone_some, Option.isSome_none, Option.isSome_some, Bool.not_true, Bool.not_false, cond_true, cond_false, cond_dec, beq_int, bne_int, not_dec, and_dec, if_pos hb1, if_pos hb2] at f1 f2 f3 ⊢
    simp only [f1, f2, f3, Option.bind_some]
    rfl
theorem tally_back (acts : List (Int × Int)) (s : ByteArray) (ha : ∀ a ∈ acts, i64 a.2) : g_law32_TallyBack ((), ((acts, ()), ((s, ()), ()))) = some ((), ((true, ()), ())) := by
  by_cases c1 : 60 < (acts.length : Int)
  · refine (Evn.const fun j => ?_).lim
    simp only [f_law32_TallyBack_m, tally_alive, fitsS_dec, Option.bind_some, Option.isNone_none, Option.isNone_some, Option.isSome_none, Option.isSome_some, Bool.not_true, Bool.not_false, cond_true, cond_false, cond_dec, beq_int, bne_int, not_dec, gt_iff_lt]
    rw [if_pos c1]
  by_cases c2 : 1000 < (s.size : Int)
  · refine (Evn.const fun j => ?_).lim
    simp only [f_law32_TallyBack_m, tally_alive, fitsS_dec, Option.bind_some, Option.isNone_none, Option.isNone_some, Option.isSome_none, Option.isSome_some, Bool.not_true, Bool.not_false, cond_true, cond_false, cond_dec, beq_int, bne_int, not_dec, gt_iff_lt]
    rw [if_neg c1, if_pos c2]
  have := back_p13 ha (by omega) s (by omega) acts [] m0 rfl m0_ok
  refine (this.cast fun j => ?_).lim
  simp only [f_law32_TallyBack_m, tally_alive, tally_new, fitsS_dec, Option.bind_some, Option.isNone_none, Option.isNone_some, Option.isSome_none, Option.isSome_some, Bool.not_true, Bool.not_false, cond_true, cond_false, cond_dec, beq_int, bne_int, not_dec, gt_iff_lt]
  rw [if_neg c1, if_neg c2]
  rfl
end Go.Proofs.YtfhaifiipjfffaaDoor.Ev
