/- The law TallyPlays, plain. -/
import Derived.Test.YtfhaifiipjfffaaDoorPuTallyT
namespace Go.Proofs.YtfhaifiipjfffaaDoor.Ev
open Go
set_option linter.unusedVariables false
set_option linter.unusedSimpArgs false
set_option maxRecDepth 4000
@[reducible] def m0 : List Int := [0, 0, 0, 0, 0, 0, 0, 0, 0, 0, 0, 0]
theorem m0_ok : cntOk m0 := ⟨rfl, by decide⟩
theorem tally_new : g_tally_New ((), ()) = some ((tU m0, ()), ((), ())) := rfl
theorem tally_alive : g_law32_alive ((), ()) = some ((), ((true, ()), ())) := by
  have h1 := tally_add m0_ok 7 5 (by decide)
  have hE : addE m0 7 5 = 0 := by decide
  have h2 := tally_count (addM m0 7 5) 7
  have h3 := tally_count (addM m0 7 5) 8
  have e1 : cntK (addM m0 7 5) 7 = 5 := by decide
  have e2 : cntK (addM m0 7 5) 8 = 0 := by decide
  have h4 := tally_name 12
  have e3 : nameK 12 = (⟨#[105, 100, 108, 101]⟩ : ByteArray) := by kernel_rfl
  have e4 : errOf 0 = none := by kernel_rfl
  rw [hE, e4] at h1
  rw [e1] at h2
  rw [e2] at h3
  rw [e3] at h4
  simp only [g_law32_alive, f_law32_alive_m, tally_new, h1, h2, h3, h4, fitsS_dec, Option.bind_some, Option.isNone_none, Option.isNone_some, Option.isSome_none, Option.isSome_some, Bool.not_true, Bool.not_false, cond_true, cond_false, cond_dec, beq_int, bne_int, not_dec]
  rw [str_eq]
  simp
theorem arg_acts {B : Nat} {l : List (Int × Int)} (h : ArgOk B (.sl (.pair (.int .i64) (.int .i64))) l) : ∀ a ∈ l, i64 a.2 := fun a ha => (h.2 a ha).2
theorem gd_acts (l : List (Int × Int)) (i : Int) : gd_i64_i64 l i = l.getD i.toNat (0, 0) := rfl
theorem plays_p14 {acts : List (Int × Int)} (ha : ∀ a ∈ acts, i64 a.2) (hal : acts.length ≤ 60) (ks : List Int) (hk : ks.length ≤ 60) : ∀ (r done : List (Int × Int)) (m : List Int), acts = done ++ r → cntOk m →
    Evn (fun j => (f_law32_TallyPlays_t j).1 ((tU m, (tU m, ())), ((ks, ()), ((), ((), ((acts, ()), (((acts.length : Int), ()), (((done.length : Int), ()), ())))))))) ((), ((true, ()), ()))
  | [], done, m, e, h => by
    have hl := congrArg List.length e
    simp only [List.length_append, List.length_nil] at hl
    have h1 := tally_sum h ks hk
    have h2 := ref32_sum h ks hk
    have h3 := num_num (sumE m ks)
    have h4 := tally_all m
    have h5 := same_list h.1 h.1
    have h6 := tally_text h
    have h7 := ref32_text h
    have h8 : ((strOf (textP m 12)).toList == (strOf (textP m 12)).toList) = true := by rw [str_eq]; simp
    refine Evn.some 1 fun j => ?_
    rw [t_law32_TallyPlays]
    simp only [f_law32_TallyPlays_p14, tU, tN, fitsS_dec, Option.bind_some, Option.isNone_none, Option.isNone_some, Option.isSome_none, Option.isSome_some, Bool.not_true, Bool.not_false, cond_true, cond_false, cond_dec, beq_int, bne_int, not_dec] at h1 h2 h3 h4 h6 h7 ⊢
    rw [if_neg (by omega)]
    simp only [h1, h2, h3, h4, h6, h7, h8, Option.bind_some]
    simp
  | a :: r, done, m, e, h => by
    have hl := congrArg List.length e
    simp only [List.length_append, List.length_cons] at hl
    obtain ⟨k, b⟩ := a
    have hb : i64 b := ha (k, b) (by rw [e]; simp)
    have hg : gd_i64_i64 acts (done.length : Int) = (k, b) := by
      rw [gd_acts, Int.toNat_natCast, List.getD_eq_getElem?_getD, e, List.getElem?_append_right (Nat.le_refl _), Nat.sub_self]
      rfl
    have h2 := addM_ok h k b
    have ih := plays_p14 ha hal ks hk r (done ++ [(k, b)]) (addM m k b) (by rw [e, List.append_assoc]; rfl) h2
    simp only [List.length_append, List.length_singleton] at ih
    have f1 := ref32_add h k b hb
    have f2 := tally_copy m
    have f3 := tally_add h k b hb
    have f4 := num_num (addE m k b)
    have f5 := tally_all m
    have f6 := tally_same h.1 h2.1
    have f7 := tally_count (addM m k b) k
    have q1 := same_list h.1 h.1
    have q2 := same_list h2.1 h.1
    have q3 : decide (addM m k b = m) = decide (m = addM m k b) := by congr 1; exact propext eq_comm
    have i1 : iadd .i64 (done.length : Int) 1 = ((done.length + 1 : Nat) : Int) := by rw [iadd_i64 (by omega)]; rfl
    refine (ih.step (F := fun j => (f_law32_TallyPlays_t j).2.1 ((tU (addM m k b), (tU (addM m k b), ((k, (b, ())), ()))), ((ks, ()), ((), ((), ((), ((cntK (addM m k b) k, ()), ((acts, ()), (((acts.length : Int), ()), (((done.length : Int), ()), ())))))))))) fun j => ?_).step fun j => ?_
    · rw [t_law32_TallyPlays]
      simp only [f_law32_TallyPlays_p26, tU, tN, fitsS_dec, Option.bind_some, Option.isNone_none, Option.isNone_some, Option.isSome_none, Option.isSome_some, Bool.not_true, Bool.not_false, cond_true, cond_false, cond_dec, beq_int, bne_int, not_dec] at f7 ⊢
      simp only [f7, i1, Option.bind_some]
      simp
    · rw [t_law32_TallyPlays]
      clear ih f7
      obtain ⟨s1, s2, s3, s4, s5, s6, s7, s8, s9, s10, s11, s12⟩ := isub_kinds
      generalize addM m k b = w at *
      generalize addE m k b = ee at *
      have hb1 : (done.length : Int) < (acts.length : Int) := by omega
      have hb2 : (0 : Int) ≤ (done.length : Int) ∧ (done.length : Int) < (acts.length : Int) := by omega
      simp only [f_law32_TallyPlays_p14, tU, tN, hg, fitsS_dec, Option.bind_some, Option.isNone_none, Option.isNone_some, Option.isSome_none, Option.isSome_some, Bool.not_true, Bool.not_false, cond_true, cond_false, cond_dec, beq_int, bne_int, not_dec, and_dec, if_pos hb1, if_pos hb2] at f1 f2 f3 f4 f5 f6 q1 q2 ⊢
      simp only [f1, f2, f3, f4, f5, f6, q1, q2, q3, Option.bind_some, ge_iff_le]
      by_cases c : 1 ≤ k ∧ k ≤ 12
      · clear hg f1 f3 e ha
        rcases kinds c with rfl | rfl | rfl | rfl | rfl | rfl | rfl | rfl | rfl | rfl | rfl | rfl <;> simp [s1, s2, s3, s4, s5, s6, s7, s8, s9, s10, s11, s12, cntK]
      · have e0 : cntK w k = 0 := if_neg c
        rw [e0]
        by_cases c1 : 1 ≤ k
        · have c2 : ¬ k ≤ 12 := fun q => c ⟨c1, q⟩
          simp [c1, c2]
        · simp [c1]
theorem tally_plays (acts : List (Int × Int)) (ks : List Int) (ha : ∀ a ∈ acts, i64 a.2) : g_law32_TallyPlays ((), ((acts, ()), ((ks, ()), ()))) = some ((), ((true, ()), ())) := by
  by_cases c1 : 60 < (acts.length : Int)
  · refine (Evn.const fun j => ?_).lim
    simp only [f_law32_TallyPlays_m, tally_alive, fitsS_dec, Option.bind_some, Option.isNone_none, Option.isNone_some, Option.isSome_none, Option.isSome_some, Bool.not_true, Bool.not_false, cond_true, cond_false, cond_dec, beq_int, bne_int, not_dec, gt_iff_lt]
    rw [if_pos c1]
  by_cases c2 : 60 < (ks.length : Int)
  · refine (Evn.const fun j => ?_).lim
    simp only [f_law32_TallyPlays_m, tally_alive, fitsS_dec, Option.bind_some, Option.isNone_none, Option.isNone_some, Option.isSome_none, Option.isSome_some, Bool.not_true, Bool.not_false, cond_true, cond_false, cond_dec, beq_int, bne_int, not_dec, gt_iff_lt]
    rw [if_neg c1, if_pos c2]
  have := plays_p14 ha (by omega) ks (by omega) acts [] m0 rfl m0_ok
  refine (this.cast fun j => ?_).lim
  simp only [f_law32_TallyPlays_m, tally_alive, tally_new, fitsS_dec, Option.bind_some, Option.isNone_none, Option.isNone_some, Option.isSome_none, Option.isSome_some, Bool.not_true, Bool.not_false, cond_true, cond_false, cond_dec, beq_int, bne_int, not_dec, gt_iff_lt]
  rw [if_neg c1, if_neg c2]
  rfl
end Go.Proofs.YtfhaifiipjfffaaDoor.Ev
