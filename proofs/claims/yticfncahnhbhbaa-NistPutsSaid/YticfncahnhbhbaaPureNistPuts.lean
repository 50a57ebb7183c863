/- The law NistPuts, plain. -/
import Derived.Test.YticfncahnhbhbaaPuNist2
namespace Go.Proofs.Yticfncahnhbhbaa.Ev
open Go
set_option linter.unusedVariables false
set_option linter.unusedSimpArgs false
theorem nist_label (l : NL) : ∃ r : Lab, g_nist_Label ((), (l.t, ())) = some ((), (r.t, ((errOf l.err, ()), ()))) ∧ (l.err ≠ 0 → r = zl) ∧
    (l.err = 0 → g_ref08_Of ((), ((l.n, ()), ((l.s, ()), ((0, ()), ((0, ()), ()))))) = some ((), (r.t, ((0, ()), ())))) := by
  have hc := nist_check l
  simp only [NL.t] at hc
  by_cases h : l.err = 0
  · obtain ⟨h1, h2⟩ := NL.err_zero h
    obtain ⟨t1, t2, t3⟩ := fiveE_zero h1
    unfold NL.fit at h2
    have hk := clk_range h2.1
    obtain ⟨r, k1, k2, _, _⟩ := of_both l.n l.s 0 0
    have ho : ofErr l.n l.s 0 0 = 0 := ofErr_zero.2 ⟨t1, h2.1, by omega, by omega, by
      unfold there at t1 ⊢
      omega⟩
    rw [ho] at k1 k2
    refine ⟨r, ?_, fun q => absurd h q, fun _ => k2⟩
    simp only [Lab.t] at k1
    simp only [g_nist_Label, f_nist_Label_m, NL.t, Lab.t, hc, h, errOf_zero, k1, fitsS_dec, Option.bind_some, Option.isNone_none, Option.isNone_some, Option.isSome_none, Option.isSome_some, Bool.not_true, Bool.not_false, cond_true, cond_false, cond_dec, beq_int, bne_int, not_dec]
  · refine ⟨zl, ?_, fun _ => rfl, fun q => absurd q h⟩
    simp only [g_nist_Label, f_nist_Label_m, NL.t, hc, errOf_none, h, fitsS_dec, Option.bind_some, Option.isNone_none, Option.isNone_some, Option.isSome_none, Option.isSome_some, Bool.not_true, Bool.not_false, cond_true, cond_false, cond_dec, beq_int, bne_int, not_dec, not_false_eq_true, if_true]; rfl
theorem nist_puts (l : NL) : g_law26_NistPuts ((), (l.t, ())) = some ((), ((true, ()), ())) := by
  obtain ⟨r, k1, k2, k3⟩ := nist_label l
  have hc := nist_check l
  have hr := ref26_check l
  have hdoc : ∀ x, g_law26_Document ((), (x, ())) = some ((), (x, ())) := fun x => rfl
  by_cases h : l.err = 0
  · have t1 := (fiveE_zero (NL.err_zero h).1).1
    obtain ⟨y, m, d, hd⟩ := date_ex l.n t1
    have p1 := nist_put h hd
    have p2 := ref26_put h hd
    have k4 := k3 h
    simp only [NL.t, Lab.t, h, errOf_zero] at k1 hc hr p1 p2 k4
    have hn0 : g_hnum_Num ((), ((none, ()), ())) = some ((), ((0, ()), ())) := num_num 0
    simp only [g_law26_NistPuts, f_law26_NistPuts_m, NL.t, nist_alive, hdoc, document, hc, hr, p1, p2, k1, k4, hn0, fitsS_dec, Option.bind_some, Option.isNone_none, Option.isNone_some, Option.isSome_none, Option.isSome_some, Bool.not_true, Bool.not_false, cond_true, cond_false, cond_dec, beq_int, bne_int, not_dec]
    simp
  · have p1 := nist_put_bad h
    have hz := k2 h
    subst hz
    simp only [NL.t, Lab.t] at k1 hc hr p1
    simp only [g_law26_NistPuts, f_law26_NistPuts_m, NL.t, nist_alive, hdoc, hc, hr, p1, k1, num_num, fitsS_dec, Option.bind_some, Option.isNone_none, Option.isNone_some, Option.isSome_none, Option.isSome_some, Bool.not_true, Bool.not_false, cond_true, cond_false, cond_dec, beq_int, bne_int, not_dec, h, ne_eq, not_false_eq_true, if_true, str_nil]
    simp [zl]
end Go.Proofs.Yticfncahnhbhbaa.Ev
