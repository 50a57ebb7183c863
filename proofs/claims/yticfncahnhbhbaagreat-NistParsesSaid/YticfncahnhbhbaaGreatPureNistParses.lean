/- The law NistParses, plain. -/
import Derived.Test.YticfncahnhbhbaaGreatPuNistU
import Derived.Test.YticfncahnhbhbaaGreatPuLeap2
namespace Go.Proofs.YticfncahnhbhbaaGreat.Ev
open Go
set_option linter.unusedVariables false
set_option linter.unusedSimpArgs false
theorem np_ref12_has {l : List (Int × Int)} (h : GoodT l) (u e n s : Int) {k : Nat} (hk : Cnt l n k) : g_ref12_Has ((), (tb l u e, ((n, ()), ((s, ()), ())))) = some ((), ((decide (0 ≤ s ∧ s < 86400 + leapV l n k), ()), ())) := by
  have hr := leapV_range h n k
  simp only [g_ref12_Has, f_ref12_Has_m, ref10_leap h u e n hk, fitsS_dec, Option.bind_some, Option.isNone_none, Option.isNone_some, Option.isSome_none, Option.isSome_some, Bool.not_true, Bool.not_false, cond_true, cond_false, cond_dec, beq_int, bne_int, not_dec, ge_iff_le]
  rw [iadd_i64 (by omega)]
  by_cases c : 0 ≤ s
  · simp [c]
  · simp [c]
/-- Both readers, on any text. -/
theorem nist_both (s : ByteArray) (hs : s.size ≤ 1000000) : (∃ e : Int, e ≠ 0 ∧ g_nist_Parse ((), ((s, ()), ())) = some ((), (zln, ((errOf e, ()), ()))) ∧ g_ref26_Parse ((), ((s, ()), ())) = some ((), (zln, ((e, ()), ())))) ∨
    (∃ l : NL, g_nist_Parse ((), ((s, ()), ())) = some ((), (l.t, ((none, ()), ()))) ∧ g_ref26_Parse ((), ((s, ()), ())) = some ((), (l.t, ((0, ()), ())))) := by
  by_cases h : ∃ F : FM, F.ok ∧ bytesOf s = F.L
  · obtain ⟨F, hF, hB⟩ := h
    have h1 := nist_read_ok s F hF hB
    have hok := hF
    obtain ⟨b3, b4, b5, b6, b7, b8, b9, b10, b11, b12, b13, b14⟩ := hok
    have ht : there ((F.k3 : Int) - 40587) := by unfold there; omega
    obtain ⟨y, mo, d, hd⟩ := date_ex _ ht
    have h2 := ref26_read_ok s F hF hB hd
    have h3 := nist_told (F.k3 : Int) F.k10 F.k11 F.k12 F.v F.b F.k4 F.k5 F.k6 F.k7 F.k8 F.k9 (by omega) (by omega) (by omega) (by omega) hd
    unfold FM.rd at h1
    rw [h3] at h1
    by_cases c : tldE y mo d F.k4 F.k5 F.k6 F.k7 F.k8 F.k9 F.k11 = 0
    · rw [c, if_pos rfl] at h1 h2
      exact Or.inr ⟨⟨(F.k3 : Int) - 40587, ((F.k7 : Int) * 60 + F.k8) * 60 + F.k9, F.k10, F.k11, F.k12, F.v, F.b⟩, h1, h2⟩
    · rw [if_neg c] at h1 h2
      exact Or.inl ⟨_, c, h1, h2⟩
  · exact Or.inl ⟨2, by decide, nist_read_bad s hs h, ref26_read_bad s hs h⟩
theorem nist_parses (s : ByteArray) (l : List (Int × Int)) (u e : Int) : g_law26_NistParses ((), ((s, ()), (tb l u e, ()))) = some ((), ((true, ()), ())) := by
  have hdoc : ∀ x, g_law26_Document ((), (x, ())) = some ((), (x, ())) := fun x => rfl
  simp only [g_law26_NistParses, f_law26_NistParses_m, nist_alive, g_law10_Long, f_law10_Long_m, fitsS_dec, Option.bind_some, Option.isNone_none, Option.isNone_some, Option.isSome_none, Option.isSome_some, Bool.not_true, Bool.not_false, cond_true, cond_false, cond_dec, beq_int, bne_int, not_dec, gt_iff_lt]
  by_cases c0 : 200 < s.size
  · rw [if_pos (by omega)]
  rw [if_neg (by omega)]
  by_cases c1 : 296 < l.length
  · rw [if_pos (by omega)]
  rw [if_neg (by omega)]
  have hm := made l (by omega) u e
  have hc := ref10_check l u e
  rcases nist_both s (by omega) with ⟨er, he, h1, h2⟩ | ⟨q, h1, h2⟩
  · have hn : g_hnum_Num ((), ((errOf er, ()), ())) = some ((), ((er, ()), ())) := num_num er
    simp only [h1, h2, hdoc, hn, hm, hc, fitsS_dec, Option.bind_some, Option.isNone_none, Option.isNone_some, Option.isSome_none, Option.isSome_some, Bool.not_true, Bool.not_false, cond_true, cond_false, cond_dec, beq_int, bne_int, not_dec]
    by_cases c : tErr l u e = 0
    · simp only [g_nist_ParseBy, f_nist_ParseBy_m, h1, hdoc, hn, errOf_none, c, he, fitsS_dec, Option.bind_some, Option.isNone_none, Option.isNone_some, Option.isSome_none, Option.isSome_some, Bool.not_true, Bool.not_false, cond_true, cond_false, cond_dec, beq_int, bne_int, not_dec]
      simp [he, hn]
    · simp [c]
  · have hn : g_hnum_Num ((), ((none, ()), ())) = some ((), ((0, ()), ())) := num_num 0
    have hn12 : g_hnum_Num ((), ((some 12, ()), ())) = some ((), ((12, ()), ())) := num_num 12
    simp only [NL.t] at h1 h2
    simp only [h1, h2, hdoc, hn, hm, hc, fitsS_dec, Option.bind_some, Option.isNone_none, Option.isNone_some, Option.isSome_none, Option.isSome_some, Bool.not_true, Bool.not_false, cond_true, cond_false, cond_dec, beq_int, bne_int, not_dec]
    by_cases c : tErr l u e = 0
    · obtain ⟨hg, _, _⟩ := good_of c
      obtain ⟨k, hk, hb⟩ := behind hg u e q.n
      have h6 := table_has hg u e hk hb q.s
      have h7 := np_ref12_has hg u e q.n q.s hk
      simp only [g_nist_ParseBy, f_nist_ParseBy_m, h1, hdoc, hn, c, if_true, h6, h7, hn12, fitsS_dec, Option.bind_some, Option.isNone_none, Option.isNone_some, Option.isSome_none, Option.isSome_some, Bool.not_true, Bool.not_false, cond_true, cond_false, cond_dec, beq_int, bne_int, not_dec]
      by_cases c2 : 0 ≤ q.s ∧ q.s < 86400 + leapV l q.n k
      · simp [c2, hn]
      · simp [c2, hn12]
    · simp [c]
end Go.Proofs.YticfncahnhbhbaaGreat.Ev
