/- The law IsoParses, plain. -/
import Derived.Test.YtignndakgibpaaaGreatPuIsoM
import Derived.Test.YtignndakgibpaaaGreatPuLeap2
namespace Go.Proofs.YtignndakgibpaaaGreat.Ev
open Go
set_option linter.unusedVariables false
set_option linter.unusedSimpArgs false
theorem ip_ref12_has {l : List (Int × Int)} (h : GoodT l) (u e n s : Int) {k : Nat} (hk : Cnt l n k) : g_ref12_Has ((), (tb l u e, ((n, ()), ((s, ()), ())))) = some ((), ((decide (0 ≤ s ∧ s < 86400 + leapV l n k), ()), ())) := by
  have hr := leapV_range h n k
  simp only [g_ref12_Has, f_ref12_Has_m, ref10_leap h u e n hk, fitsS_dec, Option.bind_some, Option.isNone_none, Option.isNone_some, Option.isSome_none, Option.isSome_some, Bool.not_true, Bool.not_false, cond_true, cond_false, cond_dec, beq_int, bne_int, not_dec, ge_iff_le]
  rw [iadd_i64 (by omega)]
  by_cases c : 0 ≤ s
  · simp [c]
  · simp [c]
theorem iso_both (s : ByteArray) (hs : s.size ≤ 1000000) : (∃ e : Int, e ≠ 0 ∧ g_iso_Parse ((), ((s, ()), ())) = some ((), (zli, ((errOf e, ()), ()))) ∧ g_ref24_Parse ((), ((s, ()), ())) = some ((), (zli, ((e, ()), ())))) ∨
    (∃ l : Lab, labErr l = 0 ∧ g_iso_Parse ((), ((s, ()), ())) = some ((), (l.t, ((none, ()), ()))) ∧ g_ref24_Parse ((), ((s, ()), ())) = some ((), (l.t, ((0, ()), ())))) := by
  have hp := iso_parse s hs
  rcases ref24_parse s hs with ⟨f, g1, g2, g3, g4, h⟩ | ⟨hn, h⟩
  · have hx := iso_forth s.size f g1 g2 g3
    rw [← g4] at hx
    have hlab : (ipX s.size (bytesOf s)).lab = ⟨val10 f.Y, val10 f.M, val10 f.D, val10 f.H, val10 f.I, val10 f.S, nanoF f.F, f.o⟩ := by rw [hx]; rfl
    have he : (ipX s.size (bytesOf s)).err = finE ⟨val10 f.Y, val10 f.M, val10 f.D, val10 f.H, val10 f.I, val10 f.S, nanoF f.F, f.o⟩ f.F f.ok := by
      unfold IP.err
      rw [hlab, hx]
      unfold finE
      simp only [X.end, if_true, ne_eq, not_true_eq_false, if_false]
    rw [he, hlab] at hp
    unfold finR at h
    generalize (⟨val10 f.Y, val10 f.M, val10 f.D, val10 f.H, val10 f.I, val10 f.S, nanoF f.F, f.o⟩ : Lab) = l at hp h
    by_cases c : finE l f.F f.ok = 0
    · rw [c, if_pos rfl] at hp h
      refine Or.inr ⟨l, ?_, hp, h⟩
      unfold finE at c
      by_cases c1 : 9 < f.F.length
      · rw [if_pos c1] at c; cases c
      · rw [if_neg c1] at c
        by_cases c2 : f.ok = false
        · rw [if_pos c2] at c; cases c
        · rw [if_neg c2] at c; exact c
    · rw [if_neg c] at hp h
      exact Or.inl ⟨_, c, hp, h⟩
  · have he : (ipX s.size (bytesOf s)).err = 2 := by
      unfold IP.err
      rw [if_pos]
      intro q
      exact hn (iso_backF q)
    rw [he, if_neg (by decide)] at hp
    exact Or.inl ⟨2, by decide, hp, h⟩
theorem iso_parses (s : ByteArray) (l : List (Int × Int)) (u e : Int) : g_law24_IsoParses ((), ((s, ()), (tb l u e, ()))) = some ((), ((true, ()), ())) := by
  simp only [g_law24_IsoParses, f_law24_IsoParses_m, iso_alive, g_law10_Long, f_law10_Long_m, fitsS_dec, Option.bind_some, Option.isNone_none, Option.isNone_some, Option.isSome_none, Option.isSome_some, Bool.not_true, Bool.not_false, cond_true, cond_false, cond_dec, beq_int, bne_int, not_dec, gt_iff_lt]
  by_cases c0 : 200 < s.size
  · rw [if_pos (by omega)]
  rw [if_neg (by omega)]
  by_cases c1 : 296 < l.length
  · rw [if_pos (by omega)]
  rw [if_neg (by omega)]
  have hm := made l (by omega) u e
  have hc := ref10_check l u e
  rcases iso_both s (by omega) with ⟨er, he, h1, h2⟩ | ⟨q, hq, h1, h2⟩
  · have hn : g_hnum_Num ((), ((errOf er, ()), ())) = some ((), ((er, ()), ())) := num_num er
    simp only [h1, h2, document, hn, hm, hc, g_iso_Valid, f_iso_Valid_m, fitsS_dec, Option.bind_some, Option.isNone_none, Option.isNone_some, Option.isSome_none, Option.isSome_some, Bool.not_true, Bool.not_false, cond_true, cond_false, cond_dec, beq_int, bne_int, not_dec]
    by_cases c : tErr l u e = 0
    · simp only [g_iso_ParseBy, f_iso_ParseBy_m, h1, document, hn, errOf_none, c, he, fitsS_dec, Option.bind_some, Option.isNone_none, Option.isNone_some, Option.isSome_none, Option.isSome_some, Bool.not_true, Bool.not_false, cond_true, cond_false, cond_dec, beq_int, bne_int, not_dec]
      simp [he, hn]
    · simp [c, he, errOf_none]
  · have hn : g_hnum_Num ((), ((none, ()), ())) = some ((), ((0, ()), ())) := num_num 0
    have hn12 : g_hnum_Num ((), ((some 12, ()), ())) = some ((), ((12, ()), ())) := num_num 12
    have s1 := label_split q
    have s2 := ref08_split q
    rw [hq] at s1 s2
    simp only [Lab.t, if_true, errOf_zero] at h1 h2 s1 s2
    simp only [h1, h2, document, hn, hm, hc, g_iso_Valid, f_iso_Valid_m, fitsS_dec, Option.bind_some, Option.isNone_none, Option.isNone_some, Option.isSome_none, Option.isSome_some, Bool.not_true, Bool.not_false, cond_true, cond_false, cond_dec, beq_int, bne_int, not_dec]
    by_cases c : tErr l u e = 0
    · obtain ⟨hg, _, _⟩ := good_of c
      obtain ⟨k, hk, hb⟩ := behind hg u e (labN q)
      have h6 := table_has hg u e hk hb (labS q)
      have h7 := ip_ref12_has hg u e (labN q) (labS q) hk
      simp only [g_iso_ParseBy, f_iso_ParseBy_m, g_scale_Listed, f_scale_Listed_m, h1, s1, s2, document, hn, c, if_true, h6, h7, hn12, fitsS_dec, Option.bind_some, Option.isNone_none, Option.isNone_some, Option.isSome_none, Option.isSome_some, Bool.not_true, Bool.not_false, cond_true, cond_false, cond_dec, beq_int, bne_int, not_dec]
      by_cases c2 : 0 ≤ labS q ∧ labS q < 86400 + leapV l (labN q) k
      · simp [c2, hn]
      · simp [c2, hn12]
    · simp [c]
end Go.Proofs.YtignndakgibpaaaGreat.Ev
