/- The law IsoBack, plain. -/
import Derived.Test.YtignndakgibpaaaDoorPuIsoB
namespace Go.Proofs.YtignndakgibpaaaDoor.Ev
open Go
set_option linter.unusedVariables false
set_option linter.unusedSimpArgs false
/-- What is parsed is right, and its year is not below 0. -/
theorem parse_right {s : ByteArray} (h : (ipX s.size (bytesOf s)).err = 0) : labErr (ipX s.size (bytesOf s)).lab = 0 ∧ 0 ≤ (ipX s.size (bytesOf s)).lab.y := by
  have h0 := h
  unfold IP.err at h
  by_cases c1 : (ipX s.size (bytesOf s)).e.end ≠ none
  · rw [if_pos c1] at h; cases h
  rw [if_neg c1] at h
  by_cases c2 : 9 < (ipX s.size (bytesOf s)).f.length
  · rw [if_pos c2] at h; cases h
  rw [if_neg c2] at h
  by_cases c3 : (ipX s.size (bytesOf s)).ok = false
  · rw [if_pos c3] at h; cases h
  rw [if_neg c3] at h
  refine ⟨h, ?_⟩
  obtain ⟨f, g, p, z, e⟩ := iso_backF (n := s.size) (B := bytesOf s) (Decidable.not_not.1 c1)
  have hX := iso_forth s.size f g p z
  rw [← e] at hX
  rw [hX]
  exact (val10_range 4 f.Y g.1.2 g.1.1).1
theorem back_half (s : ByteArray) (hs : s.size ≤ 200) : (∃ e : Int, e ≠ 0 ∧ g_iso_Parse ((), ((s, ()), ())) = some ((), (zli, ((some e, ()), ())))) ∨
    ∃ (x : Lab) (t : ByteArray), g_iso_Parse ((), ((s, ()), ())) = some ((), (x.t, ((none, ()), ()))) ∧ g_iso_Short ((), (x.t, ())) = some ((), ((t, ()), ((none, ()), ()))) ∧ g_iso_Parse ((), ((t, ()), ())) = some ((), (x.t, ((none, ()), ()))) := by
  have hp := iso_parse s (by omega)
  by_cases h : (ipX s.size (bytesOf s)).err = 0
  · obtain ⟨h1, h2⟩ := parse_right h
    rw [h, if_pos rfl, errOf_zero] at hp
    have c : inNano (ipX s.size (bytesOf s)).lab.n := (lab_facts h1).2.2.2.2.2.1
    obtain ⟨n1, n2, n3⟩ := nine_f c _ (rtl_le _ 9) (nine_few c)
    exact Or.inr ⟨_, _, hp, iso_short h1 h2, iso_round h1 h2 n1 n2 n3⟩
  · rw [if_neg h, errOf_pos h] at hp
    exact Or.inl ⟨_, h, hp⟩
theorem iso_back (l : Lab) (s : ByteArray) : g_law24_IsoBack ((), (l.t, ((s, ()), ()))) = some ((), ((true, ()), ())) := by
  simp only [g_law24_IsoBack, f_law24_IsoBack_m, iso_alive, fitsS_dec, Option.bind_some, Option.isNone_none, Option.isNone_some, Option.isSome_none, Option.isSome_some, Bool.not_true, Bool.not_false, cond_true, cond_false, cond_dec, beq_int, bne_int, not_dec, not_true_eq_false, if_false, gt_iff_lt, Lab.t]
  by_cases c : 200 < (s.size : Int)
  · rw [if_pos c]
  rw [if_neg c]
  by_cases h : putI l 9 = 0
  · obtain ⟨h1, h2, h3, _⟩ := putI_zero h
    have hput := iso_put h
    have hsh := iso_short h1 h2
    obtain ⟨n1, n2, n3⟩ := nine_f h3 9 (by omega) (nine_all h3)
    have r1 := iso_round h1 h2 n1 n2 n3
    obtain ⟨m1, m2, m3⟩ := nine_f h3 _ (rtl_le _ 9) (nine_few h3)
    have r2 := iso_round h1 h2 m1 m2 m3
    simp only [Lab.t, show Int.toNat 9 = 9 from rfl] at hput hsh r1 r2
    simp only [hput, hsh, r1, r2, fitsS_dec, Option.bind_some, Option.isNone_none, Option.isNone_some, Option.isSome_none, Option.isSome_some, Bool.not_true, Bool.not_false, cond_true, cond_false, cond_dec, beq_int, bne_int, not_dec, decide_true, Bool.and_true, not_true_eq_false, if_false]
    rcases back_half s (by omega) with ⟨e, he, hp⟩ | ⟨x, t, hp, ht, hq⟩
    · simp only [hp, zli, fitsS_dec, Option.bind_some, Option.isNone_none, Option.isNone_some, Option.isSome_none, Option.isSome_some, Bool.not_true, Bool.not_false, cond_true, cond_false, cond_dec, beq_int, bne_int, not_dec]; first | done | simp
    · simp only [Lab.t] at hp ht hq
      simp only [hp, ht, hq, fitsS_dec, Option.bind_some, Option.isNone_none, Option.isNone_some, Option.isSome_none, Option.isSome_some, Bool.not_true, Bool.not_false, cond_true, cond_false, cond_dec, beq_int, bne_int, not_dec]; first | done | simp
  · have hput := iso_put_bad h
    simp only [Lab.t] at hput
    rw [errOf_pos h] at hput
    simp only [hput, fitsS_dec, Option.bind_some, Option.isNone_none, Option.isNone_some, Option.isSome_none, Option.isSome_some, Bool.not_true, Bool.not_false, cond_true, cond_false, cond_dec, beq_int, bne_int, not_dec]
    rcases back_half s (by omega) with ⟨e, he, hp⟩ | ⟨x, t, hp, ht, hq⟩
    · simp only [hp, zli, fitsS_dec, Option.bind_some, Option.isNone_none, Option.isNone_some, Option.isSome_none, Option.isSome_some, Bool.not_true, Bool.not_false, cond_true, cond_false, cond_dec, beq_int, bne_int, not_dec]; first | done | simp
    · simp only [Lab.t] at hp ht hq
      simp only [hp, ht, hq, fitsS_dec, Option.bind_some, Option.isNone_none, Option.isNone_some, Option.isSome_none, Option.isSome_some, Bool.not_true, Bool.not_false, cond_true, cond_false, cond_dec, beq_int, bne_int, not_dec]; first | done | simp
end Go.Proofs.YtignndakgibpaaaDoor.Ev
