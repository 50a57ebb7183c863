/- The fractions of any nanoseconds, and the nanoseconds of any fractions, long and short, are what the document says: for every input, without a condition. -/
import Derived.Test.YtecilflgjakhcaaPStampFractionsx3
namespace Go.Proofs.Ytecilflgjakhcaa.Pure
open Go.RowKit Go.Proofs.Ytecilflgjakhcaa.PStampFractions Go.Proofs.YtecilflgjakhcaaW.PrintWords Go.Proofs.YtecilflgjakhcaaW.PrintLast

theorem sf_alive : horologelaw15_alive.f = some true := by decide +kernel

theorem u64_id (x : Int) (h0 : 0 ≤ x) (h1 : x ≤ 18446744073709551615) : IntKind.u64.wrap x = x := IntWalk.u64_in x ⟨h0, h1⟩
theorem i64_id (x : Int) (h0 : 0 ≤ x) (h1 : x ≤ 9223372036854775807) : wrap64 x = x := IntWalk.wrap64_in x ⟨by omega, h1⟩

theorem sf_nano (f : Int) (h0 : 0 ≤ f) (h1 : f ≤ 4294967295) : stamp_Nano.f f = some (f * 1000000000 / 4294967296) := by
  unfold stamp_Nano.f
  rw [u64_id f (by omega) (by omega), u64_id _ (by omega) (by omega), i64_id _ (by omega) (by omega)]

theorem sf_whole (n f P : Int) (hn0 : 0 ≤ n) (hn1 : n ≤ 1000000000) (hf0 : 0 ≤ f) (hf1 : f ≤ 4294967295)
    (hP : P = 4294967296 ∨ P = 65536) (h : n = f * 1000000000 / P) : horologeref15_Whole.f n f P = some true := by
  unfold horologeref15_Whole.f
  rcases hP with rfl | rfl
  · rw [u64_id (n + 1) (by omega) (by omega), u64_id (n * 4294967296) (by omega) (by omega), u64_id (f * 1000000000) (by omega) (by omega), u64_id _ (by omega) (by omega), if_pos (by omega)]; simp; omega
  · rw [u64_id (n + 1) (by omega) (by omega), u64_id (n * 65536) (by omega) (by omega), u64_id (f * 1000000000) (by omega) (by omega), u64_id _ (by omega) (by omega), if_pos (by omega)]; simp; omega

theorem sf_span (s f : Int) (hs0 : 0 ≤ s) (hs1 : s ≤ 65535) (hf0 : 0 ≤ f) (hf1 : f ≤ 65535) :
    stamp_Span.f s f = some (s, f * 1000000000 / 65536) := by
  unfold stamp_Span.f
  rw [u64_id f (by omega) (by omega), u64_id _ (by omega) (by omega), i64_id s (by omega) (by omega), i64_id _ (by omega) (by omega)]

theorem sf_is (e : Option Int) (n : Int) (hn : n ≠ 0) (h : e = some n) : horologenum_Is.f e n = some true := by
  subst h
  simp [horologenum_Is.f, horologenum_Num.f, hn]

theorem sf_right (n : Int) : stamp_right.f n = some (decide (0 ≤ n ∧ n < 1000000000)) := by
  unfold stamp_right.f
  by_cases h : n ≥ 0
  · rw [if_pos h]; simp; omega
  · rw [if_neg h]; simp; omega

theorem sf_frac_ok (n : Int) (h0 : 0 ≤ n) (h1 : n ≤ 999999999) :
    stamp_Fraction.f n = some ((n * 4294967296 + 999999999) / 1000000000, none) := by
  unfold stamp_Fraction.f
  rw [sf_right]
  simp only [Option.bind_some]
  rw [if_pos (by simp; omega)]
  rw [u64_id n (by omega) (by omega), u64_id (n * 4294967296) (by omega) (by omega), u64_id (n * 4294967296 + 1000000000) (by omega) (by omega),
    u64_id (n * 4294967296 + 1000000000 - 1) (by omega) (by omega), Int.tdiv_eq_ediv_of_nonneg (by omega), u64_id _ (by omega) (by omega)]
  rw [show n * 4294967296 + 1000000000 - 1 = n * 4294967296 + 999999999 by omega, Int.emod_eq_of_lt (by omega) (by omega)]

theorem sf_frac_bad (n : Int) (h : n < 0 ∨ 999999999 < n) : stamp_Fraction.f n = some (0, some 1) := by
  unfold stamp_Fraction.f
  rw [sf_right]
  simp only [Option.bind_some]
  rw [if_neg (by simp; omega)]

theorem sf_least (x n : Int) (h0 : 0 ≤ n) (h1 : n ≤ 999999999) (hx : x = (n * 4294967296 + 999999999) / 1000000000) :
    horologeref15_Least.f x 4294967296 n = some true := by
  unfold horologeref15_Least.f
  rw [u64_id (x * 1000000000) (by omega) (by omega), u64_id (n * 4294967296) (by omega) (by omega), if_pos (by omega)]
  by_cases hz : x = 0
  · rw [if_pos hz]
  · rw [if_neg hz, u64_id (x - 1) (by omega) (by omega), u64_id _ (by omega) (by omega)]; simp; omega

theorem sf_short_ok (s n : Int) (hs0 : 0 ≤ s) (hs1 : s ≤ 65535) (h0 : 0 ≤ n) (h1 : n ≤ 999999999) :
    stamp_ShortOf.f s n = some (s, n * 65536 / 1000000000, none) := by
  unfold stamp_ShortOf.f
  rw [if_neg (by omega), if_neg (by omega), sf_right]
  simp only [Option.bind_some]
  rw [if_pos (by simp; omega)]
  rw [u64_id n (by omega) (by omega), u64_id (n * 65536) (by omega) (by omega), Int.tdiv_eq_ediv_of_nonneg (by omega),
    u64_id _ (by omega) (by omega), IntWalk.u16_in s (by omega), IntWalk.u16_in _ (by omega)]

theorem sf_short_bad (s n : Int) (h : s < 0 ∨ 65535 < s ∨ n < 0 ∨ 999999999 < n) :
    stamp_ShortOf.f s n = some (0, 0, some 1) := by
  unfold stamp_ShortOf.f
  by_cases a : s < 0
  · rw [if_pos a]
  rw [if_neg a]
  by_cases b : s > 65535
  · rw [if_pos b]
  rw [if_neg b, sf_right]
  simp only [Option.bind_some]
  rw [if_neg (by simp; omega)]

theorem sf_within (f n : Int) (h0 : 0 ≤ n) (h1 : n ≤ 999999999) (hf : f = n * 65536 / 1000000000) :
    horologeref15_Within.f f 65536 n = some true := by
  unfold horologeref15_Within.f
  rw [u64_id (f + 1) (by omega) (by omega), u64_id (f * 1000000000) (by omega) (by omega), u64_id (n * 65536) (by omega) (by omega),
    u64_id _ (by omega) (by omega), if_pos (by omega)]
  simp; omega

theorem sf_j3 (n s : Int) (h0 : 0 ≤ n) (h1 : n ≤ 999999999) (e : Option Int) (p q : Int)
    (h : stamp_ShortOf.f s n = some (p, q, e)) : horologelaw15_StampFractions.j3 2 n s e false p q = some true := by
  simp only [horologelaw15_StampFractions.j3, horologelaw15_StampFractions.j4]
  rw [if_neg (by simp)]
  by_cases hs : 0 ≤ s ∧ s ≤ 65535
  · rw [sf_short_ok s n hs.1 hs.2 h0 h1] at h
    simp only [Option.some.injEq, Prod.mk.injEq] at h
    obtain ⟨rfl, rfl, rfl⟩ := h
    rw [if_neg (by omega), if_neg (by simp; omega), if_pos (by rfl), if_pos (by unfold wrap64; omega)]
    rw [u64_id _ (by omega) (by omega), u64_id _ (by omega) (by omega), sf_within _ _ h0 h1 rfl]
    rfl
  · rw [sf_short_bad s n (by omega)] at h
    simp only [Option.some.injEq, Prod.mk.injEq] at h
    obtain ⟨rfl, rfl, rfl⟩ := h
    by_cases hs' : s < 0
    · rw [if_pos hs', if_pos trivial, if_pos (by rfl), sf_is _ 1 (by decide) rfl]; rfl
    · rw [if_neg hs', if_pos (by simp; omega), if_pos (by rfl), sf_is _ 1 (by decide) rfl]; rfl

theorem StampFractions : horologelaw15_StampFractions.Pure := by
  intro n s f hn hs hf
  have hf' : 0 ≤ f ∧ f ≤ 4294967295 := by
    simp only [Lit.wf, Bool.and_eq_true, decide_eq_true_eq] at hf
    exact ⟨by simpa [IntKind.min, IntKind.signed] using hf.1, by simpa [IntKind.max, IntKind.signed, IntKind.bits] using hf.2⟩
  obtain ⟨f0, f1⟩ := hf'
  refine ⟨5, ?_⟩
  unfold horologelaw15_StampFractions.f
  rw [sf_alive]
  simp only [Option.bind_some, if_true]
  rw [sf_nano f f0 f1]
  simp only [Option.bind_some]
  rw [if_neg (by omega), u64_id _ (by omega) (by omega), u64_id _ (by omega) (by omega),
    sf_whole _ f 4294967296 (by omega) (by omega) f0 f1 (.inl rfl) rfl]
  simp only [Option.bind_some, Bool.not_true]
  simp only [horologelaw15_StampFractions.j0]
  rw [if_neg (by simp), IntWalk.u16_in (f / 65536) (by omega), show IntKind.u16.wrap f = f % 65536 from IntKind.wrap_u16 f,
    sf_span _ _ (by omega) (by omega) (by omega) (by omega)]
  simp only [Option.bind_some]
  rw [if_pos (by unfold wrap64; omega), if_neg (by omega), u64_id _ (by omega) (by omega),
    Int.tmod_eq_emod_of_nonneg f0, u64_id (f % 65536) (by omega) (by omega),
    sf_whole _ (f % 65536) 65536 (by omega) (by omega) (by omega) (by omega) (.inr rfl) rfl]
  simp only [Option.bind_some, Bool.not_true]
  simp only [horologelaw15_StampFractions.j1]
  rw [if_neg (by simp)]
  by_cases h : 0 ≤ n ∧ n ≤ 999999999
  · obtain ⟨h0, h1⟩ := h
    rw [sf_frac_ok n h0 h1]
    simp only [Option.bind_some]
    obtain ⟨⟨p, q, e⟩, hsh⟩ : ∃ r, stamp_ShortOf.f s n = some r := by
      by_cases hs' : 0 ≤ s ∧ s ≤ 65535
      · exact ⟨_, sf_short_ok s n hs'.1 hs'.2 h0 h1⟩
      · exact ⟨_, sf_short_bad s n (by omega)⟩
    rw [hsh]
    simp only [Option.bind_some]
    rw [if_neg (by omega)]
    simp only [horologelaw15_StampFractions.j2]
    rw [if_neg (by simp; omega), if_pos (by rfl), u64_id _ (by omega) (by omega), u64_id n (by omega) (by omega),
      sf_least _ n h0 h1 rfl]
    simp only [Option.bind_some, Bool.not_true]
    exact sf_j3 n s h0 h1 e p q hsh
  · rw [sf_frac_bad n (by omega), sf_short_bad s n (by omega)]
    simp only [Option.bind_some]
    by_cases h' : n < 0
    · rw [if_pos h']
      simp only [horologelaw15_StampFractions.j2]
      rw [if_pos trivial, if_pos trivial, if_pos (by rfl), sf_is _ 1 (by decide) rfl]
      simp
    · rw [if_neg h']
      simp only [horologelaw15_StampFractions.j2]
      rw [if_pos (by simp; omega), if_pos trivial, if_pos (by rfl), sf_is _ 1 (by decide) rfl]
      simp

end Go.Proofs.Ytecilflgjakhcaa.Pure
