/- ISO instants: both readers agree. -/
import Derived.Test.YtignndakgibpaaaGreatPuIsoK
namespace Go.Proofs.YtignndakgibpaaaGreat.Ev
open Go
set_option linter.unusedVariables false
set_option linter.unusedSimpArgs false
theorem isZ_head {Z : List Int} {o : Int} {ok : Bool} (h : isZ Z o ok) : lead Z = 0 ∧ ∀ r, Z ≠ 46 :: r := by
  rcases h with ⟨hz | hz, _⟩ | ⟨g, H, M, hz, hg, _⟩
  · subst hz; exact ⟨by decide, fun r q => by cases q⟩
  · subst hz; exact ⟨by decide, fun r q => by cases q⟩
  · subst hz
    have hn : ¬ isF g := by unfold isF; omega
    exact ⟨by simp only [lead, if_neg hn], fun r q => by
      have := (List.cons.inj q).1
      omega⟩
/-- What the reference tells of any text. -/
def refI (s : ByteArray) : Prop :=
  (∃ f : IF, f.good ∧ isP f.R f.F f.Z ∧ isZ f.Z f.o f.ok ∧ bytesOf s = f.L ∧ g_ref24_Parse ((), ((s, ()), ())) = finR ⟨val10 f.Y, val10 f.M, val10 f.D, val10 f.H, val10 f.I, val10 f.S, nanoF f.F, f.o⟩ f.F f.ok) ∨
    ((¬ ∃ f : IF, f.good ∧ isP f.R f.F f.Z ∧ isZ f.Z f.o f.ok ∧ bytesOf s = f.L) ∧ g_ref24_Parse ((), ((s, ()), ())) = some ((), (zli, ((2, ()), ()))))
theorem drop19 (f : IF) (hg : f.good) : f.L.drop 19 = f.R := by
  obtain ⟨⟨_, y4⟩, ⟨_, m2⟩, ⟨_, d2⟩, ⟨_, h2⟩, ⟨_, i2⟩, ⟨_, s2⟩, _⟩ := hg
  obtain ⟨a, b, c, d, e1⟩ := l4 y4
  obtain ⟨e, g, e2⟩ := l2 m2
  obtain ⟨j, k, e3⟩ := l2 d2
  obtain ⟨l, m, e4⟩ := l2 h2
  obtain ⟨n, o, e5⟩ := l2 i2
  obtain ⟨p, q, e6⟩ := l2 s2
  unfold IF.L
  rw [e1, e2, e3, e4, e5, e6]; rfl
theorem same_R {s : ByteArray} {f f0 : IF} (hg : f.good) (hB : bytesOf s = f.L) (hh : headed (bytesOf s) f0) : f.R = f0.R := by
  rw [← drop19 f hg, ← hB, hh.2, drop19 f0 hh.1]
theorem ref24_key (s : ByteArray) (f0 : IF) (hh : headed (bytesOf s) f0) (F Z : List Int) (hp : isP f0.R F Z) (hF : ∀ y ∈ F, isF y) (hZ : okBy Z) (hFl : F.length ≤ 1000000) (hZl : Z.length ≤ 1000000)
    (hk : ∀ k, f_ref24_Parse_m (f_ref24_Parse_t k) ((), ((s, ()), ())) = (f_ref24_Parse_t k).1 ((zli, (zli, ((val10 f0.Y, (val10 f0.M, (val10 f0.D, (val10 f0.H, (val10 f0.I, (val10 f0.S, (0, (0, ())))))))), ()))), ((), ((), ((), ((strOf Z, ()), ((strOf F, ()), ((true, ()), ()))))))))
    (hu : ∀ F' Z', isP f0.R F' Z' → Z' = Z) : refI s := by
  obtain ⟨z1, z2⟩ := zone15 (val10 f0.Y) (val10 f0.M) (val10 f0.D) (val10 f0.H) (val10 f0.I) (val10 f0.S) F Z hF hFl hZ hZl
  by_cases c : ∃ o ok, isZ Z o ok
  · obtain ⟨o, ok, hz⟩ := c
    refine Or.inl ⟨⟨f0.Y, f0.M, f0.D, f0.H, f0.I, f0.S, F, Z, f0.t, o, ok, f0.R⟩, hh.1, hp, hz, hh.2, ?_⟩
    exact ((z1 o ok hz).cast hk).lim
  · refine Or.inr ⟨?_, ((z2 c).cast hk).lim⟩
    rintro ⟨f, g1, g2, g3, g4⟩
    rw [same_R g1 g4 hh] at g2
    rw [hu f.F f.Z g2] at g3
    exact c ⟨_, _, g3⟩
theorem isP_uniq {R F Z F' Z' : List Int} (h : isP R F Z) (h' : isP R F' Z') : Z' = Z := by
  rcases h with ⟨_, rfl, a3⟩ | ⟨a1, a2, rfl, a4⟩
  · rcases h' with ⟨_, b2, _⟩ | ⟨_, _, b3, _⟩
    · exact b2.symm
    · exact absurd b3 (a3 _)
  · rcases h' with ⟨_, _, b3⟩ | ⟨b1, b2, b3, b4⟩
    · exact absurd rfl (b3 _)
    · have e := (List.cons.inj b3).2
      have l1 : lead (F ++ Z) = F.length := by rw [sl_app F Z a2, a4]; omega
      have l2' : lead (F' ++ Z') = F'.length := by rw [sl_app F' Z' b2, b4]; omega
      rw [e, l2'] at l1
      have := congrArg (List.drop F.length) e
      rw [List.drop_left, ← l1, List.drop_left] at this
      exact this.symm
theorem ref24_parse (s : ByteArray) (hs : s.size ≤ 1000000) : refI s := by
  by_cases hfit : 19 ≤ (bytesOf s).length ∧ fits iSh (bytesOf s)
  · obtain ⟨f0, hh, hR, _⟩ := fits_head hfit.1 hfit.2 [] [] 0 true
    have hgo := ref24_go s hs f0 hh
    have hoR : okBy f0.R := fun x hx => by_ok s x (by rw [hh.2]; unfold IF.L; simp [hx])
    have hlR : f0.R.length ≤ 1000000 := by have := (cut19 hh).sz; omega
    have plain : (∀ r, f0.R ≠ 46 :: r) → isP f0.R [] f0.R := fun h => Or.inl ⟨rfl, rfl, h⟩
    cases hc : f0.R with
    | nil =>
      rw [hc] at hgo
      have hp := plain (fun r q => by rw [hc] at q; cases q)
      refine ref24_key s f0 hh [] f0.R hp (fun y hy => by cases hy) hoR (by simp) hlR (fun k => ?_) (fun F' Z' h' => isP_uniq hp h')
      rw [hgo k, hc]
    | cons x r =>
      rw [hc] at hgo
      by_cases c46 : x = 46
      · subst c46
        by_cases c0 : lead r = 0
        · refine Or.inr ⟨?_, ?_⟩
          · rintro ⟨f, g1, g2, g3, g4⟩
            rw [same_R g1 g4 hh, hc] at g2
            rcases g2 with ⟨_, _, b3⟩ | ⟨b1, b2, b3, b4⟩
            · exact b3 r rfl
            · have e := (List.cons.inj b3).2
              rw [e, sl_app f.F f.Z b2, b4] at c0
              exact b1 (List.length_eq_zero_iff.1 (by omega))
          · refine (Evn.const fun k => ?_).lim
            rw [hgo k]
            simp only [if_true, c0]
        · have hor : okBy r := fun y hy => hoR y (by rw [hc]; exact List.mem_cons_of_mem _ hy)
          have hlr := lead_le r
          rw [hc, List.length_cons] at hlR
          have hp : isP f0.R (r.take (lead r)) (r.drop (lead r)) := by
            rw [hc]
            refine Or.inr ⟨?_, sc_lead_figs (Nat.le_refl _), by rw [List.take_append_drop], lead_drop r⟩
            intro q
            have := congrArg List.length q
            rw [List.length_take] at this
            simp only [List.length_nil] at this; omega
          refine ref24_key s f0 hh _ _ hp (sc_lead_figs (Nat.le_refl _)) (okBy_drop hor _) (by rw [List.length_take]; omega) (by rw [List.length_drop]; omega) (fun k => ?_) (fun F' Z' h' => isP_uniq hp h')
          rw [hgo k]
          simp only [if_true, c0, if_false]
      · have hp := plain (fun q e => by rw [hc] at e; exact c46 (List.cons.inj e).1)
        refine ref24_key s f0 hh [] f0.R hp (fun y hy => by cases hy) hoR (by simp) hlR (fun k => ?_) (fun F' Z' h' => isP_uniq hp h')
        rw [hgo k, hc]
        simp only [c46, if_false]
  · refine Or.inr ⟨?_, ?_⟩
    · rintro ⟨f, g1, g2, g3, g4⟩
      exact hfit (head_fits ⟨g1, g4⟩)
    · obtain ⟨v, hv, hf⟩ := ref24_fits iSh (bytesOf s) ish_by (by_ok s) (by rw [by_len]; exact hs)
      rw [str_by] at hf
      have hvf : v = false := by
        cases hvv : v
        · rfl
        · exact absurd (hv.1 hvv) hfit
      refine (Evn.const fun k => ?_).lim
      simp only [f_ref24_Parse_m, ish_lit, hf, hvf, fitsS_dec, Option.bind_some, Option.isNone_none, Option.isNone_some, Option.isSome_none, Option.isSome_some, Bool.not_true, Bool.not_false, cond_true, cond_false, cond_dec, beq_int, bne_int, not_dec]
end Go.Proofs.YtignndakgibpaaaGreat.Ev
