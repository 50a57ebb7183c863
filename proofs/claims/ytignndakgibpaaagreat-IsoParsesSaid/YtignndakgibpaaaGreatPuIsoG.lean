/- ISO instants: what the reference reads. -/
import Derived.Test.YtignndakgibpaaaGreatPuIsoF
namespace Go.Proofs.YtignndakgibpaaaGreat.Ev
open Go
set_option linter.unusedVariables false
set_option linter.unusedSimpArgs false
@[reducible] def L8 := Int × (Int × (Int × (Int × (Int × (Int × (Int × (Int × Unit)))))))
/-- What is told once the parts are there. -/
def finE (l : Lab) (F : List Int) (ok : Bool) : Int := if 9 < F.length then 3 else if ok = false then 1 else labErr l
def nanoF (F : List Int) : Int := if F = [] then 0 else val10 F * 10 ^ (9 - F.length)
def finR (l : Lab) (F : List Int) (ok : Bool) : Option (Unit × (L8 × ((Int × Unit) × Unit))) := some ((), (if finE l F ok = 0 then l.t else zli, ((finE l F ok, ()), ())))
theorem fin16 (y m d h i s o : Int) (F : List Int) (ok : Bool) (hF : ∀ x ∈ F, isF x) (hl : F.length ≤ 1000000) (f : Nat) :
    (f_ref24_Parse_t (f + 1)).2.2.2.1 ((zli, (zli, ((y, (m, (d, (h, (i, (s, (0, (o, ())))))))), ()))), ((), ((), ((), ((strOf F, ()), ((ok, ()), ())))))) = finR ⟨y, m, d, h, i, s, nanoF F, o⟩ F ok := by
  have hc := ref08_check ⟨y, m, d, h, i, s, nanoF F, o⟩
  simp only [Lab.t] at hc
  simp only [t_ref24_Parse, f_ref24_Parse_p16, str_size, fitsS_dec, Option.bind_some, Option.isNone_none, Option.isNone_some, Option.isSome_none, Option.isSome_some, Bool.not_true, Bool.not_false, cond_true, cond_false, cond_dec, beq_int, bne_int, not_dec, gt_iff_lt]
  unfold finR finE
  by_cases c1 : 9 < F.length
  · rw [if_pos (by omega)]; simp only [if_pos c1]; rfl
  · rw [if_neg (by omega)]
    simp only [if_neg c1]
    cases ok
    · simp
    · simp only [Bool.not_true, cond_false, Bool.true_eq_false, if_false]
      by_cases c2 : F = []
      · have hn : nanoF F = 0 := if_pos c2
        rw [hn] at hc ⊢
        rw [if_neg (by rw [c2]; simp), hc]
        simp only [Option.bind_some, bne_int, cond_dec]
        by_cases c3 : labErr ⟨y, m, d, h, i, s, 0, o⟩ = 0
        · simp [c3]
        · simp [c3]
      · have hp : 0 < F.length := List.length_pos_iff.2 c2
        have hn : nanoF F = val10 F * 10 ^ (9 - F.length) := if_neg c2
        have hfr := iso_frac_of hF c2 (by omega)
        have hR := ref02_fraction (strOf F) (by rw [str_size]; omega)
        rw [hfr.1, if_pos rfl, hfr.2, ← hn] at hR
        rw [if_pos (by omega), hR]
        simp only [Option.bind_some, hc, bne_int, cond_dec]
        by_cases c3 : labErr ⟨y, m, d, h, i, s, nanoF F, o⟩ = 0
        · simp [c3]
        · simp [c3]
/-- A zone: Z or z, or a sign and two numbers. -/
def isZ (Z : List Int) (o : Int) (ok : Bool) : Prop :=
  ((Z = [90] ∨ Z = [122]) ∧ o = 0 ∧ ok = true) ∨
  (∃ g H M, Z = g :: (H ++ (58 :: M)) ∧ (g = 43 ∨ g = 45) ∧ ((∀ y ∈ H, isF y) ∧ H.length = 2) ∧ ((∀ y ∈ M, isF y) ∧ M.length = 2) ∧ o = (if g = 45 then -(val10 H * 60 + val10 M) else val10 H * 60 + val10 M) ∧ ok = decide (val10 H < 24 ∧ val10 M < 60))
@[reducible] def zSh (c : Int) : List Int := [c, 48, 48, 58, 48, 48]
theorem zsh_fits {Z : List Int} (hl : Z.length = 6) {c : Int} (hc : c = 43 ∨ c = 45) : fits (zSh c) Z ↔ ∃ H M, Z = c :: (H ++ (58 :: M)) ∧ ((∀ y ∈ H, isF y) ∧ H.length = 2) ∧ ((∀ y ∈ M, isF y) ∧ M.length = 2) := by
  have hB := list_getA Z
  rw [hl] at hB
  have hB2 : Z = [Z.getD 0 0, Z.getD 1 0, Z.getD 2 0, Z.getD 3 0, Z.getD 4 0, Z.getD 5 0] := hB
  constructor
  · intro h
    have f : ∀ i, i < 6 → fitAt ((zSh c).getD i 0) (Z.getD i 0) := fun i hi => h i hi
    have k0 : Z.getD 0 0 = c := (lit24 (by omega) (by omega)).1 (f 0 (by decide))
    have k3 : Z.getD 3 0 = 58 := (lit24 (by decide) (by decide)).1 (f 3 (by decide))
    refine ⟨[Z.getD 1 0, Z.getD 2 0], [Z.getD 4 0, Z.getD 5 0], ?_, ⟨figs2 (fig24.1 (f 1 (by decide))) (fig24.1 (f 2 (by decide))), rfl⟩, ⟨figs2 (fig24.1 (f 4 (by decide))) (fig24.1 (f 5 (by decide))), rfl⟩⟩
    rw [k0, k3] at hB2
    exact hB2
  · rintro ⟨H, M, rfl, ⟨hH, h2⟩, ⟨hM, m2⟩⟩ i hi
    obtain ⟨e, g, rfl⟩ := l2 h2
    obtain ⟨j, k, rfl⟩ := l2 m2
    match i, hi with
    | 0, _ => exact (show fitAt c c from (lit24 (by omega) (by omega)).2 rfl)
    | 1, _ => exact fig24.2 (hH e (by simp))
    | 2, _ => exact fig24.2 (hH g (by simp))
    | 3, _ => exact (show fitAt 58 58 from (lit24 (by decide) (by decide)).2 rfl)
    | 4, _ => exact fig24.2 (hM j (by simp))
    | 5, _ => exact fig24.2 (hM k (by simp))
    | (n + 6), hi => simp at hi; omega
theorem zone15 (y m d h i s : Int) (F Z : List Int) (hF : ∀ x ∈ F, isF x) (hl : F.length ≤ 1000000) (hZ : okBy Z) (hzl : Z.length ≤ 1000000) :
    (∀ o ok, isZ Z o ok → Evn (fun f => (f_ref24_Parse_t f).1 ((zli, (zli, ((y, (m, (d, (h, (i, (s, (0, (0, ())))))))), ()))), ((), ((), ((), ((strOf Z, ()), ((strOf F, ()), ((true, ()), ())))))))) ((), (if finE ⟨y, m, d, h, i, s, nanoF F, o⟩ F ok = 0 then (⟨y, m, d, h, i, s, nanoF F, o⟩ : Lab).t else zli, ((finE ⟨y, m, d, h, i, s, nanoF F, o⟩ F ok, ()), ())))) ∧
    ((¬ ∃ o ok, isZ Z o ok) → Evn (fun f => (f_ref24_Parse_t f).1 ((zli, (zli, ((y, (m, (d, (h, (i, (s, (0, (0, ())))))))), ()))), ((), ((), ((), ((strOf Z, ()), ((strOf F, ()), ((true, ()), ())))))))) ((), (zli, ((2, ()), ())))) := by
  have l90 : (⟨#[90]⟩ : ByteArray) = strOf [90] := by kernel_rfl
  have l122 : (⟨#[122]⟩ : ByteArray) = strOf [122] := by kernel_rfl
  have lp : (⟨#[43, 48, 48, 58, 48, 48]⟩ : ByteArray) = strOf (zSh 43) := by kernel_rfl
  have lm : (⟨#[45, 48, 48, 58, 48, 48]⟩ : ByteArray) = strOf (zSh 45) := by kernel_rfl
  have q1 := str_toList_eq Z [90] hZ (ib1 (by omega))
  have q2 := str_toList_eq Z [122] hZ (ib1 (by omega))
  have o43 : okBy (zSh 43) := by intro x hx; simp only [zSh, List.mem_cons, List.not_mem_nil, or_false] at hx; omega
  have o45 : okBy (zSh 45) := by intro x hx; simp only [zSh, List.mem_cons, List.not_mem_nil, or_false] at hx; omega
  obtain ⟨vp, hvp, hfp⟩ := ref24_fits (zSh 43) Z o43 hZ hzl
  obtain ⟨vm, hvm, hfm⟩ := ref24_fits (zSh 45) Z o45 hZ hzl
  by_cases cz : Z = [90] ∨ Z = [122]
  · refine ⟨fun o ok hz => ?_, fun hn => absurd ⟨0, true, Or.inl ⟨cz, rfl, rfl⟩⟩ hn⟩
    have hz2 : o = 0 ∧ ok = true := by
      rcases hz with ⟨_, h1, h2⟩ | ⟨g, H, M, he, _, ⟨_, h2⟩, _⟩
      · exact ⟨h1, h2⟩
      · exfalso
        have := congrArg List.length he
        simp only [List.length_cons, List.length_append, h2] at this
        rcases cz with rfl | rfl <;> simp at this <;> omega
    obtain ⟨rfl, rfl⟩ := hz2
    refine Evn.some 3 fun f => ?_
    have hf := fin16 y m d h i s 0 F true hF hl f
    have e1 : f + 3 = (f + 1) + 1 + 1 := rfl
    rw [e1]
    rw [show (f_ref24_Parse_t (f + 1 + 1 + 1)) = (f_ref24_Parse_p15 (f_ref24_Parse_t (f + 1 + 1)), (f_ref24_Parse_p17 (f_ref24_Parse_t (f + 1 + 1)), (f_ref24_Parse_p19 (f_ref24_Parse_t (f + 1 + 1)), (f_ref24_Parse_p16 (f_ref24_Parse_t (f + 1 + 1)), ())))) from rfl]
    have hp17 : (f_ref24_Parse_t (f + 1 + 1)).2.1 = f_ref24_Parse_p17 (f_ref24_Parse_t (f + 1)) := rfl
    by_cases c1 : Z = [90]
    · simp only [f_ref24_Parse_p15, l90, l122, q1, q2, hp17, f_ref24_Parse_p17, fitsS_dec, Option.bind_some, Option.isNone_none, Option.isNone_some, Option.isSome_none, Option.isSome_some, Bool.not_true, Bool.not_false, cond_true, cond_false, cond_dec, beq_int, bne_int, not_dec]
      rw [if_neg (not_not_intro c1)]
      exact hf
    · have c2 := cz.resolve_left c1
      simp only [f_ref24_Parse_p15, l90, l122, q1, q2, hp17, f_ref24_Parse_p17, fitsS_dec, Option.bind_some, Option.isNone_none, Option.isNone_some, Option.isSome_none, Option.isSome_some, Bool.not_true, Bool.not_false, cond_true, cond_false, cond_dec, beq_int, bne_int, not_dec]
      rw [if_pos c1, if_neg (not_not_intro c2)]
      exact hf
  · have c1 : ¬ Z = [90] := fun q => cz (Or.inl q)
    have c2 : ¬ Z = [122] := fun q => cz (Or.inr q)
    have step : ∀ f : Nat, (f_ref24_Parse_t (f + 2)).1 ((zli, (zli, ((y, (m, (d, (h, (i, (s, (0, (0, ())))))))), ()))), ((), ((), ((), ((strOf Z, ()), ((strOf F, ()), ((true, ()), ()))))))) = (f_ref24_Parse_t f).2.2.1 ((zli, (zli, ((y, (m, (d, (h, (i, (s, (0, (0, ())))))))), ()))), ((), ((), ((), ((strOf Z, ()), ((strOf F, ()), ((if Z.length = 6 then (!vp && !vm) else true, ()), ()))))))) := fun f => by
      have hp15 : (f_ref24_Parse_t (f + 2)).1 = f_ref24_Parse_p15 (f_ref24_Parse_t (f + 1)) := rfl
      have hp17 : (f_ref24_Parse_t (f + 1)).2.1 = f_ref24_Parse_p17 (f_ref24_Parse_t f) := rfl
      rw [hp15]
      simp only [f_ref24_Parse_p15, l90, l122, q1, q2, hp17, f_ref24_Parse_p17, lp, lm, hfp, hfm, str_size, fitsS_dec, Option.bind_some, Option.isNone_none, Option.isNone_some, Option.isSome_none, Option.isSome_some, Bool.not_true, Bool.not_false, cond_true, cond_false, cond_dec, beq_int, bne_int, not_dec]
      rw [if_pos c1]
      by_cases c6 : Z.length = 6
      · simp only [c6, if_true]
        cases vp <;> cases vm <;> simp [c2]
      · have : ¬ (Z.length : Int) = 6 := by omega
        simp [c2, c6, this]
    refine ⟨fun o ok hz => ?_, fun hn => ?_⟩
    · rcases hz with ⟨h1, _⟩ | ⟨g, H, M, he, hg, hH, hM, ho, hok⟩
      · exact absurd h1 cz
      · have hl6 : Z.length = 6 := by rw [he]; simp only [List.length_cons, List.length_append, hH.2, hM.2]
        have hvv : (!vp && !vm) = false := by
          rcases hg with rfl | rfl
          · rw [hvp.2 ⟨by rw [hl6]; decide, (zsh_fits hl6 (Or.inl rfl)).2 ⟨H, M, he, hH, hM⟩⟩]; rfl
          · rw [hvm.2 ⟨by rw [hl6]; decide, (zsh_fits hl6 (Or.inr rfl)).2 ⟨H, M, he, hH, hM⟩⟩]; cases vp <;> rfl
        refine Evn.some 4 fun f => ?_
        rw [show f + 4 = (f + 2) + 2 from rfl, step (f + 2), if_pos hl6, hvv]
        have hf := fin16 y m d h i s o F ok hF hl f
        have hp19 : (f_ref24_Parse_t (f + 2)).2.2.1 = f_ref24_Parse_p19 (f_ref24_Parse_t (f + 1)) := rfl
        rw [hp19]
        have t1 : Int.toNat 1 = 1 := rfl
        have t3 : Int.toNat 3 = 3 := rfl
        have t4 : Int.toNat 4 = 4 := rfl
        have t6 : Int.toNat 6 = 6 := rfl
        have h6 : ((6 : Nat) : Int) = 6 := rfl
        have x1 : (strOf Z).extract 1 3 = strOf H := by
          rw [str_cut, he]
          obtain ⟨e, k, rfl⟩ := l2 hH.2
          rfl
        have x2 : (strOf Z).extract 4 6 = strOf M := by
          rw [str_cut, he]
          obtain ⟨e, k, rfl⟩ := l2 hH.2
          obtain ⟨j, z, rfl⟩ := l2 hM.2
          rfl
        have n1 := ref24_number H hH.1 (by omega)
        have n2 := ref24_number M hM.1 (by omega)
        have r1 : 0 ≤ val10 H ∧ val10 H ≤ 99 := by
          have := val10_range _ H hH.2 hH.1
          omega
        have r2 : 0 ≤ val10 M ∧ val10 M ≤ 99 := by
          have := val10_range _ M hM.2 hM.1
          omega
        have i1 : imul .i64 (val10 H) 60 = val10 H * 60 := imul_i64 (by omega)
        have i2 : iadd .i64 (val10 H * 60) (val10 M) = val10 H * 60 + val10 M := iadd_i64 (by omega)
        have i3 : isub .i64 0 (val10 H * 60 + val10 M) = -(val10 H * 60 + val10 M) := by rw [isub_i64 (by omega)]; omega
        have hb := by_at (strOf Z) (i := 0) (by omega) (by rw [str_size]; omega)
        rw [by_str hZ] at hb
        have hb' : bt (strOf Z) 0 = g := by rw [hb, he]; rfl
        unfold finR at hf
        simp only [f_ref24_Parse_p19, str_size, hl6, h6, t1, t3, t4, t6, x1, x2, n1, n2, i1, i2, i3, hb', cond_false, fitsS_dec, Option.bind_some, Option.isNone_none, Option.isNone_some, Option.isSome_none, Option.isSome_some, Bool.not_true, Bool.not_false, cond_true, cond_false, cond_dec, beq_int, bne_int, not_dec, and_dec]
        rw [if_pos (by decide), if_pos (by decide)]
        rw [← hf, hok, ho]
        by_cases w1 : val10 H < 24
        · rw [if_pos (by omega), if_pos (by decide)]
          by_cases w2 : g = 45
          · rw [if_pos w2, if_pos w2, show decide (val10 H < 24 ∧ val10 M < 60) = decide (val10 M ≤ 59) by rw [decide_eq_decide]; omega]
          · rw [if_neg w2, if_neg w2, show decide (val10 H < 24 ∧ val10 M < 60) = decide (val10 M ≤ 59) by rw [decide_eq_decide]; omega]
        · rw [if_neg (by omega), if_pos (by decide)]
          by_cases w2 : g = 45
          · rw [if_pos w2, if_pos w2, show decide (val10 H < 24 ∧ val10 M < 60) = false from decide_eq_false (fun q => w1 q.1)]
          · rw [if_neg w2, if_neg w2, show decide (val10 H < 24 ∧ val10 M < 60) = false from decide_eq_false (fun q => w1 q.1)]
    · have hvv : (if Z.length = 6 then (!vp && !vm) else true) = true := by
        by_cases c6 : Z.length = 6
        · rw [if_pos c6]
          have e1 : vp = false := by
            cases hv : vp
            · rfl
            · obtain ⟨H, M, a1, a2, a3⟩ := (zsh_fits c6 (Or.inl rfl)).1 (hvp.1 hv).2
              exact absurd ⟨_, _, Or.inr ⟨43, H, M, a1, Or.inl rfl, a2, a3, rfl, rfl⟩⟩ hn
          have e2 : vm = false := by
            cases hv : vm
            · rfl
            · obtain ⟨H, M, a1, a2, a3⟩ := (zsh_fits c6 (Or.inr rfl)).1 (hvm.1 hv).2
              exact absurd ⟨_, _, Or.inr ⟨45, H, M, a1, Or.inr rfl, a2, a3, rfl, rfl⟩⟩ hn
          rw [e1, e2]; rfl
        · rw [if_neg c6]
      refine Evn.some 3 fun f => ?_
      rw [show f + 3 = (f + 1) + 2 from rfl, step (f + 1), hvv]
      have hp19 : (f_ref24_Parse_t (f + 1)).2.2.1 = f_ref24_Parse_p19 (f_ref24_Parse_t f) := rfl
      rw [hp19]
      simp only [f_ref24_Parse_p19, cond_true]
end Go.Proofs.YtignndakgibpaaaGreat.Ev
