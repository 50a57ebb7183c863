/- Time lines: what is read. -/
import Derived.Test.YtddnfappkfiidaaGreatPuNistI
namespace Go.Proofs.YtddnfappkfiidaaGreat.Ev
open Go
set_option linter.unusedVariables false
set_option linter.unusedSimpArgs false
theorem mjd_day (k : Int) (h : 0 ≤ k ∧ k ≤ 99999) : g_mjd_Day ((), ((1, ()), ((k, ()), ()))) = some ((), ((k - 40587, ()), ((none, ()), ()))) := by
  simp only [g_mjd_Day, f_mjd_Day_m, g_mjd_zero, f_mjd_zero_m, day_first, day_last, fitsS_dec, Option.bind_some, Option.isNone_none, Option.isNone_some, Option.isSome_none, Option.isSome_some, Bool.not_true, Bool.not_false, cond_true, cond_false, cond_dec, beq_int, bne_int, not_dec, gt_iff_lt, if_true]
  rw [iadd_i64 (by omega), if_neg (by omega), iadd_i64 (by omega), if_neg (by omega), isub_i64 (by omega)]
@[reducible] def zln : Int × (Int × (Int × (Int × (Int × (Int × (Bool × Unit)))))) := (0, (0, (0, (0, (0, (0, (false, ())))))))
/-- What told finds wrong. -/
def tldE (y m d yy mm dd hh ii ss p : Int) : Int :=
  if ¬ (yy = y % 100 ∧ mm = m ∧ dd = d) then 10 else if 23 < hh ∨ 59 < ii ∨ 60 < ss ∨ 2 < p then 1 else if ss = 60 ∧ ¬ (hh = 23 ∧ ii = 59) then 12 else 0
theorem nist_told (k c p h a : Int) (m : Bool) (yy mm dd hh ii ss : Int) (hk : 0 ≤ k ∧ k ≤ 99999) (h1 : 0 ≤ hh ∧ hh ≤ 99) (h2 : 0 ≤ ii ∧ ii ≤ 99) (h3 : 0 ≤ ss ∧ ss ≤ 99) {y mo d : Int} (hd : IsDate (k - 40587) y mo d) :
    g_nist_Line_told ((), ((0, (0, (c, (p, (h, (a, (m, ()))))))), ((k, ()), ((yy, (mm, (dd, ()))), ((hh, (ii, (ss, ()))), ()))))) =
      some ((), (if tldE y mo d yy mm dd hh ii ss p = 0 then (k - 40587, ((hh * 60 + ii) * 60 + ss, (c, (p, (h, (a, (m, ()))))))) else zln, ((errOf (tldE y mo d yy mm dd hh ii ss p), ()), ()))) := by
  have ht : there (k - 40587) := by unfold there; omega
  have hy := year_bound hd ht
  have i1 : imul .i64 hh 60 = hh * 60 := imul_i64 (by omega)
  have i2 : iadd .i64 (hh * 60) ii = hh * 60 + ii := iadd_i64 (by omega)
  have i3 : imul .i64 (hh * 60 + ii) 60 = (hh * 60 + ii) * 60 := imul_i64 (by omega)
  have i4 : iadd .i64 ((hh * 60 + ii) * 60) ss = (hh * 60 + ii) * 60 + ss := iadd_i64 (by omega)
  simp only [g_nist_Line_told, f_nist_Line_told_m, mjd_day k hk, day_date ht hd, nist_modulo y 100 (by omega) (by omega), i1, i2, i3, i4, fitsS_dec, Option.bind_some, Option.isNone_none, Option.isNone_some, Option.isSome_none, Option.isSome_some, Bool.not_true, Bool.not_false, cond_true, cond_false, cond_dec, beq_int, bne_int, not_dec, and_dec, Bool.and_true, gt_iff_lt]
  unfold tldE
  by_cases c1 : yy = y % 100 ∧ mm = mo ∧ dd = d
  · rw [if_neg (not_not_intro c1), if_neg (not_not_intro c1)]
    by_cases q1 : 23 < hh
    · rw [if_pos q1, if_pos (Or.inl q1), if_neg (by decide)]; rfl
    · rw [if_neg q1]
      by_cases q2 : 59 < ii
      · rw [if_pos q2, if_pos (Or.inr (Or.inl q2)), if_neg (by decide)]; rfl
      · rw [if_neg q2]
        by_cases q3 : 60 < ss
        · rw [if_pos q3, if_pos (Or.inr (Or.inr (Or.inl q3))), if_neg (by decide)]; rfl
        · rw [if_neg q3]
          by_cases q4 : 2 < p
          · rw [if_pos q4, if_pos (Or.inr (Or.inr (Or.inr q4))), if_neg (by decide)]; rfl
          · rw [if_neg q4, if_neg (show ¬(23 < hh ∨ 59 < ii ∨ 60 < ss ∨ 2 < p) by omega)]
            by_cases q5 : ss = 60
            · rw [if_pos q5]
              by_cases q6 : hh = 23
              · rw [if_neg (not_not_intro q6)]
                by_cases q7 : ii = 59
                · rw [if_neg (not_not_intro q7), if_neg (show ¬(ss = 60 ∧ ¬(hh = 23 ∧ ii = 59)) from fun q => q.2 ⟨q6, q7⟩), if_pos rfl]; rfl
                · rw [if_pos q7, if_pos (show (ss = 60 ∧ ¬(hh = 23 ∧ ii = 59)) from ⟨q5, fun q => q7 q.2⟩), if_neg (by decide)]; rfl
              · rw [if_pos q6, if_pos (show (ss = 60 ∧ ¬(hh = 23 ∧ ii = 59)) from ⟨q5, fun q => q6 q.1⟩), if_neg (by decide)]; rfl
            · rw [if_neg q5, if_neg (show ¬(ss = 60 ∧ ¬(hh = 23 ∧ ii = 59)) from fun q => q5 q.1), if_pos rfl]; rfl
  · rw [if_pos c1, if_pos c1, if_neg (by decide)]; rfl
@[reducible] def utcL : List Int := [32, 85, 84, 67, 40, 78, 73, 83, 84, 41, 32]
/-- The parts of a line, read one after another. -/
structure PN where (x3 x4 x5 x6 x7 x8 x9 x10 x11 x12 x13 : X × Int) (x14 : X) (b : Bool) (z : X)
def pn (s : ByteArray) : PN :=
  let n := s.size
  let x3 := numX n [] 5 (exactX n [10] (.good (bytesOf s)))
  let x4 := numX n [32] 2 x3.1
  let x5 := numX n [45] 2 x4.1
  let x6 := numX n [45] 2 x5.1
  let x7 := numX n [32] 2 x6.1
  let x8 := numX n [58] 2 x7.1
  let x9 := numX n [58] 2 x8.1
  let x10 := numX n [32] 2 x9.1
  let x11 := numX n [32] 1 x10.1
  let x12 := numX n [32] 1 x11.1
  let x13 := advX n x12.1
  let x14 := exactX n utcL x13.1
  let b := oneX 35 x14
  let z := if b then exactX n [10] (takeX 1 x14) else exactX n [10] (exactX n [42] x14)
  ⟨x3, x4, x5, x6, x7, x8, x9, x10, x11, x12, x13, x14, b, z⟩
attribute [local irreducible] exactX numX advX figX takeX failX oneX X.wf in
theorem nist_parse (s : ByteArray) (hs : s.size ≤ 1000000) : g_nist_Parse ((), ((s, ()), ())) = if (pn s).z.end.isNone then
    (g_nist_Line_told ((), ((0, (0, ((pn s).x10.2, ((pn s).x11.2, ((pn s).x12.2, ((pn s).x13.2, ((pn s).b, ()))))))), (((pn s).x3.2, ()), (((pn s).x4.2, ((pn s).x5.2, ((pn s).x6.2, ()))), (((pn s).x7.2, ((pn s).x8.2, ((pn s).x9.2, ()))), ()))))))
    else some ((), (zln, ((some 2, ()), ()))) := by
  have b1 : ∀ x : Int, 0 ≤ x ∧ x < 256 → okBy [x] := fun x h => okBy_cons h okBy_nil
  have l10 : (⟨#[10]⟩ : ByteArray) = strOf [10] := by kernel_rfl
  have l32 : (⟨#[32]⟩ : ByteArray) = strOf [32] := by kernel_rfl
  have l42 : (⟨#[42]⟩ : ByteArray) = strOf [42] := by kernel_rfl
  have l45 : (⟨#[45]⟩ : ByteArray) = strOf [45] := by kernel_rfl
  have l58 : (⟨#[58]⟩ : ByteArray) = strOf [58] := by kernel_rfl
  have lut : (⟨#[32, 85, 84, 67, 40, 78, 73, 83, 84, 41, 32]⟩ : ByteArray) = strOf utcL := by kernel_rfl
  have w0 := X.wf_new s
  have w2 : (exactX s.size [10] (.good (bytesOf s))).wf s := exactX_wf w0
  have w3 := numX_wf w2 [] 5
  have w4 := numX_wf w3 [32] 2
  have w5 := numX_wf w4 [45] 2
  have w6 := numX_wf w5 [45] 2
  have w7 := numX_wf w6 [32] 2
  have w8 := numX_wf w7 [58] 2
  have w9 := numX_wf w8 [58] 2
  have w10 := numX_wf w9 [32] 2
  have w11 := numX_wf w10 [32] 1
  have w12 := numX_wf w11 [32] 1
  have w13 := advX_wf w12
  have w14 := exactX_wf (L := utcL) w13
  have E : ∀ x : X, x.wf s → ∀ M : List Int, okBy M → M.length ≤ 1000 → g_nist_reader_exact_io (x.t s, ((), ((strOf M, ()), ()))) = some ((exactX s.size M x).t s, ((), ())) := fun x h M hM hl => nist_exact s x h hs M hM hl
  have hut : okBy utcL := by intro x hx; simp only [List.mem_cons, List.not_mem_nil, or_false] at hx; omega
  have e2 := E _ w0 [10] (b1 10 (by omega)) (by decide)
  have e3 := nist_number s _ w2 hs [] okBy_nil (by decide) 5 (by decide)
  have e4 := nist_number s _ w3 hs [32] (b1 32 (by omega)) (by decide) 2 (by decide)
  have e5 := nist_number s _ w4 hs [45] (b1 45 (by omega)) (by decide) 2 (by decide)
  have e6 := nist_number s _ w5 hs [45] (b1 45 (by omega)) (by decide) 2 (by decide)
  have e7 := nist_number s _ w6 hs [32] (b1 32 (by omega)) (by decide) 2 (by decide)
  have e8 := nist_number s _ w7 hs [58] (b1 58 (by omega)) (by decide) 2 (by decide)
  have e9 := nist_number s _ w8 hs [58] (b1 58 (by omega)) (by decide) 2 (by decide)
  have e10 := nist_number s _ w9 hs [32] (b1 32 (by omega)) (by decide) 2 (by decide)
  have e11 := nist_number s _ w10 hs [32] (b1 32 (by omega)) (by decide) 1 (by decide)
  have e12 := nist_number s _ w11 hs [32] (b1 32 (by omega)) (by decide) 1 (by decide)
  have e13 := nist_advanceX s _ w12 hs
  have e14 := E _ w13 utcL hut (by decide)
  have e15 := scan_Take s _ w14 hs 35
  have a2 : ((2 : Nat) : Int) = 2 := rfl
  have a1 : ((1 : Nat) : Int) = 1 := rfl
  have a5 : ((5 : Nat) : Int) = 5 := rfl
  simp only [X.t, a1, a2, a5] at e2 e3 e4 e5 e6 e7 e8 e9 e10 e11 e12 e13 e14 e15
  have hnew := scan_new s
  simp only [X.t] at hnew
  simp only [g_nist_Parse, f_nist_Parse_m, hnew, l10, l32, l42, l45, l58, lut, sc_nil, Option.bind_some, e2, e3, e4, e5, e6, e7, e8, e9, e10, e11, e12, e13, e14, e15]
  have Z : ∀ x : X, x.wf s → g_scan_Scanner_string_End ((), ((some (s, (x.at s.size, x.er)), ()), ())) = some ((), ((x.end, ()), ())) := fun x h => scan_end s x h
  have T : ∀ (d : Unit × ((Int × (Int × (Int × (Int × (Int × (Int × (Bool × Unit))))))) × ((Int × Unit) × ((Int × (Int × (Int × Unit))) × ((Int × (Int × (Int × Unit))) × Unit))))), ((g_nist_Line_told d).bind fun x => some ((), ((x.2.1.1, (x.2.1.2.1, (x.2.1.2.2.1, (x.2.1.2.2.2.1, (x.2.1.2.2.2.2.1, (x.2.1.2.2.2.2.2.1, (x.2.1.2.2.2.2.2.2.1, ()))))))), ((x.2.2.1.1, ()), ())))) = g_nist_Line_told d := by
    intro d
    cases g_nist_Line_told d <;> rfl
  cases hb : oneX 35 (exactX s.size utcL (advX s.size (numX s.size [32] 1 (numX s.size [32] 1 (numX s.size [32] 2 (numX s.size [58] 2 (numX s.size [58] 2 (numX s.size [32] 2 (numX s.size [45] 2 (numX s.size [45] 2 (numX s.size [32] 2 (numX s.size [] 5 (exactX s.size [10] (.good (bytesOf s)))).1).1).1).1).1).1).1).1).1).1).1)
  · have e16 := E _ w14 [42] (b1 42 (by omega)) (by decide)
    have w16 : (exactX s.size [42] _).wf s := exactX_wf w14
    have e17 := E _ w16 [10] (b1 10 (by omega)) (by decide)
    have e18 := Z _ (exactX_wf (L := [10]) w16)
    simp only [X.t] at e16 e17
    simp only [Bool.false_eq_true, if_false, Bool.not_false, cond_true, e16, e17, e18, Option.bind_some, pn, hb, T]
    cases (exactX s.size [10] (exactX s.size [42] _)).end <;> rfl
  · have w16 := takeX_wf w14 1
    have e17 := E _ w16 [10] (b1 10 (by omega)) (by decide)
    have e18 := Z _ (exactX_wf (L := [10]) w16)
    simp only [X.t] at e17
    simp only [if_true, Bool.not_true, cond_false, e17, e18, Option.bind_some, pn, hb, T]
    cases (exactX s.size [10] (takeX 1 _)).end <;> rfl
end Go.Proofs.YtddnfappkfiidaaGreat.Ev
