/- Time lines: the reader's steps. -/
import Derived.Test.YtddnfappkfiidaaGreatPuRun
import Derived.Test.YtddnfappkfiidaaGreatPuNist2
namespace Go.Proofs.YtddnfappkfiidaaGreat.Ev
open Go
set_option linter.unusedVariables false
set_option linter.unusedSimpArgs false
def exactX (n : Nat) : List Int → X → X
  | [], x => x
  | c :: L, x => exactX n L (if oneX c x then takeX 1 x else failX n 2 x)
theorem oneX_wf {s : ByteArray} {x : X} (h : x.wf s) (c : Int) : (if oneX c x then takeX 1 x else failX s.size 2 x).wf s := by
  split
  · exact takeX_wf h 1
  · exact failX_wf h 2
theorem exactX_wf {s : ByteArray} : ∀ {L : List Int} {x : X}, x.wf s → (exactX s.size L x).wf s
  | [], x, h => h
  | c :: L, x, h => exactX_wf (L := L) (oneX_wf h c)
theorem exact_p2 (s : ByteArray) (hs : s.size ≤ 1000000) (M : List Int) (hM : okBy M) (hl : M.length ≤ 1000) : ∀ (k i : Nat) (x : X), i + k = M.length → x.wf s →
    Evn (fun f => (f_nist_reader_exact_io_t f).1 (((x.t s).1, ((), ())), ((), ((strOf M, ()), ((), (((M.length : Int), ()), (((i : Int), ()), ()))))))) ((exactX s.size (M.drop i) x).t s, ((), ())) := by
  intro k; induction k with
  | zero =>
    intro i x hi h
    refine Evn.some 1 fun f => ?_
    rw [List.drop_of_length_le (by omega)]
    simp only [t_nist_reader_exact_io, f_nist_reader_exact_io_p2, X.t, exactX, fitsS_dec, Option.bind_some, Option.isNone_none, Option.isNone_some, Option.isSome_none, Option.isSome_some, Bool.not_true, Bool.not_false, cond_true, cond_false, cond_dec, beq_int, bne_int, not_dec]
    rw [if_neg (by omega)]
  | succ k ih =>
    intro i x hi h
    have hb := by_at (strOf M) (i := (i : Int)) (by omega) (by rw [str_size]; omega)
    rw [by_str hM, Int.toNat_natCast] at hb
    have hd : M.drop i = M.getD i 0 :: M.drop (i + 1) := by
      rw [List.drop_eq_getElem_cons (by omega), List.getD_eq_getElem?_getD, List.getElem?_eq_getElem (by omega)]; rfl
    have ih' := ih (i + 1) _ (by omega) (oneX_wf h (M.getD i 0))
    rw [hd]
    refine ih'.step fun f => ?_
    have hT := scan_Take s x h hs (M.getD i 0)
    simp only [X.t] at hT
    simp only [t_nist_reader_exact_io, f_nist_reader_exact_io_p2, X.t, fitsS_dec, Option.bind_some, Option.isNone_none, Option.isNone_some, Option.isSome_none, Option.isSome_some, Bool.not_true, Bool.not_false, cond_true, cond_false, cond_dec, beq_int, bne_int, not_dec, str_size, and_dec]
    rw [if_pos (by omega), if_pos (by omega), hb, hT]
    simp only [Option.bind_some]
    rw [iadd_i64 (by omega)]
    by_cases c : oneX (M.getD i 0) x = true
    · simp only [c, if_true, Bool.not_true, cond_false]; rfl
    · have hF := scan_fail s x 2
      simp only [X.t] at hF
      simp only [Bool.not_eq_true] at c
      simp only [c, Bool.false_eq_true, if_false, Bool.not_false, cond_true, hF, Option.bind_some]; rfl
theorem nist_exact (s : ByteArray) (x : X) (h : x.wf s) (hs : s.size ≤ 1000000) (M : List Int) (hM : okBy M) (hl : M.length ≤ 1000) : g_nist_reader_exact_io (x.t s, ((), ((strOf M, ()), ()))) = some ((exactX s.size M x).t s, ((), ())) := by
  have := exact_p2 s hs M hM hl M.length 0 x (by omega) h
  rw [List.drop_zero] at this
  refine (this.cast fun f => ?_).lim
  simp only [f_nist_reader_exact_io_m, X.t, str_size]; rfl
def numX (n : Nat) (L : List Int) (w : Nat) (x : X) : X × Int := figX n w w (exactX n L x)
theorem numX_wf {s : ByteArray} {x : X} (h : x.wf s) (L : List Int) (w : Nat) : (numX s.size L w x).1.wf s := figX_wf (exactX_wf h) w w
theorem nist_number (s : ByteArray) (x : X) (h : x.wf s) (hs : s.size ≤ 1000000) (M : List Int) (hM : okBy M) (hl : M.length ≤ 1000) (w : Nat) (hw : 1 ≤ w ∧ w ≤ 18) : g_nist_reader_number_io (x.t s, ((), ((strOf M, ()), (((w : Int), ()), ())))) = some ((numX s.size M w x).1.t s, (((numX s.size M w x).2, ()), ((), ()))) := by
  have h1 := nist_exact s x h hs M hM hl
  have h2 := scan_figures s _ (exactX_wf (L := M) h) hs w w (by omega)
  simp only [X.t] at h1 h2
  simp only [g_nist_reader_number_io, f_nist_reader_number_io_m, X.t, h1, h2, Option.bind_some, numX]
/-- An advance, read. -/
def advX (n : Nat) (x : X) : X × Int :=
  let x1 := exactX n [32] x
  let r := runN [32] x1.rest
  let q := figX n 1 3 (takeX r x1)
  let x5 := if q.1.at n - x1.at n = 3 ∧ r + (padd q.2.toNat 1).length = 3 then q.1 else failX n 2 q.1
  let u := numX n [46] 1 x5
  (u.1, q.2 * 10 + u.2)
theorem advX_wf {s : ByteArray} {x : X} (h : x.wf s) : (advX s.size x).1.wf s := by
  unfold advX
  simp only
  refine numX_wf ?_ _ _
  split
  · exact figX_wf (takeX_wf (exactX_wf h) _) _ _
  · exact failX_wf (figX_wf (takeX_wf (exactX_wf h) _) _ _) _
theorem nist_advanceX (s : ByteArray) (x : X) (h : x.wf s) (hs : s.size ≤ 1000000) : g_nist_reader_advance_io (x.t s, ((), ())) = some ((advX s.size x).1.t s, (((advX s.size x).2, ()), ((), ()))) := by
  have l32 : (⟨#[32]⟩ : ByteArray) = strOf [32] := by kernel_rfl
  have l46 : (⟨#[46]⟩ : ByteArray) = strOf [46] := by kernel_rfl
  have o32 : okBy [32] := okBy_cons (by omega) okBy_nil
  have w1 : (exactX s.size [32] x).wf s := exactX_wf h
  have w2 := takeX_wf w1 (runN [32] (exactX s.size [32] x).rest)
  have w3 := figX_wf w2 1 3
  have e1 := nist_exact s x h hs [32] o32 (by decide)
  have e2 := scan_at s (exactX s.size [32] x)
  have e3 := scan_run s _ w1 hs [32] o32
  have e4 := scan_figures s _ w2 hs 1 3 (by decide)
  have hv := figX_val s.size 1 3 (by decide) (takeX (runN [32] (exactX s.size [32] x).rest) (exactX s.size [32] x))
  have hr1 := X.at_range w1
  have hrl := runN_le [32] (exactX s.size [32] x).rest
  have hro := X.ok_rest w1
  unfold advX
  simp only [X.t, X.p] at e1 e2 e3 e4
  simp only [g_nist_reader_advance_io, f_nist_reader_advance_io_m, X.t, l32, l46, e1, e2, e3, Option.bind_some]
  rw [show ((1 : Nat) : Int) = 1 from rfl, show ((3 : Nat) : Int) = 3 from rfl] at e4
  simp only [e4, Option.bind_some, str_size, List.length_take]
  generalize figX s.size 1 3 (takeX (runN [32] (exactX s.size [32] x).rest) (exactX s.size [32] x)) = q at w3 hv ⊢
  have hr3 := X.at_range w3
  have e5 := scan_at s q.1
  have e6 := scan_fail s q.1 2
  have hp : g_figures_Put ((), ((q.2, ()), ((1, ()), ()))) = some ((), ((strOf (padd q.2.toNat 1), ()), ((none, ()), ()))) := fig_put_nn q.2 1 (by omega) (by omega)
  have hpl := padd3 (a := q.2 * 10) (by omega)
  rw [Int.mul_ediv_cancel _ (by decide)] at hpl
  have N : ∀ x6 : X, x6.wf s → g_nist_reader_number_io (x6.t s, ((), ((strOf [46], ()), ((1, ()), ())))) = some ((numX s.size [46] 1 x6).1.t s, (((numX s.size [46] 1 x6).2, ()), ((), ()))) := fun x6 h6 => nist_number s x6 h6 hs [46] (okBy_cons (by omega) okBy_nil) (by decide) 1 (by decide)
  have hu : ∀ x6 : X, 0 ≤ (numX s.size [46] 1 x6).2 ∧ (numX s.size [46] 1 x6).2 < 10 := fun x6 => figX_val s.size 1 1 (by decide) _
  have n1 := N _ w3
  have n2 := N _ (failX_wf w3 2)
  have u1 := hu q.1
  have u2 := hu (failX s.size 2 q.1)
  simp only [X.t, X.p] at e5 e6 n1 n2
  have hmin : min (runN [32] (exactX s.size [32] x).rest) (exactX s.size [32] x).rest.length = runN [32] (exactX s.size [32] x).rest := by omega
  have i1 : isub .i64 (q.1.at s.size) ((exactX s.size [32] x).at s.size) = q.1.at s.size - (exactX s.size [32] x).at s.size := isub_i64 (by omega)
  have i2 : iadd .i64 ((runN [32] (exactX s.size [32] x).rest : Nat) : Int) ((padd q.2.toNat 1).length : Int) = (runN [32] (exactX s.size [32] x).rest : Nat) + ((padd q.2.toNat 1).length : Int) := iadd_i64 (by omega)
  have i3 : imul .i64 q.2 10 = q.2 * 10 := imul_i64 (by omega)
  have i4 : iadd .i64 (q.2 * 10) (numX s.size [46] 1 q.1).2 = q.2 * 10 + (numX s.size [46] 1 q.1).2 := iadd_i64 (by omega)
  have i5 : iadd .i64 (q.2 * 10) (numX s.size [46] 1 (failX s.size 2 q.1)).2 = q.2 * 10 + (numX s.size [46] 1 (failX s.size 2 q.1)).2 := iadd_i64 (by omega)
  simp only [hp, e5, e6, str_size, hmin, i1, i2, i3, n1, n2, i4, i5, fitsS_dec, Option.bind_some, Option.isNone_none, Option.isNone_some, Option.isSome_none, Option.isSome_some, Bool.not_true, Bool.not_false, cond_true, cond_false, cond_dec, beq_int, bne_int, not_dec]
  by_cases c1 : q.1.at s.size - (exactX s.size [32] x).at s.size = 3
  · by_cases c2 : runN [32] (exactX s.size [32] x).rest + (padd q.2.toNat 1).length = 3
    · rw [if_neg (not_not_intro c1), if_neg (by omega), if_pos ⟨c1, c2⟩]
    · rw [if_neg (not_not_intro c1), if_pos (by omega), if_neg (fun q => c2 q.2)]
  · rw [if_pos c1, if_neg (fun q => c1 q.1)]
end Go.Proofs.YtddnfappkfiidaaGreat.Ev
