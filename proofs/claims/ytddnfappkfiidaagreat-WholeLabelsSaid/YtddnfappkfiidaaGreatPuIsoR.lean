/- ISO instants: the reader's parts. -/
import Derived.Test.YtddnfappkfiidaaGreatPuMailX
import Derived.Test.YtddnfappkfiidaaGreatPuFrac
import Derived.Test.YtddnfappkfiidaaGreatPuLab
namespace Go.Proofs.YtddnfappkfiidaaGreat.Ev
open Go
set_option linter.unusedVariables false
set_option linter.unusedSimpArgs false
theorem ib1 {x : Int} (h : 0 ≤ x ∧ x < 256) : okBy [x] := fun y hy => by
  simp only [List.mem_cons, List.not_mem_nil, or_false] at hy
  rw [hy]; exact h
def ex1X (n : Nat) (c : Int) (x : X) : X := if oneX c x then takeX 1 x else failX n 2 x
theorem ex1X_wf {s : ByteArray} {x : X} (h : x.wf s) (c : Int) : (ex1X s.size c x).wf s := by
  unfold ex1X
  split
  · exact takeX_wf h 1
  · exact failX_wf h 2
theorem iso_exact (s : ByteArray) (x : X) (h : x.wf s) (hs : s.size ≤ 1000000) (c : Int) : g_iso_reader_exact_io (x.t s, ((), ((c, ()), ()))) = some ((ex1X s.size c x).t s, ((), ())) := by
  have h1 := scan_Take s x h hs c
  have h2 := scan_fail s x 2
  simp only [X.t] at h1 h2
  simp only [g_iso_reader_exact_io, f_iso_reader_exact_io_m, X.t, h1, Option.bind_some, ex1X]
  cases hb : oneX c x
  · simp only [Bool.not_false, cond_true, Bool.false_eq_true, if_false, h2, Option.bind_some]
  · simp only [Bool.not_true, cond_false, if_true]
@[reducible] def tri := Int × (Int × Int)
def dateI (n : Nat) (x : X) : X × tri :=
  let a := figX n 4 4 x
  let b := figX n 2 2 (ex1X n 45 a.1)
  let c := figX n 2 2 (ex1X n 45 b.1)
  (c.1, (a.2, (b.2, c.2)))
theorem dateI_wf {s : ByteArray} {x : X} (h : x.wf s) : (dateI s.size x).1.wf s := figX_wf (ex1X_wf (figX_wf (ex1X_wf (figX_wf h _ _) _) _ _) _) _ _
theorem iso_date (s : ByteArray) (x : X) (h : x.wf s) (hs : s.size ≤ 1000000) : g_iso_reader_date_io (x.t s, ((), ())) = some ((dateI s.size x).1.t s, (((dateI s.size x).2.1, ()), (((dateI s.size x).2.2.1, ()), (((dateI s.size x).2.2.2, ()), ((), ()))))) := by
  have h1 := scan_figures s x h hs 4 4 (by decide)
  have w1 := figX_wf h 4 4
  have h2 := iso_exact s _ w1 hs 45
  have w2 := ex1X_wf w1 45
  have h3 := scan_figures s _ w2 hs 2 2 (by decide)
  have w3 := figX_wf w2 2 2
  have h4 := iso_exact s _ w3 hs 45
  have w4 := ex1X_wf w3 45
  have h5 := scan_figures s _ w4 hs 2 2 (by decide)
  have a2 : ((2 : Nat) : Int) = 2 := rfl
  have a4 : ((4 : Nat) : Int) = 4 := rfl
  simp only [X.t, a2, a4] at h1 h2 h3 h4 h5
  simp only [g_iso_reader_date_io, f_iso_reader_date_io_m, X.t, h1, h2, h3, h4, h5, Option.bind_some, dateI]
def numI (n : Nat) (W : List Int) (w : Nat) (x : X) : X × Int := figX n w w (mustX n W x)
theorem numI_wf {s : ByteArray} {x : X} (h : x.wf s) (W : List Int) (w : Nat) : (numI s.size W w x).1.wf s := figX_wf (mustX_wf h W) w w
theorem iso_number (s : ByteArray) (x : X) (h : x.wf s) (hs : s.size ≤ 1000000) (W : List Int) (hW : okBy W) (hl : W.length ≤ 1000) : g_iso_reader_number_io (x.t s, ((), ((strOf W, ()), ((2, ()), ())))) = some ((numI s.size W 2 x).1.t s, (((numI s.size W 2 x).2, ()), ((), ()))) := by
  have h1 := scan_must s x h hs W hW hl
  have h2 := scan_figures s _ (mustX_wf h W) hs 2 2 (by decide)
  have a2 : ((2 : Nat) : Int) = 2 := rfl
  simp only [X.t, a2] at h1 h2
  simp only [g_iso_reader_number_io, f_iso_reader_number_io_m, X.t, h1, h2, Option.bind_some, numI]
/-- The figures behind a point. -/
def fracI (n : Nat) (x : X) : X × List Int :=
  if oneX 46 x then
    (if (takeX 1 x).rest.take (lead (takeX 1 x).rest) = [] then failX n 2 (takeX (lead (takeX 1 x).rest) (takeX 1 x)) else takeX (lead (takeX 1 x).rest) (takeX 1 x), (takeX 1 x).rest.take (lead (takeX 1 x).rest))
  else (x, [])
theorem fracI_wf {s : ByteArray} {x : X} (h : x.wf s) : (fracI s.size x).1.wf s := by
  unfold fracI
  split
  · simp only
    split
    · exact failX_wf (takeX_wf (takeX_wf h _) _) _
    · exact takeX_wf (takeX_wf h _) _
  · exact h
theorem fracI_figs {n : Nat} {x : X} : ∀ y ∈ (fracI n x).2, isF y := by
  unfold fracI
  split
  · exact sc_lead_figs (Nat.le_refl _)
  · intro y hy; cases hy
theorem fracI_len {s : ByteArray} {x : X} (h : x.wf s) : (fracI s.size x).2.length ≤ s.size := by
  unfold fracI
  split
  · have := (X.ok_rest (takeX_wf h 1)).2
    simp only [List.length_take]; omega
  · exact Nat.zero_le _
theorem iso_fraction (s : ByteArray) (x : X) (h : x.wf s) (hs : s.size ≤ 1000000) : g_iso_reader_fraction_io (x.t s, ((), ())) = some ((fracI s.size x).1.t s, ((strOf (fracI s.size x).2, ()), ((), ()))) := by
  have lf : (⟨#[48, 49, 50, 51, 52, 53, 54, 55, 56, 57]⟩ : ByteArray) = strOf figL := by kernel_rfl
  have of' : okBy figL := by intro x hx; simp only [figL, List.mem_cons, List.not_mem_nil, or_false] at hx; omega
  have h1 := scan_Take s x h hs 46
  have w1 := takeX_wf h 1
  have h2 := scan_run s _ w1 hs figL of'
  rw [run_lead] at h2
  have h3 := scan_fail s (takeX (lead (takeX 1 x).rest) (takeX 1 x)) 2
  simp only [X.t] at h1 h2 h3
  simp only [g_iso_reader_fraction_io, f_iso_reader_fraction_io_m, X.t, h1, Option.bind_some, fracI, lf, sc_nil, str_emp]
  cases hb : oneX 46 x
  · simp only [Bool.not_false, cond_true, Bool.false_eq_true, if_false]
  · simp only [Bool.not_true, cond_false, if_true, h2, Option.bind_some, str_emp, cond_dec]
    by_cases c : (takeX 1 x).rest.take (lead (takeX 1 x).rest) = []
    · simp only [c, if_true, h3, Option.bind_some]
    · simp only [c, if_false]
def numO (n : Nat) (neg : Bool) (x : X) : X × (Int × Bool) :=
  let a := figX n 2 2 x
  let b := numI n [58] 2 a.1
  (b.1, (if neg then -(a.2 * 60 + b.2) else a.2 * 60 + b.2, decide (a.2 < 24 ∧ b.2 < 60)))
theorem numO_wf {s : ByteArray} {x : X} (h : x.wf s) (b : Bool) : (numO s.size b x).1.wf s := numI_wf (figX_wf h _ _) _ _
def offI (n : Nat) (x : X) : X × (Int × Bool) :=
  if (foldX [90] x).2 then ((foldX [90] x).1, (0, true)) else
  if oneX 45 (foldX [90] x).1 then numO n true (takeX 1 (foldX [90] x).1) else numO n false (ex1X n 43 (foldX [90] x).1)
theorem offI_wf {s : ByteArray} {x : X} (h : x.wf s) : (offI s.size x).1.wf s := by
  unfold offI
  split
  · exact foldX_wf h _
  · split
    · exact numO_wf (takeX_wf (foldX_wf h _) _) _
    · exact numO_wf (ex1X_wf (foldX_wf h _) _) _
theorem iso_offset (s : ByteArray) (x : X) (h : x.wf s) (hs : s.size ≤ 1000000) : g_iso_reader_offset_io (x.t s, ((), ())) = some ((offI s.size x).1.t s, (((offI s.size x).2.1, ()), (((offI s.size x).2.2, ()), ((), ())))) := by
  have l90 : (⟨#[90]⟩ : ByteArray) = strOf [90] := by kernel_rfl
  have l58 : (⟨#[58]⟩ : ByteArray) = strOf [58] := by kernel_rfl
  have a2 : ((2 : Nat) : Int) = 2 := rfl
  have h1 := scan_fold s x h hs [90] (ib1 (by omega)) (by decide)
  have w1 := foldX_wf h [90]
  have h2 := scan_Take s _ w1 hs 45
  have num : ∀ x : X, x.wf s → (g_scan_Scanner_string_Figures_io (((s, (x.at s.size, (x.er, ()))), ()), ((), ((2, ()), ((2, ()), ())))) = some (((s, ((figX s.size 2 2 x).1.at s.size, ((figX s.size 2 2 x).1.er, ()))), ()), (((figX s.size 2 2 x).2, ()), ((), ()))) ∧
      g_iso_reader_number_io (((s, ((figX s.size 2 2 x).1.at s.size, ((figX s.size 2 2 x).1.er, ()))), ()), ((), ((strOf [58], ()), ((2, ()), ())))) = some (((s, ((numI s.size [58] 2 (figX s.size 2 2 x).1).1.at s.size, ((numI s.size [58] 2 (figX s.size 2 2 x).1).1.er, ()))), ()), (((numI s.size [58] 2 (figX s.size 2 2 x).1).2, ()), ((), ()))) ∧
      imul .i64 (figX s.size 2 2 x).2 60 = (figX s.size 2 2 x).2 * 60 ∧ iadd .i64 ((figX s.size 2 2 x).2 * 60) (numI s.size [58] 2 (figX s.size 2 2 x).1).2 = (figX s.size 2 2 x).2 * 60 + (numI s.size [58] 2 (figX s.size 2 2 x).1).2 ∧
      ineg .i64 ((figX s.size 2 2 x).2 * 60 + (numI s.size [58] 2 (figX s.size 2 2 x).1).2) = -((figX s.size 2 2 x).2 * 60 + (numI s.size [58] 2 (figX s.size 2 2 x).1).2)) := fun x h => by
    have q1 := figX_val s.size 2 2 (by decide) x
    have q2 : 0 ≤ (numI s.size [58] 2 (figX s.size 2 2 x).1).2 ∧ (numI s.size [58] 2 (figX s.size 2 2 x).1).2 < 10 ^ 2 := figX_val s.size 2 2 (by decide) _
    refine ⟨scan_figures s x h hs 2 2 (by decide), iso_number s _ (figX_wf h 2 2) hs [58] (ib1 (by omega)) (by decide), imul_i64 (by omega), iadd_i64 (by omega), ineg_i64 (by omega)⟩
  simp only [X.t] at h1 h2
  simp only [g_iso_reader_offset_io, f_iso_reader_offset_io_m, X.t, l90, l58, h1, h2, Option.bind_some]
  unfold offI
  by_cases c0 : (foldX [90] x).2 = true
  · simp only [c0, cond_true, if_true]
  · simp only [Bool.not_eq_true] at c0
    simp only [c0, cond_false, Bool.false_eq_true, if_false]
    by_cases c1 : oneX 45 (foldX [90] x).1 = true
    · obtain ⟨n1, n2, n3, n4, n5⟩ := num _ (takeX_wf w1 1)
      simp only [c1, if_true, Bool.not_true, cond_false, cond_true, n1, n2, n3, n4, n5, Option.bind_some, numO]
      by_cases q1 : (figX s.size 2 2 (takeX 1 (foldX [90] x).1)).2 < 24
      · simp [q1]
      · simp [q1]
    · simp only [Bool.not_eq_true] at c1
      have h3 := iso_exact s _ w1 hs 43
      obtain ⟨n1, n2, n3, n4, n5⟩ := num _ (ex1X_wf w1 43)
      simp only [X.t] at h3
      simp only [c1, Bool.false_eq_true, if_false, Bool.not_false, cond_true, cond_false, h3, n1, n2, n3, n4, n5, Option.bind_some, numO]
      by_cases q1 : (figX s.size 2 2 (ex1X s.size 43 (foldX [90] x).1)).2 < 24
      · simp [q1]
      · simp [q1]
/-- The parts of an instant, read one after another. -/
structure IP where (y m d h i s : Int) (f : List Int) (o : Int) (ok : Bool) (e : X)
def ipX (n : Nat) (B : List Int) : IP :=
  let dt := dateI n (.good B)
  let h := numI n [84] 2 dt.1
  let i := numI n [58] 2 h.1
  let s := numI n [58] 2 i.1
  let f := fracI n s.1
  let o := offI n f.1
  ⟨dt.2.1, dt.2.2.1, dt.2.2.2, h.2, i.2, s.2, f.2, o.2.1, o.2.2, o.1⟩
def IP.nano (p : IP) : Int := if p.f = [] then 0 else val10 p.f * 10 ^ (9 - p.f.length)
def IP.lab (p : IP) : Lab := ⟨p.y, p.m, p.d, p.h, p.i, p.s, p.nano, p.o⟩
def IP.err (p : IP) : Int :=
  if p.e.end ≠ none then 2 else if 9 < p.f.length then 3 else if p.ok = false then 1 else labErr p.lab
@[reducible] def zli : Int × (Int × (Int × (Int × (Int × (Int × (Int × (Int × Unit))))))) := (0, (0, (0, (0, (0, (0, (0, (0, ()))))))))
theorem iso_frac_of {l : List Int} (hf : ∀ x ∈ l, isF x) (h0 : l ≠ []) (h : l.length ≤ 9) : fracE (strOf l) = 0 ∧ fracV (strOf l) = val10 l * 10 ^ (9 - l.length) := by
  have ho : okBy l := figs_okBy hf
  have hp : 0 < l.length := List.length_pos_iff.2 h0
  have ha : allF (strOf l) := by
    unfold allF
    rw [str_size, by_str ho]
    exact ⟨hp, lead_all hf⟩
  refine ⟨?_, by unfold fracV; rw [str_size, by_str ho]⟩
  unfold fracE
  rw [if_neg (by rw [str_size]; omega), if_pos ha]
theorem iso_parse (s : ByteArray) (hs : s.size ≤ 1000000) : g_iso_Parse ((), ((s, ()), ())) = some ((), (if (ipX s.size (bytesOf s)).err = 0 then (ipX s.size (bytesOf s)).lab.t else zli, ((errOf (ipX s.size (bytesOf s)).err, ()), ()))) := by
  have l84 : (⟨#[84]⟩ : ByteArray) = strOf [84] := by kernel_rfl
  have l58 : (⟨#[58]⟩ : ByteArray) = strOf [58] := by kernel_rfl
  have w0 := X.wf_new s
  have h0 := scan_new s
  have h1 := iso_date s _ w0 hs
  have w1 := dateI_wf w0
  have h2 := iso_number s _ w1 hs [84] (ib1 (by omega)) (by decide)
  have w2 := numI_wf w1 [84] 2
  have h3 := iso_number s _ w2 hs [58] (ib1 (by omega)) (by decide)
  have w3 := numI_wf w2 [58] 2
  have h4 := iso_number s _ w3 hs [58] (ib1 (by omega)) (by decide)
  have w4 := numI_wf w3 [58] 2
  have h5 := iso_fraction s _ w4 hs
  have w5 := fracI_wf w4
  have h6 := iso_offset s _ w5 hs
  have w6 := offI_wf w5
  have h7 := scan_end s _ w6
  have hfl := fracI_len w4
  have hff : ∀ y ∈ (fracI s.size (numI s.size [58] 2 (numI s.size [58] 2 (numI s.size [84] 2 (dateI s.size (.good (bytesOf s))).1).1).1).1).2, isF y := fracI_figs
  simp only [X.t, X.p] at h0 h1 h2 h3 h4 h5 h6 h7
  have hp : ipX s.size (bytesOf s) = ⟨(dateI s.size (.good (bytesOf s))).2.1, (dateI s.size (.good (bytesOf s))).2.2.1, (dateI s.size (.good (bytesOf s))).2.2.2, (numI s.size [84] 2 (dateI s.size (.good (bytesOf s))).1).2,
    (numI s.size [58] 2 (numI s.size [84] 2 (dateI s.size (.good (bytesOf s))).1).1).2, (numI s.size [58] 2 (numI s.size [58] 2 (numI s.size [84] 2 (dateI s.size (.good (bytesOf s))).1).1).1).2,
    (fracI s.size (numI s.size [58] 2 (numI s.size [58] 2 (numI s.size [84] 2 (dateI s.size (.good (bytesOf s))).1).1).1).1).2,
    (offI s.size (fracI s.size (numI s.size [58] 2 (numI s.size [58] 2 (numI s.size [84] 2 (dateI s.size (.good (bytesOf s))).1).1).1).1).1).2.1,
    (offI s.size (fracI s.size (numI s.size [58] 2 (numI s.size [58] 2 (numI s.size [84] 2 (dateI s.size (.good (bytesOf s))).1).1).1).1).1).2.2,
    (offI s.size (fracI s.size (numI s.size [58] 2 (numI s.size [58] 2 (numI s.size [84] 2 (dateI s.size (.good (bytesOf s))).1).1).1).1).1).1⟩ := rfl
  have hc := label_check (ipX s.size (bytesOf s)).lab
  simp only [g_iso_Parse, f_iso_Parse_m, h0, l84, l58, h1, h2, h3, h4, h5, h6, h7, Option.bind_some]
  generalize ipX s.size (bytesOf s) = P at hp hc ⊢
  have p1 := congrArg IP.y hp
  have p2 := congrArg IP.m hp
  have p3 := congrArg IP.d hp
  have p4 := congrArg IP.h hp
  have p5 := congrArg IP.i hp
  have p6 := congrArg IP.s hp
  have p7 := congrArg IP.f hp
  have p8 := congrArg IP.o hp
  have p9 := congrArg IP.ok hp
  have p10 := congrArg IP.e hp
  simp only at p1 p2 p3 p4 p5 p6 p7 p8 p9 p10
  rw [← p7] at hff hfl
  simp only [← p1, ← p2, ← p3, ← p4, ← p5, ← p6, ← p7, ← p8, ← p9, ← p10, str_size, sc_nil, str_emp, fitsS_dec, Option.bind_some, Option.isNone_none, Option.isNone_some, Option.isSome_none, Option.isSome_some, Bool.not_true, Bool.not_false, cond_true, cond_false, cond_dec, beq_int, bne_int, not_dec]
  unfold IP.err
  cases he : P.e.end with
  | some c =>
    rw [if_pos (show (some c : Option Int) ≠ none by simp), if_neg (show ¬((2 : Int) = 0) by decide)]; rfl
  | none =>
    rw [if_neg (show ¬((none : Option Int) ≠ none) by simp)]
    simp only [Option.isNone_none, Bool.not_true, cond_false, gt_iff_lt]
    by_cases c1 : 9 < P.f.length
    · rw [if_pos (by omega), if_pos c1, if_neg (show ¬((3 : Int) = 0) by decide)]; rfl
    · rw [if_neg (by omega), if_neg c1]
      cases hk : P.ok
      · rw [if_pos rfl, if_neg (show ¬((1 : Int) = 0) by decide)]; rfl
      · rw [if_neg (show ¬((true : Bool) = false) by decide)]
        simp only [Bool.not_true, cond_false]
        simp only [Lab.t, IP.lab] at hc
        by_cases c2 : P.f = []
        · have hn : P.nano = 0 := if_pos c2
          rw [hn] at hc
          simp only [c2, not_true_eq_false, if_false, hc, errOf_none, fitsS_dec, Option.bind_some, Option.isNone_none, Option.isNone_some, Option.isSome_none, Option.isSome_some, Bool.not_true, Bool.not_false, cond_true, cond_false, cond_dec, beq_int, bne_int, not_dec, IP.lab, hn, Lab.t]
          by_cases c3 : labErr ⟨P.y, P.m, P.d, P.h, P.i, P.s, 0, P.o⟩ = 0
          · simp only [c3, not_true_eq_false, if_false, if_true]; rfl
          · simp only [c3, not_false_eq_true, if_true, if_false]
        · have hn : P.nano = val10 P.f * 10 ^ (9 - P.f.length) := if_neg c2
          have hfr := iso_frac_of hff c2 (by omega)
          have hF := fig_fraction (strOf P.f) (by rw [str_size]; omega)
          rw [hfr.1, if_pos rfl, hfr.2, ← hn, errOf_zero] at hF
          simp only [c2, not_false_eq_true, if_true, hF, hc, errOf_none, fitsS_dec, Option.bind_some, Option.isNone_none, Option.isNone_some, Option.isSome_none, Option.isSome_some, Bool.not_true, Bool.not_false, cond_true, cond_false, cond_dec, beq_int, bne_int, not_dec, IP.lab, Lab.t]
          by_cases c3 : labErr ⟨P.y, P.m, P.d, P.h, P.i, P.s, P.nano, P.o⟩ = 0
          · simp only [c3, not_true_eq_false, if_false, if_true]; rfl
          · simp only [c3, not_false_eq_true, if_true, if_false]
end Go.Proofs.YtddnfappkfiidaaGreat.Ev
