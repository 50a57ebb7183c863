/- Mail dates: a text's parts, and the reader among them. -/
import Derived.Test.YtddnfappkfiidaaGreatPuMailQ
namespace Go.Proofs.YtddnfappkfiidaaGreat.Ev
open Go
set_option linter.unusedVariables false
set_option linter.unusedSimpArgs false
/-! ### parts -/
def isL (x : Int) : Prop := (65 ≤ x ∧ x ≤ 90) ∨ (97 ≤ x ∧ x ≤ 122)
instance (x : Int) : Decidable (isL x) := by unfold isL; infer_instance
def leadL : List Int → Nat
  | [] => 0
  | x :: l => if isL x then leadL l + 1 else 0
/-- How many more of its kind follow. -/
def wrd (c : Int) (r : List Int) : Nat := if isF c then lead r else if isL c then leadL r else 0
@[reducible] def Tok := Bool × List Int
def tkF : Nat → List Int → Option (List Tok)
  | 0, _ => none
  | n + 1, l => match gp l with
    | none => none
    | some [] => some []
    | some (c :: r) => (tkF n (r.drop (wrd c r))).map fun T => (decide ((c :: r).length < l.length), c :: r.take (wrd c r)) :: T
def tk (l : List Int) : Option (List Tok) := tkF (l.length + 1) l
theorem gp_len {l r : List Int} (h : gp l = some r) : r.length ≤ l.length := by
  obtain ⟨p, hp⟩ := gp_cut l.length l r (Nat.le_refl _) h
  rw [hp, List.length_append]; omega
theorem tkF_eq : ∀ (n m : Nat) (l : List Int), l.length < n → l.length < m → tkF n l = tkF m l := by
  intro n; induction n with
  | zero => intro m l hn; omega
  | succ n ih =>
    intro m l hn hm
    cases m with
    | zero => omega
    | succ m =>
      simp only [tkF]
      cases hg : gp l with
      | none => rfl
      | some r =>
        have := gp_len hg
        cases r with
        | nil => rfl
        | cons c r =>
          simp only [List.length_cons] at this
          simp only
          rw [ih m _ (by rw [List.length_drop]; omega) (by rw [List.length_drop]; omega)]
theorem tk_none {l : List Int} (h : gp l = none) : tk l = none := by simp only [tk, tkF, h]
theorem tk_nil {l : List Int} (h : gp l = some []) : tk l = some [] := by simp only [tk, tkF, h]
theorem tk_cons {l r : List Int} {c : Int} (h : gp l = some (c :: r)) : tk l = (tk (r.drop (wrd c r))).map fun T => (decide ((c :: r).length < l.length), c :: r.take (wrd c r)) :: T := by
  have := gp_len h
  simp only [List.length_cons] at this
  have e : tkF (l.length + 1) l = (tkF l.length (r.drop (wrd c r))).map fun T => (decide ((c :: r).length < l.length), c :: r.take (wrd c r)) :: T := by simp only [tkF, h]
  unfold tk
  rw [e, tkF_eq l.length ((r.drop (wrd c r)).length + 1) _ (by rw [List.length_drop]; omega) (by omega)]
theorem gp_self {c : Int} {r : List Int} (h : gp (c :: r) = some (c :: r)) : ¬ spc c ∧ c ≠ 40 := by
  constructor
  · intro q
    rw [gp_spc q] at h
    have := gp_len h
    simp only [List.length_cons] at this
    omega
  · intro q
    subst q
    rw [gp_rem] at h
    cases hr : rmk 1 r with
    | none => rw [hr] at h; cases h
    | some q =>
      rw [hr] at h
      obtain ⟨p, hp, _⟩ := rmk_cut r.length 1 r q (Nat.le_refl _) hr
      have h1 := gp_len h
      have : q.length ≤ r.length := by rw [hp, List.length_append]; omega
      simp only [List.length_cons] at h1
      omega
theorem gp_idem : ∀ (n : Nat) (l r : List Int), l.length ≤ n → gp l = some r → gp r = some r := by
  intro n; induction n with
  | zero =>
    intro l r hn h
    have : l = [] := List.length_eq_zero_iff.1 (by omega)
    subst this
    rw [gp_nil] at h
    rw [← Option.some.inj h]; rfl
  | succ n ih =>
    intro l r hn h
    cases l with
    | nil => rw [gp_nil] at h; rw [← Option.some.inj h]; rfl
    | cons x l =>
      simp only [List.length_cons] at hn
      by_cases c1 : spc x
      · rw [gp_spc c1] at h; exact ih l r (by omega) h
      · by_cases c2 : x = 40
        · subst c2
          rw [gp_rem] at h
          cases hr : rmk 1 l with
          | none => rw [hr] at h; cases h
          | some q =>
            rw [hr] at h
            obtain ⟨p, hp, _⟩ := rmk_cut l.length 1 l q (Nat.le_refl _) hr
            exact ih q r (by have : q.length ≤ l.length := (by rw [hp, List.length_append]; omega); omega) h
        · have h2 := gp_no c1 c2 l
          rw [h2] at h
          rw [← Option.some.inj h]; exact h2
/-! ### the reader on parts -/
def figW (w : List Int) (a b : Nat) : Prop := a ≤ w.length ∧ w.length ≤ b ∧ lead w = w.length
instance (w : List Int) (a b : Nat) : Decidable (figW w a b) := by unfold figW; infer_instance
/-- Which of some names. -/
def nmI (nm : Nat → List Int) : Nat → Nat → List Int → Nat
  | 0, _, _ => 0
  | k + 1, i, w => if w.map low = (nm i).map low then i else nmI nm k (i + 1) w
def zonT : List Tok → Option (Int × Bool)
  | [(_, w)] => if (zoV (w.map up)).2 = true then some ((zoV (w.map up)).1, true) else none
  | [(_, s), (g, w)] => if (s = [43] ∨ s = [45]) ∧ g = false ∧ figW w 4 4 then
      some (if s = [45] then -(val10 (w.take 2) * 60 + val10 (w.drop 2)) else val10 (w.take 2) * 60 + val10 (w.drop 2), decide (val10 (w.take 2) < 24 ∧ val10 (w.drop 2) < 60)) else none
  | _ => none
def secT : List Tok → Option (Int × (Int × Bool))
  | [] => none
  | (f, w) :: T => if w = [58] then (match T with
      | [] => none
      | (_, s) :: T => if figW s 2 2 then (zonT T).map fun v => (val10 s, v) else none) else (zonT ((f, w) :: T)).map fun v => (0, v)
def minT : List Tok → Option (Int × (Int × (Int × Bool)))
  | [] => none
  | (_, w) :: T => if figW w 2 2 then (secT T).map fun v => (val10 w, v) else none
def colT : List Tok → Option (Int × (Int × (Int × Bool)))
  | [] => none
  | (_, w) :: T => if w = [58] then minT T else none
def hourT : List Tok → Option (Int × (Int × (Int × (Int × Bool))))
  | [] => none
  | (_, w) :: T => if figW w 2 2 then (colT T).map fun v => (val10 w, v) else none
def hourG : List Tok → Option (Int × (Int × (Int × (Int × Bool))))
  | [] => none
  | (f, w) :: T => if f = true then hourT ((f, w) :: T) else none
def yrT : List Tok → Option (Int × (Int × (Int × (Int × (Int × Bool)))))
  | [] => none
  | (_, w) :: T => if figW w 2 4 then (hourG T).map fun v => (yrV w.length (val10 w), v) else none
def monT : List Tok → Option (Int × (Int × (Int × (Int × (Int × (Int × Bool))))))
  | [] => none
  | (_, w) :: T => if nmI moN 12 1 w = 0 then none else (yrT T).map fun v => ((nmI moN 12 1 w : Int), v)
def dayT : List Tok → Option (Int × (Int × (Int × (Int × (Int × (Int × (Int × Bool)))))))
  | [] => none
  | (_, w) :: T => if figW w 1 2 then (monT T).map fun v => (val10 w, v) else none
def wkdT : List Tok → Option (Int × (Int × (Int × (Int × (Int × (Int × (Int × (Int × Bool))))))))
  | (f, w) :: (g, c) :: T => if c = [44] then (if nmI wkN 7 1 w = 0 then none else (dayT T).map fun v => ((nmI wkN 7 1 w : Int), v)) else (dayT ((f, w) :: (g, c) :: T)).map fun v => (0, v)
  | T => (dayT T).map fun v => (0, v)
def zonK (n : Nat) (x : X) : X × (Int × Bool) := ((gapX n (zonX n x).1).1, (zonX n x).2)
def secK (n : Nat) (x : X) : X × (Int × (Int × Bool)) := ((zonK n (secX n x).1).1, ((secX n x).2, (zonK n (secX n x).1).2))
def minK (n : Nat) (x : X) : X × (Int × (Int × (Int × Bool))) :=
  let q := secK n (gapX n (figX n 2 2 x).1).1
  (q.1, ((figX n 2 2 x).2, q.2))
def colK (n : Nat) (x : X) : X × (Int × (Int × (Int × Bool))) := minK n (gapX n (mustX n [58] x)).1
def hourK (n : Nat) (x : X) : X × (Int × (Int × (Int × (Int × Bool)))) :=
  let q := colK n (gapX n (figX n 2 2 x).1).1
  (q.1, ((figX n 2 2 x).2, q.2))
def hrgK (n : Nat) (x : X) : X × (Int × (Int × (Int × (Int × Bool)))) :=
  let g := gapX n x
  hourK n (if g.2 then g.1 else failX n 2 g.1)
def yrK (n : Nat) (x : X) : X × (Int × (Int × (Int × (Int × (Int × Bool))))) :=
  let q := hrgK n (yrX n x).1
  (q.1, ((yrX n x).2, q.2))
def monK (n : Nat) (x : X) : X × (Int × (Int × (Int × (Int × (Int × (Int × Bool)))))) :=
  let o := oneK moN 12 1 x
  let q := yrK n (gapX n (if o.2 = 0 then failX n 2 o.1 else o.1)).1
  (q.1, (o.2, q.2))
def dayK (n : Nat) (x : X) : X × (Int × (Int × (Int × (Int × (Int × (Int × (Int × Bool))))))) :=
  let q := monK n (gapX n (figX n 1 2 x).1).1
  (q.1, ((figX n 1 2 x).2, q.2))
def wkdK (n : Nat) (x : X) : X × (Int × (Int × (Int × (Int × (Int × (Int × (Int × (Int × Bool)))))))) :=
  let q := dayK n (wkX n x).1
  (q.1, ((wkX n x).2, q.2))
attribute [local irreducible] gapX oneK figX wkX yrX mustX zonX failX secX in
theorem mpX_wkd (n : Nat) (B : List Int) : mpX n B = (let q := wkdK n (gapX n (.good B)).1; ⟨q.2.1, q.2.2.2.2.1, q.2.2.2.1, q.2.2.1, q.2.2.2.2.2.1, q.2.2.2.2.2.2.1, q.2.2.2.2.2.2.2.1, q.2.2.2.2.2.2.2.2.1, q.2.2.2.2.2.2.2.2.2, q.1⟩) := by
  simp only [mpX, wkdK, dayK, monK, yrK, hrgK, hourK, colK, minK, secK, zonK, dateX, clkX]
  try rfl
/-- What the parts tell and what the reader tells. -/
def Rr {α : Type} (A : Option α) (k : X × α) : Prop := match A with
  | some a => k.1.end = none ∧ k.2 = a
  | none => k.1.end ≠ none
theorem Rr_none {α : Type} {k : X × α} (h : k.1.end ≠ none) : Rr none k := h
theorem Rr_map {α β : Type} {A : Option α} {k : X × α} (f : α → β) (h : Rr A k) : Rr (A.map f) (k.1, f k.2) := by
  cases A with
  | none => exact h
  | some a => exact ⟨h.1, by rw [h.2]⟩
def dead {α : Type} (K : X → X × α) : Prop := ∀ i c, (K (.bad i c)).1.end ≠ none
theorem bad_end (i : Nat) (c : Int) : (X.bad i c).end ≠ none := by simp [X.end]
theorem zonK_bad (n : Nat) : dead (zonK n) := fun i c => by simp [zonK, zonX, oneX, X.rest, namZ, runN, zoV, failX, takeX, gapX, X.end]
theorem secK_bad (n : Nat) : dead (secK n) := fun i c => by
  have : secX n (.bad i c) = (.bad i c, 0) := by simp [secX, oneX, X.rest]
  simp only [secK, this]; exact zonK_bad n i c
theorem minK_bad (n : Nat) : dead (minK n) := fun i c => by simp only [minK, figX, gapX]; exact secK_bad n i c
theorem must_bad (n : Nat) (W : List Int) (i : Nat) (c : Int) : mustX n W (.bad i c) = .bad i c := by simp [mustX, foldX, failX]
theorem colK_bad (n : Nat) : dead (colK n) := fun i c => by simp only [colK, must_bad, gapX]; exact minK_bad n i c
theorem hourK_bad (n : Nat) : dead (hourK n) := fun i c => by simp only [hourK, figX, gapX]; exact colK_bad n i c
theorem hrgK_bad (n : Nat) : dead (hrgK n) := fun i c => by simp only [hrgK, gapX, failX, Bool.false_eq_true, if_false]; exact hourK_bad n i c
theorem yrK_bad (n : Nat) : dead (yrK n) := fun i c => by simp only [yrK, yrX]; exact hrgK_bad n i c
theorem oneK_bad (nm : Nat → List Int) (i : Nat) (c : Int) : ∀ k j, oneK nm k j (.bad i c) = (.bad i c, 0)
  | 0, _ => rfl
  | k + 1, j => by unfold oneK; simp only [foldX, Bool.false_eq_true, if_false]; exact oneK_bad nm i c k (j + 1)
theorem monK_bad (n : Nat) : dead (monK n) := fun i c => by
  simp only [monK, oneK_bad, if_true, failX, gapX]; exact yrK_bad n i c
theorem dayK_bad (n : Nat) : dead (dayK n) := fun i c => by simp only [dayK, figX, gapX]; exact monK_bad n i c
theorem wkdK_bad (n : Nat) : dead (wkdK n) := fun i c => by
  simp only [wkdK, wkX, oneK_bad, if_true]; exact dayK_bad n i c
/-- The first part's flag is not looked at. -/
def blind {α : Type} (F : List Tok → Option α) : Prop := ∀ f g w T, F ((f, w) :: T) = F ((g, w) :: T)
theorem gap_sim {α : Type} {F : List Tok → Option α} {K : X → X × α} (n : Nat) (hb : dead K) (hf : blind F) (h : ∀ l, gp l = some l → Rr ((tk l).bind F) (K (.good l))) (l : List Int) : Rr ((tk l).bind F) (K (gapX n (.good l)).1) := by
  cases hg : gp l with
  | none =>
    rw [tk_none hg]
    simp only [gapX, hg]; exact hb _ _
  | some r =>
    have hi := gp_idem l.length l r (Nat.le_refl _) hg
    have h1 := h r hi
    simp only [gapX, hg]
    cases r with
    | nil => rw [tk_nil hi] at h1; rw [tk_nil hg]; exact h1
    | cons c r =>
      rw [tk_cons hi] at h1
      rw [tk_cons hg]
      cases ht : tk (r.drop (wrd c r)) with
      | none => rw [ht] at h1; exact h1
      | some T =>
        rw [ht] at h1
        simp only [Option.map_some, Option.bind_some] at h1 ⊢
        rw [hf _ (decide ((c :: r).length < (c :: r).length))]; exact h1
/-! ### steps -/
theorem lead_cons {c : Int} (h : isF c) (r : List Int) : lead (c :: r) = lead r + 1 := by simp only [lead, if_pos h]
theorem lead_not {c : Int} (h : ¬ isF c) (r : List Int) : lead (c :: r) = 0 := by simp only [lead, if_neg h]
theorem isF_gap {c : Int} (h : isF c) : ¬ spc c ∧ c ≠ 40 := by unfold isF at h; unfold spc; omega
theorem isL_gap {c : Int} (h : isL c) : ¬ spc c ∧ c ≠ 40 := by unfold isL at h; unfold spc; omega
theorem isL_F {c : Int} (h : isL c) : ¬ isF c := by unfold isL at h; unfold isF; omega
theorem lead_take : ∀ (r : List Int), lead (r.take (lead r)) = lead r
  | [] => rfl
  | x :: l => by
    by_cases h : isF x
    · rw [lead_cons h, List.take_succ_cons, lead_cons h, lead_take l]
    · rw [lead_not h]; rfl
theorem figW_wrd {c : Int} {r : List Int} {a b : Nat} (ha : 1 ≤ a) : figW (c :: r.take (wrd c r)) a b ↔ isF c ∧ a ≤ lead r + 1 ∧ lead r + 1 ≤ b := by
  have hl := lead_le r
  unfold figW
  by_cases h : isF c
  · have : wrd c r = lead r := by unfold wrd; rw [if_pos h]
    rw [this, lead_cons h, lead_take]
    simp only [List.length_cons, List.length_take]
    constructor
    · intro q; exact ⟨h, by omega, by omega⟩
    · intro q; omega
  · rw [lead_not h]
    simp only [List.length_cons]
    constructor
    · intro q; omega
    · intro q; exact absurd q.1 h
theorem lead_drop_stop : ∀ (r : List Int), lead (r.drop (lead r)) = 0
  | [] => rfl
  | x :: l => by
    by_cases h : isF x
    · rw [lead_cons h, List.drop_succ_cons]; exact lead_drop_stop l
    · rw [lead_not h]; exact lead_not h l
/-- Figures, as a part. -/
def figT {α : Type} (F : List Tok → Option α) (a b : Nat) : List Tok → Option (Int × α)
  | [] => none
  | (_, w) :: T => if figW w a b then (F T).map fun v => (val10 w, v) else none
theorem Rr_all {α β : Type} {A : Option α} {F : α → Option β} {k : X × β} (hF : ∀ a, F a = none) (h : k.1.end ≠ none) : Rr (A.bind F) k := by
  have : A.bind F = none := by cases A with
    | none => rfl
    | some a => exact hF a
  rw [this]; exact h
theorem fig_sim {α : Type} {F : List Tok → Option α} {K : X → X × α} (n a b : Nat) (ha : 1 ≤ a) (hab : a ≤ b) (hb : dead K) (hd : ∀ c r, isF c → (K (gapX n (.good (c :: r))).1).1.end ≠ none)
    (h : ∀ l, Rr ((tk l).bind F) (K (gapX n (.good l)).1)) {l : List Int} (hl : gp l = some l) :
    Rr ((tk l).bind (figT F a b))
      ((K (gapX n (figX n a b (.good l)).1).1).1, ((figX n a b (.good l)).2, (K (gapX n (figX n a b (.good l)).1).1).2)) := by
  have hbad : ∀ i c, (K (gapX n (.bad i c)).1).1.end ≠ none := fun i c => hb i c
  cases l with
  | nil =>
    rw [tk_nil hl]
    have e : min (lead []) b = 0 := by simp [lead]
    simp only [figX, e, if_neg (show ¬ a ≤ 0 by omega), Option.bind_some]
    exact hbad _ _
  | cons c r =>
    rw [tk_cons hl]
    by_cases hc : isF c
    · have hw : wrd c r = lead r := by unfold wrd; rw [if_pos hc]
      have hll := lead_le r
      by_cases h1 : a ≤ lead r + 1
      · by_cases h2 : lead r + 1 ≤ b
        · have e : min (lead (c :: r)) b = lead r + 1 := by rw [lead_cons hc]; omega
          have h3 := h (r.drop (lead r))
          have hv : figW (c :: r.take (lead r)) a b := by have := (figW_wrd (c := c) (r := r) (a := a) (b := b) ha).2 ⟨hc, h1, h2⟩; rwa [hw] at this
          simp only [figX, e, if_pos h1, List.drop_succ_cons, List.take_succ_cons]
          rw [hw]
          cases ht : tk (r.drop (lead r)) with
          | none => rw [ht] at h3; exact h3
          | some T =>
            rw [ht] at h3
            simp only [Option.map_some, Option.bind_some, figT, if_pos hv] at h3 ⊢
            exact Rr_map (fun v => (val10 (c :: r.take (lead r)), v)) h3
        · have e : min (lead (c :: r)) b = b := by rw [lead_cons hc]; omega
          have hv : ¬ figW (c :: r.take (wrd c r)) a b := fun q => h2 ((figW_wrd ha).1 q).2.2
          rw [Option.bind_map]
          refine Rr_all (fun T => by simp only [Function.comp, figT, if_neg hv]) ?_
          simp only [figX, e, if_pos hab]
          have hlen : b < (c :: r).length := by simp only [List.length_cons]; omega
          have hat := lead_at (l := c :: r) (i := b) (by rw [lead_cons hc]; omega)
          rw [List.getD_eq_getElem?_getD, List.getElem?_eq_getElem hlen] at hat
          rw [List.drop_eq_getElem_cons hlen]
          exact hd _ _ hat
      · have e : min (lead (c :: r)) b = lead r + 1 := by rw [lead_cons hc]; omega
        have hv : ¬ figW (c :: r.take (wrd c r)) a b := fun q => h1 ((figW_wrd ha).1 q).2.1
        rw [Option.bind_map]
        refine Rr_all (fun T => by simp only [Function.comp, figT, if_neg hv]) ?_
        simp only [figX, e, if_neg h1]
        exact hbad _ _
    · have hv : ¬ figW (c :: r.take (wrd c r)) a b := fun q => hc ((figW_wrd ha).1 q).1
      rw [Option.bind_map]
      refine Rr_all (fun T => by simp only [Function.comp, figT, if_neg hv]) ?_
      have e : min (lead (c :: r)) b = 0 := by rw [lead_not hc]; omega
      simp only [figX, e, if_neg (show ¬ a ≤ 0 by omega)]
      exact hbad _ _
end Go.Proofs.YtddnfappkfiidaaGreat.Ev
