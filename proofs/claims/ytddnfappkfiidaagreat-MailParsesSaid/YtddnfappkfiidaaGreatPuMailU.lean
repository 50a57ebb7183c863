/- Mail dates: the reader among a text's parts, step by step. -/
import Derived.Test.YtddnfappkfiidaaGreatPuMailT
namespace Go.Proofs.YtddnfappkfiidaaGreat.Ev
open Go
set_option linter.unusedVariables false
set_option linter.unusedSimpArgs false
theorem gap_stay (n : Nat) {c : Int} {r : List Int} (h : ¬ spc c ∧ c ≠ 40) : gapX n (.good (c :: r)) = (.good (c :: r), false) := by
  simp only [gapX, gp_no h.1 h.2]; simp
theorem tk_head {c : Int} {r : List Int} (h : gp (c :: r) = some (c :: r)) : tk (c :: r) = (tk (r.drop (wrd c r))).map fun T => (false, c :: r.take (wrd c r)) :: T := by
  rw [tk_cons h]; simp
theorem wrd_odd {c : Int} (h1 : ¬ isF c) (h2 : ¬ isL c) (r : List Int) : wrd c r = 0 := by unfold wrd; rw [if_neg h1, if_neg h2]
theorem end_sim {α : Type} (n : Nat) (l : List Int) (v : α) : Rr ((tk l).bind fun T => match T with | [] => some v | _ :: _ => none) ((gapX n (.good l)).1, v) := by
  cases hg : gp l with
  | none =>
    rw [tk_none hg]
    simp only [gapX, hg]; exact bad_end _ _
  | some r =>
    cases r with
    | nil =>
      rw [tk_nil hg]
      simp only [gapX, hg]; exact ⟨by simp [X.end], rfl⟩
    | cons c r =>
      rw [tk_cons hg, Option.bind_map]
      refine Rr_all (fun a => rfl) ?_
      simp only [gapX, hg]; simp [X.end]
theorem leadL_run : ∀ l : List Int, runN letL l = leadL l
  | [] => rfl
  | x :: l => by
    have : x ∈ letL ↔ isL x := by
      unfold isL
      constructor
      · intro h; simp only [letL, List.mem_cons, List.not_mem_nil, or_false] at h; omega
      · intro h; simp only [letL, List.mem_cons, List.not_mem_nil, or_false]; omega
    unfold runN leadL
    by_cases c : isL x
    · rw [if_pos (this.2 c), if_pos c, leadL_run l]
    · rw [if_neg (fun q => c (this.1 q)), if_neg c]
theorem zoV_odd {c : Int} (h : ¬ isL c) (r : List Int) : (zoV ((c :: r).map up)).2 = false := by
  have hu : up c = c := by unfold isL at h; unfold up; rw [if_neg (by omega)]
  have hne : ∀ x : Int, 65 ≤ x → x ≤ 90 → ¬ c = x := fun x h1 h2 q => by unfold isL at h; omega
  simp only [zoV, List.map_cons, hu, List.cons.injEq, List.length_cons, List.getD_cons_zero]
  simp only [hne 85 (by decide) (by decide), hne 71 (by decide) (by decide), hne 69 (by decide) (by decide), hne 67 (by decide) (by decide), hne 77 (by decide) (by decide), hne 80 (by decide) (by decide), hne 74 (by decide) (by decide), false_and, if_false]
  split
  · have : ¬ (65 ≤ c ∧ c ≤ 90) := by unfold isL at h; omega
    simp [this]
  · rfl
def numT (neg : Bool) : List Tok → Option (Int × Bool)
  | [(g, w)] => if g = false ∧ figW w 4 4 then some (if neg then -(val10 (w.take 2) * 60 + val10 (w.drop 2)) else val10 (w.take 2) * 60 + val10 (w.drop 2), decide (val10 (w.take 2) < 24 ∧ val10 (w.drop 2) < 60)) else none
  | _ => none
theorem lead_drop2 : ∀ (k : Nat) (r : List Int), k ≤ lead r → lead (r.drop k) = lead r - k
  | 0, r, _ => rfl
  | k + 1, [], h => by simp [lead]
  | k + 1, x :: l, h => by
    by_cases c : isF x
    · rw [lead_cons c] at h
      rw [List.drop_succ_cons, lead_drop2 k l (by omega), lead_cons c]; omega
    · rw [lead_not c] at h; omega
theorem fig_bad (n a b : Nat) (ha : 1 ≤ a) {l : List Int} (h : lead l < a) : figX n a b (.good l) = (.bad (n - l.length) 2, 0) := by
  simp only [figX, if_neg (show ¬ a ≤ min (lead l) b by omega)]
theorem num_sim (n : Nat) (neg : Bool) (r : List Int) : Rr ((tk r).bind (numT neg)) ((gapX n (numZ n neg (.good r)).1).1, (numZ n neg (.good r)).2) := by
  have hb : lead r < 2 → (gapX n (numZ n neg (.good r)).1).1.end ≠ none := fun h => by
    have e : (numZ n neg (.good r)).1 = (figX n 2 2 (figX n 2 2 (.good r)).1).1 := rfl
    rw [e, fig_bad n 2 2 (by decide) h]
    simp only [figX, gapX]; exact bad_end _ _
  have hgap : ∀ x q, r = x :: q → ¬ isF x → lead r < 2 := fun x q e h => by rw [e, lead_not h]; decide
  cases hg : gp r with
  | none =>
    rw [tk_none hg]
    refine Rr_none (hb ?_)
    cases r with
    | nil => cases hg
    | cons x q =>
      refine hgap x q rfl (fun hx => ?_)
      rw [gp_no (isF_gap hx).1 (isF_gap hx).2] at hg; cases hg
  | some t =>
    cases t with
    | nil =>
      rw [tk_nil hg]
      refine Rr_none (hb ?_)
      cases r with
      | nil => decide
      | cons x q =>
        refine hgap x q rfl (fun hx => ?_)
        rw [gp_no (isF_gap hx).1 (isF_gap hx).2] at hg; cases hg
    | cons x q =>
      rw [tk_cons hg, Option.bind_map]
      by_cases hf : isF x ∧ r = x :: q
      · obtain ⟨hx, e⟩ := hf
        subst e
        have hw : wrd x q = lead q := by unfold wrd; rw [if_pos hx]
        rw [hw]
        simp only [Nat.lt_irrefl, decide_false]
        have hL := lead_cons hx q
        have hll := lead_le q
        by_cases c2 : lead q + 1 < 2
        · refine Rr_all (fun T => ?_) (hb (by omega))
          have : ¬ figW (x :: q.take (lead q)) 4 4 := fun h => by have := h.1; simp only [List.length_cons, List.length_take] at this; omega
          cases T <;> simp [numT, this]
        · have e1 : figX n 2 2 (.good (x :: q)) = (.good ((x :: q).drop 2), val10 ((x :: q).take 2)) := by
            simp only [figX, show min (lead (x :: q)) 2 = 2 by omega, Nat.le_refl, if_true]
          have l2 := lead_drop2 2 (x :: q) (by omega)
          by_cases c4 : lead q + 1 < 4
          · refine Rr_all (fun T => ?_) ?_
            · have : ¬ figW (x :: q.take (lead q)) 4 4 := fun h => by have := h.1; simp only [List.length_cons, List.length_take] at this; omega
              cases T <;> simp [numT, this]
            · have e : (numZ n neg (.good (x :: q))).1 = (figX n 2 2 (figX n 2 2 (.good (x :: q))).1).1 := rfl
              rw [e, e1, fig_bad n 2 2 (by decide) (show lead ((x :: q).drop 2) < 2 by omega)]
              simp only [gapX]; exact bad_end _ _
          · have e2 : figX n 2 2 (.good ((x :: q).drop 2)) = (.good ((x :: q).drop 4), val10 (((x :: q).drop 2).take 2)) := by
              simp only [figX, show min (lead ((x :: q).drop 2)) 2 = 2 by omega, Nat.le_refl, if_true, List.drop_drop]
            by_cases c5 : lead q + 1 = 4
            · have e3 : lead q = 3 := by omega
              have hs := end_sim n (q.drop 3) (if neg then -(val10 ((x :: q).take 2) * 60 + val10 (((x :: q).drop 2).take 2)) else val10 ((x :: q).take 2) * 60 + val10 (((x :: q).drop 2).take 2), decide (val10 ((x :: q).take 2) < 24 ∧ val10 (((x :: q).drop 2).take 2) < 60))
              simp only [numZ, e1, e2, e3]
              have hfig : figW (x :: q.take 3) 4 4 := by
                have := (figW_wrd (c := x) (r := q) (a := 4) (b := 4) (by decide)).2 ⟨hx, by omega, by omega⟩
                rwa [hw, e3] at this
              have v1 : (x :: q.take 3).take 2 = (x :: q).take 2 := by simp [List.take_take]
              have v2 : (x :: q.take 3).drop 2 = ((x :: q).drop 2).take 2 := by
                simp only [List.drop_succ_cons, List.drop_zero]
                rw [List.drop_take]
              simp only [List.drop_succ_cons] at hs ⊢
              refine Eq.mp (congrArg (fun z => Rr z _) (congrArg _ (funext fun T => ?_))) hs
              cases T with
              | nil => simp only [Function.comp, numT, hfig, and_self, if_true, v1, v2, List.drop_succ_cons]
              | cons a T => simp only [Function.comp, numT]
            · refine Rr_all (fun T => ?_) ?_
              · have : ¬ figW (x :: q.take (lead q)) 4 4 := fun h => by have := h.2.1; simp only [List.length_cons, List.length_take] at this; omega
                cases T <;> simp [numT, this]
              · simp only [numZ, e1, e2]
                have hlen : 4 < (x :: q).length := by simp only [List.length_cons]; omega
                have hat := lead_at (l := x :: q) (i := 4) (by omega)
                rw [List.getD_eq_getElem?_getD, List.getElem?_eq_getElem hlen] at hat
                have hat : isF ((x :: q)[4]) := hat
                rw [List.drop_eq_getElem_cons hlen, gap_stay n (isF_gap hat)]
                simp only [X.end, reduceCtorEq, if_false]; simp
      · by_cases hfl : r = x :: q
        · subst hfl
          have hx : ¬ isF x := fun h => hf ⟨h, rfl⟩
          refine Rr_all (fun T => ?_) (hb (hgap x q rfl hx))
          have : ¬ figW (x :: q.take (wrd x q)) 4 4 := fun h => hx ((figW_wrd (by decide)).1 h).1
          cases T <;> simp [numT, this]
        · have hlen : (x :: q).length < r.length := by
            obtain ⟨p, hp⟩ := gp_cut r.length r _ (Nat.le_refl _) hg
            cases p with
            | nil => exact absurd hp hfl
            | cons y p => rw [hp]; simp only [List.length_append, List.length_cons]; omega
          refine Rr_all (fun T => ?_) (hb ?_)
          · cases T <;> simp [numT, hlen]
            simp only [List.length_cons] at hlen
            omega
          · cases r with
            | nil => simp at hlen
            | cons y p =>
              refine hgap y p rfl (fun hy => hfl ?_)
              rw [gp_no (isF_gap hy).1 (isF_gap hy).2] at hg
              exact Option.some.inj hg
theorem zonT_sign {s : List Int} (f : Bool) (h : s = [43] ∨ s = [45]) (T : List Tok) : zonT ((f, s) :: T) = numT (decide (s = [45])) T := by
  cases T with
  | nil =>
    rcases h with rfl | rfl <;> simp [zonT, numT, zoV, up]
  | cons a T =>
    obtain ⟨g, w⟩ := a
    cases T with
    | nil => simp only [zonT, numT, h, true_and, decide_eq_true_eq]
    | cons b T => simp only [zonT, numT]
theorem zonT_name {s : List Int} (f : Bool) (h : ¬ (s = [43] ∨ s = [45])) (T : List Tok) : zonT ((f, s) :: T) = match T with | [] => (if (zoV (s.map up)).2 = true then some ((zoV (s.map up)).1, true) else none) | _ :: _ => none := by
  cases T with
  | nil => simp only [zonT]
  | cons a T =>
    obtain ⟨g, w⟩ := a
    cases T with
    | nil => simp only [zonT, h, false_and, if_false]
    | cons b T => simp only [zonT]
theorem one_is {c : Int} (r : List Int) : oneX c (.good (c :: r)) = true := by simp [oneX, X.rest]
theorem one_not {c d : Int} (h : ¬ d = c) (r : List Int) : oneX c (.good (d :: r)) = false := by simp [oneX, X.rest, h]
theorem zon_sim (n : Nat) {l : List Int} (hl : gp l = some l) : Rr ((tk l).bind zonT) (zonK n (.good l)) := by
  cases l with
  | nil =>
    rw [tk_nil hl]
    refine Rr_none ?_
    simp [zonK, zonX, oneX, X.rest, namZ, runN, zoV, failX, takeX, gapX, X.end]
  | cons c r =>
    rw [tk_head hl, Option.bind_map]
    by_cases c1 : c = 45
    · subst c1
      have h := num_sim n true r
      rw [wrd_odd (by decide) (by decide)]
      simp only [zonK, zonX, one_is, if_true, takeX, List.drop_succ_cons, List.drop_zero, List.take_zero]
      refine Eq.mp (congrArg (fun z => Rr z _) (congrArg _ (funext fun T => ?_))) h
      exact (zonT_sign false (Or.inr rfl) T).symm
    · by_cases c2 : c = 43
      · subst c2
        have h := num_sim n false r
        rw [wrd_odd (by decide) (by decide)]
        simp only [zonK, zonX, one_is, one_not c1, Bool.false_eq_true, if_false, if_true, takeX, List.drop_succ_cons, List.drop_zero, List.take_zero]
        refine Eq.mp (congrArg (fun z => Rr z _) (congrArg _ (funext fun T => ?_))) h
        exact (zonT_sign false (Or.inl rfl) T).symm
      · have hs : ¬ (c :: r.take (wrd c r) = [43] ∨ c :: r.take (wrd c r) = [45]) := by
          intro q
          rcases q with q | q
          · exact c2 (List.cons.inj q).1
          · exact c1 (List.cons.inj q).1
        simp only [zonK, zonX, one_not c1, one_not c2, Bool.false_eq_true, if_false, namZ, X.rest, leadL_run]
        have hz : ∀ T, (zonT ∘ fun T => (false, c :: r.take (wrd c r)) :: T) T = _ := fun T => zonT_name false hs T
        by_cases c3 : isL c
        · have hw : wrd c r = leadL r := by unfold wrd; rw [if_neg (isL_F c3), if_pos c3]
          have hk : leadL (c :: r) = leadL r + 1 := by simp only [leadL, if_pos c3]
          rw [hk, hw]
          rw [hw] at hz
          simp only [List.take_succ_cons, takeX, List.drop_succ_cons]
          by_cases hv : (zoV ((c :: r.take (leadL r)).map up)).2 = true
          · rw [if_pos hv]
            have h := end_sim n (r.drop (leadL r)) ((zoV ((c :: r.take (leadL r)).map up)).1, true)
            refine Eq.mp (congrArg (fun z => Rr z _) (congrArg _ (funext fun T => ?_))) h
            rw [hz T, if_pos hv]
          · rw [if_neg hv]
            refine Rr_all (fun T => ?_) (by simp only [failX, gapX]; exact bad_end _ _)
            rw [hz T, if_neg hv]
            cases T <;> rfl
        · have hk : leadL (c :: r) = 0 := by simp only [leadL, if_neg c3]
          have hv := zoV_odd c3 (r.take (wrd c r))
          refine Rr_all (fun T => ?_) ?_
          · rw [hz T, hv]
            cases T <;> rfl
          · rw [hk]
            simp [zoV, failX, takeX, gapX, X.end]
theorem zonK_dig (n : Nat) {c : Int} (h : isF c) (r : List Int) : (zonK n (gapX n (.good (c :: r))).1).1.end ≠ none := by
  rw [gap_stay n (isF_gap h)]
  have c1 : ¬ c = 45 := by unfold isF at h; omega
  have c2 : ¬ c = 43 := by unfold isF at h; omega
  have c3 : ¬ isL c := fun q => isL_F q h
  have hk : leadL (c :: r) = 0 := by simp only [leadL, if_neg c3]
  simp only [zonK, zonX, one_not c1, one_not c2, Bool.false_eq_true, if_false, namZ, X.rest, leadL_run, hk]
  simp [zoV, failX, takeX, gapX, X.end]
theorem blind_fig {α : Type} (F : List Tok → Option α) (a b : Nat) : blind (figT F a b) := fun f g w T => rfl
theorem blind_zon : blind zonT := fun f g w T => by
  cases T with
  | nil => rfl
  | cons a T =>
    cases T with
    | nil => rfl
    | cons b T => rfl
theorem sec_sim (n : Nat) {l : List Int} (hl : gp l = some l) : Rr ((tk l).bind secT) (secK n (.good l)) := by
  cases l with
  | nil =>
    have h := zon_sim n hl
    rw [tk_nil hl] at h ⊢
    refine Rr_none ?_
    have e : secX n (.good []) = (.good [], 0) := by simp [secX, oneX, X.rest]
    simp only [secK, e]; exact h
  | cons c r =>
    by_cases c1 : c = 58
    · subst c1
      rw [tk_head hl, Option.bind_map, wrd_odd (by decide) (by decide)]
      have hg : ∀ l, Rr ((tk l).bind zonT) (zonK n (gapX n (.good l)).1) := gap_sim n (zonK_bad n) blind_zon fun l hl => zon_sim n hl
      have h := gap_sim n (K := fun x => ((zonK n (gapX n (figX n 2 2 x).1).1).1, ((figX n 2 2 x).2, (zonK n (gapX n (figX n 2 2 x).1).1).2))) (fun i c => zonK_bad n i c) (blind_fig zonT 2 2)
        (fun l hl => fig_sim n 2 2 (by decide) (Nat.le_refl _) (zonK_bad n) (fun c r hc => zonK_dig n hc r) hg hl) r
      simp only [secK, secX, one_is, if_true, takeX, List.drop_succ_cons, List.drop_zero, List.take_zero]
      refine Eq.mp (congrArg (fun z => Rr z _) (congrArg _ (funext fun T => ?_))) h
      cases T with
      | nil => simp [secT, figT]
      | cons a T => simp [secT, figT]
    · have h := zon_sim n hl
      rw [tk_head hl, Option.bind_map] at h ⊢
      have e : secX n (.good (c :: r)) = (.good (c :: r), 0) := by simp only [secX, one_not c1, Bool.false_eq_true, if_false]
      simp only [secK, e]
      have hw : ¬ c :: r.take (wrd c r) = [58] := fun q => c1 (List.cons.inj q).1
      have h2 := Rr_map (fun v => ((0 : Int), v)) h
      refine Eq.mp (congrArg (fun z => Rr z _) ?_) h2
      cases tk (r.drop (wrd c r)) with
      | none => rfl
      | some T => simp only [Option.bind_some, Function.comp, secT, if_neg hw]
theorem blind_sec : blind secT := fun f g w T => by
  have hz := blind_zon f g w T
  simp only [secT, hz]
theorem secK_dig (n : Nat) {c : Int} (h : isF c) (r : List Int) : (secK n (gapX n (.good (c :: r))).1).1.end ≠ none := by
  have hz := zonK_dig n h r
  rw [gap_stay n (isF_gap h)] at hz ⊢
  have c1 : ¬ c = 58 := by unfold isF at h; omega
  have e : secX n (.good (c :: r)) = (.good (c :: r), 0) := by simp only [secX, one_not c1, Bool.false_eq_true, if_false]
  simp only [secK, e]; exact hz
theorem min_sim (n : Nat) {l : List Int} (hl : gp l = some l) : Rr ((tk l).bind minT) (minK n (.good l)) := by
  have hg : ∀ l, Rr ((tk l).bind secT) (secK n (gapX n (.good l)).1) := gap_sim n (secK_bad n) blind_sec fun l hl => sec_sim n hl
  have h := fig_sim n 2 2 (by decide) (Nat.le_refl _) (secK_bad n) (fun c r hc => secK_dig n hc r) hg hl
  refine Eq.mp (congrArg (fun z => Rr z _) (congrArg _ (funext fun T => ?_))) h
  cases T <;> rfl
theorem blind_min : blind minT := fun f g w T => rfl
theorem isW_58 (c : Int) (r : List Int) : isW [58] (c :: r) ↔ c = 58 := by
  unfold isW low
  simp only [List.length_cons, List.length_nil, List.take_succ_cons, List.take_zero, List.map_cons, List.map_nil, List.cons.injEq, and_true]
  constructor
  · rintro ⟨_, h⟩; rw [if_neg (show ¬ (65 ≤ (58 : Int) ∧ (58 : Int) ≤ 90) by decide)] at h; split at h <;> omega
  · rintro rfl; exact ⟨by omega, rfl⟩
theorem col_sim (n : Nat) {l : List Int} (hl : gp l = some l) : Rr ((tk l).bind colT) (colK n (.good l)) := by
  have hbad : ∀ l, ¬ isW [58] l → (colK n (.good l)).1.end ≠ none := fun l h => by
    have : mustX n [58] (.good l) = .bad (n - l.length) 2 := by simp only [mustX, foldX, if_neg h, Bool.false_eq_true, if_false, failX]
    simp only [colK, this]; exact minK_bad n _ _
  cases l with
  | nil =>
    rw [tk_nil hl]
    exact Rr_none (hbad [] (by unfold isW; simp))
  | cons c r =>
    rw [tk_head hl, Option.bind_map]
    by_cases c1 : c = 58
    · subst c1
      rw [wrd_odd (by decide) (by decide)]
      have : mustX n [58] (.good (58 :: r)) = .good r := by
        simp only [mustX, foldX, if_pos ((isW_58 58 r).2 rfl), if_true, List.length_cons, List.length_nil, List.drop_succ_cons, List.drop_zero]
      have h := gap_sim n (minK_bad n) blind_min (fun l hl => min_sim n hl) r
      simp only [colK, this, List.take_zero, List.drop_zero]
      refine Eq.mp (congrArg (fun z => Rr z _) (congrArg _ (funext fun T => ?_))) h
      simp [colT]
    · refine Rr_all (fun T => ?_) (hbad _ (fun q => c1 ((isW_58 c r).1 q)))
      have hw : ¬ c :: r.take (wrd c r) = [58] := fun q => c1 (List.cons.inj q).1
      simp only [Function.comp, colT, if_neg hw]
theorem blind_col : blind colT := fun f g w T => rfl
theorem hour_sim (n : Nat) {l : List Int} (hl : gp l = some l) : Rr ((tk l).bind hourT) (hourK n (.good l)) := by
  have hg : ∀ l, Rr ((tk l).bind colT) (colK n (gapX n (.good l)).1) := gap_sim n (colK_bad n) blind_col fun l hl => col_sim n hl
  have hd : ∀ c r, isF c → (colK n (gapX n (.good (c :: r))).1).1.end ≠ none := fun c r hc => by
    rw [gap_stay n (isF_gap hc)]
    have : ¬ isW [58] (c :: r) := fun q => by have := (isW_58 c r).1 q; unfold isF at hc; omega
    have e : mustX n [58] (.good (c :: r)) = .bad (n - (c :: r).length) 2 := by simp only [mustX, foldX, if_neg this, Bool.false_eq_true, if_false, failX]
    simp only [colK, e]; exact minK_bad n _ _
  have h := fig_sim n 2 2 (by decide) (Nat.le_refl _) (colK_bad n) hd hg hl
  refine Eq.mp (congrArg (fun z => Rr z _) (congrArg _ (funext fun T => ?_))) h
  cases T <;> rfl
theorem hrg_sim (n : Nat) (l : List Int) : Rr ((tk l).bind hourG) (hrgK n (.good l)) := by
  cases hg : gp l with
  | none =>
    rw [tk_none hg]
    simp only [hrgK, gapX, hg, Bool.false_eq_true, if_false, failX]; exact hourK_bad n _ _
  | some r =>
    have hi := gp_idem l.length l r (Nat.le_refl _) hg
    have h1 := hour_sim n hi
    cases r with
    | nil =>
      rw [tk_nil hg]
      rw [tk_nil hi] at h1
      refine Rr_none ?_
      simp only [hrgK, gapX, hg]
      split
      · exact h1
      · exact hourK_bad n _ _
    | cons c r =>
      rw [tk_cons hg, Option.bind_map]
      rw [tk_head hi, Option.bind_map] at h1
      simp only [hrgK, gapX, hg]
      by_cases hf : (c :: r).length < l.length
      · simp only [hf, decide_true, if_true]
        refine Eq.mp (congrArg (fun z => Rr z _) (congrArg _ (funext fun T => ?_))) h1
        simp [hourG, hourT]
      · simp only [hf, decide_false, Bool.false_eq_true, if_false]
        exact Rr_all (fun T => by simp [hourG]) (hourK_bad n _ _)
theorem yr_sim (n : Nat) {l : List Int} (hl : gp l = some l) : Rr ((tk l).bind yrT) (yrK n (.good l)) := by
  have hbad : ∀ l, ¬ (2 ≤ lead l ∧ lead l ≤ 4) → (yrK n (.good l)).1.end ≠ none := fun l h => by
    simp only [yrK, yrX, if_neg h, takeX, failX]; exact hrgK_bad n _ _
  cases l with
  | nil => rw [tk_nil hl]; exact Rr_none (hbad [] (by simp [lead]))
  | cons c r =>
    rw [tk_head hl, Option.bind_map]
    by_cases h : 2 ≤ lead (c :: r) ∧ lead (c :: r) ≤ 4
    · have hc : isF c := by
        by_cases hc : isF c
        · exact hc
        · rw [lead_not hc] at h; omega
      have hw : wrd c r = lead r := by unfold wrd; rw [if_pos hc]
      rw [lead_cons hc] at h
      have hv := (figW_wrd (c := c) (r := r) (a := 2) (b := 4) (by decide)).2 ⟨hc, h.1, h.2⟩
      have hll := lead_le r
      have h1 := Rr_map (fun v => (yrV (lead r + 1) (val10 (c :: r.take (lead r))), v)) (hrg_sim n (r.drop (lead r)))
      rw [hw] at hv ⊢
      have h' : 2 ≤ lead (c :: r) ∧ lead (c :: r) ≤ 4 := by rw [lead_cons hc]; exact h
      simp only [yrK, yrX, if_pos h']
      simp only [lead_cons hc, List.drop_succ_cons, List.take_succ_cons]
      refine Eq.mp (congrArg (fun z => Rr z _) ?_) h1
      have hlen : (c :: r.take (lead r)).length = lead r + 1 := by simp only [List.length_cons, List.length_take]; omega
      cases tk (r.drop (lead r)) with
      | none => rfl
      | some T => simp only [Option.bind_some, Function.comp, yrT, if_pos hv, hlen]
    · refine Rr_all (fun T => ?_) (hbad _ h)
      have hv : ¬ figW (c :: r.take (wrd c r)) 2 4 := fun q => by
        obtain ⟨q1, q2, q3⟩ := (figW_wrd (by decide)).1 q
        rw [lead_cons q1] at h; omega
      simp only [Function.comp, yrT, if_neg hv]
end Go.Proofs.YtddnfappkfiidaaGreat.Ev
