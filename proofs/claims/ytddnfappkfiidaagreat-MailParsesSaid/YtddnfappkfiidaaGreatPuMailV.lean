/- Mail dates: the reader among a text's parts: months, days, the whole. -/
import Derived.Test.YtddnfappkfiidaaGreatPuMailU
namespace Go.Proofs.YtddnfappkfiidaaGreat.Ev
open Go
set_option linter.unusedVariables false
set_option linter.unusedSimpArgs false
theorem low_L {x y : Int} (h : low x = low y) (hy : isL y) : isL x := by
  unfold low at h; unfold isL at *
  split at h <;> split at h <;> omega
theorem nmI_len {nm : Nat → List Int} {w : List Int} (hw : w.length ≠ 3) : ∀ (k i : Nat), (∀ j, i ≤ j → j < i + k → (nm j).length = 3) → nmI nm k i w = 0
  | 0, _, _ => rfl
  | k + 1, i, h => by
    have : ¬ w.map low = (nm i).map low := fun q => by
      have := congrArg List.length q
      rw [List.length_map, List.length_map, h i (Nat.le_refl _) (by omega)] at this
      exact hw this
    unfold nmI
    rw [if_neg this]; exact nmI_len hw k (i + 1) fun j h1 h2 => h j (by omega) (by omega)
theorem leadL_take : ∀ (r : List Int), (r.take (leadL r)).length = leadL r
  | [] => rfl
  | x :: l => by
    by_cases h : isL x
    · have : leadL (x :: l) = leadL l + 1 := by simp only [leadL, if_pos h]
      rw [this, List.take_succ_cons, List.length_cons, leadL_take l]
    · have : leadL (x :: l) = 0 := by simp only [leadL, if_neg h]
      rw [this]; rfl
theorem one_sim {nm : Nat → List Int} {c : Int} {r : List Int} : ∀ (k i : Nat), 1 ≤ i → (∀ j, i ≤ j → j < i + k → (nm j).length = 3 ∧ ∀ x ∈ nm j, isL x) →
    (nmI nm k i (c :: r.take (wrd c r)) ≠ 0 → (c :: r.take (wrd c r)).length = 3 ∧ isL c ∧ wrd c r = 2 ∧ oneK nm k i (.good (c :: r)) = (.good (r.drop 2), (nmI nm k i (c :: r.take (wrd c r)) : Int))) ∧
    (nmI nm k i (c :: r.take (wrd c r)) = 0 → oneK nm k i (.good (c :: r)) = (.good (c :: r), 0) ∨ (isL c ∧ ∃ (j : Int) (y : Int) (r' : List Int), oneK nm k i (.good (c :: r)) = (.good (y :: r'), j) ∧ j ≠ 0 ∧ isL y)) := by
  intro k; induction k with
  | zero => intro i h1 hn; exact ⟨fun h => absurd rfl h, fun _ => Or.inl rfl⟩
  | succ k ih =>
    intro i h1 hn
    obtain ⟨n1, n2⟩ := hn i (Nat.le_refl _) (by omega)
    have hn' : ∀ j, i + 1 ≤ j → j < i + 1 + k → (nm j).length = 3 ∧ ∀ x ∈ nm j, isL x := fun j a b => hn j (by omega) (by omega)
    obtain ⟨ih1, ih2⟩ := ih (i + 1) (by omega) hn'
    by_cases hW : isW (nm i) (c :: r)
    · have hone : oneK nm (k + 1) i (.good (c :: r)) = (.good (r.drop 2), (i : Int)) := by
        unfold oneK
        simp only [foldX, if_pos hW, if_true, n1, List.drop_succ_cons]
      obtain ⟨w1, w2⟩ := hW
      rw [n1] at w1 w2
      match hnm : nm i, n1 with
      | [p, q, s], _ =>
        rw [hnm] at w2 n2
        match r, w1 with
        | a :: b :: r2, _ =>
          simp only [List.take_succ_cons, List.take_zero, List.map_cons, List.map_nil, List.cons.injEq, and_true] at w2
          have hc := low_L w2.1 (n2 p (by simp))
          have ha := low_L w2.2.1 (n2 q (by simp))
          have hb := low_L w2.2.2 (n2 s (by simp))
          have hw : wrd c (a :: b :: r2) = leadL r2 + 2 := by
            unfold wrd
            rw [if_neg (isL_F hc), if_pos hc]
            simp only [leadL, if_pos ha, if_pos hb]
          have ht : (a :: b :: r2).take (leadL r2 + 2) = a :: b :: r2.take (leadL r2) := by simp only [List.take_succ_cons]
          rw [hw, ht]
          by_cases c3 : leadL r2 = 0
          · rw [c3, List.take_zero]
            have hm : nmI nm (k + 1) i [c, a, b] = i := by
              unfold nmI
              rw [if_pos (by rw [hnm]; simp only [List.map_cons, List.map_nil, w2.1, w2.2.1, w2.2.2])]
            rw [hm]
            refine ⟨fun _ => ⟨rfl, hc, rfl, ?_⟩, fun q => by omega⟩
            rw [hone]
          · have hl3 : (c :: a :: b :: r2.take (leadL r2)).length ≠ 3 := by
              simp only [List.length_cons, leadL_take]; omega
            have hm := nmI_len hl3 (k + 1) i fun j a b => (hn j a b).1
            rw [hm]
            refine ⟨fun q => absurd rfl q, fun _ => Or.inr ⟨hc, i, ?_⟩⟩
            cases r2 with
            | nil => exact absurd rfl c3
            | cons y r' =>
              have hy : isL y := by
                by_cases hy : isL y
                · exact hy
                · exact absurd (by simp only [leadL, if_neg hy]) c3
              refine ⟨y, r', ?_, by omega, hy⟩
              rw [hone]; rfl
    · have hone : oneK nm (k + 1) i (.good (c :: r)) = oneK nm k (i + 1) (.good (c :: r)) := by
        conv => lhs; unfold oneK
        simp only [foldX, if_neg hW, Bool.false_eq_true, if_false]
      have hm : nmI nm (k + 1) i (c :: r.take (wrd c r)) = nmI nm k (i + 1) (c :: r.take (wrd c r)) := by
        conv => lhs; unfold nmI
        rw [if_neg]
        intro q
        refine hW ?_
        have hl := congrArg List.length q
        rw [List.length_map, List.length_map, n1] at hl
        have hp : c :: r = (c :: r.take (wrd c r)) ++ r.drop (wrd c r) := by simp [List.take_append_drop]
        unfold isW
        rw [n1, hp, List.take_left' hl]
        exact ⟨by rw [List.length_append]; omega, q⟩
      rw [hone, hm]
      exact ⟨ih1, ih2⟩
theorem wk_let : ∀ j : Nat, 1 ≤ j → j < 1 + 7 → (wkN j).length = 3 ∧ ∀ x ∈ wkN j, isL x
  | 0, h, _ => absurd h (by decide)
  | 1, _, _ | 2, _, _ | 3, _, _ | 4, _, _ | 5, _, _ | 6, _, _ | 7, _, _ => by unfold isL; decide
  | (n + 8), _, h => absurd h (by omega)
theorem mo_let : ∀ j : Nat, 1 ≤ j → j < 1 + 12 → (moN j).length = 3 ∧ ∀ x ∈ moN j, isL x
  | 0, h, _ => absurd h (by decide)
  | 1, _, _ | 2, _, _ | 3, _, _ | 4, _, _ | 5, _, _ | 6, _, _ | 7, _, _ | 8, _, _ | 9, _, _ | 10, _, _ | 11, _, _ | 12, _, _ => by unfold isL; decide
  | (n + 13), _, h => absurd h (by omega)
theorem blind_yr : blind yrT := fun f g w T => rfl
theorem yrK_let (n : Nat) {c : Int} (h : ¬ isF c) (r : List Int) : (yrK n (.good (c :: r))).1.end ≠ none := by
  have : ¬ (2 ≤ lead (c :: r) ∧ lead (c :: r) ≤ 4) := by rw [lead_not h]; omega
  simp only [yrK, yrX, if_neg this, takeX, failX]; exact hrgK_bad n _ _
theorem oneK_nil (nm : Nat → List Int) : ∀ k i, (∀ j, i ≤ j → j < i + k → (nm j).length = 3) → oneK nm k i (.good []) = (.good [], 0)
  | 0, _, _ => rfl
  | k + 1, i, h => by
    have : ¬ isW (nm i) [] := fun q => by have := q.1; rw [h i (Nat.le_refl _) (by omega)] at this; simp at this
    unfold oneK
    simp only [foldX, if_neg this, Bool.false_eq_true, if_false]
    exact oneK_nil nm k (i + 1) fun j a b => h j (by omega) (by omega)
theorem mon_sim (n : Nat) {l : List Int} (hl : gp l = some l) : Rr ((tk l).bind monT) (monK n (.good l)) := by
  cases l with
  | nil =>
    rw [tk_nil hl]
    refine Rr_none ?_
    simp only [monK, oneK_nil moN 12 1 (fun j a b => (mo_let j a b).1), if_true, failX, gapX]; exact yrK_bad n _ _
  | cons c r =>
    rw [tk_head hl, Option.bind_map]
    obtain ⟨h1, h2⟩ := one_sim (nm := moN) (c := c) (r := r) 12 1 (by decide) mo_let
    by_cases hz : nmI moN 12 1 (c :: r.take (wrd c r)) = 0
    · refine Rr_all (fun T => by simp only [Function.comp, monT, if_pos hz]) ?_
      rcases h2 hz with e | ⟨_, j, y, r', e, hj, hy⟩
      · simp only [monK, e, if_true, failX, gapX]; exact yrK_bad n _ _
      · simp only [monK, e, if_neg hj, gap_stay n (isL_gap hy)]; exact yrK_let n (isL_F hy) r'
    · obtain ⟨_, _, h4, h5⟩ := h1 hz
      have hzi : ¬ ((nmI moN 12 1 (c :: r.take (wrd c r)) : Nat) : Int) = 0 := by omega
      simp only [monK, h5, if_neg hzi]
      have hg := Rr_map (fun v => ((nmI moN 12 1 (c :: r.take (wrd c r)) : Int), v)) (gap_sim n (yrK_bad n) blind_yr (fun l hl => yr_sim n hl) (r.drop 2))
      refine Eq.mp (congrArg (fun z => Rr z _) ?_) hg
      rw [show r.drop (wrd c r) = r.drop 2 by rw [h4]]
      cases tk (r.drop 2) with
      | none => rfl
      | some T => simp only [Option.bind_some, Function.comp, monT, if_neg hz]
theorem blind_mon : blind monT := fun f g w T => rfl
theorem monK_dig (n : Nat) {c : Int} (h : isF c) (r : List Int) : (monK n (gapX n (.good (c :: r))).1).1.end ≠ none := by
  rw [gap_stay n (isF_gap h)]
  obtain ⟨h1, h2⟩ := one_sim (nm := moN) (c := c) (r := r) 12 1 (by decide) mo_let
  by_cases hz : nmI moN 12 1 (c :: r.take (wrd c r)) = 0
  · rcases h2 hz with e | ⟨q, _⟩
    · simp only [monK, e, if_true, failX, gapX]; exact yrK_bad n _ _
    · exact absurd h (isL_F q)
  · exact absurd h (isL_F (h1 hz).2.1)
theorem day_sim (n : Nat) {l : List Int} (hl : gp l = some l) : Rr ((tk l).bind dayT) (dayK n (.good l)) := by
  have hg : ∀ l, Rr ((tk l).bind monT) (monK n (gapX n (.good l)).1) := gap_sim n (monK_bad n) blind_mon fun l hl => mon_sim n hl
  have h := fig_sim n 1 2 (by decide) (by decide) (monK_bad n) (fun c r hc => monK_dig n hc r) hg hl
  refine Eq.mp (congrArg (fun z => Rr z _) (congrArg _ (funext fun T => ?_))) h
  cases T <;> rfl
theorem blind_day : blind dayT := fun f g w T => rfl
theorem isW_44 (c : Int) (r : List Int) : isW [44] (c :: r) ↔ c = 44 := by
  unfold isW low
  simp only [List.length_cons, List.length_nil, List.take_succ_cons, List.take_zero, List.map_cons, List.map_nil, List.cons.injEq, and_true]
  constructor
  · rintro ⟨_, h⟩; rw [if_neg (show ¬ (65 ≤ (44 : Int) ∧ (44 : Int) ≤ 90) by decide)] at h; split at h <;> omega
  · rintro rfl; exact ⟨by omega, rfl⟩
theorem must44_bad (n : Nat) {l : List Int} (h : ¬ isW [44] l) : mustX n [44] (.good l) = .bad (n - l.length) 2 := by simp only [mustX, foldX, if_neg h, Bool.false_eq_true, if_false, failX]
/-- A day's part begins with a figure. -/
theorem dayT_odd {c : Int} (h : ¬ isF c) (f : Bool) (r : List Int) (T : List Tok) : dayT ((f, c :: r.take (wrd c r)) :: T) = none := by
  have hv : ¬ figW (c :: r.take (wrd c r)) 1 2 := fun q => h ((figW_wrd (by decide)).1 q).1
  simp only [dayT, if_neg hv]
theorem tk_first {l : List Int} {f : Bool} {w : List Int} {T : List Tok} (h : tk l = some ((f, w) :: T)) : ∃ c r, gp l = some (c :: r) ∧ w = c :: r.take (wrd c r) ∧ tk (r.drop (wrd c r)) = some T := by
  cases hg : gp l with
  | none => rw [tk_none hg] at h; cases h
  | some q =>
    cases q with
    | nil => rw [tk_nil hg] at h; cases h
    | cons c r =>
      rw [tk_cons hg] at h
      cases ht : tk (r.drop (wrd c r)) with
      | none => rw [ht] at h; cases h
      | some T2 =>
        rw [ht] at h
        simp only [Option.map_some, Option.some.injEq, List.cons.injEq, Prod.mk.injEq] at h
        exact ⟨c, r, rfl, h.1.2.symm, ht.trans (by rw [h.2])⟩
theorem wkd_sim (n : Nat) {l : List Int} (hl : gp l = some l) : Rr ((tk l).bind wkdT) (wkdK n (.good l)) := by
  cases l with
  | nil =>
    have h := day_sim n hl
    rw [tk_nil hl] at h ⊢
    have e : wkX n (.good []) = (.good [], 0) := by
      simp only [wkX, oneK_nil wkN 7 1 (fun j a b => (wk_let j a b).1), if_true]
    refine Rr_none ?_
    simp only [wkdK, e]; exact h
  | cons c r =>
    obtain ⟨h1, h2⟩ := one_sim (nm := wkN) (c := c) (r := r) 7 1 (by decide) wk_let
    by_cases hz : nmI wkN 7 1 (c :: r.take (wrd c r)) = 0
    · rcases h2 hz with e | ⟨hc, j, y, r', e, hj, hy⟩
      · have ew : wkX n (.good (c :: r)) = (.good (c :: r), 0) := by simp only [wkX, e, if_true]
        have h := Rr_map (fun v => ((0 : Int), v)) (day_sim n hl)
        rw [tk_head hl, Option.bind_map] at h ⊢
        simp only [wkdK, ew]
        refine Eq.mp (congrArg (fun z => Rr z _) ?_) h
        cases tk (r.drop (wrd c r)) with
        | none => rfl
        | some T =>
          simp only [Option.bind_some, Function.comp]
          cases T with
          | nil => rfl
          | cons a T =>
            obtain ⟨g, w⟩ := a
            by_cases hw : w = [44]
            · subst hw
              have hm : nmI moN 12 1 [44] = 0 := by decide
              simp only [wkdT, if_true, if_pos hz]
              simp only [dayT, monT, hm, if_true]
              split <;> rfl
            · simp only [wkdT, if_neg hw]
      · have ew : (wkX n (.good (c :: r))).1.end ≠ none ∧ ∃ i q, (wkX n (.good (c :: r))).1 = .bad i q := by
          have : ¬ isW [44] (y :: r') := fun q => by have := (isW_44 y r').1 q; unfold isL at hy; omega
          simp only [wkX, e, if_neg hj]
          rw [gap_stay n (isL_gap hy), must44_bad n this]
          exact ⟨bad_end _ _, _, _, rfl⟩
        obtain ⟨_, i, q, ew⟩ := ew
        rw [tk_head hl, Option.bind_map]
        refine Rr_all (fun T => ?_) (by simp only [wkdK, ew]; exact dayK_bad n i q)
        have hd := fun T => dayT_odd (isL_F hc) false r T
        simp only [Function.comp]
        cases T with
        | nil => simp only [wkdT, hd, Option.map_none]
        | cons a T =>
          obtain ⟨g, w⟩ := a
          simp only [wkdT, if_pos hz, hd, Option.map_none]
          split <;> rfl
    · obtain ⟨_, hc, h4, h5⟩ := h1 hz
      have hzi : ¬ ((nmI wkN 7 1 (c :: r.take (wrd c r)) : Nat) : Int) = 0 := by omega
      rw [tk_head hl, Option.bind_map]
      have hd := fun T => dayT_odd (isL_F hc) false r T
      have hdead : (∀ T, tk (r.drop (wrd c r)) = some T → ∀ g T', T ≠ (g, [44]) :: T') → (mustX n [44] (gapX n (.good (r.drop 2))).1).end ≠ none ∧ (∃ i q, mustX n [44] (gapX n (.good (r.drop 2))).1 = .bad i q) → Rr ((tk (r.drop (wrd c r))).bind (wkdT ∘ fun T => (false, c :: r.take (wrd c r)) :: T)) (wkdK n (.good (c :: r))) := by
        rintro hT ⟨_, i, q, hm⟩
        have hA : (tk (r.drop (wrd c r))).bind (wkdT ∘ fun T => (false, c :: r.take (wrd c r)) :: T) = none := by
          cases ht : tk (r.drop (wrd c r)) with
          | none => rfl
          | some T =>
            simp only [Option.bind_some, Function.comp]
            cases T with
            | nil => simp only [wkdT, hd, Option.map_none]
            | cons a T =>
              obtain ⟨g, w⟩ := a
              have hw : ¬ w = [44] := fun e => hT _ ht g T (by rw [e])
              simp only [wkdT, if_neg hw, hd, Option.map_none]
        rw [hA]
        refine Rr_none ?_
        have ew : (wkX n (.good (c :: r))).1 = .bad i q := by
          simp only [wkX, h5, if_neg hzi]
          rw [hm]; rfl
        show (dayK n (wkX n (.good (c :: r))).1).1.end ≠ none
        rw [ew]; exact dayK_bad n _ _
      rw [h4] at hdead ⊢
      cases hg : gp (r.drop 2) with
      | none =>
        refine hdead (fun T hT => by rw [tk_none hg] at hT; cases hT) ?_
        simp only [gapX, hg, must_bad]; exact ⟨bad_end _ _, _, _, rfl⟩
      | some t =>
        cases t with
        | nil =>
          refine hdead (fun T hT g T' => by rw [tk_nil hg] at hT; rw [← Option.some.inj hT]; simp) ?_
          simp only [gapX, hg, must44_bad n (show ¬ isW [44] [] by unfold isW; simp)]; exact ⟨bad_end _ _, _, _, rfl⟩
        | cons x q =>
          by_cases hx : x = 44
          · subst hx
            have hwx : wrd 44 q = 0 := wrd_odd (by decide) (by decide) q
            have hmu : mustX n [44] (.good (44 :: q)) = .good q := by
              simp only [mustX, foldX, if_pos ((isW_44 44 q).2 rfl), if_true, List.length_cons, List.length_nil, List.drop_succ_cons, List.drop_zero]
            rw [tk_cons hg, hwx]
            simp only [List.drop_zero, List.take_zero]
            have hs := Rr_map (fun v => ((nmI wkN 7 1 (c :: r.take 2) : Int), v)) (gap_sim n (dayK_bad n) blind_day (fun l hl => day_sim n hl) q)
            rw [h4] at h5 hz hzi
            simp only [wkdK, wkX, h5, if_neg hzi]
            simp only [gapX, hg, hmu] at hs ⊢
            refine Eq.mp (congrArg (fun z => Rr z _) ?_) hs
            cases tk q with
            | none => rfl
            | some T => simp only [Option.bind_some, Option.map_some, Function.comp, wkdT, if_true, if_neg hz]
          · refine hdead (fun T hT g T' e => ?_) ?_
            · rw [tk_cons hg] at hT
              cases ht : tk (q.drop (wrd x q)) with
              | none => rw [ht] at hT; cases hT
              | some T2 =>
                rw [ht, e] at hT
                simp only [Option.map_some, Option.some.injEq, List.cons.injEq, Prod.mk.injEq] at hT
                exact hx hT.1.2.1
            · simp only [gapX, hg, must44_bad n (fun q' => hx ((isW_44 x q).1 q'))]; exact ⟨bad_end _ _, _, _, rfl⟩
/-- The whole: the reader goes to the end where the parts are a date, and tells the same. -/
theorem blind_wkd : blind wkdT := fun f g w T => by
  cases T with
  | nil => rfl
  | cons a T => rfl
theorem parts_sim (n : Nat) (B : List Int) : Rr ((tk B).bind wkdT) (wkdK n (gapX n (.good B)).1) := gap_sim n (wkdK_bad n) blind_wkd (fun l hl => wkd_sim n hl) B
end Go.Proofs.YtddnfappkfiidaaGreat.Ev
