/- Time lines: the reader's steps, forth and back. -/
import Derived.Test.YtddnfappkfiidaaGreatPuNistR
namespace Go.Proofs.YtddnfappkfiidaaGreat.Ev
open Go
set_option linter.unusedVariables false
set_option linter.unusedSimpArgs false
theorem oneX_good (c : Int) (l : List Int) : oneX c (.good (c :: l)) = true := by simp [oneX, X.rest]
theorem exact_forth (n : Nat) : ∀ (L r : List Int), exactX n L (.good (L ++ r)) = .good r
  | [], r => rfl
  | c :: L, r => by
    simp only [exactX, List.cons_append, oneX_good, if_true, takeX, List.drop_succ_cons, List.drop_zero]
    exact exact_forth n L r
theorem exact_bad (n : Nat) (i : Nat) (c : Int) : ∀ L : List Int, exactX n L (.bad i c) = .bad i c
  | [] => rfl
  | a :: L => by
    have : oneX a (.bad i c) = false := by simp [oneX, X.rest]
    simp only [exactX, this, Bool.false_eq_true, if_false, failX]
    exact exact_bad n i c L
theorem exact_back (n : Nat) : ∀ (L r : List Int) (x : X), exactX n L x = .good r → x = .good (L ++ r)
  | [], r, x, h => h
  | c :: L, r, x, h => by
    simp only [exactX] at h
    have h2 := exact_back n L r _ h
    by_cases q : oneX c x = true
    · rw [if_pos q] at h2
      cases x with
      | good l =>
        simp only [oneX, X.rest, decide_eq_true_eq] at q
        cases l with
        | nil => cases q
        | cons a l =>
          simp only [List.head?_cons, Option.some.injEq, decide_eq_true_eq] at q
          subst q
          simp only [takeX, List.drop_succ_cons, List.drop_zero, X.good.injEq] at h2
          rw [h2]; rfl
      | bad i e => cases h2
    · rw [if_neg q] at h2
      cases x with
      | good l => cases h2
      | bad i e => cases h2
theorem lead_app : ∀ (F r : List Int), (∀ x ∈ F, isF x) → lead (F ++ r) = F.length + lead r
  | [], r, _ => by simp
  | x :: F, r, h => by
    have := lead_app F r (fun y hy => h y (List.mem_cons_of_mem _ hy))
    simp only [List.cons_append, lead, if_pos (h x List.mem_cons_self), this, List.length_cons]; omega
theorem fig_forth (n : Nat) (F r : List Int) (a b : Nat) (hF : ∀ x ∈ F, isF x) (ha : a ≤ F.length) (hb : F.length ≤ b) (hr : F.length = b ∨ lead r = 0) : figX n a b (.good (F ++ r)) = (.good r, val10 F) := by
  have e : min (lead (F ++ r)) b = F.length := by rw [lead_app F r hF]; omega
  simp only [figX, e, if_pos ha, List.drop_left, List.take_left]
theorem fig_back {n a b : Nat} {x : X} {r : List Int} (h : (figX n a b x).1 = .good r) : ∃ F, x = .good (F ++ r) ∧ (∀ y ∈ F, isF y) ∧ a ≤ F.length ∧ F.length ≤ b ∧ (figX n a b x).2 = val10 F := by
  cases x with
  | bad i c => cases h
  | good l =>
    simp only [figX] at h ⊢
    by_cases c : a ≤ min (lead l) b
    · rw [if_pos c] at h ⊢
      simp only [X.good.injEq] at h
      have hl := lead_le l
      refine ⟨l.take (min (lead l) b), by rw [← h, List.take_append_drop], sc_lead_figs (Nat.min_le_left _ _), ?_, ?_, rfl⟩
      · rw [List.length_take]; omega
      · rw [List.length_take]; omega
    · rw [if_neg c] at h; cases h
theorem dg_val : ∀ (w : Nat) (F : List Int), F.length = w → (∀ y ∈ F, isF y) → dgs (val10 F).toNat w = F := by
  intro w
  induction w with
  | zero => intro F hF _; rw [List.length_eq_zero_iff.1 hF]; rfl
  | succ w ih =>
    intro F hF hf
    have hne : F ≠ [] := by intro q; rw [q] at hF; cases hF
    obtain ⟨G, x, rfl⟩ : ∃ G x, F = G ++ [x] := ⟨F.dropLast, F.getLast hne, (List.dropLast_concat_getLast hne).symm⟩
    rw [List.length_append, List.length_singleton] at hF
    have hx := hf x (List.mem_append_right _ List.mem_cons_self)
    have hG : ∀ y ∈ G, isF y := fun y hy => hf y (List.mem_append_left _ hy)
    have hv := (val10_range _ G rfl hG).1
    have ih' := ih G (by omega) hG
    unfold isF at hx
    rw [val10_snoc]
    have e1 : (val10 G * 10 + (x - 48)).toNat / 10 = (val10 G).toNat := by omega
    have e2 : ((((val10 G * 10 + (x - 48)).toNat % 10 : Nat)) : Int) + 48 = x := by omega
    unfold dgs
    rw [e1, ih']
    congr 2
    omega
theorem num_forth (n : Nat) (L : List Int) (k w : Nat) (r : List Int) (hk : k < 10 ^ w) : numX n L w (.good (L ++ (dgs k w ++ r))) = (.good r, (k : Int)) := by
  unfold numX
  rw [exact_forth, fig_forth n _ r w w (dgs_ok w k) (by rw [dgs_len]; exact Nat.le_refl _) (by rw [dgs_len]; exact Nat.le_refl _) (Or.inl (dgs_len w k)), val10_dg w k hk]
theorem num_back {n : Nat} {L : List Int} {w : Nat} {x : X} {r : List Int} (h : (numX n L w x).1 = .good r) : ∃ k : Nat, k < 10 ^ w ∧ x = .good (L ++ (dgs k w ++ r)) ∧ (numX n L w x).2 = (k : Int) := by
  unfold numX at h ⊢
  obtain ⟨F, h1, h2, h3, h4, h5⟩ := fig_back h
  have hw : F.length = w := by omega
  have hv := val10_range _ F hw h2
  refine ⟨(val10 F).toNat, ?_, ?_, ?_⟩
  · have h6 := hv.2
    have e : val10 F = (((val10 F).toNat : Nat) : Int) := by omega
    rw [e] at h6; exact_mod_cast h6
  · rw [dg_val w F hw h2]; exact exact_back n L _ x h1
  · rw [h5]; omega
theorem run_app (S : List Int) : ∀ (P r : List Int), (∀ x ∈ P, x ∈ S) → runN S (P ++ r) = P.length + runN S r
  | [], r, _ => by simp
  | x :: P, r, h => by
    have := run_app S P r (fun y hy => h y (List.mem_cons_of_mem _ hy))
    simp only [List.cons_append, runN, if_pos (h x List.mem_cons_self), this, List.length_cons]; omega
theorem run_take (S : List Int) : ∀ (l : List Int), ∀ x ∈ l.take (runN S l), x ∈ S
  | [], x, h => by simp at h
  | a :: l, x, h => by
    unfold runN at h
    split at h
    · rename_i c
      rcases List.mem_cons.1 h with rfl | q
      · exact c
      · exact run_take S l x q
    · simp at h
theorem all32 : ∀ (l : List Int), (∀ x ∈ l, x ∈ [(32 : Int)]) → l = List.replicate l.length 32
  | [], _ => rfl
  | x :: l, h => by
    have h1 : x = 32 := by simpa using h x List.mem_cons_self
    have h2 := all32 l (fun y hy => h y (List.mem_cons_of_mem _ hy))
    rw [List.length_cons, List.replicate_succ, ← h2, h1]
theorem figs_pow (n : Nat) : n < 10 ^ (figs n).length := by
  induction n using Nat.strongRecOn with
  | ind n ih =>
    by_cases c : n = 0
    · subst c; rw [figs_zero]; decide
    · have := ih (n / 10) (by omega)
      rw [figs_pos c, List.length_cons, Nat.pow_succ]; omega
theorem padd_len1 (n : Nat) : (padd n 1).length = max (figs n).length 1 := by
  unfold padd
  rw [List.length_append, List.length_replicate, List.length_reverse]; omega
theorem padd_self (n : Nat) : padd n 1 = dgs n (padd n 1).length := by
  rw [padd_len1]
  have h := figs_dgs (max (figs n).length 1) n (Nat.lt_of_lt_of_le (figs_pow n) (Nat.pow_le_pow_right (by omega) (Nat.le_max_left _ _)))
  unfold padd
  rw [← h]
  congr 2
  omega
theorem padd_val (n : Nat) : val10 (padd n 1) = n := by
  rw [padd_self n]
  refine val10_dg _ n ?_
  rw [padd_len1]
  exact Nat.lt_of_lt_of_le (figs_pow n) (Nat.pow_le_pow_right (by omega) (Nat.le_max_left _ _))
theorem run_fig (l : List Int) (r : List Int) (h : ∀ x ∈ l, isF x) (h0 : 1 ≤ l.length) : runN [32] (l ++ r) = 0 := by
  cases l with
  | nil => simp at h0
  | cons x l =>
    have := h x List.mem_cons_self
    unfold isF at this
    have e : ¬ x ∈ [(32 : Int)] := by simp; omega
    simp only [List.cons_append, runN, if_neg e]
theorem adv_forth (n : Nat) (v : Int) (hv : 0 ≤ v ∧ v ≤ 9999) (r : List Int) (hn : 6 + r.length ≤ n) : advX n (.good (32 :: (advL v ++ r))) = (.good r, v) := by
  have h3 := padd3 hv
  have h1 : 1 ≤ (padd (v / 10).toNat 1).length := by rw [padd_len1]; omega
  have hF := padd_isF (v / 10).toNat 1
  have e1 : exactX n [32] (.good (32 :: (advL v ++ r))) = .good (advL v ++ r) := exact_forth n [32] (advL v ++ r)
  have e2 : advL v ++ r = List.replicate (3 - (padd (v / 10).toNat 1).length) 32 ++ (padd (v / 10).toNat 1 ++ ([46] ++ (dgs (v % 10).toNat 1 ++ r))) := by
    unfold advL; simp only [List.append_assoc, List.cons_append, List.nil_append]
  have e3 : runN [32] (advL v ++ r) = 3 - (padd (v / 10).toNat 1).length := by
    rw [e2, run_app [32] _ _ (fun x hx => by rw [(List.mem_replicate.1 hx).2]; exact List.mem_cons_self), run_fig _ _ hF h1, List.length_replicate, Nat.add_zero]
  have e4 : takeX (3 - (padd (v / 10).toNat 1).length) (.good (advL v ++ r)) = .good (padd (v / 10).toNat 1 ++ ([46] ++ (dgs (v % 10).toNat 1 ++ r))) := by
    rw [e2]
    have := List.drop_left (l₁ := List.replicate (3 - (padd (v / 10).toNat 1).length) (32 : Int)) (l₂ := padd (v / 10).toNat 1 ++ ([46] ++ (dgs (v % 10).toNat 1 ++ r)))
    rw [List.length_replicate] at this
    simp only [takeX, this]
  have e5 := fig_forth n (padd (v / 10).toNat 1) ([46] ++ (dgs (v % 10).toNat 1 ++ r)) 1 3 hF h1 h3 (Or.inr (by simp [lead, isF]))
  have e6 := num_forth n [46] (v % 10).toNat 1 r (by omega)
  unfold advX
  simp only [e1, X.rest, e3, e4, e5, padd_val]
  rw [if_pos ?_, e6]
  · congr 1; omega
  · have el : (advL v ++ r).length = 5 + r.length := by rw [List.length_append, advL_len hv]
    have el2 : ([46] ++ (dgs (v % 10).toNat 1 ++ r)).length = 2 + r.length := by simp [dgs_len]; omega
    simp only [X.at, el, el2, Int.toNat_natCast]
    exact ⟨by omega, by omega⟩
theorem adv_back {s : ByteArray} {x : X} {r : List Int} (hx : x.wf s) (h : (advX s.size x).1 = .good r) : ∃ v : Int, (0 ≤ v ∧ v ≤ 9999) ∧ x = .good (32 :: (advL v ++ r)) ∧ (advX s.size x).2 = v := by
  have w1 : (exactX s.size [32] x).wf s := exactX_wf hx
  have w2 := takeX_wf w1 (runN [32] (exactX s.size [32] x).rest)
  have w3 := figX_wf w2 1 3
  unfold advX at h ⊢
  simp only at h ⊢
  obtain ⟨w, hw, h1, h2⟩ := num_back h
  rw [h2]
  by_cases c : ((figX s.size 1 3 (takeX (runN [32] (exactX s.size [32] x).rest) (exactX s.size [32] x))).1.at s.size - (exactX s.size [32] x).at s.size = 3 ∧ runN [32] (exactX s.size [32] x).rest + (padd (figX s.size 1 3 (takeX (runN [32] (exactX s.size [32] x).rest) (exactX s.size [32] x))).2.toNat 1).length = 3)
  · rw [if_pos c] at h1
    obtain ⟨F, k1, k2, k3, k4, k5⟩ := fig_back h1
    rw [h1, k5] at c
    rw [k5]
    obtain ⟨c1, c2⟩ := c
    cases hx1 : exactX s.size [32] x with
    | bad i e => rw [hx1] at k1; cases k1
    | good l =>
      rw [hx1] at k1 c1 c2 w1
      simp only [takeX, X.rest, X.good.injEq] at k1 c2
      have hle := runN_le [32] l
      have hlen : l.length = runN [32] l + (F.length + ([46] ++ (dgs w 1 ++ r)).length) := by
        have := congrArg List.length k1
        rw [List.length_drop, List.length_append] at this; omega
      have hl2 : ([46] ++ (dgs w 1 ++ r)).length = 2 + r.length := by simp [dgs_len]; omega
      have hls := (X.wf_good w1).2.1
      simp only [X.at, hl2] at c1
      have hFl : runN [32] l + F.length = 3 := by omega
      have hpad : padd (val10 F).toNat 1 = F := by
        rw [padd_self]
        rw [show (padd (val10 F).toNat 1).length = F.length by omega]
        exact dg_val _ F rfl k2
      have hv := val10_range _ F rfl k2
      have hp : (10 : Int) ^ F.length ≤ 10 ^ 3 := by
        have : 10 ^ F.length ≤ 10 ^ 3 := Nat.pow_le_pow_right (by omega) k4
        exact_mod_cast this
      refine ⟨val10 F * 10 + w, by omega, ?_, rfl⟩
      have hb := exact_back s.size [32] l x hx1
      rw [hb]
      have e1 : (val10 F * 10 + (w : Int)) / 10 = val10 F := by omega
      have e2 : ((val10 F * 10 + (w : Int)) % 10).toNat = w := by omega
      unfold advL
      rw [e1, e2, hpad]
      have ht := all32 (l.take (runN [32] l)) (run_take [32] l)
      rw [List.length_take, show min (runN [32] l) l.length = runN [32] l by omega] at ht
      have hl : l = List.replicate (3 - F.length) 32 ++ (F ++ ([46] ++ (dgs w 1 ++ r))) := by
        rw [← k1, show 3 - F.length = runN [32] l by omega, ← ht, List.take_append_drop]
      rw [hl]
      simp only [List.append_assoc, List.cons_append, List.nil_append]
  · rw [if_neg c] at h1
    exfalso
    revert h1
    generalize (figX s.size 1 3 (takeX (runN [32] (exactX s.size [32] x).rest) (exactX s.size [32] x))).1 = q
    intro h1
    cases q <;> cases h1
end Go.Proofs.YtddnfappkfiidaaGreat.Ev
