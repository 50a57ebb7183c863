/- The law MailGaps, plain. -/
import Derived.Test.YticfncahnhbhbaaPuMailW
namespace Go.Proofs.Yticfncahnhbhbaa.Ev
open Go
set_option linter.unusedVariables false
set_option linter.unusedSimpArgs false
def gh (z : Int) : Prop := spc z ∨ z = 40
theorem gp_head {Z : List Int} (h : gp Z = some []) : Z = [] ∨ ∃ z t, Z = z :: t ∧ gh z := by
  cases Z with
  | nil => exact Or.inl rfl
  | cons z t =>
    refine Or.inr ⟨z, t, rfl, ?_⟩
    by_cases c1 : spc z
    · exact Or.inl c1
    · by_cases c2 : z = 40
      · exact Or.inr c2
      · rw [gp_no c1 c2] at h; cases h
theorem rmk_app : ∀ (n d : Nat) (l q r : List Int), l.length ≤ n → rmk d l = some q → rmk d (l ++ r) = some (q ++ r) := by
  intro n; induction n with
  | zero =>
    intro d l q r hn h
    have : l = [] := List.length_eq_zero_iff.1 (by omega)
    subst this
    simp [rmk] at h
  | succ n ih =>
    intro d l q r hn h
    cases l with
    | nil => simp [rmk] at h
    | cons x l =>
      simp only [List.length_cons] at hn
      rw [List.cons_append]
      unfold rmk at h ⊢
      by_cases c1 : x = 92
      · rw [if_pos c1] at h ⊢
        cases l with
        | nil => simp at h
        | cons y l => simp only [List.cons_append] at h ⊢; exact ih d l q r (by simp only [List.length_cons] at hn; omega) h
      · rw [if_neg c1] at h ⊢
        by_cases c2 : x = 40
        · rw [if_pos c2] at h ⊢; exact ih _ l q r (by omega) h
        · rw [if_neg c2] at h ⊢
          by_cases c3 : x = 41
          · rw [if_pos c3] at h ⊢
            by_cases c4 : d = 1
            · rw [if_pos c4] at h ⊢
              simp only [Option.some.injEq] at h
              rw [h]
            · rw [if_neg c4] at h ⊢; exact ih _ l q r (by omega) h
          · rw [if_neg c3] at h ⊢; exact ih _ l q r (by omega) h
theorem gp_app : ∀ (n : Nat) (A r : List Int), A.length ≤ n → gp A = some [] → gp (A ++ r) = gp r := by
  intro n; induction n with
  | zero =>
    intro A r hn h
    have : A = [] := List.length_eq_zero_iff.1 (by omega)
    subst this; rfl
  | succ n ih =>
    intro A r hn h
    cases A with
    | nil => rfl
    | cons x A =>
      simp only [List.length_cons] at hn
      rw [List.cons_append]
      by_cases c1 : spc x
      · rw [gp_spc c1] at h ⊢; exact ih A r (by omega) h
      · by_cases c2 : x = 40
        · subst c2
          rw [gp_rem] at h ⊢
          cases hr : rmk 1 A with
          | none => rw [hr] at h; cases h
          | some q =>
            rw [hr] at h
            obtain ⟨p, hp, _⟩ := rmk_cut A.length 1 A q (Nat.le_refl _) hr
            have hq : q.length ≤ A.length := by rw [hp, List.length_append]; omega
            rw [rmk_app A.length 1 A q r (Nat.le_refl _) hr]
            exact ih q r (by omega) h
        · rw [gp_no c1 c2] at h; cases h
/-- Within a remark a whole gap closes nothing. -/
theorem rmk_gap : ∀ (n d : Nat) (Z : List Int), Z.length ≤ n → 1 ≤ d → gp Z = some [] → rmk d Z = none := by
  intro n; induction n with
  | zero =>
    intro d Z hn hd h
    have : Z = [] := List.length_eq_zero_iff.1 (by omega)
    subst this; simp [rmk]
  | succ n ih =>
    intro d Z hn hd h
    cases Z with
    | nil => simp [rmk]
    | cons x Z =>
      simp only [List.length_cons] at hn
      by_cases c1 : spc x
      · rw [gp_spc c1] at h
        unfold rmk
        unfold spc at c1
        rw [if_neg (by omega), if_neg (by omega), if_neg (by omega)]
        exact ih d Z (by omega) hd h
      · by_cases c2 : x = 40
        · subst c2
          rw [gp_rem] at h
          unfold rmk
          rw [if_neg (by decide), if_pos rfl, rmk_split Z.length d Z (Nat.le_refl _) hd 1 (Nat.le_refl _)]
          cases hr : rmk 1 Z with
          | none => rfl
          | some q =>
            rw [hr] at h
            obtain ⟨p, hp, _⟩ := rmk_cut Z.length 1 Z q (Nat.le_refl _) hr
            have hq : q.length ≤ Z.length := by rw [hp, List.length_append]; omega
            exact ih d q (by omega) hd h
        · rw [gp_no c1 c2] at h; cases h
/-- No backslash at the end. -/
def fit (r : List Int) : Prop := ∀ p, r ≠ p ++ [92]
theorem fit_tail {p r : List Int} (h : fit (p ++ r)) : fit r := fun q hq => h (p ++ q) (by rw [hq, List.append_assoc])
theorem fit_drop {r : List Int} (h : fit r) (k : Nat) : fit (r.drop k) := fit_tail (p := r.take k) (by rw [List.take_append_drop]; exact h)
theorem fit_nil : fit [] := fun p hp => by cases p <;> cases hp
theorem rmk_none {Z : List Int} (hZ : gp Z = some []) : ∀ (n d : Nat) (r : List Int), r.length ≤ n → 1 ≤ d → fit r → rmk d r = none → rmk d (r ++ Z) = none := by
  intro n; induction n with
  | zero =>
    intro d r hn hd hf h
    have : r = [] := List.length_eq_zero_iff.1 (by omega)
    subst this
    exact rmk_gap Z.length d Z (Nat.le_refl _) hd hZ
  | succ n ih =>
    intro d r hn hd hf h
    cases r with
    | nil => exact rmk_gap Z.length d Z (Nat.le_refl _) hd hZ
    | cons x r =>
      simp only [List.length_cons] at hn
      have hfr : fit r := fit_tail (p := [x]) hf
      rw [List.cons_append]
      unfold rmk at h ⊢
      by_cases c1 : x = 92
      · rw [if_pos c1] at h ⊢
        cases r with
        | nil => exact absurd (by rw [c1]; rfl) (hf [])
        | cons y r =>
          simp only [List.cons_append] at h ⊢
          exact ih d r (by simp only [List.length_cons] at hn; omega) hd (fit_tail (p := [y]) hfr) h
      · rw [if_neg c1] at h ⊢
        by_cases c2 : x = 40
        · rw [if_pos c2] at h ⊢; exact ih _ r (by omega) (by omega) hfr h
        · rw [if_neg c2] at h ⊢
          by_cases c3 : x = 41
          · rw [if_pos c3] at h ⊢
            by_cases c4 : d = 1
            · rw [if_pos c4] at h; cases h
            · rw [if_neg c4] at h ⊢; exact ih _ r (by omega) (by omega) hfr h
          · rw [if_neg c3] at h ⊢; exact ih _ r (by omega) hd hfr h
theorem gp_more {Z : List Int} (hZ : gp Z = some []) : ∀ (n : Nat) (r : List Int), r.length ≤ n → fit r → gp (r ++ Z) = match gp r with | none => none | some [] => some [] | some (q :: t) => some ((q :: t) ++ Z) := by
  intro n; induction n with
  | zero =>
    intro r hn hf
    have : r = [] := List.length_eq_zero_iff.1 (by omega)
    subst this
    rw [List.nil_append, hZ, gp_nil]
  | succ n ih =>
    intro r hn hf
    cases r with
    | nil => rw [List.nil_append, hZ, gp_nil]
    | cons x r =>
      simp only [List.length_cons] at hn
      have hfr : fit r := fit_tail (p := [x]) hf
      rw [List.cons_append]
      by_cases c1 : spc x
      · rw [gp_spc c1, gp_spc c1]; exact ih r (by omega) hfr
      · by_cases c2 : x = 40
        · subst c2
          rw [gp_rem, gp_rem]
          cases hr : rmk 1 r with
          | none => rw [rmk_none hZ r.length 1 r (Nat.le_refl _) (Nat.le_refl _) hfr hr]
          | some q =>
            obtain ⟨p, hp, _⟩ := rmk_cut r.length 1 r q (Nat.le_refl _) hr
            have hq : q.length ≤ r.length := by rw [hp, List.length_append]; omega
            rw [rmk_app r.length 1 r q Z (Nat.le_refl _) hr]
            exact ih q (by omega) (fit_tail (p := p) (by rw [← hp]; exact hfr))
        · rw [gp_no c1 c2, gp_no c1 c2]; rfl
/-! ### two readers, one with a gap behind -/
def Rl (Z : List Int) (x x' : X) : Prop := (∃ r, fit r ∧ x = .good r ∧ x' = .good (r ++ Z)) ∨ (x = .good [] ∧ x' = .good []) ∨ (∃ i c j d, x = .bad i c ∧ x' = .bad j d)
theorem Rl.bad {Z : List Int} {i j : Nat} {c d : Int} : Rl Z (.bad i c) (.bad j d) := Or.inr (Or.inr ⟨i, c, j, d, rfl, rfl⟩)
theorem Rl.nil {Z : List Int} : Rl Z (.good []) (.good []) := Or.inr (Or.inl ⟨rfl, rfl⟩)
theorem Rl.good {Z r : List Int} (h : fit r) : Rl Z (.good r) (.good (r ++ Z)) := Or.inl ⟨r, h, rfl, rfl⟩
theorem rl_gap {Z : List Int} (hZ : gp Z = some []) (n n' : Nat) {x x' : X} (h : Rl Z x x') : Rl Z (gapX n x).1 (gapX n' x').1 := by
  rcases h with ⟨r, hf, rfl, rfl⟩ | ⟨rfl, rfl⟩ | ⟨i, c, j, d, rfl, rfl⟩
  · have hm := gp_more hZ r.length r (Nat.le_refl _) hf
    simp only [gapX, hm]
    cases hg : gp r with
    | none => exact Rl.bad
    | some q =>
      cases q with
      | nil => exact Rl.nil
      | cons a t =>
        obtain ⟨p, hp⟩ := gp_cut r.length r (a :: t) (Nat.le_refl _) hg
        exact Rl.good (fit_tail (p := p) (by rw [← hp]; exact hf))
  · simp only [gapX, gp_nil]; exact Rl.nil
  · exact Rl.bad
/-- Where the gap's being there is told the same. -/
theorem rl_flag {Z : List Int} (hZ : gp Z = some []) (n n' : Nat) {x x' : X} (h : Rl Z x x') : (gapX n x).2 = (gapX n' x').2 ∨ (x = .good [] ∧ x' = .good Z) := by
  rcases h with ⟨r, hf, rfl, rfl⟩ | ⟨rfl, rfl⟩ | ⟨i, c, j, d, rfl, rfl⟩
  · cases r with
    | nil => exact Or.inr ⟨rfl, rfl⟩
    | cons a t =>
      have hm := gp_more hZ _ (a :: t) (Nat.le_refl _) hf
      refine Or.inl ?_
      simp only [gapX, hm]
      cases hg : gp (a :: t) with
      | none => rfl
      | some q =>
        cases q with
        | nil => simp
        | cons b u => simp only [List.length_append]; rw [decide_eq_decide]; omega
  · exact Or.inl (by simp [gapX, gp_nil])
  · exact Or.inl rfl
theorem gh_isF {z : Int} (h : gh z) : ¬ isF z := by
  unfold gh spc at h; unfold isF; omega
theorem lead_gap {Z : List Int} (hZ : gp Z = some []) : ∀ r : List Int, lead (r ++ Z) = lead r
  | [] => by
    rw [List.nil_append]
    rcases gp_head hZ with rfl | ⟨z, t, rfl, hz⟩
    · rfl
    · unfold lead; rw [if_neg (gh_isF hz)]
  | x :: r => by
    rw [List.cons_append]
    unfold lead
    rw [lead_gap hZ r]
theorem run_gap {S Z : List Int} (hZ : gp Z = some []) (hS : ∀ z, gh z → ¬ z ∈ S) : ∀ r : List Int, runN S (r ++ Z) = runN S r
  | [] => by
    rw [List.nil_append]
    rcases gp_head hZ with rfl | ⟨z, t, rfl, hz⟩
    · rfl
    · unfold runN; rw [if_neg (hS z hz)]
  | x :: r => by
    rw [List.cons_append]
    unfold runN
    rw [run_gap hZ hS r]
theorem rl_fig {Z : List Int} (hZ : gp Z = some []) (n n' a b : Nat) (ha : 1 ≤ a) {x x' : X} (h : Rl Z x x') : Rl Z (figX n a b x).1 (figX n' a b x').1 ∧ (figX n a b x).2 = (figX n' a b x').2 := by
  rcases h with ⟨r, hf, rfl, rfl⟩ | ⟨rfl, rfl⟩ | ⟨i, c, j, d, rfl, rfl⟩
  · have hl := lead_le r
    simp only [figX, lead_gap hZ r]
    by_cases c : a ≤ min (lead r) b
    · rw [if_pos c, if_pos c, List.drop_append_of_le_length (by omega), List.take_append_of_le_length (by omega)]
      exact ⟨Rl.good (fit_drop hf _), rfl⟩
    · rw [if_neg c, if_neg c]; exact ⟨Rl.bad, rfl⟩
  · have : ¬ a ≤ min (lead ([] : List Int)) b := by simp [lead]; omega
    simp only [figX, if_neg this]; exact ⟨Rl.bad, trivial⟩
  · exact ⟨Rl.bad, rfl⟩
/-- A word that no gap can be taken for. -/
def wordy (W : List Int) : Prop := W ≠ [] ∧ ∀ c ∈ W, ¬ gh (low c)
theorem gh_low {z : Int} (h : gh z) : low z = z := by
  unfold gh spc at h; unfold low; rw [if_neg (by omega)]
theorem isW_gap {W Z : List Int} (hZ : gp Z = some []) (hW : wordy W) (r : List Int) : isW W (r ++ Z) ↔ isW W r := by
  unfold isW
  by_cases c : W.length ≤ r.length
  · rw [List.take_append_of_le_length c, List.length_append]
    constructor
    · intro h; exact ⟨c, h.2⟩
    · intro h; exact ⟨by omega, h.2⟩
  · constructor
    · intro ⟨h1, h2⟩
      exfalso
      rcases gp_head hZ with rfl | ⟨z, t, rfl, hz⟩
      · rw [List.append_nil] at h1; exact c h1
      · have e := congrArg (fun l => l[r.length]?) h2
        simp only [List.getElem?_map] at e
        rw [List.getElem?_take_of_lt (by omega), List.getElem?_append_right (Nat.le_refl _), Nat.sub_self, List.getElem?_cons_zero, List.getElem?_eq_getElem (by omega)] at e
        simp only [Option.map_some, Option.some.injEq] at e
        rw [gh_low hz] at e
        exact hW.2 _ (List.getElem_mem (by omega)) (e ▸ hz)
    · intro h; exact absurd h.1 c
theorem rl_fold {Z W : List Int} (hZ : gp Z = some []) (hW : wordy W) {x x' : X} (h : Rl Z x x') : Rl Z (foldX W x).1 (foldX W x').1 ∧ (foldX W x).2 = (foldX W x').2 := by
  rcases h with ⟨r, hf, rfl, rfl⟩ | ⟨rfl, rfl⟩ | ⟨i, c, j, d, rfl, rfl⟩
  · by_cases c : isW W r
    · have c' := (isW_gap hZ hW r).2 c
      simp only [foldX, if_pos c, if_pos c']
      rw [List.drop_append_of_le_length c.1]
      exact ⟨Rl.good (fit_drop hf _), trivial⟩
    · have c' : ¬ isW W (r ++ Z) := fun q => c ((isW_gap hZ hW r).1 q)
      simp only [foldX, if_neg c, if_neg c']
      exact ⟨Rl.good hf, trivial⟩
  · have : ¬ isW W [] := fun q => by
      have := q.1
      have h2 := List.length_pos_iff.2 hW.1
      simp only [List.length_nil] at this; omega
    simp only [foldX, if_neg this]
    exact ⟨Rl.nil, trivial⟩
  · exact ⟨Rl.bad, rfl⟩
theorem rl_fail {Z : List Int} (n n' : Nat) (c : Int) {x x' : X} (h : Rl Z x x') : Rl Z (failX n c x) (failX n' c x') := by
  rcases h with ⟨r, hf, rfl, rfl⟩ | ⟨rfl, rfl⟩ | ⟨i, c, j, d, rfl, rfl⟩ <;> exact Rl.bad
theorem rl_must {Z W : List Int} (hZ : gp Z = some []) (hW : wordy W) (n n' : Nat) {x x' : X} (h : Rl Z x x') : Rl Z (mustX n W x) (mustX n' W x') := by
  obtain ⟨h1, h2⟩ := rl_fold hZ hW h
  unfold mustX
  rw [h2]
  split
  · exact h1
  · exact rl_fail n n' 2 h1
theorem rl_one {Z : List Int} (hZ : gp Z = some []) {nm : Nat → List Int} : ∀ (k i : Nat) {x x' : X}, (∀ j, i ≤ j → j < i + k → wordy (nm j)) → Rl Z x x' → Rl Z (oneK nm k i x).1 (oneK nm k i x').1 ∧ (oneK nm k i x).2 = (oneK nm k i x').2
  | 0, _, _, _, _, h => ⟨h, rfl⟩
  | k + 1, i, x, x', hN, h => by
    obtain ⟨h1, h2⟩ := rl_fold hZ (hN i (Nat.le_refl _) (by omega)) h
    unfold oneK
    rw [h2]
    split
    · exact ⟨h1, rfl⟩
    · exact rl_one hZ k (i + 1) (fun j a b => hN j (by omega) (by omega)) h1
instance (z : Int) : Decidable (gh z) := by unfold gh; infer_instance
instance (W : List Int) : Decidable (wordy W) := by unfold wordy; infer_instance
theorem wk_wordy : ∀ j : Nat, 1 ≤ j → j < 8 → wordy (wkN j)
  | 0, h, _ => absurd h (by decide)
  | 1, _, _ => by decide
  | 2, _, _ => by decide
  | 3, _, _ => by decide
  | 4, _, _ => by decide
  | 5, _, _ => by decide
  | 6, _, _ => by decide
  | 7, _, _ => by decide
  | (n + 8), _, h => absurd h (by omega)
theorem mo_wordy : ∀ j : Nat, 1 ≤ j → j < 13 → wordy (moN j)
  | 0, h, _ => absurd h (by decide)
  | 1, _, _ => by decide
  | 2, _, _ => by decide
  | 3, _, _ => by decide
  | 4, _, _ => by decide
  | 5, _, _ => by decide
  | 6, _, _ => by decide
  | 7, _, _ => by decide
  | 8, _, _ => by decide
  | 9, _, _ => by decide
  | 10, _, _ => by decide
  | 11, _, _ => by decide
  | 12, _, _ => by decide
  | (n + 13), _, h => absurd h (by omega)
theorem rl_oneX {Z : List Int} (hZ : gp Z = some []) {c : Int} (hc : ¬ gh c) {x x' : X} (h : Rl Z x x') : oneX c x = oneX c x' ∧ (oneX c x = true → Rl Z (takeX 1 x) (takeX 1 x')) := by
  rcases h with ⟨r, hf, rfl, rfl⟩ | ⟨rfl, rfl⟩ | ⟨i, c, j, d, rfl, rfl⟩
  · cases r with
    | nil =>
      refine ⟨?_, fun q => by simp [oneX, X.rest] at q⟩
      rcases gp_head hZ with rfl | ⟨z, t, rfl, hz⟩
      · rfl
      · have : ¬ z = c := fun q => hc (q ▸ hz)
        simp [oneX, X.rest, this]
    | cons a t =>
      refine ⟨by simp [oneX, X.rest], fun _ => ?_⟩
      simp only [takeX, List.cons_append, List.drop_succ_cons, List.drop_zero]
      exact Rl.good (fit_tail (p := [a]) hf)
  · exact ⟨rfl, fun q => by simp [oneX, X.rest] at q⟩
  · exact ⟨rfl, fun q => by simp [oneX, X.rest] at q⟩
theorem rl_wk {Z : List Int} (hZ : gp Z = some []) (n n' : Nat) {x x' : X} (h : Rl Z x x') : Rl Z (wkX n x).1 (wkX n' x').1 ∧ (wkX n x).2 = (wkX n' x').2 := by
  obtain ⟨h1, h2⟩ := rl_one hZ (nm := wkN) 7 1 (fun j a b => wk_wordy j a (by omega)) h
  unfold wkX
  rw [← h2]
  split
  · exact ⟨h1, rfl⟩
  · exact ⟨rl_gap hZ n n' (rl_must hZ (by decide) n n' (rl_gap hZ n n' h1)), rfl⟩
theorem rl_yr {Z : List Int} (hZ : gp Z = some []) (n n' : Nat) {x x' : X} (h : Rl Z x x') : Rl Z (yrX n x).1 (yrX n' x').1 ∧ (yrX n x).2 = (yrX n' x').2 := by
  rcases h with ⟨r, hf, rfl, rfl⟩ | ⟨rfl, rfl⟩ | ⟨i, c, j, d, rfl, rfl⟩
  · have hl := lead_le r
    simp only [yrX, lead_gap hZ r]
    by_cases c : 2 ≤ lead r ∧ lead r ≤ 4
    · rw [if_pos c, if_pos c, List.drop_append_of_le_length hl, List.take_append_of_le_length hl]
      exact ⟨Rl.good (fit_drop hf _), rfl⟩
    · rw [if_neg c, if_neg c]; exact ⟨Rl.bad, rfl⟩
  · have : ¬ (2 ≤ lead [] ∧ lead [] ≤ 4) := by simp [lead]
    simp only [yrX, if_neg this]; exact ⟨Rl.bad, trivial⟩
  · exact ⟨Rl.bad, rfl⟩
theorem rl_date {Z : List Int} (hZ : gp Z = some []) (n n' : Nat) {x x' : X} (h : Rl Z x x') : Rl Z (dateX n x).1 (dateX n' x').1 ∧ (dateX n x).2 = (dateX n' x').2 := by
  obtain ⟨a1, a2⟩ := rl_fig hZ n n' 1 2 (by decide) h
  obtain ⟨o1, o2⟩ := rl_one hZ (nm := moN) 12 1 (fun j a b => mo_wordy j a (by omega)) (rl_gap hZ n n' a1)
  unfold dateX
  simp only
  rw [← o2, ← a2]
  have hx : Rl Z (if (oneK moN 12 1 (gapX n (figX n 1 2 x).1).1).2 = 0 then failX n 2 (oneK moN 12 1 (gapX n (figX n 1 2 x).1).1).1 else (oneK moN 12 1 (gapX n (figX n 1 2 x).1).1).1) (if (oneK moN 12 1 (gapX n (figX n 1 2 x).1).1).2 = 0 then failX n' 2 (oneK moN 12 1 (gapX n' (figX n' 1 2 x').1).1).1 else (oneK moN 12 1 (gapX n' (figX n' 1 2 x').1).1).1) := by
    split
    · exact rl_fail n n' 2 o1
    · exact o1
  obtain ⟨y1, y2⟩ := rl_yr hZ n n' (rl_gap hZ n n' hx)
  rw [y2]
  exact ⟨y1, rfl⟩
theorem rl_sec {Z : List Int} (hZ : gp Z = some []) (n n' : Nat) {x x' : X} (h : Rl Z x x') : Rl Z (secX n x).1 (secX n' x').1 ∧ (secX n x).2 = (secX n' x').2 := by
  obtain ⟨o1, o2⟩ := rl_oneX hZ (c := 58) (by decide) h
  unfold secX
  rw [← o1]
  by_cases c : oneX 58 x = true
  · rw [if_pos c, if_pos c]
    obtain ⟨f1, f2⟩ := rl_fig hZ n n' 2 2 (by decide) (rl_gap hZ n n' (o2 c))
    exact ⟨rl_gap hZ n n' f1, f2⟩
  · rw [if_neg c, if_neg c]; exact ⟨h, rfl⟩
/-- The clock, also where a gap alone was lacking. -/
theorem rl_clk {Z : List Int} (hZ : gp Z = some []) (n n' : Nat) {x x' : X} (h : Rl Z x x' ∨ ((∃ i c, x = .bad i c) ∧ x' = .good [])) : Rl Z (clkX n x).1 (clkX n' x').1 ∧ (clkX n x).2 = (clkX n' x').2 := by
  have hf : Rl Z (figX n 2 2 x).1 (figX n' 2 2 x').1 ∧ (figX n 2 2 x).2 = (figX n' 2 2 x').2 := by
    rcases h with h | ⟨⟨i, c, rfl⟩, rfl⟩
    · exact rl_fig hZ n n' 2 2 (by decide) h
    · have : ¬ 2 ≤ min (lead []) 2 := by simp [lead]
      simp only [figX, if_neg this]; exact ⟨Rl.bad, trivial⟩
  obtain ⟨f1, f2⟩ := hf
  obtain ⟨g1, g2⟩ := rl_fig hZ n n' 2 2 (by decide) (rl_gap hZ n n' (rl_must hZ (W := [58]) (by decide) n n' (rl_gap hZ n n' f1)))
  obtain ⟨s1, s2⟩ := rl_sec hZ n n' (rl_gap hZ n n' g1)
  unfold clkX
  simp only
  rw [← f2, ← g2, ← s2]
  exact ⟨s1, rfl⟩
theorem rl_num {Z : List Int} (hZ : gp Z = some []) (n n' : Nat) (b : Bool) {x x' : X} (h : Rl Z x x') : Rl Z (numZ n b x).1 (numZ n' b x').1 ∧ (numZ n b x).2 = (numZ n' b x').2 := by
  obtain ⟨f1, f2⟩ := rl_fig hZ n n' 2 2 (by decide) h
  obtain ⟨g1, g2⟩ := rl_fig hZ n n' 2 2 (by decide) f1
  unfold numZ
  simp only
  rw [← f2, ← g2]
  exact ⟨g1, rfl⟩
theorem let_gap : ∀ z, gh z → ¬ z ∈ letL := by
  intro z hz h
  unfold gh spc at hz
  simp only [letL, List.mem_cons, List.not_mem_nil, or_false] at h
  omega
theorem rl_nam {Z : List Int} (hZ : gp Z = some []) (n n' : Nat) {x x' : X} (h : Rl Z x x') : Rl Z (namZ n x).1 (namZ n' x').1 ∧ (namZ n x).2 = (namZ n' x').2 := by
  have e : x.rest.take (runN letL x.rest) = x'.rest.take (runN letL x'.rest) ∧ Rl Z (takeX (runN letL x.rest) x) (takeX (runN letL x'.rest) x') := by
    rcases h with ⟨r, hf, rfl, rfl⟩ | ⟨rfl, rfl⟩ | ⟨i, c, j, d, rfl, rfl⟩
    · have hl := runN_le letL r
      simp only [X.rest, run_gap hZ let_gap r, takeX]
      rw [List.take_append_of_le_length hl, List.drop_append_of_le_length hl]
      exact ⟨rfl, Rl.good (fit_drop hf _)⟩
    · exact ⟨rfl, Rl.nil⟩
    · exact ⟨rfl, Rl.bad⟩
  unfold namZ
  simp only
  rw [← e.1]
  refine ⟨?_, rfl⟩
  split
  · exact e.2
  · exact rl_fail n n' 2 e.2
theorem rl_zon {Z : List Int} (hZ : gp Z = some []) (n n' : Nat) {x x' : X} (h : Rl Z x x') : Rl Z (zonX n x).1 (zonX n' x').1 ∧ (zonX n x).2 = (zonX n' x').2 := by
  obtain ⟨a1, a2⟩ := rl_oneX hZ (c := 45) (by decide) h
  obtain ⟨b1, b2⟩ := rl_oneX hZ (c := 43) (by decide) h
  unfold zonX
  rw [← a1, ← b1]
  by_cases c : oneX 45 x = true
  · rw [if_pos c, if_pos c]; exact rl_num hZ n n' true (a2 c)
  · rw [if_neg c, if_neg c]
    by_cases c2 : oneX 43 x = true
    · rw [if_pos c2, if_pos c2]; exact rl_num hZ n n' false (b2 c2)
    · rw [if_neg c2, if_neg c2]; exact rl_nam hZ n n' h
theorem rl_end {Z : List Int} (hZ : gp Z = some []) (n n' : Nat) {x x' : X} (h : Rl Z x x') : (gapX n x).1.end = none ↔ (gapX n' x').1.end = none := by
  rcases h with ⟨r, hf, rfl, rfl⟩ | ⟨rfl, rfl⟩ | ⟨i, c, j, d, rfl, rfl⟩
  · have hm := gp_more hZ r.length r (Nat.le_refl _) hf
    simp only [gapX, hm]
    cases hg : gp r with
    | none => simp [X.end]
    | some q =>
      cases q with
      | nil => simp [X.end]
      | cons a t => simp [X.end]
  · simp [gapX, gp_nil, X.end]
  · simp [gapX, X.end]
theorem rl_all {A B Z : List Int} (hA : gp A = some []) (hZ : gp Z = some []) (hB : fit B) (n n' : Nat) : (mpX n B).err = (mpX n' ((A ++ B) ++ Z)).err ∧ ((mpX n B).err = 0 → (mpX n B).lab = (mpX n' ((A ++ B) ++ Z)).lab) := by
  have h0 : Rl Z (gapX n (.good B)).1 (gapX n' (.good ((A ++ B) ++ Z))).1 := by
    have e : gp ((A ++ B) ++ Z) = gp (B ++ Z) := by rw [List.append_assoc]; exact gp_app A.length A _ (Nat.le_refl _) hA
    have h := rl_gap hZ n n' (Rl.good (Z := Z) hB)
    have e2 : Rl Z (gapX n' (.good (B ++ Z))).1 (gapX n' (.good (B ++ Z))).1 → True := fun _ => trivial
    rcases h with ⟨r, hf, h1, h2⟩ | ⟨h1, h2⟩ | ⟨i, c, j, d, h1, h2⟩
    · refine Or.inl ⟨r, hf, h1, ?_⟩
      simp only [gapX, e] at h2 ⊢
      cases hg : gp (B ++ Z) with
      | none => rw [hg] at h2; cases h2
      | some q => rw [hg] at h2; exact h2
    · refine Or.inr (Or.inl ⟨h1, ?_⟩)
      simp only [gapX, e] at h2 ⊢
      cases hg : gp (B ++ Z) with
      | none => rw [hg] at h2; cases h2
      | some q => rw [hg] at h2; exact h2
    · simp only [gapX, e] at h2
      cases hg : gp (B ++ Z) with
      | none => exact Or.inr (Or.inr ⟨i, c, n' - ((A ++ B) ++ Z).length, 2, h1, by simp only [gapX, e, hg]⟩)
      | some q => rw [hg] at h2; cases h2
  obtain ⟨w1, w2⟩ := rl_wk hZ n n' h0
  obtain ⟨d1, d2⟩ := rl_date hZ n n' w1
  have g1 := rl_gap hZ n n' d1
  have hx : Rl Z (if (gapX n (dateX n (wkX n (gapX n (.good B)).1).1).1).2 then (gapX n (dateX n (wkX n (gapX n (.good B)).1).1).1).1 else failX n 2 (gapX n (dateX n (wkX n (gapX n (.good B)).1).1).1).1) (if (gapX n' (dateX n' (wkX n' (gapX n' (.good ((A ++ B) ++ Z))).1).1).1).2 then (gapX n' (dateX n' (wkX n' (gapX n' (.good ((A ++ B) ++ Z))).1).1).1).1 else failX n' 2 (gapX n' (dateX n' (wkX n' (gapX n' (.good ((A ++ B) ++ Z))).1).1).1).1) ∨
      ((∃ i c, (if (gapX n (dateX n (wkX n (gapX n (.good B)).1).1).1).2 then (gapX n (dateX n (wkX n (gapX n (.good B)).1).1).1).1 else failX n 2 (gapX n (dateX n (wkX n (gapX n (.good B)).1).1).1).1) = .bad i c) ∧ (if (gapX n' (dateX n' (wkX n' (gapX n' (.good ((A ++ B) ++ Z))).1).1).1).2 then (gapX n' (dateX n' (wkX n' (gapX n' (.good ((A ++ B) ++ Z))).1).1).1).1 else failX n' 2 (gapX n' (dateX n' (wkX n' (gapX n' (.good ((A ++ B) ++ Z))).1).1).1).1) = .good []) := by
    rcases rl_flag hZ n n' d1 with hfl | ⟨e1, e2⟩
    · rw [← hfl]
      refine Or.inl ?_
      split
      · exact g1
      · exact rl_fail n n' 2 g1
    · rw [e1, e2]
      have q1 : gapX n (.good []) = (.good [], false) := by simp [gapX, gp_nil]
      rw [q1]
      by_cases c : (gapX n' (.good Z)).2 = true
      · refine Or.inr ⟨⟨_, _, rfl⟩, ?_⟩
        rw [if_pos c]
        simp only [gapX, hZ]
      · refine Or.inl ?_
        rw [if_neg c]
        simp only [gapX, hZ]; exact Rl.bad
  obtain ⟨c1, c2⟩ := rl_clk hZ n n' hx
  obtain ⟨z1, z2⟩ := rl_zon hZ n n' c1
  have he := rl_end hZ n n' z1
  have v1 : (mpX n B).w = (mpX n' ((A ++ B) ++ Z)).w := w2
  have v2 : (mpX n B).y = (mpX n' ((A ++ B) ++ Z)).y := congrArg (fun t : tri => t.1) d2
  have v3 : (mpX n B).m = (mpX n' ((A ++ B) ++ Z)).m := congrArg (fun t : tri => t.2.1) d2
  have v4 : (mpX n B).d = (mpX n' ((A ++ B) ++ Z)).d := congrArg (fun t : tri => t.2.2) d2
  have v5 : (mpX n B).h = (mpX n' ((A ++ B) ++ Z)).h := congrArg (fun t : tri => t.1) c2
  have v6 : (mpX n B).i = (mpX n' ((A ++ B) ++ Z)).i := congrArg (fun t : tri => t.2.1) c2
  have v7 : (mpX n B).s = (mpX n' ((A ++ B) ++ Z)).s := congrArg (fun t : tri => t.2.2) c2
  have v8 : (mpX n B).o = (mpX n' ((A ++ B) ++ Z)).o := congrArg (fun t : Int × Bool => t.1) z2
  have v9 : (mpX n B).ok = (mpX n' ((A ++ B) ++ Z)).ok := congrArg (fun t : Int × Bool => t.2) z2
  have v10 : (mpX n B).e.end = none ↔ (mpX n' ((A ++ B) ++ Z)).e.end = none := he
  generalize mpX n B = P at v1 v2 v3 v4 v5 v6 v7 v8 v9 v10 ⊢
  generalize mpX n' ((A ++ B) ++ Z) = Q at v1 v2 v3 v4 v5 v6 v7 v8 v9 v10 ⊢
  have hlab : P.lab = Q.lab := by unfold MP.lab; rw [v2, v3, v4, v5, v6, v7, v8]
  refine ⟨?_, fun _ => hlab⟩
  unfold MP.err
  rw [hlab, v1, v2, v3, v4, v9]
  by_cases c : P.e.end = none
  · rw [if_neg (not_not_intro c), if_neg (not_not_intro (v10.1 c))]
  · rw [if_pos c, if_pos (fun q => c (v10.2 q))]
theorem gap_whole (a : ByteArray) (hs : a.size ≤ 1000) {v : Int} (h : g_mail_Gap ((), ((a, ()), ((0, ()), ()))) = some ((), ((v, ()), ()))) (hv : v = a.size) : gp (bytesOf a) = some [] := by
  have h1 := mail_gap a (by omega) 0 (Nat.zero_le _)
  rw [show ((0 : Nat) : Int) = 0 from rfl, List.drop_zero] at h1
  rw [h1] at h
  simp only [Option.some.injEq, Prod.mk.injEq, and_true, true_and] at h
  cases hg : gp (bytesOf a) with
  | none => rw [hg] at h; simp only [posO] at h; omega
  | some r =>
    rw [hg] at h
    simp only [posO] at h
    obtain ⟨p, hp⟩ := gp_cut _ (bytesOf a) r (Nat.le_refl _) hg
    have hl := congrArg List.length hp
    rw [by_len, List.length_append] at hl
    have : r = [] := List.length_eq_zero_iff.1 (by omega)
    rw [this]
theorem mail_gaps (a s z : ByteArray) : g_law25_MailGaps ((), ((a, ()), ((s, ()), ((z, ()), ())))) = some ((), ((true, ()), ())) := by
  simp only [g_law25_MailGaps, f_law25_MailGaps_m, mail_alive, fitsS_dec, Option.bind_some, Option.isNone_none, Option.isNone_some, Option.isSome_none, Option.isSome_some, Bool.not_true, Bool.not_false, cond_true, cond_false, cond_dec, beq_int, bne_int, not_dec, -fitsS_dec, gt_iff_lt]
  by_cases c0 : 300 < s.size
  · rw [if_pos (by omega)]
  rw [if_neg (by omega)]
  by_cases c1 : 100 < a.size
  · rw [if_pos (by omega)]
  rw [if_neg (by omega)]
  by_cases c2 : 100 < z.size
  · rw [if_pos (by omega)]
  rw [if_neg (by omega)]
  have ha := mail_gap a (by omega) 0 (Nat.zero_le _)
  have hz := mail_gap z (by omega) 0 (Nat.zero_le _)
  rw [show ((0 : Nat) : Int) = 0 from rfl, List.drop_zero] at ha hz
  simp only [ha, hz, Option.bind_some]
  by_cases c3 : posO a.size (gp (bytesOf a)) = a.size
  · rw [if_neg (not_not_intro c3)]
    by_cases c4 : posO z.size (gp (bytesOf z)) = z.size
    · rw [if_neg (not_not_intro c4)]
      have gA := gap_whole a (by omega) ha c3
      have gZ := gap_whole z (by omega) hz c4
      have e1 : fitsS a s = true := by rw [fitsS_dec]; exact decide_eq_true (by omega)
      have hsz : (a ++ s).size = a.size + s.size := by
        have := by_app a s
        have := congrArg List.length this
        rw [List.length_append, by_len, by_len, by_len] at this; exact this
      have hsz2 : ((a ++ s) ++ z).size = a.size + s.size + z.size := by
        have := by_app (a ++ s) z
        have := congrArg List.length this
        rw [List.length_append, by_len, by_len, by_len] at this; omega
      have e2 : fitsS (a ++ s) z = true := by rw [fitsS_dec]; exact decide_eq_true (by omega)
      have P : fit (bytesOf s) → ((g_mail_Parse ((), ((s, ()), ()))).bind fun x29 => bif fitsS a s then (bif fitsS (a ++ s) z then ((g_mail_Parse ((), (((a ++ s) ++ z, ()), ()))).bind fun x32 =>
          bif ((x29.2.1.1 == x32.2.1.1) && ((x29.2.1.2.1 == x32.2.1.2.1) && ((x29.2.1.2.2.1 == x32.2.1.2.2.1) && ((x29.2.1.2.2.2.1 == x32.2.1.2.2.2.1) && ((x29.2.1.2.2.2.2.1 == x32.2.1.2.2.2.2.1) && ((x29.2.1.2.2.2.2.2.1 == x32.2.1.2.2.2.2.2.1) && ((x29.2.1.2.2.2.2.2.2.1 == x32.2.1.2.2.2.2.2.2.1) && ((x29.2.1.2.2.2.2.2.2.2.1 == x32.2.1.2.2.2.2.2.2.2.1) && true)))))))) then
            ((g_hnum_Num ((), ((x29.2.2.1.1, ()), ()))).bind fun x34 => (g_hnum_Num ((), ((x32.2.2.1.1, ()), ()))).bind fun x35 => some ((), (((x34.2.1.1 == x35.2.1.1), ()), ()))) else some ((), ((false, ()), ()))) else none) else none) = some ((), ((true, ()), ())) := fun hf => by
        obtain ⟨r1, r2⟩ := rl_all gA gZ hf s.size ((a ++ s) ++ z).size
        have p1 := mail_parse s (by omega)
        have p2 := mail_parse ((a ++ s) ++ z) (by omega)
        rw [by_app, by_app, ← r1] at p2
        by_cases c : (mpX s.size (bytesOf s)).err = 0
        · have := r2 c
          rw [c, if_pos rfl] at p1 p2
          rw [← this] at p2
          simp only [Lab.t] at p1 p2
          simp only [p1, p2, e1, e2, cond_true, Option.bind_some, beq_self_eq_true, Bool.and_self, num_num]
        · rw [if_neg c] at p1 p2
          simp only [p1, p2, e1, e2, cond_true, Option.bind_some, beq_self_eq_true, Bool.and_self, num_num]
      simp only [beq_int, and_dec, cond_dec, Bool.and_true] at P ⊢
      by_cases c5 : 0 < s.size
      · have i1 : isub .i64 (s.size : Int) 1 = ((s.size - 1 : Nat) : Int) := by rw [isub_i64 (by omega)]; omega
        have hb := by_at s (i := ((s.size - 1 : Nat) : Int)) (by omega) (by omega)
        rw [Int.toNat_natCast] at hb
        rw [if_pos (by omega), i1, if_pos (by omega), hb]
        by_cases c6 : (bytesOf s).getD (s.size - 1) 0 = 92
        · rw [if_pos c6]
        · rw [if_neg c6]
          refine P fun p hp => c6 ?_
          have hl := congrArg List.length hp
          rw [by_len, List.length_append, List.length_singleton] at hl
          rw [hp, show s.size - 1 = p.length by omega]
          simp
      · rw [if_neg (by omega)]
        refine P fun p hp => ?_
        have hl := congrArg List.length hp
        rw [by_len, List.length_append, List.length_singleton] at hl
        omega
    · rw [if_pos c4]
  · rw [if_pos c3]
end Go.Proofs.Yticfncahnhbhbaa.Ev
