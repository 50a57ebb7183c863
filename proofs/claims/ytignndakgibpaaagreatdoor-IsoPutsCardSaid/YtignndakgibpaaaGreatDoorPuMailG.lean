/- Mail dates: gaps and remarks, by the program and by its reference. -/
import Derived.Test.YtignndakgibpaaaGreatDoorPuRun
namespace Go.Proofs.YtignndakgibpaaaGreatDoor.Ev
open Go
set_option linter.unusedVariables false
set_option linter.unusedSimpArgs false
/-- What follows a remark that is d deep. -/
def rmk : Nat → List Int → Option (List Int)
  | _, [] => none
  | d, x :: l => if x = 92 then (match l with | [] => none | _ :: r => rmk d r) else if x = 40 then rmk (d + 1) l else if x = 41 then (if d = 1 then some l else rmk (d - 1) l) else rmk d l
theorem rmk_cut : ∀ (n d : Nat) (l r : List Int), l.length ≤ n → rmk d l = some r → ∃ p, l = p ++ r ∧ p ≠ [] := by
  intro n; induction n with
  | zero =>
    intro d l r hn h
    cases l with
    | nil => simp [rmk] at h
    | cons x l => simp at hn
  | succ n ih =>
    intro d l r hn h
    cases l with
    | nil => simp [rmk] at h
    | cons x l =>
      simp only [List.length_cons] at hn
      unfold rmk at h
      by_cases c1 : x = 92
      · rw [if_pos c1] at h
        cases l with
        | nil => simp at h
        | cons y l =>
          simp only at h
          obtain ⟨p, hp, _⟩ := ih d l r (by simp only [List.length_cons] at hn; omega) h
          exact ⟨x :: y :: p, by rw [hp]; rfl, by simp⟩
      · rw [if_neg c1] at h
        have go : ∀ d', rmk d' l = some r → ∃ p, x :: l = p ++ r ∧ p ≠ [] := fun d' h' => by
          obtain ⟨p, hp, _⟩ := ih d' l r (by omega) h'
          exact ⟨x :: p, by rw [hp]; rfl, by simp⟩
        by_cases c2 : x = 40
        · rw [if_pos c2] at h; exact go _ h
        · rw [if_neg c2] at h
          by_cases c3 : x = 41
          · rw [if_pos c3] at h
            by_cases c4 : d = 1
            · rw [if_pos c4] at h
              simp only [Option.some.injEq] at h
              exact ⟨[x], by rw [h]; rfl, by simp⟩
            · rw [if_neg c4] at h; exact go _ h
          · rw [if_neg c3] at h; exact go _ h
def spc (x : Int) : Prop := x = 32 ∨ x = 9 ∨ x = 13 ∨ x = 10
instance (x : Int) : Decidable (spc x) := by unfold spc; infer_instance
/-- What follows a gap. -/
def gpF : Nat → List Int → Option (List Int)
  | 0, l => some l
  | _ + 1, [] => some []
  | n + 1, x :: l => if spc x then gpF n l else if x = 40 then (match rmk 1 l with | none => none | some r => gpF n r) else some (x :: l)
def gp (l : List Int) : Option (List Int) := gpF l.length l
theorem gpF_eq : ∀ (n m : Nat) (l : List Int), l.length ≤ n → l.length ≤ m → gpF n l = gpF m l := by
  intro n; induction n with
  | zero =>
    intro m l hn hm
    have : l = [] := List.length_eq_zero_iff.1 (by omega)
    subst this
    cases m <;> rfl
  | succ n ih =>
    intro m l hn hm
    cases l with
    | nil => cases m <;> rfl
    | cons x l =>
      cases m with
      | zero => simp at hm
      | succ m =>
        simp only [List.length_cons] at hn hm
        simp only [gpF]
        by_cases c1 : spc x
        · rw [if_pos c1, if_pos c1]; exact ih m l (by omega) (by omega)
        · rw [if_neg c1, if_neg c1]
          by_cases c2 : x = 40
          · rw [if_pos c2, if_pos c2]
            cases h : rmk 1 l with
            | none => rfl
            | some r =>
              obtain ⟨p, hp, _⟩ := rmk_cut l.length 1 l r (Nat.le_refl _) h
              have : r.length ≤ l.length := by rw [hp, List.length_append]; omega
              exact ih m r (by omega) (by omega)
          · rw [if_neg c2, if_neg c2]
theorem gp_nil : gp [] = some [] := rfl
theorem gp_spc {x : Int} (h : spc x) (l : List Int) : gp (x :: l) = gp l := by
  unfold gp; simp only [List.length_cons, gpF, if_pos h]
theorem gp_rem (l : List Int) : gp (40 :: l) = match rmk 1 l with | none => none | some r => gp r := by
  unfold gp
  simp only [List.length_cons, gpF]
  rw [if_neg (by unfold spc; decide)]
  simp only [if_true]
  cases h : rmk 1 l with
  | none => rfl
  | some r =>
    obtain ⟨p, hp, _⟩ := rmk_cut l.length 1 l r (Nat.le_refl _) h
    exact gpF_eq _ _ _ (by rw [hp, List.length_append]; omega) (Nat.le_refl _)
theorem gp_no {x : Int} (h : ¬ spc x) (h2 : x ≠ 40) (l : List Int) : gp (x :: l) = some (x :: l) := by
  unfold gp; simp only [List.length_cons, gpF, if_neg h, if_neg h2]
theorem gp_cut : ∀ (n : Nat) (l r : List Int), l.length ≤ n → gp l = some r → ∃ p, l = p ++ r := by
  intro n; induction n with
  | zero =>
    intro l r hn h
    have : l = [] := List.length_eq_zero_iff.1 (by omega)
    subst this
    rw [gp_nil] at h
    exact ⟨[], by rw [← Option.some.inj h]; rfl⟩
  | succ n ih =>
    intro l r hn h
    cases l with
    | nil => rw [gp_nil] at h; exact ⟨[], by rw [← Option.some.inj h]; rfl⟩
    | cons x l =>
      simp only [List.length_cons] at hn
      by_cases c1 : spc x
      · rw [gp_spc c1] at h
        obtain ⟨p, hp⟩ := ih l r (by omega) h
        exact ⟨x :: p, by rw [hp]; rfl⟩
      · by_cases c2 : x = 40
        · subst c2
          rw [gp_rem] at h
          cases hr : rmk 1 l with
          | none => rw [hr] at h; cases h
          | some q =>
            rw [hr] at h
            obtain ⟨p, hp, _⟩ := rmk_cut l.length 1 l q (Nat.le_refl _) hr
            obtain ⟨p2, hp2⟩ := ih q r (by have := congrArg List.length hp; rw [List.length_append] at this; omega) h
            exact ⟨40 :: (p ++ p2), by rw [hp, hp2]; simp⟩
        · rw [gp_no c1 c2] at h
          exact ⟨[], by rw [Option.some.inj h]; rfl⟩
/-- A remark is one that is deep and then the rest. -/
theorem rmk_split : ∀ (n d : Nat) (l : List Int), l.length ≤ n → 1 ≤ d → ∀ e : Nat, 1 ≤ e → rmk (d + e) l = (rmk e l).bind (rmk d) := by
  intro n; induction n with
  | zero =>
    intro d l hn hd e he
    have : l = [] := List.length_eq_zero_iff.1 (by omega)
    subst this
    simp [rmk]
  | succ n ih =>
    intro d l hn hd e he
    cases l with
    | nil => simp [rmk]
    | cons x l =>
      simp only [List.length_cons] at hn
      conv => lhs; unfold rmk
      conv => rhs; unfold rmk
      by_cases c1 : x = 92
      · rw [if_pos c1, if_pos c1]
        cases l with
        | nil => rfl
        | cons y l => simp only; exact ih d l (by simp only [List.length_cons] at hn; omega) hd e he
      · rw [if_neg c1, if_neg c1]
        by_cases c2 : x = 40
        · rw [if_pos c2, if_pos c2, Nat.add_assoc]; exact ih d l (by omega) hd (e + 1) (by omega)
        · rw [if_neg c2, if_neg c2]
          by_cases c3 : x = 41
          · rw [if_pos c3, if_pos c3]
            by_cases c4 : e = 1
            · rw [if_pos c4, if_neg (by omega)]; simp [c4]
            · rw [if_neg c4, if_neg (by omega), show d + e - 1 = d + (e - 1) by omega]
              exact ih d l (by omega) hd (e - 1) (by omega)
          · rw [if_neg c3, if_neg c3]; exact ih d l (by omega) hd e he
/-- Where a rest begins. -/
def posO (n : Nat) : Option (List Int) → Int
  | none => -1
  | some r => ((n - r.length : Nat) : Int)
theorem rest_at {s : ByteArray} {i : Nat} {x : Int} {l : List Int} (h : (bytesOf s).drop i = x :: l) : i < s.size ∧ (bytesOf s).getD i 0 = x ∧ (bytesOf s).drop (i + 1) = l ∧ i + (l.length + 1) = s.size := by
  have hl := by_len s
  have hlen := congrArg List.length h
  rw [List.length_drop, List.length_cons] at hlen
  refine ⟨by omega, ?_, ?_, by omega⟩
  · rw [List.getD_eq_getElem?_getD]
    have := congrArg (fun z => z[0]?) h
    simp only [List.getElem?_drop, Nat.add_zero, List.getElem?_cons_zero] at this
    rw [this]; rfl
  · rw [← List.drop_drop, h]; rfl
theorem rest_end {s : ByteArray} {i : Nat} (hi : i ≤ s.size) (h : (bytesOf s).drop i = []) : i = s.size := by
  have hl := by_len s
  have hlen := congrArg List.length h
  rw [List.length_drop] at hlen
  simp only [List.length_nil] at hlen; omega
end Go.Proofs.YtignndakgibpaaaGreatDoor.Ev
