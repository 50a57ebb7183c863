/- The reader of texts: where it stands, and what its steps do. -/
import Derived.Test.YtodnllhjikeafaaGreatDoorPuTake
namespace Go.Proofs.YtodnllhjikeafaaGreatDoor.Ev
open Go
set_option linter.unusedVariables false
set_option linter.unusedSimpArgs false
/-- A reader: what is left of the text, or where and with what error it stopped. -/
inductive X
  | good (l : List Int)
  | bad (i : Nat) (c : Int)
def X.at (n : Nat) : X → Int
  | .good l => ((n - l.length : Nat) : Int)
  | .bad i _ => (i : Int)
def X.er : X → Option Int
  | .good _ => none
  | .bad _ c => some c
def X.rest : X → List Int
  | .good l => l
  | .bad _ _ => []
def X.wf (s : ByteArray) : X → Prop
  | .good l => ∃ p, bytesOf s = p ++ l
  | .bad i _ => i ≤ s.size
@[reducible] def X.t (s : ByteArray) (x : X) : (ByteArray × (Int × (Option Int × Unit))) × Unit := ((s, (x.at s.size, (x.er, ()))), ())
@[reducible] def X.p (s : ByteArray) (x : X) : Option (ByteArray × (Int × Option Int)) := some (s, (x.at s.size, x.er))
theorem X.wf_good {s : ByteArray} {l : List Int} (h : X.wf s (.good l)) : okBy l ∧ l.length ≤ s.size ∧ (bytesOf s).drop (s.size - l.length) = l := by
  obtain ⟨p, hp⟩ := h
  have hl := by_len s
  rw [hp, List.length_append] at hl
  refine ⟨fun x hx => by_ok s x (by rw [hp]; exact List.mem_append_right _ hx), by omega, ?_⟩
  rw [hp, show s.size - l.length = p.length by omega, List.drop_left]
theorem X.at_range {s : ByteArray} {x : X} (h : x.wf s) : 0 ≤ x.at s.size ∧ x.at s.size ≤ s.size := by
  cases x with
  | good l => simp only [X.at]; omega
  | bad i c => simp only [X.at, X.wf] at *; omega
theorem X.ok_rest {s : ByteArray} {x : X} (h : x.wf s) : okBy x.rest ∧ x.rest.length ≤ s.size := by
  cases x with
  | good l => exact ⟨(X.wf_good h).1, (X.wf_good h).2.1⟩
  | bad i c => exact ⟨(fun x hx => by cases hx), Nat.zero_le _⟩
theorem X.wf_cut {s : ByteArray} {l : List Int} (h : X.wf s (.good l)) (k : Nat) : X.wf s (.good (l.drop k)) := by
  obtain ⟨p, hp⟩ := h
  exact ⟨p ++ l.take k, by rw [hp, List.append_assoc, List.take_append_drop]⟩
theorem sc_nil : (⟨#[]⟩ : ByteArray) = strOf [] := by kernel_rfl
theorem X.wf_new (s : ByteArray) : X.wf s (.good (bytesOf s)) := ⟨[], rfl⟩
theorem str_emp (l : List Int) : ((strOf l).toList == (strOf []).toList) = decide (l = []) := by
  cases l with
  | nil => simp
  | cons x l =>
    rw [str_eq]
    have : (bytesOf (strOf (x :: l))).length ≠ 0 := by rw [by_len, str_size]; simp
    rw [decide_eq_decide]
    constructor
    · intro q; rw [q] at this; exact absurd rfl this
    · intro q; cases q
/-- What End tells. -/
def X.end : X → Option Int
  | .good l => if l = [] then none else some 2
  | .bad _ c => some c
/-- Some of what is left, taken. -/
def takeX (k : Nat) : X → X
  | .good l => .good (l.drop k)
  | .bad i c => .bad i c
theorem takeX_wf {s : ByteArray} {x : X} (h : x.wf s) (k : Nat) : (takeX k x).wf s := by
  cases x with
  | good l => exact X.wf_cut h k
  | bad i c => exact h
/-- One byte, if it is that one. -/
def oneX (c : Int) (x : X) : Bool := decide (x.rest.head? = some c)
/-- A stop, with an error. -/
def failX (n : Nat) (c : Int) : X → X
  | .good l => .bad (n - l.length) c
  | .bad i q => .bad i q
theorem failX_wf {s : ByteArray} {x : X} (h : x.wf s) (c : Int) : (failX s.size c x).wf s := by
  cases x with
  | good l => exact Nat.sub_le _ _
  | bad i q => exact h
/-- Figures, at least so many and at most so many. -/
def figX (n a b : Nat) : X → X × Int
  | .good l => if a ≤ min (lead l) b then (.good (l.drop (min (lead l) b)), val10 (l.take (min (lead l) b))) else (.bad (n - l.length) 2, 0)
  | .bad i c => (.bad i c, 0)
theorem figX_wf {s : ByteArray} {x : X} (h : x.wf s) (a b : Nat) : (figX s.size a b x).1.wf s := by
  cases x with
  | good l =>
    simp only [figX]
    split
    · exact X.wf_cut h _
    · exact Nat.sub_le _ _
  | bad i q => exact h
theorem sc_lead_figs {l : List Int} {k : Nat} (h : k ≤ lead l) : ∀ x ∈ l.take k, isF x := by
  intro x hx
  obtain ⟨i, hi, rfl⟩ := List.getElem_of_mem hx
  have hl := lead_le l
  rw [List.length_take] at hi
  have := lead_at (l := l) (i := i) (by omega)
  rw [List.getElem_take]
  rwa [List.getD_eq_getElem?_getD, List.getElem?_eq_getElem (by omega)] at this
theorem figX_val (n a b : Nat) (hb : b ≤ 18) (x : X) : 0 ≤ (figX n a b x).2 ∧ (figX n a b x).2 < 10 ^ b := by
  have p1 : (0 : Int) < 10 ^ b := Int.pow_pos (by decide)
  cases x with
  | good l =>
    simp only [figX]
    split
    · have := val10_range _ (l.take (min (lead l) b)) rfl (sc_lead_figs (Nat.min_le_left _ _))
      refine ⟨this.1, Int.lt_of_lt_of_le this.2 ?_⟩
      have h2 : (l.take (min (lead l) b)).length ≤ b := by rw [List.length_take]; omega
      have : 10 ^ (l.take (min (lead l) b)).length ≤ 10 ^ b := Nat.pow_le_pow_right (by omega) h2
      exact_mod_cast this
    · exact ⟨Int.le_refl _, p1⟩
  | bad i q => exact ⟨Int.le_refl _, p1⟩
end Go.Proofs.YtodnllhjikeafaaGreatDoor.Ev
