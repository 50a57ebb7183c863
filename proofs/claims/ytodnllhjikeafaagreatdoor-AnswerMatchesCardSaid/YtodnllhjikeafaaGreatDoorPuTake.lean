/- Numbers out of texts, by the program and by its reference. -/
import Derived.Test.YtodnllhjikeafaaGreatDoorPuBig
import Derived.Test.YtodnllhjikeafaaGreatDoorPuStr
namespace Go.Proofs.YtodnllhjikeafaaGreatDoor.Ev
open Go
set_option linter.unusedVariables false
set_option linter.unusedSimpArgs false
def isF (x : Int) : Prop := 48 ≤ x ∧ x ≤ 57
instance (x : Int) : Decidable (isF x) := by unfold isF; infer_instance
/-- How many figures a text begins with. -/
def lead : List Int → Nat
  | [] => 0
  | x :: l => if isF x then lead l + 1 else 0
theorem lead_le : ∀ l : List Int, lead l ≤ l.length
  | [] => Nat.le_refl _
  | x :: l => by
    unfold lead
    have := lead_le l
    split <;> simp only [List.length_cons] <;> omega
theorem lead_at : ∀ {l : List Int} {i : Nat}, i < lead l → isF (l.getD i 0)
  | [], i, h => by simp [lead] at h
  | x :: l, i, h => by
    unfold lead at h
    split at h
    · rename_i c
      cases i with
      | zero => exact c
      | succ i => exact lead_at (l := l) (by omega)
    · omega
theorem lead_stop : ∀ {l : List Int}, lead l < l.length → ¬ isF (l.getD (lead l) 0)
  | [], h => by simp [lead] at h
  | x :: l, h => by
    unfold lead at h ⊢
    split
    · rename_i c
      rw [if_pos c] at h
      exact lead_stop (l := l) (by simp only [List.length_cons] at h; omega)
    · rename_i c; exact c
/-- The number of figures. -/
def val10 (l : List Int) : Int := l.foldl (fun n x => n * 10 + (x - 48)) 0
theorem val10_snoc (l : List Int) (x : Int) : val10 (l ++ [x]) = val10 l * 10 + (x - 48) := by simp [val10]
theorem val10_range : ∀ (n : Nat) (l : List Int), l.length = n → (∀ x ∈ l, isF x) → 0 ≤ val10 l ∧ val10 l < 10 ^ n
  | 0, [], _, _ => by simp [val10]
  | n + 1, l, hl, h => by
    obtain ⟨m, x, rfl⟩ : ∃ m x, l = m ++ [x] := ⟨l.dropLast, l.getLast (by intro e; rw [e] at hl; cases hl), (List.dropLast_concat_getLast _).symm⟩
    have := val10_range n m (by simpa using hl) (fun y hy => h y (by simp [hy]))
    have hx := h x (by simp)
    unfold isF at hx
    rw [val10_snoc, Int.pow_succ]; omega
theorem val10_mono (l : List Int) (h : ∀ x ∈ l, isF x) : ∀ (k i : Nat), i + k = l.length → val10 (l.take i) ≤ val10 l := by
  intro k; induction k with
  | zero => intro i hi; rw [List.take_of_length_le (by omega)]; exact Int.le_refl _
  | succ k ih =>
    intro i hi
    have h1 := ih (i + 1) (by omega)
    rw [List.take_succ_eq_append_getElem (by omega), val10_snoc] at h1
    have hx := h (l[i]'(by omega)) (List.getElem_mem _)
    unfold isF at hx
    have := (val10_range _ (l.take i) rfl (fun y hy => h y (List.mem_of_mem_take hy))).1
    omega
/-- The number that the first k figures are. -/
def cutV (s : ByteArray) (k : Nat) : Int := val10 ((bytesOf s).take k)
theorem cut_figs {s : ByteArray} {k : Nat} (h : k ≤ lead (bytesOf s)) : ∀ x ∈ (bytesOf s).take k, isF x := by
  intro x hx
  obtain ⟨i, hi, rfl⟩ := List.getElem_of_mem hx
  have hl := lead_le (bytesOf s)
  rw [List.length_take] at hi
  have := lead_at (l := bytesOf s) (i := i) (by omega)
  rw [List.getElem_take]
  rwa [List.getD_eq_getElem?_getD, List.getElem?_eq_getElem (by omega)] at this
/-- What take gives: the error's number, the number, how many. -/
def takeE (s : ByteArray) (least most limit : Int) : Int :=
  if least < 1 ∨ most < least ∨ 20 < most then 1 else if ((min (lead (bytesOf s)) most.toNat : Nat) : Int) < least then 2 else if cutV s (min (lead (bytesOf s)) most.toNat) ≤ limit then 0 else 5
def takeK (s : ByteArray) (most : Int) : Nat := min (lead (bytesOf s)) most.toNat
/-! ### the reference's numbers -/
def mulL : List Int → Int → List Int
  | [], c => if c = 0 then [] else [c]
  | x :: l, c => ((x * 10 + c) % 65536) :: mulL l ((x * 10 + c) / 65536)
theorem mulL_vl : ∀ (l : List Int) (c : Int), vl (mulL l c) = vl l * 10 + c
  | [], c => by
    unfold mulL
    split
    · simp [vl]; omega
    · simp [vl]
  | x :: l, c => by
    simp only [mulL, vl, mulL_vl l]
    omega
theorem mulL_nil : ∀ {l : List Int} {c : Int}, mulL l c = [] → l = [] ∧ c = 0
  | [], c, h => by
    unfold mulL at h
    split at h
    · exact ⟨rfl, by assumption⟩
    · cases h
  | x :: l, c, h => by simp [mulL] at h
theorem mulL_nrm : ∀ (l : List Int) (c : Int), nrm l → 0 ≤ c ∧ c ≤ 9 → nrm (mulL l c)
  | [], c, _, hc => by
    unfold mulL
    split
    · trivial
    · exact ⟨by omega, trivial, fun _ => by omega⟩
  | x :: l, c, h, hc => by
    obtain ⟨h1, h2, h3⟩ := h
    refine ⟨by omega, mulL_nrm l _ h2 (by omega), fun e => ?_⟩
    obtain ⟨e1, e2⟩ := mulL_nil e
    have := h3 e1
    omega
theorem dg10 : dg 10 = [10] := by rw [dg_pos (by omega), show 10 / 65536 = 0 from rfl, dg_zero]; rfl
/-! ### the reference's reading -/
theorem fig10 (l : List Int) (h : l.length ≤ 20) (hf : ∀ x ∈ l, isF x) : 0 ≤ val10 l ∧ val10 l < 100000000000000000000 := by
  have := val10_range _ l rfl hf
  have h2 : 10 ^ l.length ≤ 10 ^ 20 := Nat.pow_le_pow_right (by omega) h
  have h3 : ((10 ^ l.length : Nat) : Int) ≤ ((10 ^ 20 : Nat) : Int) := by exact_mod_cast h2
  rw [Int.natCast_pow] at h3
  have h4 : ((10 ^ 20 : Nat) : Int) = 100000000000000000000 := by decide
  have h5 : ((10 : Nat) : Int) = 10 := rfl
  rw [h5] at h3
  omega
end Go.Proofs.YtodnllhjikeafaaGreatDoor.Ev
