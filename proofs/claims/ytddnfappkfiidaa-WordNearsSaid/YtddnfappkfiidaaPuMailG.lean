/- Mail dates: gaps and remarks, by the program and by its reference. -/
import Derived.Test.YtddnfappkfiidaaPuRun
namespace Go.Proofs.Ytddnfappkfiidaa.Ev
open Go
set_option linter.unusedVariables false
set_option linter.unusedSimpArgs false
def spc (x : Int) : Prop := x = 32 ∨ x = 9 ∨ x = 13 ∨ x = 10
instance (x : Int) : Decidable (spc x) := by unfold spc; infer_instance
/-- Where a rest begins. -/
def posO (n : Nat) : Option (List Int) → Int
  | none => -1
  | some r => ((n - r.length : Nat) : Int)
theorem rest_at {s : ByteArray} {i : Nat} {x : Int} {l : List Int} (h : (bytesOf s).drop i = x :: l) : i < s.size ∧ (bytesOf s).getD i 0 = x ∧ (bytesOf s).drop (i + 1) = l ∧ i + (l.length + 1) = s.size := by
  have hl := by_len s
  have hlen := congrArg List.length h
  rw [List.length_drop, List.length_cons] at hlen
  refine ⟨by omega, ?_, ?_, by omega⟩
  · rw [List.getD_eq_getElem?_getD]
    have := congrArg (fun z => z[0]?) h
    simp only [List.getElem?_drop, Nat.add_zero, List.getElem?_cons_zero] at this
    rw [this]; rfl
  · rw [← List.drop_drop, h]; rfl
theorem rest_end {s : ByteArray} {i : Nat} (hi : i ≤ s.size) (h : (bytesOf s).drop i = []) : i = s.size := by
  have hl := by_len s
  have hlen := congrArg List.length h
  rw [List.length_drop] at hlen
  simp only [List.length_nil] at hlen; omega
end Go.Proofs.Ytddnfappkfiidaa.Ev
