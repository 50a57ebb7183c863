/- The reader's runs of bytes out of a set. -/
import Derived.Test.YtodnllhjikeafaaGreatDoorEv32
import Derived.Test.YtodnllhjikeafaaGreatDoorPuScan
namespace Go.Proofs.YtodnllhjikeafaaGreatDoor.Ev
open Go
set_option linter.unusedVariables false
set_option linter.unusedSimpArgs false
theorem ib_mem : ∀ (l : List UInt8) (c : UInt8), (0 ≤ Lib.indexByte l c) ↔ c ∈ l := by
  intro l c
  induction l with
  | nil => simp [Lib.indexByte]
  | cons b l ih =>
    have hg := Lib.indexByte_ge l c
    simp only [Lib.indexByte, List.mem_cons]
    by_cases h : b = c
    · subst h; simp
    · have h' : ¬ c = b := fun q => h q.symm
      simp only [beq_iff_eq, h, if_false, h', false_or]
      rw [← ih]
      by_cases q : Lib.indexByte l c = -1
      · rw [if_pos q, q]
      · rw [if_neg q]; omega
/-- How many bytes of the set a text begins with. -/
def runN (S : List Int) : List Int → Nat
  | [] => 0
  | x :: l => if x ∈ S then runN S l + 1 else 0
theorem runN_le (S : List Int) : ∀ l : List Int, runN S l ≤ l.length
  | [] => Nat.le_refl _
  | x :: l => by
    unfold runN
    have := runN_le S l
    split <;> simp only [List.length_cons] <;> omega
theorem runN_at {S : List Int} : ∀ {l : List Int} {i : Nat}, i < runN S l → l.getD i 0 ∈ S
  | [], i, h => by simp [runN] at h
  | x :: l, i, h => by
    unfold runN at h
    split at h
    · rename_i c
      cases i with
      | zero => exact c
      | succ i => exact runN_at (l := l) (by omega)
    · omega
theorem runN_stop {S : List Int} : ∀ {l : List Int}, runN S l < l.length → ¬ l.getD (runN S l) 0 ∈ S
  | [], h => by simp [runN] at h
  | x :: l, h => by
    unfold runN at h ⊢
    split
    · rename_i c
      rw [if_pos c] at h
      exact runN_stop (l := l) (by simp only [List.length_cons] at h; omega)
    · rename_i c; exact c
@[reducible] def figL : List Int := [48, 49, 50, 51, 52, 53, 54, 55, 56, 57]
theorem run_lead : ∀ l : List Int, runN figL l = lead l
  | [] => rfl
  | x :: l => by
    have h : x ∈ figL ↔ isF x := by
      unfold isF
      simp only [figL, List.mem_cons, List.not_mem_nil, or_false]; omega
    unfold runN lead
    rw [run_lead l]
    by_cases c : isF x
    · rw [if_pos c, if_pos (h.2 c)]
    · rw [if_neg c, if_neg (fun q => c (h.1 q))]
end Go.Proofs.YtodnllhjikeafaaGreatDoor.Ev
