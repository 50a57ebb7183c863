/- The law FiguresSigned, plain. -/
import Derived.Test.YtddnfappkfiidaaGreatPureFigures
namespace Go.Proofs.YtddnfappkfiidaaGreat.Ev
open Go
set_option linter.unusedVariables false
set_option linter.unusedSimpArgs false
/-- A text that begins with this byte. -/
def begins (s : ByteArray) (c : Int) : Prop := 0 < s.size ∧ (bytesOf s).getD 0 0 = c
instance (s : ByteArray) (c : Int) : Decidable (begins s c) := by unfold begins; infer_instance
theorem begins_is (s t : ByteArray) (c : Int) (h : bytesOf t = [c]) : (t.size ≤ s.size ∧ (bytesOf s).take t.size = bytesOf t) ↔ begins s c := by
  have e : t.size = 1 := by rw [← by_len, h]; rfl
  rw [e, h, ← by_len s]
  unfold begins
  rw [← by_len s]
  cases bytesOf s with
  | nil => simp
  | cons x l => simp
/-- The text without its sign. -/
def unsg (s : ByteArray) : ByteArray := if begins s 45 ∨ begins s 43 then s.extract 1 s.size else s
theorem unsg_size (s : ByteArray) : (unsg s).size ≤ s.size := by
  unfold unsg
  split
  · rw [← by_len, by_cut, List.length_drop, List.length_take, by_len]; omega
  · exact Nat.le_refl _
def sgLim (s : ByteArray) : Int := if begins s 45 then 9223372036854775808 else (9223372036854775807 : Int)
def sgE (s : ByteArray) (most : Int) : Int := wholeE (unsg s) 1 most (sgLim s)
def sgV (s : ByteArray) (most : Int) : Int := if begins s 45 then -cutV (unsg s) (takeK (unsg s) most) else cutV (unsg s) (takeK (unsg s) most)
theorem sg_range (s : ByteArray) (most : Int) (h : sgE s most = 0) : 0 ≤ cutV (unsg s) (takeK (unsg s) most) ∧ cutV (unsg s) (takeK (unsg s) most) ≤ sgLim s := by
  have := take_val (whole_take h).1
  exact ⟨cutV_nn this.2.2.1, this.1⟩
end Go.Proofs.YtddnfappkfiidaaGreat.Ev
