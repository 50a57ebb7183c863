/- A number put as a text, by the program and by its reference. -/
import Derived.Test.YtfhaifiipjfffaaGreatDoorPuRaw
import Derived.Test.YtfhaifiipjfffaaGreatDoorPuTake
namespace Go.Proofs.YtfhaifiipjfffaaGreatDoor.Ev
open Go
set_option linter.unusedVariables false
set_option linter.unusedSimpArgs false
def isI64 (a : Int) : Prop := -9223372036854775808 ≤ a ∧ a ≤ 9223372036854775807
theorem str_cons (x : Int) (l : List Int) : strOf [x] ++ strOf l = strOf (x :: l) := by rw [str_app]; rfl
theorem str_48 : (⟨#[48]⟩ : ByteArray) = strOf [48] := by kernel_rfl
theorem str_45 : (⟨#[45]⟩ : ByteArray) = strOf [45] := by kernel_rfl
theorem str_nil : (⟨#[]⟩ : ByteArray) = strOf [] := by kernel_rfl
theorem rep_cons {k : Nat} (hk : 0 < k) (l : List Int) : List.replicate k (48 : Int) ++ l = List.replicate (k - 1) 48 ++ 48 :: l := by
  obtain ⟨k, rfl⟩ : ∃ m, k = m + 1 := ⟨k - 1, by omega⟩
  rw [Nat.add_sub_cancel, List.replicate_succ', List.append_assoc]; rfl
theorem padd_int (n : Nat) (w : Int) : List.replicate (max w 1 - ((figs n).length : Int)).toNat (48 : Int) ++ (figs n).reverse = padd n w.toNat := by
  unfold padd
  congr 2
  omega
theorem padd_len (n : Nat) (w : Nat) (hn : n < 18446744073709551616) (hw : w ≤ 20) : (padd n w).length ≤ 20 := by
  have hl := figs_len 20 n (by omega)
  unfold padd
  simp only [List.length_append, List.length_replicate, List.length_reverse]
  omega
/-- A number's text: a sign, and at least so many figures. -/
def putL (v w : Int) : List Int := if v < 0 then 45 :: padd v.natAbs w.toNat else padd v.natAbs w.toNat
def putE (w : Int) : Int := if w < 0 ∨ 20 < w then 1 else 0
theorem figs_min : (figs 9223372036854775808).reverse = [57, 50, 50, 51, 51, 55, 50, 48, 51, 54, 56, 53, 52, 55, 55, 53, 56, 48, 56] := by
  simp [figs_pos, figs_zero]
end Go.Proofs.YtfhaifiipjfffaaGreatDoor.Ev
