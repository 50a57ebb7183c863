/- The digits of the shelf's numeral are the reference's figures. -/
import Derived.Test.YtfhaifiipjfffaaGreatDoorPuRaw
import Derived.Test.YtfhaifiipjfffaaGreatDoorEv40
namespace Go.Proofs.YtfhaifiipjfffaaGreatDoor.Ev
open Go
set_option linter.unusedVariables false
set_option linter.unusedSimpArgs false
theorem padd_small {n : Nat} (h : n < 10) : padd n 1 = [48 + (n : Int)] := by
  unfold padd
  by_cases c : n = 0
  · subst c; rw [figs_zero]; rfl
  · rw [figs_pos c, show n / 10 = 0 by omega, figs_zero, show n % 10 = n by omega]; rfl
theorem padd_big {n : Nat} (h : ¬ n < 10) : padd n 1 = padd (n / 10) 1 ++ [48 + ((n % 10 : Nat) : Int)] := by
  unfold padd
  have h1 : 1 ≤ (figs (n / 10)).length := by
    rw [figs_pos (show n / 10 ≠ 0 by omega)]; simp
  rw [show max 1 1 - (figs (n / 10)).length = 0 by omega, figs_pos (show n ≠ 0 by omega)]
  simp only [List.length_cons, List.reverse_cons]
  rw [show max 1 1 - ((figs (n / 10)).length + 1) = 0 by omega]
  simp
theorem dec_padd : ∀ n : Nat, Lib.decDigits n = (padd n 1).map fun x => UInt8.ofNat x.toNat := by
  intro n
  induction n using Nat.strongRecOn with
  | _ n ih =>
    rw [Lib.decDigits]
    by_cases c : n < 10
    · rw [dif_pos c, padd_small c]
      simp only [List.map_cons, List.map_nil]
      rw [show ((48 : Int) + (n : Int)).toNat = 48 + n by omega]
    · rw [dif_neg c, padd_big c, ih (n / 10) (by omega), List.map_append]
      simp only [List.map_cons, List.map_nil]
      rw [show ((48 : Int) + ((n % 10 : Nat) : Int)).toNat = 48 + n % 10 by omega]
theorem itoa_str {v : Int} (h : 0 ≤ v) : (⟨(Lib.itoa v).toArray⟩ : ByteArray) = strOf (padd v.toNat 1) := by
  unfold Lib.itoa strOf
  rw [if_neg (by omega), dec_padd]
theorem itoa_call {v : Int} (h : 0 ≤ v ∧ v ≤ 9223372036854775807) : lib_itoa ((), ((v, ()), ())) = some ((), ((strOf (padd v.toNat 1), ()), ())) := by
  unfold lib_itoa
  simp only
  rw [if_pos (by omega)]
  simp only [itoa_str h.1]
end Go.Proofs.YtfhaifiipjfffaaGreatDoor.Ev
