/- Words at a place, by the reference. -/
import Derived.Test.YtodnllhjikeafaaDoorPuWordv
import Derived.Test.YtodnllhjikeafaaDoorPuChunk
import Derived.Test.YtodnllhjikeafaaDoorPuNum
import Derived.Test.YtodnllhjikeafaaDoorPuNumber
namespace Go.Proofs.YtodnllhjikeafaaDoor.Ev
open Go
set_option linter.unusedVariables false
set_option linter.unusedSimpArgs false
/-- The error's number of a word at a place. -/
def wE (b : List Int) (at_ : Int) (s : Nat) : Int := if at_ < 0 ∨ (b.length : Int) < at_ then 1 else if (b.length : Int) - at_ < s then 4 else 0
def wV (b : List Int) (at_ : Int) (s : Nat) : Int := if wE b at_ s = 0 then wordv ((b.drop at_.toNat).take s) 0 else 0
theorem wE_zero {b : List Int} {at_ : Int} {s : Nat} : wE b at_ s = 0 ↔ 0 ≤ at_ ∧ at_ + s ≤ b.length := by
  unfold wE
  by_cases c1 : at_ < 0 ∨ (b.length : Int) < at_
  · rw [if_pos c1]; constructor
    · intro h; cases h
    · intro h; omega
  · rw [if_neg c1]
    by_cases c2 : (b.length : Int) - at_ < s
    · rw [if_pos c2]; constructor
      · intro h; cases h
      · intro h; omega
    · rw [if_neg c2]; constructor
      · intro _; omega
      · intro _; rfl
theorem wV_range {b : List Int} (hb : bytesL b) {at_ : Int} {s : Nat} (hs : s ≤ 8) : 0 ≤ wV b at_ s ∧ wV b at_ s < 256 ^ s := by
  unfold wV
  by_cases c : wE b at_ s = 0
  · rw [if_pos c]
    have := wE_zero.1 c
    have hl : ((b.drop at_.toNat).take s).length = s := by simp only [List.length_take, List.length_drop]; omega
    have := wordv_lt (l := (b.drop at_.toNat).take s) (fun x hx => hb x (List.mem_of_mem_drop (List.mem_of_mem_take hx))) (by omega)
    rw [hl] at this; exact this
  · rw [if_neg c]; exact ⟨Int.le_refl _, Int.pow_pos (by decide)⟩
theorem chunks_get (s : Nat) : ∀ (m : Nat) (b : List Int) (i : Nat), i < m → (chunks s m b)[i]? = some ((b.drop (i * s)).take s)
  | 0, _, _, h => by omega
  | m + 1, b, 0, _ => by rw [chunks, Nat.zero_mul, List.drop_zero]; rfl
  | m + 1, b, i + 1, h => by
    rw [chunks, List.getElem?_cons_succ, chunks_get s m _ i (by omega), List.drop_drop, Nat.succ_mul, Nat.add_comm]
end Go.Proofs.YtodnllhjikeafaaDoor.Ev
