/- Addresses, by the reference. -/
import Derived.Test.YtodnllhjikeafaaGreatDoorPuRefid
import Derived.Test.YtodnllhjikeafaaGreatDoorPuTake
namespace Go.Proofs.YtodnllhjikeafaaGreatDoor.Ev
open Go
set_option linter.unusedVariables false
set_option linter.unusedSimpArgs false
@[reducible] def z4 : Int × (Int × (Int × (Int × Unit))) := (0, (0, (0, (0, ()))))
/-- The rows between the points; the first one has begun. -/
def dotsA : List Int → List Int → List (List Int)
  | cur, [] => [cur]
  | cur, x :: l => if x = 46 then cur :: dotsA [] l else dotsA (cur ++ [x]) l
def rowOk (w : List Int) : Prop := (1 ≤ w.length ∧ w.length ≤ 3) ∧ (∀ x ∈ w, isF x) ∧ ¬ (1 < w.length ∧ w.getD 0 0 = 48)
instance (w : List Int) : Decidable (rowOk w) := by unfold rowOk; infer_instance
@[reducible] def valsB (R : List (List Int)) : List Int := R.map fun w => val10 w % 256
theorem val3 {w : List Int} (h : rowOk w) : 0 ≤ val10 w ∧ val10 w < 1000 := by
  have := val10_range w.length w rfl h.2.1
  have hp : (10 : Int) ^ w.length ≤ 10 ^ 3 := by
    have : 10 ^ w.length ≤ 10 ^ 3 := Nat.pow_le_pow_right (by omega) h.1.2
    exact_mod_cast this
  omega
def refA (R : List (List Int)) : (Int × (Int × (Int × (Int × Unit)))) × ((Int × Unit) × Unit) :=
  if R.length ≠ 4 then (z4, ((2, ()), ())) else if ∀ w ∈ R, rowOk w then (if (R.any fun w => decide (255 < val10 w)) = true then (z4, ((1, ()), ())) else (codeV (valsB R), ((0, ()), ()))) else (z4, ((2, ()), ()))
theorem emp_str : (⟨#[]⟩ : ByteArray) = strOf [] := by kernel_rfl
theorem str_join {a b : List Int} (ha : okBy a) (hb : okBy b) : strOf a ++ strOf b = strOf (a ++ b) := by
  refine by_inj ?_
  rw [by_app, by_str ha, by_str hb, by_str (fun x hx => by rcases List.mem_append.1 hx with h | h; exact ha x h; exact hb x h)]
theorem cut_one {s : ByteArray} {p r : List Int} {x : Int} (h : bytesOf s = p ++ x :: r) : s.extract p.length (p.length + 1) = strOf [x] := by
  have hx : okBy [x] := fun y hy => by
    rw [List.mem_singleton.1 hy]; exact by_ok s x (by rw [h]; simp)
  refine by_inj ?_
  rw [by_cut, by_str hx, h, List.drop_take, List.drop_left' rfl, show p.length + 1 - p.length = 1 by omega]
  rfl
end Go.Proofs.YtodnllhjikeafaaGreatDoor.Ev
