/- Mail dates: the reader's steps. -/
import Derived.Test.YtddnfappkfiidaaPuMailG
namespace Go.Proofs.Ytddnfappkfiidaa.Ev
open Go
set_option linter.unusedVariables false
set_option linter.unusedSimpArgs false
/-! ### letters alike -/
def low (x : Int) : Int := if 65 ≤ x ∧ x ≤ 90 then x + 32 else x
/-- A word, whatever its letters' size. -/
def isW (W l : List Int) : Prop := W.length ≤ l.length ∧ (l.take W.length).map low = W.map low
instance (W l : List Int) : Decidable (isW W l) := by unfold isW; infer_instance
def foldX (W : List Int) : X → X × Bool
  | .good l => if isW W l then (.good (l.drop W.length), true) else (.good l, false)
  | .bad i c => (.bad i c, false)
theorem foldX_wf {s : ByteArray} {x : X} (h : x.wf s) (W : List Int) : (foldX W x).1.wf s := by
  cases x with
  | good l =>
    simp only [foldX]
    split
    · exact X.wf_cut h _
    · exact h
  | bad i c => exact h
def mustX (n : Nat) (W : List Int) (x : X) : X := if (foldX W x).2 then (foldX W x).1 else failX n 2 (foldX W x).1
theorem mustX_wf {s : ByteArray} {x : X} (h : x.wf s) (W : List Int) : (mustX s.size W x).wf s := by
  unfold mustX
  split
  · exact foldX_wf h W
  · exact failX_wf (foldX_wf h W) 2
/-! ### one of some names -/
def oneK (nm : Nat → List Int) : Nat → Nat → X → X × Int
  | 0, _, x => (x, 0)
  | k + 1, i, x => if (foldX (nm i) x).2 then ((foldX (nm i) x).1, (i : Int)) else oneK nm k (i + 1) (foldX (nm i) x).1
theorem oneK_wf {s : ByteArray} {nm : Nat → List Int} : ∀ {k i : Nat} {x : X}, x.wf s → (oneK nm k i x).1.wf s
  | 0, _, _, h => h
  | k + 1, i, x, h => by
    unfold oneK
    split
    · exact foldX_wf h _
    · exact oneK_wf (foldX_wf h _)
end Go.Proofs.Ytddnfappkfiidaa.Ev
