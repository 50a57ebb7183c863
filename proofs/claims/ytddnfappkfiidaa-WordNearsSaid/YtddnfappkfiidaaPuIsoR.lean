/- ISO instants: the reader's parts. -/
import Derived.Test.YtddnfappkfiidaaPuMailX
import Derived.Test.YtddnfappkfiidaaPuFrac
import Derived.Test.YtddnfappkfiidaaPuLab
namespace Go.Proofs.Ytddnfappkfiidaa.Ev
open Go
set_option linter.unusedVariables false
set_option linter.unusedSimpArgs false
theorem ib1 {x : Int} (h : 0 ≤ x ∧ x < 256) : okBy [x] := fun y hy => by
  simp only [List.mem_cons, List.not_mem_nil, or_false] at hy
  rw [hy]; exact h
def ex1X (n : Nat) (c : Int) (x : X) : X := if oneX c x then takeX 1 x else failX n 2 x
theorem ex1X_wf {s : ByteArray} {x : X} (h : x.wf s) (c : Int) : (ex1X s.size c x).wf s := by
  unfold ex1X
  split
  · exact takeX_wf h 1
  · exact failX_wf h 2
@[reducible] def tri := Int × (Int × Int)
def dateI (n : Nat) (x : X) : X × tri :=
  let a := figX n 4 4 x
  let b := figX n 2 2 (ex1X n 45 a.1)
  let c := figX n 2 2 (ex1X n 45 b.1)
  (c.1, (a.2, (b.2, c.2)))
theorem dateI_wf {s : ByteArray} {x : X} (h : x.wf s) : (dateI s.size x).1.wf s := figX_wf (ex1X_wf (figX_wf (ex1X_wf (figX_wf h _ _) _) _ _) _) _ _
def numI (n : Nat) (W : List Int) (w : Nat) (x : X) : X × Int := figX n w w (mustX n W x)
theorem numI_wf {s : ByteArray} {x : X} (h : x.wf s) (W : List Int) (w : Nat) : (numI s.size W w x).1.wf s := figX_wf (mustX_wf h W) w w
def numO (n : Nat) (neg : Bool) (x : X) : X × (Int × Bool) :=
  let a := figX n 2 2 x
  let b := numI n [58] 2 a.1
  (b.1, (if neg then -(a.2 * 60 + b.2) else a.2 * 60 + b.2, decide (a.2 < 24 ∧ b.2 < 60)))
theorem numO_wf {s : ByteArray} {x : X} (h : x.wf s) (b : Bool) : (numO s.size b x).1.wf s := numI_wf (figX_wf h _ _) _ _
def offI (n : Nat) (x : X) : X × (Int × Bool) :=
  if (foldX [90] x).2 then ((foldX [90] x).1, (0, true)) else
  if oneX 45 (foldX [90] x).1 then numO n true (takeX 1 (foldX [90] x).1) else numO n false (ex1X n 43 (foldX [90] x).1)
theorem offI_wf {s : ByteArray} {x : X} (h : x.wf s) : (offI s.size x).1.wf s := by
  unfold offI
  split
  · exact foldX_wf h _
  · split
    · exact numO_wf (takeX_wf (foldX_wf h _) _) _
    · exact numO_wf (ex1X_wf (foldX_wf h _) _) _
/-- The parts of an instant, read one after another. -/
structure IP where (y m d h i s : Int) (f : List Int) (o : Int) (ok : Bool) (e : X)
def IP.nano (p : IP) : Int := if p.f = [] then 0 else val10 p.f * 10 ^ (9 - p.f.length)
def IP.lab (p : IP) : Lab := ⟨p.y, p.m, p.d, p.h, p.i, p.s, p.nano, p.o⟩
def IP.err (p : IP) : Int :=
  if p.e.end ≠ none then 2 else if 9 < p.f.length then 3 else if p.ok = false then 1 else labErr p.lab
@[reducible] def zli : Int × (Int × (Int × (Int × (Int × (Int × (Int × (Int × Unit))))))) := (0, (0, (0, (0, (0, (0, (0, (0, ()))))))))
theorem iso_frac_of {l : List Int} (hf : ∀ x ∈ l, isF x) (h0 : l ≠ []) (h : l.length ≤ 9) : fracE (strOf l) = 0 ∧ fracV (strOf l) = val10 l * 10 ^ (9 - l.length) := by
  have ho : okBy l := figs_okBy hf
  have hp : 0 < l.length := List.length_pos_iff.2 h0
  have ha : allF (strOf l) := by
    unfold allF
    rw [str_size, by_str ho]
    exact ⟨hp, lead_all hf⟩
  refine ⟨?_, by unfold fracV; rw [str_size, by_str ho]⟩
  unfold fracE
  rw [if_neg (by rw [str_size]; omega), if_pos ha]
end Go.Proofs.Ytddnfappkfiidaa.Ev
