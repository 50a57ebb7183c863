/- Addresses, by the program. -/
import Derived.Test.YtodnllhjikeafaaGreatDoorPuRefidA
import Derived.Test.YtodnllhjikeafaaGreatDoorPuRun
namespace Go.Proofs.YtodnllhjikeafaaGreatDoor.Ev
open Go
set_option linter.unusedVariables false
set_option linter.unusedSimpArgs false
theorem lead_allR : ∀ l : List Int, (∀ x ∈ l, isF x) → lead l = l.length
  | [], _ => rfl
  | x :: l, h => by
    unfold lead
    rw [if_pos (h x List.mem_cons_self), lead_allR l (fun y hy => h y (List.mem_cons_of_mem _ hy))]; rfl
/-- A row read. -/
def rowX (n : Nat) (x : X) : X × Int :=
  if rowOk (x.rest.take (lead x.rest)) then (takeX (lead x.rest) x, val10 (x.rest.take (lead x.rest)))
  else (failX n 2 (takeX (lead x.rest) x), if (x.rest.take (lead x.rest)).length ≤ 3 then val10 (x.rest.take (lead x.rest)) else 0)
theorem lead_figs (l : List Int) : ∀ x ∈ l.take (lead l), isF x := sc_lead_figs (Nat.le_refl _)
theorem figL_str : (⟨#[48, 49, 50, 51, 52, 53, 54, 55, 56, 57]⟩ : ByteArray) = strOf figL := by kernel_rfl
@[reducible] def setC (i : Nat) (v : Int) (q : Int × (Int × (Int × (Int × Unit)))) : Int × (Int × (Int × (Int × Unit))) :=
  (if i = 0 then v else q.1, (if i = 1 then v else q.2.1, (if i = 2 then v else q.2.2.1, (if i = 3 then v else q.2.2.2.1, ()))))
/-- Ahead of a row: a point, but for the first one. -/
def preX (n i : Nat) (x : X) : X := if i = 0 then x else if oneX 46 x then takeX 1 x else failX n 2 x
theorem preX_wf {s : ByteArray} {x : X} (h : x.wf s) (i : Nat) : (preX s.size i x).wf s := by
  unfold preX
  split
  · exact h
  · split
    · exact takeX_wf h 1
    · exact failX_wf h 2
theorem rowX_wf {s : ByteArray} {x : X} (h : x.wf s) : (rowX s.size x).1.wf s := by
  unfold rowX
  split
  · exact takeX_wf h _
  · exact failX_wf (takeX_wf h _) 2
end Go.Proofs.YtodnllhjikeafaaGreatDoor.Ev
