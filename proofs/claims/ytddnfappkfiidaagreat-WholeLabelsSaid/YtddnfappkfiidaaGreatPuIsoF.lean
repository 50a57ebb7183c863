/- ISO instants: the reference's shapes and numbers. -/
import Derived.Test.YtddnfappkfiidaaGreatPuScanB
import Derived.Test.YtddnfappkfiidaaGreatPuIsoW
namespace Go.Proofs.YtddnfappkfiidaaGreat.Ev
open Go
set_option linter.unusedVariables false
set_option linter.unusedSimpArgs false
def fitAt (c b : Int) : Prop := if c = 48 then isF b else b = c ∨ (c = 84 ∧ b = 116)
instance (c b : Int) : Decidable (fitAt c b) := by unfold fitAt; infer_instance
def fits (S B : List Int) : Prop := ∀ i : Nat, i < S.length → fitAt (S.getD i 0) (B.getD i 0)
theorem lit24 {c b : Int} (h48 : c ≠ 48) (h84 : c ≠ 84) : fitAt c b ↔ b = c := by
  unfold fitAt; rw [if_neg h48]
  exact ⟨fun h => h.resolve_right (fun q => h84 q.1), Or.inl⟩
theorem fig24 {b : Int} : fitAt 48 b ↔ isF b := by unfold fitAt; rw [if_pos rfl]
theorem list_getA (B : List Int) : B = (List.range B.length).map fun i => B.getD i 0 := by
  refine List.ext_getElem (by simp) fun i h1 h2 => ?_
  simp only [List.getElem_map, List.getElem_range]
  rw [List.getD_eq_getElem?_getD, List.getElem?_eq_getElem h1]; rfl
theorem ex_strI (s : ByteArray) (a b : Nat) : s.extract a b = strOf (((bytesOf s).take b).drop a) := by
  apply by_inj
  rw [by_cut, by_str (okBy_drop (okBy_take (by_ok s) b) a)]
theorem figs2 {a b : Int} (ha : isF a) (hb : isF b) : ∀ y ∈ [a, b], isF y := by
  intro y hy
  simp only [List.mem_cons, List.not_mem_nil, or_false] at hy
  rcases hy with rfl | rfl <;> assumption
theorem figs4 {a b c d : Int} (ha : isF a) (hb : isF b) (hc : isF c) (hd : isF d) : ∀ y ∈ [a, b, c, d], isF y := by
  intro y hy
  simp only [List.mem_cons, List.not_mem_nil, or_false] at hy
  rcases hy with rfl | rfl | rfl | rfl <;> assumption
theorem l4 {Y : List Int} (h : Y.length = 4) : ∃ a b c d, Y = [a, b, c, d] := by
  have := list_getA Y
  rw [h] at this
  exact ⟨_, _, _, _, this⟩
theorem l2 {Y : List Int} (h : Y.length = 2) : ∃ a b, Y = [a, b] := by
  have := list_getA Y
  rw [h] at this
  exact ⟨_, _, this⟩
end Go.Proofs.YtddnfappkfiidaaGreat.Ev
