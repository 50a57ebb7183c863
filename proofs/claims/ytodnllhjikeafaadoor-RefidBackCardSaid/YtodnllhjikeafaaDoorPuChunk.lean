/- Bytes, chunk by chunk. -/
import Derived.Test.YtodnllhjikeafaaDoorEvG
import Derived.Test.YtodnllhjikeafaaDoorEvE
namespace Go.Proofs.YtodnllhjikeafaaDoor.Ev
open Go
set_option linter.unusedVariables false
set_option linter.unusedSimpArgs false
theorem Evn.bindS {R S : Type} {F : Nat → Option R} {r : R} {f : R → Option S} {o : S} (h : Evn F r) (e : f r = Option.some o) : Evn (fun k => (F k).bind f) o := by
  obtain ⟨n, h⟩ := h
  exact ⟨n, fun k hk => by show (F k).bind f = _; rw [h k hk]; exact e⟩
def chunks (s : Nat) : Nat → List Int → List (List Int)
  | 0, _ => []
  | m + 1, b => b.take s :: chunks s m (b.drop s)
theorem chunks_length (s : Nat) : ∀ m b, (chunks s m b).length = m
  | 0, _ => rfl
  | m + 1, b => by simp [chunks, chunks_length s m]
theorem chunks_mem (s : Nat) : ∀ m b c, c ∈ chunks s m b → (∀ x ∈ c, x ∈ b) ∧ c.length ≤ s
  | 0, b, c, h => by cases h
  | m + 1, b, c, h => by
    rcases List.mem_cons.1 h with rfl | h
    · exact ⟨fun x hx => List.mem_of_mem_take hx, by simp; omega⟩
    · have := chunks_mem s m _ c h
      exact ⟨fun x hx => List.mem_of_mem_drop (this.1 x hx), this.2⟩
theorem chunks_take (s : Nat) : ∀ m (b : List Int), chunks s m (b.take (m * s)) = chunks s m b
  | 0, _ => rfl
  | m + 1, b => by
    have hm : (m + 1) * s = s + m * s := by rw [Nat.succ_mul, Nat.add_comm]
    rw [chunks, chunks, hm, List.take_take, Nat.min_eq_left (Nat.le_add_right _ _), List.drop_take, show s + m * s - s = m * s by omega, chunks_take s m]
end Go.Proofs.YtodnllhjikeafaaDoor.Ev
