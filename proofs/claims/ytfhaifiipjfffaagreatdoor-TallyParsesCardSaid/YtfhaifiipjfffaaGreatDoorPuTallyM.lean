/- Twelve counts: the rows' sizes. -/
import Derived.Test.YtfhaifiipjfffaaGreatDoorPuTallyP
namespace Go.Proofs.YtfhaifiipjfffaaGreatDoor.Ev
open Go
theorem rowsA_mem : ∀ (l cur : List Int), cur.length + l.length ≤ 10000 → okBy (cur ++ l) → ∀ r ∈ rowsA cur l, okBy r ∧ r.length ≤ 10000
  | [], cur, h, ho, r, hr => by
    rw [rowsA, List.mem_singleton] at hr
    subst hr
    rw [List.append_nil] at ho
    exact ⟨ho, by simpa using h⟩
  | x :: l, cur, h, ho, r, hr => by
    unfold rowsA at hr
    rw [List.length_cons] at h
    split at hr
    · rcases List.mem_cons.1 hr with rfl | hr
      · exact ⟨fun y hy => ho y (by simp [hy]), by omega⟩
      · exact rowsA_mem l [] (by simp; omega) (fun y hy => ho y (by simp only [List.nil_append] at hy; simp [hy])) r hr
    · exact rowsA_mem l (cur ++ [x]) (by simp; omega) (fun y hy => ho y (by simpa using hy)) r hr
end Go.Proofs.YtfhaifiipjfffaaGreatDoor.Ev
