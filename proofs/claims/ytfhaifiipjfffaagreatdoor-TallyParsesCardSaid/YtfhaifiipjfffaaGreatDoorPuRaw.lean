/- The figures of a number, by the program and by its reference. -/
import Derived.Test.YtfhaifiipjfffaaGreatDoorEvG
import Derived.Test.YtfhaifiipjfffaaGreatDoorPuStr
namespace Go.Proofs.YtfhaifiipjfffaaGreatDoor.Ev
open Go
set_option linter.unusedVariables false
set_option linter.unusedSimpArgs false
/-! ### a row turned round -/
/-- Its ends are turned, i of them. -/
def Turned (l c : List Int) (i : Nat) : Prop := c.length = l.length ∧ ∀ k : Nat, k < l.length → c.getD k 0 = if k < i ∨ l.length - i ≤ k then l.getD (l.length - 1 - k) 0 else l.getD k 0
theorem getD_set (l : List Int) (i k : Nat) (x : Int) (hi : i < l.length) : (l.set i x).getD k 0 = if k = i then x else l.getD k 0 := by
  simp only [List.getD_eq_getElem?_getD, List.getElem?_set]
  by_cases h : i = k
  · subst h; simp [hi]
  · rw [if_neg h, if_neg (Ne.symm h)]
theorem turned_end {l c : List Int} {i : Nat} (h : Turned l c i) (hi : l.length ≤ 2 * i + 1) : c = l.reverse := by
  refine List.ext_getElem (by rw [h.1, List.length_reverse]) fun k h1 h2 => ?_
  have hk : k < l.length := by rw [← h.1]; exact h1
  have := h.2 k hk
  rw [List.getElem_reverse]
  simp only [List.getD_eq_getElem?_getD, List.getElem?_eq_getElem h1, Option.getD_some] at this
  rw [this]
  by_cases c1 : k < i ∨ l.length - i ≤ k
  · rw [if_pos c1, List.getElem?_eq_getElem (by omega)]; rfl
  · rw [if_neg c1, List.getElem?_eq_getElem hk]
    simp only [Option.getD_some]
    congr 1
    omega
/-! ### figures -/
/-- A number's figures, the lowest first. -/
def figs (n : Nat) : List Int := if h : n = 0 then [] else (48 + (n % 10 : Nat) : Int) :: figs (n / 10)
termination_by n
decreasing_by omega
theorem figs_zero : figs 0 = [] := by rw [figs]; rfl
theorem figs_pos {n : Nat} (h : n ≠ 0) : figs n = (48 + (n % 10 : Nat) : Int) :: figs (n / 10) := by rw [figs, dif_neg h]
theorem figs_len : ∀ (k n : Nat), n < 10 ^ k → (figs n).length ≤ k
  | 0, n, h => by
    have : n = 0 := by simpa using h
    subst this; rw [figs_zero]; exact Nat.le_refl _
  | k + 1, n, h => by
    by_cases c : n = 0
    · subst c; rw [figs_zero]; exact Nat.zero_le _
    · rw [figs_pos c, List.length_cons]
      have := figs_len k (n / 10) (by rw [Nat.pow_succ] at h; omega)
      omega
theorem figs_ok (n : Nat) : ∀ x ∈ figs n, 48 ≤ x ∧ x ≤ 57 := by
  induction n using Nat.strongRecOn with
  | _ n ih =>
    intro x hx
    by_cases c : n = 0
    · subst c; rw [figs_zero] at hx; cases hx
    · rw [figs_pos c] at hx
      rcases List.mem_cons.1 hx with rfl | hx
      · omega
      · exact ih (n / 10) (by omega) x hx
/-- All its figures, at least so many. -/
def padd (n w : Nat) : List Int := List.replicate (max w 1 - (figs n).length) 48 ++ (figs n).reverse
theorem u64_in {x : Int} (h : 0 ≤ x ∧ x ≤ 18446744073709551615) : IntKind.u64.wrap x = x := IntWalk.u64_in x h
theorem u8_in {x : Int} (h : 0 ≤ x ∧ x ≤ 255) : IntKind.u8.wrap x = x := by rw [wrap_u8]; omega
theorem fig_byte (n : Nat) : iadd .u8 48 (iconv .u8 (Int.tmod (n : Int) 10)) = 48 + ((n % 10 : Nat) : Int) := by
  rw [tmod_nn (by omega)]
  unfold iadd iconv
  rw [u8_in (x := (n : Int) % 10) (by omega), u8_in (by omega)]; omega
theorem iquo_u64 {a c : Int} (hc : 0 < c) (h : 0 ≤ a ∧ a ≤ 18446744073709551615) : iquo .u64 a c = a / c := by
  unfold iquo
  rw [Int.tdiv_eq_ediv_of_nonneg h.1]
  exact u64_in ⟨Int.ediv_nonneg h.1 (by omega), Int.le_trans (Int.ediv_le_self _ h.1) h.2⟩
end Go.Proofs.YtfhaifiipjfffaaGreatDoor.Ev
