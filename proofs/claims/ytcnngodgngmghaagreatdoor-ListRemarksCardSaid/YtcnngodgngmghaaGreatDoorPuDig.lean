/- Figures of a fixed width, small texts. -/
import Derived.Test.YtcnngodgngmghaaGreatDoorPuPutF
namespace Go.Proofs.YtcnngodgngmghaaGreatDoor.Ev
open Go
set_option linter.unusedVariables false
set_option linter.unusedSimpArgs false
/-- The last w figures. -/
def dgs (n : Nat) : Nat → List Int
  | 0 => []
  | w + 1 => dgs (n / 10) w ++ [(48 + (n % 10 : Nat) : Int)]
theorem dgs_len : ∀ (w n : Nat), (dgs n w).length = w
  | 0, _ => rfl
  | w + 1, n => by simp [dgs, dgs_len w]
theorem dgs_zero : ∀ w, dgs 0 w = List.replicate w 48
  | 0 => rfl
  | w + 1 => by rw [dgs, show 0 / 10 = 0 from rfl, dgs_zero w, List.replicate_succ']; rfl
theorem figs_dgs : ∀ (w n : Nat), n < 10 ^ w → List.replicate (w - (figs n).length) 48 ++ (figs n).reverse = dgs n w
  | 0, n, h => by
    have : n = 0 := by simpa using h
    subst this; rw [figs_zero]; rfl
  | w + 1, n, h => by
    by_cases c : n = 0
    · subst c; rw [figs_zero, dgs_zero]; simp
    · have ih := figs_dgs w (n / 10) (by rw [Nat.pow_succ] at h; omega)
      rw [figs_pos c, List.reverse_cons, List.length_cons, Nat.add_sub_add_right, ← List.append_assoc, ih]; rfl
theorem padd_dg (n w : Nat) (h : n < 10 ^ w) (hw : 1 ≤ w) : padd n w = dgs n w := by
  have := figs_dgs w n h
  unfold padd
  rw [show max w 1 = w by omega]; exact this
theorem dgs_ok : ∀ (w n : Nat), ∀ x ∈ dgs n w, isF x
  | 0, _, x, h => by cases h
  | w + 1, n, x, h => by
    rcases List.mem_append.1 h with h | h
    · exact dgs_ok w _ x h
    · simp only [List.mem_singleton] at h
      subst h
      unfold isF; omega
theorem val10_dg : ∀ (w n : Nat), n < 10 ^ w → val10 (dgs n w) = n
  | 0, n, h => by
    have : n = 0 := by simpa using h
    subst this; rfl
  | w + 1, n, h => by
    rw [dgs, val10_snoc, val10_dg w (n / 10) (by rw [Nat.pow_succ] at h; omega)]; omega
theorem figs_okBy' {l : List Int} (h : ∀ x ∈ l, isF x) : okBy l := fun x hx => by
  have := h x hx
  unfold isF at this; omega
theorem dgs_by (w n : Nat) : okBy (dgs n w) := figs_okBy' (dgs_ok w n)
theorem padd_isF (n w : Nat) : ∀ x ∈ padd n w, isF x := by
  intro x hx
  unfold padd at hx
  rcases List.mem_append.1 hx with h | h
  · rw [(List.mem_replicate.1 h).2]; unfold isF; omega
  · exact figs_ok n x (List.mem_reverse.1 h)
theorem padd_by (n w : Nat) : okBy (padd n w) := figs_okBy' (padd_isF n w)
theorem fig_put_nn (v w : Int) (h : 0 ≤ v ∧ v ≤ 9223372036854775807) (hw : 0 ≤ w ∧ w ≤ 20) : g_figures_Put ((), ((v, ()), ((w, ()), ()))) = some ((), ((strOf (padd v.toNat w.toNat), ()), ((none, ()), ()))) := by
  have e : putE w = 0 := if_neg (by omega)
  rw [fig_put v w (by unfold isI64; omega), e, if_pos rfl]
  unfold putL
  rw [if_neg (by omega), show v.natAbs = v.toNat by omega]; rfl
theorem fig_put_dg (v : Int) (w : Nat) (h : 0 ≤ v ∧ v < 10 ^ w) (hw : 1 ≤ w ∧ w ≤ 18) : g_figures_Put ((), ((v, ()), (((w : Int), ()), ()))) = some ((), ((strOf (dgs v.toNat w), ()), ((none, ()), ()))) := by
  have hp : (10 : Int) ^ w ≤ 10 ^ 18 := by
    have : 10 ^ w ≤ 10 ^ 18 := Nat.pow_le_pow_right (by omega) hw.2
    exact_mod_cast this
  have hn : v.toNat < 10 ^ w := by
    have h2 := h.2
    have e : v = ((v.toNat : Nat) : Int) := by omega
    rw [e] at h2; exact_mod_cast h2
  rw [fig_put_nn v w (by omega) (by omega), Int.toNat_natCast, padd_dg _ _ hn hw.1]
theorem fits_str (l m : List Int) (h : l.length + m.length ≤ 1000000) : fitsS (strOf l) (strOf m) = true := by
  rw [fitsS_dec, str_size, str_size]; exact decide_eq_true (by omega)
theorem lit_str (a : Array UInt8) : (⟨a⟩ : ByteArray) = strOf (a.toList.map fun b => (b.toNat : Int)) := (str_by ⟨a⟩).symm
theorem str_toList_eq (l m : List Int) (hl : okBy l) (hm : okBy m) : ((strOf l).toList == (strOf m).toList) = decide (l = m) := by
  rw [str_eq, by_str hl, by_str hm]
theorem okBy_nil : okBy [] := fun x h => by cases h
theorem okBy_cons {x : Int} {l : List Int} (hx : 0 ≤ x ∧ x < 256) (h : okBy l) : okBy (x :: l) := fun y hy => by
  rcases List.mem_cons.1 hy with rfl | q
  · exact hx
  · exact h y q
theorem okBy_rep {x : Int} (k : Nat) (hx : 0 ≤ x ∧ x < 256) : okBy (List.replicate k x) := fun y hy => by
  rw [(List.mem_replicate.1 hy).2]; exact hx
end Go.Proofs.YtcnngodgngmghaaGreatDoor.Ev
