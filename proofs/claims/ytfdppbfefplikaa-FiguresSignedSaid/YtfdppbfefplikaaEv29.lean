/- Plain laws: conditions as propositions, quotients and remainders by numbers above 0, loops by a measure. -/
import Derived.Test.YtfdppbfefplikaaEv20
namespace Go.Proofs.Ytfdppbfefplikaa.Ev
open Go
set_option linter.unusedVariables false
theorem cond_dec {α : Type} {p : Prop} [Decidable p] (a b : α) : (bif decide p then a else b) = if p then a else b := by
  by_cases h : p <;> simp [h]
theorem beq_int (a b : Int) : (a == b) = decide (a = b) := by
  by_cases h : a = b <;> simp [h]
theorem bne_int (a b : Int) : (a != b) = decide (a ≠ b) := by
  by_cases h : a = b <;> simp [h]
theorem not_dec {p : Prop} [Decidable p] : (!decide p) = decide (¬ p) := by
  by_cases h : p <;> simp [h]
theorem and_dec {p q : Prop} [Decidable p] [Decidable q] : (decide p && decide q) = decide (p ∧ q) := by
  by_cases h : p <;> by_cases h' : q <;> simp [h, h']
theorem dec_true {p : Prop} [Decidable p] (h : p) : decide p = true := decide_eq_true h
theorem tdiv_pos {a : Int} (c : Int) (hc : 0 < c) : Int.tdiv a c = if 0 ≤ a then a / c else -((-a) / c) := by
  split
  · rename_i h; exact Int.tdiv_eq_ediv_of_nonneg h
  · rename_i h
    have : Int.tdiv a c = -(Int.tdiv (-a) c) := by rw [Int.neg_tdiv, Int.neg_neg]
    rw [this, Int.tdiv_eq_ediv_of_nonneg (by omega)]
theorem tmod_pos {a : Int} (c : Int) (hc : 0 < c) : Int.tmod a c = if 0 ≤ a then a % c else -((-a) % c) := by
  split
  · rename_i h; exact Int.tmod_eq_emod_of_nonneg h
  · rename_i h
    have : Int.tmod a c = -(Int.tmod (-a) c) := by rw [Int.neg_tmod, Int.neg_neg]
    rw [this, Int.tmod_eq_emod_of_nonneg (by omega)]
theorem iquo_pos {a : Int} {c : Int} (hc : 0 < c) (h : -9223372036854775808 ≤ a ∧ a ≤ 9223372036854775807) : iquo .i64 a c = if 0 ≤ a then a / c else -((-a) / c) := by
  have e := tdiv_pos (a := a) c hc
  unfold iquo
  rw [e]
  refine IntWalk.i64_in _ ?_
  have h1 : ∀ n : Int, 0 ≤ n → 0 ≤ n / c ∧ n / c ≤ n := fun n hn => ⟨Int.ediv_nonneg hn (by omega), Int.ediv_le_self _ hn⟩
  split
  · rename_i h0; have := h1 a h0; omega
  · rename_i h0; have := h1 (-a) (by omega); omega
theorem iquo_nn {a : Int} {c : Int} (hc : 0 < c) (h : 0 ≤ a ∧ a ≤ 9223372036854775807) : iquo .i64 a c = a / c := by
  rw [iquo_pos hc (by omega), if_pos h.1]
theorem tmod_nn {a c : Int} (h : 0 ≤ a) : Int.tmod a c = a % c := Int.tmod_eq_emod_of_nonneg h
theorem fdiv_pos {a c : Int} (hc : 0 < c) : a.fdiv c = a / c := Int.fdiv_eq_ediv_of_nonneg _ (by omega)
theorem ineg_i64 {a : Int} (h : -9223372036854775807 ≤ a ∧ a ≤ 9223372036854775807) : ineg .i64 a = -a := by
  unfold ineg; rw [Int.zero_sub]; exact IntWalk.i64_in _ (by omega)
/-- An error's number, as an error. -/
def errOf (c : Int) : Option Int := if c = 0 then none else some c
theorem errOf_zero : errOf 0 = none := rfl
theorem errOf_pos {c : Int} (h : c ≠ 0) : errOf c = some c := if_neg h
theorem errOf_none {c : Int} : (errOf c).isNone = decide (c = 0) := by
  unfold errOf; split <;> simp [*]
theorem Evn.some {R : Type} {F : Nat → Option R} {out : R} (n : Nat) (e : ∀ k, F (k + n) = Option.some out) : Evn F out :=
  ⟨n, fun k hk => by obtain ⟨m, rfl⟩ := Nat.exists_eq_add_of_le hk; rw [Nat.add_comm]; exact e m⟩
end Go.Proofs.Ytfdppbfefplikaa.Ev
