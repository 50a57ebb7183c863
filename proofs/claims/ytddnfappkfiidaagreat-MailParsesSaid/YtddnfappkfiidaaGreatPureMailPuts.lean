/- The law MailPuts, plain. -/
import Derived.Test.YtddnfappkfiidaaGreatPuMailW
namespace Go.Proofs.YtddnfappkfiidaaGreat.Ev
open Go
set_option linter.unusedVariables false
set_option linter.unusedSimpArgs false
theorem of_len (n : Nat) (h : n ≤ 1000000) : (n : Int) ≤ 9223372036854775807 := by omega
theorem ref25_wk : ∀ i : Nat, 1 ≤ i → i ≤ 7 → g_ref25_Weekday ((), (((i : Int), ()), ())) = some ((), ((strOf (wkN i), ()), ()))
  | 0, h, _ => absurd h (by decide)
  | 1, _, _ => by kernel_rfl
  | 2, _, _ => by kernel_rfl
  | 3, _, _ => by kernel_rfl
  | 4, _, _ => by kernel_rfl
  | 5, _, _ => by kernel_rfl
  | 6, _, _ => by kernel_rfl
  | 7, _, _ => by kernel_rfl
  | (n + 8), _, h => absurd h (by omega)
theorem ref25_mo : ∀ i : Nat, 1 ≤ i → i ≤ 12 → g_ref25_Month ((), (((i : Int), ()), ())) = some ((), ((strOf (moN i), ()), ()))
  | 0, h, _ => absurd h (by decide)
  | 1, _, _ => by kernel_rfl
  | 2, _, _ => by kernel_rfl
  | 3, _, _ => by kernel_rfl
  | 4, _, _ => by kernel_rfl
  | 5, _, _ => by kernel_rfl
  | 6, _, _ => by kernel_rfl
  | 7, _, _ => by kernel_rfl
  | 8, _, _ => by kernel_rfl
  | 9, _, _ => by kernel_rfl
  | 10, _, _ => by kernel_rfl
  | 11, _, _ => by kernel_rfl
  | 12, _, _ => by kernel_rfl
  | (n + 13), _, h => absurd h (by omega)
theorem wd_list : ∀ r : Nat, r < 7 → gd (.int .i64) ([4, 5, 6, 7, 1, 2, 3] : List Int) (r : Int) = ((r : Int) + 3) % 7 + 1
  | 0, _ => rfl
  | 1, _ => rfl
  | 2, _ => rfl
  | 3, _ => rfl
  | 4, _ => rfl
  | 5, _ => rfl
  | 6, _ => rfl
  | (n + 7), h => absurd h (by omega)
theorem ref05_weekday (n : Int) (h : -1000000000 ≤ n ∧ n ≤ 1000000000) : g_ref05_Weekday ((), ((n, ()), ())) = some ((), ((wdN n, ()), ())) := by
  have hw := wd_list (n % 7).toNat (by omega)
  rw [show (((n % 7).toNat : Nat) : Int) = n % 7 by omega] at hw
  have hwd : (n % 7 + 3) % 7 + 1 = wdN n := by unfold wdN; omega
  have ht : Int.tmod n 7 = if 0 ≤ n ∨ n % 7 = 0 then n % 7 else n % 7 - 7 := by
    rw [tmod_pos 7 (by decide)]; split <;> split <;> omega
  simp only [g_ref05_Weekday, f_ref05_Weekday_m, fitsS_dec, Option.bind_some, Option.isNone_none, Option.isNone_some, Option.isSome_none, Option.isSome_some, Bool.not_true, Bool.not_false, cond_true, cond_false, cond_dec, beq_int, bne_int, not_dec, and_dec, List.length_cons, List.length_nil]
  by_cases c : Int.tmod n 7 < 0
  · have e : iadd .i64 (Int.tmod n 7) 7 = n % 7 := by
      rw [iadd_i64 (by rw [ht] at c ⊢; split at c <;> omega)]
      rw [ht] at c ⊢
      split at c <;> (split <;> omega)
    rw [if_pos c, e, if_pos (by omega), hw, hwd]
  · have e : Int.tmod n 7 = n % 7 := by
      rw [ht] at c ⊢
      split at c <;> (split <;> omega)
    rw [if_neg c, e, if_pos (by omega), hw, hwd]
theorem dgs4 (a b : Nat) (hb : b < 100) : dgs (a * 100 + b) 4 = dgs a 2 ++ dgs b 2 := by
  have e1 : (a * 100 + b) % 10 = b % 10 := by omega
  have e2 : (a * 100 + b) / 10 % 10 = b / 10 % 10 := by omega
  have e3 : (a * 100 + b) / 10 / 10 = a := by omega
  simp only [dgs, e1, e2, e3, List.append_assoc, List.nil_append, List.cons_append]
end Go.Proofs.YtddnfappkfiidaaGreat.Ev
