/- Network seconds of machine seconds, and a number folded, by the reference. -/
import Derived.Test.YtddnfappkfiidaaPuBig
import Derived.Test.YtddnfappkfiidaaPuNum
namespace Go.Proofs.Ytddnfappkfiidaa.Ev
open Go
set_option linter.unusedVariables false
set_option linter.unusedSimpArgs false
theorem start_1900 : g_ref05_Start ((), ((1900, ()), ())) = some ((), ((-25567, ()), ())) :=
  (Evn.some (F := fun k => f_ref05_Start_m (f_ref05_Start_t k) ((), ((1900, ()), ()))) 400 fun k => by kernel_rfl).lim
theorem of_1900 : g_ref05_Of ((), ((1900, ()), ((1, ()), ((1, ()), ())))) = some ((), ((-25567, ()), ())) := by
  refine (Evn.some (F := fun k => f_ref05_Of_m (f_ref05_Of_t k) ((), ((1900, ()), ((1, ()), ((1, ()), ()))))) 3 fun k => ?_).lim
  simp only [f_ref05_Of_m, start_1900, Option.bind_some]
  kernel_rfl
theorem begin_1900 : g_ref15_Begin ((), ()) = some ((), ((2208988800, ()), ())) := by
  simp only [g_ref15_Begin, f_ref15_Begin_m, of_1900]; kernel_rfl
theorem ref15_ahead (p : Int) (h : i64 p) : g_ref15_Ahead ((), ((p, ()), ())) = some ((), ((if i64 (p + 2208988800) then p + 2208988800 else 0, ()), ((if i64 (p + 2208988800) then 0 else 5, ()), ()))) := by
  have h1 := big_plus p 2208988800 (sm_of (by omega)) (sm_of (by omega))
  have h2 := big_small (p + 2208988800) (sm_of (by omega))
  simp only [big] at h1 h2
  simp only [g_ref15_Ahead, f_ref15_Ahead_m, begin_1900, big_of p h, big_of 2208988800 (by omega), Option.bind_some, h1, h2]
theorem fold_p4 (t : Int) (bits : Nat) (hb : bits ≤ 62) (ht : i64 t) : ∀ (k i : Nat), i + k = bits → Evn (fun j => (f_ref13_Fold_t j).1 ((), ((t, ()), (((bits : Int), ()), (((2 : Int) ^ i, ()), (((i : Int), ()), ())))))) ((), ((t % 2 ^ bits, ()), ())) := by
  intro k; induction k with
  | zero =>
    intro i h
    obtain rfl : i = bits := by omega
    have hp : (0 : Int) < 2 ^ i := Int.pow_pos (by decide)
    have hp2 : (2 : Int) ^ i ≤ 2 ^ 62 := by exact_mod_cast Nat.pow_le_pow_right (by decide) hb
    refine Evn.some 1 fun j => ?_
    simp only [t_ref13_Fold, f_ref13_Fold_p4, fitsS_dec, Option.bind_some, Option.isNone_none, Option.isNone_some, Option.isSome_none, Option.isSome_some, Bool.not_true, Bool.not_false, cond_true, cond_false, cond_dec, beq_int, bne_int, not_dec]
    rw [if_neg (by omega), if_neg (by omega), tmod_pos _ hp]
    have hm : 0 ≤ t % 2 ^ i := Int.emod_nonneg _ (by omega)
    have hn : 0 ≤ (-t) % 2 ^ i := Int.emod_nonneg _ (by omega)
    have l1 := Int.emod_lt_of_pos t hp
    have l2 := Int.emod_lt_of_pos (-t) hp
    by_cases h0 : 0 ≤ t
    · rw [if_pos h0, if_neg (by omega)]
    · rw [if_neg h0]
      have e2 := Int.mul_ediv_add_emod (-t) (2 ^ i)
      generalize (2 : Int) ^ i = p at *
      by_cases h1 : -(-t % p) < 0
      · rw [if_pos h1, iadd_i64 (by omega)]
        have : t % p = -(-t % p) + p := ((Int.ediv_emod_unique (q := -(-t / p) - 1) hp).2 ⟨by rw [Int.mul_sub, Int.mul_neg]; omega, by omega, by omega⟩).2
        rw [this]
      · rw [if_neg h1]
        have : t % p = -(-t % p) := ((Int.ediv_emod_unique (q := -(-t / p)) hp).2 ⟨by rw [Int.mul_neg]; omega, by omega, by omega⟩).2
        rw [this]
  | succ k ih =>
    intro i h
    have hp : (0 : Int) < 2 ^ i := Int.pow_pos (by decide)
    have hp2 : (2 : Int) ^ i ≤ 2 ^ 61 := by exact_mod_cast Nat.pow_le_pow_right (by decide) (by omega)
    refine (ih (i + 1) (by omega)).step fun j => ?_
    simp only [t_ref13_Fold, f_ref13_Fold_p4, fitsS_dec, Option.bind_some, Option.isNone_none, Option.isNone_some, Option.isSome_none, Option.isSome_some, Bool.not_true, Bool.not_false, cond_true, cond_false, cond_dec, beq_int, bne_int, not_dec]
    rw [if_pos (by omega), imul_i64 (by omega), iadd_i64 (by omega), Int.pow_succ]; rfl
theorem ref13_fold (t : Int) (bits : Nat) (hb : bits ≤ 62) (ht : i64 t) : g_ref13_Fold ((), ((t, ()), (((bits : Int), ()), ()))) = some ((), ((t % 2 ^ bits, ()), ())) := by
  refine ((fold_p4 t bits hb ht bits 0 (by omega)).cast fun k => ?_).lim
  simp only [f_ref13_Fold_m]; rfl
end Go.Proofs.Ytddnfappkfiidaa.Ev
