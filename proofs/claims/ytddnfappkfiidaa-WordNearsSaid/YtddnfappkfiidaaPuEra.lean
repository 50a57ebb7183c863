/- Eras: the number near a pivot, by the program and by its reference. -/
import Derived.Test.YtddnfappkfiidaaPuBig
import Derived.Test.YtddnfappkfiidaaPuNum
import Derived.Test.YtddnfappkfiidaaPuSizeU32
namespace Go.Proofs.Ytddnfappkfiidaa.Ev
open Go
set_option linter.unusedVariables false
set_option linter.unusedSimpArgs false
/-- The number near p with the lowest 32 bits n. -/
def nearV (n p : Int) : Int := if 2147483648 ≤ (n - p) % 4294967296 then p + ((n - p) % 4294967296 - 4294967296) else p + (n - p) % 4294967296
def i64V (a : Int) : Int := if i64 a then a else 0
def i64E (a : Int) : Int := if i64 a then 0 else 5
theorem num_add' (a b : Int) (ha : i64 a) (hb : i64 b) : g_num_Add ((), ((a, ()), ((b, ()), ()))) = some ((), ((i64V (a + b), ()), ((errOf (i64E (a + b)), ()), ()))) := by
  rw [num_add a b ha hb]
  unfold i64V i64E
  by_cases h : i64 (a + b)
  · rw [if_pos h, if_pos h, if_pos h]; rfl
  · rw [if_neg h, if_neg h, if_neg h]; rfl
theorem num_sub' (a b : Int) (ha : i64 a) (hb : i64 b) : g_num_Sub ((), ((a, ()), ((b, ()), ()))) = some ((), ((i64V (a - b), ()), ((errOf (i64E (a - b)), ()), ()))) := by
  simp only [g_num_Sub, f_num_Sub_m, fitsS_dec, Option.bind_some, Option.isNone_none, Option.isNone_some, Option.isSome_none, Option.isSome_some, Bool.not_true, Bool.not_false, cond_true, cond_false, cond_dec, beq_int, bne_int, not_dec, gt_iff_lt]
  unfold i64V i64E i64 at *
  by_cases h : -9223372036854775808 ≤ a - b ∧ a - b ≤ 9223372036854775807
  · rw [isub_i64 h, if_pos h, if_pos h]
    by_cases h1 : 0 < b
    · rw [if_pos h1, if_neg (by omega), if_neg (by omega)]; rfl
    · rw [if_neg h1]
      by_cases h2 : b < 0
      · rw [if_pos h2, if_neg (by omega)]; rfl
      · rw [if_neg h2]; rfl
  · rw [if_neg h, if_neg h]
    have e : isub .i64 a b = (a - b + 9223372036854775808) % 18446744073709551616 - 9223372036854775808 := wrap_i64 _
    rw [e]
    by_cases h1 : 0 < b
    · rw [if_pos h1, if_pos (by omega)]; rfl
    · rw [if_neg h1, if_pos (by omega), if_pos (by omega)]; rfl
theorem era_bits32 (n p : Int) (h0 : 0 ≤ n) (h1 : n < 4294967296) (hp : i64 p) : g_era_Bits ((), ((n, ()), ((32, ()), ((p, ()), ())))) = some ((), ((i64V (nearV n p), ()), ((errOf (i64E (nearV n p)), ()), ()))) := by
  have hmask : g_era_mask ((), ((32, ()), ())) = some ((), ((4294967295, ()), ())) := by kernel_rfl
  have hright : g_era_right ((), ((32, ()), ())) = some ((), ((true, ()), ())) := by kernel_rfl
  unfold i64 at hp
  simp only [g_era_Bits, f_era_Bits_m, hmask, hright, fitsS_dec, Option.bind_some, Option.isNone_none, Option.isNone_some, Option.isSome_none, Option.isSome_some, Bool.not_true, Bool.not_false, cond_true, cond_false, cond_dec, beq_int, bne_int, not_dec, gt_iff_lt, ge_iff_le]
  have e1 : iand .u64 (isub .u64 n (iconv .u64 p)) 4294967295 = (n - p) % 4294967296 := by
    rw [iconv_u64, isub_u64]
    have := iand_mask (k := .u64) (a := (n - p % 18446744073709551616) % 18446744073709551616) 32 (by decide) rfl (by omega) (by simp only [IntKind.bits]; omega)
    rw [show ((2 : Int) ^ 32 - 1) = 4294967295 from rfl, show ((2 : Int) ^ 32) = 4294967296 from rfl] at this
    rw [this]; omega
  rw [if_neg (by omega), e1, iconv_i64 (by omega), isub_i64 (a := 32) (by omega), if_neg (by omega), show ishl .i64 1 (32 - 1) = 2147483648 by kernel_rfl, show ishl .i64 1 32 = 4294967296 by kernel_rfl]
  unfold nearV
  by_cases hc : 2147483648 ≤ (n - p) % 4294967296
  · rw [if_pos hc, if_pos hc, if_neg (by omega), isub_i64 (by omega), num_add' p _ hp (by unfold i64; omega)]
    simp only [Option.bind_some]
  · rw [if_neg hc, if_neg hc, num_add' p _ hp (by unfold i64; omega)]
    simp only [Option.bind_some]
theorem era_unfold (n p : Int) (h0 : 0 ≤ n) (h1 : n < 4294967296) (hp : i64 p) : g_era_Unfold_u32 ((), ((n, ()), ((p, ()), ()))) = some ((), ((i64V (nearV n p), ()), ((errOf (i64E (nearV n p)), ()), ()))) := by
  simp only [g_era_Unfold_u32, f_era_Unfold_u32_m, size_u32, Option.bind_some]
  rw [iconv_u64, Int.emod_eq_of_lt h0 (by omega), imul_i64 (by omega), show (4 : Int) * 8 = 32 from rfl, era_bits32 n p h0 h1 hp]
  simp only [Option.bind_some]
theorem big_minus (a : Int) : g_ref01_Minus ((), (big a, ())) = some ((), (big (-a), ())) := by
  simp only [g_ref01_Minus, f_ref01_Minus_m, fitsS_dec, Option.bind_some, Option.isNone_none, Option.isNone_some, Option.isSome_none, Option.isSome_some, Bool.not_true, Bool.not_false, cond_true, cond_false, cond_dec, beq_int, bne_int, not_dec, gt_iff_lt, big, Int.natAbs_neg]
  by_cases h : a < 0
  · rw [if_neg (not_not_intro h), decide_eq_false (show ¬ -a < 0 by omega)]
  · rw [if_pos h]
    congr 4
    simp only [decide_eq_decide]
    by_cases h0 : a = 0
    · subst h0
      rw [show Int.natAbs 0 = 0 from rfl, dg_zero]
      simp
    · have : dg a.natAbs ≠ [] := fun e => h0 (by have := dg_nil.1 e; omega)
      have hl : (dg a.natAbs).length ≠ 0 := fun e => this (List.eq_nil_of_length_eq_zero e)
      constructor <;> intro _ <;> omega
theorem sm_pow {i : Nat} (h : i ≤ 62) : sm ((2 : Int) ^ i) := by
  have h1 : ∀ i : Nat, i ≤ 62 → (0 : Int) ≤ 2 ^ i ∧ (2 : Int) ^ i ≤ 4611686018427387904 := by decide
  have := h1 i h
  exact sm_of (by omega)
theorem power_p4 (bits : Nat) (hb : bits ≤ 62) (x : Bool) (y : List Int) : ∀ (k i : Nat), i + k = bits →
    Evn (fun j => (f_ref13_Power_t j).1 (((x, ()), (y, (big (2 ^ i), ()))), (((bits : Int), ()), ((), ((), (((i : Int), ()), ())))))) ((), (big (2 ^ bits), ())) := by
  intro k; induction k with
  | zero =>
    intro i h
    obtain rfl : i = bits := by omega
    refine Evn.some 1 fun j => ?_
    simp only [t_ref13_Power, f_ref13_Power_p4, fitsS_dec, Option.bind_some, Option.isNone_none, Option.isNone_some, Option.isSome_none, Option.isSome_some, Bool.not_true, Bool.not_false, cond_true, cond_false, cond_dec, beq_int, bne_int, not_dec]
    rw [if_neg (by omega)]
  | succ k ih =>
    intro i h
    have hs := sm_pow (i := i) (by omega)
    have hp := big_plus _ _ hs hs
    have e : (2 : Int) ^ i + 2 ^ i = 2 ^ (i + 1) := by rw [Int.pow_succ]; omega
    rw [e] at hp
    refine (ih (i + 1) (by omega)).step fun j => ?_
    simp only [t_ref13_Power, f_ref13_Power_p4, fitsS_dec, Option.bind_some, Option.isNone_none, Option.isNone_some, Option.isSome_none, Option.isSome_some, Bool.not_true, Bool.not_false, cond_true, cond_false, cond_dec, beq_int, bne_int, not_dec]
    rw [if_pos (by omega), iadd_i64 (by omega)]
    have hp' : g_ref01_Plus ((), ((big (2 ^ i)).1, ((big (2 ^ i)).2.1, ())), ((big (2 ^ i)).1, ((big (2 ^ i)).2.1, ())), ()) = some ((), (big (2 ^ (i + 1)), ())) := hp
    simp only [big] at hp' ⊢
    rw [hp']; rfl
theorem ref13_power (bits : Nat) (hb : bits ≤ 62) : g_ref13_Power ((), (((bits : Int), ()), ())) = some ((), (big (2 ^ bits), ())) := by
  refine ((power_p4 bits hb false [] bits 0 (by omega)).cast fun j => ?_).lim
  simp only [f_ref13_Power_m, big_of 1 (by omega), fitsS_dec, Option.bind_some, Option.isNone_none, Option.isNone_some, Option.isSome_none, Option.isSome_some, Bool.not_true, Bool.not_false, cond_true, cond_false, cond_dec, beq_int, bne_int, not_dec]
  rfl
theorem ref13_near32 (t p : Int) (ht : -18446744073709551616 ≤ t ∧ t ≤ 18446744073709551616) (hp : i64 p) : g_ref13_Near ((), (big t, (big p, ((32, ()), ())))) = some ((), ((decide (p - 2147483648 ≤ t ∧ t < p + 2147483648), ()), ())) := by
  unfold i64 at hp
  have e : isub .i64 32 1 = ((31 : Nat) : Int) := by kernel_rfl
  have hw := ref13_power 31 (by omega)
  rw [show (2 : Int) ^ 31 = 2147483648 from rfl] at hw
  have h1 := big_minus 2147483648
  have h2 := big_plus p (-2147483648) (sm_of (by omega)) (sm_of (by omega))
  have h3 := big_plus p 2147483648 (sm_of (by omega)) (sm_of (by omega))
  have h4 := big_less t (p + -2147483648) (sm_of (by omega)) (sm_of (by omega))
  have h5 := big_less t (p + 2147483648) (sm_of (by omega)) (sm_of (by omega))
  simp only [big] at hw h1 h2 h3 h4 h5
  simp only [g_ref13_Near, f_ref13_Near_m, e, hw, h1, h2, h3, h4, h5, fitsS_dec, Option.bind_some, Option.isNone_none, Option.isNone_some, Option.isSome_none, Option.isSome_some, Bool.not_true, Bool.not_false, cond_true, cond_false, cond_dec, beq_int, bne_int, not_dec, big]
  by_cases c : t < p + -2147483648
  · rw [if_neg (not_not_intro c), decide_eq_false (by omega)]
  · rw [if_pos c]
    congr 4
    simp only [decide_eq_decide]
    omega
theorem ref13_bits32 (hfold : ∀ p : Int, i64 p → g_ref13_Fold ((), ((p, ()), ((32, ()), ()))) = some ((), ((p % 4294967296, ()), ()))) (n p : Int) (h0 : 0 ≤ n) (h1 : n < 4294967296) (hp : i64 p) :
    g_ref13_Bits ((), ((n, ()), ((32, ()), ((p, ()), ())))) = some ((), ((i64V (nearV n p), ()), ((i64E (nearV n p), ()), ()))) := by
  have hp0 := hp
  unfold i64 at hp
  have b1 := big_of p hp
  have b2 := big_of (p % 4294967296) (by omega)
  have b3 := big_of n (by omega)
  have m1 := big_minus (p % 4294967296)
  have p1 := big_plus p (-(p % 4294967296)) (sm_of (by omega)) (sm_of (by omega))
  have p2 := big_plus (p + -(p % 4294967296)) n (sm_of (by omega)) (sm_of (by omega))
  have w := ref13_power 32 (by omega)
  rw [show (2 : Int) ^ 32 = 4294967296 from rfl, show (((32 : Nat) : Int)) = 32 from rfl] at w
  have m2 := big_minus 4294967296
  have p3 := big_plus (p + -(p % 4294967296) + n) 4294967296 (sm_of (by omega)) (sm_of (by omega))
  have p4 := big_plus (p + -(p % 4294967296) + n) (-4294967296) (sm_of (by omega)) (sm_of (by omega))
  have nr : ∀ t, -18446744073709551616 ≤ t ∧ t ≤ 18446744073709551616 → _ := fun t ht => ref13_near32 t p ht hp0
  have sv : ∀ t, t = nearV n p → g_ref01_Small ((), (big t, ())) = some ((), ((i64V (nearV n p), ()), ((i64E (nearV n p), ()), ()))) := fun t ht => by
    subst ht
    have : -9223372036854775808 - 2147483648 ≤ nearV n p ∧ nearV n p ≤ 9223372036854775807 + 2147483648 := by unfold nearV; split <;> omega
    rw [big_small _ (sm_of (by omega))]
    unfold i64V i64E i64; rfl
  have start : ∀ j, f_ref13_Bits_m (f_ref13_Bits_t j) ((), ((n, ()), ((32, ()), ((p, ()), ())))) = (f_ref13_Bits_t j).1 ((big p, (big (p + -(p % 4294967296) + n), (big 4294967296, ()))), ((32, ()), ((), ((), ((), ((0, ()), ())))))) := fun j => by
    simp only [big] at b1 b2 b3 m1 p1 p2 w
    simp only [f_ref13_Bits_m, hfold p hp0, b1, b2, fitsS_dec, Option.bind_some, Option.isNone_none, Option.isNone_some, Option.isSome_none, Option.isSome_some, Bool.not_true, Bool.not_false, cond_true, cond_false, cond_dec, beq_int, bne_int, not_dec, gt_iff_lt, ge_iff_le]
    rw [if_neg (by omega), if_neg (by omega), show iconv .u64 32 = 32 by kernel_rfl, if_neg (by omega), show ishl .u64 1 32 = 4294967296 by kernel_rfl, if_neg (by omega), iconv_i64 (a := n) (by omega)]
    simp only [m1, p1, b3, p2, w, Option.bind_some, big]
  simp only [big] at p3 p4 m2 nr sv start
  refine Evn.lim (Evn.cast ?_ start)
  -- the first, the one up, the one down
  have hA : ∀ {t : Int}, p - 2147483648 ≤ t → t < p + 2147483648 → (t - n) % 4294967296 = 0 → t = nearV n p := by
    intro t a b c; unfold nearV; split <;> omega
  have s0 := nr (p + -(p % 4294967296) + n) (by omega)
  have s1 := nr (p + -(p % 4294967296) + n + 4294967296) (by omega)
  have s2 := nr (p + -(p % 4294967296) + n + -4294967296) (by omega)
  by_cases c0 : p - 2147483648 ≤ p + -(p % 4294967296) + n ∧ p + -(p % 4294967296) + n < p + 2147483648
  · refine Evn.some 1 fun j => ?_
    simp only [t_ref13_Bits, f_ref13_Bits_p9, s0, fitsS_dec, Option.bind_some, Option.isNone_none, Option.isNone_some, Option.isSome_none, Option.isSome_some, Bool.not_true, Bool.not_false, cond_true, cond_false, cond_dec, beq_int, bne_int, not_dec]
    rw [if_pos (by decide), if_neg (by decide), if_neg (by decide), if_pos c0, sv _ (hA c0.1 c0.2 (by omega))]
    simp only [Option.bind_some]
  have c0' : ∀ j, (f_ref13_Bits_t (j + 1)).1 ((big p, (big (p + -(p % 4294967296) + n), (big 4294967296, ()))), ((32, ()), ((), ((), ((), ((0, ()), ())))))) = (f_ref13_Bits_t j).1 ((big p, (big (p + -(p % 4294967296) + n), (big 4294967296, ()))), ((32, ()), ((), ((), ((), ((1, ()), ())))))) := fun j => by
    simp only [t_ref13_Bits, f_ref13_Bits_p9, s0, fitsS_dec, Option.bind_some, Option.isNone_none, Option.isNone_some, Option.isSome_none, Option.isSome_some, Bool.not_true, Bool.not_false, cond_true, cond_false, cond_dec, beq_int, bne_int, not_dec, big]
    rw [if_pos (by decide), if_neg (by decide), if_neg (by decide), if_neg c0, iadd_i64 (by omega)]; rfl
  refine Evn.step ?_ c0'
  by_cases c1 : p - 2147483648 ≤ p + -(p % 4294967296) + n + 4294967296 ∧ p + -(p % 4294967296) + n + 4294967296 < p + 2147483648
  · refine Evn.some 1 fun j => ?_
    simp only [t_ref13_Bits, f_ref13_Bits_p9, p3, s1, fitsS_dec, Option.bind_some, Option.isNone_none, Option.isNone_some, Option.isSome_none, Option.isSome_some, Bool.not_true, Bool.not_false, cond_true, cond_false, cond_dec, beq_int, bne_int, not_dec, big]
    rw [if_pos (by decide), if_pos (by decide), if_neg (by decide), if_pos c1, sv _ (hA c1.1 c1.2 (by omega))]
    simp only [Option.bind_some]
  have c1' : ∀ j, (f_ref13_Bits_t (j + 1)).1 ((big p, (big (p + -(p % 4294967296) + n), (big 4294967296, ()))), ((32, ()), ((), ((), ((), ((1, ()), ())))))) = (f_ref13_Bits_t j).1 ((big p, (big (p + -(p % 4294967296) + n), (big 4294967296, ()))), ((32, ()), ((), ((), ((), ((2, ()), ())))))) := fun j => by
    simp only [t_ref13_Bits, f_ref13_Bits_p9, p3, s1, fitsS_dec, Option.bind_some, Option.isNone_none, Option.isNone_some, Option.isSome_none, Option.isSome_some, Bool.not_true, Bool.not_false, cond_true, cond_false, cond_dec, beq_int, bne_int, not_dec, big]
    rw [if_pos (by decide), if_pos (by decide), if_neg (by decide), if_neg c1, iadd_i64 (by omega)]; rfl
  refine Evn.step ?_ c1'
  have c2 : p - 2147483648 ≤ p + -(p % 4294967296) + n + -4294967296 ∧ p + -(p % 4294967296) + n + -4294967296 < p + 2147483648 := by omega
  refine Evn.some 1 fun j => ?_
  simp only [t_ref13_Bits, f_ref13_Bits_p9, m2, p4, s2, fitsS_dec, Option.bind_some, Option.isNone_none, Option.isNone_some, Option.isSome_none, Option.isSome_some, Bool.not_true, Bool.not_false, cond_true, cond_false, cond_dec, beq_int, bne_int, not_dec, big]
  rw [if_pos (by decide), if_neg (by decide), if_pos (by decide), if_pos c2, sv _ (hA c2.1 c2.2 (by omega))]
  simp only [Option.bind_some]
end Go.Proofs.Ytddnfappkfiidaa.Ev
