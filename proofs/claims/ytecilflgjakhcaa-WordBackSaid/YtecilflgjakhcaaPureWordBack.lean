/- A word comes back to the seconds that it was made of, by any pivot that is near; by others to seconds whole eras away: for every input, without a condition. -/
import Derived.Test.YtecilflgjakhcaaPuOct
namespace Go.Proofs.Ytecilflgjakhcaa.Ev
open Go
set_option linter.unusedVariables false
set_option linter.unusedSimpArgs false

theorem num_add (a b : Int) (ha : -9223372036854775808 ≤ a ∧ a ≤ 9223372036854775807) (h : -9223372036854775808 ≤ a + b ∧ a + b ≤ 9223372036854775807) :
    g85 ((), ((a, ()), ((b, ()), ()))) = some ((), ((a + b, ()), ((none, ()), ()))) := by
  unfold g85 f85_m
  simp only
  rw [iadd_i64 h]
  by_cases h1 : b > 0
  · rw [decide_eq_true h1, decide_eq_false (show ¬ a + b < a by omega), decide_eq_false (show ¬ b < 0 by omega)]; rfl
  · rw [decide_eq_false h1]
    by_cases h2 : b < 0
    · rw [decide_eq_true h2, decide_eq_false (show ¬ a + b > a by omega)]; rfl
    · rw [decide_eq_false h2]; rfl
theorem num_sub (a b : Int) (ha : -9223372036854775808 ≤ a ∧ a ≤ 9223372036854775807) (h : -9223372036854775808 ≤ a - b ∧ a - b ≤ 9223372036854775807) :
    g86 ((), ((a, ()), ((b, ()), ()))) = some ((), ((a - b, ()), ((none, ()), ()))) := by
  unfold g86 f86_m
  simp only
  rw [isub_i64 h]
  by_cases h1 : b > 0
  · rw [decide_eq_true h1, decide_eq_false (show ¬ a - b > a by omega), decide_eq_false (show ¬ b < 0 by omega)]; rfl
  · rw [decide_eq_false h1]
    by_cases h2 : b < 0
    · rw [decide_eq_true h2, decide_eq_false (show ¬ a - b < a by omega)]; rfl
    · rw [decide_eq_false h2]; rfl
theorem from_posix (p : Int) (h : -2305843009213693952 ≤ p ∧ p ≤ 2305843009213693952) : g33 ((), ((p, ()), ())) = some ((), ((p + 2208988800, ()), ((none, ()), ()))) := by
  unfold g33 f33_m
  simp only
  rw [num_add p 2208988800 (by omega) (by omega)]; rfl
theorem to_posix (p : Int) (h : -4611686018427387904 ≤ p ∧ p ≤ 4611686018427387904) : g34 ((), ((p, ()), ())) = some ((), ((p - 2208988800, ()), ((none, ()), ()))) := by
  unfold g34 f34_m
  simp only
  rw [num_sub p 2208988800 (by omega) (by omega)]; rfl
theorem word_put (p : Int) (h : -2305843009213693952 ≤ p ∧ p ≤ 2305843009213693952) :
    g71 ((), ((p, ()), ())) = some ((be ((p + 2208988800) % 4294967296) 4, ()), ((), ((none, ()), ()))) := by
  unfold g71 f71_m
  simp only
  rw [from_posix p h]
  simp only [Option.bind_some, Option.isNone_none, Bool.not_true, cond_false]
  unfold g77 f77_m
  simp only [Option.bind_some, iconv_u32]
  rw [put_u32 [] _ (by intro w hw; simp only [List.mem_singleton] at hw; subst hw; omega) (by simp)]
  simp
theorem be_byte (w : Int) : ∀ (n : Nat), ∀ x ∈ be w n, 0 ≤ x ∧ x < 256
  | 0, x, h => by simp [be] at h
  | n + 1, x, h => by
    rcases List.mem_cons.1 h with rfl | h
    · omega
    · exact be_byte w n x h
theorem word_parse (w : Int) (h0 : 0 ≤ w) (h1 : w < 4294967296) : g115 ((), ((be w 4, ()), ())) = some ((), ((w, ()), ((none, ()), ()))) := by
  unfold g115 f115_m
  simp only
  have hl := length_be w 4
  rw [get_u32 _ (be_byte w 4) (by omega), if_neg (by omega), if_neg (by omega)]
  simp only [Option.bind_some, Option.isNone_none, Bool.not_true, cond_false]
  rw [size_u32]
  simp only [Option.bind_some]
  rw [hl, show ((4 : Nat) : Int) = 4 from rfl]
  have e : ((be w 4).take ((0 : Int).toNat + 4)).drop (0 : Int).toNat = be w 4 := by
    rw [show ((0 : Int).toNat + 4) = 4 from rfl, show (0 : Int).toNat = 0 from rfl, List.drop_zero, List.take_of_length_le (by omega)]
  rw [e, wordv_be w h0 4 0 (by omega) (by omega) (by decide), iconv_u32]
  have e2 : (0 * 256 ^ 4 + w % 256 ^ 4) % 4294967296 = w := by
    rw [show (256 : Int) ^ 4 = 4294967296 from rfl]; omega
  rw [e2]
  simp
theorem era_bits (n about : Int) (h0 : 0 ≤ n) (h1 : n < 4294967296) (ha : -4611686018427387904 ≤ about ∧ about ≤ 4611686018427387904) :
    g116 ((), ((n, ()), ((32, ()), ((about, ()), ())))) = some ((), ((if (n - about) % 4294967296 ≥ 2147483648 then about + ((n - about) % 4294967296 - 4294967296) else about + (n - about) % 4294967296, ()), ((none, ()), ()))) := by
  have hmask : g128 ((), ((32, ()), ())) = some ((), ((4294967295, ()), ())) := by kernel_rfl
  have hright : g127 ((), ((32, ()), ())) = some ((), ((true, ()), ())) := by kernel_rfl
  unfold g116 f116_m
  simp only
  rw [hright, hmask]
  simp only [Option.bind_some, Bool.not_true, cond_false]
  rw [decide_eq_false (show ¬ n > 4294967295 by omega)]
  simp only [cond_false]
  rw [iconv_u64, isub_u64]
  have e1 : iand .u64 ((n - about % 18446744073709551616) % 18446744073709551616) 4294967295 = (n - about) % 4294967296 := by
    have := iand_mask (k := .u64) (a := (n - about % 18446744073709551616) % 18446744073709551616) 32 (by decide) rfl (by omega) (by simp only [IntKind.bits]; omega)
    rw [show ((2 : Int) ^ 32 - 1) = 4294967295 from rfl, show ((2 : Int) ^ 32) = 4294967296 from rfl] at this
    rw [this]; omega
  rw [e1, iconv_i64 (by omega), isub_i64 (by omega), decide_eq_false (show ¬ ((32 : Int) - 1 < 0) by omega)]
  simp only [cond_false]
  rw [show ishl .i64 1 (32 - 1) = 2147483648 by kernel_rfl, show ishl .i64 1 32 = 4294967296 by kernel_rfl, decide_eq_false (show ¬ ((32 : Int) < 0) by omega)]
  by_cases hc : (n - about) % 4294967296 ≥ 2147483648
  · rw [decide_eq_true hc, if_pos hc, isub_i64 (by omega), num_add _ _ (by omega) (by omega)]; rfl
  · rw [decide_eq_false hc, if_neg hc]
    simp only [cond_false]
    rw [num_add _ _ (by omega) (by omega)]; rfl
theorem word_near (w pivot : Int) (h0 : 0 ≤ w) (h1 : w < 4294967296) (hp : -2305843009213693952 ≤ pivot ∧ pivot ≤ 2305843009213693952) :
    g72 ((), ((be w 4, ()), ((pivot, ()), ()))) = some ((), (((if (w - (pivot + 2208988800)) % 4294967296 ≥ 2147483648 then pivot + ((w - (pivot + 2208988800)) % 4294967296 - 4294967296) else pivot + (w - (pivot + 2208988800)) % 4294967296), ()), ((none, ()), ()))) := by
  unfold g72 f72_m
  simp only
  rw [word_parse w h0 h1]
  simp only [Option.bind_some, Option.isNone_none, Bool.not_true, cond_false]
  rw [from_posix pivot hp]
  simp only [Option.bind_some, Option.isNone_none, Bool.not_true, cond_false]
  unfold g78 f78_m
  simp only
  rw [size_u32, iconv_u64, Int.emod_eq_of_lt h0 (by omega)]
  simp only [Option.bind_some]
  rw [show imul .i64 4 8 = 32 by kernel_rfl, era_bits w _ h0 h1 (by omega)]
  simp only [Option.bind_some, Option.isNone_none, Bool.not_true, cond_false]
  by_cases hc : (w - (pivot + 2208988800)) % 4294967296 ≥ 2147483648
  · rw [if_pos hc, if_pos hc, to_posix _ (by omega)]
    simp only [Option.bind_some]
    rw [show pivot + 2208988800 + ((w - (pivot + 2208988800)) % 4294967296 - 4294967296) - 2208988800 = pivot + ((w - (pivot + 2208988800)) % 4294967296 - 4294967296) by omega]
  · rw [if_neg hc, if_neg hc, to_posix _ (by omega)]
    simp only [Option.bind_some]
    rw [show pivot + 2208988800 + (w - (pivot + 2208988800)) % 4294967296 - 2208988800 = pivot + (w - (pivot + 2208988800)) % 4294967296 by omega]
theorem word_alive : g70 ((), ()) = some ((), ((true, ()), ())) := by
  unfold g70 f70_m
  rw [word_put 0 (by omega)]
  rfl
theorem tmod_zero {a : Int} (h : a % 4294967296 = 0) : (Int.tmod a 4294967296 == 0) = true := by
  have : (4294967296 : Int) ∣ a := Int.dvd_of_emod_eq_zero h
  rw [Int.tmod_eq_zero_of_dvd this]; rfl
theorem word_back (p b : Int) (hp : -9223372036854775808 ≤ p ∧ p ≤ 9223372036854775807) (hb : -9223372036854775808 ≤ b ∧ b ≤ 9223372036854775807) :
    g14 ((), ((p, ()), ((b, ()), ()))) = some ((), ((true, ()), ())) := by
  unfold g14 f14_m
  simp only
  rw [word_alive]
  simp only [Option.bind_some, Bool.not_true, cond_false]
  by_cases c1 : p > 1152921504606846976
  · rw [decide_eq_true c1]; rfl
  rw [decide_eq_false c1]
  by_cases c2 : p < -1152921504606846976
  · rw [decide_eq_true c2]; rfl
  rw [decide_eq_false c2]
  by_cases c3 : b > 1152921504606846976
  · rw [decide_eq_true c3]; rfl
  rw [decide_eq_false c3]
  by_cases c4 : b < -1152921504606846976
  · rw [decide_eq_true c4]; rfl
  rw [decide_eq_false c4]
  simp only [cond_false]
  rw [word_put p (by omega)]
  simp only [Option.bind_some, Option.isNone_none, Bool.not_true, cond_false]
  rw [isub_i64 (by omega), word_near _ _ (by omega) (by omega) (by omega)]
  simp only [Option.bind_some, Option.isNone_none, Bool.not_true, cond_false]
  generalize hx : (if ((p + 2208988800) % 4294967296 - (p - b + 2208988800)) % 4294967296 ≥ 2147483648 then p - b + (((p + 2208988800) % 4294967296 - (p - b + 2208988800)) % 4294967296 - 4294967296)
    else p - b + ((p + 2208988800) % 4294967296 - (p - b + 2208988800)) % 4294967296) = x
  have hm : ((p + 2208988800) % 4294967296 - (p - b + 2208988800)) % 4294967296 = b % 4294967296 := by omega
  rw [hm] at hx
  have hx1 : (x - p) % 4294967296 = 0 := by
    by_cases hc : b % 4294967296 ≥ 2147483648
    · rw [if_pos hc] at hx; omega
    · rw [if_neg hc] at hx; omega
  have hx2 : -4611686018427387904 ≤ x - p ∧ x - p ≤ 4611686018427387904 := by
    by_cases hc : b % 4294967296 ≥ 2147483648
    · rw [if_pos hc] at hx; omega
    · rw [if_neg hc] at hx; omega
  have far : ¬ (-2147483648 ≤ b ∧ b < 2147483648) → (x != p) = true := by
    intro hn
    rw [bne_iff_ne]
    intro e
    by_cases hc : b % 4294967296 ≥ 2147483648
    · rw [if_pos hc] at hx; omega
    · rw [if_neg hc] at hx; omega
  have near : -2147483648 ≤ b ∧ b < 2147483648 → (x == p) = true := by
    intro hn
    rw [beq_iff_eq]
    by_cases hc : b % 4294967296 ≥ 2147483648
    · rw [if_pos hc] at hx; omega
    · rw [if_neg hc] at hx; omega
  by_cases d1 : b ≥ -2147483648
  · rw [decide_eq_true d1]
    by_cases d2 : b < 2147483648
    · rw [decide_eq_true d2, near ⟨d1, d2⟩]; rfl
    · rw [decide_eq_false d2, far (fun h => d2 h.2), isub_i64 (by omega), tmod_zero hx1]; rfl
  · rw [decide_eq_false d1, far (fun h => d1 h.1), isub_i64 (by omega), tmod_zero hx1]; rfl
end Go.Proofs.Ytecilflgjakhcaa.Ev
