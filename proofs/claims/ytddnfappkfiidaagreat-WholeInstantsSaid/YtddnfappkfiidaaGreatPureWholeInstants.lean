/- The law, plain. -/
import Derived.Test.YtddnfappkfiidaaGreatJoint1
namespace Go.Proofs.YtddnfappkfiidaaGreat.Ev
open Go
set_option linter.unusedVariables false
set_option linter.unusedSimpArgs false
theorem wi_shr {x : Int} (h : 0 ≤ x ∧ x < 18446744073709551616) : ishr .u64 x 32 = x / 4294967296 := by
  have := ishr_byte (w := x) (n := 4) (by decide) h.1
  simpa using this
theorem wi_and {x : Int} (h : 0 ≤ x ∧ x < 18446744073709551616) : iand .u64 x 4294967295 = x % 4294967296 := by
  have := iand_mask (k := .u64) (a := x) 32 (by decide) rfl h.1 (by simp only [IntKind.bits]; omega)
  rw [show ((2 : Int) ^ 32 - 1) = 4294967295 from rfl, show ((2 : Int) ^ 32) = 4294967296 from rfl] at this
  exact this
theorem wi_size (a : Int) (h : -1000000000000 ≤ a ∧ a ≤ 1000000000000) : g_num_size ((), ((a, ()), ())) = some ((), ((if a < 0 then -a else a, ()), ())) := by
  simp only [g_num_size, f_num_size_m, fitsS_dec, Option.bind_some, Option.isNone_none, Option.isNone_some, Option.isSome_none, Option.isSome_some, Bool.not_true, Bool.not_false, cond_true, cond_false, cond_dec, beq_int, bne_int, not_dec]
  by_cases c : a < 0
  · rw [if_pos c, if_pos c, iconv_u64]
    have : ineg .u64 (a % 18446744073709551616) = -a := by
      unfold ineg
      rw [wrap_u64]; omega
    rw [this]
  · rw [if_neg c, if_neg c, iconv_u64, Int.emod_eq_of_lt (by omega) (by omega)]
/-- A product of two that are small. -/
theorem wi_mul (a b : Int) (ha : -1000000000 ≤ a ∧ a ≤ 1000000000) (hb : 0 ≤ b ∧ b ≤ 1000000) : g_num_Mul ((), ((a, ()), ((b, ()), ()))) = some ((), ((a * b, ()), ((none, ()), ()))) := by
  have s1 := wi_size a (by omega)
  have s2 := wi_size b (by omega)
  rw [if_neg (by omega)] at s2
  generalize hx : (if a < 0 then -a else a) = x at s1
  have hx0 : 0 ≤ x ∧ x ≤ 1000000000 := by split at hx <;> omega
  have hp : 0 ≤ x * b ∧ x * b ≤ 1000000000000000 := by
    refine ⟨Int.mul_nonneg hx0.1 hb.1, ?_⟩
    have := Int.mul_le_mul hx0.2 hb.2 hb.1 (by decide)
    omega
  have hm : g_math_bits_Mul64 ((), ((x, ()), ((b, ()), ()))) = some ((), ((0, ()), ((x * b, ()), ()))) := by
    simp only [g_math_bits_Mul64, f_math_bits_Mul64_m]
    rw [wi_and (x := x) (by omega), wi_and (x := b) (by omega), wi_shr (x := x) (by omega), wi_shr (x := b) (by omega), Int.emod_eq_of_lt (a := x) (b := 4294967296) (by omega) (by omega), Int.emod_eq_of_lt (a := b) (b := 4294967296) (by omega) (by omega),
      Int.ediv_eq_zero_of_lt (a := x) (b := 4294967296) (by omega) (by omega), Int.ediv_eq_zero_of_lt (a := b) (b := 4294967296) (by omega) (by omega), imul_u64 (a := x) (b := b), Int.emod_eq_of_lt (by omega) (by omega)]
    rw [imul_u64, imul_u64, imul_u64, Int.zero_mul, Int.mul_zero, Int.zero_mul]
    simp only [Int.zero_emod, iadd_u64]
    rw [wi_shr (x := x * b) (by omega)]
    have hq : 0 ≤ x * b / 4294967296 ∧ x * b / 4294967296 ≤ 1000000 := by omega
    generalize x * b / 4294967296 = q at hq
    rw [show (0 + q) % 18446744073709551616 = q by omega, wi_and (x := q) (by omega), wi_shr (x := q) (by omega)]
    rw [show q % 4294967296 = q by omega, show q / 4294967296 = 0 by omega, show (q + 0) % 18446744073709551616 = q by omega, wi_shr (x := q) (by omega), show q / 4294967296 = 0 by omega]
    rfl
  simp only [g_num_Mul, f_num_Mul_m, s1, s2, hm, fitsS_dec, Option.bind_some, Option.isNone_none, Option.isNone_some, Option.isSome_none, Option.isSome_some, Bool.not_true, Bool.not_false, cond_true, cond_false, cond_dec, beq_int, bne_int, not_dec, ne_eq, not_true_eq_false, if_false]
  have nb : ¬ b < 0 := by omega
  by_cases c : a < 0
  · rw [if_pos c] at hx
    have e : (ineg .u64 (x * b)) = (-(x * b)) % 18446744073709551616 := by unfold ineg; rw [wrap_u64]; congr 1; omega
    have e2 : iconv .i64 ((-(x * b)) % 18446744073709551616) = a * b := by
      unfold iconv
      rw [wrap_i64]
      have : a * b = -(x * b) := by rw [← hx, Int.neg_mul, Int.neg_neg]
      rw [this]; omega
    have d1 : decide (a < 0) = true := decide_eq_true c
    have d2 : decide (b < 0) = false := decide_eq_false nb
    simp only [g_num_signed, f_num_signed_m, d1, d2, e, e2, fitsS_dec, Option.bind_some, Option.isNone_none, Option.isNone_some, Option.isSome_none, Option.isSome_some, Bool.not_true, Bool.not_false, cond_true, cond_false, cond_dec, beq_int, bne_int, not_dec]
    rw [show (!(true == false)) = true from rfl]
    simp only [cond_true]
    rw [if_pos (by omega)]
    rfl
  · rw [if_neg c] at hx
    subst hx
    have d1 : decide (a < 0) = false := decide_eq_false c
    have d2 : decide (b < 0) = false := decide_eq_false nb
    simp only [g_num_signed, f_num_signed_m, d1, d2, fitsS_dec, Option.bind_some, Option.isNone_none, Option.isNone_some, Option.isSome_none, Option.isSome_some, Bool.not_true, Bool.not_false, cond_true, cond_false, cond_dec, beq_int, bne_int, not_dec]
    rw [show (!(false == false)) = false from rfl]
    simp only [cond_false, Bool.not_false, cond_true]
    rw [if_pos (by omega), iconv_i64 (by omega)]
    rfl
theorem wi_add (a b : Int) (h : i64 a) (h2 : i64 b) (h3 : i64 (a + b)) : g_num_Add ((), ((a, ()), ((b, ()), ()))) = some ((), ((a + b, ()), ((none, ()), ()))) := by
  rw [num_add' a b h h2, (i64_in h3).1, (i64_in h3).2]; rfl
theorem wi_sum (a b c : Int) (h : -1000000000000000 ≤ a ∧ a ≤ 1000000000000000) (h2 : -1000000000000000 ≤ b ∧ b ≤ 1000000000000000) (h3 : -1000000000000000 ≤ c ∧ c ≤ 1000000000000000) : g_num_Sum ((), (([a, b, c], ()), ())) = some ((), ((a + b + c, ()), ((none, ()), ()))) := by
  have a0 := wi_add 0 a (by unfold i64; omega) (by unfold i64; omega) (by unfold i64; omega)
  have a1 := wi_add (0 + a) b (by unfold i64; omega) (by unfold i64; omega) (by unfold i64; omega)
  have a2 := wi_add (0 + a + b) c (by unfold i64; omega) (by unfold i64; omega) (by unfold i64; omega)
  have g0 : gd (.int .i64) ([a, b, c] : List Int) 0 = a := rfl
  have g1 : gd (.int .i64) ([a, b, c] : List Int) 1 = b := rfl
  have g2 : gd (.int .i64) ([a, b, c] : List Int) 2 = c := rfl
  have e0 : iadd .i64 0 1 = 1 := by rw [iadd_i64 (by omega)]; rfl
  have e1 : iadd .i64 1 1 = 2 := by rw [iadd_i64 (by omega)]; rfl
  have e2 : iadd .i64 2 1 = 3 := by rw [iadd_i64 (by omega)]; rfl
  refine (Evn.some (F := fun f => f_num_Sum_m (f_num_Sum_t f) ((), (([a, b, c], ()), ()))) 4 fun f => ?_).lim
  simp only [f_num_Sum_m, t_num_Sum, f_num_Sum_p4, List.length_cons, List.length_nil, a0, a1, a2, g0, g1, g2, e0, e1, e2, fitsS_dec, Option.bind_some, Option.isNone_none, Option.isNone_some, Option.isSome_none, Option.isSome_some, Bool.not_true, Bool.not_false, cond_true, cond_false, cond_dec, beq_int, bne_int, not_dec]
  have z : (0 : Int) + a + b + c = a + b + c := by omega
  rw [z]
  rfl
theorem wi_bits (n p : Int) (h0 : 0 ≤ n ∧ n < 1024) (hp : -1000000000 ≤ p ∧ p ≤ 1000000000) (hc : (n - p) % 1024 < 512 ∨ 1024 - (n - p) % 1024 ≤ 512) :
    g_era_Bits ((), ((n, ()), ((10, ()), ((p, ()), ())))) = some ((), ((if 512 ≤ (n - p) % 1024 then p + ((n - p) % 1024 - 1024) else p + (n - p) % 1024, ()), ((none, ()), ()))) := by
  have hmask : g_era_mask ((), ((10, ()), ())) = some ((), ((1023, ()), ())) := by kernel_rfl
  have hright : g_era_right ((), ((10, ()), ())) = some ((), ((true, ()), ())) := by kernel_rfl
  simp only [g_era_Bits, f_era_Bits_m, hmask, hright, fitsS_dec, Option.bind_some, Option.isNone_none, Option.isNone_some, Option.isSome_none, Option.isSome_some, Bool.not_true, Bool.not_false, cond_true, cond_false, cond_dec, beq_int, bne_int, not_dec, gt_iff_lt, ge_iff_le]
  have e1 : iand .u64 (isub .u64 n (iconv .u64 p)) 1023 = (n - p) % 1024 := by
    rw [iconv_u64, isub_u64]
    have := iand_mask (k := .u64) (a := (n - p % 18446744073709551616) % 18446744073709551616) 10 (by decide) rfl (by omega) (by simp only [IntKind.bits]; omega)
    rw [show ((2 : Int) ^ 10 - 1) = 1023 from rfl, show ((2 : Int) ^ 10) = 1024 from rfl] at this
    rw [this]; omega
  rw [if_neg (by omega), e1, iconv_i64 (by omega), isub_i64 (a := 10) (by omega), if_neg (by omega), show ishl .i64 1 (10 - 1) = 512 by kernel_rfl, show ishl .i64 1 10 = 1024 by kernel_rfl]
  by_cases hc : 512 ≤ (n - p) % 1024
  · rw [if_pos hc, if_pos hc, if_neg (by omega), isub_i64 (by omega), wi_add p _ (by unfold i64; omega) (by unfold i64; omega) (by unfold i64; omega)]
    rfl
  · rw [if_neg hc, if_neg hc, wi_add p _ (by unfold i64; omega) (by unfold i64; omega) (by unfold i64; omega)]
    rfl
theorem wi_of (t : Int) (h : -1000000000000 ≤ t ∧ t ≤ 1000000000000) : g_gps_Of ((), ((t, ()), ())) = some ((), (((t - 315964819) / 604800, ()), (((t - 315964819) % 604800, ()), ((none, ()), ())))) := by
  have hi : i64 (t - 315964819) := by unfold i64; omega
  simp only [g_gps_Of, f_gps_Of_m, num_sub' t 315964819 (by unfold i64; omega) (by unfold i64; omega), (i64_in hi).1, (i64_in hi).2, errOf_zero, num_split (t - 315964819) 604800 (by decide) (by decide) (by omega), fitsS_dec, Option.bind_some, Option.isNone_none, Option.isNone_some, Option.isSome_none, Option.isSome_some, Bool.not_true, Bool.not_false, cond_true, cond_false, cond_dec, beq_int, bne_int, not_dec]
theorem wi_near (t w : Int) (h : -500000000000 ≤ t ∧ t ≤ 500000000000) (hw : -128 ≤ w ∧ w ≤ 127) :
    g_gps_Near ((), ((((t - 315964819) / 604800) % 1024, ()), (((t - 315964819) % 604800, ()), ((t + 604800 * w, ()), ())))) = some ((), ((t, ()), ((none, ()), ()))) := by
  have h1 := wi_of (t + 604800 * w) (by omega)
  have ew : (t + 604800 * w - 315964819) / 604800 = (t - 315964819) / 604800 + w := by omega
  rw [ew] at h1
  generalize hk : (t - 315964819) / 604800 = k at *
  generalize hr : (t - 315964819) % 604800 = r at *
  have hkr : t - 315964819 = k * 604800 + r := by omega
  have hb := wi_bits (k % 1024) (k + w) (by omega) (by omega) (by omega)
  have ev : (if 512 ≤ (k % 1024 - (k + w)) % 1024 then (k + w) + ((k % 1024 - (k + w)) % 1024 - 1024) else (k + w) + (k % 1024 - (k + w)) % 1024) = k := by
    split <;> omega
  rw [ev] at hb
  have hl : g_gps_Long ((), ((k % 1024, ()), ((k + w, ()), ()))) = some ((), ((k, ()), ((none, ()), ()))) := by
    simp only [g_gps_Long, f_gps_Long_m, fitsS_dec, Option.bind_some, Option.isNone_none, Option.isNone_some, Option.isSome_none, Option.isSome_some, Bool.not_true, Bool.not_false, cond_true, cond_false, cond_dec, beq_int, bne_int, not_dec]
    rw [if_neg (by omega), iconv_u64, Int.emod_eq_of_lt (by omega) (by omega), hb]
    rfl
  have hm := wi_mul k 604800 (by omega) (by decide)
  have hs := wi_sum (k * 604800) r 315964819 (by omega) (by omega) (by decide)
  have ht : g_gps_Tai ((), ((k, ()), ((r, ()), ()))) = some ((), ((t, ()), ((none, ()), ()))) := by
    simp only [g_gps_Tai, f_gps_Tai_m, hm, fitsS_dec, Option.bind_some, Option.isNone_none, Option.isNone_some, Option.isSome_none, Option.isSome_some, Bool.not_true, Bool.not_false, cond_true, cond_false, cond_dec, beq_int, bne_int, not_dec, ge_iff_le]
    rw [if_neg (by omega), if_neg (by omega), hs, show k * 604800 + r + 315964819 = t by omega]
    rfl
  simp only [g_gps_Near, f_gps_Near_m, h1, hl, ht, fitsS_dec, Option.bind_some, Option.isNone_none, Option.isNone_some, Option.isSome_none, Option.isSome_some, Bool.not_true, Bool.not_false, cond_true, cond_false, cond_dec, beq_int, bne_int, not_dec]
theorem wi_i8 (x : Int) : ∃ w, iconv .i8 x = w ∧ -128 ≤ w ∧ w ≤ 127 := by
  refine ⟨_, rfl, ?_⟩
  unfold iconv
  simp only [IntKind.wrap, IntKind.bits, IntKind.signed, show (2 : Int) ^ 8 = 256 from rfl, show (2 : Int) ^ (8 - 1) = 128 from rfl]
  simp only [Bool.true_and, if_true, decide_eq_true_eq, true_and]
  split <;> omega
theorem wi_short (k : Int) : g_gps_Short ((), ((k, ()), ())) = some ((), ((k % 1024, ()), ())) := by
  simp only [g_gps_Short, f_gps_Short_m]
  rw [iconv_u64, tmod_nn (by omega), iconv_i64 (by omega)]
  congr 4; omega
theorem wi_posix (l : Lab) (h : labErr l = 0) : g_scale_Posix ((), (l.t, ())) = some ((), ((labN l * 86400 + labS l, ()), ((none, ()), ()))) := by
  have h1 := scale_posix l
  rw [h, if_pos rfl, errOf_zero] at h1
  exact h1
/-- The oldest word, and back. -/
theorem wi_word (b : List Int) (hb : b.length = 4) (hb2 : bytesL b) (p : Int) (hp : -1000000000000 ≤ p ∧ p ≤ 1000000000000) (q : Int) (hv : nearV (wordv b 0) (p + 2208988800) = q + 2208988800) (hq : -1000000000000 ≤ q ∧ q ≤ 1000000000000) (hw : 0 ≤ wordv b 0 ∧ wordv b 0 < 4294967296) :
    g_word_Near ((), ((b, ()), ((p, ()), ()))) = some ((), ((q, ()), ((none, ()), ()))) := by
  have h1 : g_word_Parse ((), ((b, ()), ())) = some ((), ((wordv b 0, ()), ((none, ()), ()))) := by
    have hg := get_u32 b hb2 (by omega) 0
    rw [if_neg (by omega), if_neg (by omega)] at hg
    simp only [g_word_Parse, f_word_Parse_m]
    rw [hg, size_u32]
    simp only [fitsS_dec, Option.bind_some, Option.isNone_none, Option.isNone_some, Option.isSome_none, Option.isSome_some, Bool.not_true, Bool.not_false, cond_true, cond_false, cond_dec, beq_int, bne_int, not_dec]
    rw [if_neg (by omega), show (0 : Int).toNat = 0 from rfl, List.drop_zero, List.take_of_length_le (by omega), iconv_u32, Int.emod_eq_of_lt hw.1 hw.2]
  have i1 : i64 (p + 2208988800) := by unfold i64; omega
  have i2 : i64 (q + 2208988800) := by unfold i64; omega
  have i3 : i64 (q + 2208988800 - 2208988800) := by unfold i64; omega
  have h2 := stamp_fromPosix p (by unfold i64; omega)
  rw [(i64_in i1).1, (i64_in i1).2, errOf_zero] at h2
  have h3 := era_unfold (wordv b 0) (p + 2208988800) hw.1 hw.2 i1
  rw [hv, (i64_in i2).1, (i64_in i2).2, errOf_zero] at h3
  have h4 := stamp_toPosix (q + 2208988800) i2
  rw [(i64_in i3).1, (i64_in i3).2, errOf_zero, show q + 2208988800 - 2208988800 = q by omega] at h4
  simp only [g_word_Near, f_word_Near_m, h1, h2, h3, h4, fitsS_dec, Option.bind_some, Option.isNone_none, Option.isNone_some, Option.isSome_none, Option.isSome_some, Bool.not_true, Bool.not_false, cond_true, cond_false, cond_dec, beq_int, bne_int, not_dec]
theorem wi_ofPosix (n s : Int) (h : ofErr n s 0 0 = 0) (hs : 0 ≤ s ∧ s < 86400) (hn : -25567 ≤ n ∧ n ≤ 2932896) : ∃ b : Lab, g_scale_FromPosix ((), ((n * 86400 + s, ()), ((0, ()), ((0, ()), ())))) = some ((), (b.t, ((none, ()), ()))) ∧ labErr b = 0 ∧ labN b = n ∧ labS b = s := by
  obtain ⟨z1, z2, z3, z4, z5⟩ := ofErr_zero.1 h
  obtain ⟨y, m, dd, hd⟩ := date_ex _ (show -4371587 ≤ n + (clkM s + 0) / 1440 ∧ n + (clkM s + 0) / 1440 ≤ 2932896 from z5)
  have b1 := label_of_ok h hd
  obtain ⟨s1, s2, s3⟩ := split_of h hd
  refine ⟨_, ?_, s1, s2, s3⟩
  have e1 : (n * 86400 + s) / 86400 = n := by omega
  have e2 : (n * 86400 + s) % 86400 = s := by omega
  simp only [g_scale_FromPosix, f_scale_FromPosix_m, num_split (n * 86400 + s) 86400 (by decide) (by decide) (by omega), e1, e2, b1, fitsS_dec, Option.bind_some, Option.isNone_none, Option.isNone_some, Option.isSome_none, Option.isSome_some, Bool.not_true, Bool.not_false, cond_true, cond_false, cond_dec, beq_int, bne_int, not_dec]
theorem wi_stamp (t n x : Int) (ht : -1000000000000 ≤ t ∧ t ≤ 1000000000000) (hn : 0 ≤ n ∧ n ≤ 999999999) (hx : -2147483648 < x ∧ x ≤ 2147483647) : ∃ s : Int × (Int × Unit),
    g_stamp_Of ((), ((t, ()), ((n, ()), ()))) = some ((), (s, ((none, ()), ()))) ∧ g_stamp_Time ((), (s, ((t + x, ()), ()))) = some ((), ((t, ()), ((n, ()), ((none, ()), ())))) := by
  have hE : stFracE n = 0 := if_pos hn
  have hV : stFracV n = (n * 4294967296 + 999999999) / 1000000000 := if_pos hn
  have hb2 : stFracV n * 1000000000 / 4294967296 = n := by rw [hV]; omega
  have hr : 0 ≤ stFracV n ∧ stFracV n < 4294967296 := by rw [hV]; omega
  have it : i64 t := by unfold i64; omega
  have h1 := stamp_of t n (by unfold i64; omega)
  rw [hE, if_pos rfl, errOf_zero] at h1
  refine ⟨_, h1, ?_⟩
  have h2 := stamp_time (t % 4294967296) (stFracV n) (t + x) (by omega) hr (by unfold i64; omega)
  rw [near_self t x hx, (i64_in it).1, (i64_in it).2, if_pos rfl, errOf_zero, hb2] at h2
  exact h2
theorem whole_instants (l : List (Int × Int)) (u e : Int) (a : Lab) (x y : Int) (hx : -2147483648 ≤ x ∧ x ≤ 2147483647) : g_top_WholeInstants ((), (tbR l u e, (a.t, ((x, (y, ())), ())))) = some ((), ((true, ()), ())) := by
  have hn := leap_new l u e
  have hst := labels_stand
  simp only [g_top_WholeInstants, f_top_WholeInstants_m, hst, g_law10_Long, f_law10_Long_m, fitsS_dec, Option.bind_some, Option.isNone_none, Option.isNone_some, Option.isSome_none, Option.isSome_some, Bool.not_true, Bool.not_false, cond_true, cond_false, cond_dec, beq_int, bne_int, not_dec, gt_iff_lt, Bool.not_true, cond_false]
  by_cases c0 : 296 < l.length
  · rw [if_pos (by omega)]
  have c0' : ¬ ((296 : Int) < (l.length : Int)) := by omega
  rw [if_neg c0']
  by_cases cx : x = -2147483648
  · subst cx; simp
  have cx' : (x == (-2147483648 : Int)) = false := by simpa using cx
  simp only [cx, cx', cond_false, if_false, hn, fitsS_dec, Option.bind_some, Option.isNone_none, Option.isNone_some, Option.isSome_none, Option.isSome_some, Bool.not_true, Bool.not_false, cond_true, cond_false, cond_dec, beq_int, bne_int, not_dec]
  by_cases c : tErr l u e = 0
  case neg => simp [c, errOf_pos c]
  obtain ⟨hg, _, _⟩ := good_of c
  obtain ⟨k, hk, hb⟩ := behind hg u e (labN a)
  have h1 := scale_tai hg u e a hk hb
  simp only [tp] at h1
  simp only [c, if_true, errOf_zero, h1, fitsS_dec, Option.bind_some, Option.isNone_none, Option.isNone_some, Option.isSome_none, Option.isSome_some, Bool.not_true, Bool.not_false, cond_true, cond_false, cond_dec, beq_int, bne_int, not_dec, errOf_none, not_true_eq_false, if_false]
  by_cases d : taiErr l a k = 0
  case neg => simp [d, errOf_pos d]
  simp only [d, if_true, not_true_eq_false, if_false]
  obtain ⟨la, ta⟩ := at_tai hk d
  obtain ⟨_, f1, hth, _⟩ := labErr_zero la
  have hf := fErr_zero.1 f1
  have hth2 := hth.2
  have hlo := at_low hg ta
  have hne := at_near hg ta
  have hsr := at_sec hg ta
  generalize secVal l (labN a) (labS a) k = t at *
  obtain ⟨n, s, r, p1, p2⟩ := scale_place hg u e t (by omega)
  obtain ⟨rfl, rfl, rfl⟩ := place_at hg ta hth.2 p2
  obtain ⟨oe, q1⟩ := of_split a la
  have hPx := wi_posix a la
  have hLb : g_scale_Label ((), ((some (l, (u, e)), ()), ((t, ()), ((a.n, ()), ((a.o, ()), ()))))) = some ((), (a.t, ((none, ()), ()))) := by
    simp only [tp] at p1
    simp only [g_scale_Label, f_scale_Label_m, p1, errOf_zero, q1, fitsS_dec, Option.bind_some, Option.isNone_none, Option.isNone_some, Option.isSome_none, Option.isSome_some, Bool.not_true, Bool.not_false, cond_true, cond_false, cond_dec, beq_int, bne_int, not_dec]
  have hPo : g_scale_PosixOf ((), ((some (l, (u, e)), ()), ((t, ()), ()))) = some ((), ((labN a * 86400 + labS a, ()), ((decide (labS a = 86400), ()), ((none, ()), ())))) := by
    simp only [tp] at p1
    simp only [g_scale_PosixOf, f_scale_PosixOf_m, p1, errOf_zero, fitsS_dec, Option.bind_some, Option.isNone_none, Option.isNone_some, Option.isSome_none, Option.isSome_some, Bool.not_true, Bool.not_false, cond_true, cond_false, cond_dec, beq_int, bne_int, not_dec]
    rw [imul_i64 (by omega), iadd_i64 (by omega)]
  obtain ⟨w, w0, w1⟩ := wi_i8 y
  have hOf := wi_of t (by omega)
  have hSh := wi_short ((t - 315964819) / 604800)
  have hNe := wi_near t w (by omega) w1
  have ew : iadd .i64 t (imul .i64 604800 (iconv .i64 w)) = t + 604800 * w := by
    rw [iconv_i64 (by omega), imul_i64 (by omega), iadd_i64 (by omega)]
  have hclk := (clk_of_lab la).2.1
  have hs60 : decide (labS a = 86400) = (a.s == 60) := by
    unfold clkS at hclk
    have : labS a = 86400 ↔ a.s = 60 := by split at hclk <;> omega
    rw [Bool.eq_iff_iff]; simpa using this
  by_cases c6 : labS a = 86400
  · have c6' : a.s = 60 := by
      have : (a.s == 60) = true := by rw [← hs60]; exact decide_eq_true c6
      simpa using this
    simp only [Lab.t] at hLb hPx
    simp only [w0, ew, Lab.t, hLb, hOf, hSh, hNe, hPo, hPx, fitsS_dec, Option.bind_some, Option.isNone_none, Option.isNone_some, Option.isSome_none, Option.isSome_some, Bool.not_true, Bool.not_false, cond_true, cond_false, cond_dec, beq_int, bne_int, not_dec]
    simp [c6, c6']
  have c6' : ¬ a.s = 60 := fun h => by
    have : decide (labS a = 86400) = true := by rw [hs60]; simpa using h
    exact c6 (of_decide_eq_true this)
  have oe2 : ofErr (labN a) (labS a) 0 0 = 0 := by
    obtain ⟨z1, z2, z3, z4, z5⟩ := ofErr_zero.1 oe
    refine ofErr_zero.2 ⟨z1, z2, by omega, by omega, ?_⟩
    have : (clkM (labS a) + 0) / 1440 = 0 := by
      have := (clk_range z2).1; omega
    rw [this, Int.add_zero]; exact z1
  obtain ⟨b, b1, b2, b3, b4⟩ := wi_ofPosix (labN a) (labS a) oe2 (by omega) (by omega)
  have hTo : g_scale_TaiOf ((), ((some (l, (u, e)), ()), ((labN a * 86400 + labS a, ()), ()))) = some ((), ((t, ()), ((none, ()), ()))) := by
    rw [← b3, ← b4] at ta
    rw [← b3] at hk hb
    obtain ⟨g2, g3⟩ := tai_at b2 ta hk
    have g1 := scale_tai hg u e b hk hb
    rw [g2, if_pos rfl, g3, errOf_zero] at g1
    simp only [tp] at g1
    simp only [g_scale_TaiOf, f_scale_TaiOf_m, b1, g1, fitsS_dec, Option.bind_some, Option.isNone_none, Option.isNone_some, Option.isSome_none, Option.isSome_some, Bool.not_true, Bool.not_false, cond_true, cond_false, cond_dec, beq_int, bne_int, not_dec]
  generalize hp : labN a * 86400 + labS a = p at *
  have hpr : -10000000000 ≤ p ∧ p ≤ 300000000000 := by omega
  have ip : i64 p := by unfold i64; omega
  have ip2 : i64 (p + 2208988800) := by unfold i64; omega
  have hFp := stamp_fromPosix p ip
  rw [(i64_in ip2).1, (i64_in ip2).2, errOf_zero] at hFp
  obtain ⟨sv, s1, s2⟩ := wi_stamp (p + 2208988800) a.n x (by omega) hf.2.2.2.1 (by omega)
  have e1 : iadd .i64 (p + 2208988800) (iconv .i64 x) = p + 2208988800 + x := by
    rw [iconv_i64 (by omega), iadd_i64 (by omega)]
  have e2 : iadd .i64 p (iconv .i64 x) = p + x := by
    rw [iconv_i64 (by omega), iadd_i64 (by omega)]
  have hW : wordB p = be ((p + 2208988800) % 4294967296) 4 := if_pos ip2
  have hWe : wordE p = 0 := if_pos ip2
  have hWo : g_word_Of ((), (a.t, ())) = some ((be ((p + 2208988800) % 4294967296) 4, ()), ((), ((none, ()), ()))) := by
    have := word_put p ip
    rw [hW, hWe, errOf_zero] at this
    simp only [g_word_Of, f_word_Of_m, hPx, this, fitsS_dec, Option.bind_some, Option.isNone_none, Option.isNone_some, Option.isSome_none, Option.isSome_some, Bool.not_true, Bool.not_false, cond_true, cond_false, cond_dec, beq_int, bne_int, not_dec]
  have hwv := wordv_eq ((p + 2208988800) % 4294967296) 4 (by decide) (by omega) (by rw [show (256 : Int) ^ 4 = 4294967296 from rfl]; omega)
  have hNr := wi_word (be ((p + 2208988800) % 4294967296) 4) (length_be _ 4) (fun z hz => be_byte _ 4 z hz) (p + x) (by omega) p (by
    rw [hwv, show p + x + 2208988800 = p + 2208988800 + x by omega]
    exact near_self _ x (by omega)) (by omega) (by rw [hwv]; omega)
  simp only [Lab.t] at hLb hPx hWo
  simp only [w0, ew, Lab.t, hLb, hOf, hSh, hNe, hPo, hPx, hTo, hFp, s1, s2, e1, e2, hWo, hNr, fitsS_dec, Option.bind_some, Option.isNone_none, Option.isNone_some, Option.isSome_none, Option.isSome_some, Bool.not_true, Bool.not_false, cond_true, cond_false, cond_dec, beq_int, bne_int, not_dec]
  simp [c6, c6', hTo, hFp, s1, s2, e1, e2, hWo, hNr]
end Go.Proofs.YtddnfappkfiidaaGreat.Ev
