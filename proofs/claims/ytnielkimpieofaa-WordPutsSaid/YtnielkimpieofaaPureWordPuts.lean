/- The law WordPuts, plain. -/
import Derived.Test.YtnielkimpieofaaPuLab
import Derived.Test.YtnielkimpieofaaPuBig
import Derived.Test.YtnielkimpieofaaPuPutU32
import Derived.Test.YtnielkimpieofaaPuNum
namespace Go.Proofs.Ytnielkimpieofaa.Ev
open Go
set_option linter.unusedVariables false
set_option linter.unusedSimpArgs false
theorem begin_1900 : g_ref15_Begin ((), ()) = some ((), ((2208988800, ()), ())) := by
  simp only [g_ref15_Begin, f_ref15_Begin_m, ref05_of 1900 1 1 (by omega) (by omega) (by omega)]; kernel_rfl
theorem ref15_ahead (p : Int) (h : i64 p) : g_ref15_Ahead ((), ((p, ()), ())) = some ((), ((if i64 (p + 2208988800) then p + 2208988800 else 0, ()), ((if i64 (p + 2208988800) then 0 else 5, ()), ()))) := by
  have h1 := big_plus p 2208988800 (sm_of (by omega)) (sm_of (by omega))
  have h2 := big_small (p + 2208988800) (sm_of (by omega))
  simp only [big] at h1 h2
  simp only [g_ref15_Ahead, f_ref15_Ahead_m, begin_1900, big_of p h, big_of 2208988800 (by omega), Option.bind_some, h1, h2]
theorem fold_p4 (t : Int) (bits : Nat) (hb : bits ≤ 62) (ht : i64 t) : ∀ (k i : Nat), i + k = bits → Evn (fun j => (f_ref13_Fold_t j).1 ((), ((t, ()), (((bits : Int), ()), (((2 : Int) ^ i, ()), (((i : Int), ()), ())))))) ((), ((t % 2 ^ bits, ()), ())) := by
  intro k; induction k with
  | zero =>
    intro i h
    obtain rfl : i = bits := by omega
    have hp : (0 : Int) < 2 ^ i := Int.pow_pos (by decide)
    have hp2 : (2 : Int) ^ i ≤ 2 ^ 62 := by exact_mod_cast Nat.pow_le_pow_right (by decide) hb
    refine Evn.some 1 fun j => ?_
    simp only [t_ref13_Fold, f_ref13_Fold_p4, Option.bind_some, Option.isNone_none, Option.isNone_some, Option.isSome_none, Option.isSome_some, Bool.not_true, Bool.not_false, cond_true, cond_false, cond_dec, beq_int, bne_int, not_dec]
    rw [if_neg (by omega), if_neg (by omega), tmod_pos _ hp]
    have hm : 0 ≤ t % 2 ^ i := Int.emod_nonneg _ (by omega)
    have hn : 0 ≤ (-t) % 2 ^ i := Int.emod_nonneg _ (by omega)
    have l1 := Int.emod_lt_of_pos t hp
    have l2 := Int.emod_lt_of_pos (-t) hp
    by_cases h0 : 0 ≤ t
    · rw [if_pos h0, if_neg (by omega)]
    · rw [if_neg h0]
      have e2 := Int.mul_ediv_add_emod (-t) (2 ^ i)
      generalize (2 : Int) ^ i = p at *
      by_cases h1 : -(-t % p) < 0
      · rw [if_pos h1, iadd_i64 (by omega)]
        have : t % p = -(-t % p) + p := ((Int.ediv_emod_unique (q := -(-t / p) - 1) hp).2 ⟨by rw [Int.mul_sub, Int.mul_neg]; omega, by omega, by omega⟩).2
        rw [this]
      · rw [if_neg h1]
        have : t % p = -(-t % p) := ((Int.ediv_emod_unique (q := -(-t / p)) hp).2 ⟨by rw [Int.mul_neg]; omega, by omega, by omega⟩).2
        rw [this]
  | succ k ih =>
    intro i h
    have hp : (0 : Int) < 2 ^ i := Int.pow_pos (by decide)
    have hp2 : (2 : Int) ^ i ≤ 2 ^ 61 := by exact_mod_cast Nat.pow_le_pow_right (by decide) (by omega)
    refine (ih (i + 1) (by omega)).step fun j => ?_
    simp only [t_ref13_Fold, f_ref13_Fold_p4, Option.bind_some, Option.isNone_none, Option.isNone_some, Option.isSome_none, Option.isSome_some, Bool.not_true, Bool.not_false, cond_true, cond_false, cond_dec, beq_int, bne_int, not_dec]
    rw [if_pos (by omega), imul_i64 (by omega), iadd_i64 (by omega), Int.pow_succ]; rfl
theorem ref13_fold (t : Int) (bits : Nat) (hb : bits ≤ 62) (ht : i64 t) : g_ref13_Fold ((), ((t, ()), (((bits : Int), ()), ()))) = some ((), ((t % 2 ^ bits, ()), ())) := by
  refine ((fold_p4 t bits hb ht bits 0 (by omega)).cast fun k => ?_).lim
  simp only [f_ref13_Fold_m]; rfl
theorem be_snoc (x : Int) : ∀ (n : Nat), be x (n + 1) = be (x / 256) n ++ [x % 256]
  | 0 => by simp [be]
  | n + 1 => by
    have e : x / 256 / 256 ^ n = x / 256 ^ (n + 1) := by rw [Int.ediv_ediv_of_nonneg (by decide), Int.pow_succ, Int.mul_comm]
    rw [be, be_snoc x n, be, e]; rfl
theorem number_p4 : ∀ (n : Nat) (out : List Int) (x : Int), n ≤ out.length → out.length ≤ 1000 → 0 ≤ x ∧ x < 18446744073709551616 →
    Evn (fun j => (f_ref03_Number_t j).1 ((out, ()), ((x, ()), ((), ((((n : Int) - 1), ()), ()))))) ((be x n ++ out.drop n, ()), ((), ())) := by
  intro n; induction n with
  | zero =>
    intro out x h1 h2 h3
    refine Evn.some 1 fun j => ?_
    simp only [t_ref03_Number, f_ref03_Number_p4, Option.bind_some, Option.isNone_none, Option.isNone_some, Option.isSome_none, Option.isSome_some, Bool.not_true, Bool.not_false, cond_true, cond_false, cond_dec, beq_int, bne_int, not_dec, ge_iff_le]
    rw [if_neg (by omega)]; rfl
  | succ n ih =>
    intro out x h1 h2 h3
    have := ih (out.set n (x % 256)) (x / 256) (by simp; omega) (by simp; omega) (by omega)
    have e : (out.set n (x % 256)).drop n = (x % 256) :: out.drop (n + 1) := by
      rw [List.drop_eq_getElem_cons (by simp; omega)]
      simp only [List.getElem_set_self]
      rw [List.drop_set_of_lt (by omega)]
    rw [e, List.append_cons, ← be_snoc] at this
    refine this.step fun j => ?_
    have e1 : ((n + 1 : Nat) : Int) - 1 = (n : Int) := by omega
    rw [e1]
    simp only [t_ref03_Number, f_ref03_Number_p4, Option.bind_some, Option.isNone_none, Option.isNone_some, Option.isSome_none, Option.isSome_some, Bool.not_true, Bool.not_false, cond_true, cond_false, cond_dec, beq_int, bne_int, not_dec, ge_iff_le, and_dec]
    have e2 : iquo .u64 x 256 = x / 256 := by unfold iquo; rw [Int.tdiv_eq_ediv_of_nonneg h3.1, wrap_u64]; omega
    rw [if_pos (by omega), if_pos (by omega), tmod_nn h3.1, iconv_u8, e2, isub_i64 (by omega), show x % 256 % 256 = x % 256 by omega, Int.toNat_natCast]
theorem ref03_number (x : Int) (n : Nat) (h : 0 ≤ x ∧ x < 18446744073709551616) (hn : n ≤ 100) : g_ref03_Number ((), ((x, ()), (((n : Int), ()), ()))) = some ((be x n, ()), ((), ())) := by
  have := number_p4 n (List.replicate n 0) x (by simp) (by simp; omega) h
  rw [List.drop_eq_nil_of_le (by simp), List.append_nil] at this
  refine (this.cast fun k => ?_).lim
  simp only [f_ref03_Number_m, Option.bind_some, Option.isNone_none, Option.isNone_some, Option.isSome_none, Option.isSome_some, Bool.not_true, Bool.not_false, cond_true, cond_false, cond_dec, beq_int, bne_int, not_dec, and_dec]
  rw [if_pos (by omega), isub_i64 (by omega), Int.toNat_natCast]
def wordB (p : Int) : List Int := if i64 (p + 2208988800) then be ((p + 2208988800) % 4294967296) 4 else []
def wordE (p : Int) : Int := if i64 (p + 2208988800) then 0 else 5
theorem ref27_put (p : Int) (h : i64 p) : g_ref27_Put ((), ((p, ()), ())) = some ((wordB p, ()), ((), ((wordE p, ()), ()))) := by
  simp only [g_ref27_Put, f_ref27_Put_m, ref15_ahead p h, Option.bind_some, Option.isNone_none, Option.isNone_some, Option.isSome_none, Option.isSome_some, Bool.not_true, Bool.not_false, cond_true, cond_false, cond_dec, beq_int, bne_int, not_dec, wordB, wordE]
  by_cases c : i64 (p + 2208988800)
  · simp only [if_pos c, ne_eq, not_true_eq_false, if_false]
    have e := ref13_fold (p + 2208988800) 32 (by omega) c
    rw [show (((32 : Nat) : Int)) = 32 from rfl] at e
    rw [e]
    simp only [Option.bind_some]
    rw [iconv_u64]
    have e2 := ref03_number ((p + 2208988800) % 2 ^ 32 % 18446744073709551616) 4 (by omega) (by omega)
    rw [show (((4 : Nat) : Int)) = 4 from rfl] at e2
    rw [e2]
    simp only [Option.bind_some]
    rw [show (p + 2208988800) % 2 ^ 32 % 18446744073709551616 = (p + 2208988800) % 4294967296 by omega]
  · simp only [if_neg c, ne_eq]; rfl
theorem word_put (p : Int) (h : i64 p) : g_word_Put ((), ((p, ()), ())) = some ((wordB p, ()), ((), ((errOf (wordE p), ()), ()))) := by
  simp only [g_word_Put, f_word_Put_m, g_stamp_FromPosix, f_stamp_FromPosix_m, num_add p 2208988800 h (by omega), Option.bind_some, Option.isNone_none, Option.isNone_some, Option.isSome_none, Option.isSome_some, Bool.not_true, Bool.not_false, cond_true, cond_false, cond_dec, beq_int, bne_int, not_dec, wordB, wordE]
  by_cases c : i64 (p + 2208988800)
  · simp only [if_pos c, Option.bind_some, Option.isNone_none, Option.isNone_some, Option.isSome_none, Option.isSome_some, Bool.not_true, Bool.not_false, cond_true, cond_false, cond_dec, beq_int, bne_int, not_dec, g_era_Fold_u32, f_era_Fold_u32_m, iconv_u32, errOf_zero]
    rw [put_u32 [] _ (by intro w hw; simp only [List.mem_singleton] at hw; subst hw; omega) (by simp)]
    simp
  · simp only [if_neg c, Option.bind_some, Option.isNone_none, Option.isNone_some, Option.isSome_none, Option.isSome_some, Bool.not_true, Bool.not_false, cond_true, cond_false, cond_dec, beq_int, bne_int, not_dec]; rfl
theorem word_alive : g_law27_alive ((), ()) = some ((), ((true, ()), ())) := by
  simp only [g_law27_alive, f_law27_alive_m, word_put 0 (by omega), Option.bind_some, Option.isNone_none, Option.isNone_some, Option.isSome_none, Option.isSome_some, Bool.not_true, Bool.not_false, cond_true, cond_false, cond_dec, beq_int, bne_int, not_dec]
  kernel_rfl
theorem posix_range {l : Lab} (h : labErr l = 0) : (-377705116800 ≤ labN l * 86400 + labS l ∧ labN l * 86400 + labS l ≤ 253402300800) ∧ 0 ≤ labS l ∧ labS l ≤ 86400 := by
  obtain ⟨h0, h1, h2, h3⟩ := labErr_zero h
  have hf := fErr_zero.1 h1
  have : 0 ≤ labS l ∧ labS l ≤ 86400 := by
    unfold labS
    by_cases c : l.s = 60
    · have := h3 c; omega
    · omega
  unfold there at h2
  omega
theorem scale_posix (l : Lab) : g_scale_Posix ((), (l.t, ())) = some ((), ((if labErr l = 0 then labN l * 86400 + labS l else 0, ()), ((errOf (labErr l), ()), ()))) := by
  have h1 := label_split l
  simp only [Lab.t] at h1
  simp only [g_scale_Posix, f_scale_Posix_m, Lab.t, h1, Option.bind_some, Option.isNone_none, Option.isNone_some, Option.isSome_none, Option.isSome_some, Bool.not_true, Bool.not_false, cond_true, cond_false, cond_dec, beq_int, bne_int, not_dec, errOf_none]
  by_cases h : labErr l = 0
  · have hr := posix_range h
    have hn := (labErr_zero h).2.2.1
    unfold there at hn
    simp only [h, not_true_eq_false, if_false, if_true, errOf_zero]
    rw [imul_i64 (by omega), iadd_i64 (by omega)]
  · simp only [h, not_false_eq_true, if_true, if_false]
theorem ref12_posix (l : Lab) : g_ref12_Posix ((), (l.t, ())) = some ((), ((if labErr l = 0 then labN l * 86400 + labS l else 0, ()), ((labErr l, ()), ()))) := by
  have h1 := ref08_split l
  simp only [Lab.t] at h1
  simp only [g_ref12_Posix, f_ref12_Posix_m, Lab.t, h1, Option.bind_some, Option.isNone_none, Option.isNone_some, Option.isSome_none, Option.isSome_some, Bool.not_true, Bool.not_false, cond_true, cond_false, cond_dec, beq_int, bne_int, not_dec]
  by_cases h : labErr l = 0
  · have hr := posix_range h
    have hn := (labErr_zero h).2.2.1
    unfold there at hn
    simp only [h, ne_eq, not_true_eq_false, if_false, if_true]
    rw [imul_i64 (by omega), iadd_i64 (by omega)]
  · simp only [h, ne_eq, not_false_eq_true, if_true, if_false]
theorem word_puts (p : Int) (l : Lab) (h : i64 p) : g_law27_WordPuts ((), ((p, ()), (l.t, ()))) = some ((), ((true, ()), ())) := by
  have h1 := scale_posix l
  have h2 := ref12_posix l
  simp only [Lab.t] at h1 h2
  simp only [g_law27_WordPuts, f_law27_WordPuts_m, word_alive, word_put p h, ref27_put p h, bytes_same, num_num, document, Lab.t, g_word_Of, f_word_Of_m, h1, h2, Option.bind_some, Option.isNone_none, Option.isNone_some, Option.isSome_none, Option.isSome_some, Bool.not_true, Bool.not_false, cond_true, cond_false, cond_dec, beq_int, bne_int, not_dec, errOf_none, ne_eq, not_true_eq_false, if_false]
  by_cases c : labErr l = 0
  · have hr := (posix_range c).1
    have hi : i64 (labN l * 86400 + labS l) := by omega
    simp only [c, if_true, not_true_eq_false, if_false, word_put _ hi, ref27_put _ hi, Option.bind_some, bytes_same, cond_true, num_num, decide_true]
  · simp only [c, if_false, not_false_eq_true, if_true, Option.bind_some, bytes_same, cond_true, num_num, decide_true]
end Go.Proofs.Ytnielkimpieofaa.Ev
