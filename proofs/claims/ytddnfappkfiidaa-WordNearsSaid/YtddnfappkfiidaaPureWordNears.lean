/- The law WordNears, plain. -/
import Derived.Test.YtddnfappkfiidaaPuWord
import Derived.Test.YtddnfappkfiidaaPuWordv
import Derived.Test.YtddnfappkfiidaaPuGetU32
import Derived.Test.YtddnfappkfiidaaPuLab3
import Derived.Test.YtddnfappkfiidaaPureIsoPuts
namespace Go.Proofs.Ytddnfappkfiidaa.Ev
open Go
set_option linter.unusedVariables false
set_option linter.unusedSimpArgs false
theorem wn_fold (p : Int) (hp : i64 p) : g_ref13_Fold ((), ((p, ()), ((32, ()), ()))) = some ((), ((p % 4294967296, ()), ())) := by
  have := ref13_fold p 32 (by decide) hp
  rw [show (2 : Int) ^ 32 = 4294967296 from rfl] at this; exact this
theorem wn_from (t : Int) (ht : i64 t) : g_stamp_FromPosix ((), ((t, ()), ())) = some ((), ((i64V (t + 2208988800), ()), ((errOf (i64E (t + 2208988800)), ()), ()))) := by
  simp only [g_stamp_FromPosix, f_stamp_FromPosix_m, num_add' t 2208988800 ht (by unfold i64; omega), Option.bind_some]
theorem wn_to (t : Int) (ht : i64 t) : g_stamp_ToPosix ((), ((t, ()), ())) = some ((), ((i64V (t - 2208988800), ()), ((errOf (i64E (t - 2208988800)), ()), ()))) := by
  simp only [g_stamp_ToPosix, f_stamp_ToPosix_m, num_sub' t 2208988800 ht (by unfold i64; omega), Option.bind_some]
theorem i64V_i64 (a : Int) : i64 (i64V a) := by
  unfold i64V
  by_cases c : i64 a
  · rw [if_pos c]; exact c
  · rw [if_neg c]; unfold i64; omega
theorem i64V_of {a : Int} (h : i64E a = 0) : i64V a = a := by
  unfold i64E at h
  by_cases c : i64 a
  · exact if_pos c
  · rw [if_neg c] at h; cases h
theorem i64V_bad {a : Int} (h : i64E a ≠ 0) : i64V a = 0 := by
  unfold i64E at h
  by_cases c : i64 a
  · rw [if_pos c] at h; exact absurd rfl h
  · exact if_neg c
theorem wn_parse (b : List Int) (hb : bytesL b) (hl : b.length ≤ 100) : g_word_Parse ((), ((b, ()), ())) = some ((), ((if b.length = 4 then wordv b 0 else 0, ()), ((if b.length = 4 then none else some 2, ()), ()))) := by
  have hg := get_u32 b hb (by omega) 0
  rw [if_neg (by omega)] at hg
  simp only [g_word_Parse, f_word_Parse_m]
  by_cases c : (b.length : Int) - 0 < 4
  · rw [if_pos c] at hg
    rw [hg, if_neg (by omega), if_neg (by omega)]
    simp only [fitsS_dec, Option.bind_some, Option.isNone_none, Option.isNone_some, Option.isSome_none, Option.isSome_some, Bool.not_true, Bool.not_false, cond_true, cond_false, cond_dec, beq_int, bne_int, not_dec]
  · rw [if_neg c] at hg
    rw [hg, size_u32]
    simp only [fitsS_dec, Option.bind_some, Option.isNone_none, Option.isNone_some, Option.isSome_none, Option.isSome_some, Bool.not_true, Bool.not_false, cond_true, cond_false, cond_dec, beq_int, bne_int, not_dec]
    by_cases h : b.length = 4
    · have hlt := wordv_lt hb (by omega)
      rw [h, show (256 : Int) ^ 4 = 4294967296 from rfl] at hlt
      rw [if_neg (by omega), if_pos h, if_pos h, show (0 : Int).toNat = 0 from rfl, List.drop_zero, List.take_of_length_le (by omega), iconv_u32, Int.emod_eq_of_lt hlt.1 hlt.2]
    · rw [if_pos (by omega), if_neg h, if_neg h]
theorem near_both (b : List Int) (p : Int) (hb : bytesL b) (hl : b.length ≤ 100) (hp : i64 p) : ∃ v e : Int, i64 v ∧ g_word_Near ((), ((b, ()), ((p, ()), ()))) = some ((), ((v, ()), ((errOf e, ()), ()))) ∧
    g_ref27_Near ((), ((b, ()), ((p, ()), ()))) = some ((), ((v, ()), ((e, ()), ()))) := by
  have hz : i64 0 := by unfold i64; omega
  simp only [g_word_Near, f_word_Near_m, g_ref27_Near, f_ref27_Near_m, wn_parse b hb hl, fitsS_dec, Option.bind_some, Option.isNone_none, Option.isNone_some, Option.isSome_none, Option.isSome_some, Bool.not_true, Bool.not_false, cond_true, cond_false, cond_dec, beq_int, bne_int, not_dec]
  by_cases h : b.length = 4
  · have h4 : ((b.length : Int) = 4) := by omega
    have hlt := wordv_lt hb (by omega)
    rw [h, show (256 : Int) ^ 4 = 4294967296 from rfl] at hlt
    have ha : g_ref15_Ahead ((), ((p, ()), ())) = some ((), ((i64V (p + 2208988800), ()), ((i64E (p + 2208988800), ()), ()))) := ref15_ahead p hp
    simp only [h, h4, if_true, Option.isNone_none, not_true_eq_false, if_false, wn_from p hp, ha, ref03_value b hb (by omega), Option.bind_some, errOf_none, ne_eq, fitsS_dec, Option.bind_some, Option.isNone_none, Option.isNone_some, Option.isSome_none, Option.isSome_some, Bool.not_true, Bool.not_false, cond_true, cond_false, cond_dec, beq_int, bne_int, not_dec]
    by_cases e1 : i64E (p + 2208988800) = 0
    · have hi := i64V_i64 (p + 2208988800)
      simp only [e1, decide_true, not_true_eq_false, if_false, era_unfold _ _ hlt.1 hlt.2 hi, ref13_bits32 wn_fold _ _ hlt.1 hlt.2 hi, Option.bind_some, errOf_none, fitsS_dec, Option.bind_some, Option.isNone_none, Option.isNone_some, Option.isSome_none, Option.isSome_some, Bool.not_true, Bool.not_false, cond_true, cond_false, cond_dec, beq_int, bne_int, not_dec]
      generalize nearV (wordv b 0) (i64V (p + 2208988800)) = t
      by_cases e2 : i64E t = 0
      · have ht := i64V_i64 t
        simp only [e2, decide_true, not_true_eq_false, if_false, wn_to _ ht, ref15_back _ ht, Option.bind_some]
        exact ⟨_, _, i64V_i64 _, rfl, rfl⟩
      · simp only [e2, not_false_eq_true, if_true]
        exact ⟨_, _, hz, rfl, rfl⟩
    · simp only [e1, not_false_eq_true, if_true]
      exact ⟨_, _, hz, rfl, rfl⟩
  · have h4 : ¬ ((b.length : Int) = 4) := by omega
    simp only [h, h4, if_false, Option.isNone_some, not_false_eq_true, if_true, ne_eq, Bool.false_eq_true, fitsS_dec, Option.bind_some, Option.isNone_none, Option.isNone_some, Option.isSome_none, Option.isSome_some, Bool.not_true, Bool.not_false, cond_true, cond_false, cond_dec, beq_int, bne_int, not_dec]
    exact ⟨0, 2, hz, rfl, rfl⟩
theorem posix_split (p : Int) (hp : -9223372036854775808 ≤ p ∧ p ≤ 9223372036854775807) : g_num_Split ((), ((p, ()), ((86400, ()), ()))) = some ((), ((p / 86400, ()), ((p % 86400, ()), ((none, ()), ())))) := by
  by_cases c : p = -9223372036854775808
  · subst c; rfl
  · exact num_split p 86400 (by decide) (by decide) (by omega)
theorem from_both2 (p n o : Int) (hp : -9223372036854775808 ≤ p ∧ p ≤ 9223372036854775807) : ∃ (a : Lab) (e : Int), g_scale_FromPosix ((), ((p, ()), ((n, ()), ((o, ()), ())))) = some ((), (a.t, ((errOf e, ()), ()))) ∧
    g_ref12_FromPosix ((), ((p, ()), ((n, ()), ((o, ()), ())))) = some ((), (a.t, ((e, ()), ()))) ∧ (e = 0 → labErr a = 0) := by
  obtain ⟨a, h1, h2, _, h4⟩ := of_both (p / 86400) (p % 86400) n o
  refine ⟨a, ofErr (p / 86400) (p % 86400) n o, ?_, ?_, fun h => ?_⟩
  · simp only [g_scale_FromPosix, f_scale_FromPosix_m, posix_split p hp, h1, Lab.t, fitsS_dec, Option.bind_some, Option.isNone_none, Option.isNone_some, Option.isSome_none, Option.isSome_some, Bool.not_true, Bool.not_false, cond_true, cond_false, cond_dec, beq_int, bne_int, not_dec]
  · have h3 : ∀ x y : Int, x = p / 86400 → y = p % 86400 → g_ref08_Of ((), ((x, ()), ((y, ()), ((n, ()), ((o, ()), ()))))) = some ((), (a.t, ((ofErr (p / 86400) (p % 86400) n o, ()), ()))) := fun x y e1 e2 => by rw [e1, e2]; exact h2
    simp only [g_ref12_FromPosix, f_ref12_FromPosix_m, fitsS_dec, Option.bind_some, Option.isNone_none, Option.isNone_some, Option.isSome_none, Option.isSome_some, Bool.not_true, Bool.not_false, cond_true, cond_false, cond_dec, beq_int, bne_int, not_dec]
    rw [iquo_pos (by decide) hp, tmod_pos 86400 (by decide)]
    by_cases c : 0 ≤ p
    · rw [if_pos c, if_pos c, if_neg (by omega), h3 _ _ rfl rfl]
      simp only [Lab.t, Option.bind_some]
    · rw [if_neg c, if_neg c]
      by_cases d : -(-p % 86400) < 0
      · rw [if_pos d, h3 _ _ (by rw [isub_i64 (by omega)]; omega) (by rw [iadd_i64 (by omega)]; omega)]
        simp only [Lab.t, Option.bind_some]
      · rw [if_neg d, h3 _ _ (by omega) (by omega)]
        simp only [Lab.t, Option.bind_some]
  · obtain ⟨y, m, d, rfl, hd⟩ := h4 h
    exact (split_of h hd).1
theorem wn_label (b : List Int) (p : Int) (hb : bytesL b) (hl : b.length ≤ 100) (hp : i64 p) : ∃ (a : Lab) (e : Int), g_word_Label ((), ((b, ()), ((p, ()), ()))) = some ((), (a.t, ((errOf e, ()), ()))) ∧
    g_ref27_Label ((), ((b, ()), ((p, ()), ()))) = some ((), (a.t, ((e, ()), ()))) ∧ (e = 0 → labErr a = 0) := by
  obtain ⟨v, e, hv, h1, h2⟩ := near_both b p hb hl hp
  simp only [g_word_Label, f_word_Label_m, g_ref27_Label, f_ref27_Label_m, h1, h2, Option.bind_some, errOf_none, fitsS_dec, Option.bind_some, Option.isNone_none, Option.isNone_some, Option.isSome_none, Option.isSome_some, Bool.not_true, Bool.not_false, cond_true, cond_false, cond_dec, beq_int, bne_int, not_dec]
  by_cases c : e = 0
  · obtain ⟨a, e2, q1, q2, q3⟩ := from_both2 v 0 0 hv
    simp only [Lab.t] at q1 q2
    simp only [c, decide_true, not_true_eq_false, if_false, q1, q2, Option.bind_some, ne_eq]
    exact ⟨a, e2, rfl, rfl, q3⟩
  · simp only [c, not_false_eq_true, if_true, ne_eq]
    exact ⟨⟨0, 0, 0, 0, 0, 0, 0, 0⟩, e, rfl, rfl, fun h => absurd h c⟩
theorem wn_text (b : List Int) (p : Int) (hb : bytesL b) (hl : b.length ≤ 100) (hp : i64 p) : ∃ (t : ByteArray) (e : Int), g_word_Text ((), ((b, ()), ((p, ()), ()))) = some ((), ((t, ()), ((errOf e, ()), ()))) ∧
    g_ref27_Text ((), ((b, ()), ((p, ()), ()))) = some ((), ((t, ()), ((e, ()), ()))) := by
  obtain ⟨a, e, h1, h2, h3⟩ := wn_label b p hb hl hp
  simp only [Lab.t] at h1 h2
  simp only [g_word_Text, f_word_Text_m, g_ref27_Text, f_ref27_Text_m, h1, h2, Option.bind_some, errOf_none, sc_nil, fitsS_dec, Option.bind_some, Option.isNone_none, Option.isNone_some, Option.isSome_none, Option.isSome_some, Bool.not_true, Bool.not_false, cond_true, cond_false, cond_dec, beq_int, bne_int, not_dec]
  by_cases c : e = 0
  · have hg := h3 c
    have hn : inNano a.n := (lab_facts hg).2.2.2.2.2.1
    simp only [c, decide_true, not_true_eq_false, if_false, ne_eq]
    by_cases hy : a.y < 0
    · have hr : putI a 0 = 13 := by
        have : rgtE a = 13 := by unfold rgtE; rw [if_neg (not_not_intro hg), if_pos hy]
        unfold putI; rw [this, if_pos (by decide)]
      have hput := iso_put_bad (l := a) (m := 0) (by rw [hr]; decide)
      rw [hr] at hput
      simp only [Lab.t] at hput
      simp only [hput, Option.bind_some]
      rw [if_pos hy]
      exact ⟨_, 13, rfl, rfl⟩
    · have hr : putI a 0 = 0 := by
        unfold putI; rw [if_neg (not_not_intro (rgtE_zero hg (by omega))), if_pos ⟨hn, by omega, by omega⟩]
      have hput := iso_put hr
      have href := ref24_put hg (by omega) 0 (by omega)
      simp only [Lab.t, show ((0 : Nat) : Int) = 0 from rfl] at hput href
      simp only [hput, href, Option.bind_some]
      rw [if_neg hy]
      exact ⟨_, 0, rfl, rfl⟩
  · simp only [c, not_false_eq_true, if_true, ne_eq]
    exact ⟨_, e, rfl, rfl⟩
theorem word_nears (b : List Int) (p : Int) (hb : bytesL b) (hp : -9223372036854775808 ≤ p ∧ p ≤ 9223372036854775807) : g_law27_WordNears ((), ((b, ()), ((p, ()), ()))) = some ((), ((true, ()), ())) := by
  simp only [g_law27_WordNears, f_law27_WordNears_m, word_alive, fitsS_dec, Option.bind_some, Option.isNone_none, Option.isNone_some, Option.isSome_none, Option.isSome_some, Bool.not_true, Bool.not_false, cond_true, cond_false, cond_dec, beq_int, bne_int, not_dec, not_true_eq_false, if_false, gt_iff_lt, List.nil_append, List.length_nil, Nat.zero_add, and_dec]
  by_cases c : 100 < (b.length : Int)
  · rw [if_pos c]
  rw [if_neg c, if_pos (by omega)]
  obtain ⟨v, e, hv, n1, n2⟩ := near_both b p hb (by omega) hp
  obtain ⟨a, e2, l1, l2, _⟩ := wn_label b p hb (by omega) hp
  obtain ⟨t, e3, t1, t2⟩ := wn_text b p hb (by omega) hp
  simp only [Lab.t] at l1 l2
  have hi : g_hnum_Is ((), ((some 2, ()), ((2, ()), ()))) = some ((), ((true, ()), ())) := rfl
  simp only [wn_parse b hb (by omega), n1, n2, l1, l2, t1, t2, document, num_num, bytes_same, ref03_value b hb (by omega), fitsS_dec, Option.bind_some, Option.isNone_none, Option.isNone_some, Option.isSome_none, Option.isSome_some, Bool.not_true, Bool.not_false, cond_true, cond_false, cond_dec, beq_int, bne_int, not_dec]
  by_cases h : b.length = 4
  · have h4 : ((b.length : Int) = 4) := by omega
    have hlt := wordv_lt hb (by omega)
    rw [h, show (256 : Int) ^ 4 = 4294967296 from rfl] at hlt
    simp only [h, h4, if_true, Option.isNone_none, not_true_eq_false, if_false, ne_eq, iconv_u64]
    rw [Int.emod_eq_of_lt (a := wordv b 0) hlt.1 (by omega)]
    simp
  · have h4 : ¬ ((b.length : Int) = 4) := by omega
    simp only [h, h4, if_false, not_false_eq_true, if_true, ne_eq, hi, Bool.not_true, cond_false, not_true_eq_false]
    simp
end Go.Proofs.Ytddnfappkfiidaa.Ev
