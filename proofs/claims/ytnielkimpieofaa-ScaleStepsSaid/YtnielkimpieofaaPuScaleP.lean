/- Scales: the day and second of atomic seconds, by the program and by its reference. -/
import Derived.Test.YtnielkimpieofaaPuScale
namespace Go.Proofs.Ytnielkimpieofaa.Ev
open Go
set_option linter.unusedVariables false
set_option linter.unusedSimpArgs false
theorem GoodT.step {l : List (Int × Int)} (h : GoodT l) : ∀ (j i : Nat), i + j < l.length → (gd_i64_i64 l i).1 + j ≤ (gd_i64_i64 l ((i + j : Nat) : Int)).1 ∧
    -(j : Int) ≤ (gd_i64_i64 l ((i + j : Nat) : Int)).2 - (gd_i64_i64 l i).2 ∧ (gd_i64_i64 l ((i + j : Nat) : Int)).2 - (gd_i64_i64 l i).2 ≤ j := by
  intro j; induction j with
  | zero => intro i _; rw [show i + 0 = i from rfl]; omega
  | succ j ih =>
    intro i hi
    have := ih i (by omega)
    have := h.rise (i + j) (by omega)
    unfold foll at this
    rw [show i + (j + 1) = i + j + 1 by omega]; omega
/-- A day and its second stand for these atomic seconds. -/
def At (l : List (Int × Int)) (n s t : Int) : Prop := ∃ k : Nat, Cnt l n k ∧ k ≠ 0 ∧ 0 ≤ s ∧ s < 86400 + leapV l n k ∧ t = secVal l n s k
theorem at_lt {l : List (Int × Int)} (h : GoodT l) {n s t n' s' t' : Int} (a : At l n s t) (b : At l n' s' t') (hn : n < n') : t < t' := by
  obtain ⟨k, hk, k0, s0, s1, e⟩ := a
  obtain ⟨k', hk', k0', s0', s1', e'⟩ := b
  have hr := leapV_range h n k
  have hkl := hk.le; have hkl' := hk'.le
  have hle : k ≤ k' := by
    by_cases q : k' < k
    · have := hk.lo k' q; have := hk'.hi k' (Nat.le_refl _) (by omega); omega
    · omega
  unfold secVal at e e'
  by_cases c : k = k'
  · subst c
    have : leapV l n k ≤ 0 := by
      unfold leapV
      split
      · rename_i q
        have := hk'.hi k (Nat.le_refl _) q.1
        omega
      · omega
    omega
  · have hs := h.step (k' - k) (k - 1) (by omega)
    rw [show ((k - 1 : Nat) : Int) = (k : Int) - 1 by omega, show ((k - 1 + (k' - k) : Nat) : Int) = (k' : Int) - 1 by omega] at hs
    have hs2 := h.step (k' - 1 - k) k (by omega)
    rw [show ((k + (k' - 1 - k) : Nat) : Int) = ((k' - 1 : Nat) : Int) by omega] at hs2
    have h1 := hk.hi k (Nat.le_refl _) (by omega)
    have h2 := hk'.lo (k' - 1) (by omega)
    by_cases d : n' = n + 1
    · have : k' = k + 1 := by omega
      subst this
      rw [show (((k + 1 : Nat) : Int) - 1) = (k : Int) by omega] at *
      have : leapV l n k = (gd_i64_i64 l k).2 - (gd_i64_i64 l ((k : Int) - 1)).2 := by
        unfold leapV; rw [if_pos ⟨by omega, by
          rw [show (k + 1 - 1 : Nat) = k from rfl] at h2; omega, k0⟩]
      omega
    · omega
theorem at_lt2 {l : List (Int × Int)} {n s t s' t' : Int} (a : At l n s t) (b : At l n s' t') (hs : s < s') : t < t' := by
  obtain ⟨k, hk, k0, s0, s1, e⟩ := a
  obtain ⟨k', hk', k0', s0', s1', e'⟩ := b
  obtain rfl := cnt_unique hk hk'
  unfold secVal at e e'; omega
theorem at_unique {l : List (Int × Int)} (h : GoodT l) {n s n' s' t : Int} (a : At l n s t) (b : At l n' s' t) : n = n' ∧ s = s' := by
  rcases Int.lt_trichotomy n n' with c | c | c
  · have := at_lt h a b c; omega
  · subst c
    rcases Int.lt_trichotomy s s' with d | d | d
    · have := at_lt2 a b d; omega
    · exact ⟨rfl, d⟩
    · have := at_lt2 b a d; omega
  · have := at_lt h b a c; omega
def beg (l : List (Int × Int)) (i : Int) : Int := (gd_i64_i64 l i).1 * 86400 + (gd_i64_i64 l i).2
/-- How many rows begin at these atomic seconds or before. -/
structure Beg (l : List (Int × Int)) (t : Int) (i : Nat) : Prop where
  le : i ≤ l.length
  lo : ∀ j : Nat, j < i → beg l j ≤ t
  hi : ∀ j : Nat, i ≤ j → j < l.length → t < beg l j
theorem GoodT.beg_lt {l : List (Int × Int)} (h : GoodT l) {i j : Nat} (hij : i < j) (hj : j < l.length) : beg l i < beg l j := by
  have := h.step (j - i) i (by omega)
  rw [show i + (j - i) = j by omega] at this
  unfold beg; omega
/-- What stands for them. -/
theorem at_of {l : List (Int × Int)} (h : GoodT l) {t : Int} {i : Nat} (hb : Beg l t i) (i0 : i ≠ 0) :
    (i < l.length ∧ (t - (gd_i64_i64 l ((i : Int) - 1)).2) / 86400 = (gd_i64_i64 l i).1 → At l ((t - (gd_i64_i64 l ((i : Int) - 1)).2) / 86400 - 1) (86400 + (t - (gd_i64_i64 l ((i : Int) - 1)).2) % 86400) t) ∧
    (¬(i < l.length ∧ (t - (gd_i64_i64 l ((i : Int) - 1)).2) / 86400 = (gd_i64_i64 l i).1) → At l ((t - (gd_i64_i64 l ((i : Int) - 1)).2) / 86400) ((t - (gd_i64_i64 l ((i : Int) - 1)).2) % 86400) t) := by
  have hle := hb.le
  have h1 := hb.lo (i - 1) (by omega)
  unfold beg at h1
  rw [show ((i - 1 : Nat) : Int) = (i : Int) - 1 by omega] at h1
  have hbel : ∀ j : Nat, j < i → (gd_i64_i64 l j).1 ≤ (gd_i64_i64 l ((i : Int) - 1)).1 := fun j hj => by
    by_cases e : j = i - 1
    · subst e; rw [show ((i - 1 : Nat) : Int) = (i : Int) - 1 by omega]; exact Int.le_refl _
    · have := h.lt (i := j) (j := i - 1) (by omega) (by omega)
      rw [show ((i - 1 : Nat) : Int) = (i : Int) - 1 by omega] at this; omega
  constructor
  · rintro ⟨hi, e⟩
    have h2 := hb.hi i (Nat.le_refl _) hi
    have h3 := h.rise (i - 1) (by omega)
    unfold foll at h3
    rw [show ((i - 1 : Nat) : Int) = (i : Int) - 1 by omega, show ((i - 1 + 1 : Nat) : Int) = (i : Int) by omega] at h3
    unfold beg at h2
    have hab : ∀ j : Nat, i ≤ j → j < l.length → (gd_i64_i64 l i).1 ≤ (gd_i64_i64 l j).1 := fun j h4 h5 => by
      by_cases e : j = i
      · subst e; exact Int.le_refl _
      · have := h.lt (i := i) (j := j) (by omega) h5; omega
    refine ⟨i, ⟨hle, fun j hj => ?_, fun j h4 h5 => ?_⟩, i0, by omega, ?_, ?_⟩
    · have := hbel j hj; omega
    · have := hab j h4 h5; omega
    · unfold leapV; rw [if_pos ⟨hi, by omega, i0⟩]; omega
    · unfold secVal; omega
  · intro hn
    have hx : ∀ j : Nat, i ≤ j → j < l.length → (t - (gd_i64_i64 l ((i : Int) - 1)).2) / 86400 < (gd_i64_i64 l j).1 := fun j h4 h5 => by
      have h2 := hb.hi i (Nat.le_refl _) (by omega)
      have h3 := h.rise (i - 1) (by omega)
      unfold foll at h3
      rw [show ((i - 1 : Nat) : Int) = (i : Int) - 1 by omega, show ((i - 1 + 1 : Nat) : Int) = (i : Int) by omega] at h3
      unfold beg at h2
      have h6 : (t - (gd_i64_i64 l ((i : Int) - 1)).2) / 86400 ≠ (gd_i64_i64 l i).1 := fun e => hn ⟨by omega, e⟩
      by_cases e : j = i
      · subst e; omega
      · have := h.lt (i := i) (j := j) (by omega) h5; omega
    refine ⟨i, ⟨hle, fun j hj => ?_, hx⟩, i0, by omega, ?_, ?_⟩
    · have := hbel j hj; omega
    · unfold leapV
      split
      · rename_i q
        have h2 := hb.hi i (Nat.le_refl _) (by omega)
        have h3 := h.rise (i - 1) (by omega)
        unfold foll at h3
        rw [show ((i - 1 : Nat) : Int) = (i : Int) - 1 by omega, show ((i - 1 + 1 : Nat) : Int) = (i : Int) by omega] at h3
        unfold beg at h2; omega
      · omega
    · unfold secVal; omega
theorem beg_ex {l : List (Int × Int)} (h : GoodT l) (t : Int) : ∀ m : Nat, m ≤ l.length → (∀ j : Nat, m ≤ j → j < l.length → t < beg l j) → ∃ i, Beg l t i := by
  intro m; induction m with
  | zero => intro _ hh; exact ⟨0, Nat.zero_le _, fun j hj => by omega, hh⟩
  | succ m ih =>
    intro hm hh
    by_cases c : t < beg l m
    · exact ih (by omega) fun j h1 h2 => by
        by_cases e : j = m
        · subst e; exact c
        · exact hh j (by omega) h2
    · exact ⟨m + 1, hm, fun j hj => by
        by_cases e : j = m
        · subst e; omega
        · have := h.beg_lt (i := j) (j := m) (by omega) (by omega); omega, hh⟩
theorem at_ex {l : List (Int × Int)} (h : GoodT l) {t : Int} (ht : beg l 0 ≤ t) : ∃ n s, At l n s t := by
  obtain ⟨i, hi⟩ := beg_ex h t l.length (Nat.le_refl _) (fun j h1 h2 => by omega)
  have i0 : i ≠ 0 := fun e => by
    subst e; have := hi.hi 0 (Nat.le_refl _) (by have := h.len; omega)
    rw [show (((0 : Nat) : Int)) = 0 from rfl] at this; omega
  have := at_of h hi i0
  by_cases c : i < l.length ∧ (t - (gd_i64_i64 l ((i : Int) - 1)).2) / 86400 = (gd_i64_i64 l i).1
  · exact ⟨_, _, this.1 c⟩
  · exact ⟨_, _, this.2 c⟩
theorem at_beg {l : List (Int × Int)} (h : GoodT l) {n s t : Int} (a : At l n s t) : beg l 0 ≤ t := by
  obtain ⟨k, hk, k0, s0, s1, e⟩ := a
  have hkl := hk.le
  have hs := h.step (k - 1) 0 (by omega)
  rw [show ((0 + (k - 1) : Nat) : Int) = (k : Int) - 1 by omega, show (((0 : Nat) : Int)) = 0 from rfl] at hs
  have h1 := hk.lo (k - 1) (by omega)
  rw [show ((k - 1 : Nat) : Int) = (k : Int) - 1 by omega] at h1
  unfold secVal at e; unfold beg; omega
theorem at_near {l : List (Int × Int)} (h : GoodT l) {n s t : Int} (a : At l n s t) : n * 86400 ≤ t ∧ t ≤ n * 86400 + 87400 := by
  obtain ⟨k, hk, k0, s0, s1, e⟩ := a
  have hr := leapV_range h n k
  have hkl := hk.le
  have ho := h.off (k - 1) (by omega)
  rw [show ((k - 1 : Nat) : Int) = (k : Int) - 1 by omega] at ho
  unfold secVal at e; omega
/-- What place tells. -/
def PlaceIs (l : List (Int × Int)) (t n s c : Int) : Prop :=
  (t < beg l 0 ∧ n = 0 ∧ s = 0 ∧ c = 8) ∨ ((∃ n' s', At l n' s' t ∧ 2932896 < n') ∧ n = 0 ∧ s = 0 ∧ c = 13) ∨ (At l n s t ∧ n ≤ 2932896 ∧ c = 0)
theorem place_unique {l : List (Int × Int)} (h : GoodT l) {t n s c n' s' c' : Int} (a : PlaceIs l t n s c) (b : PlaceIs l t n' s' c') : n = n' ∧ s = s' ∧ c = c' := by
  rcases a with ⟨a1, a2, a3, a4⟩ | ⟨⟨x, y, a1, a5⟩, a2, a3, a4⟩ | ⟨a1, a2, a3⟩
  · rcases b with ⟨b1, b2, b3, b4⟩ | ⟨⟨x', y', b1, b5⟩, b2, b3, b4⟩ | ⟨b1, b2, b3⟩
    · omega
    · have := at_beg h b1; omega
    · have := at_beg h b1; omega
  · rcases b with ⟨b1, b2, b3, b4⟩ | ⟨⟨x', y', b1, b5⟩, b2, b3, b4⟩ | ⟨b1, b2, b3⟩
    · have := at_beg h a1; omega
    · omega
    · have := at_unique h a1 b1; omega
  · rcases b with ⟨b1, b2, b3, b4⟩ | ⟨⟨x', y', b1, b5⟩, b2, b3, b4⟩ | ⟨b1, b2, b3⟩
    · have := at_beg h a1; omega
    · have := at_unique h a1 b1; omega
    · have := at_unique h a1 b1; omega
theorem begins {n o : Int} (h : -100000000 ≤ n ∧ n ≤ 100000000) (ho : 0 ≤ o ∧ o ≤ 1000) : g_scale_begins ((), ((n, (o, ())), ())) = some ((), ((n * 86400 + o, ()), ())) := by
  simp only [g_scale_begins, f_scale_begins_m]
  simp (disch := omega) only [imul_i64, iadd_i64]
theorem find_p3 {l : List (Int × Int)} (h : GoodT l) (t : Int) : ∀ (k lo hi : Nat), hi - lo ≤ k → lo ≤ hi → hi ≤ l.length → (∀ i : Nat, i < lo → beg l i ≤ t) → (∀ i : Nat, hi ≤ i → i < l.length → t < beg l i) →
    ∃ x : Nat, Evn (fun j => (f_sort_Search_scale_place_1_t j).1 (((), (l, ((t, ()), ()))), ((), (((lo : Int), ()), (((hi : Int), ()), ()))))) (((), (l, ((t, ()), ()))), (((x : Int), ()), ((), ((), ())))) ∧ Beg l t x := by
  have hlen := h.len
  intro k; induction k with
  | zero =>
    intro lo hi hk hle hh h1 h2
    obtain rfl : lo = hi := by omega
    refine ⟨lo, Evn.some 1 fun j => ?_, hh, h1, h2⟩
    simp only [t_sort_Search_scale_place_1, f_sort_Search_scale_place_1_p3, Option.bind_some, Option.isNone_none, Option.isNone_some, Option.isSome_none, Option.isSome_some, Bool.not_true, Bool.not_false, cond_true, cond_false, cond_dec, beq_int, bne_int, not_dec]
    rw [if_neg (by omega)]
  | succ k ih =>
    intro lo hi hk hle hh h1 h2
    by_cases c : lo < hi
    · have hm : iconv .i64 (ishr .u64 (iconv .u64 (iadd .i64 (lo : Int) (hi : Int))) 1) = (((lo + hi) / 2 : Nat) : Int) := by
        rw [iadd_i64 (by omega), iconv_u64]
        have : ishr .u64 (((lo : Int) + (hi : Int)) % 18446744073709551616) 1 = ((lo : Int) + (hi : Int)) / 2 := by
          unfold ishr
          rw [show min (1 : Int).toNat (IntKind.bits .u64) = 1 from rfl, Int.fdiv_eq_ediv_of_nonneg _ (by decide)]
          rw [show ((2 : Int) ^ 1) = 2 from rfl]; omega
        rw [this, iconv_i64 (by omega)]; omega
      have hmid : lo ≤ (lo + hi) / 2 ∧ (lo + hi) / 2 < hi := by omega
      have hday := h.day ((lo + hi) / 2) (by omega)
      unfold dated at hday
      have hoff := h.off ((lo + hi) / 2) (by omega)
      have hbg := begins (n := (gd_i64_i64 l (((lo + hi) / 2 : Nat) : Int)).1) (o := (gd_i64_i64 l (((lo + hi) / 2 : Nat) : Int)).2) (by omega) hoff
      by_cases c2 : t < beg l (((lo + hi) / 2 : Nat) : Int)
      · obtain ⟨x, q1, q2⟩ := ih lo ((lo + hi) / 2) (by omega) (by omega) (by omega) h1 (fun i hi' hil => by
          by_cases e : i = (lo + hi) / 2
          · subst e; exact c2
          · have := h.beg_lt (i := (lo + hi) / 2) (j := i) (by omega) hil; omega)
        refine ⟨x, q1.step fun j => ?_, q2⟩
        unfold beg at c2
        simp only [t_sort_Search_scale_place_1, f_sort_Search_scale_place_1_p3, g_scale_place_1_io, f_scale_place_1_io_m, hbg, Option.bind_some, Option.isNone_none, Option.isNone_some, Option.isSome_none, Option.isSome_some, Bool.not_true, Bool.not_false, cond_true, cond_false, cond_dec, beq_int, bne_int, not_dec, and_dec, hm, gt_iff_lt]
        rw [if_pos (by omega), if_pos (by omega)]
        simp only [Option.bind_some, not_dec, cond_dec]
        rw [if_neg (not_not_intro c2)]
      · obtain ⟨x, q1, q2⟩ := ih ((lo + hi) / 2 + 1) hi (by omega) (by omega) hh (fun i hi' => by
          by_cases e : i = (lo + hi) / 2
          · subst e; omega
          · have := h.beg_lt (i := i) (j := (lo + hi) / 2) (by omega) (by omega); omega) h2
        refine ⟨x, q1.step fun j => ?_, q2⟩
        unfold beg at c2
        simp only [t_sort_Search_scale_place_1, f_sort_Search_scale_place_1_p3, g_scale_place_1_io, f_scale_place_1_io_m, hbg, Option.bind_some, Option.isNone_none, Option.isNone_some, Option.isSome_none, Option.isSome_some, Bool.not_true, Bool.not_false, cond_true, cond_false, cond_dec, beq_int, bne_int, not_dec, and_dec, hm, gt_iff_lt]
        rw [if_pos (by omega), if_pos (by omega)]
        simp only [Option.bind_some, not_dec, cond_dec]
        rw [if_pos c2, iadd_i64 (by omega)]; rfl
    · exact ih lo hi (by omega) hle hh h1 h2
theorem rows_of (l : List (Int × Int)) (hl : l.length ≤ 1000) (u e : Int) : g_leap_Table_Rows ((), ((tp l u e, ()), ())) = some ((l, ()), ((), ())) := by
  simp only [g_leap_Table_Rows, f_leap_Table_Rows_m, g_leap_Table_list, f_leap_Table_list_m, Option.bind_some, Option.isNone_none, Option.isNone_some, Option.isSome_none, Option.isSome_some, Bool.not_true, Bool.not_false, cond_true, cond_false, cond_dec, beq_int, bne_int, not_dec, clone_rows l hl]
theorem scale_place {l : List (Int × Int)} (h : GoodT l) (u e t : Int) (ht : -9223372036854775808 ≤ t ∧ t ≤ 9223372036854775807) : ∃ n s c : Int, g_scale_place ((), ((tp l u e, ()), ((t, ()), ()))) = some ((), ((n, ()), ((s, ()), ((errOf c, ()), ())))) ∧ PlaceIs l t n s c := by
  have hlen := h.len
  have hrow := rows_of l (by omega) u e
  simp only [tp] at hrow
  obtain ⟨x, q1, q2⟩ := find_p3 h t l.length 0 l.length (by omega) (by omega) (by omega) (fun i hi => by omega) (fun i h1 h2 => by omega)
  have q1 : g_sort_Search_scale_place_1 (((), (l, ((t, ()), ()))), (((l.length : Int), ()), ((), ()))) = some (((), (l, ((t, ()), ()))), (((x : Int), ()), ((), ((), ())))) :=
    (q1.cast fun k => by simp only [f_sort_Search_scale_place_1_m]; rfl).lim
  have hxl := q2.le
  simp only [g_scale_place, f_scale_place_m, hrow, q1, day_last, Option.bind_some, Option.isNone_none, Option.isNone_some, Option.isSome_none, Option.isSome_some, Bool.not_true, Bool.not_false, cond_true, cond_false, cond_dec, beq_int, bne_int, not_dec, and_dec, tp, ge_iff_le]
  by_cases x0 : x = 0
  · subst x0
    have := q2.hi 0 (Nat.le_refl _) (by omega)
    exact ⟨0, 0, 8, rfl, .inl ⟨this, rfl, rfl, rfl⟩⟩
  have h1 := q2.lo (x - 1) (by omega)
  have hday := h.day (x - 1) (by omega)
  have hoff := h.off (x - 1) (by omega)
  unfold dated at hday
  unfold beg at h1
  rw [show ((x - 1 : Nat) : Int) = (x : Int) - 1 by omega] at h1 hday hoff
  have hat := at_of h q2 x0
  rw [if_neg (by omega), isub_i64 (by omega), if_pos (by omega), iadd_i64 (by omega), begins (by omega) hoff]
  simp only [Option.bind_some]
  by_cases c1 : (2932896 + 1) * 86400 + (gd_i64_i64 l ((x : Int) - 1)).2 ≤ t
  · rw [if_pos c1]
    refine ⟨0, 0, 13, rfl, .inr (.inl ⟨?_, rfl, rfl, rfl⟩)⟩
    have hno : ¬(x < l.length ∧ (t - (gd_i64_i64 l ((x : Int) - 1)).2) / 86400 = (gd_i64_i64 l x).1) := by
      rintro ⟨a, b⟩
      have := h.day x a
      unfold dated at this; omega
    exact ⟨_, _, hat.2 hno, by omega⟩
  · rw [if_neg c1, isub_i64 (by omega), num_split _ _ (by decide) (by decide) (by omega)]
    simp only [Option.bind_some, Option.isNone_none, Option.isNone_some, Option.isSome_none, Option.isSome_some, Bool.not_true, Bool.not_false, cond_true, cond_false, cond_dec, beq_int, bne_int, not_dec]
    by_cases c2 : x < l.length
    · rw [if_pos (by omega), if_pos (by omega)]
      by_cases c3 : (t - (gd_i64_i64 l ((x : Int) - 1)).2) / 86400 = (gd_i64_i64 l x).1
      · rw [if_pos c3, isub_i64 (by omega), iadd_i64 (by omega)]
        exact ⟨_, _, 0, rfl, .inr (.inr ⟨hat.1 ⟨c2, c3⟩, by omega, rfl⟩)⟩
      · rw [if_neg c3]
        exact ⟨_, _, 0, rfl, .inr (.inr ⟨hat.2 (fun hh => c3 hh.2), by omega, rfl⟩)⟩
    · rw [if_neg (by omega)]
      exact ⟨_, _, 0, rfl, .inr (.inr ⟨hat.2 (fun hh => c2 hh.1), by omega, rfl⟩)⟩
end Go.Proofs.Ytnielkimpieofaa.Ev
