/- The reference's numbers of any size: rows of digits to the base 65536, and what its functions tell of them. -/
import Derived.Test.YtfhaifiipjfffaaGreatDoorEvG
import Derived.Test.YtfhaifiipjfffaaGreatDoorEvE
namespace Go.Proofs.YtfhaifiipjfffaaGreatDoor.Ev
open Go
set_option linter.unusedVariables false
set_option linter.unusedSimpArgs false
def vl : List Int → Int
  | [] => 0
  | x :: l => x + 65536 * vl l
def okD (l : List Int) : Prop := ∀ x ∈ l, 0 ≤ x ∧ x < 65536
def nrm : List Int → Prop
  | [] => True
  | x :: l => (0 ≤ x ∧ x < 65536) ∧ nrm l ∧ (l = [] → x ≠ 0)
theorem nrm_ok : ∀ {l : List Int}, nrm l → okD l
  | [], _, x, h => by cases h
  | y :: l, ⟨h1, h2, _⟩, x, h => by
    rcases List.mem_cons.1 h with rfl | h
    · exact h1
    · exact nrm_ok h2 x h
theorem okD_tail {x : Int} {l : List Int} (h : okD (x :: l)) : (0 ≤ x ∧ x < 65536) ∧ okD l :=
  ⟨h x (List.mem_cons_self ..), fun y hy => h y (List.mem_cons_of_mem _ hy)⟩
theorem vl_range : ∀ {l : List Int}, okD l → 0 ≤ vl l ∧ vl l < 65536 ^ l.length
  | [], _ => by simp [vl]
  | x :: l, h => by
    obtain ⟨h1, h2⟩ := okD_tail h
    obtain ⟨i1, i2⟩ := vl_range h2
    have e : (65536 : Int) ^ (x :: l).length = 65536 ^ l.length * 65536 := by rw [List.length_cons, Int.pow_succ]
    rw [e]; unfold vl; omega
theorem nrm_eq : ∀ {l m : List Int}, nrm l → nrm m → vl l = vl m → l = m
  | [], [], _, _, _ => rfl
  | [], y :: m, _, hm, e => by
    have hm' := hm
    obtain ⟨h1, h2, h3⟩ := hm
    have := (vl_range (nrm_ok h2)).1
    unfold vl at e
    have e0 : vl m = 0 := by omega
    have : ([] : List Int) = m := nrm_eq trivial h2 (by rw [e0]; rfl)
    exact absurd (by omega) (h3 this.symm)
  | x :: l, [], hl, _, e => by
    obtain ⟨h1, h2, h3⟩ := hl
    have := (vl_range (nrm_ok h2)).1
    unfold vl at e
    have e0 : vl l = 0 := by omega
    have : l = ([] : List Int) := nrm_eq h2 trivial (by rw [e0]; rfl)
    exact absurd (by omega) (h3 this)
  | x :: l, y :: m, hl, hm, e => by
    obtain ⟨h1, h2, _⟩ := hl
    obtain ⟨k1, k2, _⟩ := hm
    unfold vl at e
    have : l = m := nrm_eq h2 k2 (by omega)
    subst this
    rw [show x = y by omega]
/-- A number's digits. -/
def dg (n : Nat) : List Int := if h : n = 0 then [] else ((n % 65536 : Nat) : Int) :: dg (n / 65536)
termination_by n
decreasing_by omega
theorem dg_zero : dg 0 = [] := by rw [dg]; rfl
theorem dg_pos {n : Nat} (h : n ≠ 0) : dg n = ((n % 65536 : Nat) : Int) :: dg (n / 65536) := by rw [dg]; rw [dif_neg h]
theorem dg_spec (n : Nat) : nrm (dg n) ∧ vl (dg n) = n := by
  induction n using Nat.strongRecOn with
  | _ n ih =>
    by_cases h : n = 0
    · subst h; rw [dg_zero]; exact ⟨trivial, rfl⟩
    · obtain ⟨i1, i2⟩ := ih (n / 65536) (by omega)
      rw [dg_pos h]
      refine ⟨⟨by omega, i1, fun e => ?_⟩, ?_⟩
      · rw [e] at i2; unfold vl at i2; omega
      · unfold vl; rw [i2]; omega
theorem dg_len : ∀ (k n : Nat), n < 65536 ^ k → (dg n).length ≤ k
  | 0, n, h => by
    have : n = 0 := by simp at h; exact h
    subst this; rw [dg_zero]; simp
  | k + 1, n, h => by
    by_cases h0 : n = 0
    · subst h0; rw [dg_zero]; simp
    · rw [dg_pos h0, List.length_cons]
      have := dg_len k (n / 65536) (Nat.div_lt_of_lt_mul (by rw [Nat.mul_comm, ← Nat.pow_succ]; exact h))
      omega
theorem dg_of {l : List Int} (h : nrm l) {n : Nat} (e : vl l = n) : l = dg n := nrm_eq h (dg_spec n).1 (by rw [(dg_spec n).2, e])
/-- A number, as the reference has it. -/
@[reducible] def big (a : Int) : Bool × (List Int × Unit) := (decide (a < 0), (dg a.natAbs, ()))
/-- Numbers with at most eight digits. -/
def sm (a : Int) : Prop := a.natAbs < 65536 ^ 8
theorem sm_len {a : Int} (h : sm a) : (dg a.natAbs).length ≤ 8 := dg_len 8 _ h
theorem drop_nil {l : List Int} {i : Nat} (h : l.length ≤ i) : l.drop i = [] := List.drop_eq_nil_of_le h
theorem digit_eq (l : List Int) (i : Nat) : g_ref01_digit ((), ((l, ()), (((i : Int), ()), ()))) = some ((), ((l.getD i 0, ()), ())) := by
  simp only [g_ref01_digit, f_ref01_digit_m, fitsS_dec, Option.bind_some, Option.isNone_none, Option.isNone_some, Option.isSome_none, Option.isSome_some, Bool.not_true, Bool.not_false, cond_true, cond_false, cond_dec, beq_int, bne_int, not_dec, and_dec]
  by_cases h : i < l.length
  · rw [if_pos (by omega), if_pos (by omega)]
    simp [gd, h]
  · rw [if_neg (by omega)]
    simp [List.getD_eq_getElem?_getD, List.getElem?_eq_none (Nat.le_of_not_lt h)]
theorem room8 {n m : Nat} (h : n ≤ 100) (h' : m ≤ 100) : decide (((n + m) * 8 : Nat) ≤ 140737488355328) = true ∧ decide (n + m ≤ 9223372036854775807) = true :=
  ⟨decide_eq_true (by omega), decide_eq_true (by omega)⟩
theorem bigof_p4 (b x : Bool) (y : List Int) : ∀ (k : Nat) (a : Int) (d : List Int), a.natAbs < 65536 ^ k → k ≤ 8 → d.length + k ≤ 50 → -9223372036854775808 ≤ a ∧ a ≤ 9223372036854775807 →
    Evn (fun j => (f_ref01_Of_t j).1 (((x, ()), (y, (d, ()))), ((a, ()), ((), ((), ((b, ()), ())))))) ((d ++ dg a.natAbs, ()), ((b, ()), ())) := by
  intro k; induction k with
  | zero =>
    intro a d h _ _ _
    have h0 : a = 0 := by simp at h; exact h
    subst h0
    refine Evn.some 1 fun k => ?_
    simp only [t_ref01_Of, f_ref01_Of_p4, fitsS_dec, Option.bind_some, Option.isNone_none, Option.isNone_some, Option.isSome_none, Option.isSome_some, Bool.not_true, Bool.not_false, cond_true, cond_false, cond_dec, beq_int, bne_int, not_dec]
    rw [if_neg (by simp), show (0 : Int).natAbs = 0 from rfl, dg_zero, List.append_nil]
  | succ k ih =>
    intro a d h hk hd hr
    by_cases h0 : a = 0
    · subst h0
      refine Evn.some 1 fun k => ?_
      simp only [t_ref01_Of, f_ref01_Of_p4, fitsS_dec, Option.bind_some, Option.isNone_none, Option.isNone_some, Option.isSome_none, Option.isSome_some, Bool.not_true, Bool.not_false, cond_true, cond_false, cond_dec, beq_int, bne_int, not_dec]
      rw [if_neg (by simp), show (0 : Int).natAbs = 0 from rfl, dg_zero, List.append_nil]
    · have hq : (iquo .i64 a 65536).natAbs = a.natAbs / 65536 ∧ (-9223372036854775808 ≤ iquo .i64 a 65536 ∧ iquo .i64 a 65536 ≤ 9223372036854775807) := by
        rw [iquo_pos (by decide) hr]; split <;> omega
      have hlt : a.natAbs / 65536 < 65536 ^ k := Nat.div_lt_of_lt_mul (by rw [Nat.mul_comm, ← Nat.pow_succ]; exact h)
      have ih' := ih (iquo .i64 a 65536) (d ++ [((a.natAbs % 65536 : Nat) : Int)]) (by rw [hq.1]; exact hlt) (by omega) (by simp; omega) hq.2
      rw [hq.1, List.append_assoc, List.singleton_append, ← dg_pos (show a.natAbs ≠ 0 by omega)] at ih'
      refine ih'.step fun j => ?_
      simp only [t_ref01_Of, f_ref01_Of_p4, fitsS_dec, Option.bind_some, Option.isNone_none, Option.isNone_some, Option.isSome_none, Option.isSome_some, Bool.not_true, Bool.not_false, cond_true, cond_false, cond_dec, beq_int, bne_int, not_dec, List.length_singleton]
      rw [if_pos h0]
      obtain ⟨r1, r2⟩ := room8 (n := d.length) (m := 1) (by omega) (by omega)
      simp only [List.length_cons, List.length_nil, Nat.zero_add, r1, r2, Bool.and_self, cond_true]
      rw [tmod_pos 65536 (by decide)]
      by_cases hs : 0 ≤ a
      · rw [if_pos hs, if_neg (by omega), iconv_u64, show a % 65536 % 18446744073709551616 = ((a.natAbs % 65536 : Nat) : Int) by omega]
      · rw [if_neg hs]
        by_cases hz : -(-a % 65536) < 0
        · rw [if_pos hz, isub_i64 (by omega), iconv_u64, show (0 - -(-a % 65536)) % 18446744073709551616 = ((a.natAbs % 65536 : Nat) : Int) by omega]
        · rw [if_neg hz, iconv_u64, show -(-a % 65536) % 18446744073709551616 = ((a.natAbs % 65536 : Nat) : Int) by omega]
theorem big_of (a : Int) (h : -9223372036854775808 ≤ a ∧ a ≤ 9223372036854775807) : g_ref01_Of ((), ((a, ()), ())) = some ((dg a.natAbs, ()), ((decide (a < 0), ()), ())) := by
  have := bigof_p4 (decide (a < 0)) false [] 4 a [] (by omega) (by omega) (by simp) h
  rw [List.nil_append] at this
  refine (this.cast fun k => ?_).lim
  simp only [f_ref01_Of_m]
/-- Sums of rows. -/
def plusL : List Int → List Int → Int → List Int
  | x :: a, y :: b, c => (x + y + c) % 65536 :: plusL a b ((x + y + c) / 65536)
  | x :: a, [], c => (x + c) % 65536 :: plusL a [] ((x + c) / 65536)
  | [], y :: b, c => (y + c) % 65536 :: plusL [] b ((y + c) / 65536)
  | [], [], c => if c > 0 then [c] else []
theorem plusL_vl : ∀ (a b : List Int) (c : Int), okD a → okD b → 0 ≤ c → vl (plusL a b c) = vl a + vl b + c
  | x :: a, y :: b, c, ha, hb, h => by
    obtain ⟨a1, a2⟩ := okD_tail ha
    obtain ⟨b1, b2⟩ := okD_tail hb
    unfold plusL; unfold vl; rw [plusL_vl a b _ a2 b2 (by omega)]; omega
  | x :: a, [], c, ha, hb, h => by
    obtain ⟨a1, a2⟩ := okD_tail ha
    unfold plusL; unfold vl; rw [plusL_vl a [] _ a2 hb (by omega)]; simp only [vl]; omega
  | [], y :: b, c, ha, hb, h => by
    obtain ⟨b1, b2⟩ := okD_tail hb
    unfold plusL; unfold vl; rw [plusL_vl [] b _ ha b2 (by omega)]; simp only [vl]; omega
  | [], [], c, _, _, h => by unfold plusL; split <;> simp [vl] <;> omega
theorem plusL_nil {a b : List Int} {c : Int} (h : plusL a b c = []) (hc : 0 ≤ c) : a = [] ∧ b = [] ∧ c = 0 := by
  cases a with
  | nil => cases b with
    | nil => unfold plusL at h; split at h
             · cases h
             · exact ⟨rfl, rfl, by omega⟩
    | cons y b => unfold plusL at h; cases h
  | cons x a => cases b <;> (unfold plusL at h; cases h)
theorem plusL_nrm : ∀ (a b : List Int) (c : Int), nrm a → nrm b → 0 ≤ c → c ≤ 1 → nrm (plusL a b c)
  | x :: a, y :: b, c, ⟨a1, a2, a3⟩, ⟨b1, b2, b3⟩, h, h' => by
    unfold plusL
    refine ⟨by omega, plusL_nrm a b _ a2 b2 (by omega) (by omega), fun e => ?_⟩
    obtain ⟨rfl, rfl, e⟩ := plusL_nil e (by omega)
    have := a3 rfl; omega
  | x :: a, [], c, ⟨a1, a2, a3⟩, hb, h, h' => by
    unfold plusL
    refine ⟨by omega, plusL_nrm a [] _ a2 hb (by omega) (by omega), fun e => ?_⟩
    obtain ⟨rfl, _, e⟩ := plusL_nil e (by omega)
    have := a3 rfl; omega
  | [], y :: b, c, ha, ⟨b1, b2, b3⟩, h, h' => by
    unfold plusL
    refine ⟨by omega, plusL_nrm [] b _ ha b2 (by omega) (by omega), fun e => ?_⟩
    obtain ⟨_, rfl, e⟩ := plusL_nil e (by omega)
    have := b3 rfl; omega
  | [], [], c, _, _, h, h' => by
    unfold plusL; split
    · exact ⟨by omega, trivial, fun _ => by omega⟩
    · trivial
theorem plusL_digit {a b : List Int} {c : Int} {i : Nat} (ha : okD a) (hb : okD b) (hc : 0 ≤ c ∧ c ≤ 1) (h : i < a.length ∨ i < b.length ∨ 0 < c) :
    plusL (a.drop i) (b.drop i) c = (a.getD i 0 + b.getD i 0 + c) % 65536 :: plusL (a.drop (i + 1)) (b.drop (i + 1)) ((a.getD i 0 + b.getD i 0 + c) / 65536) := by
  by_cases h1 : i < a.length
  · rw [List.drop_eq_getElem_cons h1, show a.getD i 0 = a[i] by simp [h1]]
    by_cases h2 : i < b.length
    · rw [List.drop_eq_getElem_cons h2, show b.getD i 0 = b[i] by simp [h2], plusL]
    · rw [drop_nil (i := i) (l := b) (by omega), drop_nil (i := i + 1) (l := b) (by omega), show b.getD i 0 = 0 by simp [List.getD_eq_getElem?_getD, List.getElem?_eq_none (Nat.le_of_not_lt h2)]]
      rw [Int.add_zero, plusL]
  · rw [drop_nil (i := i) (l := a) (by omega), drop_nil (i := i + 1) (l := a) (by omega), show a.getD i 0 = 0 by simp [List.getD_eq_getElem?_getD, List.getElem?_eq_none (Nat.le_of_not_lt h1)]]
    by_cases h2 : i < b.length
    · rw [List.drop_eq_getElem_cons h2, show b.getD i 0 = b[i] by simp [h2], Int.zero_add, plusL]
    · rw [drop_nil (i := i) (l := b) (by omega), drop_nil (i := i + 1) (l := b) (by omega), show b.getD i 0 = 0 by simp [List.getD_eq_getElem?_getD, List.getElem?_eq_none (Nat.le_of_not_lt h2)]]
      rw [show (0 : Int) + 0 + c = c by omega]
      rw [plusL, if_pos (by omega), plusL, if_neg (by omega), show c % 65536 = c by omega]
theorem getD_ok {l : List Int} (h : okD l) (i : Nat) : 0 ≤ l.getD i 0 ∧ l.getD i 0 < 65536 := by
  by_cases h1 : i < l.length
  · rw [show l.getD i 0 = l[i] by simp [h1]]; exact h _ (List.getElem_mem _)
  · rw [show l.getD i 0 = 0 by simp [List.getD_eq_getElem?_getD, List.getElem?_eq_none (Nat.le_of_not_lt h1)]]; omega
theorem plus_p5 {a b : List Int} (ha : okD a) (hb : okD b) : ∀ (k : Nat) (out : List Int) (c : Int) (i : Nat), 0 ≤ c ∧ c ≤ 1 → a.length ≤ i + k → b.length ≤ i + k → out.length + k ≤ 50 → i + k ≤ 50 →
    Evn (fun j => (f_ref01_plus_t j).1 ((out, ()), ((a, ()), ((b, ()), ((), ((c, ()), (((i : Int), ()), ()))))))) ((out ++ plusL (a.drop i) (b.drop i) c, ()), ((), ())) := by
  have stop : ∀ (out : List Int) (c : Int) (i : Nat), ¬(i < a.length ∨ i < b.length ∨ 0 < c) → 0 ≤ c ∧ c ≤ 1 → Evn (fun j => (f_ref01_plus_t j).1 ((out, ()), ((a, ()), ((b, ()), ((), ((c, ()), (((i : Int), ()), ()))))))) ((out ++ plusL (a.drop i) (b.drop i) c, ()), ((), ())) := by
    intro out c i h hc
    rw [drop_nil (i := i) (l := a) (by omega), drop_nil (i := i) (l := b) (by omega), show plusL [] [] c = [] by rw [plusL, if_neg (by omega)], List.append_nil]
    refine Evn.some 1 fun k => ?_
    simp only [t_ref01_plus, f_ref01_plus_p5, fitsS_dec, Option.bind_some, Option.isNone_none, Option.isNone_some, Option.isSome_none, Option.isSome_some, Bool.not_true, Bool.not_false, cond_true, cond_false, cond_dec, beq_int, bne_int, not_dec, gt_iff_lt]
    rw [if_neg (by omega), if_neg (by omega), if_neg (by omega)]
  have step : ∀ (out : List Int) (c : Int) (i : Nat) (R : List Int), (i < a.length ∨ i < b.length ∨ 0 < c) → 0 ≤ c ∧ c ≤ 1 → out.length ≤ 50 → i ≤ 50 →
      Evn (fun j => (f_ref01_plus_t j).1 ((out ++ [(a.getD i 0 + b.getD i 0 + c) % 65536], ()), ((a, ()), ((b, ()), ((), (((a.getD i 0 + b.getD i 0 + c) / 65536, ()), ((((i + 1 : Nat) : Int), ()), ()))))))) ((R, ()), ((), ())) →
      Evn (fun j => (f_ref01_plus_t j).1 ((out, ()), ((a, ()), ((b, ()), ((), ((c, ()), (((i : Int), ()), ()))))))) ((R, ()), ((), ())) := by
    intro out c i R h hc ho hi H
    have da := getD_ok ha i
    have db := getD_ok hb i
    refine H.step fun k => ?_
    simp only [t_ref01_plus, f_ref01_plus_p5, fitsS_dec, Option.bind_some, Option.isNone_none, Option.isNone_some, Option.isSome_none, Option.isSome_some, Bool.not_true, Bool.not_false, cond_true, cond_false, cond_dec, beq_int, bne_int, not_dec, gt_iff_lt, digit_eq]
    obtain ⟨r1, r2⟩ := room8 (n := out.length) (m := 1) (by omega) (by omega)
    simp only [List.length_cons, List.length_nil, Nat.zero_add, r1, r2, Bool.and_self, cond_true]
    generalize a.getD i 0 = x at *
    generalize b.getD i 0 = y at *
    have e1 : iadd .u64 (iadd .u64 x y) c = x + y + c := by rw [iadd_u64, iadd_u64]; omega
    have e2 : Int.tmod (x + y + c) 65536 = (x + y + c) % 65536 := tmod_nn (by omega)
    have e3 : iquo .u64 (x + y + c) 65536 = (x + y + c) / 65536 := by
      unfold iquo; rw [Int.tdiv_eq_ediv_of_nonneg (by omega), wrap_u64]; omega
    have e4 : iadd .i64 (i : Int) 1 = ((i + 1 : Nat) : Int) := by rw [iadd_i64 (by omega)]; rfl
    simp only [e1, e2, e3, e4]
    by_cases c1 : i < a.length
    · rw [if_pos (by omega)]
    · rw [if_neg (by omega)]
      by_cases c2 : i < b.length
      · rw [if_pos (by omega)]
      · rw [if_neg (by omega), if_pos (by omega)]
  intro k; induction k with
  | zero =>
    intro out c i hc h1 h2 h3 h4
    by_cases h : 0 < c
    · rw [plusL_digit ha hb hc (.inr (.inr h))]
      refine step out c i _ (.inr (.inr h)) hc (by omega) (by omega) ?_
      have e : a.getD i 0 = 0 ∧ b.getD i 0 = 0 := by
        constructor <;> rw [List.getD_eq_getElem?_getD, List.getElem?_eq_none (by omega)] <;> rfl
      have q : (a.getD i 0 + b.getD i 0 + c) / 65536 = 0 := by rw [e.1, e.2]; omega
      rw [q, List.append_cons out _ (plusL (a.drop (i + 1)) (b.drop (i + 1)) 0)]
      exact stop (out ++ [(a.getD i 0 + b.getD i 0 + c) % 65536]) 0 (i + 1) (by omega) (by omega)
    · exact stop out c i (by omega) hc
  | succ k ih =>
    intro out c i hc h1 h2 h3 h4
    by_cases h : i < a.length ∨ i < b.length ∨ 0 < c
    · rw [plusL_digit ha hb hc h]
      refine step out c i _ h hc (by omega) (by omega) ?_
      rw [List.append_cons out _ (plusL (a.drop (i + 1)) (b.drop (i + 1)) ((a.getD i 0 + b.getD i 0 + c) / 65536))]
      have da := getD_ok ha i
      have db := getD_ok hb i
      exact ih (out ++ [(a.getD i 0 + b.getD i 0 + c) % 65536]) ((a.getD i 0 + b.getD i 0 + c) / 65536) (i + 1) (by omega) (by omega) (by omega) (by simp; omega) (by omega)
    · exact stop out c i h hc
theorem plus_rows (m n : Nat) (hm : (dg m).length ≤ 40) (hn : (dg n).length ≤ 40) : g_ref01_plus ((), ((dg m, ()), ((dg n, ()), ()))) = some ((dg (m + n), ()), ((), ())) := by
  obtain ⟨n1, v1⟩ := dg_spec m
  obtain ⟨n2, v2⟩ := dg_spec n
  have := plus_p5 (nrm_ok n1) (nrm_ok n2) 40 [] 0 0 (by omega) (by omega) (by omega) (by simp) (by omega)
  rw [List.drop_zero, List.drop_zero, List.nil_append, dg_of (n := m + n) (plusL_nrm _ _ 0 n1 n2 (by omega) (by omega)) (by rw [plusL_vl _ _ 0 (nrm_ok n1) (nrm_ok n2) (by omega), v1, v2]; omega)] at this
  refine (this.cast fun k => ?_).lim
  simp only [f_ref01_plus_m]; rfl
theorem vl_take_succ : ∀ (l : List Int) (i : Nat), vl (l.take (i + 1)) = vl (l.take i) + 65536 ^ i * l.getD i 0
  | [], i => by simp [vl]
  | x :: l, 0 => by simp [vl]
  | x :: l, i + 1 => by
    rw [List.take_succ_cons, List.take_succ_cons]; unfold vl
    rw [vl_take_succ l i, List.getD_cons_succ, Int.mul_add, ← Int.mul_assoc, Int.mul_comm 65536 (65536 ^ i), show (65536 : Int) ^ (i + 1) = 65536 ^ i * 65536 from Int.pow_succ ..]; omega
theorem okD_take {l : List Int} (h : okD l) (i : Nat) : okD (l.take i) := fun x hx => h x (List.mem_of_mem_take hx)
theorem vl_take_range {l : List Int} (h : okD l) (i : Nat) : 0 ≤ vl (l.take i) ∧ vl (l.take i) < 65536 ^ i := by
  induction i with
  | zero => simp [vl]
  | succ i ih =>
    have d := getD_ok h i
    have hp : (0 : Int) < 65536 ^ i := Int.pow_pos (by decide)
    rw [vl_take_succ, show (65536 : Int) ^ (i + 1) = 65536 ^ i * 65536 from Int.pow_succ ..]
    generalize l.getD i 0 = x at *
    generalize (65536 : Int) ^ i = q at *
    have h1 : 0 ≤ q * x := Int.mul_nonneg (by omega) (by omega)
    have h2 : q * x ≤ q * 65535 := Int.mul_le_mul_of_nonneg_left (by omega) (by omega)
    omega
theorem less_p3 {a b : List Int} (ha : okD a) (hb : okD b) : ∀ (i : Nat), i ≤ 60 → Evn (fun j => (f_ref01_less_t j).1 ((), ((a, ()), ((b, ()), ((((i : Int) - 1), ()), ()))))) ((), ((decide (vl (a.take i) < vl (b.take i)), ()), ())) := by
  intro i; induction i with
  | zero =>
    intro _
    refine Evn.some 1 fun k => ?_
    simp only [t_ref01_less, f_ref01_less_p3, fitsS_dec, Option.bind_some, Option.isNone_none, Option.isNone_some, Option.isSome_none, Option.isSome_some, Bool.not_true, Bool.not_false, cond_true, cond_false, cond_dec, beq_int, bne_int, not_dec, ge_iff_le]
    rw [if_neg (by omega)]
    simp
  | succ i ih =>
    intro hi
    have e : ((i + 1 : Nat) : Int) - 1 = (i : Int) := by omega
    have da := getD_ok ha i
    have db := getD_ok hb i
    have ra := vl_take_range ha i
    have rb := vl_take_range hb i
    rw [e, vl_take_succ, vl_take_succ]
    have hp : (0 : Int) < 65536 ^ i := Int.pow_pos (by decide)
    by_cases h : a.getD i 0 = b.getD i 0
    · have := ih (by omega)
      rw [h]
      rw [show decide (vl (a.take i) + 65536 ^ i * b.getD i 0 < vl (b.take i) + 65536 ^ i * b.getD i 0) = decide (vl (a.take i) < vl (b.take i)) by simp only [decide_eq_decide]; omega]
      refine this.step fun k => ?_
      simp only [t_ref01_less, f_ref01_less_p3, fitsS_dec, Option.bind_some, Option.isNone_none, Option.isNone_some, Option.isSome_none, Option.isSome_some, Bool.not_true, Bool.not_false, cond_true, cond_false, cond_dec, beq_int, bne_int, not_dec, ge_iff_le, digit_eq]
      rw [if_pos (by omega), if_neg (by simpa using h), isub_i64 (by omega)]
    · refine Evn.some 1 fun k => ?_
      simp only [t_ref01_less, f_ref01_less_p3, fitsS_dec, Option.bind_some, Option.isNone_none, Option.isNone_some, Option.isSome_none, Option.isSome_some, Bool.not_true, Bool.not_false, cond_true, cond_false, cond_dec, beq_int, bne_int, not_dec, ge_iff_le, digit_eq]
      rw [if_pos (by omega), if_pos (by simpa using h)]
      congr 4
      simp only [decide_eq_decide]
      generalize a.getD i 0 = x at *
      generalize b.getD i 0 = y at *
      generalize (65536 : Int) ^ i = p at *
      generalize vl (a.take i) = u at *
      generalize vl (b.take i) = v at *
      constructor
      · intro hxy
        have : p * x + p ≤ p * y := by rw [show p * x + p = p * (x + 1) by rw [Int.mul_add, Int.mul_one]]; exact Int.mul_le_mul_of_nonneg_left (by omega) (by omega)
        omega
      · intro huv
        by_cases hxy : x < y
        · exact hxy
        · have : p * y + p ≤ p * x := by rw [show p * y + p = p * (y + 1) by rw [Int.mul_add, Int.mul_one]]; exact Int.mul_le_mul_of_nonneg_left (by omega) (by omega)
          omega
theorem less_rows (m n : Nat) (hm : (dg m).length ≤ 40) (hn : (dg n).length ≤ 40) : g_ref01_less ((), ((dg m, ()), ((dg n, ()), ()))) = some ((), ((decide (m < n), ()), ())) := by
  obtain ⟨n1, v1⟩ := dg_spec m
  obtain ⟨n2, v2⟩ := dg_spec n
  have := less_p3 (nrm_ok n1) (nrm_ok n2) (max (dg m).length (dg n).length) (by omega)
  rw [List.take_of_length_le (by omega), List.take_of_length_le (by omega), v1, v2, show decide ((m : Int) < n) = decide (m < n) by simp] at this
  refine (this.cast fun k => ?_).lim
  simp only [f_ref01_less_m]
  have e : isub .i64 (if ((dg n).length : Int) > ((dg m).length : Int) then ((dg n).length : Int) else ((dg m).length : Int)) 1 = ((max (dg m).length (dg n).length : Nat) : Int) - 1 := by
    rw [isub_i64 (by split <;> omega)]; split <;> omega
  rw [e]
/-- Digits without noughts at the end. -/
def cutL : List Int → List Int
  | [] => []
  | x :: l => if cutL l = [] ∧ x = 0 then [] else x :: cutL l
theorem cutL_zero : ∀ (l : List Int), cutL (l ++ [0]) = cutL l
  | [] => by simp [cutL]
  | x :: l => by rw [List.cons_append]; unfold cutL; rw [cutL_zero l]
theorem cutL_nz : ∀ (l : List Int) {z : Int}, z ≠ 0 → cutL (l ++ [z]) = l ++ [z]
  | [], z, h => by simp [cutL, h]
  | x :: l, z, h => by rw [List.cons_append]; unfold cutL; rw [cutL_nz l h, if_neg (by simp)]
theorem cutL_vl : ∀ (l : List Int), vl (cutL l) = vl l
  | [] => rfl
  | x :: l => by
    unfold cutL
    have := cutL_vl l
    split
    · rename_i h; rw [h.1] at this; unfold vl; rw [← this, h.2]; simp [vl]
    · unfold vl; rw [this]
theorem cutL_nrm : ∀ {l : List Int}, okD l → nrm (cutL l)
  | [], _ => trivial
  | x :: l, h => by
    obtain ⟨h1, h2⟩ := okD_tail h
    unfold cutL
    split
    · trivial
    · rename_i h'
      exact ⟨h1, cutL_nrm h2, fun e e0 => h' ⟨e, e0⟩⟩
theorem cut_rows : ∀ (k : Nat) (l : List Int), l.length = k → k ≤ 100 → Evn (fun j => (f_ref01_cut_t j).1 ((), ((l, ()), ()))) ((), ((cutL l, ()), ())) := by
  intro k; induction k with
  | zero =>
    intro l h _
    obtain rfl := List.eq_nil_of_length_eq_zero h
    refine Evn.some 1 fun k => ?_
    simp only [t_ref01_cut, f_ref01_cut_p2, fitsS_dec, Option.bind_some, Option.isNone_none, Option.isNone_some, Option.isSome_none, Option.isSome_some, Bool.not_true, Bool.not_false, cond_true, cond_false, cond_dec, beq_int, bne_int, not_dec, gt_iff_lt, List.length_nil]
    rw [if_neg (by simp)]; rfl
  | succ k ih =>
    intro l h hk
    have hl : l = l.take k ++ [l[k]'(by omega)] := by
      conv => lhs; rw [← List.take_append_drop k l, List.drop_eq_getElem_cons (by omega), List.drop_eq_nil_of_le (by omega)]
    have hg : gd (.int .u64) l (k : Int) = l[k]'(by omega) := by simp [gd, show k < l.length by omega]
    have e1 : isub .i64 (l.length : Int) 1 = (k : Int) := by rw [isub_i64 (by omega)]; omega
    by_cases h0 : l[k]'(by omega) = 0
    · have := ih (l.take k) (by simp; omega) (by omega)
      rw [show cutL (l.take k) = cutL l by conv => rhs; rw [hl, h0, cutL_zero]] at this
      refine this.step fun j => ?_
      simp only [t_ref01_cut, f_ref01_cut_p2, fitsS_dec, Option.bind_some, Option.isNone_none, Option.isNone_some, Option.isSome_none, Option.isSome_some, Bool.not_true, Bool.not_false, cond_true, cond_false, cond_dec, beq_int, bne_int, not_dec, gt_iff_lt, e1, hg, and_dec]
      rw [if_pos (by omega), if_pos (by omega), if_pos h0, if_pos (by omega)]
      rw [show (Int.toNat (k : Int)) = k by omega, show Int.toNat 0 = 0 from rfl, List.drop_zero]
    · refine Evn.some 1 fun j => ?_
      simp only [t_ref01_cut, f_ref01_cut_p2, fitsS_dec, Option.bind_some, Option.isNone_none, Option.isNone_some, Option.isSome_none, Option.isSome_some, Bool.not_true, Bool.not_false, cond_true, cond_false, cond_dec, beq_int, bne_int, not_dec, gt_iff_lt, e1, hg, and_dec]
      rw [if_pos (by omega), if_pos (by omega), if_neg h0]
      conv => rhs; rw [hl, cutL_nz _ h0, ← hl]
/-- Differences of rows. -/
def minusL : List Int → List Int → Int → List Int
  | [], _, _ => []
  | x :: a, b, c => (65536 + x - b.headD 0 - c) % 65536 :: minusL a b.tail (1 - (65536 + x - b.headD 0 - c) / 65536)
theorem minusL_len : ∀ (a b : List Int) (c : Int), (minusL a b c).length = a.length
  | [], _, _ => rfl
  | x :: a, b, c => by unfold minusL; rw [List.length_cons, List.length_cons, minusL_len]
theorem minusL_ok : ∀ (a b : List Int) (c : Int), okD (minusL a b c)
  | [], _, _, x, h => by cases h
  | x :: a, b, c, y, h => by
    unfold minusL at h
    rcases List.mem_cons.1 h with rfl | h
    · omega
    · exact minusL_ok a _ _ y h
theorem okD_nil : okD [] := fun x h => by cases h
theorem vl_head {b : List Int} : vl b = b.headD 0 + 65536 * vl b.tail := by cases b <;> simp [vl]
theorem headD_ok {b : List Int} (h : okD b) : (0 ≤ b.headD 0 ∧ b.headD 0 < 65536) ∧ okD b.tail := by
  cases b with
  | nil => exact ⟨by simp, okD_nil⟩
  | cons y b => exact okD_tail h
/-- What is lent at the end. -/
theorem minusL_vl : ∀ (a b : List Int) (c : Int), okD a → okD b → 0 ≤ c ∧ c ≤ 1 → ∃ q : Int, vl (minusL a b c) = vl a - vl b - c + 65536 ^ a.length * q
  | [], b, c, _, _, _ => ⟨vl b + c, by simp [minusL, vl]; omega⟩
  | x :: a, b, c, ha, hb, hc => by
    obtain ⟨a1, a2⟩ := okD_tail ha
    obtain ⟨b1, b2⟩ := headD_ok hb
    obtain ⟨q, hq⟩ := minusL_vl a b.tail (1 - (65536 + x - b.headD 0 - c) / 65536) a2 b2 (by omega)
    refine ⟨q, ?_⟩
    have e1 : vl (x :: a) = x + 65536 * vl a := rfl
    have e2 : vl (minusL (x :: a) b c) = (65536 + x - b.headD 0 - c) % 65536 + 65536 * vl (minusL a b.tail (1 - (65536 + x - b.headD 0 - c) / 65536)) := by rw [minusL]; rfl
    rw [e2, e1, hq, List.length_cons, show (65536 : Int) ^ (a.length + 1) = 65536 ^ a.length * 65536 from Int.pow_succ .., vl_head (b := b), Int.mul_comm (65536 ^ a.length) 65536, Int.mul_assoc]
    generalize 65536 ^ a.length * q = w
    omega
theorem drop_headD (b : List Int) (i : Nat) : (b.drop i).headD 0 = b.getD i 0 ∧ (b.drop i).tail = b.drop (i + 1) := by
  constructor
  · rw [List.headD_eq_head?_getD, List.head?_drop, List.getD_eq_getElem?_getD]
  · rw [List.tail_drop]
theorem minus_p5 {a b : List Int} (ha : okD a) (hb : okD b) (hl : a.length ≤ 50) : ∀ (k : Nat) (out : List Int) (c : Int) (i : Nat), 0 ≤ c ∧ c ≤ 1 → i + k = a.length → out.length = i →
    Evn (fun j => (f_ref01_minus_t j).1 ((out, ()), ((a, ()), ((b, ()), ((), ((c, ()), (((i : Int), ()), ()))))))) ((), ((cutL (out ++ minusL (a.drop i) (b.drop i) c), ()), ())) := by
  intro k; induction k with
  | zero =>
    intro out c i hc h1 h2
    rw [drop_nil (i := i) (l := a) (by omega)]
    obtain ⟨n, hn⟩ := cut_rows out.length out rfl (by omega)
    have hcut : g_ref01_cut ((), ((out, ()), ())) = some ((), ((cutL out, ()), ())) := by
      refine ((cut_rows out.length out rfl (by omega)).cast fun k => ?_).lim
      simp only [f_ref01_cut_m]
    refine Evn.some 1 fun k => ?_
    simp only [t_ref01_minus, f_ref01_minus_p5, fitsS_dec, Option.bind_some, Option.isNone_none, Option.isNone_some, Option.isSome_none, Option.isSome_some, Bool.not_true, Bool.not_false, cond_true, cond_false, cond_dec, beq_int, bne_int, not_dec]
    rw [if_neg (by omega), hcut]
    simp only [Option.bind_some, minusL, List.append_nil]
  | succ k ih =>
    intro out c i hc h1 h2
    have da := getD_ok ha i
    have db := getD_ok hb i
    have hi : i < a.length := by omega
    have e : a.drop i = a.getD i 0 :: a.drop (i + 1) := by rw [List.drop_eq_getElem_cons hi, show a.getD i 0 = a[i] by simp [hi]]
    rw [e, show minusL (a.getD i 0 :: a.drop (i + 1)) (b.drop i) c = (65536 + a.getD i 0 - b.getD i 0 - c) % 65536 :: minusL (a.drop (i + 1)) (b.drop (i + 1)) (1 - (65536 + a.getD i 0 - b.getD i 0 - c) / 65536) by
      conv => lhs; unfold minusL
      rw [(drop_headD b i).1, (drop_headD b i).2], List.append_cons out _ (minusL _ _ _)]
    have := ih (out ++ [(65536 + a.getD i 0 - b.getD i 0 - c) % 65536]) (1 - (65536 + a.getD i 0 - b.getD i 0 - c) / 65536) (i + 1) (by omega) (by omega) (by simp; omega)
    refine this.step fun k => ?_
    simp only [t_ref01_minus, f_ref01_minus_p5, fitsS_dec, Option.bind_some, Option.isNone_none, Option.isNone_some, Option.isSome_none, Option.isSome_some, Bool.not_true, Bool.not_false, cond_true, cond_false, cond_dec, beq_int, bne_int, not_dec, digit_eq]
    obtain ⟨r1, r2⟩ := room8 (n := out.length) (m := 1) (by omega) (by omega)
    simp only [List.length_cons, List.length_nil, Nat.zero_add, r1, r2, Bool.and_self, cond_true]
    rw [if_pos (by omega)]
    generalize a.getD i 0 = x at *
    generalize b.getD i 0 = y at *
    have e1 : isub .u64 (isub .u64 (iadd .u64 65536 x) y) c = 65536 + x - y - c := by rw [iadd_u64, isub_u64, isub_u64]; omega
    have e2 : Int.tmod (65536 + x - y - c) 65536 = (65536 + x - y - c) % 65536 := tmod_nn (by omega)
    have e3 : iquo .u64 (65536 + x - y - c) 65536 = (65536 + x - y - c) / 65536 := by
      unfold iquo; rw [Int.tdiv_eq_ediv_of_nonneg (by omega), wrap_u64]; omega
    have e5 : isub .u64 1 ((65536 + x - y - c) / 65536) = 1 - (65536 + x - y - c) / 65536 := by rw [isub_u64]; omega
    have e4 : iadd .i64 (i : Int) 1 = ((i + 1 : Nat) : Int) := by rw [iadd_i64 (by omega)]; rfl
    simp only [e1, e2, e3, e4, e5]
theorem minus_rows (m n : Nat) (h : n ≤ m) (hm : (dg m).length ≤ 40) (hn : (dg n).length ≤ 40) : g_ref01_minus ((), ((dg m, ()), ((dg n, ()), ()))) = some ((), ((dg (m - n), ()), ())) := by
  obtain ⟨n1, v1⟩ := dg_spec m
  obtain ⟨n2, v2⟩ := dg_spec n
  have := minus_p5 (nrm_ok n1) (nrm_ok n2) (by omega) (dg m).length [] 0 0 (by omega) (by omega) rfl
  have hv : vl (cutL (minusL (dg m) (dg n) 0)) = ((m - n : Nat) : Int) := by
    rw [cutL_vl]
    obtain ⟨q, hq⟩ := minusL_vl (dg m) (dg n) 0 (nrm_ok n1) (nrm_ok n2) (by omega)
    have r1 := vl_range (minusL_ok (dg m) (dg n) 0)
    rw [minusL_len] at r1
    have r2 := vl_range (nrm_ok n1)
    rw [v1] at r2
    rw [v1, v2] at hq
    rw [hq] at r1 ⊢
    generalize (65536 : Int) ^ (dg m).length = p at *
    have : q = 0 := by
      rcases Int.lt_trichotomy q 0 with c | c | c
      · have : p * q ≤ p * (-1) := Int.mul_le_mul_of_nonneg_left (by omega) (by omega)
        omega
      · exact c
      · have : p * 1 ≤ p * q := Int.mul_le_mul_of_nonneg_left (by omega) (by omega)
        omega
    subst this
    simp; omega
  rw [List.drop_zero, List.drop_zero, List.nil_append, dg_of (cutL_nrm (minusL_ok _ _ _)) hv] at this
  refine (this.cast fun k => ?_).lim
  simp only [f_ref01_minus_m]; rfl
theorem dg_nil {n : Nat} : dg n = [] ↔ n = 0 := by
  constructor
  · intro h; by_cases c : n = 0
    · exact c
    · rw [dg_pos c] at h; cases h
  · rintro rfl; exact dg_zero
theorem big_plus (a b : Int) (ha : sm a) (hb : sm b) : g_ref01_Plus ((), (big a, (big b, ()))) = some ((), (big (a + b), ())) := by
  have la := sm_len ha
  have lb := sm_len hb
  simp only [g_ref01_Plus, f_ref01_Plus_m, big]
  by_cases c : decide (a < 0) = decide (b < 0)
  · rw [show (decide (a < 0) == decide (b < 0)) = true by rw [c]; simp, plus_rows a.natAbs b.natAbs (by omega) (by omega)]
    simp only [cond_true, Option.bind_some]
    simp only [decide_eq_decide] at c
    rw [show (a + b).natAbs = a.natAbs + b.natAbs by omega, show decide (a + b < 0) = decide (a < 0) by simp only [decide_eq_decide]; omega]
  · rw [show (decide (a < 0) == decide (b < 0)) = false by simpa using c, less_rows a.natAbs b.natAbs (by omega) (by omega)]
    simp only [decide_eq_decide] at c
    simp only [cond_false, Option.bind_some]
    by_cases h : a.natAbs < b.natAbs
    · rw [decide_eq_true h, minus_rows b.natAbs a.natAbs (by omega) (by omega) (by omega)]
      simp only [cond_true, Option.bind_some]
      rw [show (a + b).natAbs = b.natAbs - a.natAbs by omega, show decide (a + b < 0) = decide (b < 0) by simp only [decide_eq_decide]; omega]
    · rw [decide_eq_false h, minus_rows a.natAbs b.natAbs (by omega) (by omega) (by omega)]
      simp only [cond_false, Option.bind_some]
      rw [show (a + b).natAbs = a.natAbs - b.natAbs by omega]
      by_cases hs : a < 0
      · rw [decide_eq_true hs]
        simp only [cond_true, gt_iff_lt]
        have : decide ((0 : Int) < ((dg (a.natAbs - b.natAbs)).length : Int)) = decide (a + b < 0) := by
          simp only [decide_eq_decide]
          constructor
          · intro h0
            have : dg (a.natAbs - b.natAbs) ≠ [] := fun e => by rw [e] at h0; simp at h0
            rw [Ne, dg_nil] at this; omega
          · intro h0
            have : dg (a.natAbs - b.natAbs) ≠ [] := by rw [Ne, dg_nil]; omega
            have := List.length_pos_iff.2 this; omega
        rw [this]
      · rw [decide_eq_false hs]
        simp only [cond_false]
        rw [decide_eq_false (show ¬ a + b < 0 by omega)]
theorem big_less (a b : Int) (ha : sm a) (hb : sm b) : g_ref01_Less ((), (big a, (big b, ()))) = some ((), ((decide (a < b), ()), ())) := by
  have la := sm_len ha
  have lb := sm_len hb
  simp only [g_ref01_Less, f_ref01_Less_m, big]
  by_cases h1 : a < 0 <;> by_cases h2 : b < 0 <;> simp only [h1, h2, decide_true, decide_false, Bool.not_true, Bool.not_false, beq_self_eq_true, show (true == false) = false from rfl, show (false == true) = false from rfl, cond_true, cond_false]
  · rw [less_rows b.natAbs a.natAbs (by omega) (by omega)]
    simp only [Option.bind_some]
    rw [show decide (b.natAbs < a.natAbs) = decide (a < b) by simp only [decide_eq_decide]; omega]
  · rw [decide_eq_true (show a < b by omega)]
  · rw [decide_eq_false (show ¬ a < b by omega)]
  · rw [less_rows a.natAbs b.natAbs (by omega) (by omega)]
    simp only [Option.bind_some]
    rw [show decide (a.natAbs < b.natAbs) = decide (a < b) by simp only [decide_eq_decide]; omega]
theorem small_p8 (a : Int) (ha : sm a) (hr : -9223372036854775808 ≤ a ∧ a ≤ 9223372036854775807) : ∀ (i : Nat) (n : Int), i ≤ (dg a.natAbs).length → n = (if a < 0 then -vl ((dg a.natAbs).drop i) else vl ((dg a.natAbs).drop i)) →
    Evn (fun j => (f_ref01_Small_t j).1 ((big a, ()), ((), ((n, ()), ((((i : Int) - 1), ()), ()))))) ((), ((a, ()), ((0, ()), ()))) := by
  obtain ⟨nr, vv⟩ := dg_spec a.natAbs
  have hok := nrm_ok nr
  have hl := sm_len ha
  intro i; induction i with
  | zero =>
    intro n _ h
    rw [List.drop_zero, vv] at h
    have : n = a := by rw [h]; split <;> omega
    subst this
    refine Evn.some 1 fun k => ?_
    simp only [t_ref01_Small, f_ref01_Small_p8, fitsS_dec, Option.bind_some, Option.isNone_none, Option.isNone_some, Option.isSome_none, Option.isSome_some, Bool.not_true, Bool.not_false, cond_true, cond_false, cond_dec, beq_int, bne_int, not_dec, ge_iff_le]
    rw [if_neg (by omega)]
  | succ i ih =>
    intro n hi h
    have hi' : i < (dg a.natAbs).length := by omega
    have hg : gd (.int .u64) (dg a.natAbs) (i : Int) = (dg a.natAbs)[i] := by simp [gd, hi']
    have hd : (dg a.natAbs).drop i = (dg a.natAbs)[i] :: (dg a.natAbs).drop (i + 1) := List.drop_eq_getElem_cons hi'
    have hx := hok _ (List.getElem_mem hi')
    have hv : vl ((dg a.natAbs).drop i) = (dg a.natAbs)[i] + 65536 * vl ((dg a.natAbs).drop (i + 1)) := by rw [hd]; rfl
    have okd : ∀ j, okD ((dg a.natAbs).drop j) := fun j x hx => hok x (List.mem_of_mem_drop hx)
    have hle : ∀ j, vl ((dg a.natAbs).drop j) ≤ a.natAbs := by
      intro j; rw [← vv]
      induction j with
      | zero => simp
      | succ j ihj =>
        have : vl ((dg a.natAbs).drop j) = ((dg a.natAbs).drop j).headD 0 + 65536 * vl ((dg a.natAbs).drop (j + 1)) := by
          rw [vl_head, (drop_headD _ j).2]
        have := (headD_ok (okd j)).1
        have := (vl_range (okd (j + 1))).1
        omega
    have h0 := hle i
    have h1 := (vl_range (okd (i + 1))).1
    rw [hv] at h0
    have e : ((i + 1 : Nat) : Int) - 1 = (i : Int) := by omega
    rw [e]
    have e4 : isub .i64 (i : Int) 1 = (i : Int) - 1 := isub_i64 (by omega)
    have e5 : iconv .i64 ((dg a.natAbs)[i]) = (dg a.natAbs)[i] := iconv_i64 (by omega)
    by_cases hs : a < 0
    · have := ih (n * 65536 - (dg a.natAbs)[i]) (by omega) (by rw [if_pos hs, hv]; rw [if_pos hs] at h; omega)
      refine this.step fun k => ?_
      rw [if_pos hs] at h
      simp only [t_ref01_Small, f_ref01_Small_p8, fitsS_dec, Option.bind_some, Option.isNone_none, Option.isNone_some, Option.isSome_none, Option.isSome_some, Bool.not_true, Bool.not_false, cond_true, cond_false, cond_dec, beq_int, bne_int, not_dec, ge_iff_le, hg, e4, e5, and_dec]
      rw [if_pos (by omega), if_pos hs, if_pos (by omega), imul_i64 (by omega), isub_i64 (by omega)]
    · have := ih (n * 65536 + (dg a.natAbs)[i]) (by omega) (by rw [if_neg hs, hv]; rw [if_neg hs] at h; omega)
      refine this.step fun k => ?_
      rw [if_neg hs] at h
      simp only [t_ref01_Small, f_ref01_Small_p8, fitsS_dec, Option.bind_some, Option.isNone_none, Option.isNone_some, Option.isSome_none, Option.isSome_some, Bool.not_true, Bool.not_false, cond_true, cond_false, cond_dec, beq_int, bne_int, not_dec, ge_iff_le, hg, e4, e5, and_dec]
      rw [if_pos (by omega), if_neg hs, if_pos (by omega), imul_i64 (by omega), iadd_i64 (by omega)]
theorem sm_of {a : Int} (h : -340282366920938463463374607431768211455 ≤ a ∧ a ≤ 340282366920938463463374607431768211455) : sm a := by
  unfold sm
  rw [show (65536 : Nat) ^ 8 = 340282366920938463463374607431768211456 by decide]
  omega
theorem big_small (a : Int) (ha : sm a) : g_ref01_Small ((), (big a, ())) = some ((), ((if -9223372036854775808 ≤ a ∧ a ≤ 9223372036854775807 then a else 0, ()), ((if -9223372036854775808 ≤ a ∧ a ≤ 9223372036854775807 then 0 else 5, ()), ()))) := by
  have l1 := big_less a (-9223372036854775808) ha (sm_of (by omega))
  have l2 := big_less 9223372036854775807 a (sm_of (by omega)) ha
  by_cases h : -9223372036854775808 ≤ a ∧ a ≤ 9223372036854775807
  · have hl := sm_len ha
    rw [if_pos h, if_pos h]
    have := small_p8 a ha h (dg a.natAbs).length 0 (Nat.le_refl _) (by rw [List.drop_length]; simp [vl])
    refine (this.cast fun k => ?_).lim
    simp only [f_ref01_Small_m, big_of _ (show -9223372036854775808 ≤ (-9223372036854775808 : Int) ∧ (-9223372036854775808 : Int) ≤ 9223372036854775807 by omega), big_of _ (show -9223372036854775808 ≤ (9223372036854775807 : Int) ∧ (9223372036854775807 : Int) ≤ 9223372036854775807 by omega), Option.bind_some]
    simp only [big] at l1 l2
    rw [l1]
    simp only [Option.bind_some, cond_dec]
    rw [if_neg (by omega), l2]
    simp only [Option.bind_some, cond_dec]
    rw [if_neg (by omega), isub_i64 (by omega)]
  · rw [if_neg h, if_neg h]
    refine (Evn.some 0 fun k => ?_).lim
    simp only [f_ref01_Small_m, big_of _ (show -9223372036854775808 ≤ (-9223372036854775808 : Int) ∧ (-9223372036854775808 : Int) ≤ 9223372036854775807 by omega), big_of _ (show -9223372036854775808 ≤ (9223372036854775807 : Int) ∧ (9223372036854775807 : Int) ≤ 9223372036854775807 by omega), Option.bind_some]
    simp only [big] at l1 l2
    rw [l1]
    simp only [Option.bind_some, cond_dec]
    by_cases c : a < -9223372036854775808
    · rw [if_pos c]
    · rw [if_neg c, l2]
      simp only [Option.bind_some, cond_dec]
      rw [if_pos (by omega)]
end Go.Proofs.YtfhaifiipjfffaaGreatDoor.Ev
