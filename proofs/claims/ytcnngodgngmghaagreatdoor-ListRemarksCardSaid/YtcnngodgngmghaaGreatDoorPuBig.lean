/- The reference's numbers of any size: rows of digits to the base 65536, and what its functions tell of them. -/
import Derived.Test.YtcnngodgngmghaaGreatDoorEvG
import Derived.Test.YtcnngodgngmghaaGreatDoorEvE
namespace Go.Proofs.YtcnngodgngmghaaGreatDoor.Ev
open Go
set_option linter.unusedVariables false
set_option linter.unusedSimpArgs false
def vl : List Int → Int
  | [] => 0
  | x :: l => x + 65536 * vl l
def okD (l : List Int) : Prop := ∀ x ∈ l, 0 ≤ x ∧ x < 65536
def nrm : List Int → Prop
  | [] => True
  | x :: l => (0 ≤ x ∧ x < 65536) ∧ nrm l ∧ (l = [] → x ≠ 0)
theorem nrm_ok : ∀ {l : List Int}, nrm l → okD l
  | [], _, x, h => by cases h
  | y :: l, ⟨h1, h2, _⟩, x, h => by
    rcases List.mem_cons.1 h with rfl | h
    · exact h1
    · exact nrm_ok h2 x h
theorem okD_tail {x : Int} {l : List Int} (h : okD (x :: l)) : (0 ≤ x ∧ x < 65536) ∧ okD l :=
  ⟨h x (List.mem_cons_self ..), fun y hy => h y (List.mem_cons_of_mem _ hy)⟩
theorem vl_range : ∀ {l : List Int}, okD l → 0 ≤ vl l ∧ vl l < 65536 ^ l.length
  | [], _ => by simp [vl]
  | x :: l, h => by
    obtain ⟨h1, h2⟩ := okD_tail h
    obtain ⟨i1, i2⟩ := vl_range h2
    have e : (65536 : Int) ^ (x :: l).length = 65536 ^ l.length * 65536 := by rw [List.length_cons, Int.pow_succ]
    rw [e]; unfold vl; omega
theorem nrm_eq : ∀ {l m : List Int}, nrm l → nrm m → vl l = vl m → l = m
  | [], [], _, _, _ => rfl
  | [], y :: m, _, hm, e => by
    have hm' := hm
    obtain ⟨h1, h2, h3⟩ := hm
    have := (vl_range (nrm_ok h2)).1
    unfold vl at e
    have e0 : vl m = 0 := by omega
    have : ([] : List Int) = m := nrm_eq trivial h2 (by rw [e0]; rfl)
    exact absurd (by omega) (h3 this.symm)
  | x :: l, [], hl, _, e => by
    obtain ⟨h1, h2, h3⟩ := hl
    have := (vl_range (nrm_ok h2)).1
    unfold vl at e
    have e0 : vl l = 0 := by omega
    have : l = ([] : List Int) := nrm_eq h2 trivial (by rw [e0]; rfl)
    exact absurd (by omega) (h3 this)
  | x :: l, y :: m, hl, hm, e => by
    obtain ⟨h1, h2, _⟩ := hl
    obtain ⟨k1, k2, _⟩ := hm
    unfold vl at e
    have : l = m := nrm_eq h2 k2 (by omega)
    subst this
    rw [show x = y by omega]
/-- A number's digits. -/
def dg (n : Nat) : List Int := if h : n = 0 then [] else ((n % 65536 : Nat) : Int) :: dg (n / 65536)
termination_by n
decreasing_by omega
theorem dg_zero : dg 0 = [] := by rw [dg]; rfl
theorem dg_pos {n : Nat} (h : n ≠ 0) : dg n = ((n % 65536 : Nat) : Int) :: dg (n / 65536) := by rw [dg]; rw [dif_neg h]
theorem dg_spec (n : Nat) : nrm (dg n) ∧ vl (dg n) = n := by
  induction n using Nat.strongRecOn with
  | _ n ih =>
    by_cases h : n = 0
    · subst h; rw [dg_zero]; exact ⟨trivial, rfl⟩
    · obtain ⟨i1, i2⟩ := ih (n / 65536) (by omega)
      rw [dg_pos h]
      refine ⟨⟨by omega, i1, fun e => ?_⟩, ?_⟩
      · rw [e] at i2; unfold vl at i2; omega
      · unfold vl; rw [i2]; omega
theorem dg_len : ∀ (k n : Nat), n < 65536 ^ k → (dg n).length ≤ k
  | 0, n, h => by
    have : n = 0 := by simp at h; exact h
    subst this; rw [dg_zero]; simp
  | k + 1, n, h => by
    by_cases h0 : n = 0
    · subst h0; rw [dg_zero]; simp
    · rw [dg_pos h0, List.length_cons]
      have := dg_len k (n / 65536) (Nat.div_lt_of_lt_mul (by rw [Nat.mul_comm, ← Nat.pow_succ]; exact h))
      omega
theorem dg_of {l : List Int} (h : nrm l) {n : Nat} (e : vl l = n) : l = dg n := nrm_eq h (dg_spec n).1 (by rw [(dg_spec n).2, e])
/-- A number, as the reference has it. -/
@[reducible] def big (a : Int) : Bool × (List Int × Unit) := (decide (a < 0), (dg a.natAbs, ()))
/-- Numbers with at most eight digits. -/
def sm (a : Int) : Prop := a.natAbs < 65536 ^ 8
theorem sm_len {a : Int} (h : sm a) : (dg a.natAbs).length ≤ 8 := dg_len 8 _ h
theorem drop_nil {l : List Int} {i : Nat} (h : l.length ≤ i) : l.drop i = [] := List.drop_eq_nil_of_le h
theorem room8 {n m : Nat} (h : n ≤ 100) (h' : m ≤ 100) : decide (((n + m) * 8 : Nat) ≤ 140737488355328) = true ∧ decide (n + m ≤ 9223372036854775807) = true :=
  ⟨decide_eq_true (by omega), decide_eq_true (by omega)⟩
/-- Sums of rows. -/
def plusL : List Int → List Int → Int → List Int
  | x :: a, y :: b, c => (x + y + c) % 65536 :: plusL a b ((x + y + c) / 65536)
  | x :: a, [], c => (x + c) % 65536 :: plusL a [] ((x + c) / 65536)
  | [], y :: b, c => (y + c) % 65536 :: plusL [] b ((y + c) / 65536)
  | [], [], c => if c > 0 then [c] else []
theorem plusL_vl : ∀ (a b : List Int) (c : Int), okD a → okD b → 0 ≤ c → vl (plusL a b c) = vl a + vl b + c
  | x :: a, y :: b, c, ha, hb, h => by
    obtain ⟨a1, a2⟩ := okD_tail ha
    obtain ⟨b1, b2⟩ := okD_tail hb
    unfold plusL; unfold vl; rw [plusL_vl a b _ a2 b2 (by omega)]; omega
  | x :: a, [], c, ha, hb, h => by
    obtain ⟨a1, a2⟩ := okD_tail ha
    unfold plusL; unfold vl; rw [plusL_vl a [] _ a2 hb (by omega)]; simp only [vl]; omega
  | [], y :: b, c, ha, hb, h => by
    obtain ⟨b1, b2⟩ := okD_tail hb
    unfold plusL; unfold vl; rw [plusL_vl [] b _ ha b2 (by omega)]; simp only [vl]; omega
  | [], [], c, _, _, h => by unfold plusL; split <;> simp [vl] <;> omega
theorem plusL_nil {a b : List Int} {c : Int} (h : plusL a b c = []) (hc : 0 ≤ c) : a = [] ∧ b = [] ∧ c = 0 := by
  cases a with
  | nil => cases b with
    | nil => unfold plusL at h; split at h
             · cases h
             · exact ⟨rfl, rfl, by omega⟩
    | cons y b => unfold plusL at h; cases h
  | cons x a => cases b <;> (unfold plusL at h; cases h)
theorem plusL_nrm : ∀ (a b : List Int) (c : Int), nrm a → nrm b → 0 ≤ c → c ≤ 1 → nrm (plusL a b c)
  | x :: a, y :: b, c, ⟨a1, a2, a3⟩, ⟨b1, b2, b3⟩, h, h' => by
    unfold plusL
    refine ⟨by omega, plusL_nrm a b _ a2 b2 (by omega) (by omega), fun e => ?_⟩
    obtain ⟨rfl, rfl, e⟩ := plusL_nil e (by omega)
    have := a3 rfl; omega
  | x :: a, [], c, ⟨a1, a2, a3⟩, hb, h, h' => by
    unfold plusL
    refine ⟨by omega, plusL_nrm a [] _ a2 hb (by omega) (by omega), fun e => ?_⟩
    obtain ⟨rfl, _, e⟩ := plusL_nil e (by omega)
    have := a3 rfl; omega
  | [], y :: b, c, ha, ⟨b1, b2, b3⟩, h, h' => by
    unfold plusL
    refine ⟨by omega, plusL_nrm [] b _ ha b2 (by omega) (by omega), fun e => ?_⟩
    obtain ⟨_, rfl, e⟩ := plusL_nil e (by omega)
    have := b3 rfl; omega
  | [], [], c, _, _, h, h' => by
    unfold plusL; split
    · exact ⟨by omega, trivial, fun _ => by omega⟩
    · trivial
theorem plusL_digit {a b : List Int} {c : Int} {i : Nat} (ha : okD a) (hb : okD b) (hc : 0 ≤ c ∧ c ≤ 1) (h : i < a.length ∨ i < b.length ∨ 0 < c) :
    plusL (a.drop i) (b.drop i) c = (a.getD i 0 + b.getD i 0 + c) % 65536 :: plusL (a.drop (i + 1)) (b.drop (i + 1)) ((a.getD i 0 + b.getD i 0 + c) / 65536) := by
  by_cases h1 : i < a.length
  · rw [List.drop_eq_getElem_cons h1, show a.getD i 0 = a[i] by simp [h1]]
    by_cases h2 : i < b.length
    · rw [List.drop_eq_getElem_cons h2, show b.getD i 0 = b[i] by simp [h2], plusL]
    · rw [drop_nil (i := i) (l := b) (by omega), drop_nil (i := i + 1) (l := b) (by omega), show b.getD i 0 = 0 by simp [List.getD_eq_getElem?_getD, List.getElem?_eq_none (Nat.le_of_not_lt h2)]]
      rw [Int.add_zero, plusL]
  · rw [drop_nil (i := i) (l := a) (by omega), drop_nil (i := i + 1) (l := a) (by omega), show a.getD i 0 = 0 by simp [List.getD_eq_getElem?_getD, List.getElem?_eq_none (Nat.le_of_not_lt h1)]]
    by_cases h2 : i < b.length
    · rw [List.drop_eq_getElem_cons h2, show b.getD i 0 = b[i] by simp [h2], Int.zero_add, plusL]
    · rw [drop_nil (i := i) (l := b) (by omega), drop_nil (i := i + 1) (l := b) (by omega), show b.getD i 0 = 0 by simp [List.getD_eq_getElem?_getD, List.getElem?_eq_none (Nat.le_of_not_lt h2)]]
      rw [show (0 : Int) + 0 + c = c by omega]
      rw [plusL, if_pos (by omega), plusL, if_neg (by omega), show c % 65536 = c by omega]
theorem getD_ok {l : List Int} (h : okD l) (i : Nat) : 0 ≤ l.getD i 0 ∧ l.getD i 0 < 65536 := by
  by_cases h1 : i < l.length
  · rw [show l.getD i 0 = l[i] by simp [h1]]; exact h _ (List.getElem_mem _)
  · rw [show l.getD i 0 = 0 by simp [List.getD_eq_getElem?_getD, List.getElem?_eq_none (Nat.le_of_not_lt h1)]]; omega
theorem vl_take_succ : ∀ (l : List Int) (i : Nat), vl (l.take (i + 1)) = vl (l.take i) + 65536 ^ i * l.getD i 0
  | [], i => by simp [vl]
  | x :: l, 0 => by simp [vl]
  | x :: l, i + 1 => by
    rw [List.take_succ_cons, List.take_succ_cons]; unfold vl
    rw [vl_take_succ l i, List.getD_cons_succ, Int.mul_add, ← Int.mul_assoc, Int.mul_comm 65536 (65536 ^ i), show (65536 : Int) ^ (i + 1) = 65536 ^ i * 65536 from Int.pow_succ ..]; omega
theorem okD_take {l : List Int} (h : okD l) (i : Nat) : okD (l.take i) := fun x hx => h x (List.mem_of_mem_take hx)
theorem vl_take_range {l : List Int} (h : okD l) (i : Nat) : 0 ≤ vl (l.take i) ∧ vl (l.take i) < 65536 ^ i := by
  induction i with
  | zero => simp [vl]
  | succ i ih =>
    have d := getD_ok h i
    have hp : (0 : Int) < 65536 ^ i := Int.pow_pos (by decide)
    rw [vl_take_succ, show (65536 : Int) ^ (i + 1) = 65536 ^ i * 65536 from Int.pow_succ ..]
    generalize l.getD i 0 = x at *
    generalize (65536 : Int) ^ i = q at *
    have h1 : 0 ≤ q * x := Int.mul_nonneg (by omega) (by omega)
    have h2 : q * x ≤ q * 65535 := Int.mul_le_mul_of_nonneg_left (by omega) (by omega)
    omega
/-- Digits without noughts at the end. -/
def cutL : List Int → List Int
  | [] => []
  | x :: l => if cutL l = [] ∧ x = 0 then [] else x :: cutL l
theorem cutL_zero : ∀ (l : List Int), cutL (l ++ [0]) = cutL l
  | [] => by simp [cutL]
  | x :: l => by rw [List.cons_append]; unfold cutL; rw [cutL_zero l]
theorem cutL_nz : ∀ (l : List Int) {z : Int}, z ≠ 0 → cutL (l ++ [z]) = l ++ [z]
  | [], z, h => by simp [cutL, h]
  | x :: l, z, h => by rw [List.cons_append]; unfold cutL; rw [cutL_nz l h, if_neg (by simp)]
theorem cutL_vl : ∀ (l : List Int), vl (cutL l) = vl l
  | [] => rfl
  | x :: l => by
    unfold cutL
    have := cutL_vl l
    split
    · rename_i h; rw [h.1] at this; unfold vl; rw [← this, h.2]; simp [vl]
    · unfold vl; rw [this]
theorem cutL_nrm : ∀ {l : List Int}, okD l → nrm (cutL l)
  | [], _ => trivial
  | x :: l, h => by
    obtain ⟨h1, h2⟩ := okD_tail h
    unfold cutL
    split
    · trivial
    · rename_i h'
      exact ⟨h1, cutL_nrm h2, fun e e0 => h' ⟨e, e0⟩⟩
/-- Differences of rows. -/
def minusL : List Int → List Int → Int → List Int
  | [], _, _ => []
  | x :: a, b, c => (65536 + x - b.headD 0 - c) % 65536 :: minusL a b.tail (1 - (65536 + x - b.headD 0 - c) / 65536)
theorem minusL_len : ∀ (a b : List Int) (c : Int), (minusL a b c).length = a.length
  | [], _, _ => rfl
  | x :: a, b, c => by unfold minusL; rw [List.length_cons, List.length_cons, minusL_len]
theorem minusL_ok : ∀ (a b : List Int) (c : Int), okD (minusL a b c)
  | [], _, _, x, h => by cases h
  | x :: a, b, c, y, h => by
    unfold minusL at h
    rcases List.mem_cons.1 h with rfl | h
    · omega
    · exact minusL_ok a _ _ y h
theorem okD_nil : okD [] := fun x h => by cases h
theorem vl_head {b : List Int} : vl b = b.headD 0 + 65536 * vl b.tail := by cases b <;> simp [vl]
theorem headD_ok {b : List Int} (h : okD b) : (0 ≤ b.headD 0 ∧ b.headD 0 < 65536) ∧ okD b.tail := by
  cases b with
  | nil => exact ⟨by simp, okD_nil⟩
  | cons y b => exact okD_tail h
/-- What is lent at the end. -/
theorem minusL_vl : ∀ (a b : List Int) (c : Int), okD a → okD b → 0 ≤ c ∧ c ≤ 1 → ∃ q : Int, vl (minusL a b c) = vl a - vl b - c + 65536 ^ a.length * q
  | [], b, c, _, _, _ => ⟨vl b + c, by simp [minusL, vl]; omega⟩
  | x :: a, b, c, ha, hb, hc => by
    obtain ⟨a1, a2⟩ := okD_tail ha
    obtain ⟨b1, b2⟩ := headD_ok hb
    obtain ⟨q, hq⟩ := minusL_vl a b.tail (1 - (65536 + x - b.headD 0 - c) / 65536) a2 b2 (by omega)
    refine ⟨q, ?_⟩
    have e1 : vl (x :: a) = x + 65536 * vl a := rfl
    have e2 : vl (minusL (x :: a) b c) = (65536 + x - b.headD 0 - c) % 65536 + 65536 * vl (minusL a b.tail (1 - (65536 + x - b.headD 0 - c) / 65536)) := by rw [minusL]; rfl
    rw [e2, e1, hq, List.length_cons, show (65536 : Int) ^ (a.length + 1) = 65536 ^ a.length * 65536 from Int.pow_succ .., vl_head (b := b), Int.mul_comm (65536 ^ a.length) 65536, Int.mul_assoc]
    generalize 65536 ^ a.length * q = w
    omega
theorem drop_headD (b : List Int) (i : Nat) : (b.drop i).headD 0 = b.getD i 0 ∧ (b.drop i).tail = b.drop (i + 1) := by
  constructor
  · rw [List.headD_eq_head?_getD, List.head?_drop, List.getD_eq_getElem?_getD]
  · rw [List.tail_drop]
theorem dg_nil {n : Nat} : dg n = [] ↔ n = 0 := by
  constructor
  · intro h; by_cases c : n = 0
    · exact c
    · rw [dg_pos c] at h; cases h
  · rintro rfl; exact dg_zero
theorem sm_of {a : Int} (h : -340282366920938463463374607431768211455 ≤ a ∧ a ≤ 340282366920938463463374607431768211455) : sm a := by
  unfold sm
  rw [show (65536 : Nat) ^ 8 = 340282366920938463463374607431768211456 by decide]
  omega
end Go.Proofs.YtcnngodgngmghaaGreatDoor.Ev
