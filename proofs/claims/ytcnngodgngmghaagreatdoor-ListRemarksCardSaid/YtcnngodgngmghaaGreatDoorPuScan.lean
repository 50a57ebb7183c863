/- The reader of texts: where it stands, and what its steps do. -/
import Derived.Test.YtcnngodgngmghaaGreatDoorPuTake
namespace Go.Proofs.YtcnngodgngmghaaGreatDoor.Ev
open Go
set_option linter.unusedVariables false
set_option linter.unusedSimpArgs false
/-- A reader: what is left of the text, or where and with what error it stopped. -/
inductive X
  | good (l : List Int)
  | bad (i : Nat) (c : Int)
def X.at (n : Nat) : X → Int
  | .good l => ((n - l.length : Nat) : Int)
  | .bad i _ => (i : Int)
def X.er : X → Option Int
  | .good _ => none
  | .bad _ c => some c
def X.rest : X → List Int
  | .good l => l
  | .bad _ _ => []
def X.wf (s : ByteArray) : X → Prop
  | .good l => ∃ p, bytesOf s = p ++ l
  | .bad i _ => i ≤ s.size
@[reducible] def X.t (s : ByteArray) (x : X) : (ByteArray × (Int × (Option Int × Unit))) × Unit := ((s, (x.at s.size, (x.er, ()))), ())
@[reducible] def X.p (s : ByteArray) (x : X) : Option (ByteArray × (Int × Option Int)) := some (s, (x.at s.size, x.er))
theorem X.wf_good {s : ByteArray} {l : List Int} (h : X.wf s (.good l)) : okBy l ∧ l.length ≤ s.size ∧ (bytesOf s).drop (s.size - l.length) = l := by
  obtain ⟨p, hp⟩ := h
  have hl := by_len s
  rw [hp, List.length_append] at hl
  refine ⟨fun x hx => by_ok s x (by rw [hp]; exact List.mem_append_right _ hx), by omega, ?_⟩
  rw [hp, show s.size - l.length = p.length by omega, List.drop_left]
theorem X.at_range {s : ByteArray} {x : X} (h : x.wf s) : 0 ≤ x.at s.size ∧ x.at s.size ≤ s.size := by
  cases x with
  | good l => simp only [X.at]; omega
  | bad i c => simp only [X.at, X.wf] at *; omega
theorem X.ok_rest {s : ByteArray} {x : X} (h : x.wf s) : okBy x.rest ∧ x.rest.length ≤ s.size := by
  cases x with
  | good l => exact ⟨(X.wf_good h).1, (X.wf_good h).2.1⟩
  | bad i c => exact ⟨(fun x hx => by cases hx), Nat.zero_le _⟩
theorem X.wf_cut {s : ByteArray} {l : List Int} (h : X.wf s (.good l)) (k : Nat) : X.wf s (.good (l.drop k)) := by
  obtain ⟨p, hp⟩ := h
  exact ⟨p ++ l.take k, by rw [hp, List.append_assoc, List.take_append_drop]⟩
theorem sc_nil : (⟨#[]⟩ : ByteArray) = strOf [] := by kernel_rfl
theorem scan_new (s : ByteArray) : g_scan_New_string ((), ((s, ()), ())) = some ((X.good (bytesOf s)).t s, ((), ())) := by
  simp only [g_scan_New_string, f_scan_New_string_m, X.t, X.at, X.er, by_len, Nat.sub_self]; rfl
theorem X.wf_new (s : ByteArray) : X.wf s (.good (bytesOf s)) := ⟨[], rfl⟩
theorem scan_rest (s : ByteArray) (x : X) (h : x.wf s) : g_scan_Scanner_string_rest ((), ((x.p s, ()), ())) = some ((), ((strOf x.rest, ()), ())) := by
  cases x with
  | good l =>
    obtain ⟨h1, h2, h3⟩ := X.wf_good h
    simp only [g_scan_Scanner_string_rest, f_scan_Scanner_string_rest_m, X.p, X.at, X.er, X.rest, fitsS_dec, Option.bind_some, Option.isNone_none, Option.isNone_some, Option.isSome_none, Option.isSome_some, Bool.not_true, Bool.not_false, cond_true, cond_false, cond_dec, beq_int, bne_int, not_dec, and_dec, Int.toNat_natCast]
    rw [if_pos (by omega)]
    congr 4
    apply by_inj
    rw [by_cut, by_str h1]
    rw [show s.size = (bytesOf s).length from (by_len s).symm, List.take_length, by_len s, h3]
  | bad i c =>
    simp only [g_scan_Scanner_string_rest, f_scan_Scanner_string_rest_m, X.p, X.at, X.er, X.rest, fitsS_dec, Option.bind_some, Option.isNone_none, Option.isNone_some, Option.isSome_none, Option.isSome_some, Bool.not_true, Bool.not_false, cond_true, cond_false, cond_dec, beq_int, bne_int, not_dec, sc_nil]
theorem str_emp (l : List Int) : ((strOf l).toList == (strOf []).toList) = decide (l = []) := by
  cases l with
  | nil => simp
  | cons x l =>
    rw [str_eq]
    have : (bytesOf (strOf (x :: l))).length ≠ 0 := by rw [by_len, str_size]; simp
    rw [decide_eq_decide]
    constructor
    · intro q; rw [q] at this; exact absurd rfl this
    · intro q; cases q
theorem scan_peek (s : ByteArray) (x : X) (h : x.wf s) : g_scan_Scanner_string_Peek ((), ((x.p s, ()), ())) = some ((), ((x.rest.headD 0, ()), ((decide (x.rest ≠ []), ()), ()))) := by
  simp only [g_scan_Scanner_string_Peek, f_scan_Scanner_string_Peek_m, scan_rest s x h, fitsS_dec, Option.bind_some, Option.isNone_none, Option.isNone_some, Option.isSome_none, Option.isSome_some, Bool.not_true, Bool.not_false, cond_true, cond_false, cond_dec, beq_int, bne_int, not_dec, sc_nil, str_emp]
  have ho := (X.ok_rest h).1
  cases hr : x.rest with
  | nil => simp
  | cons a l =>
    rw [hr] at ho
    have hb := by_at (strOf (a :: l)) (i := 0) (by omega) (by rw [str_size]; simp)
    rw [by_str ho] at hb
    simp only [hb, str_size, and_dec, fitsS_dec, Option.bind_some, Option.isNone_none, Option.isNone_some, Option.isSome_none, Option.isSome_some, Bool.not_true, Bool.not_false, cond_true, cond_false, cond_dec, beq_int, bne_int, not_dec, List.length_cons]
    rw [if_neg (by simp), if_pos (by omega)]
    simp
theorem scan_going (s : ByteArray) (x : X) : g_scan_Scanner_string_going ((), ((x.p s, ()), ())) = some ((), ((x.er.isNone, ()), ())) := by
  simp only [g_scan_Scanner_string_going, f_scan_Scanner_string_going_m, X.p, fitsS_dec, Option.bind_some, Option.isNone_none, Option.isNone_some, Option.isSome_none, Option.isSome_some, Bool.not_true, Bool.not_false, cond_true, cond_false, cond_dec, beq_int, bne_int, not_dec]
theorem scan_err (s : ByteArray) (x : X) : g_scan_Scanner_string_Err ((), ((x.p s, ()), ())) = some ((), ((x.er, ()), ())) := by
  simp only [g_scan_Scanner_string_Err, f_scan_Scanner_string_Err_m, X.p, fitsS_dec, Option.bind_some, Option.isNone_none, Option.isNone_some, Option.isSome_none, Option.isSome_some, Bool.not_true, Bool.not_false, cond_true, cond_false, cond_dec, beq_int, bne_int, not_dec]
theorem scan_left (s : ByteArray) (x : X) (h : x.wf s) : g_scan_Scanner_string_Left ((), ((x.p s, ()), ())) = some ((), (((x.rest.length : Int), ()), ())) := by
  simp only [g_scan_Scanner_string_Left, f_scan_Scanner_string_Left_m, scan_rest s x h, fitsS_dec, Option.bind_some, Option.isNone_none, Option.isNone_some, Option.isSome_none, Option.isSome_some, Bool.not_true, Bool.not_false, cond_true, cond_false, cond_dec, beq_int, bne_int, not_dec, str_size]
/-- What End tells. -/
def X.end : X → Option Int
  | .good l => if l = [] then none else some 2
  | .bad _ c => some c
theorem scan_end (s : ByteArray) (x : X) (h : x.wf s) : g_scan_Scanner_string_End ((), ((x.p s, ()), ())) = some ((), ((x.end, ()), ())) := by
  simp only [g_scan_Scanner_string_End, f_scan_Scanner_string_End_m, scan_err, scan_left s x h, fitsS_dec, Option.bind_some, Option.isNone_none, Option.isNone_some, Option.isSome_none, Option.isSome_some, Bool.not_true, Bool.not_false, cond_true, cond_false, cond_dec, beq_int, bne_int, not_dec]
  cases x with
  | good l =>
    cases l with
    | nil => simp [X.er, X.rest, X.end]
    | cons a l => simp [X.er, X.rest, X.end]
  | bad i c => simp [X.er, X.end]
theorem sc_clone (l : List Int) (h : l.length ≤ 1000000) : g_strings_Clone ((), ((strOf l, ()), ())) = some ((), ((strOf l, ()), ())) := by
  have : g_internal_stringslite_Clone ((), ((strOf l, ()), ())) = some ((), ((strOf l, ()), ())) := by
    show lib_clone _ = _
    unfold lib_clone
    rw [if_pos (by simp only [str_size]; omega)]
  simp only [g_strings_Clone, f_strings_Clone_m, this, fitsS_dec, Option.bind_some, Option.isNone_none, Option.isNone_some, Option.isSome_none, Option.isSome_some, Bool.not_true, Bool.not_false, cond_true, cond_false, cond_dec, beq_int, bne_int, not_dec]
/-- Some of what is left, taken. -/
def takeX (k : Nat) : X → X
  | .good l => .good (l.drop k)
  | .bad i c => .bad i c
theorem takeX_wf {s : ByteArray} {x : X} (h : x.wf s) (k : Nat) : (takeX k x).wf s := by
  cases x with
  | good l => exact X.wf_cut h k
  | bad i c => exact h
theorem scan_take (s : ByteArray) (x : X) (h : x.wf s) (hs : s.size ≤ 1000000) (k : Nat) (hk : k ≤ x.rest.length) : g_scan_Scanner_string_take_io (x.t s, ((), (((k : Int), ()), ()))) = some ((takeX k x).t s, ((strOf (x.rest.take k), ()), ((), ()))) := by
  have ho := X.ok_rest h
  have hr := X.at_range h
  have hc := sc_clone (x.rest.take k) (by rw [List.length_take]; omega)
  simp only [g_scan_Scanner_string_take_io, f_scan_Scanner_string_take_io_m, X.t, scan_rest s x h, fitsS_dec, Option.bind_some, Option.isNone_none, Option.isNone_some, Option.isSome_none, Option.isSome_some, Bool.not_true, Bool.not_false, cond_true, cond_false, cond_dec, beq_int, bne_int, not_dec, str_size, str_cut, List.drop_zero, Int.toNat_natCast, show (0 : Int).toNat = 0 from rfl, and_dec, hc, gt_iff_lt]
  rw [if_pos (by omega)]
  by_cases c : k = 0
  · subst c
    rw [if_neg (by omega)]
    cases x <;> simp only [takeX, List.drop_zero]
  · rw [if_pos (by omega)]
    cases x with
    | good l =>
      simp only [takeX, X.at, X.er, X.rest, List.length_drop] at *
      rw [iadd_i64 (by omega)]
      congr 5
      omega
    | bad i q => simp only [X.rest, List.length_nil] at hk; omega
/-- One byte, if it is that one. -/
def oneX (c : Int) (x : X) : Bool := decide (x.rest.head? = some c)
theorem scan_Take (s : ByteArray) (x : X) (h : x.wf s) (hs : s.size ≤ 1000000) (c : Int) : g_scan_Scanner_string_Take_io (x.t s, ((), ((c, ()), ()))) = some ((if oneX c x then takeX 1 x else x).t s, ((oneX c x, ()), ((), ()))) := by
  simp only [g_scan_Scanner_string_Take_io, f_scan_Scanner_string_Take_io_m, X.t, scan_peek s x h, fitsS_dec, Option.bind_some, Option.isNone_none, Option.isNone_some, Option.isSome_none, Option.isSome_some, Bool.not_true, Bool.not_false, cond_true, cond_false, cond_dec, beq_int, bne_int, not_dec]
  unfold oneX
  cases hr : x.rest with
  | nil => simp
  | cons a l =>
    have ht := scan_take s x h hs 1 (by rw [hr]; simp)
    simp only [X.t] at ht
    by_cases e : a = c
    · subst e
      simp only [List.headD_cons, List.head?_cons, ne_eq, reduceCtorEq, not_false_eq_true, decide_true, not_true_eq_false, if_false, if_true]
      rw [show (1 : Int) = ((1 : Nat) : Int) from rfl, ht]
      simp only [Option.bind_some]
    · have e2 : ¬ (some a = some c) := fun q => e (Option.some.inj q)
      simp only [List.headD_cons, List.head?_cons, ne_eq, reduceCtorEq, not_false_eq_true, decide_true, not_true_eq_false, if_false, e, if_true, e2, decide_false, Bool.false_eq_true]
/-- A stop, with an error. -/
def failX (n : Nat) (c : Int) : X → X
  | .good l => .bad (n - l.length) c
  | .bad i q => .bad i q
theorem failX_wf {s : ByteArray} {x : X} (h : x.wf s) (c : Int) : (failX s.size c x).wf s := by
  cases x with
  | good l => exact Nat.sub_le _ _
  | bad i q => exact h
theorem scan_fail (s : ByteArray) (x : X) (c : Int) : g_scan_Scanner_string_Fail_io (x.t s, ((), ((some c, ()), ()))) = some ((failX s.size c x).t s, ((), ())) := by
  simp only [g_scan_Scanner_string_Fail_io, f_scan_Scanner_string_Fail_io_m, X.t, scan_going, fitsS_dec, Option.bind_some, Option.isNone_none, Option.isNone_some, Option.isSome_none, Option.isSome_some, Bool.not_true, Bool.not_false, cond_true, cond_false, cond_dec, beq_int, bne_int, not_dec]
  cases x with
  | good l => simp [X.er, failX, X.at]
  | bad i q => simp [X.er, failX, X.at]
/-- Figures, at least so many and at most so many. -/
def figX (n a b : Nat) : X → X × Int
  | .good l => if a ≤ min (lead l) b then (.good (l.drop (min (lead l) b)), val10 (l.take (min (lead l) b))) else (.bad (n - l.length) 2, 0)
  | .bad i c => (.bad i c, 0)
theorem figX_wf {s : ByteArray} {x : X} (h : x.wf s) (a b : Nat) : (figX s.size a b x).1.wf s := by
  cases x with
  | good l =>
    simp only [figX]
    split
    · exact X.wf_cut h _
    · exact Nat.sub_le _ _
  | bad i q => exact h
theorem sc_lead_figs {l : List Int} {k : Nat} (h : k ≤ lead l) : ∀ x ∈ l.take k, isF x := by
  intro x hx
  obtain ⟨i, hi, rfl⟩ := List.getElem_of_mem hx
  have hl := lead_le l
  rw [List.length_take] at hi
  have := lead_at (l := l) (i := i) (by omega)
  rw [List.getElem_take]
  rwa [List.getD_eq_getElem?_getD, List.getElem?_eq_getElem (by omega)] at this
theorem figX_val (n a b : Nat) (hb : b ≤ 18) (x : X) : 0 ≤ (figX n a b x).2 ∧ (figX n a b x).2 < 10 ^ b := by
  have p1 : (0 : Int) < 10 ^ b := Int.pow_pos (by decide)
  cases x with
  | good l =>
    simp only [figX]
    split
    · have := val10_range _ (l.take (min (lead l) b)) rfl (sc_lead_figs (Nat.min_le_left _ _))
      refine ⟨this.1, Int.lt_of_lt_of_le this.2 ?_⟩
      have h2 : (l.take (min (lead l) b)).length ≤ b := by rw [List.length_take]; omega
      have : 10 ^ (l.take (min (lead l) b)).length ≤ 10 ^ b := Nat.pow_le_pow_right (by omega) h2
      exact_mod_cast this
    · exact ⟨Int.le_refl _, p1⟩
  | bad i q => exact ⟨Int.le_refl _, p1⟩
theorem sc_Take (l : List Int) (ho : okBy l) (hs : l.length ≤ 1000000) (a b : Nat) (h : 1 ≤ a ∧ a ≤ b ∧ b ≤ 18) : g_figures_Take ((), ((strOf l, ()), (((a : Int), ()), (((b : Int), ()), ())))) =
    if a ≤ min (lead l) b then some ((), ((val10 (l.take (min (lead l) b)), ()), ((((min (lead l) b : Nat) : Int), ()), ((none, ()), ())))) else some ((), ((0, ()), ((0, ()), ((some 2, ()), ())))) := by
  have hf := fig_take (strOf l) (by rw [str_size]; exact hs) a b 9223372036854775807 (by omega)
  have hv := figX_val 0 a b h.2.2 (.good l)
  have hp : (10 : Int) ^ b ≤ 10 ^ 18 := by
    have : 10 ^ b ≤ 10 ^ 18 := Nat.pow_le_pow_right (by omega) h.2.2
    exact_mod_cast this
  simp only [g_figures_Take, f_figures_Take_m, hf, Option.bind_some]
  unfold takeE takeK cutV
  simp only [by_str ho, Int.toNat_natCast]
  simp only [figX] at hv
  by_cases c : a ≤ min (lead l) b
  · rw [if_pos c] at hv
    simp only at hv
    rw [if_neg (show ¬((a : Int) < 1 ∨ (b : Int) < a ∨ 20 < (b : Int)) by omega), if_neg (show ¬(((min (lead l) b : Nat) : Int) < a) by omega), if_pos (show val10 (l.take (min (lead l) b)) ≤ 9223372036854775807 by omega), if_pos c, if_pos rfl, if_pos rfl, iconv_i64 (by omega)]; rfl
  · rw [if_neg (show ¬((a : Int) < 1 ∨ (b : Int) < a ∨ 20 < (b : Int)) by omega), if_pos (show ((min (lead l) b : Nat) : Int) < a by omega), if_neg c, if_neg (by decide), if_neg (by decide)]; rfl
theorem scan_figures (s : ByteArray) (x : X) (h : x.wf s) (hs : s.size ≤ 1000000) (a b : Nat) (hab : 1 ≤ a ∧ a ≤ b ∧ b ≤ 18) : g_scan_Scanner_string_Figures_io (x.t s, ((), (((a : Int), ()), (((b : Int), ()), ())))) = some ((figX s.size a b x).1.t s, (((figX s.size a b x).2, ()), ((), ()))) := by
  simp only [g_scan_Scanner_string_Figures_io, f_scan_Scanner_string_Figures_io_m, X.t, scan_going, scan_rest s x h, fitsS_dec, Option.bind_some, Option.isNone_none, Option.isNone_some, Option.isSome_none, Option.isSome_some, Bool.not_true, Bool.not_false, cond_true, cond_false, cond_dec, beq_int, bne_int, not_dec]
  cases x with
  | good l =>
    obtain ⟨h1, h2, h3⟩ := X.wf_good h
    have hf := sc_Take l h1 (by omega) a b hab
    have hll := lead_le l
    simp only [X.er, X.rest, Option.isNone_none, Bool.not_true, cond_false, hf]
    by_cases c : a ≤ min (lead l) b
    · have ht := scan_take s (.good l) h hs (min (lead l) b) (by simp only [X.rest]; omega)
      simp only [X.t, X.er] at ht
      simp only [if_pos c, Option.bind_some, Option.isNone_none, Bool.not_true, cond_false, ht, figX, X.er]; simp [takeX, X.er]
    · simp only [if_neg c, Option.bind_some, figX, X.er, X.at]; simp
  | bad i c => simp [X.er, figX, X.at]
end Go.Proofs.YtcnngodgngmghaaGreatDoor.Ev
