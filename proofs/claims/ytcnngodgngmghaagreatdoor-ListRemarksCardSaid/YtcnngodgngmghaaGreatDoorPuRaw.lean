/- The figures of a number, by the program and by its reference. -/
import Derived.Test.YtcnngodgngmghaaGreatDoorEvG
import Derived.Test.YtcnngodgngmghaaGreatDoorPuStr
namespace Go.Proofs.YtcnngodgngmghaaGreatDoor.Ev
open Go
set_option linter.unusedVariables false
set_option linter.unusedSimpArgs false
/-! ### a row turned round -/
/-- Its ends are turned, i of them. -/
def Turned (l c : List Int) (i : Nat) : Prop := c.length = l.length ∧ ∀ k : Nat, k < l.length → c.getD k 0 = if k < i ∨ l.length - i ≤ k then l.getD (l.length - 1 - k) 0 else l.getD k 0
theorem getD_set (l : List Int) (i k : Nat) (x : Int) (hi : i < l.length) : (l.set i x).getD k 0 = if k = i then x else l.getD k 0 := by
  simp only [List.getD_eq_getElem?_getD, List.getElem?_set]
  by_cases h : i = k
  · subst h; simp [hi]
  · rw [if_neg h, if_neg (Ne.symm h)]
theorem turned_end {l c : List Int} {i : Nat} (h : Turned l c i) (hi : l.length ≤ 2 * i + 1) : c = l.reverse := by
  refine List.ext_getElem (by rw [h.1, List.length_reverse]) fun k h1 h2 => ?_
  have hk : k < l.length := by rw [← h.1]; exact h1
  have := h.2 k hk
  rw [List.getElem_reverse]
  simp only [List.getD_eq_getElem?_getD, List.getElem?_eq_getElem h1, Option.getD_some] at this
  rw [this]
  by_cases c1 : k < i ∨ l.length - i ≤ k
  · rw [if_pos c1, List.getElem?_eq_getElem (by omega)]; rfl
  · rw [if_neg c1, List.getElem?_eq_getElem hk]
    simp only [Option.getD_some]
    congr 1
    omega
theorem reverse_p1 (l : List Int) (hl : l.length ≤ 1000000) : ∀ (m i : Nat) (c : List Int), l.length ≤ 2 * i + m → Turned l c i → i ≤ l.length →
    Evn (fun k => (f_slices_Reverse_byte_byte_io_t k).1 ((c, ()), ((), (((i : Int), ()), (((l.length : Int) - 1 - i, ()), ()))))) ((l.reverse, ()), ((), ())) := by
  intro m; induction m with
  | zero =>
    intro i c h ht hi
    rw [← turned_end ht (by omega)]
    refine Evn.some 1 fun k => ?_
    simp only [t_slices_Reverse_byte_byte_io, f_slices_Reverse_byte_byte_io_p1, fitsS_dec, Option.bind_some, Option.isNone_none, Option.isNone_some, Option.isSome_none, Option.isSome_some, Bool.not_true, Bool.not_false, cond_true, cond_false, cond_dec, beq_int, bne_int, not_dec]
    rw [if_neg (by omega)]
  | succ m ih =>
    intro i c h ht hi
    by_cases e : l.length ≤ 2 * i + 1
    · rw [← turned_end ht e]
      refine Evn.some 1 fun k => ?_
      simp only [t_slices_Reverse_byte_byte_io, f_slices_Reverse_byte_byte_io_p1, fitsS_dec, Option.bind_some, Option.isNone_none, Option.isNone_some, Option.isSome_none, Option.isSome_some, Bool.not_true, Bool.not_false, cond_true, cond_false, cond_dec, beq_int, bne_int, not_dec]
      rw [if_neg (by omega)]
    · obtain ⟨h1, h2⟩ := ht
      have e1 : (((l.length : Int) - 1 - i).toNat) = l.length - 1 - i := by omega
      have hT : Turned l ((c.set i (c.getD (l.length - 1 - i) 0)).set (l.length - 1 - i) (c.getD i 0)) (i + 1) := by
        refine ⟨by simp [h1], fun k hk => ?_⟩
        have hki := h2 i (by omega)
        have hkj := h2 (l.length - 1 - i) (by omega)
        have hkk := h2 k hk
        rw [if_neg (by omega)] at hki
        rw [if_neg (by omega)] at hkj
        rw [getD_set _ _ _ _ (by simp; omega), getD_set _ _ _ _ (by omega), hki, hkj]
        by_cases k1 : k = l.length - 1 - i
        · subst k1
          rw [if_pos rfl, if_pos (by omega)]
          congr 1
          omega
        · rw [if_neg k1]
          by_cases k2 : k = i
          · subst k2
            rw [if_pos rfl, if_pos (by omega)]
          · rw [if_neg k2, hkk]
            by_cases k3 : k < i ∨ l.length - i ≤ k
            · rw [if_pos k3, if_pos (by omega)]
            · rw [if_neg k3, if_neg (by omega)]
      have := ih (i + 1) _ (by omega) hT (by omega)
      refine this.step fun k => ?_
      simp only [t_slices_Reverse_byte_byte_io, f_slices_Reverse_byte_byte_io_p1, fitsS_dec, Option.bind_some, Option.isNone_none, Option.isNone_some, Option.isSome_none, Option.isSome_some, Bool.not_true, Bool.not_false, cond_true, cond_false, cond_dec, beq_int, bne_int, not_dec, and_dec, gd_u8, e1, Int.toNat_natCast, List.length_set]
      rw [if_pos (by omega), if_pos (by omega), if_pos (by omega), if_pos (by omega), if_pos (by omega), iadd_i64 (by omega), isub_i64 (by omega)]
      rw [show (l.length : Int) - 1 - ((i + 1 : Nat) : Int) = (l.length : Int) - 1 - i - 1 by omega]
      rfl
theorem rev_row (l : List Int) (hl : l.length ≤ 1000000) : g_slices_Reverse_byte_byte_io ((l, ()), ((), ())) = some ((l.reverse, ()), ((), ())) := by
  have := reverse_p1 l hl l.length 0 l (by omega) ⟨rfl, fun k hk => by rw [if_neg (by omega)]⟩ (by omega)
  refine (this.cast fun k => ?_).lim
  simp only [f_slices_Reverse_byte_byte_io_m]
  rw [isub_i64 (by omega)]
  simp only [Int.natCast_zero, Int.sub_zero]
/-! ### figures -/
/-- A number's figures, the lowest first. -/
def figs (n : Nat) : List Int := if h : n = 0 then [] else (48 + (n % 10 : Nat) : Int) :: figs (n / 10)
termination_by n
decreasing_by omega
theorem figs_zero : figs 0 = [] := by rw [figs]; rfl
theorem figs_pos {n : Nat} (h : n ≠ 0) : figs n = (48 + (n % 10 : Nat) : Int) :: figs (n / 10) := by rw [figs, dif_neg h]
theorem figs_len : ∀ (k n : Nat), n < 10 ^ k → (figs n).length ≤ k
  | 0, n, h => by
    have : n = 0 := by simpa using h
    subst this; rw [figs_zero]; exact Nat.le_refl _
  | k + 1, n, h => by
    by_cases c : n = 0
    · subst c; rw [figs_zero]; exact Nat.zero_le _
    · rw [figs_pos c, List.length_cons]
      have := figs_len k (n / 10) (by rw [Nat.pow_succ] at h; omega)
      omega
theorem figs_ok (n : Nat) : ∀ x ∈ figs n, 48 ≤ x ∧ x ≤ 57 := by
  induction n using Nat.strongRecOn with
  | _ n ih =>
    intro x hx
    by_cases c : n = 0
    · subst c; rw [figs_zero] at hx; cases hx
    · rw [figs_pos c] at hx
      rcases List.mem_cons.1 hx with rfl | hx
      · omega
      · exact ih (n / 10) (by omega) x hx
/-- All its figures, at least so many. -/
def padd (n w : Nat) : List Int := List.replicate (max w 1 - (figs n).length) 48 ++ (figs n).reverse
theorem u64_in {x : Int} (h : 0 ≤ x ∧ x ≤ 18446744073709551615) : IntKind.u64.wrap x = x := IntWalk.u64_in x h
theorem u8_in {x : Int} (h : 0 ≤ x ∧ x ≤ 255) : IntKind.u8.wrap x = x := by rw [wrap_u8]; omega
theorem fig_byte (n : Nat) : iadd .u8 48 (iconv .u8 (Int.tmod (n : Int) 10)) = 48 + ((n % 10 : Nat) : Int) := by
  rw [tmod_nn (by omega)]
  unfold iadd iconv
  rw [u8_in (x := (n : Int) % 10) (by omega), u8_in (by omega)]; omega
theorem iquo_u64 {a c : Int} (hc : 0 < c) (h : 0 ≤ a ∧ a ≤ 18446744073709551615) : iquo .u64 a c = a / c := by
  unfold iquo
  rw [Int.tdiv_eq_ediv_of_nonneg h.1]
  exact u64_in ⟨Int.ediv_nonneg h.1 (by omega), Int.le_trans (Int.ediv_le_self _ h.1) h.2⟩
/-- All in, what is left: the rounds. -/
theorem raw_p3 (w : Int) (hw : w ≤ 100) : ∀ (k : Nat) (n : Nat) (out : List Int), n < 18446744073709551616 → (figs n).length + (max w 1 - out.length - (figs n).length).toNat ≤ k → out.length + k ≤ 1000 →
    Evn (fun j => (f_figures_raw_t j).1 ((out, ()), (((n : Int), ()), ((w, ()), ((), ()))))) ((), ((strOf (List.replicate (max w 1 - out.length - (figs n).length).toNat 48 ++ (out ++ figs n).reverse), ()), ())) := by
  intro k; induction k with
  | zero =>
    intro n out hn hk hl
    have hf : (figs n).length = 0 := by omega
    have hn0 : n = 0 := by
      by_cases c : n = 0
      · exact c
      · rw [figs_pos c] at hf; simp at hf
    subst hn0
    rw [figs_zero, List.append_nil, show (max w 1 - out.length - ([] : List Int).length).toNat = 0 by rw [figs_zero] at hk; omega]
    refine Evn.some 1 fun j => ?_
    simp only [t_figures_raw, f_figures_raw_p3, rev_row out (by omega), fitsS_dec, Option.bind_some, Option.isNone_none, Option.isNone_some, Option.isSome_none, Option.isSome_some, Bool.not_true, Bool.not_false, cond_true, cond_false, cond_dec, beq_int, bne_int, not_dec, gt_iff_lt]
    rw [if_neg (by omega), if_neg (by rw [figs_zero] at hk; simp only [List.length_nil] at hk; split <;> omega)]
    simp
  | succ k ih =>
    intro n out hn hk hl
    have hlen : (out ++ [48 + ((n % 10 : Nat) : Int)]).length = out.length + 1 := by simp
    by_cases c : n = 0
    · subst c
      rw [figs_zero] at hk ⊢
      simp only [List.length_nil] at hk ⊢
      by_cases c2 : (out.length : Int) < max w 1
      · have := ih 0 (out ++ [48]) (by omega) (by rw [figs_zero]; simp; omega) (by simp; omega)
        rw [figs_zero, List.append_nil] at this
        rw [List.append_nil]
        have e : List.replicate (max w 1 - out.length - 0).toNat (48 : Int) ++ out.reverse = List.replicate (max w 1 - (out ++ [48]).length - ([] : List Int).length).toNat 48 ++ (out ++ [48]).reverse := by
          rw [show (max w 1 - (out.length : Int) - 0).toNat = (max w 1 - ((out ++ [(48 : Int)]).length : Int) - (([] : List Int).length : Int)).toNat + 1 by simp; omega]
          rw [List.replicate_succ', List.append_assoc, List.reverse_append]
          rfl
        have e' : ((0 : Int)) = (([] : List Int).length : Int) := rfl
        rw [show (max w 1 - (out.length : Int) - ((0 : Nat) : Int)) = (max w 1 - (out.length : Int) - 0) from rfl, e]
        refine this.step fun j => ?_
        simp only [t_figures_raw, f_figures_raw_p3, fitsS_dec, Option.bind_some, Option.isNone_none, Option.isNone_some, Option.isSome_none, Option.isSome_some, Bool.not_true, Bool.not_false, cond_true, cond_false, cond_dec, beq_int, bne_int, not_dec, gt_iff_lt, and_dec, List.length_cons, List.length_nil]
        rw [if_neg (by omega), if_pos (by split <;> omega), if_pos (by omega)]
        rfl
      · have e : (max w 1 - (out.length : Int) - ((0 : Nat) : Int)).toNat = 0 := by omega
        rw [e, List.append_nil]
        refine Evn.some 1 fun j => ?_
        simp only [t_figures_raw, f_figures_raw_p3, rev_row out (by omega), fitsS_dec, Option.bind_some, Option.isNone_none, Option.isNone_some, Option.isSome_none, Option.isSome_some, Bool.not_true, Bool.not_false, cond_true, cond_false, cond_dec, beq_int, bne_int, not_dec, gt_iff_lt]
        rw [if_neg (by omega), if_neg (by split <;> omega)]
        simp
    · have hfl : (figs n).length = (figs (n / 10)).length + 1 := by rw [figs_pos c]; rfl
      have := ih (n / 10) (out ++ [48 + ((n % 10 : Nat) : Int)]) (by omega) (by rw [hlen]; omega) (by rw [hlen]; omega)
      rw [hlen, show (max w 1 - ((out.length + 1 : Nat) : Int) - ((figs (n / 10)).length : Int)).toNat = (max w 1 - (out.length : Int) - ((figs n).length : Int)).toNat by omega,
        show (out ++ [48 + ((n % 10 : Nat) : Int)]) ++ figs (n / 10) = out ++ figs n by rw [figs_pos c]; simp] at this
      refine this.step fun j => ?_
      simp only [t_figures_raw, f_figures_raw_p3, fitsS_dec, Option.bind_some, Option.isNone_none, Option.isNone_some, Option.isSome_none, Option.isSome_some, Bool.not_true, Bool.not_false, cond_true, cond_false, cond_dec, beq_int, bne_int, not_dec, gt_iff_lt, and_dec, fig_byte, List.length_cons, List.length_nil]
      rw [if_pos (by omega), if_pos (by omega), iquo_u64 (by omega) (by omega)]
      rfl
theorem fig_raw (n : Nat) (w : Int) (hn : n < 18446744073709551616) (hw : w ≤ 100) : g_figures_raw ((), (((n : Int), ()), ((w, ()), ()))) = some ((), ((strOf (padd n w.toNat), ()), ())) := by
  have hl := figs_len 20 n (by omega)
  have := raw_p3 w hw 200 n [] hn (by simp only [List.length_nil]; omega) (by simp)
  rw [List.nil_append] at this
  have e : List.replicate (max w 1 - (([] : List Int).length : Int) - ((figs n).length : Int)).toNat (48 : Int) ++ (figs n).reverse = padd n w.toNat := by
    unfold padd
    congr 2
    simp only [List.length_nil]; omega
  rw [e] at this
  refine (this.cast fun j => ?_).lim
  simp only [f_figures_raw_m]
end Go.Proofs.YtcnngodgngmghaaGreatDoor.Ev
