/- A number put as a text, by the program and by its reference. -/
import Derived.Test.YtfhaifiipjfffaaDoorPuRaw
import Derived.Test.YtfhaifiipjfffaaDoorPuTake
namespace Go.Proofs.YtfhaifiipjfffaaDoor.Ev
open Go
set_option linter.unusedVariables false
set_option linter.unusedSimpArgs false
def isI64 (a : Int) : Prop := -9223372036854775808 ≤ a ∧ a ≤ 9223372036854775807
theorem str_cons (x : Int) (l : List Int) : strOf [x] ++ strOf l = strOf (x :: l) := by rw [str_app]; rfl
theorem str_48 : (⟨#[48]⟩ : ByteArray) = strOf [48] := by kernel_rfl
theorem str_45 : (⟨#[45]⟩ : ByteArray) = strOf [45] := by kernel_rfl
theorem str_nil : (⟨#[]⟩ : ByteArray) = strOf [] := by kernel_rfl
theorem rep_cons {k : Nat} (hk : 0 < k) (l : List Int) : List.replicate k (48 : Int) ++ l = List.replicate (k - 1) 48 ++ 48 :: l := by
  obtain ⟨k, rfl⟩ : ∃ m, k = m + 1 := ⟨k - 1, by omega⟩
  rw [Nat.add_sub_cancel, List.replicate_succ', List.append_assoc]; rfl
theorem raw_p8 (w : Int) (hw : w ≤ 100) : ∀ (k : Nat) (l : List Int), l.length ≤ 100 → (max w 1 - l.length).toNat ≤ k →
    Evn (fun j => (f_ref02_Raw_t j).2.1 ((), ((w, ()), ((strOf l, ()), ())))) ((), ((strOf (List.replicate (max w 1 - l.length).toNat 48 ++ l), ()), ())) := by
  have e1 : (strOf [48]).size = 1 := str_size _
  intro k; induction k with
  | zero =>
    intro l hl hk
    have h0 : (max w 1 - (l.length : Int)).toNat = 0 := by omega
    rw [h0]
    refine Evn.some 1 fun j => ?_
    simp only [t_ref02_Raw, f_ref02_Raw_p8, fitsS_dec, Option.bind_some, Option.isNone_none, Option.isNone_some, Option.isSome_none, Option.isSome_some, Bool.not_true, Bool.not_false, cond_true, cond_false, cond_dec, beq_int, bne_int, not_dec, str_size]
    rw [if_neg (by omega), if_neg (by omega)]; rfl
  | succ k ih =>
    intro l hl hk
    by_cases c : (max w 1 - (l.length : Int)).toNat = 0
    · rw [c]
      refine Evn.some 1 fun j => ?_
      simp only [t_ref02_Raw, f_ref02_Raw_p8, fitsS_dec, Option.bind_some, Option.isNone_none, Option.isNone_some, Option.isSome_none, Option.isSome_some, Bool.not_true, Bool.not_false, cond_true, cond_false, cond_dec, beq_int, bne_int, not_dec, str_size]
      rw [if_neg (by omega), if_neg (by omega)]; rfl
    · by_cases cl : l.length = 100
      · omega
      · have := ih (48 :: l) (by simp; omega) (by simp; omega)
        rw [rep_cons (by omega)]
        rw [show (max w 1 - ((48 :: l : List Int).length : Int)).toNat = (max w 1 - (l.length : Int)).toNat - 1 by simp; omega] at this
        refine this.step fun j => ?_
        simp only [t_ref02_Raw, f_ref02_Raw_p8, fitsS_dec, Option.bind_some, Option.isNone_none, Option.isNone_some, Option.isSome_none, Option.isSome_some, Bool.not_true, Bool.not_false, cond_true, cond_false, cond_dec, beq_int, bne_int, not_dec, str_48, str_size, str_cons, List.length_cons, List.length_nil]
        by_cases c1 : (l.length : Int) < w
        · rw [if_pos c1, if_pos (by omega)]
        · rw [if_neg c1, if_pos (by omega), if_pos (by omega)]
theorem raw_p3r (w : Int) (hw : w ≤ 100) : ∀ (k : Nat) (n : Nat) (l : List Int), n < 9223372036854775808 → (figs n).length ≤ k → l.length + k ≤ 100 →
    Evn (fun j => (f_ref02_Raw_t j).1 ((), (((n : Int), ()), ((w, ()), ((strOf l, ()), ()))))) ((), ((strOf (List.replicate (max w 1 - (figs n).length - l.length).toNat 48 ++ ((figs n).reverse ++ l)), ()), ())) := by
  have e1 : (strOf [48]).size = 1 := str_size _
  have stop : ∀ l : List Int, l.length ≤ 100 → Evn (fun j => (f_ref02_Raw_t j).1 ((), ((((0 : Nat) : Int), ()), ((w, ()), ((strOf l, ()), ()))))) ((), ((strOf (List.replicate (max w 1 - (figs 0).length - l.length).toNat 48 ++ ((figs 0).reverse ++ l)), ()), ())) := by
    intro l hl
    rw [figs_zero]
    have := raw_p8 w hw (max w 1 - (l.length : Int)).toNat l hl (Nat.le_refl _)
    rw [show (max w 1 - (([] : List Int).length : Int) - (l.length : Int)).toNat = (max w 1 - (l.length : Int)).toNat by simp]
    refine this.step fun j => ?_
    simp only [t_ref02_Raw, f_ref02_Raw_p3, fitsS_dec, Option.bind_some, Option.isNone_none, Option.isNone_some, Option.isSome_none, Option.isSome_some, Bool.not_true, Bool.not_false, cond_true, cond_false, cond_dec, beq_int, bne_int, not_dec, gt_iff_lt]
    rw [if_neg (by omega)]
  intro k; induction k with
  | zero =>
    intro n l hn hk hl
    have hn0 : n = 0 := by
      by_cases c : n = 0
      · exact c
      · rw [figs_pos c] at hk; simp at hk
    subst hn0
    exact stop l (by omega)
  | succ k ih =>
    intro n l hn hk hl
    by_cases c : n = 0
    · subst c; exact stop l (by omega)
    · have hfl : (figs n).length = (figs (n / 10)).length + 1 := by rw [figs_pos c]; rfl
      have := ih (n / 10) ((48 + (n % 10 : Nat) : Int) :: l) (by omega) (by omega) (by simp; omega)
      rw [show (max w 1 - ((figs (n / 10)).length : Int) - (((48 + (n % 10 : Nat) : Int) :: l).length : Int)).toNat = (max w 1 - ((figs n).length : Int) - (l.length : Int)).toNat by simp; omega,
        show (figs (n / 10)).reverse ++ (48 + (n % 10 : Nat) : Int) :: l = (figs n).reverse ++ l by rw [figs_pos c]; simp] at this
      have e2 : iconv .u8 (iadd .i64 48 (Int.tmod (n : Int) 10)) = 48 + ((n % 10 : Nat) : Int) := by
        rw [tmod_nn (by omega), iadd_i64 (by omega), iconv_u8]; omega
      have e3 : iquo .i64 (n : Int) 10 = ((n / 10 : Nat) : Int) := by rw [iquo_nn (by omega) (by omega)]; omega
      refine this.step fun j => ?_
      simp only [t_ref02_Raw, f_ref02_Raw_p3, fitsS_dec, Option.bind_some, Option.isNone_none, Option.isNone_some, Option.isSome_none, Option.isSome_some, Bool.not_true, Bool.not_false, cond_true, cond_false, cond_dec, beq_int, bne_int, not_dec, gt_iff_lt, e2, e3, str_size, str_cons, List.length_cons, List.length_nil]
      rw [if_pos (by omega), if_pos (by omega)]
theorem padd_int (n : Nat) (w : Int) : List.replicate (max w 1 - ((figs n).length : Int)).toNat (48 : Int) ++ (figs n).reverse = padd n w.toNat := by
  unfold padd
  congr 2
  omega
theorem ref02_raw (n : Nat) (w : Int) (hn : n < 9223372036854775808) (hw : w ≤ 100) : g_ref02_Raw ((), (((n : Int), ()), ((w, ()), ()))) = some ((), ((strOf (padd n w.toNat), ()), ())) := by
  have hl := figs_len 20 n (by omega)
  have := raw_p3r w hw 20 n [] hn hl (by simp)
  rw [List.append_nil, show (max w 1 - ((figs n).length : Int) - (([] : List Int).length : Int)) = max w 1 - ((figs n).length : Int) by simp, padd_int] at this
  refine (this.cast fun j => ?_).lim
  simp only [f_ref02_Raw_m, str_nil]
theorem padd_len (n : Nat) (w : Nat) (hn : n < 18446744073709551616) (hw : w ≤ 20) : (padd n w).length ≤ 20 := by
  have hl := figs_len 20 n (by omega)
  unfold padd
  simp only [List.length_append, List.length_replicate, List.length_reverse]
  omega
/-- A number's text: a sign, and at least so many figures. -/
def putL (v w : Int) : List Int := if v < 0 then 45 :: padd v.natAbs w.toNat else padd v.natAbs w.toNat
def putE (w : Int) : Int := if w < 0 ∨ 20 < w then 1 else 0
theorem figs_min : (figs 9223372036854775808).reverse = [57, 50, 50, 51, 51, 55, 50, 48, 51, 54, 56, 53, 52, 55, 55, 53, 56, 48, 56] := by
  simp [figs_pos, figs_zero]
end Go.Proofs.YtfhaifiipjfffaaDoor.Ev
