/- A number put as a text, by the program and by its reference. -/
import Derived.Test.YtcnngodgngmghaaGreatDoorPuRaw
import Derived.Test.YtcnngodgngmghaaGreatDoorPuTake
namespace Go.Proofs.YtcnngodgngmghaaGreatDoor.Ev
open Go
set_option linter.unusedVariables false
set_option linter.unusedSimpArgs false
def isI64 (a : Int) : Prop := -9223372036854775808 ≤ a ∧ a ≤ 9223372036854775807
theorem str_cons (x : Int) (l : List Int) : strOf [x] ++ strOf l = strOf (x :: l) := by rw [str_app]; rfl
theorem str_48 : (⟨#[48]⟩ : ByteArray) = strOf [48] := by kernel_rfl
theorem str_45 : (⟨#[45]⟩ : ByteArray) = strOf [45] := by kernel_rfl
theorem str_nil : (⟨#[]⟩ : ByteArray) = strOf [] := by kernel_rfl
theorem rep_cons {k : Nat} (hk : 0 < k) (l : List Int) : List.replicate k (48 : Int) ++ l = List.replicate (k - 1) 48 ++ 48 :: l := by
  obtain ⟨k, rfl⟩ : ∃ m, k = m + 1 := ⟨k - 1, by omega⟩
  rw [Nat.add_sub_cancel, List.replicate_succ', List.append_assoc]; rfl
theorem padd_int (n : Nat) (w : Int) : List.replicate (max w 1 - ((figs n).length : Int)).toNat (48 : Int) ++ (figs n).reverse = padd n w.toNat := by
  unfold padd
  congr 2
  omega
theorem padd_len (n : Nat) (w : Nat) (hn : n < 18446744073709551616) (hw : w ≤ 20) : (padd n w).length ≤ 20 := by
  have hl := figs_len 20 n (by omega)
  unfold padd
  simp only [List.length_append, List.length_replicate, List.length_reverse]
  omega
/-- A number's text: a sign, and at least so many figures. -/
def putL (v w : Int) : List Int := if v < 0 then 45 :: padd v.natAbs w.toNat else padd v.natAbs w.toNat
def putE (w : Int) : Int := if w < 0 ∨ 20 < w then 1 else 0
theorem fig_put (v w : Int) (hv : isI64 v) : g_figures_Put ((), ((v, ()), ((w, ()), ()))) = some ((), ((if putE w = 0 then strOf (putL v w) else strOf [], ()), ((errOf (putE w), ()), ()))) := by
  unfold isI64 at hv
  simp only [g_figures_Put, f_figures_Put_m, fitsS_dec, Option.bind_some, Option.isNone_none, Option.isNone_some, Option.isSome_none, Option.isSome_some, Bool.not_true, Bool.not_false, cond_true, cond_false, cond_dec, beq_int, bne_int, not_dec, gt_iff_lt, str_nil]
  unfold putE putL
  by_cases c : w < 0 ∨ 20 < w
  · simp only [c, if_true, show ((1 : Int) = 0) = False by simp, if_false]
    by_cases c1 : w < 0
    · rw [if_pos c1]; rfl
    · rw [if_neg c1, if_pos (by omega)]; rfl
  · simp only [c, if_false, if_true]
    rw [if_neg (by omega), if_neg (by omega)]
    by_cases c2 : v < 0
    · have e : ineg .u64 (iconv .u64 v) = (v.natAbs : Int) := by
        unfold ineg; rw [iconv_u64, wrap_u64]; omega
      have hl := padd_len v.natAbs w.toNat (by omega) (by omega)
      rw [if_pos c2, if_pos c2, e, fig_raw _ _ (by omega) (by omega)]
      simp only [fitsS_dec, Option.bind_some, Option.isNone_none, Option.isNone_some, Option.isSome_none, Option.isSome_some, Bool.not_true, Bool.not_false, cond_true, cond_false, cond_dec, beq_int, bne_int, not_dec, str_45, str_size, str_cons, List.length_cons, List.length_nil]
      rw [if_pos (by omega)]; rfl
    · rw [if_neg c2, if_neg c2, iconv_u64, show v % 18446744073709551616 = ((v.natAbs : Nat) : Int) by omega, fig_raw _ _ (by omega) (by omega)]
      rfl
theorem figs_min : (figs 9223372036854775808).reverse = [57, 50, 50, 51, 51, 55, 50, 48, 51, 54, 56, 53, 52, 55, 55, 53, 56, 48, 56] := by
  simp [figs_pos, figs_zero]
end Go.Proofs.YtcnngodgngmghaaGreatDoor.Ev
