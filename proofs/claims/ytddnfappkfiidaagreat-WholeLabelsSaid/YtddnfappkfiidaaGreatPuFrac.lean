/- Fractions: their figures, and back. -/
import Derived.Test.YtddnfappkfiidaaGreatEv32
import Derived.Test.YtddnfappkfiidaaGreatPureSigned
namespace Go.Proofs.YtddnfappkfiidaaGreat.Ev
open Go
set_option linter.unusedVariables false
set_option linter.unusedSimpArgs false
theorem isF48 : isF 48 := by unfold isF; omega
theorem lead_all : ∀ {l : List Int}, (∀ x ∈ l, isF x) → lead l = l.length
  | [], _ => rfl
  | x :: l, h => by
    unfold lead
    rw [if_pos (h x (by simp)), lead_all (l := l) (fun y hy => h y (by simp [hy]))]; rfl
theorem lead_figs {l : List Int} (h : lead l = l.length) : ∀ x ∈ l, isF x := by
  intro x hx
  obtain ⟨i, hi, rfl⟩ := List.getElem_of_mem hx
  have := lead_at (l := l) (i := i) (by omega)
  rwa [List.getD_eq_getElem?_getD, List.getElem?_eq_getElem hi] at this
theorem padd_figs (n w : Nat) : ∀ x ∈ padd n w, isF x := by
  intro x hx
  unfold padd at hx
  rcases List.mem_append.1 hx with h | h
  · rw [(List.mem_replicate.1 h).2]; exact isF48
  · exact figs_ok n x (List.mem_reverse.1 h)
theorem figs_okBy {l : List Int} (h : ∀ x ∈ l, isF x) : okBy l := fun x hx => by
  have := h x hx
  unfold isF at this; omega
theorem val10_zeros : ∀ (k : Nat) (l : List Int), val10 (List.replicate k 48 ++ l) = val10 l
  | 0, l => rfl
  | k + 1, l => by
    have := val10_zeros k l
    rw [List.replicate_succ, List.cons_append]
    unfold val10 at this ⊢
    rw [List.foldl_cons]; exact this
theorem val10_figs (n : Nat) : val10 (figs n).reverse = n := by
  induction n using Nat.strongRecOn with
  | _ n ih =>
    by_cases c : n = 0
    · subst c; rw [figs_zero]; rfl
    · rw [figs_pos c, List.reverse_cons, val10_snoc, ih (n / 10) (by omega)]; omega
theorem val10_padd (n w : Nat) : val10 (padd n w) = n := by
  unfold padd; rw [val10_zeros, val10_figs]
theorem padd_size (n w : Nat) (h : n < 10 ^ w) (hw : 1 ≤ w) : (padd n w).length = w := by
  have hl := figs_len w n h
  unfold padd
  simp only [List.length_append, List.length_replicate, List.length_reverse]; omega
/-! ### noughts at the end -/
def rtl (l : List Int) : Nat → Nat
  | 0 => 0
  | k + 1 => if l.getD k 0 = 48 then rtl l k else k + 1
theorem rtl_le (l : List Int) : ∀ k, rtl l k ≤ k
  | 0 => Nat.le_refl _
  | k + 1 => by
    have := rtl_le l k
    unfold rtl; split <;> omega
theorem rtl_val (l : List Int) : ∀ k, k ≤ l.length → val10 (l.take (rtl l k)) * 10 ^ (k - rtl l k) = val10 (l.take k)
  | 0, _ => by simp [rtl]
  | k + 1, h => by
    unfold rtl
    split
    · rename_i c
      have ih := rtl_val l k (by omega)
      have hr := rtl_le l k
      have e : l[k]'(by omega) = 48 := by rwa [List.getD_eq_getElem?_getD, List.getElem?_eq_getElem (by omega)] at c
      rw [List.take_succ_eq_append_getElem (by omega), val10_snoc, e, ← ih, show k + 1 - rtl l k = (k - rtl l k) + 1 by omega, Int.pow_succ, ← Int.mul_assoc]
      omega
    · rw [Nat.sub_self]; simp
theorem take_size (l : List Int) (k : Nat) (h : k ≤ l.length) : (strOf (l.take k)).size = k := by rw [str_size, List.length_take]; omega
theorem take_at {l : List Int} (hl : okBy l) (k i : Nat) (h : k ≤ l.length) (hi : i < k) : bt (strOf (l.take k)) (i : Int) = l.getD i 0 := by
  rw [by_at _ (by omega) (by rw [take_size l k h]; omega), by_str (okBy_take hl k), Int.toNat_natCast, List.getD_eq_getElem?_getD, List.getD_eq_getElem?_getD, List.getElem?_take, if_pos hi]
theorem take_cut (l : List Int) (k i : Nat) (hi : i ≤ k) : (strOf (l.take k)).extract 0 i = strOf (l.take i) := by
  rw [str_cut, List.drop_zero, List.take_take, Nat.min_eq_left hi]
def inNano (n : Int) : Prop := 0 ≤ n ∧ n ≤ 999999999
instance (n : Int) : Decidable (inNano n) := by unfold inNano; infer_instance
/-- The figures of a fraction, all nine. -/
def nine (n : Int) : List Int := padd n.toNat 9
theorem nine_len {n : Int} (h : inNano n) : (nine n).length = 9 := padd_size _ _ (by unfold inNano at h; omega) (by omega)
theorem nine_ok (n : Int) : okBy (nine n) := figs_okBy (padd_figs _ _)
theorem fig_fits (n : Int) : g_figures_fits ((), ((n, ()), ())) = some ((), ((decide (inNano n), ()), ())) := by
  simp only [g_figures_fits, f_figures_fits_m, fitsS_dec, Option.bind_some, Option.isNone_none, Option.isNone_some, Option.isSome_none, Option.isSome_some, Bool.not_true, Bool.not_false, cond_true, cond_false, cond_dec, beq_int, bne_int, not_dec, ge_iff_le]
  by_cases h : inNano n
  · rw [decide_eq_true h]
    unfold inNano at h
    rw [if_pos (by omega), decide_eq_true (by omega)]
  · rw [decide_eq_false h]
    unfold inNano at h
    by_cases c : 0 ≤ n
    · rw [if_pos c, decide_eq_false (by omega)]
    · rw [if_neg c]
theorem raw_nine {n : Int} (h : inNano n) : g_figures_raw ((), ((iconv .u64 n, ()), ((9, ()), ()))) = some ((), ((strOf (nine n), ()), ())) := by
  unfold inNano at h
  have := fig_raw n.toNat 9 (by omega) (by omega)
  rw [show ((n.toNat : Nat) : Int) = n by omega] at this
  rw [iconv_u64, show n % 18446744073709551616 = n by omega, this]; rfl
theorem fig_putfraction (n m : Int) : g_figures_PutFraction ((), ((n, ()), ((m, ()), ()))) = some ((), ((if inNano n ∧ 0 ≤ m ∧ m ≤ 9 then strOf ((nine n).take m.toNat) else strOf [], ()), ((errOf (if inNano n ∧ 0 ≤ m ∧ m ≤ 9 then 0 else 1), ()), ()))) := by
  simp only [g_figures_PutFraction, f_figures_PutFraction_m, fig_fits, fitsS_dec, Option.bind_some, Option.isNone_none, Option.isNone_some, Option.isSome_none, Option.isSome_some, Bool.not_true, Bool.not_false, cond_true, cond_false, cond_dec, beq_int, bne_int, not_dec, str_nil, gt_iff_lt, and_dec]
  by_cases c : inNano n
  · by_cases c1 : m < 0
    · simp only [c, c1, not_true_eq_false, if_false, if_true, show ¬ (0 ≤ m) by omega, false_and, and_false]; rfl
    · by_cases c2 : 9 < m
      · simp only [c, c1, c2, not_true_eq_false, if_false, if_true, show ¬ (m ≤ 9) by omega, and_false]; rfl
      · have e : (strOf (nine n)).size = 9 := by rw [str_size, nine_len c]
        simp only [c, c1, c2, not_true_eq_false, if_false, raw_nine c, Option.bind_some, e, true_and, show (0 ≤ m ∧ m ≤ 9) by omega, and_self, if_true]
        rw [if_pos ⟨⟨by omega, trivial⟩, by omega⟩, str_cut, show Int.toNat 0 = 0 from rfl, List.drop_zero]; rfl
  · simp only [c, not_false_eq_true, if_true, false_and, if_false]; rfl
/-! ### fractions out of texts -/
def allF (s : ByteArray) : Prop := 0 < s.size ∧ lead (bytesOf s) = s.size
instance (s : ByteArray) : Decidable (allF s) := by unfold allF; infer_instance
/-- The error's number. -/
def fracE (s : ByteArray) : Int := if 9 < s.size then 3 else if allF s then 0 else 2
def fracV (s : ByteArray) : Int := val10 (bytesOf s) * 10 ^ (9 - s.size)
theorem whole9 (s : ByteArray) (hs : s.size ≤ 9) : wholeE s 1 9 (9223372036854775807 : Int) = if allF s then 0 else 2 := by
  have hl := lead_le (bytesOf s)
  rw [by_len] at hl
  have hK : min (lead (bytesOf s)) (9 : Int).toNat = lead (bytesOf s) := by show min _ 9 = _; omega
  unfold wholeE takeE takeK
  rw [hK, if_neg (by omega : ¬ ((1 : Int) < 1 ∨ (9 : Int) < 1 ∨ (20 : Int) < 9))]
  have hr := fig10 ((bytesOf s).take (lead (bytesOf s))) (by rw [List.length_take]; omega) (cut_figs (Nat.le_refl _))
  have hr2 := (val10_range _ _ rfl (cut_figs (s := s) (Nat.le_refl _))).2
  have hp : (10 : Int) ^ ((bytesOf s).take (lead (bytesOf s))).length ≤ 10 ^ 9 := by
    have : 10 ^ ((bytesOf s).take (lead (bytesOf s))).length ≤ 10 ^ 9 := Nat.pow_le_pow_right (by omega) (by rw [List.length_take]; omega)
    exact_mod_cast this
  unfold cutV
  by_cases c : lead (bytesOf s) = 0
  · rw [if_pos (show ((lead (bytesOf s) : Nat) : Int) < 1 by omega), if_neg (by decide), if_neg (fun a : allF s => by unfold allF at a; omega)]
  · rw [if_neg (show ¬ ((lead (bytesOf s) : Nat) : Int) < 1 by omega), if_pos (by omega)]
    by_cases c2 : lead (bytesOf s) < s.size
    · rw [if_pos c2, if_neg (fun a : allF s => by unfold allF at a; omega)]
    · rw [if_neg c2, if_pos (show allF s from ⟨by omega, by omega⟩)]
theorem pow10_9 {i : Nat} (h : i ≤ 9) : ∀ v : Int, 0 ≤ v → v < 10 ^ i → 0 ≤ v * 10 ^ (9 - i) ∧ v * 10 ^ (9 - i) < 1000000000 := by
  intro v h0 h1
  have : i = 0 ∨ i = 1 ∨ i = 2 ∨ i = 3 ∨ i = 4 ∨ i = 5 ∨ i = 6 ∨ i = 7 ∨ i = 8 ∨ i = 9 := by omega
  rcases this with rfl | rfl | rfl | rfl | rfl | rfl | rfl | rfl | rfl | rfl <;> (simp only [Int.reducePow, Nat.reduceSub] at h1 ⊢; omega)
theorem frac_range {s : ByteArray} (hs : s.size ≤ 9) (h : allF s) : 0 ≤ fracV s ∧ fracV s < 1000000000 := by
  have := val10_range _ (bytesOf s) rfl (lead_figs (by rw [by_len]; exact h.2))
  rw [by_len] at this
  exact pow10_9 hs _ this.1 this.2
theorem val10_noughts (l : List Int) : ∀ k : Nat, val10 (l ++ List.replicate k 48) = val10 l * 10 ^ k
  | 0 => by simp
  | k + 1 => by
    rw [List.replicate_succ', ← List.append_assoc, val10_snoc, val10_noughts l k, Int.pow_succ, ← Int.mul_assoc]; omega
theorem rep_list : ∀ k : Nat, Lib.repeatL [(48 : UInt8)] k = List.replicate k 48
  | 0 => rfl
  | k + 1 => by
    have := rep_list k
    simp only [Lib.repeatL] at this ⊢
    rw [this, List.replicate_succ]; rfl
theorem repeat48 (k : Nat) (hk : k ≤ 1000) : g_strings_Repeat ((), ((⟨#[48]⟩, ()), (((k : Int), ()), ()))) = some ((), ((strOf (List.replicate k 48), ()), ())) := by
  show lib_repeat _ = _
  unfold lib_repeat
  simp only [show (⟨#[48]⟩ : ByteArray).size = 1 from rfl, Int.toNat_natCast]
  rw [if_pos (by omega), rep_list]
  congr 3
  unfold strOf
  simp only [List.map_replicate]; rfl
theorem fig_fraction (s : ByteArray) (hs : s.size ≤ 1000000) : g_figures_Fraction ((), ((s, ()), ())) = some ((), ((if fracE s = 0 then fracV s else 0, ()), ((errOf (fracE s), ()), ()))) := by
  simp only [g_figures_Fraction, f_figures_Fraction_m, fitsS_dec, Option.bind_some, Option.isNone_none, Option.isNone_some, Option.isSome_none, Option.isSome_some, Bool.not_true, Bool.not_false, cond_true, cond_false, cond_dec, beq_int, bne_int, not_dec, gt_iff_lt]
  unfold fracE
  by_cases c : 9 < s.size
  · rw [if_pos (by omega)]
    simp only [c, if_true, show ((3 : Int) = 0) = False by simp, if_false]; rfl
  · rw [if_neg (by omega), figs_Whole s hs 1 9, whole9 s (by omega)]
    simp only [c, if_false, Option.bind_some, errOf_none, not_dec, cond_dec]
    by_cases a : allF s
    · simp only [a, if_true, not_true_eq_false, if_false]
      have e1 : isub .i64 9 (s.size : Int) = ((9 - s.size : Nat) : Int) := by rw [isub_i64 (by omega)]; omega
      have hb : bytesOf (s ++ strOf (List.replicate (9 - s.size) 48)) = bytesOf s ++ List.replicate (9 - s.size) 48 := by
        rw [by_app, by_str (fun x hx => by rw [(List.mem_replicate.1 hx).2]; omega)]
      have hf : ∀ x ∈ bytesOf s, isF x := lead_figs (by rw [by_len]; exact a.2)
      have hsz : (s ++ strOf (List.replicate (9 - s.size) 48)).size = 9 := by
        rw [← by_len, hb, List.length_append, List.length_replicate, by_len]; omega
      have hld : lead (bytesOf (s ++ strOf (List.replicate (9 - s.size) 48))) = 9 := by
        rw [hb, lead_all (fun x hx => by
          rcases List.mem_append.1 hx with q | q
          · exact hf x q
          · rw [(List.mem_replicate.1 q).2]; exact isF48), List.length_append, List.length_replicate, by_len]; omega
      have hV : cutV (s ++ strOf (List.replicate (9 - s.size) 48)) 9 = fracV s := by
        unfold cutV
        rw [List.take_of_length_le (by rw [by_len, hsz]; exact Nat.le_refl _), hb, val10_noughts]; rfl
      have hr := frac_range (s := s) (by omega) a
      have hK : takeK (s ++ strOf (List.replicate (9 - s.size) 48)) 9 = 9 := by unfold takeK; rw [hld]; rfl
      have hE : wholeE (s ++ strOf (List.replicate (9 - s.size) 48)) 9 9 (9223372036854775807 : Int) = 0 := by
        unfold wholeE takeE
        rw [hK, hsz, hld, if_neg (by omega : ¬ ((9 : Int) < 1 ∨ (9 : Int) < 9 ∨ (20 : Int) < 9)), show min 9 (9 : Int).toNat = 9 from rfl, hV]
        rw [if_neg (show ¬ ((9 : Nat) : Int) < 9 by omega), if_pos (show fracV s ≤ (9223372036854775807 : Int) by omega), if_pos rfl, if_neg (by omega)]
      rw [e1, repeat48 _ (by omega)]
      simp only [Option.bind_some, str_size, List.length_replicate]
      rw [if_pos (by omega), figs_Whole _ (by omega) 9 9, hE, hK, hV]; rfl
    · simp only [a, if_false, show ((2 : Int) = 0) = False by simp, not_false_eq_true, if_true]
end Go.Proofs.YtddnfappkfiidaaGreat.Ev
