/- Twelve counts: adding by the reference, sums. -/
import Derived.Test.YtfhaifiipjfffaaGreatDoorPuTally
namespace Go.Proofs.YtfhaifiipjfffaaGreatDoor.Ev
open Go
set_option linter.unusedVariables false
set_option linter.unusedSimpArgs false
set_option maxRecDepth 4000
/-! ### sums -/
def sumV (m : List Int) : List Int → Int
  | [] => 0
  | k :: l => cntK m k + sumV m l
theorem sumV_range {m : List Int} (h : cntOk m) : ∀ l : List Int, 0 ≤ sumV m l ∧ sumV m l ≤ l.length * 9223372036854775807
  | [] => ⟨Int.le_refl _, by simp [sumV]⟩
  | k :: l => by
    have := sumV_range h l
    have := cnt_range h k
    simp only [sumV, List.length_cons]
    omega
def lsum : List Int → Int
  | [] => 0
  | x :: l => x + lsum l
theorem lsum_map (m : List Int) : ∀ l : List Int, lsum (l.map (cntK m)) = sumV m l
  | [] => rfl
  | k :: l => by rw [List.map_cons, lsum, lsum_map m l, sumV]
theorem lsum_nn : ∀ l : List Int, (∀ x ∈ l, 0 ≤ x ∧ x ≤ 9223372036854775807) → 0 ≤ lsum l
  | [], _ => Int.le_refl _
  | x :: l, h => by
    have := lsum_nn l fun y hy => h y (List.mem_cons_of_mem _ hy)
    have := h x (List.mem_cons_self ..)
    rw [lsum]; omega
theorem gd_i64 (l : List Int) (i : Int) : gd (.int .i64) l i = l.getD i.toNat 0 := rfl
theorem nsum_p4 (L : List Int) (hL : ∀ x ∈ L, 0 ≤ x ∧ x ≤ 9223372036854775807) (hlen : L.length ≤ 1000) : ∀ (r done : List Int) (s : Int), L = done ++ r → 0 ≤ s → s ≤ 9223372036854775807 →
    Evn (fun k => (f_num_Sum_t k).1 ((), ((s, ()), ((L, ()), (((L.length : Int), ()), (((done.length : Int), ()), ())))))) ((), ((if 9223372036854775807 < s + lsum r then 0 else s + lsum r, ()), ((errOf (if 9223372036854775807 < s + lsum r then 5 else 0), ()), ())))
  | [], done, s, e, h0, h1 => by
    have hl := congrArg List.length e
    simp only [List.length_append, List.length_nil] at hl
    rw [lsum, Int.add_zero, if_neg (by omega), if_neg (by omega)]
    refine Evn.some 1 fun k => ?_
    rw [t_num_Sum]
    simp only [f_num_Sum_p4, fitsS_dec, Option.bind_some, Option.isNone_none, Option.isNone_some, Option.isSome_none, Option.isSome_some, Bool.not_true, Bool.not_false, cond_true, cond_false, cond_dec, beq_int, bne_int, not_dec]
    rw [if_neg (by omega)]; rfl
  | x :: r, done, s, e, h0, h1 => by
    have hl := congrArg List.length e
    simp only [List.length_append, List.length_cons] at hl
    have hx := hL x (by rw [e]; simp)
    have hr := lsum_nn r fun y hy => hL y (by rw [e]; simp [hy])
    have hg : gd (.int .i64) L (done.length : Int) = x := by
      rw [gd_i64, Int.toNat_natCast, List.getD_eq_getElem?_getD, e, List.getElem?_append_right (Nat.le_refl _), Nat.sub_self]
      rfl
    have ha := num_add s x (by unfold i64; omega) (by unfold i64; omega)
    rw [lsum, show s + (x + lsum r) = s + x + lsum r by omega]
    by_cases c : 9223372036854775807 < s + x
    · rw [if_neg (by unfold i64; omega), if_neg (by unfold i64; omega)] at ha
      rw [if_pos (by omega), if_pos (by omega)]
      refine Evn.some 1 fun k => ?_
      rw [t_num_Sum]
      simp only [f_num_Sum_p4, fitsS_dec, Option.bind_some, Option.isNone_none, Option.isNone_some, Option.isSome_none, Option.isSome_some, Bool.not_true, Bool.not_false, cond_true, cond_false, cond_dec, beq_int, bne_int, not_dec, and_dec, hg, ha]
      rw [if_pos (by omega), if_pos (by omega)]; rfl
    · rw [if_pos (by unfold i64; omega), if_pos (by unfold i64; omega)] at ha
      have ih := nsum_p4 L hL hlen r (done ++ [x]) (s + x) (by rw [e, List.append_assoc]; rfl) (by omega) (by omega)
      simp only [List.length_append, List.length_singleton] at ih
      refine ih.step fun k => ?_
      rw [t_num_Sum]
      simp only [f_num_Sum_p4, fitsS_dec, Option.bind_some, Option.isNone_none, Option.isNone_some, Option.isSome_none, Option.isSome_some, Bool.not_true, Bool.not_false, cond_true, cond_false, cond_dec, beq_int, bne_int, not_dec, and_dec, hg, ha]
      rw [if_pos (by omega), if_pos (by omega), iadd_i64 (by omega)]
      rfl
theorem num_sum (L : List Int) (hL : ∀ x ∈ L, 0 ≤ x ∧ x ≤ 9223372036854775807) (hlen : L.length ≤ 1000) : g_num_Sum ((), ((L, ()), ())) = some ((), ((if 9223372036854775807 < lsum L then 0 else lsum L, ()), ((errOf (if 9223372036854775807 < lsum L then 5 else 0), ()), ()))) := by
  have h := nsum_p4 L hL hlen L [] 0 rfl (Int.le_refl _) (by decide)
  rw [Int.zero_add] at h
  exact (h.cast fun k => rfl).lim
def sumE (m ks : List Int) : Int := if ∀ k ∈ ks, 1 ≤ k ∧ k ≤ 12 then (if 9223372036854775807 < sumV m ks then 5 else 0) else 11
def sumN (m ks : List Int) : Int := if sumE m ks = 0 then sumV m ks else 0
theorem tsum_p7 {m : List Int} (h : cntOk m) (ks : List Int) (hk : ks.length ≤ 60) : ∀ (r done : List Int), ks = done ++ r → (∀ k ∈ done, 1 ≤ k ∧ k ≤ 12) →
    Evn (fun j => (f_tally_Tally_Sum_t j).1 ((done.map (cntK m), ()), ((some (tN m), ()), ((), ((ks, ()), (((ks.length : Int), ()), (((done.length : Int), ()), ()))))))) ((), ((sumN m ks, ()), ((errOf (sumE m ks), ()), ())))
  | [], done, e, hd => by
    rw [List.append_nil] at e
    subst e
    have hs := num_sum (ks.map (cntK m)) (fun x hx => by obtain ⟨k, _, rfl⟩ := List.mem_map.1 hx; exact cnt_range h k) (by rw [List.length_map]; omega)
    rw [lsum_map] at hs
    have e1 : sumE m ks = if 9223372036854775807 < sumV m ks then 5 else 0 := if_pos hd
    refine Evn.some 1 fun j => ?_
    rw [t_tally_Tally_Sum]
    simp only [f_tally_Tally_Sum_p7, fitsS_dec, Option.bind_some, Option.isNone_none, Option.isNone_some, Option.isSome_none, Option.isSome_some, Bool.not_true, Bool.not_false, cond_true, cond_false, cond_dec, beq_int, bne_int, not_dec, hs]
    rw [if_neg (by omega)]
    unfold sumN
    rw [e1]
    by_cases c : 9223372036854775807 < sumV m ks
    · simp [c]
    · simp [c]
  | k :: r, done, e, hd => by
    have hl := congrArg List.length e
    simp only [List.length_append, List.length_cons] at hl
    have hg : gd (.int .i64) ks (done.length : Int) = k := by
      rw [gd_i64, Int.toNat_natCast, List.getD_eq_getElem?_getD, e, List.getElem?_append_right (Nat.le_refl _), Nat.sub_self]
      rfl
    by_cases c : 1 ≤ k ∧ k ≤ 12
    · have ih := tsum_p7 h ks hk r (done ++ [k]) (by rw [e, List.append_assoc]; rfl) (fun x hx => by
        rcases List.mem_append.1 hx with q | q
        · exact hd x q
        · rw [List.mem_singleton.1 q]; exact c)
      simp only [List.length_append, List.length_singleton, List.map_append, List.map_cons, List.map_nil] at ih
      refine ih.step fun j => ?_
      rw [t_tally_Tally_Sum]
      simp only [f_tally_Tally_Sum_p7, fitsS_dec, Option.bind_some, Option.isNone_none, Option.isNone_some, Option.isSome_none, Option.isSome_some, Bool.not_true, Bool.not_false, cond_true, cond_false, cond_dec, beq_int, bne_int, not_dec, and_dec, hg, known_eq, tally_count, c, not_true_eq_false, and_self, if_false, List.length_map, List.length_singleton]
      rw [if_pos (by omega), if_pos (by omega), if_pos (by omega), iadd_i64 (by omega)]
      rfl
    · have e1 : sumE m ks = 11 := if_neg fun q => c (q k (by rw [e]; simp))
      unfold sumN
      rw [e1]
      refine Evn.some 1 fun j => ?_
      rw [t_tally_Tally_Sum]
      simp only [f_tally_Tally_Sum_p7, fitsS_dec, Option.bind_some, Option.isNone_none, Option.isNone_some, Option.isSome_none, Option.isSome_some, Bool.not_true, Bool.not_false, cond_true, cond_false, cond_dec, beq_int, bne_int, not_dec, and_dec, hg, known_eq, c, not_false_eq_true, if_true]
      rw [if_pos (by omega), if_pos (by omega)]
      rfl
theorem tally_sum {m : List Int} (h : cntOk m) (ks : List Int) (hk : ks.length ≤ 60) : g_tally_Tally_Sum ((), ((some (tN m), ()), ((ks, ()), ()))) = some ((), ((sumN m ks, ()), ((errOf (sumE m ks), ()), ()))) := by
  have := tsum_p7 h ks hk ks [] rfl (fun k hk => by cases hk)
  refine (this.cast fun j => ?_).lim
  simp only [f_tally_Tally_Sum_m, Option.isNone_some, cond_false]
  rfl
theorem sumV_snoc (m : List Int) (k : Int) : ∀ l : List Int, sumV m (l ++ [k]) = sumV m l + cntK m k
  | [] => by simp [sumV]
  | x :: l => by rw [List.cons_append, sumV, sumV, sumV_snoc m k l]; omega
end Go.Proofs.YtfhaifiipjfffaaGreatDoor.Ev
