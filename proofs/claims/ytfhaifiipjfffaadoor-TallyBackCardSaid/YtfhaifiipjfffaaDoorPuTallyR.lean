/- Twelve counts: adding by the reference, sums. -/
import Derived.Test.YtfhaifiipjfffaaDoorPuTally
namespace Go.Proofs.YtfhaifiipjfffaaDoor.Ev
open Go
set_option linter.unusedVariables false
set_option linter.unusedSimpArgs false
set_option maxRecDepth 4000
theorem ref32_add {m : List Int} (h : cntOk m) (k b : Int) (hb : i64 b) : g_ref32_Add ((), (tU m, ((k, ()), ((b, ()), ())))) = some ((), (tU (addM m k b), ((addE m k b, ()), ()))) := by
  have hr := cnt_range h k
  have hx := big_of (cntK m k) (by omega)
  have hy := big_of b hb
  have hp : g_ref01_Plus ((), ((decide (cntK m k < 0), (dg (cntK m k).natAbs, ())), ((decide (b < 0), (dg b.natAbs, ())), ()))) = some ((), ((decide (cntK m k + b < 0), (dg (cntK m k + b).natAbs, ())), ())) := big_plus (cntK m k) b (sm_of (by omega)) (sm_of (by unfold i64 at hb; omega))
  have hs : g_ref01_Small ((), ((decide (cntK m k + b < 0), (dg (cntK m k + b).natAbs, ())), ())) = _ := big_small (cntK m k + b) (sm_of (by unfold i64 at hb; omega))
  obtain ⟨hl, _⟩ := h
  obtain ⟨a0, a1, a2, a3, a4, a5, a6, a7, a8, a9, a10, a11, rfl⟩ := l12 hl
  obtain ⟨s1, s2, s3, s4, s5, s6, s7, s8, s9, s10, s11, s12⟩ := isub_kinds
  refine (Evn.some (F := fun f => f_ref32_Add_m (f_ref32_Add_t f) ((), (tU [a0, a1, a2, a3, a4, a5, a6, a7, a8, a9, a10, a11], ((k, ()), ((b, ()), ()))))) 3 fun f => ?_).lim
  simp only [f_ref32_Add_m, t_ref32_Add, f_ref32_Add_p7, f_ref32_Add_p11, f_ref32_Add_p12, fitsS_dec, Option.bind_some, Option.isNone_none, Option.isNone_some, Option.isSome_none, Option.isSome_some, Bool.not_true, Bool.not_false, cond_true, cond_false, cond_dec, beq_int, bne_int, not_dec, and_dec, gt_iff_lt]
  by_cases c : 1 ≤ k ∧ k ≤ 12
  · rw [if_neg (by omega), if_neg (by omega)]
    by_cases c2 : b < 0
    · have e : addE [a0, a1, a2, a3, a4, a5, a6, a7, a8, a9, a10, a11] k b = 1 := by unfold addE; rw [if_neg (not_not_intro c), if_pos c2]
      unfold addM
      rw [e, if_pos c2]
      rfl
    · have e : addE [a0, a1, a2, a3, a4, a5, a6, a7, a8, a9, a10, a11] k b = if 9223372036854775807 < cntK [a0, a1, a2, a3, a4, a5, a6, a7, a8, a9, a10, a11] k + b then 5 else 0 := by unfold addE; rw [if_neg (not_not_intro c), if_neg c2]
      unfold addM
      rw [e, if_neg c2]
      by_cases c3 : 9223372036854775807 < cntK [a0, a1, a2, a3, a4, a5, a6, a7, a8, a9, a10, a11] k + b
      · rw [if_neg (by omega), if_neg (by omega)] at hs
        rw [if_pos c3]
        rcases kinds c with rfl | rfl | rfl | rfl | rfl | rfl | rfl | rfl | rfl | rfl | rfl | rfl <;> (simp only [cntK, Int.reduceLT, Int.reduceLE, Int.reduceEq, Int.reduceGT, Int.reduceSub, Int.reduceAdd, gt_iff_lt, ge_iff_le, if_true, if_false, and_self, and_true, true_and, Int.reduceToNat, List.getD_cons_zero, List.getD_cons_succ] at hx hp hs; simp only [s1, s2, s3, s4, s5, s6, s7, s8, s9, s10, s11, s12, tU, Int.reduceLT, Int.reduceLE, Int.reduceEq, Int.reduceGT, Int.reduceSub, Int.reduceAdd, gt_iff_lt, ge_iff_le, if_true, if_false, and_self, and_true, true_and, not_true_eq_false, List.getD_cons_zero, List.getD_cons_succ, hx, hy, hp, hs, fitsS_dec, Option.bind_some, Option.isNone_none, Option.isNone_some, Option.isSome_none, Option.isSome_some, Bool.not_true, Bool.not_false, cond_true, cond_false, cond_dec, beq_int, bne_int, not_dec]; rfl)
      · rw [if_pos (by omega), if_pos (by omega)] at hs
        rw [if_neg c3]
        rcases kinds c with rfl | rfl | rfl | rfl | rfl | rfl | rfl | rfl | rfl | rfl | rfl | rfl <;> (simp only [cntK, Int.reduceLT, Int.reduceLE, Int.reduceEq, Int.reduceGT, Int.reduceSub, Int.reduceAdd, gt_iff_lt, ge_iff_le, if_true, if_false, and_self, and_true, true_and, Int.reduceToNat, List.getD_cons_zero, List.getD_cons_succ] at hx hp hs ⊢; simp only [s1, s2, s3, s4, s5, s6, s7, s8, s9, s10, s11, s12, tU, Int.reduceLT, Int.reduceLE, Int.reduceEq, Int.reduceGT, Int.reduceSub, Int.reduceAdd, gt_iff_lt, ge_iff_le, if_true, if_false, and_self, and_true, true_and, not_true_eq_false, List.getD_cons_zero, List.getD_cons_succ, hx, hy, hp, hs, fitsS_dec, Option.bind_some, Option.isNone_none, Option.isNone_some, Option.isSome_none, Option.isSome_some, Bool.not_true, Bool.not_false, cond_true, cond_false, cond_dec, beq_int, bne_int, not_dec]; rfl)
  · have e : addE [a0, a1, a2, a3, a4, a5, a6, a7, a8, a9, a10, a11] k b = 11 := by unfold addE; rw [if_pos c]
    unfold addM
    rw [e]
    by_cases c1 : k < 1
    · rw [if_pos c1]; rfl
    · rw [if_neg c1, if_pos (by omega)]; rfl
/-! ### sums -/
def sumV (m : List Int) : List Int → Int
  | [] => 0
  | k :: l => cntK m k + sumV m l
theorem sumV_range {m : List Int} (h : cntOk m) : ∀ l : List Int, 0 ≤ sumV m l ∧ sumV m l ≤ l.length * 9223372036854775807
  | [] => ⟨Int.le_refl _, by simp [sumV]⟩
  | k :: l => by
    have := sumV_range h l
    have := cnt_range h k
    simp only [sumV, List.length_cons]
    omega
def lsum : List Int → Int
  | [] => 0
  | x :: l => x + lsum l
theorem lsum_map (m : List Int) : ∀ l : List Int, lsum (l.map (cntK m)) = sumV m l
  | [] => rfl
  | k :: l => by rw [List.map_cons, lsum, lsum_map m l, sumV]
theorem lsum_nn : ∀ l : List Int, (∀ x ∈ l, 0 ≤ x ∧ x ≤ 9223372036854775807) → 0 ≤ lsum l
  | [], _ => Int.le_refl _
  | x :: l, h => by
    have := lsum_nn l fun y hy => h y (List.mem_cons_of_mem _ hy)
    have := h x (List.mem_cons_self ..)
    rw [lsum]; omega
theorem gd_i64 (l : List Int) (i : Int) : gd (.int .i64) l i = l.getD i.toNat 0 := rfl
theorem nsum_p4 (L : List Int) (hL : ∀ x ∈ L, 0 ≤ x ∧ x ≤ 9223372036854775807) (hlen : L.length ≤ 1000) : ∀ (r done : List Int) (s : Int), L = done ++ r → 0 ≤ s → s ≤ 9223372036854775807 →
    Evn (fun k => (f_num_Sum_t k).1 ((), ((s, ()), ((L, ()), (((L.length : Int), ()), (((done.length : Int), ()), ())))))) ((), ((if 9223372036854775807 < s + lsum r then 0 else s + lsum r, ()), ((errOf (if 9223372036854775807 < s + lsum r then 5 else 0), ()), ())))
  | [], done, s, e, h0, h1 => by
    have hl := congrArg List.length e
    simp only [List.length_append, List.length_nil] at hl
    rw [lsum, Int.add_zero, if_neg (by omega), if_neg (by omega)]
    refine Evn.some 1 fun k => ?_
    rw [t_num_Sum]
    simp only [f_num_Sum_p4, fitsS_dec, Option.bind_some, Option.isNone_none, Option.isNone_some, Option.isSome_none, Option.isSome_some, Bool.not_true, Bool.not_false, cond_true, cond_false, cond_dec, beq_int, bne_int, not_dec]
    rw [if_neg (by omega)]; rfl
  | x :: r, done, s, e, h0, h1 => by
    have hl := congrArg List.length e
    simp only [List.length_append, List.length_cons] at hl
    have hx := hL x (by rw [e]; simp)
    have hr := lsum_nn r fun y hy => hL y (by rw [e]; simp [hy])
    have hg : gd (.int .i64) L (done.length : Int) = x := by
      rw [gd_i64, Int.toNat_natCast, List.getD_eq_getElem?_getD, e, List.getElem?_append_right (Nat.le_refl _), Nat.sub_self]
      rfl
    have ha := num_add s x (by unfold i64; omega) (by unfold i64; omega)
    rw [lsum, show s + (x + lsum r) = s + x + lsum r by omega]
    by_cases c : 9223372036854775807 < s + x
    · rw [if_neg (by unfold i64; omega), if_neg (by unfold i64; omega)] at ha
      rw [if_pos (by omega), if_pos (by omega)]
      refine Evn.some 1 fun k => ?_
      rw [t_num_Sum]
      simp only [f_num_Sum_p4, fitsS_dec, Option.bind_some, Option.isNone_none, Option.isNone_some, Option.isSome_none, Option.isSome_some, Bool.not_true, Bool.not_false, cond_true, cond_false, cond_dec, beq_int, bne_int, not_dec, and_dec, hg, ha]
      rw [if_pos (by omega), if_pos (by omega)]; rfl
    · rw [if_pos (by unfold i64; omega), if_pos (by unfold i64; omega)] at ha
      have ih := nsum_p4 L hL hlen r (done ++ [x]) (s + x) (by rw [e, List.append_assoc]; rfl) (by omega) (by omega)
      simp only [List.length_append, List.length_singleton] at ih
      refine ih.step fun k => ?_
      rw [t_num_Sum]
      simp only [f_num_Sum_p4, fitsS_dec, Option.bind_some, Option.isNone_none, Option.isNone_some, Option.isSome_none, Option.isSome_some, Bool.not_true, Bool.not_false, cond_true, cond_false, cond_dec, beq_int, bne_int, not_dec, and_dec, hg, ha]
      rw [if_pos (by omega), if_pos (by omega), iadd_i64 (by omega)]
      rfl
theorem num_sum (L : List Int) (hL : ∀ x ∈ L, 0 ≤ x ∧ x ≤ 9223372036854775807) (hlen : L.length ≤ 1000) : g_num_Sum ((), ((L, ()), ())) = some ((), ((if 9223372036854775807 < lsum L then 0 else lsum L, ()), ((errOf (if 9223372036854775807 < lsum L then 5 else 0), ()), ()))) := by
  have h := nsum_p4 L hL hlen L [] 0 rfl (Int.le_refl _) (by decide)
  rw [Int.zero_add] at h
  exact (h.cast fun k => rfl).lim
def sumE (m ks : List Int) : Int := if ∀ k ∈ ks, 1 ≤ k ∧ k ≤ 12 then (if 9223372036854775807 < sumV m ks then 5 else 0) else 11
def sumN (m ks : List Int) : Int := if sumE m ks = 0 then sumV m ks else 0
theorem tsum_p7 {m : List Int} (h : cntOk m) (ks : List Int) (hk : ks.length ≤ 60) : ∀ (r done : List Int), ks = done ++ r → (∀ k ∈ done, 1 ≤ k ∧ k ≤ 12) →
    Evn (fun j => (f_tally_Tally_Sum_t j).1 ((done.map (cntK m), ()), ((some (tN m), ()), ((), ((ks, ()), (((ks.length : Int), ()), (((done.length : Int), ()), ()))))))) ((), ((sumN m ks, ()), ((errOf (sumE m ks), ()), ())))
  | [], done, e, hd => by
    rw [List.append_nil] at e
    subst e
    have hs := num_sum (ks.map (cntK m)) (fun x hx => by obtain ⟨k, _, rfl⟩ := List.mem_map.1 hx; exact cnt_range h k) (by rw [List.length_map]; omega)
    rw [lsum_map] at hs
    have e1 : sumE m ks = if 9223372036854775807 < sumV m ks then 5 else 0 := if_pos hd
    refine Evn.some 1 fun j => ?_
    rw [t_tally_Tally_Sum]
    simp only [f_tally_Tally_Sum_p7, fitsS_dec, Option.bind_some, Option.isNone_none, Option.isNone_some, Option.isSome_none, Option.isSome_some, Bool.not_true, Bool.not_false, cond_true, cond_false, cond_dec, beq_int, bne_int, not_dec, hs]
    rw [if_neg (by omega)]
    unfold sumN
    rw [e1]
    by_cases c : 9223372036854775807 < sumV m ks
    · simp [c]
    · simp [c]
  | k :: r, done, e, hd => by
    have hl := congrArg List.length e
    simp only [List.length_append, List.length_cons] at hl
    have hg : gd (.int .i64) ks (done.length : Int) = k := by
      rw [gd_i64, Int.toNat_natCast, List.getD_eq_getElem?_getD, e, List.getElem?_append_right (Nat.le_refl _), Nat.sub_self]
      rfl
    by_cases c : 1 ≤ k ∧ k ≤ 12
    · have ih := tsum_p7 h ks hk r (done ++ [k]) (by rw [e, List.append_assoc]; rfl) (fun x hx => by
        rcases List.mem_append.1 hx with q | q
        · exact hd x q
        · rw [List.mem_singleton.1 q]; exact c)
      simp only [List.length_append, List.length_singleton, List.map_append, List.map_cons, List.map_nil] at ih
      refine ih.step fun j => ?_
      rw [t_tally_Tally_Sum]
      simp only [f_tally_Tally_Sum_p7, fitsS_dec, Option.bind_some, Option.isNone_none, Option.isNone_some, Option.isSome_none, Option.isSome_some, Bool.not_true, Bool.not_false, cond_true, cond_false, cond_dec, beq_int, bne_int, not_dec, and_dec, hg, known_eq, tally_count, c, not_true_eq_false, and_self, if_false, List.length_map, List.length_singleton]
      rw [if_pos (by omega), if_pos (by omega), if_pos (by omega), iadd_i64 (by omega)]
      rfl
    · have e1 : sumE m ks = 11 := if_neg fun q => c (q k (by rw [e]; simp))
      unfold sumN
      rw [e1]
      refine Evn.some 1 fun j => ?_
      rw [t_tally_Tally_Sum]
      simp only [f_tally_Tally_Sum_p7, fitsS_dec, Option.bind_some, Option.isNone_none, Option.isNone_some, Option.isSome_none, Option.isSome_some, Bool.not_true, Bool.not_false, cond_true, cond_false, cond_dec, beq_int, bne_int, not_dec, and_dec, hg, known_eq, c, not_false_eq_true, if_true]
      rw [if_pos (by omega), if_pos (by omega)]
      rfl
theorem tally_sum {m : List Int} (h : cntOk m) (ks : List Int) (hk : ks.length ≤ 60) : g_tally_Tally_Sum ((), ((some (tN m), ()), ((ks, ()), ()))) = some ((), ((sumN m ks, ()), ((errOf (sumE m ks), ()), ()))) := by
  have := tsum_p7 h ks hk ks [] rfl (fun k hk => by cases hk)
  refine (this.cast fun j => ?_).lim
  simp only [f_tally_Tally_Sum_m, Option.isNone_some, cond_false]
  rfl
theorem sumV_snoc (m : List Int) (k : Int) : ∀ l : List Int, sumV m (l ++ [k]) = sumV m l + cntK m k
  | [] => by simp [sumV]
  | x :: l => by rw [List.cons_append, sumV, sumV, sumV_snoc m k l]; omega
theorem rsum_p4 {m : List Int} (h : cntOk m) (ks : List Int) (hk : ks.length ≤ 60) : ∀ (r done : List Int), ks = done ++ r → (∀ k ∈ done, 1 ≤ k ∧ k ≤ 12) →
    Evn (fun j => (f_ref32_Sum_t j).1 ((tU m, (big (sumV m done), ())), ((ks, ()), ((), ((), (((done.length : Int), ()), ())))))) ((), ((sumN m ks, ()), ((sumE m ks, ()), ())))
  | [], done, e, hd => by
    rw [List.append_nil] at e
    subst e
    have hv := sumV_range h ks
    have hs := big_small (sumV m ks) (sm_of (by omega))
    have e1 : sumE m ks = if 9223372036854775807 < sumV m ks then 5 else 0 := if_pos hd
    refine Evn.some 1 fun j => ?_
    rw [t_ref32_Sum]
    simp only [f_ref32_Sum_p4, fitsS_dec, Option.bind_some, Option.isNone_none, Option.isNone_some, Option.isSome_none, Option.isSome_some, Bool.not_true, Bool.not_false, cond_true, cond_false, cond_dec, beq_int, bne_int, not_dec, hs]
    rw [if_neg (by omega)]
    unfold sumN
    rw [e1]
    by_cases c : 9223372036854775807 < sumV m ks
    · rw [if_neg (by omega), if_neg (by omega)]; simp [c]
    · rw [if_pos (by omega), if_pos (by omega)]; simp [c]
  | k :: r, done, e, hd => by
    have hl := congrArg List.length e
    simp only [List.length_append, List.length_cons] at hl
    have hg : gd (.int .i64) ks (done.length : Int) = k := by
      rw [gd_i64, Int.toNat_natCast, List.getD_eq_getElem?_getD, e, List.getElem?_append_right (Nat.le_refl _), Nat.sub_self]
      rfl
    have hb1 : (done.length : Int) < (ks.length : Int) := by omega
    have hb2 : (0 : Int) ≤ (done.length : Int) ∧ (done.length : Int) < (ks.length : Int) := by omega
    by_cases c : 1 ≤ k ∧ k ≤ 12
    · have ih := rsum_p4 h ks hk r (done ++ [k]) (by rw [e, List.append_assoc]; rfl) (fun x hx => by
        rcases List.mem_append.1 hx with q | q
        · exact hd x q
        · rw [List.mem_singleton.1 q]; exact c)
      rw [sumV_snoc m k done] at ih
      simp only [List.length_append, List.length_singleton] at ih
      have hr := cnt_range h k
      have hv := sumV_range h done
      have hx := big_of (cntK m k) (by omega)
      have hp : g_ref01_Plus ((), (big (sumV m done), ((decide (cntK m k < 0), (dg (cntK m k).natAbs, ())), ()))) = some ((), (big (sumV m done + cntK m k), ())) := big_plus (sumV m done) (cntK m k) (sm_of (by omega)) (sm_of (by omega))
      have i1 : iadd .i64 (done.length : Int) 1 = ((done.length + 1 : Nat) : Int) := by rw [iadd_i64 (by omega)]; rfl
      obtain ⟨s1, s2, s3, s4, s5, s6, s7, s8, s9, s10, s11, s12⟩ := isub_kinds
      refine (ih.step (F := fun j => (f_ref32_Sum_t j).2.1 ((tU m, (big (sumV m done + cntK m k), ())), ((ks, ()), ((), ((), (((done.length : Int), ()), ())))))) fun j => ?_).step fun j => ?_
      · rw [t_ref32_Sum]
        simp only [f_ref32_Sum_p7, i1]
      · rw [t_ref32_Sum]
        simp only [f_ref32_Sum_p4, fitsS_dec, Option.bind_some, Option.isNone_none, Option.isNone_some, Option.isSome_none, Option.isSome_some, Bool.not_true, Bool.not_false, cond_true, cond_false, cond_dec, beq_int, bne_int, not_dec, and_dec, hg, gt_iff_lt]
        simp only [if_pos hb1, if_pos hb2, if_neg (show ¬ k < 1 by omega), if_neg (show ¬ 12 < k by omega)]
        generalize sumV m done = V at hp
        clear ih
        rcases kinds c with rfl | rfl | rfl | rfl | rfl | rfl | rfl | rfl | rfl | rfl | rfl | rfl <;> (simp only [cntK, Int.reduceLT, Int.reduceLE, Int.reduceEq, Int.reduceGT, Int.reduceSub, Int.reduceAdd, gt_iff_lt, ge_iff_le, if_true, if_false, and_self, and_true, true_and, Int.reduceToNat] at hx hp ⊢; simp only [s1, s2, s3, s4, s5, s6, s7, s8, s9, s10, s11, s12, tU, Int.reduceLT, Int.reduceLE, Int.reduceEq, Int.reduceGT, Int.reduceSub, Int.reduceAdd, gt_iff_lt, ge_iff_le, if_true, if_false, and_self, and_true, true_and, hx, hp, fitsS_dec, Option.bind_some, Option.isNone_none, Option.isNone_some, Option.isSome_none, Option.isSome_some, Bool.not_true, Bool.not_false, cond_true, cond_false, cond_dec, beq_int, bne_int, not_dec])
    · have e1 : sumE m ks = 11 := if_neg fun q => c (q k (by rw [e]; simp))
      unfold sumN
      rw [e1]
      refine Evn.some 1 fun j => ?_
      rw [t_ref32_Sum]
      simp only [f_ref32_Sum_p4, fitsS_dec, Option.bind_some, Option.isNone_none, Option.isNone_some, Option.isSome_none, Option.isSome_some, Bool.not_true, Bool.not_false, cond_true, cond_false, cond_dec, beq_int, bne_int, not_dec, and_dec, hg, gt_iff_lt]
      simp only [if_pos hb1, if_pos hb2]
      by_cases c1 : k < 1
      · rw [if_pos c1]; rfl
      · simp only [if_neg c1, if_pos (show 12 < k by omega)]; rfl
theorem ref32_sum {m : List Int} (h : cntOk m) (ks : List Int) (hk : ks.length ≤ 60) : g_ref32_Sum ((), (tU m, ((ks, ()), ()))) = some ((), ((sumN m ks, ()), ((sumE m ks, ()), ()))) := by
  have := rsum_p4 h ks hk ks [] rfl (fun k hk => by cases hk)
  have h0 := big_of 0 (by decide)
  refine (this.cast fun j => ?_).lim
  simp only [f_ref32_Sum_m, h0, fitsS_dec, Option.bind_some, Option.isNone_none, Option.isNone_some, Option.isSome_none, Option.isSome_some, Bool.not_true, Bool.not_false, cond_true, cond_false, cond_dec, beq_int, bne_int, not_dec]
  rfl
end Go.Proofs.YtfhaifiipjfffaaDoor.Ev
