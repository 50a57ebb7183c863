/- The laws of fractions, plain. -/
import Derived.Test.YtfdppbfefplikaaDoorPuFrac
namespace Go.Proofs.YtfdppbfefplikaaDoor.Ev
open Go
set_option linter.unusedVariables false
set_option linter.unusedSimpArgs false
theorem nano_out {n : Int} (c : ¬ inNano n) : n < 0 ∨ 999999999 < n := by unfold inNano at c; omega
theorem fractions_p20 (n many : Int) (c : inNano n) : ∀ k : Nat, k ≤ 9 → rtl (nine n) k = rtl (nine n) 9 →
    Evn (fun j => (f_law02_FiguresFractions_t j).1 ((), ((many, ()), ((errOf (if inNano n ∧ 0 ≤ many ∧ many ≤ 9 then 0 else 1), ()), ((if inNano n ∧ 0 ≤ many ∧ many ≤ 9 then strOf ((nine n).take many.toNat) else strOf [], ()), ((strOf ((nine n).take (rtl (nine n) 9)), ()), ((none, ()), ((strOf (nine n), ()), (((k : Int), ()), ()))))))))) ((), ((true, ()), ())) := by
  have hl := nine_len c
  have hsz : (strOf (nine n)).size = 9 := by rw [str_size, hl]
  have hi := is1_err (inNano n ∧ 0 ≤ many ∧ many ≤ 9)
  have fin : ∀ k : Nat, k ≤ 9 → rtl (nine n) k = rtl (nine n) 9 → (k = 0 ∨ (nine n).getD (k - 1) 0 ≠ 48) → Evn (fun j => (f_law02_FiguresFractions_t j).1 ((), ((many, ()), ((errOf (if inNano n ∧ 0 ≤ many ∧ many ≤ 9 then 0 else 1), ()), ((if inNano n ∧ 0 ≤ many ∧ many ≤ 9 then strOf ((nine n).take many.toNat) else strOf [], ()), ((strOf ((nine n).take (rtl (nine n) 9)), ()), ((none, ()), ((strOf (nine n), ()), (((k : Int), ()), ()))))))))) ((), ((true, ()), ())) := by
    intro k hk hr hs
    have hrk : rtl (nine n) 9 = k := by
      rw [← hr]
      cases k with
      | zero => rfl
      | succ k => unfold rtl; rw [if_neg (by
        rcases hs with h | h
        · omega
        · exact h)]
    have hx : (strOf (nine n)).extract 0 k = strOf ((nine n).take k) := by rw [str_cut, List.drop_zero]
    refine Evn.some 1 fun j => ?_
    simp only [t_law02_FiguresFractions, f_law02_FiguresFractions_p20, Option.bind_some, Option.isNone_none, Option.isNone_some, Option.isSome_none, Option.isSome_some, Bool.not_true, Bool.not_false, cond_true, cond_false, cond_dec, beq_int, bne_int, not_dec, gt_iff_lt, and_dec, hsz, str_eq, hrk, Int.toNat_natCast, show Int.toNat 0 = 0 from rfl, hx, not_true_eq_false, if_false, hi]
    have rest : (if (((0 : Int) ≤ 0 ∧ (0 : Int) ≤ (k : Int)) ∧ (k : Int) ≤ ((9 : Nat) : Int)) then
        if many < 0 then
          if bytesOf (if inNano n ∧ 0 ≤ many ∧ many ≤ 9 then strOf ((nine n).take many.toNat) else strOf []) = bytesOf ⟨#[]⟩ then some ((), (decide (¬ (inNano n ∧ 0 ≤ many ∧ many ≤ 9)), ()), ()) else some ((), (false, ()), ())
        else if 9 < many then
          if bytesOf (if inNano n ∧ 0 ≤ many ∧ many ≤ 9 then strOf ((nine n).take many.toNat) else strOf []) = bytesOf ⟨#[]⟩ then some ((), (decide (¬ (inNano n ∧ 0 ≤ many ∧ many ≤ 9)), ()), ()) else some ((), (false, ()), ())
        else if (errOf (if inNano n ∧ 0 ≤ many ∧ many ≤ 9 then 0 else 1)).isNone = true then
          if (((0 : Int) ≤ 0 ∧ (0 : Int) ≤ many) ∧ many ≤ ((9 : Nat) : Int)) then some ((), (decide (bytesOf (if inNano n ∧ 0 ≤ many ∧ many ≤ 9 then strOf ((nine n).take many.toNat) else strOf []) = bytesOf ((strOf (nine n)).extract 0 many.toNat)), ()), ()) else none
        else some ((), (false, ()), ()) else none : Option (Unit × (Bool × Unit) × Unit)) = some ((), ((true, ()), ())) := by
      rw [if_pos (by omega)]
      by_cases c1 : many < 0
      · have hne : ¬ (inNano n ∧ 0 ≤ many ∧ many ≤ 9) := fun q => by omega
        rw [if_pos c1, if_neg hne, if_pos (by kernel_rfl), decide_eq_true hne]
      · rw [if_neg c1]
        by_cases c2 : 9 < many
        · have hne : ¬ (inNano n ∧ 0 ≤ many ∧ many ≤ 9) := fun q => by omega
          rw [if_pos c2, if_neg hne, if_pos (by kernel_rfl), decide_eq_true hne]
        · have hp : inNano n ∧ 0 ≤ many ∧ many ≤ 9 := ⟨c, by omega, by omega⟩
          rw [if_neg c2]
          simp only [if_pos hp]
          rw [if_pos (show (errOf 0).isNone = true from rfl), if_pos (by omega), str_cut, List.drop_zero, decide_eq_true rfl]
    simp only [Bool.cond_eq_ite]
    cases k with
    | zero =>
      rw [if_neg (by omega)]
      exact rest
    | succ k =>
      have e1 : isub .i64 ((k + 1 : Nat) : Int) 1 = (k : Int) := by rw [isub_i64 (by omega)]; omega
      have hb := take_at (nine_ok n) 9 k (by omega) (by omega)
      rw [List.take_of_length_le (by omega)] at hb
      rw [if_pos (by omega), e1, if_pos (by omega), hb, if_neg (by
        rcases hs with h | h
        · omega
        · exact h)]
      exact rest
  intro k
  induction k with
  | zero => intro hk hr; exact fin 0 hk hr (.inl rfl)
  | succ k ih =>
    intro hk hr
    by_cases e : (nine n).getD k 0 = 48
    · have e1 : isub .i64 ((k + 1 : Nat) : Int) 1 = (k : Int) := by rw [isub_i64 (by omega)]; omega
      have hb := take_at (nine_ok n) 9 k (by omega) (by omega)
      rw [List.take_of_length_le (by omega)] at hb
      have := ih (by omega) (by rw [← hr]; unfold rtl; rw [if_pos e]; cases k <;> rfl)
      refine this.step fun j => ?_
      simp only [t_law02_FiguresFractions, f_law02_FiguresFractions_p20, Option.bind_some, Option.isNone_none, Option.isNone_some, Option.isSome_none, Option.isSome_some, Bool.not_true, Bool.not_false, cond_true, cond_false, cond_dec, beq_int, bne_int, not_dec, gt_iff_lt, and_dec, hsz, e1, hb, e, if_true]
      rw [if_pos (by omega), if_pos (by omega)]
    · exact fin (k + 1) hk hr (.inr e)
theorem figures_fractions (s : ByteArray) (n many : Int) : g_law02_FiguresFractions ((), ((s, ()), ((n, ()), ((many, ()), ())))) = some ((), ((true, ()), ())) := by
  by_cases h : (300 : Int) < s.size
  · refine (Evn.const fun j => ?_).lim
    simp only [f_law02_FiguresFractions_m, law02_alive, Option.bind_some, Option.isNone_none, Option.isNone_some, Option.isSome_none, Option.isSome_some, Bool.not_true, Bool.not_false, cond_true, cond_false, cond_dec, beq_int, bne_int, not_dec, gt_iff_lt]
    simp [h]
  · have hs : s.size ≤ 1000000 := by omega
    by_cases c : inNano n
    · have := fractions_p20 n many c 9 (Nat.le_refl _) rfl
      have hr := ref02_raw n.toNat 9 (by unfold inNano at c; omega) (by omega)
      rw [show ((n.toNat : Nat) : Int) = n by unfold inNano at c; omega] at hr
      have c' := c
      unfold inNano at c'
      refine (this.cast fun j => ?_).lim
      simp only [f_law02_FiguresFractions_m, law02_alive, fig_fraction s hs, ref02_fraction s hs, num_num, fig_putfraction, fig_short, hr, Option.bind_some, Option.isNone_none, Option.isNone_some, Option.isSome_none, Option.isSome_some, Bool.not_true, Bool.not_false, cond_true, cond_false, cond_dec, beq_int, bne_int, not_dec, gt_iff_lt, ne_eq, not_true_eq_false, if_false]
      rw [if_neg h, if_neg (by omega), if_neg (by omega)]
      simp only [c, if_true, true_and]; rfl
    · have := nano_out c
      refine (Evn.const fun j => ?_).lim
      simp only [f_law02_FiguresFractions_m, law02_alive, fig_fraction s hs, ref02_fraction s hs, num_num, fig_putfraction, fig_short, Option.bind_some, Option.isNone_none, Option.isNone_some, Option.isSome_none, Option.isSome_some, Bool.not_true, Bool.not_false, cond_true, cond_false, cond_dec, beq_int, bne_int, not_dec, gt_iff_lt, ne_eq, not_true_eq_false, if_false, c, false_and, str_eq, str_nil, if_true]
      have hi : g_hnum_Is ((), ((errOf 1, ()), ((1, ()), ()))) = some ((), ((true, ()), ())) := rfl
      rw [if_neg h, hi]
      rcases this with q | q
      · rw [if_pos q]; rfl
      · rw [if_neg (by omega), if_pos q]; rfl
/-! ### back -/
theorem padd_ne (m w : Nat) : 0 < (padd m w).length := by
  unfold padd
  simp only [List.length_append, List.length_replicate, List.length_reverse]
  omega
theorem begins_str {l : List Int} (hl : okBy l) (c : Int) : begins (strOf l) c ↔ 0 < l.length ∧ l.getD 0 0 = c := by
  unfold begins; rw [str_size, by_str hl]
/-- What is put is read as it was. -/
theorem signed_put (v w : Int) (hv : isI64 v) (hw : 0 ≤ w ∧ w ≤ 20) : sgE (strOf (putL v w)) 20 = 0 ∧ sgV (strOf (putL v w)) 20 = v := by
  unfold isI64 at hv
  have hm := padd_len v.natAbs w.toNat (by omega) (by omega)
  have h1 := padd_ne v.natAbs w.toNat
  have hf := padd_figs v.natAbs w.toNat
  have hval := val10_padd v.natAbs w.toNat
  generalize hL : padd v.natAbs w.toNat = L at *
  have hok := figs_okBy hf
  have hld := lead_all hf
  have core : ∀ lim : Int, (v.natAbs : Int) ≤ lim → wholeE (strOf L) 1 20 lim = 0 ∧ cutV (strOf L) (takeK (strOf L) 20) = v.natAbs := by
    intro lim hl
    have hK : takeK (strOf L) 20 = L.length := by unfold takeK; rw [by_str hok, hld]; show min _ 20 = _; omega
    have hV : cutV (strOf L) L.length = v.natAbs := by unfold cutV; rw [by_str hok, List.take_of_length_le (Nat.le_refl _), hval]
    refine ⟨?_, by rw [hK, hV]⟩
    have hT : takeE (strOf L) 1 20 lim = 0 := by
      unfold takeE
      rw [show min (lead (bytesOf (strOf L))) (20 : Int).toNat = L.length from hK, if_neg (by omega : ¬ ((1 : Int) < 1 ∨ (20 : Int) < 1 ∨ (20 : Int) < 20)), if_neg (show ¬ ((L.length : Nat) : Int) < 1 by omega), hV, if_pos hl]
    unfold wholeE
    rw [hT, if_pos rfl, hK, str_size, if_neg (by omega)]
  by_cases c : v < 0
  · have e : putL v w = 45 :: L := by unfold putL; rw [if_pos c, hL]
    have ho : okBy (45 :: L) := fun x hx => by
      rcases List.mem_cons.1 hx with rfl | q
      · omega
      · exact hok x q
    have b : begins (strOf (45 :: L)) 45 := (begins_str ho 45).2 ⟨by simp, rfl⟩
    have u : unsg (strOf (45 :: L)) = strOf L := by
      unfold unsg
      rw [if_pos (.inl b), str_size, str_cut]
      simp
    rw [e]
    unfold sgE sgV sgLim
    rw [if_pos b, if_pos b, u]
    have := core 9223372036854775808 (by omega)
    exact ⟨this.1, by rw [this.2]; omega⟩
  · have e : putL v w = L := by unfold putL; rw [if_neg c, hL]
    have hx : isF (L.getD 0 0) := by
      rw [List.getD_eq_getElem?_getD, List.getElem?_eq_getElem h1]
      exact hf _ (List.getElem_mem h1)
    unfold isF at hx
    have b1 : ¬ begins (strOf L) 45 := fun q => by have := ((begins_str hok 45).1 q).2; omega
    have b2 : ¬ begins (strOf L) 43 := fun q => by have := ((begins_str hok 43).1 q).2; omega
    have u : unsg (strOf L) = strOf L := by
      unfold unsg
      rw [if_neg (fun q => q.elim b1 b2)]
    rw [e]
    unfold sgE sgV sgLim
    rw [if_neg b1, if_neg b1, u]
    have := core (9223372036854775807 : Int) (by omega)
    exact ⟨this.1, by rw [this.2]; omega⟩
theorem frac_of {l : List Int} (hf : ∀ x ∈ l, isF x) (h : l.length ≤ 9) : fracE (strOf l) = (if l.length = 0 then 2 else 0) ∧ fracV (strOf l) = val10 l * 10 ^ (9 - l.length) := by
  have ho := figs_okBy hf
  refine ⟨?_, by unfold fracV; rw [by_str ho, str_size]⟩
  unfold fracE
  rw [str_size, if_neg (by omega)]
  by_cases c : l.length = 0
  · rw [if_pos c, if_neg (fun a : allF _ => by unfold allF at a; rw [str_size] at a; omega)]
  · rw [if_neg c, if_pos (show allF _ from ⟨by rw [str_size]; omega, by rw [by_str ho, str_size, lead_all hf]⟩)]
theorem back_frac {n : Int} (c : inNano n) : g_figures_Fraction ((), ((strOf (nine n), ()), ())) = some ((), ((n, ()), ((none, ()), ()))) ∧
    g_figures_Fraction ((), ((strOf ((nine n).take (rtl (nine n) 9)), ()), ())) = some ((), ((n, ()), ((errOf (if rtl (nine n) 9 = 0 then 2 else 0), ()), ()))) := by
  have hl := nine_len c
  have hf : ∀ x ∈ nine n, isF x := padd_figs _ _
  have hval : val10 (nine n) = n := by unfold nine; rw [val10_padd]; unfold inNano at c; omega
  have a := frac_of hf (by omega)
  have hr := rtl_le (nine n) 9
  have hlt : ((nine n).take (rtl (nine n) 9)).length = rtl (nine n) 9 := by rw [List.length_take]; omega
  have b := frac_of (l := (nine n).take (rtl (nine n) 9)) (fun x hx => hf x (List.mem_of_mem_take hx)) (by omega)
  have hv := rtl_val (nine n) 9 (by omega)
  rw [List.take_of_length_le (by omega : (nine n).length ≤ 9), hval] at hv
  rw [hlt, hv] at b
  rw [hl, hval, Nat.sub_self, Int.pow_zero, Int.mul_one, if_neg (by omega)] at a
  refine ⟨?_, ?_⟩
  · rw [fig_fraction _ (by rw [str_size, hl]; omega), a.1, a.2, if_pos rfl]; rfl
  · rw [fig_fraction _ (by rw [str_size, hlt]; omega), b.1, b.2]
    by_cases z : rtl (nine n) 9 = 0
    · have hn : n = 0 := by rw [z] at hv; simpa [val10] using hv.symm
      rw [if_pos z, if_neg (by omega), hn]
    · rw [if_neg z, if_pos rfl]
theorem back_signed (v w : Int) (hv : isI64 v) (h : putE w = 0) : g_figures_Signed ((), ((strOf (putL v w), ()), ((20, ()), ()))) = some ((), ((v, ()), ((none, ()), ()))) := by
  have hw : 0 ≤ w ∧ w ≤ 20 := by
    unfold putE at h
    by_cases q : w < 0 ∨ 20 < w
    · rw [if_pos q] at h; cases h
    · omega
  have := signed_put v w hv hw
  have hz : (strOf (putL v w)).size ≤ 1000000 := by
    unfold isI64 at hv
    have := padd_len v.natAbs w.toNat (by omega) (by omega)
    rw [str_size]; unfold putL; split
    · rw [List.length_cons]; omega
    · omega
  rw [figs_Signed _ hz, this.1, this.2, if_pos rfl]; rfl
theorem figures_back (v w n : Int) (hv : -9223372036854775808 ≤ v ∧ v ≤ 9223372036854775807) : g_law02_FiguresBack ((), ((v, ()), ((w, ()), ((n, ()), ())))) = some ((), ((true, ()), ())) := by
  have hS := back_signed v w hv
  by_cases c : inNano n
  · obtain ⟨h1, h2⟩ := back_frac c
    have p9 : inNano n ∧ (0 : Int) ≤ 9 ∧ (9 : Int) ≤ 9 := ⟨c, by omega, by omega⟩
    have hl := nine_len c
    have pf : g_figures_PutFraction ((), ((n, ()), ((9, ()), ()))) = some ((), ((strOf (nine n), ()), ((none, ()), ()))) := by
      rw [fig_putfraction, if_pos p9, if_pos p9, List.take_of_length_le (by rw [hl]; decide)]; rfl
    have ps : g_figures_Short ((), ((n, ()), ())) = some ((), ((strOf ((nine n).take (rtl (nine n) 9)), ()), ((none, ()), ()))) := by
      rw [fig_short, if_pos c, if_pos c]; rfl
    have hr := rtl_le (nine n) 9
    have fin : ((errOf (if rtl (nine n) 9 = 0 then 2 else 0)).isNone == !((strOf ((nine n).take (rtl (nine n) 9))).toList == (⟨#[]⟩ : ByteArray).toList)) = true := by
      rw [errOf_none, str_eq, by_str (okBy_take (nine_ok n) _), show bytesOf ⟨#[]⟩ = [] by kernel_rfl]
      by_cases z : rtl (nine n) 9 = 0
      · rw [z]; rfl
      · have e : ¬ (nine n).take (rtl (nine n) 9) = [] := by
          intro q
          have : min (rtl (nine n) 9) (nine n).length = 0 := by rw [← List.length_take, q]; rfl
          omega
        rw [if_neg z, decide_eq_false e]; rfl
    by_cases h : putE w = 0
    · simp only [g_law02_FiguresBack, f_law02_FiguresBack_m, law02_alive, fig_put v w hv, h, hS h, pf, ps, h1, h2, fin, Option.bind_some, Option.isNone_none, Option.isNone_some, Option.isSome_none, Option.isSome_some, Bool.not_true, Bool.not_false, cond_true, cond_false, cond_dec, beq_int, bne_int, not_dec, errOf_zero, ne_eq, not_true_eq_false, if_false, if_true]
    · have hq : (errOf (putE w)).isNone = false := by rw [errOf_none, decide_eq_false h]
      simp only [g_law02_FiguresBack, f_law02_FiguresBack_m, law02_alive, fig_put v w hv, h, hq, pf, ps, h1, h2, fin, Option.bind_some, Option.isNone_none, Option.isNone_some, Option.isSome_none, Option.isSome_some, Bool.not_true, Bool.not_false, cond_true, cond_false, cond_dec, beq_int, bne_int, not_dec, ne_eq, not_true_eq_false, if_false, if_true]
  · have hn : ¬ (inNano n ∧ (0 : Int) ≤ 9 ∧ (9 : Int) ≤ 9) := fun q => c q.1
    have pf : g_figures_PutFraction ((), ((n, ()), ((9, ()), ()))) = some ((), ((strOf [], ()), ((some 1, ()), ()))) := by
      rw [fig_putfraction, if_neg hn, if_neg hn]; rfl
    have ps : g_figures_Short ((), ((n, ()), ())) = some ((), ((strOf [], ()), ((some 1, ()), ()))) := by
      rw [fig_short, if_neg c, if_neg c]; rfl
    have fin : ∀ a b : Option (Unit × (Bool × Unit) × Unit), (if n < 0 then some ((), ((true, ()), ())) else if 999999999 < n then some ((), ((true, ()), ())) else b) = some ((), ((true, ()), ())) := by
      intro a b
      rcases nano_out c with q | q
      · rw [if_pos q]
      · rw [if_neg (by omega), if_pos q]
    by_cases h : putE w = 0
    · simp only [g_law02_FiguresBack, f_law02_FiguresBack_m, law02_alive, fig_put v w hv, h, hS h, pf, ps, Option.bind_some, Option.isNone_none, Option.isNone_some, Option.isSome_none, Option.isSome_some, Bool.not_true, Bool.not_false, cond_true, cond_false, cond_dec, beq_int, bne_int, not_dec, errOf_zero, ne_eq, not_true_eq_false, if_false, if_true, gt_iff_lt]
      exact fin none _
    · have hq : (errOf (putE w)).isNone = false := by rw [errOf_none, decide_eq_false h]
      simp only [g_law02_FiguresBack, f_law02_FiguresBack_m, law02_alive, fig_put v w hv, h, hq, pf, ps, Option.bind_some, Option.isNone_none, Option.isNone_some, Option.isSome_none, Option.isSome_some, Bool.not_true, Bool.not_false, cond_true, cond_false, cond_dec, beq_int, bne_int, not_dec, ne_eq, not_true_eq_false, if_false, if_true, gt_iff_lt]
      exact fin none _
end Go.Proofs.YtfdppbfefplikaaDoor.Ev
