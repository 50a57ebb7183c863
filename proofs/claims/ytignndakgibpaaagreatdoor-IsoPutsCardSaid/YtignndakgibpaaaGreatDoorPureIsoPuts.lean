/- The law IsoPuts, plain. -/
import Derived.Test.YtignndakgibpaaaGreatDoorPuIsoB
import Derived.Test.YtignndakgibpaaaGreatDoorPureIsoDates
namespace Go.Proofs.YtignndakgibpaaaGreatDoor.Ev
open Go
set_option linter.unusedVariables false
set_option linter.unusedSimpArgs false
theorem dgs_take : ∀ (w n k : Nat), k ≤ w → (dgs n w).take k = dgs (n / 10 ^ (w - k)) k
  | 0, n, k, h => by
    obtain rfl : k = 0 := by omega
    rfl
  | w + 1, n, k, h => by
    by_cases c : k = w + 1
    · subst c
      rw [List.take_of_length_le (by rw [dgs_len]; omega), Nat.sub_self, Nat.pow_zero, Nat.div_one]
    · rw [dgs, List.take_append_of_le_length (by rw [dgs_len]; omega), dgs_take w (n / 10) k (by omega), Nat.div_div_eq_div_mul, show w + 1 - k = (w - k) + 1 by omega, Nat.pow_succ, Nat.mul_comm]
theorem dgs_at (w n k : Nat) (h : k < w) : (dgs n w).getD k 0 = 48 + ((n / 10 ^ (w - (k + 1)) % 10 : Nat) : Int) := by
  have e := dgs_take w n (k + 1) (by omega)
  have e2 : (dgs n w).getD k 0 = ((dgs n w).take (k + 1)).getD k 0 := by
    rw [List.getD_eq_getElem?_getD, List.getD_eq_getElem?_getD, List.getElem?_take, if_pos (by omega)]
  rw [e2, e, dgs, List.getD_eq_getElem?_getD, List.getElem?_append_right (by rw [dgs_len]; omega), dgs_len, Nat.sub_self]
  rfl
theorem fewest_p4 (n : Nat) (hn : n < 1000000000) : ∀ k : Nat, k ≤ 9 → n % 10 ^ (9 - k) = 0 →
    Evn (fun j => (f_ref24_Fewest_t j).1 ((), (((n : Int), ()), (((k : Int), ()), ((((10 ^ (10 - k) : Nat) : Int), ()), ()))))) ((), (((rtl (nine n) k : Nat) : Int), ()), ())
  | 0, _, _ => by
    refine Evn.some 1 fun j => ?_
    rw [t_ref24_Fewest]
    simp only [f_ref24_Fewest_p4, fitsS_dec, Option.bind_some, Option.isNone_none, Option.isNone_some, Option.isSome_none, Option.isSome_some, Bool.not_true, Bool.not_false, cond_true, cond_false, cond_dec, beq_int, bne_int, not_dec, gt_iff_lt]
    rw [if_neg (by omega)]
    rfl
  | k + 1, hk, hm => by
    have hP : 0 < 10 ^ (8 - k) := Nat.pow_pos (by decide)
    have hle : 10 ^ (8 - k) ≤ 10 ^ 8 := Nat.pow_le_pow_right (by decide) (by omega)
    have e9 : 10 ^ (9 - k) = 10 ^ (8 - k) * 10 := by rw [show 9 - k = (8 - k) + 1 by omega, Nat.pow_succ]
    have e10 : 10 ^ (10 - k) = 10 ^ (9 - k) * 10 := by rw [show 10 - k = (9 - k) + 1 by omega, Nat.pow_succ]
    have hd : (nine n).getD k 0 = 48 + ((n / 10 ^ (8 - k) % 10 : Nat) : Int) := by
      have := dgs_at 9 n k (by omega)
      unfold nine
      rw [Int.toNat_natCast, padd_dg n 9 (by omega) (by omega), this, show 9 - (k + 1) = 8 - k by omega]
    rw [show 9 - (k + 1) = 8 - k by omega] at hm
    have hq : n = 10 ^ (8 - k) * (n / 10 ^ (8 - k)) := by have := Nat.div_add_mod n (10 ^ (8 - k)); omega
    have hz : n % 10 ^ (9 - k) = 10 ^ (8 - k) * (n / 10 ^ (8 - k) % 10) := by
      rw [e9]
      have := Nat.mul_mod_mul_left (10 ^ (8 - k)) (n / 10 ^ (8 - k)) 10
      rw [← hq] at this
      exact this
    have hu : ((10 ^ (10 - (k + 1)) : Nat) : Int) = ((10 ^ (9 - k) : Nat) : Int) := by rw [show 10 - (k + 1) = 9 - k by omega]
    rw [hu]
    have ht : Int.tmod (n : Int) ((10 ^ (9 - k) : Nat) : Int) = ((n % 10 ^ (9 - k) : Nat) : Int) := by rw [tmod_nn (by omega), Int.natCast_emod]
    have step : ∀ j, (f_ref24_Fewest_t (j + 1)).1 ((), (((n : Int), ()), ((((k + 1 : Nat) : Int), ()), ((((10 ^ (9 - k) : Nat) : Int), ()), ())))) =
        if n % 10 ^ (9 - k) = 0 then (f_ref24_Fewest_t j).1 ((), (((n : Int), ()), (((k : Int), ()), ((((10 ^ (10 - k) : Nat) : Int), ()), ())))) else some ((), ((((k + 1 : Nat) : Int), ()), ())) := fun j => by
      rw [t_ref24_Fewest]
      simp only [f_ref24_Fewest_p4, ht, fitsS_dec, Option.bind_some, Option.isNone_none, Option.isNone_some, Option.isSome_none, Option.isSome_some, Bool.not_true, Bool.not_false, cond_true, cond_false, cond_dec, beq_int, bne_int, not_dec, gt_iff_lt]
      rw [if_pos (by omega), if_neg (by omega), isub_i64 (by omega), imul_i64 (by omega)]
      by_cases c : n % 10 ^ (9 - k) = 0
      · rw [if_pos (by omega), if_pos c, show ((k + 1 : Nat) : Int) - 1 = (k : Int) by omega, e10]
        push_cast
        rfl
      · rw [if_neg (by omega), if_neg c]
    by_cases c : n % 10 ^ (9 - k) = 0
    · have ih := fewest_p4 n hn k (by omega) c
      have hr : rtl (nine n) (k + 1) = rtl (nine n) k := by
        have h10 : n / 10 ^ (8 - k) % 10 = 0 := by
          rw [hz] at c
          rcases Nat.mul_eq_zero.1 c with h | h
          · omega
          · exact h
        rw [rtl, hd, h10, if_pos (by omega)]
      rw [hr]
      exact ih.step fun j => by rw [step, if_pos c]
    · have hr : rtl (nine n) (k + 1) = k + 1 := by
        have h10 : n / 10 ^ (8 - k) % 10 ≠ 0 := fun h => c (by rw [hz, h, Nat.mul_zero])
        rw [rtl, hd, if_neg (by omega)]
      rw [hr]
      exact Evn.some 1 fun j => by rw [step, if_neg c]
theorem ref_fewest {n : Int} (c : inNano n) : g_ref24_Fewest ((), ((n, ()), ())) = some ((), (((rtl (nine n) 9 : Nat) : Int), ()), ()) := by
  unfold inNano at c
  have := fewest_p4 n.toNat (by omega) 9 (by omega) (by omega)
  rw [Int.toNat_of_nonneg c.1] at this
  exact (this.cast fun j => rfl).lim
theorem ref24_put {l : Lab} (h1 : labErr l = 0) (h2 : 0 ≤ l.y) (k : Nat) (hk : k ≤ 9) : g_ref24_Put ((), (l.t, (((k : Int), ()), ()))) = some ((), ((strOf (isoL l ((nine l.n).take k)), ()), ())) := by
  obtain ⟨a1, a2, a3, a4, a5, a6, a7, a8⟩ := lab_facts h1
  have c : inNano l.n := a6
  have l84 : (⟨#[84]⟩ : ByteArray) = strOf [84] := by kernel_rfl
  have l58 : (⟨#[58]⟩ : ByteArray) = strOf [58] := by kernel_rfl
  have l46 : (⟨#[46]⟩ : ByteArray) = strOf [46] := by kernel_rfl
  have l45 : (⟨#[45]⟩ : ByteArray) = strOf [45] := by kernel_rfl
  have l43 : (⟨#[43]⟩ : ByteArray) = strOf [43] := by kernel_rfl
  have l90 : (⟨#[90]⟩ : ByteArray) = strOf [90] := by kernel_rfl
  have hD := ref24_date (y := l.y) (m := l.m) (d := l.d) ⟨h2, a8⟩ a1 a2
  have R2 : ∀ v : Int, 0 ≤ v ∧ v < 100 → g_ref02_Raw ((), ((v, ()), ((2, ()), ()))) = some ((), ((strOf (dgs v.toNat 2), ()), ())) := fun v hv => ref02_raw_dg v 2 (by omega) (by omega)
  have R9 : g_ref02_Raw ((), ((l.n, ()), ((9, ()), ()))) = some ((), ((strOf (nine l.n), ()), ())) := by
    have := ref02_raw_dg l.n 9 (by unfold inNano at c; omega) (by omega)
    unfold nine
    rw [padd_dg _ 9 (by unfold inNano at c; omega) (by omega)]
    exact this
  have rh := R2 l.h (by omega)
  have ri := R2 l.i (by omega)
  have rs := R2 l.s (by omega)
  have dl : (dayL l.y l.m l.d).length = 10 := dayL_len _ _ _
  have nl := nine_len c
  have tk : ((nine l.n).take k).length = k := by rw [List.length_take]; omega
  have cut : (strOf (nine l.n)).extract (Int.toNat 0) (Int.toNat (k : Int)) = strOf ((nine l.n).take k) := by
    have := take_cut (nine l.n) 9 k hk
    rwa [List.take_of_length_le (by omega : (nine l.n).length ≤ 9)] at this
  have base : dayL l.y l.m l.d ++ [84] ++ dgs l.h.toNat 2 ++ [58] ++ dgs l.i.toNat 2 ++ [58] ++ dgs l.s.toNat 2 = dayL l.y l.m l.d ++ (84 :: (dgs l.h.toNat 2 ++ (58 :: (dgs l.i.toNat 2 ++ (58 :: dgs l.s.toNat 2))))) := by
    simp only [List.append_assoc, List.cons_append, List.nil_append]
  have form : ∀ f, isoL l f = dayL l.y l.m l.d ++ [84] ++ dgs l.h.toNat 2 ++ [58] ++ dgs l.i.toNat 2 ++ [58] ++ dgs l.s.toNat 2 ++ pntL f ++ offL l.o := fun f => by
    unfold isoL; simp only [List.append_assoc, List.cons_append, List.nil_append]
  rw [form]
  simp only [Lab.t] at hD ⊢
  have blen : (dayL l.y l.m l.d ++ [84] ++ dgs l.h.toNat 2 ++ [58] ++ dgs l.i.toNat 2 ++ [58] ++ dgs l.s.toNat 2).length = 19 := by
    simp only [List.length_append, List.length_cons, List.length_nil, dgs_len, dl]
  simp only [g_ref24_Put, f_ref24_Put_m, l84, l58, l46, l45, l43, l90, hD, rh, ri, rs, Option.bind_some]
  rw [fits_str _ _ (by simp [dl]), cond_true, str_app, fits_str _ _ (by simp [dl, dgs_len]), cond_true, str_app, fits_str _ _ (by simp [dl, dgs_len]), cond_true, str_app, fits_str _ _ (by simp [dl, dgs_len]), cond_true, str_app, fits_str _ _ (by simp [dl, dgs_len]), cond_true, str_app, fits_str _ _ (by simp [dl, dgs_len]), cond_true, str_app]
  generalize dayL l.y l.m l.d ++ [84] ++ dgs l.h.toNat 2 ++ [58] ++ dgs l.i.toNat 2 ++ [58] ++ dgs l.s.toNat 2 = L at blen ⊢
  -- the zone
  have zone : ∀ X : List Int, X.length ≤ 40 → (bif (l.o == (0 : Int)) then (bif fitsS (strOf X) (strOf [90]) then some ((), ((strOf X ++ strOf [90], ()), ())) else none)
      else (bif decide (l.o < (0 : Int)) then (bif fitsS (strOf X) (strOf [45]) then ((g_ref02_Raw ((), (((iquo .i64 (isub .i64 (0 : Int) l.o) (60 : Int)), ()), (((2 : Int), ()), ())))).bind fun x22 => bif fitsS (strOf X ++ strOf [45]) x22.2.1.1 then (bif fitsS (strOf X ++ strOf [45] ++ x22.2.1.1) (strOf [58]) then ((g_ref02_Raw ((), (((Int.tmod (isub .i64 (0 : Int) l.o) (60 : Int)), ()), (((2 : Int), ()), ())))).bind fun x26 => bif fitsS (strOf X ++ strOf [45] ++ x22.2.1.1 ++ strOf [58]) x26.2.1.1 then some ((), ((strOf X ++ strOf [45] ++ x22.2.1.1 ++ strOf [58] ++ x26.2.1.1, ()), ())) else none) else none) else none) else none)
        else (bif fitsS (strOf X) (strOf [43]) then ((g_ref02_Raw ((), (((iquo .i64 l.o (60 : Int)), ()), (((2 : Int), ()), ())))).bind fun x30 => bif fitsS (strOf X ++ strOf [43]) x30.2.1.1 then (bif fitsS (strOf X ++ strOf [43] ++ x30.2.1.1) (strOf [58]) then ((g_ref02_Raw ((), (((Int.tmod l.o (60 : Int)), ()), (((2 : Int), ()), ())))).bind fun x34 => bif fitsS (strOf X ++ strOf [43] ++ x30.2.1.1 ++ strOf [58]) x34.2.1.1 then some ((), ((strOf X ++ strOf [43] ++ x30.2.1.1 ++ strOf [58] ++ x34.2.1.1, ()), ())) else none) else none) else none) else none))) = some ((), ((strOf (X ++ offL l.o), ()), ())) := fun X hX => by
    simp only [beq_int, cond_dec]
    by_cases o0 : l.o = 0
    · rw [if_pos o0, fits_str _ _ (by simp; omega), cond_true, str_app]
      unfold offL; rw [if_pos o0]
    rw [if_neg o0]
    by_cases on : l.o < 0
    · rw [if_pos on, isub_i64 (by omega), iquo_nn (by decide) (by omega), tmod_nn (by omega), R2 _ (by omega), R2 _ (by omega)]
      simp only [Option.bind_some]
      rw [fits_str _ _ (by simp; omega), cond_true, str_app, fits_str _ _ (by simp [dgs_len]; omega), cond_true, str_app, fits_str _ _ (by simp [dgs_len]; omega), cond_true, str_app, fits_str _ _ (by simp [dgs_len]; omega), cond_true, str_app]
      unfold offL; rw [if_neg o0, if_pos on, show ((0 - l.o) / 60).toNat = l.o.natAbs / 60 by omega, show ((0 - l.o) % 60).toNat = l.o.natAbs % 60 by omega]
      simp only [List.append_assoc, List.cons_append, List.nil_append]
    · rw [if_neg on, iquo_nn (by decide) (by omega), tmod_nn (by omega), R2 _ (by omega), R2 _ (by omega)]
      simp only [Option.bind_some]
      rw [fits_str _ _ (by simp; omega), cond_true, str_app, fits_str _ _ (by simp [dgs_len]; omega), cond_true, str_app, fits_str _ _ (by simp [dgs_len]; omega), cond_true, str_app, fits_str _ _ (by simp [dgs_len]; omega), cond_true, str_app]
      unfold offL; rw [if_neg o0, if_neg on, show (l.o / 60).toNat = l.o.natAbs / 60 by omega, show (l.o % 60).toNat = l.o.natAbs % 60 by omega]
      simp only [List.append_assoc, List.cons_append, List.nil_append]
  by_cases k0 : k = 0
  · subst k0
    rw [decide_eq_false (by omega), cond_false]
    have := zone L (by omega)
    simp only [List.take_zero, pntL, if_true, List.append_nil]
    exact this
  · rw [decide_eq_true (by omega), cond_true, R9]
    simp only [Option.bind_some]
    rw [decide_eq_true (by omega), decide_eq_true (by omega), decide_eq_true (by rw [str_size]; omega), cut]
    simp only [Bool.and_self, cond_true]
    rw [fits_str _ _ (by simp [tk]; omega), cond_true, str_app, fits_str _ _ (by simp [tk]; omega), cond_true, str_app]
    have hne : (nine l.n).take k ≠ [] := fun e => by rw [e] at tk; simp at tk; omega
    have := zone (L ++ ([46] ++ (nine l.n).take k)) (by simp only [List.length_append, List.length_cons, List.length_nil, tk]; omega)
    have hp : pntL ((nine l.n).take k) = [46] ++ (nine l.n).take k := by unfold pntL; rw [if_neg hne]; rfl
    rw [hp]
    exact this
theorem iso_puts (l : Lab) (m : Int) : g_law24_IsoPuts ((), (l.t, ((m, ()), ()))) = some ((), ((true, ()), ())) := by
  have hdoc := document l.t
  have hchk := ref08_check l
  have num0 : ∀ e : Int, g_hnum_Num ((), ((errOf e, ()), ())) = some ((), ((e, ()), ())) := num_num
  by_cases h : rgtE l = 0
  · have h1 : labErr l = 0 := by
      unfold rgtE at h
      by_cases c : labErr l = 0
      · exact c
      · rw [if_pos c] at h; exact absurd h c
    have h2 : 0 ≤ l.y := by
      unfold rgtE at h
      rw [if_neg (not_not_intro h1)] at h
      by_cases c : l.y < 0
      · rw [if_pos c] at h; cases h
      · omega
    have c : inNano l.n := (lab_facts h1).2.2.2.2.2.1
    have hs := iso_short h1 h2
    have hf := ref_fewest c
    have hpf := ref24_put h1 h2 (rtl (nine l.n) 9) (rtl_le _ 9)
    simp only [Lab.t] at hs hpf hdoc hchk
    by_cases hm : 0 ≤ m ∧ m ≤ 9
    · have hput := iso_put (l := l) (m := m) (by unfold putI; rw [if_neg (not_not_intro h), if_pos ⟨c, hm⟩])
      have hpm := ref24_put h1 h2 m.toNat (by omega)
      rw [Int.toNat_of_nonneg hm.1] at hpm
      simp only [Lab.t] at hput hpm
      refine (Evn.some (F := fun j => f_law24_IsoPuts_m (f_law24_IsoPuts_t j) ((), (l.t, ((m, ()), ())))) 1 fun j => ?_).lim
      simp only [Lab.t, f_law24_IsoPuts_m, iso_alive, hput, hs, hdoc, hchk, h1, fitsS_dec, Option.bind_some, Option.isNone_none, Option.isNone_some, Option.isSome_none, Option.isSome_some, Bool.not_true, Bool.not_false, cond_true, cond_false, cond_dec, beq_int, bne_int, not_dec, not_true_eq_false, if_false, if_true]
      rw [if_neg (by omega), t_law24_IsoPuts]
      simp only [f_law24_IsoPuts_p8, hf, hpf, hpm, fitsS_dec, Option.bind_some, Option.isNone_none, Option.isNone_some, Option.isSome_none, Option.isSome_some, Bool.not_true, Bool.not_false, cond_true, cond_false, cond_dec, beq_int, bne_int, not_dec, beq_self_eq_true, not_true_eq_false, if_false, ne_eq, gt_iff_lt]
      rw [if_neg (by omega), if_neg (by omega)]
    · have hb : putI l m = 1 := by unfold putI; rw [if_neg (not_not_intro h), if_neg (fun q => hm q.2)]
      have hput := iso_put_bad (l := l) (m := m) (by rw [hb]; decide)
      rw [hb, errOf_pos (by decide)] at hput
      simp only [Lab.t] at hput
      have hi : g_hnum_Is ((), ((some 1, ()), ((1, ()), ()))) = some ((), ((true, ()), ())) := rfl
      refine (Evn.some (F := fun j => f_law24_IsoPuts_m (f_law24_IsoPuts_t j) ((), (l.t, ((m, ()), ())))) 1 fun j => ?_).lim
      simp only [Lab.t, f_law24_IsoPuts_m, iso_alive, hput, hs, hdoc, hchk, h1, fitsS_dec, Option.bind_some, Option.isNone_none, Option.isNone_some, Option.isSome_none, Option.isSome_some, Bool.not_true, Bool.not_false, cond_true, cond_false, cond_dec, beq_int, bne_int, not_dec, not_true_eq_false, if_false, if_true]
      rw [if_neg (by omega), t_law24_IsoPuts]
      simp only [f_law24_IsoPuts_p8, hf, hpf, hi, sc_nil, fitsS_dec, Option.bind_some, Option.isNone_none, Option.isNone_some, Option.isSome_none, Option.isSome_some, Bool.not_true, Bool.not_false, cond_true, cond_false, cond_dec, beq_int, bne_int, not_dec, beq_self_eq_true, not_true_eq_false, if_false, ne_eq, gt_iff_lt, cond_true]
      by_cases q : m < 0
      · rw [if_pos q]
      · rw [if_neg q, if_pos (by omega)]
  · have hs := iso_short_bad h
    have hput := iso_put_bad (l := l) (m := m) (by unfold putI; rw [if_pos h]; exact h)
    have hb : putI l m = rgtE l := by unfold putI; rw [if_pos h]
    rw [hb] at hput
    simp only [Lab.t] at hs hput hdoc hchk
    have n := num0 (rgtE l)
    refine (Evn.some (F := fun j => f_law24_IsoPuts_m (f_law24_IsoPuts_t j) ((), (l.t, ((m, ()), ())))) 1 fun j => ?_).lim
    simp only [Lab.t, f_law24_IsoPuts_m, iso_alive, hput, hs, hdoc, hchk, fitsS_dec, Option.bind_some, Option.isNone_none, Option.isNone_some, Option.isSome_none, Option.isSome_some, Bool.not_true, Bool.not_false, cond_true, cond_false, cond_dec, beq_int, bne_int, not_dec, not_true_eq_false, if_false]
    by_cases c : labErr l = 0
    · have hy : l.y < 0 := by
        unfold rgtE at h
        rw [if_neg (not_not_intro c)] at h
        by_cases q : l.y < 0
        · exact q
        · rw [if_neg q] at h; exact absurd rfl h
      have hr : rgtE l = 13 := by unfold rgtE; rw [if_neg (not_not_intro c), if_pos hy]
      rw [hr] at n ⊢
      rw [if_pos c, if_pos hy, t_law24_IsoPuts]
      simp only [f_law24_IsoPuts_p8, n, sc_nil, fitsS_dec, Option.bind_some, Option.isNone_none, Option.isNone_some, Option.isSome_none, Option.isSome_some, Bool.not_true, Bool.not_false, cond_true, cond_false, cond_dec, beq_int, bne_int, not_dec, beq_self_eq_true, cond_true, ne_eq]
      first | done | simp
    · have hr : rgtE l = labErr l := by unfold rgtE; rw [if_pos c]
      rw [hr] at n ⊢
      rw [if_neg c, t_law24_IsoPuts]
      simp only [f_law24_IsoPuts_p8, n, sc_nil, fitsS_dec, Option.bind_some, Option.isNone_none, Option.isNone_some, Option.isSome_none, Option.isSome_some, Bool.not_true, Bool.not_false, cond_true, cond_false, cond_dec, beq_int, bne_int, not_dec, beq_self_eq_true, cond_true, ne_eq, c, not_false_eq_true, if_true, decide_true]
end Go.Proofs.YtignndakgibpaaaGreatDoor.Ev
