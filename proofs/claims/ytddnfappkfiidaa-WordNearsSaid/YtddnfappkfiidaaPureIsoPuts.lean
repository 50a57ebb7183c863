/- The law IsoPuts, plain. -/
import Derived.Test.YtddnfappkfiidaaPuIsoB
import Derived.Test.YtddnfappkfiidaaPureIsoDates
namespace Go.Proofs.Ytddnfappkfiidaa.Ev
open Go
set_option linter.unusedVariables false
set_option linter.unusedSimpArgs false
theorem dgs_take : ∀ (w n k : Nat), k ≤ w → (dgs n w).take k = dgs (n / 10 ^ (w - k)) k
  | 0, n, k, h => by
    obtain rfl : k = 0 := by omega
    rfl
  | w + 1, n, k, h => by
    by_cases c : k = w + 1
    · subst c
      rw [List.take_of_length_le (by rw [dgs_len]; omega), Nat.sub_self, Nat.pow_zero, Nat.div_one]
    · rw [dgs, List.take_append_of_le_length (by rw [dgs_len]; omega), dgs_take w (n / 10) k (by omega), Nat.div_div_eq_div_mul, show w + 1 - k = (w - k) + 1 by omega, Nat.pow_succ, Nat.mul_comm]
theorem dgs_at (w n k : Nat) (h : k < w) : (dgs n w).getD k 0 = 48 + ((n / 10 ^ (w - (k + 1)) % 10 : Nat) : Int) := by
  have e := dgs_take w n (k + 1) (by omega)
  have e2 : (dgs n w).getD k 0 = ((dgs n w).take (k + 1)).getD k 0 := by
    rw [List.getD_eq_getElem?_getD, List.getD_eq_getElem?_getD, List.getElem?_take, if_pos (by omega)]
  rw [e2, e, dgs, List.getD_eq_getElem?_getD, List.getElem?_append_right (by rw [dgs_len]; omega), dgs_len, Nat.sub_self]
  rfl
theorem ref24_put {l : Lab} (h1 : labErr l = 0) (h2 : 0 ≤ l.y) (k : Nat) (hk : k ≤ 9) : g_ref24_Put ((), (l.t, (((k : Int), ()), ()))) = some ((), ((strOf (isoL l ((nine l.n).take k)), ()), ())) := by
  obtain ⟨a1, a2, a3, a4, a5, a6, a7, a8⟩ := lab_facts h1
  have c : inNano l.n := a6
  have l84 : (⟨#[84]⟩ : ByteArray) = strOf [84] := by kernel_rfl
  have l58 : (⟨#[58]⟩ : ByteArray) = strOf [58] := by kernel_rfl
  have l46 : (⟨#[46]⟩ : ByteArray) = strOf [46] := by kernel_rfl
  have l45 : (⟨#[45]⟩ : ByteArray) = strOf [45] := by kernel_rfl
  have l43 : (⟨#[43]⟩ : ByteArray) = strOf [43] := by kernel_rfl
  have l90 : (⟨#[90]⟩ : ByteArray) = strOf [90] := by kernel_rfl
  have hD := ref24_date (y := l.y) (m := l.m) (d := l.d) ⟨h2, a8⟩ a1 a2
  have R2 : ∀ v : Int, 0 ≤ v ∧ v < 100 → g_ref02_Raw ((), ((v, ()), ((2, ()), ()))) = some ((), ((strOf (dgs v.toNat 2), ()), ())) := fun v hv => ref02_raw_dg v 2 (by omega) (by omega)
  have R9 : g_ref02_Raw ((), ((l.n, ()), ((9, ()), ()))) = some ((), ((strOf (nine l.n), ()), ())) := by
    have := ref02_raw_dg l.n 9 (by unfold inNano at c; omega) (by omega)
    unfold nine
    rw [padd_dg _ 9 (by unfold inNano at c; omega) (by omega)]
    exact this
  have rh := R2 l.h (by omega)
  have ri := R2 l.i (by omega)
  have rs := R2 l.s (by omega)
  have dl : (dayL l.y l.m l.d).length = 10 := dayL_len _ _ _
  have nl := nine_len c
  have tk : ((nine l.n).take k).length = k := by rw [List.length_take]; omega
  have cut : (strOf (nine l.n)).extract (Int.toNat 0) (Int.toNat (k : Int)) = strOf ((nine l.n).take k) := by
    have := take_cut (nine l.n) 9 k hk
    rwa [List.take_of_length_le (by omega : (nine l.n).length ≤ 9)] at this
  have base : dayL l.y l.m l.d ++ [84] ++ dgs l.h.toNat 2 ++ [58] ++ dgs l.i.toNat 2 ++ [58] ++ dgs l.s.toNat 2 = dayL l.y l.m l.d ++ (84 :: (dgs l.h.toNat 2 ++ (58 :: (dgs l.i.toNat 2 ++ (58 :: dgs l.s.toNat 2))))) := by
    simp only [List.append_assoc, List.cons_append, List.nil_append]
  have form : ∀ f, isoL l f = dayL l.y l.m l.d ++ [84] ++ dgs l.h.toNat 2 ++ [58] ++ dgs l.i.toNat 2 ++ [58] ++ dgs l.s.toNat 2 ++ pntL f ++ offL l.o := fun f => by
    unfold isoL; simp only [List.append_assoc, List.cons_append, List.nil_append]
  rw [form]
  simp only [Lab.t] at hD ⊢
  have blen : (dayL l.y l.m l.d ++ [84] ++ dgs l.h.toNat 2 ++ [58] ++ dgs l.i.toNat 2 ++ [58] ++ dgs l.s.toNat 2).length = 19 := by
    simp only [List.length_append, List.length_cons, List.length_nil, dgs_len, dl]
  simp only [g_ref24_Put, f_ref24_Put_m, l84, l58, l46, l45, l43, l90, hD, rh, ri, rs, Option.bind_some]
  rw [fits_str _ _ (by simp [dl]), cond_true, str_app, fits_str _ _ (by simp [dl, dgs_len]), cond_true, str_app, fits_str _ _ (by simp [dl, dgs_len]), cond_true, str_app, fits_str _ _ (by simp [dl, dgs_len]), cond_true, str_app, fits_str _ _ (by simp [dl, dgs_len]), cond_true, str_app, fits_str _ _ (by simp [dl, dgs_len]), cond_true, str_app]
  generalize dayL l.y l.m l.d ++ [84] ++ dgs l.h.toNat 2 ++ [58] ++ dgs l.i.toNat 2 ++ [58] ++ dgs l.s.toNat 2 = L at blen ⊢
  -- the zone
  have zone : ∀ X : List Int, X.length ≤ 40 → (bif (l.o == (0 : Int)) then (bif fitsS (strOf X) (strOf [90]) then some ((), ((strOf X ++ strOf [90], ()), ())) else none)
      else (bif decide (l.o < (0 : Int)) then (bif fitsS (strOf X) (strOf [45]) then ((g_ref02_Raw ((), (((iquo .i64 (isub .i64 (0 : Int) l.o) (60 : Int)), ()), (((2 : Int), ()), ())))).bind fun x22 => bif fitsS (strOf X ++ strOf [45]) x22.2.1.1 then (bif fitsS (strOf X ++ strOf [45] ++ x22.2.1.1) (strOf [58]) then ((g_ref02_Raw ((), (((Int.tmod (isub .i64 (0 : Int) l.o) (60 : Int)), ()), (((2 : Int), ()), ())))).bind fun x26 => bif fitsS (strOf X ++ strOf [45] ++ x22.2.1.1 ++ strOf [58]) x26.2.1.1 then some ((), ((strOf X ++ strOf [45] ++ x22.2.1.1 ++ strOf [58] ++ x26.2.1.1, ()), ())) else none) else none) else none) else none)
        else (bif fitsS (strOf X) (strOf [43]) then ((g_ref02_Raw ((), (((iquo .i64 l.o (60 : Int)), ()), (((2 : Int), ()), ())))).bind fun x30 => bif fitsS (strOf X ++ strOf [43]) x30.2.1.1 then (bif fitsS (strOf X ++ strOf [43] ++ x30.2.1.1) (strOf [58]) then ((g_ref02_Raw ((), (((Int.tmod l.o (60 : Int)), ()), (((2 : Int), ()), ())))).bind fun x34 => bif fitsS (strOf X ++ strOf [43] ++ x30.2.1.1 ++ strOf [58]) x34.2.1.1 then some ((), ((strOf X ++ strOf [43] ++ x30.2.1.1 ++ strOf [58] ++ x34.2.1.1, ()), ())) else none) else none) else none) else none))) = some ((), ((strOf (X ++ offL l.o), ()), ())) := fun X hX => by
    simp only [beq_int, cond_dec]
    by_cases o0 : l.o = 0
    · rw [if_pos o0, fits_str _ _ (by simp; omega), cond_true, str_app]
      unfold offL; rw [if_pos o0]
    rw [if_neg o0]
    by_cases on : l.o < 0
    · rw [if_pos on, isub_i64 (by omega), iquo_nn (by decide) (by omega), tmod_nn (by omega), R2 _ (by omega), R2 _ (by omega)]
      simp only [Option.bind_some]
      rw [fits_str _ _ (by simp; omega), cond_true, str_app, fits_str _ _ (by simp [dgs_len]; omega), cond_true, str_app, fits_str _ _ (by simp [dgs_len]; omega), cond_true, str_app, fits_str _ _ (by simp [dgs_len]; omega), cond_true, str_app]
      unfold offL; rw [if_neg o0, if_pos on, show ((0 - l.o) / 60).toNat = l.o.natAbs / 60 by omega, show ((0 - l.o) % 60).toNat = l.o.natAbs % 60 by omega]
      simp only [List.append_assoc, List.cons_append, List.nil_append]
    · rw [if_neg on, iquo_nn (by decide) (by omega), tmod_nn (by omega), R2 _ (by omega), R2 _ (by omega)]
      simp only [Option.bind_some]
      rw [fits_str _ _ (by simp; omega), cond_true, str_app, fits_str _ _ (by simp [dgs_len]; omega), cond_true, str_app, fits_str _ _ (by simp [dgs_len]; omega), cond_true, str_app, fits_str _ _ (by simp [dgs_len]; omega), cond_true, str_app]
      unfold offL; rw [if_neg o0, if_neg on, show (l.o / 60).toNat = l.o.natAbs / 60 by omega, show (l.o % 60).toNat = l.o.natAbs % 60 by omega]
      simp only [List.append_assoc, List.cons_append, List.nil_append]
  by_cases k0 : k = 0
  · subst k0
    rw [decide_eq_false (by omega), cond_false]
    have := zone L (by omega)
    simp only [List.take_zero, pntL, if_true, List.append_nil]
    exact this
  · rw [decide_eq_true (by omega), cond_true, R9]
    simp only [Option.bind_some]
    rw [decide_eq_true (by omega), decide_eq_true (by omega), decide_eq_true (by rw [str_size]; omega), cut]
    simp only [Bool.and_self, cond_true]
    rw [fits_str _ _ (by simp [tk]; omega), cond_true, str_app, fits_str _ _ (by simp [tk]; omega), cond_true, str_app]
    have hne : (nine l.n).take k ≠ [] := fun e => by rw [e] at tk; simp at tk; omega
    have := zone (L ++ ([46] ++ (nine l.n).take k)) (by simp only [List.length_append, List.length_cons, List.length_nil, tk]; omega)
    have hp : pntL ((nine l.n).take k) = [46] ++ (nine l.n).take k := by unfold pntL; rw [if_neg hne]; rfl
    rw [hp]
    exact this
end Go.Proofs.Ytddnfappkfiidaa.Ev
