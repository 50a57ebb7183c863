/- Time lines: the reference's writer, the line that the laws try first. -/
import Derived.Test.YticfncahnhbhbaaPuNist
namespace Go.Proofs.Yticfncahnhbhbaa.Ev
open Go
set_option linter.unusedVariables false
set_option linter.unusedSimpArgs false
theorem if_len (n : Nat) (h : n ≤ 1000000) {α : Type} (a b : α) : (if (n : Int) ≤ 9223372036854775807 then a else b) = a := if_pos (by omega)
theorem ref26_raw (v : Int) (w : Nat) (h : 0 ≤ v ∧ v < 10 ^ w) (hw : 1 ≤ w ∧ w ≤ 18) : g_ref26_raw ((), ((v, ()), (((w : Int), ()), ()))) = some ((), ((strOf (dgs v.toNat w), ()), ())) := by
  simp only [g_ref26_raw, f_ref26_raw_m, ref02_raw_dg v w h hw, fitsS_dec, Option.bind_some, Option.isNone_none, Option.isNone_some, Option.isSome_none, Option.isSome_some, Bool.not_true, Bool.not_false, cond_true, cond_false, cond_dec, beq_int, bne_int, not_dec]
theorem ref26_raw1 (v : Int) (h : 0 ≤ v ∧ v ≤ 999) : g_ref26_raw ((), ((v, ()), ((1, ()), ()))) = some ((), ((strOf (padd v.toNat 1), ()), ())) := by
  have := ref02_raw v.toNat 1 (by omega) (by omega)
  rw [show ((v.toNat : Nat) : Int) = v by omega] at this
  have h2 : g_ref02_Raw ((), ((v, ()), ((1, ()), ()))) = some ((), ((strOf (padd v.toNat 1), ()), ())) := this
  simp only [g_ref26_raw, f_ref26_raw_m, h2, fitsS_dec, Option.bind_some, Option.isNone_none, Option.isNone_some, Option.isSome_none, Option.isSome_some, Bool.not_true, Bool.not_false, cond_true, cond_false, cond_dec, beq_int, bne_int, not_dec]
theorem ref26_adv_p3z {a : Int} (ha : 0 ≤ a ∧ a ≤ 9999) (P : List Int) (hP : P.length ≤ 3) (j : Nat) (hj : j + P.length = 3) :
    Evn (fun f => (f_ref26_advance_t f).1 ((), ((a, ()), ((strOf (List.replicate j 32 ++ P), ()), ())))) ((), ((strOf ((List.replicate j 32 ++ P) ++ 46 :: dgs (a % 10).toNat 1), ()), ())) := by
  refine Evn.some 1 fun f => ?_
  have hr : g_ref26_raw ((), ((a % 10, ()), ((1, ()), ()))) = some ((), ((strOf (dgs (a % 10).toNat 1), ()), ())) := ref26_raw (a % 10) 1 (by omega) (by omega)
  have hl : (List.replicate j 32 ++ P).length = 3 := by simp only [List.length_append, List.length_replicate]; omega
  generalize List.replicate j 32 ++ P = Q at hl ⊢
  have l46 : (⟨#[46]⟩ : ByteArray) = strOf [46] := by kernel_rfl
  simp only [t_ref26_advance, f_ref26_advance_p3, fitsS_dec, Option.bind_some, Option.isNone_none, Option.isNone_some, Option.isSome_none, Option.isSome_some, Bool.not_true, Bool.not_false, cond_true, cond_false, cond_dec, beq_int, bne_int, not_dec, -fitsS_dec, str_size, tmod_nn ha.1, hr, l46, hl]
  simp only [fitsS_dec, cond_dec, str_size, hl]
  rw [if_neg (by decide), if_len _ (by decide)]
  simp only [str_app, str_size, List.length_append, List.length_cons, List.length_nil, hl, dgs_len]
  rw [if_len _ (by decide)]
  simp only [List.append_assoc, List.cons_append, List.nil_append]
theorem ref26_adv_p3s {a : Int} (P : List Int) (hP : P.length < 3) (f : Nat) : (f_ref26_advance_t (f + 1)).1 ((), ((a, ()), ((strOf P, ()), ()))) = (f_ref26_advance_t f).1 ((), ((a, ()), ((strOf (32 :: P), ()), ()))) := by
  have l32 : (⟨#[32]⟩ : ByteArray) = strOf [32] := by kernel_rfl
  simp only [t_ref26_advance, f_ref26_advance_p3, fitsS_dec, Option.bind_some, Option.isNone_none, Option.isNone_some, Option.isSome_none, Option.isSome_some, Bool.not_true, Bool.not_false, cond_true, cond_false, cond_dec, beq_int, bne_int, not_dec, str_size, l32]
  rw [if_pos (by omega), if_pos (by simp only [List.length_cons, List.length_nil]; omega)]
  simp only [str_app, List.cons_append, List.nil_append]
theorem ref26_adv_p3 {a : Int} (ha : 0 ≤ a ∧ a ≤ 9999) (P : List Int) (hP : P.length ≤ 3) : ∀ (k j : Nat), j + P.length + k = 3 →
    Evn (fun f => (f_ref26_advance_t f).1 ((), ((a, ()), ((strOf (List.replicate j 32 ++ P), ()), ())))) ((), ((strOf ((List.replicate (j + k) 32 ++ P) ++ 46 :: dgs (a % 10).toNat 1), ()), ())) := by
  intro k
  induction k with
  | zero => intro j hj; exact ref26_adv_p3z ha P hP j hj
  | succ k ih =>
    intro j hj
    have := ih (j + 1) (by omega)
    rw [show j + 1 + k = j + (k + 1) by omega] at this
    refine this.step fun f => ?_
    rw [ref26_adv_p3s _ (by simp only [List.length_append, List.length_replicate]; omega), List.replicate_succ, List.cons_append]
theorem ref26_advance (a : Int) (ha : 0 ≤ a ∧ a ≤ 9999) : g_ref26_advance ((), ((a, ()), ())) = some ((), ((strOf (advL a), ()), ())) := by
  have h3 := padd3 ha
  have := ref26_adv_p3 ha (padd (a / 10).toNat 1) h3 (3 - (padd (a / 10).toNat 1).length) 0 (by omega)
  refine (this.cast fun k => ?_).lim.trans ?_
  · simp only [f_ref26_advance_m, fitsS_dec, Option.bind_some, Option.isNone_none, Option.isNone_some, Option.isSome_none, Option.isSome_some, Bool.not_true, Bool.not_false, cond_true, cond_false, cond_dec, beq_int, bne_int, not_dec, iquo_nn (show (0 : Int) < 10 by omega) (show 0 ≤ a ∧ a ≤ 9223372036854775807 by omega), ref26_raw1 (a / 10) (by omega), List.replicate_zero, List.nil_append]
  · simp only [advL, Nat.zero_add]
theorem ref26_put {l : NL} {y m d : Int} (h : l.err = 0) (hd : IsDate l.n y m d) : g_ref26_Put ((), (l.t, ())) = some ((), ((strOf (lineL l y m d), ()), ())) := by
  obtain ⟨h1, h2⟩ := NL.err_zero h
  obtain ⟨t1, t2, t3⟩ := fiveE_zero h1
  have hf := h2
  unfold NL.fit at hf
  have hy := year_bound hd t1
  have hk := clk_range hf.1
  have hdate := ref05_date t1 hd
  obtain ⟨hm1, hd1, hyy⟩ := hd
  have hml := mlen_range y m
  have hy0 : 0 ≤ y := by
    by_cases c : 0 ≤ y
    · exact c
    · have q1 := (isDate_year (n := l.n) (y := y) (m := m) (d := d) ⟨hm1, hd1, hyy⟩).2
      have q2 := ystart_mono (show y < 1858 by omega)
      have q3 : dnum 1858 1 1 = -40907 := by decide
      omega
  have l10 : (⟨#[10]⟩ : ByteArray) = strOf [10] := by kernel_rfl
  have l32 : (⟨#[32]⟩ : ByteArray) = strOf [32] := by kernel_rfl
  have l35 : (⟨#[35]⟩ : ByteArray) = strOf [35] := by kernel_rfl
  have l42 : (⟨#[42]⟩ : ByteArray) = strOf [42] := by kernel_rfl
  have l45 : (⟨#[45]⟩ : ByteArray) = strOf [45] := by kernel_rfl
  have l58 : (⟨#[58]⟩ : ByteArray) = strOf [58] := by kernel_rfl
  have lsv : (⟨#[32, 85, 84, 67, 40, 78, 73, 83, 84, 41, 32]⟩ : ByteArray) = strOf [32, 85, 84, 67, 40, 78, 73, 83, 84, 41, 32] := by kernel_rfl
  have hadv := advL_len hf.2.2.2.2
  have R1 : ∀ v : Int, 0 ≤ v ∧ v < 10 → g_ref26_raw ((), ((v, ()), ((1, ()), ()))) = some ((), ((strOf (dgs v.toNat 1), ()), ())) := fun v hv => ref26_raw v 1 (by omega) (by omega)
  have R2 : ∀ v : Int, 0 ≤ v ∧ v < 100 → g_ref26_raw ((), ((v, ()), ((2, ()), ()))) = some ((), ((strOf (dgs v.toNat 2), ()), ())) := fun v hv => ref26_raw v 2 (by omega) (by omega)
  have R5 : g_ref26_raw ((), ((l.n + 40587, ()), ((5, ()), ()))) = some ((), ((strOf (dgs (l.n + 40587).toNat 5), ()), ())) := ref26_raw _ 5 (by omega) (by omega)
  have E0 : iadd .i64 l.n 40587 = l.n + 40587 := iadd_i64 (by omega)
  have core : ∀ hh ii ss k : Int, hh = clkM l.s / 60 → ii = clkM l.s % 60 → ss = clkS l.s → k = (if l.m then 35 else 42) →
      Evn (fun f => (f_ref26_Put_t f).1 ((l.t, ()), ((), ((y, ()), ((m, ()), ((d, ()), ((hh, ()), ((ii, ()), ((ss, ()), ((strOf [k], ()), ()))))))))) ) ((), ((strOf (lineL l y m d), ()), ())) := by
    rintro hh ii ss k rfl rfl rfl rfl
    refine Evn.some 1 fun f => ?_
    simp only [t_ref26_Put, f_ref26_Put_p6, NL.t, E0, R5, tmod_nn hy0, R2 (y % 100) (by omega), R2 m (by omega), R2 d (by omega), R2 _ (show 0 ≤ clkM l.s / 60 ∧ clkM l.s / 60 < 100 by omega), R2 _ (show 0 ≤ clkM l.s % 60 ∧ clkM l.s % 60 < 100 by omega), R2 _ (show 0 ≤ clkS l.s ∧ clkS l.s < 100 by omega),
      R2 l.c (by omega), R1 l.p (by omega), R1 l.h (by omega), ref26_advance l.a hf.2.2.2.2, fitsS_dec, Option.bind_some, Option.isNone_none, Option.isNone_some, Option.isSome_none, Option.isSome_some, Bool.not_true, Bool.not_false, cond_true, cond_false, cond_dec, beq_int, bne_int, not_dec, -fitsS_dec, l10, l32, l45, l58, lsv]
    simp only [fitsS_dec, cond_dec, str_size, str_app, List.length_append, List.length_cons, List.length_nil, dgs_len, hadv, Nat.reduceAdd, List.append_assoc, List.cons_append, List.nil_append]
    repeat rw [if_len _ (by decide)]
    simp only [lineL, List.append_assoc, List.cons_append, List.nil_append]
  have P : ∀ hh ii ss k : Int, hh = clkM l.s / 60 → ii = clkM l.s % 60 → ss = clkS l.s → k = (if l.m then 35 else 42) → ∀ F : Nat → Option (Unit × ((ByteArray × Unit) × Unit)), (∀ f, F f = (f_ref26_Put_t f).1 ((l.t, ()), ((), ((y, ()), ((m, ()), ((d, ()), ((hh, ()), ((ii, ()), ((ss, ()), ((strOf [k], ()), ()))))))))) ) → lim F = some ((), ((strOf (lineL l y m d), ()), ())) :=
    fun hh ii ss k q1 q2 q3 q4 F e => ((core hh ii ss k q1 q2 q3 q4).cast e).lim
  unfold g_ref26_Put
  have hs := hf.1
  by_cases c : l.s = 86400
  · cases hm : l.m
    · exact P 23 59 60 42 (by unfold clkM; omega) (by unfold clkM; omega) (by unfold clkS; omega) (by rw [hm]; rfl) _ fun f => by simp only [f_ref26_Put_m, NL.t, hdate, fitsS_dec, Option.bind_some, Option.isNone_none, Option.isNone_some, Option.isSome_none, Option.isSome_some, Bool.not_true, Bool.not_false, cond_true, cond_false, cond_dec, beq_int, bne_int, not_dec, c, hm, if_true, l42, Bool.false_eq_true, if_false]
    · exact P 23 59 60 35 (by unfold clkM; omega) (by unfold clkM; omega) (by unfold clkS; omega) (by rw [hm]; rfl) _ fun f => by simp only [f_ref26_Put_m, NL.t, hdate, fitsS_dec, Option.bind_some, Option.isNone_none, Option.isNone_some, Option.isSome_none, Option.isSome_some, Bool.not_true, Bool.not_false, cond_true, cond_false, cond_dec, beq_int, bne_int, not_dec, c, hm, if_true, l35]
  · have e1 : iquo .i64 l.s 3600 = l.s / 3600 := iquo_nn (by omega) (by omega)
    have e2 : iquo .i64 l.s 60 = l.s / 60 := iquo_nn (by omega) (by omega)
    have e3 : Int.tmod (l.s / 60) 60 = l.s / 60 % 60 := tmod_nn (by omega)
    have e4 : Int.tmod l.s 60 = l.s % 60 := tmod_nn (by omega)
    cases hm : l.m
    · exact P (l.s / 3600) (l.s / 60 % 60) (l.s % 60) 42 (by unfold clkM; omega) (by unfold clkM; omega) (by unfold clkS; omega) (by rw [hm]; rfl) _ fun f => by simp only [f_ref26_Put_m, NL.t, hdate, fitsS_dec, Option.bind_some, Option.isNone_none, Option.isNone_some, Option.isSome_none, Option.isSome_some, Bool.not_true, Bool.not_false, cond_true, cond_false, cond_dec, beq_int, bne_int, not_dec, c, hm, if_false, l42, e1, e2, e3, e4, Bool.false_eq_true]
    · exact P (l.s / 3600) (l.s / 60 % 60) (l.s % 60) 35 (by unfold clkM; omega) (by unfold clkM; omega) (by unfold clkS; omega) (by rw [hm]; rfl) _ fun f => by simp only [f_ref26_Put_m, NL.t, hdate, fitsS_dec, Option.bind_some, Option.isNone_none, Option.isNone_some, Option.isSome_none, Option.isSome_some, Bool.not_true, Bool.not_false, cond_true, cond_false, cond_dec, beq_int, bne_int, not_dec, c, hm, if_false, if_true, l35, e1, e2, e3, e4]
theorem nist_alive : g_law26_alive ((), ()) = some ((), ((true, ()), ())) := by
  have hd : IsDate 20005 2024 10 9 := by unfold IsDate; decide
  have he : NL.err ⟨20005, 40333, 50, 0, 0, 500, false⟩ = 0 := by decide
  have hp := nist_put he hd
  simp only [NL.t] at hp
  have e : lineL ⟨20005, 40333, 50, 0, 0, 500, false⟩ 2024 10 9 = [10, 54, 48, 53, 57, 50, 32, 50, 52, 45, 49, 48, 45, 48, 57, 32, 49, 49, 58, 49, 50, 58, 49, 51, 32, 53, 48, 32, 48, 32, 48, 32, 32, 53, 48, 46, 48, 32, 85, 84, 67, 40, 78, 73, 83, 84, 41, 32, 42, 10] := by kernel_rfl
  simp only [g_law26_alive, f_law26_alive_m, hp, fitsS_dec, Option.bind_some, Option.isNone_none, Option.isNone_some, Option.isSome_none, Option.isSome_some, Bool.not_true, Bool.not_false, cond_true, cond_false, cond_dec, beq_int, bne_int, not_dec, e]
  congr 4
  kernel_rfl
end Go.Proofs.Yticfncahnhbhbaa.Ev
