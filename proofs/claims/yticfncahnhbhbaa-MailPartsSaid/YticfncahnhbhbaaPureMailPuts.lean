/- The law MailPuts, plain. -/
import Derived.Test.YticfncahnhbhbaaPuMailW
namespace Go.Proofs.Yticfncahnhbhbaa.Ev
open Go
set_option linter.unusedVariables false
set_option linter.unusedSimpArgs false
theorem of_len (n : Nat) (h : n ≤ 1000000) : (n : Int) ≤ 9223372036854775807 := by omega
theorem ref25_wk : ∀ i : Nat, 1 ≤ i → i ≤ 7 → g_ref25_Weekday ((), (((i : Int), ()), ())) = some ((), ((strOf (wkN i), ()), ()))
  | 0, h, _ => absurd h (by decide)
  | 1, _, _ => by kernel_rfl
  | 2, _, _ => by kernel_rfl
  | 3, _, _ => by kernel_rfl
  | 4, _, _ => by kernel_rfl
  | 5, _, _ => by kernel_rfl
  | 6, _, _ => by kernel_rfl
  | 7, _, _ => by kernel_rfl
  | (n + 8), _, h => absurd h (by omega)
theorem ref25_mo : ∀ i : Nat, 1 ≤ i → i ≤ 12 → g_ref25_Month ((), (((i : Int), ()), ())) = some ((), ((strOf (moN i), ()), ()))
  | 0, h, _ => absurd h (by decide)
  | 1, _, _ => by kernel_rfl
  | 2, _, _ => by kernel_rfl
  | 3, _, _ => by kernel_rfl
  | 4, _, _ => by kernel_rfl
  | 5, _, _ => by kernel_rfl
  | 6, _, _ => by kernel_rfl
  | 7, _, _ => by kernel_rfl
  | 8, _, _ => by kernel_rfl
  | 9, _, _ => by kernel_rfl
  | 10, _, _ => by kernel_rfl
  | 11, _, _ => by kernel_rfl
  | 12, _, _ => by kernel_rfl
  | (n + 13), _, h => absurd h (by omega)
theorem wd_list : ∀ r : Nat, r < 7 → gd (.int .i64) ([4, 5, 6, 7, 1, 2, 3] : List Int) (r : Int) = ((r : Int) + 3) % 7 + 1
  | 0, _ => rfl
  | 1, _ => rfl
  | 2, _ => rfl
  | 3, _ => rfl
  | 4, _ => rfl
  | 5, _ => rfl
  | 6, _ => rfl
  | (n + 7), h => absurd h (by omega)
theorem ref05_weekday (n : Int) (h : -1000000000 ≤ n ∧ n ≤ 1000000000) : g_ref05_Weekday ((), ((n, ()), ())) = some ((), ((wdN n, ()), ())) := by
  have hw := wd_list (n % 7).toNat (by omega)
  rw [show (((n % 7).toNat : Nat) : Int) = n % 7 by omega] at hw
  have hwd : (n % 7 + 3) % 7 + 1 = wdN n := by unfold wdN; omega
  have ht : Int.tmod n 7 = if 0 ≤ n ∨ n % 7 = 0 then n % 7 else n % 7 - 7 := by
    rw [tmod_pos 7 (by decide)]; split <;> split <;> omega
  simp only [g_ref05_Weekday, f_ref05_Weekday_m, fitsS_dec, Option.bind_some, Option.isNone_none, Option.isNone_some, Option.isSome_none, Option.isSome_some, Bool.not_true, Bool.not_false, cond_true, cond_false, cond_dec, beq_int, bne_int, not_dec, and_dec, List.length_cons, List.length_nil]
  by_cases c : Int.tmod n 7 < 0
  · have e : iadd .i64 (Int.tmod n 7) 7 = n % 7 := by
      rw [iadd_i64 (by rw [ht] at c ⊢; split at c <;> omega)]
      rw [ht] at c ⊢
      split at c <;> (split <;> omega)
    rw [if_pos c, e, if_pos (by omega), hw, hwd]
  · have e : Int.tmod n 7 = n % 7 := by
      rw [ht] at c ⊢
      split at c <;> (split <;> omega)
    rw [if_neg c, e, if_pos (by omega), hw, hwd]
theorem dgs4 (a b : Nat) (hb : b < 100) : dgs (a * 100 + b) 4 = dgs a 2 ++ dgs b 2 := by
  have e1 : (a * 100 + b) % 10 = b % 10 := by omega
  have e2 : (a * 100 + b) / 10 % 10 = b / 10 % 10 := by omega
  have e3 : (a * 100 + b) / 10 / 10 = a := by omega
  simp only [dgs, e1, e2, e3, List.append_assoc, List.nil_append, List.cons_append]
theorem ref25_put {l : Lab} (h : putE25 l = 0) : g_ref25_Put ((), (l.t, ())) = some ((), ((strOf (mailL l), ()), ())) := by
  obtain ⟨h1, h2, h3⟩ := putE25_zero h
  obtain ⟨d1, d2, d3, d4⟩ := labErr_zero h1
  have hz := dErr_zero.1 d1
  have hf := fErr_zero.1 d2
  have hml := mlen_range l.y l.m
  have hwd := wdN_range (dnum l.y l.m l.d)
  have hdn := dnum_range l.y l.m l.d (by omega) hz.2.1 (by omega)
  have hw := ref25_wk (wdN (dnum l.y l.m l.d)).toNat (by omega) (by omega)
  have hm := ref25_mo l.m.toNat (by omega) (by omega)
  rw [show (((wdN (dnum l.y l.m l.d)).toNat : Nat) : Int) = wdN (dnum l.y l.m l.d) by omega] at hw
  rw [show ((l.m.toNat : Nat) : Int) = l.m by omega] at hm
  have hwl := wkN_len (i := (wdN (dnum l.y l.m l.d)).toNat) (by omega) (by omega)
  have hmol := moN_len (i := l.m.toNat) (by omega) (by omega)
  have l32 : (⟨#[32]⟩ : ByteArray) = strOf [32] := by kernel_rfl
  have l58 : (⟨#[58]⟩ : ByteArray) = strOf [58] := by kernel_rfl
  have l44 : (⟨#[44, 32]⟩ : ByteArray) = strOf [44, 32] := by kernel_rfl
  have l45 : (⟨#[32, 45]⟩ : ByteArray) = strOf [32, 45] := by kernel_rfl
  have l43 : (⟨#[32, 43]⟩ : ByteArray) = strOf [32, 43] := by kernel_rfl
  have R2 : ∀ v : Int, 0 ≤ v ∧ v < 100 → g_ref02_Raw ((), ((v, ()), ((2, ()), ()))) = some ((), ((strOf (dgs v.toNat 2), ()), ())) := fun v hv => ref02_raw_dg v 2 (by omega) (by omega)
  have R4 : ∀ v : Int, 0 ≤ v ∧ v < 10000 → g_ref02_Raw ((), ((v, ()), ((4, ()), ()))) = some ((), ((strOf (dgs v.toNat 4), ()), ())) := fun v hv => ref02_raw_dg v 4 (by omega) (by omega)
  have hof := ref05_of l.y l.m l.d (by omega) hz.2.1 (by omega)
  have ho := hf.2.2.2.2
  have r1 := R2 l.d (by omega)
  have r2 := R4 l.y (by omega)
  have r3 := R2 l.h (by omega)
  have r4 := R2 l.i (by omega)
  have r5 := R2 l.s (by omega)
  simp only [g_ref25_Put, f_ref25_Put_m, Lab.t, hof, ref05_weekday _ (show -1000000000 ≤ dnum l.y l.m l.d ∧ dnum l.y l.m l.d ≤ 1000000000 by omega), hw, hm, r1, r2, r3, r4, r5, fitsS_dec, Option.bind_some, Option.isNone_none, Option.isNone_some, Option.isSome_none, Option.isSome_some, Bool.not_true, Bool.not_false, cond_true, cond_false, cond_dec, beq_int, bne_int, not_dec, -fitsS_dec, l32, l58, l44, l45, l43]
  simp only [fitsS_dec, cond_dec, str_size, str_app, hwl, hmol, dgs_len, List.length_append, List.length_cons, List.length_nil, Nat.reduceAdd, List.append_assoc, List.cons_append, List.nil_append]
  by_cases c : l.o < 0
  · have n1 : isub .i64 0 l.o = -l.o := by rw [isub_i64 (by omega)]; omega
    have n2 : iquo .i64 (-l.o) 60 = -l.o / 60 := iquo_nn (by decide) (by omega)
    have n3 : imul .i64 (-l.o / 60) 100 = -l.o / 60 * 100 := imul_i64 (by omega)
    have n4 : iadd .i64 (-l.o / 60 * 100) (-l.o % 60) = -l.o / 60 * 100 + -l.o % 60 := iadd_i64 (by omega)
    have r6 := R4 (-l.o / 60 * 100 + -l.o % 60) (by omega)
    simp only [n1, n2, n3, tmod_nn (show 0 ≤ -l.o by omega), n4, r6, Option.bind_some, str_size, dgs_len, str_app, List.append_assoc, List.cons_append, List.nil_append, List.length_append, List.length_cons, List.length_nil, hwl, hmol, Nat.reduceAdd, c, if_true]
    repeat rw [if_pos (of_len _ (by decide))]
    unfold mailL
    rw [if_pos c, show l.o.natAbs / 60 = (-l.o / 60).toNat by omega, show l.o.natAbs % 60 = (-l.o % 60).toNat by omega, show (-l.o / 60 * 100 + -l.o % 60).toNat = (-l.o / 60).toNat * 100 + (-l.o % 60).toNat by omega, dgs4 _ _ (by omega)]
  · have n2 : iquo .i64 l.o 60 = l.o / 60 := iquo_nn (by decide) (by omega)
    have n3 : imul .i64 (l.o / 60) 100 = l.o / 60 * 100 := imul_i64 (by omega)
    have n4 : iadd .i64 (l.o / 60 * 100) (l.o % 60) = l.o / 60 * 100 + l.o % 60 := iadd_i64 (by omega)
    have r6 := R4 (l.o / 60 * 100 + l.o % 60) (by omega)
    simp only [n2, n3, tmod_nn (show 0 ≤ l.o by omega), n4, r6, Option.bind_some, str_size, dgs_len, str_app, List.append_assoc, List.cons_append, List.nil_append, List.length_append, List.length_cons, List.length_nil, hwl, hmol, Nat.reduceAdd, c, if_false]
    repeat rw [if_pos (of_len _ (by decide))]
    unfold mailL
    rw [if_neg c, show l.o.natAbs / 60 = (l.o / 60).toNat by omega, show l.o.natAbs % 60 = (l.o % 60).toNat by omega, show (l.o / 60 * 100 + l.o % 60).toNat = (l.o / 60).toNat * 100 + (l.o % 60).toNat by omega, dgs4 _ _ (by omega)]
theorem mail_puts (l : Lab) : g_law25_MailPuts ((), (l.t, ())) = some ((), ((true, ()), ())) := by
  have hr := ref08_check l
  simp only [Lab.t] at hr
  have hn0 : g_hnum_Num ((), ((none, ()), ())) = some ((), ((0, ()), ())) := num_num 0
  have hfin : ∀ e : Int, e = putE25 l → ∀ f : Nat, ∀ P : ByteArray × (Option Int), g_mail_Put ((), (l.t, ())) = some ((), ((P.1, ()), ((P.2, ()), ()))) →
      f_law25_MailPuts_p9 (f_law25_MailPuts_t f) ((l.t, ()), ((P.1, ()), ((P.2, ()), ((), ((e, ()), ()))))) = some ((), ((true, ()), ())) := by
    rintro e rfl f ⟨p1, p2⟩ hp
    by_cases c : putE25 l = 0
    · rw [mail_put c] at hp
      simp only [Option.some.injEq, Prod.mk.injEq, and_true, true_and] at hp
      obtain ⟨rfl, rfl⟩ := hp
      have hq := ref25_put c
      simp only [Lab.t] at hq
      simp only [f_law25_MailPuts_p9, Lab.t, c, hq, fitsS_dec, Option.bind_some, Option.isNone_none, Option.isNone_some, Option.isSome_none, Option.isSome_some, Bool.not_true, Bool.not_false, cond_true, cond_false, cond_dec, beq_int, bne_int, not_dec]
      simp
    · rw [mail_put_bad c] at hp
      simp only [Option.some.injEq, Prod.mk.injEq, and_true, true_and] at hp
      obtain ⟨rfl, rfl⟩ := hp
      simp only [f_law25_MailPuts_p9, Lab.t, num_num, sc_nil, fitsS_dec, Option.bind_some, Option.isNone_none, Option.isNone_some, Option.isSome_none, Option.isSome_some, Bool.not_true, Bool.not_false, cond_true, cond_false, cond_dec, beq_int, bne_int, not_dec]
      simp [c]
  obtain ⟨p1, p2, hp⟩ : ∃ p1 p2, g_mail_Put ((), (l.t, ())) = some ((), ((p1, ()), ((p2, ()), ()))) := by
    by_cases c : putE25 l = 0
    · exact ⟨_, _, mail_put c⟩
    · exact ⟨_, _, mail_put_bad c⟩
  have hE := fun e he f => hfin e he f (p1, p2) hp
  simp only [Lab.t] at hp hE
  refine (Evn.some (F := fun f => f_law25_MailPuts_m (f_law25_MailPuts_t f) ((), (l.t, ()))) 1 fun f => ?_).lim
  simp only [f_law25_MailPuts_m, Lab.t, mail_alive, hp, document, hr, t_law25_MailPuts, fitsS_dec, Option.bind_some, Option.isNone_none, Option.isNone_some, Option.isSome_none, Option.isSome_some, Bool.not_true, Bool.not_false, cond_true, cond_false, cond_dec, beq_int, bne_int, not_dec]
  unfold putE25 at hE
  by_cases c1 : labErr l = 0
  · simp only [c1, if_true]
    by_cases c2 : l.y < 1900
    · rw [if_pos c2, if_neg (by decide)]
      exact hE 13 (by rw [if_neg (not_not_intro c1), if_pos c2]) f
    · rw [if_neg c2]
      by_cases c3 : l.n = 0
      · rw [if_neg (not_not_intro c3)]
        exact hE 0 (by rw [if_neg (not_not_intro c1), if_neg c2, if_neg (not_not_intro c3)]) f
      · rw [if_pos c3]
        exact hE 1 (by rw [if_neg (not_not_intro c1), if_neg c2, if_pos c3]) f
  · simp only [c1, if_false]
    by_cases c2 : l.y < 1900
    · exact hE _ (by rw [if_pos c1]) f
    · exact hE _ (by rw [if_pos c1]) f
end Go.Proofs.Yticfncahnhbhbaa.Ev
