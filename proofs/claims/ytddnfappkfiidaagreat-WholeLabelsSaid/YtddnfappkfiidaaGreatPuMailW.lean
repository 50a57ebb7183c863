/- Mail dates: what is put, and the first text. -/
import Derived.Test.YtddnfappkfiidaaGreatPuMailQ
namespace Go.Proofs.YtddnfappkfiidaaGreat.Ev
open Go
set_option linter.unusedVariables false
set_option linter.unusedSimpArgs false
/-- A date's text. -/
def mailL (l : Lab) : List Int :=
  wkN (wdN (dnum l.y l.m l.d)).toNat ++ (44 :: 32 :: (dgs l.d.toNat 2 ++ (32 :: (moN l.m.toNat ++ (32 :: (dgs l.y.toNat 4 ++ (32 :: (dgs l.h.toNat 2 ++ (58 :: (dgs l.i.toNat 2 ++ (58 :: (dgs l.s.toNat 2 ++ (32 :: (if l.o < 0 then 45 else 43) :: (dgs (l.o.natAbs / 60) 2 ++ dgs (l.o.natAbs % 60) 2))))))))))))))
def putE25 (l : Lab) : Int := if labErr l ≠ 0 then labErr l else if l.y < 1900 then 13 else if l.n ≠ 0 then 1 else 0
theorem wdN_range (n : Int) : 1 ≤ wdN n ∧ wdN n ≤ 7 := by unfold wdN; omega
theorem wkN_by {i : Nat} (h : 1 ≤ i ∧ i ≤ 7) : okBy (wkN i) := (wk_name i h.1 h.2).2.1
theorem moN_by {i : Nat} (h : 1 ≤ i ∧ i ≤ 12) : okBy (moN i) := (mo_name i h.1 h.2).2.1
theorem wkN_len : ∀ {i : Nat}, 1 ≤ i → i ≤ 7 → (wkN i).length = 3
  | 0, h, _ => absurd h (by decide)
  | 1, _, _ => rfl
  | 2, _, _ => rfl
  | 3, _, _ => rfl
  | 4, _, _ => rfl
  | 5, _, _ => rfl
  | 6, _, _ => rfl
  | 7, _, _ => rfl
  | (n + 8), _, h => absurd h (by omega)
theorem moN_len : ∀ {i : Nat}, 1 ≤ i → i ≤ 12 → (moN i).length = 3
  | 0, h, _ => absurd h (by decide)
  | 1, _, _ => rfl
  | 2, _, _ => rfl
  | 3, _, _ => rfl
  | 4, _, _ => rfl
  | 5, _, _ => rfl
  | 6, _, _ => rfl
  | 7, _, _ => rfl
  | 8, _, _ => rfl
  | 9, _, _ => rfl
  | 10, _, _ => rfl
  | 11, _, _ => rfl
  | 12, _, _ => rfl
  | (n + 13), _, h => absurd h (by omega)
theorem mail_put_w (out L : List Int) (v : Int) (w : Nat) (hL : okBy L) (hv : 0 ≤ v ∧ v < 10 ^ w) (hw : 1 ≤ w ∧ w ≤ 18) (h : out.length + L.length ≤ 1000) : g_mail_writer_put_io (((none, ()), (out, ())), ((), ((strOf L, ()), ((v, ()), (((w : Int), ()), ()))))) = some (((none, ()), (out ++ (L ++ dgs v.toNat w), ())), ((), ())) := by
  simp only [g_mail_writer_put_io, f_mail_writer_put_io_m, fig_put_dg v w hv hw, Option.bind_some, fitsS_dec, Option.bind_some, Option.isNone_none, Option.isNone_some, Option.isSome_none, Option.isSome_some, Bool.not_true, Bool.not_false, cond_true, cond_false, cond_dec, beq_int, bne_int, not_dec, and_dec, by_str hL, by_str (dgs_by w v.toNat), List.length_append, dgs_len]
  rw [if_pos (by omega), if_pos (by omega), List.append_assoc]
theorem putE25_zero {l : Lab} (h : putE25 l = 0) : labErr l = 0 ∧ 1900 ≤ l.y ∧ l.n = 0 := by
  unfold putE25 at h
  by_cases c1 : labErr l = 0
  · rw [if_neg (not_not_intro c1)] at h
    by_cases c2 : l.y < 1900
    · rw [if_pos c2] at h; cases h
    · rw [if_neg c2] at h
      by_cases c3 : l.n = 0
      · exact ⟨c1, by omega, c3⟩
      · rw [if_pos c3] at h; cases h
  · rw [if_pos c1] at h; exact absurd h c1
theorem mail_put {l : Lab} (h : putE25 l = 0) : g_mail_Put ((), (l.t, ())) = some ((), ((strOf (mailL l), ()), ((none, ()), ()))) := by
  obtain ⟨h1, h2, h3⟩ := putE25_zero h
  obtain ⟨d1, d2, d3, d4⟩ := labErr_zero h1
  have hz := dErr_zero.1 d1
  have hf := fErr_zero.1 d2
  have hml := mlen_range l.y l.m
  have hc := label_check l
  have hw := mail_weekday l d1
  have hwd := wdN_range (dnum l.y l.m l.d)
  have hwn := wk_name (wdN (dnum l.y l.m l.d)).toNat (by omega) (by omega)
  have hmn := mo_name l.m.toNat (by omega) (by omega)
  rw [show (((wdN (dnum l.y l.m l.d)).toNat : Nat) : Int) = wdN (dnum l.y l.m l.d) by omega] at hwn
  rw [show ((l.m.toNat : Nat) : Int) = l.m by omega] at hmn
  have hwl := wkN_len (i := (wdN (dnum l.y l.m l.d)).toNat) (by omega) (by omega)
  have hmol := moN_len (i := l.m.toNat) (by omega) (by omega)
  have l32 : (⟨#[32]⟩ : ByteArray) = strOf [32] := by kernel_rfl
  have l58 : (⟨#[58]⟩ : ByteArray) = strOf [58] := by kernel_rfl
  have l44 : (⟨#[44, 32]⟩ : ByteArray) = strOf [44, 32] := by kernel_rfl
  have l45 : (⟨#[32, 45]⟩ : ByteArray) = strOf [32, 45] := by kernel_rfl
  have l43 : (⟨#[32, 43]⟩ : ByteArray) = strOf [32, 43] := by kernel_rfl
  have b1 : ∀ x : Int, 0 ≤ x ∧ x < 256 → okBy [x] := fun x h => okBy_cons h okBy_nil
  have b2 : ∀ x y : Int, 0 ≤ x ∧ x < 256 → 0 ≤ y ∧ y < 256 → okBy [x, y] := fun x y h h' => okBy_cons h (okBy_cons h' okBy_nil)
  rw [h1, errOf_zero] at hc
  simp only [Lab.t, h3] at hc hw
  have e2 : ((2 : Nat) : Int) = 2 := rfl
  have e4 : ((4 : Nat) : Int) = 4 := rfl
  have P : ∀ (out L : List Int) (v : Int) (w : Nat), okBy L → (0 ≤ v ∧ v < 10 ^ w) → (1 ≤ w ∧ w ≤ 18) → out.length + L.length ≤ 500 → g_mail_writer_put_io (((none, ()), (out, ())), ((), ((strOf L, ()), ((v, ()), (((w : Int), ()), ()))))) = some (((none, ()), (out ++ (L ++ dgs v.toNat w), ())), ((), ())) :=
    fun out L v w hL hv hw ho => mail_put_w out L v w hL hv hw (by omega)
  simp only [g_mail_Put, f_mail_Put_m, Lab.t, hc, hw, h3, g_mail_Weekday, f_mail_Weekday_m, g_mail_Month, f_mail_Month_m, hwn.1, hmn.1, fitsS_dec, Option.bind_some, Option.isNone_none, Option.isNone_some, Option.isSome_none, Option.isSome_some, Bool.not_true, Bool.not_false, cond_true, cond_false, cond_dec, beq_int, bne_int, not_dec, -fitsS_dec, l32, l58, l44, l45, l43, sc_nil]
  rw [if_neg (by omega), if_neg (by decide)]
  simp only [fitsS_dec, cond_dec, str_size, str_app, hwl, hmol, List.length_append, List.length_cons, List.length_nil]
  rw [if_pos (by decide), ← e2, P [] _ l.d 2 (okBy_app hwn.2.1 (b2 44 32 (by omega) (by omega))) (by omega) (by omega) (by simp only [List.length_append, List.length_cons, List.length_nil, hwl]; omega)]
  simp only [Option.bind_some, List.nil_append]
  rw [if_pos (by decide), if_pos (by decide), ← e4, P _ _ l.y 4 (okBy_app (okBy_app (b1 32 (by omega)) hmn.2.1) (b1 32 (by omega))) (by omega) (by omega) (by simp only [List.length_append, List.length_cons, List.length_nil, hwl, hmol, dgs_len]; omega)]
  simp only [Option.bind_some]
  rw [P _ [32] l.h 2 (b1 32 (by omega)) (by omega) (by omega) (by simp only [List.length_append, List.length_cons, List.length_nil, hwl, hmol, dgs_len]; omega), Option.bind_some,
    P _ [58] l.i 2 (b1 58 (by omega)) (by omega) (by omega) (by simp only [List.length_append, List.length_cons, List.length_nil, hwl, hmol, dgs_len]; omega), Option.bind_some,
    P _ [58] l.s 2 (b1 58 (by omega)) (by omega) (by omega) (by simp only [List.length_append, List.length_cons, List.length_nil, hwl, hmol, dgs_len]; omega), Option.bind_some]
  dsimp only
  have ho := hf.2.2.2.2
  by_cases c : l.o < 0
  · have n1 : ineg .i64 l.o = -l.o := ineg_i64 (by omega)
    have n2 : iquo .i64 (-l.o) 60 = -l.o / 60 := iquo_nn (by decide) (by omega)
    rw [if_pos c, n1, n2, P _ [32, 45] (-l.o / 60) 2 (b2 32 45 (by omega) (by omega)) (by omega) (by omega) (by simp only [List.length_append, List.length_cons, List.length_nil, hwl, hmol, dgs_len]; omega), Option.bind_some, tmod_nn (by omega),
      P _ [] (-l.o % 60) 2 okBy_nil (by omega) (by omega) (by simp only [List.length_append, List.length_cons, List.length_nil, hwl, hmol, dgs_len]; omega), Option.bind_some]
    unfold mailL
    rw [if_pos c, show l.o.natAbs / 60 = (-l.o / 60).toNat by omega, show l.o.natAbs % 60 = (-l.o % 60).toNat by omega]
    simp only [List.append_assoc, List.cons_append, List.nil_append]
  · have n2 : iquo .i64 l.o 60 = l.o / 60 := iquo_nn (by decide) (by omega)
    rw [if_neg c, n2, P _ [32, 43] (l.o / 60) 2 (b2 32 43 (by omega) (by omega)) (by omega) (by omega) (by simp only [List.length_append, List.length_cons, List.length_nil, hwl, hmol, dgs_len]; omega), Option.bind_some, tmod_nn (by omega),
      P _ [] (l.o % 60) 2 okBy_nil (by omega) (by omega) (by simp only [List.length_append, List.length_cons, List.length_nil, hwl, hmol, dgs_len]; omega), Option.bind_some]
    unfold mailL
    rw [if_neg c, show l.o.natAbs / 60 = (l.o / 60).toNat by omega, show l.o.natAbs % 60 = (l.o % 60).toNat by omega]
    simp only [List.append_assoc, List.cons_append, List.nil_append]
theorem mail_put_bad {l : Lab} (h : putE25 l ≠ 0) : g_mail_Put ((), (l.t, ())) = some ((), ((strOf [], ()), ((errOf (putE25 l), ()), ()))) := by
  have hc := label_check l
  simp only [Lab.t] at hc
  unfold putE25 at h ⊢
  by_cases c1 : labErr l = 0
  · rw [if_neg (not_not_intro c1)] at h ⊢
    rw [c1, errOf_zero] at hc
    by_cases c2 : l.y < 1900
    · rw [if_pos c2] at h ⊢
      simp only [g_mail_Put, f_mail_Put_m, Lab.t, hc, sc_nil, fitsS_dec, Option.bind_some, Option.isNone_none, Option.isNone_some, Option.isSome_none, Option.isSome_some, Bool.not_true, Bool.not_false, cond_true, cond_false, cond_dec, beq_int, bne_int, not_dec]
      rw [if_pos c2]; rfl
    · rw [if_neg c2] at h ⊢
      by_cases c3 : l.n = 0
      · rw [if_neg (not_not_intro c3)] at h; exact absurd rfl h
      · rw [if_pos c3] at h ⊢
        simp only [g_mail_Put, f_mail_Put_m, Lab.t, hc, sc_nil, fitsS_dec, Option.bind_some, Option.isNone_none, Option.isNone_some, Option.isSome_none, Option.isSome_some, Bool.not_true, Bool.not_false, cond_true, cond_false, cond_dec, beq_int, bne_int, not_dec]
        rw [if_neg c2, if_pos c3]; rfl
  · rw [if_pos c1] at h ⊢
    simp only [g_mail_Put, f_mail_Put_m, Lab.t, hc, errOf_none, c1, fitsS_dec, Option.bind_some, Option.isNone_none, Option.isNone_some, Option.isSome_none, Option.isSome_some, Bool.not_true, Bool.not_false, cond_true, cond_false, cond_dec, beq_int, bne_int, not_dec, not_false_eq_true, if_true, sc_nil]
theorem mailL_by {l : Lab} (h : putE25 l = 0) : okBy (mailL l) := by
  obtain ⟨h1, h2, h3⟩ := putE25_zero h
  obtain ⟨d1, d2, d3, d4⟩ := labErr_zero h1
  have hz := dErr_zero.1 d1
  have hwd := wdN_range (dnum l.y l.m l.d)
  have c32 : ∀ {r : List Int}, okBy r → okBy (32 :: r) := fun hr => okBy_cons (by omega) hr
  have c44 : ∀ {r : List Int}, okBy r → okBy (44 :: r) := fun hr => okBy_cons (by omega) hr
  have c58 : ∀ {r : List Int}, okBy r → okBy (58 :: r) := fun hr => okBy_cons (by omega) hr
  have cs : (0 : Int) ≤ (if l.o < 0 then 45 else 43) ∧ (if l.o < 0 then (45 : Int) else 43) < 256 := by split <;> omega
  have D : ∀ {n w : Nat} {r : List Int}, okBy r → okBy (dgs n w ++ r) := fun h => okBy_app (dgs_by _ _) h
  unfold mailL
  exact okBy_app (wkN_by ⟨by omega, by omega⟩) (c44 (c32 (D (c32 (okBy_app (moN_by ⟨by omega, by omega⟩) (c32 (D (c32 (D (c58 (D (c58 (D (c32 (okBy_cons cs (D (dgs_by _ _)))))))))))))))))
@[reducible] def firstL : List Int := [84, 104, 117, 44, 32, 49, 51, 32, 70, 101, 98, 32, 49, 57, 54, 57, 32, 50, 51, 58, 51, 50, 32, 45, 48, 51, 51, 48, 32, 40, 78, 101, 119, 102, 111, 117, 110, 100, 108, 97, 110, 100, 32, 84, 105, 109, 101, 41]
end Go.Proofs.YtddnfappkfiidaaGreat.Ev
