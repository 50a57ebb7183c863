/- The law MailBack, plain. -/
import Derived.Test.YtddnfappkfiidaaGreatPuMailW
namespace Go.Proofs.YtddnfappkfiidaaGreat.Ev
open Go
set_option linter.unusedVariables false
set_option linter.unusedSimpArgs false
theorem is3 (x y z a b c : Int) (r : List Int) : isW [x, y, z] (a :: b :: c :: r) ↔ low a = low x ∧ low b = low y ∧ low c = low z := by
  unfold isW
  simp
theorem fold3 (x y z a b c : Int) (r : List Int) : foldX [x, y, z] (.good (a :: b :: c :: r)) = if low a = low x ∧ low b = low y ∧ low c = low z then (.good r, true) else (.good (a :: b :: c :: r), false) := by
  simp only [foldX, is3]
  split <;> rfl
theorem wk_find (i : Nat) (r : List Int) (h1 : 1 ≤ i) (h2 : i ≤ 7) : oneK wkN 7 1 (.good (wkN i ++ r)) = (.good r, (i : Int)) := by
  match i, h1, h2 with
  | 1, _, _ => simp [oneK, fold3, wkN, low]
  | 2, _, _ => simp [oneK, fold3, wkN, low]
  | 3, _, _ => simp [oneK, fold3, wkN, low]
  | 4, _, _ => simp [oneK, fold3, wkN, low]
  | 5, _, _ => simp [oneK, fold3, wkN, low]
  | 6, _, _ => simp [oneK, fold3, wkN, low]
  | 7, _, _ => simp [oneK, fold3, wkN, low]
  | (n + 8), _, h => exact absurd h (by omega)
theorem mo_find (i : Nat) (r : List Int) (h1 : 1 ≤ i) (h2 : i ≤ 12) : oneK moN 12 1 (.good (moN i ++ r)) = (.good r, (i : Int)) := by
  match i, h1, h2 with
  | 1, _, _ => simp [oneK, fold3, moN, low]
  | 2, _, _ => simp [oneK, fold3, moN, low]
  | 3, _, _ => simp [oneK, fold3, moN, low]
  | 4, _, _ => simp [oneK, fold3, moN, low]
  | 5, _, _ => simp [oneK, fold3, moN, low]
  | 6, _, _ => simp [oneK, fold3, moN, low]
  | 7, _, _ => simp [oneK, fold3, moN, low]
  | 8, _, _ => simp [oneK, fold3, moN, low]
  | 9, _, _ => simp [oneK, fold3, moN, low]
  | 10, _, _ => simp [oneK, fold3, moN, low]
  | 11, _, _ => simp [oneK, fold3, moN, low]
  | 12, _, _ => simp [oneK, fold3, moN, low]
  | (n + 13), _, h => exact absurd h (by omega)
theorem must1 (n : Nat) (c : Int) (r : List Int) : mustX n [c] (.good (c :: r)) = .good r := by
  have : isW [c] (c :: r) := by unfold isW; simp
  simp only [mustX, foldX, if_pos this, if_true, List.length_cons, List.length_nil, List.drop_succ_cons, List.drop_zero]
/-- No gap here. -/
theorem gap0 (n : Nat) {c : Int} {r : List Int} (h : ¬ spc c) (h2 : c ≠ 40) : gapX n (.good (c :: r)) = (.good (c :: r), false) := by
  simp only [gapX, gp_no h h2]; simp
/-- A blank, and no more. -/
theorem gap1 (n : Nat) {c : Int} {r : List Int} (h : ¬ spc c) (h2 : c ≠ 40) : gapX n (.good (32 :: c :: r)) = (.good (c :: r), true) := by
  have hs : spc 32 := Or.inl rfl
  simp only [gapX, gp_spc hs, gp_no h h2]; simp
theorem gapE (n : Nat) : gapX n (.good []) = (.good [], false) := by simp [gapX, gp_nil]
theorem isF_spc {c : Int} (h : isF c) : ¬ spc c ∧ c ≠ 40 := by unfold isF at h; unfold spc; omega
theorem dgs_head (n w : Nat) : ∃ c r, dgs n (w + 1) = c :: r ∧ isF c := by
  have hl := dgs_len (w + 1) n
  cases h : dgs n (w + 1) with
  | nil => rw [h] at hl; cases hl
  | cons c r => exact ⟨c, r, rfl, dgs_ok (w + 1) n c (by rw [h]; exact List.mem_cons_self)⟩
theorem gap1d (n k w : Nat) (r : List Int) : gapX n (.good (32 :: (dgs k (w + 1) ++ r))) = (.good (dgs k (w + 1) ++ r), true) := by
  obtain ⟨c, q, h, hc⟩ := dgs_head k w
  rw [h]; exact gap1 n (isF_spc hc).1 (isF_spc hc).2
theorem gap0d (n k w : Nat) (r : List Int) : gapX n (.good (dgs k (w + 1) ++ r)) = (.good (dgs k (w + 1) ++ r), false) := by
  obtain ⟨c, q, h, hc⟩ := dgs_head k w
  rw [h]; exact gap0 n (isF_spc hc).1 (isF_spc hc).2
theorem mo_head : ∀ i : Nat, 1 ≤ i → i ≤ 12 → ∃ c r, moN i = c :: r ∧ ¬ spc c ∧ c ≠ 40
  | 0, h, _ => absurd h (by decide)
  | 1, _, _ => ⟨_, _, rfl, by decide, by decide⟩
  | 2, _, _ => ⟨_, _, rfl, by decide, by decide⟩
  | 3, _, _ => ⟨_, _, rfl, by decide, by decide⟩
  | 4, _, _ => ⟨_, _, rfl, by decide, by decide⟩
  | 5, _, _ => ⟨_, _, rfl, by decide, by decide⟩
  | 6, _, _ => ⟨_, _, rfl, by decide, by decide⟩
  | 7, _, _ => ⟨_, _, rfl, by decide, by decide⟩
  | 8, _, _ => ⟨_, _, rfl, by decide, by decide⟩
  | 9, _, _ => ⟨_, _, rfl, by decide, by decide⟩
  | 10, _, _ => ⟨_, _, rfl, by decide, by decide⟩
  | 11, _, _ => ⟨_, _, rfl, by decide, by decide⟩
  | 12, _, _ => ⟨_, _, rfl, by decide, by decide⟩
  | (n + 13), _, h => absurd h (by omega)
theorem wk_head : ∀ i : Nat, 1 ≤ i → i ≤ 7 → ∃ c r, wkN i = c :: r ∧ ¬ spc c ∧ c ≠ 40
  | 0, h, _ => absurd h (by decide)
  | 1, _, _ => ⟨_, _, rfl, by decide, by decide⟩
  | 2, _, _ => ⟨_, _, rfl, by decide, by decide⟩
  | 3, _, _ => ⟨_, _, rfl, by decide, by decide⟩
  | 4, _, _ => ⟨_, _, rfl, by decide, by decide⟩
  | 5, _, _ => ⟨_, _, rfl, by decide, by decide⟩
  | 6, _, _ => ⟨_, _, rfl, by decide, by decide⟩
  | 7, _, _ => ⟨_, _, rfl, by decide, by decide⟩
  | (n + 8), _, h => absurd h (by omega)
theorem lead_no {c : Int} {r : List Int} (h : ¬ isF c) : lead (c :: r) = 0 := by unfold lead; rw [if_neg h]
theorem lead_apd : ∀ (F r : List Int), (∀ x ∈ F, isF x) → lead (F ++ r) = F.length + lead r
  | [], r, _ => by simp
  | x :: F, r, h => by
    have := lead_apd F r (fun y hy => h y (List.mem_cons_of_mem _ hy))
    simp only [List.cons_append, lead, if_pos (h x List.mem_cons_self), this, List.length_cons]; omega
theorem fig_d (n k : Nat) (a b : Nat) (r : List Int) (hk : k < 10 ^ 2) (ha : a ≤ 2) (hb : b = 2) : figX n a b (.good (dgs k 2 ++ r)) = (.good r, (k : Int)) := by
  subst hb
  have e : min (lead (dgs k 2 ++ r)) 2 = 2 := by rw [lead_apd _ _ (dgs_ok 2 k), dgs_len]; omega
  simp only [figX, e, if_pos ha]
  rw [List.drop_left' (dgs_len 2 k), List.take_left' (dgs_len 2 k), val10_dg 2 k hk]
theorem yr_d (n k : Nat) {c : Int} (r : List Int) (hk : k < 10 ^ 4) (hc : ¬ isF c) : yrX n (.good (dgs k 4 ++ c :: r)) = (.good (c :: r), (k : Int)) := by
  have e : lead (dgs k 4 ++ c :: r) = 4 := by rw [lead_apd _ _ (dgs_ok 4 k), dgs_len, lead_no hc]
  simp only [yrX, e]
  rw [if_pos (by decide), List.drop_left' (dgs_len 4 k), List.take_left' (dgs_len 4 k), val10_dg 4 k hk]
  simp [yrV]
theorem mail_forth {l : Lab} (h : putE25 l = 0) : mpX (mailL l).length (mailL l) = ⟨wdN (dnum l.y l.m l.d), l.y, l.m, l.d, l.h, l.i, l.s, l.o, true, .good []⟩ := by
  obtain ⟨h1, h2, h3⟩ := putE25_zero h
  obtain ⟨d1, d2, d3, d4⟩ := labErr_zero h1
  have hz := dErr_zero.1 d1
  have hf := fErr_zero.1 d2
  have hml := mlen_range l.y l.m
  have hwd := wdN_range (dnum l.y l.m l.d)
  generalize (mailL l).length = n
  obtain ⟨wc, wr, hw, hw1, hw2⟩ := wk_head (wdN (dnum l.y l.m l.d)).toNat (by omega) (by omega)
  obtain ⟨mc, mr, hm, hm1, hm2⟩ := mo_head l.m.toNat (by omega) (by omega)
  have q44 : ¬ spc 44 ∧ (44 : Int) ≠ 40 := by decide
  have q58 : ¬ spc 58 ∧ (58 : Int) ≠ 40 := by decide
  have hneg : ¬ (44 : Int) = 0 := by decide
  generalize hW : (wdN (dnum l.y l.m l.d)).toNat = W at hw
  have hWv : ((W : Nat) : Int) = wdN (dnum l.y l.m l.d) := by omega
  have hW7 : 1 ≤ W ∧ W ≤ 7 := by omega
  unfold mailL
  rw [hW]
  have s0 : ∀ r, gapX n (.good (wkN W ++ r)) = (.good (wkN W ++ r), false) := fun r => by rw [hw]; exact gap0 n hw1 hw2
  have s1 : ∀ k r, wkX n (.good (wkN W ++ (44 :: 32 :: (dgs k 2 ++ r)))) = (.good (dgs k 2 ++ r), wdN (dnum l.y l.m l.d)) := fun k r => by
    have hne : ¬ ((W : Int) = 0) := by omega
    simp only [wkX, wk_find W _ hW7.1 hW7.2, if_neg hne, gap0 n q44.1 q44.2, must1, gap1d n k 1 r, hWv]
    rw [if_neg (by omega)]
  have s2 : ∀ r, gapX n (.good (32 :: (moN l.m.toNat ++ r))) = (.good (moN l.m.toNat ++ r), true) := fun r => by rw [hm]; exact gap1 n hm1 hm2
  have s3 : ∀ r, dateX n (.good (dgs l.d.toNat 2 ++ (32 :: (moN l.m.toNat ++ (32 :: (dgs l.y.toNat 4 ++ (32 :: r))))))) = (.good (32 :: r), (l.y, (l.m, l.d))) := fun r => by
    have hne : ¬ ((l.m.toNat : Int) = 0) := by omega
    have hy := yr_d n l.y.toNat r (c := 32) (by omega) (by decide)
    simp only [dateX, fig_d n l.d.toNat 1 2 _ (by omega) (by omega) rfl, s2, mo_find l.m.toNat _ (by omega) (by omega), if_neg hne, gap1d n l.y.toNat 3, hy]
    congr 2
    · omega
    · congr 1
      · omega
      · omega
  have sgn : ∀ (a b : Nat), a < 100 → b < 100 → figX n 2 2 (.good (dgs a 2 ++ dgs b 2)) = (.good (dgs b 2), (a : Int)) ∧ figX n 2 2 (.good (dgs b 2)) = (.good [], (b : Int)) := fun a b ha hb => by
    refine ⟨fig_d n a 2 2 _ ha (by omega) rfl, ?_⟩
    have := fig_d n b 2 2 [] hb (by omega) rfl
    rwa [List.append_nil] at this
  have hsg : ¬ spc (if l.o < 0 then (45 : Int) else 43) ∧ (if l.o < 0 then (45 : Int) else 43) ≠ 40 := by split <;> decide
  have s4 : ∀ r, clkX n (.good (dgs l.h.toNat 2 ++ (58 :: (dgs l.i.toNat 2 ++ (58 :: (dgs l.s.toNat 2 ++ (32 :: (if l.o < 0 then (45 : Int) else 43) :: r))))))) = (.good ((if l.o < 0 then (45 : Int) else 43) :: r), (l.h, (l.i, l.s))) := fun r => by
    have o58 : ∀ r, oneX 58 (.good (58 :: r)) = true := fun r => by simp [oneX, X.rest]
    have t58 : ∀ r, takeX 1 (.good ((58 : Int) :: r)) = .good r := fun r => by simp [takeX]
    simp only [clkX, secX, fig_d n l.h.toNat 2 2 _ (by omega) (by omega) rfl, fig_d n l.i.toNat 2 2 _ (by omega) (by omega) rfl, fig_d n l.s.toNat 2 2 _ (by omega) (by omega) rfl, gap0 n q58.1 q58.2, must1, gap0d n l.i.toNat 1, gap0d n l.s.toNat 1, o58, t58, if_true, gap1 n hsg.1 hsg.2]
    congr 2
    · omega
    · congr 1
      · omega
      · omega
  have s5 : zonX n (.good ((if l.o < 0 then (45 : Int) else 43) :: (dgs (l.o.natAbs / 60) 2 ++ dgs (l.o.natAbs % 60) 2))) = (.good [], (l.o, true)) := by
    obtain ⟨g1, g2⟩ := sgn (l.o.natAbs / 60) (l.o.natAbs % 60) (by omega) (by omega)
    by_cases c : l.o < 0
    · rw [if_pos c]
      have o1 : ∀ r, oneX 45 (.good (45 :: r)) = true := fun r => by simp [oneX, X.rest]
      have o2 : ∀ r, takeX 1 (.good ((45 : Int) :: r)) = .good r := fun r => by simp [takeX]
      simp only [zonX, o1, o2, if_true, numZ, g1, g2]
      have k1 : (-(((l.o.natAbs / 60 : Nat) : Int) * 60 + ((l.o.natAbs % 60 : Nat) : Int))) = l.o := by omega
      have k2 : (((l.o.natAbs / 60 : Nat) : Int) < 24 ∧ ((l.o.natAbs % 60 : Nat) : Int) < 60) := by omega
      rw [k1, decide_eq_true k2]
    · rw [if_neg c]
      have o1 : ∀ r, oneX 43 (.good (43 :: r)) = true := fun r => by simp [oneX, X.rest]
      have o3 : ∀ r, oneX 45 (.good (43 :: r)) = false := fun r => by simp [oneX, X.rest]
      have o2 : ∀ r, takeX 1 (.good ((43 : Int) :: r)) = .good r := fun r => by simp [takeX]
      simp only [zonX, o1, o2, o3, if_true, Bool.false_eq_true, if_false, numZ, g1, g2]
      have k1 : (((l.o.natAbs / 60 : Nat) : Int) * 60 + ((l.o.natAbs % 60 : Nat) : Int)) = l.o := by omega
      have k2 : (((l.o.natAbs / 60 : Nat) : Int) < 24 ∧ ((l.o.natAbs % 60 : Nat) : Int) < 60) := by omega
      rw [k1, decide_eq_true k2]
  simp only [mpX, s0, s1, s3, gap1d n l.h.toNat 1, if_true, s4, s5, gapE]
theorem mail_forth_parse {l : Lab} (h : putE25 l = 0) : g_mail_Parse ((), ((strOf (mailL l), ()), ())) = some ((), (l.t, ((none, ()), ()))) := by
  obtain ⟨h1, h2, h3⟩ := putE25_zero h
  have hb := by_str (mailL_by h)
  have hX := mail_forth h
  have hsz : (mailL l).length ≤ 1000 := by
    obtain ⟨d1, d2, d3, d4⟩ := labErr_zero h1
    have hz := dErr_zero.1 d1
    have hwd := wdN_range (dnum l.y l.m l.d)
    have hwl := wkN_len (i := (wdN (dnum l.y l.m l.d)).toNat) (by omega) (by omega)
    have hmol := moN_len (i := l.m.toNat) (by omega) (by omega)
    unfold mailL
    simp only [List.length_append, List.length_cons, List.length_nil, hwl, hmol, dgs_len]; omega
  have hp := mail_parse (strOf (mailL l)) (by rw [str_size]; omega)
  rw [hb, str_size, hX] at hp
  have hlab : MP.lab ⟨wdN (dnum l.y l.m l.d), l.y, l.m, l.d, l.h, l.i, l.s, l.o, true, .good []⟩ = l := by
    unfold MP.lab
    simp only [← h3]
  have he : MP.err ⟨wdN (dnum l.y l.m l.d), l.y, l.m, l.d, l.h, l.i, l.s, l.o, true, .good []⟩ = 0 := by
    unfold MP.err
    rw [hlab]
    simp only [X.end, if_true, ne_eq, not_true_eq_false, if_false, h1, and_false]
    rw [if_neg (by simp), if_neg (by omega)]
  rw [he, if_pos rfl, hlab] at hp
  exact hp
/-- What is read can be put. -/
theorem mail_read (s : ByteArray) (hs : s.size ≤ 1000000) : (∃ e : Int, e ≠ 0 ∧ g_mail_Parse ((), ((s, ()), ())) = some ((), (zlm, ((errOf e, ()), ())))) ∨ (∃ l : Lab, putE25 l = 0 ∧ g_mail_Parse ((), ((s, ()), ())) = some ((), (l.t, ((none, ()), ())))) := by
  have hp := mail_parse s hs
  by_cases c : (mpX s.size (bytesOf s)).err = 0
  · rw [c, if_pos rfl] at hp
    refine Or.inr ⟨_, ?_, hp⟩
    generalize mpX s.size (bytesOf s) = P at c
    unfold MP.err at c
    by_cases c1 : P.e.end = none
    · rw [if_neg (not_not_intro c1)] at c
      by_cases c2 : P.ok = false
      · rw [if_pos c2] at c; cases c
      · rw [if_neg c2] at c
        by_cases c3 : P.y < 1900
        · rw [if_pos c3] at c; cases c
        · rw [if_neg c3] at c
          by_cases c4 : labErr P.lab = 0
          · unfold putE25
            rw [if_neg (not_not_intro c4), if_neg (show ¬ P.lab.y < 1900 from c3), if_neg (show ¬ P.lab.n ≠ 0 by simp [MP.lab])]
          · rw [if_pos c4] at c; exact absurd c c4
    · rw [if_pos c1] at c; cases c
  · rw [if_neg c] at hp
    exact Or.inl ⟨_, c, hp⟩
end Go.Proofs.YtddnfappkfiidaaGreat.Ev
