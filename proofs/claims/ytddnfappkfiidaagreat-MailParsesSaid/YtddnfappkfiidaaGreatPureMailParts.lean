/- The law MailParts, plain. -/
import Derived.Test.YtddnfappkfiidaaGreatPureMailPuts
namespace Go.Proofs.YtddnfappkfiidaaGreat.Ev
open Go
set_option linter.unusedVariables false
set_option linter.unusedSimpArgs false
/-! ### names -/
theorem name_out (T : ByteArray) (m : Nat) (hT : T.size = 3 * m) (hm : m ≤ 100) (i : Int) (h : i < 1 ∨ (m : Int) < i) : g_mail_name ((), ((T, ()), ((i, ()), ()))) = some ((), ((strOf [], ()), ())) := by
  have q3 : iquo .i64 (T.size : Int) 3 = (m : Int) := by rw [hT, iquo_nn (by decide) (by omega)]; omega
  simp only [g_mail_name, f_mail_name_m, fitsS_dec, Option.bind_some, Option.isNone_none, Option.isNone_some, Option.isSome_none, Option.isSome_some, Bool.not_true, Bool.not_false, cond_true, cond_false, cond_dec, beq_int, bne_int, not_dec, q3, sc_nil, gt_iff_lt]
  by_cases c : i < 1
  · rw [if_pos c]
  · rw [if_neg c, if_pos (by omega)]
theorem both_wk (i : Int) : ∃ t, g_mail_Weekday ((), ((i, ()), ())) = some ((), ((t, ()), ())) ∧ g_ref25_Weekday ((), ((i, ()), ())) = some ((), ((t, ()), ())) := by
  by_cases h : 1 ≤ i ∧ i ≤ 7
  · have h1 := wk_name i.toNat (by omega) (by omega)
    have h2 := ref25_wk i.toNat (by omega) (by omega)
    rw [show ((i.toNat : Nat) : Int) = i by omega] at h1 h2
    exact ⟨_, by simp only [g_mail_Weekday, f_mail_Weekday_m, h1.1, Option.bind_some], h2⟩
  · have h1 := name_out wkT 7 rfl (by decide) i (by omega)
    refine ⟨strOf [], by simp only [g_mail_Weekday, f_mail_Weekday_m, h1, Option.bind_some], ?_⟩
    simp only [g_ref25_Weekday, f_ref25_Weekday_m, fitsS_dec, Option.bind_some, Option.isNone_none, Option.isNone_some, Option.isSome_none, Option.isSome_some, Bool.not_true, Bool.not_false, cond_true, cond_false, cond_dec, beq_int, bne_int, not_dec, sc_nil, gt_iff_lt]
    by_cases c : i < 1
    · rw [if_pos c]
    · rw [if_neg c, if_pos (by omega)]
theorem both_mo (i : Int) : ∃ t, g_mail_Month ((), ((i, ()), ())) = some ((), ((t, ()), ())) ∧ g_ref25_Month ((), ((i, ()), ())) = some ((), ((t, ()), ())) := by
  by_cases h : 1 ≤ i ∧ i ≤ 12
  · have h1 := mo_name i.toNat (by omega) (by omega)
    have h2 := ref25_mo i.toNat (by omega) (by omega)
    rw [show ((i.toNat : Nat) : Int) = i by omega] at h1 h2
    exact ⟨_, by simp only [g_mail_Month, f_mail_Month_m, h1.1, Option.bind_some], h2⟩
  · have h1 := name_out moT 12 rfl (by decide) i (by omega)
    refine ⟨strOf [], by simp only [g_mail_Month, f_mail_Month_m, h1, Option.bind_some], ?_⟩
    simp only [g_ref25_Month, f_ref25_Month_m, fitsS_dec, Option.bind_some, Option.isNone_none, Option.isNone_some, Option.isSome_none, Option.isSome_some, Bool.not_true, Bool.not_false, cond_true, cond_false, cond_dec, beq_int, bne_int, not_dec, sc_nil, gt_iff_lt]
    by_cases c : i < 1
    · rw [if_pos c]
    · rw [if_neg c, if_pos (by omega)]
/-! ### the reference's remarks and gaps -/
theorem rdrop {s : ByteArray} {i : Nat} {l r p : List Int} (h : (bytesOf s).drop i = l) (hi : i ≤ s.size) (hp : l = p ++ r) : (bytesOf s).drop (s.size - r.length) = r ∧ s.size - r.length = i + p.length ∧ r.length ≤ s.size := by
  have hl := congrArg List.length h
  rw [List.length_drop, by_len, hp, List.length_append] at hl
  have e : s.size - r.length = i + p.length := by omega
  refine ⟨?_, e, by omega⟩
  rw [e, ← List.drop_drop, h, hp, List.drop_left]
/-- The fuel of the reference's remark is its depth. -/
theorem ref25_rem (s : ByteArray) (hs : s.size ≤ 1000000) : ∀ (n : Nat) (i : Nat) (l : List Int), l.length ≤ n → (bytesOf s).drop i = 40 :: l → ∀ k, n + 1 ≤ k → r_ref25_Remark k ((), ((s, ()), (((i : Int), ()), ()))) = some ((), ((posO s.size (rmk 1 l), ()), ())) := by
  intro n
  induction n using Nat.strongRecOn with
  | ind n IH =>
    intro i l hn hd k hk
    obtain ⟨k, rfl⟩ : ∃ j, k = j + 1 := ⟨k - 1, by omega⟩
    obtain ⟨a1, a2, a3, a4⟩ := rest_at hd
    have loop : ∀ (m : Nat) (l' : List Int) (j : Nat), l'.length ≤ m → l'.length ≤ l.length → j ≤ s.size → (bytesOf s).drop j = l' → Evn (fun f => (f_ref25_Remark_t (r_ref25_Remark k) f).1 ((), ((s, ()), (((j : Int), ()), ())))) ((), ((posO s.size (rmk 1 l'), ()), ())) := by
      intro m
      induction m using Nat.strongRecOn with
      | ind m ih =>
        intro l' j hm hll hj hl'
        cases l' with
        | nil =>
          have := rest_end hj hl'
          refine Evn.some 1 fun f => ?_
          simp only [t_ref25_Remark, f_ref25_Remark_p3, fitsS_dec, Option.bind_some, Option.isNone_none, Option.isNone_some, Option.isSome_none, Option.isSome_some, Bool.not_true, Bool.not_false, cond_true, cond_false, cond_dec, beq_int, bne_int, not_dec, rmk, posO]
          rw [if_neg (by omega)]
        | cons x r =>
          obtain ⟨b1, b2, b3, b4⟩ := rest_at hl'
          simp only [List.length_cons] at hm hll
          have hbt := by_at s (i := (j : Int)) (by omega) (by omega)
          rw [Int.toNat_natCast, b2] at hbt
          have e1 : iadd .i64 (j : Int) 1 = ((j + 1 : Nat) : Int) := by rw [iadd_i64 (by omega)]; rfl
          have e2 : iadd .i64 ((j + 1 : Nat) : Int) 1 = ((j + 2 : Nat) : Int) := by rw [iadd_i64 (by omega)]; omega
          have hin : (0 : Int) ≤ (j : Int) ∧ (j : Int) < (s.size : Int) := by omega
          unfold rmk
          by_cases c3 : x = 41
          · subst c3
            refine Evn.some 1 fun f => ?_
            simp only [t_ref25_Remark, f_ref25_Remark_p3, hbt, e1, fitsS_dec, Option.bind_some, Option.isNone_none, Option.isNone_some, Option.isSome_none, Option.isSome_some, Bool.not_true, Bool.not_false, cond_true, cond_false, cond_dec, beq_int, bne_int, not_dec, and_dec, hin, and_self, if_true]
            rw [if_neg (by decide), if_neg (by decide)]
            simp only [posO]
            congr 4; omega
          · by_cases c2 : x = 40
            · subst c2
              rw [if_neg (by decide), if_pos rfl]
              have hsp := rmk_split r.length 1 r (Nat.le_refl _) (Nat.le_refl _) 1 (Nat.le_refl _)
              rw [hsp]
              have hG := IH r.length (by omega) j r (Nat.le_refl _) hl' k (by omega)
              cases hr : rmk 1 r with
              | none =>
                rw [hr] at hG
                refine Evn.some 1 fun f => ?_
                simp only [t_ref25_Remark, f_ref25_Remark_p3, hbt, hG, fitsS_dec, Option.bind_some, Option.isNone_none, Option.isNone_some, Option.isSome_none, Option.isSome_some, Bool.not_true, Bool.not_false, cond_true, cond_false, cond_dec, beq_int, bne_int, not_dec, and_dec, hin, and_self, if_true, posO, Option.bind_none]
                rw [if_neg (by decide), if_pos (by decide)]
              | some q =>
                rw [hr] at hG
                obtain ⟨p, hp, hp2⟩ := rmk_cut r.length 1 r q (Nat.le_refl _) hr
                have hql : q.length < r.length := by
                  have := congrArg List.length hp
                  rw [List.length_append] at this
                  have : 0 < p.length := List.length_pos_iff.2 hp2
                  omega
                obtain ⟨g1, g2, g3⟩ := rdrop b3 (by omega) hp
                refine (ih q.length (by omega) q (s.size - q.length) (Nat.le_refl _) (by omega) (by omega) g1).step fun f => ?_
                simp only [t_ref25_Remark, f_ref25_Remark_p3, hbt, hG, fitsS_dec, Option.bind_some, Option.isNone_none, Option.isNone_some, Option.isSome_none, Option.isSome_some, Bool.not_true, Bool.not_false, cond_true, cond_false, cond_dec, beq_int, bne_int, not_dec, and_dec, hin, and_self, if_true, posO]
                rw [if_neg (by decide), if_neg (by omega)]
            · by_cases c1 : x = 92
              · subst c1
                rw [if_pos rfl]
                cases r with
                | nil =>
                  have b5 := rest_end (by omega) b3
                  refine Evn.some 2 fun f => ?_
                  simp only [t_ref25_Remark, f_ref25_Remark_p3, hbt, e1, e2, fitsS_dec, Option.bind_some, Option.isNone_none, Option.isNone_some, Option.isSome_none, Option.isSome_some, Bool.not_true, Bool.not_false, cond_true, cond_false, cond_dec, beq_int, bne_int, not_dec, and_dec, hin, and_self, if_true]
                  rw [if_neg (by decide), if_neg (by decide), if_neg (by omega)]; rfl
                | cons y r =>
                  obtain ⟨b5, b6, b7, b8⟩ := rest_at b3
                  simp only [List.length_cons] at hm hll
                  refine (ih r.length (by omega) r (j + 2) (Nat.le_refl _) (by omega) (by omega) b7).step fun f => ?_
                  simp only [t_ref25_Remark, f_ref25_Remark_p3, hbt, e1, e2, fitsS_dec, Option.bind_some, Option.isNone_none, Option.isNone_some, Option.isSome_none, Option.isSome_some, Bool.not_true, Bool.not_false, cond_true, cond_false, cond_dec, beq_int, bne_int, not_dec, and_dec, hin, and_self, if_true]
                  rw [if_neg (by decide), if_neg (by decide)]
              · rw [if_neg c1, if_neg c2, if_neg c3]
                refine (ih r.length (by omega) r (j + 1) (Nat.le_refl _) (by omega) (by omega) b3).step fun f => ?_
                simp only [t_ref25_Remark, f_ref25_Remark_p3, hbt, e1, fitsS_dec, Option.bind_some, Option.isNone_none, Option.isNone_some, Option.isSome_none, Option.isSome_some, Bool.not_true, Bool.not_false, cond_true, cond_false, cond_dec, beq_int, bne_int, not_dec, and_dec, hin, and_self, if_true]
                rw [if_neg c3, if_neg c2, if_neg c1]
    have e1 : iadd .i64 (i : Int) 1 = ((i + 1 : Nat) : Int) := by rw [iadd_i64 (by omega)]; rfl
    have := loop l.length l (i + 1) (Nat.le_refl _) (Nat.le_refl _) (by omega) a3
    show (lim fun f => f_ref25_Remark_m (r_ref25_Remark k) (f_ref25_Remark_t (r_ref25_Remark k) f) _) = _
    refine (this.cast fun f => ?_).lim
    simp only [f_ref25_Remark_m, e1]
theorem ref25_remark (s : ByteArray) (hs : s.size ≤ 1000000) {i : Nat} {l : List Int} (h : (bytesOf s).drop i = 40 :: l) : g_ref25_Remark ((), ((s, ()), (((i : Int), ()), ()))) = some ((), ((posO s.size (rmk 1 l), ()), ())) := by
  refine (Evn.some (F := fun k => r_ref25_Remark k ((), ((s, ()), (((i : Int), ()), ())))) (l.length + 1) fun k => ?_).lim
  exact ref25_rem s hs l.length i l (Nat.le_refl _) h _ (by omega)
theorem rgap_p5 (s : ByteArray) (hs : s.size ≤ 1000000) : ∀ (n : Nat) (l : List Int) (i : Nat), l.length ≤ n → i ≤ s.size → (bytesOf s).drop i = l →
    Evn (fun f => (f_ref25_Gap_t f).1 ((), ((s, ()), (((i : Int), ()), ())))) ((), ((posO s.size (gp l), ()), ())) := by
  have nil : ∀ i : Nat, i = s.size → Evn (fun f => (f_ref25_Gap_t f).1 ((), ((s, ()), (((i : Int), ()), ())))) ((), ((posO s.size (gp []), ()), ())) := fun i hi => by
    refine Evn.some 1 fun f => ?_
    simp only [t_ref25_Gap, f_ref25_Gap_p5, fitsS_dec, Option.bind_some, Option.isNone_none, Option.isNone_some, Option.isSome_none, Option.isSome_some, Bool.not_true, Bool.not_false, cond_true, cond_false, cond_dec, beq_int, bne_int, not_dec, gp_nil, posO, List.length_nil]
    rw [if_neg (by omega)]
    congr 4; omega
  intro n; induction n with
  | zero =>
    intro l i hn hi hl
    have : l = [] := List.length_eq_zero_iff.1 (by omega)
    subst this
    exact nil i (rest_end hi hl)
  | succ n ih =>
    intro l i hn hi hl
    cases l with
    | nil => exact nil i (rest_end hi hl)
    | cons x l =>
      obtain ⟨k1, k2, k3, k4⟩ := rest_at hl
      simp only [List.length_cons] at hn
      have hbt := by_at s (i := (i : Int)) (by omega) (by omega)
      rw [Int.toNat_natCast, k2] at hbt
      have e1 : iadd .i64 (i : Int) 1 = ((i + 1 : Nat) : Int) := by rw [iadd_i64 (by omega)]; rfl
      have hin : (0 : Int) ≤ (i : Int) ∧ (i : Int) < (s.size : Int) := by omega
      by_cases c2 : x = 40
      · subst c2
        have hrm := ref25_remark s hs hl
        rw [gp_rem]
        cases hr : rmk 1 l with
        | none =>
          rw [hr] at hrm
          refine Evn.some 1 fun f => ?_
          simp only [t_ref25_Gap, f_ref25_Gap_p5, hbt, hrm, fitsS_dec, Option.bind_some, Option.isNone_none, Option.isNone_some, Option.isSome_none, Option.isSome_some, Bool.not_true, Bool.not_false, cond_true, cond_false, cond_dec, beq_int, bne_int, not_dec, and_dec, hin, and_self, if_true, posO]
          rw [if_pos (by decide)]
        | some r =>
          rw [hr] at hrm
          obtain ⟨p, hp, hp2⟩ := rmk_cut l.length 1 l r (Nat.le_refl _) hr
          obtain ⟨g1, g2, g3⟩ := rdrop k3 (by omega) hp
          have hll : l.length = p.length + r.length := by rw [hp, List.length_append]
          refine (ih r (s.size - r.length) (by omega) (by omega) g1).step fun f => ?_
          simp only [t_ref25_Gap, f_ref25_Gap_p5, hbt, hrm, fitsS_dec, Option.bind_some, Option.isNone_none, Option.isNone_some, Option.isSome_none, Option.isSome_some, Bool.not_true, Bool.not_false, cond_true, cond_false, cond_dec, beq_int, bne_int, not_dec, and_dec, hin, and_self, if_true, posO]
          rw [if_neg (by omega)]
      · by_cases c1 : spc x
        · rw [gp_spc c1]
          refine (ih l (i + 1) (by omega) (by omega) k3).step fun f => ?_
          simp only [t_ref25_Gap, f_ref25_Gap_p5, hbt, e1, fitsS_dec, Option.bind_some, Option.isNone_none, Option.isNone_some, Option.isSome_none, Option.isSome_some, Bool.not_true, Bool.not_false, cond_true, cond_false, cond_dec, beq_int, bne_int, not_dec, and_dec, hin, and_self, if_true, c2, if_false]
          unfold spc at c1
          by_cases q1 : x = 32
          · rw [if_pos q1]
          · rw [if_neg q1]
            by_cases q2 : x = 9
            · rw [if_pos q2]
            · rw [if_neg q2]
              by_cases q3 : x = 13
              · rw [if_pos q3]
              · rw [if_neg q3, if_pos (by omega)]
        · rw [gp_no c1 c2]
          unfold spc at c1
          refine Evn.some 1 fun f => ?_
          simp only [t_ref25_Gap, f_ref25_Gap_p5, hbt, e1, fitsS_dec, Option.bind_some, Option.isNone_none, Option.isNone_some, Option.isSome_none, Option.isSome_some, Bool.not_true, Bool.not_false, cond_true, cond_false, cond_dec, beq_int, bne_int, not_dec, and_dec, hin, and_self, if_true, c2, if_false, posO, List.length_cons]
          rw [if_neg (by omega), if_neg (by omega), if_neg (by omega), if_neg (by omega)]
          congr 4; omega
theorem both_gap (s : ByteArray) (hs : s.size ≤ 1000000) (i : Int) : ∃ v : Int, g_mail_Gap ((), ((s, ()), ((i, ()), ()))) = some ((), ((v, ()), ())) ∧ g_ref25_Gap ((), ((s, ()), ((i, ()), ()))) = some ((), ((v, ()), ())) := by
  by_cases h : 0 ≤ i ∧ i ≤ s.size
  · have h1 := mail_gap s hs i.toNat (by omega)
    rw [show ((i.toNat : Nat) : Int) = i by omega] at h1
    refine ⟨_, h1, ?_⟩
    have h2 := rgap_p5 s hs _ _ i.toNat (Nat.le_refl _) (by omega) rfl
    rw [show ((i.toNat : Nat) : Int) = i by omega] at h2
    refine (h2.cast fun f => ?_).lim
    simp only [f_ref25_Gap_m, fitsS_dec, Option.bind_some, Option.isNone_none, Option.isNone_some, Option.isSome_none, Option.isSome_some, Bool.not_true, Bool.not_false, cond_true, cond_false, cond_dec, beq_int, bne_int, not_dec, gt_iff_lt]
    rw [if_neg (by omega), if_neg (by omega)]
  · refine ⟨i, mail_gap_out s i (by omega), ?_⟩
    refine (Evn.const (F := fun f => f_ref25_Gap_m (f_ref25_Gap_t f) ((), ((s, ()), ((i, ()), ())))) fun f => ?_).lim
    simp only [f_ref25_Gap_m, fitsS_dec, Option.bind_some, Option.isNone_none, Option.isNone_some, Option.isSome_none, Option.isSome_some, Bool.not_true, Bool.not_false, cond_true, cond_false, cond_dec, beq_int, bne_int, not_dec, gt_iff_lt]
    by_cases c : i < 0
    · rw [if_pos c]
    · rw [if_neg c, if_pos (by omega)]
/-! ### zones -/
theorem rgreat_p4 (m : Nat) (hm : m ≤ 1000000) : ∀ (Q P : List Int), okBy Q → P.length + Q.length = m →
    Evn (fun f => (f_ref25_great_t f).1 ((P.map up ++ Q, ()), ((), (((P.length : Int), ()), ())))) ((), ((strOf ((P ++ Q).map up), ()), ())) := by
  intro Q; induction Q with
  | nil =>
    intro P ho hl
    simp only [List.length_nil, Nat.add_zero] at hl
    refine Evn.some 1 fun f => ?_
    simp only [t_ref25_great, f_ref25_great_p4, fitsS_dec, Option.bind_some, Option.isNone_none, Option.isNone_some, Option.isSome_none, Option.isSome_some, Bool.not_true, Bool.not_false, cond_true, cond_false, cond_dec, beq_int, bne_int, not_dec, List.append_nil, List.length_map]
    rw [if_neg (by omega)]
  | cons x Q ih =>
    intro P ho hl
    simp only [List.length_cons] at hl
    have hx := ho x List.mem_cons_self
    have ih' := ih (P ++ [x]) (fun y hy => ho y (List.mem_cons_of_mem _ hy)) (by rw [List.length_append, List.length_singleton]; omega)
    simp only [List.append_assoc, List.singleton_append, List.map_append, List.map_cons, List.map_nil] at ih'
    rw [List.map_append, List.map_cons]
    refine ih'.step fun f => ?_
    have hg : gd (.int .u8) (P.map up ++ x :: Q) (P.length : Int) = x := by
      rw [gd_u8, Int.toNat_natCast]
      have := get_mid (P.map up) Q x
      rw [List.length_map] at this; exact this
    have hs : (P.map up ++ x :: Q).set P.length (up x) = P.map up ++ up x :: Q := by
      have := set_mid (P.map up) Q x (up x)
      rw [List.length_map] at this; exact this
    have hl2 : (P.map up ++ x :: Q).length = m := by rw [List.length_append, List.length_map, List.length_cons]; omega
    have hn : ((P ++ [x]).length : Int) = (P.length : Int) + 1 := by rw [List.length_append]; rfl
    simp only [t_ref25_great, f_ref25_great_p4, hg, hl2, fitsS_dec, Option.bind_some, Option.isNone_none, Option.isNone_some, Option.isSome_none, Option.isSome_some, Bool.not_true, Bool.not_false, cond_true, cond_false, cond_dec, beq_int, bne_int, not_dec, and_dec, ge_iff_le, Int.toNat_natCast]
    rw [if_pos (by omega), if_pos (by omega)]
    have e1 : iadd .i64 (P.length : Int) 1 = (P.length : Int) + 1 := iadd_i64 (by omega)
    rw [hn]
    by_cases c1 : 97 ≤ x
    · rw [if_pos c1, if_pos (by omega)]
      by_cases c2 : x ≤ 122
      · have u1 : isub .u8 x 32 = x - 32 := by unfold isub; rw [wrap_u8]; omega
        have hu : up x = x - 32 := if_pos ⟨c1, c2⟩
        rw [hu] at hs ⊢
        rw [if_pos c2, if_pos (by omega), if_pos (by omega), u1, hs, e1]
      · have hu : up x = x := if_neg (fun q => c2 q.2)
        rw [if_neg c2, e1, hu]
    · have hu : up x = x := if_neg (fun q => c1 q.1)
      rw [if_neg c1, e1, hu]
theorem ref25_great (l : List Int) (ho : okBy l) (hl : l.length ≤ 1000000) : g_ref25_great ((), ((strOf l, ()), ())) = some ((), ((strOf (l.map up), ()), ())) := by
  have := rgreat_p4 l.length hl l [] ho (by simp)
  refine (this.cast fun f => ?_).lim
  simp only [f_ref25_great_m, str_size, by_str ho, cond_dec]
  rw [if_pos (by omega)]; rfl
@[reducible] def zNames : List ByteArray := [⟨#[85, 84]⟩, ⟨#[71, 77, 84]⟩, ⟨#[69, 83, 84]⟩, ⟨#[69, 68, 84]⟩, ⟨#[67, 83, 84]⟩, ⟨#[67, 68, 84]⟩, ⟨#[77, 83, 84]⟩, ⟨#[77, 68, 84]⟩, ⟨#[80, 83, 84]⟩, ⟨#[80, 68, 84]⟩]
@[reducible] def zHours : List Int := [0, 0, -5, -4, -6, -5, -7, -6, -8, -7]
@[reducible] def zL : List (List Int) := [[85, 84], [71, 77, 84], [69, 83, 84], [69, 68, 84], [67, 83, 84], [67, 68, 84], [77, 83, 84], [77, 68, 84], [80, 83, 84], [80, 68, 84]]
theorem z_name : ∀ i : Nat, i < 10 → gd .str zNames (i : Int) = strOf (zL.getD i []) ∧ okBy (zL.getD i []) ∧ gd (.int .i64) zHours (i : Int) = zHours.getD i 0 ∧ imul .i64 (zHours.getD i 0) 60 = zHours.getD i 0 * 60
  | 0, _ => ⟨by kernel_rfl, by unfold okBy; decide, rfl, by kernel_rfl⟩
  | 1, _ => ⟨by kernel_rfl, by unfold okBy; decide, rfl, by kernel_rfl⟩
  | 2, _ => ⟨by kernel_rfl, by unfold okBy; decide, rfl, by kernel_rfl⟩
  | 3, _ => ⟨by kernel_rfl, by unfold okBy; decide, rfl, by kernel_rfl⟩
  | 4, _ => ⟨by kernel_rfl, by unfold okBy; decide, rfl, by kernel_rfl⟩
  | 5, _ => ⟨by kernel_rfl, by unfold okBy; decide, rfl, by kernel_rfl⟩
  | 6, _ => ⟨by kernel_rfl, by unfold okBy; decide, rfl, by kernel_rfl⟩
  | 7, _ => ⟨by kernel_rfl, by unfold okBy; decide, rfl, by kernel_rfl⟩
  | 8, _ => ⟨by kernel_rfl, by unfold okBy; decide, rfl, by kernel_rfl⟩
  | 9, _ => ⟨by kernel_rfl, by unfold okBy; decide, rfl, by kernel_rfl⟩
  | (n + 10), h => absurd h (by omega)
/-- What the list of names tells from the i-th on. -/
def zFind (u : List Int) : Nat → Nat → Int × Bool
  | 0, _ => (0, false)
  | k + 1, i => if u = zL.getD i [] then (zHours.getD i 0 * 60, true) else zFind u k (i + 1)
theorem zfind_p8 (l : List Int) (ho : okBy l) (hl : l.length ≤ 1000000) : ∀ (k i : Nat), i + k = 10 → Evn (fun f => (f_ref25_Zone_t f).1 ((zNames, (zHours, ())), ((strOf l, ()), ((), ((), (((i : Int), ()), ())))))) ((), (((zFind (l.map up) k i).1, ()), (((zFind (l.map up) k i).2, ()), ()))) := by
  have hg := ref25_great l ho hl
  have hu := up_by ho
  have hn : (zNames.length : Int) = 10 := rfl
  have hh : (zHours.length : Int) = 10 := rfl
  intro k; induction k with
  | zero =>
    intro i hi
    refine Evn.some 1 fun f => ?_
    simp only [t_ref25_Zone, f_ref25_Zone_p8, hn, fitsS_dec, Option.bind_some, Option.isNone_none, Option.isNone_some, Option.isSome_none, Option.isSome_some, Bool.not_true, Bool.not_false, cond_true, cond_false, cond_dec, beq_int, bne_int, not_dec, zFind]
    rw [if_neg (by omega)]
  | succ k ih =>
    intro i hi
    obtain ⟨z1, z2, z3, z4⟩ := z_name i (by omega)
    have hq := zo_lit hu z2
    have e1 : iadd .i64 (i : Int) 1 = ((i + 1 : Nat) : Int) := by rw [iadd_i64 (by omega)]; rfl
    unfold zFind
    by_cases c : l.map up = zL.getD i []
    · rw [if_pos c]
      refine Evn.some 1 fun f => ?_
      simp only [t_ref25_Zone, f_ref25_Zone_p8, hn, hh, hg, z1, z3, z4, hq, fitsS_dec, Option.bind_some, Option.isNone_none, Option.isNone_some, Option.isSome_none, Option.isSome_some, Bool.not_true, Bool.not_false, cond_true, cond_false, cond_dec, beq_int, bne_int, not_dec, and_dec]
      rw [if_pos (by omega), if_pos (by omega), if_pos c, if_pos (by omega)]
    · rw [if_neg c]
      refine (ih (i + 1) (by omega)).step fun f => ?_
      simp only [t_ref25_Zone, f_ref25_Zone_p8, hn, hh, hg, z1, z3, z4, hq, e1, fitsS_dec, Option.bind_some, Option.isNone_none, Option.isNone_some, Option.isSome_none, Option.isSome_some, Bool.not_true, Bool.not_false, cond_true, cond_false, cond_dec, beq_int, bne_int, not_dec, and_dec]
      rw [if_pos (by omega), if_pos (by omega), if_neg c]
theorem zfind_zoV (u : List Int) (h : u.length ≠ 1) : zFind u 10 0 = zoV u := by
  have e74 : u ≠ [74] := by intro q; rw [q] at h; exact h rfl
  simp only [zFind, zoV, zL, zHours, List.getD_cons_zero, List.getD_cons_succ, Nat.reduceAdd, if_neg e74, if_neg h]
  by_cases c1 : u = [85, 84]
  · rw [if_pos c1, if_pos c1]; rfl
  by_cases c2 : u = [71, 77, 84]
  · rw [if_neg c1, if_neg c1, if_pos c2, if_pos c2]; rfl
  by_cases c3 : u = [69, 83, 84]
  · subst c3; decide
  by_cases c4 : u = [69, 68, 84]
  · subst c4; decide
  by_cases c5 : u = [67, 83, 84]
  · subst c5; decide
  by_cases c6 : u = [67, 68, 84]
  · subst c6; decide
  by_cases c7 : u = [77, 83, 84]
  · subst c7; decide
  by_cases c8 : u = [77, 68, 84]
  · subst c8; decide
  by_cases c9 : u = [80, 83, 84]
  · subst c9; decide
  by_cases c10 : u = [80, 68, 84]
  · subst c10; decide
  simp only [c1, c2, c3, c4, c5, c6, c7, c8, c9, c10, if_false]
theorem ref25_letter (x : Int) : g_ref25_letter ((), ((x, ()), ())) = some ((), ((decide ((65 ≤ x ∧ x ≤ 90) ∨ (97 ≤ x ∧ x ≤ 122)), ()), ())) := by
  simp only [g_ref25_letter, f_ref25_letter_m, fitsS_dec, Option.bind_some, Option.isNone_none, Option.isNone_some, Option.isSome_none, Option.isSome_some, Bool.not_true, Bool.not_false, cond_true, cond_false, cond_dec, beq_int, bne_int, not_dec, ge_iff_le]
  by_cases c1 : 65 ≤ x
  · rw [if_pos c1]
    by_cases c2 : x ≤ 90
    · rw [if_pos c2, decide_eq_true (Or.inl ⟨c1, c2⟩)]
    · rw [if_neg c2]
      by_cases c3 : 97 ≤ x
      · rw [if_pos c3]; congr 4; rw [decide_eq_decide]; omega
      · rw [if_neg c3, decide_eq_false (by omega)]
  · rw [if_neg c1]
    by_cases c3 : 97 ≤ x
    · omega
    · rw [if_neg c3, decide_eq_false (by omega)]
theorem ref25_zone (l : List Int) (ho : okBy l) (hl : l.length ≤ 1000000) : g_ref25_Zone ((), ((strOf l, ()), ())) = some ((), (((zoV (l.map up)).1, ()), (((zoV (l.map up)).2, ()), ()))) := by
  by_cases c : l.length = 1
  · obtain ⟨x, rfl⟩ : ∃ x, l = [x] := by
      match l, c with
      | [x], _ => exact ⟨x, rfl⟩
    have hb := by_at (strOf [x]) (i := 0) (by omega) (by rw [str_size]; simp)
    rw [by_str ho] at hb
    have hb' : bt (strOf [x]) 0 = x := hb
    refine (Evn.const (F := fun f => f_ref25_Zone_m (f_ref25_Zone_t f) ((), ((strOf [x], ()), ()))) fun f => ?_).lim
    have h1 : (([x] : List Int).length : Int) = 1 := rfl
    simp only [f_ref25_Zone_m, str_size, h1, hb', ref25_letter, fitsS_dec, Option.bind_some, Option.isNone_none, Option.isNone_some, Option.isSome_none, Option.isSome_some, Bool.not_true, Bool.not_false, cond_true, cond_false, cond_dec, beq_int, bne_int, not_dec, and_dec]
    have h01 : (0 : Int) ≤ 0 ∧ (0 : Int) < 1 := by decide
    simp only [h01, and_self, if_true]
    have hz : zoV ([x].map up) = if up x = 74 then (0, false) else (0, decide (65 ≤ up x ∧ up x ≤ 90)) := by
      simp [zoV]
    rw [hz]
    unfold up
    by_cases q : (65 ≤ x ∧ x ≤ 90) ∨ (97 ≤ x ∧ x ≤ 122)
    · rw [if_pos q]
      by_cases q1 : x = 74
      · subst q1; simp
      · rw [if_pos q1]
        by_cases q2 : x = 106
        · subst q2; simp
        · by_cases q3 : 97 ≤ x ∧ x ≤ 122
          · rw [if_pos q3, if_neg (show ¬(x - 32 = 74) by omega), decide_eq_true (show x ≠ 106 from q2), decide_eq_true (show 65 ≤ x - 32 ∧ x - 32 ≤ 90 by omega)]
          · rw [if_neg q3, if_neg q1, decide_eq_true (show x ≠ 106 from q2), decide_eq_true (show 65 ≤ x ∧ x ≤ 90 by omega)]
    · rw [if_neg q, if_neg (show ¬(97 ≤ x ∧ x ≤ 122) from fun h => q (Or.inr h)), if_neg (show ¬(x = 74) by omega), decide_eq_false (show ¬(65 ≤ x ∧ x ≤ 90) from fun h => q (Or.inl h))]
  · rw [← zfind_zoV (l.map up) (by rw [List.length_map]; exact c)]
    refine ((zfind_p8 l ho hl 10 0 rfl).cast fun f => ?_).lim
    simp only [f_ref25_Zone_m, str_size, fitsS_dec, Option.bind_some, Option.isNone_none, Option.isNone_some, Option.isSome_none, Option.isSome_some, Bool.not_true, Bool.not_false, cond_true, cond_false, cond_dec, beq_int, bne_int, not_dec]
    rw [if_neg (by omega)]; rfl
end Go.Proofs.YtddnfappkfiidaaGreat.Ev
