/- Time lines: what the reference reads. -/
import Derived.Test.YticfncahnhbhbaaGreatPuNistT
namespace Go.Proofs.YticfncahnhbhbaaGreat.Ev
open Go
set_option linter.unusedVariables false
set_option linter.unusedSimpArgs false
theorem ex_str (s : ByteArray) (a b : Nat) : s.extract a b = strOf (((bytesOf s).take b).drop a) := by
  apply by_inj
  rw [by_cut, by_str (okBy_drop (okBy_take (by_ok s) b) a)]
theorem adv_inj {v u : Int} (hv : 0 ≤ v ∧ v ≤ 9999) (hu : 0 ≤ u ∧ u ≤ 9999) (h : advL v = advL u) : v = u := by
  have h1 := adv_forth 6 v hv [] (by decide)
  have h2 := adv_forth 6 u hu [] (by decide)
  rw [h, h2] at h1
  exact (congrArg Prod.snd h1).symm
theorem adv_tail {v : Int} (hv : 0 ≤ v ∧ v ≤ 9999) {B : List Int} (hl : B.length = 50) (h : advL v = (B.take 37).drop 32) : (B.take 37).drop 36 = dgs (v % 10).toNat 1 := by
  have e : (B.take 37).drop 36 = ((B.take 37).drop 32).drop 4 := by rw [List.drop_drop]
  rw [e, ← h]
  unfold advL
  have h3 := padd3 hv
  have hl : (List.replicate (3 - (padd (v / 10).toNat 1).length) (32 : Int) ++ padd (v / 10).toNat 1).length = 3 := by
    rw [List.length_append, List.length_replicate]; omega
  generalize List.replicate (3 - (padd (v / 10).toNat 1).length) (32 : Int) ++ padd (v / 10).toNat 1 = Q at hl
  rw [show (4 : Nat) = Q.length + 1 by omega]
  simp only [List.drop_append, List.drop_of_length_le (show Q.length ≤ Q.length + 1 by omega), Nat.add_sub_cancel_left, List.nil_append]
  rfl
theorem seek_step (s : ByteArray) (hs : s.size = 50) (c p h a : Int) (m fd : Bool) (v : Int) (hv : 0 ≤ v ∧ v ≤ 9999) (f : Nat) :
    seekS s (f + 1) c p h a m fd v = if advL v = ((bytesOf s).take 37).drop 32 then seekS s f c p h v m true (v + 1) else seekS s f c p h a m fd (v + 1) := by
  have hB : (bytesOf s).length = 50 := by rw [by_len, hs]
  have hr : g_ref26_raw ((), ((v % 10, ()), ((1, ()), ()))) = some ((), ((strOf (dgs (v % 10).toNat 1), ()), ())) := ref26_raw (v % 10) 1 (by omega) (by decide)
  have hadv := ref26_advance v hv
  have e1 : iadd .i64 v 1 = v + 1 := iadd_i64 (by omega)
  have h50 : ((50 : Nat) : Int) = 50 := rfl
  have t36 : Int.toNat 36 = 36 := rfl
  have t37 : Int.toNat 37 = 37 := rfl
  have t32 : Int.toNat 32 = 32 := rfl
  have q1 := str_toList_eq (((bytesOf s).take 37).drop 36) (dgs (v % 10).toNat 1) (okBy_drop (okBy_take (by_ok s) 37) 36) (dgs_by _ _)
  have q2 := str_toList_eq (advL v) (((bytesOf s).take 37).drop 32) (advL_by v) (okBy_drop (okBy_take (by_ok s) 37) 32)
  simp only [seekS, t_ref26_Parse, f_ref26_Parse_p25, hs, h50, t36, t37, t32, ex_str, tmod_nn hv.1, hr, hadv, e1, q1, q2, fitsS_dec, Option.bind_some, Option.isNone_none, Option.isNone_some, Option.isSome_none, Option.isSome_some, Bool.not_true, Bool.not_false, cond_true, cond_false, cond_dec, beq_int, bne_int, not_dec]
  rw [if_pos hv.2, if_pos (by decide)]
  by_cases c1 : advL v = ((bytesOf s).take 37).drop 32
  · rw [if_pos c1, if_pos (adv_tail hv hB c1), if_pos (by decide)]
  · rw [if_neg c1]
    by_cases c2 : ((bytesOf s).take 37).drop 36 = dgs (v % 10).toNat 1
    · rw [if_pos c2, if_pos (by decide)]
    · rw [if_neg c2]
theorem seek_none (s : ByteArray) (hs : s.size = 50) (c p h a : Int) (m fd : Bool) (R) (hR : Evn (fun f => seekS s f c p h a m fd 10000) R) : ∀ (k : Nat) (v : Int), 0 ≤ v → v + k = 10000 → (∀ u, v ≤ u → u ≤ 9999 → advL u ≠ ((bytesOf s).take 37).drop 32) →
    Evn (fun f => seekS s f c p h a m fd v) R := by
  intro k; induction k with
  | zero => intro v hv hk hn; rw [show v = 10000 by omega]; exact hR
  | succ k ih =>
    intro v hv hk hn
    refine (ih (v + 1) (by omega) (by omega) (fun u h1 h2 => hn u (by omega) h2)).step fun f => ?_
    rw [seek_step s hs c p h a m fd v (by omega), if_neg (hn v (by omega) (by omega))]
theorem seek_some (s : ByteArray) (hs : s.size = 50) (c p h : Int) (m : Bool) (w : Int) (hw : 0 ≤ w ∧ w ≤ 9999) (hA : advL w = ((bytesOf s).take 37).drop 32) (R) (hR : Evn (fun f => seekS s f c p h w m true 10000) R) : ∀ (k : Nat) (v a : Int) (fd : Bool), 0 ≤ v → v + k = w →
    Evn (fun f => seekS s f c p h a m fd v) R := by
  intro k; induction k with
  | zero =>
    intro v a fd hv hk
    have e : v = w := by omega
    subst e
    refine (seek_none s hs c p h v m true R hR (9999 - v).toNat (v + 1) (by omega) (by omega) (fun u h1 h2 q => ?_)).step fun f => ?_
    · have := adv_inj hw ⟨by omega, h2⟩ (hA.trans q.symm)
      omega
    · rw [seek_step s hs c p h a m fd v hw, if_pos hA]
  | succ k ih =>
    intro v a fd hv hk
    refine (ih (v + 1) a fd (by omega) (by omega)).step fun f => ?_
    rw [seek_step s hs c p h a m fd v (by omega), if_neg (fun q => ?_)]
    have := adv_inj hw ⟨hv, by omega⟩ (hA.trans q.symm)
    omega
theorem shape_end (s : ByteArray) (hs : s.size = 50) (f : Nat) (ha : shOk SH (bytesOf s)) :
    (f_ref26_Parse_t (f + 1)).1 ((zln, ()), ((s, ()), ((), ((strOf SH, ()), (((50 : Int), ()), ()))))) =
      seekS s f (val10 (((bytesOf s).drop 25).take 2)) (val10 (((bytesOf s).drop 28).take 1)) (val10 (((bytesOf s).drop 30).take 1)) 0 (decide ((bytesOf s).getD 48 0 = 35)) false 0 := by
  have hB : (bytesOf s).length = 50 := by rw [by_len, hs]
  obtain ⟨b, hb, hBb⟩ := list50 hB
  have H : ∀ i, i < 50 → SH.getD i 0 = 48 → isF (b i) := fun i hi h => by
    have := ha i hi
    rw [h, okAt_fig] at this
    rw [hb]; exact this
  have n1 := ref26_number s 25 2 (by omega) (by omega) (by decide) (by
    rw [hBb]; intro x hx
    have : x ∈ [b 25, b 26] := hx
    simp only [List.mem_cons, List.not_mem_nil, or_false] at this
    rcases this with rfl | rfl
    · exact H 25 (by decide) rfl
    · exact H 26 (by decide) rfl)
  have n2 := ref26_number s 28 1 (by omega) (by omega) (by decide) (by
    rw [hBb]; intro x hx
    have : x ∈ [b 28] := hx
    simp only [List.mem_cons, List.not_mem_nil, or_false] at this
    subst this
    exact H 28 (by decide) rfl)
  have n3 := ref26_number s 30 1 (by omega) (by omega) (by decide) (by
    rw [hBb]; intro x hx
    have : x ∈ [b 30] := hx
    simp only [List.mem_cons, List.not_mem_nil, or_false] at this
    subst this
    exact H 30 (by decide) rfl)
  have m1 : g_ref26_number ((), ((s, ()), ((25, ()), ((2, ()), ())))) = _ := n1
  have m2 : g_ref26_number ((), ((s, ()), ((28, ()), ((1, ()), ())))) = _ := n2
  have m3 : g_ref26_number ((), ((s, ()), ((30, ()), ((1, ()), ())))) = _ := n3
  have hb48 := by_at s (i := (48 : Int)) (by omega) (by omega)
  have t48 : Int.toNat 48 = 48 := rfl
  rw [t48] at hb48
  have e1 : isub .i64 50 2 = 48 := by rw [isub_i64 (by omega)]; rfl
  have h50 : ((50 : Nat) : Int) = 50 := rfl
  simp only [seekS, t_ref26_Parse, f_ref26_Parse_p7, hs, h50, m1, m2, m3, e1, hb48, and_dec, fitsS_dec, Option.bind_some, Option.isNone_none, Option.isNone_some, Option.isSome_none, Option.isSome_some, Bool.not_true, Bool.not_false, cond_true, cond_false, cond_dec, beq_int, bne_int, not_dec]
  rw [if_neg (by decide), if_pos (by decide)]
/-- What the reference makes of the numbers. -/
theorem seek_end (s : ByteArray) (hs : s.size = 50) (F : FM) (hF : F.ok) (hB : bytesOf s = F.L) {y mo d : Int} (hd : IsDate ((F.k3 : Int) - 40587) y mo d) (f : Nat) :
    seekS s (f + 1) F.k10 F.k11 F.k12 F.v F.b true 10000 = some ((), (if tldE y mo d F.k4 F.k5 F.k6 F.k7 F.k8 F.k9 F.k11 = 0 then ((F.k3 : Int) - 40587, (((F.k7 : Int) * 60 + F.k8) * 60 + F.k9, ((F.k10 : Int), ((F.k11 : Int), ((F.k12 : Int), (F.v, (F.b, ()))))))) else zln, ((tldE y mo d F.k4 F.k5 F.k6 F.k7 F.k8 F.k9 F.k11, ()), ()))) := by
  obtain ⟨-, C⟩ := form_cuts hF hB
  obtain ⟨b3, b4, b5, b6, b7, b8, b9, b10, b11, b12, b13, b14⟩ := hF
  have ht : there ((F.k3 : Int) - 40587) := by unfold there; omega
  have hy := year_bound hd ht
  have hdn := year_bound hd ht
  have hy0 : 0 ≤ y := by
    by_cases c : 0 ≤ y
    · exact c
    · have q1 := (isDate_year hd).2
      have q2 := ystart_mono (show y < 1858 by omega)
      have q3 : dnum 1858 1 1 = -40907 := by decide
      omega
  have N : ∀ (at' w k : Nat), at' + w ≤ 50 → w ≤ 18 → k < 10 ^ w → ((bytesOf s).drop at').take w = dgs k w → g_ref26_number ((), ((s, ()), (((at' : Int), ()), (((w : Int), ()), ())))) = some ((), (((k : Int), ()), ())) := by
    intro at' w k h1 h2 h3 h4
    rw [ref26_number s at' w (by omega) (by omega) h2 (by rw [h4]; exact dgs_ok w k), h4, val10_dg w k h3]
  have n3 : g_ref26_number ((), ((s, ()), ((1, ()), ((5, ()), ())))) = _ := N 1 5 F.k3 (by decide) (by decide) b3 C.c3
  have n4 : g_ref26_number ((), ((s, ()), ((7, ()), ((2, ()), ())))) = _ := N 7 2 F.k4 (by decide) (by decide) b4 C.c4
  have n5 : g_ref26_number ((), ((s, ()), ((10, ()), ((2, ()), ())))) = _ := N 10 2 F.k5 (by decide) (by decide) b5 C.c5
  have n6 : g_ref26_number ((), ((s, ()), ((13, ()), ((2, ()), ())))) = _ := N 13 2 F.k6 (by decide) (by decide) b6 C.c6
  have n7 : g_ref26_number ((), ((s, ()), ((16, ()), ((2, ()), ())))) = _ := N 16 2 F.k7 (by decide) (by decide) b7 C.c7
  have n8 : g_ref26_number ((), ((s, ()), ((19, ()), ((2, ()), ())))) = _ := N 19 2 F.k8 (by decide) (by decide) b8 C.c8
  have n9 : g_ref26_number ((), ((s, ()), ((22, ()), ((2, ()), ())))) = _ := N 22 2 F.k9 (by decide) (by decide) b9 C.c9
  have hdate := ref05_date ht hd
  have i1 : isub .i64 (F.k3 : Int) 40587 = (F.k3 : Int) - 40587 := isub_i64 (by omega)
  have i2 : imul .i64 (F.k7 : Int) 60 = (F.k7 : Int) * 60 := imul_i64 (by omega)
  have i3 : iadd .i64 ((F.k7 : Int) * 60) F.k8 = (F.k7 : Int) * 60 + F.k8 := iadd_i64 (by omega)
  have i4 : imul .i64 (F.k7 : Int) 3600 = (F.k7 : Int) * 3600 := imul_i64 (by omega)
  have i5 : imul .i64 (F.k8 : Int) 60 = (F.k8 : Int) * 60 := imul_i64 (by omega)
  have i6 : iadd .i64 ((F.k7 : Int) * 3600) ((F.k8 : Int) * 60) = (F.k7 : Int) * 3600 + (F.k8 : Int) * 60 := iadd_i64 (by omega)
  have i7 : iadd .i64 ((F.k7 : Int) * 3600 + (F.k8 : Int) * 60) F.k9 = ((F.k7 : Int) * 60 + F.k8) * 60 + F.k9 := by rw [iadd_i64 (by omega)]; omega
  simp only [seekS, t_ref26_Parse, f_ref26_Parse_p25, n3, n4, n5, n6, n7, n8, n9, hdate, tmod_nn hy0, i1, i2, i3, i4, i5, i6, i7, fitsS_dec, Option.bind_some, Option.isNone_none, Option.isNone_some, Option.isSome_none, Option.isSome_some, Bool.not_true, Bool.not_false, cond_true, cond_false, cond_dec, beq_int, bne_int, not_dec, gt_iff_lt]
  rw [if_neg (by decide)]
  unfold tldE
  by_cases c1 : (F.k4 : Int) = y % 100
  · rw [if_neg (not_not_intro c1)]
    by_cases c2 : (F.k5 : Int) = mo
    · rw [if_neg (not_not_intro c2)]
      by_cases c3 : (F.k6 : Int) = d
      · rw [if_neg (not_not_intro c3), if_neg (show ¬¬((F.k4 : Int) = y % 100 ∧ (F.k5 : Int) = mo ∧ (F.k6 : Int) = d) from not_not_intro ⟨c1, c2, c3⟩)]
        by_cases q1 : 23 < (F.k7 : Int)
        · rw [if_pos q1, if_pos (Or.inl q1), if_neg (by decide)]
        · rw [if_neg q1]
          by_cases q2 : 59 < (F.k8 : Int)
          · rw [if_pos q2, if_pos (Or.inr (Or.inl q2)), if_neg (by decide)]
          · rw [if_neg q2]
            by_cases q3 : 60 < (F.k9 : Int)
            · rw [if_pos q3, if_pos (Or.inr (Or.inr (Or.inl q3))), if_neg (by decide)]
            · rw [if_neg q3]
              by_cases q4 : 2 < (F.k11 : Int)
              · rw [if_pos q4, if_pos (Or.inr (Or.inr (Or.inr q4))), if_neg (by decide)]
              · rw [if_neg q4, if_neg (show ¬(23 < (F.k7 : Int) ∨ 59 < (F.k8 : Int) ∨ 60 < (F.k9 : Int) ∨ 2 < (F.k11 : Int)) by omega)]
                by_cases q5 : (F.k9 : Int) = 60
                · rw [if_pos q5]
                  by_cases q6 : (F.k7 : Int) * 60 + F.k8 = 1439
                  · rw [if_neg (not_not_intro q6), if_neg (show ¬((F.k9 : Int) = 60 ∧ ¬((F.k7 : Int) = 23 ∧ (F.k8 : Int) = 59)) from fun q => q.2 ⟨by omega, by omega⟩), if_pos rfl]
                  · rw [if_pos q6, if_pos (show ((F.k9 : Int) = 60 ∧ ¬((F.k7 : Int) = 23 ∧ (F.k8 : Int) = 59)) from ⟨q5, fun q => q6 (by omega)⟩), if_neg (by decide)]
                · rw [if_neg q5, if_neg (show ¬((F.k9 : Int) = 60 ∧ ¬((F.k7 : Int) = 23 ∧ (F.k8 : Int) = 59)) from fun q => q5 q.1), if_pos rfl]
      · rw [if_pos c3, if_pos (show ¬((F.k4 : Int) = y % 100 ∧ (F.k5 : Int) = mo ∧ (F.k6 : Int) = d) from fun q => c3 q.2.2), if_neg (by decide)]
    · rw [if_pos c2, if_pos (show ¬((F.k4 : Int) = y % 100 ∧ (F.k5 : Int) = mo ∧ (F.k6 : Int) = d) from fun q => c2 q.2.1), if_neg (by decide)]
  · rw [if_pos c1, if_pos (show ¬((F.k4 : Int) = y % 100 ∧ (F.k5 : Int) = mo ∧ (F.k6 : Int) = d) from fun q => c1 q.1), if_neg (by decide)]
theorem ref26_read_ok (s : ByteArray) (F : FM) (hF : F.ok) (hB : bytesOf s = F.L) {y mo d : Int} (hd : IsDate ((F.k3 : Int) - 40587) y mo d) :
    g_ref26_Parse ((), ((s, ()), ())) = some ((), (if tldE y mo d F.k4 F.k5 F.k6 F.k7 F.k8 F.k9 F.k11 = 0 then ((F.k3 : Int) - 40587, (((F.k7 : Int) * 60 + F.k8) * 60 + F.k9, ((F.k10 : Int), ((F.k11 : Int), ((F.k12 : Int), (F.v, (F.b, ()))))))) else zln, ((tldE y mo d F.k4 F.k5 F.k6 F.k7 F.k8 F.k9 F.k11, ()), ()))) := by
  have hs : s.size = 50 := by rw [← by_len, hB, FM.len hF]
  obtain ⟨hsh, C⟩ := form_cuts hF hB
  have hok := hF
  obtain ⟨b3, b4, b5, b6, b7, b8, b9, b10, b11, b12, b13, b14⟩ := hok
  have v10 : val10 (((bytesOf s).drop 25).take 2) = F.k10 := by rw [C.c10, val10_dg 2 _ b10]
  have v11 : val10 (((bytesOf s).drop 28).take 1) = F.k11 := by rw [C.c11, val10_dg 1 _ b11]
  have v12 : val10 (((bytesOf s).drop 30).take 1) = F.k12 := by rw [C.c12, val10_dg 1 _ b12]
  have vb : decide ((bytesOf s).getD 48 0 = 35) = F.b := by
    rw [C.cb]; cases F.b <;> rfl
  have e0 : Evn (fun f => seekS s f F.k10 F.k11 F.k12 F.v F.b true 10000) _ := Evn.some 1 fun f => seek_end s hs F hF hB hd f
  have e1 := seek_some s hs F.k10 F.k11 F.k12 F.b F.v ⟨b13, b14⟩ C.ca.symm _ e0 F.v.toNat 0 0 false (by omega) (by omega)
  have e2 := shape_ok s hs _ (e1.step fun f => by
    show (f_ref26_Parse_t (f + 1)).1 _ = _
    rw [shape_end s hs f hsh, v10, v11, v12, vb]) hsh 50 0 (by omega)
  refine (e2.cast fun f => ?_).lim
  have hz : (strOf SH).size = 50 := by rw [str_size]; rfl
  simp only [f_ref26_Parse_m, sh_lit, hz, hs, fitsS_dec, Option.bind_some, Option.isNone_none, Option.isNone_some, Option.isSome_none, Option.isSome_some, Bool.not_true, Bool.not_false, cond_true, cond_false, cond_dec, beq_int, bne_int, not_dec, not_true_eq_false, if_false]; rfl
theorem ref26_read_bad (s : ByteArray) (hs : s.size ≤ 1000000) (h : ¬ ∃ F : FM, F.ok ∧ bytesOf s = F.L) : g_ref26_Parse ((), ((s, ()), ())) = some zlr := by
  have hz : (strOf SH).size = 50 := by rw [str_size]; rfl
  by_cases c : s.size = 50
  · have hB : (bytesOf s).length = 50 := by rw [by_len, c]
    have fin : Evn (fun f => (f_ref26_Parse_t f).1 ((zln, ()), ((s, ()), ((), ((strOf SH, ()), (((0 : Int), ()), ())))))) zlr := by
      by_cases hsh : shOk SH (bytesOf s)
      · have e0 : ∀ (cc p hh a : Int) (m : Bool), Evn (fun f => seekS s f cc p hh a m false 10000) zlr := fun cc p hh a m => Evn.some 1 fun f => by
          simp only [seekS, t_ref26_Parse, f_ref26_Parse_p25, fitsS_dec, Option.bind_some, Option.isNone_none, Option.isNone_some, Option.isSome_none, Option.isSome_some, Bool.not_true, Bool.not_false, cond_true, cond_false, cond_dec, beq_int, bne_int, not_dec]
          rw [if_neg (by decide)]
        have e1 := seek_none s c (val10 (((bytesOf s).drop 25).take 2)) (val10 (((bytesOf s).drop 28).take 1)) (val10 (((bytesOf s).drop 30).take 1)) 0 (decide ((bytesOf s).getD 48 0 = 35)) false zlr (e0 _ _ _ _ _) 10000 0 (by omega) (by omega) (fun u h1 h2 q => by
          obtain ⟨F, f1, f2, f3⟩ := cuts_form hB hsh ⟨h1, h2⟩ q
          exact h ⟨F, f1, f3⟩)
        exact shape_ok s c _ (e1.step fun f => by
          show (f_ref26_Parse_t (f + 1)).1 _ = _
          rw [shape_end s c f hsh]) hsh 50 0 (by omega)
      · exact shape_bad s c hsh
    refine (fin.cast fun f => ?_).lim
    simp only [f_ref26_Parse_m, sh_lit, hz, c, fitsS_dec, Option.bind_some, Option.isNone_none, Option.isNone_some, Option.isSome_none, Option.isSome_some, Bool.not_true, Bool.not_false, cond_true, cond_false, cond_dec, beq_int, bne_int, not_dec]
    rw [if_neg (by decide)]
  · refine (Evn.const fun f => ?_).lim
    simp only [f_ref26_Parse_m, sh_lit, hz, fitsS_dec, Option.bind_some, Option.isNone_none, Option.isNone_some, Option.isSome_none, Option.isSome_some, Bool.not_true, Bool.not_false, cond_true, cond_false, cond_dec, beq_int, bne_int, not_dec]
    rw [if_pos (by omega)]
end Go.Proofs.YticfncahnhbhbaaGreat.Ev
