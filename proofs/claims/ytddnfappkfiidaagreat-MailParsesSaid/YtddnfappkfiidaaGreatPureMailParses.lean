/- The law MailParses, plain. -/
import Derived.Test.YtddnfappkfiidaaGreatPuMailY
import Derived.Test.YtddnfappkfiidaaGreatPuLeap2
namespace Go.Proofs.YtddnfappkfiidaaGreat.Ev
open Go
set_option linter.unusedVariables false
set_option linter.unusedSimpArgs false
theorem lit1 (c : Int) (h : 0 ≤ c ∧ c < 256) {w : List Int} (ho : okBy w) : ((strOf w).toList == (strOf [c]).toList) = decide (w = [c]) := str_toList_eq w [c] ho (mb1 h)
theorem figW_is {w : List Int} {a b : Nat} (h : figW w a b) : ∀ x ∈ w, isF x := by
  have h3 := h.2.2
  have := sc_lead_figs (l := w) (Nat.le_refl _)
  rw [h3, List.take_length] at this; exact this
theorem m57_43 : (⟨#[43]⟩ : ByteArray) = strOf [43] := by kernel_rfl
theorem m57_44 : (⟨#[44]⟩ : ByteArray) = strOf [44] := by kernel_rfl
theorem m57_45 : (⟨#[45]⟩ : ByteArray) = strOf [45] := by kernel_rfl
theorem m57_58 : (⟨#[58]⟩ : ByteArray) = strOf [58] := by kernel_rfl
theorem g1 (a : ByteArray) (l : List ByteArray) : gd .str (a :: l : List ByteArray) (0 : Int) = a := rfl
theorem g2 (a b : ByteArray) (l : List ByteArray) : gd .str (a :: b :: l : List ByteArray) (1 : Int) = b := rfl
theorem g3 (a b c : ByteArray) (l : List ByteArray) : gd .str (a :: b :: c :: l : List ByteArray) (2 : Int) = c := rfl
theorem g4 (a b c d : ByteArray) (l : List ByteArray) : gd .str (a :: b :: c :: d :: l : List ByteArray) (3 : Int) = d := rfl
theorem g5 (a b c d e : ByteArray) (l : List ByteArray) : gd .str (a :: b :: c :: d :: e :: l : List ByteArray) (4 : Int) = e := rfl
theorem g6 (a b c d e f : ByteArray) (l : List ByteArray) : gd .str (a :: b :: c :: d :: e :: f :: l : List ByteArray) (5 : Int) = f := rfl
theorem gb2 (a b : Bool) (l : List Bool) : gd .bool (a :: b :: l : List Bool) (1 : Int) = b := rfl
theorem gb4 (a b c d : Bool) (l : List Bool) : gd .bool (a :: b :: c :: d :: l : List Bool) (3 : Int) = d := rfl
def okT (T : List Tok) : Prop := ∀ t ∈ T, okBy t.2 ∧ t.2.length ≤ 1000000
/-- A zone. -/
theorem ref25_zones (T : List Tok) (hT : okT T) (hlen : T.length ≤ 1000000) : ∃ (by' : Int) (ok is : Bool), g_ref25_zone ((), ((wds T, ()), ((fls T, ()), ()))) = some ((), ((by', ()), ((ok, ()), ((is, ()), ())))) ∧ zonT T = if is then some (by', ok) else none := by
  match T, hT with
  | [], _ => exact ⟨0, false, false, by simp [g_ref25_zone, f_ref25_zone_m], rfl⟩
  | [(f, w)], hT =>
    have h := hT _ List.mem_cons_self
    have hz := ref25_zone w h.1 h.2
    refine ⟨(zoV (w.map up)).1, true, (zoV (w.map up)).2, ?_, rfl⟩
    have g1 : gd .str [strOf w] (0 : Int) = strOf w := rfl
    simp only [g_ref25_zone, f_ref25_zone_m, wds, fls, List.map_cons, List.map_nil, List.length_cons, List.length_nil]
    rw [show (((0 + 1 : Nat) : Int) == 1) = true from rfl, g1]
    simp only [hz, fitsS_dec, Option.bind_some, Option.isNone_none, Option.isNone_some, Option.isSome_none, Option.isSome_some, Bool.not_true, Bool.not_false, cond_true, cond_false, cond_dec, beq_int, bne_int, not_dec, cond_true]
    rfl
  | [(f, s), (g, w)], hT =>
    have h := hT _ List.mem_cons_self
    have h' := hT _ (List.mem_cons_of_mem _ List.mem_cons_self)
    simp only at h h'
    have q43 := lit1 43 (by decide) h.1
    have q45 := lit1 45 (by decide) h.1
    have hfw := ref25_figW w h'.1 h'.2 4 4
    have a4 : ((4 : Nat) : Int) = 4 := rfl
    rw [a4] at hfw
    simp only [zonT]
    have hno : ¬ ((s = [43] ∨ s = [45]) ∧ g = false ∧ figW w 4 4) → g_ref25_zone ((), ((wds [(f, s), (g, w)], ()), ((fls [(f, s), (g, w)], ()), ()))) = some ((), ((0, ()), ((false, ()), ((false, ()), ())))) := by
      intro hn
      simp only [g_ref25_zone, f_ref25_zone_m, wds, fls, List.map_cons, List.map_nil, g1, g2, gb2, List.length_cons, List.length_nil, m57_43, m57_45, q43, q45, hfw, fitsS_dec, Option.bind_some, Option.isNone_none, Option.isNone_some, Option.isSome_none, Option.isSome_some, Bool.not_true, Bool.not_false, cond_true, cond_false, cond_dec, beq_int, bne_int, not_dec]
      by_cases c1 : s = [43]
      · cases g
        · have c2 : ¬ figW w 4 4 := fun q => hn ⟨Or.inl c1, rfl, q⟩
          simp [c1, c2]
        · simp [c1]
      · by_cases c3 : s = [45]
        · cases g
          · have c2 : ¬ figW w 4 4 := fun q => hn ⟨Or.inr c3, rfl, q⟩
            simp [c3, c2]
          · simp [c3]
        · simp [c1, c3]
    by_cases hc : (s = [43] ∨ s = [45]) ∧ g = false ∧ figW w 4 4
    · obtain ⟨c1, c2, c3⟩ := hc
      have hfi := figW_is c3
      have hl4 : w.length = 4 := by have := c3.1; have := c3.2.1; omega
      have t1 : ∀ x ∈ w.take 2, isF x := fun x hx => hfi x (List.mem_of_mem_take hx)
      have t2 : ∀ x ∈ w.drop 2, isF x := fun x hx => hfi x (List.mem_of_mem_drop hx)
      have n1 := ref25_number (w.take 2) t1 (by rw [List.length_take]; omega)
      have n2 := ref25_number (w.drop 2) t2 (by rw [List.length_drop]; omega)
      have v1 := val10_range 2 (w.take 2) (by rw [List.length_take]; omega) t1
      have v2 := val10_range 2 (w.drop 2) (by rw [List.length_drop]; omega) t2
      have e1 : (strOf w).extract 0 2 = strOf (w.take 2) := by rw [str_cut]; rfl
      have e2 : (strOf w).extract 2 4 = strOf (w.drop 2) := by rw [str_cut, List.take_of_length_le (by omega)]
      have i1 : imul .i64 (val10 (w.take 2)) 60 = val10 (w.take 2) * 60 := imul_i64 (by omega)
      have i2 : iadd .i64 (val10 (w.take 2) * 60) (val10 (w.drop 2)) = val10 (w.take 2) * 60 + val10 (w.drop 2) := iadd_i64 (by omega)
      have i3 : isub .i64 0 (val10 (w.take 2) * 60 + val10 (w.drop 2)) = -(val10 (w.take 2) * 60 + val10 (w.drop 2)) := by rw [isub_i64 (by omega)]; omega
      refine ⟨if s = [45] then -(val10 (w.take 2) * 60 + val10 (w.drop 2)) else val10 (w.take 2) * 60 + val10 (w.drop 2), decide (val10 (w.take 2) < 24 ∧ val10 (w.drop 2) < 60), true, ?_, ?_⟩
      · have hd : decide (val10 (w.take 2) < 24 ∧ val10 (w.drop 2) < 60) = (decide (val10 (w.take 2) ≤ 23) && decide (val10 (w.drop 2) ≤ 59)) := by
          rw [← Bool.decide_and, decide_eq_decide]; omega
        rw [hd]
        simp only [g_ref25_zone, f_ref25_zone_m, wds, fls, List.map_cons, List.map_nil, g1, g2, gb2, List.length_cons, List.length_nil, m57_43, m57_45, q43, q45, hfw, str_size, hl4, fitsS_dec, Option.bind_some, Option.isNone_none, Option.isNone_some, Option.isSome_none, Option.isSome_some, Bool.not_true, Bool.not_false, cond_true, cond_false, cond_dec, beq_int, bne_int, not_dec, and_dec, show Int.toNat 0 = 0 from rfl, show Int.toNat 2 = 2 from rfl, show Int.toNat ((4 : Nat) : Int) = 4 from rfl, e1, e2, n1, n2, i1, i2, i3]
        rcases c1 with c1 | c1
        · subst c1
          by_cases k1 : val10 (w.take 2) ≤ 23
          · simp [c2, c3, k1]
          · simp [c2, c3, k1]
        · subst c1
          by_cases k1 : val10 (w.take 2) ≤ 23
          · simp [c2, c3, k1]
          · simp [c2, c3, k1]
      · rw [if_pos ⟨c1, c2, c3⟩]; rfl
    · exact ⟨0, false, false, hno hc, by rw [if_neg hc]; rfl⟩
  | t1 :: t2 :: t3 :: T, _ =>
    refine ⟨0, false, false, ?_, ?_⟩
    · simp only [List.length_cons] at hlen
      simp only [g_ref25_zone, f_ref25_zone_m, wds, fls, List.map_cons, List.length_cons, List.length_map, fitsS_dec, Option.bind_some, Option.isNone_none, Option.isNone_some, Option.isSome_none, Option.isSome_some, Bool.not_true, Bool.not_false, cond_true, cond_false, cond_dec, beq_int, bne_int, not_dec]
      rw [if_neg (by omega), if_pos (by omega)]
    · obtain ⟨f, w⟩ := t1
      obtain ⟨g, s⟩ := t2
      simp only [zonT]; rfl
@[reducible] def out25 := Unit × ((Int × (Int × (Int × (Int × (Int × (Int × (Int × (Int × Unit)))))))) × ((Int × Unit) × Unit))
def mk25 (wk y m d h i s o : Int) (ok : Bool) : MP := ⟨wk, y, m, d, h, i, s, o, ok, .good []⟩
def fin25 (p : MP) : out25 := ((), (if p.err = 0 then p.lab.t else zlm, ((p.err, ()), ())))
@[reducible] def form25 : out25 := ((), (zlm, ((2, ()), ())))
theorem p23_is (Q : TT_ref25_Parse) (Z : List Tok) (hZ : okT Z) (hl : Z.length ≤ 1000000) (wk y m d h i s : Int) : f_ref25_Parse_p23 Q ((zlm, (zlm, ((y, (m, (d, (h, (i, (s, (0, (0, ())))))))), ()))), ((), ((), ((2, ()), ((wk, ()), ((), ((wds Z, ()), ((fls Z, ()), ())))))))) =
    some (match zonT Z with | none => form25 | some v => fin25 (mk25 wk y m d h i s v.1 v.2)) := by
  obtain ⟨o, ok, is, h1, h2⟩ := ref25_zones Z hZ hl
  have hc := ref08_check ⟨y, m, d, h, i, s, 0, o⟩
  simp only [Lab.t] at hc
  simp only [f_ref25_Parse_p23, h1, h2, hc, fitsS_dec, Option.bind_some, Option.isNone_none, Option.isNone_some, Option.isSome_none, Option.isSome_some, Bool.not_true, Bool.not_false, cond_true, cond_false, cond_dec, beq_int, bne_int, not_dec]
  cases is
  · simp
  · simp only [Bool.not_true, cond_false, if_true]
    unfold fin25
    have he : (mk25 wk y m d h i s o ok).err = if ok = false then 1 else if y < 1900 then 13 else if labErr ⟨y, m, d, h, i, s, 0, o⟩ ≠ 0 then labErr ⟨y, m, d, h, i, s, 0, o⟩ else if wk ≠ 0 ∧ wk ≠ wdN (dnum y m d) then 1 else 0 := by
      unfold MP.err mk25
      simp only [X.end, if_true, ne_eq, not_true_eq_false, if_false, MP.lab]
      try rfl
    rw [he]
    cases ok
    · simp
    · simp only [Bool.not_true, cond_false, Bool.true_eq_false, if_false]
      by_cases c1 : y < 1900
      · rw [if_pos c1, if_pos c1, if_neg (by decide)]
      · rw [if_neg c1, if_neg c1]
        by_cases c2 : labErr ⟨y, m, d, h, i, s, 0, o⟩ = 0
        · have d1 := (labErr_zero c2).1
          have hz := dErr_zero.1 d1
          simp only at hz
          have hml := mlen_range y m
          have hr := dnum_range y m d (by omega) hz.2.1 (by omega)
          have hof := ref05_of y m d (by omega) hz.2.1 (by omega)
          have hw := ref05_weekday (dnum y m d) (by omega)
          simp only [c2, ne_eq, not_true_eq_false, if_false, hof, hw, Option.bind_some]
          by_cases c3 : wk = 0
          · simp only [c3, not_true_eq_false, false_and, if_false, if_true]; rfl
          · by_cases c4 : wk = wdN (dnum y m d)
            · have hA : ¬(¬wk = 0 ∧ ¬wk = wdN (dnum y m d)) := fun q => q.2 c4
              rw [if_pos c3, if_neg (not_not_intro c4)]
              simp only [if_neg hA, if_true]; rfl
            · have hA : ¬wk = 0 ∧ ¬wk = wdN (dnum y m d) := ⟨c3, c4⟩
              rw [if_pos c3, if_pos c4]
              simp only [if_pos hA]
              rw [if_neg (by decide)]
        · simp only [c2, ne_eq, not_false_eq_true, if_true, if_false]
theorem p19_is (t0 t1 t2 t3 t4 t5 : Tok) (Z : List Tok) (hne : Z ≠ []) (hZ : okT Z) (hl : Z.length ≤ 1000) (wk y m d h i : Int) :
    Evn (fun f => (f_ref25_Parse_t f).2.2.1 ((zlm, (zlm, ((y, (m, (d, (h, (i, (0, (0, (0, ())))))))), ()))), ((), ((), ((2, ()), ((wds (t0 :: t1 :: t2 :: t3 :: t4 :: t5 :: Z), ()), ((fls (t0 :: t1 :: t2 :: t3 :: t4 :: t5 :: Z), ()), ((wk, ()), ((), ()))))))))) (match secT Z with | none => form25 | some v => fin25 (mk25 wk y m d h i v.1 v.2.1 v.2.2)) := by
  have t6 : Int.toNat 6 = 6 := rfl
  match Z, hne, hZ, hl with
  | (f6, w) :: R, _, hZ, hl =>
    have h6 := hZ _ List.mem_cons_self
    simp only at h6
    have q58 := lit1 58 (by decide) h6.1
    simp only [List.length_cons] at hl
    have hcut : ∀ {α : Type} (a0 a1 a2 a3 a4 a5 : α) (l : List α), List.drop 6 (List.take ((l.length + 1 + 1 + 1 + 1 + 1 + 1 : Nat) : Int).toNat (a0 :: a1 :: a2 :: a3 :: a4 :: a5 :: l)) = l := fun a0 a1 a2 a3 a4 a5 l => by
      rw [Int.toNat_natCast, List.take_of_length_le (by simp)]; rfl
    by_cases c1 : w = [58]
    · subst c1
      match R, hl, hZ with
      | [], hl, hZ =>
        have hc6 := hcut (strOf t0.2) (strOf t1.2) (strOf t2.2) (strOf t3.2) (strOf t4.2) (strOf t5.2) [strOf [58]]
        have hb6 := hcut t0.1 t1.1 t2.1 t3.1 t4.1 t5.1 [f6]
        simp only [List.length_cons, List.length_nil] at hc6 hb6
        refine Evn.some 1 fun f => ?_
        simp only [t_ref25_Parse, f_ref25_Parse_p19, wds, fls, List.map_cons, List.map_nil, List.length_cons, List.length_nil, hc6, hb6, t6, g1, m57_58, q58, fitsS_dec, Option.bind_some, Option.isNone_none, Option.isNone_some, Option.isSome_none, Option.isSome_some, Bool.not_true, Bool.not_false, cond_true, cond_false, cond_dec, beq_int, bne_int, not_dec, and_dec, decide_true, secT]
        rw [if_pos (by omega), if_pos (by omega), if_pos (by omega), if_pos (by omega)]
        rfl
      | (f7, s) :: R, hl, hZ =>
        simp only [List.length_cons] at hl
        have h7 : okBy s ∧ s.length ≤ 1000000 := hZ (f7, s) (List.mem_cons_of_mem _ List.mem_cons_self)
        have hfs := ref25_figW s h7.1 h7.2 2 2
        have a2 : ((2 : Nat) : Int) = 2 := rfl
        rw [a2] at hfs
        have hcut2 : ∀ {α : Type} (a0 a1 : α) (l : List α), List.drop 2 (List.take ((l.length + 1 + 1 : Nat) : Int).toNat (a0 :: a1 :: l)) = l := fun a0 a1 l => by
          rw [Int.toNat_natCast, List.take_of_length_le (by simp)]; rfl
        have hc6 := hcut (strOf t0.2) (strOf t1.2) (strOf t2.2) (strOf t3.2) (strOf t4.2) (strOf t5.2) (strOf [58] :: strOf s :: R.map fun t => strOf t.2)
        have hb6 := hcut t0.1 t1.1 t2.1 t3.1 t4.1 t5.1 (f6 :: f7 :: R.map fun t => t.1)
        have hc2 := hcut2 (strOf [58]) (strOf s) (R.map fun t => strOf t.2)
        have hb2 := hcut2 f6 f7 (R.map fun t => t.1)
        simp only [List.length_cons, List.length_map] at hc6 hb6 hc2 hb2
        have T2 : Int.toNat 2 = 2 := rfl
        by_cases c2 : figW s 2 2
        · have hv := figW_is c2
          have hn := ref25_number s hv (by have := c2.2.1; omega)
          have hz := p23_is
          have go : ∀ f, (f_ref25_Parse_t (f + 1)).2.2.1 ((zlm, (zlm, ((y, (m, (d, (h, (i, (0, (0, (0, ())))))))), ()))), ((), ((), ((2, ()), ((wds (t0 :: t1 :: t2 :: t3 :: t4 :: t5 :: (f6, [58]) :: (f7, s) :: R), ()), ((fls (t0 :: t1 :: t2 :: t3 :: t4 :: t5 :: (f6, [58]) :: (f7, s) :: R), ()), ((wk, ()), ((), ())))))))) =
              (f_ref25_Parse_t f).2.2.2.1 ((zlm, (zlm, ((y, (m, (d, (h, (i, (val10 s, (0, (0, ())))))))), ()))), ((), ((), ((2, ()), ((wk, ()), ((), ((wds R, ()), ((fls R, ()), ())))))))) := fun f => by
            simp only [t_ref25_Parse, f_ref25_Parse_p19, wds, fls, List.map_cons, List.length_cons, List.length_map, t6, T2, hc6, hb6, hc2, hb2, g1, g2, m57_58, q58, hfs, hn, fitsS_dec, Option.bind_some, Option.isNone_none, Option.isNone_some, Option.isSome_none, Option.isSome_some, Bool.not_true, Bool.not_false, cond_true, cond_false, cond_dec, beq_int, bne_int, not_dec, and_dec, decide_true, c2]
            rw [if_pos (by omega), if_pos (by omega), if_pos (by omega), if_neg (by omega), if_pos (by omega)]
            try rw [if_pos (by omega), if_pos (by omega), if_pos (by omega)]
            all_goals first | done | rfl
          have hr : (match secT ((f6, [58]) :: (f7, s) :: R) with | none => form25 | some v => fin25 (mk25 wk y m d h i v.1 v.2.1 v.2.2)) = (match zonT R with | none => form25 | some v => fin25 (mk25 wk y m d h i (val10 s) v.1 v.2)) := by
            simp only [secT, if_true, if_pos c2]
            cases zonT R <;> rfl
          rw [hr]
          refine Evn.step (G := fun f => (f_ref25_Parse_t f).2.2.2.1 ((zlm, (zlm, ((y, (m, (d, (h, (i, (val10 s, (0, (0, ())))))))), ()))), ((), ((), ((2, ()), ((wk, ()), ((), ((wds R, ()), ((fls R, ()), ()))))))))) (Evn.some 1 fun f => ?_) go
          simp only [t_ref25_Parse]
          exact p23_is _ R (fun t ht => hZ t (List.mem_cons_of_mem _ (List.mem_cons_of_mem _ ht))) (by omega) wk y m d h i (val10 s)
        · have hr : (match secT ((f6, [58]) :: (f7, s) :: R) with | none => form25 | some v => fin25 (mk25 wk y m d h i v.1 v.2.1 v.2.2)) = form25 := by
            simp only [secT, if_true, if_neg c2]
          rw [hr]
          refine Evn.some 1 fun f => ?_
          simp only [t_ref25_Parse, f_ref25_Parse_p19, wds, fls, List.map_cons, List.length_cons, List.length_map, t6, T2, hc6, hb6, hc2, hb2, g1, g2, m57_58, q58, hfs, fitsS_dec, Option.bind_some, Option.isNone_none, Option.isNone_some, Option.isSome_none, Option.isSome_some, Bool.not_true, Bool.not_false, cond_true, cond_false, cond_dec, beq_int, bne_int, not_dec, and_dec, decide_true, c2, decide_false]
          rw [if_pos (by omega), if_pos (by omega), if_pos (by omega), if_neg (by omega), if_pos (by omega)]
          all_goals rfl
    · have hc6 := hcut (strOf t0.2) (strOf t1.2) (strOf t2.2) (strOf t3.2) (strOf t4.2) (strOf t5.2) (strOf w :: R.map fun t => strOf t.2)
      have hb6 := hcut t0.1 t1.1 t2.1 t3.1 t4.1 t5.1 (f6 :: R.map fun t => t.1)
      simp only [List.length_cons, List.length_map] at hc6 hb6
      have hr : (match secT ((f6, w) :: R) with | none => form25 | some v => fin25 (mk25 wk y m d h i v.1 v.2.1 v.2.2)) = (match zonT ((f6, w) :: R) with | none => form25 | some v => fin25 (mk25 wk y m d h i 0 v.1 v.2)) := by
        simp only [secT, if_neg c1]
        cases zonT ((f6, w) :: R) <;> rfl
      rw [hr]
      refine Evn.step (G := fun f => (f_ref25_Parse_t f).2.2.2.1 ((zlm, (zlm, ((y, (m, (d, (h, (i, (0, (0, (0, ())))))))), ()))), ((), ((), ((2, ()), ((wk, ()), ((), ((wds ((f6, w) :: R), ()), ((fls ((f6, w) :: R), ()), ()))))))))) (Evn.some 1 fun f => ?_) fun f => ?_
      · simp only [t_ref25_Parse]
        exact p23_is _ _ hZ (by simp only [List.length_cons]; omega) wk y m d h i 0
      · simp only [t_ref25_Parse, f_ref25_Parse_p19, wds, fls, List.map_cons, List.length_cons, List.length_map, t6, hc6, hb6, g1, m57_58, q58, fitsS_dec, Option.bind_some, Option.isNone_none, Option.isNone_some, Option.isSome_none, Option.isSome_some, Bool.not_true, Bool.not_false, cond_true, cond_false, cond_dec, beq_int, bne_int, not_dec, and_dec, c1, decide_false]
        rw [if_pos (by omega), if_pos (by omega), if_pos (by omega)]
        all_goals rfl
theorem dayT_short : ∀ T : List Tok, T.length < 7 → dayT T = none
  | [], _ => rfl
  | [_], _ | [_, _], _ | [_, _, _], _ | [_, _, _, _], _ | [_, _, _, _, _], _ | [_, _, _, _, _, _], _ => by simp [dayT, monT, yrT, hourG, hourT, colT, minT, secT]
  | _ :: _ :: _ :: _ :: _ :: _ :: _ :: T, h => by simp only [List.length_cons] at h; omega
theorem yrV_range {w : List Int} (h : figW w 2 4) : 0 ≤ val10 w ∧ val10 w < 10000 ∧ (w.length = 2 → val10 w < 100) := by
  have hv := val10_range _ w rfl (figW_is h)
  have h1 := h.1
  have h2 := h.2.1
  have hp : (10 : Int) ^ w.length ≤ 10 ^ 4 := by
    have : 10 ^ w.length ≤ 10 ^ 4 := Nat.pow_le_pow_right (by omega) h2
    exact_mod_cast this
  refine ⟨hv.1, by omega, fun q => ?_⟩
  rw [q] at hv; exact hv.2
/-- What the reference makes of a date's parts. -/
def core25 (wk : Int) (T : List Tok) : out25 := match dayT T with
  | none => form25
  | some v => fin25 (mk25 wk v.2.2.1 v.2.1 v.1 v.2.2.2.1 v.2.2.2.2.1 v.2.2.2.2.2.1 v.2.2.2.2.2.2.1 v.2.2.2.2.2.2.2)
theorem p8_is (T : List Tok) (hT : okT T) (hl : T.length ≤ 1000) (wk : Int) :
    Evn (fun f => (f_ref25_Parse_t f).1 ((zlm, (zlm, ())), ((), ((), ((2, ()), ((wds T, ()), ((fls T, ()), ((wk, ()), ())))))))) (core25 wk T) := by
  by_cases hs : T.length < 7
  · have : core25 wk T = form25 := by unfold core25; rw [dayT_short T hs]
    rw [this]
    refine Evn.some 1 fun f => ?_
    simp only [t_ref25_Parse, f_ref25_Parse_p8, wds, fls, List.length_map, fitsS_dec, Option.bind_some, Option.isNone_none, Option.isNone_some, Option.isSome_none, Option.isSome_some, Bool.not_true, Bool.not_false, cond_true, cond_false, cond_dec, beq_int, bne_int, not_dec]
    rw [if_pos (by omega)]
  · match T, hs, hT, hl with
    | [], hs, _, _ | [_], hs, _, _ | [_, _], hs, _, _ | [_, _, _], hs, _, _ | [_, _, _, _], hs, _, _ | [_, _, _, _, _], hs, _, _ | [_, _, _, _, _, _], hs, _, _ => exact absurd (by simp) hs
    | (f0, w0) :: (f1, w1) :: (f2, w2) :: (f3, w3) :: (f4, w4) :: (f5, w5) :: (f6, w6) :: R, hs, hT, hl =>
      have k0 : okBy w0 ∧ w0.length ≤ 1000000 := hT (f0, w0) (by simp)
      have k1 : okBy w1 ∧ w1.length ≤ 1000000 := hT (f1, w1) (by simp)
      have k2 : okBy w2 ∧ w2.length ≤ 1000000 := hT (f2, w2) (by simp)
      have k3 : okBy w3 ∧ w3.length ≤ 1000000 := hT (f3, w3) (by simp)
      have k4 : okBy w4 ∧ w4.length ≤ 1000000 := hT (f4, w4) (by simp)
      have k5 : okBy w5 ∧ w5.length ≤ 1000000 := hT (f5, w5) (by simp)
      have i0 := ref25_figW w0 k0.1 k0.2 1 2
      have i1 := ref25_index w1 k1.1 k1.2 true 12 rfl
      have i2 := ref25_figW w2 k2.1 k2.2 2 4
      have i3 := ref25_figW w3 k3.1 k3.2 2 2
      have i5 := ref25_figW w5 k5.1 k5.2 2 2
      have q58 := lit1 58 (by decide) k4.1
      have a1 : ((1 : Nat) : Int) = 1 := rfl
      have a2 : ((2 : Nat) : Int) = 2 := rfl
      have a4 : ((4 : Nat) : Int) = 4 := rfl
      have a12 : ((12 : Nat) : Int) = 12 := rfl
      simp only [a1, a2, a4, a12, if_true] at i0 i1 i2 i3 i5
      simp only [List.length_cons] at hl
      have L7 : ¬ (((R.length + 1 + 1 + 1 + 1 + 1 + 1 + 1 : Nat) : Int) < 7) := by omega
      have B : ∀ k : Int, 0 ≤ k → k < 7 → ((0 : Int) ≤ k ∧ k < ((R.length + 1 + 1 + 1 + 1 + 1 + 1 + 1 : Nat) : Int)) := fun k h1 h2 => by omega
      have B0 := B 0 (by decide) (by decide)
      have B1 := B 1 (by decide) (by decide)
      have B2 := B 2 (by decide) (by decide)
      have B3 := B 3 (by decide) (by decide)
      have B4 := B 4 (by decide) (by decide)
      have B5 := B 5 (by decide) (by decide)
      have hbad : (¬ figW w0 1 2 ∨ nmI moN 12 1 w1 = 0 ∨ ¬ figW w2 2 4 ∨ f3 = false ∨ ¬ figW w3 2 2 ∨ w4 ≠ [58] ∨ ¬ figW w5 2 2) →
          core25 wk ((f0, w0) :: (f1, w1) :: (f2, w2) :: (f3, w3) :: (f4, w4) :: (f5, w5) :: (f6, w6) :: R) = form25 := by
        intro h
        have : dayT ((f0, w0) :: (f1, w1) :: (f2, w2) :: (f3, w3) :: (f4, w4) :: (f5, w5) :: (f6, w6) :: R) = none := by
          rcases h with h | h | h | h | h | h | h <;> simp [dayT, monT, yrT, hourG, hourT, colT, minT, h]
        unfold core25; rw [this]
      by_cases c0 : figW w0 1 2
      case neg =>
        rw [hbad (Or.inl c0)]
        refine Evn.some 1 fun f => ?_
        simp only [t_ref25_Parse, f_ref25_Parse_p8, wds, fls, List.map_cons, List.length_cons, List.length_map, g1, i0, c0, L7, B0, if_false, and_self, decide_true, decide_false, fitsS_dec, Option.bind_some, Option.isNone_none, Option.isNone_some, Option.isSome_none, Option.isSome_some, Bool.not_true, Bool.not_false, cond_true, cond_false, cond_dec, beq_int, bne_int, not_dec, and_dec] <;> rfl
      by_cases c1 : nmI moN 12 1 w1 = 0
      case pos =>
        rw [hbad (Or.inr (Or.inl c1))]
        refine Evn.some 1 fun f => ?_
        simp only [t_ref25_Parse, f_ref25_Parse_p8, wds, fls, List.map_cons, List.length_cons, List.length_map, g1, g2, i0, i1, c0, c1, L7, B0, B1, if_false, if_true, and_self, decide_true, decide_false, fitsS_dec, Option.bind_some, Option.isNone_none, Option.isNone_some, Option.isSome_none, Option.isSome_some, Bool.not_true, Bool.not_false, cond_true, cond_false, cond_dec, beq_int, bne_int, not_dec, and_dec] <;> rfl
      have c1' : ¬ ((nmI moN 12 1 w1 : Nat) : Int) = 0 := by omega
      by_cases c2 : figW w2 2 4
      case neg =>
        rw [hbad (Or.inr (Or.inr (Or.inl c2)))]
        refine Evn.some 1 fun f => ?_
        simp only [t_ref25_Parse, f_ref25_Parse_p8, wds, fls, List.map_cons, List.length_cons, List.length_map, g1, g2, g3, i0, i1, i2, c0, c1', c2, L7, B0, B1, B2, if_false, if_true, and_self, decide_true, decide_false, fitsS_dec, Option.bind_some, Option.isNone_none, Option.isNone_some, Option.isSome_none, Option.isSome_some, Bool.not_true, Bool.not_false, cond_true, cond_false, cond_dec, beq_int, bne_int, not_dec, and_dec] <;> rfl
      cases f3 with
      | false =>
        rw [hbad (Or.inr (Or.inr (Or.inr (Or.inl rfl))))]
        refine Evn.some 1 fun f => ?_
        simp only [t_ref25_Parse, f_ref25_Parse_p8, wds, fls, List.map_cons, List.length_cons, List.length_map, g1, g2, g3, gb4, i0, i1, i2, c0, c1', c2, L7, B0, B1, B2, B3, if_false, if_true, and_self, decide_true, decide_false, fitsS_dec, Option.bind_some, Option.isNone_none, Option.isNone_some, Option.isSome_none, Option.isSome_some, Bool.not_true, Bool.not_false, cond_true, cond_false, cond_dec, beq_int, bne_int, not_dec, and_dec] <;> rfl
      | true =>
      by_cases c3 : figW w3 2 2
      case neg =>
        rw [hbad (Or.inr (Or.inr (Or.inr (Or.inr (Or.inl c3)))))]
        refine Evn.some 1 fun f => ?_
        simp only [t_ref25_Parse, f_ref25_Parse_p8, wds, fls, List.map_cons, List.length_cons, List.length_map, g1, g2, g3, g4, gb4, i0, i1, i2, i3, c0, c1', c2, c3, L7, B0, B1, B2, B3, if_false, if_true, and_self, decide_true, decide_false, fitsS_dec, Option.bind_some, Option.isNone_none, Option.isNone_some, Option.isSome_none, Option.isSome_some, Bool.not_true, Bool.not_false, cond_true, cond_false, cond_dec, beq_int, bne_int, not_dec, and_dec] <;> rfl
      by_cases c4 : w4 = [58]
      case neg =>
        rw [hbad (Or.inr (Or.inr (Or.inr (Or.inr (Or.inr (Or.inl c4))))))]
        refine Evn.some 1 fun f => ?_
        simp only [t_ref25_Parse, f_ref25_Parse_p8, wds, fls, List.map_cons, List.length_cons, List.length_map, g1, g2, g3, g4, g5, gb4, i0, i1, i2, i3, m57_58, q58, c0, c1', c2, c3, c4, L7, B0, B1, B2, B3, B4, if_false, if_true, and_self, decide_true, decide_false, fitsS_dec, Option.bind_some, Option.isNone_none, Option.isNone_some, Option.isSome_none, Option.isSome_some, Bool.not_true, Bool.not_false, cond_true, cond_false, cond_dec, beq_int, bne_int, not_dec, and_dec] <;> rfl
      subst c4
      have c4 : ([58] : List Int) = [58] := rfl
      by_cases c5 : figW w5 2 2
      case neg =>
        rw [hbad (Or.inr (Or.inr (Or.inr (Or.inr (Or.inr (Or.inr c5))))))]
        refine Evn.some 1 fun f => ?_
        simp only [t_ref25_Parse, f_ref25_Parse_p8, wds, fls, List.map_cons, List.length_cons, List.length_map, g1, g2, g3, g4, g5, g6, gb4, i0, i1, i2, i3, i5, m57_58, q58, c0, c1', c2, c3, c5, L7, B0, B1, B2, B3, B4, B5, if_false, if_true, and_self, decide_true, decide_false, fitsS_dec, Option.bind_some, Option.isNone_none, Option.isNone_some, Option.isSome_none, Option.isSome_some, Bool.not_true, Bool.not_false, cond_true, cond_false, cond_dec, beq_int, bne_int, not_dec, and_dec] <;> rfl
      have n0 := ref25_number w0 (figW_is c0) (by have := c0.2.1; omega)
      have n2 := ref25_number w2 (figW_is c2) (by have := c2.2.1; omega)
      have n3 := ref25_number w3 (figW_is c3) (by have := c3.2.1; omega)
      have n5 := ref25_number w5 (figW_is c5) (by have := c5.2.1; omega)
      have hv := yrV_range c2
      have hcore : core25 wk ((f0, w0) :: (f1, w1) :: (f2, w2) :: (true, w3) :: (f4, [58]) :: (f5, w5) :: (f6, w6) :: R) = (match secT ((f6, w6) :: R) with | none => form25 | some v => fin25 (mk25 wk (yrV w2.length (val10 w2)) (nmI moN 12 1 w1) (val10 w0) (val10 w3) (val10 w5) v.1 v.2.1 v.2.2)) := by
        unfold core25
        simp only [dayT, monT, yrT, hourG, hourT, colT, minT, c0, c1, c2, c3, c5, if_true, if_false]
        cases secT ((f6, w6) :: R) <;> rfl
      have h19 := p19_is (f0, w0) (f1, w1) (f2, w2) (true, w3) (f4, [58]) (f5, w5) ((f6, w6) :: R) (by simp) (fun t ht => hT t (List.mem_cons_of_mem _ (List.mem_cons_of_mem _ (List.mem_cons_of_mem _ (List.mem_cons_of_mem _ (List.mem_cons_of_mem _ (List.mem_cons_of_mem _ ht))))))) (by simp only [List.length_cons]; omega) wk (yrV w2.length (val10 w2)) (nmI moN 12 1 w1) (val10 w0) (val10 w3) (val10 w5)
      rw [hcore]
      have h8 : ∀ f, (f_ref25_Parse_t (f + 1)).1 ((zlm, (zlm, ())), ((), ((), ((2, ()), ((wds ((f0, w0) :: (f1, w1) :: (f2, w2) :: (true, w3) :: (f4, [58]) :: (f5, w5) :: (f6, w6) :: R), ()), ((fls ((f0, w0) :: (f1, w1) :: (f2, w2) :: (true, w3) :: (f4, [58]) :: (f5, w5) :: (f6, w6) :: R), ()), ((wk, ()), ()))))))) =
          (f_ref25_Parse_t f).2.1 ((zlm, (zlm, ((val10 w2, ((nmI moN 12 1 w1 : Int), (val10 w0, (val10 w3, (val10 w5, (0, (0, (0, ())))))))), ()))), ((), ((), ((2, ()), ((wds ((f0, w0) :: (f1, w1) :: (f2, w2) :: (true, w3) :: (f4, [58]) :: (f5, w5) :: (f6, w6) :: R), ()), ((fls ((f0, w0) :: (f1, w1) :: (f2, w2) :: (true, w3) :: (f4, [58]) :: (f5, w5) :: (f6, w6) :: R), ()), ((wk, ()), ((), ((decide (w2.length = 3 ∨ w2.length = 2 ∧ 50 ≤ val10 w2), ()), ())))))))))  := fun f => by
        simp only [t_ref25_Parse, f_ref25_Parse_p8, wds, fls, List.map_cons, List.length_cons, List.length_map, g1, g2, g3, g4, g5, g6, gb4, i0, i1, i2, i3, i5, n0, n2, n3, n5, m57_58, q58, c0, c1', c2, c3, c5, L7, B0, B1, B2, B3, B4, B5, if_false, if_true, and_self, decide_true, decide_false, fitsS_dec, Option.bind_some, Option.isNone_none, Option.isNone_some, Option.isSome_none, Option.isSome_some, Bool.not_true, Bool.not_false, cond_true, cond_false, cond_dec, beq_int, bne_int, not_dec, and_dec, str_size, Bool.not_true, cond_false]
        by_cases y3 : w2.length = 3
        · have e : decide (w2.length = 3 ∨ w2.length = 2 ∧ 50 ≤ val10 w2) = true := decide_eq_true (Or.inl y3)
          rw [e, if_pos (by omega)]
          all_goals rfl
        · rw [if_neg (by omega)]
          by_cases y2 : w2.length = 2
          · have e : decide (w2.length = 3 ∨ w2.length = 2 ∧ 50 ≤ val10 w2) = decide (val10 w2 ≥ 50) := by rw [decide_eq_decide]; omega
            rw [e, if_pos (by omega)]
            all_goals rfl
          · have e : decide (w2.length = 3 ∨ w2.length = 2 ∧ 50 ≤ val10 w2) = false := decide_eq_false (by omega)
            rw [e, if_neg (by omega)]
            all_goals rfl
      refine Evn.step (G := fun f => (f_ref25_Parse_t f).2.1 ((zlm, (zlm, ((val10 w2, ((nmI moN 12 1 w1 : Int), (val10 w0, (val10 w3, (val10 w5, (0, (0, (0, ())))))))), ()))), ((), ((), ((2, ()), ((wds ((f0, w0) :: (f1, w1) :: (f2, w2) :: (true, w3) :: (f4, [58]) :: (f5, w5) :: (f6, w6) :: R), ()), ((fls ((f0, w0) :: (f1, w1) :: (f2, w2) :: (true, w3) :: (f4, [58]) :: (f5, w5) :: (f6, w6) :: R), ()), ((wk, ()), ((), ((decide (w2.length = 3 ∨ w2.length = 2 ∧ 50 ≤ val10 w2), ()), ())))))))))) (h19.step fun f => ?_) h8
      have lw := c2.1
      have lw2 := c2.2.1
      have y1 : iadd .i64 (val10 w2) 1900 = val10 w2 + 1900 := iadd_i64 (by omega)
      have y2 : iadd .i64 (val10 w2) 2000 = val10 w2 + 2000 := iadd_i64 (by omega)
      simp only [t_ref25_Parse, f_ref25_Parse_p20, wds, fls, List.map_cons, List.length_cons, List.length_map, g3, str_size, y1, y2, B2, fitsS_dec, Option.bind_some, Option.isNone_none, Option.isNone_some, Option.isSome_none, Option.isSome_some, Bool.not_true, Bool.not_false, cond_true, cond_false, cond_dec, beq_int, bne_int, not_dec, and_dec, and_self, if_true]
      by_cases z3 : w2.length = 3
      · rw [if_pos (Or.inl z3)]
        have : yrV w2.length (val10 w2) = val10 w2 + 1900 := by unfold yrV; rw [if_pos z3]; omega
        rw [this]
      · by_cases z2 : w2.length = 2
        · by_cases z5 : 50 ≤ val10 w2
          · rw [if_pos (Or.inr ⟨z2, z5⟩)]
            have : yrV w2.length (val10 w2) = val10 w2 + 1900 := by unfold yrV; rw [if_neg z3, if_neg (by omega), if_pos z2]; omega
            rw [this]
          · rw [if_neg (by omega), if_pos (by omega)]
            have : yrV w2.length (val10 w2) = val10 w2 + 2000 := by unfold yrV; rw [if_neg z3, if_pos ⟨z2, by omega⟩]; omega
            rw [this]
        · rw [if_neg (by omega), if_neg (by omega)]
          have : yrV w2.length (val10 w2) = val10 w2 := by unfold yrV; rw [if_neg z3, if_neg (by omega), if_neg z2]
          rw [this]
theorem tk_ok : ∀ (n : Nat) (l : List Int) (T : List Tok), l.length ≤ n → okBy l → tk l = some T → ∀ t ∈ T, okBy t.2 ∧ t.2.length ≤ l.length := by
  intro n; induction n with
  | zero =>
    intro l T hn ho h
    have : l = [] := List.length_eq_zero_iff.1 (by omega)
    subst this
    rw [tk_nil gp_nil] at h
    rw [← Option.some.inj h]; intro t ht; cases ht
  | succ n ih =>
    intro l T hn ho h
    cases T with
    | nil => intro t ht; cases ht
    | cons a T =>
      obtain ⟨f, w⟩ := a
      obtain ⟨c, r, h1, h2, h3⟩ := tk_first h
      obtain ⟨p, hp⟩ := gp_cut l.length l _ (Nat.le_refl _) h1
      have ho2 : okBy (c :: r) := fun x hx => ho x (by rw [hp]; exact List.mem_append_right _ hx)
      have hl := gp_len h1
      simp only [List.length_cons] at hl
      intro t ht
      rcases List.mem_cons.1 ht with rfl | ht
      · simp only
        rw [h2]
        refine ⟨fun x hx => ?_, ?_⟩
        · rcases List.mem_cons.1 hx with rfl | hx
          · exact ho2 _ List.mem_cons_self
          · exact ho2 _ (List.mem_cons_of_mem _ (List.mem_of_mem_take hx))
        · simp only [List.length_cons, List.length_take]; omega
      · have := ih (r.drop (wrd c r)) T (by rw [List.length_drop]; omega) (fun x hx => ho2 x (List.mem_cons_of_mem _ (List.mem_of_mem_drop hx))) h3 t ht
        rw [List.length_drop] at this
        exact ⟨this.1, by omega⟩
@[reducible] def wkdV := Int × (Int × (Int × (Int × (Int × (Int × (Int × (Int × Bool)))))))
def mkV (v : wkdV) : MP := mk25 v.1 v.2.2.2.1 v.2.2.1 v.2.1 v.2.2.2.2.1 v.2.2.2.2.2.1 v.2.2.2.2.2.2.1 v.2.2.2.2.2.2.2.1 v.2.2.2.2.2.2.2.2
theorem ref25_parse (s : ByteArray) (hs : s.size ≤ 1000) : g_ref25_Parse ((), ((s, ()), ())) = some (match (tk (bytesOf s)).bind wkdT with | none => form25 | some v => fin25 (mkV v)) := by
  have hp := ref25_parts s hs
  cases ht : tk (bytesOf s) with
  | none =>
    rw [ht] at hp
    refine (Evn.const (F := fun f => f_ref25_Parse_m (f_ref25_Parse_t f) ((), ((s, ()), ()))) fun f => ?_).lim
    simp only [f_ref25_Parse_m, hp, partsV, Option.bind_some, Bool.not_false, cond_true, Option.bind_none]
  | some T =>
    rw [ht] at hp
    have hok := tk_ok _ (bytesOf s) T (Nat.le_refl _) (by_ok s) ht
    have hlen := tk_len _ (bytesOf s) T (Nat.le_refl _) ht
    rw [by_len] at hok hlen
    have hT : okT T := fun t h => ⟨(hok t h).1, by have := (hok t h).2; omega⟩
    simp only [Option.bind_some]
    simp only [partsV, List.nil_append] at hp
    have plain : wkdT T = (dayT T).map (fun v => (0, v)) → (∀ f, f_ref25_Parse_m (f_ref25_Parse_t f) ((), ((s, ()), ())) = (f_ref25_Parse_t f).1 ((zlm, (zlm, ())), ((), ((), ((2, ()), ((wds T, ()), ((fls T, ()), ((0, ()), ())))))))) → g_ref25_Parse ((), ((s, ()), ())) = some (match wkdT T with | none => form25 | some v => fin25 (mkV v)) := fun h1 h2 => by
      have h8 := p8_is T hT (by omega) 0
      have : core25 0 T = (match wkdT T with | none => form25 | some v => fin25 (mkV v)) := by
        rw [h1]; unfold core25
        cases dayT T <;> rfl
      rw [← this]
      exact (h8.cast h2).lim
    match T, hT, hlen, hp, plain with
    | [], hT, hlen, hp, plain =>
      refine plain rfl fun f => ?_
      simp only [f_ref25_Parse_m, hp, Option.bind_some, wds, fls, List.map_nil]; rfl
    | [(f, w)], hT, hlen, hp, plain =>
      refine plain rfl fun f => ?_
      simp only [f_ref25_Parse_m, hp, Option.bind_some, wds, fls, List.map_nil, List.map_cons]; rfl
    | (f, w) :: (g, c) :: T, hT, hlen, hp, plain =>
      have k0 : okBy w ∧ w.length ≤ 1000000 := hT (f, w) (by simp)
      have k1 : okBy c ∧ c.length ≤ 1000000 := hT (g, c) (by simp)
      have q44 := lit1 44 (by decide) k1.1
      simp only [List.length_cons] at hlen
      by_cases hc : c = [44]
      · subst hc
        have hi := ref25_index w k0.1 k0.2 false 7 rfl
        have a7 : ((7 : Nat) : Int) = 7 := rfl
        simp only [Bool.false_eq_true, if_false, a7] at hi
        have T2 : Int.toNat 2 = 2 := rfl
        have hcut2 : ∀ {α : Type} (a0 a1 : α) (l : List α), List.drop 2 (List.take ((l.length + 1 + 1 : Nat) : Int).toNat (a0 :: a1 :: l)) = l := fun a0 a1 l => by
          rw [Int.toNat_natCast, List.take_of_length_le (by simp)]; rfl
        have hc2 := hcut2 (strOf w) (strOf [44]) (T.map fun t => strOf t.2)
        have hb2 := hcut2 f g (T.map fun t => t.1)
        simp only [List.length_map] at hc2 hb2
        by_cases hz : nmI wkN 7 1 w = 0
        · have : wkdT ((f, w) :: (g, [44]) :: T) = none := by simp only [wkdT, if_true, if_pos hz]
          rw [this]
          refine (Evn.const (F := fun f => f_ref25_Parse_m (f_ref25_Parse_t f) ((), ((s, ()), ()))) fun f => ?_).lim
          simp only [f_ref25_Parse_m, hp, Option.bind_some, wds, fls, List.map_cons, List.length_cons, List.length_map, g1, g2, m57_44, q44, hi, hz, fitsS_dec, Option.bind_some, Option.isNone_none, Option.isNone_some, Option.isSome_none, Option.isSome_some, Bool.not_true, Bool.not_false, cond_true, cond_false, cond_dec, beq_int, bne_int, not_dec, and_dec, decide_true, gt_iff_lt]
          rw [if_pos (by omega), if_pos (by omega), if_pos (by omega)]
          all_goals rfl
        · have hzi : ¬ ((nmI wkN 7 1 w : Nat) : Int) = 0 := by omega
          have h8 := p8_is T (fun t h => hT t (List.mem_cons_of_mem _ (List.mem_cons_of_mem _ h))) (by omega) (nmI wkN 7 1 w)
          have : core25 (nmI wkN 7 1 w) T = (match wkdT ((f, w) :: (g, [44]) :: T) with | none => form25 | some v => fin25 (mkV v)) := by
            simp only [wkdT, if_true, if_neg hz]
            unfold core25
            cases dayT T <;> rfl
          rw [← this]
          refine (h8.cast fun f => ?_).lim
          simp only [f_ref25_Parse_m, hp, Option.bind_some, wds, fls, List.map_cons, List.length_cons, List.length_map, g1, g2, m57_44, q44, hi, hzi, T2, hc2, hb2, fitsS_dec, Option.bind_some, Option.isNone_none, Option.isNone_some, Option.isSome_none, Option.isSome_some, Bool.not_true, Bool.not_false, cond_true, cond_false, cond_dec, beq_int, bne_int, not_dec, and_dec, decide_true, gt_iff_lt]
          rw [if_pos (by omega), if_pos (by omega), if_pos (by omega)]
          try simp only [if_false]
          rw [if_pos (by omega), if_pos (by omega)]
          all_goals rfl
      · refine plain (by simp only [wkdT, if_neg hc]) fun f => ?_
        simp only [f_ref25_Parse_m, hp, Option.bind_some, wds, fls, List.map_cons, List.length_cons, List.length_map, g1, g2, m57_44, q44, hc, fitsS_dec, Option.bind_some, Option.isNone_none, Option.isNone_some, Option.isSome_none, Option.isSome_some, Bool.not_true, Bool.not_false, cond_true, cond_false, cond_dec, beq_int, bne_int, not_dec, and_dec, decide_false, gt_iff_lt]
        rw [if_pos (by omega), if_pos (by omega)]
        all_goals rfl
theorem mail_both (s : ByteArray) (hs : s.size ≤ 1000) : (∃ e : Int, e ≠ 0 ∧ g_mail_Parse ((), ((s, ()), ())) = some ((), (zlm, ((errOf e, ()), ()))) ∧ g_ref25_Parse ((), ((s, ()), ())) = some ((), (zlm, ((e, ()), ())))) ∨
    (∃ l : Lab, labErr l = 0 ∧ g_mail_Parse ((), ((s, ()), ())) = some ((), (l.t, ((none, ()), ()))) ∧ g_ref25_Parse ((), ((s, ()), ())) = some ((), (l.t, ((0, ()), ())))) := by
  have h1 := mail_parse s (by omega)
  have h2 := ref25_parse s hs
  have h3 := parts_sim s.size (bytesOf s)
  have hm := mpX_wkd s.size (bytesOf s)
  cases hA : (tk (bytesOf s)).bind wkdT with
  | none =>
    rw [hA] at h2 h3
    have he : (mpX s.size (bytesOf s)).err = 2 := by
      unfold MP.err
      rw [if_pos]
      rw [hm]; exact h3
    rw [he, if_neg (by decide)] at h1
    exact Or.inl ⟨2, by decide, h1, h2⟩
  | some v =>
    rw [hA] at h2 h3
    obtain ⟨h4, h5⟩ := h3
    have hq : mpX s.size (bytesOf s) = { mkV v with e := (wkdK s.size (gapX s.size (.good (bytesOf s))).1).1 } := by
      rw [hm]; simp only [h5]; rfl
    have he : (mpX s.size (bytesOf s)).err = (mkV v).err := by
      rw [hq]
      unfold MP.err
      have e1 : (mkV v).e.end = none := by simp [mkV, mk25, X.end]
      simp only [h4, e1]; rfl
    have hl : (mpX s.size (bytesOf s)).lab = (mkV v).lab := by rw [hq]; rfl
    rw [he, hl] at h1
    unfold fin25 at h2
    simp only at h2
    by_cases c : (mkV v).err = 0
    · rw [c, if_pos rfl] at h1 h2
      refine Or.inr ⟨_, ?_, h1, h2⟩
      generalize mkV v = P at c
      unfold MP.err at c
      by_cases c1 : P.e.end = none
      · rw [if_neg (not_not_intro c1)] at c
        by_cases c2 : P.ok = false
        · rw [if_pos c2] at c; cases c
        · rw [if_neg c2] at c
          by_cases c3 : P.y < 1900
          · rw [if_pos c3] at c; cases c
          · rw [if_neg c3] at c
            by_cases c4 : labErr P.lab = 0
            · exact c4
            · rw [if_pos c4] at c; exact absurd c c4
      · rw [if_pos c1] at c; cases c
    · rw [if_neg c] at h1 h2
      exact Or.inl ⟨_, c, h1, h2⟩
theorem mp_ref12_has {l : List (Int × Int)} (h : GoodT l) (u e n s : Int) {k : Nat} (hk : Cnt l n k) : g_ref12_Has ((), (tbR l u e, ((n, ()), ((s, ()), ())))) = some ((), ((decide (0 ≤ s ∧ s < 86400 + leapV l n k), ()), ())) := by
  have hr := leapV_range h n k
  simp only [g_ref12_Has, f_ref12_Has_m, ref10_leap h u e n hk, fitsS_dec, Option.bind_some, Option.isNone_none, Option.isNone_some, Option.isSome_none, Option.isSome_some, Bool.not_true, Bool.not_false, cond_true, cond_false, cond_dec, beq_int, bne_int, not_dec, ge_iff_le]
  rw [iadd_i64 (by omega)]
  by_cases c : 0 ≤ s
  · simp [c]
  · simp [c]
theorem mail_parses (s : ByteArray) (l : List (Int × Int)) (u e : Int) : g_law25_MailParses ((), ((s, ()), (tbR l u e, ()))) = some ((), ((true, ()), ())) := by
  simp only [g_law25_MailParses, f_law25_MailParses_m, mail_alive, g_law10_Long, f_law10_Long_m, fitsS_dec, Option.bind_some, Option.isNone_none, Option.isNone_some, Option.isSome_none, Option.isSome_some, Bool.not_true, Bool.not_false, cond_true, cond_false, cond_dec, beq_int, bne_int, not_dec, gt_iff_lt]
  by_cases c0 : 300 < s.size
  · rw [if_pos (by omega)]
  rw [if_neg (by omega)]
  by_cases c1 : 296 < l.length
  · rw [if_pos (by omega)]
  rw [if_neg (by omega)]
  have hm := made l (by omega) u e
  have hc := ref10_check l u e
  rcases mail_both s (by omega) with ⟨er, he, h1, h2⟩ | ⟨q, hq, h1, h2⟩
  · have hn : g_hnum_Num ((), ((errOf er, ()), ())) = some ((), ((er, ()), ())) := num_num er
    simp only [h1, h2, document, hn, hm, hc, fitsS_dec, Option.bind_some, Option.isNone_none, Option.isNone_some, Option.isSome_none, Option.isSome_some, Bool.not_true, Bool.not_false, cond_true, cond_false, cond_dec, beq_int, bne_int, not_dec]
    by_cases c : tErr l u e = 0
    · simp only [g_mail_ParseBy, f_mail_ParseBy_m, h1, document, hn, errOf_none, c, he, fitsS_dec, Option.bind_some, Option.isNone_none, Option.isNone_some, Option.isSome_none, Option.isSome_some, Bool.not_true, Bool.not_false, cond_true, cond_false, cond_dec, beq_int, bne_int, not_dec]
      simp [he, hn]
    · simp [c, he, errOf_none]
  · have hn : g_hnum_Num ((), ((none, ()), ())) = some ((), ((0, ()), ())) := num_num 0
    have hn12 : g_hnum_Num ((), ((some 12, ()), ())) = some ((), ((12, ()), ())) := num_num 12
    have s1 := label_split q
    have s2 := ref08_split q
    rw [hq] at s1 s2
    simp only [Lab.t, if_true, errOf_zero] at h1 h2 s1 s2
    simp only [h1, h2, document, hn, hm, hc, fitsS_dec, Option.bind_some, Option.isNone_none, Option.isNone_some, Option.isSome_none, Option.isSome_some, Bool.not_true, Bool.not_false, cond_true, cond_false, cond_dec, beq_int, bne_int, not_dec]
    by_cases c : tErr l u e = 0
    · obtain ⟨hg, _, _⟩ := good_of c
      obtain ⟨k, hk, hb⟩ := behind hg u e (labN q)
      have h6 := table_has hg u e hk hb (labS q)
      have h7 := mp_ref12_has hg u e (labN q) (labS q) hk
      simp only [g_mail_ParseBy, f_mail_ParseBy_m, g_scale_Listed, f_scale_Listed_m, h1, s1, s2, document, hn, c, if_true, h6, h7, hn12, fitsS_dec, Option.bind_some, Option.isNone_none, Option.isNone_some, Option.isSome_none, Option.isSome_some, Bool.not_true, Bool.not_false, cond_true, cond_false, cond_dec, beq_int, bne_int, not_dec]
      by_cases c2 : 0 ≤ labS q ∧ labS q < 86400 + leapV l (labN q) k
      · simp [c2, hn]
      · simp [c2, hn12]
    · simp [c]
end Go.Proofs.YtddnfappkfiidaaGreat.Ev
