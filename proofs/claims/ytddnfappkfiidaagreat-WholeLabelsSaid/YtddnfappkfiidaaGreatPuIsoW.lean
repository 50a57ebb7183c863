/- ISO instants: what is put, and the first texts. -/
import Derived.Test.YtddnfappkfiidaaGreatPuIsoR
import Derived.Test.YtddnfappkfiidaaGreatPuDig
namespace Go.Proofs.YtddnfappkfiidaaGreat.Ev
open Go
set_option linter.unusedVariables false
set_option linter.unusedSimpArgs false
def dayL (y m d : Int) : List Int := dgs y.toNat 4 ++ (45 :: (dgs m.toNat 2 ++ (45 :: dgs d.toNat 2)))
def offL (o : Int) : List Int := if o = 0 then [90] else (if o < 0 then 45 else 43) :: (dgs (o.natAbs / 60) 2 ++ (58 :: dgs (o.natAbs % 60) 2))
def pntL (f : List Int) : List Int := if f = [] then [] else 46 :: f
def isoL (l : Lab) (f : List Int) : List Int :=
  dayL l.y l.m l.d ++ (84 :: (dgs l.h.toNat 2 ++ (58 :: (dgs l.i.toNat 2 ++ (58 :: (dgs l.s.toNat 2 ++ (pntL f ++ offL l.o)))))))
theorem iso_put_w (out L : List Int) (v : Int) (w : Nat) (hL : okBy L) (hv : 0 ≤ v ∧ v < 10 ^ w) (hw : 1 ≤ w ∧ w ≤ 18) (h : out.length + L.length ≤ 1000) : g_iso_writer_put_io (((none, ()), (out, ())), ((), ((strOf L, ()), ((v, ()), (((w : Int), ()), ()))))) = some (((none, ()), (out ++ (L ++ dgs v.toNat w), ())), ((), ())) := by
  simp only [g_iso_writer_put_io, f_iso_writer_put_io_m, fig_put_dg v w hv hw, Option.bind_some, fitsS_dec, Option.bind_some, Option.isNone_none, Option.isNone_some, Option.isSome_none, Option.isSome_some, Bool.not_true, Bool.not_false, cond_true, cond_false, cond_dec, beq_int, bne_int, not_dec, and_dec, by_str hL, by_str (dgs_by w v.toNat), List.length_append, dgs_len]
  rw [if_pos (by omega), if_pos (by omega), List.append_assoc]
theorem dayL_len (y m d : Int) : (dayL y m d).length = 10 := by unfold dayL; simp [dgs_len]
theorem dayL_by (y m d : Int) : okBy (dayL y m d) := okBy_app (dgs_by _ _) (okBy_cons (by omega) (okBy_app (dgs_by _ _) (okBy_cons (by omega) (dgs_by _ _))))
theorem iso_writer_date {y m d : Int} (hy : 0 ≤ y ∧ y ≤ 9999) (hm : 1 ≤ m ∧ m ≤ 12) (hd : 1 ≤ d ∧ d ≤ 31) : g_iso_writer_date_io (((none, ()), ([], ())), ((), ((y, ()), ((m, ()), ((d, ()), ()))))) = some (((none, ()), (dayL y m d, ())), ((), ())) := by
  have l45 : (⟨#[45]⟩ : ByteArray) = strOf [45] := by kernel_rfl
  have e2 : ((2 : Nat) : Int) = 2 := rfl
  have e4 : ((4 : Nat) : Int) = 4 := rfl
  have p1 := iso_put_w [] [] y 4 okBy_nil (by omega) (by omega) (by simp)
  have p2 := iso_put_w ([] ++ ([] ++ dgs y.toNat 4)) [45] m 2 (ib1 (by omega)) (by omega) (by omega) (by simp [dgs_len])
  have p3 := iso_put_w (([] ++ ([] ++ dgs y.toNat 4)) ++ ([45] ++ dgs m.toNat 2)) [45] d 2 (ib1 (by omega)) (by omega) (by omega) (by simp [dgs_len])
  rw [e2] at p2 p3
  rw [e4] at p1
  simp only [g_iso_writer_date_io, f_iso_writer_date_io_m, l45, sc_nil, p1, p2, p3, Option.bind_some, dayL]
  simp only [List.nil_append, List.append_assoc, List.cons_append]
theorem iso_text (l : Lab) (f : List Int) (h1 : labErr l = 0) (h2 : 0 ≤ l.y) (hf : ∀ x ∈ f, isF x) (hl : f.length ≤ 9) : g_iso_text ((), (l.t, ((strOf f, ()), ()))) = some ((), ((strOf (isoL l f), ()), ((none, ()), ()))) := by
  obtain ⟨d1, d2, d3, d4⟩ := labErr_zero h1
  have hz := dErr_zero.1 d1
  have hfe := fErr_zero.1 d2
  have hml := mlen_range l.y l.m
  have hd := iso_writer_date (y := l.y) (m := l.m) (d := l.d) (by omega) hz.2.1 (by omega)
  have hdl := dayL_len l.y l.m l.d
  have hof := figs_okBy hf
  have l84 : (⟨#[84]⟩ : ByteArray) = strOf [84] := by kernel_rfl
  have l58 : (⟨#[58]⟩ : ByteArray) = strOf [58] := by kernel_rfl
  have l45 : (⟨#[45]⟩ : ByteArray) = strOf [45] := by kernel_rfl
  have l43 : (⟨#[43]⟩ : ByteArray) = strOf [43] := by kernel_rfl
  have l90 : (⟨#[90]⟩ : ByteArray) = strOf [90] := by kernel_rfl
  have P : ∀ (out : List Int) (c v : Int), (0 ≤ c ∧ c < 256) → (0 ≤ v ∧ v < 100) → out.length ≤ 500 → g_iso_writer_put_io (((none, ()), (out, ())), ((), ((strOf [c], ()), ((v, ()), ((2, ()), ()))))) = some (((none, ()), (out ++ (c :: dgs v.toNat 2), ())), ((), ())) :=
    fun out c v hc hv ho => iso_put_w out [c] v 2 (ib1 hc) (by omega) (by omega) (by simp only [List.length_cons, List.length_nil]; omega)
  have p1 := P (dayL l.y l.m l.d) 84 l.h (by omega) (by omega) (by omega)
  have p2 := P (dayL l.y l.m l.d ++ (84 :: dgs l.h.toNat 2)) 58 l.i (by omega) (by omega) (by simp only [List.length_append, List.length_cons, dgs_len, hdl]; omega)
  have p3 := P ((dayL l.y l.m l.d ++ (84 :: dgs l.h.toNat 2)) ++ (58 :: dgs l.i.toNat 2)) 58 l.s (by omega) (by omega) (by simp only [List.length_append, List.length_cons, dgs_len, hdl]; omega)
  have ho := hfe.2.2.2.2
  generalize hB : ((dayL l.y l.m l.d ++ (84 :: dgs l.h.toNat 2)) ++ (58 :: dgs l.i.toNat 2)) ++ (58 :: dgs l.s.toNat 2) = B at p3
  have hBl : B.length = 19 := by rw [← hB]; simp only [List.length_append, List.length_cons, dgs_len, hdl]
  have hiso : isoL l f = B ++ (pntL f ++ offL l.o) := by
    rw [← hB]; unfold isoL; simp only [List.append_assoc, List.cons_append]
  rw [hiso]
  have tail : ∀ C : List Int, C.length ≤ 40 → ((bif l.o == 0 then (bif fitsS (strOf C) (strOf [90]) then some ((), ((strOf C ++ strOf [90], ()), ((none, ()), ()))) else none) else
      (bif decide (l.o < 0) then ((g_iso_writer_put_io (((none, ()), (C, ())), ((), ((strOf [45], ()), ((iquo .i64 (ineg .i64 l.o) 60, ()), ((2, ()), ())))))).bind fun x15 => (g_iso_writer_put_io (((x15.1.1.1, ()), (x15.1.2.1, ())), ((), ((strOf [58], ()), ((Int.tmod (ineg .i64 l.o) 60, ()), ((2, ()), ())))))).bind fun x18 => some ((), ((strOf x18.1.2.1, ()), ((x18.1.1.1, ()), ()))))
      else ((g_iso_writer_put_io (((none, ()), (C, ())), ((), ((strOf [43], ()), ((iquo .i64 l.o 60, ()), ((2, ()), ())))))).bind fun x21 => (g_iso_writer_put_io (((x21.1.1.1, ()), (x21.1.2.1, ())), ((), ((strOf [58], ()), ((Int.tmod l.o 60, ()), ((2, ()), ())))))).bind fun x23 => some ((), ((strOf x23.1.2.1, ()), ((x23.1.1.1, ()), ())))))) : Option (Unit × ((ByteArray × Unit) × ((Option Int × Unit) × Unit)))) = some ((), ((strOf (C ++ offL l.o), ()), ((none, ()), ()))) := fun C hC => by
    unfold offL
    by_cases c0 : l.o = 0
    · have : (l.o == 0) = true := by simpa using c0
      rw [this, if_pos c0, cond_true, fits_str _ _ (by simp only [List.length_cons, List.length_nil]; omega), cond_true, str_app]
    · have : (l.o == 0) = false := by simpa using c0
      rw [this, if_neg c0, cond_false]
      by_cases c1 : l.o < 0
      · have n1 : ineg .i64 l.o = -l.o := ineg_i64 (by omega)
        have n2 : iquo .i64 (-l.o) 60 = -l.o / 60 := iquo_nn (by decide) (by omega)
        rw [decide_eq_true c1, cond_true, n1, n2, tmod_nn (by omega), P C 45 (-l.o / 60) (by omega) (by omega) (by omega), Option.bind_some,
          P _ 58 (-l.o % 60) (by omega) (by omega) (by simp only [List.length_append, List.length_cons, dgs_len]; omega), Option.bind_some, if_pos c1,
          show l.o.natAbs / 60 = (-l.o / 60).toNat by omega, show l.o.natAbs % 60 = (-l.o % 60).toNat by omega]
        simp only [List.append_assoc, List.cons_append]
      · have n2 : iquo .i64 l.o 60 = l.o / 60 := iquo_nn (by decide) (by omega)
        rw [decide_eq_false c1, cond_false, n2, tmod_nn (by omega), P C 43 (l.o / 60) (by omega) (by omega) (by omega), Option.bind_some,
          P _ 58 (l.o % 60) (by omega) (by omega) (by simp only [List.length_append, List.length_cons, dgs_len]; omega), Option.bind_some, if_neg c1,
          show l.o.natAbs / 60 = (l.o / 60).toNat by omega, show l.o.natAbs % 60 = (l.o % 60).toNat by omega]
        simp only [List.append_assoc, List.cons_append]
  simp only [g_iso_text, f_iso_text_m, Lab.t, hd, l84, l58, l45, l43, l90, sc_nil, p1, p2, p3, Option.bind_some, str_emp]
  by_cases c : f = []
  · subst c
    simp only [decide_true, Bool.not_true, cond_false, pntL, if_true, List.nil_append]
    exact tail B (by omega)
  · simp only [c, decide_false, Bool.not_false, cond_true, by_str hof, List.length_append, List.length_cons, List.length_nil, and_dec, cond_dec]
    rw [if_pos (by omega), if_pos (by omega)]
    have := tail ((B ++ [46]) ++ f) (by simp only [List.length_append, List.length_cons, List.length_nil]; omega)
    rw [show B ++ (pntL f ++ offL l.o) = ((B ++ [46]) ++ f) ++ offL l.o by simp only [pntL, if_neg c, List.append_assoc, List.cons_append, List.nil_append]]
    simp only [cond_dec] at this
    exact this
def rgtE (l : Lab) : Int := if labErr l ≠ 0 then labErr l else if l.y < 0 then 13 else 0
theorem iso_right (l : Lab) : g_iso_right ((), (l.t, ())) = some ((), ((errOf (rgtE l), ()), ())) := by
  have hc := label_check l
  simp only [Lab.t] at hc
  simp only [g_iso_right, f_iso_right_m, Lab.t, hc, errOf_none, fitsS_dec, Option.bind_some, Option.isNone_none, Option.isNone_some, Option.isSome_none, Option.isSome_some, Bool.not_true, Bool.not_false, cond_true, cond_false, cond_dec, beq_int, bne_int, not_dec]
  unfold rgtE
  by_cases c : labErr l = 0
  · rw [if_neg (not_not_intro c), if_neg (not_not_intro c)]
    by_cases c2 : l.y < 0
    · rw [if_pos c2, if_pos c2]; rfl
    · rw [if_neg c2, if_neg c2]; rfl
  · rw [if_pos c, if_pos c]
def putI (l : Lab) (m : Int) : Int := if rgtE l ≠ 0 then rgtE l else if inNano l.n ∧ 0 ≤ m ∧ m ≤ 9 then 0 else 1
theorem putI_zero {l : Lab} {m : Int} (h : putI l m = 0) : labErr l = 0 ∧ 0 ≤ l.y ∧ inNano l.n ∧ 0 ≤ m ∧ m ≤ 9 := by
  unfold putI rgtE at h
  by_cases c : labErr l = 0
  · by_cases c2 : l.y < 0
    · rw [if_neg (not_not_intro c), if_pos c2, if_pos (by decide)] at h; cases h
    · rw [if_neg (not_not_intro c), if_neg c2, if_neg (by decide)] at h
      by_cases c3 : inNano l.n ∧ 0 ≤ m ∧ m ≤ 9
      · exact ⟨c, by omega, c3.1, c3.2.1, c3.2.2⟩
      · rw [if_neg c3] at h; cases h
  · rw [if_pos c, if_pos c] at h; exact absurd h c
theorem iso_put {l : Lab} {m : Int} (h : putI l m = 0) : g_iso_Put ((), (l.t, ((m, ()), ()))) = some ((), ((strOf (isoL l ((nine l.n).take m.toNat)), ()), ((none, ()), ()))) := by
  obtain ⟨h1, h2, h3, h4, h5⟩ := putI_zero h
  have hr := iso_right l
  have hr0 : rgtE l = 0 := by unfold rgtE; rw [if_neg (not_not_intro h1), if_neg (by omega)]
  have hp := fig_putfraction l.n m
  rw [if_pos ⟨h3, h4, h5⟩, if_pos ⟨h3, h4, h5⟩, errOf_zero] at hp
  have ht := iso_text l ((nine l.n).take m.toNat) h1 h2 (fun x hx => padd_figs _ _ x (List.mem_of_mem_take hx)) (by rw [List.length_take]; omega)
  rw [hr0, errOf_zero] at hr
  simp only [Lab.t] at hr ht
  simp only [g_iso_Put, f_iso_Put_m, Lab.t, hr, hp, ht, fitsS_dec, Option.bind_some, Option.isNone_none, Option.isNone_some, Option.isSome_none, Option.isSome_some, Bool.not_true, Bool.not_false, cond_true, cond_false, cond_dec, beq_int, bne_int, not_dec]
theorem iso_put_bad {l : Lab} {m : Int} (h : putI l m ≠ 0) : g_iso_Put ((), (l.t, ((m, ()), ()))) = some ((), ((strOf [], ()), ((errOf (putI l m), ()), ()))) := by
  have hr := iso_right l
  have hp := fig_putfraction l.n m
  simp only [Lab.t] at hr
  unfold putI at h ⊢
  by_cases c : rgtE l = 0
  · rw [if_neg (not_not_intro c)] at h ⊢
    by_cases c2 : inNano l.n ∧ 0 ≤ m ∧ m ≤ 9
    · rw [if_pos c2] at h; exact absurd rfl h
    · rw [if_neg c2, if_neg c2] at hp
      rw [if_neg c2]
      rw [c, errOf_zero] at hr
      simp only [g_iso_Put, f_iso_Put_m, Lab.t, hr, hp, sc_nil, errOf_none, fitsS_dec, Option.bind_some, Option.isNone_none, Option.isNone_some, Option.isSome_none, Option.isSome_some, Bool.not_true, Bool.not_false, cond_true, cond_false, cond_dec, beq_int, bne_int, not_dec]
      simp
  · rw [if_pos c] at h ⊢
    simp only [g_iso_Put, f_iso_Put_m, Lab.t, hr, sc_nil, errOf_none, c, not_false_eq_true, if_true, fitsS_dec, Option.bind_some, Option.isNone_none, Option.isNone_some, Option.isSome_none, Option.isSome_some, Bool.not_true, Bool.not_false, cond_true, cond_false, cond_dec, beq_int, bne_int, not_dec]
@[reducible] def firstI : List Int := [49, 57, 57, 48, 45, 49, 50, 45, 51, 49, 84, 49, 53, 58, 53, 57, 58, 54, 48, 45, 48, 56, 58, 48, 48]
end Go.Proofs.YtddnfappkfiidaaGreat.Ev
