/- Twelve counts: reading a text, by the program. -/
import Derived.Test.YtfhaifiipjfffaaGreatDoorPuTallyP
import Derived.Test.YtfhaifiipjfffaaGreatDoorPuTallyM
namespace Go.Proofs.YtfhaifiipjfffaaGreatDoor.Ev
open Go
set_option linter.unusedVariables false
set_option linter.unusedSimpArgs false
set_option maxRecDepth 4000
@[reducible] def tS (l : List ByteArray) : ByteArray × (ByteArray × (ByteArray × (ByteArray × (ByteArray × (ByteArray × (ByteArray × (ByteArray × (ByteArray × (ByteArray × (ByteArray × (ByteArray × (Unit)))))))))))) := (l.getD 0 ByteArray.empty, (l.getD 1 ByteArray.empty, (l.getD 2 ByteArray.empty, (l.getD 3 ByteArray.empty, (l.getD 4 ByteArray.empty, (l.getD 5 ByteArray.empty, (l.getD 6 ByteArray.empty, (l.getD 7 ByteArray.empty, (l.getD 8 ByteArray.empty, (l.getD 9 ByteArray.empty, (l.getD 10 ByteArray.empty, (l.getD 11 ByteArray.empty, ()))))))))))))
theorem l12S {m : List ByteArray} (h : m.length = 12) : ∃ a0 a1 a2 a3 a4 a5 a6 a7 a8 a9 a10 a11 : ByteArray, m = [a0, a1, a2, a3, a4, a5, a6, a7, a8, a9, a10, a11] := by
  match m, h with
  | [a0, a1, a2, a3, a4, a5, a6, a7, a8, a9, a10, a11], _ => exact ⟨a0, a1, a2, a3, a4, a5, a6, a7, a8, a9, a10, a11, rfl⟩
theorem set_rep {α : Type} (l : List α) (x z : α) (n : Nat) : (l ++ List.replicate (n + 1) z).set l.length x = (l ++ [x]) ++ List.replicate n z := by
  rw [List.set_append_right _ _ (Nat.le_refl _), Nat.sub_self, List.append_assoc]
  rfl
theorem lead_allT : ∀ l : List Int, (∀ x ∈ l, isF x) → lead l = l.length
  | [], _ => rfl
  | x :: l, h => by
    unfold lead
    rw [if_pos (h x List.mem_cons_self), lead_allT l (fun y hy => h y (List.mem_cons_of_mem _ hy))]; rfl
theorem tally_whole (l : List Int) (h : wOk l) : g_figures_Whole ((), ((strOf l, ()), ((1, ()), ((19, ()), ())))) =
    some ((), ((if val10 l ≤ 9223372036854775807 then val10 l else 0, ()), ((if val10 l ≤ 9223372036854775807 then none else some 5, ()), ()))) := by
  obtain ⟨hl, hf, _⟩ := h
  have ho : okBy l := fun x hx => by
    have := hf x hx
    unfold isF at this; omega
  have ht := fig_take (strOf l) (by rw [str_size]; omega) 1 19 9223372036854775807 (by omega)
  unfold takeE takeK cutV at ht
  rw [by_str ho, lead_allT l hf, show Int.toNat 19 = 19 from rfl, show min l.length 19 = l.length by omega, List.take_length] at ht
  simp only [show ¬((1 : Int) < 1 ∨ (19 : Int) < 1 ∨ (20 : Int) < 19) by decide, if_false] at ht
  rw [if_neg (show ¬((l.length : Nat) : Int) < 1 by omega)] at ht
  have hv := val10_range _ l rfl hf
  simp only [g_figures_Whole, f_figures_Whole_m, g_figures_whole, f_figures_whole_m, ht, Option.bind_some, str_size]
  by_cases c : val10 l ≤ 9223372036854775807
  · simp only [if_pos c, fitsS_dec, Option.bind_some, Option.isNone_none, Option.isNone_some, Option.isSome_none, Option.isSome_some, Bool.not_true, Bool.not_false, cond_true, cond_false, cond_dec, beq_int, bne_int, not_dec, errOf]
    have : iconv .i64 (val10 l) = val10 l := iconv_i64 (by omega)
    simp [this]
  · have i0 : iconv .i64 0 = 0 := by kernel_rfl
    simp only [if_neg c, fitsS_dec, Option.bind_some, Option.isNone_none, Option.isNone_some, Option.isSome_none, Option.isSome_some, Bool.not_true, Bool.not_false, cond_true, cond_false, cond_dec, beq_int, bne_int, not_dec, errOf]
    simp [i0]
def out2 (ws : List (List Int)) : (Option (Int × (Int × (Int × (Int × (Int × (Int × (Int × (Int × (Int × (Int × (Int × (Int)))))))))))) × Unit) × ((Option Int × Unit) × Unit) :=
  if ∀ w ∈ ws, val10 w ≤ 9223372036854775807 then ((some (tN (ws.map val10)), ()), ((none, ()), ())) else ((none, ()), ((some 5, ()), ()))
theorem vals_ok {ws : List (List Int)} (hl : ws.length = 12) (hw : ∀ w ∈ ws, wOk w) (h : ∀ w ∈ ws, val10 w ≤ 9223372036854775807) : cntOk (ws.map val10) := by
  refine ⟨by rw [List.length_map, hl], fun x hx => ?_⟩
  obtain ⟨w, hm, rfl⟩ := List.mem_map.1 hx
  exact ⟨(val10_range _ w rfl (hw w hm).2.1).1, h w hm⟩
theorem parse_p20 {ws : List (List Int)} (hl : ws.length = 12) (hw : ∀ w ∈ ws, wOk w) : ∀ (rest done : List (List Int)), ws = done ++ rest → (∀ w ∈ done, val10 w ≤ 9223372036854775807) →
    Evn (fun k => (f_tally_Parse_t k).2.2.1 ((tU (done.map val10 ++ List.replicate (12 - done.length) 0), ()), ((), (tS (ws.map strOf), (((done.length : Int), ()), ()))))) ((), out2 ws)
  | [], done, e, hd => by
    rw [List.append_nil] at e
    subst e
    refine Evn.some 1 fun k => ?_
    rw [t_tally_Parse]
    simp only [f_tally_Parse_p20, fitsS_dec, Option.bind_some, Option.isNone_none, Option.isNone_some, Option.isSome_none, Option.isSome_some, Bool.not_true, Bool.not_false, cond_true, cond_false, cond_dec, beq_int, bne_int, not_dec, hl]
    rw [if_neg (by omega)]
    unfold out2
    rw [if_pos hd]
    simp only [Nat.sub_self, List.replicate_zero, List.append_nil, tN, tU]
  | w :: rest, done, e, hd => by
    have hlen := congrArg List.length e
    rw [hl, List.length_append, List.length_cons] at hlen
    have hwk := hw w (by rw [e]; simp)
    have hwh := tally_whole w hwk
    have hg : (ws.map strOf).getD done.length ByteArray.empty = strOf w := by
      rw [List.getD_eq_getElem?_getD, List.getElem?_map, e, List.getElem?_append_right (Nat.le_refl _), Nat.sub_self]
      rfl
    obtain ⟨n, hn⟩ : ∃ n, 12 - done.length = n + 1 := ⟨11 - done.length, by omega⟩
    have hset := set_rep (done.map val10) (val10 w) (0 : Int) n
    rw [List.length_map] at hset
    have hc : (done.map val10 ++ List.replicate (n + 1) (0 : Int)).length = 12 := by simp; omega
    have i1 : iadd .i64 (done.length : Int) 1 = ((done.length + 1 : Nat) : Int) := by rw [iadd_i64 (by omega)]; rfl
    have hpos : done.length < 12 := by omega
    rw [hn]
    generalize hC : done.map val10 ++ List.replicate (n + 1) (0 : Int) = C at hc hset
    have key : Evn (fun k => (f_tally_Parse_t k).2.2.2.1 ((tU C, ()), ((), (((done.length : Int), ()), ((strOf w, ()), (tS (ws.map strOf), (((done.length : Int), ()), ()))))))) ((), out2 ws) := by
      by_cases cv : val10 w ≤ 9223372036854775807
      · have ih := parse_p20 hl hw rest (done ++ [w]) (by rw [e, List.append_assoc]; rfl) (fun x hx => by
          rcases List.mem_append.1 hx with q | q
          · exact hd x q
          · rw [List.mem_singleton.1 q]; exact cv)
        simp only [List.length_append, List.length_singleton, List.map_append, List.map_cons, List.map_nil] at ih
        rw [show 12 - (done.length + 1) = n by omega, ← hset] at ih
        rw [if_pos cv, if_pos cv] at hwh
        refine ih.step fun k => ?_
        rw [t_tally_Parse]
        clear ih hC hset
        obtain ⟨a0, a1, a2, a3, a4, a5, a6, a7, a8, a9, a10, a11, rfl⟩ := l12 hc
        generalize tS (ws.map strOf) = S
        clear hg e hd hlen hn
        generalize done.length = i at *
        simp only [f_tally_Parse_p24, hwh, fitsS_dec, Option.bind_some, Option.isNone_none, Option.isNone_some, Option.isSome_none, Option.isSome_some, Bool.not_true, Bool.not_false, cond_true, cond_false, cond_dec, beq_int, bne_int, not_dec, and_dec, i1]
        rw [if_pos (by omega)]
        clear hwh i1
        have hi : i = 0 ∨ i = 1 ∨ i = 2 ∨ i = 3 ∨ i = 4 ∨ i = 5 ∨ i = 6 ∨ i = 7 ∨ i = 8 ∨ i = 9 ∨ i = 10 ∨ i = 11 := by omega
        rcases hi with rfl | rfl | rfl | rfl | rfl | rfl | rfl | rfl | rfl | rfl | rfl | rfl <;> simp only [tU, Int.reduceLT, Int.reduceLE, Int.reduceEq, Int.reduceGT, Int.reduceSub, Int.reduceAdd, gt_iff_lt, ge_iff_le, if_true, if_false, and_self, and_true, true_and, Int.cast_ofNat_Int] <;> rfl
      · have ho : out2 ws = ((none, ()), ((some 5, ()), ())) := if_neg fun q => cv (q w (by rw [e]; simp))
        rw [if_neg cv, if_neg cv] at hwh
        rw [ho]
        refine Evn.some 1 fun k => ?_
        rw [t_tally_Parse]
        simp only [f_tally_Parse_p24, hwh, fitsS_dec, Option.bind_some, Option.isNone_none, Option.isNone_some, Option.isSome_none, Option.isSome_some, Bool.not_true, Bool.not_false, cond_true, cond_false, cond_dec, beq_int, bne_int, not_dec]
    refine key.step fun k => ?_
    rw [t_tally_Parse]
    rw [← hg]
    generalize ws.map strOf = S
    clear key hg e hd hlen hn hC hset
    generalize done.length = i at *
    simp only [f_tally_Parse_p20, fitsS_dec, Option.bind_some, Option.isNone_none, Option.isNone_some, Option.isSome_none, Option.isSome_some, Bool.not_true, Bool.not_false, cond_true, cond_false, cond_dec, beq_int, bne_int, not_dec, and_dec]
    rw [if_pos (by omega), if_pos (by omega)]
    clear hwh i1
    have hi : i = 0 ∨ i = 1 ∨ i = 2 ∨ i = 3 ∨ i = 4 ∨ i = 5 ∨ i = 6 ∨ i = 7 ∨ i = 8 ∨ i = 9 ∨ i = 10 ∨ i = 11 := by omega
    rcases hi with rfl | rfl | rfl | rfl | rfl | rfl | rfl | rfl | rfl | rfl | rfl | rfl <;> simp only [tS, Int.reduceLT, Int.reduceLE, Int.reduceEq, Int.reduceGT, Int.reduceSub, Int.reduceAdd, gt_iff_lt, ge_iff_le, if_true, if_false, and_self, and_true, true_and, Int.cast_ofNat_Int]
def rowsQ : Nat → List (List Int) → Option (List (List Int))
  | _, [] => some []
  | i, r :: R => if countOk i r then (rowsQ (i + 1) R).map (tlK i r :: ·) else none
theorem rowsQ_ok : ∀ (R : List (List Int)) (i : Nat) (ws : List (List Int)), rowsQ i R = some ws → ws.length = R.length ∧ ∀ w ∈ ws, wOk w
  | [], i, ws, h => by
    simp only [rowsQ, Option.some.injEq] at h
    subst h; exact ⟨rfl, fun w hw => by cases hw⟩
  | r :: R, i, ws, h => by
    unfold rowsQ at h
    split at h
    · rename_i hc
      cases hq : rowsQ (i + 1) R with
      | none => rw [hq] at h; cases h
      | some vs =>
        rw [hq] at h
        simp only [Option.map_some, Option.some.injEq] at h
        subst h
        obtain ⟨h1, h2⟩ := rowsQ_ok R (i + 1) vs hq
        refine ⟨by rw [List.length_cons, List.length_cons, h1], fun w hw => ?_⟩
        rcases List.mem_cons.1 hw with rfl | hw
        · exact hc.2
        · exact h2 w hw
    · cases h
def outR : Option (List (List Int)) → (Option (Int × (Int × (Int × (Int × (Int × (Int × (Int × (Int × (Int × (Int × (Int × (Int)))))))))))) × Unit) × ((Option Int × Unit) × Unit)
  | some ws => out2 ws
  | none => ((none, ()), ((some 2, ()), ()))
theorem parse_p8 {R : List (List Int)} (hR : R.length = 12) (hb : ∀ r ∈ R, okBy r ∧ r.length ≤ 10000) : ∀ (rest done ws : List (List Int)), R = done ++ rest → ws.length = done.length → (∀ w ∈ ws, wOk w) →
    Evn (fun k => (f_tally_Parse_t k).1 ((tS (ws.map strOf ++ List.replicate (12 - done.length) ByteArray.empty), ()), ((), ((R.map strOf, ()), ((12, ()), (((done.length : Int), ()), ())))))) ((), outR ((rowsQ done.length rest).map (ws ++ ·)))
  | [], done, ws, e, hw, ho => by
    rw [List.append_nil] at e
    subst e
    rw [rowsQ, Option.map_some, List.append_nil, hR]
    have h20 := parse_p20 (ws := ws) (by omega) ho ws [] rfl (fun w hw => by cases hw)
    simp only [List.map_nil, List.nil_append, List.length_nil, Nat.sub_zero] at h20
    have hnew : g_tally_New ((), ()) = some ((tU (List.replicate 12 (0 : Int)), ()), ((), ())) := rfl
    refine h20.step fun k => ?_
    rw [t_tally_Parse]
    simp only [f_tally_Parse_p8, fitsS_dec, Option.bind_some, Option.isNone_none, Option.isNone_some, Option.isSome_none, Option.isSome_some, Bool.not_true, Bool.not_false, cond_true, cond_false, cond_dec, beq_int, bne_int, not_dec, hnew]
    rw [if_neg (by omega), Nat.sub_self, List.replicate_zero, List.append_nil]
    rfl
  | r :: rest, done, ws, e, hw, ho => by
    have hlen := congrArg List.length e
    rw [hR, List.length_append, List.length_cons] at hlen
    obtain ⟨hr1, hr2⟩ := hb r (by rw [e]; simp)
    have hrow := tally_row r hr1 hr2 done.length (by omega)
    have hg : gd .str (R.map strOf) (done.length : Int) = strOf r := by
      show (R.map strOf).getD (done.length : Int).toNat _ = _
      rw [Int.toNat_natCast, List.getD_eq_getElem?_getD, List.getElem?_map, e, List.getElem?_append_right (Nat.le_refl _), Nat.sub_self]
      rfl
    have i0 : iadd .i64 (done.length : Int) 1 = (done.length : Int) + 1 := iadd_i64 (by omega)
    by_cases c : countOk done.length r
    · have ih := parse_p8 hR hb rest (done ++ [r]) (ws ++ [tlK done.length r]) (by rw [e, List.append_assoc]; rfl) (by simp [hw]) (fun w hx => by
        rcases List.mem_append.1 hx with q | q
        · exact ho w q
        · rw [List.mem_singleton.1 q]; exact c.2)
      have e1 : (rowsQ done.length (r :: rest)).map (ws ++ ·) = (rowsQ (done ++ [r]).length rest).map ((ws ++ [tlK done.length r]) ++ ·) := by
        rw [rowsQ, if_pos c, List.length_append, List.length_singleton]
        cases rowsQ (done.length + 1) rest <;> simp
      rw [e1]
      obtain ⟨n, hn⟩ : ∃ n, 12 - done.length = n + 1 := ⟨11 - done.length, by omega⟩
      have hset := set_rep (ws.map strOf) (strOf (tlK done.length r)) ByteArray.empty n
      rw [List.length_map, hw] at hset
      have hc : (ws.map strOf ++ List.replicate (n + 1) ByteArray.empty).length = 12 := by simp; omega
      simp only [List.length_append, List.length_singleton, List.map_append, List.map_cons, List.map_nil] at ih
      rw [show 12 - (done.length + 1) = n by omega, ← hset] at ih
      rw [hn]
      rw [if_pos c, decide_eq_true c] at hrow
      simp only [List.length_append, List.length_singleton]
      generalize outR ((rowsQ (done.length + 1) rest).map ((ws ++ [tlK done.length r]) ++ ·)) = O at ih ⊢
      generalize ws.map strOf ++ List.replicate (n + 1) ByteArray.empty = C at *
      refine (ih.step (F := fun k => (f_tally_Parse_t k).2.1 ((tS (C.set done.length (strOf (tlK done.length r))), ()), ((), ((R.map strOf, ()), ((12, ()), (((done.length : Int), ()), ())))))) fun k => ?_).step fun k => ?_
      · rw [t_tally_Parse]
        simp only [f_tally_Parse_p11, i0]
        rfl
      · rw [t_tally_Parse]
        have hb1 : (done.length : Int) < 12 := by omega
        have hb2 : (0 : Int) ≤ (done.length : Int) ∧ (done.length : Int) < ((R.map strOf).length : Int) := by rw [List.length_map, hR]; omega
        have hb3 : (0 : Int) ≤ (done.length : Int) ∧ (done.length : Int) < 12 := by omega
        simp only [f_tally_Parse_p8, fitsS_dec, Option.bind_some, Option.isNone_none, Option.isNone_some, Option.isSome_none, Option.isSome_some, Bool.not_true, Bool.not_false, cond_true, cond_false, cond_dec, beq_int, bne_int, not_dec, and_dec, if_pos hb1, if_pos hb2, if_pos hb3, hg, i0, hrow]
        obtain ⟨a0, a1, a2, a3, a4, a5, a6, a7, a8, a9, a10, a11, rfl⟩ := l12S hc
        clear ih hrow hg hb2 e1 hset hn hw e i0 hb1 hb3 hc
        generalize strOf (tlK done.length r) = X
        have hpos : done.length < 12 := by omega
        clear c
        generalize done.length = i at *
        have hi : i = 0 ∨ i = 1 ∨ i = 2 ∨ i = 3 ∨ i = 4 ∨ i = 5 ∨ i = 6 ∨ i = 7 ∨ i = 8 ∨ i = 9 ∨ i = 10 ∨ i = 11 := by omega
        rcases hi with rfl | rfl | rfl | rfl | rfl | rfl | rfl | rfl | rfl | rfl | rfl | rfl <;> simp only [tS, Int.reduceLT, Int.reduceLE, Int.reduceEq, Int.reduceGT, Int.reduceSub, Int.reduceAdd, gt_iff_lt, ge_iff_le, if_true, if_false, and_self, and_true, true_and, Int.cast_ofNat_Int] <;> rfl
    · have e1 : (rowsQ done.length (r :: rest)).map (ws ++ ·) = none := by rw [rowsQ, if_neg c]; rfl
      rw [e1]
      rw [if_neg c, decide_eq_false c] at hrow
      have hb1 : (done.length : Int) < 12 := by omega
      have hb2 : (0 : Int) ≤ (done.length : Int) ∧ (done.length : Int) < ((R.map strOf).length : Int) := by rw [List.length_map, hR]; omega
      refine Evn.some 1 fun k => ?_
      rw [t_tally_Parse]
      simp only [f_tally_Parse_p8, fitsS_dec, Option.bind_some, Option.isNone_none, Option.isNone_some, Option.isSome_none, Option.isSome_some, Bool.not_true, Bool.not_false, cond_true, cond_false, cond_dec, beq_int, bne_int, not_dec, and_dec, if_pos hb1, if_pos hb2, hg, i0, hrow]
      rfl
/-- What is read of rows: so many, from the i-th name on; behind them nothing. -/
def rowsP (n i : Nat) (R : List (List Int)) : Option (List (List Int)) := if R.length = n + 1 ∧ R.getD n [] = [] then rowsQ i (R.take n) else none
theorem tally_parse (s : ByteArray) (hs : s.size ≤ 10000) : g_tally_Parse ((), ((s, ()), ())) = some ((), outR (rowsP 12 0 (rowsA [] (bytesOf s)))) := by
  have hsp := split_call s (by omega)
  have hall : ∀ r ∈ rowsA [] (bytesOf s), okBy r ∧ r.length ≤ 10000 := rowsA_mem (bytesOf s) [] (by rw [by_len]; simpa using hs) (fun x hx => by simpa using by_ok s x (by simpa using hx))
  generalize rowsA [] (bytesOf s) = R at hsp hall
  unfold rowsP
  by_cases c1 : R.length = 13
  · have h12 : (R.take 12).length = 12 := by rw [List.length_take]; omega
    have hg : gd .str (R.map strOf) (12 : Int) = strOf (R.getD 12 []) := by
      show (R.map strOf).getD 12 _ = _
      rw [List.getD_eq_getElem?_getD, List.getElem?_map, List.getElem?_eq_getElem (by omega), List.getD_eq_getElem?_getD, List.getElem?_eq_getElem (by omega)]
      rfl
    have ho : okBy (R.getD 12 []) := by
      rw [List.getD_eq_getElem?_getD, List.getElem?_eq_getElem (by omega)]
      exact (hall _ (List.getElem_mem _)).1
    have e0 : (⟨#[]⟩ : ByteArray) = strOf [] := by kernel_rfl
    by_cases c2 : R.getD 12 [] = []
    · rw [if_pos ⟨c1, c2⟩]
      have h8 := parse_p8 h12 (fun r hr => hall r (List.mem_of_mem_take hr)) (R.take 12) [] [] rfl rfl (fun w hw => by cases hw)
      simp only [List.map_nil, List.nil_append, List.length_nil, Nat.sub_zero] at h8
      rw [show (rowsQ 0 (R.take 12)).map (fun x => x) = rowsQ 0 (R.take 12) from by cases rowsQ 0 (R.take 12) <;> rfl] at h8
      refine (h8.cast fun k => ?_).lim
      have e2 : List.drop (Int.toNat (0 : Int)) (List.take (Int.toNat (12 : Int)) (R.map strOf)) = (R.take 12).map strOf := by rw [List.map_take]; rfl
      have e3 : (((R.take 12).map strOf).length : Int) = 12 := by rw [List.length_map, h12]; rfl
      have e4 : ((R.map strOf).length : Int) = 13 := by rw [List.length_map, c1]; rfl
      simp only [f_tally_Parse_m, hsp, Option.bind_some, e4, hg, c2, e0, e2, e3]
      rw [str_eq]
      rfl
    · rw [if_neg (fun q => c2 q.2)]
      refine (Evn.const fun k => ?_).lim
      have e4 : ((R.map strOf).length : Int) = 13 := by rw [List.length_map, c1]; rfl
      simp only [f_tally_Parse_m, hsp, Option.bind_some, e4, hg, e0]
      rw [str_eq, by_str ho, by_str (fun x hx => by cases hx), decide_eq_false c2]
      rfl
  · rw [if_neg (fun q => c1 q.1)]
    refine (Evn.const fun k => ?_).lim
    simp only [f_tally_Parse_m, hsp, fitsS_dec, Option.bind_some, Option.isNone_none, Option.isNone_some, Option.isSome_none, Option.isSome_some, Bool.not_true, Bool.not_false, cond_true, cond_false, cond_dec, beq_int, bne_int, not_dec, List.length_map]
    rw [if_pos (by omega)]
    rfl
end Go.Proofs.YtfhaifiipjfffaaGreatDoor.Ev
