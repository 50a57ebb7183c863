/- Twelve counts: reading a text, by the reference. -/
import Derived.Test.YtfhaifiipjfffaaGreatDoorPuTallyQ
namespace Go.Proofs.YtfhaifiipjfffaaGreatDoor.Ev
open Go
set_option linter.unusedVariables false
set_option linter.unusedSimpArgs false
set_option maxRecDepth 4000
/-- What stands behind a name: figures, and a row's end. -/
def rowEnd (t : List Int) : Prop := wOk (t.take (lead t)) ∧ lead t < t.length ∧ t.getD (lead t) 0 = 10
instance (t : List Int) : Decidable (rowEnd t) := by unfold rowEnd; infer_instance
def hdL (i : Nat) : List Int := nmL i ++ [32]
def parseL : Nat → Nat → List Int → Option (List (List Int))
  | 0, _, B => if B = [] then some [] else none
  | n + 1, i, B => if B.take (hdL i).length = hdL i ∧ rowEnd (B.drop (hdL i).length) then
      (parseL n (i + 1) ((B.drop (hdL i).length).drop (lead (B.drop (hdL i).length) + 1))).map ((B.drop (hdL i).length).take (lead (B.drop (hdL i).length)) :: ·) else none
theorem hd_len (i : Nat) : (hdL i).length = (nmL i).length + 1 := by unfold hdL; simp
theorem nm_no10 (i : Nat) : 10 ∉ hdL i := by
  intro h
  unfold hdL nmL at h
  rcases List.mem_append.1 h with q | q
  · by_cases c : i < 12
    · have hh : (namesB.all fun s => decide (10 ∉ bytesOf s)) = true := by kernel_rfl
      have hl : i < namesB.length := c
      rw [List.getD_eq_getElem?_getD, List.getElem?_eq_getElem hl] at q
      exact of_decide_eq_true (List.all_eq_true.1 hh _ (List.getElem_mem hl)) q
    · rw [List.getD_eq_getElem?_getD, List.getElem?_eq_none (by show 12 ≤ i; omega)] at q
      exact absurd q (by decide)
  · exact absurd q (by decide)
theorem fig_no10 {w : List Int} (h : ∀ x ∈ w, isF x) : 10 ∉ w := fun q => by
  have := h 10 q
  unfold isF at this; omega
theorem lead_app : ∀ (w m : List Int), (∀ x ∈ w, isF x) → lead (w ++ 10 :: m) = w.length
  | [], m, _ => by
    rw [List.nil_append]; unfold lead
    rw [if_neg (by unfold isF; omega)]; rfl
  | x :: w, m, h => by
    rw [List.cons_append]; unfold lead
    rw [if_pos (h x List.mem_cons_self), lead_app w m (fun y hy => h y (List.mem_cons_of_mem _ hy))]; rfl
theorem rowsP_cons (n i : Nat) (r : List Int) (R : List (List Int)) : rowsP (n + 1) i (r :: R) = if countOk i r then (rowsP n (i + 1) R).map (tlK i r :: ·) else none := by
  unfold rowsP
  rw [List.length_cons, List.getD_cons_succ, List.take_succ_cons, rowsQ]
  by_cases c : R.length = n + 1 ∧ R.getD n [] = []
  · rw [if_pos ⟨by omega, c.2⟩, if_pos c]
  · rw [if_neg (fun q => c ⟨by omega, q.2⟩), if_neg c]
    split <;> rfl
theorem parse_rows : ∀ (n i : Nat) (B : List Int), parseL n i B = rowsP n i (rowsA [] B)
  | 0, i, B => by
    unfold parseL rowsP
    rcases first10 B with h | ⟨a, b, e, h⟩
    · rw [rowsA_none B [] h, List.nil_append]
      by_cases c : B = []
      · subst c; simp [rowsQ]
      · simp [c]
    · rw [if_neg (by rw [e]; simp)]
      subst e
      rw [rowsA_hit a [] b h]
      obtain ⟨r, R, e2⟩ : ∃ r R, rowsA [] b = r :: R := by
        rcases first10 b with k | ⟨c, d, e3, k⟩
        · exact ⟨_, _, rowsA_none b [] k⟩
        · subst e3; exact ⟨_, _, rowsA_hit c [] d k⟩
      rw [e2, if_neg (by simp)]
  | n + 1, i, B => by
    unfold parseL
    have hh := hd_len i
    have hn := nm_no10 i
    by_cases c : B.take (hdL i).length = hdL i ∧ rowEnd (B.drop (hdL i).length)
    · rw [if_pos c]
      obtain ⟨c1, c2, c3, c4⟩ := c
      generalize hT : B.drop (hdL i).length = t at *
      have et : t = t.take (lead t) ++ 10 :: t.drop (lead t + 1) := by
        conv => lhs; rw [← List.take_append_drop (lead t) t]
        congr 1
        rw [List.drop_eq_getElem_cons c3]
        congr 1
        rw [List.getD_eq_getElem?_getD, List.getElem?_eq_getElem c3] at c4
        exact c4
      have eB : B = (hdL i ++ t.take (lead t)) ++ 10 :: t.drop (lead t + 1) := by
        rw [List.append_assoc, ← et, ← hT, ← c1]
        rw [show (B.take (hdL i).length).length = (hdL i).length by rw [c1]]
        exact (List.take_append_drop _ B).symm
      have hno : 10 ∉ hdL i ++ t.take (lead t) := fun q => by
        rcases List.mem_append.1 q with q | q
        · exact hn q
        · exact fig_no10 c2.2.1 q
      have hr : rowsA [] B = (hdL i ++ t.take (lead t)) :: rowsA [] (t.drop (lead t + 1)) := by
        conv => lhs; rw [eB]
        rw [rowsA_hit _ _ _ hno, List.nil_append]
      have htl : tlK i (hdL i ++ t.take (lead t)) = t.take (lead t) := by unfold tlK; rw [← hh, List.drop_left' rfl]
      have hco : countOk i (hdL i ++ t.take (lead t)) := ⟨by rw [← hh, List.take_left' rfl]; rfl, by rw [htl]; exact c2⟩
      rw [hr, rowsP_cons, if_pos hco, htl, parse_rows n (i + 1)]
    · rw [if_neg c]
      rcases first10 B with h | ⟨a, b, e, h⟩
      · rw [rowsA_none B [] h, List.nil_append, rowsP_cons]
        have : rowsP n (i + 1) [] = none := by unfold rowsP; rw [if_neg (by simp)]
        rw [this]
        split <;> rfl
      · subst e
        rw [rowsA_hit a [] b h, List.nil_append, rowsP_cons, if_neg]
        intro hco
        obtain ⟨k1, k2⟩ := hco
        rw [← hh] at k1
        have ea : a = hdL i ++ tlK i a := by
          unfold tlK
          rw [← hh]
          conv => lhs; rw [← List.take_append_drop (hdL i).length a, k1]
          rfl
        generalize tlK i a = w at ea k2
        subst ea
        refine c ⟨?_, ?_⟩
        · rw [List.append_assoc, List.take_left' rfl]
        · rw [List.append_assoc, List.drop_left' rfl]
          have hl := lead_app w b k2.2.1
          unfold rowEnd
          rw [hl, List.take_left' rfl]
          refine ⟨k2, by simp, ?_⟩
          rw [List.getD_eq_getElem?_getD, List.getElem?_append_right (Nat.le_refl _), Nat.sub_self]
          rfl
theorem lead_figsT (l : List Int) : ∀ x ∈ l.take (lead l), isF x := by
  intro x hx
  obtain ⟨i, hi, rfl⟩ := List.getElem_of_mem hx
  rw [List.length_take] at hi
  have := lead_at (l := l) (i := i) (by omega)
  rw [List.getElem_take]
  rwa [List.getD_eq_getElem?_getD, List.getElem?_eq_getElem (by omega)] at this
/-! ### the reference -/
def vK (w : List Int) : Int := if val10 w ≤ 9223372036854775807 then val10 w else 0
def outF : Option (List (List Int)) → (Int × (Int × (Int × (Int × (Int × (Int × (Int × (Int × (Int × (Int × (Int × (Int × (Unit))))))))))))) × ((Int × Unit) × Unit)
  | none => (tU (List.replicate 12 0), ((2, ()), ()))
  | some ws => if ∀ w ∈ ws, val10 w ≤ 9223372036854775807 then (tU (ws.map val10), ((0, ()), ())) else (tU (List.replicate 12 0), ((5, ()), ()))
theorem getD_drop (l : List Int) (a j : Nat) : (l.drop a).getD j 0 = l.getD (a + j) 0 := by
  rw [List.getD_eq_getElem?_getD, List.getElem?_drop, ← List.getD_eq_getElem?_getD]
def overB (ws : List (List Int)) : Bool := ws.any fun w => decide (9223372036854775807 < val10 w)
theorem rparse_p7 (s : ByteArray) (hs : s.size ≤ 10000) : ∀ (n i at_ : Nat) (ws : List (List Int)), i + n = 12 → at_ ≤ s.size → ws.length = i → (∀ w ∈ ws, wOk w) →
    Evn (fun k => (f_ref32_Parse_t k).1 ((tU (List.replicate 12 0), (tU (ws.map vK ++ List.replicate n 0), (namesB, ()))), ((s, ()), ((), ((), ((overB ws, ()), (((at_ : Int), ()), ((), (((i : Int), ()), ()))))))))) ((), outF ((parseL n i ((bytesOf s).drop at_)).map (ws ++ ·)))
  | 0, i, at_, ws, e, ha, hw, ho => by
    obtain rfl : i = 12 := by omega
    have hl := by_len s
    have eB : ((bytesOf s).drop at_ = []) ↔ ¬ at_ < s.size := by rw [List.drop_eq_nil_iff]; omega
    refine Evn.some 1 fun k => ?_
    rw [t_ref32_Parse]
    simp only [f_ref32_Parse_p7, fitsS_dec, Option.bind_some, Option.isNone_none, Option.isNone_some, Option.isSome_none, Option.isSome_some, Bool.not_true, Bool.not_false, cond_true, cond_false, cond_dec, beq_int, bne_int, not_dec]
    rw [if_neg (by omega)]
    unfold parseL
    by_cases c : at_ < s.size
    · rw [if_pos (by omega), if_neg (fun q => eB.1 q c)]
      rfl
    · rw [if_neg (by omega), if_pos (eB.2 c)]
      simp only [Option.map_some, List.append_nil, List.replicate_zero]
      have eO : outF (some ws) = if ∀ w ∈ ws, val10 w ≤ 9223372036854775807 then (tU (ws.map val10), ((0, ()), ())) else (tU (List.replicate 12 0), ((5, ()), ())) := rfl
      rw [eO]
      have eo : overB ws = true ↔ ¬ ∀ w ∈ ws, val10 w ≤ 9223372036854775807 := by
        unfold overB
        rw [List.any_eq_true]
        constructor
        · rintro ⟨w, hm, q⟩ h
          have := h w hm
          have := of_decide_eq_true q
          omega
        · intro h
          refine Classical.byContradiction fun q => h fun w hm => ?_
          refine Classical.byContradiction fun z => q ⟨w, hm, decide_eq_true (by omega)⟩
      by_cases c2 : ∀ w ∈ ws, val10 w ≤ 9223372036854775807
      · have : overB ws = false := by
          cases h : overB ws with
          | false => rfl
          | true => exact absurd c2 (eo.1 h)
        have em : ws.map vK = ws.map val10 := List.map_congr_left fun w hm => if_pos (c2 w hm)
        rw [if_pos c2, this, em]
        rfl
      · rw [if_neg c2, eo.2 c2]
        rfl
  | n + 1, i, at_, ws, e, ha, hw, ho => by
    have hl := by_len s
    have hi12 : i < 12 := by omega
    have hh := hd_len i
    have hz7 : (nmL i).length ≤ 7 := name_small i
    have hg : gd .str namesB (i : Int) = namesB.getD i ⟨#[]⟩ := rfl
    have e32 : (⟨#[32]⟩ : ByteArray) = strOf [32] := by kernel_rfl
    have hb : bytesOf (namesB.getD i ⟨#[]⟩ ++ strOf [32]) = hdL i := by
      rw [by_app, by_str (fun x hx => by rw [List.mem_singleton.1 hx]; decide)]; rfl
    have hz : (namesB.getD i ⟨#[]⟩ ++ strOf [32]).size = (hdL i).length := by rw [← by_len, hb]
    have f1 : fitsS (namesB.getD i ⟨#[]⟩) (strOf [32]) = true := by
      rw [fitsS_dec]; refine decide_eq_true ?_
      have : (namesB.getD i ⟨#[]⟩).size ≤ 7 := by rw [← by_len]; exact hz7
      rw [str_size]; simp only [List.length_cons, List.length_nil]; omega
    generalize hH : (hdL i).length = H at *
    have hb1 : (i : Int) < 12 := by omega
    have hb2 : (0 : Int) ≤ (i : Int) ∧ (i : Int) < (namesB.length : Int) := by rw [show (namesB.length : Int) = 12 from rfl]; omega
    have is1 : isub .i64 (s.size : Int) (at_ : Int) = (s.size : Int) - at_ := isub_i64 (by omega)
    have ia1 : iadd .i64 (at_ : Int) (H : Int) = ((at_ + H : Nat) : Int) := by rw [iadd_i64 (by omega)]; rfl
    have ex1 : bytesOf (s.extract at_ (at_ + H)) = ((bytesOf s).drop at_).take H := by
      rw [by_cut, List.drop_take, Nat.add_sub_cancel_left]
    unfold parseL
    rw [hH]
    by_cases c0 : (s.size : Int) - at_ < H
    · rw [if_neg (fun q => by
        have := congrArg List.length q.1
        rw [List.length_take, List.length_drop, hH] at this; omega)]
      refine Evn.some 1 fun k => ?_
      rw [t_ref32_Parse]
      simp only [f_ref32_Parse_p7, Option.bind_some, cond_dec, and_dec, hg, e32, f1, cond_true, hz, is1, if_pos hb1, if_pos hb2, if_pos c0]
      rfl
    have hb3 : ((0 : Int) ≤ (at_ : Int) ∧ (at_ : Int) ≤ ((at_ + H : Nat) : Int)) ∧ ((at_ + H : Nat) : Int) ≤ (s.size : Int) := by omega
    by_cases c1 : ((bytesOf s).drop at_).take H = hdL i
    · have hb4 : ((0 : Int) ≤ ((at_ + H : Nat) : Int) ∧ ((at_ + H : Nat) : Int) ≤ (s.size : Int)) ∧ (s.size : Int) ≤ (s.size : Int) := by omega
      have ex2 : bytesOf (s.extract (at_ + H) s.size) = ((bytesOf s).drop at_).drop H := by
        rw [by_cut, ← hl, List.take_length, List.drop_drop]
      have hm := ref02_many (s.extract (at_ + H) s.size) (by rw [ByteArray.size_extract]; omega)
      rw [ex2] at hm
      have htl : (((bytesOf s).drop at_).drop H).length = s.size - (at_ + H) := by simp only [List.length_drop, hl]; omega
      have hgd : ∀ j : Nat, (((bytesOf s).drop at_).drop H).getD j 0 = (bytesOf s).getD (at_ + H + j) 0 := fun j => by
        rw [List.drop_drop, getD_drop]
      have hbt : ∀ j : Nat, at_ + H + j < s.size → bt s ((at_ + H + j : Nat) : Int) = (((bytesOf s).drop at_).drop H).getD j 0 := fun j hj => by
        rw [by_at s (by omega) (by omega), Int.toNat_natCast, hgd]
      generalize hT : ((bytesOf s).drop at_).drop H = t at *
      have hlt := lead_le t
      have hdec : ((bytesOf s).drop at_).take H = hdL i ∧ rowEnd t ↔ rowEnd t := ⟨fun q => q.2, fun q => ⟨c1, q⟩⟩
      simp only [hdec]
      -- behind the name
      have key : Evn (fun k => (f_ref32_Parse_t k).2.1 ((tU (List.replicate 12 0), (tU (ws.map vK ++ List.replicate (n + 1) 0), (namesB, ()))), ((s, ()), ((), ((), ((overB ws, ()), ((((at_ + H : Nat) : Int), ()), ((), (((i : Int), ()), (((lead t : Int), ()), ((!decide (rowEnd t), ()), ()))))))))))) ((), outF ((if rowEnd t then (parseL n (i + 1) (t.drop (lead t + 1))).map (t.take (lead t) :: ·) else none).map (ws ++ ·))) := by
        by_cases cr : rowEnd t
        · rw [if_pos cr, decide_eq_true cr]
          obtain ⟨w1, w2, w3⟩ := cr
          have hk19 : lead t ≤ 19 := by have := w1.1.2; rw [List.length_take] at this; omega
          have hwl : (t.take (lead t)).length = lead t := by rw [List.length_take]; omega
          have ia2 : iadd .i64 ((at_ + H : Nat) : Int) (lead t : Int) = ((at_ + H + lead t : Nat) : Int) := by rw [iadd_i64 (by omega)]; rfl
          have ia3 : iadd .i64 ((at_ + H + lead t : Nat) : Int) 1 = ((at_ + H + lead t + 1 : Nat) : Int) := by rw [iadd_i64 (by omega)]; rfl
          have ia4 : iadd .i64 (i : Int) 1 = ((i + 1 : Nat) : Int) := by rw [iadd_i64 (by omega)]; rfl
          have ex3 : bytesOf (s.extract (at_ + H) (at_ + H + lead t)) = t.take (lead t) := by
            rw [by_cut, List.drop_take, Nat.add_sub_cancel_left, ← hT, List.drop_drop]
          have hbig := ref02_big (s.extract (at_ + H) (at_ + H + lead t)) (by rw [← by_len, ex3, hwl]; omega) (by rw [ex3]; exact w1.2.1)
          rw [ex3] at hbig
          have hv := val10_range _ _ hwl w1.2.1
          have hp : (10 : Int) ^ (lead t) ≤ 10 ^ 19 := by
            have : 10 ^ (lead t) ≤ 10 ^ 19 := Nat.pow_le_pow_right (by omega) hk19
            exact_mod_cast this
          have hsm := big_small (val10 (t.take (lead t))) (sm_of (by omega))
          have hdr : (bytesOf s).drop (at_ + H + lead t + 1) = t.drop (lead t + 1) := by
            rw [← hT, List.drop_drop, List.drop_drop]; congr 1 <;> omega
          have ih := rparse_p7 s hs n (i + 1) (at_ + H + lead t + 1) (ws ++ [t.take (lead t)]) (by omega) (by omega) (by simp [hw]) (fun w hx => by
            rcases List.mem_append.1 hx with q | q
            · exact ho w q
            · rw [List.mem_singleton.1 q]; exact w1)
          rw [hdr] at ih
          have eo : overB (ws ++ [t.take (lead t)]) = (overB ws || decide (9223372036854775807 < val10 (t.take (lead t)))) := by unfold overB; simp
          have em : ((parseL n (i + 1) (t.drop (lead t + 1))).map (t.take (lead t) :: ·)).map (ws ++ ·) = (parseL n (i + 1) (t.drop (lead t + 1))).map ((ws ++ [t.take (lead t)]) ++ ·) := by
            cases parseL n (i + 1) (t.drop (lead t + 1)) <;> simp
          have hset := set_rep (ws.map vK) (vK (t.take (lead t))) (0 : Int) n
          rw [List.length_map, hw] at hset
          have hc : (ws.map vK ++ List.replicate (n + 1) (0 : Int)).length = 12 := by simp; omega
          rw [List.map_append, List.map_cons, List.map_nil, ← hset, eo] at ih
          rw [em]
          generalize outF ((parseL n (i + 1) (t.drop (lead t + 1))).map ((ws ++ [t.take (lead t)]) ++ ·)) = O at ih ⊢
          generalize ws.map vK ++ List.replicate (n + 1) (0 : Int) = C at hc ih ⊢
          have hbx : ((0 : Int) ≤ ((at_ + H : Nat) : Int) ∧ ((at_ + H : Nat) : Int) ≤ ((at_ + H + lead t : Nat) : Int)) ∧ ((at_ + H + lead t : Nat) : Int) ≤ (s.size : Int) := by omega
          refine (((ih.step (F := fun k => (f_ref32_Parse_t k).2.2.2.1 ((tU (List.replicate 12 0), (tU (C.set i (vK (t.take (lead t)))), (namesB, ()))), ((s, ()), ((), ((), (((overB ws || decide (9223372036854775807 < val10 (t.take (lead t)))), ()), ((((at_ + H : Nat) : Int), ()), ((), (((i : Int), ()), (((lead t : Int), ()), ())))))))))) fun k => ?_).step (F := fun k => (f_ref32_Parse_t k).2.2.1 ((tU (List.replicate 12 0), (tU C, (namesB, ()))), ((s, ()), ((), ((), (((overB ws || decide (9223372036854775807 < val10 (t.take (lead t)))), ()), ((((at_ + H : Nat) : Int), ()), ((), (((i : Int), ()), (((lead t : Int), ()), ((vK (t.take (lead t)), ()), ()))))))))))) fun k => ?_)).step fun k => ?_
          · rw [t_ref32_Parse]
            simp only [f_ref32_Parse_p22, ia2, ia3, ia4]
          · rw [t_ref32_Parse]
            obtain ⟨a0, a1, a2, a3, a4, a5, a6, a7, a8, a9, a10, a11, rfl⟩ := l12 hc
            have hbi : (0 : Int) ≤ (i : Int) ∧ (i : Int) < 12 := by omega
            simp only [f_ref32_Parse_p21, fitsS_dec, Option.bind_some, Option.isNone_none, Option.isNone_some, Option.isSome_none, Option.isSome_some, Bool.not_true, Bool.not_false, cond_true, cond_false, cond_dec, beq_int, bne_int, not_dec, and_dec, if_pos hbi]
            generalize vK (t.take (lead t)) = X
            clear ih hset hm hgd hbt hbig hsm hdr em eo hv hp ia1 ia2 ia3 ia4 is1 ex1 ex2 ex3 c1 c0 hb3 hb4 hbi hb1 hb2 f1 hz hb hg hT hh hz7 hH hdec hc hlt htl hwl hbx
            have hi : i = 0 ∨ i = 1 ∨ i = 2 ∨ i = 3 ∨ i = 4 ∨ i = 5 ∨ i = 6 ∨ i = 7 ∨ i = 8 ∨ i = 9 ∨ i = 10 ∨ i = 11 := by omega
            clear hi12 e hw
            rcases hi with rfl | rfl | rfl | rfl | rfl | rfl | rfl | rfl | rfl | rfl | rfl | rfl <;> simp only [tU, Int.reduceLT, Int.reduceLE, Int.reduceEq, Int.reduceGT, Int.reduceSub, Int.reduceAdd, gt_iff_lt, ge_iff_le, if_true, if_false, and_self, and_true, true_and, Int.cast_ofNat_Int] <;> rfl
          · rw [t_ref32_Parse]
            simp only [f_ref32_Parse_p18, Bool.not_true, cond_false, ia2, Option.bind_some, and_dec, cond_dec, if_pos hbx, Int.toNat_natCast, hbig, hsm]
            unfold vK
            by_cases cv : val10 (t.take (lead t)) ≤ 9223372036854775807
            · have n1 : -9223372036854775808 ≤ val10 (t.take (lead t)) ∧ val10 (t.take (lead t)) ≤ 9223372036854775807 := ⟨by omega, cv⟩
              simp only [if_pos n1, if_pos cv, decide_eq_false (show ¬ 9223372036854775807 < val10 (t.take (lead t)) by omega), Bool.or_false]
              cases overB ws <;> rfl
            · have n1 : ¬ (-9223372036854775808 ≤ val10 (t.take (lead t)) ∧ val10 (t.take (lead t)) ≤ 9223372036854775807) := fun q => cv q.2
              simp only [if_neg n1, if_neg cv, decide_eq_true (show 9223372036854775807 < val10 (t.take (lead t)) by omega), Bool.or_true]
              cases overB ws <;> rfl
        · rw [if_neg cr, decide_eq_false cr]
          refine Evn.some 1 fun k => ?_
          rw [t_ref32_Parse]
          simp only [f_ref32_Parse_p18, Bool.not_false, cond_true]
          rfl
      refine key.step fun k => ?_
      rw [t_ref32_Parse]
      have ia2 : iadd .i64 ((at_ + H : Nat) : Int) (lead t : Int) = ((at_ + H + lead t : Nat) : Int) := by rw [iadd_i64 (by omega)]; rfl
      have eqs : (!((s.extract at_ (at_ + H)).toList == (namesB.getD i ⟨#[]⟩ ++ strOf [32]).toList)) = false := by
        rw [str_eq, ex1, hb, decide_eq_true c1]; rfl
      simp only [f_ref32_Parse_p7, Option.bind_some, cond_dec, and_dec, hg, e32, f1, cond_true, hz, is1, ia1, if_pos hb1, if_pos hb2, if_neg c0, if_pos hb3, if_pos hb4, Int.toNat_natCast, eqs, cond_false, hm, gt_iff_lt, ge_iff_le, ia2]
      have hw0 : 1 ≤ lead t → (t.take (lead t)).getD 0 0 = t.getD 0 0 := fun q => by
        rw [List.getD_eq_getElem?_getD, List.getElem?_take_of_lt (by omega), ← List.getD_eq_getElem?_getD]
      have hwl : (t.take (lead t)).length = lead t := by rw [List.length_take]; omega
      have hlf : ∀ x ∈ t.take (lead t), isF x := lead_figsT t
      clear key hm
      by_cases d1 : (lead t : Int) < 1
      · have : ¬ rowEnd t := fun q => by have := q.1.1.1; omega
        rw [if_pos d1, decide_eq_false this]; rfl
      rw [if_neg d1]
      by_cases d2 : (19 : Int) < lead t
      · have : ¬ rowEnd t := fun q => by have := q.1.1.2; omega
        rw [if_pos d2, decide_eq_false this]; rfl
      rw [if_neg d2]
      have fin : ¬ (1 < lead t ∧ t.getD 0 0 = 48) → (if (s.size : Int) ≤ ((at_ + H + lead t : Nat) : Int) then true else !decide (bt s ((at_ + H + lead t : Nat) : Int) = 10)) = !decide (rowEnd t) := fun hn => by
        by_cases d4 : (s.size : Int) ≤ ((at_ + H + lead t : Nat) : Int)
        · have : ¬ rowEnd t := fun q => by have := q.2.1; omega
          rw [if_pos d4, decide_eq_false this]; rfl
        · rw [if_neg d4, hbt (lead t) (by omega)]
          congr 2
          refine propext ⟨fun q => ⟨⟨⟨by omega, by omega⟩, hlf, fun z => hn ⟨by omega, by rw [← hw0 (by omega)]; exact z.2⟩⟩, by omega, q⟩, fun q => q.2.2⟩
      have hb0 := hbt 0
      rw [Nat.add_zero] at hb0
      have nf : ∀ x : Int, (x != 10) = !decide (x = 10) := fun x => by
        by_cases q : x = 10 <;> simp [q]
      by_cases d3 : (1 : Int) < lead t
      · rw [if_pos d3, if_pos (by omega), hb0 (by omega)]
        by_cases d5 : t.getD 0 0 = 48
        · have : ¬ rowEnd t := fun q => q.1.2.2 ⟨by omega, by rw [hw0 (by omega)]; exact d5⟩
          rw [d5, decide_eq_false this]; rfl
        · have := fin fun z => d5 z.2
          rw [beq_eq_false_iff_ne.2 d5, cond_false, ← this]
          by_cases d4 : (s.size : Int) ≤ ((at_ + H + lead t : Nat) : Int)
          · rw [if_pos d4, if_pos d4]
          · rw [if_neg d4, if_neg d4, if_pos (by omega), nf]
      · have := fin fun z => d3 (by omega)
        rw [if_neg d3, ← this]
        by_cases d4 : (s.size : Int) ≤ ((at_ + H + lead t : Nat) : Int)
        · rw [if_pos d4, if_pos d4]
        · rw [if_neg d4, if_neg d4, if_pos (by omega), nf]
    · rw [if_neg (fun q => c1 q.1)]
      have eqs : (!((s.extract at_ (at_ + H)).toList == (namesB.getD i ⟨#[]⟩ ++ strOf [32]).toList)) = true := by
        rw [str_eq, ex1, hb, decide_eq_false c1]; rfl
      refine Evn.some 1 fun k => ?_
      rw [t_ref32_Parse]
      simp only [f_ref32_Parse_p7, Option.bind_some, cond_dec, and_dec, hg, e32, f1, cond_true, hz, is1, ia1, if_pos hb1, if_pos hb2, if_neg c0, if_pos hb3, Int.toNat_natCast, eqs]
      rfl
theorem ref32_parse (s : ByteArray) (hs : s.size ≤ 10000) : g_ref32_Parse ((), ((s, ()), ())) = some ((), outF (rowsP 12 0 (rowsA [] (bytesOf s)))) := by
  have h := rparse_p7 s hs 12 0 0 [] rfl (Nat.zero_le _) rfl (fun w hw => by cases hw)
  rw [List.drop_zero, parse_rows, show (rowsP 12 0 (rowsA [] (bytesOf s))).map ([] ++ ·) = rowsP 12 0 (rowsA [] (bytesOf s)) from by cases rowsP 12 0 (rowsA [] (bytesOf s)) <;> rfl] at h
  refine (h.cast fun k => ?_).lim
  simp only [f_ref32_Parse_m, ref32_names, Option.bind_some]
  rfl
end Go.Proofs.YtfhaifiipjfffaaGreatDoor.Ev
