/- The law ListRemarks, plain. -/
import Derived.Test.YtcnngodgngmghaaGreatDoorPuLstE
namespace Go.Proofs.YtcnngodgngmghaaGreatDoor.Ev
open Go
set_option linter.unusedVariables false
set_option linter.unusedSimpArgs false
/-- The lines with a remark and a gap ahead of one of them. -/
def remL (rem : List Int) (at_ : Int) : Nat → List (List Int) → List (List Int)
  | _, [] => []
  | i, s :: L => (if (i : Int) = at_ then [35 :: 32 :: rem, [32, 9]] else []) ++ s :: remL rem at_ (i + 1) L
theorem remL_no10 {rem : List Int} (hr : 10 ∉ rem) (at_ : Int) : ∀ (L : List (List Int)) (i : Nat), (∀ x ∈ L, 10 ∉ x) → ∀ x ∈ remL rem at_ i L, 10 ∉ x
  | [], _, _, x, hx => by cases hx
  | s :: L, i, h, x, hx => by
    unfold remL at hx
    rcases List.mem_append.1 hx with hx | hx
    · split at hx
      · simp only [List.mem_cons, List.not_mem_nil, or_false] at hx
        rcases hx with rfl | rfl
        · simp [hr]
        · decide
      · cases hx
    · rcases List.mem_cons.1 hx with rfl | hx
      · exact h _ (List.mem_cons_self ..)
      · exact remL_no10 hr at_ L (i + 1) (fun y hy => h y (List.mem_cons_of_mem _ hy)) x hx
theorem remL_ev (rem : List Int) (at_ : Int) : ∀ (L : List (List Int)) (i : Nat) (r : RS), evF r (remL rem at_ i L) = evF r L
  | [], _, _ => rfl
  | s :: L, i, r => by
    have ih := remL_ev rem at_ L (i + 1)
    have step : evF r (s :: remL rem at_ (i + 1) L) = evF r (s :: L) := by
      unfold evF
      cases (lineF r s).2 with
      | some c => rfl
      | none => exact ih _
    unfold remL
    split
    · show evF r ((35 :: 32 :: rem) :: [32, 9] :: s :: remL rem at_ (i + 1) L) = _
      rw [evF, line_rem]
      simp only
      rw [evF, line_gap]
      exact step
    · exact step
theorem remL_len (rem : List Int) (at_ : Int) : ∀ (L : List (List Int)) (i : Nat), ((remL rem at_ i L).flatMap (· ++ [10])).length ≤ (L.flatMap (· ++ [10])).length + (if (i : Int) ≤ at_ then rem.length + 6 else 0)
  | [], _ => by simp [remL]
  | s :: L, i => by
    have ih := remL_len rem at_ L (i + 1)
    unfold remL
    by_cases c : (i : Int) = at_
    · rw [if_pos c, if_pos (by omega)]
      rw [if_neg (by omega)] at ih
      simp only [List.flatMap_append, List.flatMap_cons, List.flatMap_nil, List.length_append, List.length_cons, List.length_nil] at *; omega
    · rw [if_neg c]
      simp only [List.nil_append, List.flatMap_cons, List.length_append] at *
      split
      · rw [if_pos (by omega)] at ih; omega
      · rw [if_neg (by omega)] at ih; omega
theorem rem_str1 : (⟨#[35, 32]⟩ : ByteArray) = strOf [35, 32] := by kernel_rfl
theorem rem_str2 : (⟨#[10, 32, 9, 10]⟩ : ByteArray) = strOf [10, 32, 9, 10] := by kernel_rfl
theorem rem_p19 (l rem : List Int) (hl : okBy l) (at_ : Int) (L : List (List Int)) (hLn : L.length ≤ 100000) (hlen : rem.length ≤ 100) (TOT : List Int) (htl : TOT.length ≤ 100000) (hto : okBy TOT) (hsame : parseF TOT = parseF l)
    (hLe : ∀ x ∈ L, x.length ≤ 100000) : ∀ (k i : Nat) (M : List Int), i + k = L.length → M ++ (remL rem at_ i (L.drop i)).flatMap (· ++ [10]) = TOT →
    Evn (fun f => (f_law11_ListRemarks_t f).2.1 ((L.map strOf, ()), ((strOf l, ()), ((strOf rem, ()), ((at_, ()), ((strOf M, ()), ((), (((L.length : Int), ()), (((i : Int), ()), ()))))))))) ((), ((true, ()), ())) := by
  intro k
  induction k with
  | zero =>
    intro i M hi hM
    rw [List.drop_eq_nil_of_le (by omega)] at hM
    simp only [remL, List.flatMap_nil, List.append_nil] at hM
    subst hM
    refine Evn.some 1 fun f => ?_
    have h1 := lst_parse l hl
    have h2 := lst_parse M hto
    rw [hsame] at h2
    obtain ⟨v, hv⟩ := num_some (parseF l).2
    have hs := same_self l
    simp only [t_law11_ListRemarks, f_law11_ListRemarks_p19, h1, h2, hv, hs, Option.bind_some, cond_dec, beq_self_eq_true, cond_true]
    rw [if_neg (by omega)]
  | succ k ih =>
    intro i M hi hM
    have hlt : i < L.length := by omega
    have hg : gd .str (L.map strOf) (i : Int) = strOf L[i] := by
      unfold gd
      rw [Int.toNat_natCast, List.getD_eq_getElem?_getD, List.getElem?_map, List.getElem?_eq_getElem hlt]; rfl
    have hxl := hLe _ (List.getElem_mem hlt)
    rw [List.drop_eq_getElem_cons hlt, remL] at hM
    have hMl : M.length ≤ 100000 := by
      have := congrArg List.length hM
      rw [List.length_append] at this; omega
    have f1 : fitsS (strOf [35, 32]) (strOf rem) = true := fits_str _ _ (by simp only [List.length_cons, List.length_nil]; omega)
    have f2 : fitsS (strOf ([35, 32] ++ rem)) (strOf [10, 32, 9, 10]) = true := fits_str _ _ (by simp only [List.length_cons, List.length_nil, List.length_append]; omega)
    have f3 : fitsS (strOf M) (strOf (([35, 32] ++ rem) ++ [10, 32, 9, 10])) = true := fits_str _ _ (by simp only [List.length_cons, List.length_nil, List.length_append]; omega)
    have f4 : fitsS (strOf L[i]) (strOf [10]) = true := fits_str _ _ (by simp only [List.length_cons, List.length_nil]; omega)
    have f5 : fitsS (strOf (M ++ (([35, 32] ++ rem) ++ [10, 32, 9, 10]))) (strOf (L[i] ++ [10])) = true := fits_str _ _ (by simp only [List.length_cons, List.length_nil, List.length_append]; omega)
    have f6 : fitsS (strOf M) (strOf (L[i] ++ [10])) = true := fits_str _ _ (by simp only [List.length_cons, List.length_nil, List.length_append]; omega)
    by_cases c : (i : Int) = at_
    · rw [if_pos c] at hM
      have h := ih (i + 1) ((M ++ (([35, 32] ++ rem) ++ [10, 32, 9, 10])) ++ (L[i] ++ [10])) (by omega) (by rw [← hM]; simp)
      refine h.step fun f => ?_
      simp only [t_law11_ListRemarks, f_law11_ListRemarks_p19, cond_dec, and_dec, hg, beq_int, rem_str1, rem_str2, lst_feed, f1, f2, f3, f4, f5, str_app, cond_true, List.length_map]
      rw [if_pos (by omega), if_pos (by omega), if_pos c, iadd_i64 (by omega)]; rfl
    · rw [if_neg c, List.nil_append] at hM
      have h := ih (i + 1) (M ++ (L[i] ++ [10])) (by omega) (by rw [← hM]; simp)
      refine h.step fun f => ?_
      simp only [t_law11_ListRemarks, f_law11_ListRemarks_p19, cond_dec, and_dec, hg, beq_int, lst_feed, f4, f6, str_app, cond_true, List.length_map]
      rw [if_pos (by omega), if_pos (by omega), if_neg c, iadd_i64 (by omega)]; rfl
theorem rem_p9 (l rem : List Int) (hl : okBy l) (hll : l.length ≤ 3000) (hr : okBy rem) (hrl : rem.length ≤ 100) (at_ : Int) : ∀ (k i : Nat), i + k = rem.length → 10 ∉ rem.take i →
    Evn (fun f => (f_law11_ListRemarks_t f).1 ((), ((strOf l, ()), ((strOf rem, ()), ((at_, ()), (((i : Int), ()), ())))))) ((), ((true, ()), ())) := by
  intro k
  induction k with
  | zero =>
    intro i hi hn
    rw [List.take_of_length_le (by omega)] at hn
    have hL := ref11_lines l hl (by omega)
    have hsum := linesA_sum l []
    have hlen := linesA_len l []
    have hpl := remL_len rem at_ (linesA [] l) 0
    have hno := remL_no10 hn at_ (linesA [] l) 0 (linesA_no10 l [] (by simp))
    have hto : okBy ((remL rem at_ 0 (linesA [] l)).flatMap (· ++ [10])) := by
      refine okBy_flat fun x hx => okBy_app ?_ (by intro y hy; rw [List.mem_singleton.1 hy]; decide)
      have : ∀ (L : List (List Int)) (i : Nat), (∀ x ∈ L, okBy x) → ∀ x ∈ remL rem at_ i L, okBy x := by
        intro L
        induction L with
        | nil => intro i _ x hx; cases hx
        | cons s L ih =>
          intro i h x hx
          unfold remL at hx
          rcases List.mem_append.1 hx with hx | hx
          · split at hx
            · simp only [List.mem_cons, List.not_mem_nil, or_false] at hx
              rcases hx with rfl | rfl
              · exact okBy_cons (by decide) (okBy_cons (by decide) hr)
              · unfold okBy; decide
            · cases hx
          · rcases List.mem_cons.1 hx with rfl | hx
            · exact h _ (List.mem_cons_self ..)
            · exact ih (i + 1) (fun y hy => h y (List.mem_cons_of_mem _ hy)) x hx
      exact this _ 0 (linesA_ok hl (fun y hy => by cases hy)) x hx
    have hbound : ((remL rem at_ 0 (linesA [] l)).flatMap (· ++ [10])).length ≤ 10000 := by
      simp only [List.length_nil] at hsum
      split at hpl <;> omega
    have e1 := readL_ev l (by omega)
    have e2 := readL_ev ((remL rem at_ 0 (linesA [] l)).flatMap (· ++ [10])) (by omega)
    rw [linesA_flat _ hno, remL_ev] at e2
    have hsame : parseF ((remL rem at_ 0 (linesA [] l)).flatMap (· ++ [10])) = parseF l := parse_same (e2.1.trans e1.1.symm) (e2.2.trans e1.2.symm)
    have hLe : ∀ x ∈ linesA [] l, x.length ≤ 100000 := by
      intro x hx
      have : (x ++ [10]).length ≤ ((linesA [] l).flatMap (· ++ [10])).length := by
        obtain ⟨a, b, hab⟩ := List.append_of_mem hx
        rw [hab, List.flatMap_append, List.flatMap_cons]
        simp only [List.length_append]; omega
      rw [List.length_append] at this
      simp only [List.length_nil] at hsum; omega
    refine (rem_p19 l rem hl at_ (linesA [] l) (by omega) hrl _ (by omega) hto hsame hLe (linesA [] l).length 0 [] (Nat.zero_add _) (by rw [List.nil_append, List.drop_zero])).step fun f => ?_
    simp only [t_law11_ListRemarks, f_law11_ListRemarks_p9, str_size, cond_dec, hL, Option.bind_some, List.length_map, sc_nil]
    rw [if_neg (by omega)]; rfl
  | succ k ih =>
    intro i hi hn
    have hlt : i < rem.length := by omega
    have hb := by_at (strOf rem) (i := (i : Int)) (by omega) (by rw [str_size]; omega)
    rw [by_str hr, Int.toNat_natCast, List.getD_eq_getElem?_getD, List.getElem?_eq_getElem hlt, Option.getD_some] at hb
    by_cases c : rem[i] = 10
    · refine Evn.some 1 fun f => ?_
      simp only [t_law11_ListRemarks, f_law11_ListRemarks_p9, str_size, cond_dec, and_dec, hb, beq_int]
      rw [if_pos (by omega), if_pos (by omega), if_pos c]
    · refine (ih (i + 1) (by omega) ?_).step fun f => ?_
      · rw [List.take_add_one, List.getElem?_eq_getElem hlt]
        simp only [Option.toList_some, List.mem_append, List.mem_singleton, not_or]
        exact ⟨hn, fun e => c e.symm⟩
      · simp only [t_law11_ListRemarks, f_law11_ListRemarks_p9, str_size, cond_dec, and_dec, hb, beq_int]
        rw [if_pos (by omega), if_pos (by omega), if_neg c, iadd_i64 (by omega)]; rfl
theorem list_remarks (s q : ByteArray) (at_ : Int) : g_law11_ListRemarks ((), ((s, ()), ((q, ()), ((at_, ()), ())))) = some ((), ((true, ()), ())) := by
  have hs := by_len s
  have hq := by_len q
  by_cases c1 : 3000 < s.size
  · refine (Evn.const fun f => ?_).lim
    simp only [f_law11_ListRemarks_m, list_alive, Option.bind_some, Bool.not_true, cond_false, gt_iff_lt, cond_dec]
    rw [if_pos (by omega)]
  by_cases c2 : 100 < q.size
  · refine (Evn.const fun f => ?_).lim
    simp only [f_law11_ListRemarks_m, list_alive, Option.bind_some, Bool.not_true, cond_false, gt_iff_lt, cond_dec]
    rw [if_neg (by omega), if_pos (by omega)]
  have h := rem_p9 (bytesOf s) (bytesOf q) (by_ok s) (by omega) (by_ok q) (by omega) at_ (bytesOf q).length 0 (Nat.zero_add _) (by simp)
  rw [str_by, str_by] at h
  refine (h.cast fun f => ?_).lim
  simp only [f_law11_ListRemarks_m, list_alive, Option.bind_some, Bool.not_true, cond_false, gt_iff_lt, cond_dec]
  rw [if_neg (by omega), if_neg (by omega)]; rfl
end Go.Proofs.YtcnngodgngmghaaGreatDoor.Ev
