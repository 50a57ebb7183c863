/- Leap tables as texts: lines by the document's answer, and what does not count. -/
import Derived.Test.YtcnngodgngmghaaGreatDoorPuLstD
import Derived.Test.YtcnngodgngmghaaGreatDoorPureLeapSame
namespace Go.Proofs.YtcnngodgngmghaaGreatDoor.Ev
open Go
set_option linter.unusedVariables false
set_option linter.unusedSimpArgs false
/-- A text's lines: the last one, if there is something in it. -/
def linesA : List Int → List Int → List (List Int)
  | cur, [] => if cur = [] then [] else [cur]
  | cur, x :: l => if x = 10 then cur :: linesA [] l else linesA (cur ++ [x]) l
theorem chop_cons (x y : Int) (t : List Int) : chop (x :: y :: t) = x :: chop (y :: t) := by
  unfold chop
  rw [List.getLast?_cons_cons]
  split <;> simp
theorem rows_lines : ∀ (l cur : List Int), l ≠ [] → rowsA cur (chop l) = linesA cur l
  | [], _, h => absurd rfl h
  | [x], cur, _ => by
    by_cases c : x = 10
    · subst c
      rw [show chop [10] = [] from rfl, rowsA, linesA, if_pos rfl, linesA, if_pos rfl]
    · rw [show chop [x] = [x] by unfold chop; rw [if_neg (by simpa using c)], rowsA, if_neg c, rowsA, linesA, if_neg c, linesA, if_neg (by simp)]
  | x :: y :: t, cur, _ => by
    rw [chop_cons, rowsA, linesA, rows_lines (y :: t) [] (by simp), rows_lines (y :: t) (cur ++ [x]) (by simp)]
theorem linesA_no10 : ∀ (l cur : List Int), 10 ∉ cur → ∀ x ∈ linesA cur l, 10 ∉ x
  | [], cur, h, x, hx => by
    rw [linesA] at hx
    split at hx
    · cases hx
    · rw [List.mem_singleton.1 hx]; exact h
  | a :: l, cur, h, x, hx => by
    rw [linesA] at hx
    split at hx
    · rcases List.mem_cons.1 hx with rfl | hx
      · exact h
      · exact linesA_no10 l [] (by simp) x hx
    · rename_i c
      exact linesA_no10 l _ (by simp only [List.mem_append, List.mem_singleton, not_or]; exact ⟨h, fun e => c e.symm⟩) x hx
theorem linesA_ok : ∀ {l cur : List Int}, okBy l → okBy cur → ∀ x ∈ linesA cur l, okBy x
  | [], cur, _, hc, x, hx => by
    rw [linesA] at hx
    split at hx
    · cases hx
    · rw [List.mem_singleton.1 hx]; exact hc
  | a :: l, cur, hl, hc, x, hx => by
    rw [linesA] at hx
    have hl' : okBy l := fun y hy => hl y (List.mem_cons_of_mem _ hy)
    split at hx
    · rcases List.mem_cons.1 hx with rfl | hx
      · exact hc
      · exact linesA_ok hl' (fun y hy => by cases hy) x hx
    · exact linesA_ok hl' (okBy_app hc (fun y hy => by rw [List.mem_singleton.1 hy]; exact hl a (List.mem_cons_self ..))) x hx
theorem linesA_hit (p cur l : List Int) (h : 10 ∉ p) : linesA cur (p ++ 10 :: l) = (cur ++ p) :: linesA [] l := by
  induction p generalizing cur with
  | nil => rw [List.nil_append, linesA, if_pos rfl, List.append_nil]
  | cons a p ih =>
    rw [List.cons_append, linesA, if_neg (fun e => h (by rw [e]; simp)), ih _ (fun q => h (by simp [q])), List.append_assoc]; rfl
theorem linesA_flat : ∀ (L : List (List Int)), (∀ x ∈ L, 10 ∉ x) → linesA [] (L.flatMap (· ++ [10])) = L
  | [], _ => rfl
  | p :: L, h => by
    rw [List.flatMap_cons, List.append_assoc, List.singleton_append, linesA_hit _ _ _ (h p (List.mem_cons_self ..)), List.nil_append, linesA_flat L fun x hx => h x (List.mem_cons_of_mem _ hx)]
theorem linesA_len : ∀ (l cur : List Int), (linesA cur l).length ≤ l.length + 1
  | [], cur => by rw [linesA]; split <;> simp
  | a :: l, cur => by
    rw [linesA]
    split
    · have := linesA_len l []
      simp only [List.length_cons]; omega
    · have := linesA_len l (cur ++ [a])
      simp only [List.length_cons]; omega
theorem linesA_sum : ∀ (l cur : List Int), ((linesA cur l).flatMap (· ++ [10])).length ≤ cur.length + l.length + 1
  | [], cur => by rw [linesA]; split <;> simp
  | a :: l, cur => by
    rw [linesA]
    split
    · have := linesA_sum l []
      simp only [List.flatMap_cons, List.length_append, List.length_cons, List.length_nil] at *; omega
    · have := linesA_sum l (cur ++ [a])
      simp only [List.length_append, List.length_cons, List.length_nil] at *; omega
theorem lines_p5 (l : List Int) (hok : okBy l) (hl : l.length ≤ 100000) : ∀ (k i a : Nat) (out : List ByteArray), i + k = l.length → a ≤ i → out.length ≤ i →
    Evn (fun f => (f_ref11_Lines_t f).1 ((out, ()), ((strOf l, ()), ((), (((a : Int), ()), (((i : Int), ()), ())))))) ((out ++ (linesA ((l.take i).drop a) (l.drop i)).map strOf, ()), ((), ())) := by
  intro k
  induction k with
  | zero =>
    intro i a out hi ha ho
    refine Evn.some 1 fun f => ?_
    rw [List.drop_eq_nil_of_le (show l.length ≤ i by omega), linesA]
    simp only [t_ref11_Lines, f_ref11_Lines_p5, str_size, cond_dec, and_dec, str_cut, Int.toNat_natCast, List.length_cons, List.length_nil]
    rw [if_neg (by omega)]
    have hz : (l.take i).drop a = [] ↔ ¬ (a : Int) < l.length := by
      rw [List.drop_eq_nil_iff, List.length_take]; omega
    by_cases c : (a : Int) < l.length
    · rw [if_pos c, if_pos (by omega), if_pos (by omega), if_neg (fun q => (hz.1 q) c), List.take_length, List.take_of_length_le (show l.length ≤ i by omega)]; rfl
    · rw [if_neg c, if_pos (hz.2 c), List.map_nil, List.append_nil]
  | succ k ih =>
    intro i a out hi ha ho
    have hlt : i < l.length := by omega
    have hb := by_at (strOf l) (i := (i : Int)) (by omega) (by rw [str_size]; omega)
    rw [by_str hok, Int.toNat_natCast, List.getD_eq_getElem?_getD, List.getElem?_eq_getElem hlt, Option.getD_some] at hb
    have hd : l.drop i = l[i] :: l.drop (i + 1) := List.drop_eq_getElem_cons hlt
    have ht : (l.take (i + 1)) = l.take i ++ [l[i]] := by rw [List.take_add_one, List.getElem?_eq_getElem hlt]; rfl
    rw [hd, linesA]
    by_cases c : l[i] = 10
    · have h := ih (i + 1) (i + 1) (out ++ [strOf ((l.take i).drop a)]) (by omega) (Nat.le_refl _) (by rw [List.length_append]; simp only [List.length_cons, List.length_nil]; omega)
      rw [List.drop_eq_nil_of_le (show (l.take (i + 1)).length ≤ i + 1 by rw [List.length_take]; omega), List.append_assoc] at h
      rw [if_pos c]
      refine h.step fun f => ?_
      simp only [t_ref11_Lines, f_ref11_Lines_p5, str_size, cond_dec, and_dec, str_cut, Int.toNat_natCast, List.length_cons, List.length_nil, hb, beq_int]
      rw [if_pos (by omega), if_pos (by omega), if_pos c, if_pos (by omega), if_pos (by omega), iadd_i64 (by omega)]; rfl
    · have h := ih (i + 1) a out (by omega) (by omega) (by omega)
      rw [ht, List.drop_append_of_le_length (by rw [List.length_take]; omega)] at h
      rw [if_neg c]
      refine h.step fun f => ?_
      simp only [t_ref11_Lines, f_ref11_Lines_p5, str_size, cond_dec, and_dec, hb, beq_int]
      rw [if_pos (by omega), if_pos (by omega), if_neg c, iadd_i64 (by omega)]; rfl
theorem ref11_lines (l : List Int) (hok : okBy l) (hl : l.length ≤ 100000) : g_ref11_Lines ((), ((strOf l, ()), ())) = some (((linesA [] l).map strOf, ()), ((), ())) := by
  have h := lines_p5 l hok hl l.length 0 0 [] (by omega) (Nat.le_refl _) (Nat.le_refl _)
  simp only [List.take_zero, List.drop_zero, List.nil_append] at h
  refine (h.cast fun f => ?_).lim
  simp only [f_ref11_Lines_m]; rfl
/-! ### lines without their numbers -/
def evF (r : RS) : List (List Int) → RS × Option Int
  | [] => (r, none)
  | l :: rest => match (lineF r l).2 with
    | some c => ((lineF r l).1, some c)
    | none => evF (lineF r l).1 rest
theorem readF_ev : ∀ (L : List (List Int)) (r : RS) (i : Nat), (readF r i L).1 = (evF r L).1 ∧ (readF r i L).2.2 = (evF r L).2
  | [], r, i => ⟨rfl, rfl⟩
  | l :: L, r, i => by
    unfold readF evF
    cases h : (lineF r l).2 with
    | some c => exact ⟨rfl, rfl⟩
    | none => exact readF_ev L (lineF r l).1 (i + 1)
theorem line_nil (r : RS) : lineF r [] = (r, none) := by
  unfold lineF
  rw [if_pos (by intro x hx; cases hx)]
theorem line_gap (r : RS) : lineF r [32, 9] = (r, none) := by
  unfold lineF
  rw [if_pos (by decide)]
theorem line_rem (r : RS) (l : List Int) : lineF r (35 :: 32 :: l) = (r, none) := by
  unfold lineF
  rw [if_neg (by intro h; have := h 35 (by simp); revert this; decide), if_neg (by simp), if_neg (by simp), if_neg (by simp), if_pos (by simp)]
theorem readL_ev (l : List Int) (hl : l.length ≤ 65535) : (readL l).1 = (evF ⟨none, none, none, []⟩ (linesA [] l)).1 ∧ (readL l).2.2 = (evF ⟨none, none, none, []⟩ (linesA [] l)).2 := by
  unfold readL
  rw [if_neg (by omega)]
  by_cases c : l = []
  · subst c
    rw [show chop [] = [] from rfl, rowsA, linesA, if_pos rfl]
    have := readF_ev [[]] ⟨none, none, none, []⟩ 0
    rw [this.1, this.2]
    unfold evF
    rw [line_nil]
    exact ⟨rfl, rfl⟩
  · rw [rows_lines l [] c]
    exact readF_ev _ _ _
theorem parse_same {l m : List Int} (h1 : (readL l).1 = (readL m).1) (h2 : (readL l).2.2 = (readL m).2.2) : parseF l = parseF m := by
  unfold parseF
  rw [h1, h2]
theorem parseF_some {l : List Int} {t : Tb3} (h : (parseF l).1 = some t) : (parseF l).2 = none ∧ tErr t.1 t.2.1 t.2.2 = 0 := by
  unfold parseF at h ⊢
  split at h
  · cases h
  · split at h
    · split at h
      · rename_i ht
        split at h
        · split at h
          · simp only [Option.some.injEq] at h
            subst h
            rename_i u e hu he w hw hb
            rw [if_pos ht]
            simp only [hw, hb, if_true]
            exact ⟨trivial, ht⟩
          · cases h
        · simp only [Option.some.injEq] at h
          subst h
          rename_i u e hu he hw
          rw [if_pos ht]
          simp only [hw]
          exact ⟨trivial, ht⟩
      · cases h
    · cases h
theorem num_some (o : Option Int) : ∃ v : Int, g_hnum_Num ((), ((o, ()), ())) = some ((), ((v, ()), ())) := by
  cases o with
  | none => exact ⟨0, rfl⟩
  | some c =>
    by_cases h : c = 0
    · subst h; exact ⟨-1, by kernel_rfl⟩
    · refine ⟨c, ?_⟩
      simp only [g_hnum_Num, f_hnum_Num_m, Option.isNone_some, Option.isSome_some, cond_false, cond_true, Option.getD_some, bne_int, cond_dec]
      rw [if_pos h]
theorem rowsEq_refl (l : List (Int × Int)) : rowsEq l l := ⟨rfl, fun i hi => ⟨rfl, rfl⟩⟩
theorem same_self (l : List Int) : g_leap_Same ((), (((parseF l).1, ()), (((parseF l).1, ()), ()))) = some ((), ((true, ()), ())) := by
  cases h : (parseF l).1 with
  | none => rfl
  | some t =>
    obtain ⟨rows, u, e⟩ := t
    obtain ⟨_, ht⟩ := parseF_some h
    have hg := good_of ht
    rw [leap_same rows rows u e u e (by have := hg.1.len.2; simp only at this; omega) (by have := hg.1.len.2; simp only at this; omega), decide_eq_true ⟨rfl, rfl, rowsEq_refl rows⟩]
/-! ### the fixed fact -/
theorem demo_one : tErr [(730, 10)] 5 9 = 0 := by
  have h0 : gd_i64_i64 [(730, 10)] ((0 : Nat) : Int) = (730, 10) := rfl
  have hu : ¬ undatedL [(730, 10)] := by
    rintro ⟨i, hi, hh⟩
    match i, hi with
    | 0, _ => rw [h0] at hh; exact hh (by unfold dated; decide)
  have hw : ¬ wrongL [(730, 10)] := by
    rintro ⟨i, hi, hh⟩
    match i, hi with
    | 0, _ => rw [h0] at hh; exact hh ⟨first_730, by decide, by decide⟩
  have hr : rises [(730, 10)] := by
    intro i hi
    simp at hi
  unfold tErr
  rw [if_neg (by decide), if_neg (by decide), if_neg hu, if_neg, if_neg (not_not_intro hr)]
  rintro (h | h | h)
  · exact hw h
  · exact h (by unfold timeP; decide)
  · exact h (by unfold timeP; decide)
def demoL : List Int := [35, 36, 32, 53, 10, 35, 64, 32, 57, 10, 50, 50, 55, 50, 48, 54, 48, 56, 48, 48, 9, 49, 48, 10]
theorem demo_read : readL demoL = (⟨some 5, some 9, none, [(730, 10)]⟩, (0, none)) := by kernel_rfl
theorem demo_parse : parseF demoL = (some ([(730, 10)], (5, 9)), none) := by
  unfold parseF
  rw [demo_read]
  simp only
  rw [demo_one, if_pos rfl]
theorem list_alive : g_law11_alive ((), ()) = some ((), ((true, ()), ())) := by
  have h := lst_parse demoL (by unfold okBy demoL; decide)
  rw [demo_parse, show strOf demoL = (⟨#[35, 36, 32, 53, 10, 35, 64, 32, 57, 10, 50, 50, 55, 50, 48, 54, 48, 56, 48, 48, 9, 49, 48, 10]⟩ : ByteArray) by kernel_rfl] at h
  have hr : g_leap_Table_Row ((), ((some ([(730, 10)], (5, 9)), ()), ((0, ()), ()))) = some ((), ((730, (10, ())), ((true, ()), ()))) := by kernel_rfl
  simp only [g_law11_alive, f_law11_alive_m, h, hr, Option.bind_some, Option.isNone_none, Option.isNone_some, Bool.not_true, cond_false, cond_true, beq_self_eq_true]
end Go.Proofs.YtcnngodgngmghaaGreatDoor.Ev
