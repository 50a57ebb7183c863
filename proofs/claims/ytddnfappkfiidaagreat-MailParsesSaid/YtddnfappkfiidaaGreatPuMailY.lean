/- Mail dates: the reference's parts, and what it makes of them. -/
import Derived.Test.YtddnfappkfiidaaGreatPuMailV
import Derived.Test.YtddnfappkfiidaaGreatPureMailParts
namespace Go.Proofs.YtddnfappkfiidaaGreat.Ev
open Go
set_option linter.unusedVariables false
set_option linter.unusedSimpArgs false
theorem ref25_gap (s : ByteArray) (hs : s.size ≤ 1000000) (i : Nat) (hi : i ≤ s.size) : g_ref25_Gap ((), ((s, ()), (((i : Int), ()), ()))) = some ((), ((posO s.size (gp ((bytesOf s).drop i)), ()), ())) := by
  have h2 := rgap_p5 s hs _ _ i (Nat.le_refl _) hi rfl
  refine (h2.cast fun f => ?_).lim
  simp only [f_ref25_Gap_m, fitsS_dec, Option.bind_some, Option.isNone_none, Option.isNone_some, Option.isSome_none, Option.isSome_some, Bool.not_true, Bool.not_false, cond_true, cond_false, cond_dec, beq_int, bne_int, not_dec, gt_iff_lt]
  rw [if_neg (by omega), if_neg (by omega)]
theorem ref25_figW (w : List Int) (ho : okBy w) (hl : w.length ≤ 1000000) (a b : Nat) : g_ref25_figures ((), ((strOf w, ()), (((a : Int), ()), (((b : Int), ()), ())))) = some ((), ((decide (figW w a b), ()), ())) := by
  have h := ref02_many (strOf w) (by rw [str_size]; exact hl)
  rw [by_str ho] at h
  have hll := lead_le w
  simp only [g_ref25_figures, f_ref25_figures_m, h, str_size, fitsS_dec, Option.bind_some, Option.isNone_none, Option.isNone_some, Option.isSome_none, Option.isSome_some, Bool.not_true, Bool.not_false, cond_true, cond_false, cond_dec, beq_int, bne_int, not_dec, ge_iff_le]
  by_cases c1 : a ≤ w.length
  · rw [if_pos (by omega)]
    by_cases c2 : w.length ≤ b
    · rw [if_pos (by omega)]
      congr 4
      rw [decide_eq_decide]
      show _ ↔ (a ≤ w.length ∧ w.length ≤ b ∧ lead w = w.length)
      omega
    · rw [if_neg (by omega), decide_eq_false (show ¬ figW w a b from fun q => c2 q.2.1)]
  · rw [if_neg (by omega), decide_eq_false (show ¬ figW w a b from fun q => c1 q.1)]
theorem val10_app (l : List Int) (x : Int) : val10 (l ++ [x]) = val10 l * 10 + (x - 48) := by
  unfold val10; rw [List.foldl_append]; rfl
theorem ref25_number (w : List Int) (hf : ∀ x ∈ w, isF x) (hl : w.length ≤ 17) : g_ref25_number ((), ((strOf w, ()), ())) = some ((), ((val10 w, ()), ())) := by
  have ho : okBy w := fun x hx => by have := hf x hx; unfold isF at this; omega
  have L : ∀ (k i : Nat), i + k = w.length → Evn (fun f => (f_ref25_number_t f).1 ((), ((strOf w, ()), ((val10 (w.take i), ()), (((i : Int), ()), ()))))) ((), ((val10 w, ()), ())) := by
    intro k; induction k with
    | zero =>
      intro i hi
      refine Evn.some 1 fun f => ?_
      simp only [t_ref25_number, f_ref25_number_p4, str_size, fitsS_dec, Option.bind_some, Option.isNone_none, Option.isNone_some, Option.isSome_none, Option.isSome_some, Bool.not_true, Bool.not_false, cond_true, cond_false, cond_dec, beq_int, bne_int, not_dec]
      rw [if_neg (by omega), List.take_of_length_le (by omega)]
    | succ k ih =>
      intro i hi
      have hb := by_at (strOf w) (i := (i : Int)) (by omega) (by rw [str_size]; omega)
      rw [by_str ho, Int.toNat_natCast, List.getD_eq_getElem?_getD, List.getElem?_eq_getElem (show i < w.length by omega), Option.getD_some] at hb
      have hx := hf _ (List.getElem_mem (show i < w.length by omega))
      have ht : w.take (i + 1) = w.take i ++ [w[i]'(by omega)] := by rw [List.take_append_getElem (by omega)]
      have hv := val10_range _ (w.take i) rfl (fun x hx => hf x (List.mem_of_mem_take hx))
      have hp : (10 : Int) ^ (w.take i).length ≤ 10 ^ 16 := by
        have : 10 ^ (w.take i).length ≤ 10 ^ 16 := Nat.pow_le_pow_right (by omega) (by rw [List.length_take]; omega)
        exact_mod_cast this
      have h2 := ih (i + 1) (by omega)
      rw [ht, val10_app] at h2
      refine h2.step fun f => ?_
      unfold isF at hx
      have e1 : isub .u8 (w[i]'(by omega)) 48 = (w[i]'(by omega)) - 48 := by unfold isub; rw [wrap_u8]; omega
      simp only [t_ref25_number, f_ref25_number_p4, str_size, hb, fitsS_dec, Option.bind_some, Option.isNone_none, Option.isNone_some, Option.isSome_none, Option.isSome_some, Bool.not_true, Bool.not_false, cond_true, cond_false, cond_dec, beq_int, bne_int, not_dec, and_dec]
      rw [if_pos (by omega), if_pos (by omega), e1, imul_i64 (by omega), iconv_i64 (by omega), iadd_i64 (by omega), iadd_i64 (by omega)]; rfl
  refine ((L w.length 0 (by omega)).cast fun f => ?_).lim
  simp only [f_ref25_number_m]; rfl
theorem up_low {x y : Int} : up x = up y ↔ low x = low y := by
  unfold up low
  constructor
  · intro h; split at h <;> split at h <;> split <;> split <;> omega
  · intro h; split at h <;> split at h <;> split <;> split <;> omega
theorem map_up_low : ∀ (a b : List Int), a.map up = b.map up ↔ a.map low = b.map low
  | [], [] => by simp
  | [], _ :: _ => by simp
  | _ :: _, [] => by simp
  | x :: a, y :: b => by
    simp only [List.map_cons, List.cons.injEq, map_up_low a b, up_low]
theorem ref25_index (w : List Int) (ho : okBy w) (hl : w.length ≤ 1000000) (mo : Bool) (m : Nat) (hm : m = if mo then 12 else 7) :
    g_ref25_index ((), ((strOf w, ()), ((mo, ()), (((m : Int), ()), ())))) = some ((), (((nmI (if mo then moN else wkN) m 1 w : Int), ()), ())) := by
  have hg := ref25_great w ho hl
  have hm12 : m ≤ 12 := by rw [hm]; split <;> omega
  have L : ∀ (k i : Nat), i + k = m + 1 → 1 ≤ i → Evn (fun f => (f_ref25_index_t f).1 ((), ((strOf w, ()), ((mo, ()), (((m : Int), ()), (((i : Int), ()), ())))))) ((), (((nmI (if mo then moN else wkN) k i w : Int), ()), ())) := by
    intro k; induction k with
    | zero =>
      intro i hi h1
      refine Evn.some 1 fun f => ?_
      simp only [t_ref25_index, f_ref25_index_p3, fitsS_dec, Option.bind_some, Option.isNone_none, Option.isNone_some, Option.isSome_none, Option.isSome_some, Bool.not_true, Bool.not_false, cond_true, cond_false, cond_dec, beq_int, bne_int, not_dec, nmI]
      rw [if_neg (by omega)]; rfl
    | succ k ih =>
      intro i hi h1
      obtain ⟨t, _, hwk⟩ := both_wk (i : Int)
      have h2 := ih (i + 1) (by omega) (by omega)
      have e1 : iadd .i64 (i : Int) 1 = ((i + 1 : Nat) : Int) := by rw [iadd_i64 (by omega)]; rfl
      cases mo with
      | true =>
        simp only [if_true] at hm h2 ⊢
        obtain ⟨n1, n2, n3⟩ := mo_name i h1 (by omega)
        have hmo := ref25_mo i h1 (by omega)
        have hg2 := ref25_great (moN i) n2 (by omega)
        have hq := str_toList_eq (w.map up) ((moN i).map up) (up_by ho) (up_by n2)
        by_cases c : w.map low = (moN i).map low
        · have hc := (map_up_low w (moN i)).2 c
          refine Evn.some 1 fun f => ?_
          simp only [t_ref25_index, f_ref25_index_p3, hwk, hmo, hg, hg2, hq, fitsS_dec, Option.bind_some, Option.isNone_none, Option.isNone_some, Option.isSome_none, Option.isSome_some, Bool.not_true, Bool.not_false, cond_true, cond_false, cond_dec, beq_int, bne_int, not_dec, if_true, nmI, if_pos c]
          rw [if_pos (by omega), if_pos hc]
        · have hc : ¬ w.map up = (moN i).map up := fun q => c ((map_up_low w (moN i)).1 q)
          simp only [nmI, if_neg c]
          refine h2.step fun f => ?_
          simp only [t_ref25_index, f_ref25_index_p3, hwk, hmo, hg, hg2, hq, fitsS_dec, Option.bind_some, Option.isNone_none, Option.isNone_some, Option.isSome_none, Option.isSome_some, Bool.not_true, Bool.not_false, cond_true, cond_false, cond_dec, beq_int, bne_int, not_dec, if_true]
          rw [if_pos (by omega), if_neg hc, e1]
      | false =>
        simp only [Bool.false_eq_true, if_false] at hm h2 ⊢
        obtain ⟨n1, n2, n3⟩ := wk_name i h1 (by omega)
        have hwk := ref25_wk i h1 (by omega)
        have hg2 := ref25_great (wkN i) n2 (by omega)
        have hq := str_toList_eq (w.map up) ((wkN i).map up) (up_by ho) (up_by n2)
        by_cases c : w.map low = (wkN i).map low
        · have hc := (map_up_low w (wkN i)).2 c
          refine Evn.some 1 fun f => ?_
          simp only [t_ref25_index, f_ref25_index_p3, hwk, hg, hg2, hq, fitsS_dec, Option.bind_some, Option.isNone_none, Option.isNone_some, Option.isSome_none, Option.isSome_some, Bool.not_true, Bool.not_false, cond_true, cond_false, cond_dec, beq_int, bne_int, not_dec, Bool.false_eq_true, if_false, nmI, if_pos c]
          rw [if_pos (by omega), if_pos hc]
        · have hc : ¬ w.map up = (wkN i).map up := fun q => c ((map_up_low w (wkN i)).1 q)
          simp only [nmI, if_neg c]
          refine h2.step fun f => ?_
          simp only [t_ref25_index, f_ref25_index_p3, hwk, hg, hg2, hq, fitsS_dec, Option.bind_some, Option.isNone_none, Option.isNone_some, Option.isSome_none, Option.isSome_some, Bool.not_true, Bool.not_false, cond_true, cond_false, cond_dec, beq_int, bne_int, not_dec, Bool.false_eq_true, if_false]
          rw [if_pos (by omega), if_neg hc, e1]
  refine ((L m 1 (by omega) (Nat.le_refl _)).cast fun f => ?_).lim
  simp only [f_ref25_index_m]; rfl
/-! ### the parts -/
/-- One of its kind behind another one. -/
def kin (c x : Int) : Prop := (isF c ∧ isF x) ∨ (isL c ∧ isL x)
instance (c x : Int) : Decidable (kin c x) := by unfold kin; infer_instance
theorem wrd_step (c x : Int) (r : List Int) : wrd c (x :: r) = if kin c x then wrd c r + 1 else 0 := by
  unfold wrd kin
  by_cases f : isF c
  · have nl : ¬ isL c := fun q => isL_F q f
    simp only [f, if_true, true_and, nl, false_and, or_false, lead]
  · simp only [f, if_false, false_and, false_or]
    by_cases g : isL c
    · simp only [g, if_true, true_and, leadL]
    · simp only [g, if_false, false_and]
theorem kin_no {c : Int} (r : List Int) (h : wrd c r < r.length) : ¬ kin c (r.getD (wrd c r) 0) := by
  induction r with
  | nil => simp at h
  | cons x r ih =>
    rw [wrd_step] at h ⊢
    by_cases q : kin c x
    · rw [if_pos q] at h ⊢
      simp only [List.length_cons] at h
      simpa using ih (by omega)
    · rw [if_neg q]; simpa using q
theorem kin_yes {c : Int} : ∀ (r : List Int) (i : Nat), i < wrd c r → kin c (r.getD i 0)
  | [], i, h => by
    unfold wrd at h; split at h
    · simp [lead] at h
    · split at h <;> simp [leadL] at h
  | x :: r, i, h => by
    rw [wrd_step] at h
    by_cases q : kin c x
    · rw [if_pos q] at h
      cases i with
      | zero => simpa using q
      | succ i => simpa using kin_yes r i (by omega)
    · rw [if_neg q] at h; omega
theorem wrd_le (c : Int) : ∀ r : List Int, wrd c r ≤ r.length
  | [] => by
    unfold wrd; split
    · simp [lead]
    · split <;> simp [leadL]
  | x :: r => by
    rw [wrd_step]
    split
    · have := wrd_le c r; simp only [List.length_cons]; omega
    · omega
@[reducible] def wds (T : List Tok) : List ByteArray := T.map fun t => strOf t.2
@[reducible] def fls (T : List Tok) : List Bool := T.map fun t => t.1
theorem tk_len : ∀ (n : Nat) (l : List Int) (T : List Tok), l.length ≤ n → tk l = some T → T.length ≤ l.length := by
  intro n; induction n with
  | zero =>
    intro l T hn h
    have : l = [] := List.length_eq_zero_iff.1 (by omega)
    subst this
    rw [tk_nil gp_nil] at h
    rw [← Option.some.inj h]; simp
  | succ n ih =>
    intro l T hn h
    cases T with
    | nil => simp
    | cons a T =>
      obtain ⟨f, w⟩ := a
      obtain ⟨c, r, h1, h2, h3⟩ := tk_first h
      have hl := gp_len h1
      simp only [List.length_cons] at hl ⊢
      have := ih (r.drop (wrd c r)) T (by rw [List.length_drop]; omega) h3
      rw [List.length_drop] at this; omega
/-- What the reference's parts tell. -/
def partsV (o : Option (List Tok)) (W : List ByteArray) (F : List Bool) : (List ByteArray × (List Bool × Unit)) × (Unit × (Unit × ((Bool × Unit) × Unit))) :=
  match o with
  | none => (([], ([], ())), ((), ((), ((false, ()), ()))))
  | some T => ((W ++ wds T, (F ++ fls T, ())), ((), ((), ((true, ()), ()))))
theorem parts_p4 (s : ByteArray) (hs : s.size ≤ 1000000) : ∀ (n : Nat) (l : List Int) (i : Nat) (W : List ByteArray) (F : List Bool), l.length ≤ n → i ≤ s.size → (bytesOf s).drop i = l → W.length + l.length ≤ 1000000 → F.length + l.length ≤ 1000000 →
    Evn (fun f => (f_ref25_parts_t f).1 ((W, (F, ())), ((s, ()), ((), ((), (((i : Int), ()), ())))))) (partsV (tk l) W F) := by
  intro n; induction n with
  | zero =>
    intro l i W F hn hi hl hW hF
    have : l = [] := List.length_eq_zero_iff.1 (by omega)
    subst this
    have hg := ref25_gap s hs i hi
    rw [hl, gp_nil] at hg
    simp only [posO, List.length_nil, Nat.sub_zero] at hg
    rw [tk_nil gp_nil]
    refine Evn.some 1 fun f => ?_
    simp only [t_ref25_parts, f_ref25_parts_p4, hg, fitsS_dec, Option.bind_some, Option.isNone_none, Option.isNone_some, Option.isSome_none, Option.isSome_some, Bool.not_true, Bool.not_false, cond_true, cond_false, cond_dec, beq_int, bne_int, not_dec, partsV, wds, fls, List.map_nil, List.append_nil]
    rw [if_neg (by omega), if_pos trivial]
  | succ n ih =>
    intro l i W F hn hi hl hW hF
    have hg := ref25_gap s hs i hi
    rw [hl] at hg
    cases hgp : gp l with
    | none =>
      rw [hgp] at hg
      rw [tk_none hgp]
      refine Evn.some 1 fun f => ?_
      simp only [posO] at hg
      simp only [t_ref25_parts, f_ref25_parts_p4, hg, fitsS_dec, Option.bind_some, Option.isNone_none, Option.isNone_some, Option.isSome_none, Option.isSome_some, Bool.not_true, Bool.not_false, cond_true, cond_false, cond_dec, beq_int, bne_int, not_dec, partsV]
      rw [if_pos (by decide)]
    | some q =>
      rw [hgp] at hg
      have hgl := gp_len hgp
      have hsl : l.length = s.size - i := by rw [← hl, List.length_drop, by_len]
      cases q with
      | nil =>
        simp only [posO, List.length_nil, Nat.sub_zero] at hg
        rw [tk_nil hgp]
        refine Evn.some 1 fun f => ?_
        simp only [t_ref25_parts, f_ref25_parts_p4, hg, fitsS_dec, Option.bind_some, Option.isNone_none, Option.isNone_some, Option.isSome_none, Option.isSome_some, Bool.not_true, Bool.not_false, cond_true, cond_false, cond_dec, beq_int, bne_int, not_dec, partsV, wds, fls, List.map_nil, List.append_nil]
        rw [if_neg (by omega), if_pos trivial]
      | cons c r =>
        simp only [posO] at hg
        obtain ⟨p, hp⟩ := gp_cut l.length l _ (Nat.le_refl _) hgp
        obtain ⟨d1, d2, d3⟩ := rdrop hl hi hp
        simp only [List.length_cons] at hgl d1 d2 d3 hg
        obtain ⟨k1, k2, k3, k4⟩ := rest_at d1
        generalize hj : s.size - (r.length + 1) = j at hg d1 d2 k1 k2 k3 k4
        have hwl := wrd_le c r
        have hT := tk_cons hgp
        have ih2 := ih (r.drop (wrd c r)) (j + 1 + wrd c r) (W ++ [strOf (c :: r.take (wrd c r))]) (F ++ [decide ((c :: r).length < l.length)]) (by rw [List.length_drop]; omega) (by omega) (by rw [← k3, List.drop_drop]) (by rw [List.length_append, List.length_drop, List.length_singleton]; omega) (by rw [List.length_append, List.length_drop, List.length_singleton]; omega)
        have hpv : partsV (tk (r.drop (wrd c r))) (W ++ [strOf (c :: r.take (wrd c r))]) (F ++ [decide ((c :: r).length < l.length)]) = partsV (tk l) W F := by
          rw [hT]
          cases tk (r.drop (wrd c r)) with
          | none => rfl
          | some T => simp only [Option.map_some, partsV, wds, fls, List.map_cons, List.append_assoc, List.singleton_append]
        rw [hpv] at ih2
        have bj := by_at s (i := (j : Int)) (by omega) (by omega)
        rw [Int.toNat_natCast, k2] at bj
        have oc := okBy_at (by_ok s) j
        rw [k2] at oc
        have hcl := ref25_letter c
        have hci := ref02_is c oc
        have hdk : ∀ k, (bytesOf s).getD (j + 1 + k) 0 = r.getD k 0 := fun k => by
          rw [← k3, List.getD_eq_getElem?_getD, List.getD_eq_getElem?_getD, List.getElem?_drop]
        have hcut : s.extract j (j + 1 + wrd c r) = strOf (c :: r.take (wrd c r)) := by
          apply by_inj
          have ho : okBy (c :: r.take (wrd c r)) := okBy_cons oc (okBy_take (by rw [← k3]; exact okBy_drop (by_ok s) _) _)
          rw [by_cut, by_str ho]
          rw [show j + 1 + wrd c r = j + (1 + wrd c r) by omega, List.take_add, List.drop_left' (by rw [List.length_take, by_len]; omega), d1]
          rw [show 1 + wrd c r = wrd c r + 1 by omega, List.take_succ_cons]
        have inner : ∀ (k e : Nat), e + k = wrd c r → Evn (fun f => (f_ref25_parts_t f).2.1 ((W, (F ++ [decide ((c :: r).length < l.length)], ())), ((s, ()), ((), ((), (((j : Int), ()), (((j + 1 + e : Nat) : Int), ()), ())))))) (partsV (tk l) W F) := by
          intro k; induction k with
          | zero =>
            intro e he
            have he : e = wrd c r := by omega
            subst he
            have hno : wrd c r < r.length → ¬ kin c (r.getD (wrd c r) 0) := kin_no r
            refine ih2.step fun f => ?_
            by_cases hend : j + 1 + wrd c r < s.size
            · have hno := hno (by omega)
              have be := by_at s (i := ((j + 1 + wrd c r : Nat) : Int)) (by omega) (by omega)
              rw [Int.toNat_natCast, hdk] at be
              have oe := okBy_at (by_ok s) (j + 1 + wrd c r)
              rw [hdk] at oe
              generalize r.getD (wrd c r) 0 = x at be oe hno
              have hxl := ref25_letter x
              have hxi := ref02_is x oe
              unfold kin at hno
              unfold isL at hno
              simp only [t_ref25_parts, f_ref25_parts_p16, bj, be, hcl, hci, hxl, hxi, hcut, fitsS_dec, Option.bind_some, Option.isNone_none, Option.isNone_some, Option.isSome_none, Option.isSome_some, Bool.not_true, Bool.not_false, cond_true, cond_false, cond_dec, beq_int, bne_int, not_dec, and_dec, Int.toNat_natCast, List.length_append, List.length_singleton]
              rw [if_pos (by omega), if_pos (by omega)]
              by_cases q1 : isF c
              · rw [if_pos q1, if_pos (by omega), if_neg (fun q => hno (Or.inl ⟨q1, q⟩)), if_pos (by omega)]
                have q2 : ¬ ((65 ≤ c ∧ c ≤ 90) ∨ (97 ≤ c ∧ c ≤ 122)) := by unfold isF at q1; omega
                rw [if_neg q2, if_pos (by omega), if_pos (by omega)]
              · rw [if_neg q1, if_pos (by omega)]
                by_cases q2 : (65 ≤ c ∧ c ≤ 90) ∨ (97 ≤ c ∧ c ≤ 122)
                · rw [if_pos q2, if_pos (by omega), if_neg (fun q => hno (Or.inr ⟨q2, q⟩)), if_pos (by omega), if_pos (by omega)]
                · rw [if_neg q2, if_pos (by omega), if_pos (by omega)]
            · simp only [t_ref25_parts, f_ref25_parts_p16, hcut, fitsS_dec, Option.bind_some, Option.isNone_none, Option.isNone_some, Option.isSome_none, Option.isSome_some, Bool.not_true, Bool.not_false, cond_true, cond_false, cond_dec, beq_int, bne_int, not_dec, and_dec, Int.toNat_natCast, List.length_append, List.length_singleton]
              rw [if_neg (by omega), if_pos (by omega), if_pos (by omega)]
          | succ k ihk =>
            intro e he
            have hy := kin_yes (c := c) r e (by omega)
            have be := by_at s (i := ((j + 1 + e : Nat) : Int)) (by omega) (by omega)
            rw [Int.toNat_natCast, hdk] at be
            have oe := okBy_at (by_ok s) (j + 1 + e)
            rw [hdk] at oe
            have h3 := ihk (e + 1) (by omega)
            generalize r.getD e 0 = x at be oe hy
            have hxl := ref25_letter x
            have hxi := ref02_is x oe
            have e1 : iadd .i64 ((j + 1 + e : Nat) : Int) 1 = ((j + 1 + (e + 1) : Nat) : Int) := by rw [iadd_i64 (by omega)]; rfl
            unfold kin at hy
            unfold isL at hy
            refine h3.step fun f => ?_
            simp only [t_ref25_parts, f_ref25_parts_p16, bj, be, hcl, hci, hxl, hxi, e1, fitsS_dec, Option.bind_some, Option.isNone_none, Option.isNone_some, Option.isSome_none, Option.isSome_some, Bool.not_true, Bool.not_false, cond_true, cond_false, cond_dec, beq_int, bne_int, not_dec, and_dec]
            rw [if_pos (by omega), if_pos (by omega)]
            rcases hy with ⟨q1, q2⟩ | ⟨q1, q2⟩
            · rw [if_pos q1, if_pos (by omega), if_pos q2]
            · have q3 : ¬ isF c := by unfold isF; omega
              rw [if_neg q3, if_pos (by omega), if_pos q1, if_pos (by omega), if_pos q2]
        have h4 := inner (wrd c r) 0 (by omega)
        refine h4.step fun f => ?_
        have e1 : iadd .i64 (j : Int) 1 = ((j + 1 + 0 : Nat) : Int) := by rw [iadd_i64 (by omega)]; rfl
        simp only [t_ref25_parts, f_ref25_parts_p4, hg, e1, fitsS_dec, Option.bind_some, Option.isNone_none, Option.isNone_some, Option.isSome_none, Option.isSome_some, Bool.not_true, Bool.not_false, cond_true, cond_false, cond_dec, beq_int, bne_int, not_dec, and_dec, List.length_singleton, gt_iff_lt]
        rw [if_neg (by omega), if_neg (by omega), if_pos (by omega)]
        have ef : decide ((i : Int) < (j : Int)) = decide ((c :: r).length < l.length) := by
          rw [decide_eq_decide, List.length_cons]; omega
        rw [ef]
theorem ref25_parts (s : ByteArray) (hs : s.size ≤ 1000) : g_ref25_parts ((), ((s, ()), ())) = some (partsV (tk (bytesOf s)) [] []) := by
  have h := parts_p4 s (by omega) _ (bytesOf s) 0 [] [] (Nat.le_refl _) (by omega) rfl (by rw [by_len]; simp; omega) (by rw [by_len]; simp; omega)
  refine (h.cast fun f => ?_).lim
  simp only [f_ref25_parts_m]; rfl
end Go.Proofs.YtddnfappkfiidaaGreat.Ev
