/- Numbers out of texts, by the program and by its reference. -/
import Derived.Test.YtcnngodgngmghaaGreatDoorPuBig
import Derived.Test.YtcnngodgngmghaaGreatDoorPuStr
namespace Go.Proofs.YtcnngodgngmghaaGreatDoor.Ev
open Go
set_option linter.unusedVariables false
set_option linter.unusedSimpArgs false
def isF (x : Int) : Prop := 48 ≤ x ∧ x ≤ 57
instance (x : Int) : Decidable (isF x) := by unfold isF; infer_instance
/-- How many figures a text begins with. -/
def lead : List Int → Nat
  | [] => 0
  | x :: l => if isF x then lead l + 1 else 0
theorem lead_le : ∀ l : List Int, lead l ≤ l.length
  | [] => Nat.le_refl _
  | x :: l => by
    unfold lead
    have := lead_le l
    split <;> simp only [List.length_cons] <;> omega
theorem lead_at : ∀ {l : List Int} {i : Nat}, i < lead l → isF (l.getD i 0)
  | [], i, h => by simp [lead] at h
  | x :: l, i, h => by
    unfold lead at h
    split at h
    · rename_i c
      cases i with
      | zero => exact c
      | succ i => exact lead_at (l := l) (by omega)
    · omega
theorem lead_stop : ∀ {l : List Int}, lead l < l.length → ¬ isF (l.getD (lead l) 0)
  | [], h => by simp [lead] at h
  | x :: l, h => by
    unfold lead at h ⊢
    split
    · rename_i c
      rw [if_pos c] at h
      exact lead_stop (l := l) (by simp only [List.length_cons] at h; omega)
    · rename_i c; exact c
theorem fig_is (x : Int) : g_figures_Is ((), ((x, ()), ())) = some ((), ((decide (isF x), ()), ())) := by
  simp only [g_figures_Is, f_figures_Is_m, fitsS_dec, Option.bind_some, Option.isNone_none, Option.isNone_some, Option.isSome_none, Option.isSome_some, Bool.not_true, Bool.not_false, cond_true, cond_false, cond_dec, beq_int, bne_int, not_dec, ge_iff_le]
  unfold isF
  by_cases h : 48 ≤ x <;> simp [h]
theorem run_p3 (s : ByteArray) (hs : s.size ≤ 1000000) (most : Int) (hm : 0 ≤ most ∧ most ≤ 1000000) : ∀ (k i : Nat), i + k = min s.size most.toNat → (∀ j, j < i → isF ((bytesOf s).getD j 0)) → i ≤ lead (bytesOf s) →
    Evn (fun j => (f_figures_run_t j).1 ((), ((s, ()), ((most, ()), (((i : Int), ()), ()))))) ((), ((((min (lead (bytesOf s)) most.toNat : Nat) : Int), ()), ())) := by
  have hl := lead_le (bytesOf s)
  rw [by_len] at hl
  intro k; induction k with
  | zero =>
    intro i h hp hi
    rw [show ((min (lead (bytesOf s)) most.toNat : Nat) : Int) = (i : Int) by omega]
    refine Evn.some 1 fun j => ?_
    simp only [t_figures_run, f_figures_run_p3, fitsS_dec, Option.bind_some, Option.isNone_none, Option.isNone_some, Option.isSome_none, Option.isSome_some, Bool.not_true, Bool.not_false, cond_true, cond_false, cond_dec, beq_int, bne_int, not_dec]
    rw [if_neg (by split <;> omega)]
  | succ k ih =>
    intro i h hp hi
    have hb := by_at s (i := (i : Int)) (by omega) (by omega)
    rw [Int.toNat_natCast] at hb
    by_cases c : isF ((bytesOf s).getD i 0)
    · have hi' : i + 1 ≤ lead (bytesOf s) := by
        by_cases q : i = lead (bytesOf s)
        · subst q
          exact absurd c (lead_stop (by rw [by_len]; omega))
        · omega
      refine (ih (i + 1) (by omega) (fun j hj => ?_) hi').step fun j => ?_
      · by_cases q : j = i
        · subst q; exact c
        · exact hp j (by omega)
      · simp only [t_figures_run, f_figures_run_p3, fitsS_dec, Option.bind_some, Option.isNone_none, Option.isNone_some, Option.isSome_none, Option.isSome_some, Bool.not_true, Bool.not_false, cond_true, cond_false, cond_dec, beq_int, bne_int, not_dec, and_dec, hb, fig_is]
        rw [if_pos (by split <;> omega), if_pos (by omega), if_pos c, iadd_i64 (by omega)]; rfl
    · have : lead (bytesOf s) = i := by
        by_cases q : i < lead (bytesOf s)
        · exact absurd (lead_at q) c
        · omega
      rw [show ((min (lead (bytesOf s)) most.toNat : Nat) : Int) = (i : Int) by omega]
      refine Evn.some 1 fun j => ?_
      simp only [t_figures_run, f_figures_run_p3, fitsS_dec, Option.bind_some, Option.isNone_none, Option.isNone_some, Option.isSome_none, Option.isSome_some, Bool.not_true, Bool.not_false, cond_true, cond_false, cond_dec, beq_int, bne_int, not_dec, and_dec, hb, fig_is]
      rw [if_pos (by split <;> omega), if_pos (by omega), if_neg c]
theorem fig_run (s : ByteArray) (hs : s.size ≤ 1000000) (most : Int) (hm : 0 ≤ most ∧ most ≤ 1000000) : g_figures_run ((), ((s, ()), ((most, ()), ()))) = some ((), ((((min (lead (bytesOf s)) most.toNat : Nat) : Int), ()), ())) := by
  refine ((run_p3 s hs most hm (min s.size most.toNat) 0 (by omega) (fun j hj => by omega) (Nat.zero_le _)).cast fun j => ?_).lim
  simp only [f_figures_run_m]; rfl
/-- The number of figures. -/
def val10 (l : List Int) : Int := l.foldl (fun n x => n * 10 + (x - 48)) 0
theorem val10_snoc (l : List Int) (x : Int) : val10 (l ++ [x]) = val10 l * 10 + (x - 48) := by simp [val10]
theorem val10_range : ∀ (n : Nat) (l : List Int), l.length = n → (∀ x ∈ l, isF x) → 0 ≤ val10 l ∧ val10 l < 10 ^ n
  | 0, [], _, _ => by simp [val10]
  | n + 1, l, hl, h => by
    obtain ⟨m, x, rfl⟩ : ∃ m x, l = m ++ [x] := ⟨l.dropLast, l.getLast (by intro e; rw [e] at hl; cases hl), (List.dropLast_concat_getLast _).symm⟩
    have := val10_range n m (by simpa using hl) (fun y hy => h y (by simp [hy]))
    have hx := h x (by simp)
    unfold isF at hx
    rw [val10_snoc, Int.pow_succ]; omega
theorem val10_mono (l : List Int) (h : ∀ x ∈ l, isF x) : ∀ (k i : Nat), i + k = l.length → val10 (l.take i) ≤ val10 l := by
  intro k; induction k with
  | zero => intro i hi; rw [List.take_of_length_le (by omega)]; exact Int.le_refl _
  | succ k ih =>
    intro i hi
    have h1 := ih (i + 1) (by omega)
    rw [List.take_succ_eq_append_getElem (by omega), val10_snoc] at h1
    have hx := h (l[i]'(by omega)) (List.getElem_mem _)
    unfold isF at hx
    have := (val10_range _ (l.take i) rfl (fun y hy => h y (List.mem_of_mem_take hy))).1
    omega
theorem value_p4 (s : ByteArray) (limit : Int) (hs : s.size ≤ 1000) (hf : ∀ x ∈ bytesOf s, isF x) (hlm : 9 ≤ limit ∧ limit ≤ 10000000000000000000) : ∀ (k i : Nat), i + k = s.size → val10 ((bytesOf s).take i) ≤ limit →
    Evn (fun j => (f_figures_value_t j).1 ((), ((s, ()), ((limit, ()), ((val10 ((bytesOf s).take i), ()), (((s.size : Int), ()), (((i : Int), ()), ()))))))) ((), ((if val10 (bytesOf s) ≤ limit then val10 (bytesOf s) else 0, ()), ((if val10 (bytesOf s) ≤ limit then none else some 5, ()), ()))) := by
  have hlen := by_len s
  intro k; induction k with
  | zero =>
    intro i h hv
    rw [List.take_of_length_le (by omega)] at hv ⊢
    rw [if_pos hv, if_pos hv]
    refine Evn.some 1 fun j => ?_
    simp only [t_figures_value, f_figures_value_p4, fitsS_dec, Option.bind_some, Option.isNone_none, Option.isNone_some, Option.isSome_none, Option.isSome_some, Bool.not_true, Bool.not_false, cond_true, cond_false, cond_dec, beq_int, bne_int, not_dec]
    rw [if_neg (by omega)]
  | succ k ih =>
    intro i h hv
    have hi : i < (bytesOf s).length := by omega
    have hb := by_at s (i := (i : Int)) (by omega) (by omega)
    rw [Int.toNat_natCast] at hb
    have hg : (bytesOf s).getD i 0 = (bytesOf s)[i] := by rw [List.getD_eq_getElem?_getD, List.getElem?_eq_getElem hi]; rfl
    have hx := hf _ (List.getElem_mem hi)
    unfold isF at hx
    have h0 := (val10_range _ ((bytesOf s).take i) rfl (fun y hy => hf y (List.mem_of_mem_take hy))).1
    have hmono := val10_mono (bytesOf s) hf k (i + 1) (by omega)
    rw [List.take_succ_eq_append_getElem hi, val10_snoc] at hmono
    generalize hv0 : val10 ((bytesOf s).take i) = v at *
    generalize hx0 : (bytesOf s)[i] = x at *
    have e1 : isub .u8 x 48 = x - 48 := by unfold isub; rw [wrap_u8]; omega
    have e2 : iconv .u64 (x - 48) = x - 48 := by rw [iconv_u64]; omega
    have e3 : isub .u64 limit (x - 48) = limit - (x - 48) := by rw [isub_u64]; omega
    have e4 : iquo .u64 (limit - (x - 48)) 10 = (limit - (x - 48)) / 10 := by
      unfold iquo
      rw [Int.tdiv_eq_ediv_of_nonneg (by omega), wrap_u64]; omega
    by_cases c : (limit - (x - 48)) / 10 < v
    · rw [if_neg (by omega), if_neg (by omega)]
      refine Evn.some 1 fun j => ?_
      simp only [t_figures_value, f_figures_value_p4, fitsS_dec, Option.bind_some, Option.isNone_none, Option.isNone_some, Option.isSome_none, Option.isSome_some, Bool.not_true, Bool.not_false, cond_true, cond_false, cond_dec, beq_int, bne_int, not_dec, and_dec, hb, hg, gt_iff_lt, e1, e2, e3, e4]
      rw [if_pos (by omega), if_pos (by omega), if_pos c]
    · have := ih (i + 1) (by omega) (by rw [List.take_succ_eq_append_getElem hi, val10_snoc, hx0, hv0]; omega)
      rw [List.take_succ_eq_append_getElem hi, val10_snoc, hx0, hv0] at this
      refine this.step fun j => ?_
      simp only [t_figures_value, f_figures_value_p4, fitsS_dec, Option.bind_some, Option.isNone_none, Option.isNone_some, Option.isSome_none, Option.isSome_some, Bool.not_true, Bool.not_false, cond_true, cond_false, cond_dec, beq_int, bne_int, not_dec, and_dec, hb, hg, gt_iff_lt, e1, e2, e3, e4]
      rw [if_pos (by omega), if_pos (by omega), if_neg c, imul_u64, iadd_u64, iadd_i64 (by omega), show (v * 10 % 18446744073709551616 + (x - 48)) % 18446744073709551616 = v * 10 + (x - 48) by omega]; rfl
theorem fig_value (s : ByteArray) (limit : Int) (hs : s.size ≤ 1000) (hf : ∀ x ∈ bytesOf s, isF x) (hlm : 9 ≤ limit ∧ limit ≤ 10000000000000000000) :
    g_figures_value ((), ((s, ()), ((limit, ()), ()))) = some ((), ((if val10 (bytesOf s) ≤ limit then val10 (bytesOf s) else 0, ()), ((if val10 (bytesOf s) ≤ limit then none else some 5, ()), ()))) := by
  refine ((value_p4 s limit hs hf hlm s.size 0 (by omega) (by simp [val10]; omega)).cast fun j => ?_).lim
  simp only [f_figures_value_m]; rfl
/-- The number that the first k figures are. -/
def cutV (s : ByteArray) (k : Nat) : Int := val10 ((bytesOf s).take k)
theorem cut_figs {s : ByteArray} {k : Nat} (h : k ≤ lead (bytesOf s)) : ∀ x ∈ (bytesOf s).take k, isF x := by
  intro x hx
  obtain ⟨i, hi, rfl⟩ := List.getElem_of_mem hx
  have hl := lead_le (bytesOf s)
  rw [List.length_take] at hi
  have := lead_at (l := bytesOf s) (i := i) (by omega)
  rw [List.getElem_take]
  rwa [List.getD_eq_getElem?_getD, List.getElem?_eq_getElem (by omega)] at this
/-- What take gives: the error's number, the number, how many. -/
def takeE (s : ByteArray) (least most limit : Int) : Int :=
  if least < 1 ∨ most < least ∨ 20 < most then 1 else if ((min (lead (bytesOf s)) most.toNat : Nat) : Int) < least then 2 else if cutV s (min (lead (bytesOf s)) most.toNat) ≤ limit then 0 else 5
def takeK (s : ByteArray) (most : Int) : Nat := min (lead (bytesOf s)) most.toNat
theorem fig_take (s : ByteArray) (hs : s.size ≤ 1000000) (least most limit : Int) (hlm : 9 ≤ limit ∧ limit ≤ 10000000000000000000) : g_figures_take ((), ((s, ()), ((least, ()), ((most, ()), ((limit, ()), ()))))) =
    some ((), ((if takeE s least most limit = 0 then cutV s (takeK s most) else 0, ()), ((if takeE s least most limit = 0 then (takeK s most : Int) else 0, ()), ((errOf (takeE s least most limit), ()), ())))) := by
  simp only [g_figures_take, f_figures_take_m, fitsS_dec, Option.bind_some, Option.isNone_none, Option.isNone_some, Option.isSome_none, Option.isSome_some, Bool.not_true, Bool.not_false, cond_true, cond_false, cond_dec, beq_int, bne_int, not_dec, gt_iff_lt]
  unfold takeE
  by_cases c : least < 1 ∨ most < least ∨ 20 < most
  · rw [if_pos c]
    simp only [show ((1 : Int) = 0) = False by simp, if_false]
    by_cases c1 : least < 1
    · rw [if_pos c1]; rfl
    · rw [if_neg c1]
      by_cases c2 : most < least
      · rw [if_pos c2]; rfl
      · rw [if_neg c2, if_pos (by omega)]; rfl
  · rw [if_neg c, if_neg (by omega), if_neg (by omega), if_neg (by omega), fig_run s hs most (by omega)]
    simp only [Option.bind_some]
    have hl := lead_le (bytesOf s)
    rw [by_len] at hl
    by_cases c1 : ((min (lead (bytesOf s)) most.toNat : Nat) : Int) < least
    · rw [if_pos c1, if_pos c1]
      simp only [show ((2 : Int) = 0) = False by simp, if_false]; rfl
    · rw [if_neg c1, if_neg c1]
      have hcut : bytesOf (s.extract 0 (min (lead (bytesOf s)) most.toNat)) = (bytesOf s).take (min (lead (bytesOf s)) most.toNat) := by rw [by_cut, List.drop_zero]
      have hv := fig_value (s.extract 0 (min (lead (bytesOf s)) most.toNat)) limit (by rw [← by_len, hcut, List.length_take]; omega) (by rw [hcut]; exact cut_figs (Nat.min_le_left _ _)) hlm
      rw [hcut] at hv
      simp only [and_dec, cond_dec, Int.toNat_natCast, show (0 : Int).toNat = 0 from rfl]
      rw [if_pos (by omega), hv]
      simp only [fitsS_dec, Option.bind_some, Option.isNone_none, Option.isNone_some, Option.isSome_none, Option.isSome_some, Bool.not_true, Bool.not_false, cond_true, cond_false, cond_dec, beq_int, bne_int, not_dec]
      show _ = some ((), ((if (if cutV s (min (lead (bytesOf s)) most.toNat) ≤ limit then (0 : Int) else 5) = 0 then cutV s (takeK s most) else 0, ()), ((if (if cutV s (min (lead (bytesOf s)) most.toNat) ≤ limit then (0 : Int) else 5) = 0 then (takeK s most : Int) else 0, ()), ((errOf (if cutV s (min (lead (bytesOf s)) most.toNat) ≤ limit then 0 else 5), ()), ()))))
      unfold cutV takeK
      by_cases c2 : val10 ((bytesOf s).take (min (lead (bytesOf s)) most.toNat)) ≤ limit
      · simp only [c2, if_true, fitsS_dec, Option.bind_some, Option.isNone_none, Option.isNone_some, Option.isSome_none, Option.isSome_some, Bool.not_true, Bool.not_false, cond_true, cond_false, cond_dec, beq_int, bne_int, not_dec]; rfl
      · simp only [c2, if_false, fitsS_dec, Option.bind_some, Option.isNone_none, Option.isNone_some, Option.isSome_none, Option.isSome_some, Bool.not_true, Bool.not_false, cond_true, cond_false, cond_dec, beq_int, bne_int, not_dec]; rfl
/-! ### the reference's numbers -/
def mulL : List Int → Int → List Int
  | [], c => if c = 0 then [] else [c]
  | x :: l, c => ((x * 10 + c) % 65536) :: mulL l ((x * 10 + c) / 65536)
theorem mulL_vl : ∀ (l : List Int) (c : Int), vl (mulL l c) = vl l * 10 + c
  | [], c => by
    unfold mulL
    split
    · simp [vl]; omega
    · simp [vl]
  | x :: l, c => by
    simp only [mulL, vl, mulL_vl l]
    omega
theorem mulL_nil : ∀ {l : List Int} {c : Int}, mulL l c = [] → l = [] ∧ c = 0
  | [], c, h => by
    unfold mulL at h
    split at h
    · exact ⟨rfl, by assumption⟩
    · cases h
  | x :: l, c, h => by simp [mulL] at h
theorem mulL_nrm : ∀ (l : List Int) (c : Int), nrm l → 0 ≤ c ∧ c ≤ 9 → nrm (mulL l c)
  | [], c, _, hc => by
    unfold mulL
    split
    · trivial
    · exact ⟨by omega, trivial, fun _ => by omega⟩
  | x :: l, c, h, hc => by
    obtain ⟨h1, h2, h3⟩ := h
    refine ⟨by omega, mulL_nrm l _ h2 (by omega), fun e => ?_⟩
    obtain ⟨e1, e2⟩ := mulL_nil e
    have := h3 e1
    omega
theorem dg10 : dg 10 = [10] := by rw [dg_pos (by omega), show 10 / 65536 = 0 from rfl, dg_zero]; rfl
/-! ### the reference's reading -/
theorem fig10 (l : List Int) (h : l.length ≤ 20) (hf : ∀ x ∈ l, isF x) : 0 ≤ val10 l ∧ val10 l < 100000000000000000000 := by
  have := val10_range _ l rfl hf
  have h2 : 10 ^ l.length ≤ 10 ^ 20 := Nat.pow_le_pow_right (by omega) h
  have h3 : ((10 ^ l.length : Nat) : Int) ≤ ((10 ^ 20 : Nat) : Int) := by exact_mod_cast h2
  rw [Int.natCast_pow] at h3
  have h4 : ((10 ^ 20 : Nat) : Int) = 100000000000000000000 := by decide
  have h5 : ((10 : Nat) : Int) = 10 := rfl
  rw [h5] at h3
  omega
end Go.Proofs.YtcnngodgngmghaaGreatDoor.Ev
