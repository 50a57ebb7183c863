/- Numbers out of texts, by the program and by its reference. -/
import Derived.Test.YtfhaifiipjfffaaGreatDoorPuBig
import Derived.Test.YtfhaifiipjfffaaGreatDoorPuStr
namespace Go.Proofs.YtfhaifiipjfffaaGreatDoor.Ev
open Go
set_option linter.unusedVariables false
set_option linter.unusedSimpArgs false
def isF (x : Int) : Prop := 48 ≤ x ∧ x ≤ 57
instance (x : Int) : Decidable (isF x) := by unfold isF; infer_instance
/-- How many figures a text begins with. -/
def lead : List Int → Nat
  | [] => 0
  | x :: l => if isF x then lead l + 1 else 0
theorem lead_le : ∀ l : List Int, lead l ≤ l.length
  | [] => Nat.le_refl _
  | x :: l => by
    unfold lead
    have := lead_le l
    split <;> simp only [List.length_cons] <;> omega
theorem lead_at : ∀ {l : List Int} {i : Nat}, i < lead l → isF (l.getD i 0)
  | [], i, h => by simp [lead] at h
  | x :: l, i, h => by
    unfold lead at h
    split at h
    · rename_i c
      cases i with
      | zero => exact c
      | succ i => exact lead_at (l := l) (by omega)
    · omega
theorem lead_stop : ∀ {l : List Int}, lead l < l.length → ¬ isF (l.getD (lead l) 0)
  | [], h => by simp [lead] at h
  | x :: l, h => by
    unfold lead at h ⊢
    split
    · rename_i c
      rw [if_pos c] at h
      exact lead_stop (l := l) (by simp only [List.length_cons] at h; omega)
    · rename_i c; exact c
theorem fig_is (x : Int) : g_figures_Is ((), ((x, ()), ())) = some ((), ((decide (isF x), ()), ())) := by
  simp only [g_figures_Is, f_figures_Is_m, fitsS_dec, Option.bind_some, Option.isNone_none, Option.isNone_some, Option.isSome_none, Option.isSome_some, Bool.not_true, Bool.not_false, cond_true, cond_false, cond_dec, beq_int, bne_int, not_dec, ge_iff_le]
  unfold isF
  by_cases h : 48 ≤ x <;> simp [h]
theorem ref02_is_p3 (x : Int) (hx : 0 ≤ x ∧ x < 256) : ∀ (k : Nat) (c : Int), c + k = 58 → 48 ≤ c → (∀ y, 48 ≤ y → y < c → x ≠ y) → Evn (fun j => (f_ref02_Is_t j).1 ((), ((x, ()), ((c, ()), ())))) ((), ((decide (isF x), ()), ())) := by
  intro k; induction k with
  | zero =>
    intro c h h0 hp
    rw [decide_eq_false (show ¬ isF x from fun hh => by unfold isF at hh; exact hp x hh.1 (by omega) rfl)]
    refine Evn.some 1 fun j => ?_
    simp only [t_ref02_Is, f_ref02_Is_p3, fitsS_dec, Option.bind_some, Option.isNone_none, Option.isNone_some, Option.isSome_none, Option.isSome_some, Bool.not_true, Bool.not_false, cond_true, cond_false, cond_dec, beq_int, bne_int, not_dec]
    rw [if_neg (by omega)]
  | succ k ih =>
    intro c h h0 hp
    by_cases e : x = c
    · rw [decide_eq_true (show isF x by unfold isF; omega)]
      refine Evn.some 1 fun j => ?_
      simp only [t_ref02_Is, f_ref02_Is_p3, fitsS_dec, Option.bind_some, Option.isNone_none, Option.isNone_some, Option.isSome_none, Option.isSome_some, Bool.not_true, Bool.not_false, cond_true, cond_false, cond_dec, beq_int, bne_int, not_dec]
      rw [if_pos (by omega), if_pos e]
    · refine (ih (c + 1) (by omega) (by omega) (fun y h1 h2 => ?_)).step fun j => ?_
      · by_cases q : y = c
        · rw [q]; exact e
        · exact hp y h1 (by omega)
      · simp only [t_ref02_Is, f_ref02_Is_p3, fitsS_dec, Option.bind_some, Option.isNone_none, Option.isNone_some, Option.isSome_none, Option.isSome_some, Bool.not_true, Bool.not_false, cond_true, cond_false, cond_dec, beq_int, bne_int, not_dec]
        have : iadd .u8 c 1 = c + 1 := by unfold iadd; rw [wrap_u8]; omega
        rw [if_pos (by omega), if_neg e, this]
theorem ref02_is (x : Int) (hx : 0 ≤ x ∧ x < 256) : g_ref02_Is ((), ((x, ()), ())) = some ((), ((decide (isF x), ()), ())) := by
  refine ((ref02_is_p3 x hx 10 48 (by omega) (by omega) (fun y h1 h2 => by omega)).cast fun j => ?_).lim
  simp only [f_ref02_Is_m]
theorem run_p3 (s : ByteArray) (hs : s.size ≤ 1000000) (most : Int) (hm : 0 ≤ most ∧ most ≤ 1000000) : ∀ (k i : Nat), i + k = min s.size most.toNat → (∀ j, j < i → isF ((bytesOf s).getD j 0)) → i ≤ lead (bytesOf s) →
    Evn (fun j => (f_figures_run_t j).1 ((), ((s, ()), ((most, ()), (((i : Int), ()), ()))))) ((), ((((min (lead (bytesOf s)) most.toNat : Nat) : Int), ()), ())) := by
  have hl := lead_le (bytesOf s)
  rw [by_len] at hl
  intro k; induction k with
  | zero =>
    intro i h hp hi
    rw [show ((min (lead (bytesOf s)) most.toNat : Nat) : Int) = (i : Int) by omega]
    refine Evn.some 1 fun j => ?_
    simp only [t_figures_run, f_figures_run_p3, fitsS_dec, Option.bind_some, Option.isNone_none, Option.isNone_some, Option.isSome_none, Option.isSome_some, Bool.not_true, Bool.not_false, cond_true, cond_false, cond_dec, beq_int, bne_int, not_dec]
    rw [if_neg (by split <;> omega)]
  | succ k ih =>
    intro i h hp hi
    have hb := by_at s (i := (i : Int)) (by omega) (by omega)
    rw [Int.toNat_natCast] at hb
    by_cases c : isF ((bytesOf s).getD i 0)
    · have hi' : i + 1 ≤ lead (bytesOf s) := by
        by_cases q : i = lead (bytesOf s)
        · subst q
          exact absurd c (lead_stop (by rw [by_len]; omega))
        · omega
      refine (ih (i + 1) (by omega) (fun j hj => ?_) hi').step fun j => ?_
      · by_cases q : j = i
        · subst q; exact c
        · exact hp j (by omega)
      · simp only [t_figures_run, f_figures_run_p3, fitsS_dec, Option.bind_some, Option.isNone_none, Option.isNone_some, Option.isSome_none, Option.isSome_some, Bool.not_true, Bool.not_false, cond_true, cond_false, cond_dec, beq_int, bne_int, not_dec, and_dec, hb, fig_is]
        rw [if_pos (by split <;> omega), if_pos (by omega), if_pos c, iadd_i64 (by omega)]; rfl
    · have : lead (bytesOf s) = i := by
        by_cases q : i < lead (bytesOf s)
        · exact absurd (lead_at q) c
        · omega
      rw [show ((min (lead (bytesOf s)) most.toNat : Nat) : Int) = (i : Int) by omega]
      refine Evn.some 1 fun j => ?_
      simp only [t_figures_run, f_figures_run_p3, fitsS_dec, Option.bind_some, Option.isNone_none, Option.isNone_some, Option.isSome_none, Option.isSome_some, Bool.not_true, Bool.not_false, cond_true, cond_false, cond_dec, beq_int, bne_int, not_dec, and_dec, hb, fig_is]
      rw [if_pos (by split <;> omega), if_pos (by omega), if_neg c]
theorem fig_run (s : ByteArray) (hs : s.size ≤ 1000000) (most : Int) (hm : 0 ≤ most ∧ most ≤ 1000000) : g_figures_run ((), ((s, ()), ((most, ()), ()))) = some ((), ((((min (lead (bytesOf s)) most.toNat : Nat) : Int), ()), ())) := by
  refine ((run_p3 s hs most hm (min s.size most.toNat) 0 (by omega) (fun j hj => by omega) (Nat.zero_le _)).cast fun j => ?_).lim
  simp only [f_figures_run_m]; rfl
theorem many_p3 (s : ByteArray) (hs : s.size ≤ 1000000) : ∀ (k i : Nat), i + k = s.size → i ≤ lead (bytesOf s) → Evn (fun j => (f_ref02_Many_t j).1 ((), ((s, ()), (((i : Int), ()), ())))) ((), ((((lead (bytesOf s) : Nat) : Int), ()), ())) := by
  have hl := lead_le (bytesOf s)
  rw [by_len] at hl
  intro k; induction k with
  | zero =>
    intro i h hi
    rw [show lead (bytesOf s) = s.size by omega]
    refine Evn.some 1 fun j => ?_
    simp only [t_ref02_Many, f_ref02_Many_p3, fitsS_dec, Option.bind_some, Option.isNone_none, Option.isNone_some, Option.isSome_none, Option.isSome_some, Bool.not_true, Bool.not_false, cond_true, cond_false, cond_dec, beq_int, bne_int, not_dec]
    rw [if_neg (by omega)]
  | succ k ih =>
    intro i h hi
    have hb := by_at s (i := (i : Int)) (by omega) (by omega)
    rw [Int.toNat_natCast] at hb
    have hr := okBy_at (by_ok s) i
    have his := ref02_is _ hr
    by_cases c : isF ((bytesOf s).getD i 0)
    · have hi' : i + 1 ≤ lead (bytesOf s) := by
        by_cases q : i = lead (bytesOf s)
        · subst q
          exact absurd c (lead_stop (by rw [by_len]; omega))
        · omega
      refine (ih (i + 1) (by omega) hi').step fun j => ?_
      simp only [t_ref02_Many, f_ref02_Many_p3, fitsS_dec, Option.bind_some, Option.isNone_none, Option.isNone_some, Option.isSome_none, Option.isSome_some, Bool.not_true, Bool.not_false, cond_true, cond_false, cond_dec, beq_int, bne_int, not_dec, and_dec, hb, his]
      rw [if_pos (by omega), if_pos (by omega), if_neg (not_not_intro c), iadd_i64 (by omega)]; rfl
    · have : lead (bytesOf s) = i := by
        by_cases q : i < lead (bytesOf s)
        · exact absurd (lead_at q) c
        · omega
      rw [this]
      refine Evn.some 1 fun j => ?_
      simp only [t_ref02_Many, f_ref02_Many_p3, fitsS_dec, Option.bind_some, Option.isNone_none, Option.isNone_some, Option.isSome_none, Option.isSome_some, Bool.not_true, Bool.not_false, cond_true, cond_false, cond_dec, beq_int, bne_int, not_dec, and_dec, hb, his]
      rw [if_pos (by omega), if_pos (by omega), if_pos c]
theorem ref02_many (s : ByteArray) (hs : s.size ≤ 1000000) : g_ref02_Many ((), ((s, ()), ())) = some ((), ((((lead (bytesOf s) : Nat) : Int), ()), ())) := by
  refine ((many_p3 s hs s.size 0 (by omega) (Nat.zero_le _)).cast fun j => ?_).lim
  simp only [f_ref02_Many_m]; rfl
/-- The number of figures. -/
def val10 (l : List Int) : Int := l.foldl (fun n x => n * 10 + (x - 48)) 0
theorem val10_snoc (l : List Int) (x : Int) : val10 (l ++ [x]) = val10 l * 10 + (x - 48) := by simp [val10]
theorem val10_range : ∀ (n : Nat) (l : List Int), l.length = n → (∀ x ∈ l, isF x) → 0 ≤ val10 l ∧ val10 l < 10 ^ n
  | 0, [], _, _ => by simp [val10]
  | n + 1, l, hl, h => by
    obtain ⟨m, x, rfl⟩ : ∃ m x, l = m ++ [x] := ⟨l.dropLast, l.getLast (by intro e; rw [e] at hl; cases hl), (List.dropLast_concat_getLast _).symm⟩
    have := val10_range n m (by simpa using hl) (fun y hy => h y (by simp [hy]))
    have hx := h x (by simp)
    unfold isF at hx
    rw [val10_snoc, Int.pow_succ]; omega
theorem val10_mono (l : List Int) (h : ∀ x ∈ l, isF x) : ∀ (k i : Nat), i + k = l.length → val10 (l.take i) ≤ val10 l := by
  intro k; induction k with
  | zero => intro i hi; rw [List.take_of_length_le (by omega)]; exact Int.le_refl _
  | succ k ih =>
    intro i hi
    have h1 := ih (i + 1) (by omega)
    rw [List.take_succ_eq_append_getElem (by omega), val10_snoc] at h1
    have hx := h (l[i]'(by omega)) (List.getElem_mem _)
    unfold isF at hx
    have := (val10_range _ (l.take i) rfl (fun y hy => h y (List.mem_of_mem_take hy))).1
    omega
theorem value_p4 (s : ByteArray) (limit : Int) (hs : s.size ≤ 1000) (hf : ∀ x ∈ bytesOf s, isF x) (hlm : 9 ≤ limit ∧ limit ≤ 10000000000000000000) : ∀ (k i : Nat), i + k = s.size → val10 ((bytesOf s).take i) ≤ limit →
    Evn (fun j => (f_figures_value_t j).1 ((), ((s, ()), ((limit, ()), ((val10 ((bytesOf s).take i), ()), (((s.size : Int), ()), (((i : Int), ()), ()))))))) ((), ((if val10 (bytesOf s) ≤ limit then val10 (bytesOf s) else 0, ()), ((if val10 (bytesOf s) ≤ limit then none else some 5, ()), ()))) := by
  have hlen := by_len s
  intro k; induction k with
  | zero =>
    intro i h hv
    rw [List.take_of_length_le (by omega)] at hv ⊢
    rw [if_pos hv, if_pos hv]
    refine Evn.some 1 fun j => ?_
    simp only [t_figures_value, f_figures_value_p4, fitsS_dec, Option.bind_some, Option.isNone_none, Option.isNone_some, Option.isSome_none, Option.isSome_some, Bool.not_true, Bool.not_false, cond_true, cond_false, cond_dec, beq_int, bne_int, not_dec]
    rw [if_neg (by omega)]
  | succ k ih =>
    intro i h hv
    have hi : i < (bytesOf s).length := by omega
    have hb := by_at s (i := (i : Int)) (by omega) (by omega)
    rw [Int.toNat_natCast] at hb
    have hg : (bytesOf s).getD i 0 = (bytesOf s)[i] := by rw [List.getD_eq_getElem?_getD, List.getElem?_eq_getElem hi]; rfl
    have hx := hf _ (List.getElem_mem hi)
    unfold isF at hx
    have h0 := (val10_range _ ((bytesOf s).take i) rfl (fun y hy => hf y (List.mem_of_mem_take hy))).1
    have hmono := val10_mono (bytesOf s) hf k (i + 1) (by omega)
    rw [List.take_succ_eq_append_getElem hi, val10_snoc] at hmono
    generalize hv0 : val10 ((bytesOf s).take i) = v at *
    generalize hx0 : (bytesOf s)[i] = x at *
    have e1 : isub .u8 x 48 = x - 48 := by unfold isub; rw [wrap_u8]; omega
    have e2 : iconv .u64 (x - 48) = x - 48 := by rw [iconv_u64]; omega
    have e3 : isub .u64 limit (x - 48) = limit - (x - 48) := by rw [isub_u64]; omega
    have e4 : iquo .u64 (limit - (x - 48)) 10 = (limit - (x - 48)) / 10 := by
      unfold iquo
      rw [Int.tdiv_eq_ediv_of_nonneg (by omega), wrap_u64]; omega
    by_cases c : (limit - (x - 48)) / 10 < v
    · rw [if_neg (by omega), if_neg (by omega)]
      refine Evn.some 1 fun j => ?_
      simp only [t_figures_value, f_figures_value_p4, fitsS_dec, Option.bind_some, Option.isNone_none, Option.isNone_some, Option.isSome_none, Option.isSome_some, Bool.not_true, Bool.not_false, cond_true, cond_false, cond_dec, beq_int, bne_int, not_dec, and_dec, hb, hg, gt_iff_lt, e1, e2, e3, e4]
      rw [if_pos (by omega), if_pos (by omega), if_pos c]
    · have := ih (i + 1) (by omega) (by rw [List.take_succ_eq_append_getElem hi, val10_snoc, hx0, hv0]; omega)
      rw [List.take_succ_eq_append_getElem hi, val10_snoc, hx0, hv0] at this
      refine this.step fun j => ?_
      simp only [t_figures_value, f_figures_value_p4, fitsS_dec, Option.bind_some, Option.isNone_none, Option.isNone_some, Option.isSome_none, Option.isSome_some, Bool.not_true, Bool.not_false, cond_true, cond_false, cond_dec, beq_int, bne_int, not_dec, and_dec, hb, hg, gt_iff_lt, e1, e2, e3, e4]
      rw [if_pos (by omega), if_pos (by omega), if_neg c, imul_u64, iadd_u64, iadd_i64 (by omega), show (v * 10 % 18446744073709551616 + (x - 48)) % 18446744073709551616 = v * 10 + (x - 48) by omega]; rfl
theorem fig_value (s : ByteArray) (limit : Int) (hs : s.size ≤ 1000) (hf : ∀ x ∈ bytesOf s, isF x) (hlm : 9 ≤ limit ∧ limit ≤ 10000000000000000000) :
    g_figures_value ((), ((s, ()), ((limit, ()), ()))) = some ((), ((if val10 (bytesOf s) ≤ limit then val10 (bytesOf s) else 0, ()), ((if val10 (bytesOf s) ≤ limit then none else some 5, ()), ()))) := by
  refine ((value_p4 s limit hs hf hlm s.size 0 (by omega) (by simp [val10]; omega)).cast fun j => ?_).lim
  simp only [f_figures_value_m]; rfl
/-- The number that the first k figures are. -/
def cutV (s : ByteArray) (k : Nat) : Int := val10 ((bytesOf s).take k)
theorem cut_figs {s : ByteArray} {k : Nat} (h : k ≤ lead (bytesOf s)) : ∀ x ∈ (bytesOf s).take k, isF x := by
  intro x hx
  obtain ⟨i, hi, rfl⟩ := List.getElem_of_mem hx
  have hl := lead_le (bytesOf s)
  rw [List.length_take] at hi
  have := lead_at (l := bytesOf s) (i := i) (by omega)
  rw [List.getElem_take]
  rwa [List.getD_eq_getElem?_getD, List.getElem?_eq_getElem (by omega)] at this
/-- What take gives: the error's number, the number, how many. -/
def takeE (s : ByteArray) (least most limit : Int) : Int :=
  if least < 1 ∨ most < least ∨ 20 < most then 1 else if ((min (lead (bytesOf s)) most.toNat : Nat) : Int) < least then 2 else if cutV s (min (lead (bytesOf s)) most.toNat) ≤ limit then 0 else 5
def takeK (s : ByteArray) (most : Int) : Nat := min (lead (bytesOf s)) most.toNat
theorem fig_take (s : ByteArray) (hs : s.size ≤ 1000000) (least most limit : Int) (hlm : 9 ≤ limit ∧ limit ≤ 10000000000000000000) : g_figures_take ((), ((s, ()), ((least, ()), ((most, ()), ((limit, ()), ()))))) =
    some ((), ((if takeE s least most limit = 0 then cutV s (takeK s most) else 0, ()), ((if takeE s least most limit = 0 then (takeK s most : Int) else 0, ()), ((errOf (takeE s least most limit), ()), ())))) := by
  simp only [g_figures_take, f_figures_take_m, fitsS_dec, Option.bind_some, Option.isNone_none, Option.isNone_some, Option.isSome_none, Option.isSome_some, Bool.not_true, Bool.not_false, cond_true, cond_false, cond_dec, beq_int, bne_int, not_dec, gt_iff_lt]
  unfold takeE
  by_cases c : least < 1 ∨ most < least ∨ 20 < most
  · rw [if_pos c]
    simp only [show ((1 : Int) = 0) = False by simp, if_false]
    by_cases c1 : least < 1
    · rw [if_pos c1]; rfl
    · rw [if_neg c1]
      by_cases c2 : most < least
      · rw [if_pos c2]; rfl
      · rw [if_neg c2, if_pos (by omega)]; rfl
  · rw [if_neg c, if_neg (by omega), if_neg (by omega), if_neg (by omega), fig_run s hs most (by omega)]
    simp only [Option.bind_some]
    have hl := lead_le (bytesOf s)
    rw [by_len] at hl
    by_cases c1 : ((min (lead (bytesOf s)) most.toNat : Nat) : Int) < least
    · rw [if_pos c1, if_pos c1]
      simp only [show ((2 : Int) = 0) = False by simp, if_false]; rfl
    · rw [if_neg c1, if_neg c1]
      have hcut : bytesOf (s.extract 0 (min (lead (bytesOf s)) most.toNat)) = (bytesOf s).take (min (lead (bytesOf s)) most.toNat) := by rw [by_cut, List.drop_zero]
      have hv := fig_value (s.extract 0 (min (lead (bytesOf s)) most.toNat)) limit (by rw [← by_len, hcut, List.length_take]; omega) (by rw [hcut]; exact cut_figs (Nat.min_le_left _ _)) hlm
      rw [hcut] at hv
      simp only [and_dec, cond_dec, Int.toNat_natCast, show (0 : Int).toNat = 0 from rfl]
      rw [if_pos (by omega), hv]
      simp only [fitsS_dec, Option.bind_some, Option.isNone_none, Option.isNone_some, Option.isSome_none, Option.isSome_some, Bool.not_true, Bool.not_false, cond_true, cond_false, cond_dec, beq_int, bne_int, not_dec]
      show _ = some ((), ((if (if cutV s (min (lead (bytesOf s)) most.toNat) ≤ limit then (0 : Int) else 5) = 0 then cutV s (takeK s most) else 0, ()), ((if (if cutV s (min (lead (bytesOf s)) most.toNat) ≤ limit then (0 : Int) else 5) = 0 then (takeK s most : Int) else 0, ()), ((errOf (if cutV s (min (lead (bytesOf s)) most.toNat) ≤ limit then 0 else 5), ()), ()))))
      unfold cutV takeK
      by_cases c2 : val10 ((bytesOf s).take (min (lead (bytesOf s)) most.toNat)) ≤ limit
      · simp only [c2, if_true, fitsS_dec, Option.bind_some, Option.isNone_none, Option.isNone_some, Option.isSome_none, Option.isSome_some, Bool.not_true, Bool.not_false, cond_true, cond_false, cond_dec, beq_int, bne_int, not_dec]; rfl
      · simp only [c2, if_false, fitsS_dec, Option.bind_some, Option.isNone_none, Option.isNone_some, Option.isSome_none, Option.isSome_some, Bool.not_true, Bool.not_false, cond_true, cond_false, cond_dec, beq_int, bne_int, not_dec]; rfl
/-! ### the reference's numbers -/
def mulL : List Int → Int → List Int
  | [], c => if c = 0 then [] else [c]
  | x :: l, c => ((x * 10 + c) % 65536) :: mulL l ((x * 10 + c) / 65536)
theorem mulL_vl : ∀ (l : List Int) (c : Int), vl (mulL l c) = vl l * 10 + c
  | [], c => by
    unfold mulL
    split
    · simp [vl]; omega
    · simp [vl]
  | x :: l, c => by
    simp only [mulL, vl, mulL_vl l]
    omega
theorem mulL_nil : ∀ {l : List Int} {c : Int}, mulL l c = [] → l = [] ∧ c = 0
  | [], c, h => by
    unfold mulL at h
    split at h
    · exact ⟨rfl, by assumption⟩
    · cases h
  | x :: l, c, h => by simp [mulL] at h
theorem mulL_nrm : ∀ (l : List Int) (c : Int), nrm l → 0 ≤ c ∧ c ≤ 9 → nrm (mulL l c)
  | [], c, _, hc => by
    unfold mulL
    split
    · trivial
    · exact ⟨by omega, trivial, fun _ => by omega⟩
  | x :: l, c, h, hc => by
    obtain ⟨h1, h2, h3⟩ := h
    refine ⟨by omega, mulL_nrm l _ h2 (by omega), fun e => ?_⟩
    obtain ⟨e1, e2⟩ := mulL_nil e
    have := h3 e1
    omega
theorem cut_dg (n : Nat) (h : (dg n).length ≤ 40) : g_ref01_cut ((), ((dg n, ()), ())) = some ((), ((dg n, ()), ())) := by
  have := cut_rows _ (dg n) rfl (by omega)
  rw [dg_of (n := n) (cutL_nrm (nrm_ok (dg_spec n).1)) (by rw [cutL_vl, (dg_spec n).2])] at this
  refine (this.cast fun k => ?_).lim
  simp only [f_ref01_cut_m]
theorem times_end (a : List Int) (n : Nat) (h : (dg n).length ≤ 40) : Evn (fun k => (f_ref01_times_t k).1 ((dg n, ()), ((a, ()), (([10], ()), ((), (((1 : Int), ()), ())))))) ((), ((dg n, ()), ())) := by
  refine Evn.some 1 fun k => ?_
  simp only [t_ref01_times, f_ref01_times_p4, fitsS_dec, Option.bind_some, Option.isNone_none, Option.isNone_some, Option.isSome_none, Option.isSome_some, Bool.not_true, Bool.not_false, cond_true, cond_false, cond_dec, beq_int, bne_int, not_dec, List.length_cons, List.length_nil, cut_dg n h]
  rw [if_neg (by omega)]
theorem times_p12 (a : List Int) (n : Nat) (h : (dg n).length ≤ 40) (ha : okD a) (hl : a.length ≤ 40) : ∀ (k : Nat) (out : List Int) (c : Int) (j : Nat), a.length ≤ j + k → 0 ≤ c ∧ c ≤ 9 → j ≤ 40 → out.length ≤ 40 → out ++ mulL (a.drop j) c = dg n →
    Evn (fun k => (f_ref01_times_t k).2.1 (([], (out, ())), ((a, ()), (([10], ()), ((), (((0 : Int), ()), ((), ((c, ()), (((j : Int), ()), ()))))))))) ((), ((dg n, ()), ())) := by
  have e1 : ∀ x c : Int, 0 ≤ x ∧ x < 65536 → 0 ≤ c ∧ c ≤ 9 → iadd .u64 (imul .u64 x 10) c = x * 10 + c := fun x c hx hc => by
    rw [imul_u64, iadd_u64]; omega
  have hlast : ∀ (out : List Int) (j : Nat), a.length ≤ j → j ≤ 60 → out = dg n → Evn (fun k => (f_ref01_times_t k).2.1 (([], (out, ())), ((a, ()), (([10], ()), ((), (((0 : Int), ()), ((), (((0 : Int), ()), (((j : Int), ()), ()))))))))) ((), ((dg n, ()), ())) := by
    intro out j h1 h2 e
    subst e
    have hp := plus_rows 0 n (by rw [dg_zero]; exact Nat.zero_le _) h
    rw [dg_zero, Nat.zero_add] at hp
    refine (times_end a n h).step fun k => ?_
    simp only [t_ref01_times, f_ref01_times_p12, fitsS_dec, Option.bind_some, Option.isNone_none, Option.isNone_some, Option.isSome_none, Option.isSome_some, Bool.not_true, Bool.not_false, cond_true, cond_false, cond_dec, beq_int, bne_int, not_dec, gt_iff_lt, hp]
    rw [if_neg (by omega), if_neg (by omega)]
    rfl
  have hmore : ∀ (k : Nat) (out : List Int) (c : Int) (j : Nat), a.length ≤ j + k → 0 ≤ c ∧ c ≤ 9 → j ≤ 40 → out.length ≤ 40 → ¬ (a.length ≤ j ∧ c = 0) →
      Evn (fun k => (f_ref01_times_t k).2.1 (([], (out ++ [(a.getD j 0 * 10 + c) % 65536], ())), ((a, ()), (([10], ()), ((), (((0 : Int), ()), ((), (((a.getD j 0 * 10 + c) / 65536, ()), ((((j + 1 : Nat) : Int), ()), ()))))))))) ((), ((dg n, ()), ())) →
      Evn (fun k => (f_ref01_times_t k).2.1 (([], (out, ())), ((a, ()), (([10], ()), ((), (((0 : Int), ()), ((), ((c, ()), (((j : Int), ()), ()))))))))) ((), ((dg n, ()), ())) := by
    intro k out c j h1 hc hj ho hne hev
    refine hev.step fun k => ?_
    have hd := digit_eq a j
    have hg := getD_ok ha j
    have e3 : iquo .u64 (a.getD j 0 * 10 + c) 65536 = (a.getD j 0 * 10 + c) / 65536 := by
      unfold iquo
      rw [Int.tdiv_eq_ediv_of_nonneg (by omega), wrap_u64]; omega
    simp only [t_ref01_times, f_ref01_times_p12, fitsS_dec, Option.bind_some, Option.isNone_none, Option.isNone_some, Option.isSome_none, Option.isSome_some, Bool.not_true, Bool.not_false, cond_true, cond_false, cond_dec, beq_int, bne_int, not_dec, gt_iff_lt, and_dec, hd, List.length_cons, List.length_nil, show gd (.int .u64) [10] 0 = 10 from rfl, e1 _ _ hg hc, e3]
    rw [show Int.tmod (a.getD j 0 * 10 + c) 65536 = (a.getD j 0 * 10 + c) % 65536 from Int.tmod_eq_emod_of_nonneg (by omega), iadd_i64 (by omega)]
    by_cases c1 : (j : Int) < a.length
    · rw [if_pos c1, if_pos (by omega), if_pos (by omega)]; rfl
    · rw [if_neg c1, if_pos (by omega), if_pos (by omega), if_pos (by omega)]; rfl
  intro k; induction k with
  | zero =>
    intro out c j h1 hc hj ho he
    rw [List.drop_eq_nil_of_le (by omega)] at he
    by_cases c0 : c = 0
    · subst c0
      exact hlast out j (by omega) (by omega) (by simpa [mulL] using he)
    · refine hmore 0 out c j h1 hc hj ho (by omega) ?_
      have hg : a.getD j 0 = 0 := by rw [List.getD_eq_getElem?_getD, List.getElem?_eq_none (by omega)]; rfl
      simp only [mulL, c0, if_false] at he
      rw [hg, show (0 * 10 + c) / 65536 = 0 by omega, show (0 * 10 + c) % 65536 = c by omega]
      exact hlast _ _ (by omega) (by omega) he
  | succ k ih =>
    intro out c j h1 hc hj ho he
    by_cases c1 : j < a.length
    · refine hmore (k + 1) out c j h1 hc hj ho (by omega) ?_
      have hg : a.getD j 0 = a[j] := by rw [List.getD_eq_getElem?_getD, List.getElem?_eq_getElem c1]; rfl
      have hx := getD_ok ha j
      rw [List.drop_eq_getElem_cons c1, mulL, ← hg] at he
      have hlen : (out ++ [(a.getD j 0 * 10 + c) % 65536]).length ≤ (dg n).length := by
        rw [← he]; simp
      exact ih _ _ (j + 1) (by omega) (by omega) (by omega) (by omega) (by rw [← he]; simp)
    · exact ih out c j (by omega) hc hj ho he
theorem times10 (m : Nat) (h : m * 10 < 65536 ^ 8) : g_ref01_times ((), ((dg m, ()), (([10], ()), ()))) = some ((), ((dg (m * 10), ()), ())) := by
  have l1 := dg_len 8 (m * 10) h
  have l2 := dg_len 8 m (by omega)
  obtain ⟨n1, v1⟩ := dg_spec m
  have he : [] ++ mulL ((dg m).drop 0) 0 = dg (m * 10) := by
    rw [List.nil_append, List.drop_zero]
    exact dg_of (mulL_nrm _ _ n1 (by omega)) (by rw [mulL_vl, v1]; omega)
  have hp := times_p12 (dg m) (m * 10) (by omega) (nrm_ok n1) (by omega) 40 [] 0 0 (by omega) (by omega) (by omega) (by simp) he
  refine (Evn.cast (Evn.step hp (F := fun k => (f_ref01_times_t k).1 (([], ()), ((dg m, ()), (([10], ()), ((), (((0 : Int), ()), ())))))) fun k => ?_) fun k => ?_).lim
  · simp only [t_ref01_times, f_ref01_times_p4, fitsS_dec, Option.bind_some, Option.isNone_none, Option.isNone_some, Option.isSome_none, Option.isSome_some, Bool.not_true, Bool.not_false, cond_true, cond_false, cond_dec, beq_int, bne_int, not_dec, and_dec, List.length_cons, List.length_nil]
    rw [if_pos (by omega), if_pos (by omega)]; rfl
  · simp only [f_ref01_times_m]
theorem dg10 : dg 10 = [10] := by rw [dg_pos (by omega), show 10 / 65536 = 0 from rfl, dg_zero]; rfl
theorem big_times10 (a : Int) (h0 : 0 ≤ a) (h : sm (a * 10)) : g_ref01_Times ((), (big a, (big 10, ()))) = some ((), (big (a * 10), ())) := by
  unfold sm at h
  have := times10 a.natAbs (by omega)
  simp only [g_ref01_Times, f_ref01_Times_m, big, show (10 : Int).natAbs = 10 from rfl, dg10, this]
  rw [show (a * 10).natAbs = a.natAbs * 10 by omega, decide_eq_false (show ¬ a < 0 by omega), decide_eq_false (show ¬ a * 10 < 0 by omega)]
  rfl
/-! ### the reference's reading -/
theorem fig10 (l : List Int) (h : l.length ≤ 20) (hf : ∀ x ∈ l, isF x) : 0 ≤ val10 l ∧ val10 l < 100000000000000000000 := by
  have := val10_range _ l rfl hf
  have h2 : 10 ^ l.length ≤ 10 ^ 20 := Nat.pow_le_pow_right (by omega) h
  have h3 : ((10 ^ l.length : Nat) : Int) ≤ ((10 ^ 20 : Nat) : Int) := by exact_mod_cast h2
  rw [Int.natCast_pow] at h3
  have h4 : ((10 ^ 20 : Nat) : Int) = 100000000000000000000 := by decide
  have h5 : ((10 : Nat) : Int) = 10 := rfl
  rw [h5] at h3
  omega
theorem big_p4 (s : ByteArray) (hs : s.size ≤ 20) (hf : ∀ x ∈ bytesOf s, isF x) (b : Bool) (y : List Int) : ∀ (k i : Nat), i + k = s.size →
    Evn (fun k => (f_ref02_Big_t k).1 (((b, ()), (y, (big (val10 ((bytesOf s).take i)), ()))), ((s, ()), ((), ((), (((i : Int), ()), ())))))) ((), (big (val10 (bytesOf s)), ())) := by
  have hlen := by_len s
  intro k; induction k with
  | zero =>
    intro i h
    rw [List.take_of_length_le (by omega)]
    refine Evn.some 1 fun j => ?_
    simp only [t_ref02_Big, f_ref02_Big_p4, fitsS_dec, Option.bind_some, Option.isNone_none, Option.isNone_some, Option.isSome_none, Option.isSome_some, Bool.not_true, Bool.not_false, cond_true, cond_false, cond_dec, beq_int, bne_int, not_dec]
    rw [if_neg (by omega)]
  | succ k ih =>
    intro i h
    have hi : i < (bytesOf s).length := by omega
    have hb := by_at s (i := (i : Int)) (by omega) (by omega)
    rw [Int.toNat_natCast] at hb
    have hg : (bytesOf s).getD i 0 = (bytesOf s)[i] := by rw [List.getD_eq_getElem?_getD, List.getElem?_eq_getElem hi]; rfl
    have hx := hf _ (List.getElem_mem hi)
    unfold isF at hx
    have h0 := fig10 ((bytesOf s).take i) (by rw [List.length_take]; omega) (fun y hy => hf y (List.mem_of_mem_take hy))
    have hn := ih (i + 1) (by omega)
    rw [List.take_succ_eq_append_getElem hi, val10_snoc] at hn
    rw [hg] at hb
    generalize hv0 : val10 ((bytesOf s).take i) = v at *
    generalize hx0 : (bytesOf s)[i] = x at *
    have t1 := big_times10 v h0.1 (sm_of (by omega))
    have t2 := big_plus (v * 10) (x - 48) (sm_of (by omega)) (sm_of (by omega))
    have o1 := big_of 10 (by omega)
    have o2 := big_of (x - 48) (by omega)
    have e1 : isub .u8 x 48 = x - 48 := by unfold isub; rw [wrap_u8]; omega
    have e2 : iconv .i64 (x - 48) = x - 48 := iconv_i64 (by omega)
    simp only [big] at t1 t2 hn ⊢
    refine hn.step fun j => ?_
    simp only [t_ref02_Big, f_ref02_Big_p4, fitsS_dec, Option.bind_some, Option.isNone_none, Option.isNone_some, Option.isSome_none, Option.isSome_some, Bool.not_true, Bool.not_false, cond_true, cond_false, cond_dec, beq_int, bne_int, not_dec, and_dec, hb, o1, o2, t1, t2, e1, e2]
    rw [if_pos (by omega), if_pos (by omega), iadd_i64 (by omega)]; rfl
theorem ref02_big (s : ByteArray) (hs : s.size ≤ 20) (hf : ∀ x ∈ bytesOf s, isF x) : g_ref02_Big ((), ((s, ()), ())) = some ((), (big (val10 (bytesOf s)), ())) := by
  have := big_p4 s hs hf false [] s.size 0 (by omega)
  refine (this.cast fun j => ?_).lim
  simp only [f_ref02_Big_m, big_of 0 (by omega)]
  rfl
end Go.Proofs.YtfhaifiipjfffaaGreatDoor.Ev
