/- Pure texts, put together. -/
import Derived.Test.YtddnfappkfiidaaGreatEvG
import Derived.Test.YtddnfappkfiidaaGreatEvE
import Derived.Test.YtddnfappkfiidaaGreatEv32
namespace Go.Proofs.YtddnfappkfiidaaGreat.Ev
open Go
set_option linter.unusedVariables false
set_option linter.unusedSimpArgs false
def vl : List Int → Int
  | [] => 0
  | x :: l => x + 65536 * vl l
def okD (l : List Int) : Prop := ∀ x ∈ l, 0 ≤ x ∧ x < 65536
def nrm : List Int → Prop
  | [] => True
  | x :: l => (0 ≤ x ∧ x < 65536) ∧ nrm l ∧ (l = [] → x ≠ 0)
/-- A number's digits. -/
def dg (n : Nat) : List Int := if h : n = 0 then [] else ((n % 65536 : Nat) : Int) :: dg (n / 65536)
termination_by n
decreasing_by omega
/-- A number, as the reference has it. -/
@[reducible] def big (a : Int) : Bool × (List Int × Unit) := (decide (a < 0), (dg a.natAbs, ()))
/-- Numbers with at most eight digits. -/
def sm (a : Int) : Prop := a.natAbs < 65536 ^ 8
/-- Sums of rows. -/
def plusL : List Int → List Int → Int → List Int
  | x :: a, y :: b, c => (x + y + c) % 65536 :: plusL a b ((x + y + c) / 65536)
  | x :: a, [], c => (x + c) % 65536 :: plusL a [] ((x + c) / 65536)
  | [], y :: b, c => (y + c) % 65536 :: plusL [] b ((y + c) / 65536)
  | [], [], c => if c > 0 then [c] else []
/-- Digits without noughts at the end. -/
def cutL : List Int → List Int
  | [] => []
  | x :: l => if cutL l = [] ∧ x = 0 then [] else x :: cutL l
/-- Differences of rows. -/
def minusL : List Int → List Int → Int → List Int
  | [], _, _ => []
  | x :: a, b, c => (65536 + x - b.headD 0 - c) % 65536 :: minusL a b.tail (1 - (65536 + x - b.headD 0 - c) / 65536)
end Go.Proofs.YtddnfappkfiidaaGreat.Ev
namespace Go.Proofs.YtddnfappkfiidaaGreat.Ev
open Go
set_option linter.unusedVariables false
set_option linter.unusedSimpArgs false
def okBy (l : List Int) : Prop := ∀ x ∈ l, 0 ≤ x ∧ x < 256
theorem by_ok (s : ByteArray) : okBy (bytesOf s) := fun x hx => by
  unfold bytesOf at hx
  obtain ⟨b, _, rfl⟩ := List.mem_map.1 hx
  have := b.toNat_lt
  omega
theorem by_len (s : ByteArray) : (bytesOf s).length = s.size := by
  unfold bytesOf
  rw [List.length_map, Array.length_toList]; rfl
theorem by_inj {s t : ByteArray} (h : bytesOf s = bytesOf t) : s = t := by
  obtain ⟨⟨s⟩⟩ := s
  obtain ⟨⟨t⟩⟩ := t
  unfold bytesOf at h
  simp only at h
  congr 2
  refine List.ext_getElem (by have := congrArg List.length h; simpa using this) fun i h1 h2 => ?_
  have := congrArg (fun l => l[i]?) h
  simp only [List.getElem?_map, List.getElem?_eq_getElem h1, List.getElem?_eq_getElem h2, Option.map_some, Option.some.injEq] at this
  exact UInt8.toNat_inj.1 (by omega)
theorem str_eq (s t : ByteArray) : (s.toList == t.toList) = decide (bytesOf s = bytesOf t) := by
  rw [ByteArray.toList_eq, ByteArray.toList_eq]
  by_cases h : bytesOf s = bytesOf t
  · have := by_inj h
    subst this
    simp
  · rw [decide_eq_false h]
    have : ¬ s.data.toList = t.data.toList := fun e => h (by unfold bytesOf; rw [e])
    simpa using this
theorem by_app (s t : ByteArray) : bytesOf (s ++ t) = bytesOf s ++ bytesOf t := by
  unfold bytesOf
  rw [ByteArray.data_append, Array.toList_append, List.map_append]
theorem by_cut (s : ByteArray) (a b : Nat) : bytesOf (s.extract a b) = ((bytesOf s).take b).drop a := by
  unfold bytesOf
  rw [ByteArray.data_extract, Array.toList_extract, List.extract_eq_take_drop, List.drop_take, List.map_take, List.map_drop]
theorem by_at (s : ByteArray) {i : Int} (h0 : 0 ≤ i) (h1 : i < s.size) : bt s i = (bytesOf s).getD i.toNat 0 := by
  unfold bt
  rw [dif_pos (by omega)]
  unfold bytesOf
  have hi : i.toNat < s.data.toList.length := by rw [Array.length_toList]; show i.toNat < s.size; omega
  rw [List.getD_eq_getElem?_getD, List.getElem?_map, List.getElem?_eq_getElem hi]
  simp only [Option.map_some, Option.getD_some]
  rfl
theorem by_str {l : List Int} (h : okBy l) : bytesOf (strOf l) = l := by
  unfold strOf bytesOf
  simp only [List.toList_toArray, List.map_map]
  conv => rhs; rw [← List.map_id l]
  refine List.map_congr_left fun x hx => ?_
  have := h x hx
  simp only [Function.comp, id]
  rw [UInt8.toNat_ofNat']
  omega
theorem str_size (l : List Int) : (strOf l).size = l.length := by
  unfold strOf
  show (List.toArray _).size = _
  simp
theorem str_app (l m : List Int) : strOf l ++ strOf m = strOf (l ++ m) := by
  refine by_inj ?_
  rw [by_app]
  unfold strOf bytesOf
  simp
theorem okBy_app {l m : List Int} (h : okBy l) (h' : okBy m) : okBy (l ++ m) := fun x hx => by
  rcases List.mem_append.1 hx with q | q
  · exact h x q
  · exact h' x q
theorem okBy_take {l : List Int} (h : okBy l) (n : Nat) : okBy (l.take n) := fun x hx => h x (List.mem_of_mem_take hx)
theorem okBy_at {l : List Int} (h : okBy l) (i : Nat) : 0 ≤ l.getD i 0 ∧ l.getD i 0 < 256 := by
  rw [List.getD_eq_getElem?_getD]
  by_cases c : i < l.length
  · rw [List.getElem?_eq_getElem c]; exact h _ (List.getElem_mem c)
  · rw [List.getElem?_eq_none (by omega)]; exact ⟨Int.le_refl _, by decide⟩
/-- A text of these bytes. -/
theorem str_cut (l : List Int) (a b : Nat) : (strOf l).extract a b = strOf ((l.take b).drop a) := by
  refine by_inj ?_
  rw [by_cut]
  unfold strOf bytesOf
  simp [List.map_take, List.map_drop]
theorem gd_u8 (l : List Int) (i : Int) : gd (.int .u8) l i = l.getD i.toNat 0 := rfl
end Go.Proofs.YtddnfappkfiidaaGreat.Ev
namespace Go.Proofs.YtddnfappkfiidaaGreat.Ev
open Go
set_option linter.unusedVariables false
set_option linter.unusedSimpArgs false
def isF (x : Int) : Prop := 48 ≤ x ∧ x ≤ 57
instance (x : Int) : Decidable (isF x) := by unfold isF; infer_instance
/-- How many figures a text begins with. -/
def lead : List Int → Nat
  | [] => 0
  | x :: l => if isF x then lead l + 1 else 0
theorem lead_le : ∀ l : List Int, lead l ≤ l.length
  | [] => Nat.le_refl _
  | x :: l => by
    unfold lead
    have := lead_le l
    split <;> simp only [List.length_cons] <;> omega
theorem lead_at : ∀ {l : List Int} {i : Nat}, i < lead l → isF (l.getD i 0)
  | [], i, h => by simp [lead] at h
  | x :: l, i, h => by
    unfold lead at h
    split at h
    · rename_i c
      cases i with
      | zero => exact c
      | succ i => exact lead_at (l := l) (by omega)
    · omega
theorem lead_stop : ∀ {l : List Int}, lead l < l.length → ¬ isF (l.getD (lead l) 0)
  | [], h => by simp [lead] at h
  | x :: l, h => by
    unfold lead at h ⊢
    split
    · rename_i c
      rw [if_pos c] at h
      exact lead_stop (l := l) (by simp only [List.length_cons] at h; omega)
    · rename_i c; exact c
theorem fig_is (x : Int) : g_figures_Is ((), ((x, ()), ())) = some ((), ((decide (isF x), ()), ())) := by
  simp only [g_figures_Is, f_figures_Is_m, fitsS_dec, Option.bind_some, Option.isNone_none, Option.isNone_some, Option.isSome_none, Option.isSome_some, Bool.not_true, Bool.not_false, cond_true, cond_false, cond_dec, beq_int, bne_int, not_dec, ge_iff_le]
  unfold isF
  by_cases h : 48 ≤ x <;> simp [h]
theorem run_p3 (s : ByteArray) (hs : s.size ≤ 1000000) (most : Int) (hm : 0 ≤ most ∧ most ≤ 1000000) : ∀ (k i : Nat), i + k = min s.size most.toNat → (∀ j, j < i → isF ((bytesOf s).getD j 0)) → i ≤ lead (bytesOf s) →
    Evn (fun j => (f_figures_run_t j).1 ((), ((s, ()), ((most, ()), (((i : Int), ()), ()))))) ((), ((((min (lead (bytesOf s)) most.toNat : Nat) : Int), ()), ())) := by
  have hl := lead_le (bytesOf s)
  rw [by_len] at hl
  intro k; induction k with
  | zero =>
    intro i h hp hi
    rw [show ((min (lead (bytesOf s)) most.toNat : Nat) : Int) = (i : Int) by omega]
    refine Evn.some 1 fun j => ?_
    simp only [t_figures_run, f_figures_run_p3, fitsS_dec, Option.bind_some, Option.isNone_none, Option.isNone_some, Option.isSome_none, Option.isSome_some, Bool.not_true, Bool.not_false, cond_true, cond_false, cond_dec, beq_int, bne_int, not_dec]
    rw [if_neg (by split <;> omega)]
  | succ k ih =>
    intro i h hp hi
    have hb := by_at s (i := (i : Int)) (by omega) (by omega)
    rw [Int.toNat_natCast] at hb
    by_cases c : isF ((bytesOf s).getD i 0)
    · have hi' : i + 1 ≤ lead (bytesOf s) := by
        by_cases q : i = lead (bytesOf s)
        · subst q
          exact absurd c (lead_stop (by rw [by_len]; omega))
        · omega
      refine (ih (i + 1) (by omega) (fun j hj => ?_) hi').step fun j => ?_
      · by_cases q : j = i
        · subst q; exact c
        · exact hp j (by omega)
      · simp only [t_figures_run, f_figures_run_p3, fitsS_dec, Option.bind_some, Option.isNone_none, Option.isNone_some, Option.isSome_none, Option.isSome_some, Bool.not_true, Bool.not_false, cond_true, cond_false, cond_dec, beq_int, bne_int, not_dec, and_dec, hb, fig_is]
        rw [if_pos (by split <;> omega), if_pos (by omega), if_pos c, iadd_i64 (by omega)]; rfl
    · have : lead (bytesOf s) = i := by
        by_cases q : i < lead (bytesOf s)
        · exact absurd (lead_at q) c
        · omega
      rw [show ((min (lead (bytesOf s)) most.toNat : Nat) : Int) = (i : Int) by omega]
      refine Evn.some 1 fun j => ?_
      simp only [t_figures_run, f_figures_run_p3, fitsS_dec, Option.bind_some, Option.isNone_none, Option.isNone_some, Option.isSome_none, Option.isSome_some, Bool.not_true, Bool.not_false, cond_true, cond_false, cond_dec, beq_int, bne_int, not_dec, and_dec, hb, fig_is]
      rw [if_pos (by split <;> omega), if_pos (by omega), if_neg c]
theorem fig_run (s : ByteArray) (hs : s.size ≤ 1000000) (most : Int) (hm : 0 ≤ most ∧ most ≤ 1000000) : g_figures_run ((), ((s, ()), ((most, ()), ()))) = some ((), ((((min (lead (bytesOf s)) most.toNat : Nat) : Int), ()), ())) := by
  refine ((run_p3 s hs most hm (min s.size most.toNat) 0 (by omega) (fun j hj => by omega) (Nat.zero_le _)).cast fun j => ?_).lim
  simp only [f_figures_run_m]; rfl
/-- The number of figures. -/
def val10 (l : List Int) : Int := l.foldl (fun n x => n * 10 + (x - 48)) 0
theorem val10_snoc (l : List Int) (x : Int) : val10 (l ++ [x]) = val10 l * 10 + (x - 48) := by simp [val10]
theorem val10_range : ∀ (n : Nat) (l : List Int), l.length = n → (∀ x ∈ l, isF x) → 0 ≤ val10 l ∧ val10 l < 10 ^ n
  | 0, [], _, _ => by simp [val10]
  | n + 1, l, hl, h => by
    obtain ⟨m, x, rfl⟩ : ∃ m x, l = m ++ [x] := ⟨l.dropLast, l.getLast (by intro e; rw [e] at hl; cases hl), (List.dropLast_concat_getLast _).symm⟩
    have := val10_range n m (by simpa using hl) (fun y hy => h y (by simp [hy]))
    have hx := h x (by simp)
    unfold isF at hx
    rw [val10_snoc, Int.pow_succ]; omega
theorem val10_mono (l : List Int) (h : ∀ x ∈ l, isF x) : ∀ (k i : Nat), i + k = l.length → val10 (l.take i) ≤ val10 l := by
  intro k; induction k with
  | zero => intro i hi; rw [List.take_of_length_le (by omega)]; exact Int.le_refl _
  | succ k ih =>
    intro i hi
    have h1 := ih (i + 1) (by omega)
    rw [List.take_succ_eq_append_getElem (by omega), val10_snoc] at h1
    have hx := h (l[i]'(by omega)) (List.getElem_mem _)
    unfold isF at hx
    have := (val10_range _ (l.take i) rfl (fun y hy => h y (List.mem_of_mem_take hy))).1
    omega
theorem value_p4 (s : ByteArray) (limit : Int) (hs : s.size ≤ 1000) (hf : ∀ x ∈ bytesOf s, isF x) (hlm : 9 ≤ limit ∧ limit ≤ 10000000000000000000) : ∀ (k i : Nat), i + k = s.size → val10 ((bytesOf s).take i) ≤ limit →
    Evn (fun j => (f_figures_value_t j).1 ((), ((s, ()), ((limit, ()), ((val10 ((bytesOf s).take i), ()), (((s.size : Int), ()), (((i : Int), ()), ()))))))) ((), ((if val10 (bytesOf s) ≤ limit then val10 (bytesOf s) else 0, ()), ((if val10 (bytesOf s) ≤ limit then none else some 5, ()), ()))) := by
  have hlen := by_len s
  intro k; induction k with
  | zero =>
    intro i h hv
    rw [List.take_of_length_le (by omega)] at hv ⊢
    rw [if_pos hv, if_pos hv]
    refine Evn.some 1 fun j => ?_
    simp only [t_figures_value, f_figures_value_p4, fitsS_dec, Option.bind_some, Option.isNone_none, Option.isNone_some, Option.isSome_none, Option.isSome_some, Bool.not_true, Bool.not_false, cond_true, cond_false, cond_dec, beq_int, bne_int, not_dec]
    rw [if_neg (by omega)]
  | succ k ih =>
    intro i h hv
    have hi : i < (bytesOf s).length := by omega
    have hb := by_at s (i := (i : Int)) (by omega) (by omega)
    rw [Int.toNat_natCast] at hb
    have hg : (bytesOf s).getD i 0 = (bytesOf s)[i] := by rw [List.getD_eq_getElem?_getD, List.getElem?_eq_getElem hi]; rfl
    have hx := hf _ (List.getElem_mem hi)
    unfold isF at hx
    have h0 := (val10_range _ ((bytesOf s).take i) rfl (fun y hy => hf y (List.mem_of_mem_take hy))).1
    have hmono := val10_mono (bytesOf s) hf k (i + 1) (by omega)
    rw [List.take_succ_eq_append_getElem hi, val10_snoc] at hmono
    generalize hv0 : val10 ((bytesOf s).take i) = v at *
    generalize hx0 : (bytesOf s)[i] = x at *
    have e1 : isub .u8 x 48 = x - 48 := by unfold isub; rw [wrap_u8]; omega
    have e2 : iconv .u64 (x - 48) = x - 48 := by rw [iconv_u64]; omega
    have e3 : isub .u64 limit (x - 48) = limit - (x - 48) := by rw [isub_u64]; omega
    have e4 : iquo .u64 (limit - (x - 48)) 10 = (limit - (x - 48)) / 10 := by
      unfold iquo
      rw [Int.tdiv_eq_ediv_of_nonneg (by omega), wrap_u64]; omega
    by_cases c : (limit - (x - 48)) / 10 < v
    · rw [if_neg (by omega), if_neg (by omega)]
      refine Evn.some 1 fun j => ?_
      simp only [t_figures_value, f_figures_value_p4, fitsS_dec, Option.bind_some, Option.isNone_none, Option.isNone_some, Option.isSome_none, Option.isSome_some, Bool.not_true, Bool.not_false, cond_true, cond_false, cond_dec, beq_int, bne_int, not_dec, and_dec, hb, hg, gt_iff_lt, e1, e2, e3, e4]
      rw [if_pos (by omega), if_pos (by omega), if_pos c]
    · have := ih (i + 1) (by omega) (by rw [List.take_succ_eq_append_getElem hi, val10_snoc, hx0, hv0]; omega)
      rw [List.take_succ_eq_append_getElem hi, val10_snoc, hx0, hv0] at this
      refine this.step fun j => ?_
      simp only [t_figures_value, f_figures_value_p4, fitsS_dec, Option.bind_some, Option.isNone_none, Option.isNone_some, Option.isSome_none, Option.isSome_some, Bool.not_true, Bool.not_false, cond_true, cond_false, cond_dec, beq_int, bne_int, not_dec, and_dec, hb, hg, gt_iff_lt, e1, e2, e3, e4]
      rw [if_pos (by omega), if_pos (by omega), if_neg c, imul_u64, iadd_u64, iadd_i64 (by omega), show (v * 10 % 18446744073709551616 + (x - 48)) % 18446744073709551616 = v * 10 + (x - 48) by omega]; rfl
theorem fig_value (s : ByteArray) (limit : Int) (hs : s.size ≤ 1000) (hf : ∀ x ∈ bytesOf s, isF x) (hlm : 9 ≤ limit ∧ limit ≤ 10000000000000000000) :
    g_figures_value ((), ((s, ()), ((limit, ()), ()))) = some ((), ((if val10 (bytesOf s) ≤ limit then val10 (bytesOf s) else 0, ()), ((if val10 (bytesOf s) ≤ limit then none else some 5, ()), ()))) := by
  refine ((value_p4 s limit hs hf hlm s.size 0 (by omega) (by simp [val10]; omega)).cast fun j => ?_).lim
  simp only [f_figures_value_m]; rfl
/-- The number that the first k figures are. -/
def cutV (s : ByteArray) (k : Nat) : Int := val10 ((bytesOf s).take k)
theorem cut_figs {s : ByteArray} {k : Nat} (h : k ≤ lead (bytesOf s)) : ∀ x ∈ (bytesOf s).take k, isF x := by
  intro x hx
  obtain ⟨i, hi, rfl⟩ := List.getElem_of_mem hx
  have hl := lead_le (bytesOf s)
  rw [List.length_take] at hi
  have := lead_at (l := bytesOf s) (i := i) (by omega)
  rw [List.getElem_take]
  rwa [List.getD_eq_getElem?_getD, List.getElem?_eq_getElem (by omega)] at this
/-- What take gives: the error's number, the number, how many. -/
def takeE (s : ByteArray) (least most limit : Int) : Int :=
  if least < 1 ∨ most < least ∨ 20 < most then 1 else if ((min (lead (bytesOf s)) most.toNat : Nat) : Int) < least then 2 else if cutV s (min (lead (bytesOf s)) most.toNat) ≤ limit then 0 else 5
def takeK (s : ByteArray) (most : Int) : Nat := min (lead (bytesOf s)) most.toNat
theorem fig_take (s : ByteArray) (hs : s.size ≤ 1000000) (least most limit : Int) (hlm : 9 ≤ limit ∧ limit ≤ 10000000000000000000) : g_figures_take ((), ((s, ()), ((least, ()), ((most, ()), ((limit, ()), ()))))) =
    some ((), ((if takeE s least most limit = 0 then cutV s (takeK s most) else 0, ()), ((if takeE s least most limit = 0 then (takeK s most : Int) else 0, ()), ((errOf (takeE s least most limit), ()), ())))) := by
  simp only [g_figures_take, f_figures_take_m, fitsS_dec, Option.bind_some, Option.isNone_none, Option.isNone_some, Option.isSome_none, Option.isSome_some, Bool.not_true, Bool.not_false, cond_true, cond_false, cond_dec, beq_int, bne_int, not_dec, gt_iff_lt]
  unfold takeE
  by_cases c : least < 1 ∨ most < least ∨ 20 < most
  · rw [if_pos c]
    simp only [show ((1 : Int) = 0) = False by simp, if_false]
    by_cases c1 : least < 1
    · rw [if_pos c1]; rfl
    · rw [if_neg c1]
      by_cases c2 : most < least
      · rw [if_pos c2]; rfl
      · rw [if_neg c2, if_pos (by omega)]; rfl
  · rw [if_neg c, if_neg (by omega), if_neg (by omega), if_neg (by omega), fig_run s hs most (by omega)]
    simp only [Option.bind_some]
    have hl := lead_le (bytesOf s)
    rw [by_len] at hl
    by_cases c1 : ((min (lead (bytesOf s)) most.toNat : Nat) : Int) < least
    · rw [if_pos c1, if_pos c1]
      simp only [show ((2 : Int) = 0) = False by simp, if_false]; rfl
    · rw [if_neg c1, if_neg c1]
      have hcut : bytesOf (s.extract 0 (min (lead (bytesOf s)) most.toNat)) = (bytesOf s).take (min (lead (bytesOf s)) most.toNat) := by rw [by_cut, List.drop_zero]
      have hv := fig_value (s.extract 0 (min (lead (bytesOf s)) most.toNat)) limit (by rw [← by_len, hcut, List.length_take]; omega) (by rw [hcut]; exact cut_figs (Nat.min_le_left _ _)) hlm
      rw [hcut] at hv
      simp only [and_dec, cond_dec, Int.toNat_natCast, show (0 : Int).toNat = 0 from rfl]
      rw [if_pos (by omega), hv]
      simp only [fitsS_dec, Option.bind_some, Option.isNone_none, Option.isNone_some, Option.isSome_none, Option.isSome_some, Bool.not_true, Bool.not_false, cond_true, cond_false, cond_dec, beq_int, bne_int, not_dec]
      show _ = some ((), ((if (if cutV s (min (lead (bytesOf s)) most.toNat) ≤ limit then (0 : Int) else 5) = 0 then cutV s (takeK s most) else 0, ()), ((if (if cutV s (min (lead (bytesOf s)) most.toNat) ≤ limit then (0 : Int) else 5) = 0 then (takeK s most : Int) else 0, ()), ((errOf (if cutV s (min (lead (bytesOf s)) most.toNat) ≤ limit then 0 else 5), ()), ()))))
      unfold cutV takeK
      by_cases c2 : val10 ((bytesOf s).take (min (lead (bytesOf s)) most.toNat)) ≤ limit
      · simp only [c2, if_true, fitsS_dec, Option.bind_some, Option.isNone_none, Option.isNone_some, Option.isSome_none, Option.isSome_some, Bool.not_true, Bool.not_false, cond_true, cond_false, cond_dec, beq_int, bne_int, not_dec]; rfl
      · simp only [c2, if_false, fitsS_dec, Option.bind_some, Option.isNone_none, Option.isNone_some, Option.isSome_none, Option.isSome_some, Bool.not_true, Bool.not_false, cond_true, cond_false, cond_dec, beq_int, bne_int, not_dec]; rfl
/-! ### the reference's numbers -/
def mulL : List Int → Int → List Int
  | [], c => if c = 0 then [] else [c]
  | x :: l, c => ((x * 10 + c) % 65536) :: mulL l ((x * 10 + c) / 65536)
theorem fig10 (l : List Int) (h : l.length ≤ 20) (hf : ∀ x ∈ l, isF x) : 0 ≤ val10 l ∧ val10 l < 100000000000000000000 := by
  have := val10_range _ l rfl hf
  have h2 : 10 ^ l.length ≤ 10 ^ 20 := Nat.pow_le_pow_right (by omega) h
  have h3 : ((10 ^ l.length : Nat) : Int) ≤ ((10 ^ 20 : Nat) : Int) := by exact_mod_cast h2
  rw [Int.natCast_pow] at h3
  have h4 : ((10 ^ 20 : Nat) : Int) = 100000000000000000000 := by decide
  have h5 : ((10 : Nat) : Int) = 10 := rfl
  rw [h5] at h3
  omega
end Go.Proofs.YtddnfappkfiidaaGreat.Ev
namespace Go.Proofs.YtddnfappkfiidaaGreat.Ev
open Go
set_option linter.unusedVariables false
set_option linter.unusedSimpArgs false
/-- A reader: what is left of the text, or where and with what error it stopped. -/
inductive X
  | good (l : List Int)
  | bad (i : Nat) (c : Int)
def X.at (n : Nat) : X → Int
  | .good l => ((n - l.length : Nat) : Int)
  | .bad i _ => (i : Int)
def X.er : X → Option Int
  | .good _ => none
  | .bad _ c => some c
def X.rest : X → List Int
  | .good l => l
  | .bad _ _ => []
def X.wf (s : ByteArray) : X → Prop
  | .good l => ∃ p, bytesOf s = p ++ l
  | .bad i _ => i ≤ s.size
@[reducible] def X.t (s : ByteArray) (x : X) : (ByteArray × (Int × (Option Int × Unit))) × Unit := ((s, (x.at s.size, (x.er, ()))), ())
@[reducible] def X.p (s : ByteArray) (x : X) : Option (ByteArray × (Int × Option Int)) := some (s, (x.at s.size, x.er))
theorem X.wf_good {s : ByteArray} {l : List Int} (h : X.wf s (.good l)) : okBy l ∧ l.length ≤ s.size ∧ (bytesOf s).drop (s.size - l.length) = l := by
  obtain ⟨p, hp⟩ := h
  have hl := by_len s
  rw [hp, List.length_append] at hl
  refine ⟨fun x hx => by_ok s x (by rw [hp]; exact List.mem_append_right _ hx), by omega, ?_⟩
  rw [hp, show s.size - l.length = p.length by omega, List.drop_left]
theorem X.at_range {s : ByteArray} {x : X} (h : x.wf s) : 0 ≤ x.at s.size ∧ x.at s.size ≤ s.size := by
  cases x with
  | good l => simp only [X.at]; omega
  | bad i c => simp only [X.at, X.wf] at *; omega
theorem X.ok_rest {s : ByteArray} {x : X} (h : x.wf s) : okBy x.rest ∧ x.rest.length ≤ s.size := by
  cases x with
  | good l => exact ⟨(X.wf_good h).1, (X.wf_good h).2.1⟩
  | bad i c => exact ⟨(fun x hx => by cases hx), Nat.zero_le _⟩
theorem X.wf_cut {s : ByteArray} {l : List Int} (h : X.wf s (.good l)) (k : Nat) : X.wf s (.good (l.drop k)) := by
  obtain ⟨p, hp⟩ := h
  exact ⟨p ++ l.take k, by rw [hp, List.append_assoc, List.take_append_drop]⟩
theorem sc_nil : (⟨#[]⟩ : ByteArray) = strOf [] := by kernel_rfl
theorem scan_new (s : ByteArray) : g_scan_New_string ((), ((s, ()), ())) = some ((X.good (bytesOf s)).t s, ((), ())) := by
  simp only [g_scan_New_string, f_scan_New_string_m, X.t, X.at, X.er, by_len, Nat.sub_self]; rfl
theorem X.wf_new (s : ByteArray) : X.wf s (.good (bytesOf s)) := ⟨[], rfl⟩
theorem scan_rest (s : ByteArray) (x : X) (h : x.wf s) : g_scan_Scanner_string_rest ((), ((x.p s, ()), ())) = some ((), ((strOf x.rest, ()), ())) := by
  cases x with
  | good l =>
    obtain ⟨h1, h2, h3⟩ := X.wf_good h
    simp only [g_scan_Scanner_string_rest, f_scan_Scanner_string_rest_m, X.p, X.at, X.er, X.rest, fitsS_dec, Option.bind_some, Option.isNone_none, Option.isNone_some, Option.isSome_none, Option.isSome_some, Bool.not_true, Bool.not_false, cond_true, cond_false, cond_dec, beq_int, bne_int, not_dec, and_dec, Int.toNat_natCast]
    rw [if_pos (by omega)]
    congr 4
    apply by_inj
    rw [by_cut, by_str h1]
    rw [show s.size = (bytesOf s).length from (by_len s).symm, List.take_length, by_len s, h3]
  | bad i c =>
    simp only [g_scan_Scanner_string_rest, f_scan_Scanner_string_rest_m, X.p, X.at, X.er, X.rest, fitsS_dec, Option.bind_some, Option.isNone_none, Option.isNone_some, Option.isSome_none, Option.isSome_some, Bool.not_true, Bool.not_false, cond_true, cond_false, cond_dec, beq_int, bne_int, not_dec, sc_nil]
theorem str_emp (l : List Int) : ((strOf l).toList == (strOf []).toList) = decide (l = []) := by
  cases l with
  | nil => simp
  | cons x l =>
    rw [str_eq]
    have : (bytesOf (strOf (x :: l))).length ≠ 0 := by rw [by_len, str_size]; simp
    rw [decide_eq_decide]
    constructor
    · intro q; rw [q] at this; exact absurd rfl this
    · intro q; cases q
theorem scan_peek (s : ByteArray) (x : X) (h : x.wf s) : g_scan_Scanner_string_Peek ((), ((x.p s, ()), ())) = some ((), ((x.rest.headD 0, ()), ((decide (x.rest ≠ []), ()), ()))) := by
  simp only [g_scan_Scanner_string_Peek, f_scan_Scanner_string_Peek_m, scan_rest s x h, fitsS_dec, Option.bind_some, Option.isNone_none, Option.isNone_some, Option.isSome_none, Option.isSome_some, Bool.not_true, Bool.not_false, cond_true, cond_false, cond_dec, beq_int, bne_int, not_dec, sc_nil, str_emp]
  have ho := (X.ok_rest h).1
  cases hr : x.rest with
  | nil => simp
  | cons a l =>
    rw [hr] at ho
    have hb := by_at (strOf (a :: l)) (i := 0) (by omega) (by rw [str_size]; simp)
    rw [by_str ho] at hb
    simp only [hb, str_size, and_dec, fitsS_dec, Option.bind_some, Option.isNone_none, Option.isNone_some, Option.isSome_none, Option.isSome_some, Bool.not_true, Bool.not_false, cond_true, cond_false, cond_dec, beq_int, bne_int, not_dec, List.length_cons]
    rw [if_neg (by simp), if_pos (by omega)]
    simp
theorem scan_going (s : ByteArray) (x : X) : g_scan_Scanner_string_going ((), ((x.p s, ()), ())) = some ((), ((x.er.isNone, ()), ())) := by
  simp only [g_scan_Scanner_string_going, f_scan_Scanner_string_going_m, X.p, fitsS_dec, Option.bind_some, Option.isNone_none, Option.isNone_some, Option.isSome_none, Option.isSome_some, Bool.not_true, Bool.not_false, cond_true, cond_false, cond_dec, beq_int, bne_int, not_dec]
theorem scan_at (s : ByteArray) (x : X) : g_scan_Scanner_string_At ((), ((x.p s, ()), ())) = some ((), ((x.at s.size, ()), ())) := by
  simp only [g_scan_Scanner_string_At, f_scan_Scanner_string_At_m, X.p, fitsS_dec, Option.bind_some, Option.isNone_none, Option.isNone_some, Option.isSome_none, Option.isSome_some, Bool.not_true, Bool.not_false, cond_true, cond_false, cond_dec, beq_int, bne_int, not_dec]
theorem scan_err (s : ByteArray) (x : X) : g_scan_Scanner_string_Err ((), ((x.p s, ()), ())) = some ((), ((x.er, ()), ())) := by
  simp only [g_scan_Scanner_string_Err, f_scan_Scanner_string_Err_m, X.p, fitsS_dec, Option.bind_some, Option.isNone_none, Option.isNone_some, Option.isSome_none, Option.isSome_some, Bool.not_true, Bool.not_false, cond_true, cond_false, cond_dec, beq_int, bne_int, not_dec]
theorem scan_left (s : ByteArray) (x : X) (h : x.wf s) : g_scan_Scanner_string_Left ((), ((x.p s, ()), ())) = some ((), (((x.rest.length : Int), ()), ())) := by
  simp only [g_scan_Scanner_string_Left, f_scan_Scanner_string_Left_m, scan_rest s x h, fitsS_dec, Option.bind_some, Option.isNone_none, Option.isNone_some, Option.isSome_none, Option.isSome_some, Bool.not_true, Bool.not_false, cond_true, cond_false, cond_dec, beq_int, bne_int, not_dec, str_size]
/-- What End tells. -/
def X.end : X → Option Int
  | .good l => if l = [] then none else some 2
  | .bad _ c => some c
theorem scan_end (s : ByteArray) (x : X) (h : x.wf s) : g_scan_Scanner_string_End ((), ((x.p s, ()), ())) = some ((), ((x.end, ()), ())) := by
  simp only [g_scan_Scanner_string_End, f_scan_Scanner_string_End_m, scan_err, scan_left s x h, fitsS_dec, Option.bind_some, Option.isNone_none, Option.isNone_some, Option.isSome_none, Option.isSome_some, Bool.not_true, Bool.not_false, cond_true, cond_false, cond_dec, beq_int, bne_int, not_dec]
  cases x with
  | good l =>
    cases l with
    | nil => simp [X.er, X.rest, X.end]
    | cons a l => simp [X.er, X.rest, X.end]
  | bad i c => simp [X.er, X.end]
theorem sc_clone (l : List Int) (h : l.length ≤ 1000000) : g_strings_Clone ((), ((strOf l, ()), ())) = some ((), ((strOf l, ()), ())) := by
  have : g_internal_stringslite_Clone ((), ((strOf l, ()), ())) = some ((), ((strOf l, ()), ())) := by
    show lib_clone _ = _
    unfold lib_clone
    rw [if_pos (by simp only [str_size]; omega)]
  simp only [g_strings_Clone, f_strings_Clone_m, this, fitsS_dec, Option.bind_some, Option.isNone_none, Option.isNone_some, Option.isSome_none, Option.isSome_some, Bool.not_true, Bool.not_false, cond_true, cond_false, cond_dec, beq_int, bne_int, not_dec]
/-- Some of what is left, taken. -/
def takeX (k : Nat) : X → X
  | .good l => .good (l.drop k)
  | .bad i c => .bad i c
theorem takeX_wf {s : ByteArray} {x : X} (h : x.wf s) (k : Nat) : (takeX k x).wf s := by
  cases x with
  | good l => exact X.wf_cut h k
  | bad i c => exact h
theorem scan_take (s : ByteArray) (x : X) (h : x.wf s) (hs : s.size ≤ 1000000) (k : Nat) (hk : k ≤ x.rest.length) : g_scan_Scanner_string_take_io (x.t s, ((), (((k : Int), ()), ()))) = some ((takeX k x).t s, ((strOf (x.rest.take k), ()), ((), ()))) := by
  have ho := X.ok_rest h
  have hr := X.at_range h
  have hc := sc_clone (x.rest.take k) (by rw [List.length_take]; omega)
  simp only [g_scan_Scanner_string_take_io, f_scan_Scanner_string_take_io_m, X.t, scan_rest s x h, fitsS_dec, Option.bind_some, Option.isNone_none, Option.isNone_some, Option.isSome_none, Option.isSome_some, Bool.not_true, Bool.not_false, cond_true, cond_false, cond_dec, beq_int, bne_int, not_dec, str_size, str_cut, List.drop_zero, Int.toNat_natCast, show (0 : Int).toNat = 0 from rfl, and_dec, hc, gt_iff_lt]
  rw [if_pos (by omega)]
  by_cases c : k = 0
  · subst c
    rw [if_neg (by omega)]
    cases x <;> simp only [takeX, List.drop_zero]
  · rw [if_pos (by omega)]
    cases x with
    | good l =>
      simp only [takeX, X.at, X.er, X.rest, List.length_drop] at *
      rw [iadd_i64 (by omega)]
      congr 5
      omega
    | bad i q => simp only [X.rest, List.length_nil] at hk; omega
/-- One byte, if it is that one. -/
def oneX (c : Int) (x : X) : Bool := decide (x.rest.head? = some c)
theorem scan_Take (s : ByteArray) (x : X) (h : x.wf s) (hs : s.size ≤ 1000000) (c : Int) : g_scan_Scanner_string_Take_io (x.t s, ((), ((c, ()), ()))) = some ((if oneX c x then takeX 1 x else x).t s, ((oneX c x, ()), ((), ()))) := by
  simp only [g_scan_Scanner_string_Take_io, f_scan_Scanner_string_Take_io_m, X.t, scan_peek s x h, fitsS_dec, Option.bind_some, Option.isNone_none, Option.isNone_some, Option.isSome_none, Option.isSome_some, Bool.not_true, Bool.not_false, cond_true, cond_false, cond_dec, beq_int, bne_int, not_dec]
  unfold oneX
  cases hr : x.rest with
  | nil => simp
  | cons a l =>
    have ht := scan_take s x h hs 1 (by rw [hr]; simp)
    simp only [X.t] at ht
    by_cases e : a = c
    · subst e
      simp only [List.headD_cons, List.head?_cons, ne_eq, reduceCtorEq, not_false_eq_true, decide_true, not_true_eq_false, if_false, if_true]
      rw [show (1 : Int) = ((1 : Nat) : Int) from rfl, ht]
      simp only [Option.bind_some]
    · have e2 : ¬ (some a = some c) := fun q => e (Option.some.inj q)
      simp only [List.headD_cons, List.head?_cons, ne_eq, reduceCtorEq, not_false_eq_true, decide_true, not_true_eq_false, if_false, e, if_true, e2, decide_false, Bool.false_eq_true]
/-- A stop, with an error. -/
def failX (n : Nat) (c : Int) : X → X
  | .good l => .bad (n - l.length) c
  | .bad i q => .bad i q
theorem failX_wf {s : ByteArray} {x : X} (h : x.wf s) (c : Int) : (failX s.size c x).wf s := by
  cases x with
  | good l => exact Nat.sub_le _ _
  | bad i q => exact h
theorem scan_fail (s : ByteArray) (x : X) (c : Int) : g_scan_Scanner_string_Fail_io (x.t s, ((), ((some c, ()), ()))) = some ((failX s.size c x).t s, ((), ())) := by
  simp only [g_scan_Scanner_string_Fail_io, f_scan_Scanner_string_Fail_io_m, X.t, scan_going, fitsS_dec, Option.bind_some, Option.isNone_none, Option.isNone_some, Option.isSome_none, Option.isSome_some, Bool.not_true, Bool.not_false, cond_true, cond_false, cond_dec, beq_int, bne_int, not_dec]
  cases x with
  | good l => simp [X.er, failX, X.at]
  | bad i q => simp [X.er, failX, X.at]
/-- Figures, at least so many and at most so many. -/
def figX (n a b : Nat) : X → X × Int
  | .good l => if a ≤ min (lead l) b then (.good (l.drop (min (lead l) b)), val10 (l.take (min (lead l) b))) else (.bad (n - l.length) 2, 0)
  | .bad i c => (.bad i c, 0)
theorem figX_wf {s : ByteArray} {x : X} (h : x.wf s) (a b : Nat) : (figX s.size a b x).1.wf s := by
  cases x with
  | good l =>
    simp only [figX]
    split
    · exact X.wf_cut h _
    · exact Nat.sub_le _ _
  | bad i q => exact h
theorem sc_lead_figs {l : List Int} {k : Nat} (h : k ≤ lead l) : ∀ x ∈ l.take k, isF x := by
  intro x hx
  obtain ⟨i, hi, rfl⟩ := List.getElem_of_mem hx
  have hl := lead_le l
  rw [List.length_take] at hi
  have := lead_at (l := l) (i := i) (by omega)
  rw [List.getElem_take]
  rwa [List.getD_eq_getElem?_getD, List.getElem?_eq_getElem (by omega)] at this
theorem figX_val (n a b : Nat) (hb : b ≤ 18) (x : X) : 0 ≤ (figX n a b x).2 ∧ (figX n a b x).2 < 10 ^ b := by
  have p1 : (0 : Int) < 10 ^ b := Int.pow_pos (by decide)
  cases x with
  | good l =>
    simp only [figX]
    split
    · have := val10_range _ (l.take (min (lead l) b)) rfl (sc_lead_figs (Nat.min_le_left _ _))
      refine ⟨this.1, Int.lt_of_lt_of_le this.2 ?_⟩
      have h2 : (l.take (min (lead l) b)).length ≤ b := by rw [List.length_take]; omega
      have : 10 ^ (l.take (min (lead l) b)).length ≤ 10 ^ b := Nat.pow_le_pow_right (by omega) h2
      exact_mod_cast this
    · exact ⟨Int.le_refl _, p1⟩
  | bad i q => exact ⟨Int.le_refl _, p1⟩
theorem sc_Take (l : List Int) (ho : okBy l) (hs : l.length ≤ 1000000) (a b : Nat) (h : 1 ≤ a ∧ a ≤ b ∧ b ≤ 18) : g_figures_Take ((), ((strOf l, ()), (((a : Int), ()), (((b : Int), ()), ())))) =
    if a ≤ min (lead l) b then some ((), ((val10 (l.take (min (lead l) b)), ()), ((((min (lead l) b : Nat) : Int), ()), ((none, ()), ())))) else some ((), ((0, ()), ((0, ()), ((some 2, ()), ())))) := by
  have hf := fig_take (strOf l) (by rw [str_size]; exact hs) a b 9223372036854775807 (by omega)
  have hv := figX_val 0 a b h.2.2 (.good l)
  have hp : (10 : Int) ^ b ≤ 10 ^ 18 := by
    have : 10 ^ b ≤ 10 ^ 18 := Nat.pow_le_pow_right (by omega) h.2.2
    exact_mod_cast this
  simp only [g_figures_Take, f_figures_Take_m, hf, Option.bind_some]
  unfold takeE takeK cutV
  simp only [by_str ho, Int.toNat_natCast]
  simp only [figX] at hv
  by_cases c : a ≤ min (lead l) b
  · rw [if_pos c] at hv
    simp only at hv
    rw [if_neg (show ¬((a : Int) < 1 ∨ (b : Int) < a ∨ 20 < (b : Int)) by omega), if_neg (show ¬(((min (lead l) b : Nat) : Int) < a) by omega), if_pos (show val10 (l.take (min (lead l) b)) ≤ 9223372036854775807 by omega), if_pos c, if_pos rfl, if_pos rfl, iconv_i64 (by omega)]; rfl
  · rw [if_neg (show ¬((a : Int) < 1 ∨ (b : Int) < a ∨ 20 < (b : Int)) by omega), if_pos (show ((min (lead l) b : Nat) : Int) < a by omega), if_neg c, if_neg (by decide), if_neg (by decide)]; rfl
theorem scan_figures (s : ByteArray) (x : X) (h : x.wf s) (hs : s.size ≤ 1000000) (a b : Nat) (hab : 1 ≤ a ∧ a ≤ b ∧ b ≤ 18) : g_scan_Scanner_string_Figures_io (x.t s, ((), (((a : Int), ()), (((b : Int), ()), ())))) = some ((figX s.size a b x).1.t s, (((figX s.size a b x).2, ()), ((), ()))) := by
  simp only [g_scan_Scanner_string_Figures_io, f_scan_Scanner_string_Figures_io_m, X.t, scan_going, scan_rest s x h, fitsS_dec, Option.bind_some, Option.isNone_none, Option.isNone_some, Option.isSome_none, Option.isSome_some, Bool.not_true, Bool.not_false, cond_true, cond_false, cond_dec, beq_int, bne_int, not_dec]
  cases x with
  | good l =>
    obtain ⟨h1, h2, h3⟩ := X.wf_good h
    have hf := sc_Take l h1 (by omega) a b hab
    have hll := lead_le l
    simp only [X.er, X.rest, Option.isNone_none, Bool.not_true, cond_false, hf]
    by_cases c : a ≤ min (lead l) b
    · have ht := scan_take s (.good l) h hs (min (lead l) b) (by simp only [X.rest]; omega)
      simp only [X.t, X.er] at ht
      simp only [if_pos c, Option.bind_some, Option.isNone_none, Bool.not_true, cond_false, ht, figX, X.er]; simp [takeX, X.er]
    · simp only [if_neg c, Option.bind_some, figX, X.er, X.at]; simp
  | bad i c => simp [X.er, figX, X.at]
end Go.Proofs.YtddnfappkfiidaaGreat.Ev
namespace Go.Proofs.YtddnfappkfiidaaGreat.Ev
open Go
set_option linter.unusedVariables false
set_option linter.unusedSimpArgs false
theorem ib_mem : ∀ (l : List UInt8) (c : UInt8), (0 ≤ Lib.indexByte l c) ↔ c ∈ l := by
  intro l c
  induction l with
  | nil => simp [Lib.indexByte]
  | cons b l ih =>
    have hg := Lib.indexByte_ge l c
    simp only [Lib.indexByte, List.mem_cons]
    by_cases h : b = c
    · subst h; simp
    · have h' : ¬ c = b := fun q => h q.symm
      simp only [beq_iff_eq, h, if_false, h', false_or]
      rw [← ih]
      by_cases q : Lib.indexByte l c = -1
      · rw [if_pos q, q]
      · rw [if_neg q]; omega
theorem sc_index (S : List Int) (hS : okBy S) (c : Int) (hc : 0 ≤ c ∧ c < 256) : ∃ v : Int, g_strings_IndexByte ((), ((strOf S, ()), ((c, ()), ()))) = some ((), ((v, ()), ())) ∧ (0 ≤ v ↔ c ∈ S) := by
  refine ⟨_, rfl, ?_⟩
  rw [ib_mem]
  have e : bytesOf (strOf S) = S := by_str hS
  constructor
  · intro h
    rw [← e]
    have : ((c.toNat.toUInt8.toNat : Nat) : Int) = c := by
      rw [show c.toNat.toUInt8.toNat = c.toNat % 256 from rfl]; omega
    rw [← this]
    exact List.mem_map_of_mem (f := fun b : UInt8 => (b.toNat : Int)) h
  · intro h
    rw [← e] at h
    obtain ⟨b, hb, hbc⟩ := List.mem_map.1 h
    have : c.toNat.toUInt8 = b := by
      rw [← hbc]; simp
    simp only [this]; exact hb
/-- How many bytes of the set a text begins with. -/
def runN (S : List Int) : List Int → Nat
  | [] => 0
  | x :: l => if x ∈ S then runN S l + 1 else 0
theorem runN_le (S : List Int) : ∀ l : List Int, runN S l ≤ l.length
  | [] => Nat.le_refl _
  | x :: l => by
    unfold runN
    have := runN_le S l
    split <;> simp only [List.length_cons] <;> omega
theorem runN_at {S : List Int} : ∀ {l : List Int} {i : Nat}, i < runN S l → l.getD i 0 ∈ S
  | [], i, h => by simp [runN] at h
  | x :: l, i, h => by
    unfold runN at h
    split at h
    · rename_i c
      cases i with
      | zero => exact c
      | succ i => exact runN_at (l := l) (by omega)
    · omega
theorem runN_stop {S : List Int} : ∀ {l : List Int}, runN S l < l.length → ¬ l.getD (runN S l) 0 ∈ S
  | [], h => by simp [runN] at h
  | x :: l, h => by
    unfold runN at h ⊢
    split
    · rename_i c
      rw [if_pos c] at h
      exact runN_stop (l := l) (by simp only [List.length_cons] at h; omega)
    · rename_i c; exact c
theorem scan_run_p4 (s : ByteArray) (x : X) (h : x.wf s) (hs : s.size ≤ 1000000) (S : List Int) (hS : okBy S) : ∀ (k i : Nat), i + k = x.rest.length → i ≤ runN S x.rest →
    Evn (fun f => (f_scan_Scanner_string_Run_io_t f).1 (x.t s, ((), ((strOf S, ()), ((strOf x.rest, ()), (((i : Int), ()), ())))))) ((takeX (runN S x.rest) x).t s, ((strOf (x.rest.take (runN S x.rest)), ()), ((), ()))) := by
  have ho := X.ok_rest h
  have hl := runN_le S x.rest
  have fin : ∀ i : Nat, i = runN S x.rest → (i < x.rest.length → ¬ x.rest.getD i 0 ∈ S) → Evn (fun f => (f_scan_Scanner_string_Run_io_t f).1 (x.t s, ((), ((strOf S, ()), ((strOf x.rest, ()), (((i : Int), ()), ())))))) ((takeX (runN S x.rest) x).t s, ((strOf (x.rest.take (runN S x.rest)), ()), ((), ()))) := by
    intro i hi hn
    subst hi
    have ht := scan_take s x h hs _ hl
    simp only [X.t] at ht
    refine Evn.some 1 fun f => ?_
    simp only [t_scan_Scanner_string_Run_io, f_scan_Scanner_string_Run_io_p4, X.t, fitsS_dec, Option.bind_some, Option.isNone_none, Option.isNone_some, Option.isSome_none, Option.isSome_some, Bool.not_true, Bool.not_false, cond_true, cond_false, cond_dec, beq_int, bne_int, not_dec, str_size, and_dec]
    by_cases c : runN S x.rest < x.rest.length
    · have hb := by_at (strOf x.rest) (i := ((runN S x.rest : Nat) : Int)) (by omega) (by rw [str_size]; omega)
      rw [by_str ho.1, Int.toNat_natCast] at hb
      have hc := okBy_at ho.1 (runN S x.rest)
      obtain ⟨v, hv1, hv2⟩ := sc_index S hS (x.rest.getD (runN S x.rest) 0) hc
      rw [if_pos (by omega), if_pos (by omega), hb, hv1]
      simp only [Option.bind_some, cond_dec, ge_iff_le]
      rw [if_neg (fun q => hn c (hv2.1 q)), ht]; rfl
    · rw [if_neg (by omega), ht]; rfl
  intro k; induction k with
  | zero =>
    intro i hi hr
    exact fin i (by omega) (fun q => by omega)
  | succ k ih =>
    intro i hi hr
    by_cases q : i = runN S x.rest
    · exact fin i q (fun q2 => by rw [q]; exact runN_stop (by omega))
    · refine (ih (i + 1) (by omega) (by omega)).step fun f => ?_
      have hb := by_at (strOf x.rest) (i := (i : Int)) (by omega) (by rw [str_size]; omega)
      rw [by_str ho.1, Int.toNat_natCast] at hb
      have hc := okBy_at ho.1 i
      obtain ⟨v, hv1, hv2⟩ := sc_index S hS (x.rest.getD i 0) hc
      simp only [t_scan_Scanner_string_Run_io, f_scan_Scanner_string_Run_io_p4, X.t, fitsS_dec, Option.bind_some, Option.isNone_none, Option.isNone_some, Option.isSome_none, Option.isSome_some, Bool.not_true, Bool.not_false, cond_true, cond_false, cond_dec, beq_int, bne_int, not_dec, str_size, and_dec]
      rw [if_pos (by omega), if_pos (by omega), hb, hv1]
      simp only [Option.bind_some, cond_dec, ge_iff_le]
      rw [if_pos (hv2.2 (runN_at (by omega))), iadd_i64 (by omega)]; rfl
theorem scan_run (s : ByteArray) (x : X) (h : x.wf s) (hs : s.size ≤ 1000000) (S : List Int) (hS : okBy S) : g_scan_Scanner_string_Run_io (x.t s, ((), ((strOf S, ()), ()))) = some ((takeX (runN S x.rest) x).t s, ((strOf (x.rest.take (runN S x.rest)), ()), ((), ()))) := by
  refine ((scan_run_p4 s x h hs S hS x.rest.length 0 (by omega) (Nat.zero_le _)).cast fun f => ?_).lim
  simp only [f_scan_Scanner_string_Run_io_m, X.t, scan_rest s x h, Option.bind_some]; rfl
@[reducible] def figL : List Int := [48, 49, 50, 51, 52, 53, 54, 55, 56, 57]
theorem run_lead : ∀ l : List Int, runN figL l = lead l
  | [] => rfl
  | x :: l => by
    have h : x ∈ figL ↔ isF x := by
      unfold isF
      simp only [figL, List.mem_cons, List.not_mem_nil, or_false]; omega
    unfold runN lead
    rw [run_lead l]
    by_cases c : isF x
    · rw [if_pos c, if_pos (h.2 c)]
    · rw [if_neg c, if_neg (fun q => c (h.1 q))]
end Go.Proofs.YtddnfappkfiidaaGreat.Ev
namespace Go.Proofs.YtddnfappkfiidaaGreat.Ev
open Go
set_option linter.unusedVariables false
set_option linter.unusedSimpArgs false
/-- What follows a remark that is d deep. -/
def rmk : Nat → List Int → Option (List Int)
  | _, [] => none
  | d, x :: l => if x = 92 then (match l with | [] => none | _ :: r => rmk d r) else if x = 40 then rmk (d + 1) l else if x = 41 then (if d = 1 then some l else rmk (d - 1) l) else rmk d l
theorem rmk_cut : ∀ (n d : Nat) (l r : List Int), l.length ≤ n → rmk d l = some r → ∃ p, l = p ++ r ∧ p ≠ [] := by
  intro n; induction n with
  | zero =>
    intro d l r hn h
    cases l with
    | nil => simp [rmk] at h
    | cons x l => simp at hn
  | succ n ih =>
    intro d l r hn h
    cases l with
    | nil => simp [rmk] at h
    | cons x l =>
      simp only [List.length_cons] at hn
      unfold rmk at h
      by_cases c1 : x = 92
      · rw [if_pos c1] at h
        cases l with
        | nil => simp at h
        | cons y l =>
          simp only at h
          obtain ⟨p, hp, _⟩ := ih d l r (by simp only [List.length_cons] at hn; omega) h
          exact ⟨x :: y :: p, by rw [hp]; rfl, by simp⟩
      · rw [if_neg c1] at h
        have go : ∀ d', rmk d' l = some r → ∃ p, x :: l = p ++ r ∧ p ≠ [] := fun d' h' => by
          obtain ⟨p, hp, _⟩ := ih d' l r (by omega) h'
          exact ⟨x :: p, by rw [hp]; rfl, by simp⟩
        by_cases c2 : x = 40
        · rw [if_pos c2] at h; exact go _ h
        · rw [if_neg c2] at h
          by_cases c3 : x = 41
          · rw [if_pos c3] at h
            by_cases c4 : d = 1
            · rw [if_pos c4] at h
              simp only [Option.some.injEq] at h
              exact ⟨[x], by rw [h]; rfl, by simp⟩
            · rw [if_neg c4] at h; exact go _ h
          · rw [if_neg c3] at h; exact go _ h
def spc (x : Int) : Prop := x = 32 ∨ x = 9 ∨ x = 13 ∨ x = 10
instance (x : Int) : Decidable (spc x) := by unfold spc; infer_instance
/-- What follows a gap. -/
def gpF : Nat → List Int → Option (List Int)
  | 0, l => some l
  | _ + 1, [] => some []
  | n + 1, x :: l => if spc x then gpF n l else if x = 40 then (match rmk 1 l with | none => none | some r => gpF n r) else some (x :: l)
def gp (l : List Int) : Option (List Int) := gpF l.length l
theorem gpF_eq : ∀ (n m : Nat) (l : List Int), l.length ≤ n → l.length ≤ m → gpF n l = gpF m l := by
  intro n; induction n with
  | zero =>
    intro m l hn hm
    have : l = [] := List.length_eq_zero_iff.1 (by omega)
    subst this
    cases m <;> rfl
  | succ n ih =>
    intro m l hn hm
    cases l with
    | nil => cases m <;> rfl
    | cons x l =>
      cases m with
      | zero => simp at hm
      | succ m =>
        simp only [List.length_cons] at hn hm
        simp only [gpF]
        by_cases c1 : spc x
        · rw [if_pos c1, if_pos c1]; exact ih m l (by omega) (by omega)
        · rw [if_neg c1, if_neg c1]
          by_cases c2 : x = 40
          · rw [if_pos c2, if_pos c2]
            cases h : rmk 1 l with
            | none => rfl
            | some r =>
              obtain ⟨p, hp, _⟩ := rmk_cut l.length 1 l r (Nat.le_refl _) h
              have : r.length ≤ l.length := by rw [hp, List.length_append]; omega
              exact ih m r (by omega) (by omega)
          · rw [if_neg c2, if_neg c2]
theorem gp_nil : gp [] = some [] := rfl
theorem gp_spc {x : Int} (h : spc x) (l : List Int) : gp (x :: l) = gp l := by
  unfold gp; simp only [List.length_cons, gpF, if_pos h]
theorem gp_rem (l : List Int) : gp (40 :: l) = match rmk 1 l with | none => none | some r => gp r := by
  unfold gp
  simp only [List.length_cons, gpF]
  rw [if_neg (by unfold spc; decide)]
  simp only [if_true]
  cases h : rmk 1 l with
  | none => rfl
  | some r =>
    obtain ⟨p, hp, _⟩ := rmk_cut l.length 1 l r (Nat.le_refl _) h
    exact gpF_eq _ _ _ (by rw [hp, List.length_append]; omega) (Nat.le_refl _)
theorem gp_no {x : Int} (h : ¬ spc x) (h2 : x ≠ 40) (l : List Int) : gp (x :: l) = some (x :: l) := by
  unfold gp; simp only [List.length_cons, gpF, if_neg h, if_neg h2]
theorem gp_cut : ∀ (n : Nat) (l r : List Int), l.length ≤ n → gp l = some r → ∃ p, l = p ++ r := by
  intro n; induction n with
  | zero =>
    intro l r hn h
    have : l = [] := List.length_eq_zero_iff.1 (by omega)
    subst this
    rw [gp_nil] at h
    exact ⟨[], by rw [← Option.some.inj h]; rfl⟩
  | succ n ih =>
    intro l r hn h
    cases l with
    | nil => rw [gp_nil] at h; exact ⟨[], by rw [← Option.some.inj h]; rfl⟩
    | cons x l =>
      simp only [List.length_cons] at hn
      by_cases c1 : spc x
      · rw [gp_spc c1] at h
        obtain ⟨p, hp⟩ := ih l r (by omega) h
        exact ⟨x :: p, by rw [hp]; rfl⟩
      · by_cases c2 : x = 40
        · subst c2
          rw [gp_rem] at h
          cases hr : rmk 1 l with
          | none => rw [hr] at h; cases h
          | some q =>
            rw [hr] at h
            obtain ⟨p, hp, _⟩ := rmk_cut l.length 1 l q (Nat.le_refl _) hr
            obtain ⟨p2, hp2⟩ := ih q r (by have := congrArg List.length hp; rw [List.length_append] at this; omega) h
            exact ⟨40 :: (p ++ p2), by rw [hp, hp2]; simp⟩
        · rw [gp_no c1 c2] at h
          exact ⟨[], by rw [Option.some.inj h]; rfl⟩
/-- Where a rest begins. -/
def posO (n : Nat) : Option (List Int) → Int
  | none => -1
  | some r => ((n - r.length : Nat) : Int)
theorem rest_at {s : ByteArray} {i : Nat} {x : Int} {l : List Int} (h : (bytesOf s).drop i = x :: l) : i < s.size ∧ (bytesOf s).getD i 0 = x ∧ (bytesOf s).drop (i + 1) = l ∧ i + (l.length + 1) = s.size := by
  have hl := by_len s
  have hlen := congrArg List.length h
  rw [List.length_drop, List.length_cons] at hlen
  refine ⟨by omega, ?_, ?_, by omega⟩
  · rw [List.getD_eq_getElem?_getD]
    have := congrArg (fun z => z[0]?) h
    simp only [List.getElem?_drop, Nat.add_zero, List.getElem?_cons_zero] at this
    rw [this]; rfl
  · rw [← List.drop_drop, h]; rfl
theorem rest_end {s : ByteArray} {i : Nat} (hi : i ≤ s.size) (h : (bytesOf s).drop i = []) : i = s.size := by
  have hl := by_len s
  have hlen := congrArg List.length h
  rw [List.length_drop] at hlen
  simp only [List.length_nil] at hlen; omega
theorem remark_p3 (s : ByteArray) (hs : s.size ≤ 1000000) : ∀ (n : Nat) (l : List Int) (i d : Nat), l.length ≤ n → i ≤ s.size → (bytesOf s).drop i = l → 1 ≤ d → d + l.length ≤ 2000000 →
    Evn (fun f => (f_mail_remark_t f).1 ((), ((s, ()), (((i : Int), ()), (((d : Int), ()), ()))))) ((), ((posO s.size (rmk d l), ()), ())) := by
  intro n; induction n with
  | zero =>
    intro l i d hn hi hl hd hb
    have : l = [] := List.length_eq_zero_iff.1 (by omega)
    subst this
    have := rest_end hi hl
    refine Evn.some 1 fun f => ?_
    simp only [t_mail_remark, f_mail_remark_p3, fitsS_dec, Option.bind_some, Option.isNone_none, Option.isNone_some, Option.isSome_none, Option.isSome_some, Bool.not_true, Bool.not_false, cond_true, cond_false, cond_dec, beq_int, bne_int, not_dec, rmk, posO]
    rw [if_neg (by omega)]
  | succ n ih =>
    intro l i d hn hi hl hd hb
    cases l with
    | nil =>
      have := rest_end hi hl
      refine Evn.some 1 fun f => ?_
      simp only [t_mail_remark, f_mail_remark_p3, fitsS_dec, Option.bind_some, Option.isNone_none, Option.isNone_some, Option.isSome_none, Option.isSome_some, Bool.not_true, Bool.not_false, cond_true, cond_false, cond_dec, beq_int, bne_int, not_dec, rmk, posO]
      rw [if_neg (by omega)]
    | cons x l =>
      obtain ⟨k1, k2, k3, k4⟩ := rest_at hl
      simp only [List.length_cons] at hn hb
      have hbt := by_at s (i := (i : Int)) (by omega) (by omega)
      rw [Int.toNat_natCast, k2] at hbt
      have e1 : iadd .i64 (i : Int) 1 = ((i + 1 : Nat) : Int) := by rw [iadd_i64 (by omega)]; rfl
      have e2 : iadd .i64 ((i + 1 : Nat) : Int) 1 = ((i + 2 : Nat) : Int) := by rw [iadd_i64 (by omega)]; omega
      have e3 : iadd .i64 (d : Int) 1 = ((d + 1 : Nat) : Int) := by rw [iadd_i64 (by omega)]; rfl
      have e4 : isub .i64 (d : Int) 1 = ((d - 1 : Nat) : Int) := by rw [isub_i64 (by omega)]; omega
      have hin : (0 : Int) ≤ (i : Int) ∧ (i : Int) < (s.size : Int) := by omega
      unfold rmk
      by_cases c1 : x = 92
      · subst c1
        rw [if_pos rfl]
        cases l with
        | nil =>
          have k5 := rest_end (by omega) k3
          refine Evn.some 2 fun f => ?_
          simp only [t_mail_remark, f_mail_remark_p3, hbt, e1, e2, fitsS_dec, Option.bind_some, Option.isNone_none, Option.isNone_some, Option.isSome_none, Option.isSome_some, Bool.not_true, Bool.not_false, cond_true, cond_false, cond_dec, beq_int, bne_int, not_dec, and_dec, hin, and_self, if_true]
          rw [if_neg (by omega), if_neg (by omega)]; rfl
        | cons y r =>
          obtain ⟨k5, k6, k7, k8⟩ := rest_at k3
          refine (ih r (i + 2) d (by simp only [List.length_cons] at hn; omega) (by omega) k7 hd (by simp only [List.length_cons] at hb; omega)).step fun f => ?_
          simp only [t_mail_remark, f_mail_remark_p3, hbt, e1, e2, fitsS_dec, Option.bind_some, Option.isNone_none, Option.isNone_some, Option.isSome_none, Option.isSome_some, Bool.not_true, Bool.not_false, cond_true, cond_false, cond_dec, beq_int, bne_int, not_dec, and_dec, hin, and_self, if_true]
          rw [if_neg (by omega)]
      · rw [if_neg c1]
        by_cases c2 : x = 40
        · subst c2
          rw [if_pos rfl]
          refine (ih l (i + 1) (d + 1) (by omega) (by omega) k3 (by omega) (by omega)).step fun f => ?_
          simp only [t_mail_remark, f_mail_remark_p3, hbt, e1, e2, e3, fitsS_dec, Option.bind_some, Option.isNone_none, Option.isNone_some, Option.isSome_none, Option.isSome_some, Bool.not_true, Bool.not_false, cond_true, cond_false, cond_dec, beq_int, bne_int, not_dec, and_dec, hin, and_self, if_true]
          rw [if_neg (by decide), if_neg (by omega)]
        · rw [if_neg c2]
          by_cases c3 : x = 41
          · subst c3
            rw [if_pos rfl]
            by_cases c4 : d = 1
            · rw [if_pos c4]
              refine Evn.some 1 fun f => ?_
              simp only [t_mail_remark, f_mail_remark_p3, hbt, e1, e4, fitsS_dec, Option.bind_some, Option.isNone_none, Option.isNone_some, Option.isSome_none, Option.isSome_some, Bool.not_true, Bool.not_false, cond_true, cond_false, cond_dec, beq_int, bne_int, not_dec, and_dec, hin, and_self, if_true]
              rw [if_neg (by decide), if_neg (by decide), if_pos (by omega)]
              simp only [posO]
              congr 4; omega
            · rw [if_neg c4]
              refine (ih l (i + 1) (d - 1) (by omega) (by omega) k3 (by omega) (by omega)).step fun f => ?_
              simp only [t_mail_remark, f_mail_remark_p3, hbt, e1, e4, fitsS_dec, Option.bind_some, Option.isNone_none, Option.isNone_some, Option.isSome_none, Option.isSome_some, Bool.not_true, Bool.not_false, cond_true, cond_false, cond_dec, beq_int, bne_int, not_dec, and_dec, hin, and_self, if_true]
              rw [if_neg (by decide), if_neg (by decide), if_neg (by omega)]
          · rw [if_neg c3]
            refine (ih l (i + 1) d (by omega) (by omega) k3 (by omega) (by omega)).step fun f => ?_
            simp only [t_mail_remark, f_mail_remark_p3, hbt, e1, fitsS_dec, Option.bind_some, Option.isNone_none, Option.isNone_some, Option.isSome_none, Option.isSome_some, Bool.not_true, Bool.not_false, cond_true, cond_false, cond_dec, beq_int, bne_int, not_dec, and_dec, hin, and_self, if_true]
            rw [if_neg c1, if_neg c2, if_neg c3, if_neg (by omega)]
theorem mail_remark (s : ByteArray) (hs : s.size ≤ 1000000) {i : Nat} {l : List Int} (h : (bytesOf s).drop i = 40 :: l) : g_mail_remark ((), ((s, ()), (((i : Int), ()), ()))) = some ((), ((posO s.size (rmk 1 l), ()), ())) := by
  obtain ⟨k1, k2, k3, k4⟩ := rest_at h
  have hbt := by_at s (i := (i : Int)) (by omega) (by omega)
  rw [Int.toNat_natCast, k2] at hbt
  have e1 : iadd .i64 (i : Int) 1 = ((i + 1 : Nat) : Int) := by rw [iadd_i64 (by omega)]; rfl
  have e0 : iadd .i64 0 1 = 1 := by rw [iadd_i64 (by omega)]; rfl
  have hin : (0 : Int) ≤ (i : Int) ∧ (i : Int) < (s.size : Int) := by omega
  have := remark_p3 s hs l.length l (i + 1) 1 (Nat.le_refl _) (by omega) k3 (Nat.le_refl _) (by omega)
  have h2 : Evn (fun f => (f_mail_remark_t f).1 ((), ((s, ()), (((i : Int), ()), ((0, ()), ()))))) ((), ((posO s.size (rmk 1 l), ()), ())) := this.step fun f => by
    simp only [t_mail_remark, f_mail_remark_p3, hbt, e1, e0, fitsS_dec, Option.bind_some, Option.isNone_none, Option.isNone_some, Option.isSome_none, Option.isSome_some, Bool.not_true, Bool.not_false, cond_true, cond_false, cond_dec, beq_int, bne_int, not_dec, and_dec, hin, and_self, if_true]
    rw [if_neg (by decide), if_neg (by decide)]; rfl
  refine (h2.cast fun f => ?_).lim
  simp only [f_mail_remark_m]
theorem gap_p3 (s : ByteArray) (hs : s.size ≤ 1000000) : ∀ (n : Nat) (l : List Int) (i : Nat), l.length ≤ n → i ≤ s.size → (bytesOf s).drop i = l →
    Evn (fun f => (f_mail_Gap_t f).1 ((), ((s, ()), (((i : Int), ()), ())))) ((), ((posO s.size (gp l), ()), ())) := by
  have lsp : (⟨#[32, 9, 13, 10]⟩ : ByteArray) = strOf [32, 9, 13, 10] := by kernel_rfl
  have osp : okBy [32, 9, 13, 10] := by intro x hx; simp only [List.mem_cons, List.not_mem_nil, or_false] at hx; omega
  have nil : ∀ i : Nat, i = s.size → Evn (fun f => (f_mail_Gap_t f).1 ((), ((s, ()), (((i : Int), ()), ())))) ((), ((posO s.size (gp []), ()), ())) := fun i hi => by
    refine Evn.some 1 fun f => ?_
    simp only [t_mail_Gap, f_mail_Gap_p3, fitsS_dec, Option.bind_some, Option.isNone_none, Option.isNone_some, Option.isSome_none, Option.isSome_some, Bool.not_true, Bool.not_false, cond_true, cond_false, cond_dec, beq_int, bne_int, not_dec, gp_nil, posO, List.length_nil, ge_iff_le]
    rw [if_pos (by omega), if_neg (by omega)]
    congr 4; omega
  intro n; induction n with
  | zero =>
    intro l i hn hi hl
    have : l = [] := List.length_eq_zero_iff.1 (by omega)
    subst this
    exact nil i (rest_end hi hl)
  | succ n ih =>
    intro l i hn hi hl
    cases l with
    | nil => exact nil i (rest_end hi hl)
    | cons x l =>
      obtain ⟨k1, k2, k3, k4⟩ := rest_at hl
      simp only [List.length_cons] at hn
      have hbt := by_at s (i := (i : Int)) (by omega) (by omega)
      rw [Int.toNat_natCast, k2] at hbt
      have hx := okBy_at (by_ok s) i
      rw [k2] at hx
      have e1 : iadd .i64 (i : Int) 1 = ((i + 1 : Nat) : Int) := by rw [iadd_i64 (by omega)]; rfl
      have hin : (0 : Int) ≤ (i : Int) ∧ (i : Int) < (s.size : Int) := by omega
      obtain ⟨v, hv1, hv2⟩ := sc_index [32, 9, 13, 10] osp x hx
      have hm : x ∈ [(32 : Int), 9, 13, 10] ↔ spc x := by unfold spc; simp
      by_cases c1 : spc x
      · have hv3 : 0 ≤ v := hv2.2 (hm.2 c1)
        rw [gp_spc c1]
        refine (ih l (i + 1) (by omega) (by omega) k3).step fun f => ?_
        simp only [t_mail_Gap, f_mail_Gap_p3, lsp, hbt, hv1, e1, fitsS_dec, Option.bind_some, Option.isNone_none, Option.isNone_some, Option.isSome_none, Option.isSome_some, Bool.not_true, Bool.not_false, cond_true, cond_false, cond_dec, beq_int, bne_int, not_dec, and_dec, hin, and_self, if_true, ge_iff_le, hv3]
      · have hv3 : ¬ 0 ≤ v := fun q => c1 (hm.1 (hv2.1 q))
        by_cases c2 : x = 40
        · subst c2
          have hrm := mail_remark s hs hl
          rw [gp_rem]
          cases hr : rmk 1 l with
          | none =>
            rw [hr] at hrm
            refine Evn.some 1 fun f => ?_
            simp only [t_mail_Gap, f_mail_Gap_p3, lsp, hbt, hv1, hrm, fitsS_dec, Option.bind_some, Option.isNone_none, Option.isNone_some, Option.isSome_none, Option.isSome_some, Bool.not_true, Bool.not_false, cond_true, cond_false, cond_dec, beq_int, bne_int, not_dec, and_dec, hin, and_self, if_true, ge_iff_le, hv3, if_false, posO]
            rw [if_pos (by decide)]
          | some r =>
            rw [hr] at hrm
            obtain ⟨p, hp, hp2⟩ := rmk_cut l.length 1 l r (Nat.le_refl _) hr
            have hll : l.length = p.length + r.length := by rw [hp, List.length_append]
            have hd : (bytesOf s).drop (s.size - r.length) = r := by
              have hB : bytesOf s = (bytesOf s).take (i + 1) ++ l := by rw [← k3, List.take_append_drop]
              have hlen : ((bytesOf s).take (i + 1)).length = i + 1 := by rw [List.length_take, by_len]; omega
              rw [hB, hp, ← List.append_assoc]
              rw [List.drop_left' (by rw [List.length_append, hlen]; omega)]
            refine (ih r (s.size - r.length) (by omega) (by omega) hd).step fun f => ?_
            simp only [t_mail_Gap, f_mail_Gap_p3, lsp, hbt, hv1, hrm, fitsS_dec, Option.bind_some, Option.isNone_none, Option.isNone_some, Option.isSome_none, Option.isSome_some, Bool.not_true, Bool.not_false, cond_true, cond_false, cond_dec, beq_int, bne_int, not_dec, and_dec, hin, and_self, if_true, ge_iff_le, hv3, if_false, posO]
            rw [if_neg (by omega)]
        · rw [gp_no c1 c2]
          refine Evn.some 1 fun f => ?_
          simp only [t_mail_Gap, f_mail_Gap_p3, lsp, hbt, hv1, fitsS_dec, Option.bind_some, Option.isNone_none, Option.isNone_some, Option.isSome_none, Option.isSome_some, Bool.not_true, Bool.not_false, cond_true, cond_false, cond_dec, beq_int, bne_int, not_dec, and_dec, hin, and_self, if_true, ge_iff_le, hv3, if_false, c2, posO, List.length_cons]
          congr 4; omega
theorem mail_gap (s : ByteArray) (hs : s.size ≤ 1000000) (i : Nat) (hi : i ≤ s.size) : g_mail_Gap ((), ((s, ()), (((i : Int), ()), ()))) = some ((), ((posO s.size (gp ((bytesOf s).drop i)), ()), ())) := by
  refine ((gap_p3 s hs _ _ i (Nat.le_refl _) hi rfl).cast fun f => ?_).lim
  simp only [f_mail_Gap_m]
end Go.Proofs.YtddnfappkfiidaaGreat.Ev
namespace Go.Proofs.YtddnfappkfiidaaGreat.Ev
open Go
set_option linter.unusedVariables false
set_option linter.unusedSimpArgs false
/-! ### letters alike -/
def low (x : Int) : Int := if 65 ≤ x ∧ x ≤ 90 then x + 32 else x
theorem scan_small (x : Int) (hx : 0 ≤ x ∧ x < 256) : g_scan_small ((), ((x, ()), ())) = some ((), ((low x, ()), ())) := by
  simp only [g_scan_small, f_scan_small_m, fitsS_dec, Option.bind_some, Option.isNone_none, Option.isNone_some, Option.isSome_none, Option.isSome_some, Bool.not_true, Bool.not_false, cond_true, cond_false, cond_dec, beq_int, bne_int, not_dec, ge_iff_le]
  unfold low
  by_cases h : 65 ≤ x
  · rw [if_pos h]
    by_cases h2 : x ≤ 90
    · have e1 : isub .u8 x 65 = x - 65 := by unfold isub; rw [wrap_u8]; omega
      have e2 : iadd .u8 (x - 65) 97 = x + 32 := by unfold iadd; rw [wrap_u8]; omega
      rw [if_pos h2, if_pos ⟨h, h2⟩, e1, e2]
    · rw [if_neg h2, if_neg (fun q => h2 q.2)]
  · rw [if_neg h, if_neg (fun q => h q.1)]
theorem alike_p3 (a b : List Int) (ha : okBy a) (hb : okBy b) (hl : a.length = b.length) (h1 : a.length ≤ 1000) : ∀ (k i : Nat), i + k = a.length → (∀ j, j < i → low (a.getD j 0) = low (b.getD j 0)) →
    Evn (fun f => (f_scan_alike_t f).1 ((), ((strOf a, ()), ((strOf b, ()), (((a.length : Int), ()), (((i : Int), ()), ())))))) ((), ((decide (a.map low = b.map low), ()), ())) := by
  intro k; induction k with
  | zero =>
    intro i hi hp
    have : a.map low = b.map low := by
      refine List.ext_getElem (by simp [hl]) fun j h1 h2 => ?_
      rw [List.length_map] at h1 h2
      have := hp j (by omega)
      rw [List.getD_eq_getElem?_getD, List.getD_eq_getElem?_getD, List.getElem?_eq_getElem h1, List.getElem?_eq_getElem h2] at this
      simpa using this
    rw [decide_eq_true this]
    refine Evn.some 1 fun f => ?_
    simp only [t_scan_alike, f_scan_alike_p3, fitsS_dec, Option.bind_some, Option.isNone_none, Option.isNone_some, Option.isSome_none, Option.isSome_some, Bool.not_true, Bool.not_false, cond_true, cond_false, cond_dec, beq_int, bne_int, not_dec]
    rw [if_neg (by omega)]
  | succ k ih =>
    intro i hi hp
    have b1 := by_at (strOf a) (i := (i : Int)) (by omega) (by rw [str_size]; omega)
    have b2 := by_at (strOf b) (i := (i : Int)) (by omega) (by rw [str_size]; omega)
    rw [by_str ha, Int.toNat_natCast] at b1
    rw [by_str hb, Int.toNat_natCast] at b2
    have s1 := scan_small _ (okBy_at ha i)
    have s2 := scan_small _ (okBy_at hb i)
    by_cases c : low (a.getD i 0) = low (b.getD i 0)
    · refine (ih (i + 1) (by omega) (fun j hj => ?_)).step fun f => ?_
      · by_cases q : j = i
        · rw [q]; exact c
        · exact hp j (by omega)
      · simp only [t_scan_alike, f_scan_alike_p3, b1, b2, s1, s2, str_size, fitsS_dec, Option.bind_some, Option.isNone_none, Option.isNone_some, Option.isSome_none, Option.isSome_some, Bool.not_true, Bool.not_false, cond_true, cond_false, cond_dec, beq_int, bne_int, not_dec, and_dec]
        rw [if_pos (by omega), if_pos (by omega), if_pos (by omega), if_neg (not_not_intro c), iadd_i64 (by omega)]; rfl
    · have : ¬ a.map low = b.map low := by
        intro q
        have := congrArg (fun z => z[i]?) q
        simp only [List.getElem?_map] at this
        rw [List.getElem?_eq_getElem (by omega), List.getElem?_eq_getElem (by omega)] at this
        rw [List.getD_eq_getElem?_getD, List.getD_eq_getElem?_getD, List.getElem?_eq_getElem (by omega), List.getElem?_eq_getElem (by omega)] at c
        exact c (by simpa using this)
      rw [decide_eq_false this]
      refine Evn.some 1 fun f => ?_
      simp only [t_scan_alike, f_scan_alike_p3, b1, b2, s1, s2, str_size, fitsS_dec, Option.bind_some, Option.isNone_none, Option.isNone_some, Option.isSome_none, Option.isSome_some, Bool.not_true, Bool.not_false, cond_true, cond_false, cond_dec, beq_int, bne_int, not_dec, and_dec]
      rw [if_pos (by omega), if_pos (by omega), if_pos (by omega), if_pos c]
theorem scan_alike (a b : List Int) (ha : okBy a) (hb : okBy b) (hl : a.length = b.length) (h1 : a.length ≤ 1000) : g_scan_alike ((), ((strOf a, ()), ((strOf b, ()), ()))) = some ((), ((decide (a.map low = b.map low), ()), ())) := by
  refine ((alike_p3 a b ha hb hl h1 a.length 0 (by omega) (fun j hj => by omega)).cast fun f => ?_).lim
  simp only [f_scan_alike_m, str_size]; rfl
/-- A word, whatever its letters' size. -/
def isW (W l : List Int) : Prop := W.length ≤ l.length ∧ (l.take W.length).map low = W.map low
instance (W l : List Int) : Decidable (isW W l) := by unfold isW; infer_instance
def foldX (W : List Int) : X → X × Bool
  | .good l => if isW W l then (.good (l.drop W.length), true) else (.good l, false)
  | .bad i c => (.bad i c, false)
theorem foldX_wf {s : ByteArray} {x : X} (h : x.wf s) (W : List Int) : (foldX W x).1.wf s := by
  cases x with
  | good l =>
    simp only [foldX]
    split
    · exact X.wf_cut h _
    · exact h
  | bad i c => exact h
theorem scan_fold (s : ByteArray) (x : X) (h : x.wf s) (hs : s.size ≤ 1000000) (W : List Int) (hW : okBy W) (hl : W.length ≤ 1000) : g_scan_Scanner_string_Fold_io (x.t s, ((), ((strOf W, ()), ()))) = some ((foldX W x).1.t s, (((foldX W x).2, ()), ((), ()))) := by
  simp only [g_scan_Scanner_string_Fold_io, f_scan_Scanner_string_Fold_io_m, X.t, scan_rest s x h, scan_going, fitsS_dec, Option.bind_some, Option.isNone_none, Option.isNone_some, Option.isSome_none, Option.isSome_some, Bool.not_true, Bool.not_false, cond_true, cond_false, cond_dec, beq_int, bne_int, not_dec, str_size]
  cases x with
  | bad i c => simp [X.er, foldX, X.at]
  | good l =>
    obtain ⟨h1, h2, h3⟩ := X.wf_good h
    have hne : (X.good l).er.isNone = true := rfl
    have hre : (X.good l).rest = l := rfl
    simp only [hne, hre, cond_false, Bool.not_true]
    by_cases c : W.length ≤ l.length
    · have ha := scan_alike (l.take W.length) W (okBy_take h1 _) hW (by rw [List.length_take]; omega) (by rw [List.length_take]; omega)
      have ht := scan_take s (.good l) h hs W.length c
      simp only [X.t] at ht
      simp only [str_cut, List.drop_zero, Int.toNat_natCast, show Int.toNat 0 = 0 from rfl, ha, and_dec, cond_dec, Option.bind_some, not_dec, ht]
      rw [if_neg (show ¬((l.length : Int) < (W.length : Int)) by omega), if_pos (show ((0 : Int) ≤ 0 ∧ (0 : Int) ≤ (W.length : Int)) ∧ (W.length : Int) ≤ (l.length : Int) by omega)]
      by_cases c2 : (l.take W.length).map low = W.map low
      · have : isW W l := ⟨c, c2⟩
        simp only [c2, foldX, if_pos this, takeX]; simp
      · have : ¬ isW W l := fun q => c2 q.2
        simp only [c2, foldX, if_neg this]; simp
    · have : ¬ isW W l := fun q => c q.1
      rw [if_pos (show (l.length : Int) < (W.length : Int) by omega)]
      simp only [foldX, if_neg this]
def mustX (n : Nat) (W : List Int) (x : X) : X := if (foldX W x).2 then (foldX W x).1 else failX n 2 (foldX W x).1
theorem mustX_wf {s : ByteArray} {x : X} (h : x.wf s) (W : List Int) : (mustX s.size W x).wf s := by
  unfold mustX
  split
  · exact foldX_wf h W
  · exact failX_wf (foldX_wf h W) 2
theorem scan_must (s : ByteArray) (x : X) (h : x.wf s) (hs : s.size ≤ 1000000) (W : List Int) (hW : okBy W) (hl : W.length ≤ 1000) : g_scan_Scanner_string_Must_io (x.t s, ((), ((strOf W, ()), ()))) = some ((mustX s.size W x).t s, ((), ())) := by
  have h1 := scan_fold s x h hs W hW hl
  have h2 := scan_fail s (foldX W x).1 2
  simp only [X.t] at h1 h2
  simp only [g_scan_Scanner_string_Must_io, f_scan_Scanner_string_Must_io_m, X.t, h1, Option.bind_some, mustX]
  cases hb : (foldX W x).2
  · simp only [Bool.not_false, cond_true, h2, Option.bind_some, Bool.false_eq_true, if_false]
  · simp only [Bool.not_true, cond_false, if_true]
/-- A gap, and whether there was one. -/
def gapX (n : Nat) : X → X × Bool
  | .good l => match gp l with
    | none => (.bad (n - l.length) 2, false)
    | some r => (.good r, decide (r.length < l.length))
  | .bad i c => (.bad i c, false)
theorem gapX_wf {s : ByteArray} {x : X} (h : x.wf s) : (gapX s.size x).1.wf s := by
  cases x with
  | bad i c => exact h
  | good l =>
    simp only [gapX]
    cases hg : gp l with
    | none => exact Nat.sub_le _ _
    | some r =>
      obtain ⟨p, hp⟩ := gp_cut l.length l r (Nat.le_refl _) hg
      obtain ⟨q, hq⟩ := h
      exact ⟨q ++ p, by rw [hq, hp, List.append_assoc]⟩
theorem mail_gapX (s : ByteArray) (x : X) (h : x.wf s) (hs : s.size ≤ 1000000) : g_mail_reader_gap_io (x.t s, ((s, ()), ())) = some ((gapX s.size x).1.t s, (((gapX s.size x).2, ()), ((), ()))) := by
  simp only [g_mail_reader_gap_io, f_mail_reader_gap_io_m, X.t, scan_err, scan_at, fitsS_dec, Option.bind_some, Option.isNone_none, Option.isNone_some, Option.isSome_none, Option.isSome_some, Bool.not_true, Bool.not_false, cond_true, cond_false, cond_dec, beq_int, bne_int, not_dec]
  cases x with
  | bad i c => simp [X.er, gapX, X.at]
  | good l =>
    obtain ⟨h1, h2, h3⟩ := X.wf_good h
    have hg := mail_gap s hs (s.size - l.length) (by omega)
    rw [h3] at hg
    have hp := scan_at s (.good l)
    have hq := scan_fail s (.good l) 2
    simp only [X.t, X.p, X.at, X.er] at hp hq ⊢
    simp only [Option.isNone_none, not_true_eq_false, if_false, cond_false, Bool.not_true, hp, hg, Option.bind_some, gapX]
    cases hgp : gp l with
    | none =>
      simp only [posO, hq, Option.bind_some, X.at, X.er, failX]
      rw [if_pos (by decide)]
    | some r =>
      obtain ⟨p, hpp⟩ := gp_cut l.length l r (Nat.le_refl _) hgp
      have hll : l.length = p.length + r.length := by rw [hpp, List.length_append]
      have ht := scan_take s (.good l) h hs (l.length - r.length) (by simp only [X.rest]; omega)
      have hgo := scan_going s (.good l)
      have hle := scan_left s (.good l) h
      simp only [X.t, X.p, X.at, X.er, X.rest] at ht hgo hle
      have e1 : isub .i64 ((s.size - r.length : Nat) : Int) ((s.size - l.length : Nat) : Int) = ((l.length - r.length : Nat) : Int) := by rw [isub_i64 (by omega)]; omega
      have hk : l.drop (l.length - r.length) = r := by
        have e : l.length - r.length = p.length := by omega
        rw [e, hpp, List.drop_left]
      simp only [posO, e1, g_scan_Scanner_string_Skip_io, f_scan_Scanner_string_Skip_io_m, hgo, hle, Option.isNone_none, fitsS_dec, Option.bind_some, Option.isNone_none, Option.isNone_some, Option.isSome_none, Option.isSome_some, Bool.not_true, Bool.not_false, cond_true, cond_false, cond_dec, beq_int, bne_int, not_dec, ht, takeX, hk, X.at, X.er, gt_iff_lt, not_true_eq_false, if_false, cond_false, Bool.not_true]
      rw [if_neg (by omega), if_neg (by omega), if_neg (by omega)]
      simp only [Option.bind_some]
      congr 4
      rw [decide_eq_decide]; omega
/-! ### one of some names -/
def oneK (nm : Nat → List Int) : Nat → Nat → X → X × Int
  | 0, _, x => (x, 0)
  | k + 1, i, x => if (foldX (nm i) x).2 then ((foldX (nm i) x).1, (i : Int)) else oneK nm k (i + 1) (foldX (nm i) x).1
theorem oneK_wf {s : ByteArray} {nm : Nat → List Int} : ∀ {k i : Nat} {x : X}, x.wf s → (oneK nm k i x).1.wf s
  | 0, _, _, h => h
  | k + 1, i, x, h => by
    unfold oneK
    split
    · exact foldX_wf h _
    · exact oneK_wf (foldX_wf h _)
theorem mail_one (s : ByteArray) (hs : s.size ≤ 1000000) (T : ByteArray) (nm : Nat → List Int) (m : Nat) (hT : T.size = 3 * m) (hm : m ≤ 100) (H : ∀ i : Nat, 1 ≤ i → i ≤ m → g_mail_name ((), ((T, ()), (((i : Int), ()), ()))) = some ((), ((strOf (nm i), ()), ())) ∧ okBy (nm i) ∧ (nm i).length ≤ 1000)
    (x : X) (h : x.wf s) : g_mail_reader_one_io (x.t s, ((s, ()), ((T, ()), ()))) = some ((oneK nm m 1 x).1.t s, (((oneK nm m 1 x).2, ()), ((), ()))) := by
  have q3 : iquo .i64 (T.size : Int) 3 = (m : Int) := by rw [hT, iquo_nn (by decide) (by omega)]; omega
  have L : ∀ (k i : Nat) (x : X), i + k = m + 1 → 1 ≤ i → x.wf s → Evn (fun f => (f_mail_reader_one_io_t f).1 (((x.t s).1, ((s, ()), ())), ((s, ()), ((T, ()), ((), (((i : Int), ()), ())))))) ((oneK nm k i x).1.t s, (((oneK nm k i x).2, ()), ((), ()))) := by
    intro k; induction k with
    | zero =>
      intro i x hi h1 hx
      refine Evn.some 1 fun f => ?_
      simp only [t_mail_reader_one_io, f_mail_reader_one_io_p3, X.t, fitsS_dec, Option.bind_some, Option.isNone_none, Option.isNone_some, Option.isSome_none, Option.isSome_some, Bool.not_true, Bool.not_false, cond_true, cond_false, cond_dec, beq_int, bne_int, not_dec, q3, oneK]
      rw [if_neg (by omega)]
    | succ k ih =>
      intro i x hi h1 hx
      obtain ⟨n1, n2, n3⟩ := H i h1 (by omega)
      have hf := scan_fold s x hx hs (nm i) n2 n3
      simp only [X.t] at hf
      unfold oneK
      cases hb : (foldX (nm i) x).2
      · rw [if_neg (by simp)]
        refine (ih (i + 1) _ (by omega) (by omega) (foldX_wf hx (nm i))).step fun f => ?_
        simp only [t_mail_reader_one_io, f_mail_reader_one_io_p3, X.t, fitsS_dec, Option.bind_some, Option.isNone_none, Option.isNone_some, Option.isSome_none, Option.isSome_some, Bool.not_true, Bool.not_false, cond_true, cond_false, cond_dec, beq_int, bne_int, not_dec, q3, n1, hf, hb, cond_false]
        rw [if_pos (by omega), iadd_i64 (by omega)]; rfl
      · rw [if_pos rfl]
        refine Evn.some 1 fun f => ?_
        simp only [t_mail_reader_one_io, f_mail_reader_one_io_p3, X.t, fitsS_dec, Option.bind_some, Option.isNone_none, Option.isNone_some, Option.isSome_none, Option.isSome_some, Bool.not_true, Bool.not_false, cond_true, cond_false, cond_dec, beq_int, bne_int, not_dec, q3, n1, hf, hb, cond_true]
        rw [if_pos (by omega)]
  refine ((L m 1 x (by omega) (Nat.le_refl _) h).cast fun f => ?_).lim
  simp only [f_mail_reader_one_io_m, X.t]; rfl
end Go.Proofs.YtddnfappkfiidaaGreat.Ev
namespace Go.Proofs.YtddnfappkfiidaaGreat.Ev
open Go
set_option linter.unusedVariables false
set_option linter.unusedSimpArgs false
/-! ### a row turned round -/
/-- Its ends are turned, i of them. -/
def Turned (l c : List Int) (i : Nat) : Prop := c.length = l.length ∧ ∀ k : Nat, k < l.length → c.getD k 0 = if k < i ∨ l.length - i ≤ k then l.getD (l.length - 1 - k) 0 else l.getD k 0
theorem getD_set (l : List Int) (i k : Nat) (x : Int) (hi : i < l.length) : (l.set i x).getD k 0 = if k = i then x else l.getD k 0 := by
  simp only [List.getD_eq_getElem?_getD, List.getElem?_set]
  by_cases h : i = k
  · subst h; simp [hi]
  · rw [if_neg h, if_neg (Ne.symm h)]
theorem turned_end {l c : List Int} {i : Nat} (h : Turned l c i) (hi : l.length ≤ 2 * i + 1) : c = l.reverse := by
  refine List.ext_getElem (by rw [h.1, List.length_reverse]) fun k h1 h2 => ?_
  have hk : k < l.length := by rw [← h.1]; exact h1
  have := h.2 k hk
  rw [List.getElem_reverse]
  simp only [List.getD_eq_getElem?_getD, List.getElem?_eq_getElem h1, Option.getD_some] at this
  rw [this]
  by_cases c1 : k < i ∨ l.length - i ≤ k
  · rw [if_pos c1, List.getElem?_eq_getElem (by omega)]; rfl
  · rw [if_neg c1, List.getElem?_eq_getElem hk]
    simp only [Option.getD_some]
    congr 1
    omega
theorem reverse_p1 (l : List Int) (hl : l.length ≤ 1000000) : ∀ (m i : Nat) (c : List Int), l.length ≤ 2 * i + m → Turned l c i → i ≤ l.length →
    Evn (fun k => (f_slices_Reverse_byte_byte_io_t k).1 ((c, ()), ((), (((i : Int), ()), (((l.length : Int) - 1 - i, ()), ()))))) ((l.reverse, ()), ((), ())) := by
  intro m; induction m with
  | zero =>
    intro i c h ht hi
    rw [← turned_end ht (by omega)]
    refine Evn.some 1 fun k => ?_
    simp only [t_slices_Reverse_byte_byte_io, f_slices_Reverse_byte_byte_io_p1, fitsS_dec, Option.bind_some, Option.isNone_none, Option.isNone_some, Option.isSome_none, Option.isSome_some, Bool.not_true, Bool.not_false, cond_true, cond_false, cond_dec, beq_int, bne_int, not_dec]
    rw [if_neg (by omega)]
  | succ m ih =>
    intro i c h ht hi
    by_cases e : l.length ≤ 2 * i + 1
    · rw [← turned_end ht e]
      refine Evn.some 1 fun k => ?_
      simp only [t_slices_Reverse_byte_byte_io, f_slices_Reverse_byte_byte_io_p1, fitsS_dec, Option.bind_some, Option.isNone_none, Option.isNone_some, Option.isSome_none, Option.isSome_some, Bool.not_true, Bool.not_false, cond_true, cond_false, cond_dec, beq_int, bne_int, not_dec]
      rw [if_neg (by omega)]
    · obtain ⟨h1, h2⟩ := ht
      have e1 : (((l.length : Int) - 1 - i).toNat) = l.length - 1 - i := by omega
      have hT : Turned l ((c.set i (c.getD (l.length - 1 - i) 0)).set (l.length - 1 - i) (c.getD i 0)) (i + 1) := by
        refine ⟨by simp [h1], fun k hk => ?_⟩
        have hki := h2 i (by omega)
        have hkj := h2 (l.length - 1 - i) (by omega)
        have hkk := h2 k hk
        rw [if_neg (by omega)] at hki
        rw [if_neg (by omega)] at hkj
        rw [getD_set _ _ _ _ (by simp; omega), getD_set _ _ _ _ (by omega), hki, hkj]
        by_cases k1 : k = l.length - 1 - i
        · subst k1
          rw [if_pos rfl, if_pos (by omega)]
          congr 1
          omega
        · rw [if_neg k1]
          by_cases k2 : k = i
          · subst k2
            rw [if_pos rfl, if_pos (by omega)]
          · rw [if_neg k2, hkk]
            by_cases k3 : k < i ∨ l.length - i ≤ k
            · rw [if_pos k3, if_pos (by omega)]
            · rw [if_neg k3, if_neg (by omega)]
      have := ih (i + 1) _ (by omega) hT (by omega)
      refine this.step fun k => ?_
      simp only [t_slices_Reverse_byte_byte_io, f_slices_Reverse_byte_byte_io_p1, fitsS_dec, Option.bind_some, Option.isNone_none, Option.isNone_some, Option.isSome_none, Option.isSome_some, Bool.not_true, Bool.not_false, cond_true, cond_false, cond_dec, beq_int, bne_int, not_dec, and_dec, gd_u8, e1, Int.toNat_natCast, List.length_set]
      rw [if_pos (by omega), if_pos (by omega), if_pos (by omega), if_pos (by omega), if_pos (by omega), iadd_i64 (by omega), isub_i64 (by omega)]
      rw [show (l.length : Int) - 1 - ((i + 1 : Nat) : Int) = (l.length : Int) - 1 - i - 1 by omega]
      rfl
theorem rev_row (l : List Int) (hl : l.length ≤ 1000000) : g_slices_Reverse_byte_byte_io ((l, ()), ((), ())) = some ((l.reverse, ()), ((), ())) := by
  have := reverse_p1 l hl l.length 0 l (by omega) ⟨rfl, fun k hk => by rw [if_neg (by omega)]⟩ (by omega)
  refine (this.cast fun k => ?_).lim
  simp only [f_slices_Reverse_byte_byte_io_m]
  rw [isub_i64 (by omega)]
  simp only [Int.natCast_zero, Int.sub_zero]
/-! ### figures -/
/-- A number's figures, the lowest first. -/
def figs (n : Nat) : List Int := if h : n = 0 then [] else (48 + (n % 10 : Nat) : Int) :: figs (n / 10)
termination_by n
decreasing_by omega
theorem figs_zero : figs 0 = [] := by rw [figs]; rfl
theorem figs_pos {n : Nat} (h : n ≠ 0) : figs n = (48 + (n % 10 : Nat) : Int) :: figs (n / 10) := by rw [figs, dif_neg h]
theorem figs_len : ∀ (k n : Nat), n < 10 ^ k → (figs n).length ≤ k
  | 0, n, h => by
    have : n = 0 := by simpa using h
    subst this; rw [figs_zero]; exact Nat.le_refl _
  | k + 1, n, h => by
    by_cases c : n = 0
    · subst c; rw [figs_zero]; exact Nat.zero_le _
    · rw [figs_pos c, List.length_cons]
      have := figs_len k (n / 10) (by rw [Nat.pow_succ] at h; omega)
      omega
theorem figs_ok (n : Nat) : ∀ x ∈ figs n, 48 ≤ x ∧ x ≤ 57 := by
  induction n using Nat.strongRecOn with
  | _ n ih =>
    intro x hx
    by_cases c : n = 0
    · subst c; rw [figs_zero] at hx; cases hx
    · rw [figs_pos c] at hx
      rcases List.mem_cons.1 hx with rfl | hx
      · omega
      · exact ih (n / 10) (by omega) x hx
/-- All its figures, at least so many. -/
def padd (n w : Nat) : List Int := List.replicate (max w 1 - (figs n).length) 48 ++ (figs n).reverse
theorem u64_in {x : Int} (h : 0 ≤ x ∧ x ≤ 18446744073709551615) : IntKind.u64.wrap x = x := IntWalk.u64_in x h
theorem u8_in {x : Int} (h : 0 ≤ x ∧ x ≤ 255) : IntKind.u8.wrap x = x := by rw [wrap_u8]; omega
theorem fig_byte (n : Nat) : iadd .u8 48 (iconv .u8 (Int.tmod (n : Int) 10)) = 48 + ((n % 10 : Nat) : Int) := by
  rw [tmod_nn (by omega)]
  unfold iadd iconv
  rw [u8_in (x := (n : Int) % 10) (by omega), u8_in (by omega)]; omega
theorem iquo_u64 {a c : Int} (hc : 0 < c) (h : 0 ≤ a ∧ a ≤ 18446744073709551615) : iquo .u64 a c = a / c := by
  unfold iquo
  rw [Int.tdiv_eq_ediv_of_nonneg h.1]
  exact u64_in ⟨Int.ediv_nonneg h.1 (by omega), Int.le_trans (Int.ediv_le_self _ h.1) h.2⟩
/-- All in, what is left: the rounds. -/
theorem raw_p3 (w : Int) (hw : w ≤ 100) : ∀ (k : Nat) (n : Nat) (out : List Int), n < 18446744073709551616 → (figs n).length + (max w 1 - out.length - (figs n).length).toNat ≤ k → out.length + k ≤ 1000 →
    Evn (fun j => (f_figures_raw_t j).1 ((out, ()), (((n : Int), ()), ((w, ()), ((), ()))))) ((), ((strOf (List.replicate (max w 1 - out.length - (figs n).length).toNat 48 ++ (out ++ figs n).reverse), ()), ())) := by
  intro k; induction k with
  | zero =>
    intro n out hn hk hl
    have hf : (figs n).length = 0 := by omega
    have hn0 : n = 0 := by
      by_cases c : n = 0
      · exact c
      · rw [figs_pos c] at hf; simp at hf
    subst hn0
    rw [figs_zero, List.append_nil, show (max w 1 - out.length - ([] : List Int).length).toNat = 0 by rw [figs_zero] at hk; omega]
    refine Evn.some 1 fun j => ?_
    simp only [t_figures_raw, f_figures_raw_p3, rev_row out (by omega), fitsS_dec, Option.bind_some, Option.isNone_none, Option.isNone_some, Option.isSome_none, Option.isSome_some, Bool.not_true, Bool.not_false, cond_true, cond_false, cond_dec, beq_int, bne_int, not_dec, gt_iff_lt]
    rw [if_neg (by omega), if_neg (by rw [figs_zero] at hk; simp only [List.length_nil] at hk; split <;> omega)]
    simp
  | succ k ih =>
    intro n out hn hk hl
    have hlen : (out ++ [48 + ((n % 10 : Nat) : Int)]).length = out.length + 1 := by simp
    by_cases c : n = 0
    · subst c
      rw [figs_zero] at hk ⊢
      simp only [List.length_nil] at hk ⊢
      by_cases c2 : (out.length : Int) < max w 1
      · have := ih 0 (out ++ [48]) (by omega) (by rw [figs_zero]; simp; omega) (by simp; omega)
        rw [figs_zero, List.append_nil] at this
        rw [List.append_nil]
        have e : List.replicate (max w 1 - out.length - 0).toNat (48 : Int) ++ out.reverse = List.replicate (max w 1 - (out ++ [48]).length - ([] : List Int).length).toNat 48 ++ (out ++ [48]).reverse := by
          rw [show (max w 1 - (out.length : Int) - 0).toNat = (max w 1 - ((out ++ [(48 : Int)]).length : Int) - (([] : List Int).length : Int)).toNat + 1 by simp; omega]
          rw [List.replicate_succ', List.append_assoc, List.reverse_append]
          rfl
        have e' : ((0 : Int)) = (([] : List Int).length : Int) := rfl
        rw [show (max w 1 - (out.length : Int) - ((0 : Nat) : Int)) = (max w 1 - (out.length : Int) - 0) from rfl, e]
        refine this.step fun j => ?_
        simp only [t_figures_raw, f_figures_raw_p3, fitsS_dec, Option.bind_some, Option.isNone_none, Option.isNone_some, Option.isSome_none, Option.isSome_some, Bool.not_true, Bool.not_false, cond_true, cond_false, cond_dec, beq_int, bne_int, not_dec, gt_iff_lt, and_dec, List.length_cons, List.length_nil]
        rw [if_neg (by omega), if_pos (by split <;> omega), if_pos (by omega)]
        rfl
      · have e : (max w 1 - (out.length : Int) - ((0 : Nat) : Int)).toNat = 0 := by omega
        rw [e, List.append_nil]
        refine Evn.some 1 fun j => ?_
        simp only [t_figures_raw, f_figures_raw_p3, rev_row out (by omega), fitsS_dec, Option.bind_some, Option.isNone_none, Option.isNone_some, Option.isSome_none, Option.isSome_some, Bool.not_true, Bool.not_false, cond_true, cond_false, cond_dec, beq_int, bne_int, not_dec, gt_iff_lt]
        rw [if_neg (by omega), if_neg (by split <;> omega)]
        simp
    · have hfl : (figs n).length = (figs (n / 10)).length + 1 := by rw [figs_pos c]; rfl
      have := ih (n / 10) (out ++ [48 + ((n % 10 : Nat) : Int)]) (by omega) (by rw [hlen]; omega) (by rw [hlen]; omega)
      rw [hlen, show (max w 1 - ((out.length + 1 : Nat) : Int) - ((figs (n / 10)).length : Int)).toNat = (max w 1 - (out.length : Int) - ((figs n).length : Int)).toNat by omega,
        show (out ++ [48 + ((n % 10 : Nat) : Int)]) ++ figs (n / 10) = out ++ figs n by rw [figs_pos c]; simp] at this
      refine this.step fun j => ?_
      simp only [t_figures_raw, f_figures_raw_p3, fitsS_dec, Option.bind_some, Option.isNone_none, Option.isNone_some, Option.isSome_none, Option.isSome_some, Bool.not_true, Bool.not_false, cond_true, cond_false, cond_dec, beq_int, bne_int, not_dec, gt_iff_lt, and_dec, fig_byte, List.length_cons, List.length_nil]
      rw [if_pos (by omega), if_pos (by omega), iquo_u64 (by omega) (by omega)]
      rfl
theorem fig_raw (n : Nat) (w : Int) (hn : n < 18446744073709551616) (hw : w ≤ 100) : g_figures_raw ((), (((n : Int), ()), ((w, ()), ()))) = some ((), ((strOf (padd n w.toNat), ()), ())) := by
  have hl := figs_len 20 n (by omega)
  have := raw_p3 w hw 200 n [] hn (by simp only [List.length_nil]; omega) (by simp)
  rw [List.nil_append] at this
  have e : List.replicate (max w 1 - (([] : List Int).length : Int) - ((figs n).length : Int)).toNat (48 : Int) ++ (figs n).reverse = padd n w.toNat := by
    unfold padd
    congr 2
    simp only [List.length_nil]; omega
  rw [e] at this
  refine (this.cast fun j => ?_).lim
  simp only [f_figures_raw_m]
end Go.Proofs.YtddnfappkfiidaaGreat.Ev
namespace Go.Proofs.YtddnfappkfiidaaGreat.Ev
open Go
set_option linter.unusedVariables false
set_option linter.unusedSimpArgs false
def isI64 (a : Int) : Prop := -9223372036854775808 ≤ a ∧ a ≤ 9223372036854775807
theorem str_cons (x : Int) (l : List Int) : strOf [x] ++ strOf l = strOf (x :: l) := by rw [str_app]; rfl
theorem str_45 : (⟨#[45]⟩ : ByteArray) = strOf [45] := by kernel_rfl
theorem str_nil : (⟨#[]⟩ : ByteArray) = strOf [] := by kernel_rfl
theorem padd_len (n : Nat) (w : Nat) (hn : n < 18446744073709551616) (hw : w ≤ 20) : (padd n w).length ≤ 20 := by
  have hl := figs_len 20 n (by omega)
  unfold padd
  simp only [List.length_append, List.length_replicate, List.length_reverse]
  omega
/-- A number's text: a sign, and at least so many figures. -/
def putL (v w : Int) : List Int := if v < 0 then 45 :: padd v.natAbs w.toNat else padd v.natAbs w.toNat
def putE (w : Int) : Int := if w < 0 ∨ 20 < w then 1 else 0
theorem fig_put (v w : Int) (hv : isI64 v) : g_figures_Put ((), ((v, ()), ((w, ()), ()))) = some ((), ((if putE w = 0 then strOf (putL v w) else strOf [], ()), ((errOf (putE w), ()), ()))) := by
  unfold isI64 at hv
  simp only [g_figures_Put, f_figures_Put_m, fitsS_dec, Option.bind_some, Option.isNone_none, Option.isNone_some, Option.isSome_none, Option.isSome_some, Bool.not_true, Bool.not_false, cond_true, cond_false, cond_dec, beq_int, bne_int, not_dec, gt_iff_lt, str_nil]
  unfold putE putL
  by_cases c : w < 0 ∨ 20 < w
  · simp only [c, if_true, show ((1 : Int) = 0) = False by simp, if_false]
    by_cases c1 : w < 0
    · rw [if_pos c1]; rfl
    · rw [if_neg c1, if_pos (by omega)]; rfl
  · simp only [c, if_false, if_true]
    rw [if_neg (by omega), if_neg (by omega)]
    by_cases c2 : v < 0
    · have e : ineg .u64 (iconv .u64 v) = (v.natAbs : Int) := by
        unfold ineg; rw [iconv_u64, wrap_u64]; omega
      have hl := padd_len v.natAbs w.toNat (by omega) (by omega)
      rw [if_pos c2, if_pos c2, e, fig_raw _ _ (by omega) (by omega)]
      simp only [fitsS_dec, Option.bind_some, Option.isNone_none, Option.isNone_some, Option.isSome_none, Option.isSome_some, Bool.not_true, Bool.not_false, cond_true, cond_false, cond_dec, beq_int, bne_int, not_dec, str_45, str_size, str_cons, List.length_cons, List.length_nil]
      rw [if_pos (by omega)]; rfl
    · rw [if_neg c2, if_neg c2, iconv_u64, show v % 18446744073709551616 = ((v.natAbs : Nat) : Int) by omega, fig_raw _ _ (by omega) (by omega)]
      rfl
end Go.Proofs.YtddnfappkfiidaaGreat.Ev
namespace Go.Proofs.YtddnfappkfiidaaGreat.Ev
open Go
set_option linter.unusedVariables false
set_option linter.unusedSimpArgs false
end Go.Proofs.YtddnfappkfiidaaGreat.Ev
namespace Go.Proofs.YtddnfappkfiidaaGreat.Ev
open Go
set_option linter.unusedVariables false
set_option linter.unusedSimpArgs false
theorem take_val {s : ByteArray} {least most limit : Int} (h : takeE s least most limit = 0) : cutV s (takeK s most) ≤ limit ∧ takeK s most ≤ 20 ∧ takeK s most ≤ lead (bytesOf s) ∧ least ≤ takeK s most ∧ 1 ≤ least := by
  unfold takeE at h
  split at h
  · cases h
  · split at h
    · cases h
    · split at h
      · rename_i h1 h2 h3
        unfold takeK
        exact ⟨h3, by omega, by omega, by omega, by omega⟩
      · cases h
theorem cutV_nn {s : ByteArray} {k : Nat} (h : k ≤ lead (bytesOf s)) : 0 ≤ cutV s k := (val10_range _ _ rfl (cut_figs h)).1
/-- What whole gives: the error's number. -/
def wholeE (s : ByteArray) (least most limit : Int) : Int := if takeE s least most limit = 0 then if takeK s most < s.size then 2 else 0 else takeE s least most limit
theorem whole_take {s : ByteArray} {least most limit : Int} (h : wholeE s least most limit = 0) : takeE s least most limit = 0 ∧ s.size ≤ takeK s most := by
  unfold wholeE at h
  split at h
  · split at h
    · cases h
    · exact ⟨by assumption, by omega⟩
  · contradiction
theorem fig_whole (s : ByteArray) (hs : s.size ≤ 1000000) (least most limit : Int) (hlm : 9 ≤ limit ∧ limit ≤ 10000000000000000000) : g_figures_whole ((), ((s, ()), ((least, ()), ((most, ()), ((limit, ()), ()))))) =
    some ((), ((if wholeE s least most limit = 0 then cutV s (takeK s most) else 0, ()), ((errOf (wholeE s least most limit), ()), ()))) := by
  simp only [g_figures_whole, f_figures_whole_m, fig_take s hs least most limit hlm, fitsS_dec, Option.bind_some, Option.isNone_none, Option.isNone_some, Option.isSome_none, Option.isSome_some, Bool.not_true, Bool.not_false, cond_true, cond_false, cond_dec, beq_int, bne_int, not_dec, errOf_none]
  unfold wholeE
  by_cases h : takeE s least most limit = 0
  · simp only [h, if_true, not_true_eq_false, if_false]
    by_cases c : takeK s most < s.size
    · rw [if_pos (by omega), if_pos c]; rfl
    · rw [if_neg (by omega), if_neg c]; rfl
  · simp only [h, if_false, not_false_eq_true, if_true]
theorem figs_Whole (s : ByteArray) (hs : s.size ≤ 1000000) (least most : Int) : g_figures_Whole ((), ((s, ()), ((least, ()), ((most, ()), ())))) =
    some ((), ((if wholeE s least most (9223372036854775807 : Int) = 0 then cutV s (takeK s most) else 0, ()), ((errOf (wholeE s least most (9223372036854775807 : Int)), ()), ()))) := by
  simp only [g_figures_Whole, f_figures_Whole_m, fig_whole s hs least most (9223372036854775807 : Int) (by omega), Option.bind_some]
  by_cases h : wholeE s least most (9223372036854775807 : Int) = 0
  · have := take_val (whole_take h).1
    have := cutV_nn this.2.2.1
    rw [if_pos h, iconv_i64 (by omega)]
  · rw [if_neg h, iconv_i64 (by omega)]
/-! ### one of them works -/
end Go.Proofs.YtddnfappkfiidaaGreat.Ev
namespace Go.Proofs.YtddnfappkfiidaaGreat.Ev
open Go
set_option linter.unusedVariables false
set_option linter.unusedSimpArgs false
/-- A text that begins with this byte. -/
def begins (s : ByteArray) (c : Int) : Prop := 0 < s.size ∧ (bytesOf s).getD 0 0 = c
instance (s : ByteArray) (c : Int) : Decidable (begins s c) := by unfold begins; infer_instance
/-- The text without its sign. -/
def unsg (s : ByteArray) : ByteArray := if begins s 45 ∨ begins s 43 then s.extract 1 s.size else s
def sgLim (s : ByteArray) : Int := if begins s 45 then 9223372036854775808 else (9223372036854775807 : Int)
def sgE (s : ByteArray) (most : Int) : Int := wholeE (unsg s) 1 most (sgLim s)
def sgV (s : ByteArray) (most : Int) : Int := if begins s 45 then -cutV (unsg s) (takeK (unsg s) most) else cutV (unsg s) (takeK (unsg s) most)
end Go.Proofs.YtddnfappkfiidaaGreat.Ev
namespace Go.Proofs.YtddnfappkfiidaaGreat.Ev
open Go
set_option linter.unusedVariables false
set_option linter.unusedSimpArgs false
theorem isF48 : isF 48 := by unfold isF; omega
theorem lead_all : ∀ {l : List Int}, (∀ x ∈ l, isF x) → lead l = l.length
  | [], _ => rfl
  | x :: l, h => by
    unfold lead
    rw [if_pos (h x (by simp)), lead_all (l := l) (fun y hy => h y (by simp [hy]))]; rfl
theorem lead_figs {l : List Int} (h : lead l = l.length) : ∀ x ∈ l, isF x := by
  intro x hx
  obtain ⟨i, hi, rfl⟩ := List.getElem_of_mem hx
  have := lead_at (l := l) (i := i) (by omega)
  rwa [List.getD_eq_getElem?_getD, List.getElem?_eq_getElem hi] at this
theorem figs_okBy {l : List Int} (h : ∀ x ∈ l, isF x) : okBy l := fun x hx => by
  have := h x hx
  unfold isF at this; omega
def rtl (l : List Int) : Nat → Nat
  | 0 => 0
  | k + 1 => if l.getD k 0 = 48 then rtl l k else k + 1
def inNano (n : Int) : Prop := 0 ≤ n ∧ n ≤ 999999999
instance (n : Int) : Decidable (inNano n) := by unfold inNano; infer_instance
/-- The figures of a fraction, all nine. -/
def nine (n : Int) : List Int := padd n.toNat 9
def allF (s : ByteArray) : Prop := 0 < s.size ∧ lead (bytesOf s) = s.size
instance (s : ByteArray) : Decidable (allF s) := by unfold allF; infer_instance
/-- The error's number. -/
def fracE (s : ByteArray) : Int := if 9 < s.size then 3 else if allF s then 0 else 2
def fracV (s : ByteArray) : Int := val10 (bytesOf s) * 10 ^ (9 - s.size)
theorem whole9 (s : ByteArray) (hs : s.size ≤ 9) : wholeE s 1 9 (9223372036854775807 : Int) = if allF s then 0 else 2 := by
  have hl := lead_le (bytesOf s)
  rw [by_len] at hl
  have hK : min (lead (bytesOf s)) (9 : Int).toNat = lead (bytesOf s) := by show min _ 9 = _; omega
  unfold wholeE takeE takeK
  rw [hK, if_neg (by omega : ¬ ((1 : Int) < 1 ∨ (9 : Int) < 1 ∨ (20 : Int) < 9))]
  have hr := fig10 ((bytesOf s).take (lead (bytesOf s))) (by rw [List.length_take]; omega) (cut_figs (Nat.le_refl _))
  have hr2 := (val10_range _ _ rfl (cut_figs (s := s) (Nat.le_refl _))).2
  have hp : (10 : Int) ^ ((bytesOf s).take (lead (bytesOf s))).length ≤ 10 ^ 9 := by
    have : 10 ^ ((bytesOf s).take (lead (bytesOf s))).length ≤ 10 ^ 9 := Nat.pow_le_pow_right (by omega) (by rw [List.length_take]; omega)
    exact_mod_cast this
  unfold cutV
  by_cases c : lead (bytesOf s) = 0
  · rw [if_pos (show ((lead (bytesOf s) : Nat) : Int) < 1 by omega), if_neg (by decide), if_neg (fun a : allF s => by unfold allF at a; omega)]
  · rw [if_neg (show ¬ ((lead (bytesOf s) : Nat) : Int) < 1 by omega), if_pos (by omega)]
    by_cases c2 : lead (bytesOf s) < s.size
    · rw [if_pos c2, if_neg (fun a : allF s => by unfold allF at a; omega)]
    · rw [if_neg c2, if_pos (show allF s from ⟨by omega, by omega⟩)]
theorem pow10_9 {i : Nat} (h : i ≤ 9) : ∀ v : Int, 0 ≤ v → v < 10 ^ i → 0 ≤ v * 10 ^ (9 - i) ∧ v * 10 ^ (9 - i) < 1000000000 := by
  intro v h0 h1
  have : i = 0 ∨ i = 1 ∨ i = 2 ∨ i = 3 ∨ i = 4 ∨ i = 5 ∨ i = 6 ∨ i = 7 ∨ i = 8 ∨ i = 9 := by omega
  rcases this with rfl | rfl | rfl | rfl | rfl | rfl | rfl | rfl | rfl | rfl <;> (simp only [Int.reducePow, Nat.reduceSub] at h1 ⊢; omega)
theorem frac_range {s : ByteArray} (hs : s.size ≤ 9) (h : allF s) : 0 ≤ fracV s ∧ fracV s < 1000000000 := by
  have := val10_range _ (bytesOf s) rfl (lead_figs (by rw [by_len]; exact h.2))
  rw [by_len] at this
  exact pow10_9 hs _ this.1 this.2
theorem val10_noughts (l : List Int) : ∀ k : Nat, val10 (l ++ List.replicate k 48) = val10 l * 10 ^ k
  | 0 => by simp
  | k + 1 => by
    rw [List.replicate_succ', ← List.append_assoc, val10_snoc, val10_noughts l k, Int.pow_succ, ← Int.mul_assoc]; omega
theorem rep_list : ∀ k : Nat, Lib.repeatL [(48 : UInt8)] k = List.replicate k 48
  | 0 => rfl
  | k + 1 => by
    have := rep_list k
    simp only [Lib.repeatL] at this ⊢
    rw [this, List.replicate_succ]; rfl
theorem repeat48 (k : Nat) (hk : k ≤ 1000) : g_strings_Repeat ((), ((⟨#[48]⟩, ()), (((k : Int), ()), ()))) = some ((), ((strOf (List.replicate k 48), ()), ())) := by
  show lib_repeat _ = _
  unfold lib_repeat
  simp only [show (⟨#[48]⟩ : ByteArray).size = 1 from rfl, Int.toNat_natCast]
  rw [if_pos (by omega), rep_list]
  congr 3
  unfold strOf
  simp only [List.map_replicate]; rfl
theorem fig_fraction (s : ByteArray) (hs : s.size ≤ 1000000) : g_figures_Fraction ((), ((s, ()), ())) = some ((), ((if fracE s = 0 then fracV s else 0, ()), ((errOf (fracE s), ()), ()))) := by
  simp only [g_figures_Fraction, f_figures_Fraction_m, fitsS_dec, Option.bind_some, Option.isNone_none, Option.isNone_some, Option.isSome_none, Option.isSome_some, Bool.not_true, Bool.not_false, cond_true, cond_false, cond_dec, beq_int, bne_int, not_dec, gt_iff_lt]
  unfold fracE
  by_cases c : 9 < s.size
  · rw [if_pos (by omega)]
    simp only [c, if_true, show ((3 : Int) = 0) = False by simp, if_false]; rfl
  · rw [if_neg (by omega), figs_Whole s hs 1 9, whole9 s (by omega)]
    simp only [c, if_false, Option.bind_some, errOf_none, not_dec, cond_dec]
    by_cases a : allF s
    · simp only [a, if_true, not_true_eq_false, if_false]
      have e1 : isub .i64 9 (s.size : Int) = ((9 - s.size : Nat) : Int) := by rw [isub_i64 (by omega)]; omega
      have hb : bytesOf (s ++ strOf (List.replicate (9 - s.size) 48)) = bytesOf s ++ List.replicate (9 - s.size) 48 := by
        rw [by_app, by_str (fun x hx => by rw [(List.mem_replicate.1 hx).2]; omega)]
      have hf : ∀ x ∈ bytesOf s, isF x := lead_figs (by rw [by_len]; exact a.2)
      have hsz : (s ++ strOf (List.replicate (9 - s.size) 48)).size = 9 := by
        rw [← by_len, hb, List.length_append, List.length_replicate, by_len]; omega
      have hld : lead (bytesOf (s ++ strOf (List.replicate (9 - s.size) 48))) = 9 := by
        rw [hb, lead_all (fun x hx => by
          rcases List.mem_append.1 hx with q | q
          · exact hf x q
          · rw [(List.mem_replicate.1 q).2]; exact isF48), List.length_append, List.length_replicate, by_len]; omega
      have hV : cutV (s ++ strOf (List.replicate (9 - s.size) 48)) 9 = fracV s := by
        unfold cutV
        rw [List.take_of_length_le (by rw [by_len, hsz]; exact Nat.le_refl _), hb, val10_noughts]; rfl
      have hr := frac_range (s := s) (by omega) a
      have hK : takeK (s ++ strOf (List.replicate (9 - s.size) 48)) 9 = 9 := by unfold takeK; rw [hld]; rfl
      have hE : wholeE (s ++ strOf (List.replicate (9 - s.size) 48)) 9 9 (9223372036854775807 : Int) = 0 := by
        unfold wholeE takeE
        rw [hK, hsz, hld, if_neg (by omega : ¬ ((9 : Int) < 1 ∨ (9 : Int) < 9 ∨ (20 : Int) < 9)), show min 9 (9 : Int).toNat = 9 from rfl, hV]
        rw [if_neg (show ¬ ((9 : Nat) : Int) < 9 by omega), if_pos (show fracV s ≤ (9223372036854775807 : Int) by omega), if_pos rfl, if_neg (by omega)]
      rw [e1, repeat48 _ (by omega)]
      simp only [Option.bind_some, str_size, List.length_replicate]
      rw [if_pos (by omega), figs_Whole _ (by omega) 9 9, hE, hK, hV]; rfl
    · simp only [a, if_false, show ((2 : Int) = 0) = False by simp, not_false_eq_true, if_true]
end Go.Proofs.YtddnfappkfiidaaGreat.Ev
namespace Go.Proofs.YtddnfappkfiidaaGreat.Ev
open Go
set_option linter.unusedVariables false
set_option linter.unusedSimpArgs false
def isLeap (y : Int) : Prop := y % 4 = 0 ∧ (y % 100 ≠ 0 ∨ y % 400 = 0)
instance (y : Int) : Decidable (isLeap y) := by unfold isLeap; infer_instance
def mlen (y m : Int) : Int := if m = 2 then (if isLeap y then 29 else 28) else if m = 4 ∨ m = 6 ∨ m = 9 ∨ m = 11 then 30 else 31
def ylen (y : Int) : Int := if isLeap y then 366 else 365
/-- A date's number. -/
def dnum (y m d : Int) : Int :=
  if m ≤ 2 then 365 * (y - 1) + (y - 1) / 4 - (y - 1) / 100 + (y - 1) / 400 + (153 * (m + 9) + 2) / 5 + d - 1 - 719468
  else 365 * y + y / 4 - y / 100 + y / 400 + (153 * (m - 3) + 2) / 5 + d - 1 - 719468
def mErr (y m : Int) : Int := if y < -9999 ∨ 9999 < y then 13 else if m < 1 ∨ 12 < m then 1 else 0
def dErr (y m d : Int) : Int := if y < -9999 ∨ 9999 < y then 13 else if m < 1 ∨ 12 < m then 1 else if d < 1 ∨ mlen y m < d then 1 else 0
theorem mlen_range (y m : Int) : 28 ≤ mlen y m ∧ mlen y m ≤ 31 := by
  unfold mlen; split <;> (split <;> omega)
theorem tmod_zero_iff {a c : Int} : Int.tmod a c = 0 ↔ a % c = 0 :=
  ⟨fun h => Int.emod_eq_zero_of_dvd (Int.dvd_of_tmod_eq_zero h), fun h => Int.tmod_eq_zero_of_dvd (Int.dvd_of_emod_eq_zero h)⟩
theorem day_leap (y : Int) : g_day_Leap ((), ((y, ()), ())) = some ((), ((decide (isLeap y), ()), ())) := by
  simp only [g_day_Leap, f_day_Leap_m, fitsS_dec, Option.bind_some, Option.isNone_none, Option.isNone_some, Option.isSome_none, Option.isSome_some, Bool.not_true, Bool.not_false, cond_true, cond_false, cond_dec, beq_int, bne_int, not_dec, ne_eq, tmod_zero_iff, isLeap]
  by_cases h1 : y % 4 = 0 <;> by_cases h2 : y % 100 = 0 <;> simp [h1, h2]
theorem day_right (y : Int) : g_day_right ((), ((y, ()), ())) = some ((), ((decide (-9999 ≤ y ∧ y ≤ 9999), ()), ())) := by
  simp only [g_day_right, f_day_right_m, fitsS_dec, Option.bind_some, Option.isNone_none, Option.isNone_some, Option.isSome_none, Option.isSome_some, Bool.not_true, Bool.not_false, cond_true, cond_false, cond_dec, beq_int, bne_int, not_dec, ge_iff_le]
  by_cases h1 : -9999 ≤ y <;> simp [h1]
theorem day_month (y m : Int) : g_day_Month ((), ((y, ()), ((m, ()), ()))) = some ((), ((if mErr y m = 0 then mlen y m else 0, ()), ((errOf (mErr y m), ()), ()))) := by
  simp only [g_day_Month, f_day_Month_m, day_right, day_leap, fitsS_dec, Option.bind_some, Option.isNone_none, Option.isNone_some, Option.isSome_none, Option.isSome_some, Bool.not_true, Bool.not_false, cond_true, cond_false, cond_dec, beq_int, bne_int, not_dec, gt_iff_lt]
  by_cases h1 : -9999 ≤ y ∧ y ≤ 9999
  · rw [if_neg (by omega)]
    by_cases h2 : m < 1
    · have e : mErr y m = 1 := by unfold mErr; rw [if_neg (by omega), if_pos (by omega)]
      rw [if_pos h2, e]; rfl
    rw [if_neg h2]
    by_cases h3 : 12 < m
    · have e : mErr y m = 1 := by unfold mErr; rw [if_neg (by omega), if_pos (by omega)]
      rw [if_pos h3, e]; rfl
    rw [if_neg h3]
    have e : mErr y m = 0 := by unfold mErr; rw [if_neg (by omega), if_neg (by omega)]
    rw [e, if_pos rfl, errOf_zero]
    by_cases h4 : m = 2
    · subst h4
      simp only [if_true, mlen]
      by_cases h5 : isLeap y
      · simp [h5]
      · simp [h5]
    · rw [if_neg h4, if_neg h4]
      simp (disch := omega) only [iquo_nn, iadd_i64, tmod_nn]
      have : 30 + (m + m / 8) % 2 = mlen y m := by
        have : m = 1 ∨ m = 3 ∨ m = 4 ∨ m = 5 ∨ m = 6 ∨ m = 7 ∨ m = 8 ∨ m = 9 ∨ m = 10 ∨ m = 11 ∨ m = 12 := by omega
        rcases this with rfl | rfl | rfl | rfl | rfl | rfl | rfl | rfl | rfl | rfl | rfl <;> rfl
      rw [this]
  · rw [if_pos (by omega)]
    have e : mErr y m = 13 := by unfold mErr; rw [if_pos (by omega)]
    rw [e]; rfl
theorem day_check (y m d : Int) : g_day_check ((), ((y, ()), ((m, ()), ((d, ()), ())))) = some ((), ((errOf (dErr y m d), ()), ())) := by
  simp only [g_day_check, f_day_check_m, day_month, fitsS_dec, Option.bind_some, Option.isNone_none, Option.isNone_some, Option.isSome_none, Option.isSome_some, Bool.not_true, Bool.not_false, cond_true, cond_false, cond_dec, beq_int, bne_int, not_dec, gt_iff_lt, errOf_none]
  by_cases h1 : mErr y m = 0
  · have h2 : ¬(y < -9999 ∨ 9999 < y) ∧ ¬(m < 1 ∨ 12 < m) := by
      unfold mErr at h1; constructor <;> intro h <;> simp [h] at h1
      split at h1 <;> omega
    rw [if_neg (by simp [h1]), if_pos h1]
    unfold dErr; rw [if_neg h2.1, if_neg h2.2]
    by_cases h3 : d < 1
    · rw [if_pos h3, if_pos (.inl h3)]; rfl
    · rw [if_neg h3]
      by_cases h4 : mlen y m < d
      · rw [if_pos h4, if_pos (.inr h4)]; rfl
      · rw [if_neg h4, if_neg (by omega)]; rfl
  · rw [if_pos h1]
    have : dErr y m d = mErr y m := by
      unfold dErr mErr; unfold mErr at h1
      split
      · rfl
      · rename_i h; rw [if_neg h] at h1
        split
        · rfl
        · rename_i h'; rw [if_neg h'] at h1; omega
    rw [this]
theorem day_floor (a c : Int) (hc : 0 < c) (h : -9223372036854775807 ≤ a ∧ a ≤ 9223372036854775807) : g_day_floor ((), ((a, ()), ((c, ()), ()))) = some ((), ((a / c, ()), ())) := by
  simp only [g_day_floor, f_day_floor_m, fitsS_dec, Option.bind_some, Option.isNone_none, Option.isNone_some, Option.isSome_none, Option.isSome_some, Bool.not_true, Bool.not_false, cond_true, cond_false, cond_dec, beq_int, bne_int, not_dec]
  rw [if_neg (by omega), if_neg (by omega), iquo_pos hc (by omega), tmod_pos c hc]
  have hm : 0 ≤ a % c := Int.emod_nonneg _ (by omega)
  have hn : 0 ≤ (-a) % c := Int.emod_nonneg _ (by omega)
  by_cases h0 : 0 ≤ a
  · rw [if_pos h0, if_pos h0, if_neg (by omega)]
  · rw [if_neg h0, if_neg h0]
    have e1 := Int.mul_ediv_add_emod a c
    have e2 := Int.mul_ediv_add_emod (-a) c
    have l1 := Int.emod_lt_of_pos a hc
    have l2 := Int.emod_lt_of_pos (-a) hc
    have q0 : 0 ≤ (-a) / c := Int.ediv_nonneg (by omega) (by omega)
    have q1 : (-a) / c ≤ -a := Int.ediv_le_self _ (by omega)
    by_cases h1 : -(-a % c) < 0
    · rw [if_pos h1, isub_i64 (by omega)]
      have : a / c = -(-a / c) - 1 := ((Int.ediv_emod_unique (r := c - -a % c) hc).2 ⟨by rw [Int.mul_sub, Int.mul_neg]; omega, by omega, by omega⟩).1
      rw [this]
    · rw [if_neg h1]
      have : a / c = -(-a / c) := ((Int.ediv_emod_unique (r := 0) hc).2 ⟨by rw [Int.mul_neg]; omega, by omega, by omega⟩).1
      rw [this]
theorem day_number (y m d : Int) (hy : -20000 ≤ y ∧ y ≤ 20000) (hm : 1 ≤ m ∧ m ≤ 12) (hd : 1 ≤ d ∧ d ≤ 31) : g_day_number ((), ((y, ()), ((m, ()), ((d, ()), ())))) = some ((), ((dnum y m d, ()), ())) := by
  simp only [g_day_number, f_day_number_m, fitsS_dec, Option.bind_some, Option.isNone_none, Option.isNone_some, Option.isSome_none, Option.isSome_some, Bool.not_true, Bool.not_false, cond_true, cond_false, cond_dec, beq_int, bne_int, not_dec, dnum]
  by_cases h : m ≤ 2
  · rw [if_pos h, if_pos h]
    simp (disch := omega) only [day_floor, Option.bind_some, isub_i64, iadd_i64, imul_i64, iquo_nn]
    rw [show y - 1 - (y - 1) / 400 * 400 = (y - 1) % 400 by omega]
    congr 4
    omega
  · rw [if_neg h, if_neg h]
    simp (disch := omega) only [day_floor, Option.bind_some, isub_i64, iadd_i64, imul_i64, iquo_nn]
    rw [show y - y / 400 * 400 = y % 400 by omega]
    congr 4
    omega
theorem day_of (y m d : Int) : g_day_Of ((), ((y, ()), ((m, ()), ((d, ()), ())))) = some ((), ((if dErr y m d = 0 then dnum y m d else 0, ()), ((errOf (dErr y m d), ()), ()))) := by
  simp only [g_day_Of, f_day_Of_m, day_check, fitsS_dec, Option.bind_some, Option.isNone_none, Option.isNone_some, Option.isSome_none, Option.isSome_some, Bool.not_true, Bool.not_false, cond_true, cond_false, cond_dec, beq_int, bne_int, not_dec, errOf_none]
  by_cases h : dErr y m d = 0
  · rw [if_neg (by simp [h]), if_pos h, h]
    have : (-9999 ≤ y ∧ y ≤ 9999) ∧ (1 ≤ m ∧ m ≤ 12) ∧ (1 ≤ d ∧ d ≤ mlen y m) := by
      unfold dErr at h; split at h
      · omega
      · split at h
        · omega
        · split at h <;> omega
    have := mlen_range y m
    rw [day_number y m d (by omega) (by omega) (by omega)]; rfl
  · rw [if_pos h, if_neg h]
theorem dErr_zero {y m d : Int} : dErr y m d = 0 ↔ (-9999 ≤ y ∧ y ≤ 9999) ∧ (1 ≤ m ∧ m ≤ 12) ∧ (1 ≤ d ∧ d ≤ mlen y m) := by
  unfold dErr; constructor
  · intro h; split at h
    · omega
    · split at h
      · omega
      · split at h <;> omega
  · intro h; rw [if_neg (by omega), if_neg (by omega), if_neg (by omega)]
theorem day_first : g_day_First ((), ()) = some ((), ((-4371587, ()), ())) := by
  simp only [g_day_First, f_day_First_m, day_number (-9999) 1 1 (by omega) (by omega) (by omega)]; rfl
theorem day_last : g_day_Last ((), ()) = some ((), ((2932896, ()), ())) := by
  simp only [g_day_Last, f_day_Last_m, day_number 9999 12 31 (by omega) (by omega) (by omega)]; rfl
end Go.Proofs.YtddnfappkfiidaaGreat.Ev
namespace Go.Proofs.YtddnfappkfiidaaGreat.Ev
open Go
set_option linter.unusedVariables false
set_option linter.unusedSimpArgs false
theorem ylen_eq (y : Int) : dnum (y + 1) 1 1 = dnum y 1 1 + ylen y := by
  unfold ylen dnum
  simp only [show (1 : Int) ≤ 2 by decide, if_true]
  by_cases h : isLeap y
  · rw [if_pos h]; unfold isLeap at h; omega
  · rw [if_neg h]; unfold isLeap at h; omega
theorem mlen_eq (y m : Int) (h : 1 ≤ m ∧ m ≤ 11) : dnum y (m + 1) 1 = dnum y m 1 + mlen y m := by
  have : m = 1 ∨ m = 2 ∨ m = 3 ∨ m = 4 ∨ m = 5 ∨ m = 6 ∨ m = 7 ∨ m = 8 ∨ m = 9 ∨ m = 10 ∨ m = 11 := by omega
  rcases this with rfl | rfl | rfl | rfl | rfl | rfl | rfl | rfl | rfl | rfl | rfl <;> simp [dnum, mlen]
  all_goals first | omega | (by_cases h : isLeap y <;> simp only [h, if_true, if_false] <;> unfold isLeap at h <;> omega)
theorem dnum_day (y m d : Int) : dnum y m d = dnum y m 1 + d - 1 := by
  unfold dnum; split <;> omega
theorem dnum_range (y m d : Int) (hy : -30000 ≤ y ∧ y ≤ 30000) (hm : 1 ≤ m ∧ m ≤ 12) (hd : 1 ≤ d ∧ d ≤ 31) : -12000000 ≤ dnum y m d ∧ dnum y m d ≤ 12000000 := by
  unfold dnum; split <;> omega
/-- Which date a number has. -/
def IsDate (n y m d : Int) : Prop := (1 ≤ m ∧ m ≤ 12) ∧ (1 ≤ d ∧ d ≤ mlen y m) ∧ dnum y m d = n
theorem mstart (y m : Int) (hm : 1 ≤ m ∧ m ≤ 12) : dnum y 1 1 + 28 * (m - 1) ≤ dnum y m 1 ∧ dnum y m 1 + mlen y m ≤ dnum (y + 1) 1 1 := by
  rw [ylen_eq]
  have : m = 1 ∨ m = 2 ∨ m = 3 ∨ m = 4 ∨ m = 5 ∨ m = 6 ∨ m = 7 ∨ m = 8 ∨ m = 9 ∨ m = 10 ∨ m = 11 ∨ m = 12 := by omega
  rcases this with rfl | rfl | rfl | rfl | rfl | rfl | rfl | rfl | rfl | rfl | rfl | rfl <;> simp [dnum, mlen, ylen]
  all_goals (by_cases h : isLeap y <;> simp only [h, if_true, if_false] <;> unfold isLeap at h <;> omega)
end Go.Proofs.YtddnfappkfiidaaGreat.Ev
namespace Go.Proofs.YtddnfappkfiidaaGreat.Ev
open Go
set_option linter.unusedVariables false
set_option linter.unusedSimpArgs false
theorem ystart_mono {y y' : Int} (h : y < y') : dnum (y + 1) 1 1 ≤ dnum y' 1 1 := by
  unfold dnum; simp only [show (1 : Int) ≤ 2 by decide, if_true]; omega
theorem mstart_mono {y m : Int} : ∀ (n : Nat), 1 ≤ m → m + 1 + n ≤ 12 → dnum y m 1 + mlen y m ≤ dnum y (m + 1 + n) 1 := by
  intro n; induction n with
  | zero => intro h0 h1; rw [show m + 1 + ((0 : Nat) : Int) = m + 1 by omega, mlen_eq y m (by omega)]; omega
  | succ n ih =>
    intro h0 h1
    have := ih h0 (by omega)
    have e := mlen_eq y (m + 1 + n) (by omega)
    have := mlen_range y (m + 1 + n)
    rw [show m + 1 + ((n + 1 : Nat) : Int) = m + 1 + n + 1 by omega, e]; omega
theorem isDate_year {n y m d : Int} (h : IsDate n y m d) : dnum y 1 1 ≤ n ∧ n < dnum (y + 1) 1 1 := by
  obtain ⟨h1, h2, h3⟩ := h
  have := mstart y m h1
  rw [dnum_day] at h3; omega
theorem isDate_unique {n y m d y' m' d' : Int} (h : IsDate n y m d) (h' : IsDate n y' m' d') : y = y' ∧ m = m' ∧ d = d' := by
  have a := isDate_year h
  have a' := isDate_year h'
  have e : y = y' := by
    rcases Int.lt_trichotomy y y' with c | c | c
    · have := ystart_mono c; omega
    · exact c
    · have := ystart_mono c; omega
  subst e
  obtain ⟨h1, h2, h3⟩ := h
  obtain ⟨k1, k2, k3⟩ := h'
  rw [dnum_day] at h3 k3
  have e : m = m' := by
    rcases Int.lt_trichotomy m m' with c | c | c
    · have := mstart_mono (y := y) (m := m) (m' - m - 1).toNat (by omega) (by omega)
      rw [show m + 1 + ((m' - m - 1).toNat : Int) = m' by omega] at this; omega
    · exact c
    · have := mstart_mono (y := y) (m := m') (m - m' - 1).toNat (by omega) (by omega)
      rw [show m' + 1 + ((m - m' - 1).toNat : Int) = m by omega] at this; omega
  subst e
  exact ⟨rfl, rfl, by omega⟩
/-- The year of an era's day. -/
theorem of_year {f o : Int} (h : 0 ≤ f ∧ f ≤ 146096) (ho : o = (f - f / 1460 + f / 36524 - f / 146096) / 365) :
    0 ≤ o ∧ o ≤ 399 ∧ 0 ≤ f - (365 * o + o / 4 - o / 100) ∧ f - (365 * o + o / 4 - o / 100) ≤ 365 ∧
      (f - (365 * o + o / 4 - o / 100) = 365 → (o + 1) % 4 = 0 ∧ ((o + 1) % 100 ≠ 0 ∨ (o + 1) % 400 = 0)) := by
  by_cases h4 : f = 146096
  · subst h4; subst ho; decide
  obtain ⟨c, q, r, hf, hc, hq, hr, hl⟩ : ∃ c q r : Int, f = 36524 * c + 1461 * q + r ∧ (0 ≤ c ∧ c ≤ 3) ∧ (0 ≤ q ∧ q ≤ 24) ∧ (0 ≤ r ∧ r ≤ 1460) ∧ (q = 24 → r ≤ 1459) :=
    ⟨f / 36524, f % 36524 / 1461, f % 36524 % 1461, by omega, by omega, by omega, by omega, by omega⟩
  have e1 : f / 36524 = c := by omega
  have e2 : f / 146096 = 0 := by omega
  obtain ⟨e, he, hee⟩ : ∃ e : Int, f / 1460 = 25 * c + q + e ∧ ((e = 0 ∧ 24 * c + q + r < 1460) ∨ (e = 1 ∧ 1460 ≤ 24 * c + q + r)) := by
    by_cases hh : 24 * c + q + r < 1460
    · exact ⟨0, by omega, .inl ⟨rfl, hh⟩⟩
    · exact ⟨1, by omega, .inr ⟨rfl, by omega⟩⟩
  rw [e1, e2, he] at ho
  have ho' : o = (365 * (100 * c + 4 * q) + (r - e)) / 365 := by rw [ho]; congr 1; omega
  obtain ⟨s, hs, ht⟩ : ∃ s : Int, o = 100 * c + 4 * q + s ∧ (0 ≤ s ∧ s ≤ 3 ∧ 365 * s ≤ r ∧ r ≤ 365 * s + 365 ∧ (r = 365 * s + 365 → r = 1460 ∧ s = 3)) :=
    ⟨(r - e) / 365, by omega, by omega⟩
  have f1 : o / 4 = 25 * c + q := by omega
  have f2 : o / 100 = c := by omega
  rw [f1, f2]
  refine ⟨by omega, by omega, by omega, by omega, fun hh => ?_⟩
  have : r = 1460 ∧ s = 3 := ht.2.2.2.2 (by omega)
  omega
theorem date_of {y p r : Int} (hr : 0 ≤ r ∧ r ≤ 365) (hp : p = (5 * r + 2) / 153) (hl : r = 365 → isLeap (y + 1)) :
    IsDate (365 * y + y / 4 - y / 100 + y / 400 + r - 719468) (if p + 3 > 12 then y + 1 else y) (if p + 3 > 12 then p + 3 - 12 else p + 3) (r - (153 * p + 2) / 5 + 1) := by
  have hp' : p = 0 ∨ p = 1 ∨ p = 2 ∨ p = 3 ∨ p = 4 ∨ p = 5 ∨ p = 6 ∨ p = 7 ∨ p = 8 ∨ p = 9 ∨ p = 10 ∨ p = 11 := by omega
  rcases hp' with rfl | rfl | rfl | rfl | rfl | rfl | rfl | rfl | rfl | rfl | rfl | rfl <;> refine ⟨by simp, ?_, by simp [dnum]; omega⟩ <;> simp [mlen]
  all_goals first | omega | skip
  by_cases h : r = 365
  · rw [if_pos (hl h)]; omega
  · split <;> omega
theorem year_bound {n y m d : Int} (h : IsDate n y m d) (hn : -4371587 ≤ n ∧ n ≤ 2932896) : -9999 ≤ y ∧ y ≤ 9999 := by
  have := isDate_year h
  have e1 : dnum (-9999) 1 1 = -4371587 := rfl
  have e2 : dnum 10000 1 1 = 2932897 := rfl
  constructor
  · by_cases c : y < -9999
    · have := ystart_mono c; omega
    · omega
  · by_cases c : 9999 < y
    · have := ystart_mono (y := 9999) (y' := y) c
      rw [show (9999 : Int) + 1 = 10000 from rfl] at this; omega
    · omega
theorem year_era {o E : Int} (ho : 0 ≤ o ∧ o ≤ 399) : 365 * (o + E * 400) + (o + E * 400) / 4 - (o + E * 400) / 100 + (o + E * 400) / 400 = 146097 * E + (365 * o + o / 4 - o / 100) := by
  have e1 : (o + E * 400) / 4 = o / 4 + 100 * E := by omega
  have e2 : (o + E * 400) / 100 = o / 100 + 4 * E := by omega
  have e3 : (o + E * 400) / 400 = E := by omega
  rw [e1, e2, e3]; omega
theorem date_e2 {f : Int} (h : 0 ≤ f ∧ f ≤ 146096) : iquo .i64 (isub .i64 (iadd .i64 (isub .i64 f (iquo .i64 f 1460)) (iquo .i64 f 36524)) (iquo .i64 f 146096)) 365 = (f - f / 1460 + f / 36524 - f / 146096) / 365 := by
  have a : 0 ≤ f / 1460 ∧ f / 1460 ≤ f := by omega
  have b : 0 ≤ f / 36524 ∧ f / 36524 ≤ 4 := by omega
  have c : 0 ≤ f / 146096 ∧ f / 146096 ≤ 1 := by omega
  have d : 0 ≤ f - f / 1460 + f / 36524 - f / 146096 := by omega
  rw [iquo_nn (a := f) (by decide) (by omega), iquo_nn (a := f) (by decide) (by omega), iquo_nn (a := f) (by decide) (by omega)]
  generalize f / 1460 = x at *
  generalize f / 36524 = y at *
  generalize f / 146096 = z at *
  rw [isub_i64 (a := f) (by omega), iadd_i64 (by omega), isub_i64 (by omega), iquo_nn (by decide) (by omega)]
theorem date_e3 {f o : Int} (h : 0 ≤ f ∧ f ≤ 146096) (ho : 0 ≤ o ∧ o ≤ 399) : isub .i64 f (isub .i64 (iadd .i64 (imul .i64 365 o) (iquo .i64 o 4)) (iquo .i64 o 100)) = f - (365 * o + o / 4 - o / 100) := by
  have a : 0 ≤ o / 4 ∧ o / 4 ≤ 99 := by omega
  have b : 0 ≤ o / 100 ∧ o / 100 ≤ 3 := by omega
  rw [iquo_nn (a := o) (by decide) (by omega), iquo_nn (a := o) (by decide) (by omega)]
  generalize o / 4 = x at *
  generalize o / 100 = y at *
  rw [imul_i64 (by omega), iadd_i64 (by omega), isub_i64 (a := 365 * o + x) (by omega), isub_i64 (by omega)]
theorem date_e5 {r p : Int} (hr : 0 ≤ r ∧ r ≤ 365) (hp : 0 ≤ p ∧ p ≤ 11) : iadd .i64 (isub .i64 r (iquo .i64 (iadd .i64 (imul .i64 153 p) 2) 5)) 1 = r - (153 * p + 2) / 5 + 1 := by
  have a : 0 ≤ (153 * p + 2) / 5 ∧ (153 * p + 2) / 5 ≤ 400 := by omega
  rw [imul_i64 (by omega), iadd_i64 (a := 153 * p) (by omega), iquo_nn (by decide) (by omega)]
  generalize (153 * p + 2) / 5 = x at *
  rw [isub_i64 (by omega), iadd_i64 (by omega)]
theorem day_date_ex (n : Int) (hn : -4371587 ≤ n ∧ n ≤ 2932896) : ∃ y m d, g_day_Date ((), ((n, ()), ())) = some ((), ((y, ()), ((m, ()), ((d, ()), ((none, ()), ()))))) ∧ IsDate n y m d := by
  have hz : 0 ≤ (n + 719468) % 146097 ∧ (n + 719468) % 146097 ≤ 146096 := by omega
  have hg := of_year hz rfl
  generalize hf : (n + 719468) % 146097 = f at hz hg
  generalize hE : (n + 719468) / 146097 = E
  have hn2 : n + 719468 = 146097 * E + f := by omega
  have hEr : -40 ≤ E ∧ E ≤ 40 := by omega
  generalize ho : (f - f / 1460 + f / 36524 - f / 146096) / 365 = o at hg
  generalize hr : f - (365 * o + o / 4 - o / 100) = r at hg
  have hd := date_of (y := o + E * 400) (p := (5 * r + 2) / 153) (r := r) (by omega) rfl (fun h => by unfold isLeap; omega)
  have en : 365 * (o + E * 400) + (o + E * 400) / 4 - (o + E * 400) / 100 + (o + E * 400) / 400 + r - 719468 = n := by
    have ho : 0 ≤ o ∧ o ≤ 399 := ⟨hg.1, hg.2.1⟩
    rw [year_era ho]; omega
  rw [en] at hd
  refine ⟨_, _, _, ?_, hd⟩
  simp only [g_day_Date, f_day_Date_m, day_first, day_last, fitsS_dec, Option.bind_some, Option.isNone_none, Option.isNone_some, Option.isSome_none, Option.isSome_some, Bool.not_true, Bool.not_false, cond_true, cond_false, cond_dec, beq_int, bne_int, not_dec, gt_iff_lt]
  rw [if_neg (by omega), if_neg (by omega)]
  have e0 : iadd .i64 n 719468 = n + 719468 := iadd_i64 (by omega)
  simp only [e0]
  rw [day_floor _ _ (by decide) (by omega), hE]
  simp only [Option.bind_some]
  have e1 : isub .i64 (n + 719468) (imul .i64 E 146097) = f := by rw [imul_i64 (by omega), isub_i64 (by omega)]; omega
  simp only [e1]
  have e2 := date_e2 hz
  rw [ho] at e2
  simp only [e2]
  have e3 := date_e3 hz (o := o) ⟨hg.1, hg.2.1⟩
  rw [hr] at e3
  simp only [e3]
  have hr' : 0 ≤ r ∧ r ≤ 365 := ⟨hg.2.2.1, hg.2.2.2.1⟩
  have ho' : 0 ≤ o ∧ o ≤ 399 := ⟨hg.1, hg.2.1⟩
  clear hg ho hr e2 e3 en hd
  have e4 : iquo .i64 (iadd .i64 (imul .i64 5 r) 2) 153 = (5 * r + 2) / 153 := by
    rw [imul_i64 (by omega), iadd_i64 (by omega), iquo_nn (by decide) (by omega)]
  simp only [e4]
  generalize hp : (5 * r + 2) / 153 = p
  have hp' : 0 ≤ p ∧ p ≤ 11 := by omega
  have e5 := date_e5 hr' hp'
  have e6 : iadd .i64 o (imul .i64 E 400) = o + E * 400 := by rw [imul_i64 (by omega), iadd_i64 (by omega)]
  have e7 : iadd .i64 p 3 = p + 3 := iadd_i64 (by omega)
  simp only [e5, e6, e7]
  by_cases h : 12 < p + 3
  · rw [if_pos h, if_pos h, if_pos h, isub_i64 (by omega), iadd_i64 (by omega)]
  · rw [if_neg h, if_neg h, if_neg h]
theorem day_date {n y m d : Int} (hn : -4371587 ≤ n ∧ n ≤ 2932896) (h : IsDate n y m d) : g_day_Date ((), ((n, ()), ())) = some ((), ((y, ()), ((m, ()), ((d, ()), ((none, ()), ()))))) := by
  obtain ⟨y', m', d', e, h'⟩ := day_date_ex n hn
  obtain ⟨rfl, rfl, rfl⟩ := isDate_unique h h'
  exact e
theorem day_date_bad {n : Int} (hn : ¬(-4371587 ≤ n ∧ n ≤ 2932896)) : g_day_Date ((), ((n, ()), ())) = some ((), ((0, ()), ((0, ()), ((0, ()), ((some 13, ()), ()))))) := by
  simp only [g_day_Date, f_day_Date_m, day_first, day_last, fitsS_dec, Option.bind_some, Option.isNone_none, Option.isNone_some, Option.isSome_none, Option.isSome_some, Bool.not_true, Bool.not_false, cond_true, cond_false, cond_dec, beq_int, bne_int, not_dec, gt_iff_lt]
  by_cases h : n < -4371587
  · rw [if_pos h]
  · rw [if_neg h, if_pos (by omega)]
theorem date_ex (n : Int) (hn : -4371587 ≤ n ∧ n ≤ 2932896) : ∃ y m d, IsDate n y m d := by
  obtain ⟨y, m, d, _, h⟩ := day_date_ex n hn
  exact ⟨y, m, d, h⟩
end Go.Proofs.YtddnfappkfiidaaGreat.Ev
namespace Go.Proofs.YtddnfappkfiidaaGreat.Ev
open Go
set_option linter.unusedVariables false
set_option linter.unusedSimpArgs false
/-- A label. -/
structure Lab where
  (y m d h i s n o : Int)
@[reducible] def Lab.t (l : Lab) : Int × (Int × (Int × (Int × (Int × (Int × (Int × (Int × Unit))))))) := (l.y, (l.m, (l.d, (l.h, (l.i, (l.s, (l.n, (l.o, ()))))))))
def fErr (l : Lab) : Int := if (0 ≤ l.h ∧ l.h ≤ 23) ∧ (0 ≤ l.i ∧ l.i ≤ 59) ∧ (0 ≤ l.s ∧ l.s ≤ 60) ∧ (0 ≤ l.n ∧ l.n ≤ 999999999) ∧ (-1439 ≤ l.o ∧ l.o ≤ 1439) then 0 else 1
def there (n : Int) : Prop := -4371587 ≤ n ∧ n ≤ 2932896
instance (n : Int) : Decidable (there n) := by unfold there; infer_instance
/-- The minutes from the date's midnight, without its offset. -/
def labM (l : Lab) : Int := l.h * 60 + l.i - l.o
def labN (l : Lab) : Int := dnum l.y l.m l.d + labM l / 1440
def labS (l : Lab) : Int := labM l % 1440 * 60 + l.s
def labErr (l : Lab) : Int :=
  if dErr l.y l.m l.d ≠ 0 then dErr l.y l.m l.d else if fErr l ≠ 0 then 1 else if ¬ there (labN l) then 13 else if l.s = 60 ∧ labM l % 1440 ≠ 1439 then 12 else 0
theorem label_in (x b : Int) : g_label_in ((), ((x, ()), ((b, ()), ()))) = some ((), ((decide (0 ≤ x ∧ x < b), ()), ())) := by
  simp only [g_label_in, f_label_in_m, fitsS_dec, Option.bind_some, Option.isNone_none, Option.isNone_some, Option.isSome_none, Option.isSome_some, Bool.not_true, Bool.not_false, cond_true, cond_false, cond_dec, beq_int, bne_int, not_dec, ge_iff_le]
  by_cases h : 0 ≤ x <;> simp [h]
theorem label_shifts (x : Int) : g_label_shifts ((), ((x, ()), ())) = some ((), ((decide (-1439 ≤ x ∧ x ≤ 1439), ()), ())) := by
  simp only [g_label_shifts, f_label_shifts_m, fitsS_dec, Option.bind_some, Option.isNone_none, Option.isNone_some, Option.isSome_none, Option.isSome_some, Bool.not_true, Bool.not_false, cond_true, cond_false, cond_dec, beq_int, bne_int, not_dec, gt_iff_lt]
  by_cases h : -1440 < x
  · rw [if_pos h]; congr 4; simp only [decide_eq_decide]; omega
  · rw [if_neg h, decide_eq_false (by omega)]
theorem label_there (n : Int) : g_label_there ((), ((n, ()), ())) = some ((), ((decide (there n), ()), ())) := by
  simp only [g_label_there, f_label_there_m, day_first, day_last, fitsS_dec, Option.bind_some, Option.isNone_none, Option.isNone_some, Option.isSome_none, Option.isSome_some, Bool.not_true, Bool.not_false, cond_true, cond_false, cond_dec, beq_int, bne_int, not_dec, ge_iff_le, there]
  by_cases h : -4371587 ≤ n <;> simp [h]
theorem num_div (a b : Int) (hb : 0 < b) (ha : -9223372036854775807 ≤ a ∧ a ≤ 9223372036854775807) : g_num_Div ((), ((a, ()), ((b, ()), ()))) = some ((), ((a / b, ()), ((none, ()), ()))) := by
  simp only [g_num_Div, f_num_Div_m, fitsS_dec, Option.bind_some, Option.isNone_none, Option.isNone_some, Option.isSome_none, Option.isSome_some, Bool.not_true, Bool.not_false, cond_true, cond_false, cond_dec, beq_int, bne_int, not_dec]
  rw [if_neg (by omega), if_neg (by omega), if_neg (by omega), if_neg (by omega), iquo_pos hb (by omega), tmod_pos b hb]
  have hm : 0 ≤ a % b := Int.emod_nonneg _ (by omega)
  have hn : 0 ≤ (-a) % b := Int.emod_nonneg _ (by omega)
  by_cases h0 : 0 ≤ a
  · rw [if_pos h0, if_pos h0]
    rw [decide_eq_false (show ¬ a < 0 by omega), decide_eq_false (show ¬ b < 0 by omega)]
    simp
  · rw [if_neg h0, if_neg h0]
    rw [decide_eq_true (show a < 0 by omega), decide_eq_false (show ¬ b < 0 by omega)]
    have e1 := Int.mul_ediv_add_emod a b
    have e2 := Int.mul_ediv_add_emod (-a) b
    have l1 := Int.emod_lt_of_pos a hb
    have l2 := Int.emod_lt_of_pos (-a) hb
    have q0 : 0 ≤ (-a) / b := Int.ediv_nonneg (by omega) (by omega)
    have q1 : (-a) / b ≤ -a := Int.ediv_le_self _ (by omega)
    simp only [show (true == false) = false from rfl, Bool.not_false, cond_true]
    by_cases h1 : -(-a % b) ≠ 0
    · rw [if_pos h1, isub_i64 (by omega)]
      have : a / b = -(-a / b) - 1 := ((Int.ediv_emod_unique (r := b - -a % b) hb).2 ⟨by rw [Int.mul_sub, Int.mul_neg]; omega, by omega, by omega⟩).1
      rw [this]
    · rw [if_neg h1]
      have : a / b = -(-a / b) := ((Int.ediv_emod_unique (r := 0) hb).2 ⟨by rw [Int.mul_neg]; omega, by omega, by omega⟩).1
      rw [this]
theorem num_mod (a b : Int) (hb : 0 < b) (hb2 : b ≤ 9223372036854775807) (ha : -9223372036854775807 ≤ a ∧ a ≤ 9223372036854775807) : g_num_Mod ((), ((a, ()), ((b, ()), ()))) = some ((), ((a % b, ()), ((none, ()), ()))) := by
  simp only [g_num_Mod, f_num_Mod_m, fitsS_dec, Option.bind_some, Option.isNone_none, Option.isNone_some, Option.isSome_none, Option.isSome_some, Bool.not_true, Bool.not_false, cond_true, cond_false, cond_dec, beq_int, bne_int, not_dec]
  rw [if_neg (by omega), if_neg (by omega), if_neg (by omega), tmod_pos b hb]
  have hm : 0 ≤ a % b := Int.emod_nonneg _ (by omega)
  have hn : 0 ≤ (-a) % b := Int.emod_nonneg _ (by omega)
  have l1 := Int.emod_lt_of_pos a hb
  have l2 := Int.emod_lt_of_pos (-a) hb
  by_cases h0 : 0 ≤ a
  · rw [if_pos h0, decide_eq_false (show ¬ a % b < 0 by omega), decide_eq_false (show ¬ b < 0 by omega)]
    simp
  · rw [if_neg h0, decide_eq_false (show ¬ b < 0 by omega)]
    have e2 := Int.mul_ediv_add_emod (-a) b
    by_cases h1 : -(-a % b) ≠ 0
    · rw [if_pos h1, decide_eq_true (show -(-a % b) < 0 by omega), iadd_i64 (by omega)]
      have : a % b = -(-a % b) + b := ((Int.ediv_emod_unique (q := -(-a / b) - 1) hb).2 ⟨by rw [Int.mul_sub, Int.mul_neg]; omega, by omega, by omega⟩).2
      rw [this]; rfl
    · rw [if_neg h1]
      have : a % b = -(-a % b) := ((Int.ediv_emod_unique (q := -(-a / b)) hb).2 ⟨by rw [Int.mul_neg]; omega, by omega, by omega⟩).2
      rw [this]
theorem num_split (a b : Int) (hb : 0 < b) (hb2 : b ≤ 9223372036854775807) (ha : -9223372036854775807 ≤ a ∧ a ≤ 9223372036854775807) : g_num_Split ((), ((a, ()), ((b, ()), ()))) = some ((), ((a / b, ()), ((a % b, ()), ((none, ()), ())))) := by
  simp only [g_num_Split, f_num_Split_m, num_div a b hb ha, num_mod a b hb hb2 ha, fitsS_dec, Option.bind_some, Option.isNone_none, Option.isNone_some, Option.isSome_none, Option.isSome_some, Bool.not_true, Bool.not_false, cond_true, cond_false, cond_dec, beq_int, bne_int, not_dec]
  rw [if_neg (by omega)]
theorem label_fields (l : Lab) : g_label_Label_fields ((), (l.t, ())) = some ((), ((errOf (if dErr l.y l.m l.d ≠ 0 then dErr l.y l.m l.d else fErr l), ()), ())) := by
  simp only [g_label_Label_fields, f_label_Label_fields_m, Lab.t, day_of, label_in, label_shifts, fitsS_dec, Option.bind_some, Option.isNone_none, Option.isNone_some, Option.isSome_none, Option.isSome_some, Bool.not_true, Bool.not_false, cond_true, cond_false, cond_dec, beq_int, bne_int, not_dec, errOf_none]
  by_cases h0 : dErr l.y l.m l.d = 0
  · rw [show (if dErr l.y l.m l.d ≠ 0 then dErr l.y l.m l.d else fErr l) = fErr l from if_neg (by simp [h0]), if_neg (by simp [h0])]
    unfold fErr
    by_cases h1 : 0 ≤ l.h ∧ l.h ≤ 23
    · rw [if_neg (by omega)]
      by_cases h2 : 0 ≤ l.i ∧ l.i ≤ 59
      · rw [if_neg (by omega)]
        by_cases h3 : 0 ≤ l.s ∧ l.s ≤ 60
        · rw [if_neg (by omega)]
          by_cases h4 : 0 ≤ l.n ∧ l.n ≤ 999999999
          · rw [if_neg (by omega)]
            by_cases h5 : -1439 ≤ l.o ∧ l.o ≤ 1439
            · rw [if_neg (by simp [h5]), if_pos ⟨h1, h2, h3, h4, h5⟩]; rfl
            · rw [if_pos h5, if_neg (fun h => h5 h.2.2.2.2)]; rfl
          · rw [if_pos (by omega), if_neg (fun h => h4 h.2.2.2.1)]; rfl
        · rw [if_pos (by omega), if_neg (fun h => h3 h.2.2.1)]; rfl
      · rw [if_pos (by omega), if_neg (fun h => h2 h.2.1)]; rfl
    · rw [if_pos (by omega), if_neg (fun h => h1 h.1)]; rfl
  · rw [if_pos h0, if_pos h0]
theorem fErr_zero {l : Lab} : fErr l = 0 ↔ (0 ≤ l.h ∧ l.h ≤ 23) ∧ (0 ≤ l.i ∧ l.i ≤ 59) ∧ (0 ≤ l.s ∧ l.s ≤ 60) ∧ (0 ≤ l.n ∧ l.n ≤ 999999999) ∧ (-1439 ≤ l.o ∧ l.o ≤ 1439) := by
  unfold fErr; split <;> simp_all
theorem fErr_one {l : Lab} (h : fErr l ≠ 0) : fErr l = 1 := by
  unfold fErr at *; split <;> simp_all
theorem label_place (l : Lab) (h0 : dErr l.y l.m l.d = 0) (h1 : fErr l = 0) : g_label_Label_place ((), (l.t, ())) = some ((), ((labN l, ()), ((labM l % 1440, ()), ((none, ()), ())))) := by
  obtain ⟨a, b, c, d, e⟩ := fErr_zero.1 h1
  have hd := dErr_zero.1 h0
  have hl := mlen_range l.y l.m
  have hr := dnum_range l.y l.m l.d (by omega) (by omega) (by omega)
  simp only [g_label_Label_place, f_label_Label_place_m, Lab.t, day_of, fitsS_dec, Option.bind_some, Option.isNone_none, Option.isNone_some, Option.isSome_none, Option.isSome_some, Bool.not_true, Bool.not_false, cond_true, cond_false, cond_dec, beq_int, bne_int, not_dec, errOf_none, h0]
  rw [if_neg (by simp)]
  have e1 : isub .i64 (iadd .i64 (imul .i64 l.h 60) l.i) l.o = labM l := by
    unfold labM; rw [imul_i64 (by omega), iadd_i64 (by omega), isub_i64 (by omega)]
  rw [e1, num_split _ _ (by decide) (by decide) (by unfold labM; omega)]
  simp only [fitsS_dec, Option.bind_some, Option.isNone_none, Option.isNone_some, Option.isSome_none, Option.isSome_some, Bool.not_true, Bool.not_false, cond_true, cond_false, cond_dec, beq_int, bne_int, not_dec, if_true]
  rw [iadd_i64 (by unfold labM; omega)]; rfl
theorem label_check (l : Lab) : g_label_Check ((), (l.t, ())) = some ((), ((errOf (labErr l), ()), ())) := by
  have hf := label_fields l
  simp only [Lab.t] at hf
  simp only [g_label_Check, f_label_Check_m, Lab.t, hf, fitsS_dec, Option.bind_some, Option.isNone_none, Option.isNone_some, Option.isSome_none, Option.isSome_some, Bool.not_true, Bool.not_false, cond_true, cond_false, cond_dec, beq_int, bne_int, not_dec, errOf_none]
  unfold labErr
  by_cases h0 : dErr l.y l.m l.d = 0
  · rw [if_neg (show ¬ (dErr l.y l.m l.d ≠ 0) by simp [h0])]
    by_cases h1 : fErr l = 0
    · rw [if_neg (by simp [h1])]
      have hp := label_place l h0 h1
      simp only [Lab.t] at hp
      simp only [hp, label_there, fitsS_dec, Option.bind_some, Option.isNone_none, Option.isNone_some, Option.isSome_none, Option.isSome_some, Bool.not_true, Bool.not_false, cond_true, cond_false, cond_dec, beq_int, bne_int, not_dec]
      rw [if_neg (show ¬ (dErr l.y l.m l.d ≠ 0) by simp [h0]), if_neg (show ¬ (fErr l ≠ 0) by simp [h1])]
      by_cases h2 : there (labN l)
      · rw [if_neg (show ¬¬ there (labN l) by simp [h2]), if_neg (show ¬¬ there (labN l) by simp [h2])]
        by_cases h3 : l.s = 60
        · rw [if_pos h3]
          by_cases h4 : labM l % 1440 ≠ 1439
          · rw [if_pos h4, if_pos ⟨h3, h4⟩]; rfl
          · rw [if_neg h4, if_neg (fun h => h4 h.2)]; rfl
        · rw [if_neg h3, if_neg (fun h => h3 h.1)]; rfl
      · rw [if_pos h2, if_pos h2]; rfl
    · rw [if_pos (by simpa using h1), if_neg (show ¬ (dErr l.y l.m l.d ≠ 0) by simp [h0]), if_pos h1, fErr_one h1]
  · rw [if_pos (show dErr l.y l.m l.d ≠ 0 from h0), if_pos h0, if_pos h0]
theorem labErr_zero {l : Lab} (h : labErr l = 0) : dErr l.y l.m l.d = 0 ∧ fErr l = 0 ∧ there (labN l) ∧ (l.s = 60 → labM l % 1440 = 1439) := by
  unfold labErr at h
  split at h
  · rename_i c; exact absurd h c
  · rename_i c
    split at h
    · cases h
    · rename_i c1
      split at h
      · cases h
      · rename_i c2
        split at h
        · cases h
        · rename_i c3
          refine ⟨by simpa using c, by simpa using c1, by simpa using c2, fun e => ?_⟩
          by_cases h' : labM l % 1440 = 1439
          · exact h'
          · exact absurd ⟨e, h'⟩ c3
theorem label_split (l : Lab) : g_label_Split ((), (l.t, ())) = some ((), ((if labErr l = 0 then labN l else 0, ()), ((if labErr l = 0 then labS l else 0, ()), ((errOf (labErr l), ()), ())))) := by
  have hc := label_check l
  simp only [Lab.t] at hc
  simp only [g_label_Split, f_label_Split_m, Lab.t, hc, fitsS_dec, Option.bind_some, Option.isNone_none, Option.isNone_some, Option.isSome_none, Option.isSome_some, Bool.not_true, Bool.not_false, cond_true, cond_false, cond_dec, beq_int, bne_int, not_dec, errOf_none]
  by_cases h : labErr l = 0
  · obtain ⟨h0, h1, h2, h3⟩ := labErr_zero h
    have hs := fErr_zero.1 h1
    have hp := label_place l h0 h1
    simp only [Lab.t] at hp
    rw [if_neg (by simp [h]), hp]
    simp only [fitsS_dec, Option.bind_some, Option.isNone_none, Option.isNone_some, Option.isSome_none, Option.isSome_some, Bool.not_true, Bool.not_false, cond_true, cond_false, cond_dec, beq_int, bne_int, not_dec, h, if_true, errOf_zero]
    rw [imul_i64 (by omega), iadd_i64 (by omega)]; rfl
  · rw [if_pos h, if_neg h, if_neg h]
end Go.Proofs.YtddnfappkfiidaaGreat.Ev
namespace Go.Proofs.YtddnfappkfiidaaGreat.Ev
open Go
set_option linter.unusedVariables false
set_option linter.unusedSimpArgs false
theorem ib1 {x : Int} (h : 0 ≤ x ∧ x < 256) : okBy [x] := fun y hy => by
  simp only [List.mem_cons, List.not_mem_nil, or_false] at hy
  rw [hy]; exact h
def ex1X (n : Nat) (c : Int) (x : X) : X := if oneX c x then takeX 1 x else failX n 2 x
theorem ex1X_wf {s : ByteArray} {x : X} (h : x.wf s) (c : Int) : (ex1X s.size c x).wf s := by
  unfold ex1X
  split
  · exact takeX_wf h 1
  · exact failX_wf h 2
theorem iso_exact (s : ByteArray) (x : X) (h : x.wf s) (hs : s.size ≤ 1000000) (c : Int) : g_iso_reader_exact_io (x.t s, ((), ((c, ()), ()))) = some ((ex1X s.size c x).t s, ((), ())) := by
  have h1 := scan_Take s x h hs c
  have h2 := scan_fail s x 2
  simp only [X.t] at h1 h2
  simp only [g_iso_reader_exact_io, f_iso_reader_exact_io_m, X.t, h1, Option.bind_some, ex1X]
  cases hb : oneX c x
  · simp only [Bool.not_false, cond_true, Bool.false_eq_true, if_false, h2, Option.bind_some]
  · simp only [Bool.not_true, cond_false, if_true]
@[reducible] def tri := Int × (Int × Int)
def dateI (n : Nat) (x : X) : X × tri :=
  let a := figX n 4 4 x
  let b := figX n 2 2 (ex1X n 45 a.1)
  let c := figX n 2 2 (ex1X n 45 b.1)
  (c.1, (a.2, (b.2, c.2)))
theorem dateI_wf {s : ByteArray} {x : X} (h : x.wf s) : (dateI s.size x).1.wf s := figX_wf (ex1X_wf (figX_wf (ex1X_wf (figX_wf h _ _) _) _ _) _) _ _
theorem iso_date (s : ByteArray) (x : X) (h : x.wf s) (hs : s.size ≤ 1000000) : g_iso_reader_date_io (x.t s, ((), ())) = some ((dateI s.size x).1.t s, (((dateI s.size x).2.1, ()), (((dateI s.size x).2.2.1, ()), (((dateI s.size x).2.2.2, ()), ((), ()))))) := by
  have h1 := scan_figures s x h hs 4 4 (by decide)
  have w1 := figX_wf h 4 4
  have h2 := iso_exact s _ w1 hs 45
  have w2 := ex1X_wf w1 45
  have h3 := scan_figures s _ w2 hs 2 2 (by decide)
  have w3 := figX_wf w2 2 2
  have h4 := iso_exact s _ w3 hs 45
  have w4 := ex1X_wf w3 45
  have h5 := scan_figures s _ w4 hs 2 2 (by decide)
  have a2 : ((2 : Nat) : Int) = 2 := rfl
  have a4 : ((4 : Nat) : Int) = 4 := rfl
  simp only [X.t, a2, a4] at h1 h2 h3 h4 h5
  simp only [g_iso_reader_date_io, f_iso_reader_date_io_m, X.t, h1, h2, h3, h4, h5, Option.bind_some, dateI]
def numI (n : Nat) (W : List Int) (w : Nat) (x : X) : X × Int := figX n w w (mustX n W x)
theorem numI_wf {s : ByteArray} {x : X} (h : x.wf s) (W : List Int) (w : Nat) : (numI s.size W w x).1.wf s := figX_wf (mustX_wf h W) w w
theorem iso_number (s : ByteArray) (x : X) (h : x.wf s) (hs : s.size ≤ 1000000) (W : List Int) (hW : okBy W) (hl : W.length ≤ 1000) : g_iso_reader_number_io (x.t s, ((), ((strOf W, ()), ((2, ()), ())))) = some ((numI s.size W 2 x).1.t s, (((numI s.size W 2 x).2, ()), ((), ()))) := by
  have h1 := scan_must s x h hs W hW hl
  have h2 := scan_figures s _ (mustX_wf h W) hs 2 2 (by decide)
  have a2 : ((2 : Nat) : Int) = 2 := rfl
  simp only [X.t, a2] at h1 h2
  simp only [g_iso_reader_number_io, f_iso_reader_number_io_m, X.t, h1, h2, Option.bind_some, numI]
/-- The figures behind a point. -/
def fracI (n : Nat) (x : X) : X × List Int :=
  if oneX 46 x then
    (if (takeX 1 x).rest.take (lead (takeX 1 x).rest) = [] then failX n 2 (takeX (lead (takeX 1 x).rest) (takeX 1 x)) else takeX (lead (takeX 1 x).rest) (takeX 1 x), (takeX 1 x).rest.take (lead (takeX 1 x).rest))
  else (x, [])
theorem fracI_wf {s : ByteArray} {x : X} (h : x.wf s) : (fracI s.size x).1.wf s := by
  unfold fracI
  split
  · simp only
    split
    · exact failX_wf (takeX_wf (takeX_wf h _) _) _
    · exact takeX_wf (takeX_wf h _) _
  · exact h
theorem fracI_figs {n : Nat} {x : X} : ∀ y ∈ (fracI n x).2, isF y := by
  unfold fracI
  split
  · exact sc_lead_figs (Nat.le_refl _)
  · intro y hy; cases hy
theorem fracI_len {s : ByteArray} {x : X} (h : x.wf s) : (fracI s.size x).2.length ≤ s.size := by
  unfold fracI
  split
  · have := (X.ok_rest (takeX_wf h 1)).2
    simp only [List.length_take]; omega
  · exact Nat.zero_le _
theorem iso_fraction (s : ByteArray) (x : X) (h : x.wf s) (hs : s.size ≤ 1000000) : g_iso_reader_fraction_io (x.t s, ((), ())) = some ((fracI s.size x).1.t s, ((strOf (fracI s.size x).2, ()), ((), ()))) := by
  have lf : (⟨#[48, 49, 50, 51, 52, 53, 54, 55, 56, 57]⟩ : ByteArray) = strOf figL := by kernel_rfl
  have of' : okBy figL := by intro x hx; simp only [figL, List.mem_cons, List.not_mem_nil, or_false] at hx; omega
  have h1 := scan_Take s x h hs 46
  have w1 := takeX_wf h 1
  have h2 := scan_run s _ w1 hs figL of'
  rw [run_lead] at h2
  have h3 := scan_fail s (takeX (lead (takeX 1 x).rest) (takeX 1 x)) 2
  simp only [X.t] at h1 h2 h3
  simp only [g_iso_reader_fraction_io, f_iso_reader_fraction_io_m, X.t, h1, Option.bind_some, fracI, lf, sc_nil, str_emp]
  cases hb : oneX 46 x
  · simp only [Bool.not_false, cond_true, Bool.false_eq_true, if_false]
  · simp only [Bool.not_true, cond_false, if_true, h2, Option.bind_some, str_emp, cond_dec]
    by_cases c : (takeX 1 x).rest.take (lead (takeX 1 x).rest) = []
    · simp only [c, if_true, h3, Option.bind_some]
    · simp only [c, if_false]
def numO (n : Nat) (neg : Bool) (x : X) : X × (Int × Bool) :=
  let a := figX n 2 2 x
  let b := numI n [58] 2 a.1
  (b.1, (if neg then -(a.2 * 60 + b.2) else a.2 * 60 + b.2, decide (a.2 < 24 ∧ b.2 < 60)))
theorem numO_wf {s : ByteArray} {x : X} (h : x.wf s) (b : Bool) : (numO s.size b x).1.wf s := numI_wf (figX_wf h _ _) _ _
def offI (n : Nat) (x : X) : X × (Int × Bool) :=
  if (foldX [90] x).2 then ((foldX [90] x).1, (0, true)) else
  if oneX 45 (foldX [90] x).1 then numO n true (takeX 1 (foldX [90] x).1) else numO n false (ex1X n 43 (foldX [90] x).1)
theorem offI_wf {s : ByteArray} {x : X} (h : x.wf s) : (offI s.size x).1.wf s := by
  unfold offI
  split
  · exact foldX_wf h _
  · split
    · exact numO_wf (takeX_wf (foldX_wf h _) _) _
    · exact numO_wf (ex1X_wf (foldX_wf h _) _) _
theorem iso_offset (s : ByteArray) (x : X) (h : x.wf s) (hs : s.size ≤ 1000000) : g_iso_reader_offset_io (x.t s, ((), ())) = some ((offI s.size x).1.t s, (((offI s.size x).2.1, ()), (((offI s.size x).2.2, ()), ((), ())))) := by
  have l90 : (⟨#[90]⟩ : ByteArray) = strOf [90] := by kernel_rfl
  have l58 : (⟨#[58]⟩ : ByteArray) = strOf [58] := by kernel_rfl
  have a2 : ((2 : Nat) : Int) = 2 := rfl
  have h1 := scan_fold s x h hs [90] (ib1 (by omega)) (by decide)
  have w1 := foldX_wf h [90]
  have h2 := scan_Take s _ w1 hs 45
  have num : ∀ x : X, x.wf s → (g_scan_Scanner_string_Figures_io (((s, (x.at s.size, (x.er, ()))), ()), ((), ((2, ()), ((2, ()), ())))) = some (((s, ((figX s.size 2 2 x).1.at s.size, ((figX s.size 2 2 x).1.er, ()))), ()), (((figX s.size 2 2 x).2, ()), ((), ()))) ∧
      g_iso_reader_number_io (((s, ((figX s.size 2 2 x).1.at s.size, ((figX s.size 2 2 x).1.er, ()))), ()), ((), ((strOf [58], ()), ((2, ()), ())))) = some (((s, ((numI s.size [58] 2 (figX s.size 2 2 x).1).1.at s.size, ((numI s.size [58] 2 (figX s.size 2 2 x).1).1.er, ()))), ()), (((numI s.size [58] 2 (figX s.size 2 2 x).1).2, ()), ((), ()))) ∧
      imul .i64 (figX s.size 2 2 x).2 60 = (figX s.size 2 2 x).2 * 60 ∧ iadd .i64 ((figX s.size 2 2 x).2 * 60) (numI s.size [58] 2 (figX s.size 2 2 x).1).2 = (figX s.size 2 2 x).2 * 60 + (numI s.size [58] 2 (figX s.size 2 2 x).1).2 ∧
      ineg .i64 ((figX s.size 2 2 x).2 * 60 + (numI s.size [58] 2 (figX s.size 2 2 x).1).2) = -((figX s.size 2 2 x).2 * 60 + (numI s.size [58] 2 (figX s.size 2 2 x).1).2)) := fun x h => by
    have q1 := figX_val s.size 2 2 (by decide) x
    have q2 : 0 ≤ (numI s.size [58] 2 (figX s.size 2 2 x).1).2 ∧ (numI s.size [58] 2 (figX s.size 2 2 x).1).2 < 10 ^ 2 := figX_val s.size 2 2 (by decide) _
    refine ⟨scan_figures s x h hs 2 2 (by decide), iso_number s _ (figX_wf h 2 2) hs [58] (ib1 (by omega)) (by decide), imul_i64 (by omega), iadd_i64 (by omega), ineg_i64 (by omega)⟩
  simp only [X.t] at h1 h2
  simp only [g_iso_reader_offset_io, f_iso_reader_offset_io_m, X.t, l90, l58, h1, h2, Option.bind_some]
  unfold offI
  by_cases c0 : (foldX [90] x).2 = true
  · simp only [c0, cond_true, if_true]
  · simp only [Bool.not_eq_true] at c0
    simp only [c0, cond_false, Bool.false_eq_true, if_false]
    by_cases c1 : oneX 45 (foldX [90] x).1 = true
    · obtain ⟨n1, n2, n3, n4, n5⟩ := num _ (takeX_wf w1 1)
      simp only [c1, if_true, Bool.not_true, cond_false, cond_true, n1, n2, n3, n4, n5, Option.bind_some, numO]
      by_cases q1 : (figX s.size 2 2 (takeX 1 (foldX [90] x).1)).2 < 24
      · simp [q1]
      · simp [q1]
    · simp only [Bool.not_eq_true] at c1
      have h3 := iso_exact s _ w1 hs 43
      obtain ⟨n1, n2, n3, n4, n5⟩ := num _ (ex1X_wf w1 43)
      simp only [X.t] at h3
      simp only [c1, Bool.false_eq_true, if_false, Bool.not_false, cond_true, cond_false, h3, n1, n2, n3, n4, n5, Option.bind_some, numO]
      by_cases q1 : (figX s.size 2 2 (ex1X s.size 43 (foldX [90] x).1)).2 < 24
      · simp [q1]
      · simp [q1]
/-- The parts of an instant, read one after another. -/
structure IP where (y m d h i s : Int) (f : List Int) (o : Int) (ok : Bool) (e : X)
def ipX (n : Nat) (B : List Int) : IP :=
  let dt := dateI n (.good B)
  let h := numI n [84] 2 dt.1
  let i := numI n [58] 2 h.1
  let s := numI n [58] 2 i.1
  let f := fracI n s.1
  let o := offI n f.1
  ⟨dt.2.1, dt.2.2.1, dt.2.2.2, h.2, i.2, s.2, f.2, o.2.1, o.2.2, o.1⟩
def IP.nano (p : IP) : Int := if p.f = [] then 0 else val10 p.f * 10 ^ (9 - p.f.length)
def IP.lab (p : IP) : Lab := ⟨p.y, p.m, p.d, p.h, p.i, p.s, p.nano, p.o⟩
def IP.err (p : IP) : Int :=
  if p.e.end ≠ none then 2 else if 9 < p.f.length then 3 else if p.ok = false then 1 else labErr p.lab
@[reducible] def zli : Int × (Int × (Int × (Int × (Int × (Int × (Int × (Int × Unit))))))) := (0, (0, (0, (0, (0, (0, (0, (0, ()))))))))
theorem iso_frac_of {l : List Int} (hf : ∀ x ∈ l, isF x) (h0 : l ≠ []) (h : l.length ≤ 9) : fracE (strOf l) = 0 ∧ fracV (strOf l) = val10 l * 10 ^ (9 - l.length) := by
  have ho : okBy l := figs_okBy hf
  have hp : 0 < l.length := List.length_pos_iff.2 h0
  have ha : allF (strOf l) := by
    unfold allF
    rw [str_size, by_str ho]
    exact ⟨hp, lead_all hf⟩
  refine ⟨?_, by unfold fracV; rw [str_size, by_str ho]⟩
  unfold fracE
  rw [if_neg (by rw [str_size]; omega), if_pos ha]
theorem iso_parse (s : ByteArray) (hs : s.size ≤ 1000000) : g_iso_Parse ((), ((s, ()), ())) = some ((), (if (ipX s.size (bytesOf s)).err = 0 then (ipX s.size (bytesOf s)).lab.t else zli, ((errOf (ipX s.size (bytesOf s)).err, ()), ()))) := by
  have l84 : (⟨#[84]⟩ : ByteArray) = strOf [84] := by kernel_rfl
  have l58 : (⟨#[58]⟩ : ByteArray) = strOf [58] := by kernel_rfl
  have w0 := X.wf_new s
  have h0 := scan_new s
  have h1 := iso_date s _ w0 hs
  have w1 := dateI_wf w0
  have h2 := iso_number s _ w1 hs [84] (ib1 (by omega)) (by decide)
  have w2 := numI_wf w1 [84] 2
  have h3 := iso_number s _ w2 hs [58] (ib1 (by omega)) (by decide)
  have w3 := numI_wf w2 [58] 2
  have h4 := iso_number s _ w3 hs [58] (ib1 (by omega)) (by decide)
  have w4 := numI_wf w3 [58] 2
  have h5 := iso_fraction s _ w4 hs
  have w5 := fracI_wf w4
  have h6 := iso_offset s _ w5 hs
  have w6 := offI_wf w5
  have h7 := scan_end s _ w6
  have hfl := fracI_len w4
  have hff : ∀ y ∈ (fracI s.size (numI s.size [58] 2 (numI s.size [58] 2 (numI s.size [84] 2 (dateI s.size (.good (bytesOf s))).1).1).1).1).2, isF y := fracI_figs
  simp only [X.t, X.p] at h0 h1 h2 h3 h4 h5 h6 h7
  have hp : ipX s.size (bytesOf s) = ⟨(dateI s.size (.good (bytesOf s))).2.1, (dateI s.size (.good (bytesOf s))).2.2.1, (dateI s.size (.good (bytesOf s))).2.2.2, (numI s.size [84] 2 (dateI s.size (.good (bytesOf s))).1).2,
    (numI s.size [58] 2 (numI s.size [84] 2 (dateI s.size (.good (bytesOf s))).1).1).2, (numI s.size [58] 2 (numI s.size [58] 2 (numI s.size [84] 2 (dateI s.size (.good (bytesOf s))).1).1).1).2,
    (fracI s.size (numI s.size [58] 2 (numI s.size [58] 2 (numI s.size [84] 2 (dateI s.size (.good (bytesOf s))).1).1).1).1).2,
    (offI s.size (fracI s.size (numI s.size [58] 2 (numI s.size [58] 2 (numI s.size [84] 2 (dateI s.size (.good (bytesOf s))).1).1).1).1).1).2.1,
    (offI s.size (fracI s.size (numI s.size [58] 2 (numI s.size [58] 2 (numI s.size [84] 2 (dateI s.size (.good (bytesOf s))).1).1).1).1).1).2.2,
    (offI s.size (fracI s.size (numI s.size [58] 2 (numI s.size [58] 2 (numI s.size [84] 2 (dateI s.size (.good (bytesOf s))).1).1).1).1).1).1⟩ := rfl
  have hc := label_check (ipX s.size (bytesOf s)).lab
  simp only [g_iso_Parse, f_iso_Parse_m, h0, l84, l58, h1, h2, h3, h4, h5, h6, h7, Option.bind_some]
  generalize ipX s.size (bytesOf s) = P at hp hc ⊢
  have p1 := congrArg IP.y hp
  have p2 := congrArg IP.m hp
  have p3 := congrArg IP.d hp
  have p4 := congrArg IP.h hp
  have p5 := congrArg IP.i hp
  have p6 := congrArg IP.s hp
  have p7 := congrArg IP.f hp
  have p8 := congrArg IP.o hp
  have p9 := congrArg IP.ok hp
  have p10 := congrArg IP.e hp
  simp only at p1 p2 p3 p4 p5 p6 p7 p8 p9 p10
  rw [← p7] at hff hfl
  simp only [← p1, ← p2, ← p3, ← p4, ← p5, ← p6, ← p7, ← p8, ← p9, ← p10, str_size, sc_nil, str_emp, fitsS_dec, Option.bind_some, Option.isNone_none, Option.isNone_some, Option.isSome_none, Option.isSome_some, Bool.not_true, Bool.not_false, cond_true, cond_false, cond_dec, beq_int, bne_int, not_dec]
  unfold IP.err
  cases he : P.e.end with
  | some c =>
    rw [if_pos (show (some c : Option Int) ≠ none by simp), if_neg (show ¬((2 : Int) = 0) by decide)]; rfl
  | none =>
    rw [if_neg (show ¬((none : Option Int) ≠ none) by simp)]
    simp only [Option.isNone_none, Bool.not_true, cond_false, gt_iff_lt]
    by_cases c1 : 9 < P.f.length
    · rw [if_pos (by omega), if_pos c1, if_neg (show ¬((3 : Int) = 0) by decide)]; rfl
    · rw [if_neg (by omega), if_neg c1]
      cases hk : P.ok
      · rw [if_pos rfl, if_neg (show ¬((1 : Int) = 0) by decide)]; rfl
      · rw [if_neg (show ¬((true : Bool) = false) by decide)]
        simp only [Bool.not_true, cond_false]
        simp only [Lab.t, IP.lab] at hc
        by_cases c2 : P.f = []
        · have hn : P.nano = 0 := if_pos c2
          rw [hn] at hc
          simp only [c2, not_true_eq_false, if_false, hc, errOf_none, fitsS_dec, Option.bind_some, Option.isNone_none, Option.isNone_some, Option.isSome_none, Option.isSome_some, Bool.not_true, Bool.not_false, cond_true, cond_false, cond_dec, beq_int, bne_int, not_dec, IP.lab, hn, Lab.t]
          by_cases c3 : labErr ⟨P.y, P.m, P.d, P.h, P.i, P.s, 0, P.o⟩ = 0
          · simp only [c3, not_true_eq_false, if_false, if_true]; rfl
          · simp only [c3, not_false_eq_true, if_true, if_false]
        · have hn : P.nano = val10 P.f * 10 ^ (9 - P.f.length) := if_neg c2
          have hfr := iso_frac_of hff c2 (by omega)
          have hF := fig_fraction (strOf P.f) (by rw [str_size]; omega)
          rw [hfr.1, if_pos rfl, hfr.2, ← hn, errOf_zero] at hF
          simp only [c2, not_false_eq_true, if_true, hF, hc, errOf_none, fitsS_dec, Option.bind_some, Option.isNone_none, Option.isNone_some, Option.isSome_none, Option.isSome_some, Bool.not_true, Bool.not_false, cond_true, cond_false, cond_dec, beq_int, bne_int, not_dec, IP.lab, Lab.t]
          by_cases c3 : labErr ⟨P.y, P.m, P.d, P.h, P.i, P.s, P.nano, P.o⟩ = 0
          · simp only [c3, not_true_eq_false, if_false, if_true]; rfl
          · simp only [c3, not_false_eq_true, if_true, if_false]
end Go.Proofs.YtddnfappkfiidaaGreat.Ev
namespace Go.Proofs.YtddnfappkfiidaaGreat.Ev
open Go
set_option linter.unusedVariables false
set_option linter.unusedSimpArgs false
/-- The last w figures. -/
def dgs (n : Nat) : Nat → List Int
  | 0 => []
  | w + 1 => dgs (n / 10) w ++ [(48 + (n % 10 : Nat) : Int)]
theorem dgs_len : ∀ (w n : Nat), (dgs n w).length = w
  | 0, _ => rfl
  | w + 1, n => by simp [dgs, dgs_len w]
theorem dgs_zero : ∀ w, dgs 0 w = List.replicate w 48
  | 0 => rfl
  | w + 1 => by rw [dgs, show 0 / 10 = 0 from rfl, dgs_zero w, List.replicate_succ']; rfl
theorem figs_dgs : ∀ (w n : Nat), n < 10 ^ w → List.replicate (w - (figs n).length) 48 ++ (figs n).reverse = dgs n w
  | 0, n, h => by
    have : n = 0 := by simpa using h
    subst this; rw [figs_zero]; rfl
  | w + 1, n, h => by
    by_cases c : n = 0
    · subst c; rw [figs_zero, dgs_zero]; simp
    · have ih := figs_dgs w (n / 10) (by rw [Nat.pow_succ] at h; omega)
      rw [figs_pos c, List.reverse_cons, List.length_cons, Nat.add_sub_add_right, ← List.append_assoc, ih]; rfl
theorem padd_dg (n w : Nat) (h : n < 10 ^ w) (hw : 1 ≤ w) : padd n w = dgs n w := by
  have := figs_dgs w n h
  unfold padd
  rw [show max w 1 = w by omega]; exact this
theorem dgs_ok : ∀ (w n : Nat), ∀ x ∈ dgs n w, isF x
  | 0, _, x, h => by cases h
  | w + 1, n, x, h => by
    rcases List.mem_append.1 h with h | h
    · exact dgs_ok w _ x h
    · simp only [List.mem_singleton] at h
      subst h
      unfold isF; omega
theorem val10_dg : ∀ (w n : Nat), n < 10 ^ w → val10 (dgs n w) = n
  | 0, n, h => by
    have : n = 0 := by simpa using h
    subst this; rfl
  | w + 1, n, h => by
    rw [dgs, val10_snoc, val10_dg w (n / 10) (by rw [Nat.pow_succ] at h; omega)]; omega
theorem figs_okBy' {l : List Int} (h : ∀ x ∈ l, isF x) : okBy l := fun x hx => by
  have := h x hx
  unfold isF at this; omega
theorem dgs_by (w n : Nat) : okBy (dgs n w) := figs_okBy' (dgs_ok w n)
theorem padd_isF (n w : Nat) : ∀ x ∈ padd n w, isF x := by
  intro x hx
  unfold padd at hx
  rcases List.mem_append.1 hx with h | h
  · rw [(List.mem_replicate.1 h).2]; unfold isF; omega
  · exact figs_ok n x (List.mem_reverse.1 h)
theorem padd_by (n w : Nat) : okBy (padd n w) := figs_okBy' (padd_isF n w)
theorem fig_put_nn (v w : Int) (h : 0 ≤ v ∧ v ≤ 9223372036854775807) (hw : 0 ≤ w ∧ w ≤ 20) : g_figures_Put ((), ((v, ()), ((w, ()), ()))) = some ((), ((strOf (padd v.toNat w.toNat), ()), ((none, ()), ()))) := by
  have e : putE w = 0 := if_neg (by omega)
  rw [fig_put v w (by unfold isI64; omega), e, if_pos rfl]
  unfold putL
  rw [if_neg (by omega), show v.natAbs = v.toNat by omega]; rfl
theorem fig_put_dg (v : Int) (w : Nat) (h : 0 ≤ v ∧ v < 10 ^ w) (hw : 1 ≤ w ∧ w ≤ 18) : g_figures_Put ((), ((v, ()), (((w : Int), ()), ()))) = some ((), ((strOf (dgs v.toNat w), ()), ((none, ()), ()))) := by
  have hp : (10 : Int) ^ w ≤ 10 ^ 18 := by
    have : 10 ^ w ≤ 10 ^ 18 := Nat.pow_le_pow_right (by omega) hw.2
    exact_mod_cast this
  have hn : v.toNat < 10 ^ w := by
    have h2 := h.2
    have e : v = ((v.toNat : Nat) : Int) := by omega
    rw [e] at h2; exact_mod_cast h2
  rw [fig_put_nn v w (by omega) (by omega), Int.toNat_natCast, padd_dg _ _ hn hw.1]
theorem str_toList_eq (l m : List Int) (hl : okBy l) (hm : okBy m) : ((strOf l).toList == (strOf m).toList) = decide (l = m) := by
  rw [str_eq, by_str hl, by_str hm]
theorem okBy_nil : okBy [] := fun x h => by cases h
theorem okBy_cons {x : Int} {l : List Int} (hx : 0 ≤ x ∧ x < 256) (h : okBy l) : okBy (x :: l) := fun y hy => by
  rcases List.mem_cons.1 hy with rfl | q
  · exact hx
  · exact h y q
theorem okBy_rep {x : Int} (k : Nat) (hx : 0 ≤ x ∧ x < 256) : okBy (List.replicate k x) := fun y hy => by
  rw [(List.mem_replicate.1 hy).2]; exact hx
end Go.Proofs.YtddnfappkfiidaaGreat.Ev
namespace Go.Proofs.YtddnfappkfiidaaGreat.Ev
open Go
set_option linter.unusedVariables false
set_option linter.unusedSimpArgs false
end Go.Proofs.YtddnfappkfiidaaGreat.Ev
namespace Go.Proofs.YtddnfappkfiidaaGreat.Ev
open Go
set_option linter.unusedVariables false
set_option linter.unusedSimpArgs false
def dayL (y m d : Int) : List Int := dgs y.toNat 4 ++ (45 :: (dgs m.toNat 2 ++ (45 :: dgs d.toNat 2)))
def offL (o : Int) : List Int := if o = 0 then [90] else (if o < 0 then 45 else 43) :: (dgs (o.natAbs / 60) 2 ++ (58 :: dgs (o.natAbs % 60) 2))
def pntL (f : List Int) : List Int := if f = [] then [] else 46 :: f
def isoL (l : Lab) (f : List Int) : List Int :=
  dayL l.y l.m l.d ++ (84 :: (dgs l.h.toNat 2 ++ (58 :: (dgs l.i.toNat 2 ++ (58 :: (dgs l.s.toNat 2 ++ (pntL f ++ offL l.o)))))))
def rgtE (l : Lab) : Int := if labErr l ≠ 0 then labErr l else if l.y < 0 then 13 else 0
def putI (l : Lab) (m : Int) : Int := if rgtE l ≠ 0 then rgtE l else if inNano l.n ∧ 0 ≤ m ∧ m ≤ 9 then 0 else 1
@[reducible] def firstI : List Int := [49, 57, 57, 48, 45, 49, 50, 45, 51, 49, 84, 49, 53, 58, 53, 57, 58, 54, 48, 45, 48, 56, 58, 48, 48]
end Go.Proofs.YtddnfappkfiidaaGreat.Ev
namespace Go.Proofs.YtddnfappkfiidaaGreat.Ev
open Go
set_option linter.unusedVariables false
set_option linter.unusedSimpArgs false
def fitAt (c b : Int) : Prop := if c = 48 then isF b else b = c ∨ (c = 84 ∧ b = 116)
instance (c b : Int) : Decidable (fitAt c b) := by unfold fitAt; infer_instance
def fits (S B : List Int) : Prop := ∀ i : Nat, i < S.length → fitAt (S.getD i 0) (B.getD i 0)
theorem list_getA (B : List Int) : B = (List.range B.length).map fun i => B.getD i 0 := by
  refine List.ext_getElem (by simp) fun i h1 h2 => ?_
  simp only [List.getElem_map, List.getElem_range]
  rw [List.getD_eq_getElem?_getD, List.getElem?_eq_getElem h1]; rfl
theorem l2 {Y : List Int} (h : Y.length = 2) : ∃ a b, Y = [a, b] := by
  have := list_getA Y
  rw [h] at this
  exact ⟨_, _, this⟩
end Go.Proofs.YtddnfappkfiidaaGreat.Ev
namespace Go.Proofs.YtddnfappkfiidaaGreat.Ev
open Go
set_option linter.unusedVariables false
set_option linter.unusedSimpArgs false
@[reducible] def L8 := Int × (Int × (Int × (Int × (Int × (Int × (Int × (Int × Unit)))))))
/-- What is told once the parts are there. -/
def finE (l : Lab) (F : List Int) (ok : Bool) : Int := if 9 < F.length then 3 else if ok = false then 1 else labErr l
def nanoF (F : List Int) : Int := if F = [] then 0 else val10 F * 10 ^ (9 - F.length)
def finR (l : Lab) (F : List Int) (ok : Bool) : Option (Unit × (L8 × ((Int × Unit) × Unit))) := some ((), (if finE l F ok = 0 then l.t else zli, ((finE l F ok, ()), ())))
/-- A zone: Z or z, or a sign and two numbers. -/
def isZ (Z : List Int) (o : Int) (ok : Bool) : Prop :=
  ((Z = [90] ∨ Z = [122]) ∧ o = 0 ∧ ok = true) ∨
  (∃ g H M, Z = g :: (H ++ (58 :: M)) ∧ (g = 43 ∨ g = 45) ∧ ((∀ y ∈ H, isF y) ∧ H.length = 2) ∧ ((∀ y ∈ M, isF y) ∧ M.length = 2) ∧ o = (if g = 45 then -(val10 H * 60 + val10 M) else val10 H * 60 + val10 M) ∧ ok = decide (val10 H < 24 ∧ val10 M < 60))
@[reducible] def zSh (c : Int) : List Int := [c, 48, 48, 58, 48, 48]
end Go.Proofs.YtddnfappkfiidaaGreat.Ev
namespace Go.Proofs.YtddnfappkfiidaaGreat.Ev
open Go
set_option linter.unusedVariables false
set_option linter.unusedSimpArgs false
def isP (R F Z : List Int) : Prop := (F = [] ∧ R = Z ∧ ∀ r, R ≠ 46 :: r) ∨ (F ≠ [] ∧ (∀ y ∈ F, isF y) ∧ R = 46 :: (F ++ Z) ∧ lead Z = 0)
structure IF where (Y M D H I S F Z : List Int) (t o : Int) (ok : Bool) (R : List Int)
def IF.good (f : IF) : Prop := ((∀ y ∈ f.Y, isF y) ∧ f.Y.length = 4) ∧ ((∀ y ∈ f.M, isF y) ∧ f.M.length = 2) ∧ ((∀ y ∈ f.D, isF y) ∧ f.D.length = 2) ∧ ((∀ y ∈ f.H, isF y) ∧ f.H.length = 2) ∧ ((∀ y ∈ f.I, isF y) ∧ f.I.length = 2) ∧ ((∀ y ∈ f.S, isF y) ∧ f.S.length = 2) ∧ (f.t = 84 ∨ f.t = 116)
def IF.L (f : IF) : List Int := f.Y ++ (45 :: (f.M ++ (45 :: (f.D ++ (f.t :: (f.H ++ (58 :: (f.I ++ (58 :: (f.S ++ f.R))))))))))
end Go.Proofs.YtddnfappkfiidaaGreat.Ev
namespace Go.Proofs.YtddnfappkfiidaaGreat.Ev
open Go
set_option linter.unusedVariables false
set_option linter.unusedSimpArgs false
end Go.Proofs.YtddnfappkfiidaaGreat.Ev
namespace Go.Proofs.YtddnfappkfiidaaGreat.Ev
open Go
set_option linter.unusedVariables false
set_option linter.unusedSimpArgs false
@[reducible] def wkT : ByteArray := ⟨#[77, 111, 110, 84, 117, 101, 87, 101, 100, 84, 104, 117, 70, 114, 105, 83, 97, 116, 83, 117, 110]⟩
@[reducible] def moT : ByteArray := ⟨#[74, 97, 110, 70, 101, 98, 77, 97, 114, 65, 112, 114, 77, 97, 121, 74, 117, 110, 74, 117, 108, 65, 117, 103, 83, 101, 112, 79, 99, 116, 78, 111, 118, 68, 101, 99]⟩
@[reducible] def wkL : List (List Int) := [[77, 111, 110], [84, 117, 101], [87, 101, 100], [84, 104, 117], [70, 114, 105], [83, 97, 116], [83, 117, 110]]
@[reducible] def moL : List (List Int) := [[74, 97, 110], [70, 101, 98], [77, 97, 114], [65, 112, 114], [77, 97, 121], [74, 117, 110], [74, 117, 108], [65, 117, 103], [83, 101, 112], [79, 99, 116], [78, 111, 118], [68, 101, 99]]
def wkN (i : Nat) : List Int := wkL.getD (i - 1) []
def moN (i : Nat) : List Int := moL.getD (i - 1) []
theorem wk_name : ∀ i : Nat, 1 ≤ i → i ≤ 7 → g_mail_name ((), ((wkT, ()), (((i : Int), ()), ()))) = some ((), ((strOf (wkN i), ()), ())) ∧ okBy (wkN i) ∧ (wkN i).length ≤ 1000
  | 0, h, _ => absurd h (by decide)
  | 1, _, _ => ⟨by kernel_rfl, by unfold okBy; decide, by decide⟩
  | 2, _, _ => ⟨by kernel_rfl, by unfold okBy; decide, by decide⟩
  | 3, _, _ => ⟨by kernel_rfl, by unfold okBy; decide, by decide⟩
  | 4, _, _ => ⟨by kernel_rfl, by unfold okBy; decide, by decide⟩
  | 5, _, _ => ⟨by kernel_rfl, by unfold okBy; decide, by decide⟩
  | 6, _, _ => ⟨by kernel_rfl, by unfold okBy; decide, by decide⟩
  | 7, _, _ => ⟨by kernel_rfl, by unfold okBy; decide, by decide⟩
  | (n + 8), _, h => absurd h (by omega)
theorem mo_name : ∀ i : Nat, 1 ≤ i → i ≤ 12 → g_mail_name ((), ((moT, ()), (((i : Int), ()), ()))) = some ((), ((strOf (moN i), ()), ())) ∧ okBy (moN i) ∧ (moN i).length ≤ 1000
  | 0, h, _ => absurd h (by decide)
  | 1, _, _ => ⟨by kernel_rfl, by unfold okBy; decide, by decide⟩
  | 2, _, _ => ⟨by kernel_rfl, by unfold okBy; decide, by decide⟩
  | 3, _, _ => ⟨by kernel_rfl, by unfold okBy; decide, by decide⟩
  | 4, _, _ => ⟨by kernel_rfl, by unfold okBy; decide, by decide⟩
  | 5, _, _ => ⟨by kernel_rfl, by unfold okBy; decide, by decide⟩
  | 6, _, _ => ⟨by kernel_rfl, by unfold okBy; decide, by decide⟩
  | 7, _, _ => ⟨by kernel_rfl, by unfold okBy; decide, by decide⟩
  | 8, _, _ => ⟨by kernel_rfl, by unfold okBy; decide, by decide⟩
  | 9, _, _ => ⟨by kernel_rfl, by unfold okBy; decide, by decide⟩
  | 10, _, _ => ⟨by kernel_rfl, by unfold okBy; decide, by decide⟩
  | 11, _, _ => ⟨by kernel_rfl, by unfold okBy; decide, by decide⟩
  | 12, _, _ => ⟨by kernel_rfl, by unfold okBy; decide, by decide⟩
  | (n + 13), _, h => absurd h (by omega)
theorem mb1 {x : Int} (h : 0 ≤ x ∧ x < 256) : okBy [x] := fun y hy => by
  simp only [List.mem_cons, List.not_mem_nil, or_false] at hy
  rw [hy]; exact h
/-! ### the weekday -/
def wkX (n : Nat) (x : X) : X × Int :=
  if (oneK wkN 7 1 x).2 = 0 then ((oneK wkN 7 1 x).1, 0) else ((gapX n (mustX n [44] (gapX n (oneK wkN 7 1 x).1).1)).1, (oneK wkN 7 1 x).2)
theorem wkX_wf {s : ByteArray} {x : X} (h : x.wf s) : (wkX s.size x).1.wf s := by
  unfold wkX
  split
  · exact oneK_wf h
  · exact gapX_wf (mustX_wf (gapX_wf (oneK_wf h)) _)
theorem mail_wkX (s : ByteArray) (x : X) (h : x.wf s) (hs : s.size ≤ 1000000) : g_mail_reader_weekday_io (x.t s, ((s, ()), ())) = some ((wkX s.size x).1.t s, (((wkX s.size x).2, ()), ((), ()))) := by
  have l44 : (⟨#[44]⟩ : ByteArray) = strOf [44] := by kernel_rfl
  have h1 := mail_one s hs wkT wkN 7 rfl (by decide) wk_name x h
  have w1 := oneK_wf (nm := wkN) (k := 7) (i := 1) h
  have h2 := mail_gapX s _ w1 hs
  have w2 := gapX_wf w1
  have h3 := scan_must s _ w2 hs [44] (mb1 (by omega)) (by decide)
  have w3 := mustX_wf w2 [44]
  have h4 := mail_gapX s _ w3 hs
  simp only [X.t] at h1 h2 h3 h4
  simp only [g_mail_reader_weekday_io, f_mail_reader_weekday_io_m, X.t, h1, h2, h3, h4, l44, fitsS_dec, Option.bind_some, Option.isNone_none, Option.isNone_some, Option.isSome_none, Option.isSome_some, Bool.not_true, Bool.not_false, cond_true, cond_false, cond_dec, beq_int, bne_int, not_dec, wkX]
  by_cases c : (oneK wkN 7 1 x).2 = 0
  · simp only [c, if_true]
  · simp only [c, if_false]
/-! ### the year -/
def yrV (k : Nat) (v : Int) : Int := if k = 3 then 1900 + v else if k = 2 ∧ v < 50 then 2000 + v else if k = 2 then 1900 + v else v
def yrX (n : Nat) : X → X × Int
  | .good l => if 2 ≤ lead l ∧ lead l ≤ 4 then (.good (l.drop (lead l)), yrV (lead l) (val10 (l.take (lead l)))) else (failX n 2 (takeX (lead l) (.good l)), 0)
  | .bad i c => (.bad i c, 0)
theorem yrX_wf {s : ByteArray} {x : X} (h : x.wf s) : (yrX s.size x).1.wf s := by
  cases x with
  | bad i c => exact h
  | good l =>
    simp only [yrX]
    split
    · exact X.wf_cut h _
    · exact failX_wf (takeX_wf h _) 2
theorem lead_allM : ∀ l : List Int, (∀ x ∈ l, isF x) → lead l = l.length
  | [], _ => rfl
  | x :: l, h => by
    unfold lead
    rw [if_pos (h x List.mem_cons_self), lead_allM l (fun y hy => h y (List.mem_cons_of_mem _ hy))]; rfl
theorem mail_whole (l : List Int) (hl : l.length ≤ 1000000) (hf : ∀ x ∈ l, isF x) : g_figures_Whole ((), ((strOf l, ()), ((2, ()), ((4, ()), ())))) =
    some ((), ((if 2 ≤ l.length ∧ l.length ≤ 4 then val10 l else 0, ()), ((if 2 ≤ l.length ∧ l.length ≤ 4 then none else some 2, ()), ()))) := by
  have ho : okBy l := fun x hx => by
    have := hf x hx
    unfold isF at this; omega
  have ht := fig_take (strOf l) (by rw [str_size]; exact hl) 2 4 9223372036854775807 (by omega)
  unfold takeE takeK cutV at ht
  rw [by_str ho, lead_allM l hf, show Int.toNat 4 = 4 from rfl] at ht
  simp only [show ¬((2 : Int) < 1 ∨ (4 : Int) < 2 ∨ (20 : Int) < 4) by decide, if_false] at ht
  simp only [g_figures_Whole, f_figures_Whole_m, g_figures_whole, f_figures_whole_m, ht, Option.bind_some, str_size]
  by_cases c : 2 ≤ l.length
  · have hv := val10_range _ (l.take (min l.length 4)) rfl (fun x hx => hf x (List.mem_of_mem_take hx))
    have hp : (10 : Int) ^ (l.take (min l.length 4)).length ≤ 10 ^ 4 := by
      have : 10 ^ (l.take (min l.length 4)).length ≤ 10 ^ 4 := Nat.pow_le_pow_right (by omega) (by rw [List.length_take]; omega)
      exact_mod_cast this
    rw [if_neg (show ¬((min l.length 4 : Nat) : Int) < 2 by omega), if_pos (show val10 (l.take (min l.length 4)) ≤ 9223372036854775807 by omega), if_pos rfl, if_pos rfl]
    by_cases c2 : l.length ≤ 4
    · have e : min l.length 4 = l.length := by omega
      rw [e, List.take_length] at hv hp ⊢
      simp only [errOf_zero, fitsS_dec, Option.bind_some, Option.isNone_none, Option.isNone_some, Option.isSome_none, Option.isSome_some, Bool.not_true, Bool.not_false, cond_true, cond_false, cond_dec, beq_int, bne_int, not_dec]
      rw [if_neg (by omega)]
      simp only [Option.bind_some]
      rw [if_pos ⟨c, c2⟩, if_pos ⟨c, c2⟩, iconv_i64 (by omega)]
    · simp only [errOf_zero, fitsS_dec, Option.bind_some, Option.isNone_none, Option.isNone_some, Option.isSome_none, Option.isSome_some, Bool.not_true, Bool.not_false, cond_true, cond_false, cond_dec, beq_int, bne_int, not_dec]
      rw [if_pos (by omega)]
      simp only [Option.bind_some]
      rw [if_neg (fun q => c2 q.2), if_neg (fun q => c2 q.2), iconv_i64 (by omega)]
  · rw [if_pos (show ((min l.length 4 : Nat) : Int) < 2 by omega), if_neg (by decide), if_neg (by decide), if_neg (fun q => c q.1), if_neg (fun q => c q.1)]
    rw [show errOf 2 = some 2 from rfl]
    simp only [fitsS_dec, Option.bind_some, Option.isNone_none, Option.isNone_some, Option.isSome_none, Option.isSome_some, Bool.not_true, Bool.not_false, cond_true, cond_false, cond_dec, beq_int, bne_int, not_dec]
    rw [iconv_i64 (by omega)]
theorem mail_yrX (s : ByteArray) (x : X) (h : x.wf s) (hs : s.size ≤ 1000000) : g_mail_reader_year_io (x.t s, ((s, ()), ())) = some ((yrX s.size x).1.t s, (((yrX s.size x).2, ()), ((), ()))) := by
  have lf : (⟨#[48, 49, 50, 51, 52, 53, 54, 55, 56, 57]⟩ : ByteArray) = strOf figL := by kernel_rfl
  have of' : okBy figL := by intro x hx; simp only [figL, List.mem_cons, List.not_mem_nil, or_false] at hx; omega
  have h1 := scan_run s x h hs figL of'
  have hF := scan_fail s (takeX (lead x.rest) x) 2
  have ho := X.ok_rest h
  have hll := lead_le x.rest
  have hW := mail_whole (x.rest.take (lead x.rest)) (by rw [List.length_take]; omega) (sc_lead_figs (Nat.le_refl _))
  rw [run_lead] at h1
  have hlen : (x.rest.take (lead x.rest)).length = lead x.rest := by rw [List.length_take]; omega
  rw [hlen] at hW
  simp only [X.t] at h1 hF
  simp only [g_mail_reader_year_io, f_mail_reader_year_io_m, X.t, lf, h1, hW, hF, Option.bind_some, str_size, hlen]
  cases x with
  | bad i c =>
    have e : lead (X.bad i c).rest = 0 := rfl
    rw [e, if_neg (by decide), if_neg (by decide)]
    simp only [takeX, failX, yrX, fitsS_dec, Option.bind_some, Option.isNone_none, Option.isNone_some, Option.isSome_none, Option.isSome_some, Bool.not_true, Bool.not_false, cond_true, cond_false, cond_dec, beq_int, bne_int, not_dec]
    rw [if_neg (by decide), if_neg (by decide), if_neg (by decide)]
  | good l =>
    have e : (X.good l).rest = l := rfl
    simp only [e] at *
    by_cases c : 2 ≤ lead l ∧ lead l ≤ 4
    · have hv := val10_range _ (l.take (lead l)) rfl (sc_lead_figs (Nat.le_refl _))
      have hp : (10 : Int) ^ (l.take (lead l)).length ≤ 10 ^ 4 := by
        have : 10 ^ (l.take (lead l)).length ≤ 10 ^ 4 := Nat.pow_le_pow_right (by omega) (by rw [List.length_take]; omega)
        exact_mod_cast this
      have i1 : iadd .i64 1900 (val10 (l.take (lead l))) = 1900 + val10 (l.take (lead l)) := iadd_i64 (by omega)
      have i2 : iadd .i64 2000 (val10 (l.take (lead l))) = 2000 + val10 (l.take (lead l)) := iadd_i64 (by omega)
      simp only [yrX, if_pos c, takeX, i1, i2, fitsS_dec, Option.bind_some, Option.isNone_none, Option.isNone_some, Option.isSome_none, Option.isSome_some, Bool.not_true, Bool.not_false, cond_true, cond_false, cond_dec, beq_int, bne_int, not_dec, yrV]
      by_cases k3 : lead l = 3
      · rw [if_pos (by omega), if_pos k3]
      · rw [if_neg (by omega), if_neg k3]
        by_cases k2 : lead l = 2
        · rw [if_pos (by omega)]
          by_cases k5 : val10 (l.take (lead l)) < 50
          · rw [if_pos k5, if_pos ⟨k2, k5⟩]
          · rw [if_neg k5, if_pos (by omega), if_neg (fun q => k5 q.2), if_pos k2]
        · rw [if_neg (by omega), if_neg (by omega), if_neg (fun q => k2 q.1), if_neg k2]
    · simp only [yrX, if_neg c, takeX, fitsS_dec, Option.bind_some, Option.isNone_none, Option.isNone_some, Option.isSome_none, Option.isSome_some, Bool.not_true, Bool.not_false, cond_true, cond_false, cond_dec, beq_int, bne_int, not_dec]
      rw [if_neg (show ¬((lead l : Int) = 3) by omega), if_neg (show ¬((lead l : Int) = 2) by omega), if_neg (show ¬((lead l : Int) = 2) by omega)]
end Go.Proofs.YtddnfappkfiidaaGreat.Ev
namespace Go.Proofs.YtddnfappkfiidaaGreat.Ev
open Go
set_option linter.unusedVariables false
set_option linter.unusedSimpArgs false
def up (x : Int) : Int := if 97 ≤ x ∧ x ≤ 122 then x - 32 else x
theorem up_ok {x : Int} (h : 0 ≤ x ∧ x < 256) : 0 ≤ up x ∧ up x < 256 := by unfold up; split <;> omega
theorem up_by {l : List Int} (h : okBy l) : okBy (l.map up) := fun x hx => by
  obtain ⟨y, hy, rfl⟩ := List.mem_map.1 hx
  exact up_ok (h y hy)
theorem set_mid (A B : List Int) (x y : Int) : (A ++ x :: B).set A.length y = A ++ y :: B := by
  induction A with
  | nil => rfl
  | cons a A ih => simp only [List.cons_append, List.length_cons, List.set_cons_succ, ih]
theorem get_mid (A B : List Int) (x : Int) : (A ++ x :: B).getD A.length 0 = x := by
  induction A with
  | nil => rfl
  | cons a A ih => simp only [List.cons_append, List.length_cons, List.getD_cons_succ, ih]
theorem great_p4 (m : Nat) (hm : m ≤ 1000000) : ∀ (Q P : List Int), okBy Q → P.length + Q.length = m →
    Evn (fun f => (f_mail_great_t f).1 ((P.map up ++ Q, ()), ((), ((), (((m : Int), ()), (((P.length : Int), ()), ())))))) ((), ((strOf ((P ++ Q).map up), ()), ())) := by
  intro Q; induction Q with
  | nil =>
    intro P ho hl
    simp only [List.length_nil, Nat.add_zero] at hl
    refine Evn.some 1 fun f => ?_
    simp only [t_mail_great, f_mail_great_p4, fitsS_dec, Option.bind_some, Option.isNone_none, Option.isNone_some, Option.isSome_none, Option.isSome_some, Bool.not_true, Bool.not_false, cond_true, cond_false, cond_dec, beq_int, bne_int, not_dec, List.append_nil]
    rw [if_neg (by omega)]
  | cons x Q ih =>
    intro P ho hl
    simp only [List.length_cons] at hl
    have hx := ho x List.mem_cons_self
    have ih' := ih (P ++ [x]) (fun y hy => ho y (List.mem_cons_of_mem _ hy)) (by rw [List.length_append, List.length_singleton]; omega)
    simp only [List.append_assoc, List.singleton_append, List.map_append, List.map_cons, List.map_nil] at ih'
    rw [List.map_append, List.map_cons]
    refine ih'.step fun f => ?_
    have hg : gd (.int .u8) (P.map up ++ x :: Q) (P.length : Int) = x := by
      rw [gd_u8, Int.toNat_natCast]
      have := get_mid (P.map up) Q x
      rw [List.length_map] at this; exact this
    have hs : (P.map up ++ x :: Q).set P.length (up x) = P.map up ++ up x :: Q := by
      have := set_mid (P.map up) Q x (up x)
      rw [List.length_map] at this; exact this
    have hl2 : (P.map up ++ x :: Q).length = m := by rw [List.length_append, List.length_map, List.length_cons]; omega
    have hn : ((P ++ [x]).length : Int) = (P.length : Int) + 1 := by rw [List.length_append]; rfl
    simp only [t_mail_great, f_mail_great_p4, hg, hl2, fitsS_dec, Option.bind_some, Option.isNone_none, Option.isNone_some, Option.isSome_none, Option.isSome_some, Bool.not_true, Bool.not_false, cond_true, cond_false, cond_dec, beq_int, bne_int, not_dec, and_dec, ge_iff_le, Int.toNat_natCast]
    rw [if_pos (by omega), if_pos (by omega)]
    have e1 : iadd .i64 (P.length : Int) 1 = (P.length : Int) + 1 := iadd_i64 (by omega)
    rw [hn]
    by_cases c1 : 97 ≤ x
    · rw [if_pos c1]
      by_cases c2 : x ≤ 122
      · have u1 : isub .u8 x 97 = x - 97 := by unfold isub; rw [wrap_u8]; omega
        have u2 : iadd .u8 (x - 97) 65 = x - 32 := by unfold iadd; rw [wrap_u8]; omega
        have hu : up x = x - 32 := if_pos ⟨c1, c2⟩
        rw [hu] at hs ⊢
        rw [if_pos c2, if_pos (by omega), u1, u2, hs, e1]
      · have hu : up x = x := if_neg (fun q => c2 q.2)
        rw [if_neg c2, e1, hu]
    · have hu : up x = x := if_neg (fun q => c1 q.1)
      rw [if_neg c1, e1, hu]
theorem mail_great (l : List Int) (ho : okBy l) (hl : l.length ≤ 1000000) : g_mail_great ((), ((strOf l, ()), ())) = some ((), ((strOf (l.map up), ()), ())) := by
  have := great_p4 l.length hl l [] ho (by simp)
  refine (this.cast fun f => ?_).lim
  simp only [f_mail_great_m, str_size, by_str ho, cond_dec]
  rw [if_pos (by omega)]; rfl
/-- A zone's name, in great letters: its shift, and whether it is one. -/
def zoV (u : List Int) : Int × Bool :=
  if u = [85, 84] then (0, true) else if u = [71, 77, 84] then (0, true) else if u = [69, 83, 84] then (-300, true) else if u = [67, 68, 84] then (-300, true) else if u = [69, 68, 84] then (-240, true) else
  if u = [67, 83, 84] then (-360, true) else if u = [77, 68, 84] then (-360, true) else if u = [77, 83, 84] then (-420, true) else if u = [80, 68, 84] then (-420, true) else if u = [80, 83, 84] then (-480, true) else
  if u = [74] then (0, false) else if u.length = 1 then (0, decide (65 ≤ u.getD 0 0 ∧ u.getD 0 0 ≤ 90)) else (0, false)
theorem zo_lit {u L : List Int} (hu : okBy u) (hL : okBy L) : ((strOf u).toList == (strOf L).toList) = decide (u = L) := str_toList_eq u L hu hL
theorem mail_zone (l : List Int) (ho : okBy l) (hl : l.length ≤ 1000000) : g_mail_Zone ((), ((strOf l, ()), ())) = some ((), (((zoV (l.map up)).1, ()), (((zoV (l.map up)).2, ()), ()))) := by
  have hg := mail_great l ho hl
  have hu := up_by ho
  have hll : (l.map up).length ≤ 1000000 := by rw [List.length_map]; exact hl
  simp only [g_mail_Zone, f_mail_Zone_m, hg, Option.bind_some]
  generalize l.map up = u at hu hll
  have o2 : ∀ a b : Int, (0 ≤ a ∧ a < 256) → (0 ≤ b ∧ b < 256) → okBy [a, b] := fun a b ha hb => okBy_cons ha (okBy_cons hb okBy_nil)
  have o3 : ∀ a b c : Int, (0 ≤ a ∧ a < 256) → (0 ≤ b ∧ b < 256) → (0 ≤ c ∧ c < 256) → okBy [a, b, c] := fun a b c ha hb hc => okBy_cons ha (okBy_cons hb (okBy_cons hc okBy_nil))
  have k1 := zo_lit hu (o2 85 84 (by omega) (by omega))
  have k2 := zo_lit hu (o3 71 77 84 (by omega) (by omega) (by omega))
  have k3 := zo_lit hu (o3 69 83 84 (by omega) (by omega) (by omega))
  have k4 := zo_lit hu (o3 67 68 84 (by omega) (by omega) (by omega))
  have k5 := zo_lit hu (o3 69 68 84 (by omega) (by omega) (by omega))
  have k6 := zo_lit hu (o3 67 83 84 (by omega) (by omega) (by omega))
  have k7 := zo_lit hu (o3 77 68 84 (by omega) (by omega) (by omega))
  have k8 := zo_lit hu (o3 77 83 84 (by omega) (by omega) (by omega))
  have k9 := zo_lit hu (o3 80 68 84 (by omega) (by omega) (by omega))
  have k10 := zo_lit hu (o3 80 83 84 (by omega) (by omega) (by omega))
  have k11 := zo_lit hu (okBy_cons (show (0 : Int) ≤ 74 ∧ (74 : Int) < 256 by omega) okBy_nil)
  rw [show strOf [85, 84] = (⟨#[85, 84]⟩ : ByteArray) by kernel_rfl] at k1
  rw [show strOf [71, 77, 84] = (⟨#[71, 77, 84]⟩ : ByteArray) by kernel_rfl] at k2
  rw [show strOf [69, 83, 84] = (⟨#[69, 83, 84]⟩ : ByteArray) by kernel_rfl] at k3
  rw [show strOf [67, 68, 84] = (⟨#[67, 68, 84]⟩ : ByteArray) by kernel_rfl] at k4
  rw [show strOf [69, 68, 84] = (⟨#[69, 68, 84]⟩ : ByteArray) by kernel_rfl] at k5
  rw [show strOf [67, 83, 84] = (⟨#[67, 83, 84]⟩ : ByteArray) by kernel_rfl] at k6
  rw [show strOf [77, 68, 84] = (⟨#[77, 68, 84]⟩ : ByteArray) by kernel_rfl] at k7
  rw [show strOf [77, 83, 84] = (⟨#[77, 83, 84]⟩ : ByteArray) by kernel_rfl] at k8
  rw [show strOf [80, 68, 84] = (⟨#[80, 68, 84]⟩ : ByteArray) by kernel_rfl] at k9
  rw [show strOf [80, 83, 84] = (⟨#[80, 83, 84]⟩ : ByteArray) by kernel_rfl] at k10
  rw [show strOf [74] = (⟨#[74]⟩ : ByteArray) by kernel_rfl] at k11
  simp only [k1, k2, k3, k4, k5, k6, k7, k8, k9, k10, k11, str_size, cond_dec, beq_int, and_dec]
  unfold zoV
  by_cases c1 : u = [85, 84]
  · rw [if_pos c1, if_pos c1]
  rw [if_neg c1, if_neg c1]
  by_cases c2 : u = [71, 77, 84]
  · rw [if_pos c2, if_pos c2]
  rw [if_neg c2, if_neg c2]
  by_cases c3 : u = [69, 83, 84]
  · rw [if_pos c3, if_pos c3]
  rw [if_neg c3, if_neg c3]
  by_cases c4 : u = [67, 68, 84]
  · rw [if_pos c4, if_pos c4]
  rw [if_neg c4, if_neg c4]
  by_cases c5 : u = [69, 68, 84]
  · rw [if_pos c5, if_pos c5]
  rw [if_neg c5, if_neg c5]
  by_cases c6 : u = [67, 83, 84]
  · rw [if_pos c6, if_pos c6]
  rw [if_neg c6, if_neg c6]
  by_cases c7 : u = [77, 68, 84]
  · rw [if_pos c7, if_pos c7]
  rw [if_neg c7, if_neg c7]
  by_cases c8 : u = [77, 83, 84]
  · rw [if_pos c8, if_pos c8]
  rw [if_neg c8, if_neg c8]
  by_cases c9 : u = [80, 68, 84]
  · rw [if_pos c9, if_pos c9]
  rw [if_neg c9, if_neg c9]
  by_cases c10 : u = [80, 83, 84]
  · rw [if_pos c10, if_pos c10]
  rw [if_neg c10, if_neg c10]
  by_cases c11 : u = [74]
  · rw [if_pos c11, if_pos c11]
  rw [if_neg c11, if_neg c11]
  by_cases c12 : u.length = 1
  · have hb := by_at (strOf u) (i := 0) (by omega) (by rw [str_size]; omega)
    rw [by_str hu, show Int.toNat 0 = 0 from rfl] at hb
    rw [if_pos (show (u.length : Int) = 1 by omega), if_pos c12, if_pos (show (0 : Int) ≤ 0 ∧ (0 : Int) < (u.length : Int) by omega), hb]
    simp only [ge_iff_le]
    by_cases q1 : 65 ≤ u.getD 0 0
    · rw [if_pos q1, if_pos (show (0 : Int) ≤ 0 ∧ (0 : Int) < (u.length : Int) by omega)]; simp only [q1, true_and]
    · rw [if_neg q1, decide_eq_false (fun q => q1 q.1)]
  · rw [if_neg (show ¬((u.length : Int) = 1) by omega), if_neg c12]
end Go.Proofs.YtddnfappkfiidaaGreat.Ev
namespace Go.Proofs.YtddnfappkfiidaaGreat.Ev
open Go
set_option linter.unusedVariables false
set_option linter.unusedSimpArgs false
@[reducible] def triM := Int × (Int × Int)
def dateX (n : Nat) (x : X) : X × triM :=
  let a := figX n 1 2 x
  let o := oneK moN 12 1 (gapX n a.1).1
  let o' := if o.2 = 0 then failX n 2 o.1 else o.1
  let y := yrX n (gapX n o').1
  (y.1, (y.2, (o.2, a.2)))
theorem dateX_wf {s : ByteArray} {x : X} (h : x.wf s) : (dateX s.size x).1.wf s := by
  unfold dateX
  simp only
  refine yrX_wf (gapX_wf ?_)
  split
  · exact failX_wf (oneK_wf (gapX_wf (figX_wf h _ _))) _
  · exact oneK_wf (gapX_wf (figX_wf h _ _))
theorem mail_dateX (s : ByteArray) (x : X) (h : x.wf s) (hs : s.size ≤ 1000000) (y m d hh i sc nn o : Int) :
    g_mail_reader_date_io (((x.t s).1, ((y, (m, (d, (hh, (i, (sc, (nn, (o, ())))))))), ())), ((s, ()), ((), ()))) = some ((((dateX s.size x).1.t s).1, (((dateX s.size x).2.1, ((dateX s.size x).2.2.1, ((dateX s.size x).2.2.2, (hh, (i, (sc, (nn, (o, ())))))))), ())), ((), ((), ()))) := by
  have h1 := scan_figures s x h hs 1 2 (by decide)
  have w1 := figX_wf h 1 2
  have h2 := mail_gapX s _ w1 hs
  have w2 := gapX_wf w1
  have h3 := mail_one s hs moT moN 12 rfl (by decide) mo_name _ w2
  have w3 := oneK_wf (nm := moN) (k := 12) (i := 1) w2
  have h4 := scan_fail s (oneK moN 12 1 (gapX s.size (figX s.size 1 2 x).1).1).1 2
  have w4 := failX_wf w3 2
  have h5 := mail_gapX s _ w4 hs
  have h5' := mail_gapX s _ w3 hs
  have h6 := mail_yrX s _ (gapX_wf w4) hs
  have h6' := mail_yrX s _ (gapX_wf w3) hs
  have a1 : ((1 : Nat) : Int) = 1 := rfl
  have a2 : ((2 : Nat) : Int) = 2 := rfl
  simp only [X.t, a1, a2] at h1 h2 h3 h4 h5 h5' h6 h6'
  simp only [g_mail_reader_date_io, f_mail_reader_date_io_m, X.t, h1, h2, h3, h4, h5, h5', h6, h6', fitsS_dec, Option.bind_some, Option.isNone_none, Option.isNone_some, Option.isSome_none, Option.isSome_some, Bool.not_true, Bool.not_false, cond_true, cond_false, cond_dec, beq_int, bne_int, not_dec, dateX]
  by_cases c : (oneK moN 12 1 (gapX s.size (figX s.size 1 2 x).1).1).2 = 0
  · simp only [c, if_true]
  · simp only [c, if_false]
def secX (n : Nat) (x : X) : X × Int :=
  if oneX 58 x then ((gapX n (figX n 2 2 (gapX n (takeX 1 x)).1).1).1, (figX n 2 2 (gapX n (takeX 1 x)).1).2) else (x, 0)
def clkX (n : Nat) (x : X) : X × triM :=
  let h := figX n 2 2 x
  let i := figX n 2 2 (gapX n (mustX n [58] (gapX n h.1).1)).1
  let q := secX n (gapX n i.1).1
  (q.1, (h.2, (i.2, q.2)))
theorem secX_wf {s : ByteArray} {x : X} (h : x.wf s) : (secX s.size x).1.wf s := by
  unfold secX
  split
  · exact gapX_wf (figX_wf (gapX_wf (takeX_wf h _)) _ _)
  · exact h
theorem clkX_wf {s : ByteArray} {x : X} (h : x.wf s) : (clkX s.size x).1.wf s := secX_wf (gapX_wf (figX_wf (gapX_wf (mustX_wf (gapX_wf (figX_wf h _ _)) _)) _ _))
theorem mail_clkX (s : ByteArray) (x : X) (h : x.wf s) (hs : s.size ≤ 1000000) (y m d hh i nn o : Int) :
    g_mail_reader_clock_io (((x.t s).1, ((y, (m, (d, (hh, (i, (0, (nn, (o, ())))))))), ())), ((s, ()), ((), ()))) = some ((((clkX s.size x).1.t s).1, ((y, (m, (d, ((clkX s.size x).2.1, ((clkX s.size x).2.2.1, ((clkX s.size x).2.2.2, (nn, (o, ())))))))), ())), ((), ((), ()))) := by
  have l58 : (⟨#[58]⟩ : ByteArray) = strOf [58] := by kernel_rfl
  have h1 := scan_figures s x h hs 2 2 (by decide)
  have w1 := figX_wf h 2 2
  have h2 := mail_gapX s _ w1 hs
  have w2 := gapX_wf w1
  have h3 := scan_must s _ w2 hs [58] (mb1 (by omega)) (by decide)
  have w3 := mustX_wf w2 [58]
  have h4 := mail_gapX s _ w3 hs
  have w4 := gapX_wf w3
  have h5 := scan_figures s _ w4 hs 2 2 (by decide)
  have w5 := figX_wf w4 2 2
  have h6 := mail_gapX s _ w5 hs
  have w6 := gapX_wf w5
  have h7 := scan_Take s _ w6 hs 58
  have w7 := takeX_wf w6 1
  have h8 := mail_gapX s _ w7 hs
  have w8 := gapX_wf w7
  have h9 := scan_figures s _ w8 hs 2 2 (by decide)
  have w9 := figX_wf w8 2 2
  have h10 := mail_gapX s _ w9 hs
  have a2 : ((2 : Nat) : Int) = 2 := rfl
  simp only [X.t, a2] at h1 h2 h3 h4 h5 h6 h7 h8 h9 h10
  simp only [g_mail_reader_clock_io, f_mail_reader_clock_io_m, X.t, l58, h1, h2, h3, h4, h5, h6, h7, Option.bind_some, clkX, secX]
  by_cases c : oneX 58 (gapX s.size (figX s.size 2 2 (gapX s.size (mustX s.size [58] (gapX s.size (figX s.size 2 2 x).1).1)).1).1).1 = true
  · simp only [c, if_true, cond_true, h8, h9, h10, Option.bind_some]
  · simp only [Bool.not_eq_true] at c
    simp only [c, Bool.false_eq_true, if_false, cond_false]
@[reducible] def letL : List Int := [65, 66, 67, 68, 69, 70, 71, 72, 73, 74, 75, 76, 77, 78, 79, 80, 81, 82, 83, 84, 85, 86, 87, 88, 89, 90, 97, 98, 99, 100, 101, 102, 103, 104, 105, 106, 107, 108, 109, 110, 111, 112, 113, 114, 115, 116, 117, 118, 119, 120, 121, 122]
def numZ (n : Nat) (neg : Bool) (x : X) : X × (Int × Bool) :=
  let a := figX n 2 2 x
  let b := figX n 2 2 a.1
  (b.1, (if neg then -(a.2 * 60 + b.2) else a.2 * 60 + b.2, decide (a.2 < 24 ∧ b.2 < 60)))
def namZ (n : Nat) (x : X) : X × (Int × Bool) :=
  let v := zoV ((x.rest.take (runN letL x.rest)).map up)
  (if v.2 then takeX (runN letL x.rest) x else failX n 2 (takeX (runN letL x.rest) x), (v.1, true))
def zonX (n : Nat) (x : X) : X × (Int × Bool) :=
  if oneX 45 x then numZ n true (takeX 1 x) else if oneX 43 x then numZ n false (takeX 1 x) else namZ n x
theorem numZ_wf {s : ByteArray} {x : X} (h : x.wf s) (b : Bool) : (numZ s.size b x).1.wf s := figX_wf (figX_wf h _ _) _ _
theorem namZ_wf {s : ByteArray} {x : X} (h : x.wf s) : (namZ s.size x).1.wf s := by
  unfold namZ
  simp only
  split
  · exact takeX_wf h _
  · exact failX_wf (takeX_wf h _) _
theorem zonX_wf {s : ByteArray} {x : X} (h : x.wf s) : (zonX s.size x).1.wf s := by
  unfold zonX
  split
  · exact numZ_wf (takeX_wf h _) _
  · split
    · exact numZ_wf (takeX_wf h _) _
    · exact namZ_wf h
theorem mail_zonX (s : ByteArray) (x : X) (h : x.wf s) (hs : s.size ≤ 1000000) : g_mail_reader_zone_io (x.t s, ((s, ()), ())) = some ((zonX s.size x).1.t s, (((zonX s.size x).2.1, ()), (((zonX s.size x).2.2, ()), ((), ())))) := by
  have lL : (⟨#[65, 66, 67, 68, 69, 70, 71, 72, 73, 74, 75, 76, 77, 78, 79, 80, 81, 82, 83, 84, 85, 86, 87, 88, 89, 90, 97, 98, 99, 100, 101, 102, 103, 104, 105, 106, 107, 108, 109, 110, 111, 112, 113, 114, 115, 116, 117, 118, 119, 120, 121, 122]⟩ : ByteArray) = strOf letL := by kernel_rfl
  have oL : okBy letL := by intro y hy; simp only [letL, List.mem_cons, List.not_mem_nil, or_false] at hy; omega
  have a2 : ((2 : Nat) : Int) = 2 := rfl
  have num : ∀ x : X, x.wf s → (g_scan_Scanner_string_Figures_io (((s, (x.at s.size, (x.er, ()))), ()), ((), ((2, ()), ((2, ()), ())))) = some (((s, ((figX s.size 2 2 x).1.at s.size, ((figX s.size 2 2 x).1.er, ()))), ()), (((figX s.size 2 2 x).2, ()), ((), ()))) ∧
      g_scan_Scanner_string_Figures_io (((s, ((figX s.size 2 2 x).1.at s.size, ((figX s.size 2 2 x).1.er, ()))), ()), ((), ((2, ()), ((2, ()), ())))) = some (((s, ((figX s.size 2 2 (figX s.size 2 2 x).1).1.at s.size, ((figX s.size 2 2 (figX s.size 2 2 x).1).1.er, ()))), ()), (((figX s.size 2 2 (figX s.size 2 2 x).1).2, ()), ((), ()))) ∧
      imul .i64 (figX s.size 2 2 x).2 60 = (figX s.size 2 2 x).2 * 60 ∧ iadd .i64 ((figX s.size 2 2 x).2 * 60) (figX s.size 2 2 (figX s.size 2 2 x).1).2 = (figX s.size 2 2 x).2 * 60 + (figX s.size 2 2 (figX s.size 2 2 x).1).2 ∧
      ineg .i64 ((figX s.size 2 2 x).2 * 60 + (figX s.size 2 2 (figX s.size 2 2 x).1).2) = -((figX s.size 2 2 x).2 * 60 + (figX s.size 2 2 (figX s.size 2 2 x).1).2)) := fun x h => by
    have q1 := figX_val s.size 2 2 (by decide) x
    have q2 := figX_val s.size 2 2 (by decide) (figX s.size 2 2 x).1
    refine ⟨scan_figures s x h hs 2 2 (by decide), scan_figures s _ (figX_wf h 2 2) hs 2 2 (by decide), imul_i64 (by omega), iadd_i64 (by omega), ineg_i64 (by omega)⟩
  have h1 := scan_Take s x h hs 45
  simp only [X.t] at h1
  simp only [g_mail_reader_zone_io, f_mail_reader_zone_io_m, X.t, h1, Option.bind_some, lL]
  unfold zonX
  by_cases c1 : oneX 45 x = true
  · obtain ⟨n1, n2, n3, n4, n5⟩ := num _ (takeX_wf h 1)
    simp only [c1, if_true, Bool.not_true, cond_false, cond_true, n1, n2, n3, n4, n5, Option.bind_some, numZ]
    by_cases q1 : (figX s.size 2 2 (takeX 1 x)).2 < 24
    · simp [q1]
    · simp [q1]
  · simp only [Bool.not_eq_true] at c1
    have h2 := scan_Take s x h hs 43
    simp only [X.t] at h2
    simp only [c1, Bool.false_eq_true, if_false, Bool.not_false, cond_true, cond_false, h2, Option.bind_some]
    by_cases c2 : oneX 43 x = true
    · obtain ⟨n1, n2, n3, n4, n5⟩ := num _ (takeX_wf h 1)
      simp only [c2, if_true, Bool.not_true, cond_false, cond_true, n1, n2, n3, n4, n5, Option.bind_some, numZ, Bool.false_eq_true, if_false]
      by_cases q1 : (figX s.size 2 2 (takeX 1 x)).2 < 24
      · simp [q1]
      · simp [q1]
    · simp only [Bool.not_eq_true] at c2
      have h3 := scan_run s x h hs letL oL
      have ho := X.ok_rest h
      have h4 := mail_zone (x.rest.take (runN letL x.rest)) (okBy_take ho.1 _) (by rw [List.length_take]; omega)
      have h5 := scan_fail s (takeX (runN letL x.rest) x) 2
      simp only [X.t] at h3 h5
      simp only [c2, Bool.false_eq_true, if_false, Bool.not_false, cond_true, h3, h4, Option.bind_some, namZ]
      cases hv : (zoV ((x.rest.take (runN letL x.rest)).map up)).2
      · simp only [Bool.not_false, cond_true, h5, Option.bind_some, Bool.false_eq_true, if_false]
      · simp only [Bool.not_true, cond_false, if_true]
end Go.Proofs.YtddnfappkfiidaaGreat.Ev
namespace Go.Proofs.YtddnfappkfiidaaGreat.Ev
open Go
set_option linter.unusedVariables false
set_option linter.unusedSimpArgs false
/-- Monday is 1. -/
def wdN (n : Int) : Int := (n + 3) % 7 + 1
theorem day_weekday (n : Int) (h : -1000000000 ≤ n ∧ n ≤ 1000000000) : g_day_Weekday ((), ((n, ()), ())) = some ((), ((wdN n, ()), ())) := by
  have e1 : iadd .i64 (Int.tmod n 7) 3 = Int.tmod n 7 + 3 := iadd_i64 (by rw [tmod_pos 7 (by decide)]; split <;> omega)
  have e2 : iadd .i64 (Int.tmod (Int.tmod n 7 + 3) 7) 7 = Int.tmod (Int.tmod n 7 + 3) 7 + 7 := iadd_i64 (by rw [tmod_pos 7 (by decide)]; split <;> omega)
  have h3 : -7 < Int.tmod (Int.tmod n 7 + 3) 7 := by rw [tmod_pos 7 (by decide)]; split <;> omega
  have e4 : Int.tmod (Int.tmod (Int.tmod n 7 + 3) 7 + 7) 7 = (n + 3) % 7 := by
    rw [tmod_nn (by omega), Int.add_emod_right]
    have q : ∀ a : Int, Int.tmod a 7 % 7 = a % 7 := fun a => by rw [tmod_pos 7 (by decide)]; split <;> omega
    rw [q, Int.add_emod, q, ← Int.add_emod]
  simp only [g_day_Weekday, f_day_Weekday_m, e1, e2, e4]
  rw [iadd_i64 (by omega)]; rfl
theorem mail_weekday (l : Lab) (h : dErr l.y l.m l.d = 0) : g_mail_weekday ((), (l.t, ())) = some ((), ((wdN (dnum l.y l.m l.d), ()), ((none, ()), ()))) := by
  have hz := dErr_zero.1 h
  have hd := day_of l.y l.m l.d
  rw [h, if_pos rfl] at hd
  have hml := mlen_range l.y l.m
  have hr := dnum_range l.y l.m l.d (by omega) hz.2.1 (by omega)
  simp only [g_mail_weekday, f_mail_weekday_m, Lab.t, hd, errOf_zero, day_weekday _ (show -1000000000 ≤ dnum l.y l.m l.d ∧ dnum l.y l.m l.d ≤ 1000000000 by omega), fitsS_dec, Option.bind_some, Option.isNone_none, Option.isNone_some, Option.isSome_none, Option.isSome_some, Bool.not_true, Bool.not_false, cond_true, cond_false, cond_dec, beq_int, bne_int, not_dec]
/-- The parts of a date, read one after another. -/
structure MP where (w y m d h i s o : Int) (ok : Bool) (e : X)
def mpX (n : Nat) (B : List Int) : MP :=
  let w := wkX n (gapX n (.good B)).1
  let dt := dateX n w.1
  let g := gapX n dt.1
  let c := clkX n (if g.2 then g.1 else failX n 2 g.1)
  let z := zonX n c.1
  ⟨w.2, dt.2.1, dt.2.2.1, dt.2.2.2, c.2.1, c.2.2.1, c.2.2.2, z.2.1, z.2.2, (gapX n z.1).1⟩
def MP.lab (p : MP) : Lab := ⟨p.y, p.m, p.d, p.h, p.i, p.s, 0, p.o⟩
def MP.err (p : MP) : Int :=
  if p.e.end ≠ none then 2 else if p.ok = false then 1 else if p.y < 1900 then 13 else if labErr p.lab ≠ 0 then labErr p.lab else if p.w ≠ 0 ∧ p.w ≠ wdN (dnum p.y p.m p.d) then 1 else 0
@[reducible] def zlm : Int × (Int × (Int × (Int × (Int × (Int × (Int × (Int × Unit))))))) := (0, (0, (0, (0, (0, (0, (0, (0, ()))))))))
theorem mail_parse (s : ByteArray) (hs : s.size ≤ 1000000) : g_mail_Parse ((), ((s, ()), ())) = some ((), (if (mpX s.size (bytesOf s)).err = 0 then (mpX s.size (bytesOf s)).lab.t else zlm, ((errOf (mpX s.size (bytesOf s)).err, ()), ()))) := by
  have w0 := X.wf_new s
  have h0 := scan_new s
  have h1 := mail_gapX s _ w0 hs
  have w1 := gapX_wf w0
  have h2 := mail_wkX s _ w1 hs
  have w2 := wkX_wf w1
  have h3 := mail_dateX s _ w2 hs 0 0 0 0 0 0 0 0
  have w3 := dateX_wf w2
  have h4 := mail_gapX s _ w3 hs
  have w4 := gapX_wf w3
  have h5 := scan_fail s (gapX s.size (dateX s.size (wkX s.size (gapX s.size (.good (bytesOf s))).1).1).1).1 2
  have w5 := failX_wf w4 2
  have core : ∀ x : X, x.wf s → x = (if (gapX s.size (dateX s.size (wkX s.size (gapX s.size (.good (bytesOf s))).1).1).1).2 then (gapX s.size (dateX s.size (wkX s.size (gapX s.size (.good (bytesOf s))).1).1).1).1 else failX s.size 2 (gapX s.size (dateX s.size (wkX s.size (gapX s.size (.good (bytesOf s))).1).1).1).1) → ∀ f : Nat,
      f_mail_Parse_p6 (f_mail_Parse_t f) ((zlm, ((s, ()), ((x.t s).1, (((dateX s.size (wkX s.size (gapX s.size (.good (bytesOf s))).1).1).2.1, ((dateX s.size (wkX s.size (gapX s.size (.good (bytesOf s))).1).1).2.2.1, ((dateX s.size (wkX s.size (gapX s.size (.good (bytesOf s))).1).1).2.2.2, (0, (0, (0, (0, (0, ())))))))), ())))), ((), ((), ((), (((wkX s.size (gapX s.size (.good (bytesOf s))).1).2, ()), ()))))) =
        some ((), (if (mpX s.size (bytesOf s)).err = 0 then (mpX s.size (bytesOf s)).lab.t else zlm, ((errOf (mpX s.size (bytesOf s)).err, ()), ()))) := by
    intro x hx ex f
    have k1 := mail_clkX s x hx hs (dateX s.size (wkX s.size (gapX s.size (.good (bytesOf s))).1).1).2.1 (dateX s.size (wkX s.size (gapX s.size (.good (bytesOf s))).1).1).2.2.1 (dateX s.size (wkX s.size (gapX s.size (.good (bytesOf s))).1).1).2.2.2 0 0 0 0
    have v1 := clkX_wf hx
    have k2 := mail_zonX s _ v1 hs
    have v2 := zonX_wf v1
    have k3 := mail_gapX s _ v2 hs
    have v3 := gapX_wf v2
    have k4 := scan_end s _ v3
    have hc := label_check (mpX s.size (bytesOf s)).lab
    have hp : mpX s.size (bytesOf s) = ⟨(wkX s.size (gapX s.size (.good (bytesOf s))).1).2, (dateX s.size (wkX s.size (gapX s.size (.good (bytesOf s))).1).1).2.1, (dateX s.size (wkX s.size (gapX s.size (.good (bytesOf s))).1).1).2.2.1, (dateX s.size (wkX s.size (gapX s.size (.good (bytesOf s))).1).1).2.2.2,
      (clkX s.size x).2.1, (clkX s.size x).2.2.1, (clkX s.size x).2.2.2, (zonX s.size (clkX s.size x).1).2.1, (zonX s.size (clkX s.size x).1).2.2, (gapX s.size (zonX s.size (clkX s.size x).1).1).1⟩ := by
      rw [ex]; rfl
    simp only [X.t, X.p] at k1 k2 k3 k4
    simp only [f_mail_Parse_p6, X.t, k1, k2, k3, k4, Option.bind_some]
    generalize mpX s.size (bytesOf s) = P at hc hp ⊢
    have p1 := congrArg MP.w hp
    have p2 := congrArg MP.y hp
    have p3 := congrArg MP.m hp
    have p4 := congrArg MP.d hp
    have p5 := congrArg MP.h hp
    have p6 := congrArg MP.i hp
    have p7 := congrArg MP.s hp
    have p8 := congrArg MP.o hp
    have p9 := congrArg MP.ok hp
    have p10 := congrArg MP.e hp
    simp only at p1 p2 p3 p4 p5 p6 p7 p8 p9 p10
    simp only [Lab.t, MP.lab] at hc
    simp only [← p1, ← p2, ← p3, ← p4, ← p5, ← p6, ← p7, ← p8, ← p9, ← p10, hc, fitsS_dec, Option.bind_some, Option.isNone_none, Option.isNone_some, Option.isSome_none, Option.isSome_some, Bool.not_true, Bool.not_false, cond_true, cond_false, cond_dec, beq_int, bne_int, not_dec, errOf_none]
    have hw := mail_weekday P.lab
    simp only [Lab.t, MP.lab] at hw
    unfold MP.err
    cases he : P.e.end with
    | some c =>
      rw [if_pos (show (some c : Option Int) ≠ none by simp), if_neg (show ¬((2 : Int) = 0) by decide)]; rfl
    | none =>
      rw [if_neg (show ¬((none : Option Int) ≠ none) by simp)]
      simp only [Option.isNone_none, Bool.not_true, cond_false]
      cases hk : P.ok
      · rw [if_pos rfl, if_neg (show ¬((1 : Int) = 0) by decide)]; rfl
      · rw [if_neg (show ¬((true : Bool) = false) by decide)]
        simp only [Bool.not_true, cond_false]
        by_cases c1 : P.y < 1900
        · rw [if_pos c1, if_pos c1, if_neg (show ¬((13 : Int) = 0) by decide)]; rfl
        · rw [if_neg c1, if_neg c1]
          by_cases c2 : labErr P.lab = 0
          · have hd := (labErr_zero c2).1
            simp only [MP.lab] at hd c2
            have c2' : labErr P.lab = 0 := c2
            rw [hw hd]
            simp only [c2, c2', MP.lab, not_true_eq_false, if_false, ne_eq, Option.bind_some, fitsS_dec, Option.bind_some, Option.isNone_none, Option.isNone_some, Option.isSome_none, Option.isSome_some, Bool.not_true, Bool.not_false, cond_true, cond_false, cond_dec, beq_int, bne_int, not_dec]
            by_cases c3 : P.w = 0
            · simp only [c3, not_true_eq_false, false_and, if_false, if_true]; rfl
            · by_cases c4 : P.w = wdN (dnum P.y P.m P.d)
              · have hA : ¬(¬P.w = 0 ∧ ¬P.w = wdN (dnum P.y P.m P.d)) := fun q => q.2 c4
                rw [if_pos c3, if_neg (not_not_intro c4)]
                simp only [if_neg hA, if_true]; rfl
              · have hA : ¬P.w = 0 ∧ ¬P.w = wdN (dnum P.y P.m P.d) := ⟨c3, c4⟩
                rw [if_pos c3, if_pos c4]
                simp only [if_pos hA]
                rw [if_neg (show ¬((1 : Int) = 0) by decide)]; rfl
          · have c2' := c2
            simp only [MP.lab] at c2'
            simp only [c2', c2, MP.lab, ne_eq, not_false_eq_true, if_true, if_false]
  simp only [X.t] at h0 h1 h2 h3 h4 h5 core
  unfold g_mail_Parse
  cases hb : (gapX s.size (dateX s.size (wkX s.size (gapX s.size (.good (bytesOf s))).1).1).1).2
  · refine (Evn.some 1 fun f => ?_).lim
    simp only [f_mail_Parse_m, h0, h1, h2, h3, h4, h5, Option.bind_some, hb, Bool.not_false, cond_true, t_mail_Parse]
    exact core _ w5 (by rw [hb]; rfl) f
  · refine (Evn.some 1 fun f => ?_).lim
    simp only [f_mail_Parse_m, h0, h1, h2, h3, h4, Option.bind_some, hb, Bool.not_true, cond_false, t_mail_Parse]
    exact core _ w4 (by rw [hb]; rfl) f
end Go.Proofs.YtddnfappkfiidaaGreat.Ev
namespace Go.Proofs.YtddnfappkfiidaaGreat.Ev
open Go
set_option linter.unusedVariables false
set_option linter.unusedSimpArgs false
/-- A date's text. -/
def mailL (l : Lab) : List Int :=
  wkN (wdN (dnum l.y l.m l.d)).toNat ++ (44 :: 32 :: (dgs l.d.toNat 2 ++ (32 :: (moN l.m.toNat ++ (32 :: (dgs l.y.toNat 4 ++ (32 :: (dgs l.h.toNat 2 ++ (58 :: (dgs l.i.toNat 2 ++ (58 :: (dgs l.s.toNat 2 ++ (32 :: (if l.o < 0 then 45 else 43) :: (dgs (l.o.natAbs / 60) 2 ++ dgs (l.o.natAbs % 60) 2))))))))))))))
def putE25 (l : Lab) : Int := if labErr l ≠ 0 then labErr l else if l.y < 1900 then 13 else if l.n ≠ 0 then 1 else 0
@[reducible] def firstL : List Int := [84, 104, 117, 44, 32, 49, 51, 32, 70, 101, 98, 32, 49, 57, 54, 57, 32, 50, 51, 58, 51, 50, 32, 45, 48, 51, 51, 48, 32, 40, 78, 101, 119, 102, 111, 117, 110, 100, 108, 97, 110, 100, 32, 84, 105, 109, 101, 41]
end Go.Proofs.YtddnfappkfiidaaGreat.Ev
namespace Go.Proofs.YtddnfappkfiidaaGreat.Ev
open Go
set_option linter.unusedVariables false
set_option linter.unusedSimpArgs false
end Go.Proofs.YtddnfappkfiidaaGreat.Ev
namespace Go.Proofs.YtddnfappkfiidaaGreat.Ev
open Go
set_option linter.unusedVariables false
set_option linter.unusedSimpArgs false
def cmpI (a b : Int) : Int := if a < b then -1 else if b < a then 1 else 0
def firstOf : List Int → Int
  | [] => 0
  | x :: l => if x ≠ 0 then x else firstOf l
def cErr (a b : Lab) : Int := if labErr a ≠ 0 then labErr a else labErr b
def cVal (a b : Lab) : Int := if cErr a b ≠ 0 then 0 else firstOf [cmpI (labN a) (labN b), cmpI (labS a) (labS b), cmpI a.n b.n]
def zl : Lab := ⟨0, 0, 0, 0, 0, 0, 0, 0⟩
def clkM (s : Int) : Int := if s = 86400 then 1439 else s / 60
def clkS (s : Int) : Int := if s = 86400 then 60 else s % 60
def ofErr (n s x o : Int) : Int :=
  if ¬ there n then 13 else if ¬((0 ≤ s ∧ s ≤ 86400) ∧ (0 ≤ x ∧ x ≤ 999999999) ∧ (-1439 ≤ o ∧ o ≤ 1439)) then 1 else if ¬ there (n + (clkM s + o) / 1440) then 13 else 0
theorem label_clk (s : Int) (h : 0 ≤ s ∧ s ≤ 86400) : g_label_clock ((), ((s, ()), ())) = some ((), ((clkM s, ()), ((clkS s, ()), ()))) := by
  simp only [g_label_clock, f_label_clock_m, fitsS_dec, Option.bind_some, Option.isNone_none, Option.isNone_some, Option.isSome_none, Option.isSome_some, Bool.not_true, Bool.not_false, cond_true, cond_false, cond_dec, beq_int, bne_int, not_dec, clkM, clkS]
  by_cases c : s = 86400
  · simp only [c, if_true]
  · simp only [c, if_false]
    rw [iquo_nn (by decide) (by omega), tmod_nn (by omega)]
theorem clk_range {s : Int} (h : 0 ≤ s ∧ s ≤ 86400) : (0 ≤ clkM s ∧ clkM s ≤ 1439) ∧ 0 ≤ clkS s ∧ clkS s ≤ 60 := by
  unfold clkM clkS; split <;> omega
theorem ofErr_zero {n s x o : Int} : ofErr n s x o = 0 ↔ there n ∧ (0 ≤ s ∧ s ≤ 86400) ∧ (0 ≤ x ∧ x ≤ 999999999) ∧ (-1439 ≤ o ∧ o ≤ 1439) ∧ there (n + (clkM s + o) / 1440) := by
  unfold ofErr; constructor
  · intro h
    split at h
    · cases h
    · rename_i c1
      split at h
      · cases h
      · rename_i c2
        split at h
        · cases h
        · rename_i c3
          exact ⟨by simpa using c1, by omega, by omega, by omega, by simpa using c3⟩
  · rintro ⟨a, b, c, d, e⟩
    rw [if_neg (by simp [a]), if_neg (by simp [b, c, d]), if_neg (by simp [e])]
def ofLab (y m d s x o : Int) : Lab := ⟨y, m, d, (clkM s + o) % 1440 / 60, (clkM s + o) % 1440 % 60, clkS s, x, o⟩
theorem label_of_ok {n s x o y m d : Int} (h : ofErr n s x o = 0) (hd : IsDate (n + (clkM s + o) / 1440) y m d) : g_label_Of ((), ((n, ()), ((s, ()), ((x, ()), ((o, ()), ()))))) = some ((), ((ofLab y m d s x o).t, ((none, ()), ()))) := by
  obtain ⟨c1, c2, c3, c4, c5⟩ := ofErr_zero.1 h
  simp only [g_label_Of, f_label_Of_m, label_there, label_in, label_shifts, fitsS_dec, Option.bind_some, Option.isNone_none, Option.isNone_some, Option.isSome_none, Option.isSome_some, Bool.not_true, Bool.not_false, cond_true, cond_false, cond_dec, beq_int, bne_int, not_dec]
  rw [if_neg (show ¬¬ there n by simp [c1]), if_neg (show ¬¬(0 ≤ s ∧ s < 86401) by omega), if_neg (show ¬¬(0 ≤ x ∧ x < 1000000000) by omega), if_neg (show ¬¬(-1439 ≤ o ∧ o ≤ 1439) by omega)]
  have hk := clk_range c2
  unfold there at c1 c5
  simp only [label_clk s c2, Option.bind_some]
  rw [iadd_i64 (by omega), num_split _ _ (by decide) (by decide) (by omega)]
  simp only [fitsS_dec, Option.bind_some, Option.isNone_none, Option.isNone_some, Option.isSome_none, Option.isSome_some, Bool.not_true, Bool.not_false, cond_true, cond_false, cond_dec, beq_int, bne_int, not_dec]
  rw [iadd_i64 (by omega), day_date c5 hd]
  simp only [fitsS_dec, Option.bind_some, Option.isNone_none, Option.isNone_some, Option.isSome_none, Option.isSome_some, Bool.not_true, Bool.not_false, cond_true, cond_false, cond_dec, beq_int, bne_int, not_dec]
  rw [iquo_nn (by decide) (by omega), tmod_nn (by omega)]; rfl
end Go.Proofs.YtddnfappkfiidaaGreat.Ev
namespace Go.Proofs.YtddnfappkfiidaaGreat.Ev
open Go
set_option linter.unusedVariables false
set_option linter.unusedSimpArgs false
theorem there_date {n y m d : Int} (h : IsDate n y m d) (hy : -9999 ≤ y ∧ y ≤ 9999) : there n := by
  have a := isDate_year h
  have e1 : dnum (-9999) 1 1 = -4371587 := rfl
  have e2 : dnum 10000 1 1 = 2932897 := rfl
  unfold there
  constructor
  · by_cases c : -9999 < y
    · have := ystart_mono (y := -9999) c
      have := ylen_eq (-9999)
      have e3 : ylen (-9999) = 365 := by decide
      omega
    · obtain rfl : y = -9999 := by omega
      omega
  · by_cases c : y + 1 < 10000
    · have := ystart_mono (y := y + 1) (y' := 10000) c
      have := ylen_eq (y + 1)
      have e3 : 365 ≤ ylen (y + 1) := by unfold ylen; split <;> omega
      omega
    · obtain rfl : y = 9999 := by omega
      rw [show (9999 : Int) + 1 = 10000 from rfl] at a; omega
theorem clk_of_lab {l : Lab} (h : labErr l = 0) : clkM (labS l) = labM l % 1440 ∧ clkS (labS l) = l.s ∧ 0 ≤ labS l ∧ labS l ≤ 86400 := by
  obtain ⟨_, h1, _, h3⟩ := labErr_zero h
  have hf := fErr_zero.1 h1
  unfold labS
  by_cases c : l.s = 60
  · have := h3 c
    rw [c, this]; exact ⟨rfl, rfl, by omega, by omega⟩
  · unfold clkM clkS
    rw [if_neg (by omega), if_neg (by omega)]; omega
theorem of_split (l : Lab) (h : labErr l = 0) : ofErr (labN l) (labS l) l.n l.o = 0 ∧ g_label_Of ((), ((labN l, ()), ((labS l, ()), ((l.n, ()), ((l.o, ()), ()))))) = some ((), (l.t, ((none, ()), ()))) := by
  obtain ⟨h0, h1, h2, h3⟩ := labErr_zero h
  obtain ⟨k1, k2, k3⟩ := clk_of_lab h
  have hf := fErr_zero.1 h1
  obtain ⟨d1, d2, d3⟩ := dErr_zero.1 h0
  have e : labN l + (clkM (labS l) + l.o) / 1440 = dnum l.y l.m l.d := by rw [k1]; unfold labN labM; omega
  have hd : IsDate (labN l + (clkM (labS l) + l.o) / 1440) l.y l.m l.d := ⟨d2, d3, e.symm⟩
  have ho : ofErr (labN l) (labS l) l.n l.o = 0 := ofErr_zero.2 ⟨h2, k3, by omega, by omega, there_date hd d1⟩
  refine ⟨ho, ?_⟩
  rw [label_of_ok ho hd]
  have e1 : (clkM (labS l) + l.o) % 1440 = l.h * 60 + l.i := by rw [k1]; unfold labM; omega
  have e2 : ofLab l.y l.m l.d (labS l) l.n l.o = l := by
    unfold ofLab; rw [e1, k2, show (l.h * 60 + l.i) / 60 = l.h by omega, show (l.h * 60 + l.i) % 60 = l.i by omega]
  rw [e2]
theorem split_of {n s x o y m d : Int} (h : ofErr n s x o = 0) (hd : IsDate (n + (clkM s + o) / 1440) y m d) : labErr (ofLab y m d s x o) = 0 ∧ labN (ofLab y m d s x o) = n ∧ labS (ofLab y m d s x o) = s := by
  obtain ⟨c1, c2, c3, c4, c5⟩ := ofErr_zero.1 h
  have hk := clk_range c2
  have hy := year_bound hd c5
  have e1 : labM (ofLab y m d s x o) = (clkM s + o) % 1440 - o := by unfold labM ofLab; simp only; omega
  have e2 : labN (ofLab y m d s x o) = n := by
    unfold labN; rw [e1]; show dnum y m d + _ = _
    rw [hd.2.2]; omega
  have e3 : labM (ofLab y m d s x o) % 1440 = clkM s := by rw [e1]; omega
  have e4 : labS (ofLab y m d s x o) = s := by
    unfold labS; rw [e3]; show clkM s * 60 + clkS s = s
    unfold clkM clkS; split <;> omega
  refine ⟨?_, e2, e4⟩
  have f0 : dErr (ofLab y m d s x o).y (ofLab y m d s x o).m (ofLab y m d s x o).d = 0 := dErr_zero.2 ⟨hy, hd.1, hd.2.1⟩
  have f1 : fErr (ofLab y m d s x o) = 0 := fErr_zero.2 (by unfold ofLab; simp only; omega)
  unfold labErr
  rw [if_neg (by simp [f0]), if_neg (by simp [f1]), e2, if_neg (by simp [c1]), e3, if_neg]
  rintro ⟨a, b⟩
  have a : clkS s = 60 := a
  unfold clkS at a; unfold clkM at b
  split at a
  · rename_i c; rw [if_pos c] at b; omega
  · omega
end Go.Proofs.YtddnfappkfiidaaGreat.Ev
namespace Go.Proofs.YtddnfappkfiidaaGreat.Ev
open Go
set_option linter.unusedVariables false
set_option linter.unusedSimpArgs false
end Go.Proofs.YtddnfappkfiidaaGreat.Ev
namespace Go.Proofs.YtddnfappkfiidaaGreat.Ev
open Go
set_option linter.unusedVariables false
set_option linter.unusedSimpArgs false
structure NL where (n s c p h a : Int) (m : Bool)
@[reducible] def NL.t (l : NL) : Int × (Int × (Int × (Int × (Int × (Int × (Bool × Unit)))))) := (l.n, (l.s, (l.c, (l.p, (l.h, (l.a, (l.m, ())))))))
def fiveE (n : Int) : Int := if ¬ there n then 13 else if n < -40587 ∨ 59412 < n then 1 else 0
theorem fiveE_zero {n : Int} (h : fiveE n = 0) : there n ∧ -40587 ≤ n ∧ n ≤ 59412 := by
  unfold fiveE at h
  by_cases c : there n
  · rw [if_neg (not_not_intro c)] at h
    by_cases c2 : n < -40587 ∨ 59412 < n
    · rw [if_pos c2] at h; cases h
    · exact ⟨c, by omega, by omega⟩
  · rw [if_pos c] at h; cases h
theorem mjd_there (n : Int) : g_mjd_there ((), ((n, ()), ())) = some ((), ((decide (there n), ()), ())) := by
  simp only [g_mjd_there, f_mjd_there_m, day_first, day_last, fitsS_dec, Option.bind_some, Option.isNone_none, Option.isNone_some, Option.isSome_none, Option.isSome_some, Bool.not_true, Bool.not_false, cond_true, cond_false, cond_dec, beq_int, bne_int, not_dec, ge_iff_le]
  by_cases c : there n
  · rw [decide_eq_true c]
    unfold there at c
    rw [if_pos (by omega), decide_eq_true (by omega)]
  · rw [decide_eq_false c]
    unfold there at c
    by_cases h : -4371587 ≤ n
    · rw [if_pos h, decide_eq_false (by omega)]
    · rw [if_neg h]
theorem mjd_count (n : Int) (hn : there n) : g_mjd_Count ((), ((1, ()), ((n, ()), ()))) = some ((), ((n + 40587, ()), ((none, ()), ()))) := by
  have := hn
  unfold there at this
  simp only [g_mjd_Count, f_mjd_Count_m, g_mjd_zero, f_mjd_zero_m, mjd_there, fitsS_dec, Option.bind_some, Option.isNone_none, Option.isNone_some, Option.isSome_none, Option.isSome_some, Bool.not_true, Bool.not_false, cond_true, cond_false, cond_dec, beq_int, bne_int, not_dec, if_true, not_true_eq_false, if_false, hn]
  rw [iadd_i64 (by omega)]
theorem mjd_five (n : Int) : g_mjd_Five ((), ((n, ()), ())) = some ((), ((if fiveE n = 0 then strOf (dgs (n + 40587).toNat 5) else strOf [], ()), ((errOf (fiveE n), ()), ()))) := by
  unfold fiveE
  by_cases c : there n
  · simp only [g_mjd_Five, f_mjd_Five_m, mjd_count n c, fitsS_dec, Option.bind_some, Option.isNone_none, Option.isNone_some, Option.isSome_none, Option.isSome_some, Bool.not_true, Bool.not_false, cond_true, cond_false, cond_dec, beq_int, bne_int, not_dec, str_nil, gt_iff_lt, c, not_true_eq_false, if_false]
    by_cases c2 : n < -40587 ∨ 59412 < n
    · simp only [c2, if_true, show ((1 : Int) = 0) = False by simp, if_false]
      by_cases c3 : n + 40587 < 0
      · rw [if_pos c3]; rfl
      · rw [if_neg c3, if_pos (by omega)]; rfl
    · simp only [c2, if_false, if_true]
      rw [if_neg (by omega), if_neg (by omega)]
      have := fig_put_dg (n + 40587) 5 (by omega) (by omega)
      rw [show ((5 : Nat) : Int) = 5 from rfl] at this
      rw [this]; rfl
  · simp only [c, not_false_eq_true, if_true, show ((13 : Int) = 0) = False by simp, if_false]
    simp only [g_mjd_Five, f_mjd_Five_m, g_mjd_Count, f_mjd_Count_m, g_mjd_zero, f_mjd_zero_m, mjd_there, fitsS_dec, Option.bind_some, Option.isNone_none, Option.isNone_some, Option.isSome_none, Option.isSome_some, Bool.not_true, Bool.not_false, cond_true, cond_false, cond_dec, beq_int, bne_int, not_dec, if_true, c, not_false_eq_true, str_nil]; rfl
def NL.fit (l : NL) : Prop := (0 ≤ l.s ∧ l.s ≤ 86400) ∧ (0 ≤ l.c ∧ l.c ≤ 99) ∧ (0 ≤ l.p ∧ l.p ≤ 2) ∧ (0 ≤ l.h ∧ l.h ≤ 9) ∧ (0 ≤ l.a ∧ l.a ≤ 9999)
instance (l : NL) : Decidable l.fit := by unfold NL.fit; infer_instance
def NL.err (l : NL) : Int := if fiveE l.n ≠ 0 then fiveE l.n else if l.fit then 0 else 1
theorem NL.err_zero {l : NL} (h : l.err = 0) : fiveE l.n = 0 ∧ l.fit := by
  unfold NL.err at h
  by_cases c : fiveE l.n = 0
  · rw [if_neg (not_not_intro c)] at h
    by_cases c2 : l.fit
    · exact ⟨c, c2⟩
    · rw [if_neg c2] at h; cases h
  · rw [if_pos c] at h; exact absurd h c
theorem nist_in (x b : Int) : g_nist_in ((), ((x, ()), ((b, ()), ()))) = some ((), ((decide (0 ≤ x ∧ x ≤ b), ()), ())) := by
  simp only [g_nist_in, f_nist_in_m, fitsS_dec, Option.bind_some, Option.isNone_none, Option.isNone_some, Option.isSome_none, Option.isSome_some, Bool.not_true, Bool.not_false, cond_true, cond_false, cond_dec, beq_int, bne_int, not_dec, ge_iff_le]
  by_cases h : 0 ≤ x
  · rw [if_pos h]; congr 4; simp only [decide_eq_decide]; omega
  · rw [if_neg h, decide_eq_false (fun q => h q.1)]
theorem nist_check (l : NL) : g_nist_Check ((), (l.t, ())) = some ((), ((errOf l.err, ()), ())) := by
  simp only [g_nist_Check, f_nist_Check_m, mjd_five, nist_in, fitsS_dec, Option.bind_some, Option.isNone_none, Option.isNone_some, Option.isSome_none, Option.isSome_some, Bool.not_true, Bool.not_false, cond_true, cond_false, cond_dec, beq_int, bne_int, not_dec, errOf_none, NL.t]
  unfold NL.err
  by_cases c : fiveE l.n = 0
  · simp only [c, not_true_eq_false, if_false, ne_eq]
    by_cases f : l.fit
    · have f' := f
      unfold NL.fit at f'
      rw [if_pos f, if_neg (by omega), if_neg (by omega), if_neg (by omega), if_neg (by omega), if_neg (by omega)]; rfl
    · rw [if_neg f]
      unfold NL.fit at f
      by_cases q1 : 0 ≤ l.s ∧ l.s ≤ 86400
      · rw [if_neg (not_not_intro q1)]
        by_cases q2 : 0 ≤ l.c ∧ l.c ≤ 99
        · rw [if_neg (not_not_intro q2)]
          by_cases q3 : 0 ≤ l.p ∧ l.p ≤ 2
          · rw [if_neg (not_not_intro q3)]
            by_cases q4 : 0 ≤ l.h ∧ l.h ≤ 9
            · rw [if_neg (not_not_intro q4), if_pos (fun q5 => f ⟨q1, q2, q3, q4, q5⟩)]; rfl
            · rw [if_pos q4]; rfl
          · rw [if_pos q3]; rfl
        · rw [if_pos q2]; rfl
      · rw [if_pos q1]; rfl
  · simp only [c, not_false_eq_true, if_true, ne_eq]
theorem nist_modulo (a c : Int) (hc : 0 < c ∧ c ≤ 1000) (ha : -1000000 ≤ a ∧ a ≤ 1000000) : g_nist_modulo ((), ((a, ()), ((c, ()), ()))) = some ((), ((a % c, ()), ())) := by
  have hr : -c < Int.tmod a c ∧ Int.tmod a c < c := by
    have h1 := Int.emod_nonneg a (show c ≠ 0 by omega)
    have h2 := Int.emod_lt_of_pos a hc.1
    have h3 := Int.emod_nonneg (-a) (show c ≠ 0 by omega)
    have h4 := Int.emod_lt_of_pos (-a) hc.1
    rw [tmod_pos c hc.1]
    split <;> omega
  have e : (Int.tmod a c + c) % c = a % c := by
    rw [Int.add_emod_right]
    by_cases h : 0 ≤ a
    · rw [tmod_nn h, Int.emod_emod_of_dvd _ (Int.dvd_refl c)]
    · have := Int.tmod_add_mul_tdiv a c
      have e2 : a % c = (Int.tmod a c + c * Int.tdiv a c) % c := by rw [this]
      rw [e2, Int.add_mul_emod_self_left]
  simp only [g_nist_modulo, f_nist_modulo_m, fitsS_dec, Option.bind_some, Option.isNone_none, Option.isNone_some, Option.isSome_none, Option.isSome_some, Bool.not_true, Bool.not_false, cond_true, cond_false, cond_dec, beq_int, bne_int, not_dec]
  rw [if_neg (by omega), if_neg (by omega), iadd_i64 (by omega), tmod_nn (by omega), e]
/-- An advance's text. -/
def advL (a : Int) : List Int := (List.replicate (3 - (padd (a / 10).toNat 1).length) 32 ++ padd (a / 10).toNat 1) ++ 46 :: dgs (a % 10).toNat 1
theorem padd3 {a : Int} (h : 0 ≤ a ∧ a ≤ 9999) : (padd (a / 10).toNat 1).length ≤ 3 := by
  have := figs_len 3 (a / 10).toNat (by omega)
  unfold padd
  simp only [List.length_append, List.length_replicate, List.length_reverse]; omega
/-- A line's text, by its parts. -/
def lineL (l : NL) (y m d : Int) : List Int :=
  10 :: (dgs (l.n + 40587).toNat 5 ++ (32 :: (dgs (y % 100).toNat 2 ++ (45 :: (dgs m.toNat 2 ++ (45 :: (dgs d.toNat 2 ++ (32 :: (dgs (clkM l.s / 60).toNat 2 ++ (58 :: (dgs (clkM l.s % 60).toNat 2 ++ (58 :: (dgs (clkS l.s).toNat 2 ++ (32 :: (dgs l.c.toNat 2 ++ (32 :: (dgs l.p.toNat 1 ++ (32 :: (dgs l.h.toNat 1 ++
    (32 :: (advL l.a ++ [32, 85, 84, 67, 40, 78, 73, 83, 84, 41, 32, if l.m then 35 else 42, 10])))))))))))))))))))))
theorem advL_len {a : Int} (h : 0 ≤ a ∧ a ≤ 9999) : (advL a).length = 5 := by
  have := padd3 h
  unfold advL
  simp only [List.length_append, List.length_replicate, List.length_cons, dgs_len]; omega
theorem advL_by (a : Int) : okBy (advL a) := okBy_app (okBy_app (okBy_rep _ (by omega)) (padd_by _ _)) (okBy_cons (by omega) (dgs_by _ _))
theorem lineL_by (l : NL) (y m d : Int) : okBy (lineL l y m d) := by
  have tail : okBy [32, 85, 84, 67, 40, 78, 73, 83, 84, 41, 32, if l.m then 35 else 42, 10] := by
    intro x hx
    simp only [List.mem_cons, List.not_mem_nil, or_false] at hx
    rcases hx with h | h | h | h | h | h | h | h | h | h | h | h | h <;> first | omega | (rw [h]; split <;> omega)
  have c32 : ∀ {l : List Int}, okBy l → okBy (32 :: l) := fun h => okBy_cons (by omega) h
  have c45 : ∀ {l : List Int}, okBy l → okBy (45 :: l) := fun h => okBy_cons (by omega) h
  have c58 : ∀ {l : List Int}, okBy l → okBy (58 :: l) := fun h => okBy_cons (by omega) h
  have D : ∀ {n w : Nat} {l : List Int}, okBy l → okBy (dgs n w ++ l) := fun h => okBy_app (dgs_by _ _) h
  exact okBy_cons (by omega) (D (c32 (D (c45 (D (c45 (D (c32 (D (c58 (D (c58 (D (c32 (D (c32 (D (c32 (D (c32 (okBy_app (advL_by _) tail)))))))))))))))))))))
end Go.Proofs.YtddnfappkfiidaaGreat.Ev
namespace Go.Proofs.YtddnfappkfiidaaGreat.Ev
open Go
set_option linter.unusedVariables false
set_option linter.unusedSimpArgs false
end Go.Proofs.YtddnfappkfiidaaGreat.Ev
namespace Go.Proofs.YtddnfappkfiidaaGreat.Ev
open Go
set_option linter.unusedVariables false
set_option linter.unusedSimpArgs false
def exactX (n : Nat) : List Int → X → X
  | [], x => x
  | c :: L, x => exactX n L (if oneX c x then takeX 1 x else failX n 2 x)
theorem oneX_wf {s : ByteArray} {x : X} (h : x.wf s) (c : Int) : (if oneX c x then takeX 1 x else failX s.size 2 x).wf s := by
  split
  · exact takeX_wf h 1
  · exact failX_wf h 2
theorem exactX_wf {s : ByteArray} : ∀ {L : List Int} {x : X}, x.wf s → (exactX s.size L x).wf s
  | [], x, h => h
  | c :: L, x, h => exactX_wf (L := L) (oneX_wf h c)
theorem exact_p2 (s : ByteArray) (hs : s.size ≤ 1000000) (M : List Int) (hM : okBy M) (hl : M.length ≤ 1000) : ∀ (k i : Nat) (x : X), i + k = M.length → x.wf s →
    Evn (fun f => (f_nist_reader_exact_io_t f).1 (((x.t s).1, ((), ())), ((), ((strOf M, ()), ((), (((M.length : Int), ()), (((i : Int), ()), ()))))))) ((exactX s.size (M.drop i) x).t s, ((), ())) := by
  intro k; induction k with
  | zero =>
    intro i x hi h
    refine Evn.some 1 fun f => ?_
    rw [List.drop_of_length_le (by omega)]
    simp only [t_nist_reader_exact_io, f_nist_reader_exact_io_p2, X.t, exactX, fitsS_dec, Option.bind_some, Option.isNone_none, Option.isNone_some, Option.isSome_none, Option.isSome_some, Bool.not_true, Bool.not_false, cond_true, cond_false, cond_dec, beq_int, bne_int, not_dec]
    rw [if_neg (by omega)]
  | succ k ih =>
    intro i x hi h
    have hb := by_at (strOf M) (i := (i : Int)) (by omega) (by rw [str_size]; omega)
    rw [by_str hM, Int.toNat_natCast] at hb
    have hd : M.drop i = M.getD i 0 :: M.drop (i + 1) := by
      rw [List.drop_eq_getElem_cons (by omega), List.getD_eq_getElem?_getD, List.getElem?_eq_getElem (by omega)]; rfl
    have ih' := ih (i + 1) _ (by omega) (oneX_wf h (M.getD i 0))
    rw [hd]
    refine ih'.step fun f => ?_
    have hT := scan_Take s x h hs (M.getD i 0)
    simp only [X.t] at hT
    simp only [t_nist_reader_exact_io, f_nist_reader_exact_io_p2, X.t, fitsS_dec, Option.bind_some, Option.isNone_none, Option.isNone_some, Option.isSome_none, Option.isSome_some, Bool.not_true, Bool.not_false, cond_true, cond_false, cond_dec, beq_int, bne_int, not_dec, str_size, and_dec]
    rw [if_pos (by omega), if_pos (by omega), hb, hT]
    simp only [Option.bind_some]
    rw [iadd_i64 (by omega)]
    by_cases c : oneX (M.getD i 0) x = true
    · simp only [c, if_true, Bool.not_true, cond_false]; rfl
    · have hF := scan_fail s x 2
      simp only [X.t] at hF
      simp only [Bool.not_eq_true] at c
      simp only [c, Bool.false_eq_true, if_false, Bool.not_false, cond_true, hF, Option.bind_some]; rfl
theorem nist_exact (s : ByteArray) (x : X) (h : x.wf s) (hs : s.size ≤ 1000000) (M : List Int) (hM : okBy M) (hl : M.length ≤ 1000) : g_nist_reader_exact_io (x.t s, ((), ((strOf M, ()), ()))) = some ((exactX s.size M x).t s, ((), ())) := by
  have := exact_p2 s hs M hM hl M.length 0 x (by omega) h
  rw [List.drop_zero] at this
  refine (this.cast fun f => ?_).lim
  simp only [f_nist_reader_exact_io_m, X.t, str_size]; rfl
def numX (n : Nat) (L : List Int) (w : Nat) (x : X) : X × Int := figX n w w (exactX n L x)
theorem numX_wf {s : ByteArray} {x : X} (h : x.wf s) (L : List Int) (w : Nat) : (numX s.size L w x).1.wf s := figX_wf (exactX_wf h) w w
theorem nist_number (s : ByteArray) (x : X) (h : x.wf s) (hs : s.size ≤ 1000000) (M : List Int) (hM : okBy M) (hl : M.length ≤ 1000) (w : Nat) (hw : 1 ≤ w ∧ w ≤ 18) : g_nist_reader_number_io (x.t s, ((), ((strOf M, ()), (((w : Int), ()), ())))) = some ((numX s.size M w x).1.t s, (((numX s.size M w x).2, ()), ((), ()))) := by
  have h1 := nist_exact s x h hs M hM hl
  have h2 := scan_figures s _ (exactX_wf (L := M) h) hs w w (by omega)
  simp only [X.t] at h1 h2
  simp only [g_nist_reader_number_io, f_nist_reader_number_io_m, X.t, h1, h2, Option.bind_some, numX]
/-- An advance, read. -/
def advX (n : Nat) (x : X) : X × Int :=
  let x1 := exactX n [32] x
  let r := runN [32] x1.rest
  let q := figX n 1 3 (takeX r x1)
  let x5 := if q.1.at n - x1.at n = 3 ∧ r + (padd q.2.toNat 1).length = 3 then q.1 else failX n 2 q.1
  let u := numX n [46] 1 x5
  (u.1, q.2 * 10 + u.2)
theorem advX_wf {s : ByteArray} {x : X} (h : x.wf s) : (advX s.size x).1.wf s := by
  unfold advX
  simp only
  refine numX_wf ?_ _ _
  split
  · exact figX_wf (takeX_wf (exactX_wf h) _) _ _
  · exact failX_wf (figX_wf (takeX_wf (exactX_wf h) _) _ _) _
theorem nist_advanceX (s : ByteArray) (x : X) (h : x.wf s) (hs : s.size ≤ 1000000) : g_nist_reader_advance_io (x.t s, ((), ())) = some ((advX s.size x).1.t s, (((advX s.size x).2, ()), ((), ()))) := by
  have l32 : (⟨#[32]⟩ : ByteArray) = strOf [32] := by kernel_rfl
  have l46 : (⟨#[46]⟩ : ByteArray) = strOf [46] := by kernel_rfl
  have o32 : okBy [32] := okBy_cons (by omega) okBy_nil
  have w1 : (exactX s.size [32] x).wf s := exactX_wf h
  have w2 := takeX_wf w1 (runN [32] (exactX s.size [32] x).rest)
  have w3 := figX_wf w2 1 3
  have e1 := nist_exact s x h hs [32] o32 (by decide)
  have e2 := scan_at s (exactX s.size [32] x)
  have e3 := scan_run s _ w1 hs [32] o32
  have e4 := scan_figures s _ w2 hs 1 3 (by decide)
  have hv := figX_val s.size 1 3 (by decide) (takeX (runN [32] (exactX s.size [32] x).rest) (exactX s.size [32] x))
  have hr1 := X.at_range w1
  have hrl := runN_le [32] (exactX s.size [32] x).rest
  have hro := X.ok_rest w1
  unfold advX
  simp only [X.t, X.p] at e1 e2 e3 e4
  simp only [g_nist_reader_advance_io, f_nist_reader_advance_io_m, X.t, l32, l46, e1, e2, e3, Option.bind_some]
  rw [show ((1 : Nat) : Int) = 1 from rfl, show ((3 : Nat) : Int) = 3 from rfl] at e4
  simp only [e4, Option.bind_some, str_size, List.length_take]
  generalize figX s.size 1 3 (takeX (runN [32] (exactX s.size [32] x).rest) (exactX s.size [32] x)) = q at w3 hv ⊢
  have hr3 := X.at_range w3
  have e5 := scan_at s q.1
  have e6 := scan_fail s q.1 2
  have hp : g_figures_Put ((), ((q.2, ()), ((1, ()), ()))) = some ((), ((strOf (padd q.2.toNat 1), ()), ((none, ()), ()))) := fig_put_nn q.2 1 (by omega) (by omega)
  have hpl := padd3 (a := q.2 * 10) (by omega)
  rw [Int.mul_ediv_cancel _ (by decide)] at hpl
  have N : ∀ x6 : X, x6.wf s → g_nist_reader_number_io (x6.t s, ((), ((strOf [46], ()), ((1, ()), ())))) = some ((numX s.size [46] 1 x6).1.t s, (((numX s.size [46] 1 x6).2, ()), ((), ()))) := fun x6 h6 => nist_number s x6 h6 hs [46] (okBy_cons (by omega) okBy_nil) (by decide) 1 (by decide)
  have hu : ∀ x6 : X, 0 ≤ (numX s.size [46] 1 x6).2 ∧ (numX s.size [46] 1 x6).2 < 10 := fun x6 => figX_val s.size 1 1 (by decide) _
  have n1 := N _ w3
  have n2 := N _ (failX_wf w3 2)
  have u1 := hu q.1
  have u2 := hu (failX s.size 2 q.1)
  simp only [X.t, X.p] at e5 e6 n1 n2
  have hmin : min (runN [32] (exactX s.size [32] x).rest) (exactX s.size [32] x).rest.length = runN [32] (exactX s.size [32] x).rest := by omega
  have i1 : isub .i64 (q.1.at s.size) ((exactX s.size [32] x).at s.size) = q.1.at s.size - (exactX s.size [32] x).at s.size := isub_i64 (by omega)
  have i2 : iadd .i64 ((runN [32] (exactX s.size [32] x).rest : Nat) : Int) ((padd q.2.toNat 1).length : Int) = (runN [32] (exactX s.size [32] x).rest : Nat) + ((padd q.2.toNat 1).length : Int) := iadd_i64 (by omega)
  have i3 : imul .i64 q.2 10 = q.2 * 10 := imul_i64 (by omega)
  have i4 : iadd .i64 (q.2 * 10) (numX s.size [46] 1 q.1).2 = q.2 * 10 + (numX s.size [46] 1 q.1).2 := iadd_i64 (by omega)
  have i5 : iadd .i64 (q.2 * 10) (numX s.size [46] 1 (failX s.size 2 q.1)).2 = q.2 * 10 + (numX s.size [46] 1 (failX s.size 2 q.1)).2 := iadd_i64 (by omega)
  simp only [hp, e5, e6, str_size, hmin, i1, i2, i3, n1, n2, i4, i5, fitsS_dec, Option.bind_some, Option.isNone_none, Option.isNone_some, Option.isSome_none, Option.isSome_some, Bool.not_true, Bool.not_false, cond_true, cond_false, cond_dec, beq_int, bne_int, not_dec]
  by_cases c1 : q.1.at s.size - (exactX s.size [32] x).at s.size = 3
  · by_cases c2 : runN [32] (exactX s.size [32] x).rest + (padd q.2.toNat 1).length = 3
    · rw [if_neg (not_not_intro c1), if_neg (by omega), if_pos ⟨c1, c2⟩]
    · rw [if_neg (not_not_intro c1), if_pos (by omega), if_neg (fun q => c2 q.2)]
  · rw [if_pos c1, if_neg (fun q => c1 q.1)]
end Go.Proofs.YtddnfappkfiidaaGreat.Ev
namespace Go.Proofs.YtddnfappkfiidaaGreat.Ev
open Go
set_option linter.unusedVariables false
set_option linter.unusedSimpArgs false
theorem oneX_good (c : Int) (l : List Int) : oneX c (.good (c :: l)) = true := by simp [oneX, X.rest]
theorem exact_forth (n : Nat) : ∀ (L r : List Int), exactX n L (.good (L ++ r)) = .good r
  | [], r => rfl
  | c :: L, r => by
    simp only [exactX, List.cons_append, oneX_good, if_true, takeX, List.drop_succ_cons, List.drop_zero]
    exact exact_forth n L r
theorem lead_app : ∀ (F r : List Int), (∀ x ∈ F, isF x) → lead (F ++ r) = F.length + lead r
  | [], r, _ => by simp
  | x :: F, r, h => by
    have := lead_app F r (fun y hy => h y (List.mem_cons_of_mem _ hy))
    simp only [List.cons_append, lead, if_pos (h x List.mem_cons_self), this, List.length_cons]; omega
theorem fig_forth (n : Nat) (F r : List Int) (a b : Nat) (hF : ∀ x ∈ F, isF x) (ha : a ≤ F.length) (hb : F.length ≤ b) (hr : F.length = b ∨ lead r = 0) : figX n a b (.good (F ++ r)) = (.good r, val10 F) := by
  have e : min (lead (F ++ r)) b = F.length := by rw [lead_app F r hF]; omega
  simp only [figX, e, if_pos ha, List.drop_left, List.take_left]
theorem num_forth (n : Nat) (L : List Int) (k w : Nat) (r : List Int) (hk : k < 10 ^ w) : numX n L w (.good (L ++ (dgs k w ++ r))) = (.good r, (k : Int)) := by
  unfold numX
  rw [exact_forth, fig_forth n _ r w w (dgs_ok w k) (by rw [dgs_len]; exact Nat.le_refl _) (by rw [dgs_len]; exact Nat.le_refl _) (Or.inl (dgs_len w k)), val10_dg w k hk]
theorem run_app (S : List Int) : ∀ (P r : List Int), (∀ x ∈ P, x ∈ S) → runN S (P ++ r) = P.length + runN S r
  | [], r, _ => by simp
  | x :: P, r, h => by
    have := run_app S P r (fun y hy => h y (List.mem_cons_of_mem _ hy))
    simp only [List.cons_append, runN, if_pos (h x List.mem_cons_self), this, List.length_cons]; omega
theorem figs_pow (n : Nat) : n < 10 ^ (figs n).length := by
  induction n using Nat.strongRecOn with
  | ind n ih =>
    by_cases c : n = 0
    · subst c; rw [figs_zero]; decide
    · have := ih (n / 10) (by omega)
      rw [figs_pos c, List.length_cons, Nat.pow_succ]; omega
theorem padd_len1 (n : Nat) : (padd n 1).length = max (figs n).length 1 := by
  unfold padd
  rw [List.length_append, List.length_replicate, List.length_reverse]; omega
theorem padd_self (n : Nat) : padd n 1 = dgs n (padd n 1).length := by
  rw [padd_len1]
  have h := figs_dgs (max (figs n).length 1) n (Nat.lt_of_lt_of_le (figs_pow n) (Nat.pow_le_pow_right (by omega) (Nat.le_max_left _ _)))
  unfold padd
  rw [← h]
  congr 2
  omega
theorem padd_val (n : Nat) : val10 (padd n 1) = n := by
  rw [padd_self n]
  refine val10_dg _ n ?_
  rw [padd_len1]
  exact Nat.lt_of_lt_of_le (figs_pow n) (Nat.pow_le_pow_right (by omega) (Nat.le_max_left _ _))
theorem run_fig (l : List Int) (r : List Int) (h : ∀ x ∈ l, isF x) (h0 : 1 ≤ l.length) : runN [32] (l ++ r) = 0 := by
  cases l with
  | nil => simp at h0
  | cons x l =>
    have := h x List.mem_cons_self
    unfold isF at this
    have e : ¬ x ∈ [(32 : Int)] := by simp; omega
    simp only [List.cons_append, runN, if_neg e]
theorem adv_forth (n : Nat) (v : Int) (hv : 0 ≤ v ∧ v ≤ 9999) (r : List Int) (hn : 6 + r.length ≤ n) : advX n (.good (32 :: (advL v ++ r))) = (.good r, v) := by
  have h3 := padd3 hv
  have h1 : 1 ≤ (padd (v / 10).toNat 1).length := by rw [padd_len1]; omega
  have hF := padd_isF (v / 10).toNat 1
  have e1 : exactX n [32] (.good (32 :: (advL v ++ r))) = .good (advL v ++ r) := exact_forth n [32] (advL v ++ r)
  have e2 : advL v ++ r = List.replicate (3 - (padd (v / 10).toNat 1).length) 32 ++ (padd (v / 10).toNat 1 ++ ([46] ++ (dgs (v % 10).toNat 1 ++ r))) := by
    unfold advL; simp only [List.append_assoc, List.cons_append, List.nil_append]
  have e3 : runN [32] (advL v ++ r) = 3 - (padd (v / 10).toNat 1).length := by
    rw [e2, run_app [32] _ _ (fun x hx => by rw [(List.mem_replicate.1 hx).2]; exact List.mem_cons_self), run_fig _ _ hF h1, List.length_replicate, Nat.add_zero]
  have e4 : takeX (3 - (padd (v / 10).toNat 1).length) (.good (advL v ++ r)) = .good (padd (v / 10).toNat 1 ++ ([46] ++ (dgs (v % 10).toNat 1 ++ r))) := by
    rw [e2]
    have := List.drop_left (l₁ := List.replicate (3 - (padd (v / 10).toNat 1).length) (32 : Int)) (l₂ := padd (v / 10).toNat 1 ++ ([46] ++ (dgs (v % 10).toNat 1 ++ r)))
    rw [List.length_replicate] at this
    simp only [takeX, this]
  have e5 := fig_forth n (padd (v / 10).toNat 1) ([46] ++ (dgs (v % 10).toNat 1 ++ r)) 1 3 hF h1 h3 (Or.inr (by simp [lead, isF]))
  have e6 := num_forth n [46] (v % 10).toNat 1 r (by omega)
  unfold advX
  simp only [e1, X.rest, e3, e4, e5, padd_val]
  rw [if_pos ?_, e6]
  · congr 1; omega
  · have el : (advL v ++ r).length = 5 + r.length := by rw [List.length_append, advL_len hv]
    have el2 : ([46] ++ (dgs (v % 10).toNat 1 ++ r)).length = 2 + r.length := by simp [dgs_len]; omega
    simp only [X.at, el, el2, Int.toNat_natCast]
    exact ⟨by omega, by omega⟩
end Go.Proofs.YtddnfappkfiidaaGreat.Ev
namespace Go.Proofs.YtddnfappkfiidaaGreat.Ev
open Go
set_option linter.unusedVariables false
set_option linter.unusedSimpArgs false
theorem mjd_day (k : Int) (h : 0 ≤ k ∧ k ≤ 99999) : g_mjd_Day ((), ((1, ()), ((k, ()), ()))) = some ((), ((k - 40587, ()), ((none, ()), ()))) := by
  simp only [g_mjd_Day, f_mjd_Day_m, g_mjd_zero, f_mjd_zero_m, day_first, day_last, fitsS_dec, Option.bind_some, Option.isNone_none, Option.isNone_some, Option.isSome_none, Option.isSome_some, Bool.not_true, Bool.not_false, cond_true, cond_false, cond_dec, beq_int, bne_int, not_dec, gt_iff_lt, if_true]
  rw [iadd_i64 (by omega), if_neg (by omega), iadd_i64 (by omega), if_neg (by omega), isub_i64 (by omega)]
@[reducible] def zln : Int × (Int × (Int × (Int × (Int × (Int × (Bool × Unit)))))) := (0, (0, (0, (0, (0, (0, (false, ())))))))
/-- What told finds wrong. -/
def tldE (y m d yy mm dd hh ii ss p : Int) : Int :=
  if ¬ (yy = y % 100 ∧ mm = m ∧ dd = d) then 10 else if 23 < hh ∨ 59 < ii ∨ 60 < ss ∨ 2 < p then 1 else if ss = 60 ∧ ¬ (hh = 23 ∧ ii = 59) then 12 else 0
theorem nist_told (k c p h a : Int) (m : Bool) (yy mm dd hh ii ss : Int) (hk : 0 ≤ k ∧ k ≤ 99999) (h1 : 0 ≤ hh ∧ hh ≤ 99) (h2 : 0 ≤ ii ∧ ii ≤ 99) (h3 : 0 ≤ ss ∧ ss ≤ 99) {y mo d : Int} (hd : IsDate (k - 40587) y mo d) :
    g_nist_Line_told ((), ((0, (0, (c, (p, (h, (a, (m, ()))))))), ((k, ()), ((yy, (mm, (dd, ()))), ((hh, (ii, (ss, ()))), ()))))) =
      some ((), (if tldE y mo d yy mm dd hh ii ss p = 0 then (k - 40587, ((hh * 60 + ii) * 60 + ss, (c, (p, (h, (a, (m, ()))))))) else zln, ((errOf (tldE y mo d yy mm dd hh ii ss p), ()), ()))) := by
  have ht : there (k - 40587) := by unfold there; omega
  have hy := year_bound hd ht
  have i1 : imul .i64 hh 60 = hh * 60 := imul_i64 (by omega)
  have i2 : iadd .i64 (hh * 60) ii = hh * 60 + ii := iadd_i64 (by omega)
  have i3 : imul .i64 (hh * 60 + ii) 60 = (hh * 60 + ii) * 60 := imul_i64 (by omega)
  have i4 : iadd .i64 ((hh * 60 + ii) * 60) ss = (hh * 60 + ii) * 60 + ss := iadd_i64 (by omega)
  simp only [g_nist_Line_told, f_nist_Line_told_m, mjd_day k hk, day_date ht hd, nist_modulo y 100 (by omega) (by omega), i1, i2, i3, i4, fitsS_dec, Option.bind_some, Option.isNone_none, Option.isNone_some, Option.isSome_none, Option.isSome_some, Bool.not_true, Bool.not_false, cond_true, cond_false, cond_dec, beq_int, bne_int, not_dec, and_dec, Bool.and_true, gt_iff_lt]
  unfold tldE
  by_cases c1 : yy = y % 100 ∧ mm = mo ∧ dd = d
  · rw [if_neg (not_not_intro c1), if_neg (not_not_intro c1)]
    by_cases q1 : 23 < hh
    · rw [if_pos q1, if_pos (Or.inl q1), if_neg (by decide)]; rfl
    · rw [if_neg q1]
      by_cases q2 : 59 < ii
      · rw [if_pos q2, if_pos (Or.inr (Or.inl q2)), if_neg (by decide)]; rfl
      · rw [if_neg q2]
        by_cases q3 : 60 < ss
        · rw [if_pos q3, if_pos (Or.inr (Or.inr (Or.inl q3))), if_neg (by decide)]; rfl
        · rw [if_neg q3]
          by_cases q4 : 2 < p
          · rw [if_pos q4, if_pos (Or.inr (Or.inr (Or.inr q4))), if_neg (by decide)]; rfl
          · rw [if_neg q4, if_neg (show ¬(23 < hh ∨ 59 < ii ∨ 60 < ss ∨ 2 < p) by omega)]
            by_cases q5 : ss = 60
            · rw [if_pos q5]
              by_cases q6 : hh = 23
              · rw [if_neg (not_not_intro q6)]
                by_cases q7 : ii = 59
                · rw [if_neg (not_not_intro q7), if_neg (show ¬(ss = 60 ∧ ¬(hh = 23 ∧ ii = 59)) from fun q => q.2 ⟨q6, q7⟩), if_pos rfl]; rfl
                · rw [if_pos q7, if_pos (show (ss = 60 ∧ ¬(hh = 23 ∧ ii = 59)) from ⟨q5, fun q => q7 q.2⟩), if_neg (by decide)]; rfl
              · rw [if_pos q6, if_pos (show (ss = 60 ∧ ¬(hh = 23 ∧ ii = 59)) from ⟨q5, fun q => q6 q.1⟩), if_neg (by decide)]; rfl
            · rw [if_neg q5, if_neg (show ¬(ss = 60 ∧ ¬(hh = 23 ∧ ii = 59)) from fun q => q5 q.1), if_pos rfl]; rfl
  · rw [if_pos c1, if_pos c1, if_neg (by decide)]; rfl
@[reducible] def utcL : List Int := [32, 85, 84, 67, 40, 78, 73, 83, 84, 41, 32]
/-- The parts of a line, read one after another. -/
structure PN where (x3 x4 x5 x6 x7 x8 x9 x10 x11 x12 x13 : X × Int) (x14 : X) (b : Bool) (z : X)
def pn (s : ByteArray) : PN :=
  let n := s.size
  let x3 := numX n [] 5 (exactX n [10] (.good (bytesOf s)))
  let x4 := numX n [32] 2 x3.1
  let x5 := numX n [45] 2 x4.1
  let x6 := numX n [45] 2 x5.1
  let x7 := numX n [32] 2 x6.1
  let x8 := numX n [58] 2 x7.1
  let x9 := numX n [58] 2 x8.1
  let x10 := numX n [32] 2 x9.1
  let x11 := numX n [32] 1 x10.1
  let x12 := numX n [32] 1 x11.1
  let x13 := advX n x12.1
  let x14 := exactX n utcL x13.1
  let b := oneX 35 x14
  let z := if b then exactX n [10] (takeX 1 x14) else exactX n [10] (exactX n [42] x14)
  ⟨x3, x4, x5, x6, x7, x8, x9, x10, x11, x12, x13, x14, b, z⟩
attribute [local irreducible] exactX numX advX figX takeX failX oneX X.wf in
theorem nist_parse (s : ByteArray) (hs : s.size ≤ 1000000) : g_nist_Parse ((), ((s, ()), ())) = if (pn s).z.end.isNone then
    (g_nist_Line_told ((), ((0, (0, ((pn s).x10.2, ((pn s).x11.2, ((pn s).x12.2, ((pn s).x13.2, ((pn s).b, ()))))))), (((pn s).x3.2, ()), (((pn s).x4.2, ((pn s).x5.2, ((pn s).x6.2, ()))), (((pn s).x7.2, ((pn s).x8.2, ((pn s).x9.2, ()))), ()))))))
    else some ((), (zln, ((some 2, ()), ()))) := by
  have b1 : ∀ x : Int, 0 ≤ x ∧ x < 256 → okBy [x] := fun x h => okBy_cons h okBy_nil
  have l10 : (⟨#[10]⟩ : ByteArray) = strOf [10] := by kernel_rfl
  have l32 : (⟨#[32]⟩ : ByteArray) = strOf [32] := by kernel_rfl
  have l42 : (⟨#[42]⟩ : ByteArray) = strOf [42] := by kernel_rfl
  have l45 : (⟨#[45]⟩ : ByteArray) = strOf [45] := by kernel_rfl
  have l58 : (⟨#[58]⟩ : ByteArray) = strOf [58] := by kernel_rfl
  have lut : (⟨#[32, 85, 84, 67, 40, 78, 73, 83, 84, 41, 32]⟩ : ByteArray) = strOf utcL := by kernel_rfl
  have w0 := X.wf_new s
  have w2 : (exactX s.size [10] (.good (bytesOf s))).wf s := exactX_wf w0
  have w3 := numX_wf w2 [] 5
  have w4 := numX_wf w3 [32] 2
  have w5 := numX_wf w4 [45] 2
  have w6 := numX_wf w5 [45] 2
  have w7 := numX_wf w6 [32] 2
  have w8 := numX_wf w7 [58] 2
  have w9 := numX_wf w8 [58] 2
  have w10 := numX_wf w9 [32] 2
  have w11 := numX_wf w10 [32] 1
  have w12 := numX_wf w11 [32] 1
  have w13 := advX_wf w12
  have w14 := exactX_wf (L := utcL) w13
  have E : ∀ x : X, x.wf s → ∀ M : List Int, okBy M → M.length ≤ 1000 → g_nist_reader_exact_io (x.t s, ((), ((strOf M, ()), ()))) = some ((exactX s.size M x).t s, ((), ())) := fun x h M hM hl => nist_exact s x h hs M hM hl
  have hut : okBy utcL := by intro x hx; simp only [List.mem_cons, List.not_mem_nil, or_false] at hx; omega
  have e2 := E _ w0 [10] (b1 10 (by omega)) (by decide)
  have e3 := nist_number s _ w2 hs [] okBy_nil (by decide) 5 (by decide)
  have e4 := nist_number s _ w3 hs [32] (b1 32 (by omega)) (by decide) 2 (by decide)
  have e5 := nist_number s _ w4 hs [45] (b1 45 (by omega)) (by decide) 2 (by decide)
  have e6 := nist_number s _ w5 hs [45] (b1 45 (by omega)) (by decide) 2 (by decide)
  have e7 := nist_number s _ w6 hs [32] (b1 32 (by omega)) (by decide) 2 (by decide)
  have e8 := nist_number s _ w7 hs [58] (b1 58 (by omega)) (by decide) 2 (by decide)
  have e9 := nist_number s _ w8 hs [58] (b1 58 (by omega)) (by decide) 2 (by decide)
  have e10 := nist_number s _ w9 hs [32] (b1 32 (by omega)) (by decide) 2 (by decide)
  have e11 := nist_number s _ w10 hs [32] (b1 32 (by omega)) (by decide) 1 (by decide)
  have e12 := nist_number s _ w11 hs [32] (b1 32 (by omega)) (by decide) 1 (by decide)
  have e13 := nist_advanceX s _ w12 hs
  have e14 := E _ w13 utcL hut (by decide)
  have e15 := scan_Take s _ w14 hs 35
  have a2 : ((2 : Nat) : Int) = 2 := rfl
  have a1 : ((1 : Nat) : Int) = 1 := rfl
  have a5 : ((5 : Nat) : Int) = 5 := rfl
  simp only [X.t, a1, a2, a5] at e2 e3 e4 e5 e6 e7 e8 e9 e10 e11 e12 e13 e14 e15
  have hnew := scan_new s
  simp only [X.t] at hnew
  simp only [g_nist_Parse, f_nist_Parse_m, hnew, l10, l32, l42, l45, l58, lut, sc_nil, Option.bind_some, e2, e3, e4, e5, e6, e7, e8, e9, e10, e11, e12, e13, e14, e15]
  have Z : ∀ x : X, x.wf s → g_scan_Scanner_string_End ((), ((some (s, (x.at s.size, x.er)), ()), ())) = some ((), ((x.end, ()), ())) := fun x h => scan_end s x h
  have T : ∀ (d : Unit × ((Int × (Int × (Int × (Int × (Int × (Int × (Bool × Unit))))))) × ((Int × Unit) × ((Int × (Int × (Int × Unit))) × ((Int × (Int × (Int × Unit))) × Unit))))), ((g_nist_Line_told d).bind fun x => some ((), ((x.2.1.1, (x.2.1.2.1, (x.2.1.2.2.1, (x.2.1.2.2.2.1, (x.2.1.2.2.2.2.1, (x.2.1.2.2.2.2.2.1, (x.2.1.2.2.2.2.2.2.1, ()))))))), ((x.2.2.1.1, ()), ())))) = g_nist_Line_told d := by
    intro d
    cases g_nist_Line_told d <;> rfl
  cases hb : oneX 35 (exactX s.size utcL (advX s.size (numX s.size [32] 1 (numX s.size [32] 1 (numX s.size [32] 2 (numX s.size [58] 2 (numX s.size [58] 2 (numX s.size [32] 2 (numX s.size [45] 2 (numX s.size [45] 2 (numX s.size [32] 2 (numX s.size [] 5 (exactX s.size [10] (.good (bytesOf s)))).1).1).1).1).1).1).1).1).1).1).1)
  · have e16 := E _ w14 [42] (b1 42 (by omega)) (by decide)
    have w16 : (exactX s.size [42] _).wf s := exactX_wf w14
    have e17 := E _ w16 [10] (b1 10 (by omega)) (by decide)
    have e18 := Z _ (exactX_wf (L := [10]) w16)
    simp only [X.t] at e16 e17
    simp only [Bool.false_eq_true, if_false, Bool.not_false, cond_true, e16, e17, e18, Option.bind_some, pn, hb, T]
    cases (exactX s.size [10] (exactX s.size [42] _)).end <;> rfl
  · have w16 := takeX_wf w14 1
    have e17 := E _ w16 [10] (b1 10 (by omega)) (by decide)
    have e18 := Z _ (exactX_wf (L := [10]) w16)
    simp only [X.t] at e17
    simp only [if_true, Bool.not_true, cond_false, e17, e18, Option.bind_some, pn, hb, T]
    cases (exactX s.size [10] (takeX 1 _)).end <;> rfl
end Go.Proofs.YtddnfappkfiidaaGreat.Ev
namespace Go.Proofs.YtddnfappkfiidaaGreat.Ev
open Go
set_option linter.unusedVariables false
set_option linter.unusedSimpArgs false
theorem num0 (n k w : Nat) (r : List Int) (hk : k < 10 ^ w) : numX n [] w (.good (dgs k w ++ r)) = (.good r, (k : Int)) := num_forth n [] k w r hk
theorem num1 (n k w : Nat) (c : Int) (r : List Int) (hk : k < 10 ^ w) : numX n [c] w (.good (c :: (dgs k w ++ r))) = (.good r, (k : Int)) := num_forth n [c] k w r hk
theorem ex1 (n : Nat) (c : Int) (r : List Int) : exactX n [c] (.good (c :: r)) = .good r := exact_forth n [c] r
theorem nist_forth {l : NL} {y m d : Int} (h : l.err = 0) (hd : IsDate l.n y m d) : g_nist_Parse ((), ((strOf (lineL l y m d), ()), ())) = some ((), (l.t, ((none, ()), ()))) := by
  obtain ⟨h1, h2⟩ := NL.err_zero h
  obtain ⟨t1, t2, t3⟩ := fiveE_zero h1
  have hf := h2
  unfold NL.fit at hf
  have hy := year_bound hd t1
  have hk := clk_range hf.1
  have hb := by_str (lineL_by l y m d)
  have hml := mlen_range y m
  have hdd := hd
  obtain ⟨hm1, hd1, _⟩ := hdd
  have hlen : (lineL l y m d).length = 50 := by
    unfold lineL
    simp only [List.length_cons, List.length_append, dgs_len, advL_len hf.2.2.2.2, List.length_nil]
  have hsz : (strOf (lineL l y m d)).size = 50 := by rw [str_size, hlen]
  rw [nist_parse _ (by rw [hsz]; decide)]
  obtain ⟨g3, g4, g5, g6, g7, g8, g9, g10, g11, g12, g13, gb, gz⟩ : (pn (strOf (lineL l y m d))).x3.2 = ((l.n + 40587).toNat : Int) ∧ (pn (strOf (lineL l y m d))).x4.2 = ((y % 100).toNat : Int) ∧ (pn (strOf (lineL l y m d))).x5.2 = (m.toNat : Int) ∧ (pn (strOf (lineL l y m d))).x6.2 = (d.toNat : Int) ∧ (pn (strOf (lineL l y m d))).x7.2 = ((clkM l.s / 60).toNat : Int) ∧ (pn (strOf (lineL l y m d))).x8.2 = ((clkM l.s % 60).toNat : Int) ∧ (pn (strOf (lineL l y m d))).x9.2 = ((clkS l.s).toNat : Int) ∧ (pn (strOf (lineL l y m d))).x10.2 = (l.c.toNat : Int) ∧ (pn (strOf (lineL l y m d))).x11.2 = (l.p.toNat : Int) ∧ (pn (strOf (lineL l y m d))).x12.2 = (l.h.toNat : Int) ∧ (pn (strOf (lineL l y m d))).x13.2 = l.a ∧ (pn (strOf (lineL l y m d))).b = l.m ∧ (pn (strOf (lineL l y m d))).z = .good [] := by
    unfold pn
    simp only [hb, hsz]
    unfold lineL
    simp only [ex1]
    rw [num0 _ _ _ _ (by omega)]
    simp only
    rw [num1 _ _ 2 _ _ (by omega)]
    simp only
    rw [num1 _ _ 2 _ _ (by omega)]
    simp only
    rw [num1 _ _ 2 _ _ (by omega)]
    simp only
    rw [num1 _ _ 2 _ _ (by omega)]
    simp only
    rw [num1 _ _ 2 _ _ (by omega)]
    simp only
    rw [num1 _ _ 2 _ _ (by omega)]
    simp only
    rw [num1 _ _ 2 _ _ (by omega)]
    simp only
    rw [num1 _ _ 1 _ _ (by omega)]
    simp only
    rw [num1 _ _ 1 _ _ (by omega)]
    simp only
    rw [adv_forth _ l.a hf.2.2.2.2 _ (by simp only [List.length_cons, List.length_nil]; omega)]
    simp only
    have eu := exact_forth 50 utcL [if l.m then 35 else 42, 10]
    simp only [List.cons_append, List.nil_append] at eu
    have eb : oneX 35 (.good [if l.m then 35 else 42, 10]) = l.m := by cases l.m <;> simp [oneX, X.rest]
    have ez : (if l.m then exactX 50 [10] (takeX 1 (.good [if l.m then 35 else 42, 10])) else exactX 50 [10] (exactX 50 [42] (.good [if l.m then 35 else 42, 10]))) = .good [] := by cases l.m <;> simp [ex1, takeX]
    simp only [utcL, eu, eb, ez, and_self]
  rw [g3, g4, g5, g6, g7, g8, g9, g10, g11, g12, g13, gb, gz]
  simp only [X.end, if_true, Option.isNone_none]
  have k1 : (((l.n + 40587).toNat : Nat) : Int) = l.n + 40587 := by omega
  have hd' : IsDate (l.n + 40587 - 40587) y m d := by rw [show l.n + 40587 - 40587 = l.n by omega]; exact hd
  rw [show (((y % 100).toNat : Nat) : Int) = y % 100 by omega, show ((m.toNat : Nat) : Int) = m by omega, show ((d.toNat : Nat) : Int) = d by omega, show (((clkM l.s / 60).toNat : Nat) : Int) = clkM l.s / 60 by omega,
    show (((clkM l.s % 60).toNat : Nat) : Int) = clkM l.s % 60 by omega, show (((clkS l.s).toNat : Nat) : Int) = clkS l.s by omega, show ((l.c.toNat : Nat) : Int) = l.c by omega, show ((l.p.toNat : Nat) : Int) = l.p by omega, show ((l.h.toNat : Nat) : Int) = l.h by omega, k1]
  rw [nist_told _ _ _ _ _ _ _ _ _ _ _ _ (by omega) (by omega) (by omega) (by omega) hd']
  have hs := hf.1
  have hclk : (clkM l.s / 60 * 60 + clkM l.s % 60) * 60 + clkS l.s = l.s := by
    unfold clkM clkS
    by_cases c : l.s = 86400
    · rw [if_pos c, if_pos c]; omega
    · rw [if_neg c, if_neg c]; omega
  have h60 : clkS l.s = 60 → clkM l.s = 1439 := by
    unfold clkM clkS
    by_cases c : l.s = 86400
    · rw [if_pos c, if_pos c]; omega
    · rw [if_neg c, if_neg c]; omega
  have ez : tldE y m d (y % 100) m d (clkM l.s / 60) (clkM l.s % 60) (clkS l.s) l.p = 0 := by
    unfold tldE
    rw [if_neg (by simp), if_neg (by omega), if_neg]
    intro q
    have := h60 q.1
    omega
  rw [ez, if_pos rfl, hclk, show l.n + 40587 - 40587 = l.n by omega]; rfl
end Go.Proofs.YtddnfappkfiidaaGreat.Ev
