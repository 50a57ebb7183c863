/- Leap tables as texts: lines one by one. -/
import Derived.Test.YtcnngodgngmghaaGreatDoorPuLstB
namespace Go.Proofs.YtcnngodgngmghaaGreatDoor.Ev
open Go
set_option linter.unusedVariables false
set_option linter.unusedSimpArgs false
/-- What a line does. -/
def lineF (r : RS) (l : List Int) : RS × Option Int :=
  if ∀ x ∈ l, x ∈ gL then (r, none)
  else if l.take 2 = [35, 36] then (match (timeF (l.drop 2)).2 with
    | some c => (r, some c)
    | none => if r.up.isSome then (r, some 2) else ({ r with up := some (timeF (l.drop 2)).1 }, none))
  else if l.take 2 = [35, 64] then (match (timeF (l.drop 2)).2 with
    | some c => (r, some c)
    | none => if r.ex.isSome then (r, some 2) else ({ r with ex := some (timeF (l.drop 2)).1 }, none))
  else if l.take 2 = [35, 104] then onceD r (l.drop 2)
  else if l.head? = some 35 then (r, none)
  else ({ r with rows := r.rows ++ (rowF l).2 }, (rowF l).1)
theorem lst_s1 : (⟨#[35, 36]⟩ : ByteArray) = strOf [35, 36] := by kernel_rfl
theorem lst_s2 : (⟨#[35, 64]⟩ : ByteArray) = strOf [35, 64] := by kernel_rfl
theorem lst_s3 : (⟨#[35, 104]⟩ : ByteArray) = strOf [35, 104] := by kernel_rfl
theorem two_len {l : List Int} {a b : Int} (h : l.take 2 = [a, b]) : 2 ≤ l.length := by
  have := congrArg List.length h
  rw [List.length_take] at this
  simp only [List.length_cons, List.length_nil] at this
  omega
theorem lst_line (r : RS) (l : List Int) (hl : okBy l) (hs : l.length ≤ 1000000) (hr : r.rows.length ≤ 1000000) : g_leaplist_reader_line_io (r.t, ((), ((strOf l, ()), ()))) = some ((lineF r l).1.t, (((lineF r l).2, ()), ((), ()))) := by
  obtain ⟨t, ht1, ht2⟩ := trim_gaps l hl hs
  have p1 := str_prefix l [35, 36] hl (by unfold okBy; decide)
  have p2 := str_prefix l [35, 64] hl (by unfold okBy; decide)
  have p3 := str_prefix l [35, 104] hl (by unfold okBy; decide)
  simp only [List.length_cons, List.length_nil, Nat.zero_add, Nat.reduceAdd] at p1 p2 p3
  have hd := okBy_drop hl 2
  have hdl : (l.drop 2).length ≤ 1000000 := by rw [List.length_drop]; omega
  have hn := new_line (l.drop 2) hd
  obtain ⟨y, z, q1, q2, q3⟩ := lst_time (l.drop 2) hd hdl
  have hsum := lst_sum r (l.drop 2) hd hdl
  have hrow := lst_row r l hl hs hr
  simp only [X.t, str_size] at hn q1 q2 q3
  simp only [RS.t] at hsum hrow
  have cut : (strOf l).extract (Int.toNat 2) (Int.toNat (l.length : Int)) = strOf (l.drop 2) := by
    rw [str_cut, Int.toNat_natCast, List.take_length]; rfl
  simp only [g_leaplist_reader_line_io, f_leaplist_reader_line_io_m, lst_gs, lst_s1, lst_s2, lst_s3, sc_nil, RS.t, ht1, ht2, Option.bind_some, cond_dec, p1, p2, p3, str_size, and_dec, cut, hn, q1, q2, q3]
  unfold lineF
  by_cases c0 : ∀ x ∈ l, x ∈ gL
  · rw [if_pos c0, if_pos c0]
  rw [if_neg c0, if_neg c0]
  by_cases c1 : l.take 2 = [35, 36]
  · have := two_len c1
    rw [if_pos c1, if_pos c1, if_pos (by omega)]
    cases (timeF (l.drop 2)).2 with
    | some c => rfl
    | none =>
      simp only [Option.isNone_none, Bool.not_true, cond_false]
      cases hu : r.up with
      | some v => simp [hu]
      | none => simp
  rw [if_neg c1, if_neg c1]
  by_cases c2 : l.take 2 = [35, 64]
  · have := two_len c2
    rw [if_pos c2, if_pos c2, if_pos (by omega)]
    cases (timeF (l.drop 2)).2 with
    | some c => rfl
    | none =>
      simp only [Option.isNone_none, Bool.not_true, cond_false]
      cases hu : r.ex with
      | some v => simp [hu]
      | none => simp
  rw [if_neg c2, if_neg c2]
  by_cases c3 : l.take 2 = [35, 104]
  · have := two_len c3
    rw [if_pos c3, if_pos c3, if_pos (by omega), hsum]; rfl
  rw [if_neg c3, if_neg c3]
  have hne : l ≠ [] := fun e => c0 (by rw [e]; intro x hx; cases hx)
  have hpos : 0 < l.length := List.length_pos_iff.2 hne
  have hb := by_at (strOf l) (i := 0) (by omega) (by rw [str_size]; omega)
  rw [by_str hl] at hb
  rw [if_pos (by omega), hb]
  cases l with
  | nil => exact absurd rfl hne
  | cons a t =>
    simp only [show (0 : Int).toNat = 0 from rfl, List.getD_cons_zero, List.head?_cons, Option.some.injEq, beq_int, cond_dec]
    by_cases c4 : a = 35
    · rw [if_pos c4, if_pos c4]
    · rw [if_neg c4, if_neg c4, hrow]; rfl
theorem lineF_rows (r : RS) (l : List Int) : (lineF r l).1.rows.length ≤ r.rows.length + 1 := by
  unfold lineF onceD
  have hq : (rowF l).2.length ≤ 1 := by
    unfold rowF
    split
    · simp
    · split <;> simp
  repeat' split
  all_goals simp only [List.length_append]
  all_goals omega
/-- Lines, up to the first that is wrong; i: how many there were. -/
def readF (r : RS) (i : Nat) : List (List Int) → RS × (Int × Option Int)
  | [] => (r, (0, none))
  | l :: rest => match (lineF r l).2 with
    | some c => ((lineF r l).1, ((i : Int) + 1, some c))
    | none => readF (lineF r l).1 (i + 1) rest
theorem read_p6 (L : List (List Int)) (hL : ∀ l ∈ L, okBy l ∧ l.length ≤ 1000000) (hn : L.length ≤ 500000) : ∀ (k i : Nat) (r : RS), i + k = L.length → r.rows.length ≤ i →
    Evn (fun f => (f_leaplist_reader_read_io_t f).1 (r.t, ((), ((L.map strOf, ()), (((L.length : Int), ()), (((i : Int), ()), ())))))) ((readF r i (L.drop i)).1.t, (((readF r i (L.drop i)).2.1, ()), (((readF r i (L.drop i)).2.2, ()), ((), ())))) := by
  intro k
  induction k with
  | zero =>
    intro i r hi hr
    refine Evn.some 1 fun f => ?_
    rw [List.drop_eq_nil_of_le (by omega)]
    simp only [t_leaplist_reader_read_io, f_leaplist_reader_read_io_p6, RS.t, cond_dec]
    rw [if_neg (by omega)]; rfl
  | succ k ih =>
    intro i r hi hr
    have hlt : i < L.length := by omega
    have hmem := hL _ (List.getElem_mem hlt)
    have hline := lst_line r L[i] hmem.1 hmem.2 (by omega)
    have hrows := lineF_rows r L[i]
    have hg : gd .str (L.map strOf) (i : Int) = strOf L[i] := by
      unfold gd
      rw [Int.toNat_natCast, List.getD_eq_getElem?_getD, List.getElem?_map, List.getElem?_eq_getElem hlt]; rfl
    rw [List.drop_eq_getElem_cons hlt]
    simp only [RS.t] at hline
    unfold readF
    cases hq : (lineF r L[i]).2 with
    | some c =>
      refine Evn.some 1 fun f => ?_
      simp only [t_leaplist_reader_read_io, f_leaplist_reader_read_io_p6, RS.t, cond_dec, and_dec, hg, hline, hq, Option.bind_some, List.length_map]
      rw [if_pos (by omega), if_pos (by omega), iadd_i64 (by omega)]; rfl
    | none =>
      refine (ih (i + 1) (lineF r L[i]).1 (by omega) (by omega)).step fun f => ?_
      simp only [t_leaplist_reader_read_io, f_leaplist_reader_read_io_p6, RS.t, cond_dec, and_dec, hg, hline, hq, Option.bind_some, List.length_map]
      rw [if_pos (by omega), if_pos (by omega), iadd_i64 (by omega)]; rfl
def readL (l : List Int) : RS × (Int × Option Int) := if 65535 < l.length then (⟨none, none, none, []⟩, (0, some 3)) else readF ⟨none, none, none, []⟩ 0 (rowsA [] (chop l))
theorem rowsA_ok : ∀ {l cur : List Int}, okBy l → okBy cur → ∀ x ∈ rowsA cur l, okBy x
  | [], cur, _, hc, x, hx => by
    rw [rowsA] at hx
    rw [List.mem_singleton.1 hx]; exact hc
  | a :: l, cur, hl, hc, x, hx => by
    rw [rowsA] at hx
    have hl' : okBy l := fun y hy => hl y (List.mem_cons_of_mem _ hy)
    split at hx
    · rcases List.mem_cons.1 hx with rfl | hx
      · exact hc
      · exact rowsA_ok hl' (fun y hy => by cases hy) x hx
    · exact rowsA_ok hl' (okBy_app hc (fun y hy => by rw [List.mem_singleton.1 hy]; exact hl a (List.mem_cons_self ..))) x hx
theorem rowsA_len : ∀ (l cur : List Int), (∀ x ∈ rowsA cur l, x.length ≤ cur.length + l.length) ∧ (rowsA cur l).length ≤ l.length + 1
  | [], cur => by
    rw [rowsA]
    exact ⟨fun x hx => by rw [List.mem_singleton.1 hx]; simp, by simp⟩
  | a :: l, cur => by
    rw [rowsA]
    split
    · have := rowsA_len l []
      refine ⟨fun x hx => ?_, by simp only [List.length_cons]; omega⟩
      rcases List.mem_cons.1 hx with rfl | hx
      · omega
      · have := this.1 x hx
        simp only [List.length_cons, List.length_nil] at *; omega
    · have := rowsA_len l (cur ++ [a])
      refine ⟨fun x hx => ?_, by simp only [List.length_cons]; omega⟩
      have := this.1 x hx
      simp only [List.length_append, List.length_cons, List.length_nil] at *; omega
theorem chop_ok {l : List Int} (h : okBy l) : okBy (chop l) ∧ (chop l).length ≤ l.length := by
  unfold chop
  split
  · exact ⟨fun x hx => h x (List.dropLast_subset l hx), by rw [List.length_dropLast]; omega⟩
  · exact ⟨h, Nat.le_refl _⟩
theorem lst_feed : (⟨#[10]⟩ : ByteArray) = strOf [10] := by kernel_rfl
theorem lst_read (l : List Int) (hl : okBy l) : g_leaplist_reader_read_io ((⟨none, none, none, []⟩ : RS).t, ((), ((strOf l, ()), ()))) = some ((readL l).1.t, (((readL l).2.1, ()), (((readL l).2.2, ()), ((), ())))) := by
  unfold readL
  by_cases c : 65535 < l.length
  · rw [if_pos c]
    refine (Evn.const fun f => ?_).lim
    simp only [f_leaplist_reader_read_io_m, str_size, gt_iff_lt, cond_dec]
    rw [if_pos (by omega)]
  · rw [if_neg c]
    have hc := chop_ok hl
    have hch := str_chop l hl (by omega)
    have hr := rowsA_len (chop l) []
    have hsp := split_call (strOf (chop l)) (by rw [str_size]; omega)
    rw [by_str hc.1, lst_feed] at hsp
    refine ((read_p6 (rowsA [] (chop l)) (fun x hx => ⟨rowsA_ok hc.1 (fun y hy => by cases hy) x hx, by have := hr.1 x hx; simp only [List.length_nil] at this; omega⟩) (by omega) _ 0 ⟨none, none, none, []⟩ (Nat.zero_add _) (Nat.le_refl _)).cast fun f => ?_).lim
    simp only [f_leaplist_reader_read_io_m, str_size, gt_iff_lt, cond_dec, lst_feed, hch, hsp, Option.bind_some, List.length_map]
    rw [if_neg (by omega)]; rfl
end Go.Proofs.YtcnngodgngmghaaGreatDoor.Ev
