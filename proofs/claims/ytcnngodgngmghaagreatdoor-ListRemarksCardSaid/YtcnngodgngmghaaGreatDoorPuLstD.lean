/- Leap tables as texts: a table's digest, and a text's table. Printed by wip/tools/genlst.py. -/
import Derived.Test.YtcnngodgngmghaaGreatDoorPuLstC
import Derived.Test.YtcnngodgngmghaaGreatDoorPuShaA
import Derived.Test.YtcnngodgngmghaaGreatDoorPuPutF
import Derived.Test.YtcnngodgngmghaaGreatDoorPuLeap
namespace Go.Proofs.YtcnngodgngmghaaGreatDoor.Ev
open Go
set_option linter.unusedVariables false
set_option linter.unusedSimpArgs false
set_option maxRecDepth 10000
def eq20 (x y : T20) : Bool := ((x.1 == y.1) && ((x.2.1 == y.2.1) && ((x.2.2.1 == y.2.2.1) && ((x.2.2.2.1 == y.2.2.2.1) && ((x.2.2.2.2.1 == y.2.2.2.2.1) && ((x.2.2.2.2.2.1 == y.2.2.2.2.2.1) && ((x.2.2.2.2.2.2.1 == y.2.2.2.2.2.2.1) && ((x.2.2.2.2.2.2.2.1 == y.2.2.2.2.2.2.2.1) && ((x.2.2.2.2.2.2.2.2.1 == y.2.2.2.2.2.2.2.2.1) && ((x.2.2.2.2.2.2.2.2.2.1 == y.2.2.2.2.2.2.2.2.2.1) && ((x.2.2.2.2.2.2.2.2.2.2.1 == y.2.2.2.2.2.2.2.2.2.2.1) && ((x.2.2.2.2.2.2.2.2.2.2.2.1 == y.2.2.2.2.2.2.2.2.2.2.2.1) && ((x.2.2.2.2.2.2.2.2.2.2.2.2.1 == y.2.2.2.2.2.2.2.2.2.2.2.2.1) && ((x.2.2.2.2.2.2.2.2.2.2.2.2.2.1 == y.2.2.2.2.2.2.2.2.2.2.2.2.2.1) && ((x.2.2.2.2.2.2.2.2.2.2.2.2.2.2.1 == y.2.2.2.2.2.2.2.2.2.2.2.2.2.2.1) && ((x.2.2.2.2.2.2.2.2.2.2.2.2.2.2.2.1 == y.2.2.2.2.2.2.2.2.2.2.2.2.2.2.2.1) && ((x.2.2.2.2.2.2.2.2.2.2.2.2.2.2.2.2.1 == y.2.2.2.2.2.2.2.2.2.2.2.2.2.2.2.2.1) && ((x.2.2.2.2.2.2.2.2.2.2.2.2.2.2.2.2.2.1 == y.2.2.2.2.2.2.2.2.2.2.2.2.2.2.2.2.2.1) && ((x.2.2.2.2.2.2.2.2.2.2.2.2.2.2.2.2.2.2.1 == y.2.2.2.2.2.2.2.2.2.2.2.2.2.2.2.2.2.2.1) && ((x.2.2.2.2.2.2.2.2.2.2.2.2.2.2.2.2.2.2.2.1 == y.2.2.2.2.2.2.2.2.2.2.2.2.2.2.2.2.2.2.2.1) && true))))))))))))))))))))
def un20 (x : T20) : List Int := [x.1, x.2.1, x.2.2.1, x.2.2.2.1, x.2.2.2.2.1, x.2.2.2.2.2.1, x.2.2.2.2.2.2.1, x.2.2.2.2.2.2.2.1, x.2.2.2.2.2.2.2.2.1, x.2.2.2.2.2.2.2.2.2.1, x.2.2.2.2.2.2.2.2.2.2.1, x.2.2.2.2.2.2.2.2.2.2.2.1, x.2.2.2.2.2.2.2.2.2.2.2.2.1, x.2.2.2.2.2.2.2.2.2.2.2.2.2.1, x.2.2.2.2.2.2.2.2.2.2.2.2.2.2.1, x.2.2.2.2.2.2.2.2.2.2.2.2.2.2.2.1, x.2.2.2.2.2.2.2.2.2.2.2.2.2.2.2.2.1, x.2.2.2.2.2.2.2.2.2.2.2.2.2.2.2.2.2.1, x.2.2.2.2.2.2.2.2.2.2.2.2.2.2.2.2.2.2.1, x.2.2.2.2.2.2.2.2.2.2.2.2.2.2.2.2.2.2.2.1]
theorem eq20_iff (x y : T20) : eq20 x y = true ↔ x = y := by
  obtain ⟨x0, x1, x2, x3, x4, x5, x6, x7, x8, x9, x10, x11, x12, x13, x14, x15, x16, x17, x18, x19, _⟩ := x
  obtain ⟨y0, y1, y2, y3, y4, y5, y6, y7, y8, y9, y10, y11, y12, y13, y14, y15, y16, y17, y18, y19, _⟩ := y
  simp only [eq20, Bool.and_eq_true, beq_iff_eq, and_true, Prod.mk.injEq]
theorem un20_t20 (l : List Int) : un20 (t20 l) = l20 l := rfl
theorem eq20_t20 {a b : List Int} (ha : a.length = 20) (hb : b.length = 20) : eq20 (t20 a) (t20 b) = decide (a = b) := by
  by_cases c : a = b
  · rw [decide_eq_true c, c, eq20_iff]
  · rw [decide_eq_false c]
    cases h : eq20 (t20 a) (t20 b) with
    | false => rfl
    | true =>
      exfalso
      have := (eq20_iff _ _).1 h
      have := congrArg un20 this
      rw [un20_t20, un20_t20, l20_eq ha, l20_eq hb] at this
      exact c this
/-! ### numbers one after the other -/
def decN (n : Int) : List Int := padd n.toNat 0
theorem decN_ok (n : Int) : okBy (decN n) := padd_by _ _
theorem decN_len (n : Int) (h : n < 18446744073709551616) : (decN n).length ≤ 20 := padd_len _ _ (by omega) (by decide)
theorem wr_put (out beh : List Int) (n : Int) (hn : 0 ≤ n ∧ n ≤ 9223372036854775807) (ho : out.length ≤ 1000000) (hb : okBy beh) (hbl : beh.length ≤ 1000) :
    g_leaplist_writer_put_io (((none, ()), (out, ())), ((), ((n, ()), ((strOf beh, ()), ())))) = some (((none, ()), (out ++ (decN n ++ beh), ())), ((), ())) := by
  have hp := fig_put_nn n 0 hn (by decide)
  have hd : bytesOf (strOf (padd n.toNat (0 : Int).toNat)) = decN n := by_str (decN_ok n)
  have hl := decN_len n (by omega)
  simp only [g_leaplist_writer_put_io, f_leaplist_writer_put_io_m, hp, Option.bind_some, Option.isNone_none, Bool.not_true, cond_false, hd, by_str hb, and_dec, cond_dec, List.length_append]
  rw [if_pos (by omega), if_pos (by omega), List.append_assoc]
theorem mjd_count (n : Int) (h : dated n) : g_mjd_Count ((), (((3 : Int), ()), ((n, ()), ()))) = some ((), ((n + 25567, ()), ((none, ()), ()))) := by
  have hz : g_mjd_zero ((), (((3 : Int), ()), ())) = some ((), ((25567, ()), ((none, ()), ()))) := rfl
  have ht : g_mjd_there ((), ((n, ()), ())) = some ((), ((true, ()), ())) := by
    unfold dated at h
    simp only [g_mjd_there, f_mjd_there_m, day_first, day_last, Option.bind_some, ge_iff_le, cond_dec]
    rw [if_pos (by omega), decide_eq_true (by omega)]
  unfold dated at h
  simp only [g_mjd_Count, f_mjd_Count_m, hz, ht, Option.bind_some, Option.isNone_none, Bool.not_true, cond_false]
  rw [iadd_i64 (by omega)]
/-- A row's seconds. -/
def secR (r : Int × Int) : Int := (r.1 + 25567) * 86400
theorem wr_row (out a b : List Int) (r : Int × Int) (h : dated r.1) (h2 : 0 ≤ r.2 ∧ r.2 ≤ 1000) (ho : out.length ≤ 100000) (ha : okBy a) (hal : a.length ≤ 10) (hb : okBy b) (hbl : b.length ≤ 10) :
    g_leaplist_writer_row_io (((none, ()), (out, ())), ((), ((r.1, (r.2, ())), ((strOf a, ()), ((strOf b, ()), ()))))) = some (((none, ()), (out ++ ((decN (secR r) ++ a) ++ (decN r.2 ++ b)), ())), ((), ())) := by
  have hc := mjd_count r.1 h
  unfold dated at h
  have hm : imul .i64 (r.1 + 25567) 86400 = secR r := imul_i64 (by omega)
  have hs : 0 ≤ secR r ∧ secR r ≤ 9223372036854775807 := by unfold secR; omega
  have p1 := wr_put out a (secR r) hs (by omega) ha (by omega)
  have hl := decN_len (secR r) (by omega)
  have p2 := wr_put (out ++ (decN (secR r) ++ a)) b r.2 (by omega) (by simp only [List.length_append]; omega) hb (by omega)
  simp only [g_leaplist_writer_row_io, f_leaplist_writer_row_io_m, hc, hm, p1, p2, Option.bind_some, Option.isNone_none, Bool.not_true, cond_false]
  rw [List.append_assoc]
def rowsD (l : List (Int × Int)) : List Int := l.flatMap fun r => decN (secR r) ++ decN r.2
def dgB (l : List (Int × Int)) (u e : Int) : List Int := decN u ++ (decN e ++ rowsD l)
theorem okBy_flat {α : Type} {l : List α} {f : α → List Int} (h : ∀ x ∈ l, okBy (f x)) : okBy (l.flatMap f) := fun y hy => by
  obtain ⟨x, hx, hxy⟩ := List.mem_flatMap.1 hy
  exact h x hx y hxy
theorem dgB_ok (l : List (Int × Int)) (u e : Int) : okBy (dgB l u e) :=
  okBy_app (decN_ok u) (okBy_app (decN_ok e) (okBy_flat fun x _ => okBy_app (decN_ok _) (decN_ok _)))
theorem flat_len {α : Type} {f : α → List Int} {n : Nat} : ∀ {l : List α}, (∀ x ∈ l, (f x).length ≤ n) → (l.flatMap f).length ≤ l.length * n
  | [], _ => by simp
  | a :: l, h => by
    have h1 := h a (List.mem_cons_self ..)
    have h2 := flat_len (l := l) (f := f) (n := n) fun x hx => h x (List.mem_cons_of_mem _ hx)
    rw [List.flatMap_cons, List.length_append, List.length_cons, Nat.add_mul]; omega
/-- Rows that a right table has. -/
def rowsG (l : List (Int × Int)) : Prop := ∀ r ∈ l, dated r.1 ∧ 0 ≤ r.2 ∧ r.2 ≤ 1000
theorem GoodT.rowsG {l : List (Int × Int)} (h : GoodT l) : rowsG l := fun r hr => by
  obtain ⟨i, hi, rfl⟩ := List.getElem_of_mem hr
  have e : gd_i64_i64 l (i : Int) = l[i] := by simp [gd_i64_i64, gd, hi]
  have h1 := h.day i hi
  have h2 := h.off i hi
  rw [e] at h1 h2
  exact ⟨h1, h2⟩
theorem rowsD_len {l : List (Int × Int)} (h : rowsG l) : (rowsD l).length ≤ l.length * 40 := by
  refine flat_len fun r hr => ?_
  obtain ⟨h1, h2⟩ := h r hr
  unfold dated at h1
  have := decN_len (secR r) (by unfold secR; omega)
  have := decN_len r.2 (by omega)
  rw [List.length_append]; omega
theorem dgB_len {l : List (Int × Int)} (h : rowsG l) (hl : l.length ≤ 256) {u e : Int} (hu : timeP u) (he : timeP e) : (dgB l u e).length ≤ 20000 := by
  unfold timeP at hu he
  have := rowsD_len h
  have := decN_len u (by omega)
  have := decN_len e (by omega)
  unfold dgB
  simp only [List.length_append]; omega
theorem gd_row {l : List (Int × Int)} {i : Nat} (hi : i < l.length) : gd_i64_i64 l (i : Int) = l[i] := by simp [gd_i64_i64, gd, hi]
theorem digest_p9 (l : List (Int × Int)) (hg : rowsG l) (hl : l.length ≤ 256) (z : T20) (o : List Int) (ho : o.length ≤ 1000) (hok : okBy o) : ∀ (k i : Nat), i + k = l.length →
    Evn (fun f => (f_leaplist_Digest_t f).1 ((z, ((none, ()), (o ++ rowsD (l.take i), (l, ())))), ((), ((), ((), (((l.length : Int), ()), (((i : Int), ()), ()))))))) ((), (t20 (b20 (shaW (o ++ rowsD l))), ((none, ()), ()))) := by
  have hrl := rowsD_len hg
  intro k
  induction k with
  | zero =>
    intro i hi
    refine Evn.some 1 fun f => ?_
    have hs := sha_sum (o ++ rowsD l) (by rw [List.length_append]; omega) (okBy_app hok (okBy_flat fun x _ => okBy_app (decN_ok _) (decN_ok _)))
    rw [List.take_of_length_le (by omega)]
    simp only [t_leaplist_Digest, f_leaplist_Digest_p9, hs, Option.bind_some, Option.isNone_none, Bool.not_true, cond_false, cond_dec]
    rw [if_neg (by omega)]
  | succ k ih =>
    intro i hi
    have hlt : i < l.length := by omega
    refine (ih (i + 1) (by omega)).step fun f => ?_
    obtain ⟨h1, h2⟩ := hg _ (List.getElem_mem hlt)
    have hti := rowsD_len (l := l.take i) fun r hr => hg r (List.mem_of_mem_take hr)
    rw [List.length_take] at hti
    have hw := wr_row (o ++ rowsD (l.take i)) [] [] l[i] h1 h2 (by rw [List.length_append]; omega) okBy_nil (by decide) okBy_nil (by decide)
    have e : rowsD (l.take (i + 1)) = rowsD (l.take i) ++ (decN (secR l[i]) ++ decN l[i].2) := by
      unfold rowsD
      rw [List.take_add_one, List.getElem?_eq_getElem hlt, List.flatMap_append]
      simp
    simp only [List.append_nil] at hw
    simp only [t_leaplist_Digest, f_leaplist_Digest_p9, cond_dec, and_dec, gd_row hlt, sc_nil, hw, Option.bind_some]
    rw [if_pos (by omega), if_pos (by omega), iadd_i64 (by omega), List.append_assoc, ← e]; rfl
theorem digest_m (T : TT_leaplist_Digest) (l : List (Int × Int)) (u e : Int) : f_leaplist_Digest_m T ((), ((some (l, (u, e)), ()), ())) =
    ((g_leap_Table_Updated ((), ((some (l, (u, e)), ()), ()))).bind fun x2 =>
    (g_leaplist_writer_put_io ((((none : Option Int), ()), (([] : List Int), ())), ((), (x2.2.1, (((⟨#[]⟩ : ByteArray), ()), ()))))).bind fun x3 =>
    (g_leap_Table_Expires ((), ((some (l, (u, e)), ()), ()))).bind fun x4 =>
    (g_leaplist_writer_put_io (x3.1, ((), (x4.2.1, (((⟨#[]⟩ : ByteArray), ()), ()))))).bind fun x5 =>
    (g_leap_Table_Rows ((), ((some (l, (u, e)), ()), ()))).bind fun x6 =>
    T.1 ((t20 [], (x5.1.1, (x5.1.2.1, x6.1))), ((), ((), ((), (((x6.1.1.length : Int), ()), (((0 : Int), ()), ()))))))) := by kernel_rfl
theorem tab_parts (l : List (Int × Int)) (hl : l.length ≤ 1000) (u e : Int) : g_leap_Table_Updated ((), ((some (l, (u, e)), ()), ())) = some ((), ((u, ()), ())) ∧ g_leap_Table_Expires ((), ((some (l, (u, e)), ()), ())) = some ((), ((e, ()), ())) ∧
    g_leap_Table_Rows ((), ((some (l, (u, e)), ()), ())) = some ((l, ()), ((), ())) := by
  refine ⟨?_, ?_, ?_⟩
  · simp only [g_leap_Table_Updated, f_leap_Table_Updated_m, fitsS_dec, Option.bind_some, Option.isNone_none, Option.isNone_some, Option.isSome_none, Option.isSome_some, Bool.not_true, Bool.not_false, cond_true, cond_false, cond_dec, beq_int, bne_int, not_dec]
  · simp only [g_leap_Table_Expires, f_leap_Table_Expires_m, fitsS_dec, Option.bind_some, Option.isNone_none, Option.isNone_some, Option.isSome_none, Option.isSome_some, Bool.not_true, Bool.not_false, cond_true, cond_false, cond_dec, beq_int, bne_int, not_dec]
  · simp only [g_leap_Table_Rows, f_leap_Table_Rows_m, g_leap_Table_list, f_leap_Table_list_m, clone_rows l hl, fitsS_dec, Option.bind_some, Option.isNone_none, Option.isNone_some, Option.isSome_none, Option.isSome_some, Bool.not_true, Bool.not_false, cond_true, cond_false, cond_dec, beq_int, bne_int, not_dec]
theorem lst_digest (l : List (Int × Int)) (hg : rowsG l) (hl : l.length ≤ 256) (u e : Int) (hu : timeP u) (he : timeP e) : g_leaplist_Digest ((), ((some (l, (u, e)), ()), ())) = some ((), (t20 (b20 (shaW (dgB l u e))), ((none, ()), ()))) := by
  obtain ⟨q1, q2, q3⟩ := tab_parts l (by omega) u e
  unfold timeP at hu he
  have l1 := decN_len u (by omega)
  have l2 := decN_len e (by omega)
  have p1 := wr_put [] [] u (by omega) (by decide) okBy_nil (by decide)
  have p2 := wr_put (decN u) [] e (by omega) (by omega) okBy_nil (by decide)
  simp only [List.append_nil, List.nil_append] at p1 p2
  have h := digest_p9 l hg hl (t20 []) (decN u ++ decN e) (by rw [List.length_append]; omega) (okBy_app (decN_ok u) (decN_ok e)) l.length 0 (Nat.zero_add _)
  have ed : dgB l u e = (decN u ++ decN e) ++ rowsD l := by unfold dgB; rw [List.append_assoc]
  rw [ed]
  refine (h.cast fun f => ?_).lim
  rw [digest_m]
  simp only [q1, q2, q3, sc_nil, p1, p2, Option.bind_some, List.take_zero]
  rw [show rowsD [] = [] from rfl, List.append_nil]; rfl
/-! ### a text's table -/
def w5o (w : Int × (Int × (Int × (Int × Int)))) : W5 := (w.1, (w.2.1, (w.2.2.1, (w.2.2.2.1, (w.2.2.2.2, ())))))
def RS.ok (r : RS) : Prop := ∀ w, r.dg = some w → w5R (w5o w)
theorem wdY_val (n : Nat) (x : X) : 0 ≤ (wdY n x).2 ∧ (wdY n x).2 < 4294967296 := by
  unfold wdY
  split
  · simp
  · rename_i c
    have hl := runN_le hxL x.rest
    have hm : ∀ q ∈ x.rest.take (runN hxL x.rest), q ∈ hxL := run_mem
    have h := hexV_range (runN hxL x.rest) ((x.rest.take (runN hxL x.rest)).map lowH) (by rw [List.length_map, List.length_take]; omega) (fun q hq => by
      obtain ⟨y, hy, rfl⟩ := List.mem_map.1 hq
      exact (low_hex y (hm y hy)).1)
    rw [hexV_low hm] at h
    have : (16 : Int) ^ (runN hxL x.rest) ≤ 16 ^ 8 := by
      have : 16 ^ (runN hxL x.rest) ≤ 16 ^ 8 := Nat.pow_le_pow_right (by omega) (by omega)
      exact_mod_cast this
    exact ⟨h.1, by omega⟩
theorem sumX_val (n : Nat) : ∀ (k : Nat) (x : X), (sumX n k x).2.length = k ∧ ∀ v ∈ (sumX n k x).2, 0 ≤ v ∧ v < 4294967296
  | 0, x => ⟨rfl, fun v hv => by cases hv⟩
  | k + 1, x => by
    have ih := sumX_val n k (wdY n (gapY n x)).1
    refine ⟨by show (_ :: _).length = _; rw [List.length_cons, ih.1], fun v hv => ?_⟩
    rcases List.mem_cons.1 hv with rfl | hv
    · exact wdY_val n _
    · exact ih.2 v hv
theorem dig5_R {l : List Int} (h : l.length = 5) (hv : ∀ v ∈ l, 0 ≤ v ∧ v < 4294967296) : w5R (w5o (dig5 l)) := by
  match l, h with
  | [a, b, c, d, e], _ =>
    simp only [List.mem_cons, List.not_mem_nil, or_false, forall_eq_or_imp, forall_eq] at hv
    exact ⟨hv.1, hv.2.1, hv.2.2.1, hv.2.2.2.1, hv.2.2.2.2⟩
theorem lineF_ok {r : RS} (h : r.ok) (l : List Int) : (lineF r l).1.ok := by
  unfold lineF
  split
  · exact h
  split
  · split
    · exact h
    · split
      · exact h
      · exact h
  split
  · split
    · exact h
    · split
      · exact h
      · exact h
  split
  · unfold onceD
    split
    · exact h
    · split
      · exact h
      · intro w hw
        simp only [Option.some.injEq] at hw
        subst hw
        have := sumX_val (l.drop 2).length 5 (.good (l.drop 2))
        exact dig5_R this.1 this.2
  split
  · exact h
  · exact h
theorem readF_ok : ∀ {L : List (List Int)} {r : RS} {i : Nat}, r.ok → (readF r i L).1.ok
  | [], r, i, h => h
  | l :: L, r, i, h => by
    unfold readF
    split
    · exact lineF_ok h l
    · exact readF_ok (lineF_ok h l)
theorem readL_ok (l : List Int) : (readL l).1.ok := by
  unfold readL
  split
  · intro w hw; cases hw
  · exact readF_ok (fun w hw => by cases hw)
abbrev Tb3 : Type := List (Int × Int) × (Int × Int)
/-- A text's table, and its error. -/
noncomputable def parseF (l : List Int) : Option Tb3 × Option Int :=
  match (readL l).2.2 with
  | some c => (none, some c)
  | none => match (readL l).1.up, (readL l).1.ex with
    | some u, some e =>
      if tErr (readL l).1.rows u e = 0 then (match (readL l).1.dg with
        | some w => if b20 (w5o w) = b20 (shaW (dgB (readL l).1.rows u e)) then (some ((readL l).1.rows, (u, e)), none) else (none, some 7)
        | none => (some ((readL l).1.rows, (u, e)), none))
      else (none, errOf (tErr (readL l).1.rows u e))
    | _, _ => (none, some 2)
theorem errOf_isNone (c : Int) : (errOf c).isNone = decide (c = 0) := by
  unfold errOf
  by_cases h : c = 0 <;> simp [h]
theorem parse_m (T : Unit) (d : Unit × ((ByteArray × Unit) × Unit)) : f_leaplist_Parse_m T d =
    (g_leaplist_reader_read_io ((⟨none, none, none, []⟩ : RS).t, ((), d.2))).bind fun x1 =>
    bif (!x1.2.2.1.1.isNone) then some ((), ((none, ()), (x1.2.2.1, ())))
    else bif x1.1.1.1.isNone then some ((), ((none, ()), ((some 2, ()), ())))
    else bif x1.1.1.2.1.isNone then some ((), ((none, ()), ((some 2, ()), ())))
    else x1.1.1.1.bind fun x5 => x1.1.1.2.1.bind fun x6 =>
    (g_leap_New ((), (x1.1.2, ((x5, ()), ((x6, ()), ()))))).bind fun x7 =>
    bif (!x7.2.2.1.1.isNone) then some ((), ((none, ()), x7.2.2))
    else (g_leaplist_Digest ((), (x7.2.1, ()))).bind fun x9 =>
    bif (!x9.2.2.1.1.isNone) then some ((), ((none, ()), x9.2.2))
    else bif (!x1.1.1.2.2.1.isNone) then (x1.1.1.2.2.1.bind fun x12 =>
      (g_sha1_From ((), (w5o x12, ()))).bind fun x13 =>
      bif (!(eq20 x13.2.1 x9.2.1)) then some ((), ((none, ()), ((some 7, ()), ())))
      else some ((), (x7.2.1, ((none, ()), ()))))
    else some ((), (x7.2.1, ((none, ()), ()))) := by kernel_rfl
theorem lst_parse (l : List Int) (hl : okBy l) : g_leaplist_Parse ((), ((strOf l, ()), ())) = some ((), (((parseF l).1, ()), (((parseF l).2, ()), ()))) := by
  have hr := lst_read l hl
  have hok := readL_ok l
  show f_leaplist_Parse_m () _ = _
  rw [parse_m]
  unfold parseF
  generalize readL l = q at *
  obtain ⟨⟨up, ex, dg, rows⟩, at_, er⟩ := q
  simp only [RS.t] at hr ⊢
  simp only [hr, Option.bind_some]
  cases er with
  | some c => rfl
  | none =>
    cases up with
    | none => rfl
    | some u =>
      cases ex with
      | none => rfl
      | some e =>
        simp only [Option.isNone_none, Option.isNone_some, Bool.not_true, cond_false, Option.bind_some, leap_new, errOf_isNone, not_dec, cond_dec]
        by_cases ht : tErr rows u e = 0
        · obtain ⟨g1, g2, g3⟩ := good_of ht
          have hd := lst_digest rows g1.rowsG g1.len.2 u e g2 g3
          rw [if_neg (not_not_intro ht), if_pos ht, if_pos ht]
          simp only [hd, Option.bind_some, Option.isNone_none, Bool.not_true, cond_false]
          cases dg with
          | none => simp [ht, errOf]
          | some w =>
            have hw : w5R (w5o w) := hok w rfl
            simp only [Option.isNone_some, Bool.not_false, cond_true, Option.bind_some, sha_from _ hw, eq20_t20 (b20_len _) (b20_len _), not_dec, cond_dec]
            by_cases hb : b20 (w5o w) = b20 (shaW (dgB rows u e))
            · rw [if_neg (not_not_intro hb), if_pos hb]
            · rw [if_pos hb, if_neg hb]
        · rw [if_pos ht, if_neg ht]
end Go.Proofs.YtcnngodgngmghaaGreatDoor.Ev
