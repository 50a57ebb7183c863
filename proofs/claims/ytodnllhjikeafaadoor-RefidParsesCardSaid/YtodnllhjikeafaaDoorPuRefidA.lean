/- Addresses, by the reference. -/
import Derived.Test.YtodnllhjikeafaaDoorPuRefid
import Derived.Test.YtodnllhjikeafaaDoorPuTake
namespace Go.Proofs.YtodnllhjikeafaaDoor.Ev
open Go
set_option linter.unusedVariables false
set_option linter.unusedSimpArgs false
@[reducible] def z4 : Int × (Int × (Int × (Int × Unit))) := (0, (0, (0, (0, ()))))
/-- The rows between the points; the first one has begun. -/
def dotsA : List Int → List Int → List (List Int)
  | cur, [] => [cur]
  | cur, x :: l => if x = 46 then cur :: dotsA [] l else dotsA (cur ++ [x]) l
def rowOk (w : List Int) : Prop := (1 ≤ w.length ∧ w.length ≤ 3) ∧ (∀ x ∈ w, isF x) ∧ ¬ (1 < w.length ∧ w.getD 0 0 = 48)
instance (w : List Int) : Decidable (rowOk w) := by unfold rowOk; infer_instance
@[reducible] def valsB (R : List (List Int)) : List Int := R.map fun w => val10 w % 256
theorem val3 {w : List Int} (h : rowOk w) : 0 ≤ val10 w ∧ val10 w < 1000 := by
  have := val10_range w.length w rfl h.2.1
  have hp : (10 : Int) ^ w.length ≤ 10 ^ 3 := by
    have : 10 ^ w.length ≤ 10 ^ 3 := Nat.pow_le_pow_right (by omega) h.1.2
    exact_mod_cast this
  omega
theorem ra_p27 (R : List (List Int)) (w : List Int) (hw : rowOk w) (fs : List Int) (hfs : fs.length < 4) (gr : Bool) {o : po_ref30_ParseAddress.den}
    (h : Evn (fun k => (f_ref30_ParseAddress_t k).2.1 ((z4, (R.map strOf, (codeV (fs ++ [val10 w % 256]), ()))), ((), ((), ((), (((gr || decide (255 < val10 w)), ()), ((((fs.length + 1 : Nat) : Int), ()), ()))))))) o) : ∀ (v u : List Int), w = u ++ v →
    Evn (fun k => (f_ref30_ParseAddress_t k).2.2.1 ((z4, (R.map strOf, (codeV fs, ()))), ((), ((), ((), ((gr, ()), (((fs.length : Int), ()), ((strOf w, ()), ((val10 u, ()), (((u.length : Int), ()), ())))))))))) o
  | [], u, e => by
    rw [List.append_nil] at e
    subst e
    have hv := val3 hw
    refine h.step fun k => ?_
    rw [t_ref30_ParseAddress, codeV_snoc fs _ hfs]
    simp only [f_ref30_ParseAddress_p27, fitsS_dec, Option.bind_some, Option.isNone_none, Option.isNone_some, Option.isSome_none, Option.isSome_some, Bool.not_true, Bool.not_false, cond_true, cond_false, cond_dec, beq_int, bne_int, not_dec, str_size, gt_iff_lt, iconv_u8, and_dec]
    rw [if_neg (by omega), iadd_i64 (by omega)]
    have : fs.length = 0 ∨ fs.length = 1 ∨ fs.length = 2 ∨ fs.length = 3 := by omega
    cases gr <;> rcases this with q | q | q | q <;> simp [q] <;> rfl
  | x :: v, u, e => by
    have hl : w.length = u.length + (v.length + 1) := by rw [e, List.length_append, List.length_cons]
    have ho : okBy w := fun y hy => by
      have := hw.2.1 y hy
      unfold isF at this; omega
    have hx : isF x := hw.2.1 x (by rw [e]; simp)
    have hm := by_mid (s := strOf w) (l := u) (r := v) (x := x) (by rw [by_str ho, e])
    have ih := ra_p27 R w hw fs hfs gr h v (u ++ [x]) (by rw [e, List.append_assoc]; rfl)
    have hu := val10_range u.length u rfl (fun y hy => hw.2.1 y (by rw [e]; simp [hy]))
    have hp : (10 : Int) ^ u.length ≤ 10 ^ 3 := by
      have := hw.1.2
      have : 10 ^ u.length ≤ 10 ^ 3 := Nat.pow_le_pow_right (by omega) (by omega)
      exact_mod_cast this
    rw [val10_snoc] at ih
    simp only [List.length_append, List.length_singleton] at ih
    unfold isF at hx
    have e1 : isub .u8 x 48 = x - 48 := by
      unfold isub; rw [wrap_u8]; omega
    have hw3 := hw.1.2
    refine ih.step fun k => ?_
    rw [t_ref30_ParseAddress]
    simp only [f_ref30_ParseAddress_p27, fitsS_dec, Option.bind_some, Option.isNone_none, Option.isNone_some, Option.isSome_none, Option.isSome_some, Bool.not_true, Bool.not_false, cond_true, cond_false, cond_dec, beq_int, bne_int, not_dec, str_size, and_dec, hm.1, e1]
    rw [if_pos (by omega), if_pos (by omega), imul_i64 (by omega), iconv_i64 (by omega), iadd_i64 (by omega), iadd_i64 (by omega)]
    rfl
theorem ra_p16 (R : List (List Int)) (hR : R.length = 4) (hlen : ∀ w ∈ R, okBy w ∧ w.length ≤ 1000) : ∀ (rest done : List (List Int)), R = done ++ rest → ∀ gr : Bool,
    Evn (fun k => (f_ref30_ParseAddress_t k).2.1 ((z4, (R.map strOf, (codeV (valsB done), ()))), ((), ((), ((), ((gr, ()), (((done.length : Int), ()), ()))))))) ((),
      (if ∀ w ∈ rest, rowOk w then (if (gr || rest.any fun w => decide (255 < val10 w)) = true then (z4, ((1, ()), ())) else (codeV (valsB R), ((0, ()), ()))) else (z4, ((2, ()), ()))))
  | [], done, e, gr => by
    rw [List.append_nil] at e
    subst e
    refine Evn.some 1 fun k => ?_
    rw [t_ref30_ParseAddress]
    simp only [f_ref30_ParseAddress_p16, fitsS_dec, Option.bind_some, Option.isNone_none, Option.isNone_some, Option.isSome_none, Option.isSome_some, Bool.not_true, Bool.not_false, cond_true, cond_false, cond_dec, beq_int, bne_int, not_dec]
    rw [if_neg (by omega), if_pos (by simp)]
    cases gr <;> simp
  | w :: rest, done, e, gr => by
    have hl : done.length + (rest.length + 1) = 4 := by rw [← hR, e, List.length_append, List.length_cons]
    have hwm := hlen w (by rw [e]; simp)
    have hg : gd .str (R.map strOf) (done.length : Int) = strOf w := by
      show (R.map strOf).getD (done.length : Int).toNat _ = _
      rw [Int.toNat_natCast, List.getD_eq_getElem?_getD, List.getElem?_map, e, List.getElem?_append_right (Nat.le_refl _), Nat.sub_self]
      rfl
    have hmany := ref02_many (strOf w) (by rw [str_size]; omega)
    rw [by_str hwm.1] at hmany
    by_cases c : rowOk w
    · have hsp : (∀ y ∈ w :: rest, rowOk y) ↔ (∀ y ∈ rest, rowOk y) := by
        constructor
        · intro q y hy; exact q y (List.mem_cons_of_mem _ hy)
        · intro q y hy; rcases List.mem_cons.1 hy with rfl | hy
          · exact c
          · exact q y hy
      have ih := ra_p16 R hR hlen rest (done ++ [w]) (by rw [e, List.append_assoc]; rfl) (gr || decide (255 < val10 w))
      simp only [valsB, List.map_append, List.map_cons, List.map_nil, List.length_append, List.length_singleton] at ih
      simp only [hsp, List.any_cons, ← Bool.or_assoc]
      have h27 := ra_p27 R w c (valsB done) (by simp only [valsB, List.length_map]; omega) gr (by simpa only [valsB, List.length_map] using ih) w [] rfl
      simp only [valsB, List.length_map, List.length_nil] at h27
      refine h27.step fun k => ?_
      have hlead : lead w = w.length := by
        have := lead_le w
        by_cases q : lead w < w.length
        · exact absurd (c.2.1 _ (by rw [List.getD_eq_getElem?_getD, List.getElem?_eq_getElem q]; simp)) (lead_stop q)
        · omega
      rw [t_ref30_ParseAddress]
      simp only [f_ref30_ParseAddress_p16, fitsS_dec, Option.bind_some, Option.isNone_none, Option.isNone_some, Option.isSome_none, Option.isSome_some, Bool.not_true, Bool.not_false, cond_true, cond_false, cond_dec, beq_int, bne_int, not_dec, hg, str_size, hmany, gt_iff_lt, List.length_map, and_dec, hlead]
      have := c.1
      rw [if_pos (by omega), if_pos (by omega), if_neg (by omega), if_neg (by omega), if_neg (by omega)]
      by_cases d : 1 < (w.length : Int)
      · have hb : bt (strOf w) 0 = w.getD 0 0 := by
          rw [by_at (strOf w) (by omega) (by rw [str_size]; omega), by_str hwm.1]; rfl
        rw [if_pos d, if_pos (by omega), hb, if_neg (fun q => c.2.2 ⟨by omega, q⟩)]
        rfl
      · rw [if_neg d]; rfl
    · have hsp : ¬ (∀ y ∈ w :: rest, rowOk y) := fun q => c (q w (List.mem_cons_self ..))
      rw [if_neg hsp]
      refine Evn.some 1 fun k => ?_
      rw [t_ref30_ParseAddress]
      simp only [f_ref30_ParseAddress_p16, fitsS_dec, Option.bind_some, Option.isNone_none, Option.isNone_some, Option.isSome_none, Option.isSome_some, Bool.not_true, Bool.not_false, cond_true, cond_false, cond_dec, beq_int, bne_int, not_dec, hg, str_size, hmany, gt_iff_lt, List.length_map, and_dec]
      rw [if_pos (by omega), if_pos (by omega)]
      by_cases d1 : (w.length : Int) < 1
      · rw [if_pos d1]
      rw [if_neg d1]
      by_cases d2 : 3 < (w.length : Int)
      · rw [if_pos d2]
      rw [if_neg d2]
      by_cases d3 : (lead w : Int) < w.length
      · rw [if_pos d3]
      rw [if_neg d3]
      have hf : ∀ x ∈ w, isF x := fun x hx => by
        obtain ⟨i, hi, rfl⟩ := List.getElem_of_mem hx
        have := lead_at (l := w) (i := i) (by omega)
        rw [List.getD_eq_getElem?_getD, List.getElem?_eq_getElem hi] at this
        exact this
      have hlz : 1 < w.length ∧ w.getD 0 0 = 48 := Classical.byContradiction fun q => c ⟨⟨by omega, by omega⟩, hf, q⟩
      have hb : bt (strOf w) 0 = w.getD 0 0 := by
        rw [by_at (strOf w) (by omega) (by rw [str_size]; omega), by_str hwm.1]; rfl
      rw [if_pos (by omega), if_pos (by omega), hb, if_pos hlz.2]
def refA (R : List (List Int)) : (Int × (Int × (Int × (Int × Unit)))) × ((Int × Unit) × Unit) :=
  if R.length ≠ 4 then (z4, ((2, ()), ())) else if ∀ w ∈ R, rowOk w then (if (R.any fun w => decide (255 < val10 w)) = true then (z4, ((1, ()), ())) else (codeV (valsB R), ((0, ()), ()))) else (z4, ((2, ()), ()))
theorem emp_str : (⟨#[]⟩ : ByteArray) = strOf [] := by kernel_rfl
theorem str_join {a b : List Int} (ha : okBy a) (hb : okBy b) : strOf a ++ strOf b = strOf (a ++ b) := by
  refine by_inj ?_
  rw [by_app, by_str ha, by_str hb, by_str (fun x hx => by rcases List.mem_append.1 hx with h | h; exact ha x h; exact hb x h)]
theorem cut_one {s : ByteArray} {p r : List Int} {x : Int} (h : bytesOf s = p ++ x :: r) : s.extract p.length (p.length + 1) = strOf [x] := by
  have hx : okBy [x] := fun y hy => by
    rw [List.mem_singleton.1 hy]; exact by_ok s x (by rw [h]; simp)
  refine by_inj ?_
  rw [by_cut, by_str hx, h, List.drop_take, List.drop_left' rfl, show p.length + 1 - p.length = 1 by omega]
  rfl
theorem ra_p4 (s : ByteArray) (hs : s.size ≤ 100) : ∀ (r p : List Int) (done : List (List Int)) (cur : List Int), bytesOf s = p ++ r → done.length ≤ p.length → (∀ w ∈ done ++ [cur], okBy w ∧ w.length ≤ p.length) →
    Evn (fun k => (f_ref30_ParseAddress_t k).1 ((z4, ((done ++ [cur]).map strOf, ())), ((s, ()), ((), ((), (((p.length : Int), ()), ())))))) ((), refA (done ++ dotsA cur r))
  | [], p, done, cur, e, h1, h2 => by
    have hl := by_len s
    rw [e, List.append_nil] at hl
    unfold dotsA refA
    by_cases c : (done ++ [cur]).length = 4
    · rw [if_neg (not_not_intro c)]
      have h16 := ra_p16 (done ++ [cur]) c (fun w hw => ⟨(h2 w hw).1, by have := (h2 w hw).2; omega⟩) (done ++ [cur]) [] rfl false
      simp only [Bool.false_or, List.length_nil] at h16
      refine h16.step fun k => ?_
      rw [t_ref30_ParseAddress]
      simp only [f_ref30_ParseAddress_p4, fitsS_dec, Option.bind_some, Option.isNone_none, Option.isNone_some, Option.isSome_none, Option.isSome_some, Bool.not_true, Bool.not_false, cond_true, cond_false, cond_dec, beq_int, bne_int, not_dec, List.length_map, c]
      rw [if_neg (by omega)]
      rfl
    · rw [if_pos c]
      refine Evn.some 1 fun k => ?_
      rw [t_ref30_ParseAddress]
      simp only [f_ref30_ParseAddress_p4, fitsS_dec, Option.bind_some, Option.isNone_none, Option.isNone_some, Option.isSome_none, Option.isSome_some, Bool.not_true, Bool.not_false, cond_true, cond_false, cond_dec, beq_int, bne_int, not_dec, List.length_map]
      rw [if_neg (by omega), if_pos (by omega)]
  | x :: r, p, done, cur, e, h1, h2 => by
    have hl := by_len s
    rw [e, List.length_append, List.length_cons] at hl
    obtain ⟨hx, hlt⟩ := by_mid e
    unfold dotsA
    by_cases c : x = 46
    · rw [if_pos c]
      have ih := ra_p4 s hs r (p ++ [x]) (done ++ [cur]) [] (by rw [e, List.append_assoc]; rfl) (by simp only [List.length_append, List.length_singleton]; omega) (fun w hw => by
        rcases List.mem_append.1 hw with hw | hw
        · refine ⟨(h2 w hw).1, ?_⟩
          have := (h2 w hw).2
          simp only [List.length_append, List.length_singleton]; omega
        · rw [List.mem_singleton.1 hw]; exact ⟨fun y hy => (by cases hy), Nat.zero_le _⟩)
      have e2 : done ++ [cur] ++ dotsA [] r = done ++ cur :: dotsA [] r := by rw [List.append_assoc]; rfl
      rw [e2, List.map_append] at ih
      refine ih.step fun k => ?_
      rw [t_ref30_ParseAddress]
      simp only [f_ref30_ParseAddress_p4, fitsS_dec, Option.bind_some, Option.isNone_none, Option.isNone_some, Option.isSome_none, Option.isSome_some, Bool.not_true, Bool.not_false, cond_true, cond_false, cond_dec, beq_int, bne_int, not_dec, and_dec, hx, c, List.length_map, List.length_append, List.length_singleton, emp_str, if_true]
      rw [if_pos hlt, if_pos (by omega), if_pos (by omega), iadd_i64 (by omega)]
      rfl
    · rw [if_neg c]
      have hcur := h2 cur (by simp)
      have hxo : okBy [x] := fun y hy => by
        rw [List.mem_singleton.1 hy]; exact by_ok s x (by rw [e]; simp)
      have ih := ra_p4 s hs r (p ++ [x]) done (cur ++ [x]) (by rw [e, List.append_assoc]; rfl) (by simp only [List.length_append, List.length_singleton]; omega) (fun w hw => by
        rcases List.mem_append.1 hw with hw | hw
        · refine ⟨(h2 w (by simp [hw])).1, ?_⟩
          have := (h2 w (by simp [hw])).2
          simp only [List.length_append, List.length_singleton]; omega
        · rw [List.mem_singleton.1 hw]
          refine ⟨fun y hy => ?_, by have := hcur.2; simp only [List.length_append, List.length_singleton]; omega⟩
          rcases List.mem_append.1 hy with q | q
          · exact hcur.1 y q
          · exact hxo y q)
      have hg : gd .str ((done ++ [cur]).map strOf) (done.length : Int) = strOf cur := by
        show ((done ++ [cur]).map strOf).getD (done.length : Int).toNat _ = _
        rw [Int.toNat_natCast, List.getD_eq_getElem?_getD, List.getElem?_map, List.getElem?_append_right (Nat.le_refl _), Nat.sub_self]
        rfl
      have hset : List.set ((done ++ [cur]).map strOf) done.length (strOf cur ++ strOf [x]) = (done ++ [cur ++ [x]]).map strOf := by
        rw [str_join hcur.1 hxo, List.map_append, List.map_append, List.set_append_right _ _ (by simp)]
        simp
      have hfit : fitsS (strOf cur) (strOf [x]) = true := by
        rw [fitsS_dec]; simp only [str_size, List.length_singleton]
        have := hcur.2
        exact decide_eq_true (by omega)
      refine ih.step fun k => ?_
      rw [t_ref30_ParseAddress]
      have i1 : iadd .i64 (p.length : Int) 1 = ((p.length + 1 : Nat) : Int) := by rw [iadd_i64 (by omega)]; rfl
      have i2 : isub .i64 (((done ++ [cur]).length : Nat) : Int) 1 = (done.length : Int) := by
        rw [List.length_append, List.length_singleton, isub_i64 (by omega)]; omega
      simp only [f_ref30_ParseAddress_p4, fitsS_dec, Option.bind_some, Option.isNone_none, Option.isNone_some, Option.isSome_none, Option.isSome_some, Bool.not_true, Bool.not_false, cond_true, cond_false, cond_dec, beq_int, bne_int, not_dec, -fitsS_dec, and_dec, hx, List.length_map, i1, i2, hg, cut_one e, Int.toNat_natCast, hfit, hset]
      rw [if_pos hlt, if_pos (by omega), if_neg c, if_pos (by simp only [List.length_append, List.length_singleton]; omega), if_pos (by omega), if_pos (by simp only [List.length_append, List.length_singleton]; omega)]
      simp only [List.length_append, List.length_singleton]
theorem ref30_address (s : ByteArray) (hs : s.size ≤ 100) : g_ref30_ParseAddress ((), ((s, ()), ())) = some ((), refA (dotsA [] (bytesOf s))) := by
  have key := ra_p4 s hs (bytesOf s) [] [] [] rfl (Nat.le_refl _) (fun w hw => by
    simp only [List.nil_append, List.mem_singleton] at hw
    subst hw; exact ⟨fun y hy => (by cases hy), Nat.le_refl _⟩)
  refine (key.cast fun k => ?_).lim
  simp only [f_ref30_ParseAddress_m, emp_str]
  rfl
end Go.Proofs.YtodnllhjikeafaaDoor.Ev
