/- What stands behind a head, and questions. -/
import Derived.Test.YtodnllhjikeafaaGreatDoorPureHeadParses
namespace Go.Proofs.YtodnllhjikeafaaGreatDoor.Ev
open Go
set_option linter.unusedVariables false
set_option linter.unusedSimpArgs false
set_option maxRecDepth 4000
@[reducible] def sealOk (v n : Int) : Prop := n = 0 ∨ (if v < 3 then n = 12 else if v = 3 then n = 12 ∨ n = 20 ∨ n = 24 else n = 4 ∨ n = 20 ∨ n = 24)
instance (v n : Int) : Decidable (sealOk v n) := by unfold sealOk; infer_instance
theorem ext_may (v n : Int) : g_ext_may ((), ((v, ()), ((n, ()), ()))) = some ((), ((decide (sealOk v n), ()), ())) := by
  simp only [g_ext_may, f_ext_may_m, fitsS_dec, Option.bind_some, Option.isNone_none, Option.isNone_some, Option.isSome_none, Option.isSome_some, Bool.not_true, Bool.not_false, cond_true, cond_false, cond_dec, beq_int, bne_int, not_dec]
  by_cases c0 : n = 0
  · rw [if_pos c0]; congr 4; simp [sealOk, c0]
  rw [if_neg c0]
  by_cases c1 : v < 3
  · rw [if_pos c1]; congr 4; simp [sealOk, c0, c1]
  rw [if_neg c1]
  by_cases c2 : v = 3
  · rw [if_pos c2]
    by_cases c3 : n = 12
    · rw [if_pos c3]; congr 4; simp [sealOk, c2, c3]
    rw [if_neg c3]
    by_cases c4 : n = 20
    · rw [if_pos c4]; congr 4; simp [sealOk, c2, c4]
    rw [if_neg c4]; congr 4; simp [sealOk, c0, c2, c3, c4]
  rw [if_neg c2]
  by_cases c3 : n = 4
  · rw [if_pos c3]; congr 4; simp [sealOk, c1, c2, c3]
  rw [if_neg c3]
  by_cases c4 : n = 20
  · rw [if_pos c4]; congr 4; simp [sealOk, c1, c2, c4]
  rw [if_neg c4]; congr 4; simp [sealOk, c0, c1, c2, c3, c4]
theorem seal_p8 (l : List Int) (hl : l.length ≤ 100) (n : Int) : ∀ (j i : Nat), i + j = l.length →
    Evn (fun k => (f_ref29_seal_t k).1 ((l, ()), ((n, ()), ((), (((i : Int), ()), ()))))) ((), ((decide (n ∈ l.drop i), ()), ()))
  | 0, i, h => by
    refine Evn.some 1 fun k => ?_
    rw [t_ref29_seal]
    simp only [f_ref29_seal_p8, fitsS_dec, Option.bind_some, Option.isNone_none, Option.isNone_some, Option.isSome_none, Option.isSome_some, Bool.not_true, Bool.not_false, cond_true, cond_false, cond_dec, beq_int, bne_int, not_dec]
    rw [if_neg (by omega), List.drop_eq_nil_of_le (by omega)]
    rfl
  | j + 1, i, h => by
    have ih := seal_p8 l hl n j (i + 1) (by omega)
    have hlt : i < l.length := by omega
    have hg : gd (.int .i64) l (i : Int) = l[i] := by
      rw [gd_get (.int .i64) l (i : Int) (by omega) (by omega)]; rfl
    have hd := List.drop_eq_getElem_cons hlt
    by_cases c : l[i] = n
    · refine Evn.some 1 fun k => ?_
      rw [t_ref29_seal]
      simp only [f_ref29_seal_p8, fitsS_dec, Option.bind_some, Option.isNone_none, Option.isNone_some, Option.isSome_none, Option.isSome_some, Bool.not_true, Bool.not_false, cond_true, cond_false, cond_dec, beq_int, bne_int, not_dec, and_dec, hg]
      rw [if_pos (by omega), if_pos (by omega), if_pos c, hd, c]
      simp
    · have e : (n ∈ List.drop i l) ↔ n ∈ List.drop (i + 1) l := by
        rw [hd, List.mem_cons]; exact ⟨fun h => h.resolve_left (fun e => c e.symm), .inr⟩
      simp only [e]
      refine ih.step fun k => ?_
      rw [t_ref29_seal]
      simp only [f_ref29_seal_p8, fitsS_dec, Option.bind_some, Option.isNone_none, Option.isNone_some, Option.isSome_none, Option.isSome_some, Bool.not_true, Bool.not_false, cond_true, cond_false, cond_dec, beq_int, bne_int, not_dec, and_dec, hg]
      rw [if_pos (by omega), if_pos (by omega), if_neg c, iadd_i64 (by omega)]
      rfl
theorem ref29_seal (v n : Int) : g_ref29_seal ((), ((v, ()), ((n, ()), ()))) = some ((), ((decide (sealOk v n), ()), ())) := by
  have key : ∀ l : List Int, l.length ≤ 100 → Evn (fun k => (f_ref29_seal_t k).1 ((l, ()), ((n, ()), ((), ((0, ()), ()))))) ((), ((decide (n ∈ l), ()), ())) := fun l hl => by
    have := seal_p8 l hl n l.length 0 (by omega)
    rw [List.drop_zero] at this; exact this
  by_cases c1 : v ≤ 2
  · have h := key [0, 12] (by decide)
    have e : (n ∈ ([0, 12] : List Int)) ↔ sealOk v n := by
      unfold sealOk; rw [if_pos (by omega)]; simp
    simp only [e] at h
    refine (h.cast fun k => ?_).lim
    simp only [f_ref29_seal_m, fitsS_dec, Option.bind_some, Option.isNone_none, Option.isNone_some, Option.isSome_none, Option.isSome_some, Bool.not_true, Bool.not_false, cond_true, cond_false, cond_dec, beq_int, bne_int, not_dec]
    rw [if_pos c1, if_neg (by omega)]
  by_cases c2 : v = 3
  · have h := key [0, 12, 20, 24] (by decide)
    have e : (n ∈ ([0, 12, 20, 24] : List Int)) ↔ sealOk v n := by
      unfold sealOk; rw [if_neg (by omega), if_pos c2]; simp
    simp only [e] at h
    refine (h.cast fun k => ?_).lim
    simp only [f_ref29_seal_m, fitsS_dec, Option.bind_some, Option.isNone_none, Option.isNone_some, Option.isSome_none, Option.isSome_some, Bool.not_true, Bool.not_false, cond_true, cond_false, cond_dec, beq_int, bne_int, not_dec]
    rw [if_neg c1, if_pos c2]
  · have h := key [0, 4, 20, 24] (by decide)
    have e : (n ∈ ([0, 4, 20, 24] : List Int)) ↔ sealOk v n := by
      unfold sealOk; rw [if_neg (by omega), if_neg c2]; simp
    simp only [e] at h
    refine (h.cast fun k => ?_).lim
    simp only [f_ref29_seal_m, fitsS_dec, Option.bind_some, Option.isNone_none, Option.isNone_some, Option.isSome_none, Option.isSome_some, Bool.not_true, Bool.not_false, cond_true, cond_false, cond_dec, beq_int, bne_int, not_dec]
    rw [if_neg c1, if_neg c2]
/-- A field's length. -/
def fk (c : List Int) : Int := wordv ((c.drop 2).take 2) 0
@[reducible] def fBad (c : List Int) : Prop := fk c < 16 ∨ ¬ fk c % 4 = 0 ∨ (c.length : Int) < fk c
theorem two_range {c : List Int} (hb : bytesL c) (h : 4 ≤ c.length) (i : Nat) (hi : i ≤ 2) : 0 ≤ wordv ((c.drop i).take 2) 0 ∧ wordv ((c.drop i).take 2) 0 < 65536 := by
  have hl : ((c.drop i).take 2).length = 2 := by simp; omega
  have := wordv_lt (l := (c.drop i).take 2) (fun x hx => hb x (List.mem_of_mem_drop (List.mem_of_mem_take hx))) (by omega)
  rw [hl, show (256 : Int) ^ 2 = 65536 from rfl] at this
  exact this
theorem ext_field (c : List Int) (hb : bytesL c) (hl : c.length ≤ 100000) (h : 24 < c.length) : g_ext_field ((), ((c, ()), ())) = some (
    if fBad c then (([], ()), ((0, ()), (([], ()), ((some 2, ()), ()))))
    else (((c.take (fk c).toNat).drop 4, ()), ((wordv ((c.drop 0).take 2) 0, ()), ((c.drop (fk c).toNat, ()), ((none, ()), ()))))) := by
  have h1 := list_u16 c hb (by omega) 0 2 (by unfold i64; omega) (by unfold i64; omega)
  rw [if_neg (by omega), if_neg (by omega), show (0 : Int).toNat = 0 from rfl, List.drop_zero] at h1
  have e : chunks 2 (Int.toNat 2) c = [(c.drop 0).take 2, (c.drop 2).take 2] := by
    show [c.take 2, (c.drop 2).take 2] = _
    rw [List.drop_zero]
  have w0 := two_range hb (by omega) 0 (by decide)
  have w2 := two_range hb (by omega) 2 (by decide)
  rw [e] at h1
  simp only [List.map_cons, List.map_nil, iconv_u16] at h1
  rw [Int.emod_eq_of_lt w0.1 w0.2, Int.emod_eq_of_lt w2.1 w2.2] at h1
  have g1 : ∀ x y : Int, gd (.int .u16) [x, y] 1 = y := fun _ _ => rfl
  have g0 : ∀ x y : Int, gd (.int .u16) [x, y] 0 = x := fun _ _ => rfl
  simp only [g_ext_field, f_ext_field_m, h1, g_ext_long, f_ext_long_m, fitsS_dec, Option.bind_some, Option.isNone_none, Option.isNone_some, Option.isSome_none, Option.isSome_some, Bool.not_true, Bool.not_false, cond_true, cond_false, cond_dec, beq_int, bne_int, not_dec, g0, g1, List.length_cons, List.length_nil, and_dec, ge_iff_le, gt_iff_lt]
  rw [if_pos (by decide), iconv_i64 (by omega)]
  have w2 : 0 ≤ fk c ∧ fk c < 65536 := w2
  simp only [show wordv ((c.drop 2).take 2) 0 = fk c from rfl]
  unfold fBad
  generalize fk c = k at w2 ⊢
  rw [tmod_nn (by omega)]
  by_cases c1 : k < 16
  · rw [if_neg (by omega), if_pos (show k < 16 ∨ ¬ k % 4 = 0 ∨ (c.length : Int) < k from .inl c1)]; simp
  rw [if_pos (by omega)]
  by_cases c2 : k % 4 = 0
  · by_cases c3 : (c.length : Int) < k
    · rw [if_pos (show k < 16 ∨ ¬ k % 4 = 0 ∨ (c.length : Int) < k from .inr (.inr c3))]; simp [c2, c3]
    · rw [if_neg (show ¬ (k < 16 ∨ ¬ k % 4 = 0 ∨ (c.length : Int) < k) by omega)]
      have hc := clone (List.drop (Int.toNat 4) (List.take (Int.toNat k) c)) (by simp only [List.length_drop, List.length_take]; omega)
      simp only [c2, c3, hc, decide_true, Bool.not_true, cond_false, cond_true, if_false, if_true, fitsS_dec, Option.bind_some, Option.isNone_none, Option.isNone_some, Option.isSome_none, Option.isSome_some, Bool.not_true, Bool.not_false, cond_true, cond_false, cond_dec, beq_int, bne_int, not_dec, not_true_eq_false]
      rw [if_pos (by decide), if_pos (by omega), if_pos (by omega)]
      simp
  · rw [if_pos (show k < 16 ∨ ¬ k % 4 = 0 ∨ (c.length : Int) < k from .inr (.inl c2))]; simp [c2]
/-- The error's number of what stands behind a head of version 4. -/
def wErr : Nat → List Int → Int
  | 0, _ => 0
  | n + 1, c => if 24 < c.length then (if fBad c then 2 else wErr n (c.drop (fk c).toNat)) else if sealOk 4 c.length then 0 else 2
def walkE (v : Int) (c : List Int) : Int := if v < 1 ∨ 4 < v then 11 else if 65487 < c.length then 3 else if v = 4 then wErr (c.length + 1) c else if sealOk v c.length then 0 else 2
theorem walk_p8 (v : Int) (c : List Int) (fs : List (Int × List Int)) (hc : c.length ≤ 100000) (h : ¬ (v = 4 ∧ 24 < c.length)) : ∃ r, Evn (fun k => (f_ext_Walk_t k).1 (((), ([], ([], ((), (fs, ([], ())))))), ((v, ()), ((c, ()), ((), ((), ())))))) (r, ((), ((errOf (if sealOk v c.length then 0 else 2), ()), ()))) := by
  have hm := ext_may v c.length
  have hcl := clone c (by omega)
  by_cases c1 : sealOk v c.length
  · rw [if_pos c1]
    refine ⟨(fs, (c, ())), Evn.some 1 fun k => ?_⟩
    rw [t_ext_Walk]
    simp only [f_ext_Walk_p8, hm, hcl, fitsS_dec, Option.bind_some, Option.isNone_none, Option.isNone_some, Option.isSome_none, Option.isSome_some, Bool.not_true, Bool.not_false, cond_true, cond_false, cond_dec, beq_int, bne_int, not_dec, gt_iff_lt, decide_eq_true c1, Bool.not_true, cond_false]
    by_cases c2 : v = 4
    · rw [if_pos c2, if_neg (by omega)]; simp [c1]; rfl
    · rw [if_neg c2]; simp [c1]; rfl
  · rw [if_neg c1]
    refine ⟨([], ([], ())), Evn.some 1 fun k => ?_⟩
    rw [t_ext_Walk]
    simp only [f_ext_Walk_p8, hm, fitsS_dec, Option.bind_some, Option.isNone_none, Option.isNone_some, Option.isSome_none, Option.isSome_some, Bool.not_true, Bool.not_false, cond_true, cond_false, cond_dec, beq_int, bne_int, not_dec, gt_iff_lt, decide_eq_false c1, Bool.not_false, cond_true]
    by_cases c2 : v = 4
    · rw [if_pos c2, if_neg (by omega)]; simp [c1]; rfl
    · rw [if_neg c2]; simp [c1]; rfl
theorem walk_ext : ∀ (n : Nat) (c : List Int) (fs : List (Int × List Int)), c.length < n → bytesL c → fs.length + c.length ≤ 100000 →
    ∃ r, Evn (fun k => (f_ext_Walk_t k).1 (((), ([], ([], ((), (fs, ([], ())))))), ((4, ()), ((c, ()), ((), ((), ())))))) (r, ((), ((errOf (wErr n c), ()), ())))
  | 0, c, fs, h1, hb, h2 => by omega
  | n + 1, c, fs, h1, hb, h2 => by
    unfold wErr
    by_cases c24 : 24 < c.length
    · rw [if_pos c24]
      have hf := ext_field c hb (by omega) c24
      by_cases hk : fBad c
      · rw [if_pos hk] at hf ⊢
        refine ⟨([], ([], ())), Evn.some 1 fun k => ?_⟩
        rw [t_ext_Walk]
        simp only [f_ext_Walk_p8, hf, fitsS_dec, Option.bind_some, Option.isNone_none, Option.isNone_some, Option.isSome_none, Option.isSome_some, Bool.not_true, Bool.not_false, cond_true, cond_false, cond_dec, beq_int, bne_int, not_dec, gt_iff_lt, beq_self_eq_true, cond_true, if_true]
        rw [if_pos (show (24 : Int) < (c.length : Int) by omega)]; rfl
      · rw [if_neg hk] at hf ⊢
        have hk16 : 16 ≤ fk c ∧ fk c ≤ c.length := by unfold fBad at hk; omega
        obtain ⟨r, hr⟩ := walk_ext n (c.drop (fk c).toNat) (fs ++ [(wordv ((c.drop 0).take 2) 0, (c.take (fk c).toNat).drop 4)]) (by simp only [List.length_drop]; omega) (fun x hx => hb x (List.mem_of_mem_drop hx)) (by simp only [List.length_drop, List.length_append, List.length_singleton]; omega)
        refine ⟨r, hr.step fun k => ?_⟩
        rw [t_ext_Walk]
        simp only [f_ext_Walk_p8, hf, fitsS_dec, Option.bind_some, Option.isNone_none, Option.isNone_some, Option.isSome_none, Option.isSome_some, Bool.not_true, Bool.not_false, cond_true, cond_false, cond_dec, beq_int, bne_int, not_dec, gt_iff_lt, List.length_singleton, and_dec, beq_self_eq_true, cond_true, if_true]
        rw [if_pos (show (24 : Int) < (c.length : Int) by omega), if_pos (by omega)]
    · rw [if_neg c24]
      exact walk_p8 4 c fs (by omega) (by omega)
theorem ext_walk (v : Int) (c : List Int) (hb : bytesL c) (hl : c.length ≤ 90000) : ∃ r, g_ext_Walk ((), ((v, ()), ((c, ()), ()))) = some (r, ((), ((errOf (walkE v c), ()), ()))) := by
  unfold walkE
  by_cases c1 : v < 1 ∨ 4 < v
  · rw [if_pos c1]
    refine ⟨([], ([], ())), (Evn.const fun k => ?_).lim⟩
    simp only [f_ext_Walk_m, g_ext_known, f_ext_known_m, fitsS_dec, Option.bind_some, Option.isNone_none, Option.isNone_some, Option.isSome_none, Option.isSome_some, Bool.not_true, Bool.not_false, cond_true, cond_false, cond_dec, beq_int, bne_int, not_dec, ge_iff_le]
    by_cases c2 : 1 ≤ v
    · rw [if_pos c2]; simp [show ¬ v ≤ 4 by omega]; rfl
    · rw [if_neg c2]; simp; rfl
  rw [if_neg c1]
  have hkn : g_ext_known ((), ((v, ()), ())) = some ((), ((true, ()), ())) := by
    simp only [g_ext_known, f_ext_known_m, fitsS_dec, Option.bind_some, Option.isNone_none, Option.isNone_some, Option.isSome_none, Option.isSome_some, Bool.not_true, Bool.not_false, cond_true, cond_false, cond_dec, beq_int, bne_int, not_dec, ge_iff_le]
    rw [if_pos (by omega), decide_eq_true (by omega)]
  by_cases c2 : 65487 < c.length
  · rw [if_pos c2]
    refine ⟨([], ([], ())), (Evn.const fun k => ?_).lim⟩
    simp only [f_ext_Walk_m, hkn, fitsS_dec, Option.bind_some, Option.isNone_none, Option.isNone_some, Option.isSome_none, Option.isSome_some, Bool.not_true, Bool.not_false, cond_true, cond_false, cond_dec, beq_int, bne_int, not_dec, gt_iff_lt]
    rw [if_pos (by omega)]; rfl
  rw [if_neg c2]
  by_cases c3 : v = 4
  · rw [if_pos c3]
    obtain ⟨r, hr⟩ := walk_ext (c.length + 1) c [] (by omega) hb (by simp only [List.length_nil]; omega)
    refine ⟨r, (hr.cast fun k => ?_).lim⟩
    simp only [f_ext_Walk_m, hkn, fitsS_dec, Option.bind_some, Option.isNone_none, Option.isNone_some, Option.isSome_none, Option.isSome_some, Bool.not_true, Bool.not_false, cond_true, cond_false, cond_dec, beq_int, bne_int, not_dec, gt_iff_lt]
    rw [if_neg (by omega), c3]
  · rw [if_neg c3]
    obtain ⟨r, hr⟩ := walk_p8 v c [] (by omega) (by omega)
    refine ⟨r, (hr.cast fun k => ?_).lim⟩
    simp only [f_ext_Walk_m, hkn, fitsS_dec, Option.bind_some, Option.isNone_none, Option.isNone_some, Option.isSome_none, Option.isSome_some, Bool.not_true, Bool.not_false, cond_true, cond_false, cond_dec, beq_int, bne_int, not_dec, gt_iff_lt]
    rw [if_neg (by omega)]
theorem walk_ref (b : List Int) (hb : bytesL b) (hl : b.length ≤ 90000) : ∀ (n at_ : Nat) (fs : List (Int × List Int)), b.length < n + at_ → at_ ≤ b.length → fs.length ≤ at_ →
    ∃ r s, Evn (fun k => (f_ref29_Walk_t k).1 (((), ([], ([], ((), (fs, ([], ())))))), ((4, ()), ((b, ()), ((), ((), (((at_ : Int), ()), ()))))))) (r, (s, ((wErr n (b.drop at_), ()), ())))
  | 0, at_, fs, h1, h2, h3 => by omega
  | n + 1, at_, fs, h1, h2, h3 => by
    unfold wErr
    have hdl : (b.drop at_).length = b.length - at_ := by simp
    have hdb : bytesL (b.drop at_) := fun x hx => hb x (List.mem_of_mem_drop hx)
    by_cases c24 : 24 < (b.drop at_).length
    · rw [if_pos c24]
      have w2 := two_range hdb (by omega) 2 (by decide)
      have w0 := two_range hdb (by omega) 0 (by decide)
      change 0 ≤ fk (b.drop at_) ∧ fk (b.drop at_) < 65536 at w2
      have s2 : List.drop (Int.toNat ((at_ : Int) + 2)) (List.take (Int.toNat ((at_ : Int) + 4)) b) = ((b.drop at_).drop 2).take 2 := by
        rw [show Int.toNat ((at_ : Int) + 2) = at_ + 2 by omega, show Int.toNat ((at_ : Int) + 4) = at_ + 4 by omega, List.drop_take, List.drop_drop, show at_ + 4 - (at_ + 2) = 2 by omega]
      have s0 : List.drop (Int.toNat (at_ : Int)) (List.take (Int.toNat ((at_ : Int) + 2)) b) = ((b.drop at_).drop 0).take 2 := by
        rw [show Int.toNat (at_ : Int) = at_ by omega, show Int.toNat ((at_ : Int) + 2) = at_ + 2 by omega, List.drop_take, List.drop_zero, show at_ + 2 - at_ = 2 by omega]
      have v2 := ref03_value (((b.drop at_).drop 2).take 2) (fun x hx => hdb x (List.mem_of_mem_drop (List.mem_of_mem_take hx))) (by simp only [List.length_take]; omega)
      have v0 := ref03_value (((b.drop at_).drop 0).take 2) (fun x hx => hdb x (List.mem_of_mem_drop (List.mem_of_mem_take hx))) (by simp only [List.length_take]; omega)
      change _ = some ((), ((fk (b.drop at_), ()), ())) at v2
      by_cases hk : fBad (b.drop at_)
      · rw [if_pos hk]
        refine ⟨([], ()), ([], ()), Evn.some 1 fun k => ?_⟩
        rw [t_ref29_Walk]
        simp only [f_ref29_Walk_p11, fitsS_dec, Option.bind_some, Option.isNone_none, Option.isNone_some, Option.isSome_none, Option.isSome_some, Bool.not_true, Bool.not_false, cond_true, cond_false, cond_dec, beq_int, bne_int, not_dec, gt_iff_lt, and_dec]
        rw [isub_i64 (by omega), if_pos (by omega), iadd_i64 (by omega), iadd_i64 (by omega), if_pos (by omega), s2, v2]
        simp only [fitsS_dec, Option.bind_some, Option.isNone_none, Option.isNone_some, Option.isSome_none, Option.isSome_some, Bool.not_true, Bool.not_false, cond_true, cond_false, cond_dec, beq_int, bne_int, not_dec]
        rw [iconv_i64 (by omega)]
        unfold fBad at hk
        generalize fk (b.drop at_) = q at *
        by_cases d1 : q < 16
        · rw [if_pos d1]
        rw [if_neg d1, tmod_nn (by omega)]
        by_cases d2 : q % 4 = 0
        · rw [if_neg (by simpa using d2), iadd_i64 (by omega), if_pos (by omega)]
        · rw [if_pos (by simpa using d2)]
      · rw [if_neg hk]
        have hk16 : 16 ≤ fk (b.drop at_) ∧ fk (b.drop at_) % 4 = 0 ∧ fk (b.drop at_) ≤ (b.drop at_).length := by unfold fBad at hk; omega
        obtain ⟨q, hq⟩ : ∃ q : Nat, fk (b.drop at_) = q := ⟨(fk (b.drop at_)).toNat, by omega⟩
        rw [hq] at hk16 w2 v2 ⊢
        obtain ⟨r, s, hr⟩ := walk_ref b hb hl n (at_ + q) (fs ++ [(wordv (((b.drop at_).drop 0).take 2) 0, List.drop (Int.toNat ((at_ : Int) + 4)) (List.take (Int.toNat ((at_ : Int) + q)) b))]) (by omega) (by omega) (by simp only [List.length_append, List.length_singleton]; omega)
        refine ⟨r, s, ?_⟩
        rw [List.drop_drop, show (q : Int).toNat = q by omega]
        refine hr.step fun k => ?_
        rw [t_ref29_Walk]
        simp only [f_ref29_Walk_p11, fitsS_dec, Option.bind_some, Option.isNone_none, Option.isNone_some, Option.isSome_none, Option.isSome_some, Bool.not_true, Bool.not_false, cond_true, cond_false, cond_dec, beq_int, bne_int, not_dec, gt_iff_lt, and_dec]
        rw [isub_i64 (by omega), if_pos (by omega), iadd_i64 (by omega), iadd_i64 (by omega), if_pos (by omega), s2, v2]
        simp only [fitsS_dec, Option.bind_some, Option.isNone_none, Option.isNone_some, Option.isSome_none, Option.isSome_some, Bool.not_true, Bool.not_false, cond_true, cond_false, cond_dec, beq_int, bne_int, not_dec]
        rw [iconv_i64 (by omega), if_neg (by omega), tmod_nn (by omega), if_neg (by simp [hk16.2.1]), iadd_i64 (by omega), if_neg (by omega), if_pos (by omega), s0, v0]
        simp only [fitsS_dec, Option.bind_some, Option.isNone_none, Option.isNone_some, Option.isSome_none, Option.isSome_some, Bool.not_true, Bool.not_false, cond_true, cond_false, cond_dec, beq_int, bne_int, not_dec, List.length_singleton]
        rw [if_pos (by omega), if_pos (by omega), iconv_u16, Int.emod_eq_of_lt w0.1 w0.2]
        rfl
    · rw [if_neg c24]
      have hs := ref29_seal 4 ((b.length : Int) - at_)
      by_cases c1 : sealOk 4 (b.drop at_).length
      · rw [if_pos c1]
        have c1' : sealOk 4 ((b.length : Int) - at_) := by rw [hdl] at c1; rw [show (b.length : Int) - at_ = ((b.length - at_ : Nat) : Int) by omega]; exact c1
        refine ⟨(fs, ()), (List.drop (Int.toNat (at_ : Int)) (List.take (Int.toNat (b.length : Int)) b), ()), Evn.some 1 fun k => ?_⟩
        rw [t_ref29_Walk]
        simp only [f_ref29_Walk_p11, fitsS_dec, Option.bind_some, Option.isNone_none, Option.isNone_some, Option.isSome_none, Option.isSome_some, Bool.not_true, Bool.not_false, cond_true, cond_false, cond_dec, beq_int, bne_int, not_dec, gt_iff_lt, and_dec]
        rw [isub_i64 (by omega), if_neg (by omega), hs, decide_eq_true c1']
        simp only [fitsS_dec, Option.bind_some, Option.isNone_none, Option.isNone_some, Option.isSome_none, Option.isSome_some, Bool.not_true, Bool.not_false, cond_true, cond_false, cond_dec, beq_int, bne_int, not_dec]
        rw [if_pos (by omega)]
      · rw [if_neg c1]
        have c1' : ¬ sealOk 4 ((b.length : Int) - at_) := by rw [hdl] at c1; rw [show (b.length : Int) - at_ = ((b.length - at_ : Nat) : Int) by omega]; exact c1
        refine ⟨([], ()), ([], ()), Evn.some 1 fun k => ?_⟩
        rw [t_ref29_Walk]
        simp only [f_ref29_Walk_p11, fitsS_dec, Option.bind_some, Option.isNone_none, Option.isNone_some, Option.isSome_none, Option.isSome_some, Bool.not_true, Bool.not_false, cond_true, cond_false, cond_dec, beq_int, bne_int, not_dec, gt_iff_lt, and_dec]
        rw [isub_i64 (by omega), if_neg (by omega), hs, decide_eq_false c1']
        try simp only [fitsS_dec, Option.bind_some, Option.isNone_none, Option.isNone_some, Option.isSome_none, Option.isSome_some, Bool.not_true, Bool.not_false, cond_true, cond_false, cond_dec, beq_int, bne_int, not_dec]
theorem ref29_walk (v : Int) (c : List Int) (hb : bytesL c) (hl : c.length ≤ 90000) : ∃ r s, g_ref29_Walk ((), ((v, ()), ((c, ()), ()))) = some (r, (s, ((walkE v c, ()), ()))) := by
  unfold walkE
  by_cases c1 : v < 1 ∨ 4 < v
  · rw [if_pos c1]
    refine ⟨([], ()), ([], ()), (Evn.const fun k => ?_).lim⟩
    simp only [f_ref29_Walk_m, fitsS_dec, Option.bind_some, Option.isNone_none, Option.isNone_some, Option.isSome_none, Option.isSome_some, Bool.not_true, Bool.not_false, cond_true, cond_false, cond_dec, beq_int, bne_int, not_dec, gt_iff_lt]
    by_cases c2 : v < 1
    · rw [if_pos c2]
    · rw [if_neg c2, if_pos (by omega)]
  rw [if_neg c1]
  by_cases c2 : 65487 < c.length
  · rw [if_pos c2]
    refine ⟨([], ()), ([], ()), (Evn.const fun k => ?_).lim⟩
    simp only [f_ref29_Walk_m, fitsS_dec, Option.bind_some, Option.isNone_none, Option.isNone_some, Option.isSome_none, Option.isSome_some, Bool.not_true, Bool.not_false, cond_true, cond_false, cond_dec, beq_int, bne_int, not_dec, gt_iff_lt]
    rw [if_neg (by omega), if_neg (by omega), if_pos (by omega)]
  rw [if_neg c2]
  by_cases c3 : v = 4
  · rw [if_pos c3]
    obtain ⟨r, s, hr⟩ := walk_ref c hb hl (c.length + 1) 0 [] (by omega) (by omega) (by simp)
    rw [List.drop_zero] at hr
    refine ⟨r, s, (hr.cast fun k => ?_).lim⟩
    simp only [f_ref29_Walk_m, fitsS_dec, Option.bind_some, Option.isNone_none, Option.isNone_some, Option.isSome_none, Option.isSome_some, Bool.not_true, Bool.not_false, cond_true, cond_false, cond_dec, beq_int, bne_int, not_dec, gt_iff_lt]
    rw [if_neg (by omega), if_neg (by omega), if_neg (by omega), if_pos c3, c3]
    rfl
  · rw [if_neg c3]
    have hs := ref29_seal v (c.length : Int)
    have e0 : isub .i64 (c.length : Int) 0 = (c.length : Int) := by rw [isub_i64 (by omega)]; omega
    by_cases c4 : sealOk v c.length
    · rw [if_pos c4]
      refine ⟨([], ()), (List.drop (Int.toNat 0) (List.take (Int.toNat (c.length : Int)) c), ()), (Evn.const fun k => ?_).lim⟩
      simp only [f_ref29_Walk_m, fitsS_dec, Option.bind_some, Option.isNone_none, Option.isNone_some, Option.isSome_none, Option.isSome_some, Bool.not_true, Bool.not_false, cond_true, cond_false, cond_dec, beq_int, bne_int, not_dec, gt_iff_lt, and_dec, e0, hs, decide_eq_true c4]
      rw [if_neg (by omega), if_neg (by omega), if_neg (by omega), if_neg c3, if_pos (by omega)]
    · rw [if_neg c4]
      refine ⟨([], ()), ([], ()), (Evn.const fun k => ?_).lim⟩
      simp only [f_ref29_Walk_m, fitsS_dec, Option.bind_some, Option.isNone_none, Option.isNone_some, Option.isSome_none, Option.isSome_some, Bool.not_true, Bool.not_false, cond_true, cond_false, cond_dec, beq_int, bne_int, not_dec, gt_iff_lt, and_dec, e0, hs, decide_eq_false c4]
      rw [if_neg (by omega), if_neg (by omega), if_neg (by omega), if_neg c3]
end Go.Proofs.YtodnllhjikeafaaGreatDoor.Ev
