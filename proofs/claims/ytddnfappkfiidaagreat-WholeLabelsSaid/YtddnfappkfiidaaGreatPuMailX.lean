/- Mail dates: the reader's steps. -/
import Derived.Test.YtddnfappkfiidaaGreatPuMailG
namespace Go.Proofs.YtddnfappkfiidaaGreat.Ev
open Go
set_option linter.unusedVariables false
set_option linter.unusedSimpArgs false
/-! ### letters alike -/
def low (x : Int) : Int := if 65 ≤ x ∧ x ≤ 90 then x + 32 else x
theorem scan_small (x : Int) (hx : 0 ≤ x ∧ x < 256) : g_scan_small ((), ((x, ()), ())) = some ((), ((low x, ()), ())) := by
  simp only [g_scan_small, f_scan_small_m, fitsS_dec, Option.bind_some, Option.isNone_none, Option.isNone_some, Option.isSome_none, Option.isSome_some, Bool.not_true, Bool.not_false, cond_true, cond_false, cond_dec, beq_int, bne_int, not_dec, ge_iff_le]
  unfold low
  by_cases h : 65 ≤ x
  · rw [if_pos h]
    by_cases h2 : x ≤ 90
    · have e1 : isub .u8 x 65 = x - 65 := by unfold isub; rw [wrap_u8]; omega
      have e2 : iadd .u8 (x - 65) 97 = x + 32 := by unfold iadd; rw [wrap_u8]; omega
      rw [if_pos h2, if_pos ⟨h, h2⟩, e1, e2]
    · rw [if_neg h2, if_neg (fun q => h2 q.2)]
  · rw [if_neg h, if_neg (fun q => h q.1)]
theorem alike_p3 (a b : List Int) (ha : okBy a) (hb : okBy b) (hl : a.length = b.length) (h1 : a.length ≤ 1000) : ∀ (k i : Nat), i + k = a.length → (∀ j, j < i → low (a.getD j 0) = low (b.getD j 0)) →
    Evn (fun f => (f_scan_alike_t f).1 ((), ((strOf a, ()), ((strOf b, ()), (((a.length : Int), ()), (((i : Int), ()), ())))))) ((), ((decide (a.map low = b.map low), ()), ())) := by
  intro k; induction k with
  | zero =>
    intro i hi hp
    have : a.map low = b.map low := by
      refine List.ext_getElem (by simp [hl]) fun j h1 h2 => ?_
      rw [List.length_map] at h1 h2
      have := hp j (by omega)
      rw [List.getD_eq_getElem?_getD, List.getD_eq_getElem?_getD, List.getElem?_eq_getElem h1, List.getElem?_eq_getElem h2] at this
      simpa using this
    rw [decide_eq_true this]
    refine Evn.some 1 fun f => ?_
    simp only [t_scan_alike, f_scan_alike_p3, fitsS_dec, Option.bind_some, Option.isNone_none, Option.isNone_some, Option.isSome_none, Option.isSome_some, Bool.not_true, Bool.not_false, cond_true, cond_false, cond_dec, beq_int, bne_int, not_dec]
    rw [if_neg (by omega)]
  | succ k ih =>
    intro i hi hp
    have b1 := by_at (strOf a) (i := (i : Int)) (by omega) (by rw [str_size]; omega)
    have b2 := by_at (strOf b) (i := (i : Int)) (by omega) (by rw [str_size]; omega)
    rw [by_str ha, Int.toNat_natCast] at b1
    rw [by_str hb, Int.toNat_natCast] at b2
    have s1 := scan_small _ (okBy_at ha i)
    have s2 := scan_small _ (okBy_at hb i)
    by_cases c : low (a.getD i 0) = low (b.getD i 0)
    · refine (ih (i + 1) (by omega) (fun j hj => ?_)).step fun f => ?_
      · by_cases q : j = i
        · rw [q]; exact c
        · exact hp j (by omega)
      · simp only [t_scan_alike, f_scan_alike_p3, b1, b2, s1, s2, str_size, fitsS_dec, Option.bind_some, Option.isNone_none, Option.isNone_some, Option.isSome_none, Option.isSome_some, Bool.not_true, Bool.not_false, cond_true, cond_false, cond_dec, beq_int, bne_int, not_dec, and_dec]
        rw [if_pos (by omega), if_pos (by omega), if_pos (by omega), if_neg (not_not_intro c), iadd_i64 (by omega)]; rfl
    · have : ¬ a.map low = b.map low := by
        intro q
        have := congrArg (fun z => z[i]?) q
        simp only [List.getElem?_map] at this
        rw [List.getElem?_eq_getElem (by omega), List.getElem?_eq_getElem (by omega)] at this
        rw [List.getD_eq_getElem?_getD, List.getD_eq_getElem?_getD, List.getElem?_eq_getElem (by omega), List.getElem?_eq_getElem (by omega)] at c
        exact c (by simpa using this)
      rw [decide_eq_false this]
      refine Evn.some 1 fun f => ?_
      simp only [t_scan_alike, f_scan_alike_p3, b1, b2, s1, s2, str_size, fitsS_dec, Option.bind_some, Option.isNone_none, Option.isNone_some, Option.isSome_none, Option.isSome_some, Bool.not_true, Bool.not_false, cond_true, cond_false, cond_dec, beq_int, bne_int, not_dec, and_dec]
      rw [if_pos (by omega), if_pos (by omega), if_pos (by omega), if_pos c]
theorem scan_alike (a b : List Int) (ha : okBy a) (hb : okBy b) (hl : a.length = b.length) (h1 : a.length ≤ 1000) : g_scan_alike ((), ((strOf a, ()), ((strOf b, ()), ()))) = some ((), ((decide (a.map low = b.map low), ()), ())) := by
  refine ((alike_p3 a b ha hb hl h1 a.length 0 (by omega) (fun j hj => by omega)).cast fun f => ?_).lim
  simp only [f_scan_alike_m, str_size]; rfl
/-- A word, whatever its letters' size. -/
def isW (W l : List Int) : Prop := W.length ≤ l.length ∧ (l.take W.length).map low = W.map low
instance (W l : List Int) : Decidable (isW W l) := by unfold isW; infer_instance
def foldX (W : List Int) : X → X × Bool
  | .good l => if isW W l then (.good (l.drop W.length), true) else (.good l, false)
  | .bad i c => (.bad i c, false)
theorem foldX_wf {s : ByteArray} {x : X} (h : x.wf s) (W : List Int) : (foldX W x).1.wf s := by
  cases x with
  | good l =>
    simp only [foldX]
    split
    · exact X.wf_cut h _
    · exact h
  | bad i c => exact h
theorem scan_fold (s : ByteArray) (x : X) (h : x.wf s) (hs : s.size ≤ 1000000) (W : List Int) (hW : okBy W) (hl : W.length ≤ 1000) : g_scan_Scanner_string_Fold_io (x.t s, ((), ((strOf W, ()), ()))) = some ((foldX W x).1.t s, (((foldX W x).2, ()), ((), ()))) := by
  simp only [g_scan_Scanner_string_Fold_io, f_scan_Scanner_string_Fold_io_m, X.t, scan_rest s x h, scan_going, fitsS_dec, Option.bind_some, Option.isNone_none, Option.isNone_some, Option.isSome_none, Option.isSome_some, Bool.not_true, Bool.not_false, cond_true, cond_false, cond_dec, beq_int, bne_int, not_dec, str_size]
  cases x with
  | bad i c => simp [X.er, foldX, X.at]
  | good l =>
    obtain ⟨h1, h2, h3⟩ := X.wf_good h
    have hne : (X.good l).er.isNone = true := rfl
    have hre : (X.good l).rest = l := rfl
    simp only [hne, hre, cond_false, Bool.not_true]
    by_cases c : W.length ≤ l.length
    · have ha := scan_alike (l.take W.length) W (okBy_take h1 _) hW (by rw [List.length_take]; omega) (by rw [List.length_take]; omega)
      have ht := scan_take s (.good l) h hs W.length c
      simp only [X.t] at ht
      simp only [str_cut, List.drop_zero, Int.toNat_natCast, show Int.toNat 0 = 0 from rfl, ha, and_dec, cond_dec, Option.bind_some, not_dec, ht]
      rw [if_neg (show ¬((l.length : Int) < (W.length : Int)) by omega), if_pos (show ((0 : Int) ≤ 0 ∧ (0 : Int) ≤ (W.length : Int)) ∧ (W.length : Int) ≤ (l.length : Int) by omega)]
      by_cases c2 : (l.take W.length).map low = W.map low
      · have : isW W l := ⟨c, c2⟩
        simp only [c2, foldX, if_pos this, takeX]; simp
      · have : ¬ isW W l := fun q => c2 q.2
        simp only [c2, foldX, if_neg this]; simp
    · have : ¬ isW W l := fun q => c q.1
      rw [if_pos (show (l.length : Int) < (W.length : Int) by omega)]
      simp only [foldX, if_neg this]
def mustX (n : Nat) (W : List Int) (x : X) : X := if (foldX W x).2 then (foldX W x).1 else failX n 2 (foldX W x).1
theorem mustX_wf {s : ByteArray} {x : X} (h : x.wf s) (W : List Int) : (mustX s.size W x).wf s := by
  unfold mustX
  split
  · exact foldX_wf h W
  · exact failX_wf (foldX_wf h W) 2
theorem scan_must (s : ByteArray) (x : X) (h : x.wf s) (hs : s.size ≤ 1000000) (W : List Int) (hW : okBy W) (hl : W.length ≤ 1000) : g_scan_Scanner_string_Must_io (x.t s, ((), ((strOf W, ()), ()))) = some ((mustX s.size W x).t s, ((), ())) := by
  have h1 := scan_fold s x h hs W hW hl
  have h2 := scan_fail s (foldX W x).1 2
  simp only [X.t] at h1 h2
  simp only [g_scan_Scanner_string_Must_io, f_scan_Scanner_string_Must_io_m, X.t, h1, Option.bind_some, mustX]
  cases hb : (foldX W x).2
  · simp only [Bool.not_false, cond_true, h2, Option.bind_some, Bool.false_eq_true, if_false]
  · simp only [Bool.not_true, cond_false, if_true]
/-- A gap, and whether there was one. -/
def gapX (n : Nat) : X → X × Bool
  | .good l => match gp l with
    | none => (.bad (n - l.length) 2, false)
    | some r => (.good r, decide (r.length < l.length))
  | .bad i c => (.bad i c, false)
theorem gapX_wf {s : ByteArray} {x : X} (h : x.wf s) : (gapX s.size x).1.wf s := by
  cases x with
  | bad i c => exact h
  | good l =>
    simp only [gapX]
    cases hg : gp l with
    | none => exact Nat.sub_le _ _
    | some r =>
      obtain ⟨p, hp⟩ := gp_cut l.length l r (Nat.le_refl _) hg
      obtain ⟨q, hq⟩ := h
      exact ⟨q ++ p, by rw [hq, hp, List.append_assoc]⟩
theorem mail_gapX (s : ByteArray) (x : X) (h : x.wf s) (hs : s.size ≤ 1000000) : g_mail_reader_gap_io (x.t s, ((s, ()), ())) = some ((gapX s.size x).1.t s, (((gapX s.size x).2, ()), ((), ()))) := by
  simp only [g_mail_reader_gap_io, f_mail_reader_gap_io_m, X.t, scan_err, scan_at, fitsS_dec, Option.bind_some, Option.isNone_none, Option.isNone_some, Option.isSome_none, Option.isSome_some, Bool.not_true, Bool.not_false, cond_true, cond_false, cond_dec, beq_int, bne_int, not_dec]
  cases x with
  | bad i c => simp [X.er, gapX, X.at]
  | good l =>
    obtain ⟨h1, h2, h3⟩ := X.wf_good h
    have hg := mail_gap s hs (s.size - l.length) (by omega)
    rw [h3] at hg
    have hp := scan_at s (.good l)
    have hq := scan_fail s (.good l) 2
    simp only [X.t, X.p, X.at, X.er] at hp hq ⊢
    simp only [Option.isNone_none, not_true_eq_false, if_false, cond_false, Bool.not_true, hp, hg, Option.bind_some, gapX]
    cases hgp : gp l with
    | none =>
      simp only [posO, hq, Option.bind_some, X.at, X.er, failX]
      rw [if_pos (by decide)]
    | some r =>
      obtain ⟨p, hpp⟩ := gp_cut l.length l r (Nat.le_refl _) hgp
      have hll : l.length = p.length + r.length := by rw [hpp, List.length_append]
      have ht := scan_take s (.good l) h hs (l.length - r.length) (by simp only [X.rest]; omega)
      have hgo := scan_going s (.good l)
      have hle := scan_left s (.good l) h
      simp only [X.t, X.p, X.at, X.er, X.rest] at ht hgo hle
      have e1 : isub .i64 ((s.size - r.length : Nat) : Int) ((s.size - l.length : Nat) : Int) = ((l.length - r.length : Nat) : Int) := by rw [isub_i64 (by omega)]; omega
      have hk : l.drop (l.length - r.length) = r := by
        have e : l.length - r.length = p.length := by omega
        rw [e, hpp, List.drop_left]
      simp only [posO, e1, g_scan_Scanner_string_Skip_io, f_scan_Scanner_string_Skip_io_m, hgo, hle, Option.isNone_none, fitsS_dec, Option.bind_some, Option.isNone_none, Option.isNone_some, Option.isSome_none, Option.isSome_some, Bool.not_true, Bool.not_false, cond_true, cond_false, cond_dec, beq_int, bne_int, not_dec, ht, takeX, hk, X.at, X.er, gt_iff_lt, not_true_eq_false, if_false, cond_false, Bool.not_true]
      rw [if_neg (by omega), if_neg (by omega), if_neg (by omega)]
      simp only [Option.bind_some]
      congr 4
      rw [decide_eq_decide]; omega
/-! ### one of some names -/
def oneK (nm : Nat → List Int) : Nat → Nat → X → X × Int
  | 0, _, x => (x, 0)
  | k + 1, i, x => if (foldX (nm i) x).2 then ((foldX (nm i) x).1, (i : Int)) else oneK nm k (i + 1) (foldX (nm i) x).1
theorem oneK_wf {s : ByteArray} {nm : Nat → List Int} : ∀ {k i : Nat} {x : X}, x.wf s → (oneK nm k i x).1.wf s
  | 0, _, _, h => h
  | k + 1, i, x, h => by
    unfold oneK
    split
    · exact foldX_wf h _
    · exact oneK_wf (foldX_wf h _)
theorem mail_one (s : ByteArray) (hs : s.size ≤ 1000000) (T : ByteArray) (nm : Nat → List Int) (m : Nat) (hT : T.size = 3 * m) (hm : m ≤ 100) (H : ∀ i : Nat, 1 ≤ i → i ≤ m → g_mail_name ((), ((T, ()), (((i : Int), ()), ()))) = some ((), ((strOf (nm i), ()), ())) ∧ okBy (nm i) ∧ (nm i).length ≤ 1000)
    (x : X) (h : x.wf s) : g_mail_reader_one_io (x.t s, ((s, ()), ((T, ()), ()))) = some ((oneK nm m 1 x).1.t s, (((oneK nm m 1 x).2, ()), ((), ()))) := by
  have q3 : iquo .i64 (T.size : Int) 3 = (m : Int) := by rw [hT, iquo_nn (by decide) (by omega)]; omega
  have L : ∀ (k i : Nat) (x : X), i + k = m + 1 → 1 ≤ i → x.wf s → Evn (fun f => (f_mail_reader_one_io_t f).1 (((x.t s).1, ((s, ()), ())), ((s, ()), ((T, ()), ((), (((i : Int), ()), ())))))) ((oneK nm k i x).1.t s, (((oneK nm k i x).2, ()), ((), ()))) := by
    intro k; induction k with
    | zero =>
      intro i x hi h1 hx
      refine Evn.some 1 fun f => ?_
      simp only [t_mail_reader_one_io, f_mail_reader_one_io_p3, X.t, fitsS_dec, Option.bind_some, Option.isNone_none, Option.isNone_some, Option.isSome_none, Option.isSome_some, Bool.not_true, Bool.not_false, cond_true, cond_false, cond_dec, beq_int, bne_int, not_dec, q3, oneK]
      rw [if_neg (by omega)]
    | succ k ih =>
      intro i x hi h1 hx
      obtain ⟨n1, n2, n3⟩ := H i h1 (by omega)
      have hf := scan_fold s x hx hs (nm i) n2 n3
      simp only [X.t] at hf
      unfold oneK
      cases hb : (foldX (nm i) x).2
      · rw [if_neg (by simp)]
        refine (ih (i + 1) _ (by omega) (by omega) (foldX_wf hx (nm i))).step fun f => ?_
        simp only [t_mail_reader_one_io, f_mail_reader_one_io_p3, X.t, fitsS_dec, Option.bind_some, Option.isNone_none, Option.isNone_some, Option.isSome_none, Option.isSome_some, Bool.not_true, Bool.not_false, cond_true, cond_false, cond_dec, beq_int, bne_int, not_dec, q3, n1, hf, hb, cond_false]
        rw [if_pos (by omega), iadd_i64 (by omega)]; rfl
      · rw [if_pos rfl]
        refine Evn.some 1 fun f => ?_
        simp only [t_mail_reader_one_io, f_mail_reader_one_io_p3, X.t, fitsS_dec, Option.bind_some, Option.isNone_none, Option.isNone_some, Option.isSome_none, Option.isSome_some, Bool.not_true, Bool.not_false, cond_true, cond_false, cond_dec, beq_int, bne_int, not_dec, q3, n1, hf, hb, cond_true]
        rw [if_pos (by omega)]
  refine ((L m 1 x (by omega) (Nat.le_refl _) h).cast fun f => ?_).lim
  simp only [f_mail_reader_one_io_m, X.t]; rfl
end Go.Proofs.YtddnfappkfiidaaGreat.Ev
