/- The law IsoDates, plain. -/
import Derived.Test.YtignndakgibpaaaGreatPuIsoF
namespace Go.Proofs.YtignndakgibpaaaGreat.Ev
open Go
set_option linter.unusedVariables false
set_option linter.unusedSimpArgs false
@[reducible] def dSh : List Int := [48, 48, 48, 48, 45, 48, 48, 45, 48, 48]
/-- A day's text: its parts. -/
def isDay (B Y M D : List Int) : Prop := B = Y ++ (45 :: (M ++ (45 :: D))) ∧ ((∀ y ∈ Y, isF y) ∧ Y.length = 4) ∧ ((∀ y ∈ M, isF y) ∧ M.length = 2) ∧ ((∀ y ∈ D, isF y) ∧ D.length = 2)
theorem day_fits {B : List Int} (hl : B.length = 10) : fits dSh B ↔ ∃ Y M D, isDay B Y M D := by
  have hB := list_getA B
  rw [hl] at hB
  have hB2 : B = [B.getD 0 0, B.getD 1 0, B.getD 2 0, B.getD 3 0, B.getD 4 0, B.getD 5 0, B.getD 6 0, B.getD 7 0, B.getD 8 0, B.getD 9 0] := hB
  constructor
  · intro h
    have f : ∀ i, i < 10 → fitAt (dSh.getD i 0) (B.getD i 0) := fun i hi => h i hi
    have k4 : B.getD 4 0 = 45 := (lit24 (by decide) (by decide)).1 (f 4 (by decide))
    have k7 : B.getD 7 0 = 45 := (lit24 (by decide) (by decide)).1 (f 7 (by decide))
    refine ⟨[B.getD 0 0, B.getD 1 0, B.getD 2 0, B.getD 3 0], [B.getD 5 0, B.getD 6 0], [B.getD 8 0, B.getD 9 0], ?_, ⟨figs4 (fig24.1 (f 0 (by decide))) (fig24.1 (f 1 (by decide))) (fig24.1 (f 2 (by decide))) (fig24.1 (f 3 (by decide))), rfl⟩,
      ⟨figs2 (fig24.1 (f 5 (by decide))) (fig24.1 (f 6 (by decide))), rfl⟩, ⟨figs2 (fig24.1 (f 8 (by decide))) (fig24.1 (f 9 (by decide))), rfl⟩⟩
    rw [k4, k7] at hB2
    exact hB2
  · rintro ⟨Y, M, D, rfl, ⟨hY, y4⟩, ⟨hM, m2⟩, ⟨hD, d2⟩⟩ i hi
    obtain ⟨a, b, c, d, rfl⟩ := l4 y4
    obtain ⟨e, g, rfl⟩ := l2 m2
    obtain ⟨j, k, rfl⟩ := l2 d2
    match i, hi with
    | 0, _ => exact fig24.2 (hY a (by simp))
    | 1, _ => exact fig24.2 (hY b (by simp))
    | 2, _ => exact fig24.2 (hY c (by simp))
    | 3, _ => exact fig24.2 (hY d (by simp))
    | 4, _ => exact (lit24 (by decide) (by decide)).2 rfl
    | 5, _ => exact fig24.2 (hM e (by simp))
    | 6, _ => exact fig24.2 (hM g (by simp))
    | 7, _ => exact (lit24 (by decide) (by decide)).2 rfl
    | 8, _ => exact fig24.2 (hD j (by simp))
    | 9, _ => exact fig24.2 (hD k (by simp))
    | (n + 10), hi => simp at hi; omega
theorem v4_range {Y : List Int} (h : (∀ y ∈ Y, isF y) ∧ Y.length = 4) : 0 ≤ val10 Y ∧ val10 Y ≤ 9999 := by
  have := val10_range _ Y h.2 h.1
  omega
theorem v2_range {Y : List Int} (h : (∀ y ∈ Y, isF y) ∧ Y.length = 2) : 0 ≤ val10 Y ∧ val10 Y ≤ 99 := by
  have := val10_range _ Y h.2 h.1
  omega
theorem both_parsedate (s : ByteArray) (hs : s.size ≤ 1000000) : ∃ v e : Int, g_iso_ParseDate ((), ((s, ()), ())) = some ((), ((v, ()), ((errOf e, ()), ()))) ∧ g_ref24_ParseDate ((), ((s, ()), ())) = some ((), ((v, ()), ((e, ()), ()))) := by
  have w0 := X.wf_new s
  have h0 := scan_new s
  have h1 := iso_date s _ w0 hs
  have w1 := dateI_wf w0
  have h2 := scan_end s _ w1
  simp only [X.t, X.p] at h0 h1 h2
  have lsh : (⟨#[48, 48, 48, 48, 45, 48, 48, 45, 48, 48]⟩ : ByteArray) = strOf dSh := by kernel_rfl
  have osh : okBy dSh := by intro x hx; simp only [dSh, List.mem_cons, List.not_mem_nil, or_false] at hx; omega
  obtain ⟨v, hv, hf⟩ := ref24_fits dSh (bytesOf s) osh (by_ok s) (by rw [by_len]; exact hs)
  rw [str_by] at hf
  by_cases c : ∃ Y M D, isDay (bytesOf s) Y M D
  · obtain ⟨Y, M, D, hB, hY, hM, hD⟩ := c
    have hsz : s.size = 10 := by
      rw [← by_len, hB]
      simp only [List.length_append, List.length_cons, hY.2, hM.2, hD.2]
    have hvt : v = true := hv.2 ⟨by rw [by_len, hsz]; decide, (day_fits (by rw [by_len, hsz])).2 ⟨Y, M, D, hB, hY, hM, hD⟩⟩
    have hd := sf_date s.size Y M D [] hY hM hD
    rw [List.append_nil, ← hB] at hd
    have ho := day_of (val10 Y) (val10 M) (val10 D)
    have hc := ref05_check (val10 Y) (val10 M) (val10 D)
    have c1 : s.extract 0 4 = strOf Y := by
      rw [ex_strI, hB, List.drop_zero]
      rw [List.take_left' hY.2]
    have c2 : s.extract 5 7 = strOf M := by
      rw [ex_strI, hB]
      obtain ⟨a, b, c, d, rfl⟩ := l4 hY.2
      obtain ⟨e, g, rfl⟩ := l2 hM.2
      rfl
    have c3 : s.extract 8 10 = strOf D := by
      rw [ex_strI, hB]
      obtain ⟨a, b, c, d, rfl⟩ := l4 hY.2
      obtain ⟨e, g, rfl⟩ := l2 hM.2
      obtain ⟨j, k, rfl⟩ := l2 hD.2
      rfl
    have n1 := ref24_number Y hY.1 (by omega)
    have n2 := ref24_number M hM.1 (by omega)
    have n3 := ref24_number D hD.1 (by omega)
    have h10 : ((10 : Nat) : Int) = 10 := rfl
    have t0 : Int.toNat 0 = 0 := rfl
    have t4 : Int.toNat 4 = 4 := rfl
    have t5 : Int.toNat 5 = 5 := rfl
    have t7 : Int.toNat 7 = 7 := rfl
    have t8 : Int.toNat 8 = 8 := rfl
    have t10 : Int.toNat 10 = 10 := rfl
    refine ⟨if dErr (val10 Y) (val10 M) (val10 D) = 0 then dnum (val10 Y) (val10 M) (val10 D) else 0, dErr (val10 Y) (val10 M) (val10 D), ?_, ?_⟩
    · rw [hd] at h1 h2
      simp only [X.end, if_true] at h2
      simp only [g_iso_ParseDate, f_iso_ParseDate_m, h0, h1, h2, ho, fitsS_dec, Option.bind_some, Option.isNone_none, Option.isNone_some, Option.isSome_none, Option.isSome_some, Bool.not_true, Bool.not_false, cond_true, cond_false, cond_dec, beq_int, bne_int, not_dec]
    · simp only [g_ref24_ParseDate, f_ref24_ParseDate_m, lsh, hf, hvt, hsz, h10, t0, t4, t5, t7, t8, t10, c1, c2, c3, n1, n2, n3, hc, fitsS_dec, Option.bind_some, Option.isNone_none, Option.isNone_some, Option.isSome_none, Option.isSome_some, Bool.not_true, Bool.not_false, cond_true, cond_false, cond_dec, beq_int, bne_int, not_dec, and_dec]
      rw [if_neg (by decide), if_pos (by decide), if_pos (by decide), if_pos (by decide)]
      by_cases q : dErr (val10 Y) (val10 M) (val10 D) = 0
      · have hz := dErr_zero.1 q
        have hml := mlen_range (val10 Y) (val10 M)
        have hof := ref05_of (val10 Y) (val10 M) (val10 D) (by omega) hz.2.1 (by omega)
        rw [if_neg (not_not_intro q), if_pos q, q, hof]; rfl
      · rw [if_pos q, if_neg q]
  · refine ⟨0, 2, ?_, ?_⟩
    · cases he : (dateI s.size (.good (bytesOf s))).1.end with
      | none =>
        exfalso
        obtain ⟨Y, M, D, hB, hY, hM, hD, _⟩ := sb_date (sb_end he)
        simp only [X.good.injEq, List.append_nil] at hB
        exact c ⟨Y, M, D, hB, hY, hM, hD⟩
      | some q =>
        rw [he] at h2
        simp only [g_iso_ParseDate, f_iso_ParseDate_m, h0, h1, h2, fitsS_dec, Option.bind_some, Option.isNone_none, Option.isNone_some, Option.isSome_none, Option.isSome_some, Bool.not_true, Bool.not_false, cond_true, cond_false, cond_dec, beq_int, bne_int, not_dec]; rfl
    · by_cases hsz : s.size = 10
      · have hvf : v = false := by
          cases hvv : v
          · rfl
          · exact absurd ((day_fits (by rw [by_len, hsz])).1 (hv.1 hvv).2) c
        have h10 : ((10 : Nat) : Int) = 10 := rfl
        simp only [g_ref24_ParseDate, f_ref24_ParseDate_m, lsh, hf, hvf, hsz, h10, fitsS_dec, Option.bind_some, Option.isNone_none, Option.isNone_some, Option.isSome_none, Option.isSome_some, Bool.not_true, Bool.not_false, cond_true, cond_false, cond_dec, beq_int, bne_int, not_dec]
        rw [if_neg (by decide)]
      · simp only [g_ref24_ParseDate, f_ref24_ParseDate_m, fitsS_dec, Option.bind_some, Option.isNone_none, Option.isNone_some, Option.isSome_none, Option.isSome_some, Bool.not_true, Bool.not_false, cond_true, cond_false, cond_dec, beq_int, bne_int, not_dec]
        rw [if_pos (by omega)]
theorem ref24_date {y m d : Int} (hy : 0 ≤ y ∧ y ≤ 9999) (hm : 1 ≤ m ∧ m ≤ 12) (hd : 1 ≤ d ∧ d ≤ 31) : g_ref24_Date ((), ((y, ()), ((m, ()), ((d, ()), ())))) = some ((), ((strOf (dayL y m d), ()), ())) := by
  have l45 : (⟨#[45]⟩ : ByteArray) = strOf [45] := by kernel_rfl
  have r1 := ref02_raw_dg y 4 (by omega) (by omega)
  have r2 := ref02_raw_dg m 2 (by omega) (by omega)
  have r3 := ref02_raw_dg d 2 (by omega) (by omega)
  have e2 : ((2 : Nat) : Int) = 2 := rfl
  have e4 : ((4 : Nat) : Int) = 4 := rfl
  rw [e4] at r1
  rw [e2] at r2 r3
  simp only [g_ref24_Date, f_ref24_Date_m, l45, r1, r2, r3, Option.bind_some]
  rw [fits_str _ _ (by simp [dgs_len]), cond_true, str_app, fits_str _ _ (by simp [dgs_len]), cond_true, str_app, fits_str _ _ (by simp [dgs_len]), cond_true, str_app, fits_str _ _ (by simp [dgs_len]), cond_true, str_app]
  simp only [dayL, List.append_assoc, List.cons_append, List.nil_append]
theorem iso_dates (n : Int) (s : ByteArray) : g_law24_IsoDates ((), ((n, ()), ((s, ()), ()))) = some ((), ((true, ()), ())) := by
  simp only [g_law24_IsoDates, f_law24_IsoDates_m, iso_alive, fitsS_dec, Option.bind_some, Option.isNone_none, Option.isNone_some, Option.isSome_none, Option.isSome_some, Bool.not_true, Bool.not_false, cond_true, cond_false, cond_dec, beq_int, bne_int, not_dec, gt_iff_lt]
  by_cases c0 : 200 < s.size
  · rw [if_pos (by omega)]
  rw [if_neg (by omega)]
  obtain ⟨v, e, p1, p2⟩ := both_parsedate s (by omega)
  have hst := ref05_start 0 (by omega)
  have h01 : dnum 0 1 1 = -719528 := by decide
  rw [h01] at hst
  have hi : g_hnum_Is ((), ((some 13, ()), ((13, ()), ()))) = some ((), ((true, ()), ())) := rfl
  simp only [p1, p2, hst, ref05_last, num_num, fitsS_dec, Option.bind_some, Option.isNone_none, Option.isNone_some, Option.isSome_none, Option.isSome_some, Bool.not_true, Bool.not_false, cond_true, cond_false, cond_dec, beq_int, bne_int, not_dec]
  by_cases t : there n
  · obtain ⟨y, m, d, hd⟩ := date_ex n t
    have hy := year_bound hd t
    have hdd := day_date t hd
    have hrd := ref05_date t hd
    have hml := mlen_range y m
    obtain ⟨hm1, hd1, hdn⟩ := hd
    have hyy : (y < 0 ↔ n < -719528) := by
      have hiy := isDate_year (n := n) (y := y) (m := m) (d := d) ⟨hm1, hd1, hdn⟩
      constructor
      · intro q
        have q2 := ystart_mono (show y < 0 by omega)
        omega
      · intro q
        by_cases q3 : y < 0
        · exact q3
        · exfalso
          by_cases q4 : y = 0
          · subst q4; omega
          · have q5 := ystart_mono (show 0 < y by omega)
            have q6 : dnum (0 + 1) 1 1 = -719162 := by decide
            omega
    unfold there at t
    by_cases cy : y < 0
    · have hD : g_iso_Date ((), ((n, ()), ())) = some ((), ((strOf [], ()), ((some 13, ()), ()))) := by
        simp only [g_iso_Date, f_iso_Date_m, hdd, sc_nil, fitsS_dec, Option.bind_some, Option.isNone_none, Option.isNone_some, Option.isSome_none, Option.isSome_some, Bool.not_true, Bool.not_false, cond_true, cond_false, cond_dec, beq_int, bne_int, not_dec]
        rw [if_pos cy]
      have : n < -719528 := hyy.1 cy
      simp only [hD, sc_nil, str_emp, hi, fitsS_dec, Option.bind_some, Option.isNone_none, Option.isNone_some, Option.isSome_none, Option.isSome_some, Bool.not_true, Bool.not_false, cond_true, cond_false, cond_dec, beq_int, bne_int, not_dec]
      simp [this, hi]
    · have hw := iso_writer_date (y := y) (m := m) (d := d) (by omega) hm1 (by omega)
      have hD : g_iso_Date ((), ((n, ()), ())) = some ((), ((strOf (dayL y m d), ()), ((none, ()), ()))) := by
        simp only [g_iso_Date, f_iso_Date_m, hdd, fitsS_dec, Option.bind_some, Option.isNone_none, Option.isNone_some, Option.isSome_none, Option.isSome_some, Bool.not_true, Bool.not_false, cond_true, cond_false, cond_dec, beq_int, bne_int, not_dec]
        rw [if_neg cy, hw]; rfl
      have hR := ref24_date (y := y) (m := m) (d := d) (by omega) hm1 (by omega)
      have n1 : ¬ n < -719528 := fun q => cy (hyy.2 q)
      have n2 : ¬ 2932896 < n := by omega
      simp only [hD, hrd, hR, n1, n2, if_false, fitsS_dec, Option.bind_some, Option.isNone_none, Option.isNone_some, Option.isSome_none, Option.isSome_some, Bool.not_true, Bool.not_false, cond_true, cond_false, cond_dec, beq_int, bne_int, not_dec]
      simp
  · have hdd := day_date_bad t
    have hD : g_iso_Date ((), ((n, ()), ())) = some ((), ((strOf [], ()), ((some 13, ()), ()))) := by
      simp only [g_iso_Date, f_iso_Date_m, hdd, sc_nil, fitsS_dec, Option.bind_some, Option.isNone_none, Option.isNone_some, Option.isSome_none, Option.isSome_some, Bool.not_true, Bool.not_false, cond_true, cond_false, cond_dec, beq_int, bne_int, not_dec]
    unfold there at t
    simp only [hD, sc_nil, str_emp, hi, fitsS_dec, Option.bind_some, Option.isNone_none, Option.isNone_some, Option.isSome_none, Option.isSome_some, Bool.not_true, Bool.not_false, cond_true, cond_false, cond_dec, beq_int, bne_int, not_dec]
    by_cases q : n < -719528
    · simp [q, hi]
    · have q2 : 2932896 < n := by omega
      simp [q, q2, hi]
end Go.Proofs.YtignndakgibpaaaGreat.Ev
