/- Time lines: what is put. -/
import Derived.Test.YtddnfappkfiidaaGreatPuDig
import Derived.Test.YtddnfappkfiidaaGreatPuLabR
namespace Go.Proofs.YtddnfappkfiidaaGreat.Ev
open Go
set_option linter.unusedVariables false
set_option linter.unusedSimpArgs false
structure NL where (n s c p h a : Int) (m : Bool)
@[reducible] def NL.t (l : NL) : Int × (Int × (Int × (Int × (Int × (Int × (Bool × Unit)))))) := (l.n, (l.s, (l.c, (l.p, (l.h, (l.a, (l.m, ())))))))
def fiveE (n : Int) : Int := if ¬ there n then 13 else if n < -40587 ∨ 59412 < n then 1 else 0
theorem fiveE_zero {n : Int} (h : fiveE n = 0) : there n ∧ -40587 ≤ n ∧ n ≤ 59412 := by
  unfold fiveE at h
  by_cases c : there n
  · rw [if_neg (not_not_intro c)] at h
    by_cases c2 : n < -40587 ∨ 59412 < n
    · rw [if_pos c2] at h; cases h
    · exact ⟨c, by omega, by omega⟩
  · rw [if_pos c] at h; cases h
theorem mjd_there (n : Int) : g_mjd_there ((), ((n, ()), ())) = some ((), ((decide (there n), ()), ())) := by
  simp only [g_mjd_there, f_mjd_there_m, day_first, day_last, fitsS_dec, Option.bind_some, Option.isNone_none, Option.isNone_some, Option.isSome_none, Option.isSome_some, Bool.not_true, Bool.not_false, cond_true, cond_false, cond_dec, beq_int, bne_int, not_dec, ge_iff_le]
  by_cases c : there n
  · rw [decide_eq_true c]
    unfold there at c
    rw [if_pos (by omega), decide_eq_true (by omega)]
  · rw [decide_eq_false c]
    unfold there at c
    by_cases h : -4371587 ≤ n
    · rw [if_pos h, decide_eq_false (by omega)]
    · rw [if_neg h]
theorem mjd_count (n : Int) (hn : there n) : g_mjd_Count ((), ((1, ()), ((n, ()), ()))) = some ((), ((n + 40587, ()), ((none, ()), ()))) := by
  have := hn
  unfold there at this
  simp only [g_mjd_Count, f_mjd_Count_m, g_mjd_zero, f_mjd_zero_m, mjd_there, fitsS_dec, Option.bind_some, Option.isNone_none, Option.isNone_some, Option.isSome_none, Option.isSome_some, Bool.not_true, Bool.not_false, cond_true, cond_false, cond_dec, beq_int, bne_int, not_dec, if_true, not_true_eq_false, if_false, hn]
  rw [iadd_i64 (by omega)]
theorem mjd_five (n : Int) : g_mjd_Five ((), ((n, ()), ())) = some ((), ((if fiveE n = 0 then strOf (dgs (n + 40587).toNat 5) else strOf [], ()), ((errOf (fiveE n), ()), ()))) := by
  unfold fiveE
  by_cases c : there n
  · simp only [g_mjd_Five, f_mjd_Five_m, mjd_count n c, fitsS_dec, Option.bind_some, Option.isNone_none, Option.isNone_some, Option.isSome_none, Option.isSome_some, Bool.not_true, Bool.not_false, cond_true, cond_false, cond_dec, beq_int, bne_int, not_dec, str_nil, gt_iff_lt, c, not_true_eq_false, if_false]
    by_cases c2 : n < -40587 ∨ 59412 < n
    · simp only [c2, if_true, show ((1 : Int) = 0) = False by simp, if_false]
      by_cases c3 : n + 40587 < 0
      · rw [if_pos c3]; rfl
      · rw [if_neg c3, if_pos (by omega)]; rfl
    · simp only [c2, if_false, if_true]
      rw [if_neg (by omega), if_neg (by omega)]
      have := fig_put_dg (n + 40587) 5 (by omega) (by omega)
      rw [show ((5 : Nat) : Int) = 5 from rfl] at this
      rw [this]; rfl
  · simp only [c, not_false_eq_true, if_true, show ((13 : Int) = 0) = False by simp, if_false]
    simp only [g_mjd_Five, f_mjd_Five_m, g_mjd_Count, f_mjd_Count_m, g_mjd_zero, f_mjd_zero_m, mjd_there, fitsS_dec, Option.bind_some, Option.isNone_none, Option.isNone_some, Option.isSome_none, Option.isSome_some, Bool.not_true, Bool.not_false, cond_true, cond_false, cond_dec, beq_int, bne_int, not_dec, if_true, c, not_false_eq_true, str_nil]; rfl
def NL.fit (l : NL) : Prop := (0 ≤ l.s ∧ l.s ≤ 86400) ∧ (0 ≤ l.c ∧ l.c ≤ 99) ∧ (0 ≤ l.p ∧ l.p ≤ 2) ∧ (0 ≤ l.h ∧ l.h ≤ 9) ∧ (0 ≤ l.a ∧ l.a ≤ 9999)
instance (l : NL) : Decidable l.fit := by unfold NL.fit; infer_instance
def NL.err (l : NL) : Int := if fiveE l.n ≠ 0 then fiveE l.n else if l.fit then 0 else 1
theorem NL.err_zero {l : NL} (h : l.err = 0) : fiveE l.n = 0 ∧ l.fit := by
  unfold NL.err at h
  by_cases c : fiveE l.n = 0
  · rw [if_neg (not_not_intro c)] at h
    by_cases c2 : l.fit
    · exact ⟨c, c2⟩
    · rw [if_neg c2] at h; cases h
  · rw [if_pos c] at h; exact absurd h c
theorem nist_in (x b : Int) : g_nist_in ((), ((x, ()), ((b, ()), ()))) = some ((), ((decide (0 ≤ x ∧ x ≤ b), ()), ())) := by
  simp only [g_nist_in, f_nist_in_m, fitsS_dec, Option.bind_some, Option.isNone_none, Option.isNone_some, Option.isSome_none, Option.isSome_some, Bool.not_true, Bool.not_false, cond_true, cond_false, cond_dec, beq_int, bne_int, not_dec, ge_iff_le]
  by_cases h : 0 ≤ x
  · rw [if_pos h]; congr 4; simp only [decide_eq_decide]; omega
  · rw [if_neg h, decide_eq_false (fun q => h q.1)]
theorem nist_check (l : NL) : g_nist_Check ((), (l.t, ())) = some ((), ((errOf l.err, ()), ())) := by
  simp only [g_nist_Check, f_nist_Check_m, mjd_five, nist_in, fitsS_dec, Option.bind_some, Option.isNone_none, Option.isNone_some, Option.isSome_none, Option.isSome_some, Bool.not_true, Bool.not_false, cond_true, cond_false, cond_dec, beq_int, bne_int, not_dec, errOf_none, NL.t]
  unfold NL.err
  by_cases c : fiveE l.n = 0
  · simp only [c, not_true_eq_false, if_false, ne_eq]
    by_cases f : l.fit
    · have f' := f
      unfold NL.fit at f'
      rw [if_pos f, if_neg (by omega), if_neg (by omega), if_neg (by omega), if_neg (by omega), if_neg (by omega)]; rfl
    · rw [if_neg f]
      unfold NL.fit at f
      by_cases q1 : 0 ≤ l.s ∧ l.s ≤ 86400
      · rw [if_neg (not_not_intro q1)]
        by_cases q2 : 0 ≤ l.c ∧ l.c ≤ 99
        · rw [if_neg (not_not_intro q2)]
          by_cases q3 : 0 ≤ l.p ∧ l.p ≤ 2
          · rw [if_neg (not_not_intro q3)]
            by_cases q4 : 0 ≤ l.h ∧ l.h ≤ 9
            · rw [if_neg (not_not_intro q4), if_pos (fun q5 => f ⟨q1, q2, q3, q4, q5⟩)]; rfl
            · rw [if_pos q4]; rfl
          · rw [if_pos q3]; rfl
        · rw [if_pos q2]; rfl
      · rw [if_pos q1]; rfl
  · simp only [c, not_false_eq_true, if_true, ne_eq]
theorem nist_modulo (a c : Int) (hc : 0 < c ∧ c ≤ 1000) (ha : -1000000 ≤ a ∧ a ≤ 1000000) : g_nist_modulo ((), ((a, ()), ((c, ()), ()))) = some ((), ((a % c, ()), ())) := by
  have hr : -c < Int.tmod a c ∧ Int.tmod a c < c := by
    have h1 := Int.emod_nonneg a (show c ≠ 0 by omega)
    have h2 := Int.emod_lt_of_pos a hc.1
    have h3 := Int.emod_nonneg (-a) (show c ≠ 0 by omega)
    have h4 := Int.emod_lt_of_pos (-a) hc.1
    rw [tmod_pos c hc.1]
    split <;> omega
  have e : (Int.tmod a c + c) % c = a % c := by
    rw [Int.add_emod_right]
    by_cases h : 0 ≤ a
    · rw [tmod_nn h, Int.emod_emod_of_dvd _ (Int.dvd_refl c)]
    · have := Int.tmod_add_mul_tdiv a c
      have e2 : a % c = (Int.tmod a c + c * Int.tdiv a c) % c := by rw [this]
      rw [e2, Int.add_mul_emod_self_left]
  simp only [g_nist_modulo, f_nist_modulo_m, fitsS_dec, Option.bind_some, Option.isNone_none, Option.isNone_some, Option.isSome_none, Option.isSome_some, Bool.not_true, Bool.not_false, cond_true, cond_false, cond_dec, beq_int, bne_int, not_dec]
  rw [if_neg (by omega), if_neg (by omega), iadd_i64 (by omega), tmod_nn (by omega), e]
/-! ### the writer -/
theorem nist_text (out L : List Int) (hL : okBy L) (h : out.length + L.length ≤ 1000000) : g_nist_writer_text_io (((none, ()), (out, ())), ((), ((strOf L, ()), ((none, ()), ())))) = some (((none, ()), (out ++ L, ())), ((), ())) := by
  simp only [g_nist_writer_text_io, f_nist_writer_text_io_m, fitsS_dec, Option.bind_some, Option.isNone_none, Option.isNone_some, Option.isSome_none, Option.isSome_some, Bool.not_true, Bool.not_false, cond_true, cond_false, cond_dec, beq_int, bne_int, not_dec, and_dec, by_str hL]
  rw [if_pos (by omega)]
theorem nist_put_w (out L : List Int) (v : Int) (w : Nat) (hL : okBy L) (hv : 0 ≤ v ∧ v < 10 ^ w) (hw : 1 ≤ w ∧ w ≤ 18) (h : out.length + L.length ≤ 1000) : g_nist_writer_put_io (((none, ()), (out, ())), ((), ((strOf L, ()), ((v, ()), (((w : Int), ()), ()))))) = some (((none, ()), (out ++ (L ++ dgs v.toNat w), ())), ((), ())) := by
  simp only [g_nist_writer_put_io, f_nist_writer_put_io_m, nist_text out L hL (by omega), Option.bind_some, fig_put_dg v w hv hw]
  rw [nist_text _ _ (dgs_by _ _) (by rw [List.length_append, dgs_len]; omega)]
  simp only [Option.bind_some, List.append_assoc]
/-- An advance's text. -/
def advL (a : Int) : List Int := (List.replicate (3 - (padd (a / 10).toNat 1).length) 32 ++ padd (a / 10).toNat 1) ++ 46 :: dgs (a % 10).toNat 1
theorem repeat32 (k : Nat) (hk : k ≤ 1000) : g_strings_Repeat ((), ((⟨#[32]⟩, ()), (((k : Int), ()), ()))) = some ((), ((strOf (List.replicate k 32), ()), ())) := by
  have rep_list : ∀ k : Nat, Lib.repeatL [(32 : UInt8)] k = List.replicate k 32 := by
    intro k
    induction k with
    | zero => rfl
    | succ k ih =>
      simp only [Lib.repeatL] at ih ⊢
      rw [ih, List.replicate_succ]; rfl
  show lib_repeat _ = _
  unfold lib_repeat
  simp only [show (⟨#[32]⟩ : ByteArray).size = 1 from rfl, Int.toNat_natCast]
  rw [if_pos (by omega), rep_list]
  congr 3
  unfold strOf
  simp only [List.map_replicate]; rfl
theorem padd3 {a : Int} (h : 0 ≤ a ∧ a ≤ 9999) : (padd (a / 10).toNat 1).length ≤ 3 := by
  have := figs_len 3 (a / 10).toNat (by omega)
  unfold padd
  simp only [List.length_append, List.length_replicate, List.length_reverse]; omega
theorem nist_advance (out : List Int) (a : Int) (ha : 0 ≤ a ∧ a ≤ 9999) (h : out.length ≤ 900) : g_nist_writer_advance_io (((none, ()), (out, ())), ((), ((a, ()), ()))) = some (((none, ()), (out ++ advL a, ())), ((), ())) := by
  have h3 := padd3 ha
  have e0 := fig_put_nn (a / 10) 1 (by omega) (by omega)
  have hp := nist_put_w (out ++ (List.replicate (3 - (padd (a / 10).toNat 1).length) 32 ++ padd (a / 10).toNat 1)) [46] (a % 10) 1 (okBy_cons (by omega) okBy_nil) (by omega) (by omega) (by simp only [List.length_append, List.length_replicate, List.length_cons, List.length_nil]; omega)
  simp only [g_nist_writer_advance_io, f_nist_writer_advance_io_m, fitsS_dec, Option.bind_some, Option.isNone_none, Option.isNone_some, Option.isSome_none, Option.isSome_some, Bool.not_true, Bool.not_false, cond_true, cond_false, cond_dec, beq_int, bne_int, not_dec, iquo_nn (show (0 : Int) < 10 by omega) (show 0 ≤ a ∧ a ≤ 9223372036854775807 by omega), e0, str_size, show Int.toNat 1 = 1 from rfl]
  have e1 : (if (0 : Int) > isub .i64 3 ((padd (a / 10).toNat 1).length : Int) then (0 : Int) else isub .i64 3 ((padd (a / 10).toNat 1).length : Int)) = ((3 - (padd (a / 10).toNat 1).length : Nat) : Int) := by
    rw [isub_i64 (by omega), if_neg (by omega)]; omega
  rw [e1, repeat32 _ (by omega)]
  simp only [Option.bind_some, str_size]
  rw [if_pos (by simp only [List.length_replicate]; omega), str_app, nist_text _ _ (okBy_app (okBy_rep _ (by omega)) (padd_by _ _)) (by simp only [List.length_append, List.length_replicate]; omega)]
  simp only [Option.bind_some, tmod_nn ha.1]
  rw [show (⟨#[46]⟩ : ByteArray) = strOf [46] by kernel_rfl]
  rw [show (1 : Int) = ((1 : Nat) : Int) from rfl, hp]
  simp only [Option.bind_some, advL, List.append_assoc, List.cons_append, List.nil_append]
/-- A line's text, by its parts. -/
def lineL (l : NL) (y m d : Int) : List Int :=
  10 :: (dgs (l.n + 40587).toNat 5 ++ (32 :: (dgs (y % 100).toNat 2 ++ (45 :: (dgs m.toNat 2 ++ (45 :: (dgs d.toNat 2 ++ (32 :: (dgs (clkM l.s / 60).toNat 2 ++ (58 :: (dgs (clkM l.s % 60).toNat 2 ++ (58 :: (dgs (clkS l.s).toNat 2 ++ (32 :: (dgs l.c.toNat 2 ++ (32 :: (dgs l.p.toNat 1 ++ (32 :: (dgs l.h.toNat 1 ++
    (32 :: (advL l.a ++ [32, 85, 84, 67, 40, 78, 73, 83, 84, 41, 32, if l.m then 35 else 42, 10])))))))))))))))))))))
theorem advL_len {a : Int} (h : 0 ≤ a ∧ a ≤ 9999) : (advL a).length = 5 := by
  have := padd3 h
  unfold advL
  simp only [List.length_append, List.length_replicate, List.length_cons, dgs_len]; omega
theorem advL_by (a : Int) : okBy (advL a) := okBy_app (okBy_app (okBy_rep _ (by omega)) (padd_by _ _)) (okBy_cons (by omega) (dgs_by _ _))
theorem lineL_by (l : NL) (y m d : Int) : okBy (lineL l y m d) := by
  have tail : okBy [32, 85, 84, 67, 40, 78, 73, 83, 84, 41, 32, if l.m then 35 else 42, 10] := by
    intro x hx
    simp only [List.mem_cons, List.not_mem_nil, or_false] at hx
    rcases hx with h | h | h | h | h | h | h | h | h | h | h | h | h <;> first | omega | (rw [h]; split <;> omega)
  have c32 : ∀ {l : List Int}, okBy l → okBy (32 :: l) := fun h => okBy_cons (by omega) h
  have c45 : ∀ {l : List Int}, okBy l → okBy (45 :: l) := fun h => okBy_cons (by omega) h
  have c58 : ∀ {l : List Int}, okBy l → okBy (58 :: l) := fun h => okBy_cons (by omega) h
  have D : ∀ {n w : Nat} {l : List Int}, okBy l → okBy (dgs n w ++ l) := fun h => okBy_app (dgs_by _ _) h
  exact okBy_cons (by omega) (D (c32 (D (c45 (D (c45 (D (c32 (D (c58 (D (c58 (D (c32 (D (c32 (D (c32 (D (c32 (okBy_app (advL_by _) tail)))))))))))))))))))))
theorem nist_put {l : NL} {y m d : Int} (h : l.err = 0) (hd : IsDate l.n y m d) : g_nist_Put ((), (l.t, ())) = some ((), ((strOf (lineL l y m d), ()), ((none, ()), ()))) := by
  obtain ⟨h1, h2⟩ := NL.err_zero h
  obtain ⟨t1, t2, t3⟩ := fiveE_zero h1
  have hf := h2
  unfold NL.fit at hf
  have hy := year_bound hd t1
  have hk := clk_range hf.1
  have hdate := day_date t1 hd
  obtain ⟨hm1, hd1, _⟩ := hd
  have hml := mlen_range y m
  have hclk := label_Clk l.s
  rw [if_pos hf.1, if_pos hf.1, if_pos hf.1, if_pos hf.1] at hclk
  have l10 : (⟨#[10]⟩ : ByteArray) = strOf [10] := by kernel_rfl
  have l32 : (⟨#[32]⟩ : ByteArray) = strOf [32] := by kernel_rfl
  have l45 : (⟨#[45]⟩ : ByteArray) = strOf [45] := by kernel_rfl
  have l58 : (⟨#[58]⟩ : ByteArray) = strOf [58] := by kernel_rfl
  have lsv : (⟨#[32, 85, 84, 67, 40, 78, 73, 83, 84, 41, 32]⟩ : ByteArray) = strOf [32, 85, 84, 67, 40, 78, 73, 83, 84, 41, 32] := by kernel_rfl
  have b1 : ∀ {x : Int}, 0 ≤ x ∧ x < 256 → okBy [x] := fun h => okBy_cons h okBy_nil
  have P : ∀ (out : List Int) (x v : Int) (w : Nat), out.length ≤ 500 → (0 ≤ x ∧ x < 256) → (0 ≤ v ∧ v < 10 ^ w) → (1 ≤ w ∧ w ≤ 18) → g_nist_writer_put_io (((none, ()), (out, ())), ((), ((strOf [x], ()), ((v, ()), (((w : Int), ()), ()))))) = some (((none, ()), (out ++ x :: dgs v.toNat w, ())), ((), ())) :=
    fun out x v w ho hx hv hw => nist_put_w out [x] v w (b1 hx) hv hw (by simp; omega)
  have hmark : g_nist_mark ((), ((l.m, ()), ())) = some ((), ((strOf [if l.m then 35 else 42], ()), ())) := by
    cases l.m <;> kernel_rfl
  simp only [g_nist_Put, f_nist_Put_m, nist_check, h, errOf_zero, hdate, hclk, mjd_five, h1, if_true, fitsS_dec, Option.bind_some, Option.isNone_none, Option.isNone_some, Option.isSome_none, Option.isSome_some, Bool.not_true, Bool.not_false, cond_true, cond_false, cond_dec, beq_int, bne_int, not_dec, l10, l32, l45, l58, lsv, hmark, nist_modulo y 100 (by omega) (by omega)]
  rw [nist_text [] [10] (b1 (by omega)) (by simp), Option.bind_some, nist_text _ _ (dgs_by _ _) (by simp [dgs_len]), Option.bind_some]
  have e2 : (2 : Int) = ((2 : Nat) : Int) := rfl
  have e1 : (1 : Int) = ((1 : Nat) : Int) := rfl
  rw [e2]
  simp only [List.nil_append]
  rw [P _ 32 (y % 100) 2 (by simp only [List.length_append, List.length_cons, List.length_nil, dgs_len]; omega) (by omega) (by omega) (by omega), Option.bind_some,
    P _ 45 m 2 (by simp only [List.length_append, List.length_cons, List.length_nil, dgs_len]; omega) (by omega) (by omega) (by omega), Option.bind_some,
    P _ 45 d 2 (by simp only [List.length_append, List.length_cons, List.length_nil, dgs_len]; omega) (by omega) (by omega) (by omega), Option.bind_some,
    P _ 32 (clkM l.s / 60) 2 (by simp only [List.length_append, List.length_cons, List.length_nil, dgs_len]; omega) (by omega) (by omega) (by omega), Option.bind_some,
    P _ 58 (clkM l.s % 60) 2 (by simp only [List.length_append, List.length_cons, List.length_nil, dgs_len]; omega) (by omega) (by omega) (by omega), Option.bind_some,
    P _ 58 (clkS l.s) 2 (by simp only [List.length_append, List.length_cons, List.length_nil, dgs_len]; omega) (by omega) (by omega) (by omega), Option.bind_some,
    P _ 32 l.c 2 (by simp only [List.length_append, List.length_cons, List.length_nil, dgs_len]; omega) (by omega) (by omega) (by omega), Option.bind_some]
  rw [e1, P _ 32 l.p 1 (by simp only [List.length_append, List.length_cons, List.length_nil, dgs_len]; omega) (by omega) (by omega) (by omega), Option.bind_some,
    P _ 32 l.h 1 (by simp only [List.length_append, List.length_cons, List.length_nil, dgs_len]; omega) (by omega) (by omega) (by omega), Option.bind_some,
    nist_text _ [32] (b1 (by omega)) (by simp only [List.length_append, List.length_cons, List.length_nil, dgs_len]; omega), Option.bind_some,
    nist_advance _ l.a hf.2.2.2.2 (by simp only [List.length_append, List.length_cons, List.length_nil, dgs_len]; omega), Option.bind_some]
  have hadv := advL_len hf.2.2.2.2
  dsimp only
  simp only [str_size, str_app, List.length_cons, List.length_nil, List.length_append]
  rw [if_pos (by omega), if_pos (by omega), nist_text _ _ ?_ (by simp only [List.length_append, List.length_cons, List.length_nil, dgs_len, hadv]; omega), Option.bind_some]
  · simp only [lineL, List.append_assoc, List.cons_append, List.nil_append]
  · intro x hx
    simp only [List.cons_append, List.nil_append, List.mem_cons, List.not_mem_nil, or_false] at hx
    rcases hx with h | h | h | h | h | h | h | h | h | h | h | h | h <;> first | omega | (rw [h]; split <;> omega)
theorem nist_put_bad {l : NL} (h : l.err ≠ 0) : g_nist_Put ((), (l.t, ())) = some ((), ((strOf [], ()), ((errOf l.err, ()), ()))) := by
  simp only [g_nist_Put, f_nist_Put_m, nist_check, fitsS_dec, Option.bind_some, Option.isNone_none, Option.isNone_some, Option.isSome_none, Option.isSome_some, Bool.not_true, Bool.not_false, cond_true, cond_false, cond_dec, beq_int, bne_int, not_dec, errOf_none, h, not_false_eq_true, if_true, str_nil]
end Go.Proofs.YtddnfappkfiidaaGreat.Ev
