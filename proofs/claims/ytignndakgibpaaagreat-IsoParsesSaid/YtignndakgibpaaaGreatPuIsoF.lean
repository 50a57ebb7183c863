/- ISO instants: the reference's shapes and numbers. -/
import Derived.Test.YtignndakgibpaaaGreatPuScanB
import Derived.Test.YtignndakgibpaaaGreatPuIsoW
namespace Go.Proofs.YtignndakgibpaaaGreat.Ev
open Go
set_option linter.unusedVariables false
set_option linter.unusedSimpArgs false
def fitAt (c b : Int) : Prop := if c = 48 then isF b else b = c ∨ (c = 84 ∧ b = 116)
instance (c b : Int) : Decidable (fitAt c b) := by unfold fitAt; infer_instance
def fits (S B : List Int) : Prop := ∀ i : Nat, i < S.length → fitAt (S.getD i 0) (B.getD i 0)
theorem fits_step (S B : List Int) (hS : okBy S) (hB : okBy B) (hl : S.length ≤ B.length) (hb : B.length ≤ 1000000) (i : Nat) (hi : i < S.length) (f : Nat) :
    (f_ref24_fits_t (f + 1)).1 ((), ((strOf B, ()), ((strOf S, ()), (((i : Int), ()), ())))) = if fitAt (S.getD i 0) (B.getD i 0) then (f_ref24_fits_t f).1 ((), ((strOf B, ()), ((strOf S, ()), ((((i + 1 : Nat) : Int), ()), ())))) else some ((), ((false, ()), ())) := by
  have b1 := by_at (strOf S) (i := (i : Int)) (by omega) (by rw [str_size]; omega)
  have b2 := by_at (strOf B) (i := (i : Int)) (by omega) (by rw [str_size]; omega)
  rw [by_str hS, Int.toNat_natCast] at b1
  rw [by_str hB, Int.toNat_natCast] at b2
  have hr := okBy_at hB i
  have his := ref02_is _ hr
  have e1 : iadd .i64 (i : Int) 1 = ((i + 1 : Nat) : Int) := by rw [iadd_i64 (by omega)]; rfl
  generalize B.getD i 0 = b at b2 hr his ⊢
  generalize S.getD i 0 = c at b1 ⊢
  have hin : (0 : Int) ≤ (i : Int) ∧ (i : Int) < (B.length : Int) := by omega
  have hin2 : (0 : Int) ≤ (i : Int) ∧ (i : Int) < (S.length : Int) := by omega
  have hlt : (i : Int) < (S.length : Int) := by omega
  simp only [t_ref24_fits, f_ref24_fits_p6, b1, b2, his, str_size, e1, fitsS_dec, Option.bind_some, Option.isNone_none, Option.isNone_some, Option.isSome_none, Option.isSome_some, Bool.not_true, Bool.not_false, cond_true, cond_false, cond_dec, beq_int, bne_int, not_dec, and_dec, hin, hin2, hlt, and_self, if_true]
  unfold fitAt
  by_cases q : c = 48
  · subst q
    by_cases q1 : isF b <;> simp [q1]
  · by_cases q2 : b = c
    · subst q2; simp [q]
    · by_cases q3 : c = 84
      · subst q3
        by_cases q4 : b = 116
        · subst q4; simp
        · simp [q2, q4]
      · simp [q, q2, q3]
theorem fits_p6 (S B : List Int) (hS : okBy S) (hB : okBy B) (hl : S.length ≤ B.length) (hb : B.length ≤ 1000000) : ∀ (k i : Nat), i + k = S.length → (∀ j, j < i → fitAt (S.getD j 0) (B.getD j 0)) →
    ∃ v : Bool, (v = true ↔ fits S B) ∧ Evn (fun f => (f_ref24_fits_t f).1 ((), ((strOf B, ()), ((strOf S, ()), (((i : Int), ()), ()))))) ((), ((v, ()), ())) := by
  intro k; induction k with
  | zero =>
    intro i hi hp
    refine ⟨true, ⟨fun _ j hj => hp j (by omega), fun _ => rfl⟩, Evn.some 1 fun f => ?_⟩
    simp only [t_ref24_fits, f_ref24_fits_p6, str_size, fitsS_dec, Option.bind_some, Option.isNone_none, Option.isNone_some, Option.isSome_none, Option.isSome_some, Bool.not_true, Bool.not_false, cond_true, cond_false, cond_dec, beq_int, bne_int, not_dec]
    rw [if_neg (by omega)]
  | succ k ih =>
    intro i hi hp
    by_cases c : fitAt (S.getD i 0) (B.getD i 0)
    · obtain ⟨v, hv, he⟩ := ih (i + 1) (by omega) (fun j hj => by
        by_cases q : j = i
        · rw [q]; exact c
        · exact hp j (by omega))
      refine ⟨v, hv, he.step fun f => ?_⟩
      show (f_ref24_fits_t (f + 1)).1 _ = _
      rw [fits_step S B hS hB hl hb i (by omega), if_pos c]
    · refine ⟨false, ⟨fun z => (by cases z), fun z => absurd (z i (by omega)) c⟩, Evn.some 1 fun f => ?_⟩
      rw [fits_step S B hS hB hl hb i (by omega), if_neg c]
theorem ref24_fits (S B : List Int) (hS : okBy S) (hB : okBy B) (hb : B.length ≤ 1000000) : ∃ v : Bool, (v = true ↔ (S.length ≤ B.length ∧ fits S B)) ∧ g_ref24_fits ((), ((strOf B, ()), ((strOf S, ()), ()))) = some ((), ((v, ()), ())) := by
  by_cases c : S.length ≤ B.length
  · obtain ⟨v, hv, he⟩ := fits_p6 S B hS hB c hb S.length 0 (by omega) (fun j hj => by omega)
    refine ⟨v, ⟨fun z => ⟨c, hv.1 z⟩, fun z => hv.2 z.2⟩, ?_⟩
    refine (he.cast fun f => ?_).lim
    simp only [f_ref24_fits_m, str_size, fitsS_dec, Option.bind_some, Option.isNone_none, Option.isNone_some, Option.isSome_none, Option.isSome_some, Bool.not_true, Bool.not_false, cond_true, cond_false, cond_dec, beq_int, bne_int, not_dec]
    rw [if_neg (by omega)]; rfl
  · refine ⟨false, ⟨fun z => (by cases z), fun z => absurd z.1 c⟩, ?_⟩
    refine (Evn.const fun f => ?_).lim
    simp only [f_ref24_fits_m, str_size, fitsS_dec, Option.bind_some, Option.isNone_none, Option.isNone_some, Option.isSome_none, Option.isSome_some, Bool.not_true, Bool.not_false, cond_true, cond_false, cond_dec, beq_int, bne_int, not_dec]
    rw [if_pos (by omega)]
theorem num24_p4 (l : List Int) (hf : ∀ x ∈ l, isF x) (hl : l.length ≤ 18) : ∀ (k i : Nat), i + k = l.length →
    Evn (fun f => (f_ref24_number_t f).1 ((), ((strOf l, ()), ((val10 (l.take i), ()), (((i : Int), ()), ()))))) ((), ((val10 l, ()), ())) := by
  have ho := figs_okBy hf
  intro k; induction k with
  | zero =>
    intro i hi
    rw [List.take_of_length_le (by omega)]
    refine Evn.some 1 fun f => ?_
    simp only [t_ref24_number, f_ref24_number_p4, str_size, fitsS_dec, Option.bind_some, Option.isNone_none, Option.isNone_some, Option.isSome_none, Option.isSome_some, Bool.not_true, Bool.not_false, cond_true, cond_false, cond_dec, beq_int, bne_int, not_dec]
    rw [if_neg (by omega)]
  | succ k ih =>
    intro i hi
    have hb := by_at (strOf l) (i := (i : Int)) (by omega) (by rw [str_size]; omega)
    rw [by_str ho, Int.toNat_natCast] at hb
    have ht : l.take (i + 1) = l.take i ++ [l.getD i 0] := by
      rw [List.take_succ_eq_append_getElem (by omega), List.getD_eq_getElem?_getD, List.getElem?_eq_getElem (by omega)]; rfl
    have hF : isF (l.getD i 0) := by
      rw [List.getD_eq_getElem?_getD, List.getElem?_eq_getElem (by omega)]
      exact hf _ (List.getElem_mem _)
    have hr := val10_range _ (l.take i) rfl (fun x hx => hf x (List.mem_of_mem_take hx))
    have hlen : (l.take i).length = i := by rw [List.length_take]; omega
    rw [hlen] at hr
    have hp : (10 : Int) ^ i ≤ 10 ^ 17 := by
      have : 10 ^ i ≤ 10 ^ 17 := Nat.pow_le_pow_right (by omega) (by omega)
      exact_mod_cast this
    have ih' := ih (i + 1) (by omega)
    rw [ht, val10_snoc] at ih'
    refine ih'.step fun f => ?_
    unfold isF at hF
    have e1 : isub .u8 (l.getD i 0) 48 = l.getD i 0 - 48 := by unfold isub; rw [wrap_u8]; omega
    simp only [t_ref24_number, f_ref24_number_p4, str_size, fitsS_dec, Option.bind_some, Option.isNone_none, Option.isNone_some, Option.isSome_none, Option.isSome_some, Bool.not_true, Bool.not_false, cond_true, cond_false, cond_dec, beq_int, bne_int, not_dec, and_dec]
    rw [if_pos (by omega), if_pos (by omega), hb, e1, iconv_i64 (by omega), imul_i64 (by omega), iadd_i64 (by omega), iadd_i64 (by omega)]; rfl
theorem ref24_number (l : List Int) (hf : ∀ x ∈ l, isF x) (hl : l.length ≤ 18) : g_ref24_number ((), ((strOf l, ()), ())) = some ((), ((val10 l, ()), ())) := by
  refine ((num24_p4 l hf hl l.length 0 (by omega)).cast fun f => ?_).lim
  simp only [f_ref24_number_m]; rfl
theorem lit24 {c b : Int} (h48 : c ≠ 48) (h84 : c ≠ 84) : fitAt c b ↔ b = c := by
  unfold fitAt; rw [if_neg h48]
  exact ⟨fun h => h.resolve_right (fun q => h84 q.1), Or.inl⟩
theorem fig24 {b : Int} : fitAt 48 b ↔ isF b := by unfold fitAt; rw [if_pos rfl]
theorem list_getA (B : List Int) : B = (List.range B.length).map fun i => B.getD i 0 := by
  refine List.ext_getElem (by simp) fun i h1 h2 => ?_
  simp only [List.getElem_map, List.getElem_range]
  rw [List.getD_eq_getElem?_getD, List.getElem?_eq_getElem h1]; rfl
theorem ex_strI (s : ByteArray) (a b : Nat) : s.extract a b = strOf (((bytesOf s).take b).drop a) := by
  apply by_inj
  rw [by_cut, by_str (okBy_drop (okBy_take (by_ok s) b) a)]
theorem figs2 {a b : Int} (ha : isF a) (hb : isF b) : ∀ y ∈ [a, b], isF y := by
  intro y hy
  simp only [List.mem_cons, List.not_mem_nil, or_false] at hy
  rcases hy with rfl | rfl <;> assumption
theorem figs4 {a b c d : Int} (ha : isF a) (hb : isF b) (hc : isF c) (hd : isF d) : ∀ y ∈ [a, b, c, d], isF y := by
  intro y hy
  simp only [List.mem_cons, List.not_mem_nil, or_false] at hy
  rcases hy with rfl | rfl | rfl | rfl <;> assumption
theorem l4 {Y : List Int} (h : Y.length = 4) : ∃ a b c d, Y = [a, b, c, d] := by
  have := list_getA Y
  rw [h] at this
  exact ⟨_, _, _, _, this⟩
theorem l2 {Y : List Int} (h : Y.length = 2) : ∃ a b, Y = [a, b] := by
  have := list_getA Y
  rw [h] at this
  exact ⟨_, _, this⟩
end Go.Proofs.YtignndakgibpaaaGreat.Ev
