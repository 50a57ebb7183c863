/- Time lines: the reference's writer, the line that the laws try first. -/
import Derived.Test.YticfncahnhbhbaaGreatPuNist
namespace Go.Proofs.YticfncahnhbhbaaGreat.Ev
open Go
set_option linter.unusedVariables false
set_option linter.unusedSimpArgs false
theorem if_len (n : Nat) (h : n ≤ 1000000) {α : Type} (a b : α) : (if (n : Int) ≤ 9223372036854775807 then a else b) = a := if_pos (by omega)
theorem ref26_raw (v : Int) (w : Nat) (h : 0 ≤ v ∧ v < 10 ^ w) (hw : 1 ≤ w ∧ w ≤ 18) : g_ref26_raw ((), ((v, ()), (((w : Int), ()), ()))) = some ((), ((strOf (dgs v.toNat w), ()), ())) := by
  simp only [g_ref26_raw, f_ref26_raw_m, ref02_raw_dg v w h hw, fitsS_dec, Option.bind_some, Option.isNone_none, Option.isNone_some, Option.isSome_none, Option.isSome_some, Bool.not_true, Bool.not_false, cond_true, cond_false, cond_dec, beq_int, bne_int, not_dec]
theorem ref26_raw1 (v : Int) (h : 0 ≤ v ∧ v ≤ 999) : g_ref26_raw ((), ((v, ()), ((1, ()), ()))) = some ((), ((strOf (padd v.toNat 1), ()), ())) := by
  have := ref02_raw v.toNat 1 (by omega) (by omega)
  rw [show ((v.toNat : Nat) : Int) = v by omega] at this
  have h2 : g_ref02_Raw ((), ((v, ()), ((1, ()), ()))) = some ((), ((strOf (padd v.toNat 1), ()), ())) := this
  simp only [g_ref26_raw, f_ref26_raw_m, h2, fitsS_dec, Option.bind_some, Option.isNone_none, Option.isNone_some, Option.isSome_none, Option.isSome_some, Bool.not_true, Bool.not_false, cond_true, cond_false, cond_dec, beq_int, bne_int, not_dec]
theorem ref26_adv_p3z {a : Int} (ha : 0 ≤ a ∧ a ≤ 9999) (P : List Int) (hP : P.length ≤ 3) (j : Nat) (hj : j + P.length = 3) :
    Evn (fun f => (f_ref26_advance_t f).1 ((), ((a, ()), ((strOf (List.replicate j 32 ++ P), ()), ())))) ((), ((strOf ((List.replicate j 32 ++ P) ++ 46 :: dgs (a % 10).toNat 1), ()), ())) := by
  refine Evn.some 1 fun f => ?_
  have hr : g_ref26_raw ((), ((a % 10, ()), ((1, ()), ()))) = some ((), ((strOf (dgs (a % 10).toNat 1), ()), ())) := ref26_raw (a % 10) 1 (by omega) (by omega)
  have hl : (List.replicate j 32 ++ P).length = 3 := by simp only [List.length_append, List.length_replicate]; omega
  generalize List.replicate j 32 ++ P = Q at hl ⊢
  have l46 : (⟨#[46]⟩ : ByteArray) = strOf [46] := by kernel_rfl
  simp only [t_ref26_advance, f_ref26_advance_p3, fitsS_dec, Option.bind_some, Option.isNone_none, Option.isNone_some, Option.isSome_none, Option.isSome_some, Bool.not_true, Bool.not_false, cond_true, cond_false, cond_dec, beq_int, bne_int, not_dec, -fitsS_dec, str_size, tmod_nn ha.1, hr, l46, hl]
  simp only [fitsS_dec, cond_dec, str_size, hl]
  rw [if_neg (by decide), if_len _ (by decide)]
  simp only [str_app, str_size, List.length_append, List.length_cons, List.length_nil, hl, dgs_len]
  rw [if_len _ (by decide)]
  simp only [List.append_assoc, List.cons_append, List.nil_append]
theorem ref26_adv_p3s {a : Int} (P : List Int) (hP : P.length < 3) (f : Nat) : (f_ref26_advance_t (f + 1)).1 ((), ((a, ()), ((strOf P, ()), ()))) = (f_ref26_advance_t f).1 ((), ((a, ()), ((strOf (32 :: P), ()), ()))) := by
  have l32 : (⟨#[32]⟩ : ByteArray) = strOf [32] := by kernel_rfl
  simp only [t_ref26_advance, f_ref26_advance_p3, fitsS_dec, Option.bind_some, Option.isNone_none, Option.isNone_some, Option.isSome_none, Option.isSome_some, Bool.not_true, Bool.not_false, cond_true, cond_false, cond_dec, beq_int, bne_int, not_dec, str_size, l32]
  rw [if_pos (by omega), if_pos (by simp only [List.length_cons, List.length_nil]; omega)]
  simp only [str_app, List.cons_append, List.nil_append]
theorem ref26_adv_p3 {a : Int} (ha : 0 ≤ a ∧ a ≤ 9999) (P : List Int) (hP : P.length ≤ 3) : ∀ (k j : Nat), j + P.length + k = 3 →
    Evn (fun f => (f_ref26_advance_t f).1 ((), ((a, ()), ((strOf (List.replicate j 32 ++ P), ()), ())))) ((), ((strOf ((List.replicate (j + k) 32 ++ P) ++ 46 :: dgs (a % 10).toNat 1), ()), ())) := by
  intro k
  induction k with
  | zero => intro j hj; exact ref26_adv_p3z ha P hP j hj
  | succ k ih =>
    intro j hj
    have := ih (j + 1) (by omega)
    rw [show j + 1 + k = j + (k + 1) by omega] at this
    refine this.step fun f => ?_
    rw [ref26_adv_p3s _ (by simp only [List.length_append, List.length_replicate]; omega), List.replicate_succ, List.cons_append]
theorem ref26_advance (a : Int) (ha : 0 ≤ a ∧ a ≤ 9999) : g_ref26_advance ((), ((a, ()), ())) = some ((), ((strOf (advL a), ()), ())) := by
  have h3 := padd3 ha
  have := ref26_adv_p3 ha (padd (a / 10).toNat 1) h3 (3 - (padd (a / 10).toNat 1).length) 0 (by omega)
  refine (this.cast fun k => ?_).lim.trans ?_
  · simp only [f_ref26_advance_m, fitsS_dec, Option.bind_some, Option.isNone_none, Option.isNone_some, Option.isSome_none, Option.isSome_some, Bool.not_true, Bool.not_false, cond_true, cond_false, cond_dec, beq_int, bne_int, not_dec, iquo_nn (show (0 : Int) < 10 by omega) (show 0 ≤ a ∧ a ≤ 9223372036854775807 by omega), ref26_raw1 (a / 10) (by omega), List.replicate_zero, List.nil_append]
  · simp only [advL, Nat.zero_add]
theorem nist_alive : g_law26_alive ((), ()) = some ((), ((true, ()), ())) := by
  have hd : IsDate 20005 2024 10 9 := by unfold IsDate; decide
  have he : NL.err ⟨20005, 40333, 50, 0, 0, 500, false⟩ = 0 := by decide
  have hp := nist_put he hd
  simp only [NL.t] at hp
  have e : lineL ⟨20005, 40333, 50, 0, 0, 500, false⟩ 2024 10 9 = [10, 54, 48, 53, 57, 50, 32, 50, 52, 45, 49, 48, 45, 48, 57, 32, 49, 49, 58, 49, 50, 58, 49, 51, 32, 53, 48, 32, 48, 32, 48, 32, 32, 53, 48, 46, 48, 32, 85, 84, 67, 40, 78, 73, 83, 84, 41, 32, 42, 10] := by kernel_rfl
  simp only [g_law26_alive, f_law26_alive_m, hp, fitsS_dec, Option.bind_some, Option.isNone_none, Option.isNone_some, Option.isSome_none, Option.isSome_some, Bool.not_true, Bool.not_false, cond_true, cond_false, cond_dec, beq_int, bne_int, not_dec, e]
  congr 4
  kernel_rfl
end Go.Proofs.YticfncahnhbhbaaGreat.Ev
