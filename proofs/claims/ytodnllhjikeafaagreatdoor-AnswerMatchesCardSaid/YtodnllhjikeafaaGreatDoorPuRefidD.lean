/- Names of four bytes: what is left of them without noughts behind. -/
import Derived.Test.YtodnllhjikeafaaGreatDoorPuRefid
import Derived.Test.YtodnllhjikeafaaGreatDoorEv40
namespace Go.Proofs.YtodnllhjikeafaaGreatDoor.Ev
open Go
set_option linter.unusedVariables false
set_option linter.unusedSimpArgs false
/-- Without the noughts behind. -/
def trim0 (l : List Int) : List Int := (l.reverse.dropWhile (· == 0)).reverse
theorem drop_same {p q : Int → Bool} : ∀ l : List Int, (∀ x ∈ l, p x = q x) → l.dropWhile p = l.dropWhile q
  | [], h => rfl
  | x :: l, h => by
    rw [List.dropWhile_cons, List.dropWhile_cons, h x (List.mem_cons_self ..), drop_same l fun y hy => h y (List.mem_cons_of_mem _ hy)]
theorem trim_data (l : List Int) (h : okBy l) : Lib.trimRightB (strOf l).data.toList 0 = (strOf (trim0 l)).data.toList := by
  unfold Lib.trimRightB trim0 strOf
  simp only [List.toList_toArray]
  rw [← List.map_reverse, List.dropWhile_map, ← List.map_reverse]
  congr 2
  refine drop_same _ fun x hx => ?_
  have := h x (by simpa using hx)
  simp only [Function.comp]
  by_cases c : x = 0
  · subst c; rfl
  · have : UInt8.ofNat x.toNat ≠ 0 := fun e => by
      have := congrArg UInt8.toNat e
      rw [UInt8.toNat_ofNat'] at this
      simp at this
      omega
    rw [beq_eq_false_iff_ne.2 this, beq_eq_false_iff_ne.2 c]
theorem trim_call (l : List Int) (h : okBy l) (hl : l.length ≤ 100) : lib_trimRight ((), ((strOf l, ()), (((⟨#[0]⟩ : ByteArray), ()), ()))) = some ((), ((strOf (trim0 l), ()), ())) := by
  have e := trim_data l h
  unfold lib_trimRight
  show (if (0 : UInt8).toNat < 128 ∧ (strOf l).size ≤ 9223372036854775807 then some ((), (((⟨(Lib.trimRightB (strOf l).data.toList 0).toArray⟩ : ByteArray), ()), ())) else none) = _
  rw [if_pos ⟨by decide, by rw [str_size]; omega⟩, e]
theorem trim4 (a b c d : Int) : trim0 [a, b, c, d] = if d ≠ 0 then [a, b, c, d] else if c ≠ 0 then [a, b, c] else if b ≠ 0 then [a, b] else if a ≠ 0 then [a] else [] := by
  unfold trim0
  simp only [List.reverse_cons, List.reverse_nil, List.nil_append, List.cons_append, List.dropWhile_cons, List.dropWhile_nil]
  by_cases hd : d = 0 <;> by_cases hc : c = 0 <;> by_cases hb : b = 0 <;> by_cases ha : a = 0 <;> simp [ha, hb, hc, hd]
/-- The name of four bytes. -/
def nameL (l : List Int) : List Int := if codeOk (trim0 l) then trim0 l else []
theorem name_ok {l : List Int} (h : okBy l) : okBy (trim0 l) := fun x hx => h x (by
  unfold trim0 at hx
  have := List.mem_reverse.1 hx
  exact List.mem_reverse.1 ((List.dropWhile_sublist _).mem this))
theorem name_len (l : List Int) : (trim0 l).length ≤ l.length := by
  unfold trim0
  rw [List.length_reverse]
  exact Nat.le_trans (List.dropWhile_sublist _).length_le (by rw [List.length_reverse]; exact Nat.le_refl _)
theorem refid_name (a b c d : Int) (h : okBy [a, b, c, d]) : g_refid_Name ((), ((a, (b, (c, (d, ())))), ())) = some ((), ((strOf (nameL [a, b, c, d]), ()), ((decide (codeOk (trim0 [a, b, c, d])), ()), ()))) := by
  have hT : g_strings_TrimRight ((), ((strOf [a, b, c, d], ()), (((⟨#[0]⟩ : ByteArray), ()), ()))) = some ((), ((strOf (trim0 [a, b, c, d]), ()), ())) := trim_call _ h (by simp)
  have hn := name_len [a, b, c, d]
  have hc := refid_code (strOf (trim0 [a, b, c, d])) (by rw [str_size]; simp only [List.length_cons, List.length_nil] at hn; omega)
  rw [by_str (name_ok h)] at hc
  simp only [g_refid_Name, f_refid_Name_m, hT, fitsS_dec, Option.bind_some, Option.isNone_none, Option.isNone_some, Option.isSome_none, Option.isSome_some, Bool.not_true, Bool.not_false, cond_true, cond_false, cond_dec, beq_int, bne_int, not_dec]
  rw [hc]
  unfold nameL
  by_cases k : codeOk (trim0 [a, b, c, d])
  · simp only [if_pos k, decide_eq_true k, fitsS_dec, Option.bind_some, Option.isNone_none, Option.isNone_some, Option.isSome_none, Option.isSome_some, Bool.not_true, Bool.not_false, cond_true, cond_false, cond_dec, beq_int, bne_int, not_dec]
  · simp only [if_neg k, decide_eq_false k, fitsS_dec, Option.bind_some, Option.isNone_none, Option.isNone_some, Option.isSome_none, Option.isSome_some, Bool.not_true, Bool.not_false, cond_true, cond_false, cond_dec, beq_int, bne_int, not_dec]; rfl
end Go.Proofs.YtodnllhjikeafaaGreatDoor.Ev
