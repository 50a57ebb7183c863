/- Names of four bytes, by the reference: the first text whose code they are. -/
import Derived.Test.YtodnllhjikeafaaGreatDoorPuRefidD
namespace Go.Proofs.YtodnllhjikeafaaGreatDoor.Ev
open Go
set_option linter.unusedVariables false
set_option linter.unusedSimpArgs false
theorem code_four (a b c d : Int) : codeV [a, b, c, d] = (a, (b, (c, (d, ())))) := rfl
/-- Where the text of a code begins anew: the first n of four bytes are a code and all of them, only where the rest is noughts. -/
theorem take_is (a b c d : Int) (n : Nat) (hn : 1 ≤ n ∧ n ≤ 4) : (codeOk ([a, b, c, d].take n) ∧ codeV ([a, b, c, d].take n) = (a, (b, (c, (d, ()))))) ↔ (codeOk (trim0 [a, b, c, d]) ∧ n = (trim0 [a, b, c, d]).length) := by
  have hn' : n = 1 ∨ n = 2 ∨ n = 3 ∨ n = 4 := by omega
  have nz : ∀ {l : List Int} {x : Int}, codeOk l → x ∈ l → x ≠ 0 := fun h hx q => by
    have := h.2 _ hx
    unfold rcoded at this; omega
  rw [trim4]
  by_cases hd : d = 0
  · by_cases hc : c = 0
    · by_cases hb : b = 0
      · by_cases ha : a = 0
        · subst ha; subst hb; subst hc; subst hd
          rcases hn' with rfl | rfl | rfl | rfl <;> simp [codeV, codeOk, rcoded]
        · subst hb; subst hc; subst hd
          rcases hn' with rfl | rfl | rfl | rfl <;> simp [codeV, codeOk, rcoded, ha]
      · subst hc; subst hd
        rcases hn' with rfl | rfl | rfl | rfl <;> simp [codeV, codeOk, rcoded, hb, Ne.symm hb]
    · subst hd
      rcases hn' with rfl | rfl | rfl | rfl <;> simp [codeV, codeOk, rcoded, hc, Ne.symm hc]
  · rcases hn' with rfl | rfl | rfl | rfl <;> simp [codeV, codeOk, rcoded, hd, Ne.symm hd]
theorem take_trim (a b c d : Int) : [a, b, c, d].take (trim0 [a, b, c, d]).length = trim0 [a, b, c, d] := by
  rw [trim4]
  split
  · rfl
  split
  · rfl
  split
  · rfl
  split <;> rfl
theorem rname_p3 (a b c d : Int) (h : okBy [a, b, c, d]) : ∀ (m n : Nat), n + m = 5 → 1 ≤ n →
    Evn (fun k => (f_ref30_Name_t k).1 ((), ((some (a, (b, (c, d))), ()), (((n : Int), ()), ())))) ((), (if codeOk (trim0 [a, b, c, d]) ∧ n ≤ (trim0 [a, b, c, d]).length then ((strOf (trim0 [a, b, c, d]), ()), ((true, ()), ())) else ((strOf [], ()), ((false, ()), ()))))
  | 0, n, e, hn => by
    have hl := name_len [a, b, c, d]
    simp only [List.length_cons, List.length_nil] at hl
    rw [if_neg (by omega)]
    refine Evn.some 1 fun k => ?_
    rw [t_ref30_Name]
    simp only [f_ref30_Name_p3, fitsS_dec, Option.bind_some, Option.isNone_none, Option.isNone_some, Option.isSome_none, Option.isSome_some, Bool.not_true, Bool.not_false, cond_true, cond_false, cond_dec, beq_int, bne_int, not_dec]
    rw [if_neg (by omega)]; rfl
  | m + 1, n, e, hn => by
    have ih := rname_p3 a b c d h m (n + 1) (by omega) (by omega)
    have hc := ref30_code (strOf ([a, b, c, d].take n)) (by rw [str_size, List.length_take]; simp only [List.length_cons, List.length_nil]; omega)
    rw [by_str (okBy_take h n)] at hc
    have ht := take_is a b c d n (by omega)
    have hk := take_trim a b c d
    have e1 : List.drop (Int.toNat (0 : Int)) (List.take (Int.toNat (n : Int)) [a, b, c, d]) = [a, b, c, d].take n := rfl
    by_cases q : codeOk ([a, b, c, d].take n) ∧ codeV ([a, b, c, d].take n) = (a, (b, (c, (d, ()))))
    · obtain ⟨h1, h2⟩ := ht.1 q
      rw [if_pos ⟨h1, by omega⟩]
      rw [if_pos q.1, q.2] at hc
      rw [← h2] at hk
      refine Evn.some 1 fun k => ?_
      rw [t_ref30_Name]
      simp only [f_ref30_Name_p3, fitsS_dec, Option.bind_some, Option.isNone_none, Option.isNone_some, Option.isSome_none, Option.isSome_some, Bool.not_true, Bool.not_false, cond_true, cond_false, cond_dec, beq_int, bne_int, not_dec, and_dec, e1]
      rw [if_pos (by omega), if_pos (by omega), hc, hk]
      simp
    · have hne : ¬ (codeOk (trim0 [a, b, c, d]) ∧ n = (trim0 [a, b, c, d]).length) := fun x => q (ht.2 x)
      have e2 : (codeOk (trim0 [a, b, c, d]) ∧ n ≤ (trim0 [a, b, c, d]).length) ↔ (codeOk (trim0 [a, b, c, d]) ∧ n + 1 ≤ (trim0 [a, b, c, d]).length) := by
        constructor
        · intro x; exact ⟨x.1, by have : n ≠ (trim0 [a, b, c, d]).length := fun y => hne ⟨x.1, y⟩
                                  have := x.2; omega⟩
        · intro x; exact ⟨x.1, by have := x.2; omega⟩
      simp only [e2]
      refine ih.step fun k => ?_
      rw [t_ref30_Name]
      simp only [f_ref30_Name_p3, fitsS_dec, Option.bind_some, Option.isNone_none, Option.isNone_some, Option.isSome_none, Option.isSome_some, Bool.not_true, Bool.not_false, cond_true, cond_false, cond_dec, beq_int, bne_int, not_dec, and_dec, e1]
      rw [if_pos (by omega), if_pos (by omega), hc, iadd_i64 (by omega)]
      by_cases q1 : codeOk ([a, b, c, d].take n)
      · have q2 : ¬ codeV ([a, b, c, d].take n) = (a, (b, (c, (d, ())))) := fun x => q ⟨q1, x⟩
        generalize codeV ([a, b, c, d].take n) = V at q2
        obtain ⟨v1, v2, v3, v4, v5⟩ := V
        simp only [if_pos q1]
        simp only [Prod.mk.injEq, and_true, not_and] at q2
        simp only [fitsS_dec, Option.bind_some, Option.isNone_none, Option.isNone_some, Option.isSome_none, Option.isSome_some, Bool.not_true, Bool.not_false, cond_true, cond_false, cond_dec, beq_int, bne_int, not_dec]
        by_cases r1 : v1 = a
        · by_cases r2 : v2 = b
          · by_cases r3 : v3 = c
            · simp [r1, r2, r3, q2 r1 r2 r3]
            · simp [r1, r2, r3]
          · simp [r1, r2]
        · simp [r1]
      · simp only [if_neg q1, fitsS_dec, Option.bind_some, Option.isNone_none, Option.isNone_some, Option.isSome_none, Option.isSome_some, Bool.not_true, Bool.not_false, cond_true, cond_false, cond_dec, beq_int, bne_int, not_dec]; simp
theorem ref30_name (a b c d : Int) (h : okBy [a, b, c, d]) : g_ref30_Name ((), ((a, (b, (c, (d, ())))), ())) = some ((), ((strOf (nameL [a, b, c, d]), ()), ((decide (codeOk (trim0 [a, b, c, d])), ()), ()))) := by
  have key := rname_p3 a b c d h 4 1 rfl (Nat.le_refl _)
  have e : (codeOk (trim0 [a, b, c, d]) ∧ 1 ≤ (trim0 [a, b, c, d]).length) ↔ codeOk (trim0 [a, b, c, d]) := ⟨fun x => x.1, fun x => ⟨x, x.1.1⟩⟩
  simp only [e] at key
  refine (key.cast fun k => ?_).lim.trans ?_
  · simp only [f_ref30_Name_m]; rfl
  · unfold nameL
    by_cases q : codeOk (trim0 [a, b, c, d])
    · simp only [if_pos q, decide_eq_true q]
    · simp only [if_neg q, decide_eq_false q]
end Go.Proofs.YtodnllhjikeafaaGreatDoor.Ev
