/- Any part of any bytes is what the document says, and it is memory of its own: for every input, without a condition. -/
import Derived.Test.YtecilflgjakhcaaPuOct
namespace Go.Proofs.Ytecilflgjakhcaa.Ev
open Go
set_option linter.unusedVariables false
set_option linter.unusedSimpArgs false

theorem oc_alive : g24 ((), ()) = some ((), ((true, ()), ())) := by
  unfold g24 f24_m
  have h := put_u16 [] [258] (by intro w hw; simp only [List.mem_singleton] at hw; subst hw; omega) (by simp)
  simp only
  rw [h, size_u64]
  rfl
theorem oc_bytes (l : List Int) : g28 ((), ((l, ()), ((l, ()), ()))) = some ((), ((true, ()), ())) := by
  unfold g28 f28_m
  simp
theorem oc_cut (b : List Int) (hl : b.length ≤ 300) (at_ many : Int) (h0 : -9223372036854775808 ≤ many) (h1 : many ≤ 9223372036854775807) :
    g25 ((), ((b, ()), ((at_, ()), ((many, ()), ())))) = some (
      if at_ < 0 ∨ (b.length : Int) < at_ ∨ many < 0 then (([], ()), ((), ((some 1, ()), ())))
      else if (b.length : Int) - at_ < many then (([], ()), ((), ((some 4, ()), ())))
      else (((b.take (at_ + many).toNat).drop at_.toNat, ()), ((), ((none, ()), ())))) := by
  unfold g25 f25_m
  simp only
  rw [from_ b (by omega) at_ many h0 h1]
  by_cases c1 : at_ < 0 ∨ (b.length : Int) < at_ ∨ many < 0
  · rw [if_pos c1, if_pos c1]; rfl
  rw [if_neg c1, if_neg c1]
  by_cases c2 : (b.length : Int) - at_ < many
  · rw [if_pos c2, if_pos c2]; rfl
  rw [if_neg c2, if_neg c2]
  simp only [Option.bind_some, Option.isNone_none, Bool.not_true, cond_false]
  rw [clone _ (by simp only [List.length_drop, List.length_take]; omega)]
  rfl
theorem oc_part (b : List Int) (hl : b.length ≤ 300) (at_ many : Int) :
    g26 ((), ((b, ()), ((at_, ()), ((many, ()), ())))) = some (
      if at_ < 0 ∨ (b.length : Int) < at_ ∨ many < 0 then ((), (([], ()), ((1, ()), ())))
      else if (b.length : Int) - at_ < many then ((), (([], ()), ((4, ()), ())))
      else ((), (((b.take (at_ + many).toNat).drop at_.toNat, ()), ((0, ()), ())))) := by
  unfold g26 f26_m
  simp only
  by_cases c1 : at_ < 0
  · rw [decide_eq_true c1, if_pos (Or.inl c1)]; rfl
  rw [decide_eq_false c1]
  by_cases c3 : many < 0
  · rw [decide_eq_true c3, if_pos (Or.inr (Or.inr c3))]; rfl
  rw [decide_eq_false c3]
  by_cases c2 : at_ > (b.length : Int)
  · rw [decide_eq_true c2, if_pos (Or.inr (Or.inl c2))]; rfl
  rw [decide_eq_false c2, if_neg (by omega), decide_eq_true (show (0 : Int) ≤ at_ by omega), decide_eq_true (show at_ ≤ (b.length : Int) by omega), decide_eq_true (Int.le_refl _)]
  have e : (List.drop at_.toNat (List.take (Int.toNat (b.length : Int)) b)) = b.drop at_.toNat := by
    rw [Int.toNat_natCast, List.take_length]
  rw [e]
  have el : ((b.drop at_.toNat).length : Int) = b.length - at_ := by rw [List.length_drop]; omega
  rw [el]
  by_cases c4 : many > (b.length : Int) - at_
  · rw [decide_eq_true c4, if_pos c4]; rfl
  rw [decide_eq_false c4, if_neg c4, decide_eq_true (show (0 : Int) ≤ many by omega), decide_eq_true (show many ≤ (b.length : Int) - at_ by omega)]
  have e2 : List.drop (Int.toNat 0) (List.take many.toNat (b.drop at_.toNat)) = (b.take (at_ + many).toNat).drop at_.toNat := by
    rw [show Int.toNat 0 = 0 from rfl, List.drop_zero, List.drop_take, show (at_ + many).toNat - at_.toNat = many.toNat by omega]
  rw [e2]
  rfl
theorem oc_loop (b : List Int) (m : Nat) (hm : m ≤ 300) : ∀ (n i : Nat) (c : List Int), i + n = m → c.length = m →
    Evn (fun k => (f4_t k).1 ((b, (c, ())), ((b, ()), ((), ((), (((m : Int), ()), (((i : Int), ()), ()))))))) ((), ((true, ()), ()))
  | 0, i, c, hi, hc => by
    refine Evn.step (Evn.const fun _ => rfl) fun k => ?_
    rw [t4_s]
    simp only [f4_p15]
    rw [decide_eq_false (by omega), oc_bytes]
    rfl
  | n + 1, i, c, hi, hc => by
    have ih := oc_loop b m hm n (i + 1) (c.set i (ixor .u8 (gd (.int .u8) c (i : Int)) 1)) (by omega) (by rw [List.length_set]; exact hc)
    refine Evn.step ih fun k => ?_
    rw [t4_s]
    simp only [f4_p15]
    rw [decide_eq_true (show (i : Int) < (m : Int) by omega), decide_eq_true (show (0 : Int) ≤ (i : Int) by omega), decide_eq_true (show (i : Int) < (c.length : Int) by omega), iadd_i64 (by omega)]
    rfl
theorem octets_cuts (b : List Int) (at_ many : Int) (len : Nat) (hb : (∀ n ∈ b, IntKind.u8.min ≤ n ∧ n ≤ IntKind.u8.max) ∧ b.length = len) (ha : IntKind.i64.min ≤ at_ ∧ at_ ≤ IntKind.i64.max) (hm : IntKind.i64.min ≤ many ∧ many ≤ IntKind.i64.max) :
    g4 ((), ((b, ()), ((at_, ()), ((many, ()), ())))) = some ((), ((true, ()), ())) := by
  have hm : -9223372036854775808 ≤ many ∧ many ≤ 9223372036854775807 := hm
  have key : ∀ (F : Nat → Option po4.den), (∀ k, F k = f4_m (f4_t k) ((), ((b, ()), ((at_, ()), ((many, ()), ()))))) → Evn F ((), ((true, ()), ())) := by
    intro F hF
    by_cases hl : (b.length : Int) > 300
    · refine Evn.const fun k => ?_
      rw [hF]
      simp only [f4_m]
      rw [oc_alive]
      simp only [Option.bind_some, Bool.not_true, cond_false]
      rw [decide_eq_true hl]
      rfl
    · have hcut := oc_cut b (by omega) at_ many hm.1 hm.2
      have hpart := oc_part b (by omega) at_ many
      have fin : ∀ (c : List Int) (e : Option Int) (n : Int), g25 ((), ((b, ()), ((at_, ()), ((many, ()), ())))) = some ((c, ()), ((), ((e, ()), ()))) →
          g26 ((), ((b, ()), ((at_, ()), ((many, ()), ())))) = some ((), ((c, ()), ((n, ()), ()))) → g27 ((), ((e, ()), ())) = some ((), ((n, ()), ())) → c.length ≤ 300 → Evn F ((), ((true, ()), ())) := by
        intro c e n h1 h2 h3 h4
        refine Evn.cast (oc_loop b c.length h4 c.length 0 c (by omega) rfl) fun k => ?_
        rw [hF]
        simp only [f4_m]
        rw [oc_alive]
        simp only [Option.bind_some, Bool.not_true, cond_false]
        rw [decide_eq_false hl]
        simp only [cond_false, List.length_nil, List.nil_append]
        rw [decide_eq_true (show (0 + b.length) * 1 ≤ 140737488355328 by omega), decide_eq_true (show 0 + b.length ≤ 9223372036854775807 by omega), h1, h2]
        simp only [Bool.and_self, cond_true, Option.bind_some]
        rw [h3, oc_bytes]
        simp only [Option.bind_some, bne_self_eq_false, cond_false, Bool.not_true]
        rfl
      by_cases c1 : at_ < 0 ∨ (b.length : Int) < at_ ∨ many < 0
      · rw [if_pos c1] at hcut hpart
        exact fin [] (some 1) 1 hcut hpart (by kernel_rfl) (by simp)
      rw [if_neg c1] at hcut hpart
      by_cases c2 : (b.length : Int) - at_ < many
      · rw [if_pos c2] at hcut hpart
        exact fin [] (some 4) 4 hcut hpart (by kernel_rfl) (by simp)
      rw [if_neg c2] at hcut hpart
      exact fin _ none 0 hcut hpart (by kernel_rfl) (by simp only [List.length_drop, List.length_take]; omega)
  exact (key _ fun k => rfl).lim
end Go.Proofs.Ytecilflgjakhcaa.Ev
