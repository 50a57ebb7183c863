/- Labels: the reference's comparing, and shifting. -/
import Derived.Test.YtddnfappkfiidaaGreatPuLab3
namespace Go.Proofs.YtddnfappkfiidaaGreat.Ev
open Go
set_option linter.unusedVariables false
set_option linter.unusedSimpArgs false
theorem label_Clk (s : Int) : g_label_Clock ((), ((s, ()), ())) = some ((), ((if 0 ≤ s ∧ s ≤ 86400 then clkM s / 60 else 0, ()), ((if 0 ≤ s ∧ s ≤ 86400 then clkM s % 60 else 0, ()), ((if 0 ≤ s ∧ s ≤ 86400 then clkS s else 0, ()), ((if 0 ≤ s ∧ s ≤ 86400 then none else some 1, ()), ()))))) := by
  simp only [g_label_Clock, f_label_Clock_m, label_in, fitsS_dec, Option.bind_some, Option.isNone_none, Option.isNone_some, Option.isSome_none, Option.isSome_some, Bool.not_true, Bool.not_false, cond_true, cond_false, cond_dec, beq_int, bne_int, not_dec]
  by_cases h : 0 ≤ s ∧ s ≤ 86400
  · have hk := clk_range h
    rw [if_neg (show ¬¬(0 ≤ s ∧ s < 86401) by omega), label_clk s h]
    simp only [h, and_self, if_true, Option.bind_some]
    rw [iquo_nn (by decide) (by omega), tmod_nn (by omega)]
  · rw [if_pos (show ¬(0 ≤ s ∧ s < 86401) by omega), if_neg h, if_neg h, if_neg h, if_neg h]
end Go.Proofs.YtddnfappkfiidaaGreat.Ev
