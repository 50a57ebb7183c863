/- A label's text, read back. -/
import Derived.Test.YtddnfappkfiidaaGreatPuIsoH
import Derived.Test.YtddnfappkfiidaaGreatPuIsoW
namespace Go.Proofs.YtddnfappkfiidaaGreat.Ev
open Go
set_option linter.unusedVariables false
set_option linter.unusedSimpArgs false
theorem dgs_two (n w : Nat) : (∀ y ∈ dgs n w, isF y) ∧ (dgs n w).length = w := ⟨dgs_ok w n, dgs_len w n⟩
theorem offL_isZ {o : Int} (h : -1439 ≤ o ∧ o ≤ 1439) : isZ (offL o) o true := by
  unfold offL
  by_cases c : o = 0
  · rw [if_pos c]; exact Or.inl ⟨Or.inl rfl, c, rfl⟩
  · rw [if_neg c]
    have e1 := val10_dg 2 (o.natAbs / 60) (by omega)
    have e2 := val10_dg 2 (o.natAbs % 60) (by omega)
    refine Or.inr ⟨_, _, _, rfl, ?_, dgs_two _ _, dgs_two _ _, ?_, ?_⟩
    · split
      · exact Or.inr rfl
      · exact Or.inl rfl
    · rw [e1, e2]
      by_cases n : o < 0
      · rw [if_pos n, if_pos rfl]; omega
      · rw [if_neg n, if_neg (by decide)]; omega
    · rw [e1, e2]
      symm
      exact decide_eq_true (by omega)
theorem offL_head (o : Int) : lead (offL o) = 0 ∧ ∀ r, offL o ≠ 46 :: r := by
  unfold offL
  by_cases c : o = 0
  · rw [if_pos c]
    exact ⟨by simp [lead, isF], fun r q => by cases q⟩
  · rw [if_neg c]
    by_cases n : o < 0
    · rw [if_pos n]; exact ⟨by simp [lead, isF], fun r q => by cases q⟩
    · rw [if_neg n]; exact ⟨by simp [lead, isF], fun r q => by cases q⟩
theorem pntL_isP {f : List Int} (hf : ∀ x ∈ f, isF x) (o : Int) : isP (pntL f ++ offL o) f (offL o) := by
  unfold pntL
  by_cases c : f = []
  · rw [if_pos c]
    exact Or.inl ⟨c, rfl, (offL_head o).2⟩
  · rw [if_neg c]
    exact Or.inr ⟨c, hf, rfl, (offL_head o).1⟩
theorem offL_by (o : Int) : okBy (offL o) := by
  unfold offL
  split
  · intro x hx; simp only [List.mem_cons, List.not_mem_nil, or_false] at hx; omega
  · exact okBy_cons (by split <;> omega) (okBy_app (dgs_by _ _) (okBy_cons (by omega) (dgs_by _ _)))
theorem pntL_by {f : List Int} (hf : ∀ x ∈ f, isF x) : okBy (pntL f) := by
  unfold pntL
  split
  · intro x hx; cases hx
  · exact okBy_cons (by omega) (figs_okBy hf)
theorem isoL_by (l : Lab) {f : List Int} (hf : ∀ x ∈ f, isF x) : okBy (isoL l f) :=
  okBy_app (dayL_by _ _ _) (okBy_cons (by omega) (okBy_app (dgs_by _ _) (okBy_cons (by omega) (okBy_app (dgs_by _ _) (okBy_cons (by omega) (okBy_app (dgs_by _ _) (okBy_app (pntL_by hf) (offL_by _))))))))
theorem isoL_len (l : Lab) {f : List Int} (h : f.length ≤ 9) : (isoL l f).length ≤ 100 := by
  unfold isoL pntL offL
  split <;> split <;> simp only [List.length_append, List.length_cons, List.length_nil, dayL_len, dgs_len] <;> omega
theorem lab_facts {l : Lab} (h : labErr l = 0) : (1 ≤ l.m ∧ l.m ≤ 12) ∧ (1 ≤ l.d ∧ l.d ≤ 31) ∧ (0 ≤ l.h ∧ l.h ≤ 23) ∧ (0 ≤ l.i ∧ l.i ≤ 59) ∧ (0 ≤ l.s ∧ l.s ≤ 60) ∧ (0 ≤ l.n ∧ l.n ≤ 999999999) ∧ (-1439 ≤ l.o ∧ l.o ≤ 1439) ∧ l.y ≤ 9999 := by
  obtain ⟨a, b, _, _⟩ := labErr_zero h
  have a := dErr_zero.1 a
  have hm : mlen l.y l.m ≤ 31 := by unfold mlen; repeat' split
                                    all_goals omega
  unfold fErr at b
  by_cases c : (0 ≤ l.h ∧ l.h ≤ 23) ∧ (0 ≤ l.i ∧ l.i ≤ 59) ∧ (0 ≤ l.s ∧ l.s ≤ 60) ∧ (0 ≤ l.n ∧ l.n ≤ 999999999) ∧ (-1439 ≤ l.o ∧ l.o ≤ 1439)
  · omega
  · rw [if_neg c] at b; cases b
theorem iso_round {l : Lab} {f : List Int} (h1 : labErr l = 0) (h2 : 0 ≤ l.y) (hf : ∀ x ∈ f, isF x) (hl : f.length ≤ 9) (hn : (if f = [] then 0 else val10 f * 10 ^ (9 - f.length)) = l.n) :
    g_iso_Parse ((), ((strOf (isoL l f), ()), ())) = some ((), (l.t, ((none, ()), ()))) := by
  obtain ⟨a1, a2, a3, a4, a5, a6, a7, a8⟩ := lab_facts h1
  have hp := iso_parse (strOf (isoL l f)) (by rw [str_size]; have := isoL_len l hl; omega)
  rw [by_str (isoL_by l hf), str_size] at hp
  have hL : isoL l f = IF.L ⟨dgs l.y.toNat 4, dgs l.m.toNat 2, dgs l.d.toNat 2, dgs l.h.toNat 2, dgs l.i.toNat 2, dgs l.s.toNat 2, f, offL l.o, 84, l.o, true, pntL f ++ offL l.o⟩ := by
    unfold isoL IF.L dayL
    simp only [List.append_assoc, List.cons_append]
  have hX := iso_forth (isoL l f).length ⟨dgs l.y.toNat 4, dgs l.m.toNat 2, dgs l.d.toNat 2, dgs l.h.toNat 2, dgs l.i.toNat 2, dgs l.s.toNat 2, f, offL l.o, 84, l.o, true, pntL f ++ offL l.o⟩
    ⟨dgs_two _ _, dgs_two _ _, dgs_two _ _, dgs_two _ _, dgs_two _ _, dgs_two _ _, Or.inl rfl⟩ (pntL_isP hf l.o) (offL_isZ a7)
  rw [← hL] at hX
  simp only at hX
  rw [val10_dg 4 l.y.toNat (by omega), val10_dg 2 l.m.toNat (by omega), val10_dg 2 l.d.toNat (by omega), val10_dg 2 l.h.toNat (by omega), val10_dg 2 l.i.toNat (by omega), val10_dg 2 l.s.toNat (by omega),
    Int.toNat_of_nonneg h2, Int.toNat_of_nonneg (by omega : 0 ≤ l.m), Int.toNat_of_nonneg (by omega : 0 ≤ l.d), Int.toNat_of_nonneg a3.1, Int.toNat_of_nonneg a4.1, Int.toNat_of_nonneg a5.1] at hX
  have hlab : IP.lab ⟨l.y, l.m, l.d, l.h, l.i, l.s, f, l.o, true, .good []⟩ = l := by
    unfold IP.lab IP.nano
    simp only [hn]
  have herr : IP.err ⟨l.y, l.m, l.d, l.h, l.i, l.s, f, l.o, true, .good []⟩ = 0 := by
    unfold IP.err
    rw [hlab]
    simp only [X.end]
    rw [if_neg (by simp), if_neg (by omega), if_neg (by simp)]
    exact h1
  rw [hX, herr, if_pos rfl, hlab, errOf_zero] at hp
  exact hp
theorem nine_f {n : Int} (c : inNano n) (k : Nat) (hk : k ≤ 9) (hv : val10 ((nine n).take k) * 10 ^ (9 - k) = n) : (∀ x ∈ (nine n).take k, isF x) ∧ ((nine n).take k).length ≤ 9 ∧ (if (nine n).take k = [] then 0 else val10 ((nine n).take k) * 10 ^ (9 - ((nine n).take k).length)) = n := by
  have hl : ((nine n).take k).length = k := by rw [List.length_take, nine_len c]; omega
  refine ⟨fun x hx => padd_figs _ _ x (List.mem_of_mem_take hx), by omega, ?_⟩
  rw [hl, hv]
  by_cases e : (nine n).take k = []
  · rw [if_pos e]; rw [e] at hv; simpa [val10] using hv
  · rw [if_neg e]
theorem nine_val {n : Int} (c : inNano n) : val10 (nine n) = n := by unfold nine; rw [val10_padd]; unfold inNano at c; omega
theorem nine_all {n : Int} (c : inNano n) : val10 ((nine n).take 9) * 10 ^ (9 - 9) = n := by
  rw [List.take_of_length_le (by rw [nine_len c]; omega), nine_val c]; simp
theorem nine_few {n : Int} (c : inNano n) : val10 ((nine n).take (rtl (nine n) 9)) * 10 ^ (9 - rtl (nine n) 9) = n := by
  have hv := rtl_val (nine n) 9 (by rw [nine_len c]; omega)
  rwa [List.take_of_length_le (by rw [nine_len c]; omega : (nine n).length ≤ 9), nine_val c] at hv
theorem rgtE_zero {l : Lab} (h1 : labErr l = 0) (h2 : 0 ≤ l.y) : rgtE l = 0 := by unfold rgtE; rw [if_neg (not_not_intro h1), if_neg (by omega)]
end Go.Proofs.YtddnfappkfiidaaGreat.Ev
