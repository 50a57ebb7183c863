/- Labels: splitting and making undo one another. -/
import Derived.Test.YtddnfappkfiidaaGreatPuLab2
namespace Go.Proofs.YtddnfappkfiidaaGreat.Ev
open Go
set_option linter.unusedVariables false
set_option linter.unusedSimpArgs false
theorem there_date {n y m d : Int} (h : IsDate n y m d) (hy : -9999 ≤ y ∧ y ≤ 9999) : there n := by
  have a := isDate_year h
  have e1 : dnum (-9999) 1 1 = -4371587 := rfl
  have e2 : dnum 10000 1 1 = 2932897 := rfl
  unfold there
  constructor
  · by_cases c : -9999 < y
    · have := ystart_mono (y := -9999) c
      have := ylen_eq (-9999)
      have e3 : ylen (-9999) = 365 := by decide
      omega
    · obtain rfl : y = -9999 := by omega
      omega
  · by_cases c : y + 1 < 10000
    · have := ystart_mono (y := y + 1) (y' := 10000) c
      have := ylen_eq (y + 1)
      have e3 : 365 ≤ ylen (y + 1) := by unfold ylen; split <;> omega
      omega
    · obtain rfl : y = 9999 := by omega
      rw [show (9999 : Int) + 1 = 10000 from rfl] at a; omega
theorem clk_of_lab {l : Lab} (h : labErr l = 0) : clkM (labS l) = labM l % 1440 ∧ clkS (labS l) = l.s ∧ 0 ≤ labS l ∧ labS l ≤ 86400 := by
  obtain ⟨_, h1, _, h3⟩ := labErr_zero h
  have hf := fErr_zero.1 h1
  unfold labS
  by_cases c : l.s = 60
  · have := h3 c
    rw [c, this]; exact ⟨rfl, rfl, by omega, by omega⟩
  · unfold clkM clkS
    rw [if_neg (by omega), if_neg (by omega)]; omega
theorem of_split (l : Lab) (h : labErr l = 0) : ofErr (labN l) (labS l) l.n l.o = 0 ∧ g_label_Of ((), ((labN l, ()), ((labS l, ()), ((l.n, ()), ((l.o, ()), ()))))) = some ((), (l.t, ((none, ()), ()))) := by
  obtain ⟨h0, h1, h2, h3⟩ := labErr_zero h
  obtain ⟨k1, k2, k3⟩ := clk_of_lab h
  have hf := fErr_zero.1 h1
  obtain ⟨d1, d2, d3⟩ := dErr_zero.1 h0
  have e : labN l + (clkM (labS l) + l.o) / 1440 = dnum l.y l.m l.d := by rw [k1]; unfold labN labM; omega
  have hd : IsDate (labN l + (clkM (labS l) + l.o) / 1440) l.y l.m l.d := ⟨d2, d3, e.symm⟩
  have ho : ofErr (labN l) (labS l) l.n l.o = 0 := ofErr_zero.2 ⟨h2, k3, by omega, by omega, there_date hd d1⟩
  refine ⟨ho, ?_⟩
  rw [label_of_ok ho hd]
  have e1 : (clkM (labS l) + l.o) % 1440 = l.h * 60 + l.i := by rw [k1]; unfold labM; omega
  have e2 : ofLab l.y l.m l.d (labS l) l.n l.o = l := by
    unfold ofLab; rw [e1, k2, show (l.h * 60 + l.i) / 60 = l.h by omega, show (l.h * 60 + l.i) % 60 = l.i by omega]
  rw [e2]
theorem split_of {n s x o y m d : Int} (h : ofErr n s x o = 0) (hd : IsDate (n + (clkM s + o) / 1440) y m d) : labErr (ofLab y m d s x o) = 0 ∧ labN (ofLab y m d s x o) = n ∧ labS (ofLab y m d s x o) = s := by
  obtain ⟨c1, c2, c3, c4, c5⟩ := ofErr_zero.1 h
  have hk := clk_range c2
  have hy := year_bound hd c5
  have e1 : labM (ofLab y m d s x o) = (clkM s + o) % 1440 - o := by unfold labM ofLab; simp only; omega
  have e2 : labN (ofLab y m d s x o) = n := by
    unfold labN; rw [e1]; show dnum y m d + _ = _
    rw [hd.2.2]; omega
  have e3 : labM (ofLab y m d s x o) % 1440 = clkM s := by rw [e1]; omega
  have e4 : labS (ofLab y m d s x o) = s := by
    unfold labS; rw [e3]; show clkM s * 60 + clkS s = s
    unfold clkM clkS; split <;> omega
  refine ⟨?_, e2, e4⟩
  have f0 : dErr (ofLab y m d s x o).y (ofLab y m d s x o).m (ofLab y m d s x o).d = 0 := dErr_zero.2 ⟨hy, hd.1, hd.2.1⟩
  have f1 : fErr (ofLab y m d s x o) = 0 := fErr_zero.2 (by unfold ofLab; simp only; omega)
  unfold labErr
  rw [if_neg (by simp [f0]), if_neg (by simp [f1]), e2, if_neg (by simp [c1]), e3, if_neg]
  rintro ⟨a, b⟩
  have a : clkS s = 60 := a
  unfold clkS at a; unfold clkM at b
  split at a
  · rename_i c; rw [if_pos c] at b; omega
  · omega
theorem cmp_same (a b : Lab) (ha : labErr a = 0) (hb : labErr b = 0) (h1 : labN a = labN b) (h2 : labS a = labS b) (h3 : a.n = b.n) : cVal a b = 0 ∧ cErr a b = 0 := by
  have hc : cErr a b = 0 := by unfold cErr; rw [if_neg (by simp [ha])]; exact hb
  refine ⟨?_, hc⟩
  unfold cVal; rw [if_neg (by simp [hc]), h1, h2, h3]
  simp [cmpI, firstOf]
end Go.Proofs.YtddnfappkfiidaaGreat.Ev
