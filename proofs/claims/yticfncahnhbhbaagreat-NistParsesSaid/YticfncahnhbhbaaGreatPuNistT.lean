/- Time lines: the form of a line, as the reference sees it. -/
import Derived.Test.YticfncahnhbhbaaGreatPuNistS
namespace Go.Proofs.YticfncahnhbhbaaGreat.Ev
open Go
set_option linter.unusedVariables false
set_option linter.unusedSimpArgs false
theorem okAt_lit {c b : Int} (h33 : c ≠ 33) (h48 : c ≠ 48) (h42 : c ≠ 42) : okAt c b ↔ b = c := by
  unfold okAt; rw [if_neg h33, if_neg h48, if_neg h42]
theorem okAt_fig {b : Int} : okAt 48 b ↔ isF b := by unfold okAt; rw [if_neg (by decide), if_pos rfl]
theorem okAt_adv {b : Int} : okAt 42 b ↔ isF b ∨ b = 32 := by unfold okAt; rw [if_neg (by decide), if_neg (by decide), if_pos rfl]
theorem okAt_mark {b : Int} : okAt 33 b ↔ b = 35 ∨ b = 42 := by unfold okAt; rw [if_pos rfl]
/-- What the reference takes out of a text. -/
structure Cuts (B : List Int) (F : FM) : Prop where
  c3 : (B.drop 1).take 5 = dgs F.k3 5
  c4 : (B.drop 7).take 2 = dgs F.k4 2
  c5 : (B.drop 10).take 2 = dgs F.k5 2
  c6 : (B.drop 13).take 2 = dgs F.k6 2
  c7 : (B.drop 16).take 2 = dgs F.k7 2
  c8 : (B.drop 19).take 2 = dgs F.k8 2
  c9 : (B.drop 22).take 2 = dgs F.k9 2
  c10 : (B.drop 25).take 2 = dgs F.k10 2
  c11 : (B.drop 28).take 1 = dgs F.k11 1
  c12 : (B.drop 30).take 1 = dgs F.k12 1
  ca : (B.take 37).drop 32 = advL F.v
  ca1 : (B.take 37).drop 36 = dgs (F.v % 10).toNat 1
  cb : B.getD 48 0 = if F.b then 35 else 42
theorem form_cuts {B : List Int} {F : FM} (h : F.ok) (hB : B = F.L) : shOk SH B ∧ Cuts B F := by
  obtain ⟨h1, h2, h3, h4, h5, h6, h7, h8, h9, h10, h11, h12⟩ := h
  obtain ⟨a0, a1, a2, a3, a4, e3, f0, f1, f2, f3, f4⟩ := ex5 F.k3
  obtain ⟨p4, q4, e4, g4, j4⟩ := ex2 F.k4
  obtain ⟨p5, q5, e5, g5, j5⟩ := ex2 F.k5
  obtain ⟨p6, q6, e6, g6, j6⟩ := ex2 F.k6
  obtain ⟨p7, q7, e7, g7, j7⟩ := ex2 F.k7
  obtain ⟨p8, q8, e8, g8, j8⟩ := ex2 F.k8
  obtain ⟨p9, q9, e9, g9, j9⟩ := ex2 F.k9
  obtain ⟨p10, q10, e10, g10, j10⟩ := ex2 F.k10
  obtain ⟨p11, e11, g11⟩ := ex1' F.k11
  obtain ⟨p12, e12, g12⟩ := ex1' F.k12
  obtain ⟨w0, w1, w2, w4, eA, u0, u1, u2, u4⟩ := exA ⟨h11, h12⟩
  have hd : dgs (F.v % 10).toNat 1 = [w4] := by
    have := eA
    unfold advL at this
    have l := congrArg (fun z => z.drop 4) this
    have h3 := padd3 (a := F.v) ⟨h11, h12⟩
    have hl : (List.replicate (3 - (padd (F.v / 10).toNat 1).length) (32 : Int) ++ padd (F.v / 10).toNat 1).length = 3 := by
      rw [List.length_append, List.length_replicate]; omega
    generalize List.replicate (3 - (padd (F.v / 10).toNat 1).length) (32 : Int) ++ padd (F.v / 10).toNat 1 = Q at hl l
    rw [show (4 : Nat) = Q.length + 1 by omega] at l
    simp only [List.drop_append, List.drop_of_length_le (show Q.length ≤ Q.length + 1 by omega), Nat.add_sub_cancel_left, List.nil_append] at l
    rw [show Q.length + 1 = 4 by omega] at l
    exact l
  have hb : B = [10, a0, a1, a2, a3, a4, 32, p4, q4, 45, p5, q5, 45, p6, q6, 32, p7, q7, 58, p8, q8, 58, p9, q9, 32, p10, q10, 32, p11, 32, p12, 32, w0, w1, w2, 46, w4, 32, 85, 84, 67, 40, 78, 73, 83, 84, 41, 32, if F.b then 35 else 42, 10] := by
    rw [hB]
    unfold FM.L
    simp only [e3, e4, e5, e6, e7, e8, e9, e10, e11, e12, eA, List.cons_append, List.nil_append]
  have hm : (if F.b then (35 : Int) else 42) = 35 ∨ (if F.b then (35 : Int) else 42) = 42 := by cases F.b <;> simp
  generalize hM : (if F.b then (35 : Int) else 42) = M at hb hm
  constructor
  · intro i hi
    rw [hb]
    match i, hi with
    | 0, _ => exact (okAt_lit (by decide) (by decide) (by decide)).2 rfl
    | 1, _ => exact okAt_fig.2 f0
    | 2, _ => exact okAt_fig.2 f1
    | 3, _ => exact okAt_fig.2 f2
    | 4, _ => exact okAt_fig.2 f3
    | 5, _ => exact okAt_fig.2 f4
    | 6, _ => exact (okAt_lit (by decide) (by decide) (by decide)).2 rfl
    | 7, _ => exact okAt_fig.2 g4
    | 8, _ => exact okAt_fig.2 j4
    | 9, _ => exact (okAt_lit (by decide) (by decide) (by decide)).2 rfl
    | 10, _ => exact okAt_fig.2 g5
    | 11, _ => exact okAt_fig.2 j5
    | 12, _ => exact (okAt_lit (by decide) (by decide) (by decide)).2 rfl
    | 13, _ => exact okAt_fig.2 g6
    | 14, _ => exact okAt_fig.2 j6
    | 15, _ => exact (okAt_lit (by decide) (by decide) (by decide)).2 rfl
    | 16, _ => exact okAt_fig.2 g7
    | 17, _ => exact okAt_fig.2 j7
    | 18, _ => exact (okAt_lit (by decide) (by decide) (by decide)).2 rfl
    | 19, _ => exact okAt_fig.2 g8
    | 20, _ => exact okAt_fig.2 j8
    | 21, _ => exact (okAt_lit (by decide) (by decide) (by decide)).2 rfl
    | 22, _ => exact okAt_fig.2 g9
    | 23, _ => exact okAt_fig.2 j9
    | 24, _ => exact (okAt_lit (by decide) (by decide) (by decide)).2 rfl
    | 25, _ => exact okAt_fig.2 g10
    | 26, _ => exact okAt_fig.2 j10
    | 27, _ => exact (okAt_lit (by decide) (by decide) (by decide)).2 rfl
    | 28, _ => exact okAt_fig.2 g11
    | 29, _ => exact (okAt_lit (by decide) (by decide) (by decide)).2 rfl
    | 30, _ => exact okAt_fig.2 g12
    | 31, _ => exact (okAt_lit (by decide) (by decide) (by decide)).2 rfl
    | 32, _ => exact okAt_adv.2 u0
    | 33, _ => exact okAt_adv.2 u1
    | 34, _ => exact okAt_adv.2 u2
    | 35, _ => exact (okAt_lit (by decide) (by decide) (by decide)).2 rfl
    | 36, _ => exact okAt_fig.2 u4
    | 37, _ => exact (okAt_lit (by decide) (by decide) (by decide)).2 rfl
    | 38, _ => exact (okAt_lit (by decide) (by decide) (by decide)).2 rfl
    | 39, _ => exact (okAt_lit (by decide) (by decide) (by decide)).2 rfl
    | 40, _ => exact (okAt_lit (by decide) (by decide) (by decide)).2 rfl
    | 41, _ => exact (okAt_lit (by decide) (by decide) (by decide)).2 rfl
    | 42, _ => exact (okAt_lit (by decide) (by decide) (by decide)).2 rfl
    | 43, _ => exact (okAt_lit (by decide) (by decide) (by decide)).2 rfl
    | 44, _ => exact (okAt_lit (by decide) (by decide) (by decide)).2 rfl
    | 45, _ => exact (okAt_lit (by decide) (by decide) (by decide)).2 rfl
    | 46, _ => exact (okAt_lit (by decide) (by decide) (by decide)).2 rfl
    | 47, _ => exact (okAt_lit (by decide) (by decide) (by decide)).2 rfl
    | 48, _ => exact okAt_mark.2 hm
    | 49, _ => exact (okAt_lit (by decide) (by decide) (by decide)).2 rfl
    | (n + 50), hi => omega
  · rw [hb]
    refine ⟨e3.symm, e4.symm, e5.symm, e6.symm, e7.symm, e8.symm, e9.symm, e10.symm, e11.symm, e12.symm, eA.symm, hd.symm, hM.symm⟩
theorem cuts_form {B : List Int} (hl : B.length = 50) (h : shOk SH B) {v : Int} (hv : 0 ≤ v ∧ v ≤ 9999) (hA : advL v = (B.take 37).drop 32) : ∃ F : FM, F.ok ∧ F.v = v ∧ B = F.L := by
  obtain ⟨b, hb, hB⟩ := list50 hl
  have H : ∀ i, i < 50 → okAt (SH.getD i 0) (b i) := fun i hi => by rw [hb]; exact h i hi
  have k0 : b 0 = 10 := (okAt_lit (by decide) (by decide) (by decide)).1 (H 0 (by decide))
  have k1 : isF (b 1) := okAt_fig.1 (H 1 (by decide))
  have k2 : isF (b 2) := okAt_fig.1 (H 2 (by decide))
  have k3 : isF (b 3) := okAt_fig.1 (H 3 (by decide))
  have k4 : isF (b 4) := okAt_fig.1 (H 4 (by decide))
  have k5 : isF (b 5) := okAt_fig.1 (H 5 (by decide))
  have k6 : b 6 = 32 := (okAt_lit (by decide) (by decide) (by decide)).1 (H 6 (by decide))
  have k7 : isF (b 7) := okAt_fig.1 (H 7 (by decide))
  have k8 : isF (b 8) := okAt_fig.1 (H 8 (by decide))
  have k9 : b 9 = 45 := (okAt_lit (by decide) (by decide) (by decide)).1 (H 9 (by decide))
  have k10 : isF (b 10) := okAt_fig.1 (H 10 (by decide))
  have k11 : isF (b 11) := okAt_fig.1 (H 11 (by decide))
  have k12 : b 12 = 45 := (okAt_lit (by decide) (by decide) (by decide)).1 (H 12 (by decide))
  have k13 : isF (b 13) := okAt_fig.1 (H 13 (by decide))
  have k14 : isF (b 14) := okAt_fig.1 (H 14 (by decide))
  have k15 : b 15 = 32 := (okAt_lit (by decide) (by decide) (by decide)).1 (H 15 (by decide))
  have k16 : isF (b 16) := okAt_fig.1 (H 16 (by decide))
  have k17 : isF (b 17) := okAt_fig.1 (H 17 (by decide))
  have k18 : b 18 = 58 := (okAt_lit (by decide) (by decide) (by decide)).1 (H 18 (by decide))
  have k19 : isF (b 19) := okAt_fig.1 (H 19 (by decide))
  have k20 : isF (b 20) := okAt_fig.1 (H 20 (by decide))
  have k21 : b 21 = 58 := (okAt_lit (by decide) (by decide) (by decide)).1 (H 21 (by decide))
  have k22 : isF (b 22) := okAt_fig.1 (H 22 (by decide))
  have k23 : isF (b 23) := okAt_fig.1 (H 23 (by decide))
  have k24 : b 24 = 32 := (okAt_lit (by decide) (by decide) (by decide)).1 (H 24 (by decide))
  have k25 : isF (b 25) := okAt_fig.1 (H 25 (by decide))
  have k26 : isF (b 26) := okAt_fig.1 (H 26 (by decide))
  have k27 : b 27 = 32 := (okAt_lit (by decide) (by decide) (by decide)).1 (H 27 (by decide))
  have k28 : isF (b 28) := okAt_fig.1 (H 28 (by decide))
  have k29 : b 29 = 32 := (okAt_lit (by decide) (by decide) (by decide)).1 (H 29 (by decide))
  have k30 : isF (b 30) := okAt_fig.1 (H 30 (by decide))
  have k31 : b 31 = 32 := (okAt_lit (by decide) (by decide) (by decide)).1 (H 31 (by decide))
  have k35 : b 35 = 46 := (okAt_lit (by decide) (by decide) (by decide)).1 (H 35 (by decide))
  have k36 : isF (b 36) := okAt_fig.1 (H 36 (by decide))
  have k37 : b 37 = 32 := (okAt_lit (by decide) (by decide) (by decide)).1 (H 37 (by decide))
  have k38 : b 38 = 85 := (okAt_lit (by decide) (by decide) (by decide)).1 (H 38 (by decide))
  have k39 : b 39 = 84 := (okAt_lit (by decide) (by decide) (by decide)).1 (H 39 (by decide))
  have k40 : b 40 = 67 := (okAt_lit (by decide) (by decide) (by decide)).1 (H 40 (by decide))
  have k41 : b 41 = 40 := (okAt_lit (by decide) (by decide) (by decide)).1 (H 41 (by decide))
  have k42 : b 42 = 78 := (okAt_lit (by decide) (by decide) (by decide)).1 (H 42 (by decide))
  have k43 : b 43 = 73 := (okAt_lit (by decide) (by decide) (by decide)).1 (H 43 (by decide))
  have k44 : b 44 = 83 := (okAt_lit (by decide) (by decide) (by decide)).1 (H 44 (by decide))
  have k45 : b 45 = 84 := (okAt_lit (by decide) (by decide) (by decide)).1 (H 45 (by decide))
  have k46 : b 46 = 41 := (okAt_lit (by decide) (by decide) (by decide)).1 (H 46 (by decide))
  have k47 : b 47 = 32 := (okAt_lit (by decide) (by decide) (by decide)).1 (H 47 (by decide))
  have k48 : b 48 = 35 ∨ b 48 = 42 := okAt_mark.1 (H 48 (by decide))
  have k49 : b 49 = 10 := (okAt_lit (by decide) (by decide) (by decide)).1 (H 49 (by decide))
  have D : ∀ (l : List Int) (w : Nat), l.length = w → (∀ x ∈ l, isF x) → (val10 l).toNat < 10 ^ w ∧ dgs (val10 l).toNat w = l := by
    intro l w hw hf
    have h2 := val10_range _ l hw hf
    refine ⟨?_, dg_val w l hw hf⟩
    have e : val10 l = (((val10 l).toNat : Nat) : Int) := by omega
    have h3 := h2.2
    rw [e] at h3; exact_mod_cast h3
  have d3 := D [b 1, b 2, b 3, b 4, b 5] 5 rfl (by simp only [List.forall_mem_cons]; exact ⟨k1, k2, k3, k4, k5, fun x hx => by cases hx⟩)
  have d4 := D [b 7, b 8] 2 rfl (by simp only [List.forall_mem_cons]; exact ⟨k7, k8, fun x hx => by cases hx⟩)
  have d5 := D [b 10, b 11] 2 rfl (by simp only [List.forall_mem_cons]; exact ⟨k10, k11, fun x hx => by cases hx⟩)
  have d6 := D [b 13, b 14] 2 rfl (by simp only [List.forall_mem_cons]; exact ⟨k13, k14, fun x hx => by cases hx⟩)
  have d7 := D [b 16, b 17] 2 rfl (by simp only [List.forall_mem_cons]; exact ⟨k16, k17, fun x hx => by cases hx⟩)
  have d8 := D [b 19, b 20] 2 rfl (by simp only [List.forall_mem_cons]; exact ⟨k19, k20, fun x hx => by cases hx⟩)
  have d9 := D [b 22, b 23] 2 rfl (by simp only [List.forall_mem_cons]; exact ⟨k22, k23, fun x hx => by cases hx⟩)
  have d10 := D [b 25, b 26] 2 rfl (by simp only [List.forall_mem_cons]; exact ⟨k25, k26, fun x hx => by cases hx⟩)
  have d11 := D [b 28] 1 rfl (by simp only [List.forall_mem_cons]; exact ⟨k28, fun x hx => by cases hx⟩)
  have d12 := D [b 30] 1 rfl (by simp only [List.forall_mem_cons]; exact ⟨k30, fun x hx => by cases hx⟩)
  refine ⟨⟨(val10 [b 1, b 2, b 3, b 4, b 5]).toNat, (val10 [b 7, b 8]).toNat, (val10 [b 10, b 11]).toNat, (val10 [b 13, b 14]).toNat, (val10 [b 16, b 17]).toNat, (val10 [b 19, b 20]).toNat, (val10 [b 22, b 23]).toNat, (val10 [b 25, b 26]).toNat, (val10 [b 28]).toNat, (val10 [b 30]).toNat, v, decide (b 48 = 35)⟩, ⟨d3.1, d4.1, d5.1, d6.1, d7.1, d8.1, d9.1, d10.1, d11.1, d12.1, hv.1, hv.2⟩, rfl, ?_⟩
  unfold FM.L
  simp only [d3.2, d4.2, d5.2, d6.2, d7.2, d8.2, d9.2, d10.2, d11.2, d12.2, hA]
  have hM : (if decide (b 48 = 35) = true then (35 : Int) else 42) = b 48 := by
    rcases k48 with q | q
    · rw [q]; rfl
    · rw [q]; rfl
  rw [hM, hB]
  simp only [List.take_succ_cons, List.take_zero, List.drop_succ_cons, List.drop_zero, List.cons_append, List.nil_append]
  simp only [k0, k6, k9, k12, k15, k18, k21, k24, k27, k29, k31, k37, k38, k39, k40, k41, k42, k43, k44, k45, k46, k47, k49, k35]
end Go.Proofs.YticfncahnhbhbaaGreat.Ev
