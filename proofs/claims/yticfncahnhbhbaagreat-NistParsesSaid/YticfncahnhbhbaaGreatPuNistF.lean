/- Time lines: the form of a line, by the program's reader and by the reference's. -/
import Derived.Test.YticfncahnhbhbaaGreatPuNistP
namespace Go.Proofs.YticfncahnhbhbaaGreat.Ev
open Go
set_option linter.unusedVariables false
set_option linter.unusedSimpArgs false
theorem nf0 (n k w : Nat) (r : List Int) (hk : k < 10 ^ w) : numX n [] w (.good (dgs k w ++ r)) = (.good r, (k : Int)) := num_forth n [] k w r hk
theorem nf1 (n k w : Nat) (c : Int) (r : List Int) (hk : k < 10 ^ w) : numX n [c] w (.good (c :: (dgs k w ++ r))) = (.good r, (k : Int)) := num_forth n [c] k w r hk
theorem nx1 (n : Nat) (c : Int) (r : List Int) : exactX n [c] (.good (c :: r)) = .good r := exact_forth n [c] r
/-- The numbers of a line as they stand there. -/
structure FM where (k3 k4 k5 k6 k7 k8 k9 k10 k11 k12 : Nat) (v : Int) (b : Bool)
def FM.ok (F : FM) : Prop := F.k3 < 10 ^ 5 ∧ F.k4 < 10 ^ 2 ∧ F.k5 < 10 ^ 2 ∧ F.k6 < 10 ^ 2 ∧ F.k7 < 10 ^ 2 ∧ F.k8 < 10 ^ 2 ∧ F.k9 < 10 ^ 2 ∧ F.k10 < 10 ^ 2 ∧ F.k11 < 10 ^ 1 ∧ F.k12 < 10 ^ 1 ∧ 0 ≤ F.v ∧ F.v ≤ 9999
def FM.L (F : FM) : List Int :=
  10 :: (dgs F.k3 5 ++ (32 :: (dgs F.k4 2 ++ (45 :: (dgs F.k5 2 ++ (45 :: (dgs F.k6 2 ++ (32 :: (dgs F.k7 2 ++ (58 :: (dgs F.k8 2 ++ (58 :: (dgs F.k9 2 ++ (32 :: (dgs F.k10 2 ++ (32 :: (dgs F.k11 1 ++ (32 :: (dgs F.k12 1 ++
    (32 :: (advL F.v ++ [32, 85, 84, 67, 40, 78, 73, 83, 84, 41, 32, if F.b then 35 else 42, 10])))))))))))))))))))))
theorem FM.len {F : FM} (h : F.ok) : F.L.length = 50 := by
  obtain ⟨h1, h2, h3, h4, h5, h6, h7, h8, h9, h10, h11, h12⟩ := h
  unfold FM.L
  simp only [List.length_cons, List.length_append, dgs_len, advL_len ⟨h11, h12⟩, List.length_nil]
theorem form_forth (s : ByteArray) (F : FM) (h : F.ok) (hs : bytesOf s = F.L) :
    (pn s).x3.2 = F.k3 ∧ (pn s).x4.2 = F.k4 ∧ (pn s).x5.2 = F.k5 ∧ (pn s).x6.2 = F.k6 ∧ (pn s).x7.2 = F.k7 ∧ (pn s).x8.2 = F.k8 ∧ (pn s).x9.2 = F.k9 ∧ (pn s).x10.2 = F.k10 ∧ (pn s).x11.2 = F.k11 ∧ (pn s).x12.2 = F.k12 ∧ (pn s).x13.2 = F.v ∧ (pn s).b = F.b ∧ (pn s).z = .good [] := by
  have hsz : s.size = 50 := by rw [← by_len, hs, FM.len h]
  obtain ⟨h1, h2, h3, h4, h5, h6, h7, h8, h9, h10, h11, h12⟩ := h
  unfold pn
  simp only [hs, hsz]
  unfold FM.L
  simp only [nx1]
  rw [nf0 _ _ _ _ h1]
  simp only
  rw [nf1 _ _ 2 _ _ h2]
  simp only
  rw [nf1 _ _ 2 _ _ h3]
  simp only
  rw [nf1 _ _ 2 _ _ h4]
  simp only
  rw [nf1 _ _ 2 _ _ h5]
  simp only
  rw [nf1 _ _ 2 _ _ h6]
  simp only
  rw [nf1 _ _ 2 _ _ h7]
  simp only
  rw [nf1 _ _ 2 _ _ h8]
  simp only
  rw [nf1 _ _ 1 _ _ h9]
  simp only
  rw [nf1 _ _ 1 _ _ h10]
  simp only
  rw [adv_forth _ F.v ⟨h11, h12⟩ _ (by simp only [List.length_cons, List.length_nil]; omega)]
  simp only
  have eu := exact_forth 50 utcL [if F.b then 35 else 42, 10]
  simp only [List.cons_append, List.nil_append] at eu
  have eb : oneX 35 (.good [if F.b then 35 else 42, 10]) = F.b := by cases F.b <;> simp [oneX, X.rest]
  have ez : (if F.b then exactX 50 [10] (takeX 1 (.good [if F.b then 35 else 42, 10])) else exactX 50 [10] (exactX 50 [42] (.good [if F.b then 35 else 42, 10]))) = .good [] := by cases F.b <;> simp [nx1, takeX]
  simp only [utcL, eu, eb, ez, and_self]
theorem nf_end {x : X} (h : x.end = none) : x = .good [] := by
  cases x with
  | good l =>
    simp only [X.end] at h
    by_cases c : l = []
    · rw [c]
    · rw [if_neg c] at h; cases h
  | bad i c => cases h
theorem nf_take {c : Int} {x : X} {r : List Int} (h : oneX c x = true) (h2 : takeX 1 x = .good r) : x = .good (c :: r) := by
  cases x with
  | bad i e => cases h2
  | good l =>
    cases l with
    | nil => simp [oneX, X.rest] at h
    | cons a l =>
      simp only [oneX, X.rest, List.head?_cons, Option.some.injEq, decide_eq_true_eq] at h
      simp only [takeX, List.drop_succ_cons, List.drop_zero, X.good.injEq] at h2
      rw [h, h2]
attribute [local irreducible] exactX numX advX figX takeX failX oneX X.wf in
theorem form_back (s : ByteArray) (he : (pn s).z.end = none) : ∃ F : FM, F.ok ∧ bytesOf s = F.L := by
  have hz := nf_end he
  have w0 := X.wf_new s
  have w2 : (exactX s.size [10] (.good (bytesOf s))).wf s := exactX_wf w0
  have w3 := numX_wf w2 [] 5
  have w4 := numX_wf w3 [32] 2
  have w5 := numX_wf w4 [45] 2
  have w6 := numX_wf w5 [45] 2
  have w7 := numX_wf w6 [32] 2
  have w8 := numX_wf w7 [58] 2
  have w9 := numX_wf w8 [58] 2
  have w10 := numX_wf w9 [32] 2
  have w11 := numX_wf w10 [32] 1
  have w12 := numX_wf w11 [32] 1
  have h14 : (pn s).x14 = .good [if (pn s).b then 35 else 42, 10] := by
    cases hb : (pn s).b
    · have h1 : exactX s.size [10] (exactX s.size [42] (pn s).x14) = .good [] := by
        have : (pn s).z = if (pn s).b then exactX s.size [10] (takeX 1 (pn s).x14) else exactX s.size [10] (exactX s.size [42] (pn s).x14) := rfl
        rw [hb] at this
        rw [← hz, this]; rfl
      have h2 := exact_back _ _ _ _ h1
      have h3 := exact_back _ _ _ _ h2
      rw [h3]; rfl
    · have h1 : exactX s.size [10] (takeX 1 (pn s).x14) = .good [] := by
        have : (pn s).z = if (pn s).b then exactX s.size [10] (takeX 1 (pn s).x14) else exactX s.size [10] (exactX s.size [42] (pn s).x14) := rfl
        rw [hb] at this
        rw [← hz, this]; rfl
      have h2 := exact_back _ _ _ _ h1
      have h3 : oneX 35 (pn s).x14 = true := hb
      rw [nf_take h3 h2]; rfl
  have h13 := exact_back _ _ _ _ (show exactX s.size utcL (pn s).x13.1 = _ from h14)
  obtain ⟨v, v1, h12, v2⟩ := adv_back w12 (show (advX s.size (pn s).x12.1).1 = _ from h13)
  obtain ⟨n12, b12, h11, q12⟩ := num_back (show (numX s.size [32] 1 (pn s).x11.1).1 = _ from h12)
  obtain ⟨n11, b11, h10, q11⟩ := num_back (show (numX s.size [32] 1 (pn s).x10.1).1 = _ from h11)
  obtain ⟨n10, b10, h9, q10⟩ := num_back (show (numX s.size [32] 2 (pn s).x9.1).1 = _ from h10)
  obtain ⟨n9, b9, h8, q9⟩ := num_back (show (numX s.size [58] 2 (pn s).x8.1).1 = _ from h9)
  obtain ⟨n8, b8, h7, q8⟩ := num_back (show (numX s.size [58] 2 (pn s).x7.1).1 = _ from h8)
  obtain ⟨n7, b7, h6, q7⟩ := num_back (show (numX s.size [32] 2 (pn s).x6.1).1 = _ from h7)
  obtain ⟨n6, b6, h5, q6⟩ := num_back (show (numX s.size [45] 2 (pn s).x5.1).1 = _ from h6)
  obtain ⟨n5, b5, h4, q5⟩ := num_back (show (numX s.size [45] 2 (pn s).x4.1).1 = _ from h5)
  obtain ⟨n4, b4, h3, q4⟩ := num_back (show (numX s.size [32] 2 (pn s).x3.1).1 = _ from h4)
  obtain ⟨n3, b3, h2, q3⟩ := num_back (show (numX s.size [] 5 (exactX s.size [10] (.good (bytesOf s)))).1 = _ from h3)
  have h1 := exact_back _ _ _ _ h2
  simp only [X.good.injEq] at h1
  refine ⟨⟨n3, n4, n5, n6, n7, n8, n9, n10, n11, n12, v, (pn s).b⟩, ⟨b3, b4, b5, b6, b7, b8, b9, b10, b11, b12, v1.1, v1.2⟩, ?_⟩
  rw [h1]
  unfold FM.L
  simp only [List.cons_append, List.nil_append, List.append_assoc]
/-- What a line of that form is read to. -/
def FM.rd (F : FM) : Option (Unit × ((Int × (Int × (Int × (Int × (Int × (Int × (Bool × Unit))))))) × ((Option Int × Unit) × Unit))) :=
  g_nist_Line_told ((), ((0, (0, (F.k10, (F.k11, (F.k12, (F.v, (F.b, ()))))))), (((F.k3 : Int), ()), ((F.k4, (F.k5, (F.k6, ()))), ((F.k7, (F.k8, (F.k9, ()))), ())))))
theorem nist_read_ok (s : ByteArray) (F : FM) (h : F.ok) (hs : bytesOf s = F.L) : g_nist_Parse ((), ((s, ()), ())) = F.rd := by
  have hsz : s.size = 50 := by rw [← by_len, hs, FM.len h]
  obtain ⟨g3, g4, g5, g6, g7, g8, g9, g10, g11, g12, g13, gb, gz⟩ := form_forth s F h hs
  rw [nist_parse s (by omega), g3, g4, g5, g6, g7, g8, g9, g10, g11, g12, g13, gb, gz]; rfl
theorem nist_read_bad (s : ByteArray) (hs : s.size ≤ 1000000) (h : ¬ ∃ F : FM, F.ok ∧ bytesOf s = F.L) : g_nist_Parse ((), ((s, ()), ())) = some ((), (zln, ((some 2, ()), ()))) := by
  rw [nist_parse s hs]
  cases he : (pn s).z.end with
  | some c => rfl
  | none => exact absurd (form_back s he) h
end Go.Proofs.YticfncahnhbhbaaGreat.Ev
