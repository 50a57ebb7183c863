/- The law NistBack, plain. -/
import Derived.Test.YtddnfappkfiidaaGreatPuNistP
namespace Go.Proofs.YtddnfappkfiidaaGreat.Ev
open Go
set_option linter.unusedVariables false
set_option linter.unusedSimpArgs false
theorem num0 (n k w : Nat) (r : List Int) (hk : k < 10 ^ w) : numX n [] w (.good (dgs k w ++ r)) = (.good r, (k : Int)) := num_forth n [] k w r hk
theorem num1 (n k w : Nat) (c : Int) (r : List Int) (hk : k < 10 ^ w) : numX n [c] w (.good (c :: (dgs k w ++ r))) = (.good r, (k : Int)) := num_forth n [c] k w r hk
theorem ex1 (n : Nat) (c : Int) (r : List Int) : exactX n [c] (.good (c :: r)) = .good r := exact_forth n [c] r
theorem nist_forth {l : NL} {y m d : Int} (h : l.err = 0) (hd : IsDate l.n y m d) : g_nist_Parse ((), ((strOf (lineL l y m d), ()), ())) = some ((), (l.t, ((none, ()), ()))) := by
  obtain ⟨h1, h2⟩ := NL.err_zero h
  obtain ⟨t1, t2, t3⟩ := fiveE_zero h1
  have hf := h2
  unfold NL.fit at hf
  have hy := year_bound hd t1
  have hk := clk_range hf.1
  have hb := by_str (lineL_by l y m d)
  have hml := mlen_range y m
  have hdd := hd
  obtain ⟨hm1, hd1, _⟩ := hdd
  have hlen : (lineL l y m d).length = 50 := by
    unfold lineL
    simp only [List.length_cons, List.length_append, dgs_len, advL_len hf.2.2.2.2, List.length_nil]
  have hsz : (strOf (lineL l y m d)).size = 50 := by rw [str_size, hlen]
  rw [nist_parse _ (by rw [hsz]; decide)]
  obtain ⟨g3, g4, g5, g6, g7, g8, g9, g10, g11, g12, g13, gb, gz⟩ : (pn (strOf (lineL l y m d))).x3.2 = ((l.n + 40587).toNat : Int) ∧ (pn (strOf (lineL l y m d))).x4.2 = ((y % 100).toNat : Int) ∧ (pn (strOf (lineL l y m d))).x5.2 = (m.toNat : Int) ∧ (pn (strOf (lineL l y m d))).x6.2 = (d.toNat : Int) ∧ (pn (strOf (lineL l y m d))).x7.2 = ((clkM l.s / 60).toNat : Int) ∧ (pn (strOf (lineL l y m d))).x8.2 = ((clkM l.s % 60).toNat : Int) ∧ (pn (strOf (lineL l y m d))).x9.2 = ((clkS l.s).toNat : Int) ∧ (pn (strOf (lineL l y m d))).x10.2 = (l.c.toNat : Int) ∧ (pn (strOf (lineL l y m d))).x11.2 = (l.p.toNat : Int) ∧ (pn (strOf (lineL l y m d))).x12.2 = (l.h.toNat : Int) ∧ (pn (strOf (lineL l y m d))).x13.2 = l.a ∧ (pn (strOf (lineL l y m d))).b = l.m ∧ (pn (strOf (lineL l y m d))).z = .good [] := by
    unfold pn
    simp only [hb, hsz]
    unfold lineL
    simp only [ex1]
    rw [num0 _ _ _ _ (by omega)]
    simp only
    rw [num1 _ _ 2 _ _ (by omega)]
    simp only
    rw [num1 _ _ 2 _ _ (by omega)]
    simp only
    rw [num1 _ _ 2 _ _ (by omega)]
    simp only
    rw [num1 _ _ 2 _ _ (by omega)]
    simp only
    rw [num1 _ _ 2 _ _ (by omega)]
    simp only
    rw [num1 _ _ 2 _ _ (by omega)]
    simp only
    rw [num1 _ _ 2 _ _ (by omega)]
    simp only
    rw [num1 _ _ 1 _ _ (by omega)]
    simp only
    rw [num1 _ _ 1 _ _ (by omega)]
    simp only
    rw [adv_forth _ l.a hf.2.2.2.2 _ (by simp only [List.length_cons, List.length_nil]; omega)]
    simp only
    have eu := exact_forth 50 utcL [if l.m then 35 else 42, 10]
    simp only [List.cons_append, List.nil_append] at eu
    have eb : oneX 35 (.good [if l.m then 35 else 42, 10]) = l.m := by cases l.m <;> simp [oneX, X.rest]
    have ez : (if l.m then exactX 50 [10] (takeX 1 (.good [if l.m then 35 else 42, 10])) else exactX 50 [10] (exactX 50 [42] (.good [if l.m then 35 else 42, 10]))) = .good [] := by cases l.m <;> simp [ex1, takeX]
    simp only [utcL, eu, eb, ez, and_self]
  rw [g3, g4, g5, g6, g7, g8, g9, g10, g11, g12, g13, gb, gz]
  simp only [X.end, if_true, Option.isNone_none]
  have k1 : (((l.n + 40587).toNat : Nat) : Int) = l.n + 40587 := by omega
  have hd' : IsDate (l.n + 40587 - 40587) y m d := by rw [show l.n + 40587 - 40587 = l.n by omega]; exact hd
  rw [show (((y % 100).toNat : Nat) : Int) = y % 100 by omega, show ((m.toNat : Nat) : Int) = m by omega, show ((d.toNat : Nat) : Int) = d by omega, show (((clkM l.s / 60).toNat : Nat) : Int) = clkM l.s / 60 by omega,
    show (((clkM l.s % 60).toNat : Nat) : Int) = clkM l.s % 60 by omega, show (((clkS l.s).toNat : Nat) : Int) = clkS l.s by omega, show ((l.c.toNat : Nat) : Int) = l.c by omega, show ((l.p.toNat : Nat) : Int) = l.p by omega, show ((l.h.toNat : Nat) : Int) = l.h by omega, k1]
  rw [nist_told _ _ _ _ _ _ _ _ _ _ _ _ (by omega) (by omega) (by omega) (by omega) hd']
  have hs := hf.1
  have hclk : (clkM l.s / 60 * 60 + clkM l.s % 60) * 60 + clkS l.s = l.s := by
    unfold clkM clkS
    by_cases c : l.s = 86400
    · rw [if_pos c, if_pos c]; omega
    · rw [if_neg c, if_neg c]; omega
  have h60 : clkS l.s = 60 → clkM l.s = 1439 := by
    unfold clkM clkS
    by_cases c : l.s = 86400
    · rw [if_pos c, if_pos c]; omega
    · rw [if_neg c, if_neg c]; omega
  have ez : tldE y m d (y % 100) m d (clkM l.s / 60) (clkM l.s % 60) (clkS l.s) l.p = 0 := by
    unfold tldE
    rw [if_neg (by simp), if_neg (by omega), if_neg]
    intro q
    have := h60 q.1
    omega
  rw [ez, if_pos rfl, hclk, show l.n + 40587 - 40587 = l.n by omega]; rfl
theorem end_none {x : X} (h : x.end = none) : x = .good [] := by
  cases x with
  | good l =>
    simp only [X.end] at h
    by_cases c : l = []
    · rw [c]
    · rw [if_neg c] at h; cases h
  | bad i c => cases h
theorem one_take {c : Int} {x : X} {r : List Int} (h : oneX c x = true) (h2 : takeX 1 x = .good r) : x = .good (c :: r) := by
  cases x with
  | bad i e => cases h2
  | good l =>
    cases l with
    | nil => simp [oneX, X.rest] at h
    | cons a l =>
      simp only [oneX, X.rest, List.head?_cons, Option.some.injEq, decide_eq_true_eq] at h
      simp only [takeX, List.drop_succ_cons, List.drop_zero, X.good.injEq] at h2
      rw [h, h2]
attribute [local irreducible] exactX numX advX figX takeX failX oneX X.wf in
theorem nist_backX (s : ByteArray) (hs : s.size ≤ 1000000) : (∃ e : Int, e ≠ 0 ∧ g_nist_Parse ((), ((s, ()), ())) = some ((), (zln, ((errOf e, ()), ())))) ∨
    (∃ (l : NL) (y m d : Int), l.err = 0 ∧ IsDate l.n y m d ∧ s = strOf (lineL l y m d) ∧ g_nist_Parse ((), ((s, ()), ())) = some ((), (l.t, ((none, ()), ())))) := by
  rw [nist_parse s hs]
  cases he : (pn s).z.end with
  | some c => exact Or.inl ⟨2, by decide, rfl⟩
  | none =>
    have hz := end_none he
    simp only [Option.isNone_none, if_true]
    have w0 := X.wf_new s
    have w2 : (exactX s.size [10] (.good (bytesOf s))).wf s := exactX_wf w0
    have w3 := numX_wf w2 [] 5
    have w4 := numX_wf w3 [32] 2
    have w5 := numX_wf w4 [45] 2
    have w6 := numX_wf w5 [45] 2
    have w7 := numX_wf w6 [32] 2
    have w8 := numX_wf w7 [58] 2
    have w9 := numX_wf w8 [58] 2
    have w10 := numX_wf w9 [32] 2
    have w11 := numX_wf w10 [32] 1
    have w12 := numX_wf w11 [32] 1
    have h14 : (pn s).x14 = .good [if (pn s).b then 35 else 42, 10] := by
      cases hb : (pn s).b
      · have h1 : exactX s.size [10] (exactX s.size [42] (pn s).x14) = .good [] := by
          have : (pn s).z = if (pn s).b then exactX s.size [10] (takeX 1 (pn s).x14) else exactX s.size [10] (exactX s.size [42] (pn s).x14) := rfl
          rw [hb] at this
          rw [← hz, this]; rfl
        have h2 := exact_back _ _ _ _ h1
        have h3 := exact_back _ _ _ _ h2
        rw [h3]; rfl
      · have h1 : exactX s.size [10] (takeX 1 (pn s).x14) = .good [] := by
          have : (pn s).z = if (pn s).b then exactX s.size [10] (takeX 1 (pn s).x14) else exactX s.size [10] (exactX s.size [42] (pn s).x14) := rfl
          rw [hb] at this
          rw [← hz, this]; rfl
        have h2 := exact_back _ _ _ _ h1
        have h3 : oneX 35 (pn s).x14 = true := hb
        rw [one_take h3 h2]; rfl
    have h13 := exact_back _ _ _ _ (show exactX s.size utcL (pn s).x13.1 = _ from h14)
    obtain ⟨v, v1, h12, v2⟩ := adv_back w12 (show (advX s.size (pn s).x12.1).1 = _ from h13)
    obtain ⟨n12, b12, h11, q12⟩ := num_back (show (numX s.size [32] 1 (pn s).x11.1).1 = _ from h12)
    obtain ⟨n11, b11, h10, q11⟩ := num_back (show (numX s.size [32] 1 (pn s).x10.1).1 = _ from h11)
    obtain ⟨n10, b10, h9, q10⟩ := num_back (show (numX s.size [32] 2 (pn s).x9.1).1 = _ from h10)
    obtain ⟨n9, b9, h8, q9⟩ := num_back (show (numX s.size [58] 2 (pn s).x8.1).1 = _ from h9)
    obtain ⟨n8, b8, h7, q8⟩ := num_back (show (numX s.size [58] 2 (pn s).x7.1).1 = _ from h8)
    obtain ⟨n7, b7, h6, q7⟩ := num_back (show (numX s.size [32] 2 (pn s).x6.1).1 = _ from h7)
    obtain ⟨n6, b6, h5, q6⟩ := num_back (show (numX s.size [45] 2 (pn s).x5.1).1 = _ from h6)
    obtain ⟨n5, b5, h4, q5⟩ := num_back (show (numX s.size [45] 2 (pn s).x4.1).1 = _ from h5)
    obtain ⟨n4, b4, h3, q4⟩ := num_back (show (numX s.size [32] 2 (pn s).x3.1).1 = _ from h4)
    obtain ⟨n3, b3, h2, q3⟩ := num_back (show (numX s.size [] 5 (exactX s.size [10] (.good (bytesOf s)))).1 = _ from h3)
    have h1 := exact_back _ _ _ _ h2
    simp only [X.good.injEq] at h1
    rw [show (pn s).x13.2 = v from v2, show (pn s).x12.2 = n12 from q12, show (pn s).x11.2 = n11 from q11, show (pn s).x10.2 = n10 from q10, show (pn s).x9.2 = n9 from q9, show (pn s).x8.2 = n8 from q8, show (pn s).x7.2 = n7 from q7,
      show (pn s).x6.2 = n6 from q6, show (pn s).x5.2 = n5 from q5, show (pn s).x4.2 = n4 from q4, show (pn s).x3.2 = n3 from q3]
    have ht : there ((n3 : Int) - 40587) := by unfold there; omega
    obtain ⟨y, m, d, hd⟩ := date_ex _ ht
    have ho := nist_told (n3 : Int) n10 n11 n12 v (pn s).b n4 n5 n6 n7 n8 n9 (by omega) (by omega) (by omega) (by omega) hd
    by_cases c : tldE y m d n4 n5 n6 n7 n8 n9 n11 = 0
    · rw [c, if_pos rfl] at ho
      have hy := year_bound hd ht
      unfold tldE at c
      have c1 : (n4 : Int) = y % 100 ∧ (n5 : Int) = m ∧ (n6 : Int) = d := by
        by_cases q : (n4 : Int) = y % 100 ∧ (n5 : Int) = m ∧ (n6 : Int) = d
        · exact q
        · rw [if_pos q] at c; cases c
      rw [if_neg (not_not_intro c1)] at c
      have c2 : ¬(23 < (n7 : Int) ∨ 59 < (n8 : Int) ∨ 60 < (n9 : Int) ∨ 2 < (n11 : Int)) := by
        intro q; rw [if_pos q] at c; cases c
      rw [if_neg c2] at c
      have c3 : ¬((n9 : Int) = 60 ∧ ¬((n7 : Int) = 23 ∧ (n8 : Int) = 59)) := by
        intro q; rw [if_pos q] at c; cases c
      have hc3 : (n9 : Int) = 60 → (n7 : Int) = 23 ∧ (n8 : Int) = 59 := fun q => Classical.byContradiction fun q2 => c3 ⟨q, q2⟩
      refine Or.inr ⟨⟨(n3 : Int) - 40587, ((n7 : Int) * 60 + n8) * 60 + n9, n10, n11, n12, v, (pn s).b⟩, y, m, d, ?_, hd, ?_, ho⟩
      · have hfe : fiveE ((n3 : Int) - 40587) = 0 := by
          unfold fiveE
          rw [if_neg (not_not_intro ht), if_neg (by omega)]
        unfold NL.err
        simp only
        rw [if_neg (not_not_intro hfe), if_pos]
        unfold NL.fit
        simp only
        omega
      · apply by_inj
        rw [h1, by_str (lineL_by _ _ _ _)]
        have hM : clkM (((n7 : Int) * 60 + n8) * 60 + n9) = n7 * 60 + n8 := by
          unfold clkM; split <;> omega
        have hS : clkS (((n7 : Int) * 60 + n8) * 60 + n9) = n9 := by
          unfold clkS; split <;> omega
        unfold lineL
        simp only [hM, hS, ← c1.1, ← c1.2.1, ← c1.2.2, Int.toNat_natCast]
        have a1 : ((n3 : Int) - 40587 + 40587).toNat = n3 := by omega
        have a2 : (((n7 : Int) * 60 + n8) / 60).toNat = n7 := by omega
        have a3 : (((n7 : Int) * 60 + n8) % 60).toNat = n8 := by omega
        simp only [a1, a2, a3]
        simp only [List.cons_append, List.nil_append, List.append_assoc]
    · rw [if_neg c] at ho
      exact Or.inl ⟨tldE y m d n4 n5 n6 n7 n8 n9 n11, c, ho⟩
end Go.Proofs.YtddnfappkfiidaaGreat.Ev
