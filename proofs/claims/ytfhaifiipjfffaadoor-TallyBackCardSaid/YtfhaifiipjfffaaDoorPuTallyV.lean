/- Twelve counts: reading a text, by the reference. -/
import Derived.Test.YtfhaifiipjfffaaDoorPuTallyQ
namespace Go.Proofs.YtfhaifiipjfffaaDoor.Ev
open Go
set_option linter.unusedVariables false
set_option linter.unusedSimpArgs false
set_option maxRecDepth 4000
/-- What stands behind a name: figures, and a row's end. -/
def rowEnd (t : List Int) : Prop := wOk (t.take (lead t)) ∧ lead t < t.length ∧ t.getD (lead t) 0 = 10
instance (t : List Int) : Decidable (rowEnd t) := by unfold rowEnd; infer_instance
def hdL (i : Nat) : List Int := nmL i ++ [32]
def parseL : Nat → Nat → List Int → Option (List (List Int))
  | 0, _, B => if B = [] then some [] else none
  | n + 1, i, B => if B.take (hdL i).length = hdL i ∧ rowEnd (B.drop (hdL i).length) then
      (parseL n (i + 1) ((B.drop (hdL i).length).drop (lead (B.drop (hdL i).length) + 1))).map ((B.drop (hdL i).length).take (lead (B.drop (hdL i).length)) :: ·) else none
theorem hd_len (i : Nat) : (hdL i).length = (nmL i).length + 1 := by unfold hdL; simp
theorem nm_no10 (i : Nat) : 10 ∉ hdL i := by
  intro h
  unfold hdL nmL at h
  rcases List.mem_append.1 h with q | q
  · by_cases c : i < 12
    · have hh : (namesB.all fun s => decide (10 ∉ bytesOf s)) = true := by kernel_rfl
      have hl : i < namesB.length := c
      rw [List.getD_eq_getElem?_getD, List.getElem?_eq_getElem hl] at q
      exact of_decide_eq_true (List.all_eq_true.1 hh _ (List.getElem_mem hl)) q
    · rw [List.getD_eq_getElem?_getD, List.getElem?_eq_none (by show 12 ≤ i; omega)] at q
      exact absurd q (by decide)
  · exact absurd q (by decide)
theorem fig_no10 {w : List Int} (h : ∀ x ∈ w, isF x) : 10 ∉ w := fun q => by
  have := h 10 q
  unfold isF at this; omega
theorem lead_app : ∀ (w m : List Int), (∀ x ∈ w, isF x) → lead (w ++ 10 :: m) = w.length
  | [], m, _ => by
    rw [List.nil_append]; unfold lead
    rw [if_neg (by unfold isF; omega)]; rfl
  | x :: w, m, h => by
    rw [List.cons_append]; unfold lead
    rw [if_pos (h x List.mem_cons_self), lead_app w m (fun y hy => h y (List.mem_cons_of_mem _ hy))]; rfl
theorem rowsP_cons (n i : Nat) (r : List Int) (R : List (List Int)) : rowsP (n + 1) i (r :: R) = if countOk i r then (rowsP n (i + 1) R).map (tlK i r :: ·) else none := by
  unfold rowsP
  rw [List.length_cons, List.getD_cons_succ, List.take_succ_cons, rowsQ]
  by_cases c : R.length = n + 1 ∧ R.getD n [] = []
  · rw [if_pos ⟨by omega, c.2⟩, if_pos c]
  · rw [if_neg (fun q => c ⟨by omega, q.2⟩), if_neg c]
    split <;> rfl
theorem parse_rows : ∀ (n i : Nat) (B : List Int), parseL n i B = rowsP n i (rowsA [] B)
  | 0, i, B => by
    unfold parseL rowsP
    rcases first10 B with h | ⟨a, b, e, h⟩
    · rw [rowsA_none B [] h, List.nil_append]
      by_cases c : B = []
      · subst c; simp [rowsQ]
      · simp [c]
    · rw [if_neg (by rw [e]; simp)]
      subst e
      rw [rowsA_hit a [] b h]
      obtain ⟨r, R, e2⟩ : ∃ r R, rowsA [] b = r :: R := by
        rcases first10 b with k | ⟨c, d, e3, k⟩
        · exact ⟨_, _, rowsA_none b [] k⟩
        · subst e3; exact ⟨_, _, rowsA_hit c [] d k⟩
      rw [e2, if_neg (by simp)]
  | n + 1, i, B => by
    unfold parseL
    have hh := hd_len i
    have hn := nm_no10 i
    by_cases c : B.take (hdL i).length = hdL i ∧ rowEnd (B.drop (hdL i).length)
    · rw [if_pos c]
      obtain ⟨c1, c2, c3, c4⟩ := c
      generalize hT : B.drop (hdL i).length = t at *
      have et : t = t.take (lead t) ++ 10 :: t.drop (lead t + 1) := by
        conv => lhs; rw [← List.take_append_drop (lead t) t]
        congr 1
        rw [List.drop_eq_getElem_cons c3]
        congr 1
        rw [List.getD_eq_getElem?_getD, List.getElem?_eq_getElem c3] at c4
        exact c4
      have eB : B = (hdL i ++ t.take (lead t)) ++ 10 :: t.drop (lead t + 1) := by
        rw [List.append_assoc, ← et, ← hT, ← c1]
        rw [show (B.take (hdL i).length).length = (hdL i).length by rw [c1]]
        exact (List.take_append_drop _ B).symm
      have hno : 10 ∉ hdL i ++ t.take (lead t) := fun q => by
        rcases List.mem_append.1 q with q | q
        · exact hn q
        · exact fig_no10 c2.2.1 q
      have hr : rowsA [] B = (hdL i ++ t.take (lead t)) :: rowsA [] (t.drop (lead t + 1)) := by
        conv => lhs; rw [eB]
        rw [rowsA_hit _ _ _ hno, List.nil_append]
      have htl : tlK i (hdL i ++ t.take (lead t)) = t.take (lead t) := by unfold tlK; rw [← hh, List.drop_left' rfl]
      have hco : countOk i (hdL i ++ t.take (lead t)) := ⟨by rw [← hh, List.take_left' rfl]; rfl, by rw [htl]; exact c2⟩
      rw [hr, rowsP_cons, if_pos hco, htl, parse_rows n (i + 1)]
    · rw [if_neg c]
      rcases first10 B with h | ⟨a, b, e, h⟩
      · rw [rowsA_none B [] h, List.nil_append, rowsP_cons]
        have : rowsP n (i + 1) [] = none := by unfold rowsP; rw [if_neg (by simp)]
        rw [this]
        split <;> rfl
      · subst e
        rw [rowsA_hit a [] b h, List.nil_append, rowsP_cons, if_neg]
        intro hco
        obtain ⟨k1, k2⟩ := hco
        rw [← hh] at k1
        have ea : a = hdL i ++ tlK i a := by
          unfold tlK
          rw [← hh]
          conv => lhs; rw [← List.take_append_drop (hdL i).length a, k1]
          rfl
        generalize tlK i a = w at ea k2
        subst ea
        refine c ⟨?_, ?_⟩
        · rw [List.append_assoc, List.take_left' rfl]
        · rw [List.append_assoc, List.drop_left' rfl]
          have hl := lead_app w b k2.2.1
          unfold rowEnd
          rw [hl, List.take_left' rfl]
          refine ⟨k2, by simp, ?_⟩
          rw [List.getD_eq_getElem?_getD, List.getElem?_append_right (Nat.le_refl _), Nat.sub_self]
          rfl
theorem lead_figsT (l : List Int) : ∀ x ∈ l.take (lead l), isF x := by
  intro x hx
  obtain ⟨i, hi, rfl⟩ := List.getElem_of_mem hx
  rw [List.length_take] at hi
  have := lead_at (l := l) (i := i) (by omega)
  rw [List.getElem_take]
  rwa [List.getD_eq_getElem?_getD, List.getElem?_eq_getElem (by omega)] at this
/-! ### the reference -/
def vK (w : List Int) : Int := if val10 w ≤ 9223372036854775807 then val10 w else 0
def outF : Option (List (List Int)) → (Int × (Int × (Int × (Int × (Int × (Int × (Int × (Int × (Int × (Int × (Int × (Int × (Unit))))))))))))) × ((Int × Unit) × Unit)
  | none => (tU (List.replicate 12 0), ((2, ()), ()))
  | some ws => if ∀ w ∈ ws, val10 w ≤ 9223372036854775807 then (tU (ws.map val10), ((0, ()), ())) else (tU (List.replicate 12 0), ((5, ()), ()))
theorem getD_drop (l : List Int) (a j : Nat) : (l.drop a).getD j 0 = l.getD (a + j) 0 := by
  rw [List.getD_eq_getElem?_getD, List.getElem?_drop, ← List.getD_eq_getElem?_getD]
def overB (ws : List (List Int)) : Bool := ws.any fun w => decide (9223372036854775807 < val10 w)
end Go.Proofs.YtfhaifiipjfffaaDoor.Ev
