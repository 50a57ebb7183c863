/- Twelve counts: their text is read as they are, and what is read is put as it was. -/
import Derived.Test.YtfhaifiipjfffaaDoorPuTallyV
namespace Go.Proofs.YtfhaifiipjfffaaDoor.Ev
open Go
set_option linter.unusedVariables false
set_option linter.unusedSimpArgs false
theorem nil_or_snoc (l : List Int) : l = [] ∨ ∃ u x, l = u ++ [x] := by
  rcases List.eq_nil_or_concat l with h | ⟨u, x, h⟩
  · exact .inl h
  · exact .inr ⟨u, x, by rw [h, List.concat_eq_append]⟩
theorem padd_one (n : Nat) : ∃ x l, padd n 1 = x :: l ∧ (1 ≤ n → x ≠ 48) ∧ (n = 0 → l = []) ∧ (∀ y ∈ padd n 1, isF y) ∧ val10 (padd n 1) = n := by
  induction n using Nat.strongRecOn with
  | _ n ih =>
    by_cases c : n < 10
    · rw [padd_small c]
      refine ⟨48 + (n : Int), [], rfl, fun h => by omega, fun _ => rfl, fun y hy => ?_, ?_⟩
      · rw [List.mem_singleton.1 hy]; unfold isF; omega
      · simp only [val10, List.foldl_cons, List.foldl_nil]; omega
    · obtain ⟨x, l, e, h1, h2, h3, h4⟩ := ih (n / 10) (by omega)
      rw [padd_big c]
      refine ⟨x, l ++ [48 + ((n % 10 : Nat) : Int)], by rw [e]; rfl, fun _ => h1 (by omega), fun h => by omega, fun y hy => ?_, ?_⟩
      · rcases List.mem_append.1 hy with q | q
        · exact h3 y q
        · rw [List.mem_singleton.1 q]; unfold isF; omega
      · rw [val10_snoc, h4]; omega
theorem padd_wOk {n : Nat} (h : n < 10000000000000000000) : wOk (padd n 1) := by
  obtain ⟨x, l, e, h1, h2, h3, h4⟩ := padd_one n
  have hl := figs_len 19 n h
  refine ⟨⟨by rw [e]; simp, ?_⟩, h3, ?_⟩
  · unfold padd
    simp only [List.length_append, List.length_replicate, List.length_reverse]; omega
  · rintro ⟨q1, q2⟩
    rw [e] at q1 q2
    simp only [List.getD_cons_zero] at q2
    by_cases c : n = 0
    · rw [h2 c] at q1; simp at q1
    · exact h1 (by omega) q2
theorem val_pos : ∀ (n : Nat) (w : List Int), w.length = n → w ≠ [] → (∀ x ∈ w, isF x) → w.getD 0 0 ≠ 48 → 1 ≤ val10 w := by
  intro n
  induction n with
  | zero => intro w h1 h2; exact (h2 (List.eq_nil_of_length_eq_zero h1)).elim
  | succ n ih =>
    intro w h1 h2 h3 h4
    rcases nil_or_snoc w with rfl | ⟨u, x, rfl⟩
    · exact (h2 rfl).elim
    · have hx := h3 x (by simp)
      unfold isF at hx
      rw [val10_snoc]
      by_cases c : u = []
      · subst c
        simp only [List.nil_append, List.getD_cons_zero] at h4
        simp only [val10, List.foldl_nil]; omega
      · have hu : u.getD 0 0 ≠ 48 := by
          rw [List.getD_eq_getElem?_getD, List.getElem?_append_left (List.length_pos_iff.2 c), ← List.getD_eq_getElem?_getD] at h4
          exact h4
        have := ih u (by simpa using h1) c (fun y hy => h3 y (by simp [hy])) hu
        omega
theorem padd_val : ∀ (n : Nat) (w : List Int), w.length = n → w ≠ [] → (∀ x ∈ w, isF x) → ¬ (1 < w.length ∧ w.getD 0 0 = 48) → padd (val10 w).toNat 1 = w := by
  intro n
  induction n with
  | zero => intro w h1 h2; exact (h2 (List.eq_nil_of_length_eq_zero h1)).elim
  | succ n ih =>
    intro w h1 h2 h3 h4
    rcases nil_or_snoc w with rfl | ⟨u, x, rfl⟩
    · exact (h2 rfl).elim
    · have hx := h3 x (by simp)
      unfold isF at hx
      rw [val10_snoc]
      by_cases c : u = []
      · subst c
        simp only [val10, List.foldl_nil, List.nil_append]
        rw [padd_small (by omega)]
        congr 1; omega
      · have hlu := List.length_pos_iff.2 c
        have hu : u.getD 0 0 ≠ 48 := by
          intro q
          refine h4 ⟨by simp; omega, ?_⟩
          rw [List.getD_eq_getElem?_getD, List.getElem?_append_left hlu, ← List.getD_eq_getElem?_getD]
          exact q
        have hp := val_pos _ u rfl c (fun y hy => h3 y (by simp [hy])) hu
        have ihu := ih u (by simpa using h1) c (fun y hy => h3 y (by simp [hy])) (fun q => hu q.2)
        rw [padd_big (by omega), show (val10 u * 10 + (x - 48)).toNat / 10 = (val10 u).toNat by omega, ihu]
        congr 2; omega
/-- Rows put one behind the other. -/
def linesW : Nat → List (List Int) → List Int
  | _, [] => []
  | i, w :: ws => (hdL i ++ w) ++ 10 :: linesW (i + 1) ws
theorem lines_read : ∀ (ws : List (List Int)) (i : Nat), (∀ w ∈ ws, wOk w) → rowsP ws.length i (rowsA [] (linesW i ws)) = some ws
  | [], i, _ => by
    rw [linesW, rowsA]; rfl
  | w :: ws, i, h => by
    have hw := h w (by simp)
    have hno : 10 ∉ hdL i ++ w := fun q => by
      rcases List.mem_append.1 q with q | q
      · exact nm_no10 i q
      · exact fig_no10 hw.2.1 q
    have hh := hd_len i
    have htl : tlK i (hdL i ++ w) = w := by unfold tlK; rw [← hh, List.drop_left' rfl]
    have hco : countOk i (hdL i ++ w) := ⟨by rw [← hh, List.take_left' rfl]; rfl, by rw [htl]; exact hw⟩
    rw [linesW, rowsA_hit _ _ _ hno, List.nil_append, List.length_cons, rowsP_cons, if_pos hco, htl, lines_read ws (i + 1) (fun v hv => h v (by simp [hv]))]
    rfl
theorem lines_back : ∀ (n i : Nat) (B : List Int) (ws : List (List Int)), rowsP n i (rowsA [] B) = some ws → B = linesW i ws
  | 0, i, B, ws, h => by
    unfold rowsP at h
    split at h
    · rename_i hc
      simp only [List.take_zero, rowsQ, Option.some.injEq] at h
      subst h
      rcases first10 B with k | ⟨a, b, e, k⟩
      · rw [rowsA_none B [] k, List.nil_append] at hc
        exact hc.2
      · subst e
        rw [rowsA_hit a [] b k] at hc
        have := hc.1
        obtain ⟨r, R, e2⟩ : ∃ r R, rowsA [] b = r :: R := by
          rcases first10 b with k | ⟨c, d, e3, k⟩
          · exact ⟨_, _, rowsA_none b [] k⟩
          · subst e3; exact ⟨_, _, rowsA_hit c [] d k⟩
        rw [e2] at this
        simp at this
    · cases h
  | n + 1, i, B, ws, h => by
    rcases first10 B with k | ⟨a, b, e, k⟩
    · rw [rowsA_none B [] k, List.nil_append, rowsP_cons] at h
      have : rowsP n (i + 1) [] = none := by unfold rowsP; rw [if_neg (by simp)]
      rw [this] at h
      split at h <;> cases h
    · subst e
      rw [rowsA_hit a [] b k, List.nil_append, rowsP_cons] at h
      split at h
      · rename_i hc
        cases hq : rowsP n (i + 1) (rowsA [] b) with
        | none => rw [hq] at h; cases h
        | some vs =>
          rw [hq] at h
          simp only [Option.map_some, Option.some.injEq] at h
          subst h
          have ih := lines_back n (i + 1) b vs hq
          have k1 := hc.1
          rw [← hd_len] at k1
          have ea : a = hdL i ++ tlK i a := by
            unfold tlK
            rw [← hd_len]
            conv => lhs; rw [← List.take_append_drop (hdL i).length a, k1]
            rfl
          rw [linesW, ← ih, ← ea]
      · cases h
theorem text_lines (m : List Int) : ∀ (n i : Nat), (List.range' i n).flatMap (lineK m) = linesW i ((List.range' i n).map fun j => padd (m.getD j 0).toNat 1)
  | 0, i => rfl
  | n + 1, i => by
    rw [List.range'_succ, List.flatMap_cons, List.map_cons, linesW, text_lines m n (i + 1)]
    unfold lineK hdL nmL
    simp
theorem range_map {m : List Int} (h : m.length = 12) (f : Int → List Int) : ((List.range' 0 12).map fun j => f (m.getD j 0)) = m.map f := by
  obtain ⟨a0, a1, a2, a3, a4, a5, a6, a7, a8, a9, a10, a11, rfl⟩ := l12 h
  rfl
theorem textP_lines {m : List Int} (h : m.length = 12) : textP m 12 = linesW 0 (m.map fun x => padd x.toNat 1) := by
  have := text_lines m 12 0
  rw [range_map h fun x => padd x.toNat 1] at this
  rw [← this]
  unfold textP
  rw [List.range_eq_range']
theorem read_text {m : List Int} (h : cntOk m) : rowsP 12 0 (rowsA [] (textP m 12)) = some (m.map fun x => padd x.toNat 1) := by
  have := lines_read (m.map fun x => padd x.toNat 1) 0 (fun w hw => by
    obtain ⟨x, hx, rfl⟩ := List.mem_map.1 hw
    have := h.2 x hx
    exact padd_wOk (by omega))
  rw [List.length_map, h.1] at this
  rw [textP_lines h.1]; exact this
theorem text_read {L : List Int} {ws : List (List Int)} (hl : ws.length = 12) (hw : ∀ w ∈ ws, wOk w) (h : rowsP 12 0 (rowsA [] L) = some ws) : textP (ws.map val10) 12 = L := by
  have := lines_back 12 0 L ws h
  rw [this, textP_lines (by rw [List.length_map, hl]), List.map_map]
  congr 1
  conv => rhs; rw [← List.map_id ws]
  refine List.map_congr_left fun w hm => ?_
  have := hw w hm
  exact padd_val _ w rfl (List.length_pos_iff.1 this.1.1) this.2.1 this.2.2
theorem vals_text {m : List Int} (h : cntOk m) : (m.map fun x => padd x.toNat 1).map val10 = m := by
  rw [List.map_map]
  conv => rhs; rw [← List.map_id m]
  refine List.map_congr_left fun x hx => ?_
  have := h.2 x hx
  obtain ⟨_, _, _, _, _, _, e⟩ := padd_one x.toNat
  simp only [Function.comp, id, e]; omega
end Go.Proofs.YtfhaifiipjfffaaDoor.Ev
