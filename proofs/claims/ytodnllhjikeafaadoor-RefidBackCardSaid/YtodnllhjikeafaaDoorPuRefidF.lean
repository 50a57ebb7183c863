/- Addresses as texts: four rows with points between. -/
import Derived.Test.YtodnllhjikeafaaDoorPuRefidC
import Derived.Test.YtodnllhjikeafaaDoorPuItoa
namespace Go.Proofs.YtodnllhjikeafaaDoor.Ev
open Go
set_option linter.unusedVariables false
set_option linter.unusedSimpArgs false
theorem padd_three {n : Nat} (h : n < 1000) : padd n 1 = if n < 10 then [48 + (n : Int)] else if n < 100 then [48 + ((n / 10 : Nat) : Int), 48 + ((n % 10 : Nat) : Int)] else [48 + ((n / 100 : Nat) : Int), 48 + ((n / 10 % 10 : Nat) : Int), 48 + ((n % 10 : Nat) : Int)] := by
  by_cases c1 : n < 10
  · rw [if_pos c1, padd_small c1]
  rw [if_neg c1, padd_big c1]
  by_cases c2 : n < 100
  · rw [if_pos c2, padd_small (show n / 10 < 10 by omega)]; rfl
  · rw [if_neg c2, padd_big (show ¬ n / 10 < 10 by omega), padd_small (show n / 10 / 10 < 10 by omega), show n / 10 / 10 = n / 100 by omega]; rfl
theorem padd_row {n : Nat} (h : n < 1000) : rowOk (padd n 1) ∧ val10 (padd n 1) = n := by
  rw [padd_three h]
  unfold rowOk
  by_cases c1 : n < 10
  · rw [if_pos c1]
    refine ⟨⟨by simp, fun x hx => ?_, by simp⟩, by simp only [val10, List.foldl_cons, List.foldl_nil]; omega⟩
    rw [List.mem_singleton.1 hx]; unfold isF; omega
  rw [if_neg c1]
  by_cases c2 : n < 100
  · rw [if_pos c2]
    refine ⟨⟨by simp, fun x hx => ?_, ?_⟩, ?_⟩
    · simp only [List.mem_cons, List.not_mem_nil, or_false] at hx
      unfold isF
      rcases hx with rfl | rfl <;> omega
    · simp only [List.getD_cons_zero]; omega
    · simp only [val10, List.foldl_cons, List.foldl_nil]; omega
  · rw [if_neg c2]
    refine ⟨⟨by simp, fun x hx => ?_, ?_⟩, ?_⟩
    · simp only [List.mem_cons, List.not_mem_nil, or_false] at hx
      unfold isF
      rcases hx with rfl | rfl | rfl <;> omega
    · simp only [List.getD_cons_zero]; omega
    · simp only [val10, List.foldl_cons, List.foldl_nil]; omega
/-- A row is its number's figures. -/
theorem row_padd {w : List Int} (h : rowOk w) : padd (val10 w).toNat 1 = w := by
  obtain ⟨hl, hf, hz⟩ := h
  match w, hl with
  | [x], _ =>
    have hx := hf x (by simp)
    unfold isF at hx
    have e : (val10 [x]).toNat = (x - 48).toNat := by simp [val10]
    rw [e, padd_three (by omega), if_pos (by omega)]
    congr 1; omega
  | [x, y], _ =>
    have hx := hf x (by simp)
    have hy := hf y (by simp)
    unfold isF at hx hy
    have hz' : x ≠ 48 := fun q => hz ⟨by simp, q⟩
    have e : (val10 [x, y]).toNat = ((x - 48) * 10 + (y - 48)).toNat := by simp [val10]
    rw [e, padd_three (by omega), if_neg (by omega), if_pos (by omega)]
    congr 1
    · omega
    · congr 1; omega
  | [x, y, z], _ =>
    have hx := hf x (by simp)
    have hy := hf y (by simp)
    have hz2 := hf z (by simp)
    unfold isF at hx hy hz2
    have hz' : x ≠ 48 := fun q => hz ⟨by simp, q⟩
    have e : (val10 [x, y, z]).toNat = (((x - 48) * 10 + (y - 48)) * 10 + (z - 48)).toNat := by simp [val10]
    rw [e, padd_three (by omega), if_neg (by omega), if_neg (by omega)]
    congr 1
    · omega
    · congr 1
      · omega
      · congr 1; omega
  | [], hl => simp at hl
  | _ :: _ :: _ :: _ :: _, hl => simp at hl
/-- Rows with points between. -/
def joinR : List (List Int) → List Int
  | [] => []
  | [w] => w
  | w :: v :: r => w ++ 46 :: joinR (v :: r)
theorem join_dots : ∀ (l cur : List Int), joinR (dotsA cur l) = cur ++ l
  | [], cur => by simp [dotsA, joinR]
  | x :: l, cur => by
    unfold dotsA
    by_cases c : x = 46
    · rw [if_pos c]
      obtain ⟨w, rest, e⟩ := dots_first l []
      have ih := join_dots l []
      rw [e] at ih ⊢
      rw [joinR, ih, c]; rfl
    · rw [if_neg c, join_dots l (cur ++ [x]), List.append_assoc]; rfl
def addrL (l : List Int) : List Int := joinR (l.map fun x => padd x.toNat 1)
theorem dots_join : ∀ R : List (List Int), R ≠ [] → (∀ w ∈ R, ∀ x ∈ w, isF x) → dotsA [] (joinR R) = R
  | [], h, _ => (h rfl).elim
  | [w], _, h => by
    have e := dots_figs w [] [] (h w (by simp))
    rw [List.append_nil, List.nil_append] at e
    rw [joinR, e]; rfl
  | w :: v :: r, _, h => by
    rw [joinR, dots_figs w [] _ (h w (by simp)), List.nil_append, dotsA, if_pos rfl, dots_join (v :: r) (by simp) (fun u hu => h u (List.mem_cons_of_mem _ hu))]
theorem addr_rows {a b c d : Int} (h : okBy [a, b, c, d]) : refA (dotsA [] (addrL [a, b, c, d])) = ((a, (b, (c, (d, ())))), ((0, ()), ())) := by
  have ha := h a (by simp)
  have hb := h b (by simp)
  have hc := h c (by simp)
  have hd := h d (by simp)
  have pa := padd_row (n := a.toNat) (by omega)
  have pb := padd_row (n := b.toNat) (by omega)
  have pc := padd_row (n := c.toNat) (by omega)
  have pd := padd_row (n := d.toNat) (by omega)
  have hR : ∀ w ∈ [a, b, c, d].map (fun x => padd x.toNat 1), rowOk w ∧ ∃ x ∈ [a, b, c, d], val10 w = x := by
    intro w hw
    simp only [List.map_cons, List.map_nil, List.mem_cons, List.not_mem_nil, or_false] at hw
    rcases hw with rfl | rfl | rfl | rfl
    · exact ⟨pa.1, a, by simp, by rw [pa.2]; omega⟩
    · exact ⟨pb.1, b, by simp, by rw [pb.2]; omega⟩
    · exact ⟨pc.1, c, by simp, by rw [pc.2]; omega⟩
    · exact ⟨pd.1, d, by simp, by rw [pd.2]; omega⟩
  unfold addrL refA
  rw [dots_join _ (by simp) (fun w hw => (hR w hw).1.2.1), if_neg (by simp), if_pos (fun w hw => (hR w hw).1)]
  have hany : ([a, b, c, d].map (fun x => padd x.toNat 1)).any (fun w => decide (255 < val10 w)) = false := by
    rw [List.any_eq_false]
    intro w hw
    obtain ⟨_, x, hx, e⟩ := hR w hw
    have := h x hx
    simp only [decide_eq_true_eq]; omega
  rw [hany, if_neg (by decide)]
  simp only [valsB, List.map_cons, List.map_nil, codeV, pa.2, pb.2, pc.2, pd.2, List.getD_cons_zero, List.getD_cons_succ]
  rw [show ((a.toNat : Nat) : Int) % 256 = a by omega, show ((b.toNat : Nat) : Int) % 256 = b by omega, show ((c.toNat : Nat) : Int) % 256 = c by omega, show ((d.toNat : Nat) : Int) % 256 = d by omega]
/-- What is read as an address is that address's text. -/
theorem addr_back {L : List Int} (hb : okBy L) (h : (refA (dotsA [] L)).2.1.1 = 0) : ∃ a b c d : Int, okBy [a, b, c, d] ∧ (refA (dotsA [] L)).1 = (a, (b, (c, (d, ())))) ∧ addrL [a, b, c, d] = L := by
  have hj := join_dots L []
  rw [List.nil_append] at hj
  unfold refA at h ⊢
  by_cases c1 : (dotsA [] L).length ≠ 4
  · rw [if_pos c1] at h; exact absurd h (by decide)
  rw [if_neg c1] at h ⊢
  by_cases c2 : ∀ w ∈ dotsA [] L, rowOk w
  · rw [if_pos c2] at h ⊢
    cases c3 : (dotsA [] L).any fun w => decide (255 < val10 w) with
    | true => rw [c3, if_pos rfl] at h; exact absurd h (by decide)
    | false =>
      rw [c3, if_neg (by decide)] at h
      rw [if_neg (by decide)]
      generalize dotsA [] L = R at *
      rw [List.any_eq_false] at c3
      match R, c1 with
      | [w1, w2, w3, w4], _ =>
        have hv : ∀ w ∈ [w1, w2, w3, w4], rowOk w ∧ 0 ≤ val10 w ∧ val10 w < 256 := fun w hw => ⟨c2 w hw, (val3 (c2 w hw)).1, by
          have := c3 w hw
          simp only [decide_eq_true_eq] at this; omega⟩
        have h1 := hv w1 (by simp)
        have h2 := hv w2 (by simp)
        have h3 := hv w3 (by simp)
        have h4 := hv w4 (by simp)
        refine ⟨val10 w1 % 256, val10 w2 % 256, val10 w3 % 256, val10 w4 % 256, fun x hx => ?_, rfl, ?_⟩
        · simp only [List.mem_cons, List.not_mem_nil, or_false] at hx
          rcases hx with rfl | rfl | rfl | rfl <;> omega
        · unfold addrL
          simp only [List.map_cons, List.map_nil]
          rw [show val10 w1 % 256 = val10 w1 by omega, show val10 w2 % 256 = val10 w2 by omega, show val10 w3 % 256 = val10 w3 by omega, show val10 w4 % 256 = val10 w4 by omega, row_padd h1.1, row_padd h2.1, row_padd h3.1, row_padd h4.1]
          exact hj
      | [], c1 => simp at c1
      | [_], c1 => simp at c1
      | [_, _], c1 => simp at c1
      | [_, _, _], c1 => simp at c1
      | _ :: _ :: _ :: _ :: _ :: _, c1 => simp at c1
  · rw [if_neg c2] at h; exact absurd h (by decide)
end Go.Proofs.YtodnllhjikeafaaDoor.Ev
