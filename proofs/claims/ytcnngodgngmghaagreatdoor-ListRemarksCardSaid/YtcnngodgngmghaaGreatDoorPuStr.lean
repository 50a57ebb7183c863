/- Strings as lists of bytes. -/
import Derived.Test.YtcnngodgngmghaaGreatDoorEvE
namespace Go.Proofs.YtcnngodgngmghaaGreatDoor.Ev
open Go
set_option linter.unusedVariables false
set_option linter.unusedSimpArgs false
def okBy (l : List Int) : Prop := ∀ x ∈ l, 0 ≤ x ∧ x < 256
theorem by_ok (s : ByteArray) : okBy (bytesOf s) := fun x hx => by
  unfold bytesOf at hx
  obtain ⟨b, _, rfl⟩ := List.mem_map.1 hx
  have := b.toNat_lt
  omega
theorem by_len (s : ByteArray) : (bytesOf s).length = s.size := by
  unfold bytesOf
  rw [List.length_map, Array.length_toList]; rfl
theorem by_inj {s t : ByteArray} (h : bytesOf s = bytesOf t) : s = t := by
  obtain ⟨⟨s⟩⟩ := s
  obtain ⟨⟨t⟩⟩ := t
  unfold bytesOf at h
  simp only at h
  congr 2
  refine List.ext_getElem (by have := congrArg List.length h; simpa using this) fun i h1 h2 => ?_
  have := congrArg (fun l => l[i]?) h
  simp only [List.getElem?_map, List.getElem?_eq_getElem h1, List.getElem?_eq_getElem h2, Option.map_some, Option.some.injEq] at this
  exact UInt8.toNat_inj.1 (by omega)
theorem str_eq (s t : ByteArray) : (s.toList == t.toList) = decide (bytesOf s = bytesOf t) := by
  rw [ByteArray.toList_eq, ByteArray.toList_eq]
  by_cases h : bytesOf s = bytesOf t
  · have := by_inj h
    subst this
    simp
  · rw [decide_eq_false h]
    have : ¬ s.data.toList = t.data.toList := fun e => h (by unfold bytesOf; rw [e])
    simpa using this
theorem by_app (s t : ByteArray) : bytesOf (s ++ t) = bytesOf s ++ bytesOf t := by
  unfold bytesOf
  rw [ByteArray.data_append, Array.toList_append, List.map_append]
theorem by_cut (s : ByteArray) (a b : Nat) : bytesOf (s.extract a b) = ((bytesOf s).take b).drop a := by
  unfold bytesOf
  rw [ByteArray.data_extract, Array.toList_extract, List.extract_eq_take_drop, List.drop_take, List.map_take, List.map_drop]
theorem by_at (s : ByteArray) {i : Int} (h0 : 0 ≤ i) (h1 : i < s.size) : bt s i = (bytesOf s).getD i.toNat 0 := by
  unfold bt
  rw [dif_pos (by omega)]
  unfold bytesOf
  have hi : i.toNat < s.data.toList.length := by rw [Array.length_toList]; show i.toNat < s.size; omega
  rw [List.getD_eq_getElem?_getD, List.getElem?_map, List.getElem?_eq_getElem hi]
  simp only [Option.map_some, Option.getD_some]
  rfl
theorem by_str {l : List Int} (h : okBy l) : bytesOf (strOf l) = l := by
  unfold strOf bytesOf
  simp only [List.toList_toArray, List.map_map]
  conv => rhs; rw [← List.map_id l]
  refine List.map_congr_left fun x hx => ?_
  have := h x hx
  simp only [Function.comp, id]
  rw [UInt8.toNat_ofNat']
  omega
theorem str_by (s : ByteArray) : strOf (bytesOf s) = s := by_inj (by_str (by_ok s))
theorem str_size (l : List Int) : (strOf l).size = l.length := by
  unfold strOf
  show (List.toArray _).size = _
  simp
theorem str_app (l m : List Int) : strOf l ++ strOf m = strOf (l ++ m) := by
  refine by_inj ?_
  rw [by_app]
  unfold strOf bytesOf
  simp
theorem okBy_app {l m : List Int} (h : okBy l) (h' : okBy m) : okBy (l ++ m) := fun x hx => by
  rcases List.mem_append.1 hx with q | q
  · exact h x q
  · exact h' x q
theorem okBy_take {l : List Int} (h : okBy l) (n : Nat) : okBy (l.take n) := fun x hx => h x (List.mem_of_mem_take hx)
theorem okBy_drop {l : List Int} (h : okBy l) (n : Nat) : okBy (l.drop n) := fun x hx => h x (List.mem_of_mem_drop hx)
theorem okBy_rev {l : List Int} (h : okBy l) : okBy l.reverse := fun x hx => h x (List.mem_reverse.1 hx)
theorem okBy_at {l : List Int} (h : okBy l) (i : Nat) : 0 ≤ l.getD i 0 ∧ l.getD i 0 < 256 := by
  rw [List.getD_eq_getElem?_getD]
  by_cases c : i < l.length
  · rw [List.getElem?_eq_getElem c]; exact h _ (List.getElem_mem c)
  · rw [List.getElem?_eq_none (by omega)]; exact ⟨Int.le_refl _, by decide⟩
/-- A text of these bytes. -/
theorem str_cut (l : List Int) (a b : Nat) : (strOf l).extract a b = strOf ((l.take b).drop a) := by
  refine by_inj ?_
  rw [by_cut]
  unfold strOf bytesOf
  simp [List.map_take, List.map_drop]
theorem gd_u8 (l : List Int) (i : Int) : gd (.int .u8) l i = l.getD i.toNat 0 := rfl
end Go.Proofs.YtcnngodgngmghaaGreatDoor.Ev
