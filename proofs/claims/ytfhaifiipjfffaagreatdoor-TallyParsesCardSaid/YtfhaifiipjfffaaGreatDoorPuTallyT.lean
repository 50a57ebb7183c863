/- Twelve counts: their text. -/
import Derived.Test.YtfhaifiipjfffaaGreatDoorPuTallyR
import Derived.Test.YtfhaifiipjfffaaGreatDoorPuPutF
import Derived.Test.YtfhaifiipjfffaaGreatDoorPuItoa
import Derived.Test.YtfhaifiipjfffaaGreatDoorEv41
namespace Go.Proofs.YtfhaifiipjfffaaGreatDoor.Ev
open Go
set_option linter.unusedVariables false
set_option linter.unusedSimpArgs false
set_option maxRecDepth 4000
def namesB : List ByteArray := [⟨#[108, 111, 97, 100, 101, 100]⟩, ⟨#[114, 101, 102, 117, 115, 101, 100]⟩, ⟨#[114, 101, 97, 100]⟩, ⟨#[98, 97, 99, 107]⟩, ⟨#[119, 111, 114, 100]⟩, ⟨#[108, 105, 110, 101]⟩, ⟨#[114, 101, 112, 108, 121]⟩, ⟨#[107, 105, 115, 115]⟩, ⟨#[108, 105, 109, 105, 116, 101, 100]⟩, ⟨#[111, 100, 100]⟩, ⟨#[115, 116, 114, 97, 110, 103, 101]⟩, ⟨#[105, 100, 108, 101]⟩]
theorem names_fields : g_strings_Fields ((), (((⟨#[108, 111, 97, 100, 101, 100, 32, 114, 101, 102, 117, 115, 101, 100, 32, 114, 101, 97, 100, 32, 98, 97, 99, 107, 32, 119, 111, 114, 100, 32, 108, 105, 110, 101, 32, 114, 101, 112, 108, 121, 32, 107, 105, 115, 115, 32, 108, 105, 109, 105, 116, 101, 100, 32, 111, 100, 100, 32, 115, 116, 114, 97, 110, 103, 101, 32, 105, 100, 108, 101]⟩ : ByteArray), ()), ())) = some ((), ((namesB, ()), ())) := by kernel_rfl
/-- A kind's name. -/
def nameK (k : Int) : ByteArray := if 1 ≤ k ∧ k ≤ 12 then namesB.getD (k - 1).toNat ⟨#[]⟩ else ⟨#[]⟩
theorem gd_str (l : List ByteArray) (i : Int) : gd .str l i = l.getD i.toNat ⟨#[]⟩ := rfl
theorem tally_name (k : Int) : g_tally_Name ((), ((k, ()), ())) = some ((), ((nameK k, ()), ())) := by
  simp only [g_tally_Name, f_tally_Name_m, known_eq, names_fields, fitsS_dec, Option.bind_some, Option.isNone_none, Option.isNone_some, Option.isSome_none, Option.isSome_some, Bool.not_true, Bool.not_false, cond_true, cond_false, cond_dec, beq_int, bne_int, not_dec, and_dec]
  unfold nameK
  by_cases c : 1 ≤ k ∧ k ≤ 12
  · rw [if_neg (not_not_intro c), if_pos c, isub_i64 (by omega), if_pos (by rw [show (namesB.length : Int) = 12 from rfl]; omega)]
    rfl
  · rw [if_pos c, if_neg c]
theorem padd_by (n w : Nat) : okBy (padd n w) := fun x hx => by
  unfold padd at hx
  rcases List.mem_append.1 hx with q | q
  · rw [List.eq_of_mem_replicate q]; decide
  · have := figs_ok n x (List.mem_reverse.1 q); omega
def lineK (m : List Int) (j : Nat) : List Int := bytesOf (namesB.getD j ⟨#[]⟩) ++ 32 :: (padd (m.getD j 0).toNat 1 ++ [10])
def textP (m : List Int) (i : Nat) : List Int := (List.range i).flatMap (lineK m)
def partsP (m : List Int) (i : Nat) : List ByteArray := (List.range i).flatMap fun j => [namesB.getD j ⟨#[]⟩, ⟨#[32]⟩, strOf (padd (m.getD j 0).toNat 1), ⟨#[10]⟩]
theorem textP_succ (m : List Int) (i : Nat) : textP m (i + 1) = textP m i ++ lineK m i := by
  unfold textP; rw [List.range_succ, List.flatMap_append]; simp
theorem partsP_succ (m : List Int) (i : Nat) : partsP m (i + 1) = partsP m i ++ [namesB.getD i ⟨#[]⟩, ⟨#[32]⟩, strOf (padd (m.getD i 0).toNat 1), ⟨#[10]⟩] := by
  unfold partsP; rw [List.range_succ, List.flatMap_append]; simp
theorem partsP_len (m : List Int) : ∀ i : Nat, (partsP m i).length = 4 * i
  | 0 => rfl
  | i + 1 => by rw [partsP_succ, List.length_append, partsP_len m i]; simp; omega
theorem name_small (j : Nat) : (bytesOf (namesB.getD j ⟨#[]⟩)).length ≤ 7 := by
  by_cases c : j < 12
  · have h : (namesB.all fun s => decide ((bytesOf s).length ≤ 7)) = true := by kernel_rfl
    have hl : j < namesB.length := c
    rw [List.getD_eq_getElem?_getD, List.getElem?_eq_getElem hl]
    exact of_decide_eq_true (List.all_eq_true.1 h _ (List.getElem_mem hl))
  · rw [List.getD_eq_getElem?_getD, List.getElem?_eq_none (by show 12 ≤ j; omega)]
    decide
theorem cntd {m : List Int} (h : cntOk m) (j : Nat) : 0 ≤ m.getD j 0 ∧ m.getD j 0 ≤ 9223372036854775807 := by
  rw [List.getD_eq_getElem?_getD]
  by_cases c : j < m.length
  · rw [List.getElem?_eq_getElem c]; exact h.2 _ (List.getElem_mem c)
  · rw [List.getElem?_eq_none (by omega)]; decide
theorem line_len {m : List Int} (h : cntOk m) (j : Nat) : (lineK m j).length ≤ 40 := by
  have := name_small j
  have h1 := cntd h j
  have := padd_len (m.getD j 0).toNat 1 (by omega) (by decide)
  unfold lineK
  simp only [List.length_append, List.length_cons, List.length_nil]; omega
theorem textP_len {m : List Int} (h : cntOk m) : ∀ i : Nat, (textP m i).length ≤ 40 * i
  | 0 => Nat.le_refl _
  | i + 1 => by
    have := textP_len h i
    have := line_len h i
    rw [textP_succ, List.length_append]; omega
theorem line_by (m : List Int) (j : Nat) : okBy (lineK m j) := by
  refine okBy_app (by_ok _) fun x hx => ?_
  rcases List.mem_cons.1 hx with rfl | hx
  · decide
  · exact okBy_app (padd_by _ _) (fun y hy => by rw [List.mem_singleton.1 hy]; decide) x hx
theorem textP_by (m : List Int) : ∀ i : Nat, okBy (textP m i)
  | 0 => fun x hx => by cases hx
  | i + 1 => by rw [textP_succ]; exact okBy_app (textP_by m i) (line_by m i)
theorem parts_text (m : List Int) : ∀ i : Nat, (partsP m i).flatMap bytesOf = textP m i
  | 0 => rfl
  | i + 1 => by
    rw [partsP_succ, textP_succ, List.flatMap_append, parts_text m i]
    congr 1
    have e1 : bytesOf (⟨#[32]⟩ : ByteArray) = [32] := by kernel_rfl
    have e2 : bytesOf (⟨#[10]⟩ : ByteArray) = [10] := by kernel_rfl
    simp only [List.flatMap_cons, List.flatMap_nil, e1, e2, by_str (padd_by _ _), lineK, List.append_nil, List.singleton_append]
theorem inter_nil : ∀ xs : List (List UInt8), ([] : List UInt8).intercalate xs = xs.flatten
  | [] => rfl
  | [x] => by simp [List.intercalate]
  | x :: y :: l => by
    have := inter_nil (y :: l)
    unfold List.intercalate at this ⊢
    rw [show (x :: y :: l).intersperse ([] : List UInt8) = x :: [] :: (y :: l).intersperse [] from rfl, List.flatten_cons, List.flatten_cons, this, List.flatten_cons]
    simp
theorem join_flat : ∀ xs : List ByteArray, (xs.map (·.data.toList)).flatten = (strOf (xs.flatMap bytesOf)).data.toList
  | [] => rfl
  | s :: l => by
    have h1 := str_by s
    have h2 : (strOf (bytesOf s ++ l.flatMap bytesOf)).data.toList = (strOf (bytesOf s)).data.toList ++ (strOf (l.flatMap bytesOf)).data.toList := by
      unfold strOf; simp
    rw [List.map_cons, List.flatten_cons, join_flat l, List.flatMap_cons, h2, h1]
theorem join_nil (xs : List ByteArray) (hx : xs.length ≤ 140737488355328) (hl : (xs.flatMap bytesOf).length ≤ 140737488355328) : g_strings_Join ((), ((xs, ()), (((⟨#[]⟩ : ByteArray), ()), ()))) = some ((), ((strOf (xs.flatMap bytesOf), ()), ())) := by
  have e : Lib.join (xs.map (·.data.toList)) (⟨#[]⟩ : ByteArray).data.toList = (strOf (xs.flatMap bytesOf)).data.toList := by
    unfold Lib.join
    rw [show (⟨#[]⟩ : ByteArray).data.toList = [] from rfl, inter_nil, join_flat]
  show lib_join _ = _
  unfold lib_join
  simp only [e]
  rw [if_pos ⟨hx, by rw [Array.length_toList]; show (strOf (xs.flatMap bytesOf)).size ≤ _; rw [str_size]; exact hl⟩]
theorem format_call {v : Int} (h : 0 ≤ v ∧ v ≤ 9223372036854775807) : g_strconv_FormatInt ((), ((v, ()), ((10, ()), ()))) = some ((), ((strOf (padd v.toNat 1), ()), ())) := by
  show lib_formatInt _ = _
  unfold lib_formatInt
  simp only
  rw [if_pos ⟨⟨by omega, h.2⟩, trivial⟩, itoa_str h.1]
theorem ttext_p7 {m : List Int} (h : cntOk m) : ∀ (n i : Nat), i + n = 12 → Evn (fun j => (f_tally_Tally_Text_t j).1 ((partsP m i, ()), ((), (tU m, (((i : Int), ()), ()))))) ((), ((strOf (textP m 12), ()), ()))
  | 0, i, e => by
    obtain rfl : i = 12 := by omega
    have hj := join_nil (partsP m 12) (by rw [partsP_len]; decide) (by rw [parts_text]; have := textP_len h 12; omega)
    rw [parts_text] at hj
    refine Evn.some 1 fun j => ?_
    rw [t_tally_Tally_Text]
    simp only [f_tally_Tally_Text_p7, fitsS_dec, Option.bind_some, Option.isNone_none, Option.isNone_some, Option.isSome_none, Option.isSome_some, Bool.not_true, Bool.not_false, cond_true, cond_false, cond_dec, beq_int, bne_int, not_dec, hj]
    rw [if_neg (by omega)]
  | n + 1, i, e => by
    have ih := ttext_p7 h n (i + 1) (by omega)
    have hf := format_call (cntd h i)
    have hn : nameK ((i : Int) + 1) = namesB.getD i ⟨#[]⟩ := by
      unfold nameK
      rw [if_pos (by omega), show ((i : Int) + 1 - 1).toNat = i by omega]
    have hp := partsP_succ m i
    have i1 : iadd .i64 (i : Int) 1 = (i : Int) + 1 := iadd_i64 (by omega)
    refine (ih.step (F := fun j => (f_tally_Tally_Text_t j).2.1 ((partsP m i, ()), ((), (((i : Int), ()), ((m.getD i 0, ()), (tU m, (((i : Int), ()), ()))))))) fun j => ?_).step fun j => ?_
    · rw [t_tally_Tally_Text]
      simp only [f_tally_Tally_Text_p11, tally_name, i1, hn, hf, fitsS_dec, Option.bind_some, Option.isNone_none, Option.isNone_some, Option.isSome_none, Option.isSome_some, Bool.not_true, Bool.not_false, cond_true, cond_false, cond_dec, beq_int, bne_int, not_dec, and_dec, hp, partsP_len, List.length_cons, List.length_nil]
      rw [if_pos (by omega)]
      rfl
    · rw [t_tally_Tally_Text]
      simp only [f_tally_Tally_Text_p7, fitsS_dec, Option.bind_some, Option.isNone_none, Option.isNone_some, Option.isSome_none, Option.isSome_some, Bool.not_true, Bool.not_false, cond_true, cond_false, cond_dec, beq_int, bne_int, not_dec, and_dec]
      rw [if_pos (by omega), if_pos (by omega)]
      clear ih hf hn hp i1
      have hi : i = 0 ∨ i = 1 ∨ i = 2 ∨ i = 3 ∨ i = 4 ∨ i = 5 ∨ i = 6 ∨ i = 7 ∨ i = 8 ∨ i = 9 ∨ i = 10 ∨ i = 11 := by omega
      rcases hi with rfl | rfl | rfl | rfl | rfl | rfl | rfl | rfl | rfl | rfl | rfl | rfl <;> simp only [tU, Int.reduceLT, Int.reduceLE, Int.reduceEq, Int.reduceGT, Int.reduceSub, Int.reduceAdd, gt_iff_lt, ge_iff_le, if_true, if_false, and_self, and_true, true_and, Int.cast_ofNat_Int]
theorem tally_text {m : List Int} (h : cntOk m) : g_tally_Tally_Text ((), ((some (tN m), ()), ())) = some ((), ((strOf (textP m 12), ()), ())) := by
  have := ttext_p7 h 12 0 rfl
  refine (this.cast fun j => ?_).lim
  simp only [f_tally_Tally_Text_m, Option.isNone_some, cond_false, Option.bind_some]
  rfl
theorem ref32_names : g_ref32_Names ((), ()) = some ((namesB, ()), ((), ())) := rfl
theorem line_str (m : List Int) (i : Nat) : namesB.getD i ⟨#[]⟩ ++ strOf [32] ++ strOf (padd (m.getD i 0).toNat 1) ++ strOf [10] = strOf (lineK m i) := by
  unfold lineK
  conv => lhs; rw [← str_by (namesB.getD i ⟨#[]⟩)]
  rw [str_app, str_app, str_app]
  congr 1
  simp
end Go.Proofs.YtfhaifiipjfffaaGreatDoor.Ev
