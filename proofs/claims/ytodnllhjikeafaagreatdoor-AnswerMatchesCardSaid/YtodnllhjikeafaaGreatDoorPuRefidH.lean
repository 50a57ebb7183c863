/- Which codes refuse, by the program and by the reference. -/
import Derived.Test.YtodnllhjikeafaaGreatDoorPuRefidE
import Derived.Test.YtodnllhjikeafaaGreatDoorPureRefidParses
namespace Go.Proofs.YtodnllhjikeafaaGreatDoor.Ev
open Go
set_option linter.unusedVariables false
set_option linter.unusedSimpArgs false
/-- Is it the code of one of these texts? -/
def refB (l : List Int) : Bool := codeList.any fun s => decide (bytesOf s = nameL l)
theorem codes_four : ∀ s ∈ codeList, (bytesOf s).length = 4 ∧ codeOk (bytesOf s) := by
  have h : (codeList.all fun s => decide ((bytesOf s).length = 4 ∧ codeOk (bytesOf s))) = true := by kernel_rfl
  intro s hs
  exact of_decide_eq_true (List.all_eq_true.1 h s hs)
theorem code_name {a b c d : Int} {s : ByteArray} (hs : (bytesOf s).length = 4 ∧ codeOk (bytesOf s)) : (codeV (bytesOf s) = (a, (b, (c, (d, ()))))) ↔ bytesOf s = nameL [a, b, c, d] := by
  obtain ⟨h4, hc⟩ := hs
  generalize bytesOf s = w at h4 hc
  have ht := take_trim a b c d
  constructor
  · intro q
    match w, h4 with
    | [x, y, z, u], _ =>
      simp only [codeV, List.getD_cons_zero, List.getD_cons_succ, Prod.mk.injEq, and_true] at q
      obtain ⟨rfl, rfl, rfl, rfl⟩ := q
      have hu : u ≠ 0 := fun q => by have := hc.2 u (by simp); unfold rcoded at this; omega
      have e : trim0 [x, y, z, u] = [x, y, z, u] := by rw [trim4, if_pos hu]
      unfold nameL
      rw [e, if_pos hc]
  · intro q
    have hk : codeOk (trim0 [a, b, c, d]) := Classical.byContradiction fun n => by
      unfold nameL at q
      rw [if_neg n] at q
      rw [q] at h4; simp at h4
    unfold nameL at q
    rw [if_pos hk] at q
    have hl : (trim0 [a, b, c, d]).length = 4 := by rw [← q]; exact h4
    rw [hl] at ht
    rw [q, ← ht]
    rfl
theorem refuses_p4 (s : ByteArray) : ∀ l : List ByteArray, Evn (fun k => (f_refid_Refuses_t k).1 l (((false, ()), ((s, ()), ())), ((), ((), ())))) ((), ((l.any fun x => decide (bytesOf x = bytesOf s), ()), ()))
  | [] => by
    refine Evn.some 1 fun k => ?_
    rw [t_refid_Refuses]
    simp only [f_refid_Refuses_p4, List.isEmpty_nil, cond_true, List.any_nil]
  | x :: l => by
    have ih := refuses_p4 s l
    by_cases c : bytesOf x = bytesOf s
    · rw [List.any_cons, decide_eq_true c, Bool.true_or]
      refine Evn.some 1 fun k => ?_
      rw [t_refid_Refuses]
      have e : gd .str (x :: l) (0 : Int) = x := rfl
      simp only [f_refid_Refuses_p4, List.isEmpty_cons, cond_false, e, str_eq, decide_eq_true c, cond_true]
    · rw [List.any_cons, decide_eq_false c, Bool.false_or]
      refine ih.step fun k => ?_
      rw [t_refid_Refuses]
      have e : gd .str (x :: l) (0 : Int) = x := rfl
      simp only [f_refid_Refuses_p4, List.isEmpty_cons, cond_false, e, str_eq, decide_eq_false c]
      rfl
theorem refid_refuses {a b c d : Int} (h : okBy [a, b, c, d]) : g_refid_Refuses ((), ((a, (b, (c, (d, ())))), ())) = some ((), ((refB [a, b, c, d], ()), ())) := by
  have hn := refid_name a b c d h
  have ho : okBy (nameL [a, b, c, d]) := by
    unfold nameL; split
    · exact name_ok h
    · exact fun x hx => (by cases hx)
  have hL := refuses_p4 (strOf (nameL [a, b, c, d])) codeList
  rw [by_str ho] at hL
  refine (hL.cast fun f => ?_).lim
  simp only [f_refid_Refuses_m, hn, g_strings_SplitSeq, f_strings_SplitSeq_m, g_strings_splitSeq, f_strings_splitSeq_m, Option.bind_some]
  rw [codes_split]
  rfl
theorem rrefuses_p3 (a b c d : Int) (L : List ByteArray) (hL : L.length ≤ 100) (h : ∀ s ∈ L, (bytesOf s).length = 4 ∧ codeOk (bytesOf s)) : ∀ (l done : List ByteArray), L = done ++ l →
    Evn (fun k => (f_ref30_Refuses_t k).1 (((a, (b, (c, (d, ())))), (L, ())), ((), ((), (((L.length : Int), ()), (((done.length : Int), ()), ())))))) ((), ((l.any fun x => decide (bytesOf x = nameL [a, b, c, d]), ()), ()))
  | [], done, e => by
    have hl := congrArg List.length e
    simp only [List.length_append, List.length_nil] at hl
    refine Evn.some 1 fun k => ?_
    rw [t_ref30_Refuses]
    simp only [f_ref30_Refuses_p3, fitsS_dec, Option.bind_some, Option.isNone_none, Option.isNone_some, Option.isSome_none, Option.isSome_some, Bool.not_true, Bool.not_false, cond_true, cond_false, cond_dec, beq_int, bne_int, not_dec]
    rw [if_neg (by omega)]
    rfl
  | x :: l, done, e => by
    have hl := congrArg List.length e
    simp only [List.length_append, List.length_cons] at hl
    have ih := rrefuses_p3 a b c d L hL h l (done ++ [x]) (by rw [e, List.append_assoc]; rfl)
    simp only [List.length_append, List.length_singleton] at ih
    have hx := h x (by rw [e]; simp)
    have hg : gd .str L (done.length : Int) = x := by
      show L.getD (done.length : Int).toNat _ = _
      rw [Int.toNat_natCast, List.getD_eq_getElem?_getD, e, List.getElem?_append_right (Nat.le_refl _), Nat.sub_self]
      rfl
    have hsz : x.size = 4 := by rw [← by_len, hx.1]
    have hc := ref30_code x (by omega)
    rw [if_pos hx.2] at hc
    have hn := code_name (a := a) (b := b) (c := c) (d := d) hx
    rw [List.any_cons]
    by_cases q : codeV (bytesOf x) = (a, (b, (c, (d, ()))))
    · rw [decide_eq_true (hn.1 q), Bool.true_or]
      rw [q] at hc
      refine Evn.some 1 fun k => ?_
      rw [t_ref30_Refuses]
      simp only [f_ref30_Refuses_p3, fitsS_dec, Option.bind_some, Option.isNone_none, Option.isNone_some, Option.isSome_none, Option.isSome_some, Bool.not_true, Bool.not_false, cond_true, cond_false, cond_dec, beq_int, bne_int, not_dec, and_dec, hg, hc]
      rw [if_pos (by omega), if_pos (by omega)]
      simp
    · rw [decide_eq_false (fun w => q (hn.2 w)), Bool.false_or]
      refine ih.step fun k => ?_
      rw [t_ref30_Refuses]
      simp only [f_ref30_Refuses_p3, fitsS_dec, Option.bind_some, Option.isNone_none, Option.isNone_some, Option.isSome_none, Option.isSome_some, Bool.not_true, Bool.not_false, cond_true, cond_false, cond_dec, beq_int, bne_int, not_dec, and_dec, hg, hc]
      rw [if_pos (by omega), if_pos (by omega), iadd_i64 (by omega)]
      generalize codeV (bytesOf x) = V at q
      obtain ⟨v1, v2, v3, v4, v5⟩ := V
      simp only [Prod.mk.injEq, and_true, not_and] at q
      by_cases r1 : v1 = a
      · by_cases r2 : v2 = b
        · by_cases r3 : v3 = c
          · simp [r1, r2, r3, q r1 r2 r3]
          · simp [r1, r2, r3]
        · simp [r1, r2]
      · simp [r1]
theorem ref30_refuses (a b c d : Int) : g_ref30_Refuses ((), ((a, (b, (c, (d, ())))), ())) = some ((), ((refB [a, b, c, d], ()), ())) := by
  have key := rrefuses_p3 a b c d codeList (by decide) codes_four codeList [] rfl
  refine (key.cast fun k => ?_).lim
  rfl
end Go.Proofs.YtodnllhjikeafaaGreatDoor.Ev
