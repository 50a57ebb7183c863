/- The law TallyParses, plain. -/
import Derived.Test.YtfhaifiipjfffaaGreatDoorPuTallyV
namespace Go.Proofs.YtfhaifiipjfffaaGreatDoor.Ev
open Go
set_option linter.unusedVariables false
set_option linter.unusedSimpArgs false
set_option maxRecDepth 4000
theorem str_is (s t : ByteArray) : (s.toList == t.toList) = decide (s = t) := by
  rw [str_eq]
  congr 1
  exact propext ⟨fun h => by_inj h, fun h => by rw [h]⟩
def kindP (name : ByteArray) : Nat → List ByteArray → Int
  | _, [] => 0
  | i, x :: l => if x = name then (i : Int) + 1 else kindP name (i + 1) l
def kindR (name : ByteArray) : Nat → List ByteArray → Int → Int
  | _, [], w => w
  | i, x :: l, w => kindR name (i + 1) l (if x = name then (i : Int) + 1 else w)
theorem kindR_not (name : ByteArray) : ∀ (l : List ByteArray) (i : Nat) (w : Int), name ∉ l → kindR name i l w = w
  | [], i, w, h => rfl
  | x :: l, i, w, h => by
    rw [kindR, if_neg (fun q => h (by rw [q]; simp)), kindR_not name l (i + 1) w (fun q => h (by simp [q]))]
theorem kindR_eq (name : ByteArray) : ∀ (l : List ByteArray) (i : Nat), l.Nodup → kindR name i l 0 = kindP name i l
  | [], i, _ => rfl
  | x :: l, i, h => by
    rw [List.nodup_cons] at h
    rw [kindR, kindP]
    by_cases c : x = name
    · rw [if_pos c, if_pos c, kindR_not name l _ _ (by rw [← c]; exact h.1)]
    · rw [if_neg c, if_neg c, kindR_eq name l (i + 1) h.2]
theorem names_nodup : namesB.Nodup := by
  have h : (decide (namesB.map bytesOf).Nodup) = true := by kernel_rfl
  have := of_decide_eq_true h
  exact List.Pairwise.of_map bytesOf (fun a b h e => h (by rw [e])) this
theorem kind_p3 (name : ByteArray) : ∀ (rest done : List ByteArray), namesB = done ++ rest →
    Evn (fun k => (f_tally_Kind_t k).1 ((), ((name, ()), ((((done.length : Nat) : Int) + 1, ()), ())))) ((), ((kindP name done.length rest, ()), ()))
  | [], done, e => by
    have hl := congrArg List.length e
    rw [show namesB.length = 12 from rfl, List.append_nil] at hl
    refine Evn.some 1 fun k => ?_
    rw [t_tally_Kind]
    simp only [f_tally_Kind_p3, fitsS_dec, Option.bind_some, Option.isNone_none, Option.isNone_some, Option.isSome_none, Option.isSome_some, Bool.not_true, Bool.not_false, cond_true, cond_false, cond_dec, beq_int, bne_int, not_dec]
    rw [if_neg (by omega)]; rfl
  | x :: rest, done, e => by
    have hl := congrArg List.length e
    rw [show namesB.length = 12 from rfl, List.length_append, List.length_cons] at hl
    have hn : nameK (((done.length : Nat) : Int) + 1) = x := by
      unfold nameK
      rw [if_pos (by omega), show (((done.length : Nat) : Int) + 1 - 1).toNat = done.length by omega, List.getD_eq_getElem?_getD, e, List.getElem?_append_right (Nat.le_refl _), Nat.sub_self]
      rfl
    have i1 : iadd .i64 (((done.length : Nat) : Int) + 1) 1 = (((done.length + 1 : Nat)) : Int) + 1 := by rw [iadd_i64 (by omega)]; rfl
    rw [kindP]
    by_cases c : x = name
    · rw [if_pos c]
      refine Evn.some 1 fun k => ?_
      rw [t_tally_Kind]
      simp only [f_tally_Kind_p3, fitsS_dec, Option.bind_some, Option.isNone_none, Option.isNone_some, Option.isSome_none, Option.isSome_some, Bool.not_true, Bool.not_false, cond_true, cond_false, cond_dec, beq_int, bne_int, not_dec, tally_name, hn, str_is]
      rw [if_pos (by omega), if_pos c]
    · rw [if_neg c]
      have ih := kind_p3 name rest (done ++ [x]) (by rw [e, List.append_assoc]; rfl)
      simp only [List.length_append, List.length_singleton] at ih
      refine ih.step fun k => ?_
      rw [t_tally_Kind]
      simp only [f_tally_Kind_p3, fitsS_dec, Option.bind_some, Option.isNone_none, Option.isNone_some, Option.isSome_none, Option.isSome_some, Bool.not_true, Bool.not_false, cond_true, cond_false, cond_dec, beq_int, bne_int, not_dec, tally_name, hn, str_is, i1]
      rw [if_pos (by omega), if_neg c]
theorem tally_kind (name : ByteArray) : g_tally_Kind ((), ((name, ()), ())) = some ((), ((kindP name 0 namesB, ()), ())) := by
  have := kind_p3 name namesB [] rfl
  exact (this.cast fun k => rfl).lim
theorem m0_alive : g_law32_alive ((), ()) = some ((), ((true, ()), ())) := by
  have h1 := tally_add (m := [0, 0, 0, 0, 0, 0, 0, 0, 0, 0, 0, 0]) ⟨rfl, by decide⟩ 7 5 (by decide)
  have hE : addE [0, 0, 0, 0, 0, 0, 0, 0, 0, 0, 0, 0] 7 5 = 0 := by decide
  have h2 := tally_count (addM [0, 0, 0, 0, 0, 0, 0, 0, 0, 0, 0, 0] 7 5) 7
  have h3 := tally_count (addM [0, 0, 0, 0, 0, 0, 0, 0, 0, 0, 0, 0] 7 5) 8
  have e1 : cntK (addM [0, 0, 0, 0, 0, 0, 0, 0, 0, 0, 0, 0] 7 5) 7 = 5 := by decide
  have e2 : cntK (addM [0, 0, 0, 0, 0, 0, 0, 0, 0, 0, 0, 0] 7 5) 8 = 0 := by decide
  have h4 := tally_name 12
  have e3 : nameK 12 = (⟨#[105, 100, 108, 101]⟩ : ByteArray) := by kernel_rfl
  have e4 : errOf 0 = none := by kernel_rfl
  have h0 : g_tally_New ((), ()) = some ((tU [0, 0, 0, 0, 0, 0, 0, 0, 0, 0, 0, 0], ()), ((), ())) := rfl
  rw [hE, e4] at h1
  rw [e1] at h2
  rw [e2] at h3
  rw [e3] at h4
  simp only [g_law32_alive, f_law32_alive_m, h0, h1, h2, h3, h4, fitsS_dec, Option.bind_some, Option.isNone_none, Option.isNone_some, Option.isSome_none, Option.isSome_some, Bool.not_true, Bool.not_false, cond_true, cond_false, cond_dec, beq_int, bne_int, not_dec]
  rw [str_eq]
  simp
theorem tp_p22 (s : ByteArray) (hs : s.size ≤ 1000) (kind : Int) (name : ByteArray) : Evn (fun k => (f_law32_TallyParses_t k).2.1 ((), ((s, ()), ((kind, ()), ((name, ()), ((kindP name 0 namesB, ()), ((nameK kind, ()), ()))))))) ((), ((true, ()), ())) := by
  have h1 := tally_kind name
  have h2 := tally_name kind
  have h3 := tally_parse s (by omega)
  have h4 := ref32_parse s (by omega)
  have hq : ∀ ws, rowsP 12 0 (rowsA [] (bytesOf s)) = some ws → ws.length = 12 ∧ ∀ w ∈ ws, wOk w := fun ws h => by
    unfold rowsP at h
    split at h
    · rename_i hc
      have := rowsQ_ok _ _ _ h
      refine ⟨by rw [this.1, List.length_take]; omega, this.2⟩
    · cases h
  have h5 := num_num 2
  have h6 := num_num 5
  rw [show errOf 2 = some 2 from rfl] at h5
  rw [show errOf 5 = some 5 from rfl] at h6
  generalize rowsP 12 0 (rowsA [] (bytesOf s)) = P at h3 h4 hq
  refine Evn.some 1 fun k => ?_
  rw [t_law32_TallyParses]
  cases P with
  | none =>
    simp only [outR, outF] at h3 h4
    simp only [f_law32_TallyParses_p22, h1, h2, h3, h4, h5, str_is, fitsS_dec, Option.bind_some, Option.isNone_none, Option.isNone_some, Option.isSome_none, Option.isSome_some, Bool.not_true, Bool.not_false, cond_true, cond_false, cond_dec, beq_int, bne_int, not_dec]
    simp
  | some ws =>
    obtain ⟨q1, q2⟩ := hq ws rfl
    simp only [outR, outF, out2] at h3 h4
    by_cases c : ∀ w ∈ ws, val10 w ≤ 9223372036854775807
    · rw [if_pos c] at h3 h4
      have hl : (ws.map val10).length = 12 := by rw [List.length_map, q1]
      generalize ws.map val10 = m at *
      have h7 := tally_all m
      have h8 := same_list hl hl
      have h9 : g_tally_Same ((), ((some (tN m), ()), ((none, ()), ()))) = some ((), ((false, ()), ())) := rfl
      simp only [tU, tN] at h3 h4 h7 h9
      simp only [f_law32_TallyParses_p22, h1, h2, h3, h4, h7, h8, h9, str_is, fitsS_dec, Option.bind_some, Option.isNone_none, Option.isNone_some, Option.isSome_none, Option.isSome_some, Bool.not_true, Bool.not_false, cond_true, cond_false, cond_dec, beq_int, bne_int, not_dec]
      simp
    · rw [if_neg c] at h3 h4
      simp only [f_law32_TallyParses_p22, h1, h2, h3, h4, h6, str_is, fitsS_dec, Option.bind_some, Option.isNone_none, Option.isNone_some, Option.isSome_none, Option.isSome_some, Bool.not_true, Bool.not_false, cond_true, cond_false, cond_dec, beq_int, bne_int, not_dec]
      simp
theorem tp_p15 (s : ByteArray) (hs : s.size ≤ 1000) (kind : Int) (name : ByteArray) : ∀ (rest done : List ByteArray) (w : Int), namesB = done ++ rest → kindR name done.length rest w = kindP name 0 namesB →
    Evn (fun k => (f_law32_TallyParses_t k).1 ((namesB, ()), ((s, ()), ((kind, ()), ((name, ()), ((w, ()), ((), ((12, ()), (((done.length : Int), ()), ()))))))))) ((), ((true, ()), ()))
  | [], done, w, e, hw => by
    have hl := congrArg List.length e
    rw [show namesB.length = 12 from rfl, List.append_nil] at hl
    rw [kindR] at hw
    subst hw
    have h22 := tp_p22 s hs kind name
    have is1 : ∀ k : Int, 1 ≤ k → k ≤ 12 → isub .i64 k 1 = k - 1 := fun k h1 h2 => isub_i64 (by omega)
    refine h22.step fun k => ?_
    rw [t_law32_TallyParses]
    simp only [f_law32_TallyParses_p15, fitsS_dec, Option.bind_some, Option.isNone_none, Option.isNone_some, Option.isSome_none, Option.isSome_some, Bool.not_true, Bool.not_false, cond_true, cond_false, cond_dec, beq_int, bne_int, not_dec, ref32_names, and_dec, ge_iff_le]
    rw [if_neg (by omega)]
    by_cases c1 : 1 ≤ kind
    · by_cases c2 : kind ≤ 12
      · have hb : (0 : Int) ≤ kind - 1 ∧ kind - 1 < (namesB.length : Int) := by rw [show (namesB.length : Int) = 12 from rfl]; omega
        have hn : nameK kind = gd .str namesB (kind - 1) := by unfold nameK; rw [if_pos ⟨c1, c2⟩]; rfl
        rw [if_pos c1, if_pos c2, is1 kind c1 c2, if_pos hb, hn]
      · have hn : nameK kind = ⟨#[]⟩ := if_neg fun q => c2 q.2
        rw [if_pos c1, if_neg c2, hn]
    · have hn : nameK kind = ⟨#[]⟩ := if_neg fun q => c1 q.1
      rw [if_neg c1, hn]
  | x :: rest, done, w, e, hw => by
    have hl := congrArg List.length e
    rw [show namesB.length = 12 from rfl, List.length_append, List.length_cons] at hl
    have hg : gd .str namesB (done.length : Int) = x := by
      show namesB.getD (done.length : Int).toNat _ = _
      rw [Int.toNat_natCast, List.getD_eq_getElem?_getD, e, List.getElem?_append_right (Nat.le_refl _), Nat.sub_self]
      rfl
    have i1 : iadd .i64 (done.length : Int) 1 = (done.length : Int) + 1 := iadd_i64 (by omega)
    have hb : (0 : Int) ≤ (done.length : Int) ∧ (done.length : Int) < (namesB.length : Int) := by rw [show (namesB.length : Int) = 12 from rfl]; omega
    rw [kindR] at hw
    have ih := tp_p15 s hs kind name rest (done ++ [x]) _ (by rw [e, List.append_assoc]; rfl) (by rw [List.length_append]; exact hw)
    simp only [List.length_append, List.length_singleton] at ih
    refine ih.step fun k => ?_
    rw [t_law32_TallyParses]
    simp only [f_law32_TallyParses_p15, fitsS_dec, Option.bind_some, Option.isNone_none, Option.isNone_some, Option.isSome_none, Option.isSome_some, Bool.not_true, Bool.not_false, cond_true, cond_false, cond_dec, beq_int, bne_int, not_dec, and_dec, hg, str_is, i1, if_pos hb]
    rw [if_pos (by omega)]
    by_cases c : x = name
    · rw [if_pos c, if_pos c]; rfl
    · rw [if_neg c, if_neg c]; rfl
theorem tally_parses (s : ByteArray) (kind : Int) (name : ByteArray) : g_law32_TallyParses ((), ((s, ()), ((kind, ()), ((name, ()), ())))) = some ((), ((true, ()), ())) := by
  by_cases c1 : 1000 < (s.size : Int)
  · refine (Evn.const fun j => ?_).lim
    simp only [f_law32_TallyParses_m, m0_alive, fitsS_dec, Option.bind_some, Option.isNone_none, Option.isNone_some, Option.isSome_none, Option.isSome_some, Bool.not_true, Bool.not_false, cond_true, cond_false, cond_dec, beq_int, bne_int, not_dec, gt_iff_lt]
    rw [if_pos c1]
  by_cases c2 : 100 < (name.size : Int)
  · refine (Evn.const fun j => ?_).lim
    simp only [f_law32_TallyParses_m, m0_alive, fitsS_dec, Option.bind_some, Option.isNone_none, Option.isNone_some, Option.isSome_none, Option.isSome_some, Bool.not_true, Bool.not_false, cond_true, cond_false, cond_dec, beq_int, bne_int, not_dec, gt_iff_lt]
    rw [if_neg c1, if_pos c2]
  have n1 : g_tally_Tally_Sum ((), ((none, ()), (([], ()), ()))) = some ((), ((0, ()), ((some 8, ()), ()))) := (Evn.const fun j => rfl).lim
  have n2 : g_tally_Tally_Add ((), ((none, ()), ((1, ()), ((1, ()), ())))) = some ((), ((some 8, ()), ())) := (Evn.const fun j => rfl).lim
  have n3 : g_tally_Tally_Count ((), ((none, ()), ((1, ()), ()))) = some ((), ((0, ()), ())) := by kernel_rfl
  have n4 : g_tally_Tally_Text ((), ((none, ()), ())) = some ((), (((⟨#[]⟩ : ByteArray), ()), ())) := (Evn.const fun j => rfl).lim
  have n5 : g_tally_Tally_Copy ((), ((none, ()), ())) = some ((), ((none, ()), ())) := rfl
  have n6 : g_tally_Tally_All ((), ((none, ()), ())) = some ((), ((0, (0, (0, (0, (0, (0, (0, (0, (0, (0, (0, (0, ())))))))))))), ())) := rfl
  have n7 : g_tally_Same ((), ((none, ()), ((none, ()), ()))) = some ((), ((true, ()), ())) := rfl
  have n8 : g_hnum_Is ((), ((some 8, ()), ((8, ()), ()))) = some ((), ((true, ()), ())) := by kernel_rfl
  have h15 := tp_p15 s (by omega) kind name namesB [] 0 rfl (kindR_eq name namesB 0 names_nodup)
  refine (h15.cast fun j => ?_).lim
  simp only [f_law32_TallyParses_m, m0_alive, n1, n2, n3, n4, n5, n6, n7, n8, ref32_names, str_is, fitsS_dec, Option.bind_some, Option.isNone_none, Option.isNone_some, Option.isSome_none, Option.isSome_some, Bool.not_true, Bool.not_false, cond_true, cond_false, cond_dec, beq_int, bne_int, not_dec, gt_iff_lt]
  rw [if_neg c1, if_neg c2]
  simp
  rfl
end Go.Proofs.YtfhaifiipjfffaaGreatDoor.Ev
