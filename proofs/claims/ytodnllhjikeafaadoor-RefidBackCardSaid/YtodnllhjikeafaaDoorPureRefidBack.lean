/- The law RefidBack, plain. -/
import Derived.Test.YtodnllhjikeafaaDoorPureRefidTexts
namespace Go.Proofs.YtodnllhjikeafaaDoor.Ev
open Go
set_option linter.unusedVariables false
set_option linter.unusedSimpArgs false
theorem err_of_zero {e : Int} : errOf e = none ↔ e = 0 := by
  unfold errOf
  by_cases h : e = 0
  · simp [h]
  · simp [h]
theorem addr_size {a b c d : Int} (ha : 0 ≤ a ∧ a < 256) (hb : 0 ≤ b ∧ b < 256) (hc : 0 ≤ c ∧ c < 256) (hd : 0 ≤ d ∧ d < 256) : okBy (addrL [a, b, c, d]) ∧ (addrL [a, b, c, d]).length ≤ 100 ∧ 46 ∈ addrL [a, b, c, d] := by
  have la := pd_len ha
  have lb := pd_len hb
  have lc := pd_len hc
  have ld := pd_len hd
  have oo : ∀ {x : Int}, 0 ≤ x ∧ x < 256 → okBy (pd1 x) := fun {x} hx y hy => by
    have := (padd_row (n := x.toNat) (by omega)).1.2.1 y hy
    unfold isF at this; omega
  rw [addr_four]
  refine ⟨fun x hx => ?_, by simp only [List.length_append, List.length_cons]; omega, by simp⟩
  simp only [List.mem_append, List.mem_cons] at hx
  rcases hx with hx | rfl | hx | rfl | hx | rfl | hx
  · exact oo ha x hx
  · decide
  · exact oo hb x hx
  · decide
  · exact oo hc x hx
  · decide
  · exact oo hd x hx
/-- A code's four bytes are its text and noughts behind. -/
theorem code_trim {w : List Int} (h : codeOk w) (ho : okBy w) : ∃ a b c d : Int, okBy [a, b, c, d] ∧ codeV w = (a, (b, (c, (d, ())))) ∧ trim0 [a, b, c, d] = w := by
  have nz : ∀ x ∈ w, x ≠ 0 := fun x hx q => by
    have := h.2 x hx
    unfold rcoded at this; omega
  have hl := h.1
  match w, hl with
  | [a], _ =>
    refine ⟨a, 0, 0, 0, fun x hx => ?_, rfl, ?_⟩
    · simp only [List.mem_cons, List.not_mem_nil, or_false] at hx
      rcases hx with rfl | rfl | rfl | rfl
      · exact ho x (by simp)
      all_goals omega
    · rw [trim4]; simp [nz a (by simp)]
  | [a, b], _ =>
    refine ⟨a, b, 0, 0, fun x hx => ?_, rfl, ?_⟩
    · simp only [List.mem_cons, List.not_mem_nil, or_false] at hx
      rcases hx with rfl | rfl | rfl | rfl
      · exact ho x (by simp)
      · exact ho x (by simp)
      all_goals omega
    · rw [trim4]; simp [nz b (by simp)]
  | [a, b, c], _ =>
    refine ⟨a, b, c, 0, fun x hx => ?_, rfl, ?_⟩
    · simp only [List.mem_cons, List.not_mem_nil, or_false] at hx
      rcases hx with rfl | rfl | rfl | rfl
      · exact ho x (by simp)
      · exact ho x (by simp)
      · exact ho x (by simp)
      all_goals omega
    · rw [trim4]; simp [nz c (by simp)]
  | [a, b, c, d], _ =>
    refine ⟨a, b, c, d, ho, rfl, ?_⟩
    rw [trim4]; simp [nz d (by simp)]
  | [], hl => simp at hl
  | _ :: _ :: _ :: _ :: _ :: _, hl => simp at hl
/-- Four bytes with a name are the name's code. -/
theorem trim_code {a b c d : Int} (h : codeOk (trim0 [a, b, c, d])) : codeV (trim0 [a, b, c, d]) = (a, (b, (c, (d, ())))) := by
  rw [trim4] at h ⊢
  by_cases hd : d = 0
  · subst hd
    by_cases hc : c = 0
    · subst hc
      by_cases hb : b = 0
      · subst hb
        by_cases ha : a = 0
        · subst ha; simp [codeOk] at h
        · simp [ha, codeV]
      · simp [hb, codeV]
    · simp [hc, codeV]
  · simp [hd, codeV]
theorem rb_p18 (s : ByteArray) (hs : s.size ≤ 100) : Evn (fun k => (f_law30_RefidBack_t k).1 ((), ((s, ()), ()))) ((), ((true, ()), ())) := by
  obtain ⟨q, e, h1, h2⟩ := address_prog s hs
  refine Evn.some 1 fun k => ?_
  rw [t_law30_RefidBack]
  by_cases c : e = 0
  · subst c
    obtain ⟨a, b, c, d, ho, e1, e2⟩ := addr_back (by_ok s) (by rw [h2])
    rw [h2] at e1
    simp only at e1
    subst e1
    have ha := refid_addr (ho a (by simp)) (ho b (by simp)) (ho c (by simp)) (ho d (by simp))
    rw [e2, str_by] at ha
    have e3 : errOf 0 = none := err_of_zero.2 rfl
    simp only [f_law30_RefidBack_p18, h1, e3, ha, fitsS_dec, Option.bind_some, Option.isNone_none, Option.isNone_some, Option.isSome_none, Option.isSome_some, Bool.not_true, Bool.not_false, cond_true, cond_false, cond_dec, beq_int, bne_int, not_dec]
    simp
  · have e3 : (errOf e).isNone = false := by
      cases he : errOf e with
      | none => exact absurd (err_of_zero.1 he) c
      | some x => rfl
    have hq : q = z4 := by
      have := h2
      unfold refA at this
      split at this
      · simp only [Prod.mk.injEq] at this; exact this.1.symm
      split at this
      · split at this
        · simp only [Prod.mk.injEq] at this; exact this.1.symm
        · simp only [Prod.mk.injEq] at this; exact absurd this.2.1.1.symm c
      · simp only [Prod.mk.injEq] at this; exact this.1.symm
    subst hq
    simp only [f_law30_RefidBack_p18, h1, e3, fitsS_dec, Option.bind_some, Option.isNone_none, Option.isNone_some, Option.isSome_none, Option.isSome_some, Bool.not_true, Bool.not_false, cond_true, cond_false, cond_dec, beq_int, bne_int, not_dec]
    simp
theorem refid_back {a b c d : Int} (ha : 0 ≤ a ∧ a < 256) (hb : 0 ≤ b ∧ b < 256) (hc : 0 ≤ c ∧ c < 256) (hd : 0 ≤ d ∧ d < 256) (s : ByteArray) {n : Int} (hn : 0 ≤ n ∧ n < 4294967296) : g_law30_RefidBack ((), ((a, (b, (c, (d, ())))), ((s, ()), ((n, ()), ())))) = some ((), ((true, ()), ())) := by
  have h : okBy [a, b, c, d] := fun x hx => by
    simp only [List.mem_cons, List.not_mem_nil, or_false] at hx
    rcases hx with rfl | rfl | rfl | rfl <;> assumption
  have hr := refid_addr ha hb hc hd
  obtain ⟨ho, hz, hp⟩ := addr_size ha hb hc hd
  have hbs := by_str ho
  have e3 : errOf 0 = none := err_of_zero.2 rfl
  obtain ⟨q, e, h1, h2⟩ := address_prog (strOf (addrL [a, b, c, d])) (by rw [str_size]; exact hz)
  rw [hbs, addr_rows h] at h2
  simp only [Prod.mk.injEq, and_true] at h2
  obtain ⟨rfl, rfl⟩ := h2
  have hpp := parse_prog (strOf (addrL [a, b, c, d])) (by rw [str_size]; exact hz) (by rw [hbs]; exact hp)
  rw [h1] at hpp
  rw [e3] at h1 hpp
  obtain ⟨n1, n2, n3, n4, f1, f2, f3⟩ := refid_of hn
  have hnum := refid_number f2
  rw [← f1, wordv_eq n 4 (by decide) hn.1 (by omega)] at hnum
  have hnm := refid_name a b c d h
  by_cases c0 : 100 < (s.size : Int)
  · refine (Evn.const fun k => ?_).lim
    simp only [f_law30_RefidBack_m, refid_alive, fitsS_dec, Option.bind_some, Option.isNone_none, Option.isNone_some, Option.isSome_none, Option.isSome_some, Bool.not_true, Bool.not_false, cond_true, cond_false, cond_dec, beq_int, bne_int, not_dec, gt_iff_lt]
    rw [if_pos c0]
  have hlast := rb_p18 s (by omega)
  refine (hlast.cast fun k => ?_).lim
  simp only [f_law30_RefidBack_m, refid_alive, fitsS_dec, Option.bind_some, Option.isNone_none, Option.isNone_some, Option.isSome_none, Option.isSome_some, Bool.not_true, Bool.not_false, cond_true, cond_false, cond_dec, beq_int, bne_int, not_dec, gt_iff_lt]
  rw [if_neg c0]
  simp only [hr, h1, hpp, f3, hnum, hnm, fitsS_dec, Option.bind_some, Option.isNone_none, Option.isNone_some, Option.isSome_none, Option.isSome_some, Bool.not_true, Bool.not_false, cond_true, cond_false, cond_dec, beq_int, bne_int, not_dec]
  have hcs := refid_code s (by omega)
  have hct := refid_code (strOf (nameL [a, b, c, d])) (by
    rw [str_size]; unfold nameL
    have := name_len [a, b, c, d]
    simp only [List.length_cons, List.length_nil] at this
    split
    · omega
    · simp)
  have e5 : codeOk (bytesOf s) → ∃ p1 p2 p3 p4 : Int, g_refid_Code ((), ((s, ()), ())) = some ((), ((p1, (p2, (p3, (p4, ())))), ((none, ()), ()))) ∧ g_refid_Name ((), ((p1, (p2, (p3, (p4, ())))), ())) = some ((), ((s, ()), ((true, ()), ()))) := fun k => by
    obtain ⟨p1, p2, p3, p4, g1, g2, g3⟩ := code_trim k (by_ok s)
    have hx := refid_name p1 p2 p3 p4 g1
    unfold nameL at hx
    rw [g3, if_pos k, str_by, decide_eq_true k] at hx
    exact ⟨p1, p2, p3, p4, by rw [hcs, if_pos k, g2], hx⟩
  have tt : (s.toList == s.toList) = true := by rw [str_eq]; simp
  by_cases kn : codeOk (trim0 [a, b, c, d])
  · have hnl : nameL [a, b, c, d] = trim0 [a, b, c, d] := if_pos kn
    rw [hnl, by_str (name_ok h), if_pos kn, trim_code kn] at hct
    simp only [if_pos kn, hnl, hct, fitsS_dec, Option.bind_some, Option.isNone_none, Option.isNone_some, Option.isSome_none, Option.isSome_some, Bool.not_true, Bool.not_false, cond_true, cond_false, cond_dec, beq_int, bne_int, not_dec]
    by_cases k : codeOk (bytesOf s)
    · obtain ⟨p1, p2, p3, p4, g1, g2⟩ := e5 k
      simp [g1, g2, tt]
    · rw [if_neg k] at hcs
      simp [hcs]
  · simp only [if_neg kn]
    by_cases k : codeOk (bytesOf s)
    · obtain ⟨p1, p2, p3, p4, g1, g2⟩ := e5 k
      simp [g1, g2, tt]
    · rw [if_neg k] at hcs
      simp [hcs]
theorem refid_back_all {B : Nat} (a b c d : Int) (s : ByteArray) (n : Int) (fa : ArgOk B (.int .u8) a) (fb : ArgOk B (.int .u8) b) (fc : ArgOk B (.int .u8) c) (fd : ArgOk B (.int .u8) d) (fn : ArgOk B (.int .u32) n) : g_law30_RefidBack ((), ((a, (b, (c, (d, ())))), ((s, ()), ((n, ()), ())))) = some ((), ((true, ()), ())) := refid_back (arg_u8 fa) (arg_u8 fb) (arg_u8 fc) (arg_u8 fd) s (arg_u32 fn)
end Go.Proofs.YtodnllhjikeafaaDoor.Ev
