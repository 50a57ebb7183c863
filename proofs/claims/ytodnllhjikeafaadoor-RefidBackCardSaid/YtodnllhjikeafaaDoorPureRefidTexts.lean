/- The law RefidTexts, plain. -/
import Derived.Test.YtodnllhjikeafaaDoorPuRefidG
import Derived.Test.YtodnllhjikeafaaDoorPuRefidH
import Derived.Test.YtodnllhjikeafaaDoorPuOne
import Derived.Test.YtodnllhjikeafaaDoorPuGetU32
import Derived.Test.YtodnllhjikeafaaDoorPuPutU32
namespace Go.Proofs.YtodnllhjikeafaaDoor.Ev
open Go
set_option linter.unusedVariables false
set_option linter.unusedSimpArgs false
theorem wordv_four {a b c d : Int} (h : okBy [a, b, c, d]) : 0 ≤ wordv [a, b, c, d] 0 ∧ wordv [a, b, c, d] 0 < 4294967296 := by
  have := wordv_lt (l := [a, b, c, d]) h (by simp)
  simpa using this
theorem refid_number {a b c d : Int} (h : okBy [a, b, c, d]) : g_refid_Number ((), ((a, (b, (c, (d, ())))), ())) = some ((), ((wordv [a, b, c, d] 0, ()), ())) := by
  have hg := get_u32 [a, b, c, d] h (by simp) 0
  rw [if_neg (by simp), if_neg (by simp), show ([a, b, c, d].take (Int.toNat 0 + 4)).drop (Int.toNat 0) = [a, b, c, d] from rfl, iconv_u32, show wordv [a, b, c, d] 0 % 4294967296 = wordv [a, b, c, d] 0 by have := wordv_four h; omega] at hg
  simp only [g_refid_Number, f_refid_Number_m, hg, fitsS_dec, Option.bind_some, Option.isNone_none, Option.isNone_some, Option.isSome_none, Option.isSome_some, Bool.not_true, Bool.not_false, cond_true, cond_false, cond_dec, beq_int, bne_int, not_dec]
theorem refid_of {n : Int} (h : 0 ≤ n ∧ n < 4294967296) : ∃ a b c d : Int, be n 4 = [a, b, c, d] ∧ okBy [a, b, c, d] ∧ g_refid_Of ((), ((n, ()), ())) = some ((), ((a, (b, (c, (d, ())))), ())) := by
  have hp := put_u32 [] [n] (by intro w hw; rw [List.mem_singleton.1 hw]; omega) (by simp)
  have hb := be_byte n 4
  obtain ⟨a, b, c, d, e⟩ : ∃ a b c d : Int, be n 4 = [a, b, c, d] := ⟨_, _, _, _, rfl⟩
  rw [e] at hb
  refine ⟨a, b, c, d, e, hb, ?_⟩
  simp only [List.flatMap_cons, List.flatMap_nil, e, List.nil_append, List.append_nil] at hp
  simp only [g_refid_Of, f_refid_Of_m, hp, fitsS_dec, Option.bind_some, Option.isNone_none, Option.isNone_some, Option.isSome_none, Option.isSome_some, Bool.not_true, Bool.not_false, cond_true, cond_false, cond_dec, beq_int, bne_int, not_dec]
  rw [if_pos (by simp)]
  rfl
theorem refid_text {a b c d : Int} (h : okBy [a, b, c, d]) (v : Int) : g_refid_Text ((), ((a, (b, (c, (d, ())))), ((v, ()), ()))) = some ((), ((strOf (if codeOk (trim0 [a, b, c, d]) ∧ (v = 0 ∨ v = 1) then nameL [a, b, c, d] else addrL [a, b, c, d]), ()), ())) := by
  have hn := refid_name a b c d h
  have ha := refid_addr (h a (by simp)) (h b (by simp)) (h c (by simp)) (h d (by simp))
  simp only [g_refid_Text, f_refid_Text_m, hn, ha, fitsS_dec, Option.bind_some, Option.isNone_none, Option.isNone_some, Option.isSome_none, Option.isSome_some, Bool.not_true, Bool.not_false, cond_true, cond_false, cond_dec, beq_int, bne_int, not_dec]
  by_cases c1 : codeOk (trim0 [a, b, c, d])
  · by_cases c2 : v = 0
    · simp [c1, c2]
    · by_cases c3 : v = 1
      · simp [c1, c3]
      · simp [c1, c2, c3]
  · simp [c1]
theorem ref30_text {a b c d : Int} (h : okBy [a, b, c, d]) (v : Int) : g_ref30_Text ((), ((a, (b, (c, (d, ())))), ((v, ()), ()))) = some ((), ((strOf (if codeOk (trim0 [a, b, c, d]) ∧ (v = 0 ∨ v = 1) then nameL [a, b, c, d] else addrL [a, b, c, d]), ()), ())) := by
  have hn := ref30_name a b c d h
  have ha := ref30_addr (h a (by simp)) (h b (by simp)) (h c (by simp)) (h d (by simp))
  simp only [g_ref30_Text, f_ref30_Text_m, hn, ha, fitsS_dec, Option.bind_some, Option.isNone_none, Option.isNone_some, Option.isSome_none, Option.isSome_some, Bool.not_true, Bool.not_false, cond_true, cond_false, cond_dec, beq_int, bne_int, not_dec, ge_iff_le]
  by_cases c1 : codeOk (trim0 [a, b, c, d])
  · by_cases c2 : v = 0 ∨ v = 1
    · have e1 : 0 ≤ v := by omega
      have e2 : v ≤ 1 := by omega
      simp [c1, c2, e1, e2]
    · by_cases e1 : 0 ≤ v
      · have e2 : ¬ v ≤ 1 := by omega
        simp [c1, c2, e1, e2]
      · simp [c1, c2, e1]
  · simp [c1]
theorem refid_texts {a b c d : Int} (ha : 0 ≤ a ∧ a < 256) (hb : 0 ≤ b ∧ b < 256) (hc : 0 ≤ c ∧ c < 256) (hd : 0 ≤ d ∧ d < 256) (v : Int) : g_law30_RefidTexts ((), ((a, (b, (c, (d, ())))), ((v, ()), ()))) = some ((), ((true, ()), ())) := by
  have h : okBy [a, b, c, d] := fun x hx => by
    simp only [List.mem_cons, List.not_mem_nil, or_false] at hx
    rcases hx with rfl | rfl | rfl | rfl <;> assumption
  have hw := wordv_four h
  obtain ⟨p, q, r, s, e1, e2, e3⟩ := refid_of hw
  rw [be_wordv 4 [a, b, c, d] rfl h (by decide)] at e1
  simp only [List.cons.injEq, and_true] at e1
  obtain ⟨rfl, rfl, rfl, rfl⟩ := e1
  have hv := ref03_value [a, b, c, d] h (by simp)
  simp only [g_law30_RefidTexts, f_law30_RefidTexts_m, refid_alive, refid_name a b c d h, ref30_name a b c d h, refid_number h, refid_addr ha hb hc hd, ref30_addr ha hb hc hd, refid_text h v, ref30_text h v, refid_refuses h, ref30_refuses a b c d, hv, e3, fitsS_dec, Option.bind_some, Option.isNone_none, Option.isNone_some, Option.isSome_none, Option.isSome_some, Bool.not_true, Bool.not_false, cond_true, cond_false, cond_dec, beq_int, bne_int, not_dec]
  have ic : iconv .u64 (wordv [a, b, c, d] 0) = wordv [a, b, c, d] 0 := by rw [iconv_u64]; omega
  simp [ic]
theorem refid_texts_all {B : Nat} (a b c d v : Int) (fa : ArgOk B (.int .u8) a) (fb : ArgOk B (.int .u8) b) (fc : ArgOk B (.int .u8) c) (fd : ArgOk B (.int .u8) d) : g_law30_RefidTexts ((), ((a, (b, (c, (d, ())))), ((v, ()), ()))) = some ((), ((true, ()), ())) := refid_texts (arg_u8 fa) (arg_u8 fb) (arg_u8 fc) (arg_u8 fd) v
end Go.Proofs.YtodnllhjikeafaaDoor.Ev
