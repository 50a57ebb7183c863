/- The law RefidParses, plain. -/
import Derived.Test.YtodnllhjikeafaaGreatDoorPuRefidC
namespace Go.Proofs.YtodnllhjikeafaaGreatDoor.Ev
open Go
set_option linter.unusedVariables false
set_option linter.unusedSimpArgs false
set_option maxRecDepth 20000
theorem rp_num (c : Int) : g_hnum_Num ((), ((errOf c, ()), ())) = some ((), ((c, ()), ())) := by
  simp only [g_hnum_Num, f_hnum_Num_m, errOf]
  by_cases h : c = 0
  · subst h; rfl
  · rw [if_neg h]
    simp only [fitsS_dec, Option.bind_some, Option.isNone_none, Option.isNone_some, Option.isSome_none, Option.isSome_some, Bool.not_true, Bool.not_false, cond_true, cond_false, cond_dec, beq_int, bne_int, not_dec, Option.getD_some]
    rw [if_pos h]
def codeList : List ByteArray := [⟨#[65, 67, 83, 84]⟩, ⟨#[65, 85, 84, 72]⟩, ⟨#[65, 85, 84, 79]⟩, ⟨#[66, 67, 83, 84]⟩, ⟨#[67, 82, 89, 80]⟩, ⟨#[68, 69, 78, 89]⟩, ⟨#[68, 82, 79, 80]⟩, ⟨#[82, 83, 84, 82]⟩, ⟨#[73, 78, 73, 84]⟩, ⟨#[77, 67, 83, 84]⟩, ⟨#[78, 75, 69, 89]⟩, ⟨#[82, 65, 84, 69]⟩, ⟨#[82, 77, 79, 84]⟩, ⟨#[83, 84, 69, 80]⟩]
theorem codes_split : F_strings_splitSeq_1 ((⟨#[32]⟩ : ByteArray), ((⟨#[65, 67, 83, 84, 32, 65, 85, 84, 72, 32, 65, 85, 84, 79, 32, 66, 67, 83, 84, 32, 67, 82, 89, 80, 32, 68, 69, 78, 89, 32, 68, 82, 79, 80, 32, 82, 83, 84, 82, 32, 73, 78, 73, 84, 32, 77, 67, 83, 84, 32, 78, 75, 69, 89, 32, 82, 65, 84, 69, 32, 82, 77, 79, 84, 32, 83, 84, 69, 80]⟩ : ByteArray), ((0 : Int), ()))) = some codeList :=
  (Evn.some (F := fun f => f_strings_splitSeq_1_m (f_strings_splitSeq_1_t f) ((⟨#[32]⟩ : ByteArray), ((⟨#[65, 67, 83, 84, 32, 65, 85, 84, 72, 32, 65, 85, 84, 79, 32, 66, 67, 83, 84, 32, 67, 82, 89, 80, 32, 68, 69, 78, 89, 32, 68, 82, 79, 80, 32, 82, 83, 84, 82, 32, 73, 78, 73, 84, 32, 77, 67, 83, 84, 32, 78, 75, 69, 89, 32, 82, 65, 84, 69, 32, 82, 77, 79, 84, 32, 83, 84, 69, 80]⟩ : ByteArray), ((0 : Int), ())))) 20 fun f => by kernel_rfl).lim
theorem refuses_rate : g_refid_Refuses ((), ((82, (65, (84, (69, ())))), ())) = some ((), ((true, ()), ())) := by
  have hT : g_strings_TrimRight ((), ((strOf [82, 65, 84, 69], ()), (((⟨#[0]⟩ : ByteArray), ()), ()))) = some ((), (((⟨#[82, 65, 84, 69]⟩ : ByteArray), ()), ())) := by kernel_rfl
  have hb : bytesOf (⟨#[82, 65, 84, 69]⟩ : ByteArray) = [82, 65, 84, 69] := by kernel_rfl
  have hc := refid_code (⟨#[82, 65, 84, 69]⟩ : ByteArray) (by decide)
  rw [hb, if_pos (by decide)] at hc
  have hN : g_refid_Name ((), ((82, (65, (84, (69, ())))), ())) = some ((), (((⟨#[82, 65, 84, 69]⟩ : ByteArray), ()), ((true, ()), ()))) := by
    simp only [g_refid_Name, f_refid_Name_m, hT, hc, fitsS_dec, Option.bind_some, Option.isNone_none, Option.isNone_some, Option.isSome_none, Option.isSome_some, Bool.not_true, Bool.not_false, cond_true, cond_false, cond_dec, beq_int, bne_int, not_dec]
  have hL : Evn (fun f => (f_refid_Refuses_t f).1 codeList (((false, ()), (((⟨#[82, 65, 84, 69]⟩ : ByteArray), ()), ())), ((), ((), ())))) ((), ((true, ()), ())) := Evn.some 20 fun f => by kernel_rfl
  refine (hL.cast fun f => ?_).lim
  simp only [f_refid_Refuses_m, hN, g_strings_SplitSeq, f_strings_SplitSeq_m, g_strings_splitSeq, f_strings_splitSeq_m, Option.bind_some]
  rw [codes_split]
  rfl
end Go.Proofs.YtodnllhjikeafaaGreatDoor.Ev
