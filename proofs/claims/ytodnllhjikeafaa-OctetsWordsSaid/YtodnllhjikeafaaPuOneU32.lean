/- Words of one size. -/
import Derived.Test.YtodnllhjikeafaaPuOne
import Derived.Test.YtodnllhjikeafaaPuGetU32
import Derived.Test.YtodnllhjikeafaaPuPutU32
import Derived.Test.YtodnllhjikeafaaPuListU32
import Derived.Test.YtodnllhjikeafaaPuClone
namespace Go.Proofs.Ytodnllhjikeafaa.Ev
open Go
set_option linter.unusedVariables false
set_option linter.unusedSimpArgs false
theorem one_get_u32 (b : List Int) (hb : bytesL b) (hl : b.length ≤ 100000) (at_ : Int) : g_octets_Get_u32 ((), ((b, ()), ((at_, ()), ()))) = some ((), ((wV b at_ 4, ()), ((errOf (wE b at_ 4), ()), ()))) := by
  have h := get_u32 b hb (by omega) at_
  rw [h]
  by_cases c1 : at_ < 0 ∨ (b.length : Int) < at_
  · have e : wE b at_ 4 = 1 := if_pos c1
    unfold wV
    rw [if_pos c1, e]; rfl
  · by_cases c2 : (b.length : Int) - at_ < 4
    · have e : wE b at_ 4 = 4 := by unfold wE; rw [if_neg c1, if_pos (by omega)]
      unfold wV
      rw [if_neg c1, if_pos c2, e]; rfl
    · have e : wE b at_ 4 = 0 := by unfold wE; rw [if_neg c1, if_neg (by omega)]
      have hr := wV_range hb (at_ := at_) (s := 4) (by decide)
      have hv : wV b at_ 4 = wordv ((b.drop at_.toNat).take 4) 0 := if_pos e
      rw [hv, show (256 : Int) ^ 4 = 4294967296 from rfl] at hr
      rw [if_neg c1, if_neg c2, e, hv, errOf_zero, List.drop_take, show at_.toNat + 4 - at_.toNat = 4 by omega]
      try rw [iconv_u32, Int.emod_eq_of_lt hr.1 hr.2]
def setV_u32 (b : List Int) (at_ w : Int) : List Int := if wE b at_ 4 = 0 then b.take at_.toNat ++ (be w 4 ++ b.drop (at_.toNat + 4)) else []
theorem one_set_u32 (b : List Int) (hb : bytesL b) (hl : b.length ≤ 100000) (at_ w : Int) (hw : 0 ≤ w ∧ w < 4294967296) : g_octets_Set_u32 ((), ((b, ()), ((at_, ()), ((w, ()), ())))) = some ((setV_u32 b at_ w, ()), ((), ((errOf (wE b at_ 4), ()), ()))) := by
  have hg := one_get_u32 b hb hl at_
  have hp := put_u32 [] [w] (by intro x hx; rw [List.mem_singleton.1 hx]; exact hw) (by simp)
  simp only [List.nil_append, List.flatMap_cons, List.flatMap_nil, List.append_nil] at hp
  simp only [g_octets_Set_u32, f_octets_Set_u32_m, hg, clone b (by omega), hp, fitsS_dec, Option.bind_some, Option.isNone_none, Option.isNone_some, Option.isSome_none, Option.isSome_some, Bool.not_true, Bool.not_false, cond_true, cond_false, cond_dec, beq_int, bne_int, not_dec, errOf_none, and_dec]
  unfold setV_u32
  by_cases c : wE b at_ 4 = 0
  · have := wE_zero.1 c
    simp only [c, not_true_eq_false, if_false, if_true, errOf_zero]
    rw [if_pos (by omega)]
    have hm : min 4 (b.length - at_.toNat) = 4 := by omega
    simp only [cpL, length_be, hm]
    rw [List.take_of_length_le (l := be w 4) (by rw [length_be]; omega)]
  · simp only [c, not_false_eq_true, if_true, if_false]
theorem one_p13_u32 (b : List Int) (hb : bytesL b) (hl : b.length ≤ 300) (a m : Nat) (hm : a + m * 4 ≤ b.length) (l : List Int) (hll : l.length = m) (hg : ∀ i : Nat, i < m → gd (.int .u32) l (i : Int) = wordv (((b.drop a).drop (i * 4)).take 4) 0) : ∀ (n i : Nat), i + n = m →
    Evn (fun k => (f_law03_lists_u32_t k).1 ((l, ()), ((b, ()), (((a : Int), ()), (((4 : Int), ()), ((), (((m : Int), ()), (((i : Int), ()), ())))))))) ((), ((true, ()), ()))
  | 0, i, hi => by
    refine Evn.some 1 fun k => ?_
    rw [t_law03_lists_u32]
    simp only [f_law03_lists_u32_p13, fitsS_dec, Option.bind_some, Option.isNone_none, Option.isNone_some, Option.isSome_none, Option.isSome_some, Bool.not_true, Bool.not_false, cond_true, cond_false, cond_dec, beq_int, bne_int, not_dec]
    rw [if_neg (by omega)]
  | n + 1, i, hi => by
    have ih := one_p13_u32 b hb hl a m hm l hll hg n (i + 1) (by omega)
    refine ih.step fun k => ?_
    rw [t_law03_lists_u32]
    have hr := ref03_get b hb (by omega) ((a : Int) + (i : Int) * 4) 4 (by decide)
    have e0 : wE b ((a : Int) + (i : Int) * 4) 4 = 0 := wE_zero.2 (by omega)
    have hv : wV b ((a : Int) + (i : Int) * 4) 4 = wordv (((b.drop a).drop (i * 4)).take 4) 0 := by
      unfold wV
      rw [if_pos e0, List.drop_drop, show ((a : Int) + (i : Int) * 4).toNat = a + i * 4 by omega]
    have hrg := wV_range hb (at_ := (a : Int) + (i : Int) * 4) (s := 4) (by decide)
    rw [hv, show (256 : Int) ^ 4 = 4294967296 from rfl] at hrg
    rw [e0, hv] at hr
    simp only [show (((4 : Nat)) : Int) = 4 from rfl] at hr
    have ic : iconv .u64 (wordv (((b.drop a).drop (i * 4)).take 4) 0) = wordv (((b.drop a).drop (i * 4)).take 4) 0 := by
      rw [iconv_u64, Int.emod_eq_of_lt hrg.1 (by omega)]
    have ei : imul .i64 (i : Int) 4 = (i : Int) * 4 := imul_i64 (by omega)
    have ea : iadd .i64 (a : Int) ((i : Int) * 4) = (a : Int) + (i : Int) * 4 := iadd_i64 (by omega)
    simp only [f_law03_lists_u32_p13, fitsS_dec, Option.bind_some, Option.isNone_none, Option.isNone_some, Option.isSome_none, Option.isSome_some, Bool.not_true, Bool.not_false, cond_true, cond_false, cond_dec, beq_int, bne_int, not_dec, and_dec, ei, ea, hr, hg i (by omega), ic, ne_eq, not_true_eq_false, if_false]
    rw [if_pos (by omega), if_pos (by omega), iadd_i64 (by omega)]; rfl
theorem one_lists_u32 (b : List Int) (hb : bytesL b) (hl : b.length ≤ 300) (at_ many : Int) (ha : i64 at_) (hm : i64 many) : g_law03_lists_u32 ((), ((b, ()), ((at_, ()), ((many, ()), ((4, ()), ()))))) = some ((), ((true, ()), ())) := by
  have h := list_u32 b hb (by omega) at_ many ha hm
  have i1 : g_hnum_Is ((), ((some 1, ()), ((1, ()), ()))) = some ((), ((true, ()), ())) := rfl
  have i4 : g_hnum_Is ((), ((some 4, ()), ((4, ()), ()))) = some ((), ((true, ()), ())) := rfl
  unfold i64 at ha hm
  by_cases c1 : at_ < 0 ∨ (b.length : Int) < at_ ∨ many < 0
  · rw [if_pos c1] at h
    refine (Evn.const fun k => ?_).lim
    simp only [f_law03_lists_u32_m, h, i1, fitsS_dec, Option.bind_some, Option.isNone_none, Option.isNone_some, Option.isSome_none, Option.isSome_some, Bool.not_true, Bool.not_false, cond_true, cond_false, cond_dec, beq_int, bne_int, not_dec, gt_iff_lt, List.length_nil]
    by_cases d1 : at_ < 0
    · rw [if_pos d1]; rfl
    rw [if_neg d1]
    by_cases d2 : (b.length : Int) < at_
    · rw [if_pos d2]; rfl
    rw [if_neg d2, if_pos (by omega)]; rfl
  rw [if_neg c1] at h
  by_cases c2 : ((b.length : Int) - at_) / 4 < many
  · rw [if_pos c2] at h
    refine (Evn.const fun k => ?_).lim
    simp only [f_law03_lists_u32_m, h, i4, fitsS_dec, Option.bind_some, Option.isNone_none, Option.isNone_some, Option.isSome_none, Option.isSome_some, Bool.not_true, Bool.not_false, cond_true, cond_false, cond_dec, beq_int, bne_int, not_dec, gt_iff_lt, List.length_nil]
    rw [if_neg (by omega), if_neg (by omega), if_neg (by omega)]
    by_cases d1 : (b.length : Int) < many
    · rw [if_pos d1]; rfl
    rw [if_neg d1, imul_i64 (by omega), isub_i64 (by omega), if_pos (by omega)]; rfl
  rw [if_neg c2] at h
  obtain ⟨a, rfl⟩ := Int.eq_ofNat_of_zero_le (show 0 ≤ at_ by omega)
  obtain ⟨m, rfl⟩ := Int.eq_ofNat_of_zero_le (show 0 ≤ many by omega)
  simp only [Int.toNat_natCast] at h
  have hm2 : a + m * 4 ≤ b.length := by omega
  generalize hL : (chunks 4 m (b.drop a)).map (fun c => iconv .u32 (wordv c 0)) = L at h
  have hLl : L.length = m := by rw [← hL, List.length_map, chunks_length]
  have hg : ∀ i : Nat, i < m → gd (.int .u32) L (i : Int) = wordv (((b.drop a).drop (i * 4)).take 4) 0 := fun i hi => by
    have e0 : wE b ((a : Int) + (i : Int) * 4) 4 = 0 := wE_zero.2 (by omega)
    have hv : wV b ((a : Int) + (i : Int) * 4) 4 = wordv (((b.drop a).drop (i * 4)).take 4) 0 := by
      unfold wV
      rw [if_pos e0, List.drop_drop, show ((a : Int) + (i : Int) * 4).toNat = a + i * 4 by omega]
    have hrg := wV_range hb (at_ := (a : Int) + (i : Int) * 4) (s := 4) (by decide)
    rw [hv, show (256 : Int) ^ 4 = 4294967296 from rfl] at hrg
    have hq : L[i]? = some (wordv (((b.drop a).drop (i * 4)).take 4) 0) := by
      rw [← hL, List.getElem?_map, chunks_get 4 m _ i hi]
      simp only [Option.map_some]
      try rw [iconv_u32, Int.emod_eq_of_lt hrg.1 hrg.2]
    show L.getD (i : Int).toNat _ = _
    rw [Int.toNat_natCast, List.getD_eq_getElem?_getD, hq]; rfl
  have key := one_p13_u32 b hb hl a m hm2 L hLl hg m 0 (by omega)
  refine (key.cast fun k => ?_).lim
  simp only [f_law03_lists_u32_m, h, fitsS_dec, Option.bind_some, Option.isNone_none, Option.isNone_some, Option.isSome_none, Option.isSome_some, Bool.not_true, Bool.not_false, cond_true, cond_false, cond_dec, beq_int, bne_int, not_dec, gt_iff_lt, hLl, ne_eq, not_true_eq_false, if_false]
  rw [if_neg (by omega), if_neg (by omega), if_neg (by omega), if_neg (by omega), imul_i64 (by omega), isub_i64 (by omega), if_neg (by omega)]
  rfl
theorem one_p12_u32 (b : List Int) (hb : bytesL b) (hl : b.length ≤ 300) (at_ many w : Int) (ha : i64 at_) (hm : i64 many) (hw : 0 ≤ w ∧ w < 4294967296) :
    Evn (fun k => (f_law03_one_u32_t k).1 ((b, (setV_u32 b at_ w, ())), ((b, ()), ((at_, ()), ((many, ()), ((w, ()), (((4 : Int), ()), ((), ((wV b at_ 4, ()), ((wV b at_ 4, ()), ((wE b at_ 4, ()), ((), ((false, ()), ()))))))))))))) ((), ((true, ()), ())) := by
  have hrg := wV_range hb (at_ := at_) (s := 4) (by decide)
  rw [show (256 : Int) ^ 4 = 4294967296 from rfl] at hrg
  have hlists := one_lists_u32 b hb hl at_ many ha hm
  generalize wV b at_ 4 = x at hrg ⊢
  have n1 := ref03_number w 4 (by omega) (by decide)
  have n2 := ref03_number x 4 (by omega) (by decide)
  simp only [show (((4 : Nat)) : Int) = 4 from rfl] at n1 n2
  have ic : iconv .u64 w = w := by rw [iconv_u64, Int.emod_eq_of_lt hw.1 (by omega)]
  have hp := put_u32 b [w, x] (by intro y hy; simp only [List.mem_cons, List.not_mem_nil, or_false] at hy; rcases hy with rfl | rfl; exact hw; exact hrg) (by simp only [List.length_cons, List.length_nil]; omega)
  simp only [List.flatMap_cons, List.flatMap_nil, List.append_nil] at hp
  refine Evn.some 1 fun k => ?_
  rw [t_law03_one_u32]
  have e1 : b ++ (be w 4 ++ be x 4) = b ++ be w 4 ++ be x 4 := by rw [List.append_assoc]
  simp only [f_law03_one_u32_p12, hp, ic, n1, n2, e1, bytes_same, hlists, fitsS_dec, Option.bind_some, Option.isNone_none, Option.isNone_some, Option.isSome_none, Option.isSome_some, Bool.not_true, Bool.not_false, cond_true, cond_false, cond_dec, beq_int, bne_int, not_dec, and_dec, List.nil_append, List.length_nil, List.length_append, length_be, if_neg Bool.false_ne_true]
  by_cases c : wE b at_ 4 = 0
  · have hc := wE_zero.1 c
    unfold i64 at ha
    have es : setV_u32 b at_ w = b.take at_.toNat ++ (be w 4 ++ b.drop (at_.toNat + 4)) := if_pos c
    have t1 : List.drop (Int.toNat 0) (List.take at_.toNat b) = b.take at_.toNat := by rw [show Int.toNat 0 = 0 from rfl, List.drop_zero]
    have ea : iadd .i64 at_ 4 = at_ + 4 := iadd_i64 (by omega)
    have t2 : List.drop (Int.toNat (at_ + 4)) (List.take (Int.toNat (b.length : Int)) b) = b.drop (at_.toNat + 4) := by
      rw [show Int.toNat (b.length : Int) = b.length by omega, List.take_length, show Int.toNat (at_ + 4) = at_.toNat + 4 by omega]
    have e2 : b.take at_.toNat ++ (be w 4 ++ b.drop (at_.toNat + 4)) = b.take at_.toNat ++ be w 4 ++ b.drop (at_.toNat + 4) := by rw [List.append_assoc]
    rw [es, if_pos c]
    simp only [t1, ea, t2, e2, bytes_same, fitsS_dec, Option.bind_some, Option.isNone_none, Option.isNone_some, Option.isSome_none, Option.isSome_some, Bool.not_true, Bool.not_false, cond_true, cond_false, cond_dec, beq_int, bne_int, not_dec, List.length_take, List.length_drop]
    rw [if_pos (by omega), if_pos (by omega), if_pos (by omega), if_pos (by omega), if_pos (by omega), if_pos (by omega), if_pos (by omega), if_pos (by omega)]
  · rw [if_neg c]
    rw [if_pos (by omega), if_pos (by omega), if_pos (by omega)]
theorem one_u32 (b : List Int) (hb : bytesL b) (hl : b.length ≤ 300) (at_ many w : Int) (ha : i64 at_) (hm : i64 many) (hw : 0 ≤ w ∧ w < 4294967296) :
    g_law03_one_u32 ((), ((b, ()), ((at_, ()), ((many, ()), ((w, ()), (((4 : Int), ()), ())))))) = some ((), ((true, ()), ())) := by
  have hg := one_get_u32 b hb (by omega) at_
  have hr := ref03_get b hb (by omega) at_ 4 (by decide)
  simp only [show (((4 : Nat)) : Int) = 4 from rfl] at hr
  have hs := one_set_u32 b hb (by omega) at_ w hw
  have hrg := wV_range hb (at_ := at_) (s := 4) (by decide)
  rw [show (256 : Int) ^ 4 = 4294967296 from rfl] at hrg
  have ic : iconv .u64 (wV b at_ 4) = wV b at_ 4 := by rw [iconv_u64, Int.emod_eq_of_lt hrg.1 (by omega)]
  have hn := own_num (wE b at_ 4)
  refine ((one_p12_u32 b hb hl at_ many w ha hm hw).cast fun k => ?_).lim
  simp only [f_law03_one_u32_m, size_u32, hg, hr, hs, ic, hn, List.nil_append, List.length_nil, Nat.zero_add, fitsS_dec, Option.bind_some, Option.isNone_none, Option.isNone_some, Option.isSome_none, Option.isSome_some, Bool.not_true, Bool.not_false, cond_true, cond_false, cond_dec, beq_int, bne_int, not_dec, and_dec, ne_eq, not_true_eq_false, if_false]
  rw [if_pos (by omega)]
  by_cases c : wE b at_ 4 = 0
  · rw [if_neg (by simpa using c)]
  · rw [if_pos (by simpa using c)]
    have es : setV_u32 b at_ w = [] := if_neg c
    rw [es]
    rfl
end Go.Proofs.Ytodnllhjikeafaa.Ev
