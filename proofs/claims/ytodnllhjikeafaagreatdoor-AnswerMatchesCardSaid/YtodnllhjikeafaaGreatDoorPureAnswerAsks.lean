/- The law AnswerAsks, plain. -/
import Derived.Test.YtodnllhjikeafaaGreatDoorPuAsk
namespace Go.Proofs.YtodnllhjikeafaaGreatDoor.Ev
open Go
set_option linter.unusedVariables false
set_option linter.unusedSimpArgs false
set_option maxRecDepth 4000
def modB (v m : Int) : Bool := decide ((1 ≤ v ∧ v ≤ 4) ∧ (m = 3 ∨ m = 1 ∨ (m = 0 ∧ v = 1)))
def modV (v m : Int) : Int := if modB v m then (if m = 1 then 2 else 4) else 0
theorem answer_mode (v m : Int) : g_answer_Mode ((), ((v, ()), ((m, ()), ()))) = some ((), ((modV v m, ()), ((modB v m, ()), ()))) := by
  simp only [g_answer_Mode, f_answer_Mode_m, fitsS_dec, Option.bind_some, Option.isNone_none, Option.isNone_some, Option.isSome_none, Option.isSome_some, Bool.not_true, Bool.not_false, cond_true, cond_false, cond_dec, beq_int, bne_int, not_dec, gt_iff_lt]
  unfold modV modB
  by_cases c1 : v < 1
  · rw [if_pos c1]; simp [show ¬ 1 ≤ v by omega]
  rw [if_neg c1]
  by_cases c2 : 4 < v
  · rw [if_pos c2]; simp [show ¬ v ≤ 4 by omega]
  rw [if_neg c2]
  have h : 1 ≤ v ∧ v ≤ 4 := by omega
  by_cases c3 : m = 3
  · rw [if_pos c3]; simp [h, c3]
  rw [if_neg c3]
  by_cases c4 : m = 0
  · rw [if_pos c4]
    by_cases c5 : v = 1
    · rw [if_pos c5]; simp [c4, c5]
    · rw [if_neg c5]; simp [c4, c5]
  · rw [if_neg c4]
    by_cases c5 : m = 1
    · rw [if_pos c5]; simp [h, c5]
    · rw [if_neg c5]; simp [c3, c4, c5]
theorem ref37_mode (v m : Int) : g_ref37_Mode ((), ((v, ()), ((m, ()), ()))) = some ((), ((modV v m, ()), ((modB v m, ()), ()))) := by
  simp only [g_ref37_Mode, f_ref37_Mode_m, fitsS_dec, Option.bind_some, Option.isNone_none, Option.isNone_some, Option.isSome_none, Option.isSome_some, Bool.not_true, Bool.not_false, cond_true, cond_false, cond_dec, beq_int, bne_int, not_dec, gt_iff_lt]
  unfold modV modB
  by_cases c1 : v < 1
  · rw [if_pos c1]; simp [show ¬ 1 ≤ v by omega]
  rw [if_neg c1]
  by_cases c2 : 4 < v
  · rw [if_pos c2]; simp [show ¬ v ≤ 4 by omega]
  rw [if_neg c2]
  have h : 1 ≤ v ∧ v ≤ 4 := by omega
  by_cases c5 : m = 1
  · rw [if_pos c5]; simp [h, c5]
  rw [if_neg c5]
  by_cases c3 : m = 3
  · rw [if_pos c3]; simp [h, c3]
  rw [if_neg c3]
  by_cases c4 : m = 0
  · rw [if_pos c4]
    by_cases c5 : v = 1
    · rw [if_pos c5]; simp [c4, c5]
    · rw [if_neg c5]; simp [c4, c5]
  · rw [if_neg c4]; simp [c3, c4, c5]
def askE (x : Int) (c : List Int) : Int := if x / 8 % 8 < 1 ∨ 4 < x / 8 % 8 then 11 else if modB (x / 8 % 8) (x % 8) = false then 14 else walkE (x / 8 % 8) c
theorem answer_ask {b : List Int} {x0 x1 x2 x3 r0 r1 r2 r3 : Int} {D P A O E T : List Int} (h : Cut48 b x0 x1 x2 x3 r0 r1 r2 r3 D P A O E T) (hs : b.length ≤ 65535) : g_answer_Ask ((), ((b, ()), ())) = some (if askE x0 (b.drop 48) = 0 then
      ((), ((x0 / 64, (x0 / 8 % 8, (x0 % 8, (x1, (i8V x2, (i8V x3, (wordv D 0 / 65536, (wordv D 0 % 65536, (wordv P 0 / 65536, (wordv P 0 % 65536, (r0, (r1, (r2, (r3, (wordv A 0 / 4294967296, (wordv A 0 % 4294967296, (wordv O 0 / 4294967296, (wordv O 0 % 4294967296, (wordv E 0 / 4294967296, (wordv E 0 % 4294967296, (wordv T 0 / 4294967296, (wordv T 0 % 4294967296, ())))))))))))))))))))))), ((none, ()), ())))
      else ((), ((0, (0, (0, (0, (0, (0, (0, (0, (0, (0, (0, (0, (0, (0, (0, (0, (0, (0, (0, (0, (0, (0, ())))))))))))))))))))))), ((errOf (askE x0 (b.drop 48)), ()), ())))) := by
  have hp := head_parse h (by omega)
  have h48 := h.hl
  obtain ⟨r, hw⟩ := ext_walk (x0 / 8 % 8) (b.drop 48) (fun x hx => h.by_ x (List.mem_of_mem_drop hx)) (by simp only [List.length_drop]; omega)
  have hm := answer_mode (x0 / 8 % 8) (x0 % 8)
  have e : List.drop (Int.toNat 48) (List.take (Int.toNat (b.length : Int)) b) = b.drop 48 := by
    rw [show Int.toNat (b.length : Int) = b.length by omega, List.take_length]; rfl
  simp only [g_answer_Ask, f_answer_Ask_m, hp, fitsS_dec, Option.bind_some, Option.isNone_none, Option.isNone_some, Option.isSome_none, Option.isSome_some, Bool.not_true, Bool.not_false, cond_true, cond_false, cond_dec, beq_int, bne_int, not_dec, gt_iff_lt, and_dec]
  rw [if_neg (by omega)]
  unfold askE
  by_cases c1 : x0 / 8 % 8 < 1
  · rw [if_pos c1, if_pos (show x0 / 8 % 8 < 1 ∨ 4 < x0 / 8 % 8 from .inl c1), if_neg (by decide)]; rfl
  rw [if_neg c1]
  by_cases c2 : 4 < x0 / 8 % 8
  · rw [if_pos c2, if_pos (show x0 / 8 % 8 < 1 ∨ 4 < x0 / 8 % 8 from .inr c2), if_neg (by decide)]; rfl
  rw [if_neg c2, hm]
  have c3 : ¬ (x0 / 8 % 8 < 1 ∨ 4 < x0 / 8 % 8) := by omega
  simp only [if_neg c3]
  cases hB : modB (x0 / 8 % 8) (x0 % 8) with
  | false => simp [errOf]
  | true =>
    simp only [fitsS_dec, Option.bind_some, Option.isNone_none, Option.isNone_some, Option.isSome_none, Option.isSome_some, Bool.not_true, Bool.not_false, cond_true, cond_false, cond_dec, beq_int, bne_int, not_dec, e, hw, Bool.true_eq_false, if_false]
    rw [if_pos (by omega)]
    by_cases c4 : walkE (x0 / 8 % 8) (b.drop 48) = 0
    · simp [c4, errOf_zero]
    · simp [c4, errOf_pos c4]
theorem ref37_ask {b : List Int} {x0 x1 x2 x3 r0 r1 r2 r3 : Int} {D P A O E T : List Int} (h : Cut48 b x0 x1 x2 x3 r0 r1 r2 r3 D P A O E T) (hs : b.length ≤ 65535) : g_ref37_Ask ((), ((b, ()), ())) = some ((), ((askE x0 (b.drop 48), ()), ())) := by
  have h48 := h.hl
  have hB : bytesL (b.take 48) := fun x hx => h.by_ x (List.mem_of_mem_take hx)
  have e0 := h.eq
  have all : b = ([x0, x1, x2, x3] ++ (D ++ (P ++ ([r0, r1, r2, r3] ++ (A ++ (O ++ (E ++ T))))))) ++ b.drop 48 := by rw [← e0, List.take_append_drop]
  rw [e0] at hB
  have hx0 := hB x0 (by simp)
  have g0 : gd (.int .u8) b 0 = x0 := by rw [all]; rfl
  obtain ⟨r, s, hw⟩ := ref29_walk (x0 / 8 % 8) (b.drop 48) (fun x hx => h.by_ x (List.mem_of_mem_drop hx)) (by simp only [List.length_drop]; omega)
  have hm := ref37_mode (x0 / 8 % 8) (x0 % 8)
  have e : List.drop (Int.toNat 48) (List.take (Int.toNat (b.length : Int)) b) = b.drop 48 := by
    rw [show Int.toNat (b.length : Int) = b.length by omega, List.take_length]; rfl
  have e1 : Int.tmod (iquo .i64 (iconv .i64 x0) 8) 8 = x0 / 8 % 8 := by
    rw [iconv_i64 (by omega), iquo_nn (by decide) (by omega), tmod_nn (by omega)]
  have e2 : Int.tmod (iconv .i64 x0) 8 = x0 % 8 := by
    rw [iconv_i64 (by omega), tmod_nn (by omega)]
  simp only [g_ref37_Ask, f_ref37_Ask_m, fitsS_dec, Option.bind_some, Option.isNone_none, Option.isNone_some, Option.isSome_none, Option.isSome_some, Bool.not_true, Bool.not_false, cond_true, cond_false, cond_dec, beq_int, bne_int, not_dec, gt_iff_lt, and_dec, g0, e1, e2]
  rw [if_neg (by omega), if_neg (by omega), if_pos (by omega)]
  unfold askE
  by_cases c1 : x0 / 8 % 8 < 1
  · rw [if_pos c1, if_pos (show x0 / 8 % 8 < 1 ∨ 4 < x0 / 8 % 8 from .inl c1)]
  rw [if_neg c1]
  by_cases c2 : 4 < x0 / 8 % 8
  · rw [if_pos c2, if_pos (show x0 / 8 % 8 < 1 ∨ 4 < x0 / 8 % 8 from .inr c2)]
  rw [if_neg c2, if_pos (by omega), hm]
  have c3 : ¬ (x0 / 8 % 8 < 1 ∨ 4 < x0 / 8 % 8) := by omega
  simp only [if_neg c3]
  cases hB : modB (x0 / 8 % 8) (x0 % 8) with
  | false => simp
  | true =>
    simp only [fitsS_dec, Option.bind_some, Option.isNone_none, Option.isNone_some, Option.isSome_none, Option.isSome_some, Bool.not_true, Bool.not_false, cond_true, cond_false, cond_dec, beq_int, bne_int, not_dec, e, hw, Bool.true_eq_false, if_false]
    rw [if_pos (by omega)]
theorem ask_alive : g_law37_alive ((), ()) = some ((), ((true, ()), ())) := by
  have hq : List.set (List.replicate (Int.toNat 48) (0 : Int)) (Int.toNat 0) 35 = 35 :: List.replicate 47 0 := rfl
  have hcut : Cut48 (35 :: List.replicate 47 0) 35 0 0 0 0 0 0 0 [0, 0, 0, 0] [0, 0, 0, 0] [0, 0, 0, 0, 0, 0, 0, 0] [0, 0, 0, 0, 0, 0, 0, 0] [0, 0, 0, 0, 0, 0, 0, 0] [0, 0, 0, 0, 0, 0, 0, 0] :=
    ⟨by rfl, by intro x hx; simp only [List.mem_cons, List.mem_replicate] at hx; rcases hx with rfl | ⟨_, rfl⟩ <;> decide, by decide, by rfl, by rfl, by rfl, by rfl, by rfl, by rfl⟩
  have ha := answer_ask hcut (by decide)
  have e0 : askE 35 ((35 :: List.replicate 47 (0 : Int)).drop 48) = 0 := by decide
  rw [e0, if_pos rfl] at ha
  obtain ⟨st, hst, hset, hsgn, hne⟩ : ∃ st, g_config_New ((), ()) = some ((), ((some st, ()), ())) ∧ g_config_Store_Settings ((), ((some st, ()), ())) = some ((), ((1, (1000, (64, (2, (76, (79, (67, (76, (-20, (6, (0, (10, (500, (0, ())))))))))))))), ())) ∧
      g_answer_Sign ((), ((some st, ()), ((5, ()), ()))) = some ((), ((3, ()), ())) ∧ (some st).isNone = false :=
    ⟨((1, (1000, (64, (2, ((76, (79, (67, 76))), (-20, (6, (0, (10, (500, 0)))))))))), (none, (none, (0, 0)))), by kernel_rfl, by kernel_rfl, by kernel_rfl, rfl⟩
  have hs5 : g_steady_Stamp ((), ((5, ()), ())) = some ((), ((2208988800, (22, ())), ())) := by kernel_rfl
  have sp0 : g_answer_span ((), ((0, ()), ())) = some ((), ((0, (0, ())), ((none, ()), ()))) := by kernel_rfl
  have sp1 : g_answer_span ((), ((10, ()), ())) = some ((), ((0, (655, ())), ((none, ()), ()))) := by kernel_rfl
  have i8 : iconv .i8 (-20) = -20 := by kernel_rfl
  have hp := head_put 3 4 4 16 (i8V 0) (-20) 0 0 0 655 76 79 67 76 2208988800 0 (wordv [0, 0, 0, 0, 0, 0, 0, 0] 0 / 4294967296) (wordv [0, 0, 0, 0, 0, 0, 0, 0] 0 % 4294967296) 2208988800 22 2208988800 22 (by decide) (by decide) (by decide) (by decide) (by decide) (by decide) (by decide) (by decide) (by decide) (by decide) (by decide) (by decide) (by decide) (by decide)
  have hm : g_answer_Mode ((), ((35 / 8 % 8, ()), ((35 % 8, ()), ()))) = some ((), ((4, ()), ((true, ()), ()))) := by kernel_rfl
  have hbeg : g_answer_begin ((), ((some st, ()), ((35 :: List.replicate 47 0, ()), ((5, ()), ((5, ()), ()))))) = some ((), ((0, (4, (4, (0, (i8V 0, (-20, (0, (0, (0, (0, (0, (0, (0, (0, (0, (0, (wordv [0, 0, 0, 0, 0, 0, 0, 0] 0 / 4294967296, (wordv [0, 0, 0, 0, 0, 0, 0, 0] 0 % 4294967296, (2208988800, (22, (2208988800, (22, ())))))))))))))))))))))), ((none, ()), ()))) := by
    simp only [g_answer_begin, f_answer_begin_m, hne, ha, hm, hset, hs5, i8, fitsS_dec, Option.bind_some, Option.isNone_none, Option.isNone_some, Option.isSome_none, Option.isSome_some, Bool.not_true, Bool.not_false, cond_true, cond_false, cond_dec, beq_int, bne_int, not_dec]
    rfl
  have hrep : ∃ l, g_answer_Reply ((), ((some st, ()), ((35 :: List.replicate 47 0, ()), ((5, ()), ((5, ()), ()))))) = some ((l, ()), ((), ((none, ()), ()))) ∧ l.length = 48 ∧ gd (.int .u8) l 0 = 228 ∧ gd (.int .u8) l 1 = 16 := by
    refine ⟨?l, ?h1, ?h2, ?h3, ?h4⟩
    case h1 =>
      simp only [g_answer_Reply, f_answer_Reply_m, hbeg, hset, hsgn, sp0, sp1, hp, fitsS_dec, Option.bind_some, Option.isNone_none, Option.isNone_some, Option.isSome_none, Option.isSome_some, Bool.not_true, Bool.not_false, cond_true, cond_false, cond_dec, beq_int, bne_int, not_dec]
      rfl
    all_goals rfl
  obtain ⟨l, h1, h2, h3, h4⟩ := hrep
  simp only [g_law37_alive, f_law37_alive_m, hq, hst, h1, h2, h3, h4, fitsS_dec, Option.bind_some, Option.isNone_none, Option.isNone_some, Option.isSome_none, Option.isSome_some, Bool.not_true, Bool.not_false, cond_true, cond_false, cond_dec, beq_int, bne_int, not_dec, and_dec]
  rfl
theorem ask_same (v m : Int) : g_answer_Mode ((), ((v, ()), ((m, ()), ()))) = g_ref37_Mode ((), ((v, ()), ((m, ()), ()))) := by rw [answer_mode, ref37_mode]
end Go.Proofs.YtodnllhjikeafaaGreatDoor.Ev
