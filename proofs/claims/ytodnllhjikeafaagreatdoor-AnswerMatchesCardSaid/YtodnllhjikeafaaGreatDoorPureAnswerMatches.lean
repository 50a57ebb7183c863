/- The law AnswerMatches, plain. -/
import Derived.Test.YtodnllhjikeafaaGreatDoorPureAnswerAsks
import Derived.Test.YtodnllhjikeafaaGreatDoorPuRefidH
namespace Go.Proofs.YtodnllhjikeafaaGreatDoor.Ev
open Go
set_option linter.unusedVariables false
set_option linter.unusedSimpArgs false
set_option maxRecDepth 4000
theorem cut_mid {l p m r : List Int} {i n : Nat} (h : l = p ++ (m ++ r)) (hp : p.length = i) (hm : m.length = n) : (l.take (i + n)).drop i = m := by
  rw [List.drop_take, h, List.drop_left' hp, Nat.add_sub_cancel_left, List.take_left' hm]
/-- A question by the program and by the reference: both refuse, or it has its parts. -/
theorem ask_two (q : List Int) (hq : bytesL q) (hl : q.length ≤ 66000) : (∃ e H, e ≠ 0 ∧ g_answer_Ask ((), ((q, ()), ())) = some ((), (H, ((errOf e, ()), ()))) ∧ g_ref37_Ask ((), ((q, ()), ())) = some ((), ((e, ()), ()))) ∨
    ∃ x0 x1 x2 x3 r0 r1 r2 r3 D P A O E T, Cut48 q x0 x1 x2 x3 r0 r1 r2 r3 D P A O E T ∧ askE x0 (q.drop 48) = 0 ∧ q.length ≤ 65535 := by
  by_cases c3 : 65535 < (q.length : Int)
  · refine .inl ⟨3, (0, (0, (0, (0, (0, (0, (0, (0, (0, (0, (0, (0, (0, (0, (0, (0, (0, (0, (0, (0, (0, (0, ())))))))))))))))))))))), by decide, ?_, ?_⟩
    · simp only [g_answer_Ask, f_answer_Ask_m, fitsS_dec, Option.bind_some, Option.isNone_none, Option.isNone_some, Option.isSome_none, Option.isSome_some, Bool.not_true, Bool.not_false, cond_true, cond_false, cond_dec, beq_int, bne_int, not_dec, gt_iff_lt]
      rw [if_pos c3]; rfl
    · simp only [g_ref37_Ask, f_ref37_Ask_m, fitsS_dec, Option.bind_some, Option.isNone_none, Option.isNone_some, Option.isSome_none, Option.isSome_some, Bool.not_true, Bool.not_false, cond_true, cond_false, cond_dec, beq_int, bne_int, not_dec, gt_iff_lt]
      rw [if_pos c3]
  by_cases c4 : (q.length : Int) < 48
  · have hp := head_parse_short q hq (by omega)
    refine .inl ⟨4, (0, (0, (0, (0, (0, (0, (0, (0, (0, (0, (0, (0, (0, (0, (0, (0, (0, (0, (0, (0, (0, (0, ())))))))))))))))))))))), by decide, ?_, ?_⟩
    · simp only [g_answer_Ask, f_answer_Ask_m, hp, fitsS_dec, Option.bind_some, Option.isNone_none, Option.isNone_some, Option.isSome_none, Option.isSome_some, Bool.not_true, Bool.not_false, cond_true, cond_false, cond_dec, beq_int, bne_int, not_dec, gt_iff_lt]
      rw [if_neg c3]; rfl
    · simp only [g_ref37_Ask, f_ref37_Ask_m, fitsS_dec, Option.bind_some, Option.isNone_none, Option.isNone_some, Option.isSome_none, Option.isSome_some, Bool.not_true, Bool.not_false, cond_true, cond_false, cond_dec, beq_int, bne_int, not_dec, gt_iff_lt]
      rw [if_neg c3, if_pos c4]
  obtain ⟨x0, x1, x2, x3, r0, r1, r2, r3, D, P, A, O, E, T, hcut⟩ := cut48 q hq (by omega)
  have h1 := answer_ask hcut (by omega)
  have h2 := ref37_ask hcut (by omega)
  by_cases c5 : askE x0 (q.drop 48) = 0
  · exact .inr ⟨x0, x1, x2, x3, r0, r1, r2, r3, D, P, A, O, E, T, hcut, c5, by omega⟩
  · rw [if_neg c5] at h1
    exact .inl ⟨_, _, c5, h1, h2⟩
section
variable {b : List Int} {x0 x1 x2 x3 r0 r1 r2 r3 : Int} {D P A O E T : List Int}
theorem cut_all (h : Cut48 b x0 x1 x2 x3 r0 r1 r2 r3 D P A O E T) : b = ([x0, x1, x2, x3] ++ (D ++ (P ++ ([r0, r1, r2, r3] ++ (A ++ (O ++ (E ++ T))))))) ++ b.drop 48 := by rw [← h.eq, List.take_append_drop]
theorem cut_ok (h : Cut48 b x0 x1 x2 x3 r0 r1 r2 r3 D P A O E T) : bytesL ([x0, x1, x2, x3] ++ (D ++ (P ++ ([r0, r1, r2, r3] ++ (A ++ (O ++ (E ++ T))))))) := by
  rw [← h.eq]; exact fun x hx => h.by_ x (List.mem_of_mem_take hx)
theorem cut_first (h : Cut48 b x0 x1 x2 x3 r0 r1 r2 r3 D P A O E T) : gd (.int .u8) b 0 = x0 ∧ gd (.int .u8) b 1 = x1 := by
  have e := cut_all h
  exact ⟨by rw [e]; rfl, by rw [e]; rfl⟩
theorem cut_ref (h : Cut48 b x0 x1 x2 x3 r0 r1 r2 r3 D P A O E T) : gd (.int .u8) b 12 = r0 ∧ gd (.int .u8) b 13 = r1 ∧ gd (.int .u8) b 14 = r2 ∧ gd (.int .u8) b 15 = r3 := by
  have e : b = ([x0, x1, x2, x3] ++ (D ++ P)) ++ ([r0, r1, r2, r3] ++ ((A ++ (O ++ (E ++ T))) ++ b.drop 48)) := by
    have := cut_all h
    simpa only [List.append_assoc] using this
  have hl : ([x0, x1, x2, x3] ++ (D ++ P)).length = 12 := by
    have h1 := h.hD; have h2 := h.hP
    simp only [List.length_append, List.length_cons, List.length_nil]; omega
  have g : ∀ k : Nat, k < 4 → gd (.int .u8) b ((12 + k : Nat) : Int) = [r0, r1, r2, r3].getD k 0 := fun k hk => by
    rw [gd_u8, Int.toNat_natCast, e, List.getD_eq_getElem?_getD, List.getElem?_append_right (by omega), hl, Nat.add_sub_cancel_left, List.getElem?_append_left (by simpa using hk)]
    rfl
  exact ⟨g 0 (by decide), g 1 (by decide), g 2 (by decide), g 3 (by decide)⟩
theorem cut_O (h : Cut48 b x0 x1 x2 x3 r0 r1 r2 r3 D P A O E T) : (b.take 32).drop 24 = O := by
  have e : b = ([x0, x1, x2, x3] ++ (D ++ (P ++ ([r0, r1, r2, r3] ++ A)))) ++ (O ++ ((E ++ T) ++ b.drop 48)) := by
    have := cut_all h
    simpa only [List.append_assoc] using this
  have h1 := h.hD; have h2 := h.hP; have h3 := h.hA; have h4 := h.hO
  exact cut_mid (i := 24) (n := 8) e (by simp only [List.length_append, List.length_cons, List.length_nil]; omega) h4
theorem cut_T (h : Cut48 b x0 x1 x2 x3 r0 r1 r2 r3 D P A O E T) : (b.take 48).drop 40 = T := by
  have e : b = ([x0, x1, x2, x3] ++ (D ++ (P ++ ([r0, r1, r2, r3] ++ (A ++ (O ++ E)))))) ++ (T ++ b.drop 48) := by
    have := cut_all h
    simpa only [List.append_assoc] using this
  have h1 := h.hD; have h2 := h.hP; have h3 := h.hA; have h4 := h.hO; have h5 := h.hE; have h6 := h.hT
  exact cut_mid (i := 40) (n := 8) e (by simp only [List.length_append, List.length_cons, List.length_nil]; omega) h6
end
theorem told_same (a : List Int) (ha : bytesL a) (hl : a.length ≤ 66000) : ∃ s t, g_answer_Told ((), ((a, ()), ())) = some ((), ((s, ()), ((t, ()), ()))) ∧ g_ref37_Told ((), ((a, ()), ())) = some ((), ((s, ()), ((t, ()), ()))) := by
  by_cases c4 : (a.length : Int) < 48
  · have hp := head_parse_short a ha (by omega)
    refine ⟨⟨#[]⟩, false, ?_, ?_⟩
    · simp only [g_answer_Told, f_answer_Told_m, hp, fitsS_dec, Option.bind_some, Option.isNone_none, Option.isNone_some, Option.isSome_none, Option.isSome_some, Bool.not_true, Bool.not_false, cond_true, cond_false, cond_dec, beq_int, bne_int, not_dec]
    · simp only [g_ref37_Told, f_ref37_Told_m, fitsS_dec, Option.bind_some, Option.isNone_none, Option.isNone_some, Option.isSome_none, Option.isSome_some, Bool.not_true, Bool.not_false, cond_true, cond_false, cond_dec, beq_int, bne_int, not_dec]
      rw [if_pos c4]
  obtain ⟨x0, x1, x2, x3, r0, r1, r2, r3, D, P, A, O, E, T, h⟩ := cut48 a ha (by omega)
  have hp := head_parse h (by omega)
  obtain ⟨g0, g1⟩ := cut_first h
  obtain ⟨g12, g13, g14, g15⟩ := cut_ref h
  have hB := cut_ok h
  have ho : okBy [r0, r1, r2, r3] := fun x hx => hB x (by simp only [List.mem_append]; exact .inr (.inr (.inr (.inl hx))))
  have e1 := refid_refuses ho
  have e2 := ref30_refuses r0 r1 r2 r3
  have e3 := refid_name r0 r1 r2 r3 ho
  have e4 := ref30_name r0 r1 r2 r3 ho
  simp only [g_answer_Told, f_answer_Told_m, hp, g_ref37_Told, f_ref37_Told_m, g1, g12, g13, g14, g15, e1, e2, e3, e4, fitsS_dec, Option.bind_some, Option.isNone_none, Option.isNone_some, Option.isSome_none, Option.isSome_some, Bool.not_true, Bool.not_false, cond_true, cond_false, cond_dec, beq_int, bne_int, not_dec, and_dec]
  have n1 : (0 : Int) ≤ 1 ∧ (1 : Int) < a.length := by omega
  have n12 : (0 : Int) ≤ 12 ∧ (12 : Int) < a.length := by omega
  have n13 : (0 : Int) ≤ 13 ∧ (13 : Int) < a.length := by omega
  have n14 : (0 : Int) ≤ 14 ∧ (14 : Int) < a.length := by omega
  have n15 : (0 : Int) ≤ 15 ∧ (15 : Int) < a.length := by omega
  simp only [if_neg c4, if_pos n1, if_pos n12, if_pos n13, if_pos n14, if_pos n15]
  by_cases c : x1 = 0
  · subst c
    cases refB [r0, r1, r2, r3] with
    | true => exact ⟨strOf (nameL [r0, r1, r2, r3]), decide (codeOk (trim0 [r0, r1, r2, r3])), by simp, by simp⟩
    | false => exact ⟨⟨#[]⟩, false, by simp, by simp⟩
  · exact ⟨⟨#[]⟩, false, by simp [c], by simp [c]⟩
theorem match_same (q a : List Int) (hq : bytesL q) (ha : bytesL a) (hl : q.length ≤ 66000) (hm : a.length ≤ 66000) : ∃ e, g_answer_Match ((), ((q, ()), ((a, ()), ()))) = some ((), ((errOf e, ()), ())) ∧ g_ref37_Match ((), ((q, ()), ((a, ()), ()))) = some ((), ((e, ()), ())) := by
  rcases ask_two q hq hl with ⟨e, H, he, h1, h2⟩ | ⟨x0, x1, x2, x3, r0, r1, r2, r3, D, P, A, O, E, T, hcut, hz, hs⟩
  · refine ⟨e, ?_, ?_⟩
    · simp only [g_answer_Match, f_answer_Match_m, h1, errOf_pos he, fitsS_dec, Option.bind_some, Option.isNone_none, Option.isNone_some, Option.isSome_none, Option.isSome_some, Bool.not_true, Bool.not_false, cond_true, cond_false, cond_dec, beq_int, bne_int, not_dec]
    · simp only [g_ref37_Match, f_ref37_Match_m, h2, fitsS_dec, Option.bind_some, Option.isNone_none, Option.isNone_some, Option.isSome_none, Option.isSome_some, Bool.not_true, Bool.not_false, cond_true, cond_false, cond_dec, beq_int, bne_int, not_dec]
      rw [if_pos he]
  have h1 := answer_ask hcut hs
  have h2 := ref37_ask hcut hs
  rw [hz, if_pos rfl] at h1
  rw [hz] at h2
  by_cases c4 : (a.length : Int) < 48
  · have hp := head_parse_short a ha (by omega)
    refine ⟨4, ?_, ?_⟩
    · simp only [g_answer_Match, f_answer_Match_m, h1, hp, fitsS_dec, Option.bind_some, Option.isNone_none, Option.isNone_some, Option.isSome_none, Option.isSome_some, Bool.not_true, Bool.not_false, cond_true, cond_false, cond_dec, beq_int, bne_int, not_dec]; rfl
    · simp only [g_ref37_Match, f_ref37_Match_m, h2, fitsS_dec, Option.bind_some, Option.isNone_none, Option.isNone_some, Option.isSome_none, Option.isSome_some, Bool.not_true, Bool.not_false, cond_true, cond_false, cond_dec, beq_int, bne_int, not_dec]
      rw [if_neg (by decide), if_pos c4]
  obtain ⟨y0, y1, y2, y3, s0, s1, s2, s3, D', P', A', O', E', T', h⟩ := cut48 a ha (by omega)
  have hp := head_parse h (by omega)
  have hqx := cut_ok hcut
  have hax := cut_ok h
  have bx0 := hqx x0 (by simp)
  have by0 := hax y0 (by simp)
  have bT : bytesL T := fun x hx => hqx x (by simp [hx])
  have bO : bytesL O' := fun x hx => hax x (by simp [hx])
  have lT := hcut.hT
  have lO := h.hO
  have wT := wordv_lt bT (by omega)
  have wO := wordv_lt bO (by omega)
  have hsame : (wordv O' 0 = wordv T 0) ↔ O' = T := by
    constructor
    · intro e
      rw [← be_wordv 8 O' lO bO (by decide), e, be_wordv 8 T lT bT (by decide)]
    · rintro rfl; rfl
  have hmv : modV (x0 / 8 % 8) (x0 % 8) = 0 ∨ modV (x0 / 8 % 8) (x0 % 8) = 2 ∨ modV (x0 / 8 % 8) (x0 % 8) = 4 := by
    unfold modV; split
    · split
      · exact .inr (.inl rfl)
      · exact .inr (.inr rfl)
    · exact .inl rfl
  have m1 := answer_mode (x0 / 8 % 8) (x0 % 8)
  have m2 := ref37_mode (x0 / 8 % 8) (x0 % 8)
  generalize modV (x0 / 8 % 8) (x0 % 8) = mv at hmv m1 m2
  have e1 : Int.tmod (iquo .i64 (iconv .i64 x0) 8) 8 = x0 / 8 % 8 := by
    rw [iconv_i64 (by omega), iquo_nn (by decide) (by omega), tmod_nn (by omega)]
  have e2 : Int.tmod (iconv .i64 x0) 8 = x0 % 8 := by
    rw [iconv_i64 (by omega), tmod_nn (by omega)]
  have e3 : Int.tmod (iconv .i64 y0) 64 = y0 % 64 := by
    rw [iconv_i64 (by omega), tmod_nn (by omega)]
  have e4 : imul .i64 (x0 / 8 % 8) 8 = x0 / 8 % 8 * 8 := imul_i64 (by omega)
  have e5 : iadd .i64 (x0 / 8 % 8 * 8) mv = x0 / 8 % 8 * 8 + mv := iadd_i64 (by omega)
  have e6 : List.drop (Int.toNat 24) (List.take (Int.toNat 32) a) = O' := cut_O h
  have e7 : List.drop (Int.toNat 40) (List.take (Int.toNat 48) q) = T := cut_T hcut
  have e8 : ((strOf O').toList == (strOf T).toList) = decide (O' = T) := by rw [str_eq, by_str bO, by_str bT]
  have hlq := hcut.hl
  have hrm : g_ref37_Match ((), ((q, ()), ((a, ()), ()))) = some ((), ((if y0 / 8 % 8 = x0 / 8 % 8 ∧ y0 % 8 = mv ∧ O' = T then 0 else 14, ()), ())) := by
    simp only [g_ref37_Match, f_ref37_Match_m, h2, (cut_first hcut).1, (cut_first h).1, e1, e2, e3, m2, e4, e5, e6, e7, e8, fitsS_dec, Option.bind_some, Option.isNone_none, Option.isNone_some, Option.isSome_none, Option.isSome_some, Bool.not_true, Bool.not_false, cond_true, cond_false, cond_dec, beq_int, bne_int, not_dec, and_dec]
    rw [if_neg (by decide), if_neg c4, if_pos (by omega), if_pos (by omega), if_pos (by omega)]
    by_cases d1 : y0 % 64 = x0 / 8 % 8 * 8 + mv
    · have d2 : y0 / 8 % 8 = x0 / 8 % 8 ∧ y0 % 8 = mv := by omega
      rw [if_neg (not_not_intro d1), if_pos (by omega)]
      by_cases d3 : O' = T
      · simp [d2, d3]; omega
      · simp [d2, d3]; omega
    · have d2 : ¬ (y0 / 8 % 8 = x0 / 8 % 8 ∧ y0 % 8 = mv ∧ O' = T) := by omega
      rw [if_pos d1, if_neg d2]
  refine ⟨_, ?_, hrm⟩
  simp only [g_answer_Match, f_answer_Match_m, h1, hp, m1, fitsS_dec, Option.bind_some, Option.isNone_none, Option.isNone_some, Option.isSome_none, Option.isSome_some, Bool.not_true, Bool.not_false, cond_true, cond_false, cond_dec, beq_int, bne_int, not_dec]
  by_cases d1 : y0 / 8 % 8 = x0 / 8 % 8
  · by_cases d2 : y0 % 8 = mv
    · by_cases d3 : O' = T
      · subst d3
        simp [d1, d2, errOf_zero]
      · have d4 : ¬ (wordv O' 0 / 4294967296 = wordv T 0 / 4294967296 ∧ wordv O' 0 % 4294967296 = wordv T 0 % 4294967296) := fun w => d3 (hsame.1 (by omega))
        have d5 : (decide (wordv O' 0 / 4294967296 = wordv T 0 / 4294967296) && decide (wordv O' 0 % 4294967296 = wordv T 0 % 4294967296)) = false := by
          rw [← Bool.decide_and]; exact decide_eq_false d4
        simp [d1, d2, d3, d5, errOf]
    · simp [d1, d2, errOf]
  · simp [d1, errOf]
theorem answer_matches (q a : List Int) (hq : bytesL q) (ha : bytesL a) : g_law37_AnswerMatches ((), ((q, ()), ((a, ()), ()))) = some ((), ((true, ()), ())) := by
  have long : ∀ l : List Int, ∃ t, g_law37_Long ((), ((l, ()), ())) = some ((), ((t, ()), ())) ∧ (t = false → l.length ≤ 66000) := fun l => by
    simp only [g_law37_Long, f_law37_Long_m, fitsS_dec, Option.bind_some, Option.isNone_none, Option.isNone_some, Option.isSome_none, Option.isSome_some, Bool.not_true, Bool.not_false, cond_true, cond_false, cond_dec, beq_int, bne_int, not_dec, gt_iff_lt]
    by_cases c1 : 1000 < (l.length : Int)
    · rw [if_pos c1]
      by_cases c2 : (l.length : Int) ≤ 65535
      · rw [if_pos c2]; exact ⟨true, rfl, fun h => by cases h⟩
      · rw [if_neg c2]; exact ⟨_, rfl, fun h => by have := of_decide_eq_false h; omega⟩
    · rw [if_neg c1]; exact ⟨_, rfl, fun h => by have := of_decide_eq_false h; omega⟩
  obtain ⟨t1, l1, w1⟩ := long q
  obtain ⟨t2, l2, w2⟩ := long a
  simp only [g_law37_AnswerMatches, f_law37_AnswerMatches_m, ask_alive, l1, l2, fitsS_dec, Option.bind_some, Option.isNone_none, Option.isNone_some, Option.isSome_none, Option.isSome_some, Bool.not_true, Bool.not_false, cond_true, cond_false, cond_dec, beq_int, bne_int, not_dec]
  cases t1 with
  | true => rfl
  | false =>
    cases t2 with
    | true => rfl
    | false =>
      obtain ⟨s, t, f1, f2⟩ := told_same a ha (w2 rfl)
      obtain ⟨e, f3, f4⟩ := match_same q a hq ha (w1 rfl) (w2 rfl)
      have tt : (s.toList == s.toList) = true := by rw [str_eq]; simp
      simp only [f1, f2, f3, f4, num_num, tt, fitsS_dec, Option.bind_some, Option.isNone_none, Option.isNone_some, Option.isSome_none, Option.isSome_some, Bool.not_true, Bool.not_false, cond_true, cond_false, cond_dec, beq_int, bne_int, not_dec]
      simp
end Go.Proofs.YtodnllhjikeafaaGreatDoor.Ev
