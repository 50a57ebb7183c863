/- The law HeadBack, plain. -/
import Derived.Test.YthcegipmninkdaaPuHeadP
import Derived.Test.YthcegipmninkdaaPureHeadRounds
namespace Go.Proofs.Ythcegipmninkdaa.Ev
open Go
set_option linter.unusedVariables false
set_option linter.unusedSimpArgs false
set_option maxRecDepth 4000
theorem conv_small {a : Int} (n : Int) (h : (a - n) % 18446744073709551616 = 0) (hn : -9223372036854775808 ≤ n ∧ n ≤ 9223372036854775807) : iconv .i64 a = n := by
  have : iconv .i64 a = (a + 9223372036854775808) % 18446744073709551616 - 9223372036854775808 := wrap_i64 a
  omega
theorem long_of {n : Int} (h : u64 n) : g_law28_HeadBack_1 ((), ((n, ()), ())) = some ((), ((n / 4294967296, (n % 4294967296, ())), ())) := by
  unfold u64 at h
  simp only [g_law28_HeadBack_1, f_law28_HeadBack_1_m, ishr32 h, iconv_u32]
  rw [Int.emod_eq_of_lt (a := n / 4294967296) (by omega) (by omega)]
theorem dE (O a w : Int) : ((((O + a) % 18446744073709551616 + w % 18446744073709551616) % 18446744073709551616 - O) % 18446744073709551616 - (a + w)) % 18446744073709551616 = 0 := by omega
theorem dT (O a b w : Int) : (((((O + a) % 18446744073709551616 + b) % 18446744073709551616 + w % 18446744073709551616) % 18446744073709551616 - (((O + a) % 18446744073709551616 + b) % 18446744073709551616 + a) % 18446744073709551616) % 18446744073709551616 - (w - a)) % 18446744073709551616 = 0 := by
  generalize (O + a) % 18446744073709551616 = q
  generalize (q + b) % 18446744073709551616 = r
  omega
theorem dN (O a b : Int) : (((((O + a) % 18446744073709551616 + b) % 18446744073709551616 + a) % 18446744073709551616 - O) % 18446744073709551616 - (2 * a + b)) % 18446744073709551616 = 0 := by omega
theorem dD (O a b w : Int) : (((((O + a) % 18446744073709551616 + b) % 18446744073709551616 + w % 18446744073709551616) % 18446744073709551616 - ((O + a) % 18446744073709551616 + w % 18446744073709551616) % 18446744073709551616) % 18446744073709551616 - b) % 18446744073709551616 = 0 := by
  generalize (O + a) % 18446744073709551616 = q
  generalize w % 18446744073709551616 = r
  omega
theorem sum_half {a w : Int} (h1 : 0 ≤ a ∧ a < 4294967296) (hw : -2147483648 ≤ w ∧ w ≤ 2147483647) : iadd .i64 (iadd .i64 ((a + w) / 2) ((w - a) / 2)) ((a + w) % 2 * ((w - a) % 2)) = w := by
  have i1 : iadd .i64 ((a + w) / 2) ((w - a) / 2) = (a + w) / 2 + (w - a) / 2 := iadd_i64 (by omega)
  rw [i1]
  rcases mod2 (a + w) with e | e
  · rw [e, Int.zero_mul, iadd_i64 (by omega)]; omega
  · rw [e, show (w - a) % 2 = 1 by omega, iadd_i64 (by omega)]; omega
theorem u64_mod (n : Int) : u64 (n % 18446744073709551616) := by unfold u64; omega
theorem parts {n : Int} (h : u64 n) : u32 (n / 4294967296) ∧ u32 (n % 4294967296) ∧ n / 4294967296 * 4294967296 + n % 4294967296 = n := by unfold u64 at h; unfold u32; omega
theorem back_p13 (le v m st po pr d1 d2 p1 p2 r0 r1 r2 r3 a1 a2 o1 o2 e1 e2 t1 t2 w0 w1 w2 : Int) (ho1 : u32 o1) (ho2 : u32 o2) (hw : -2147483648 ≤ w0 ∧ w0 ≤ 2147483647) (k : Nat) :
    (f_law28_HeadBack_t (k + 1)).2.1 (((le, (v, (m, (st, (po, (pr, (d1, (d2, (p1, (p2, (r0, (r1, (r2, (r3, (a1, (a2, (o1, (o2, (e1, (e2, (t1, (t2, ())))))))))))))))))))))), ((w0, (w1, (w2, ()))), ())), ((), ((), ()))) = some ((), ((true, ()), ())) := by
  rw [t_law28_HeadBack]
  simp only [f_law28_HeadBack_p13, law28_bits o1 o2 ho1 ho2, Option.bind_some]
  rw [iconv_i64 (a := w0) (by omega), iconv_u32, iconv_u32, iconv_u64, iconv_u64, iconv_u64]
  have h1 : 0 ≤ w1 % 4294967296 ∧ w1 % 4294967296 < 4294967296 := by omega
  have h2 : 0 ≤ w2 % 4294967296 ∧ w2 % 4294967296 < 4294967296 := by omega
  have hO : u64 (o1 * 4294967296 + o2) := by unfold u64; omega
  generalize w1 % 4294967296 = a at h1 ⊢
  generalize w2 % 4294967296 = b at h2 ⊢
  generalize hOO : o1 * 4294967296 + o2 = O at hO ⊢
  rw [Int.emod_eq_of_lt (a := a) h1.1 (by omega), Int.emod_eq_of_lt (a := b) h2.1 (by omega)]
  simp only [iadd_u64]
  have u1 := u64_mod ((O + a) % 18446744073709551616 + w0 % 18446744073709551616)
  have u2 := u64_mod (((O + a) % 18446744073709551616 + b) % 18446744073709551616 + w0 % 18446744073709551616)
  have u3 := u64_mod (((O + a) % 18446744073709551616 + b) % 18446744073709551616 + a)
  have hE := dE O a w0
  have hT := dT O a b w0
  have hN := dN O a b
  have hD := dD O a b w0
  simp only [long_of u1, long_of u2, long_of u3, Option.bind_some]
  generalize ((O + a) % 18446744073709551616 + w0 % 18446744073709551616) % 18446744073709551616 = E at u1 hE hD ⊢
  generalize (((O + a) % 18446744073709551616 + b) % 18446744073709551616 + w0 % 18446744073709551616) % 18446744073709551616 = T at u2 hT hD ⊢
  generalize (((O + a) % 18446744073709551616 + b) % 18446744073709551616 + a) % 18446744073709551616 = N at u3 hT hN ⊢
  have cE : iconv .i64 (isub .u64 E O) = a + w0 := conv_small _ (by rw [isub_u64]; exact hE) (by clear hE hT hN hD; omega)
  have cT : iconv .i64 (isub .u64 T N) = w0 - a := conv_small _ (by rw [isub_u64]; exact hT) (by clear hE hT hN hD; omega)
  have cN : iconv .i64 (isub .u64 N O) = 2 * a + b := conv_small _ (by rw [isub_u64]; exact hN) (by clear hE hT hN hD; omega)
  have cD : iconv .i64 (isub .u64 T E) = b := conv_small _ (by rw [isub_u64]; exact hD) (by clear hE hT hN hD; omega)
  clear hE hT hN hD
  have q1 := parts u1
  have q2 := parts u2
  have q3 := parts u3
  simp only [g_head_Round, f_head_Round_m, stamp_sub _ _ o1 o2 q1.1 q1.2.1 ho1 ho2, stamp_sub _ _ _ _ q2.1 q2.2.1 q3.1 q3.2.1, stamp_sub _ _ o1 o2 q3.1 q3.2.1 ho1 ho2, stamp_sub _ _ _ _ q2.1 q2.2.1 q1.1 q1.2.1, q1.2.2, q2.2.2, q3.2.2, hOO, Option.bind_some, ishr1, and1, cE, cT, cN, cD]
  have e1 := sum_half h1 hw
  have e2 : isub .i64 (2 * a + b) b = 2 * a := by rw [isub_i64 (by omega)]; omega
  rw [e1, e2, iconv_i64 (a := a) (by omega), imul_i64 (by omega)]
  simp
theorem back_p7 (le v m st po pr d1 d2 p1 p2 r0 r1 r2 r3 a1 a2 o1 o2 e1 e2 t1 t2 w0 w1 w2 : Int) (b : List Int) (hb : bytesL b) (hl : b.length ≤ 300) (ho1 : u32 o1) (ho2 : u32 o2) (hw : -2147483648 ≤ w0 ∧ w0 ≤ 2147483647) :
    Evn (fun k => (f_law28_HeadBack_t k).1 (((le, (v, (m, (st, (po, (pr, (d1, (d2, (p1, (p2, (r0, (r1, (r2, (r3, (a1, (a2, (o1, (o2, (e1, (e2, (t1, (t2, ())))))))))))))))))))))), ((w0, (w1, (w2, ()))), ())), ((b, ()), ((), ((), ()))))) ((), ((true, ()), ())) := by
  refine Evn.step (G := fun k => (f_law28_HeadBack_t k).2.1 (((le, (v, (m, (st, (po, (pr, (d1, (d2, (p1, (p2, (r0, (r1, (r2, (r3, (a1, (a2, (o1, (o2, (e1, (e2, (t1, (t2, ())))))))))))))))))))))), ((w0, (w1, (w2, ()))), ())), ((), ((), ())))) (Evn.some 1 fun k => back_p13 le v m st po pr d1 d2 p1 p2 r0 r1 r2 r3 a1 a2 o1 o2 e1 e2 t1 t2 w0 w1 w2 ho1 ho2 hw k) fun k => ?_
  rw [t_law28_HeadBack]
  by_cases h48 : b.length < 48
  · simp only [f_law28_HeadBack_p7, head_parse_short b hb h48, fitsS_dec, Option.bind_some, Option.isNone_none, Option.isNone_some, Option.isSome_none, Option.isSome_some, Bool.not_true, Bool.not_false, cond_true, cond_false, cond_dec, beq_int, bne_int, not_dec]
    first | done | rfl
  · obtain ⟨x0, x1, x2, x3, r0, r1, r2, r3, D, P, A, O, E, T, hcut⟩ := cut48 b hb (by omega)
    have hp := head_parse hcut (by omega)
    have hB : bytesL (b.take 48) := fun x hx => hb x (List.mem_of_mem_take hx)
    have heq := hcut.eq
    rw [heq] at hB
    have hx0 := hB x0 (List.mem_cons_self ..)
    have hx1 := hB x1 (by simp)
    have hx2 := i8_range (hB x2 (by simp))
    have hx3 := i8_range (hB x3 (by simp))
    have bD : bytesL D := fun x hx => hB x (by simp [hx])
    have bP : bytesL P := fun x hx => hB x (by simp [hx])
    have bA : bytesL A := fun x hx => hB x (by simp [hx])
    have bO : bytesL O := fun x hx => hB x (by simp [hx])
    have bE : bytesL E := fun x hx => hB x (by simp [hx])
    have bT : bytesL T := fun x hx => hB x (by simp [hx])
    have wD := wordv_lt bD (by have := hcut.hD; omega)
    have wP := wordv_lt bP (by have := hcut.hP; omega)
    have wA := wordv_lt bA (by have := hcut.hA; omega)
    have wO := wordv_lt bO (by have := hcut.hO; omega)
    have wE := wordv_lt bE (by have := hcut.hE; omega)
    have wT := wordv_lt bT (by have := hcut.hT; omega)
    rw [hcut.hD, show (256 : Int) ^ 4 = 4294967296 from rfl] at wD
    rw [hcut.hP, show (256 : Int) ^ 4 = 4294967296 from rfl] at wP
    rw [hcut.hA, show (256 : Int) ^ 8 = 18446744073709551616 from rfl] at wA
    rw [hcut.hO, show (256 : Int) ^ 8 = 18446744073709551616 from rfl] at wO
    rw [hcut.hE, show (256 : Int) ^ 8 = 18446744073709551616 from rfl] at wE
    rw [hcut.hT, show (256 : Int) ^ 8 = 18446744073709551616 from rfl] at wT
    have hput := head_put (x0 / 64) (x0 / 8 % 8) (x0 % 8) (x1) (i8V x2) (i8V x3) (wordv D 0 / 65536) (wordv D 0 % 65536) (wordv P 0 / 65536) (wordv P 0 % 65536) (r0) (r1) (r2) (r3) (wordv A 0 / 4294967296) (wordv A 0 % 4294967296) (wordv O 0 / 4294967296) (wordv O 0 % 4294967296) (wordv E 0 / 4294967296) (wordv E 0 % 4294967296) (wordv T 0 / 4294967296) (wordv T 0 % 4294967296) (by omega) hx1 (by unfold u16; omega) (by unfold u16; omega) (by unfold u16; omega) (by unfold u16; omega) (by unfold u32; omega) (by unfold u32; omega) (by unfold u32; omega) (by unfold u32; omega) (by unfold u32; omega) (by unfold u32; omega) (by unfold u32; omega) (by unfold u32; omega)
    rw [show x0 / 64 * 64 + x0 / 8 % 8 * 8 + x0 % 8 = x0 by omega, hx2.2.2, hx3.2.2, show wordv D 0 / 65536 * 65536 + wordv D 0 % 65536 = wordv D 0 by omega, show wordv P 0 / 65536 * 65536 + wordv P 0 % 65536 = wordv P 0 by omega,
      show wordv A 0 / 4294967296 * 4294967296 + wordv A 0 % 4294967296 = wordv A 0 by omega, show wordv O 0 / 4294967296 * 4294967296 + wordv O 0 % 4294967296 = wordv O 0 by omega,
      show wordv E 0 / 4294967296 * 4294967296 + wordv E 0 % 4294967296 = wordv E 0 by omega, show wordv T 0 / 4294967296 * 4294967296 + wordv T 0 % 4294967296 = wordv T 0 by omega,
      be_wordv 4 D hcut.hD bD (by decide), be_wordv 4 P hcut.hP bP (by decide), be_wordv 8 A hcut.hA bA (by decide), be_wordv 8 O hcut.hO bO (by decide), be_wordv 8 E hcut.hE bE (by decide), be_wordv 8 T hcut.hT bT (by decide)] at hput
    have hall : [x0, x1, x2, x3] ++ D ++ P ++ [r0, r1, r2, r3] ++ A ++ O ++ E ++ T = b.take 48 := by rw [heq]; simp only [List.append_assoc]
    rw [hall] at hput
    simp only [f_law28_HeadBack_p7, hp, hput, fitsS_dec, Option.bind_some, Option.isNone_none, Option.isNone_some, Option.isSome_none, Option.isSome_some, Bool.not_true, Bool.not_false, cond_true, cond_false, cond_dec, beq_int, bne_int, not_dec, not_true_eq_false, if_false, and_dec, show Int.toNat 0 = 0 from rfl, show Int.toNat 48 = 48 from rfl, List.drop_zero, bytes_same]
    rw [if_pos (by omega)]
theorem head_back (le v m st po pr d1 d2 p1 p2 r0 r1 r2 r3 a1 a2 o1 o2 e1 e2 t1 t2 w0 w1 w2 : Int) (b : List Int) (hst : 0 ≤ st ∧ st < 256) (hpo : -128 ≤ po ∧ po ≤ 127) (hpr : -128 ≤ pr ∧ pr ≤ 127) (hd1 : u16 d1) (hd2 : u16 d2) (hp1 : u16 p1) (hp2 : u16 p2) (hr0 : 0 ≤ r0 ∧ r0 < 256) (hr1 : 0 ≤ r1 ∧ r1 < 256) (hr2 : 0 ≤ r2 ∧ r2 < 256) (hr3 : 0 ≤ r3 ∧ r3 < 256) (ha1 : u32 a1) (ha2 : u32 a2) (ho1 : u32 o1) (ho2 : u32 o2) (he1 : u32 e1) (he2 : u32 e2) (ht1 : u32 t1) (ht2 : u32 t2) (hb : bytesL b) (hw : -2147483648 ≤ w0 ∧ w0 ≤ 2147483647) :
    g_law28_HeadBack ((), ((le, (v, (m, (st, (po, (pr, (d1, (d2, (p1, (p2, (r0, (r1, (r2, (r3, (a1, (a2, (o1, (o2, (e1, (e2, (t1, (t2, ())))))))))))))))))))))), ((b, ()), ((w0, (w1, (w2, ()))), ())))) = some ((), ((true, ()), ())) := by
  by_cases c : 300 < (b.length : Int)
  · refine (Evn.const fun k => ?_).lim
    simp only [f_law28_HeadBack_m, head_alive, fitsS_dec, Option.bind_some, Option.isNone_none, Option.isNone_some, Option.isSome_none, Option.isSome_some, Bool.not_true, Bool.not_false, cond_true, cond_false, cond_dec, beq_int, bne_int, not_dec, not_true_eq_false, if_false, gt_iff_lt]
    rw [if_pos c]
  refine ((back_p7 le v m st po pr d1 d2 p1 p2 r0 r1 r2 r3 a1 a2 o1 o2 e1 e2 t1 t2 w0 w1 w2 b hb (by omega) ho1 ho2 hw).cast fun k => ?_).lim
  simp only [f_law28_HeadBack_m, head_alive, fitsS_dec, Option.bind_some, Option.isNone_none, Option.isNone_some, Option.isSome_none, Option.isSome_some, Bool.not_true, Bool.not_false, cond_true, cond_false, cond_dec, beq_int, bne_int, not_dec, not_true_eq_false, if_false, gt_iff_lt]
  rw [if_neg c]
  by_cases h : 0 ≤ le ∧ le ≤ 3 ∧ 0 ≤ v ∧ v ≤ 7 ∧ 0 ≤ m ∧ m ≤ 7
  · have hput := head_put le v m st po pr d1 d2 p1 p2 r0 r1 r2 r3 a1 a2 o1 o2 e1 e2 t1 t2 h hst hd1 hd2 hp1 hp2 ha1 ha2 ho1 ho2 he1 he2 ht1 ht2
    have by4 := be_byte
    have hlen : ([le * 64 + v * 8 + m, st, po % 256, pr % 256] ++ be (d1 * 65536 + d2) 4 ++ be (p1 * 65536 + p2) 4 ++ [r0, r1, r2, r3] ++ be (a1 * 4294967296 + a2) 8 ++ be (o1 * 4294967296 + o2) 8 ++ be (e1 * 4294967296 + e2) 8 ++ be (t1 * 4294967296 + t2) 8 : List Int).length = 48 := by simp only [List.length_append, List.length_cons, List.length_nil, length_be]
    have hby : bytesL ([le * 64 + v * 8 + m, st, po % 256, pr % 256] ++ be (d1 * 65536 + d2) 4 ++ be (p1 * 65536 + p2) 4 ++ [r0, r1, r2, r3] ++ be (a1 * 4294967296 + a2) 8 ++ be (o1 * 4294967296 + o2) 8 ++ be (e1 * 4294967296 + e2) 8 ++ be (t1 * 4294967296 + t2) 8) := by
      intro x hx
      simp only [List.mem_append, List.mem_cons, List.not_mem_nil, or_false] at hx
      rcases hx with ((((((((rfl | rfl | rfl | rfl) | hx) | hx) | (rfl | rfl | rfl | rfl)) | hx) | hx) | hx) | hx) <;> first | omega | exact be_byte _ _ x hx
    have hcut : Cut48 ([le * 64 + v * 8 + m, st, po % 256, pr % 256] ++ be (d1 * 65536 + d2) 4 ++ be (p1 * 65536 + p2) 4 ++ [r0, r1, r2, r3] ++ be (a1 * 4294967296 + a2) 8 ++ be (o1 * 4294967296 + o2) 8 ++ be (e1 * 4294967296 + e2) 8 ++ be (t1 * 4294967296 + t2) 8) (le * 64 + v * 8 + m) st (po % 256) (pr % 256) r0 r1 r2 r3 (be (d1 * 65536 + d2) 4) (be (p1 * 65536 + p2) 4) (be (a1 * 4294967296 + a2) 8) (be (o1 * 4294967296 + o2) 8) (be (e1 * 4294967296 + e2) 8) (be (t1 * 4294967296 + t2) 8) :=
      ⟨by rw [List.take_of_length_le (by omega)]; simp only [List.append_assoc], hby, by omega, length_be _ _, length_be _ _, length_be _ _, length_be _ _, length_be _ _, length_be _ _⟩
    have hp := head_parse hcut (by omega)
    unfold u16 u32 at *
    have v4 : ∀ w : Int, 0 ≤ w ∧ w < 4294967296 → wordv (be w 4) 0 = w := fun w h => wordv_eq w 4 (by decide) h.1 h.2
    have v8 : ∀ w : Int, 0 ≤ w ∧ w < 18446744073709551616 → wordv (be w 8) 0 = w := fun w h => wordv_eq w 8 (by decide) h.1 h.2
    rw [v4 (d1 * 65536 + d2) (by omega), v4 (p1 * 65536 + p2) (by omega), v8 (a1 * 4294967296 + a2) (by omega), v8 (o1 * 4294967296 + o2) (by omega), v8 (e1 * 4294967296 + e2) (by omega), v8 (t1 * 4294967296 + t2) (by omega), i8_back hpo, i8_back hpr,
      show (le * 64 + v * 8 + m) / 64 = le by omega, show (le * 64 + v * 8 + m) / 8 % 8 = v by omega, show (le * 64 + v * 8 + m) % 8 = m by omega,
      show (d1 * 65536 + d2) / 65536 = d1 by omega, show (d1 * 65536 + d2) % 65536 = d2 by omega, show (p1 * 65536 + p2) / 65536 = p1 by omega, show (p1 * 65536 + p2) % 65536 = p2 by omega,
      show (a1 * 4294967296 + a2) / 4294967296 = a1 by omega, show (a1 * 4294967296 + a2) % 4294967296 = a2 by omega, show (o1 * 4294967296 + o2) / 4294967296 = o1 by omega, show (o1 * 4294967296 + o2) % 4294967296 = o2 by omega,
      show (e1 * 4294967296 + e2) / 4294967296 = e1 by omega, show (e1 * 4294967296 + e2) % 4294967296 = e2 by omega, show (t1 * 4294967296 + t2) / 4294967296 = t1 by omega, show (t1 * 4294967296 + t2) % 4294967296 = t2 by omega] at hp
    rw [hput]
    simp only [Option.bind_some, hp, fitsS_dec, Option.bind_some, Option.isNone_none, Option.isNone_some, Option.isSome_none, Option.isSome_some, Bool.not_true, Bool.not_false, cond_true, cond_false, cond_dec, beq_int, bne_int, not_dec, hlen, decide_true, Bool.and_self, Bool.and_true, not_true_eq_false, if_false]
    first | done | rfl
  · rw [head_put_bad le v m st po pr d1 d2 p1 p2 r0 r1 r2 r3 a1 a2 o1 o2 e1 e2 t1 t2 h]
    simp only [fitsS_dec, Option.bind_some, Option.isNone_none, Option.isNone_some, Option.isSome_none, Option.isSome_some, Bool.not_true, Bool.not_false, cond_true, cond_false, cond_dec, beq_int, bne_int, not_dec]
    first | done | rfl
theorem head_back_all {B : Nat} (le v m st po pr d1 d2 p1 p2 r0 r1 r2 r3 a1 a2 o1 o2 e1 e2 t1 t2 : Int) (b : List Int) (w0 w1 w2 : Int) (f0 : ArgOk B (.int .i64) le) (f1 : ArgOk B (.int .i64) v) (f2 : ArgOk B (.int .i64) m) (f3 : ArgOk B (.int .u8) st) (f4 : ArgOk B (.int .i8) po) (f5 : ArgOk B (.int .i8) pr) (f6 : ArgOk B (.int .u16) d1) (f7 : ArgOk B (.int .u16) d2) (f8 : ArgOk B (.int .u16) p1) (f9 : ArgOk B (.int .u16) p2) (f10 : ArgOk B (.int .u8) r0) (f11 : ArgOk B (.int .u8) r1) (f12 : ArgOk B (.int .u8) r2) (f13 : ArgOk B (.int .u8) r3) (f14 : ArgOk B (.int .u32) a1) (f15 : ArgOk B (.int .u32) a2) (f16 : ArgOk B (.int .u32) o1) (f17 : ArgOk B (.int .u32) o2) (f18 : ArgOk B (.int .u32) e1) (f19 : ArgOk B (.int .u32) e2) (f20 : ArgOk B (.int .u32) t1) (f21 : ArgOk B (.int .u32) t2) (fb : ArgOk B (.sl (.int .u8)) b) (fw : ArgOk B (.int .i32) w0) (fw1 : ArgOk B (.int .i32) w1) (fw2 : ArgOk B (.int .i32) w2) :
    g_law28_HeadBack ((), ((le, (v, (m, (st, (po, (pr, (d1, (d2, (p1, (p2, (r0, (r1, (r2, (r3, (a1, (a2, (o1, (o2, (e1, (e2, (t1, (t2, ())))))))))))))))))))))), ((b, ()), ((w0, (w1, (w2, ()))), ())))) = some ((), ((true, ()), ())) := head_back le v m st po pr d1 d2 p1 p2 r0 r1 r2 r3 a1 a2 o1 o2 e1 e2 t1 t2 w0 w1 w2 b (arg_u8 f3) f4 f5 (arg_u16 f6) (arg_u16 f7) (arg_u16 f8) (arg_u16 f9) (arg_u8 f10) (arg_u8 f11) (arg_u8 f12) (arg_u8 f13) (arg_u32 f14) (arg_u32 f15) (arg_u32 f16) (arg_u32 f17) (arg_u32 f18) (arg_u32 f19) (arg_u32 f20) (arg_u32 f21) (arg_bytes fb) fw
end Go.Proofs.Ythcegipmninkdaa.Ev
