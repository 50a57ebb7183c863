/- ISO instants: the reference's whole reader, joined. -/
import Derived.Test.YtignndakgibpaaaGreatPuIsoJ
namespace Go.Proofs.YtignndakgibpaaaGreat.Ev
open Go
set_option linter.unusedVariables false
set_option linter.unusedSimpArgs false
theorem ish_lit : (⟨#[48, 48, 48, 48, 45, 48, 48, 45, 48, 48, 84, 48, 48, 58, 48, 48, 58, 48, 48]⟩ : ByteArray) = strOf iSh := by kernel_rfl
theorem ish_by : okBy iSh := by intro x hx; simp only [iSh, List.mem_cons, List.not_mem_nil, or_false] at hx; omega
structure Cut19 (s : ByteArray) (f : IF) : Prop where
  cY : s.extract 0 4 = strOf f.Y
  cM : s.extract 5 7 = strOf f.M
  cD : s.extract 8 10 = strOf f.D
  cH : s.extract 11 13 = strOf f.H
  cI : s.extract 14 16 = strOf f.I
  cS : s.extract 17 19 = strOf f.S
  cR : s.extract 19 s.size = strOf f.R
  sz : s.size = 19 + f.R.length
theorem cut19 {s : ByteArray} {f : IF} (h : headed (bytesOf s) f) : Cut19 s f := by
  obtain ⟨⟨⟨hY, y4⟩, ⟨hM, m2⟩, ⟨hD, d2⟩, ⟨hH, h2⟩, ⟨hI, i2⟩, ⟨hS, s2⟩, ht⟩, hB⟩ := h
  obtain ⟨a, b, c, d, e1⟩ := l4 y4
  obtain ⟨e, g, e2⟩ := l2 m2
  obtain ⟨j, k, e3⟩ := l2 d2
  obtain ⟨l, m, e4⟩ := l2 h2
  obtain ⟨n, o, e5⟩ := l2 i2
  obtain ⟨p, q, e6⟩ := l2 s2
  have hsz : s.size = 19 + f.R.length := by
    rw [← by_len, hB]
    unfold IF.L
    simp only [List.length_append, List.length_cons, y4, m2, d2, h2, i2, s2]; omega
  unfold IF.L at hB
  have hall : (bytesOf s).take s.size = bytesOf s := by rw [← by_len, List.take_length]
  constructor
  · rw [ex_strI, hB, e1, e2, e3, e4, e5, e6]; rfl
  · rw [ex_strI, hB, e1, e2, e3, e4, e5, e6]; rfl
  · rw [ex_strI, hB, e1, e2, e3, e4, e5, e6]; rfl
  · rw [ex_strI, hB, e1, e2, e3, e4, e5, e6]; rfl
  · rw [ex_strI, hB, e1, e2, e3, e4, e5, e6]; rfl
  · rw [ex_strI, hB, e1, e2, e3, e4, e5, e6]; rfl
  · rw [ex_strI, hall, hB, e1, e2, e3, e4, e5, e6]; rfl
  · exact hsz
theorem vfig {F : List Int} {w : Nat} (h : (∀ y ∈ F, isF y) ∧ F.length = w) (hw : w ≤ 18) : g_ref24_number ((), ((strOf F, ()), ())) = some ((), ((val10 F, ()), ())) := ref24_number F h.1 (by omega)
/-- Where the reference goes on behind the seconds. -/
theorem ref24_go (s : ByteArray) (hs : s.size ≤ 1000000) (f : IF) (h : headed (bytesOf s) f) (k : Nat) :
    f_ref24_Parse_m (f_ref24_Parse_t k) ((), ((s, ()), ())) =
      match f.R with
      | [] => (f_ref24_Parse_t k).1 ((zli, (zli, ((val10 f.Y, (val10 f.M, (val10 f.D, (val10 f.H, (val10 f.I, (val10 f.S, (0, (0, ())))))))), ()))), ((), ((), ((), ((strOf [], ()), ((strOf [], ()), ((true, ()), ())))))))
      | x :: r => if x = 46 then (if lead r = 0 then some ((), (zli, ((2, ()), ()))) else (f_ref24_Parse_t k).1 ((zli, (zli, ((val10 f.Y, (val10 f.M, (val10 f.D, (val10 f.H, (val10 f.I, (val10 f.S, (0, (0, ())))))))), ()))), ((), ((), ((), ((strOf (r.drop (lead r)), ()), ((strOf (r.take (lead r)), ()), ((true, ()), ()))))))))
        else (f_ref24_Parse_t k).1 ((zli, (zli, ((val10 f.Y, (val10 f.M, (val10 f.D, (val10 f.H, (val10 f.I, (val10 f.S, (0, (0, ())))))))), ()))), ((), ((), ((), ((strOf (x :: r), ()), ((strOf [], ()), ((true, ()), ()))))))) := by
  have C := cut19 h
  have hg := h.1
  obtain ⟨gY, gM, gD, gH, gI, gS, ht⟩ := hg
  obtain ⟨v, hv, hf⟩ := ref24_fits iSh (bytesOf s) ish_by (by_ok s) (by rw [by_len]; exact hs)
  rw [str_by] at hf
  have hvt : v = true := hv.2 ⟨by have := (head_fits h).1; exact this, (head_fits h).2⟩
  have hoR : okBy f.R := fun x hx => by_ok s x (by rw [h.2]; unfold IF.L; simp [hx])
  have n1 := vfig gY (by decide)
  have n2 := vfig gM (by decide)
  have n3 := vfig gD (by decide)
  have n4 := vfig gH (by decide)
  have n5 := vfig gI (by decide)
  have n6 := vfig gS (by decide)
  have hsz := C.sz
  have b1 : (0 : Int) ≤ 0 ∧ (4 : Int) ≤ (s.size : Int) := by omega
  have b2 : (7 : Int) ≤ (s.size : Int) := by omega
  have b3 : (10 : Int) ≤ (s.size : Int) := by omega
  have b4 : (13 : Int) ≤ (s.size : Int) := by omega
  have b5 : (16 : Int) ≤ (s.size : Int) := by omega
  have b6 : (19 : Int) ≤ (s.size : Int) := by omega
  have b7 : (19 : Int) ≤ (s.size : Int) ∧ (s.size : Int) ≤ (s.size : Int) := by omega
  have x1 : s.extract (Int.toNat 0) (Int.toNat 4) = strOf f.Y := C.cY
  have x2 : s.extract (Int.toNat 5) (Int.toNat 7) = strOf f.M := C.cM
  have x3 : s.extract (Int.toNat 8) (Int.toNat 10) = strOf f.D := C.cD
  have x4 : s.extract (Int.toNat 11) (Int.toNat 13) = strOf f.H := C.cH
  have x5 : s.extract (Int.toNat 14) (Int.toNat 16) = strOf f.I := C.cI
  have x6 : s.extract (Int.toNat 17) (Int.toNat 19) = strOf f.S := C.cS
  have x7 : s.extract (Int.toNat 19) (Int.toNat (s.size : Int)) = strOf f.R := by
    rw [Int.toNat_natCast]; exact C.cR
  simp only [f_ref24_Parse_m, ish_lit, hf, hvt, x1, x2, x3, x4, x5, x6, x7, n1, n2, n3, n4, n5, n6, b1, b2, b3, b4, b5, b6, b7, str_size, sc_nil, fitsS_dec, Option.bind_some, Option.isNone_none, Option.isNone_some, Option.isSome_none, Option.isSome_some, Bool.not_true, Bool.not_false, cond_true, cond_false, cond_dec, beq_int, bne_int, not_dec, and_dec, and_self, if_true, gt_iff_lt]
  generalize hR : f.R = R at hoR hsz ⊢
  cases R with
  | nil => rw [if_neg (by simp)]
  | cons x r =>
    have hb := by_at (strOf (x :: r)) (i := 0) (by omega) (by rw [str_size]; simp)
    rw [by_str hoR] at hb
    have hb' : bt (strOf (x :: r)) 0 = x := hb
    have hor : okBy r := fun y hy => hoR y (List.mem_cons_of_mem _ hy)
    rw [List.length_cons] at hsz
    have hlr := lead_le r
    have y1 : (strOf (x :: r)).extract (Int.toNat 1) (Int.toNat (((x :: r).length : Nat) : Int)) = strOf r := by
      rw [str_cut, Int.toNat_natCast, List.take_length]; rfl
    have hm := ref02_many (strOf r) (by rw [str_size]; omega)
    rw [by_str hor] at hm
    have i1 : iadd .i64 1 ((lead r : Nat) : Int) = ((lead r + 1 : Nat) : Int) := by rw [iadd_i64 (by omega)]; omega
    have y2 : (strOf (x :: r)).extract (Int.toNat 1) (Int.toNat ((lead r + 1 : Nat) : Int)) = strOf (r.take (lead r)) := by
      rw [str_cut, Int.toNat_natCast, List.take_succ_cons]; rfl
    have y3 : (strOf (x :: r)).extract (Int.toNat ((lead r + 1 : Nat) : Int)) (Int.toNat (((x :: r).length : Nat) : Int)) = strOf (r.drop (lead r)) := by
      rw [str_cut, Int.toNat_natCast, Int.toNat_natCast, List.take_length, List.drop_succ_cons]
    simp only [hb', y1, hm, i1, y2, y3, Option.bind_some]
    have z4 : (0 : Int) < ((x :: r).length : Int) := by simp only [List.length_cons]; omega
    have z5 : True ∧ (0 : Int) < ((x :: r).length : Int) := ⟨trivial, z4⟩
    rw [if_pos z4, if_pos z5]
    by_cases c : x = 46
    · have z1 : (1 : Int) ≤ ((x :: r).length : Int) ∧ ((x :: r).length : Int) ≤ ((x :: r).length : Int) := by simp only [List.length_cons]; omega
      have z2 : (1 : Int) ≤ ((lead r + 1 : Nat) : Int) ∧ ((lead r + 1 : Nat) : Int) ≤ ((x :: r).length : Int) := by simp only [List.length_cons]; omega
      have z3 : ((0 : Int) ≤ ((lead r + 1 : Nat) : Int) ∧ ((lead r + 1 : Nat) : Int) ≤ ((x :: r).length : Int)) ∧ ((x :: r).length : Int) ≤ ((x :: r).length : Int) := by simp only [List.length_cons]; omega
      rw [if_pos c, if_pos c]
      by_cases c2 : lead r = 0
      · have c3 : ((lead r : Nat) : Int) = 0 := by omega
        rw [if_pos c2, if_pos z1, if_pos c3]
      · have c3 : ¬ ((lead r : Nat) : Int) = 0 := by omega
        rw [if_neg c2, if_pos z1, if_neg c3, if_pos z2, if_pos z3]
    · rw [if_neg c, if_neg c]
end Go.Proofs.YtignndakgibpaaaGreat.Ev
