/- Time lines: the reference's reader. -/
import Derived.Test.YticfncahnhbhbaaGreatPuNistF
import Derived.Test.YticfncahnhbhbaaGreatPuTake
namespace Go.Proofs.YticfncahnhbhbaaGreat.Ev
open Go
set_option linter.unusedVariables false
set_option linter.unusedSimpArgs false
@[reducible] def SH : List Int := [10, 48, 48, 48, 48, 48, 32, 48, 48, 45, 48, 48, 45, 48, 48, 32, 48, 48, 58, 48, 48, 58, 48, 48, 32, 48, 48, 32, 48, 32, 48, 32, 42, 42, 42, 46, 48, 32, 85, 84, 67, 40, 78, 73, 83, 84, 41, 32, 33, 10]
def okAt (c b : Int) : Prop := if c = 33 then b = 35 ∨ b = 42 else if c = 48 then isF b else if c = 42 then isF b ∨ b = 32 else b = c
instance (c b : Int) : Decidable (okAt c b) := by unfold okAt; infer_instance
def shOk (S B : List Int) : Prop := ∀ i : Nat, i < 50 → okAt (S.getD i 0) (B.getD i 0)
@[reducible] def zlr : Unit × ((Int × (Int × (Int × (Int × (Int × (Int × (Bool × Unit))))))) × ((Int × Unit) × Unit)) := ((), (zln, ((2, ()), ())))
/-- Where the reference begins to look for the advance. -/
@[reducible] noncomputable def seekS (s : ByteArray) (f : Nat) (c p h a : Int) (m fd : Bool) (v : Int) : Option (Unit × ((Int × (Int × (Int × (Int × (Int × (Int × (Bool × Unit))))))) × ((Int × Unit) × Unit))) :=
  (f_ref26_Parse_t f).2.2.1 ((zln, ((0, (0, (c, (p, (h, (a, (m, ()))))))), ())), ((s, ()), ((), ((), ((fd, ()), ((v, ()), ()))))))
theorem sh_lit : (⟨#[10, 48, 48, 48, 48, 48, 32, 48, 48, 45, 48, 48, 45, 48, 48, 32, 48, 48, 58, 48, 48, 58, 48, 48, 32, 48, 48, 32, 48, 32, 48, 32, 42, 42, 42, 46, 48, 32, 85, 84, 67, 40, 78, 73, 83, 84, 41, 32, 33, 10]⟩ : ByteArray) = strOf SH := by kernel_rfl
theorem sh_by : okBy SH := by intro x hx; simp only [SH, List.mem_cons, List.not_mem_nil, or_false] at hx; omega
theorem num26_p4 (s : ByteArray) (at' : Nat) (w : Nat) (hs : s.size ≤ 1000) (hw : at' + w ≤ s.size) (hw2 : w ≤ 18) (hf : ∀ x ∈ ((bytesOf s).drop at').take w, isF x) : ∀ (k i : Nat), i + k = w →
    Evn (fun f => (f_ref26_number_t f).1 ((), ((s, ()), (((at' : Int), ()), (((w : Int), ()), ((val10 (((bytesOf s).drop at').take i), ()), ((((at' + i : Nat) : Int), ()), ()))))))) ((), ((val10 (((bytesOf s).drop at').take w), ()), ())) := by
  have hl := by_len s
  intro k; induction k with
  | zero =>
    intro i hi
    rw [show i = w by omega]
    refine Evn.some 1 fun f => ?_
    simp only [t_ref26_number, f_ref26_number_p4, fitsS_dec, Option.bind_some, Option.isNone_none, Option.isNone_some, Option.isSome_none, Option.isSome_some, Bool.not_true, Bool.not_false, cond_true, cond_false, cond_dec, beq_int, bne_int, not_dec]
    rw [iadd_i64 (by omega), if_neg (by omega)]
  | succ k ih =>
    intro i hi
    have hb := by_at s (i := ((at' + i : Nat) : Int)) (by omega) (by omega)
    rw [Int.toNat_natCast] at hb
    have hlt : i < ((bytesOf s).drop at').length := by rw [List.length_drop]; omega
    have hg : ((bytesOf s).drop at')[i] = (bytesOf s).getD (at' + i) 0 := by
      rw [List.getElem_drop, List.getD_eq_getElem?_getD, List.getElem?_eq_getElem (by omega)]; rfl
    have ht : ((bytesOf s).drop at').take (i + 1) = ((bytesOf s).drop at').take i ++ [(bytesOf s).getD (at' + i) 0] := by
      rw [List.take_succ_eq_append_getElem hlt, hg]
    have hF : isF ((bytesOf s).getD (at' + i) 0) := hf _ (by
      have : (bytesOf s).getD (at' + i) 0 ∈ ((bytesOf s).drop at').take (i + 1) := by rw [ht]; exact List.mem_append_right _ List.mem_cons_self
      exact List.mem_of_mem_take (i := i + 1) (l := ((bytesOf s).drop at').take w) (by rw [List.take_take, show min (i + 1) w = i + 1 by omega]; exact this))
    have hr := val10_range _ (((bytesOf s).drop at').take i) rfl (fun x hx => hf x (List.mem_of_mem_take (i := i) (by rw [List.take_take, show min i w = i by omega]; exact hx)))
    have hlen : (((bytesOf s).drop at').take i).length = i := by rw [List.length_take]; omega
    rw [hlen] at hr
    have hp : (10 : Int) ^ i ≤ 10 ^ 17 := by
      have : 10 ^ i ≤ 10 ^ 17 := Nat.pow_le_pow_right (by omega) (by omega)
      exact_mod_cast this
    have ih' := ih (i + 1) (by omega)
    rw [ht, val10_snoc] at ih'
    refine ih'.step fun f => ?_
    unfold isF at hF
    simp only [t_ref26_number, f_ref26_number_p4, fitsS_dec, Option.bind_some, Option.isNone_none, Option.isNone_some, Option.isSome_none, Option.isSome_some, Bool.not_true, Bool.not_false, cond_true, cond_false, cond_dec, beq_int, bne_int, not_dec, and_dec]
    have e1 : isub .u8 ((bytesOf s).getD (at' + i) 0) 48 = (bytesOf s).getD (at' + i) 0 - 48 := by unfold isub; rw [wrap_u8]; omega
    rw [iadd_i64 (by omega), if_pos (by omega), if_pos (by omega), hb, e1, iconv_i64 (by omega), imul_i64 (by omega), iadd_i64 (by omega), iadd_i64 (by omega)]; rfl
theorem ref26_number (s : ByteArray) (at' w : Nat) (hs : s.size ≤ 1000) (hw : at' + w ≤ s.size) (hw2 : w ≤ 18) (hf : ∀ x ∈ ((bytesOf s).drop at').take w, isF x) :
    g_ref26_number ((), ((s, ()), (((at' : Int), ()), (((w : Int), ()), ())))) = some ((), ((val10 (((bytesOf s).drop at').take w), ()), ())) := by
  refine ((num26_p4 s at' w hs hw hw2 hf w 0 (by omega)).cast fun f => ?_).lim
  simp only [f_ref26_number_m]; rfl
/-- One step of the look at the shape. -/
theorem shape_step (s : ByteArray) (hs : s.size = 50) (i : Nat) (hi : i < 50) (f : Nat) :
    (f_ref26_Parse_t (f + 2)).1 ((zln, ()), ((s, ()), ((), ((strOf SH, ()), (((i : Int), ()), ()))))) =
      if okAt (SH.getD i 0) ((bytesOf s).getD i 0) then (f_ref26_Parse_t f).1 ((zln, ()), ((s, ()), ((), ((strOf SH, ()), ((((i + 1 : Nat) : Int), ()), ()))))) else some zlr := by
  have hb := by_at s (i := (i : Int)) (by omega) (by omega)
  have hS := by_at (strOf SH) (i := (i : Int)) (by omega) (by rw [str_size]; show (i : Int) < (50 : Nat); omega)
  rw [by_str sh_by] at hS
  rw [Int.toNat_natCast] at hb hS
  have hr := okBy_at (by_ok s) i
  have hz : (strOf SH).size = 50 := by rw [str_size]; rfl
  have e1 : iadd .i64 (i : Int) 1 = ((i + 1 : Nat) : Int) := by rw [iadd_i64 (by omega)]; rfl
  generalize (bytesOf s).getD i 0 = b at hb hr ⊢
  generalize SH.getD i 0 = c at hS ⊢
  have hd : (0 : Int) ≤ (i : Int) ∧ (i : Int) < 50 := by omega
  have h50 : ((50 : Nat) : Int) = 50 := rfl
  simp only [t_ref26_Parse, f_ref26_Parse_p7, f_ref26_Parse_p15, hs, hz, h50, hb, hS, ref02_is b hr, e1, fitsS_dec, Option.bind_some, Option.isNone_none, Option.isNone_some, Option.isSome_none, Option.isSome_some, Bool.not_true, Bool.not_false, cond_true, cond_false, cond_dec, beq_int, bne_int, not_dec, and_dec, hd, and_self, if_true, if_false]
  unfold okAt
  by_cases c33 : c = 33
  · subst c33
    by_cases q1 : b = 35
    · simp [q1]
    · by_cases q2 : b = 42
      · simp [q2]
      · simp [q1, q2]
  · by_cases c48 : c = 48
    · subst c48
      by_cases q : isF b <;> simp [q]
    · by_cases c42 : c = 42
      · subst c42
        by_cases q : isF b
        · simp [q]
        · by_cases q2 : b = 32 <;> simp [q, q2]
      · by_cases q : b = c
        · subst q; simp [c33, c48, c42]
        · simp [c33, c48, c42, q]
theorem shape_ok (s : ByteArray) (hs : s.size = 50) (R) (hR : Evn (fun f => (f_ref26_Parse_t f).1 ((zln, ()), ((s, ()), ((), ((strOf SH, ()), (((50 : Int), ()), ())))))) R) (ha : shOk SH (bytesOf s)) : ∀ (k i : Nat), i + k = 50 →
    Evn (fun f => (f_ref26_Parse_t f).1 ((zln, ()), ((s, ()), ((), ((strOf SH, ()), (((i : Int), ()), ())))))) R := by
  intro k; induction k with
  | zero => intro i hi; rw [show i = 50 by omega]; exact hR
  | succ k ih =>
    intro i hi
    obtain ⟨n, hn⟩ := ih (i + 1) (by omega)
    refine ⟨n + 2, fun j hj => ?_⟩
    obtain ⟨j', rfl⟩ : ∃ j', j = j' + 2 := ⟨j - 2, by omega⟩
    show (f_ref26_Parse_t (j' + 2)).1 _ = _
    rw [shape_step s hs i (by omega), if_pos (ha i (by omega))]
    exact hn j' (by omega)
theorem shape_bad (s : ByteArray) (hs : s.size = 50) (ha : ¬ shOk SH (bytesOf s)) : Evn (fun f => (f_ref26_Parse_t f).1 ((zln, ()), ((s, ()), ((), ((strOf SH, ()), (((0 : Int), ()), ())))))) zlr := by
  obtain ⟨j, hj, hb⟩ : ∃ i, i < 50 ∧ ¬ okAt (SH.getD i 0) ((bytesOf s).getD i 0) := by
    refine Classical.byContradiction fun q => ha fun i hi => Classical.byContradiction fun q2 => q ⟨i, hi, q2⟩
  have : ∀ (k i : Nat), i + k = j → Evn (fun f => (f_ref26_Parse_t f).1 ((zln, ()), ((s, ()), ((), ((strOf SH, ()), (((i : Int), ()), ())))))) zlr := by
    intro k; induction k with
    | zero =>
      intro i hi
      refine Evn.some 2 fun f => ?_
      rw [shape_step s hs i (by omega), if_neg (by rw [show i = j by omega]; exact hb)]
    | succ k ih =>
      intro i hi
      obtain ⟨n, hn⟩ := ih (i + 1) (by omega)
      refine ⟨n + 2, fun j' hj' => ?_⟩
      obtain ⟨j', rfl⟩ : ∃ x, j' = x + 2 := ⟨j' - 2, by omega⟩
      show (f_ref26_Parse_t (j' + 2)).1 _ = _
      rw [shape_step s hs i (by omega)]
      by_cases q : okAt (SH.getD i 0) ((bytesOf s).getD i 0)
      · rw [if_pos q]; exact hn j' (by omega)
      · rw [if_neg q]
  exact this j 0 (by omega)

theorem list_get (B : List Int) : B = (List.range B.length).map fun i => B.getD i 0 := by
  refine List.ext_getElem (by simp) fun i h1 h2 => ?_
  simp only [List.getElem_map, List.getElem_range]
  rw [List.getD_eq_getElem?_getD, List.getElem?_eq_getElem h1]; rfl
theorem list50 {B : List Int} (h : B.length = 50) : ∃ b : Nat → Int, (∀ i, b i = B.getD i 0) ∧ B = [b 0, b 1, b 2, b 3, b 4, b 5, b 6, b 7, b 8, b 9, b 10, b 11, b 12, b 13, b 14, b 15, b 16, b 17, b 18, b 19, b 20, b 21, b 22, b 23, b 24, b 25, b 26, b 27, b 28, b 29, b 30, b 31, b 32, b 33, b 34, b 35, b 36, b 37, b 38, b 39, b 40, b 41, b 42, b 43, b 44, b 45, b 46, b 47, b 48, b 49] := by
  refine ⟨fun i => B.getD i 0, fun i => rfl, ?_⟩
  have := list_get B
  rw [h] at this
  exact this
theorem list5 {B : List Int} (h : B.length = 5) : ∃ a b c d e : Int, B = [a, b, c, d, e] := by
  have := list_get B
  rw [h] at this
  exact ⟨_, _, _, _, _, this⟩
theorem list2 {B : List Int} (h : B.length = 2) : ∃ a b : Int, B = [a, b] := by
  have := list_get B
  rw [h] at this
  exact ⟨_, _, this⟩
theorem list1 {B : List Int} (h : B.length = 1) : ∃ a : Int, B = [a] := by
  have := list_get B
  rw [h] at this
  exact ⟨_, this⟩
theorem ex5 (k : Nat) : ∃ a b c d e : Int, dgs k 5 = [a, b, c, d, e] ∧ isF a ∧ isF b ∧ isF c ∧ isF d ∧ isF e := by
  obtain ⟨a, b, c, d, e, h⟩ := list5 (dgs_len 5 k)
  have hf := dgs_ok 5 k
  rw [h] at hf
  exact ⟨a, b, c, d, e, h, hf a (by simp), hf b (by simp), hf c (by simp), hf d (by simp), hf e (by simp)⟩
theorem ex2 (k : Nat) : ∃ a b : Int, dgs k 2 = [a, b] ∧ isF a ∧ isF b := by
  obtain ⟨a, b, h⟩ := list2 (dgs_len 2 k)
  have hf := dgs_ok 2 k
  rw [h] at hf
  exact ⟨a, b, h, hf a (by simp), hf b (by simp)⟩
theorem ex1' (k : Nat) : ∃ a : Int, dgs k 1 = [a] ∧ isF a := by
  obtain ⟨a, h⟩ := list1 (dgs_len 1 k)
  have hf := dgs_ok 1 k
  rw [h] at hf
  exact ⟨a, h, hf a (by simp)⟩
theorem exA {v : Int} (hv : 0 ≤ v ∧ v ≤ 9999) : ∃ a b c d : Int, advL v = [a, b, c, 46, d] ∧ (isF a ∨ a = 32) ∧ (isF b ∨ b = 32) ∧ (isF c ∨ c = 32) ∧ isF d := by
  have h3 := padd3 hv
  obtain ⟨d, hd, hd2⟩ := ex1' (v % 10).toNat
  have hl : (List.replicate (3 - (padd (v / 10).toNat 1).length) (32 : Int) ++ padd (v / 10).toNat 1).length = 3 := by
    rw [List.length_append, List.length_replicate]; omega
  have hm : ∀ x ∈ List.replicate (3 - (padd (v / 10).toNat 1).length) (32 : Int) ++ padd (v / 10).toNat 1, isF x ∨ x = 32 := by
    intro x hx
    rcases List.mem_append.1 hx with h | h
    · exact Or.inr (List.mem_replicate.1 h).2
    · exact Or.inl (padd_isF _ _ x h)
  unfold advL
  rw [hd]
  generalize List.replicate (3 - (padd (v / 10).toNat 1).length) (32 : Int) ++ padd (v / 10).toNat 1 = Q at hl hm ⊢
  have hq := list_get Q
  rw [hl] at hq
  have hq2 : Q = [Q.getD 0 0, Q.getD 1 0, Q.getD 2 0] := hq
  generalize Q.getD 0 0 = a at hq2
  generalize Q.getD 1 0 = b at hq2
  generalize Q.getD 2 0 = c at hq2
  subst hq2
  exact ⟨a, b, c, d, rfl, hm a (by simp), hm b (by simp), hm c (by simp), hd2⟩
end Go.Proofs.YticfncahnhbhbaaGreat.Ev
