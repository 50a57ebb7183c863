/- The evaluator's cuts, lengths, conversions, assertions and stores are sound. -/
import Derived.Test.YtfdppbfefplikaaEv8
namespace Go.Proofs.Ytfdppbfefplikaa.Ev
open Go
open Go.RowKit
set_option linter.unusedVariables false
set_option linter.unusedSimpArgs false
section
variable {P : Program} {E : Env} {R : Type} {out : R} {g0 g g' : Gh} {w0 w w' : World} {sl : List AV} {bs0 bs bs' : Boxes} {a : Act}

theorem Reps.split {α : Type} {r : α → List Value → Prop} : ∀ {xs ys : List α} {cs : List Value}, Reps r (xs ++ ys) cs → ∃ c1 c2, cs = c1 ++ c2 ∧ Reps r xs c1 ∧ Reps r ys c2
  | [], ys, cs, h => ⟨[], cs, rfl, rfl, h⟩
  | x :: xs, ys, cs, ⟨d1, d2, e, h1, h2⟩ => by
    obtain ⟨c1, c2, e2, h3, h4⟩ := Reps.split (xs := xs) h2
    exact ⟨d1 ++ c1, c2, by rw [e, e2, List.append_assoc], ⟨d1, c1, rfl, h1, h3⟩, h4⟩
theorem Reps.join {α : Type} {r : α → List Value → Prop} : ∀ {xs ys : List α} {c1 c2 : List Value}, Reps r xs c1 → Reps r ys c2 → Reps r (xs ++ ys) (c1 ++ c2)
  | [], ys, c1, c2, h1, h2 => by simp only [Reps] at h1; subst h1; exact h2
  | x :: xs, ys, _, c2, ⟨d1, d2, e, h1, h3⟩, h2 => ⟨d1, d2 ++ c2, by rw [e, List.append_assoc], h1, Reps.join h3 h2⟩
theorem Lies.mid {b o : Nat} {c1 c2 c3 : List Value} (h : Lies w b o (c1 ++ (c2 ++ c3))) : Lies w b (o + c1.length) c2 := by
  intro j u hj
  rw [Nat.add_assoc]
  refine h (c1.length + j) u ?_
  rw [List.getElem?_append_right (by omega), Nat.add_sub_cancel_left, List.getElem?_append_left (List.getElem?_eq_some_iff.1 hj).1]
  exact hj
def OI : Option Int → Option Value → Prop
  | none, none => True
  | some i, some v => ∃ k, v = .int k i
  | _, _ => False
theorem optInt_rel (hr : Rel E.ET g0 bs0 w0 g ⟨sl, bs⟩ a w) {o : Option Operand} {i : Option Int} (h : optInt o sl = some i) : OI i (o.map a.eval) := by
  cases o with
  | none => simp only [optInt, Option.some.injEq] at h; subst h; trivial
  | some o =>
    simp only [optInt] at h
    split at h
    · rename_i j hj
      simp only [Option.some.injEq] at h
      subst h
      obtain ⟨k, e⟩ := asI_of hj
      have := opnd_rel hr o
      rw [e] at this
      exact ⟨k, rel_int this⟩
    · cases h
theorem run_bounds {lo hi : Option Int} {lv hv : Option Value} {isS : Bool} {len cap : Nat} (hl : OI lo lv) (hh : OI hi hv) (h0 : 0 ≤ lo.getD 0) (h1 : lo.getD 0 ≤ hi.getD (len : Int)) (h2 : hi.getD (len : Int) ≤ (len : Int)) (h3 : len ≤ cap) :
    (Instr.sliceBounds isS len cap lv hv none).run P w = .ok ((lo.getD 0).toNat, (hi.getD (len : Int)).toNat, cap) w := by
  unfold Instr.sliceBounds
  cases hi with
  | none =>
    cases hv with
    | some _ => exact hh.elim
    | none =>
      cases lo with
      | none => cases lv with
        | some _ => exact hl.elim
        | none => simp
      | some i => cases lv with
        | none => exact hl.elim
        | some v =>
          obtain ⟨k, rfl⟩ := hl
          simp only [Option.getD_some, Option.getD_none] at h0 h1 h2
          simp [run_sliceBound (P := P) w k i len _ h0 h1]
  | some j =>
    cases hv with
    | none => exact hh.elim
    | some v =>
      obtain ⟨k', rfl⟩ := hh
      simp only [Option.getD_some] at h1 h2
      have hj0 : 0 ≤ j := Int.le_trans h0 h1
      cases lo with
      | none => cases lv with
        | some _ => exact hl.elim
        | none =>
          simp [run_sliceBound (P := P) w k' j cap _ hj0 (by omega)]
      | some i => cases lv with
        | none => exact hl.elim
        | some v =>
          obtain ⟨k, rfl⟩ := hl
          simp only [Option.getD_some] at h0 h1
          simp [run_sliceBound (P := P) w k' j cap _ hj0 (by omega), run_sliceBound (P := P) w k i j.toNat _ h0 (by omega)]
theorem Lies.left {b o : Nat} {c1 c2 : List Value} (h : Lies w b o (c1 ++ c2)) : Lies w b o c1 := fun j u hj => h j u (by rw [List.getElem?_append_left (List.getElem?_eq_some_iff.1 hj).1]; exact hj)
theorem Lies.right {b o : Nat} {c1 c2 : List Value} (h : Lies w b o (c1 ++ c2)) : Lies w b (o + c1.length) c2 := fun j u hj => by
  rw [Nat.add_assoc]; exact h _ u (by rw [List.getElem?_append_right (by omega), Nat.add_sub_cancel_left]; exact hj)
theorem subT_rel {ET : TypeId} {ok : Nat → Prop} : ∀ {s : Ty} {x : s.den} {off : Nat} {t : Ty} {y : t.den} {b o : Nat} {cs : List Value}, subT s x off t = some y → Rep ET ok w s x cs → Lies w b o cs →
    ∃ cs', Rep ET ok w t y cs' ∧ Lies w b (o + off) cs'
  | .pair s1 s2, x, off, t, y, b, o, cs, h, hr, hl => by
    simp only [subT] at h
    split at h
    · rename_i e
      obtain ⟨e1, e2⟩ := e
      subst e1; subst e2
      simp only [Option.some.injEq] at h
      subst h
      exact ⟨cs, hr, hl⟩
    · obtain ⟨c1, c2, rfl, h1, h2⟩ := hr
      cases hb : Nat.blt off s1.sz with
      | true => rw [hb] at h; exact subT_rel h h1 hl.left
      | false =>
        rw [hb] at h
        have hle : s1.sz ≤ off := by
          rcases Nat.lt_or_ge off s1.sz with q | q
          · rw [← Nat.blt_eq] at q; rw [hb] at q; cases q
          · exact q
        obtain ⟨cs', q1, q2⟩ := subT_rel h h2 hl.right
        rw [Rep.length h1, show o + s1.sz + (off - s1.sz) = o + off by omega] at q2
        exact ⟨cs', q1, q2⟩
  | .int _, x, off, t, y, b, o, cs, h, hr, hl => by
    simp only [subT] at h
    split at h
    · rename_i e; obtain ⟨e1, e2⟩ := e; subst e1; subst e2; simp only [Option.some.injEq] at h; subst h; exact ⟨cs, hr, hl⟩
    · cases h
  | .bool, x, off, t, y, b, o, cs, h, hr, hl => by
    simp only [subT] at h
    split at h
    · rename_i e; obtain ⟨e1, e2⟩ := e; subst e1; subst e2; simp only [Option.some.injEq] at h; subst h; exact ⟨cs, hr, hl⟩
    · cases h
  | .str, x, off, t, y, b, o, cs, h, hr, hl => by
    simp only [subT] at h
    split at h
    · rename_i e; obtain ⟨e1, e2⟩ := e; subst e1; subst e2; simp only [Option.some.injEq] at h; subst h; exact ⟨cs, hr, hl⟩
    · cases h
  | .err, x, off, t, y, b, o, cs, h, hr, hl => by
    simp only [subT] at h
    split at h
    · rename_i e; obtain ⟨e1, e2⟩ := e; subst e1; subst e2; simp only [Option.some.injEq] at h; subst h; exact ⟨cs, hr, hl⟩
    · cases h
  | .sl _, x, off, t, y, b, o, cs, h, hr, hl => by
    simp only [subT] at h
    split at h
    · rename_i e; obtain ⟨e1, e2⟩ := e; subst e1; subst e2; simp only [Option.some.injEq] at h; subst h; exact ⟨cs, hr, hl⟩
    · cases h
  | .nptr _, x, off, t, y, b, o, cs, h, hr, hl => by
    simp only [subT] at h
    split at h
    · rename_i e; obtain ⟨e1, e2⟩ := e; subst e1; subst e2; simp only [Option.some.injEq] at h; subst h; exact ⟨cs, hr, hl⟩
    · cases h
  | .unit, x, off, t, y, b, o, cs, h, hr, hl => by
    simp only [subT] at h
    split at h
    · rename_i e; obtain ⟨e1, e2⟩ := e; subst e1; subst e2; exact ⟨cs, hr, hl⟩
    · cases h
theorem subsT_rel {ET : TypeId} {ok : Nat → Prop} {s e : Ty} {x : s.den} {b o : Nat} {cs : List Value} (hr : Rep ET ok w s x cs) (hl : Lies w b o cs) : ∀ {n off : Nat} {l : List e.den}, subsT s x e n off = some l →
    l.length = n ∧ ∃ cs', Reps (fun x c => Rep ET ok w e x c) l cs' ∧ Lies w b (o + off) cs'
  | 0, off, l, h => by
    simp only [subsT, Option.some.injEq] at h
    subst h
    exact ⟨rfl, [], rfl, fun j u hj => by simp at hj⟩
  | n + 1, off, l, h => by
    simp only [subsT] at h
    split at h
    · rename_i y hy
      split at h
      · rename_i l' hl'
        simp only [Option.some.injEq] at h
        subst h
        obtain ⟨c1, r1, r2⟩ := subT_rel hy hr hl
        obtain ⟨e1, c2, r3, r4⟩ := subsT_rel hr hl hl'
        refine ⟨by simp [e1], c1 ++ c2, ⟨c1, c2, rfl, r1, r3⟩, fun j u hj => ?_⟩
        by_cases hlt : j < c1.length
        · rw [List.getElem?_append_left hlt] at hj; exact r2 j u hj
        · rw [List.getElem?_append_right (by omega)] at hj
          have := r4 _ u hj
          have hlen := Rep.length r1
          rw [show o + (off + e.sz) + (j - c1.length) = o + off + j by omega] at this
          exact this
      · cases h
    · cases h
theorem slice_sound (hE : EnvOk P E) {T : TypeId} {x : AV} {xv : Value} {lo hi : Option Int} {lv hv : Option Value} {K : AV → Option R} (h : evSlice E T x lo hi bs K = some out)
    (hx : VRel E.ET g bs w x xv) (hl : OI lo lv) (hh : OI hi hv) : ∃ v u, K v = some out ∧ VRel E.ET g bs w v u ∧ (Instr.sliceAt T xv lv hv none).run P w = .ok u w := by
  unfold evSlice at h
  split at h
  · rename_i s hk
    obtain ⟨d, hd, rfl⟩ := und_of hE hk (by simp)
    rw [rel_str hx]
    simp only at h
    obtain ⟨h012, h⟩ := bif_some h
    obtain ⟨h01, h2⟩ := and3 h012
    obtain ⟨h0, h1⟩ := and3 h01
    have hr := run_bounds (P := P) (w := w) (isS := false) (len := s.size) (cap := s.size) hl hh (of_decide_eq_true h0) (of_decide_eq_true h1) (of_decide_eq_true h2) (Nat.le_refl _)
    refine ⟨_, _, h, str_rel _, ?_⟩
    simp [Instr.sliceAt, Instr.slice, run_underlying hd, hr]
  · rename_i e t xs hk
    obtain ⟨d, hd, rfl⟩ := und_of hE hk (by simp)
    simp only at h
    obtain ⟨he, h⟩ := bif_some h
    obtain ⟨h012, h⟩ := bif_some h
    obtain ⟨h01, h2⟩ := and3 h012
    obtain ⟨h0, h1⟩ := and3 h01
    have h0 := of_decide_eq_true h0
    have h1 := of_decide_eq_true h1
    have h2 := of_decide_eq_true h2
    obtain ⟨r, ti, _, h3, h4, _, _, h5, _⟩ := elemRow_of hE he
    obtain ⟨A, c, cs', e1, h6, h7, h8⟩ := val_cell hx
    simp only [List.cons.injEq, and_true] at e1
    subst e1
    have hr := run_bounds (P := P) (w := w) (isS := true) (len := xs.length) (cap := c) hl hh h0 h1 h2 h6
    generalize lo.getD 0 = l at h0 h1 hr h
    generalize hi.getD (xs.length : Int) = m at h1 h2 hr h
    obtain ⟨l, rfl⟩ := Int.eq_ofNat_of_zero_le h0
    obtain ⟨m, rfl⟩ := Int.eq_ofNat_of_zero_le (Int.le_trans h0 h1)
    simp only [Int.toNat_natCast] at hr h
    have hlm : l ≤ m := by omega
    have hmx : m ≤ xs.length := by omega
    have hrun : (Instr.sliceAt T (.slice A xs.length c) lv hv none).run P w = .ok (.slice (if c = l then A else A.map (·.add (l * ti.size))) (m - l) (c - l)) w := by
      simp [Instr.sliceAt, Instr.slice, run_underlying hd, hr, run_sizeOf h3]
    have hsplit : xs = xs.take l ++ ((xs.take m).drop l ++ xs.drop m) := by
      rw [← List.append_assoc]
      conv => lhs; rw [← List.take_append_drop m xs]
      congr 1
      conv => lhs; rw [← List.take_append_drop l (xs.take m)]
      rw [List.take_take, Nat.min_eq_left hlm]
    rw [hsplit] at h7
    obtain ⟨c1, c23, e2, k1, k23⟩ := Reps.split h7
    obtain ⟨c2, c3, e3, k2, k3⟩ := Reps.split k23
    have hl1 := Reps.length (fun x c hc => Rep.length hc) k1
    have hl2 := Reps.length (fun x c hc => Rep.length hc) k2
    have hlen : ((xs.take m).drop l).length = m - l := by simp; omega
    refine ⟨_, _, h, ?_, hrun⟩
    refine ⟨_, c - l, c2, by rw [hlen], by rw [hlen]; omega, k2, ?_⟩
    by_cases hz : m = l
    · left
      rw [hlen, hz] at hl2
      simpa using hl2
    · rcases h8 with rfl | ⟨b, o, rfl, k4, k5⟩
      · left
        have := congrArg List.length e2
        rw [e3] at this
        simp only [List.length_nil, List.length_append] at this
        exact List.eq_nil_of_length_eq_zero (by omega)
      · right
        refine ⟨b, o + c1.length, ?_, k4, ?_⟩
        · rw [if_neg (by omega), hl1, h4]
          simp only [Option.map_some, Addr.add_lit, List.length_take, Nat.min_eq_left (Nat.le_trans hlm hmx)]
        · rw [e2, e3] at k5
          exact k5.mid
  · rename_i n e t y off hk
    obtain ⟨d, hd, rfl⟩ := und_of hE hk (by simp)
    split at h
    · rename_i r hrow
      split at h
      · rename_i xs hxs
        simp only at h
        obtain ⟨he, h⟩ := bif_some h
        obtain ⟨h012, h⟩ := bif_some h
        obtain ⟨h01, h2⟩ := and3 h012
        obtain ⟨h0, h1⟩ := and3 h01
        have h0 := of_decide_eq_true h0
        have h1 := of_decide_eq_true h1
        have h2 := of_decide_eq_true h2
        obtain ⟨r', ti, _, h3, h4, _, _, h5, _⟩ := elemRow_of hE he
        obtain ⟨b, o, cs, rfl, q1, q2, q3⟩ := hx
        obtain ⟨el, cs', h7, k5⟩ := subsT_rel q2 q3 hxs
        have hr := run_bounds (P := P) (w := w) (isS := false) (len := n) (cap := n) hl hh h0 h1 h2 (Nat.le_refl _)
        generalize lo.getD 0 = l at h0 h1 hr h
        generalize hi.getD (n : Int) = m at h1 h2 hr h
        obtain ⟨l, rfl⟩ := Int.eq_ofNat_of_zero_le h0
        obtain ⟨m, rfl⟩ := Int.eq_ofNat_of_zero_le (Int.le_trans h0 h1)
        simp only [Int.toNat_natCast] at hr h
        have hlm : l ≤ m := by omega
        have hmx : m ≤ xs.length := by omega
        have hrun : (Instr.sliceAt T (.pointer (some ⟨b, o + off, none⟩)) lv hv none).run P w = .ok (.slice (some (if n = l then ⟨b, o + off, none⟩ else (⟨b, o + off, none⟩ : Addr).add (l * ti.size))) (m - l) (n - l)) w := by
          simp [Instr.sliceAt, Instr.sureAddr, run_underlying hd, hr, run_sizeOf h3]
        have hsplit : xs = xs.take l ++ ((xs.take m).drop l ++ xs.drop m) := by
          rw [← List.append_assoc]
          conv => lhs; rw [← List.take_append_drop m xs]
          congr 1
          conv => lhs; rw [← List.take_append_drop l (xs.take m)]
          rw [List.take_take, Nat.min_eq_left hlm]
        rw [hsplit] at h7
        obtain ⟨c1, c23, e2, k1, k23⟩ := Reps.split h7
        obtain ⟨c2, c3, e3, k2, k3⟩ := Reps.split k23
        have hl1 := Reps.length (fun x c hc => Rep.length hc) k1
        have hl2 := Reps.length (fun x c hc => Rep.length hc) k2
        have hlen : ((xs.take m).drop l).length = m - l := by simp; omega
        refine ⟨_, _, h, ?_, hrun⟩
        refine ⟨_, n - l, c2, by rw [hlen], by rw [hlen]; omega, k2, ?_⟩
        by_cases hz : m = l
        · left
          rw [hlen, hz] at hl2
          simpa using hl2
        · right
          refine ⟨b, o + off + c1.length, ?_, q1, ?_⟩
          · rw [if_neg (by omega), hl1, h4]
            simp only [Addr.add_lit, List.length_take, Nat.min_eq_left (Nat.le_trans hlm hmx)]
          · rw [e2, e3] at k5
            exact k5.mid
      · cases h
    · cases h
  · cases h
theorem len_sound (hE : EnvOk P E) {T ty : TypeId} {ts : Array TypeId} {x : AV} {xv : Value} {K : AV → Option R} (hT : ts[0]? = some T) (h : evLen E T x bs K = some out) (hx : VRel E.ET g bs w x xv) (hb : BsRel E.ET g bs w) :
    ∃ v u, K v = some out ∧ VRel E.ET g bs w v u ∧ (Builtin.len_ ts ty #[xv]).run P w = .ok u w := by
  unfold evLen at h
  split at h
  · rename_i s hk
    obtain ⟨d, hd, rfl⟩ := und_of hE hk (by simp)
    rw [rel_str hx]
    exact ⟨_, _, h, int_rel _ _, by simp [Builtin.len_, hT, run_underlying hd, goInt]⟩
  · rename_i e t l hk
    obtain ⟨d, hd, rfl⟩ := und_of hE hk (by simp)
    obtain ⟨A, c, cs', e1, _⟩ := val_cell hx
    simp only [List.cons.injEq, and_true] at e1
    subst e1
    exact ⟨_, _, h, int_rel _ _, by simp [Builtin.len_, hT, run_underlying hd, goInt]⟩
  · rename_i e hk
    obtain ⟨d, hd, rfl⟩ := und_of hE hk (by simp)
    rw [show xv = .slice none 0 0 from hx]
    exact ⟨_, _, h, int_rel _ _, by simp [Builtin.len_, hT, run_underlying hd, goInt]⟩
  · rename_i e b v hk
    obtain ⟨d, hd, rfl⟩ := und_of hE hk (by simp)
    split at h
    · rename_i T' t xs hbox
      have hxv := hx.2.2 _ _ _ hbox
      obtain ⟨cs, k1, _⟩ := hb b v _ (getBox_look hbox (by simp))
      subst hxv
      rcases k1.2 with ⟨e1, e0⟩ | ⟨blk, cap, cur, e1, _⟩
      · refine ⟨_, _, h, int_rel _ _, ?_⟩
        rw [e1]
        simp [Builtin.len_, hT, run_underlying hd, goInt, e0]
      · refine ⟨_, _, h, int_rel _ _, ?_⟩
        rw [e1]
        simp [Builtin.len_, hT, run_underlying hd, goInt]
    · cases h
  · rename_i n e hk
    obtain ⟨d, hd, rfl⟩ := und_of hE hk (by simp)
    exact ⟨_, _, h, int_rel _ _, by simp [Builtin.len_, hT, run_underlying hd, goInt]⟩
  · cases h
theorem assert_sound (hE : EnvOk P E) {T xT : TypeId} {ok : Bool} {x : AV} {xv : Value} {K : AV → Option R} (h : evAssert E T ok x K = some out) (hx : VRel E.ET g bs w x xv) :
    ∃ v u, K v = some out ∧ VRel E.ET g bs w v u ∧ (Instr.typeAssert xv xT T ok).run P w = .ok u w := by
  unfold evAssert at h
  split at h
  · rename_i e
    split at h
    · rename_i z0 hz0
      have hbif := bif_some h
      clear h
      obtain ⟨h1234, hK⟩ := hbif
      obtain ⟨h123, h4⟩ := and3 h1234
      obtain ⟨h12, h3⟩ := and3 h123
      obtain ⟨rfl, h2⟩ := and3 h12
      have hT := Nat.eq_of_beq_eq_true h2
      have hk := of_decide_eq_true h3
      have h4 : z0 = (0 : Int) := by simpa using h4
      subst h4
      obtain ⟨r, hr, hrk, hro⟩ := row_of hE hk (by simp)
      obtain ⟨i, z, hi, _, _, hz, hzr, _, hzk⟩ := hro.info
      have hrz : r.zero = [.val (.int .i64) (0 : Int)] := by
        simp only [zeroRow, hr, Option.some.injEq] at hz0; exact hz0
      have hzc : z.cells = #[z] := by
        rcases hzk (by rw [hrk]; simp) with ⟨e1, _⟩ | ⟨_, e2⟩
        · rw [hrk] at e1; cases e1
        · exact e2
      have hzv : z = .int .i64 0 := by
        have := hzr g bs w
        rw [hrz, hzc] at this
        exact rel_int (LRel.up this.1)
      have hu := zero_int hE hk
      rw [rel_err hx]
      subst hT
      cases e with
      | none =>
        refine ⟨_, _, hK, ⟨[.int .i64 0, .bool false], rfl, rfl, rfl, trivial⟩, ?_⟩
        simp [Instr.typeAssert, errV, run_underlying hu, zeroValue, typeInfo, hi, hz, hzv]
      | some c =>
        refine ⟨_, _, hK, ⟨[.int .i64 c, .bool true], rfl, rfl, rfl, trivial⟩, ?_⟩
        simp [Instr.typeAssert, errV, run_underlying hu]
    · cases h
  · cases h
theorem foldl_push : ∀ (ns : List Int) (acc : ByteArray), ns.foldl (fun r n => r.push (UInt8.ofNat n.toNat)) acc = ⟨acc.data ++ (ns.map fun n => UInt8.ofNat n.toNat).toArray⟩
  | [], acc => by simp
  | n :: ns, acc => by
    rw [List.foldl_cons, foldl_push ns]
    show (⟨acc.data.push (UInt8.ofNat n.toNat) ++ (ns.map fun n => UInt8.ofNat n.toNat).toArray⟩ : ByteArray) = _
    congr 1
    apply Array.ext'
    simp
theorem reps_u8 {ok : Nat → Prop} : ∀ {l : List Int} {cs : List Value}, Reps (fun (x : Int) c => Rep E.ET ok w (.int .u8) x c) l cs → cs = l.map (Value.int .u8)
  | [], cs, h => by simpa [Reps] using h
  | x :: l, _, ⟨c1, c2, e, h1, h2⟩ => by
    simp only [Rep] at h1
    subst h1
    rw [e, reps_u8 h2]; rfl
theorem run_bytesOf {blk o n c : Nat} {l : List Int} (hl : Lies w blk o (l.map (Value.int .u8))) (hn : n = l.length) :
    (Conv.bytesToString (.slice (some ⟨blk, o, none⟩) n c)).run P w = .ok (.string (strOf l)) w := by
  have h := run_loadCells_list (P := P) w ⟨blk, o, none⟩ (l.map (Value.int .u8)) (fun j u hj => by rw [Addr.add_lit]; exact hl j u hj)
  rw [List.length_map, ← hn] at h
  rw [run_bytesToString w ⟨blk, o, none⟩ n c l h, foldl_push]
  have : ByteArray.empty.data ++ (l.map fun n => UInt8.ofNat n.toNat).toArray = (l.map fun n => UInt8.ofNat n.toNat).toArray := by
    show (#[] : Array UInt8) ++ _ = _
    simp
  rw [this]; rfl
end
end Go.Proofs.Ytfdppbfefplikaa.Ev
