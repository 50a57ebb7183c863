/- Boxes told as plain values from here on: what stood for the machine's state stands for it still. -/
import Derived.Test.YtfdppbfefplikaaEv11
namespace Go.Proofs.Ytfdppbfefplikaa.Ev
open Go
open Go.RowKit
set_option linter.unusedVariables false
set_option linter.unusedSimpArgs false
section
variable {P : Program} {E : Env} {R : Type} {out : R} {g0 g g' : Gh} {w0 w w' : World} {sl : List AV} {bs0 bs bs' : Boxes} {a : Act} {b v : Nat} {c : Th}
/-- A row's slice, read for good. -/
theorem rep_row {T : TypeId} {t : Ty} {xs : List t.den} {v : Value} {cs : List Value} {ok : Nat → Prop} (k1 : w.ownsRow 0 T t.sz v xs.length cs) (k2 : Reps (fun x c => Rep E.ET ok w t x c) xs cs)
    (k3 : ∀ blk, v.ownBlock = some blk → ok blk) : Rep E.ET ok w (.sl t) xs [v] := by
  have hc := fun g h => World.ownsRow.cells k1 (g := g) h
  rcases k1.2 with ⟨e1, e0⟩ | ⟨blk, cap, cur, e1, _, hq, hn, _⟩
  · have : xs = [] := List.eq_nil_of_length_eq_zero e0
    subst this
    exact ⟨none, 0, [], by rw [e1]; rfl, Nat.le_refl _, rfl, .inl rfl⟩
  · refine ⟨some ⟨blk, 0, none⟩, cap, cs, by rw [e1], hn, k2, .inr ⟨blk, 0, rfl, k3 blk (by rw [e1]; rfl), fun j u hj => ?_⟩⟩
    have := hc blk (by rw [e1]; rfl) j u hj
    rwa [Addr.add_lit] at this
/-- The box's block is nobody's from here on. -/
def thG (g : Gh) (b : Nat) : Gh := ⟨fun blk => if g.O blk = some b then none else g.O blk, g.hd⟩
theorem thG_ok {blk : Nat} (h : okB g w blk) : okB (thG g b) w blk := ⟨by show (if g.O blk = some b then none else g.O blk) = none; rw [h.1]; simp, h.2⟩
theorem thG_own {blk b' : Nat} (hb : b' ≠ b) (h : g.O blk = some b') : (thG g b).O blk = some b' := by
  show (if g.O blk = some b then none else g.O blk) = some b'
  rw [h, if_neg (by simp only [Option.some.injEq]; exact hb)]
theorem thG_free {blk : Nat} (h : g.O blk = some b) : (thG g b).O blk = none := if_pos h
theorem look_thB : ∀ (l : Boxes) (i : Nat), look (thB b v c l) i = (look l i).map fun x => (x.1, thX b v c x.2)
  | [], _ => rfl
  | (j, (k, x)) :: l, i => by
    simp only [thB, look]
    cases Nat.beq j i with
    | true => rfl
    | false => exact look_thB l i
/-- What the box holds, and that it is what is told of it. -/
structure ThOk (ET : TypeId) (g : Gh) (bs : Boxes) (w : World) (b v : Nat) (c : Th) : Prop where
  ne0 : b ≠ 0
  live : ∃ x, look bs b = some (v, x)
  row : ∀ t xs, c = .row t xs → ∃ T, getBox bs b v = .row T t xs
  var : ∀ t x, c = .var t x → (∃ T cells, getBox bs b v = .var T cells) ∧ ∃ blk cs, g.hd b = .pointer (some ⟨blk, 0, none⟩) ∧ g.O blk = some b ∧ blk < w.heap.size ∧ Rep ET (okB g w) w t x cs ∧ Lies w blk 0 cs
/-- The boxes behind it. -/
@[reducible] def thBs (b v : Nat) (c : Th) (bs : Boxes) : Boxes := (b, (v, .dead)) :: thB b v c bs
theorem th_nv (h : ThOk E.ET g bs w b v c) (i : Nat) : nextVer (thBs b v c bs) i = nextVer bs i := by
  by_cases e : b = i
  · subst e
    obtain ⟨x, hx⟩ := h.live
    simp only [nextVer, look_cons_eq, hx]
  · simp only [nextVer, look_cons_ne _ _ e, look_thB]
    cases look bs i with
    | none => rfl
    | some x => rfl
theorem th_var {i k : Nat} {T : TypeId} {cells' : List AV} (h : getBox (thBs b v c bs) i k = .var T cells') : i ≠ b ∧ ∃ cells, getBox bs i k = .var T cells ∧ cells' = thAs b v c cells := by
  by_cases e : b = i
  · subst e
    simp only [getBox, look_cons_eq] at h
    cases hq : Nat.beq v k <;> rw [hq] at h <;> cases h
  · refine ⟨Ne.symm e, ?_⟩
    simp only [getBox, look_cons_ne _ _ e, look_thB] at h
    cases hl : look bs i with
    | none => rw [hl] at h; cases h
    | some x =>
      obtain ⟨k', x⟩ := x
      rw [hl] at h
      simp only [Option.map_some] at h
      cases hq : Nat.beq k' k with
      | false => rw [hq] at h; cases h
      | true =>
        rw [hq] at h
        simp only [cond_true] at h
        cases x with
        | var T' cells =>
          simp only [thX, BoxC.var.injEq] at h
          obtain ⟨rfl, rfl⟩ := h
          exact ⟨cells, by simp only [getBox, hl, hq, cond_true], rfl⟩
        | row T' t xs => cases h
        | dead => cases h
theorem th_row {i k : Nat} {T : TypeId} {t : Ty} {xs : List t.den} (h : getBox (thBs b v c bs) i k = .row T t xs) : i ≠ b ∧ getBox bs i k = .row T t xs := by
  by_cases e : b = i
  · subst e
    simp only [getBox, look_cons_eq] at h
    cases hq : Nat.beq v k <;> rw [hq] at h <;> cases h
  · refine ⟨Ne.symm e, ?_⟩
    simp only [getBox, look_cons_ne _ _ e, look_thB] at h
    cases hl : look bs i with
    | none => rw [hl] at h; cases h
    | some x =>
      obtain ⟨k', x⟩ := x
      rw [hl] at h
      simp only [Option.map_some] at h
      cases hq : Nat.beq k' k with
      | false => rw [hq] at h; cases h
      | true =>
        rw [hq] at h
        simp only [cond_true] at h
        cases x with
        | var T' cells => cases h
        | row T' t' xs' => simp only [getBox, hl, hq, cond_true]; exact h
        | dead => cases h
theorem th_beq {i k : Nat} (h : (Nat.beq i b && Nat.beq k v) = true) : i = b ∧ k = v := by
  obtain ⟨h1, h2⟩ := and3 h
  exact ⟨Nat.eq_of_beq_eq_true h1, Nat.eq_of_beq_eq_true h2⟩
theorem th_cap (h : ThOk E.ET g bs w b v c) : ∀ {x : AV} {u : Value}, capR g bs x u → capR (thG g b) (thBs b v c bs) x u
  | .ref i k off, u, ⟨h1, hv, h2⟩ => ⟨by rw [th_nv (E := E) (w := w) h]; exact h1, hv, fun T cells hb => by
      obtain ⟨_, cells', hc, _⟩ := th_var hb
      exact h2 T cells' hc⟩
  | .top, _, hh => hh.elim
  | .und, _, hh => hh.elim
  | .nilS, _, hh => hh.elim
  | .nilP, _, hh => hh.elim
  | .val _ _, _, hh => hh.elim
  | .osl _ _, _, hh => hh.elim
  | .imm _ _ _, _, hh => hh.elim
  | .oel _ _ _ _, _, hh => hh.elim
  | .fn _ _, _, hh => hh.elim
  | .agg _, _, hh => hh.elim
  | .tup _, _, hh => hh.elim
theorem th_osl (h : ThOk E.ET g bs w b v c) (hb : BsRel E.ET g bs w) {i k : Nat} {u : Value} (hx : LRel E.ET g bs w (.osl i k) u) : LRel E.ET (thG g b) (thBs b v c bs) w (.osl i k) u :=
  ⟨by rw [th_nv (E := E) (w := w) h]; exact hx.1, hx.2.1, fun T t xs hbx => hx.2.2 T t xs (th_row hbx).2⟩
theorem th_ref (h : ThOk E.ET g bs w b v c) {i k off : Nat} {u : Value} (hx : LRel E.ET g bs w (.ref i k off) u) : LRel E.ET (thG g b) (thBs b v c bs) w (.ref i k off) u :=
  ⟨by rw [th_nv (E := E) (w := w) h]; exact hx.1, hx.2.1, fun T cells hbx => by
    obtain ⟨_, cells', hc, _⟩ := th_var hbx
    exact hx.2.2 T cells' hc⟩
theorem thA_rel (h : ThOk E.ET g bs w b v c) (hb : BsRel E.ET g bs w) : ∀ {x : AV} {u : Value}, LRel E.ET g bs w x u → LRel E.ET (thG g b) (thBs b v c bs) w (thA b v c x) u
  | .top, _, _ => trivial
  | .und, _, hh => hh
  | .nilS, _, hh => hh
  | .nilP, _, hh => hh
  | .val t x, _, hh => Rep.mono (fun q hq => ⟨thG_ok hq, rfl⟩) hh
  | .ref i k off, u, hh => by
    cases c with
    | row t xs => exact th_ref (E := E) h hh
    | var t x =>
      simp only [thA]
      cases hq : (Nat.beq i b && Nat.beq k v) with
      | false => exact th_ref (E := E) h hh
      | true =>
        obtain ⟨rfl, rfl⟩ := th_beq hq
        obtain ⟨⟨T, cells, hbox⟩, blk, cs, k1, k2, k3, k4, k5⟩ := h.var t x rfl
        obtain ⟨blk', e1, e2⟩ := hh.2.2 T cells hbox
        rw [k1] at e1
        simp only [Value.pointer.injEq, Option.some.injEq, Addr.mk.injEq, and_true] at e1
        subst e1
        exact ⟨blk, 0, cs, by rw [e2, Nat.zero_add], ⟨thG_free k2, k3⟩, Rep.mono (fun q hq => ⟨thG_ok hq, rfl⟩) k4, k5⟩
  | .osl i k, u, hh => by
    cases c with
    | var t x => exact th_osl (E := E) h hb hh
    | row t xs =>
      simp only [thA]
      cases hq : (Nat.beq i b && Nat.beq k v) with
      | false => exact th_osl (E := E) h hb hh
      | true =>
        obtain ⟨rfl, rfl⟩ := th_beq hq
        obtain ⟨T, hbox⟩ := h.row t xs rfl
        have e := hh.2.2 T t xs hbox
        obtain ⟨cs, k1, k2, k3⟩ := hb _ _ _ (getBox_look hbox (by simp))
        rw [← e] at k1 k3
        exact rep_row k1 (k2.mono fun _ _ => Rep.mono (fun q hq => ⟨thG_ok hq, rfl⟩)) fun q hq => ⟨thG_free (k3 q hq), (World.ownsRow.lt k1 q hq).2⟩
  | .imm t x off, u, ⟨q, o, cs, e, h1, h2, h3⟩ => ⟨q, o, cs, e, thG_ok h1, Rep.mono (fun q hq => ⟨thG_ok hq, rfl⟩) h2, h3⟩
  | .oel i k j off, u, hh => ⟨by rw [th_nv (E := E) (w := w) h]; exact hh.1, hh.2.1, fun T t xs hbx => hh.2.2 T t xs (th_row hbx).2⟩
  | .fn f caps, u, ⟨cv, e, ha⟩ => ⟨cv, e, ha.mono fun _ _ => th_cap (E := E) (w := w) h⟩
  | .agg _, _, hh => hh.elim
  | .tup _, _, hh => hh.elim
theorem thAs_rel (h : ThOk E.ET g bs w b v c) (hb : BsRel E.ET g bs w) : ∀ {l : List AV} {us : List Value}, All2 (LRel E.ET g bs w) l us → All2 (LRel E.ET (thG g b) (thBs b v c bs) w) (thAs b v c l) us
  | [], [], _ => trivial
  | _ :: _, _ :: _, ⟨h1, h2⟩ => ⟨thA_rel (E := E) h hb h1, thAs_rel h hb h2⟩
  | [], _ :: _, hh => hh.elim
  | _ :: _, [], hh => hh.elim
theorem thC_rel (h : ThOk E.ET g bs w b v c) (hb : BsRel E.ET g bs w) : ∀ {x : AV} {u : Value}, CRel E.ET g bs w x u → CRel E.ET (thG g b) (thBs b v c bs) w (thC b v c x) u
  | .agg l, _, ⟨vs, e, ha⟩ => ⟨vs, e, thAs_rel (E := E) h hb ha⟩
  | .tup l, _, hh => (show False from hh).elim
  | .top, _, hh => (thA_rel (E := E) h hb (x := .top) hh).upC
  | .und, _, hh => (thA_rel (E := E) h hb (x := .und) hh).upC
  | .nilS, _, hh => (thA_rel (E := E) h hb (x := .nilS) hh).upC
  | .nilP, _, hh => (thA_rel (E := E) h hb (x := .nilP) hh).upC
  | .val t x, _, hh => (thA_rel (E := E) h hb (x := .val t x) hh).upC
  | .ref i k o, _, hh => (thA_rel (E := E) h hb (x := .ref i k o) hh).upC
  | .osl i k, _, hh => (thA_rel (E := E) h hb (x := .osl i k) hh).upC
  | .imm t x o, _, hh => (thA_rel (E := E) h hb (x := .imm t x o) hh).upC
  | .oel i k j o, _, hh => (thA_rel (E := E) h hb (x := .oel i k j o) hh).upC
  | .fn f k, _, hh => (thA_rel (E := E) h hb (x := .fn f k) hh).upC
theorem thCs_rel (h : ThOk E.ET g bs w b v c) (hb : BsRel E.ET g bs w) : ∀ {l : List AV} {us : List Value}, All2 (CRel E.ET g bs w) l us → All2 (CRel E.ET (thG g b) (thBs b v c bs) w) (thCs b v c l) us
  | [], [], _ => trivial
  | _ :: _, _ :: _, ⟨h1, h2⟩ => ⟨thC_rel (E := E) h hb h1, thCs_rel h hb h2⟩
  | [], _ :: _, hh => hh.elim
  | _ :: _, [], hh => hh.elim
theorem thV_rel (h : ThOk E.ET g bs w b v c) (hb : BsRel E.ET g bs w) : ∀ {x : AV} {u : Value}, VRel E.ET g bs w x u → VRel E.ET (thG g b) (thBs b v c bs) w (thV b v c x) u
  | .tup l, _, ⟨vs, e, ha⟩ => ⟨vs, e, thCs_rel (E := E) h hb ha⟩
  | .agg l, _, hh => (thC_rel (E := E) h hb (x := .agg l) hh).up
  | .top, _, hh => (thC_rel (E := E) h hb (x := .top) hh).up
  | .und, _, hh => (thC_rel (E := E) h hb (x := .und) hh).up
  | .nilS, _, hh => (thC_rel (E := E) h hb (x := .nilS) hh).up
  | .nilP, _, hh => (thC_rel (E := E) h hb (x := .nilP) hh).up
  | .val t x, _, hh => (thC_rel (E := E) h hb (x := .val t x) hh).up
  | .ref i k o, _, hh => (thC_rel (E := E) h hb (x := .ref i k o) hh).up
  | .osl i k, _, hh => (thC_rel (E := E) h hb (x := .osl i k) hh).up
  | .imm t x o, _, hh => (thC_rel (E := E) h hb (x := .imm t x o) hh).up
  | .oel i k j o, _, hh => (thC_rel (E := E) h hb (x := .oel i k j o) hh).up
  | .fn f k, _, hh => (thC_rel (E := E) h hb (x := .fn f k) hh).up
theorem getS_thVs : ∀ (l : List AV) (i : Nat), getS (thVs b v c l) i = thV b v c (getS l i)
  | [], _ => rfl
  | _ :: _, 0 => rfl
  | _ :: l, i + 1 => getS_thVs l i
theorem length_thVs : ∀ (l : List AV), (thVs b v c l).length = l.length
  | [] => rfl
  | _ :: l => by simp [thVs, length_thVs l]
theorem th_fr (h0 : b ≠ 0) : Fr g w (thG g b) w :=
  ⟨rfl, rfl, rfl, Nat.le_refl _, fun q hq _ => ⟨by show (if g.O q = some b then none else g.O q) = none; rw [hq]; simp, rfl⟩, fun q hq _ => ⟨thG_own (Ne.symm h0) hq, rfl⟩⟩
theorem th_boxes (h : ThOk E.ET g bs w b v c) (hb : BsRel E.ET g bs w) : BsRel E.ET (thG g b) (thBs b v c bs) w := by
  intro i ver x hl
  by_cases e : b = i
  · subst e
    rw [look_cons_eq] at hl
    simp only [Option.some.injEq, Prod.mk.injEq] at hl
    obtain ⟨_, rfl⟩ := hl
    trivial
  · rw [look_cons_ne _ _ e, look_thB] at hl
    cases hq : look bs i with
    | none => rw [hq] at hl; cases hl
    | some y =>
      obtain ⟨k, y⟩ := y
      rw [hq] at hl
      simp only [Option.map_some, Option.some.injEq, Prod.mk.injEq] at hl
      obtain ⟨rfl, rfl⟩ := hl
      have hbox := hb i k y hq
      cases y with
      | dead => trivial
      | var T cells =>
        obtain ⟨blk, arr, k1, k2, k3, k4⟩ := hbox
        exact ⟨blk, arr, k1, thG_own (Ne.symm e) k2, k3, thAs_rel (E := E) h hb k4⟩
      | row T t xs =>
        obtain ⟨cs, k1, k2, k3⟩ := hbox
        exact ⟨cs, k1, k2.mono fun _ _ => Rep.mono (fun q hq => ⟨thG_ok hq, rfl⟩), fun blk hblk => thG_own (Ne.symm e) (k3 blk hblk)⟩
theorem th_st (h : ThOk E.ET g bs w b v c) (hr : Rel E.ET g0 bs0 w0 g ⟨sl, bs⟩ a w) : Rel E.ET g0 bs0 w0 (thG g b) (thSt b v c ⟨sl, bs⟩) a w := by
  have hb : BsRel E.ET g bs w := hr.boxes
  refine ⟨?_, fun i => ?_, th_boxes (E := E) h hb, hr.defers, ?_⟩
  · show (thVs b v c sl).length ≤ _
    rw [length_thVs]; exact hr.size
  · show VRel E.ET (thG g b) (thBs b v c bs) w (getS (thVs b v c sl) i) _
    rw [getS_thVs]
    exact thV_rel (E := E) h hb (hr.slots i)
  · refine ⟨hr.ext.fr.trans (th_fr h.ne0), fun i => ?_, fun i ver T cells hv hbx => ?_, fun i ver T t xs hv hbx => ?_⟩
    · show nextVer bs0 i ≤ nextVer (thBs b v c bs) i
      rw [th_nv (E := E) (w := w) h]; exact hr.ext.ver i
    · obtain ⟨_, cells', hc, _⟩ := th_var hbx
      exact hr.ext.var i ver T cells' hv hc
    · exact hr.ext.row i ver T t xs hv (th_row hbx).2
theorem freezeB_rel (hr : Rel E.ET g0 bs0 w0 g ⟨sl, bs⟩ a w) (b v : Nat) : ∃ g', Rel E.ET g0 bs0 w0 g' (freezeB E ⟨sl, bs⟩ b v) a w := by
  unfold freezeB
  cases hb0 : Nat.beq b 0 with
  | true => exact ⟨g, hr⟩
  | false =>
    have h0 : b ≠ 0 := by intro e; subst e; cases hb0
    simp only [cond_false]
    split
    · rename_i T t xs hbox
      refine ⟨_, th_st (E := E) ⟨h0, ⟨_, getBox_look hbox (by simp)⟩, fun t' xs' e => ?_, fun t' x' e => by cases e⟩ hr⟩
      cases e; exact ⟨T, hbox⟩
    · rename_i T cells hbox
      split
      · rename_i r _
        split
        · rename_i x hx
          refine ⟨_, th_st (E := E) ⟨h0, ⟨_, getBox_look hbox (by simp)⟩, fun t' xs' e => (by cases e), fun t' x' e => ?_⟩ hr⟩
          obtain ⟨blk, arr, k1, k2, k3, k4⟩ := hr.boxes b v _ (getBox_look hbox (by simp))
          cases e
          exact ⟨⟨T, cells, hbox⟩, blk, arr.toList, k1, k2, (Array.getElem?_eq_some_iff.1 k3).1, gather_all hx k4, lies_of_row k3⟩
        · exact ⟨g, hr⟩
      · exact ⟨g, hr⟩
    · exact ⟨g, hr⟩
theorem freezeL_rel : ∀ (l : List (Nat × Nat)) {g : Gh} {st : St}, Rel E.ET g0 bs0 w0 g st a w → ∃ g', Rel E.ET g0 bs0 w0 g' (freezeL E st l) a w
  | [], g, st, hr => ⟨g, hr⟩
  | (b, v) :: l, g, ⟨sl, bs⟩, hr => by
    obtain ⟨g1, h1⟩ := freezeB_rel (E := E) hr b v
    exact freezeL_rel l h1
theorem freezeT_rel : ∀ (l : List Tmp) {g : Gh} {st : St}, Rel E.ET g0 bs0 w0 g st a w → ∃ g', Rel E.ET g0 bs0 w0 g' (freezeT E st l) a w
  | [], g, st, hr => ⟨g, hr⟩
  | t :: l, g, st, hr => by
    obtain ⟨g1, h1⟩ := freezeL_rel (E := E) _ hr
    exact freezeT_rel l h1
end
end Go.Proofs.Ytfdppbfefplikaa.Ev
