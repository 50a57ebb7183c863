/- What an abstract state says of a machine's state; what every operation keeps. -/
import Derived.Test.YtfdppbfefplikaaEv2
namespace Go.Proofs.Ytfdppbfefplikaa.Ev
open Go
open Go.RowKit
set_option linter.unusedVariables false

def All2 {α β : Type} (r : α → β → Prop) : List α → List β → Prop
  | [], [] => True
  | a :: l, b :: m => r a b ∧ All2 r l m
  | _, _ => False
def Reps {α : Type} (r : α → List Value → Prop) : List α → List Value → Prop
  | [], cs => cs = []
  | x :: xs, cs => ∃ c1 c2, cs = c1 ++ c2 ∧ r x c1 ∧ Reps r xs c2
/-- The cells lie there. -/
def Lies (w : World) (b o : Nat) (cs : List Value) : Prop := ∀ j u, cs[j]? = some u → w.cell? ⟨b, o + j, none⟩ = some u
def errV (ET : TypeId) : Option Int → Value
  | none => .nilIface
  | some c => .iface ET (.int .i64 c)
/-- These cells are that value; what they lead to lies in blocks that are ok. -/
def Rep (ET : TypeId) (ok : Nat → Prop) (w : World) : (t : Ty) → t.den → List Value → Prop
  | .int k, x, cs => cs = [.int k x]
  | .bool, x, cs => cs = [.bool x]
  | .str, x, cs => cs = [.string x]
  | .err, x, cs => cs = [errV ET x]
  | .sl t, l, cs => ∃ A c cs', cs = [.slice A l.length c] ∧ l.length ≤ c ∧ Reps (fun x c => Rep ET ok w t x c) l cs' ∧
      (cs' = [] ∨ ∃ b o, A = some ⟨b, o, none⟩ ∧ ok b ∧ Lies w b o cs')
  | .nptr _, none, cs => cs = [.pointer none]
  | .nptr t, some x, cs => ∃ b o cs', cs = [.pointer (some ⟨b, o, none⟩)] ∧ ok b ∧ Rep ET ok w t x cs' ∧ Lies w b o cs'
  | .pair a b, x, cs => ∃ c1 c2, cs = c1 ++ c2 ∧ Rep ET ok w a x.1 c1 ∧ Rep ET ok w b x.2 c2
  | .unit, _, cs => cs = []

theorem Reps.mono {α : Type} {r r' : α → List Value → Prop} (h : ∀ x c, r x c → r' x c) : ∀ {l : List α} {cs : List Value}, Reps r l cs → Reps r' l cs
  | [], _, hh => hh
  | x :: xs, _, ⟨c1, c2, e, h1, h2⟩ => ⟨c1, c2, e, h _ _ h1, Reps.mono h h2⟩
theorem Lies.mono {w w' : World} {b o : Nat} {cs : List Value} (h : w'.heap[b]? = w.heap[b]?) (hl : Lies w b o cs) : Lies w' b o cs :=
  fun j u hj => (World.cell?_of_block (a := ⟨b, o + j, none⟩) h).trans (hl j u hj)
theorem Rep.mono {ET : TypeId} {ok ok' : Nat → Prop} {w w' : World} (h : ∀ b, ok b → ok' b ∧ w'.heap[b]? = w.heap[b]?) :
    ∀ {t : Ty} {x : t.den} {cs : List Value}, Rep ET ok w t x cs → Rep ET ok' w' t x cs
  | .int _, _, _, hh => hh
  | .bool, _, _, hh => hh
  | .str, _, _, hh => hh
  | .err, _, _, hh => hh
  | .sl t, _, _, ⟨A, c, cs', e, hc, hr, hl⟩ => ⟨A, c, cs', e, hc, hr.mono (fun _ _ h1 => Rep.mono h h1), hl.imp id fun ⟨b, o, e1, h1, h2⟩ => ⟨b, o, e1, (h b h1).1, h2.mono (h b h1).2⟩⟩
  | .nptr _, none, _, hh => hh
  | .nptr t, some _, _, ⟨b, o, cs', e, h1, h2, h3⟩ => ⟨b, o, cs', e, (h b h1).1, Rep.mono h h2, h3.mono (h b h1).2⟩
  | .pair _ _, _, _, ⟨c1, c2, e, h1, h2⟩ => ⟨c1, c2, e, Rep.mono h h1, Rep.mono h h2⟩
  | .unit, _, _, hh => hh
theorem Reps.length {α : Type} {r : α → List Value → Prop} {n : Nat} (h : ∀ x c, r x c → c.length = n) : ∀ {l : List α} {cs : List Value}, Reps r l cs → cs.length = l.length * n
  | [], cs, hh => by simp only [Reps] at hh; subst hh; simp
  | x :: xs, cs, ⟨c1, c2, e, h1, h2⟩ => by
    subst e
    rw [List.length_append, h _ _ h1, Reps.length h h2, List.length_cons, Nat.add_mul]; omega
theorem Rep.length {ET : TypeId} {ok : Nat → Prop} {w : World} : ∀ {t : Ty} {x : t.den} {cs : List Value}, Rep ET ok w t x cs → cs.length = t.sz
  | .int _, _, _, hh => by simp only [Rep] at hh; subst hh; rfl
  | .bool, _, _, hh => by simp only [Rep] at hh; subst hh; rfl
  | .str, _, _, hh => by simp only [Rep] at hh; subst hh; rfl
  | .err, _, _, hh => by simp only [Rep] at hh; subst hh; rfl
  | .sl t, _, _, ⟨A, c, cs', e, _⟩ => by subst e; rfl
  | .nptr _, none, _, hh => by simp only [Rep] at hh; subst hh; rfl
  | .nptr t, some _, _, ⟨b, o, cs', e, _⟩ => by subst e; rfl
  | .pair _ _, _, _, ⟨c1, c2, e, h1, h2⟩ => by subst e; simp [Ty.sz, h1.length, h2.length]
  | .unit, _, _, hh => by simp only [Rep] at hh; subst hh; rfl

/-- What is not seen: whose a block is (none: nobody's, it stays as it is), and each box's header. -/
structure Gh where
  O : Nat → Option Nat
  hd : Nat → Value
def okB (g : Gh) (w : World) (b : Nat) : Prop := g.O b = none ∧ b < w.heap.size

/-- A variable that a function holds. -/
def capR (g : Gh) (bs : Boxes) : AV → Value → Prop
  | .ref b ver off, v => ver < nextVer bs b ∧ v.oneCell' = true ∧ ∀ T cells, getBox bs b ver = .var T cells → ∃ blk, g.hd b = .pointer (some ⟨blk, 0, none⟩) ∧ v = .pointer (some ⟨blk, off, none⟩)
  | _, _ => False
def LRel (ET : TypeId) (g : Gh) (bs : Boxes) (w : World) : AV → Value → Prop
  | .top, _ => True
  | .und, v => v = undef
  | .nilS, v => v = .slice none 0 0
  | .nilP, v => v = .pointer none
  | .val t x, v => Rep ET (okB g w) w t x [v]
  | .ref b ver off, v => ver < nextVer bs b ∧ v.oneCell' = true ∧ ∀ T cells, getBox bs b ver = .var T cells → ∃ blk, g.hd b = .pointer (some ⟨blk, 0, none⟩) ∧ v = .pointer (some ⟨blk, off, none⟩)
  | .osl b ver, v => ver < nextVer bs b ∧ v.oneCell' = true ∧ ∀ T t xs, getBox bs b ver = .row T t xs → v = g.hd b
  | .imm t x off, v => ∃ b o cs, v = .pointer (some ⟨b, o + off, none⟩) ∧ okB g w b ∧ Rep ET (okB g w) w t x cs ∧ Lies w b o cs
  | .oel b ver i off, v => ver < nextVer bs b ∧ v.oneCell' = true ∧ ∀ T t xs, getBox bs b ver = .row T t xs → 0 ≤ i ∧ i < xs.length ∧
      ∃ blk n c, g.hd b = .slice (some ⟨blk, 0, none⟩) n c ∧ v = .pointer (some ⟨blk, i.toNat * t.sz + off, none⟩)
  | .fn f caps, v => ∃ cv : List Value, v = .func (.func f) #[] cv.toArray ∧ All2 (capR g bs) caps cv
  | .agg _, _ => False
  | .tup _, _ => False
def CRel (ET : TypeId) (g : Gh) (bs : Boxes) (w : World) : AV → Value → Prop
  | .agg l, v => ∃ vs : List Value, v = .agg vs.toArray ∧ All2 (LRel ET g bs w) l vs
  | x, v => LRel ET g bs w x v
def VRel (ET : TypeId) (g : Gh) (bs : Boxes) (w : World) : AV → Value → Prop
  | .tup l, v => ∃ vs : List Value, v = .tuple vs.toArray ∧ All2 (CRel ET g bs w) l vs
  | x, v => CRel ET g bs w x v

def BoxRel (ET : TypeId) (g : Gh) (bs : Boxes) (w : World) (b : Nat) : BoxC → Prop
  | .dead => True
  | .var T cells => ∃ blk arr, g.hd b = .pointer (some ⟨blk, 0, none⟩) ∧ g.O blk = some b ∧ w.heap[blk]? = some (.cells arr T (0, 0)) ∧ All2 (LRel ET g bs w) cells arr.toList
  | .row T t xs => ∃ cs, w.ownsRow 0 T t.sz (g.hd b) xs.length cs ∧ Reps (fun x c => Rep ET (okB g w) w t x c) xs cs ∧ ∀ blk, (g.hd b).ownBlock = some blk → g.O blk = some b
def BsRel (ET : TypeId) (g : Gh) (bs : Boxes) (w : World) : Prop := ∀ b ver c, look bs b = some (ver, c) → BoxRel ET g bs w b c

/-- The world goes on: what is nobody's stays as it is. -/
structure Fr (g : Gh) (w : World) (g' : Gh) (w' : World) : Prop where
  os : w'.os = w.os
  tape : w'.tape = w.tape
  output : w'.output = w.output
  size : w.heap.size ≤ w'.heap.size
  ro : ∀ b, g.O b = none → b < w.heap.size → g'.O b = none ∧ w'.heap[b]? = w.heap[b]?
  fo : ∀ b, g.O b = some 0 → b < w.heap.size → g'.O b = some 0 ∧ w'.heap[b]? = w.heap[b]?
theorem Fr.refl (g : Gh) (w : World) : Fr g w g w := ⟨rfl, rfl, rfl, Nat.le_refl _, fun b h _ => ⟨h, rfl⟩, fun b h _ => ⟨h, rfl⟩⟩
theorem Fr.trans {g g1 g2 : Gh} {w w1 w2 : World} (h : Fr g w g1 w1) (k : Fr g1 w1 g2 w2) : Fr g w g2 w2 :=
  ⟨k.os.trans h.os, k.tape.trans h.tape, k.output.trans h.output, Nat.le_trans h.size k.size, fun b hb hs => by
    obtain ⟨h1, h2⟩ := h.ro b hb hs
    obtain ⟨k1, k2⟩ := k.ro b h1 (Nat.lt_of_lt_of_le hs h.size)
    exact ⟨k1, k2.trans h2⟩, fun b hb hs => by
    obtain ⟨h1, h2⟩ := h.fo b hb hs
    obtain ⟨k1, k2⟩ := k.fo b h1 (Nat.lt_of_lt_of_le hs h.size)
    exact ⟨k1, k2.trans h2⟩⟩
theorem Fr.okB {g g' : Gh} {w w' : World} (h : Fr g w g' w') (b : Nat) (hb : okB g w b) : Ev.okB g' w' b ∧ w'.heap[b]? = w.heap[b]? :=
  ⟨⟨(h.ro b hb.1 hb.2).1, Nat.lt_of_lt_of_le hb.2 h.size⟩, (h.ro b hb.1 hb.2).2⟩
/-- And the boxes that were there, where they still are, have their headers. -/
structure Ext (g : Gh) (bs : Boxes) (w : World) (g' : Gh) (bs' : Boxes) (w' : World) : Prop where
  fr : Fr g w g' w'
  ver : ∀ b, nextVer bs b ≤ nextVer bs' b
  var : ∀ b ver T cells, ver < nextVer bs b → getBox bs' b ver = .var T cells → (∃ cells', getBox bs b ver = .var T cells') ∧ g'.hd b = g.hd b
  row : ∀ b ver T t xs, ver < nextVer bs b → getBox bs' b ver = .row T t xs → (∃ xs', getBox bs b ver = .row T t xs' ∧ xs'.length = xs.length) ∧ g'.hd b = g.hd b
theorem Ext.refl (g : Gh) (bs : Boxes) (w : World) : Ext g bs w g bs w :=
  ⟨Fr.refl g w, fun _ => Nat.le_refl _, fun _ _ _ c _ h => ⟨⟨c, h⟩, rfl⟩, fun _ _ _ _ xs _ h => ⟨⟨xs, h, rfl⟩, rfl⟩⟩
theorem Ext.trans {g g1 g2 : Gh} {bs bs1 bs2 : Boxes} {w w1 w2 : World} (h : Ext g bs w g1 bs1 w1) (k : Ext g1 bs1 w1 g2 bs2 w2) : Ext g bs w g2 bs2 w2 := by
  refine ⟨h.fr.trans k.fr, fun b => Nat.le_trans (h.ver b) (k.ver b), ?_, ?_⟩
  · intro b ver T cells hv hb
    obtain ⟨⟨c1, h1⟩, e1⟩ := k.var b ver T cells (Nat.lt_of_lt_of_le hv (h.ver b)) hb
    obtain ⟨h2, e2⟩ := h.var b ver T c1 hv h1
    exact ⟨h2, e1.trans e2⟩
  · intro b ver T t xs hv hb
    obtain ⟨⟨c1, h1, l1⟩, e1⟩ := k.row b ver T t xs (Nat.lt_of_lt_of_le hv (h.ver b)) hb
    obtain ⟨⟨c2, h2, l2⟩, e2⟩ := h.row b ver T t c1 hv h1
    exact ⟨⟨c2, h2, l2.trans l1⟩, e1.trans e2⟩
/-- A frame alone: the boxes stay. -/
theorem Ext.of_fr {g g' : Gh} {bs : Boxes} {w w' : World} (h : Fr g w g' w') (hd : g'.hd = g.hd) : Ext g bs w g' bs w' :=
  ⟨h, fun _ => Nat.le_refl _, fun _ _ _ c _ h => ⟨⟨c, h⟩, by rw [hd]⟩, fun _ _ _ _ xs _ h => ⟨⟨xs, h, rfl⟩, by rw [hd]⟩⟩

section
variable {ET : TypeId} {g g' : Gh} {bs bs' : Boxes} {w w' : World}
theorem All2.mono {α β : Type} {r r' : α → β → Prop} (h : ∀ a b, r a b → r' a b) : ∀ {l : List α} {m : List β}, All2 r l m → All2 r' l m
  | [], [], _ => trivial
  | _ :: _, _ :: _, ⟨h1, h2⟩ => ⟨h _ _ h1, All2.mono h h2⟩
  | [], _ :: _, hh => hh.elim
  | _ :: _, [], hh => hh.elim
theorem capR.keep (h : Ext g bs w g' bs' w') : ∀ {x : AV} {v : Value}, capR g bs x v → capR g' bs' x v
  | .ref b ver off, v, ⟨h1, hv, h2⟩ => ⟨Nat.lt_of_lt_of_le h1 (h.ver b), hv, fun T cells hb => by
      obtain ⟨⟨c, hc⟩, e⟩ := h.var b ver T cells h1 hb
      rw [e]; exact h2 T c hc⟩
  | .top, _, hh => hh.elim
  | .und, _, hh => hh.elim
  | .nilS, _, hh => hh.elim
  | .nilP, _, hh => hh.elim
  | .val _ _, _, hh => hh.elim
  | .osl _ _, _, hh => hh.elim
  | .imm _ _ _, _, hh => hh.elim
  | .oel _ _ _ _, _, hh => hh.elim
  | .fn _ _, _, hh => hh.elim
  | .agg _, _, hh => hh.elim
  | .tup _, _, hh => hh.elim
theorem LRel.keep (h : Ext g bs w g' bs' w') : ∀ {x : AV} {v : Value}, LRel ET g bs w x v → LRel ET g' bs' w' x v
  | .top, _, hh => trivial
  | .und, _, hh => hh
  | .nilS, _, hh => hh
  | .nilP, _, hh => hh
  | .val t x, v, hh => Rep.mono (h.fr.okB) hh
  | .ref b ver off, v, ⟨h1, hv, h2⟩ => ⟨Nat.lt_of_lt_of_le h1 (h.ver b), hv, fun T cells hb => by
      obtain ⟨⟨c, hc⟩, e⟩ := h.var b ver T cells h1 hb
      rw [e]; exact h2 T c hc⟩
  | .osl b ver, v, ⟨h1, hv, h2⟩ => ⟨Nat.lt_of_lt_of_le h1 (h.ver b), hv, fun T t xs hb => by
      obtain ⟨⟨c, hc, _⟩, e⟩ := h.row b ver T t xs h1 hb
      rw [e]; exact h2 T t c hc⟩
  | .imm t x off, v, ⟨b, o, cs, e, h1, h2, h3⟩ => ⟨b, o, cs, e, (h.fr.okB b h1).1, Rep.mono (h.fr.okB) h2, h3.mono (h.fr.okB b h1).2⟩
  | .oel b ver i off, v, ⟨h1, hv, h2⟩ => ⟨Nat.lt_of_lt_of_le h1 (h.ver b), hv, fun T t xs hb => by
      obtain ⟨⟨c, hc, l⟩, e⟩ := h.row b ver T t xs h1 hb
      rw [e, ← l]; exact h2 T t c hc⟩
  | .fn f caps, v, ⟨cv, e, ha⟩ => ⟨cv, e, ha.mono fun _ _ => capR.keep h⟩
  | .agg _, _, hh => hh.elim
  | .tup _, _, hh => hh.elim
theorem All2.length {α β : Type} {r : α → β → Prop} : ∀ {l : List α} {m : List β}, All2 r l m → l.length = m.length
  | [], [], _ => rfl
  | _ :: _, _ :: _, ⟨_, h2⟩ => by simp [All2.length h2]
  | [], _ :: _, hh => hh.elim
  | _ :: _, [], hh => hh.elim
theorem CRel.keep (h : Ext g bs w g' bs' w') : ∀ {x : AV} {v : Value}, CRel ET g bs w x v → CRel ET g' bs' w' x v
  | .agg l, _, ⟨vs, e, ha⟩ => ⟨vs, e, ha.mono fun _ _ => LRel.keep h⟩
  | .tup l, _, hh => (show False from hh).elim
  | .top, _, _ => trivial
  | .und, _, hh => LRel.keep (ET := ET) (x := .und) h hh
  | .nilS, _, hh => LRel.keep (ET := ET) (x := .nilS) h hh
  | .nilP, _, hh => LRel.keep (ET := ET) (x := .nilP) h hh
  | .val t x, _, hh => LRel.keep (ET := ET) (x := .val t x) h hh
  | .ref b v o, _, hh => LRel.keep (ET := ET) (x := .ref b v o) h hh
  | .osl b v, _, hh => LRel.keep (ET := ET) (x := .osl b v) h hh
  | .imm t x o, _, hh => LRel.keep (ET := ET) (x := .imm t x o) h hh
  | .oel b v i o, _, hh => LRel.keep (ET := ET) (x := .oel b v i o) h hh
  | .fn f c, _, hh => LRel.keep (ET := ET) (x := .fn f c) h hh
theorem VRel.keep (h : Ext g bs w g' bs' w') : ∀ {x : AV} {v : Value}, VRel ET g bs w x v → VRel ET g' bs' w' x v
  | .tup l, _, ⟨vs, e, ha⟩ => ⟨vs, e, ha.mono fun _ _ => CRel.keep h⟩
  | .agg l, _, hh => CRel.keep (ET := ET) (x := .agg l) h hh
  | .top, _, _ => trivial
  | .und, _, hh => CRel.keep (ET := ET) (x := .und) h hh
  | .nilS, _, hh => CRel.keep (ET := ET) (x := .nilS) h hh
  | .nilP, _, hh => CRel.keep (ET := ET) (x := .nilP) h hh
  | .val t x, _, hh => CRel.keep (ET := ET) (x := .val t x) h hh
  | .ref b v o, _, hh => CRel.keep (ET := ET) (x := .ref b v o) h hh
  | .osl b v, _, hh => CRel.keep (ET := ET) (x := .osl b v) h hh
  | .imm t x o, _, hh => CRel.keep (ET := ET) (x := .imm t x o) h hh
  | .oel b v i o, _, hh => CRel.keep (ET := ET) (x := .oel b v i o) h hh
  | .fn f c, _, hh => CRel.keep (ET := ET) (x := .fn f c) h hh
theorem LRel.up : ∀ {x : AV} {v : Value}, LRel ET g bs w x v → VRel ET g bs w x v
  | .agg l, _, hh => hh.elim
  | .tup l, _, hh => hh.elim
  | .top, _, hh => hh
  | .und, _, hh => hh
  | .nilS, _, hh => hh
  | .nilP, _, hh => hh
  | .val t x, _, hh => hh
  | .ref b v o, _, hh => hh
  | .osl b v, _, hh => hh
  | .imm t x o, _, hh => hh
  | .oel b v i o, _, hh => hh
  | .fn f c, _, hh => hh
theorem LRel.upC : ∀ {x : AV} {v : Value}, LRel ET g bs w x v → CRel ET g bs w x v
  | .agg l, _, hh => hh.elim
  | .tup l, _, hh => hh.elim
  | .top, _, hh => hh
  | .und, _, hh => hh
  | .nilS, _, hh => hh
  | .nilP, _, hh => hh
  | .val t x, _, hh => hh
  | .ref b v o, _, hh => hh
  | .osl b v, _, hh => hh
  | .imm t x o, _, hh => hh
  | .oel b v i o, _, hh => hh
  | .fn f c, _, hh => hh
theorem CRel.up : ∀ {x : AV} {v : Value}, CRel ET g bs w x v → VRel ET g bs w x v
  | .agg l, _, hh => hh
  | .tup l, _, hh => (show False from hh).elim
  | .top, _, hh => hh
  | .und, _, hh => hh
  | .nilS, _, hh => hh
  | .nilP, _, hh => hh
  | .val t x, _, hh => hh
  | .ref b v o, _, hh => hh
  | .osl b v, _, hh => hh
  | .imm t x o, _, hh => hh
  | .oel b v i o, _, hh => hh
  | .fn f c, _, hh => hh

/-- The whole state. w0, g0: where the call began. -/
structure Rel (ET : TypeId) (g0 : Gh) (bs0 : Boxes) (w0 : World) (g : Gh) (st : St) (a : Act) (w : World) : Prop where
  size : st.slots.length ≤ a.tmps.size
  slots : ∀ i, VRel ET g st.bs w (getS st.slots i) (a.tmps.getD i undef)
  boxes : BsRel ET g st.bs w
  defers : a.defers = []
  ext : Ext g0 bs0 w0 g st.bs w
end
theorem getS_setS : ∀ (l : List AV) (d i : Nat) (v : AV), getS (setS l d v) i = if i = d ∧ d < l.length then v else getS l i
  | [], d, i, v => by simp [setS, getS]
  | x :: l, 0, 0, v => by simp [setS, getS]
  | x :: l, 0, i + 1, v => by simp [setS, getS]
  | x :: l, d + 1, 0, v => by simp [setS, getS]
  | x :: l, d + 1, i + 1, v => by simp only [setS, getS]; rw [getS_setS l d i v]; simp
theorem getS_ge : ∀ (l : List AV) (i : Nat), l.length ≤ i → getS l i = .top
  | [], _, _ => rfl
  | _ :: _, 0, h => by simp at h
  | _ :: l, i + 1, h => getS_ge l i (by simpa using h)
theorem length_setS : ∀ (l : List AV) (d : Nat) (v : AV), (setS l d v).length = l.length
  | [], _, _ => rfl
  | _ :: _, 0, _ => rfl
  | _ :: l, d + 1, v => by simp [setS, length_setS l d v]
theorem length_putS (l : List AV) (d : Option Tmp) (v : AV) : (putS l d v).length = l.length := by
  cases d <;> simp [putS, length_setS]
section
variable {ET : TypeId} {g0 g g' : Gh} {bs0 bs bs' : Boxes} {w0 w w' : World} {sl : List AV} {a : Act}
/-- A step: the world, the boxes go on; the value goes into its temporary. -/
theorem Rel.step (h : Rel ET g0 bs0 w0 g ⟨sl, bs⟩ a w) (he : Ext g bs w g' bs' w') (hb : BsRel ET g' bs' w') {v : AV} {u : Value} (hv : VRel ET g' bs' w' v u) (d : Option Tmp) :
    Rel ET g0 bs0 w0 g' ⟨putS sl d v, bs'⟩ (a.put d u) w' := by
  have hsz := h.size
  refine ⟨?_, ?_, hb, ?_, h.ext.trans he⟩
  · rw [length_putS]
    cases d with
    | none => exact hsz
    | some d => simpa [Act.put] using hsz
  · intro i
    cases d with
    | none => exact (h.slots i).keep he
    | some d =>
      simp only [putS, Act.put, getS_setS]
      by_cases hi : i = d ∧ d < sl.length
      · rw [if_pos hi]
        obtain ⟨rfl, hlt⟩ := hi
        have : i < a.tmps.size := Nat.lt_of_lt_of_le hlt hsz
        simpa [Array.getD, this] using hv
      · rw [if_neg hi]
        by_cases hd : i = d
        · subst hd
          have hge : sl.length ≤ i := by
            rcases Nat.lt_or_ge i sl.length with h1 | h1
            · exact absurd ⟨rfl, h1⟩ hi
            · exact h1
          have htop : getS sl i = .top := getS_ge sl i hge
          rw [htop]; trivial
        · have : (a.tmps.setIfInBounds d u).getD i undef = a.tmps.getD i undef := by
            simp only [Array.getD_eq_getD_getElem?]
            rw [Array.getElem?_setIfInBounds_ne (Ne.symm hd)]
          rw [this]
          exact (h.slots i).keep he
  · cases d <;> exact h.defers
theorem Rel.put (h : Rel ET g0 bs0 w0 g ⟨sl, bs⟩ a w) {v : AV} {u : Value} (hv : VRel ET g bs w v u) (d : Option Tmp) :
    Rel ET g0 bs0 w0 g ⟨putS sl d v, bs⟩ (a.put d u) w := h.step (Ext.refl _ _ _) h.boxes hv d
/-- The same temporary, told anew. -/
theorem Rel.retell (h : Rel ET g0 bs0 w0 g ⟨sl, bs⟩ a w) (d : Nat) {v : AV} (hv : VRel ET g bs w v (a.tmps.getD d undef)) : Rel ET g0 bs0 w0 g ⟨setS sl d v, bs⟩ a w := by
  refine ⟨by rw [length_setS]; exact h.size, fun i => ?_, h.boxes, h.defers, h.ext⟩
  simp only [getS_setS]
  by_cases hi : i = d ∧ d < sl.length
  · rw [if_pos hi, hi.1]; exact hv
  · rw [if_neg hi]; exact h.slots i
end
end Go.Proofs.Ytfdppbfefplikaa.Ev
