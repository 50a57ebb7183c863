/- How worlds go on: new blocks, written blocks, boxes. -/
import Derived.Test.YtfdppbfefplikaaEv5
import Derived.Laws.AppendOwnNone
namespace Go.Proofs.Ytfdppbfefplikaa.Ev
open Go
open Go.RowKit
set_option linter.unusedVariables false
set_option linter.unusedSimpArgs false
section
variable {P : Program} {E : Env} {R : Type} {out : R} {g0 g g' : Gh} {w0 w w' : World} {sl : List AV} {bs0 bs bs' : Boxes} {a : Act}

/-! ### lists -/
theorem lenN_eq : ∀ (l : List AV), lenN l = l.length
  | [] => rfl
  | _ :: l => by simp [lenN, lenN_eq l]
theorem takeN_eq : ∀ (n : Nat) (l : List AV), takeN n l = l.take n
  | 0, _ => by simp [takeN]
  | _ + 1, [] => by simp [takeN]
  | n + 1, a :: l => by simp [takeN, takeN_eq n l]
theorem dropN_eq : ∀ (n : Nat) (l : List AV), dropN n l = l.drop n
  | 0, _ => by simp [dropN]
  | _ + 1, [] => by simp [dropN]
  | n + 1, a :: l => by simp [dropN, dropN_eq n l]
theorem All2.take {α β : Type} {r : α → β → Prop} : ∀ {l : List α} {m : List β} (n : Nat), All2 r l m → All2 r (l.take n) (m.take n)
  | [], [], n, _ => by simp [All2]
  | _ :: _, _ :: _, 0, _ => by simp [All2]
  | _ :: _, _ :: _, n + 1, ⟨h1, h2⟩ => ⟨h1, All2.take n h2⟩
  | [], _ :: _, _, h => h.elim
  | _ :: _, [], _, h => h.elim
theorem All2.drop {α β : Type} {r : α → β → Prop} : ∀ {l : List α} {m : List β} (n : Nat), All2 r l m → All2 r (l.drop n) (m.drop n)
  | [], [], n, _ => by simp [All2]
  | _ :: _, _ :: _, 0, h => h
  | _ :: _, _ :: _, n + 1, ⟨h1, h2⟩ => All2.drop n h2
  | [], _ :: _, _, h => h.elim
  | _ :: _, [], _, h => h.elim
theorem All2.append {α β : Type} {r : α → β → Prop} : ∀ {l l' : List α} {m m' : List β}, All2 r l m → All2 r l' m' → All2 r (l ++ l') (m ++ m')
  | [], _, [], _, _, h => h
  | _ :: _, _, _ :: _, _, ⟨h1, h2⟩, h => ⟨h1, All2.append h2 h⟩
  | [], _, _ :: _, _, h, _ => h.elim
  | _ :: _, _, [], _, h, _ => h.elim
theorem setCells_all2 {α β : Type} {r : AV → Value → Prop} : ∀ {l : List AV} {m : List Value} (o : Nat) {vs : List AV} {us : List Value},
    All2 r l m → All2 r vs us → o + vs.length ≤ l.length → All2 r (setCells l o vs) (m.take o ++ us ++ m.drop (o + us.length))
  | l, m, 0, [], [], h, _, _ => by cases l <;> simpa [setCells] using h
  | [], [], o + 1, vs, us, _, _, h => by simp at h
  | a :: l, b :: m, 0, v :: vs, u :: us, ⟨h1, h2⟩, ⟨k1, k2⟩, h => by
    have := setCells_all2 (α := α) (β := β) (r := r) 0 h2 k2 (by simpa using h)
    simp only [setCells, List.take_zero, List.nil_append, List.length_cons] at this ⊢
    refine ⟨k1, ?_⟩
    simpa [Nat.add_comm] using this
  | a :: l, b :: m, o + 1, vs, us, ⟨h1, h2⟩, k, h => by
    have := setCells_all2 (α := α) (β := β) (r := r) o h2 k (by simp at h; omega)
    cases vs <;> cases us <;> first | exact k.elim | skip
    · simp only [setCells, List.take_succ_cons, List.cons_append]
      refine ⟨h1, ?_⟩
      simpa [Nat.add_right_comm] using this
    · rename_i v vs u us
      simp only [setCells, List.take_succ_cons, List.cons_append]
      refine ⟨h1, ?_⟩
      rw [show o + 1 + (u :: us).length = (o + (u :: us).length) + 1 by omega, List.drop_succ_cons]
      exact this
  | [], [], 0, _ :: _, _, _, _, h => by simp at h
  | [], _ :: _, _, _, _, h, _, _ => h.elim
  | _ :: _, [], _, _, _, h, _, _ => h.elim
  | _ :: _, _ :: _, 0, [], _ :: _, _, h, _ => h.elim
  | _ :: _, _ :: _, 0, _ :: _, [], _, h, _ => h.elim
theorem expand_rel : ∀ {t : Ty} {x : t.den} {cs : List Value}, Rep E.ET (okB g w) w t x cs → All2 (LRel E.ET g bs w) (expand t x) cs
  | .pair a b, x, cs, ⟨c1, c2, e, h1, h2⟩ => by subst e; exact All2.append (expand_rel h1) (expand_rel h2)
  | .unit, _, cs, h => by simp only [Rep] at h; subst h; trivial
  | .int k, x, cs, h => by have := h; simp only [Rep] at this; subst this; exact ⟨h, trivial⟩
  | .bool, x, cs, h => by have := h; simp only [Rep] at this; subst this; exact ⟨h, trivial⟩
  | .str, x, cs, h => by have := h; simp only [Rep] at this; subst this; exact ⟨h, trivial⟩
  | .err, x, cs, h => by have := h; simp only [Rep] at this; subst this; exact ⟨h, trivial⟩
  | .sl t, x, cs, h => by
    have hl := Rep.length h
    match cs, h, hl with
    | [c], h, _ => exact ⟨h, trivial⟩
  | .nptr t, x, cs, h => by
    have hl := Rep.length h
    match cs, h, hl with
    | [c], h, _ => exact ⟨h, trivial⟩
theorem Reps.get {α : Type} {r : α → List Value → Prop} {n : Nat} (hlen : ∀ x c, r x c → c.length = n) : ∀ {l : List α} {cs : List Value} (i : Nat) (hi : i < l.length), Reps r l cs →
    ∃ c, r (l[i]) c ∧ ∀ j u, c[j]? = some u → cs[i * n + j]? = some u
  | [], _, i, hi, _ => by simp at hi
  | x :: l, _, 0, _, ⟨c1, c2, e, h1, h2⟩ => ⟨c1, h1, fun j u hj => by
      subst e
      rw [Nat.zero_mul, Nat.zero_add, List.getElem?_append_left (by
        have := (List.getElem?_eq_some_iff.1 hj).1; exact this)]
      exact hj⟩
  | x :: l, _, i + 1, hi, ⟨c1, c2, e, h1, h2⟩ => by
    obtain ⟨c, hc, h⟩ := Reps.get hlen i (by simpa using hi) h2
    refine ⟨c, hc, fun j u hj => ?_⟩
    subst e
    have hl := hlen _ _ h1
    rw [List.getElem?_append_right (by rw [hl, Nat.add_mul]; omega), hl, show (i + 1) * n + j - n = i * n + j by rw [Nat.add_mul]; omega]
    exact h j u hj
theorem gd_get (t : Ty) (xs : List t.den) (i : Int) (h0 : 0 ≤ i) (h1 : i < xs.length) : gd t xs i = xs[i.toNat]'(by omega) := by
  unfold gd
  rw [List.getD_eq_getElem?_getD, List.getElem?_eq_getElem (by omega)]
  rfl

/-! ### boxes -/
theorem look_cons_eq (b : Nat) (x : Nat × BoxC) (bs : Boxes) : look ((b, x) :: bs) b = some x := by
  simp only [look, Nat.beq_refl, cond_true]
theorem look_cons_ne {b b' : Nat} (x : Nat × BoxC) (bs : Boxes) (h : b ≠ b') : look ((b, x) :: bs) b' = look bs b' := by
  simp only [look, beq_no h, cond_false]
theorem getBox_look {b v : Nat} {c : BoxC} (h : getBox bs b v = c) (hc : c ≠ .dead) : look bs b = some (v, c) := by
  unfold getBox at h
  split at h
  · rename_i v' c' hl
    cases hb : Nat.beq v' v with
    | true =>
      rw [hb] at h
      have := Nat.eq_of_beq_eq_true hb
      subst this
      simp only [cond_true] at h
      subst h
      exact hl
    | false => rw [hb] at h; exact absurd h.symm hc
  · exact absurd h.symm hc
theorem getBox_of_look {b v : Nat} {c : BoxC} (h : look bs b = some (v, c)) : getBox bs b v = c := by
  simp only [getBox, h, Nat.beq_refl, cond_true]
theorem nextVer_of_look {b v : Nat} {c : BoxC} (h : look bs b = some (v, c)) : nextVer bs b = v + 1 := by
  simp only [nextVer, h]
theorem Ext.fresh {b : Nat} {c : BoxC} (fr : Fr g w g' w') (hd : ∀ b', b' ≠ b → g'.hd b' = g.hd b') : Ext g bs w g' ((b, (nextVer bs b, c)) :: bs) w' := by
  refine ⟨fr, fun b' => ?_, ?_, ?_⟩
  · by_cases e : b = b'
    · subst e
      rw [nextVer_of_look (look_cons_eq b _ bs)]; omega
    · simp only [nextVer, look_cons_ne _ bs e]; exact Nat.le_refl _
  · intro b' ver T cells hv hb
    by_cases e : b = b'
    · subst e
      simp only [getBox, look_cons_eq, beq_no (show nextVer bs b ≠ ver by omega), cond_false] at hb
      cases hb
    · simp only [getBox, look_cons_ne _ bs e] at hb
      exact ⟨⟨cells, by simp only [getBox]; exact hb⟩, hd b' (Ne.symm e)⟩
  · intro b' ver T t xs hv hb
    by_cases e : b = b'
    · subst e
      simp only [getBox, look_cons_eq, beq_no (show nextVer bs b ≠ ver by omega), cond_false] at hb
      cases hb
    · simp only [getBox, look_cons_ne _ bs e] at hb
      exact ⟨⟨xs, by simp only [getBox]; exact hb, rfl⟩, hd b' (Ne.symm e)⟩
/-- The same box, with another content of the same kind. -/
def sameKind : BoxC → BoxC → Prop
  | _, .dead => True
  | .var T _, .var T' _ => T = T'
  | .row T t xs, .row T' t' xs' => T = T' ∧ t = t' ∧ xs.length = xs'.length
  | _, _ => False
theorem Ext.same {b v : Nat} {c c' : BoxC} (hl : look bs b = some (v, c)) (hk : sameKind c c') (fr : Fr g w g' w') (hd : g'.hd = g.hd) : Ext g bs w g' ((b, (v, c')) :: bs) w' := by
  refine ⟨fr, fun b' => ?_, ?_, ?_⟩
  · by_cases e : b = b'
    · subst e
      rw [nextVer_of_look (look_cons_eq b _ bs), nextVer_of_look hl]; omega
    · simp only [nextVer, look_cons_ne _ bs e]; exact Nat.le_refl _
  · intro b' ver T cells hv hb
    by_cases e : b = b'
    · subst e
      have h2 := getBox_look hb (by simp)
      rw [look_cons_eq] at h2
      simp only [Option.some.injEq, Prod.mk.injEq] at h2
      obtain ⟨rfl, rfl⟩ := h2
      cases c <;> simp only [sameKind] at hk
      subst hk
      exact ⟨⟨_, getBox_of_look hl⟩, by rw [hd]⟩
    · simp only [getBox, look_cons_ne _ bs e] at hb
      exact ⟨⟨cells, by simp only [getBox]; exact hb⟩, by rw [hd]⟩
  · intro b' ver T t xs hv hb
    by_cases e : b = b'
    · subst e
      have h2 := getBox_look hb (by simp)
      rw [look_cons_eq] at h2
      simp only [Option.some.injEq, Prod.mk.injEq] at h2
      obtain ⟨rfl, rfl⟩ := h2
      cases c <;> simp only [sameKind] at hk
      obtain ⟨rfl, rfl, h3⟩ := hk
      exact ⟨⟨_, getBox_of_look hl, h3⟩, by rw [hd]⟩
    · simp only [getBox, look_cons_ne _ bs e] at hb
      exact ⟨⟨xs, by simp only [getBox]; exact hb, rfl⟩, by rw [hd]⟩
theorem ownsRow_of_block {e : TypeId} {n k : Nat} {v : Value} {xs : List Value} (h : w.ownsRow 0 e n v k xs) (hb : ∀ blk, v.ownBlock = some blk → w'.heap[blk]? = w.heap[blk]?) : w'.ownsRow 0 e n v k xs := by
  refine ⟨h.1, ?_⟩
  rcases h.2 with h2 | ⟨q, cap, cur, rfl, hb0, hq, rest⟩
  · exact .inl h2
  · exact .inr ⟨q, cap, cur, rfl, hb0, (hb q rfl).trans hq, rest⟩
theorem BsRel.cons {b v : Nat} {c : BoxC} (hb : BsRel E.ET g bs w) (he : Ext g bs w g' ((b, (v, c)) :: bs) w')
    (ho : ∀ b', b' ≠ b → g'.hd b' = g.hd b' ∧ ∀ blk, blk < w.heap.size → g.O blk = some b' → g'.O blk = some b' ∧ w'.heap[blk]? = w.heap[blk]?)
    (hn : BoxRel E.ET g' ((b, (v, c)) :: bs) w' b c) : BsRel E.ET g' ((b, (v, c)) :: bs) w' := by
  intro b' ver c' hl
  by_cases e : b = b'
  · subst e
    rw [look_cons_eq] at hl
    simp only [Option.some.injEq, Prod.mk.injEq] at hl
    obtain ⟨rfl, rfl⟩ := hl
    exact hn
  · rw [look_cons_ne _ bs e] at hl
    have h := hb b' ver c' hl
    obtain ⟨h1, h2⟩ := ho b' (Ne.symm e)
    cases c' with
    | dead => trivial
    | var T cells =>
      obtain ⟨blk, arr, k1, k2, k3, k4⟩ := h
      have hlt : blk < w.heap.size := (Array.getElem?_eq_some_iff.1 k3).1
      exact ⟨blk, arr, h1.trans k1, (h2 blk hlt k2).1, (h2 blk hlt k2).2.trans k3, k4.mono fun _ _ => LRel.keep he⟩
    | row T t xs =>
      obtain ⟨cs, k1, k2, k3⟩ := h
      refine ⟨cs, ?_, k2.mono fun _ _ => Rep.mono he.fr.okB, ?_⟩
      · rw [h1]
        refine ownsRow_of_block k1 fun blk hblk => (h2 blk ?_ (k3 blk hblk)).2
        exact (World.ownsRow.lt k1 blk hblk).2
      · rw [h1]
        intro blk hblk
        exact (h2 blk (World.ownsRow.lt k1 blk hblk).2 (k3 blk hblk)).1
/-- Killed: the box is read no more. -/
theorem BsRel.kill {b v : Nat} {c : BoxC} (hb : BsRel E.ET g bs w) (hl : look bs b = some (v, c)) : BsRel E.ET g (Ev.kill bs b v) w :=
  hb.cons (Ext.same hl (by cases c <;> trivial) (Fr.refl g w) rfl) (fun b' hb' => ⟨rfl, fun blk _ h => ⟨h, rfl⟩⟩) trivial
theorem Ext.kill {b v : Nat} {c : BoxC} (hl : look bs b = some (v, c)) : Ext g bs w g (Ev.kill bs b v) w :=
  Ext.same hl (by cases c <;> trivial) (Fr.refl g w) rfl

/-! ### a new block for a box -/
/-- Block k is box b's, whose header is v. -/
def Gh.give (g : Gh) (k b : Nat) (v : Value) : Gh := ⟨fun i => if i = k then some b else g.O i, fun i => if i = b then v else g.hd i⟩
theorem Fr.give_new {b k : Nat} {v : Value} (hk : w.heap.size ≤ k) (os : w'.os = w.os) (tape : w'.tape = w.tape) (output : w'.output = w.output) (size : w.heap.size ≤ w'.heap.size)
    (hh : ∀ i, i < w.heap.size → w'.heap[i]? = w.heap[i]?) : Fr g w (g.give k b v) w' :=
  ⟨os, tape, output, size, fun i hi hs => ⟨by simp only [Gh.give]; rw [if_neg (by omega)]; exact hi, hh i hs⟩, fun i hi hs => ⟨by simp only [Gh.give]; rw [if_neg (by omega)]; exact hi, hh i hs⟩⟩
theorem give_other {b k : Nat} {v : Value} (hk : w.heap.size ≤ k) (hh : ∀ i, i < w.heap.size → w'.heap[i]? = w.heap[i]?) (b' : Nat) (hb : b' ≠ b) :
    (g.give k b v).hd b' = g.hd b' ∧ ∀ blk, blk < w.heap.size → g.O blk = some b' → (g.give k b v).O blk = some b' ∧ w'.heap[blk]? = w.heap[blk]? :=
  ⟨by simp only [Gh.give]; rw [if_neg hb], fun blk hlt h => ⟨by simp only [Gh.give]; rw [if_neg (by omega)]; exact h, hh blk hlt⟩⟩
/-- A variable in a new block. -/
theorem newVar_sound {d : Option Tmp} {T : TypeId} {cells : List AV} {vs : List Value} {K : AV → Boxes → Option R} (h : newVar d bs T cells K = some out)
    (hb : BsRel E.ET g bs w) (hc : All2 (LRel E.ET g bs w) cells vs) :
    ∃ v bs' g', K v bs' = some out ∧ VRel E.ET g' bs' (w.alloc (.cells vs.toArray T)) v (.pointer (some ⟨w.heap.size, 0, none⟩)) ∧
      BsRel E.ET g' bs' (w.alloc (.cells vs.toArray T)) ∧ Ext g bs w g' bs' (w.alloc (.cells vs.toArray T)) := by
  unfold newVar at h
  cases d with
  | none => cases h
  | some d =>
    cases ho : allOk cells with
    | false => simp only [ho, cond_false] at h; cases h
    | true =>
      simp only [ho, cond_true] at h
      have hh : ∀ i, i < w.heap.size → (w.alloc (.cells vs.toArray T)).heap[i]? = w.heap[i]? := fun i hi => heap_alloc_old w _ i hi
      have fr : Fr g w (g.give w.heap.size d (.pointer (some ⟨w.heap.size, 0, none⟩))) (w.alloc (.cells vs.toArray T)) :=
        Fr.give_new (Nat.le_refl _) rfl rfl rfl (by simp) hh
      have he := Ext.fresh (bs := bs) (c := .var T cells) fr (fun b' hb' => (give_other (g := g) (v := .pointer (some ⟨w.heap.size, 0, none⟩)) (Nat.le_refl _) hh b' hb').1)
      refine ⟨_, _, g.give w.heap.size d (.pointer (some ⟨w.heap.size, 0, none⟩)), h, ?_, ?_, he⟩
      · refine ⟨?_, rfl, fun T' cells' hb' => ⟨w.heap.size, by simp [Gh.give], rfl⟩⟩
        rw [nextVer_of_look (look_cons_eq d _ bs)]; omega
      · refine hb.cons he (give_other (Nat.le_refl _) hh) ⟨w.heap.size, vs.toArray, by simp [Gh.give], by simp [Gh.give], heap_alloc_new w _, ?_⟩
        simpa using hc.mono fun _ _ => LRel.keep he
/-- A row, by whatever way its block came. -/
theorem newRow_sound {d : Option Tmp} {T : TypeId} {t : Ty} {xs : List t.den} {cs : List Value} {hv : Value} {K : AV → Boxes → Option R} (h : newRow d bs T t xs K = some out)
    (hb : BsRel E.ET g bs w) (os : w'.os = w.os) (tape : w'.tape = w.tape) (output : w'.output = w.output) (size : w.heap.size ≤ w'.heap.size)
    (hh : ∀ i, i < w.heap.size → hv.ownBlock ≠ some i → w'.heap[i]? = w.heap[i]?)
    (hfree : ∀ i, hv.ownBlock = some i → i < w.heap.size → ∃ b0, (g.O i = some b0 ∧ b0 ≠ 0) ∧ ∀ ver c, look bs b0 = some (ver, c) → c = .dead)
    (hrow : w'.ownsRow 0 T t.sz hv xs.length cs) (hx : Reps (fun x c => Rep E.ET (okB g w) w t x c) xs cs) :
    ∃ v bs' g', K v bs' = some out ∧ VRel E.ET g' bs' w' v hv ∧ BsRel E.ET g' bs' w' ∧ Ext g bs w g' bs' w' := by
  unfold newRow at h
  cases d with
  | none => cases h
  | some d =>
    simp only at h
    -- the owner of the row's block, if there is one
    let g' : Gh := ⟨fun i => if hv.ownBlock = some i then some d else g.O i, fun i => if i = d then hv else g.hd i⟩
    have fr : Fr g w g' w' := ⟨os, tape, output, size, fun i hi hs => by
      have hne : hv.ownBlock ≠ some i := fun e => by obtain ⟨b0, ⟨h1, _⟩, _⟩ := hfree i e hs; rw [hi] at h1; cases h1
      exact ⟨by show (if hv.ownBlock = some i then some d else g.O i) = none; rw [if_neg hne]; exact hi, hh i hs hne⟩, fun i hi hs => by
      have hne : hv.ownBlock ≠ some i := fun e => by
        obtain ⟨b0, ⟨h1, h2⟩, _⟩ := hfree i e hs
        rw [hi] at h1
        simp only [Option.some.injEq] at h1
        exact h2 h1.symm
      exact ⟨by show (if hv.ownBlock = some i then some d else g.O i) = some 0; rw [if_neg hne]; exact hi, hh i hs hne⟩⟩
    have he : Ext g bs w g' ((d, (nextVer bs d, .row T t xs)) :: bs) w' := Ext.fresh fr (fun b' hb' => by show (if b' = d then hv else g.hd b') = g.hd b'; rw [if_neg hb'])
    have hO : ∀ blk, hv.ownBlock = some blk → g'.O blk = some d := fun blk e => by show (if hv.ownBlock = some blk then some d else g.O blk) = some d; rw [if_pos e]
    have hhd : g'.hd d = hv := by show (if d = d then hv else g.hd d) = hv; rw [if_pos rfl]
    refine ⟨_, _, g', h, ?_, ?_, he⟩
    · refine ⟨?_, ?_, fun T' t' xs' hb' => hhd.symm⟩
      rotate_left
      · rcases hrow.2 with ⟨e, _⟩ | ⟨q, cap, cur, e, _⟩ <;> rw [e] <;> rfl
      rw [nextVer_of_look (look_cons_eq d _ bs)]; omega
    · intro b' ver c' hl
      by_cases e : d = b'
      · subst e
        rw [look_cons_eq] at hl
        simp only [Option.some.injEq, Prod.mk.injEq] at hl
        obtain ⟨rfl, rfl⟩ := hl
        exact ⟨cs, by rw [hhd]; exact hrow, hx.mono fun _ _ => Rep.mono he.fr.okB, fun blk e => hO blk (by rw [hhd] at e; exact e)⟩
      · rw [look_cons_ne _ bs e] at hl
        have hbox := hb b' ver c' hl
        have h1 : g'.hd b' = g.hd b' := by show (if b' = d then hv else g.hd b') = g.hd b'; rw [if_neg (Ne.symm e)]
        have h2 : c' ≠ .dead → ∀ blk, blk < w.heap.size → g.O blk = some b' → g'.O blk = some b' ∧ w'.heap[blk]? = w.heap[blk]? := by
          intro hc blk hlt ho
          have hne : hv.ownBlock ≠ some blk := fun e => by
            obtain ⟨b0, ⟨k1, _⟩, k2⟩ := hfree blk e hlt
            rw [ho] at k1
            simp only [Option.some.injEq] at k1
            subst k1
            exact hc (k2 _ _ hl)
          exact ⟨by show (if hv.ownBlock = some blk then some d else g.O blk) = some b'; rw [if_neg hne]; exact ho, hh blk hlt hne⟩
        cases c' with
        | dead => trivial
        | var T cells =>
          obtain ⟨blk, arr, k1, k2, k3, k4⟩ := hbox
          have hlt : blk < w.heap.size := (Array.getElem?_eq_some_iff.1 k3).1
          exact ⟨blk, arr, h1.trans k1, (h2 (by simp) blk hlt k2).1, (h2 (by simp) blk hlt k2).2.trans k3, k4.mono fun _ _ => LRel.keep he⟩
        | row T2 t2 xs2 =>
          obtain ⟨cs2, k1, k2, k3⟩ := hbox
          refine ⟨cs2, ?_, k2.mono fun _ _ => Rep.mono he.fr.okB, ?_⟩
          · rw [h1]
            exact ownsRow_of_block k1 fun blk hblk => (h2 (by simp) blk (World.ownsRow.lt k1 blk hblk).2 (k3 blk hblk)).2
          · rw [h1]
            intro blk hblk
            exact (h2 (by simp) blk (World.ownsRow.lt k1 blk hblk).2 (k3 blk hblk)).1
end
end Go.Proofs.Ytfdppbfefplikaa.Ev
