/- How worlds go on: new blocks, written blocks, boxes. -/
import Derived.Test.YtcnngodgngmghaaGreatDoorEvA
import Derived.Laws.AppendOwnNone
import Derived.Laws.BytesString
import Derived.Laws.IdiomStrings
import Derived.Laws.Slices
namespace Go.Proofs.YtcnngodgngmghaaGreatDoor.Ev
open Go
open Go.RowKit
set_option linter.unusedVariables false
set_option linter.unusedSimpArgs false
section
variable {P : Program} {E : Env} {R : Type} {out : R} {g0 g g' : Gh} {w0 w w' : World} {sl : List AV} {bs0 bs bs' : Boxes} {a : Act}

theorem lenN_eq : ∀ (l : List AV), lenN l = l.length
  | [] => rfl
  | _ :: l => by simp [lenN, lenN_eq l]
theorem takeN_eq : ∀ (n : Nat) (l : List AV), takeN n l = l.take n
  | 0, _ => by simp [takeN]
  | _ + 1, [] => by simp [takeN]
  | n + 1, a :: l => by simp [takeN, takeN_eq n l]
theorem dropN_eq : ∀ (n : Nat) (l : List AV), dropN n l = l.drop n
  | 0, _ => by simp [dropN]
  | _ + 1, [] => by simp [dropN]
  | n + 1, a :: l => by simp [dropN, dropN_eq n l]
theorem All2.take {α β : Type} {r : α → β → Prop} : ∀ {l : List α} {m : List β} (n : Nat), All2 r l m → All2 r (l.take n) (m.take n)
  | [], [], n, _ => by simp [All2]
  | _ :: _, _ :: _, 0, _ => by simp [All2]
  | _ :: _, _ :: _, n + 1, ⟨h1, h2⟩ => ⟨h1, All2.take n h2⟩
  | [], _ :: _, _, h => h.elim
  | _ :: _, [], _, h => h.elim
theorem All2.drop {α β : Type} {r : α → β → Prop} : ∀ {l : List α} {m : List β} (n : Nat), All2 r l m → All2 r (l.drop n) (m.drop n)
  | [], [], n, _ => by simp [All2]
  | _ :: _, _ :: _, 0, h => h
  | _ :: _, _ :: _, n + 1, ⟨h1, h2⟩ => All2.drop n h2
  | [], _ :: _, _, h => h.elim
  | _ :: _, [], _, h => h.elim
theorem All2.append {α β : Type} {r : α → β → Prop} : ∀ {l l' : List α} {m m' : List β}, All2 r l m → All2 r l' m' → All2 r (l ++ l') (m ++ m')
  | [], _, [], _, _, h => h
  | _ :: _, _, _ :: _, _, ⟨h1, h2⟩, h => ⟨h1, All2.append h2 h⟩
  | [], _, _ :: _, _, h, _ => h.elim
  | _ :: _, _, [], _, h, _ => h.elim
theorem setCells_all2 {α β : Type} {r : AV → Value → Prop} : ∀ {l : List AV} {m : List Value} (o : Nat) {vs : List AV} {us : List Value},
    All2 r l m → All2 r vs us → o + vs.length ≤ l.length → All2 r (setCells l o vs) (m.take o ++ us ++ m.drop (o + us.length))
  | l, m, 0, [], [], h, _, _ => by cases l <;> simpa [setCells] using h
  | [], [], o + 1, vs, us, _, _, h => by simp at h
  | a :: l, b :: m, 0, v :: vs, u :: us, ⟨h1, h2⟩, ⟨k1, k2⟩, h => by
    have := setCells_all2 (α := α) (β := β) (r := r) 0 h2 k2 (by simpa using h)
    simp only [setCells, List.take_zero, List.nil_append, List.length_cons] at this ⊢
    refine ⟨k1, ?_⟩
    simpa [Nat.add_comm] using this
  | a :: l, b :: m, o + 1, vs, us, ⟨h1, h2⟩, k, h => by
    have := setCells_all2 (α := α) (β := β) (r := r) o h2 k (by simp at h; omega)
    cases vs <;> cases us <;> first | exact k.elim | skip
    · simp only [setCells, List.take_succ_cons, List.cons_append]
      refine ⟨h1, ?_⟩
      simpa [Nat.add_right_comm] using this
    · rename_i v vs u us
      simp only [setCells, List.take_succ_cons, List.cons_append]
      refine ⟨h1, ?_⟩
      rw [show o + 1 + (u :: us).length = (o + (u :: us).length) + 1 by omega, List.drop_succ_cons]
      exact this
  | [], [], 0, _ :: _, _, _, _, h => by simp at h
  | [], _ :: _, _, _, _, h, _, _ => h.elim
  | _ :: _, [], _, _, _, h, _, _ => h.elim
  | _ :: _, _ :: _, 0, [], _ :: _, _, h, _ => h.elim
  | _ :: _, _ :: _, 0, _ :: _, [], _, h, _ => h.elim
theorem expand_rel : ∀ {t : Ty} {x : t.den} {cs : List Value}, Rep E.ET (okB g w) w t x cs → All2 (LRel E.ET g bs w) (expand t x) cs
  | .pair a b, x, cs, ⟨c1, c2, e, h1, h2⟩ => by subst e; exact All2.append (expand_rel h1) (expand_rel h2)
  | .unit, _, cs, h => by simp only [Rep] at h; subst h; trivial
  | .int k, x, cs, h => by have := h; simp only [Rep] at this; subst this; exact ⟨h, trivial⟩
  | .bool, x, cs, h => by have := h; simp only [Rep] at this; subst this; exact ⟨h, trivial⟩
  | .str, x, cs, h => by have := h; simp only [Rep] at this; subst this; exact ⟨h, trivial⟩
  | .err, x, cs, h => by have := h; simp only [Rep] at this; subst this; exact ⟨h, trivial⟩
  | .sl t, x, cs, h => by
    have hl := Rep.length h
    match cs, h, hl with
    | [c], h, _ => exact ⟨h, trivial⟩
  | .nptr t, x, cs, h => by
    have hl := Rep.length h
    match cs, h, hl with
    | [c], h, _ => exact ⟨h, trivial⟩
theorem Reps.get {α : Type} {r : α → List Value → Prop} {n : Nat} (hlen : ∀ x c, r x c → c.length = n) : ∀ {l : List α} {cs : List Value} (i : Nat) (hi : i < l.length), Reps r l cs →
    ∃ c, r (l[i]) c ∧ ∀ j u, c[j]? = some u → cs[i * n + j]? = some u
  | [], _, i, hi, _ => by simp at hi
  | x :: l, _, 0, _, ⟨c1, c2, e, h1, h2⟩ => ⟨c1, h1, fun j u hj => by
      subst e
      rw [Nat.zero_mul, Nat.zero_add, List.getElem?_append_left (by
        have := (List.getElem?_eq_some_iff.1 hj).1; exact this)]
      exact hj⟩
  | x :: l, _, i + 1, hi, ⟨c1, c2, e, h1, h2⟩ => by
    obtain ⟨c, hc, h⟩ := Reps.get hlen i (by simpa using hi) h2
    refine ⟨c, hc, fun j u hj => ?_⟩
    subst e
    have hl := hlen _ _ h1
    rw [List.getElem?_append_right (by rw [hl, Nat.add_mul]; omega), hl, show (i + 1) * n + j - n = i * n + j by rw [Nat.add_mul]; omega]
    exact h j u hj
theorem gd_get (t : Ty) (xs : List t.den) (i : Int) (h0 : 0 ≤ i) (h1 : i < xs.length) : gd t xs i = xs[i.toNat]'(by omega) := by
  unfold gd
  rw [List.getD_eq_getElem?_getD, List.getElem?_eq_getElem (by omega)]
  rfl

theorem look_cons_eq (b : Nat) (x : Nat × BoxC) (bs : Boxes) : look ((b, x) :: bs) b = some x := by
  simp only [look, Nat.beq_refl, cond_true]
theorem look_cons_ne {b b' : Nat} (x : Nat × BoxC) (bs : Boxes) (h : b ≠ b') : look ((b, x) :: bs) b' = look bs b' := by
  simp only [look, beq_no h, cond_false]
theorem getBox_look {b v : Nat} {c : BoxC} (h : getBox bs b v = c) (hc : c ≠ .dead) : look bs b = some (v, c) := by
  unfold getBox at h
  split at h
  · rename_i v' c' hl
    cases hb : Nat.beq v' v with
    | true =>
      rw [hb] at h
      have := Nat.eq_of_beq_eq_true hb
      subst this
      simp only [cond_true] at h
      subst h
      exact hl
    | false => rw [hb] at h; exact absurd h.symm hc
  · exact absurd h.symm hc
theorem getBox_of_look {b v : Nat} {c : BoxC} (h : look bs b = some (v, c)) : getBox bs b v = c := by
  simp only [getBox, h, Nat.beq_refl, cond_true]
theorem nextVer_of_look {b v : Nat} {c : BoxC} (h : look bs b = some (v, c)) : nextVer bs b = v + 1 := by
  simp only [nextVer, h]
theorem Ext.fresh {b : Nat} {c : BoxC} (fr : Fr g w g' w') (hd : ∀ b', b' ≠ b → g'.hd b' = g.hd b') : Ext g bs w g' ((b, (nextVer bs b, c)) :: bs) w' := by
  refine ⟨fr, fun b' => ?_, ?_, ?_⟩
  · by_cases e : b = b'
    · subst e
      rw [nextVer_of_look (look_cons_eq b _ bs)]; omega
    · simp only [nextVer, look_cons_ne _ bs e]; exact Nat.le_refl _
  · intro b' ver T cells hv hb
    by_cases e : b = b'
    · subst e
      simp only [getBox, look_cons_eq, beq_no (show nextVer bs b ≠ ver by omega), cond_false] at hb
      cases hb
    · simp only [getBox, look_cons_ne _ bs e] at hb
      exact ⟨⟨cells, by simp only [getBox]; exact hb⟩, hd b' (Ne.symm e)⟩
  · intro b' ver T t xs hv hb
    by_cases e : b = b'
    · subst e
      simp only [getBox, look_cons_eq, beq_no (show nextVer bs b ≠ ver by omega), cond_false] at hb
      cases hb
    · simp only [getBox, look_cons_ne _ bs e] at hb
      exact ⟨⟨xs, by simp only [getBox]; exact hb, rfl⟩, hd b' (Ne.symm e)⟩
def sameKind : BoxC → BoxC → Prop
  | _, .dead => True
  | .var T _, .var T' _ => T = T'
  | .row T t xs, .row T' t' xs' => T = T' ∧ t = t' ∧ xs.length = xs'.length
  | _, _ => False
theorem Ext.same {b v : Nat} {c c' : BoxC} (hl : look bs b = some (v, c)) (hk : sameKind c c') (fr : Fr g w g' w') (hd : g'.hd = g.hd) : Ext g bs w g' ((b, (v, c')) :: bs) w' := by
  refine ⟨fr, fun b' => ?_, ?_, ?_⟩
  · by_cases e : b = b'
    · subst e
      rw [nextVer_of_look (look_cons_eq b _ bs), nextVer_of_look hl]; omega
    · simp only [nextVer, look_cons_ne _ bs e]; exact Nat.le_refl _
  · intro b' ver T cells hv hb
    by_cases e : b = b'
    · subst e
      have h2 := getBox_look hb (by simp)
      rw [look_cons_eq] at h2
      simp only [Option.some.injEq, Prod.mk.injEq] at h2
      obtain ⟨rfl, rfl⟩ := h2
      cases c <;> simp only [sameKind] at hk
      subst hk
      exact ⟨⟨_, getBox_of_look hl⟩, by rw [hd]⟩
    · simp only [getBox, look_cons_ne _ bs e] at hb
      exact ⟨⟨cells, by simp only [getBox]; exact hb⟩, by rw [hd]⟩
  · intro b' ver T t xs hv hb
    by_cases e : b = b'
    · subst e
      have h2 := getBox_look hb (by simp)
      rw [look_cons_eq] at h2
      simp only [Option.some.injEq, Prod.mk.injEq] at h2
      obtain ⟨rfl, rfl⟩ := h2
      cases c <;> simp only [sameKind] at hk
      obtain ⟨rfl, rfl, h3⟩ := hk
      exact ⟨⟨_, getBox_of_look hl, h3⟩, by rw [hd]⟩
    · simp only [getBox, look_cons_ne _ bs e] at hb
      exact ⟨⟨xs, by simp only [getBox]; exact hb, rfl⟩, by rw [hd]⟩
theorem ownsRow_of_block {e : TypeId} {n k : Nat} {v : Value} {xs : List Value} (h : ORow w e n v k xs) (hb : ∀ blk, v.ownBlock = some blk → w'.heap[blk]? = w.heap[blk]?) : ORow w' e n v k xs := by
  refine ⟨h.1, ?_⟩
  rcases h.2 with h2 | ⟨q, cap, cur, rfl, hb0, ⟨fz, hq, hfz⟩, rest⟩
  · exact .inl h2
  · exact .inr ⟨q, cap, cur, rfl, hb0, ⟨fz, (hb q rfl).trans hq, hfz⟩, rest⟩
theorem BsRel.cons {b v : Nat} {c : BoxC} (hb : BsRel E.ET g bs w) (he : Ext g bs w g' ((b, (v, c)) :: bs) w')
    (ho : ∀ b', b' ≠ b → g'.hd b' = g.hd b' ∧ ∀ blk, blk < w.heap.size → g.O blk = some b' → g'.O blk = some b' ∧ w'.heap[blk]? = w.heap[blk]?)
    (hn : BoxRel E.ET g' ((b, (v, c)) :: bs) w' b c) : BsRel E.ET g' ((b, (v, c)) :: bs) w' := by
  intro b' ver c' hl
  by_cases e : b = b'
  · subst e
    rw [look_cons_eq] at hl
    simp only [Option.some.injEq, Prod.mk.injEq] at hl
    obtain ⟨rfl, rfl⟩ := hl
    exact hn
  · rw [look_cons_ne _ bs e] at hl
    have h := hb b' ver c' hl
    obtain ⟨h1, h2⟩ := ho b' (Ne.symm e)
    cases c' with
    | dead => trivial
    | var T cells =>
      obtain ⟨blk, arr, k1, k2, k3, k4⟩ := h
      have hlt : blk < w.heap.size := (Array.getElem?_eq_some_iff.1 k3).1
      exact ⟨blk, arr, h1.trans k1, (h2 blk hlt k2).1, (h2 blk hlt k2).2.trans k3, k4.mono fun _ _ => LRel.keep he⟩
    | row T t xs =>
      obtain ⟨cs, k1, k2, k3⟩ := h
      refine ⟨cs, ?_, k2.mono fun _ _ => Rep.mono he.fr.okB, ?_⟩
      · rw [h1]
        refine ownsRow_of_block k1 fun blk hblk => (h2 blk ?_ (k3 blk hblk)).2
        exact (ORow.lt k1 blk hblk).2
      · rw [h1]
        intro blk hblk
        exact (h2 blk (ORow.lt k1 blk hblk).2 (k3 blk hblk)).1
theorem BsRel.kill {b v : Nat} {c : BoxC} (hb : BsRel E.ET g bs w) (hl : look bs b = some (v, c)) : BsRel E.ET g (Ev.kill bs b v) w :=
  hb.cons (Ext.same hl (by cases c <;> trivial) (Fr.refl g w) rfl) (fun b' hb' => ⟨rfl, fun blk _ h => ⟨h, rfl⟩⟩) trivial
theorem Ext.kill {b v : Nat} {c : BoxC} (hl : look bs b = some (v, c)) : Ext g bs w g (Ev.kill bs b v) w :=
  Ext.same hl (by cases c <;> trivial) (Fr.refl g w) rfl

def Gh.give (g : Gh) (k b : Nat) (v : Value) : Gh := ⟨fun i => if i = k then some b else g.O i, fun i => if i = b then v else g.hd i⟩
theorem Fr.give_new {b k : Nat} {v : Value} (hk : w.heap.size ≤ k) (os : w'.os = w.os) (tape : w'.tape = w.tape) (output : w'.output = w.output) (size : w.heap.size ≤ w'.heap.size)
    (hh : ∀ i, i < w.heap.size → w'.heap[i]? = w.heap[i]?) : Fr g w (g.give k b v) w' :=
  ⟨os, tape, output, size, fun i hi hs => ⟨by simp only [Gh.give]; rw [if_neg (by omega)]; exact hi, hh i hs⟩, fun i hi hs => ⟨by simp only [Gh.give]; rw [if_neg (by omega)]; exact hi, hh i hs⟩⟩
theorem give_other {b k : Nat} {v : Value} (hk : w.heap.size ≤ k) (hh : ∀ i, i < w.heap.size → w'.heap[i]? = w.heap[i]?) (b' : Nat) (hb : b' ≠ b) :
    (g.give k b v).hd b' = g.hd b' ∧ ∀ blk, blk < w.heap.size → g.O blk = some b' → (g.give k b v).O blk = some b' ∧ w'.heap[blk]? = w.heap[blk]? :=
  ⟨by simp only [Gh.give]; rw [if_neg hb], fun blk hlt h => ⟨by simp only [Gh.give]; rw [if_neg (by omega)]; exact h, hh blk hlt⟩⟩
theorem newVar_sound {d : Option Tmp} {T : TypeId} {cells : List AV} {vs : List Value} {K : AV → Boxes → Option R} (h : newVar d bs T cells K = some out)
    (hb : BsRel E.ET g bs w) (hc : All2 (LRel E.ET g bs w) cells vs) :
    ∃ v bs' g', K v bs' = some out ∧ VRel E.ET g' bs' (w.alloc (.cells vs.toArray T)) v (.pointer (some ⟨w.heap.size, 0, none⟩)) ∧
      BsRel E.ET g' bs' (w.alloc (.cells vs.toArray T)) ∧ Ext g bs w g' bs' (w.alloc (.cells vs.toArray T)) := by
  unfold newVar at h
  cases d with
  | none => cases h
  | some d =>
    cases ho : allOk cells with
    | false => simp only [ho, cond_false] at h; cases h
    | true =>
      simp only [ho, cond_true] at h
      have hh : ∀ i, i < w.heap.size → (w.alloc (.cells vs.toArray T)).heap[i]? = w.heap[i]? := fun i hi => allocOld w _ i hi
      have fr : Fr g w (g.give w.heap.size d (.pointer (some ⟨w.heap.size, 0, none⟩))) (w.alloc (.cells vs.toArray T)) :=
        Fr.give_new (Nat.le_refl _) rfl rfl rfl (by simp) hh
      have he := Ext.fresh (bs := bs) (c := .var T cells) fr (fun b' hb' => (give_other (g := g) (v := .pointer (some ⟨w.heap.size, 0, none⟩)) (Nat.le_refl _) hh b' hb').1)
      refine ⟨_, _, g.give w.heap.size d (.pointer (some ⟨w.heap.size, 0, none⟩)), h, ?_, ?_, he⟩
      · refine ⟨?_, rfl, fun T' cells' hb' => ⟨w.heap.size, by simp [Gh.give], rfl⟩⟩
        rw [nextVer_of_look (look_cons_eq d _ bs)]; omega
      · refine hb.cons he (give_other (Nat.le_refl _) hh) ⟨w.heap.size, vs.toArray, by simp [Gh.give], by simp [Gh.give], heap_alloc_new w _, ?_⟩
        simpa using hc.mono fun _ _ => LRel.keep he
theorem newRow_sound {d : Option Tmp} {T : TypeId} {t : Ty} {xs : List t.den} {cs : List Value} {hv : Value} {K : AV → Boxes → Option R} (h : newRow d bs T t xs K = some out)
    (hb : BsRel E.ET g bs w) (os : w'.os = w.os) (tape : w'.tape = w.tape) (output : w'.output = w.output) (size : w.heap.size ≤ w'.heap.size)
    (hh : ∀ i, i < w.heap.size → hv.ownBlock ≠ some i → w'.heap[i]? = w.heap[i]?)
    (hfree : ∀ i, hv.ownBlock = some i → i < w.heap.size → ∃ b0, (g.O i = some b0 ∧ b0 ≠ 0) ∧ ∀ ver c, look bs b0 = some (ver, c) → c = .dead)
    (hrow : ORow w' T t.sz hv xs.length cs) (hx : Reps (fun x c => Rep E.ET (okB g w) w t x c) xs cs) :
    ∃ v bs' g', K v bs' = some out ∧ VRel E.ET g' bs' w' v hv ∧ BsRel E.ET g' bs' w' ∧ Ext g bs w g' bs' w' := by
  unfold newRow at h
  cases d with
  | none => cases h
  | some d =>
    simp only at h
    -- the owner of the row's block, if there is one
    let g' : Gh := ⟨fun i => if hv.ownBlock = some i then some d else g.O i, fun i => if i = d then hv else g.hd i⟩
    have fr : Fr g w g' w' := ⟨os, tape, output, size, fun i hi hs => by
      have hne : hv.ownBlock ≠ some i := fun e => by obtain ⟨b0, ⟨h1, _⟩, _⟩ := hfree i e hs; rw [hi] at h1; cases h1
      exact ⟨by show (if hv.ownBlock = some i then some d else g.O i) = none; rw [if_neg hne]; exact hi, hh i hs hne⟩, fun i hi hs => by
      have hne : hv.ownBlock ≠ some i := fun e => by
        obtain ⟨b0, ⟨h1, h2⟩, _⟩ := hfree i e hs
        rw [hi] at h1
        simp only [Option.some.injEq] at h1
        exact h2 h1.symm
      exact ⟨by show (if hv.ownBlock = some i then some d else g.O i) = some 0; rw [if_neg hne]; exact hi, hh i hs hne⟩⟩
    have he : Ext g bs w g' ((d, (nextVer bs d, .row T t xs)) :: bs) w' := Ext.fresh fr (fun b' hb' => by show (if b' = d then hv else g.hd b') = g.hd b'; rw [if_neg hb'])
    have hO : ∀ blk, hv.ownBlock = some blk → g'.O blk = some d := fun blk e => by show (if hv.ownBlock = some blk then some d else g.O blk) = some d; rw [if_pos e]
    have hhd : g'.hd d = hv := by show (if d = d then hv else g.hd d) = hv; rw [if_pos rfl]
    refine ⟨_, _, g', h, ?_, ?_, he⟩
    · refine ⟨?_, ?_, fun T' t' xs' hb' => hhd.symm⟩
      rotate_left
      · rcases hrow.2 with ⟨e, _⟩ | ⟨q, cap, cur, e, _⟩ <;> rw [e] <;> rfl
      rw [nextVer_of_look (look_cons_eq d _ bs)]; omega
    · intro b' ver c' hl
      by_cases e : d = b'
      · subst e
        rw [look_cons_eq] at hl
        simp only [Option.some.injEq, Prod.mk.injEq] at hl
        obtain ⟨rfl, rfl⟩ := hl
        exact ⟨cs, by rw [hhd]; exact hrow, hx.mono fun _ _ => Rep.mono he.fr.okB, fun blk e => hO blk (by rw [hhd] at e; exact e)⟩
      · rw [look_cons_ne _ bs e] at hl
        have hbox := hb b' ver c' hl
        have h1 : g'.hd b' = g.hd b' := by show (if b' = d then hv else g.hd b') = g.hd b'; rw [if_neg (Ne.symm e)]
        have h2 : c' ≠ .dead → ∀ blk, blk < w.heap.size → g.O blk = some b' → g'.O blk = some b' ∧ w'.heap[blk]? = w.heap[blk]? := by
          intro hc blk hlt ho
          have hne : hv.ownBlock ≠ some blk := fun e => by
            obtain ⟨b0, ⟨k1, _⟩, k2⟩ := hfree blk e hlt
            rw [ho] at k1
            simp only [Option.some.injEq] at k1
            subst k1
            exact hc (k2 _ _ hl)
          exact ⟨by show (if hv.ownBlock = some blk then some d else g.O blk) = some b'; rw [if_neg hne]; exact ho, hh blk hlt hne⟩
        cases c' with
        | dead => trivial
        | var T cells =>
          obtain ⟨blk, arr, k1, k2, k3, k4⟩ := hbox
          have hlt : blk < w.heap.size := (Array.getElem?_eq_some_iff.1 k3).1
          exact ⟨blk, arr, h1.trans k1, (h2 (by simp) blk hlt k2).1, (h2 (by simp) blk hlt k2).2.trans k3, k4.mono fun _ _ => LRel.keep he⟩
        | row T2 t2 xs2 =>
          obtain ⟨cs2, k1, k2, k3⟩ := hbox
          refine ⟨cs2, ?_, k2.mono fun _ _ => Rep.mono he.fr.okB, ?_⟩
          · rw [h1]
            exact ownsRow_of_block k1 fun blk hblk => (h2 (by simp) blk (ORow.lt k1 blk hblk).2 (k3 blk hblk)).2
          · rw [h1]
            intro blk hblk
            exact (h2 (by simp) blk (ORow.lt k1 blk hblk).2 (k3 blk hblk)).1
end
end Go.Proofs.YtcnngodgngmghaaGreatDoor.Ev
/- The evaluator's operations on memory are sound: loads, stores, addresses. -/
namespace Go.Proofs.YtcnngodgngmghaaGreatDoor.Ev
open Go
open Go.RowKit
set_option linter.unusedVariables false
set_option linter.unusedSimpArgs false
section
variable {P : Program} {E : Env} {R : Type} {out : R} {g0 g g' : Gh} {w0 w w' : World} {sl : List AV} {bs0 bs bs' : Boxes} {a : Act}

theorem pack_sound {T : TypeId} {r : Row} {blk off : Nat} {cells : List AV} {vs : List Value} {K : AV → Option R} (hr : RowOk P E.ET T r) (hc : All2 (LRel E.ET g bs w) cells vs) (h : pack r cells K = some out)
    (hl : ∀ j u, vs[j]? = some u → w.cell? ⟨blk, off + j, none⟩ = some u) :
    ∃ v u, K v = some out ∧ VRel E.ET g bs w v u ∧ (Instr.loadAt T (.pointer (some ⟨blk, off, none⟩))).run P w = .ok u w := by
  obtain ⟨i, z, hi, hsz, _⟩ := hr.info
  obtain ⟨d, hd, _, hag⟩ := hr.desc
  have hko : r.kind ≠ .other := fun e => by simp only [pack, e] at h; cases h
  have h' : packK r.size (isAggK r.kind) cells K = some out := by
    revert h hko
    unfold pack
    cases r.kind <;> intro h hko <;> first | exact absurd rfl hko | exact h
  clear h
  unfold packK at h'
  cases hb : Nat.beq (lenN cells) r.size with
  | false => rw [hb] at h'; cases h'
  | true =>
    rw [hb] at h'
    have hlen := Nat.eq_of_beq_eq_true hb
    rw [lenN_eq] at hlen
    have hvl : vs.length = r.size := by rw [← hlen, hc.length]
    simp only [cond_true] at h'
    have hagg := run_isAgg (w := w) hd
    rw [hag hko] at hagg
    cases ha : isAggK r.kind with
    | true =>
      rw [ha] at h' hagg
      have hlo := run_loadCells_list (P := P) w ⟨blk, off, none⟩ vs (fun j u hj => by rw [Addr.add_lit]; exact hl j u hj)
      rw [hvl, ← hsz] at hlo
      refine ⟨_, .agg vs.toArray, h', ⟨vs, rfl, hc⟩, ?_⟩
      simp only [Instr.loadAt, Instr.sureAddr, loadVar, Sem.run_bind, Sem.run_pure, Result.andThen_ok, hagg, if_true, run_sizeOf hi, hlo]
    | false =>
      rw [ha] at h' hagg
      simp only [cond_false] at h'
      match cells, vs, hc, h' with
      | [c], [u], hc, h' =>
        have h0 := hl 0 u rfl
        simp only [Nat.add_zero] at h0
        refine ⟨c, u, h', hc.1.up, ?_⟩
        simp only [Instr.loadAt, Instr.sureAddr, loadVar, Sem.run_bind, Sem.run_pure, Result.andThen_ok, hagg, Bool.false_eq_true, if_false]
        rw [run_load, h0]
theorem Lies.drop_take {b o k n : Nat} {cs : List Value} (h : Lies w b o cs) : Lies w b (o + k) ((cs.drop k).take n) := by
  intro j u hj
  rw [List.getElem?_take] at hj
  split at hj
  · rw [List.getElem?_drop] at hj
    rw [Nat.add_assoc]; exact h (k + j) u hj
  · cases hj
theorem lies_of_row {T : TypeId} {blk : Nat} {arr : Array Value} {fr : Nat × Nat} (h : w.heap[blk]? = some (.cells arr T fr)) : Lies w blk 0 arr.toList := by
  intro j u hj
  rw [Nat.zero_add, cell_of_row w blk j arr T fr h]
  simpa using hj
theorem row_of_some (hE : EnvOk P E) {T : TypeId} {r : Row} (h : E.row T = some r) : RowOk P E.ET T r := hE.rows T r h
theorem row_elem {T : TypeId} {t : Ty} {xs : List t.den} {cs : List Value} {v : Value} {blk n c : Nat} (hv : v = .slice (some ⟨blk, 0, none⟩) n c) (ho : ORow w T t.sz v xs.length cs)
    (hx : Reps (fun x c => Rep E.ET (okB g w) w t x c) xs cs) (i : Int) (h0 : 0 ≤ i) (h1 : i < xs.length) :
    ∃ ecs, Rep E.ET (okB g w) w t (gd t xs i) ecs ∧ Lies w blk (i.toNat * t.sz) ecs := by
  obtain ⟨ecs, k1, k2⟩ := Reps.get (fun x c hc => Rep.length hc) i.toNat (by omega) hx
  rw [gd_get t xs i h0 h1]
  refine ⟨ecs, k1, fun j u hj => ?_⟩
  have := ORow.cells ho (g := blk) (by subst hv; rfl) _ _ (k2 j u hj)
  rwa [Addr.add_lit, Nat.zero_add] at this
theorem leafV_rel {t : Ty} {a : AV} {x : t.den} {v : Value} (h : leafV t a = some x) (hl : LRel E.ET g bs w a v) : Rep E.ET (okB g w) w t x [v] := by
  unfold leafV at h
  split at h
  · split at h
    · rename_i e
      subst e
      simp only [Option.some.injEq] at h
      subst h
      exact hl
    · cases h
  · cases h
theorem listV_rel {t : Ty} (ht : t.sz = 1) : ∀ {l : List AV} {vs : List Value} {zs : List t.den}, listV t l = some zs → All2 (LRel E.ET g bs w) l vs →
    zs.length = l.length ∧ Reps (fun x c => Rep E.ET (okB g w) w t x c) zs vs
  | [], vs, zs, h, hl => by
    simp only [listV, Option.some.injEq] at h
    subst h
    cases vs with
    | nil => exact ⟨rfl, rfl⟩
    | cons _ _ => exact hl.elim
  | a :: l, [], zs, h, hl => hl.elim
  | a :: l, v :: vs, zs, h, hl => by
    unfold listV at h
    split at h
    · rename_i x hx
      split at h
      · rename_i r hr
        simp only [Option.some.injEq] at h
        subst h
        obtain ⟨h1, h2⟩ := listV_rel ht hr hl.2
        exact ⟨by rw [List.length_cons, List.length_cons, h1], [v], vs, rfl, leafV_rel hx hl.1, h2⟩
      · cases h
    · cases h
theorem cellsN_rel {t : Ty} {xs : List t.den} {cs : List Value} (ht : t.sz = 1) (hx : Reps (fun x c => Rep E.ET (okB g w) w t x c) xs cs) : ∀ (n j : Nat), j + n ≤ xs.length →
    All2 (LRel E.ET g bs w) (cellsN t xs j n) ((cs.drop j).take n)
  | 0, j, h => trivial
  | n + 1, j, h => by
    obtain ⟨ecs, k1, k2⟩ := Reps.get (fun x c hc => Rep.length hc) j (by omega) hx
    have hl := Rep.length k1
    rw [ht] at hl
    match ecs, hl with
    | [u], _ =>
      have hu : cs[j]? = some u := by
        have := k2 0 u rfl
        rwa [ht, Nat.mul_one, Nat.add_zero] at this
      obtain ⟨hlt, hu⟩ := List.getElem?_eq_some_iff.1 hu
      have hd : cs.drop j = u :: cs.drop (j + 1) := by rw [List.drop_eq_getElem_cons hlt, hu]
      have he : All2 (LRel E.ET g bs w) (expand t (gd t xs (j : Int))) [u] := by
        rw [gd_get t xs (j : Int) (by omega) (by omega)]
        exact expand_rel k1
      have ih := cellsN_rel ht hx n (j + 1) (by omega)
      rw [hd, List.take_succ_cons, cellsN]
      match hex : expand t (gd t xs (j : Int)), he with
      | [a], he => exact ⟨he.1, ih⟩
      | a :: b :: l, he => exact he.2.elim
theorem load_sound (hE : EnvOk P E) {T : TypeId} {x : AV} {xv : Value} {K : AV → Option R} (h : evLoad E T x bs K = some out) (hx : VRel E.ET g bs w x xv) (hb : BsRel E.ET g bs w) :
    ∃ v u, K v = some out ∧ VRel E.ET g bs w v u ∧ (Instr.loadAt T xv).run P w = .ok u w := by
  unfold evLoad at h
  split at h
  · cases h
  · rename_i r hr
    have hro := row_of_some hE hr
    split at h
    · rename_i b v off
      split at h
      · rename_i T' cells hbox
        obtain ⟨blk, h1, rfl⟩ := hx.2.2 T' cells hbox
        obtain ⟨blk', arr, k1, k2, k3, k4⟩ := hb b v _ (getBox_look hbox (by simp))
        rw [h1] at k1
        simp only [Value.pointer.injEq, Option.some.injEq, Addr.mk.injEq, and_true] at k1
        subst k1
        rw [takeN_eq, dropN_eq] at h
        have hlies := (lies_of_row k3).drop_take (k := off) (n := r.size)
        rw [Nat.zero_add] at hlies
        exact pack_sound hro ((k4.drop off).take r.size) h hlies
      · cases h
    · rename_i t x off
      obtain ⟨b, o, cs, rfl, k1, k2, k3⟩ := hx
      rw [takeN_eq, dropN_eq] at h
      exact pack_sound hro (((expand_rel k2).drop off).take r.size) h (k3.drop_take)
    · rename_i t p
      cases p with
      | none => cases h
      | some y =>
        obtain ⟨b, o, cs, e, k1, k2, k3⟩ := val_cell hx
        simp only [List.cons.injEq, and_true] at e
        subst e
        simp only [Option.bind_some] at h
        rw [takeN_eq, dropN_eq] at h
        have := k3.drop_take (k := 0) (n := r.size)
        exact pack_sound hro (((expand_rel k2).drop 0).take r.size) h this
    · rename_i b v i off
      split at h
      · rename_i T' t xs hbox
        obtain ⟨h0, h1, blk, n, c, h2, rfl⟩ := hx.2.2 T' t xs hbox
        obtain ⟨cs, k1, k2, k3⟩ := hb b v _ (getBox_look hbox (by simp))
        cases hle : Nat.ble r.size t.sz with
        | true =>
          rw [hle] at h
          obtain ⟨ecs, e1, e2⟩ := row_elem h2 k1 k2 i h0 h1
          rw [cond_true, takeN_eq, dropN_eq] at h
          exact pack_sound hro (((expand_rel e1).drop off).take r.size) h (e2.drop_take)
        | false =>
          rw [hle, cond_false] at h
          obtain ⟨p1, hA⟩ := bif_some h
          obtain ⟨p2, hB⟩ := bif_some hA
          obtain ⟨p3, p4⟩ := and3 p1
          obtain ⟨p5, p6⟩ := and3 p3
          have t1 := Nat.eq_of_beq_eq_true p5
          have t2 := Nat.eq_of_beq_eq_true p6
          have t3 := of_decide_eq_true p4
          have t4 := of_decide_eq_true p2
          subst t2; subst t3
          have hrel := cellsN_rel (E := E) (bs := bs) t1 k2 r.size 0 (by omega)
          rw [List.drop_zero] at hrel
          have := pack_sound (blk := blk) (off := 0) hro hrel hB (fun j u hj => by
            rw [List.getElem?_take] at hj
            split at hj
            · have := ORow.cells k1 (g := blk) (by rw [h2]; rfl) _ _ hj
              rwa [Addr.add_lit] at this
            · cases hj)
          simpa using this
      · cases h
    · cases h

theorem cellOk_one {x : AV} {v : Value} (h : cellOk x = true) (hx : LRel E.ET g bs w x v) : v.oneCell' = true := by
  cases x with
  | top => simp [cellOk] at h
  | und => simp [cellOk] at h
  | nilS => rw [show v = _ from hx]; rfl
  | nilP => rw [show v = _ from hx]; rfl
  | val t x =>
    have hh : Rep E.ET (okB g w) w t x [v] := hx
    clear hx h
    induction t with
    | int k => simp only [Rep, List.cons.injEq, and_true] at hh; subst hh; rfl
    | bool => simp only [Rep, List.cons.injEq, and_true] at hh; subst hh; rfl
    | str => simp only [Rep, List.cons.injEq, and_true] at hh; subst hh; rfl
    | err => simp only [Rep, List.cons.injEq, and_true] at hh; subst hh; cases x <;> rfl
    | sl t _ => obtain ⟨A, c, cs', e, _⟩ := hh; simp only [List.cons.injEq, and_true] at e; subst e; rfl
    | nptr t _ => cases x with
      | none => simp only [Rep, List.cons.injEq, and_true] at hh; subst hh; rfl
      | some x => obtain ⟨b, o, cs', e, _⟩ := hh; simp only [List.cons.injEq, and_true] at e; subst e; rfl
    | pair a b iha ihb =>
      obtain ⟨c1, c2, e, h1, h2⟩ := hh
      cases c1 with
      | nil => simp only [List.nil_append] at e; subst e; exact ihb x.2 h2
      | cons c c1 =>
        simp only [List.cons_append, List.cons.injEq, List.nil_eq, List.append_eq_nil_iff] at e
        obtain ⟨rfl, rfl, rfl⟩ := e
        exact iha x.1 h1
    | unit => simp [Rep] at hh
  | agg l => exact hx.elim
  | tup l => exact hx.elim
  | ref b ver off => exact hx.2.1
  | osl b ver => exact hx.2.1
  | oel b ver i off => exact hx.2.1
  | osb b ver i => exact hx.2.1
  | imm t x off => obtain ⟨b, o, cs, e, _⟩ := hx; subst e; rfl
  | fn f caps => obtain ⟨cv, e, _⟩ := hx; subst e; rfl
end
end Go.Proofs.YtcnngodgngmghaaGreatDoor.Ev
/- The evaluator's addresses, indexes, cuts, lengths and conversions are sound. -/
namespace Go.Proofs.YtcnngodgngmghaaGreatDoor.Ev
open Go
open Go.RowKit
set_option linter.unusedVariables false
set_option linter.unusedSimpArgs false
section
variable {P : Program} {E : Env} {R : Type} {out : R} {g0 g g' : Gh} {w0 w w' : World} {sl : List AV} {bs0 bs bs' : Boxes} {a : Act}

theorem asI_of {x : AV} {n : Int} (h : asI x = some n) : ∃ k, x = .val (.int k) n := by
  unfold asI at h
  split at h
  · simp only [Option.some.injEq] at h; subst h; exact ⟨_, rfl⟩
  · cases h
theorem isVar_of {c : BoxC} (h : isVar c = true) : ∃ T cells, c = .var T cells := by cases c <;> first | exact ⟨_, _, rfl⟩ | cases h
theorem isRow_of {c : BoxC} (h : isRow c = true) : ∃ T t xs, c = .row T t xs := by cases c <;> first | exact ⟨_, _, _, rfl⟩ | cases h
theorem run_fieldAt {T : TypeId} {fields : Array Field} {i : Nat} {f : Field} {fi : TypeInfo} {blk off : Nat} (h : P.underlying T = some (.struct fields)) (hf : fields[i]? = some f)
    (hi : P.info? f.type = some fi) (hn : fi.size ≠ 0) : (Instr.fieldAt T (.pointer (some ⟨blk, off, none⟩)) i).run P w = .ok (.pointer (some ⟨blk, off + f.offset, none⟩)) w := by
  simp only [Instr.fieldAt, Sem.run_bind, run_underlying h, Result.andThen_ok, hf, Instr.sureAddr, Sem.run_pure, fieldPlace, run_sizeOf hi, hn, if_false, Addr.add_lit]
theorem fieldAddr_sound (hE : EnvOk P E) {T : TypeId} {x : AV} {xv : Value} {f : Nat} {K : AV → Option R} (h : evFieldAddr E T x f bs K = some out) (hx : VRel E.ET g bs w x xv) :
    ∃ v u, K v = some out ∧ VRel E.ET g bs w v u ∧ (Instr.fieldAt T xv f).run P w = .ok u w := by
  unfold evFieldAddr at h
  split at h
  · rename_i fs hk
    obtain ⟨d, hd, fields, rfl, hf, _⟩ := und_of hE hk (by simp)
    split at h
    · rename_i o n ag hfs
      obtain ⟨fd, fi, fdd, h1, h2, h3, h4, h5, h6⟩ := hf f o n ag hfs
      cases hn : Nat.beq n 0 with
      | true => rw [hn] at h; cases h
      | false =>
        rw [hn] at h
        have hn0 : fi.size ≠ 0 := by
          intro e
          rw [← h4, e] at hn
          simp at hn
        simp only [cond_false] at h
        split at h
        · rename_i b v off
          cases hv : isVar (getBox bs b v) with
          | false => rw [hv] at h; cases h
          | true =>
            rw [hv] at h
            obtain ⟨T', cells, hc⟩ := isVar_of hv
            obtain ⟨blk, k1, rfl⟩ := hx.2.2 T' cells hc
            refine ⟨_, .pointer (some ⟨blk, off + o, none⟩), h, ⟨hx.1, rfl, fun T'' cells' hc' => ⟨blk, k1, rfl⟩⟩, ?_⟩
            rw [← h2]; exact run_fieldAt hd h1 h3 hn0
        · rename_i t y off
          obtain ⟨b, o', cs, rfl, k1, k2, k3⟩ := hx
          refine ⟨_, _, h, ⟨b, o', cs, rfl, k1, k2, k3⟩, ?_⟩
          rw [← h2, ← Nat.add_assoc]; exact run_fieldAt hd h1 h3 hn0
        · rename_i b v i off
          cases hv : isRow (getBox bs b v) with
          | false => rw [hv] at h; cases h
          | true =>
            rw [hv] at h
            obtain ⟨T', t, xs, hc⟩ := isRow_of hv
            obtain ⟨i0, i1, blk, m, c, k1, rfl⟩ := hx.2.2 T' t xs hc
            refine ⟨_, .pointer (some ⟨blk, i.toNat * t.sz + off + o, none⟩), h, ⟨hx.1, rfl, fun T'' t'' xs' hc' => ?_⟩, ?_⟩
            · rw [hc] at hc'
              simp only [BoxC.row.injEq] at hc'
              obtain ⟨rfl, rfl, hxs⟩ := hc'
              have hxs := eq_of_heq hxs
              subst hxs
              exact ⟨i0, i1, blk, m, c, k1, by rw [Nat.add_assoc]⟩
            · rw [← h2]; exact run_fieldAt hd h1 h3 hn0
        · cases h
    · cases h
  · cases h
theorem field_sound (hE : EnvOk P E) {T : TypeId} {x : AV} {xv : Value} {f : Nat} {K : AV → Option R} (h : evField E T x f K = some out) (hx : VRel E.ET g bs w x xv) :
    ∃ v u, K v = some out ∧ VRel E.ET g bs w v u ∧ (Instr.field T xv f).run P w = .ok u w := by
  unfold evField at h
  split at h
  · rename_i fs l hk
    obtain ⟨d, hd, fields, rfl, hf, _⟩ := und_of hE hk (by simp)
    obtain ⟨vs, rfl, ha⟩ := hx
    split at h
    · rename_i o n ag hfs
      obtain ⟨fd, fi, fdd, h1, h2, h3, h4, h5, h6⟩ := hf f o n ag hfs
      have hr := part_run (w := w) (vs := vs) (o := o) h5 h3
      have hrun : (Instr.field T (.agg vs.toArray) f).run P w = (part fd.type vs.toArray o).run P w := by
        simp only [Instr.field, Sem.run_bind, run_underlying hd, Result.andThen_ok, h1, asAgg, Sem.run_pure, h2]
      rw [takeN_eq, dropN_eq] at h
      have hal := (ha.drop o).take n
      cases hb : Nat.beq (lenN ((l.drop o).take n)) n with
      | false => rw [hb] at h; cases h
      | true =>
        rw [hb] at h
        have hlen := Nat.eq_of_beq_eq_true hb
        rw [lenN_eq] at hlen
        simp only [cond_true] at h
        cases ag with
        | true =>
          rw [h6, if_pos rfl, h4] at hr
          exact ⟨_, _, h, ⟨_, rfl, hal⟩, hrun.trans hr⟩
        | false =>
          simp only [cond_false] at h
          rw [h6] at hr
          simp only [Bool.false_eq_true, if_false] at hr
          split at h
          · rename_i c hc
            rw [hc] at hal hlen
            have hvl := hal.length
            have hn1 : n = 1 := by simpa using hlen.symm
            subst hn1
            match hm : (vs.drop o).take 1, hal with
            | [u], hal =>
              have hu : vs[o]? = some u := by
                have := congrArg (fun l => l[0]?) hm
                simpa using this
              rw [hu] at hr
              exact ⟨c, u, h, hal.1.up, hrun.trans hr⟩
          · cases h
    · cases h
  · cases h
theorem elemRow_of (hE : EnvOk P E) {T : TypeId} {t : Ty} (h : elemRow E T t = true) : ∃ r i, E.row T = some r ∧ P.info? T = some i ∧ i.size = t.sz ∧ r.size = t.sz ∧ i.bytes = r.bytes ∧ t.sz ≠ 0 ∧ RowOk P E.ET T r := by
  unfold elemRow at h
  split at h
  · rename_i r hr
    simp only [Bool.and_eq_true, Bool.not_eq_true'] at h
    have e := Nat.eq_of_beq_eq_true h.1
    obtain ⟨i, z, h1, h2, h3, _⟩ := (hE.rows T r hr).info
    refine ⟨r, i, hr, h1, h2.trans e, e, h3, ?_, hE.rows T r hr⟩
    intro e0; rw [e0] at h; simp at h
  · cases h
theorem run_indexAt_sl {T e : TypeId} {i : TypeInfo} {blk off n c : Nat} {k : IntKind} {j : Int} (h : P.underlying T = some (.slice e)) (hi : P.info? e = some i) (h0 : 0 ≤ j) (h1 : j < n) :
    (Instr.indexAt T (.slice (some ⟨blk, off, none⟩) n c) (.int k j)).run P w = .ok (.pointer (some ⟨blk, off + j.toNat * i.size, none⟩)) w := by
  simp [Instr.indexAt, asIntOf, run_underlying h, h0, h1, run_sizeOf hi, Addr.add_lit]
theorem pickN_some {f : Nat → Option R} : ∀ {n j : Nat} {i : Int}, pickN n j i f = some out → ∃ q, q < j + n ∧ i = (q : Int) ∧ f q = some out
  | 0, _, _, h => by cases h
  | n + 1, j, i, h => by
    simp only [pickN] at h
    by_cases e : i = (j : Int)
    · rw [decide_eq_true e, cond_true] at h
      exact ⟨j, by omega, e, h⟩
    · rw [decide_eq_false e, cond_false] at h
      obtain ⟨q, h1, h2⟩ := pickN_some h
      exact ⟨q, by omega, h2⟩
theorem indexAddr_sound (hE : EnvOk P E) {T : TypeId} {x i : AV} {xv iv : Value} {K : AV → Option R} (h : evIndexAddr E T x i bs K = some out) (hx : VRel E.ET g bs w x xv) (hi : VRel E.ET g bs w i iv)
    (hb : BsRel E.ET g bs w) : ∃ v u, K v = some out ∧ VRel E.ET g bs w v u ∧ (Instr.indexAt T xv iv).run P w = .ok u w := by
  unfold evIndexAddr at h
  split at h
  · rename_i j hj
    obtain ⟨k, rfl⟩ := asI_of hj
    rw [rel_int hi]
    split at h
    · rename_i e t l hk
      obtain ⟨d, hd, rfl⟩ := und_of hE hk (by simp)
      obtain ⟨he, h⟩ := bif_some h
      obtain ⟨h01, h⟩ := bif_some h
      obtain ⟨h0, h1⟩ := and3 h01
      have h0 := of_decide_eq_true h0
      have h1 := of_decide_eq_true h1
      obtain ⟨r, ti, _, h3, h4, _, _, h5, _⟩ := elemRow_of hE he
      obtain ⟨A, c, cs', e1, h6, h7, h8⟩ := val_cell hx
      simp only [List.cons.injEq, and_true] at e1
      subst e1
      obtain ⟨ecs, k1, k2⟩ := Reps.get (fun x c hc => Rep.length hc) j.toNat (by omega) h7
      rcases h8 with rfl | ⟨b, o, rfl, k3, k4⟩
      · have hl := Reps.length (fun x c hc => Rep.length hc) h7
        simp only [List.length_nil] at hl
        have : l.length = 0 := by
          rcases Nat.mul_eq_zero.1 hl.symm with h | h
          · exact h
          · exact absurd h h5
        omega
      · refine ⟨_, _, h, ⟨b, o + j.toNat * t.sz, ecs, rfl, k3, by rw [gd_get t l j h0 h1]; exact k1, fun q u hq => ?_⟩, ?_⟩
        · rw [Nat.add_assoc]; exact k4 _ _ (k2 q u hq)
        · rw [Nat.add_zero, ← h4]; exact run_indexAt_sl hd h3 h0 h1
    · rename_i e b v hk
      obtain ⟨d, hd, rfl⟩ := und_of hE hk (by simp)
      split at h
      · rename_i e' t xs hbox
        obtain ⟨he2, h⟩ := bif_some h
        obtain ⟨hee, he⟩ := and3 he2
        obtain ⟨h01, h⟩ := bif_some h
        obtain ⟨h0, h1⟩ := and3 h01
        have h0 := of_decide_eq_true h0
        have h1 := of_decide_eq_true h1
        obtain ⟨r, ti, _, h3, h4, _, _, h5, _⟩ := elemRow_of hE he
        have hxv := hx.2.2 _ _ _ hbox
        obtain ⟨cs, k1, k2, k3⟩ := hb b v _ (getBox_look hbox (by simp))
        rcases k1.2 with ⟨_, e0⟩ | ⟨blk, cap, cur, e1, _, _, _, _, _, _⟩
        · omega
        · rw [e1] at hxv
          subst hxv
          refine ⟨_, .pointer (some ⟨blk, j.toNat * t.sz, none⟩), h, ⟨hx.1, rfl, fun T'' t'' xs' hc' => ?_⟩, ?_⟩
          · rw [hbox] at hc'
            simp only [BoxC.row.injEq] at hc'
            obtain ⟨rfl, rfl, hxs⟩ := hc'
            have hxs := eq_of_heq hxs
            subst hxs
            exact ⟨h0, h1, blk, _, cap, e1, by rw [Nat.add_zero]⟩
          · have := run_indexAt_sl (w := w) (blk := blk) (off := 0) (n := xs.length) (c := cap) (k := k) hd h3 h0 h1
            rw [h4, Nat.zero_add] at this
            exact this
      · cases h
    · rename_i n e b v off hk
      obtain ⟨d, hd, rfl⟩ := und_of hE hk (by simp)
      split at h
      · rename_i r hr
        obtain ⟨hc3, h⟩ := bif_some h
        obtain ⟨hc2, h1⟩ := and3 hc3
        obtain ⟨hv, h0⟩ := and3 hc2
        have h0 := of_decide_eq_true h0
        have h1 := of_decide_eq_true h1
        obtain ⟨T', cells, hc⟩ := isVar_of hv
        obtain ⟨blk, k1, rfl⟩ := hx.2.2 T' cells hc
        obtain ⟨ti, z, h3, h4, _⟩ := (hE.rows e r hr).info
        obtain ⟨q, _, hq, hpk⟩ := pickN_some h
        subst hq
        refine ⟨_, .pointer (some ⟨blk, off + q * r.size, none⟩), hpk, ⟨hx.1, rfl, fun T'' cells' hc' => ⟨blk, k1, rfl⟩⟩, ?_⟩
        simp [Instr.indexAt, asIntOf, run_underlying hd, Instr.sureAddr, h0, show q < n by omega, run_sizeOf h3, Addr.add_lit, h4]
      · cases h
    · rename_i n e t y off hk
      obtain ⟨d, hd, rfl⟩ := und_of hE hk (by simp)
      split at h
      · rename_i r hr
        obtain ⟨hc2, h⟩ := bif_some h
        obtain ⟨h0, h1⟩ := and3 hc2
        have h0 := of_decide_eq_true h0
        have h1 := of_decide_eq_true h1
        obtain ⟨blk, o, cs, rfl, k1, k2, k3⟩ := hx
        obtain ⟨ti, z, h3, h4, _⟩ := (hE.rows e r hr).info
        obtain ⟨q, _, hq, hpk⟩ := pickN_some h
        subst hq
        refine ⟨_, .pointer (some ⟨blk, o + off + q * r.size, none⟩), hpk, ⟨blk, o, cs, by rw [Nat.add_assoc], k1, k2, k3⟩, ?_⟩
        simp [Instr.indexAt, asIntOf, run_underlying hd, Instr.sureAddr, h0, show q < n by omega, run_sizeOf h3, Addr.add_lit, h4]
      · cases h
    · rename_i n e b v i0 off hk
      obtain ⟨d, hd, rfl⟩ := und_of hE hk (by simp)
      split at h
      · rename_i T' t xs hbox
        obtain ⟨p1, hA⟩ := bif_some h
        obtain ⟨p2, hB⟩ := bif_some hA
        obtain ⟨p3, he⟩ := and3 p1
        obtain ⟨p4, p5⟩ := and3 p3
        obtain ⟨p6, p7⟩ := and3 p2
        obtain ⟨p8, p9⟩ := and3 p6
        have t1 := Nat.eq_of_beq_eq_true p4
        have t2 := of_decide_eq_true p5
        have h0 := of_decide_eq_true p8
        have h1 := of_decide_eq_true p9
        have h2 := of_decide_eq_true p7
        subst t1; subst t2
        obtain ⟨r, ti, _, h3, h4, _, _, h5, _⟩ := elemRow_of hE he
        obtain ⟨q0, q1, blk, m, c, e1, rfl⟩ := hx.2.2 _ _ _ hbox
        refine ⟨_, .pointer (some ⟨blk, j.toNat * t.sz, none⟩), hB, ⟨hx.1, rfl, fun T'' t'' xs' hc' => ?_⟩, ?_⟩
        · rw [hbox] at hc'
          simp only [BoxC.row.injEq] at hc'
          obtain ⟨rfl, rfl, hxs⟩ := hc'
          have hxs := eq_of_heq hxs
          subst hxs
          exact ⟨h0, h2, blk, _, _, e1, by rw [Nat.add_zero]⟩
        · simp [Instr.indexAt, asIntOf, run_underlying hd, Instr.sureAddr, h0, show j < n by omega, run_sizeOf h3, Addr.add_lit, h4]
      · cases h
    · cases h
  · cases h
theorem index_sound (hE : EnvOk P E) {T : TypeId} {x i : AV} {xv iv : Value} {K : AV → Option R} (h : evIndex E T x i K = some out) (hx : VRel E.ET g bs w x xv) (hi : VRel E.ET g bs w i iv) :
    ∃ v u, K v = some out ∧ VRel E.ET g bs w v u ∧ (Instr.index T xv iv).run P w = .ok u w := by
  unfold evIndex at h
  split at h
  · rename_i s j hk hj
    obtain ⟨k, rfl⟩ := asI_of hj
    obtain ⟨d, hd, rfl⟩ := und_of hE hk (by simp)
    obtain ⟨h01, h⟩ := bif_some h
    obtain ⟨h0, h1⟩ := and3 h01
    have h0 := of_decide_eq_true h0
    have h1 := of_decide_eq_true h1
    rw [rel_str hx, rel_int hi]
    have hlt : j.toNat < s.size := by omega
    refine ⟨_, _, h, int_rel _ _, ?_⟩
    have hg : s[j.toNat]? = some (s[j.toNat]'hlt) := by simp [hlt]
    simp only [Instr.index, asIntOf, Sem.run_bind, Sem.run_pure, Result.andThen_ok, run_underlying hd, h0, if_true, hg, bt, hlt, dif_pos]
  · rename_i n e l j hk hj
    obtain ⟨k, rfl⟩ := asI_of hj
    obtain ⟨d, hd, rfl⟩ := und_of hE hk (by simp)
    obtain ⟨vs, rfl, ha⟩ := hx
    split at h
    · rename_i r hr
      obtain ⟨h01, h⟩ := bif_some h
      obtain ⟨h0, h1⟩ := and3 h01
      have h0 := of_decide_eq_true h0
      have h1 := of_decide_eq_true h1
      have key : ∃ (q : Nat) (cells : List AV), (q : Int) = j ∧ pack r cells K = some out ∧ All2 (LRel E.ET g bs w) cells ((vs.drop (q * r.size)).take r.size) := by
        cases hbig : Nat.blt 16 n with
        | false =>
          rw [hbig, cond_false] at h
          obtain ⟨q, _, hq, hpk⟩ := pickN_some h
          rw [takeN_eq, dropN_eq] at hpk
          exact ⟨q, _, by first | exact hq | exact hq.symm, hpk, (ha.drop (q * r.size)).take r.size⟩
        | true =>
          rw [hbig, cond_true] at h
          split at h
          · rename_i xs hxs
            obtain ⟨p1, hpk⟩ := bif_some h
            obtain ⟨p2, p3⟩ := and3 p1
            obtain ⟨p4, p5⟩ := and3 p2
            have t1 := Nat.eq_of_beq_eq_true p4
            have t2 := Nat.eq_of_beq_eq_true p5
            have t3 := Nat.eq_of_beq_eq_true p3
            obtain ⟨hzl, hzr⟩ := listV_rel t1 hxs ha
            obtain ⟨ecs, k1, k2⟩ := Reps.get (fun x c hc => Rep.length hc) j.toNat (by omega) hzr
            have hel := Rep.length k1
            rw [t1] at hel
            refine ⟨j.toNat, _, by omega, hpk, ?_⟩
            rw [gd_get _ xs j h0 (by omega), t2, Nat.mul_one]
            match ecs, hel with
            | [u], _ =>
              have hu : vs[j.toNat]? = some u := by
                have := k2 0 u rfl
                rwa [t1, Nat.mul_one, Nat.add_zero] at this
              obtain ⟨hlt, hu⟩ := List.getElem?_eq_some_iff.1 hu
              rw [List.drop_eq_getElem_cons hlt, hu, List.take_succ_cons, List.take_zero]
              exact expand_rel k1
          · cases h
      obtain ⟨q, cells, hq, hpk, hal⟩ := key
      clear h
      subst hq
      have h := hpk
      have hro := hE.rows e r hr
      obtain ⟨ti, z, h3, h4, _⟩ := hro.info
      obtain ⟨de, hde, hke, hag⟩ := hro.desc
      have hko : r.kind ≠ .other := fun e => by simp only [pack, e] at h; cases h
      have h' : packK r.size (isAggK r.kind) cells K = some out := by
        revert h hko
        unfold pack
        cases r.kind <;> intro h hko <;> first | exact absurd rfl hko | exact h
      clear h
      have hag := hag hko
      have hrr := part_run (w := w) (vs := vs) (o := q * r.size) hde h3
      have hrun : (Instr.index T (.agg vs.toArray) (.int k (q : Int))).run P w = (part e vs.toArray (q * r.size)).run P w := by
        simp only [Instr.index, asIntOf, Sem.run_bind, Sem.run_pure, Result.andThen_ok, run_underlying hd, h0, h1, and_self, if_true, run_sizeOf h3, Int.toNat_natCast, h4]
      rw [rel_int hi]
      unfold packK at h'
      cases hb : Nat.beq (lenN cells) r.size with
      | false => rw [hb] at h'; cases h'
      | true =>
        rw [hb] at h'
        have hlen := Nat.eq_of_beq_eq_true hb
        rw [lenN_eq] at hlen
        simp only [cond_true] at h'
        cases hak : isAggK r.kind with
        | true =>
          rw [hak] at h' hag
          rw [hag, if_pos rfl, h4] at hrr
          exact ⟨_, _, h', ⟨_, rfl, hal⟩, hrun.trans hrr⟩
        | false =>
          rw [hak] at h' hag
          simp only [cond_false] at h'
          rw [hag] at hrr
          simp only [Bool.false_eq_true, if_false] at hrr
          split at h'
          · rename_i c
            have hn1 : r.size = 1 := by simpa using hlen.symm
            rw [hn1] at hal hrr hrun
            match hm : (vs.drop (q * 1)).take 1, hal with
            | [u], hal =>
              have hu : vs[q * 1]? = some u := by
                have := congrArg (fun l => l[0]?) hm
                simpa using this
              rw [hu] at hrr
              exact ⟨c, u, h', hal.1.up, hrun.trans hrr⟩
          · cases h'
    · cases h
  · cases h
end
end Go.Proofs.YtcnngodgngmghaaGreatDoor.Ev
/- The evaluator's cuts, lengths, conversions, assertions and stores are sound. -/
namespace Go.Proofs.YtcnngodgngmghaaGreatDoor.Ev
open Go
open Go.RowKit
set_option linter.unusedVariables false
set_option linter.unusedSimpArgs false
section
variable {P : Program} {E : Env} {R : Type} {out : R} {g0 g g' : Gh} {w0 w w' : World} {sl : List AV} {bs0 bs bs' : Boxes} {a : Act}

theorem Reps.split {α : Type} {r : α → List Value → Prop} : ∀ {xs ys : List α} {cs : List Value}, Reps r (xs ++ ys) cs → ∃ c1 c2, cs = c1 ++ c2 ∧ Reps r xs c1 ∧ Reps r ys c2
  | [], ys, cs, h => ⟨[], cs, rfl, rfl, h⟩
  | x :: xs, ys, cs, ⟨d1, d2, e, h1, h2⟩ => by
    obtain ⟨c1, c2, e2, h3, h4⟩ := Reps.split (xs := xs) h2
    exact ⟨d1 ++ c1, c2, by rw [e, e2, List.append_assoc], ⟨d1, c1, rfl, h1, h3⟩, h4⟩
theorem Reps.join {α : Type} {r : α → List Value → Prop} : ∀ {xs ys : List α} {c1 c2 : List Value}, Reps r xs c1 → Reps r ys c2 → Reps r (xs ++ ys) (c1 ++ c2)
  | [], ys, c1, c2, h1, h2 => by simp only [Reps] at h1; subst h1; exact h2
  | x :: xs, ys, _, c2, ⟨d1, d2, e, h1, h3⟩, h2 => ⟨d1, d2 ++ c2, by rw [e, List.append_assoc], h1, Reps.join h3 h2⟩
theorem Lies.mid {b o : Nat} {c1 c2 c3 : List Value} (h : Lies w b o (c1 ++ (c2 ++ c3))) : Lies w b (o + c1.length) c2 := by
  intro j u hj
  rw [Nat.add_assoc]
  refine h (c1.length + j) u ?_
  rw [List.getElem?_append_right (by omega), Nat.add_sub_cancel_left, List.getElem?_append_left (List.getElem?_eq_some_iff.1 hj).1]
  exact hj
def OI : Option Int → Option Value → Prop
  | none, none => True
  | some i, some v => ∃ k, v = .int k i
  | _, _ => False
theorem optInt_rel (hr : Rel E.ET g0 bs0 w0 g ⟨sl, bs⟩ a w) {o : Option Operand} {i : Option Int} (h : optInt o sl = some i) : OI i (o.map a.eval) := by
  cases o with
  | none => simp only [optInt, Option.some.injEq] at h; subst h; trivial
  | some o =>
    simp only [optInt] at h
    split at h
    · rename_i j hj
      simp only [Option.some.injEq] at h
      subst h
      obtain ⟨k, e⟩ := asI_of hj
      have := opnd_rel hr o
      rw [e] at this
      exact ⟨k, rel_int this⟩
    · cases h
theorem run_bounds {lo hi : Option Int} {lv hv : Option Value} {isS : Bool} {len cap : Nat} (hl : OI lo lv) (hh : OI hi hv) (h0 : 0 ≤ lo.getD 0) (h1 : lo.getD 0 ≤ hi.getD (len : Int)) (h2 : hi.getD (len : Int) ≤ (len : Int)) (h3 : len ≤ cap) :
    (Instr.sliceBounds isS len cap lv hv none).run P w = .ok ((lo.getD 0).toNat, (hi.getD (len : Int)).toNat, cap) w := by
  unfold Instr.sliceBounds
  cases hi with
  | none =>
    cases hv with
    | some _ => exact hh.elim
    | none =>
      cases lo with
      | none => cases lv with
        | some _ => exact hl.elim
        | none => simp
      | some i => cases lv with
        | none => exact hl.elim
        | some v =>
          obtain ⟨k, rfl⟩ := hl
          simp only [Option.getD_some, Option.getD_none] at h0 h1 h2
          simp [run_sliceBound (P := P) w k i len _ h0 h1]
  | some j =>
    cases hv with
    | none => exact hh.elim
    | some v =>
      obtain ⟨k', rfl⟩ := hh
      simp only [Option.getD_some] at h1 h2
      have hj0 : 0 ≤ j := Int.le_trans h0 h1
      cases lo with
      | none => cases lv with
        | some _ => exact hl.elim
        | none =>
          simp [run_sliceBound (P := P) w k' j cap _ hj0 (by omega)]
      | some i => cases lv with
        | none => exact hl.elim
        | some v =>
          obtain ⟨k, rfl⟩ := hl
          simp only [Option.getD_some] at h0 h1
          simp [run_sliceBound (P := P) w k' j cap _ hj0 (by omega), run_sliceBound (P := P) w k i j.toNat _ h0 (by omega)]
theorem Lies.left {b o : Nat} {c1 c2 : List Value} (h : Lies w b o (c1 ++ c2)) : Lies w b o c1 := fun j u hj => h j u (by rw [List.getElem?_append_left (List.getElem?_eq_some_iff.1 hj).1]; exact hj)
theorem Lies.right {b o : Nat} {c1 c2 : List Value} (h : Lies w b o (c1 ++ c2)) : Lies w b (o + c1.length) c2 := fun j u hj => by
  rw [Nat.add_assoc]; exact h _ u (by rw [List.getElem?_append_right (by omega), Nat.add_sub_cancel_left]; exact hj)
theorem subT_rel {ET : TypeId} {ok : Nat → Prop} : ∀ {s : Ty} {x : s.den} {off : Nat} {t : Ty} {y : t.den} {b o : Nat} {cs : List Value}, subT s x off t = some y → Rep ET ok w s x cs → Lies w b o cs →
    ∃ cs', Rep ET ok w t y cs' ∧ Lies w b (o + off) cs'
  | .pair s1 s2, x, off, t, y, b, o, cs, h, hr, hl => by
    simp only [subT] at h
    split at h
    · rename_i e
      obtain ⟨e1, e2⟩ := e
      subst e1; subst e2
      simp only [Option.some.injEq] at h
      subst h
      exact ⟨cs, hr, hl⟩
    · obtain ⟨c1, c2, rfl, h1, h2⟩ := hr
      cases hb : Nat.blt off s1.sz with
      | true => rw [hb] at h; exact subT_rel h h1 hl.left
      | false =>
        rw [hb] at h
        have hle : s1.sz ≤ off := by
          rcases Nat.lt_or_ge off s1.sz with q | q
          · rw [← Nat.blt_eq] at q; rw [hb] at q; cases q
          · exact q
        obtain ⟨cs', q1, q2⟩ := subT_rel h h2 hl.right
        rw [Rep.length h1, show o + s1.sz + (off - s1.sz) = o + off by omega] at q2
        exact ⟨cs', q1, q2⟩
  | .int _, x, off, t, y, b, o, cs, h, hr, hl => by
    simp only [subT] at h
    split at h
    · rename_i e; obtain ⟨e1, e2⟩ := e; subst e1; subst e2; simp only [Option.some.injEq] at h; subst h; exact ⟨cs, hr, hl⟩
    · cases h
  | .bool, x, off, t, y, b, o, cs, h, hr, hl => by
    simp only [subT] at h
    split at h
    · rename_i e; obtain ⟨e1, e2⟩ := e; subst e1; subst e2; simp only [Option.some.injEq] at h; subst h; exact ⟨cs, hr, hl⟩
    · cases h
  | .str, x, off, t, y, b, o, cs, h, hr, hl => by
    simp only [subT] at h
    split at h
    · rename_i e; obtain ⟨e1, e2⟩ := e; subst e1; subst e2; simp only [Option.some.injEq] at h; subst h; exact ⟨cs, hr, hl⟩
    · cases h
  | .err, x, off, t, y, b, o, cs, h, hr, hl => by
    simp only [subT] at h
    split at h
    · rename_i e; obtain ⟨e1, e2⟩ := e; subst e1; subst e2; simp only [Option.some.injEq] at h; subst h; exact ⟨cs, hr, hl⟩
    · cases h
  | .sl _, x, off, t, y, b, o, cs, h, hr, hl => by
    simp only [subT] at h
    split at h
    · rename_i e; obtain ⟨e1, e2⟩ := e; subst e1; subst e2; simp only [Option.some.injEq] at h; subst h; exact ⟨cs, hr, hl⟩
    · cases h
  | .nptr _, x, off, t, y, b, o, cs, h, hr, hl => by
    simp only [subT] at h
    split at h
    · rename_i e; obtain ⟨e1, e2⟩ := e; subst e1; subst e2; simp only [Option.some.injEq] at h; subst h; exact ⟨cs, hr, hl⟩
    · cases h
  | .unit, x, off, t, y, b, o, cs, h, hr, hl => by
    simp only [subT] at h
    split at h
    · rename_i e; obtain ⟨e1, e2⟩ := e; subst e1; subst e2; exact ⟨cs, hr, hl⟩
    · cases h
theorem subsT_rel {ET : TypeId} {ok : Nat → Prop} {s e : Ty} {x : s.den} {b o : Nat} {cs : List Value} (hr : Rep ET ok w s x cs) (hl : Lies w b o cs) : ∀ {n off : Nat} {l : List e.den}, subsT s x e n off = some l →
    l.length = n ∧ ∃ cs', Reps (fun x c => Rep ET ok w e x c) l cs' ∧ Lies w b (o + off) cs'
  | 0, off, l, h => by
    simp only [subsT, Option.some.injEq] at h
    subst h
    exact ⟨rfl, [], rfl, fun j u hj => by simp at hj⟩
  | n + 1, off, l, h => by
    simp only [subsT] at h
    split at h
    · rename_i y hy
      split at h
      · rename_i l' hl'
        simp only [Option.some.injEq] at h
        subst h
        obtain ⟨c1, r1, r2⟩ := subT_rel hy hr hl
        obtain ⟨e1, c2, r3, r4⟩ := subsT_rel hr hl hl'
        refine ⟨by simp [e1], c1 ++ c2, ⟨c1, c2, rfl, r1, r3⟩, fun j u hj => ?_⟩
        by_cases hlt : j < c1.length
        · rw [List.getElem?_append_left hlt] at hj; exact r2 j u hj
        · rw [List.getElem?_append_right (by omega)] at hj
          have := r4 _ u hj
          have hlen := Rep.length r1
          rw [show o + (off + e.sz) + (j - c1.length) = o + off + j by omega] at this
          exact this
      · cases h
    · cases h
theorem sliceArr_sound (hE : EnvOk P E) {T e : TypeId} {n : Nat} {t : Ty} {y : t.den} {off : Nat} {xv : Value} {lo hi : Option Int} {lv hv : Option Value} {K : AV → Option R} (hk : kindOf E T = .arr n e) (h : evSliceArr E n e t y off lo hi K = some out)
    (hx : LRel E.ET g bs w (.imm t y off) xv) (hl : OI lo lv) (hh : OI hi hv) : ∃ v u, K v = some out ∧ VRel E.ET g bs w v u ∧ (Instr.sliceAt T xv lv hv none).run P w = .ok u w := by
  obtain ⟨d, hd, rfl⟩ := und_of hE hk (by simp)
  unfold evSliceArr at h
  split at h
  · rename_i r hrow
    split at h
    · rename_i xs hxs
      simp only at h
      obtain ⟨he, h⟩ := bif_some h
      obtain ⟨h012, h⟩ := bif_some h
      obtain ⟨h01, h2⟩ := and3 h012
      obtain ⟨h0, h1⟩ := and3 h01
      have h0 := of_decide_eq_true h0
      have h1 := of_decide_eq_true h1
      have h2 := of_decide_eq_true h2
      obtain ⟨r', ti, _, h3, h4, _, _, h5, _⟩ := elemRow_of hE he
      obtain ⟨b, o, cs, rfl, q1, q2, q3⟩ := hx
      obtain ⟨el, cs', h7, k5⟩ := subsT_rel q2 q3 hxs
      have hr := run_bounds (P := P) (w := w) (isS := false) (len := n) (cap := n) hl hh h0 h1 h2 (Nat.le_refl _)
      generalize lo.getD 0 = l at h0 h1 hr h
      generalize hi.getD (n : Int) = m at h1 h2 hr h
      obtain ⟨l, rfl⟩ := Int.eq_ofNat_of_zero_le h0
      obtain ⟨m, rfl⟩ := Int.eq_ofNat_of_zero_le (Int.le_trans h0 h1)
      simp only [Int.toNat_natCast] at hr h
      have hlm : l ≤ m := by omega
      have hmx : m ≤ xs.length := by omega
      have hrun : (Instr.sliceAt T (.pointer (some ⟨b, o + off, none⟩)) lv hv none).run P w = .ok (.slice (some (if n = l then ⟨b, o + off, none⟩ else (⟨b, o + off, none⟩ : Addr).add (l * ti.size))) (m - l) (n - l)) w := by
        simp [Instr.sliceAt, Instr.sureAddr, run_underlying hd, hr, run_sizeOf h3]
      have hsplit : xs = xs.take l ++ ((xs.take m).drop l ++ xs.drop m) := by
        rw [← List.append_assoc]
        conv => lhs; rw [← List.take_append_drop m xs]
        congr 1
        conv => lhs; rw [← List.take_append_drop l (xs.take m)]
        rw [List.take_take, Nat.min_eq_left hlm]
      rw [hsplit] at h7
      obtain ⟨c1, c23, e2, k1, k23⟩ := Reps.split h7
      obtain ⟨c2, c3, e3, k2, k3⟩ := Reps.split k23
      have hl1 := Reps.length (fun x c hc => Rep.length hc) k1
      have hl2 := Reps.length (fun x c hc => Rep.length hc) k2
      have hlen : ((xs.take m).drop l).length = m - l := by simp; omega
      refine ⟨_, _, h, ?_, hrun⟩
      refine ⟨_, n - l, c2, by rw [hlen], by rw [hlen]; omega, k2, ?_⟩
      by_cases hz : m = l
      · left
        rw [hlen, hz] at hl2
        simpa using hl2
      · right
        refine ⟨b, o + off + c1.length, ?_, q1, ?_⟩
        · rw [if_neg (by omega), hl1, h4]
          simp only [Addr.add_lit, List.length_take, Nat.min_eq_left (Nat.le_trans hlm hmx)]
        · rw [e2, e3] at k5
          exact k5.mid
    · cases h
  · cases h
theorem slice_sound (hE : EnvOk P E) {T : TypeId} {x : AV} {xv : Value} {lo hi : Option Int} {lv hv : Option Value} {K : AV → Option R} (h : evSlice E T x lo hi bs K = some out)
    (hx : VRel E.ET g bs w x xv) (hb : BsRel E.ET g bs w) (hl : OI lo lv) (hh : OI hi hv) : ∃ v u, K v = some out ∧ VRel E.ET g bs w v u ∧ (Instr.sliceAt T xv lv hv none).run P w = .ok u w := by
  unfold evSlice at h
  split at h
  · rename_i s hk
    obtain ⟨d, hd, rfl⟩ := und_of hE hk (by simp)
    rw [rel_str hx]
    simp only at h
    obtain ⟨h012, h⟩ := bif_some h
    obtain ⟨h01, h2⟩ := and3 h012
    obtain ⟨h0, h1⟩ := and3 h01
    have hr := run_bounds (P := P) (w := w) (isS := false) (len := s.size) (cap := s.size) hl hh (of_decide_eq_true h0) (of_decide_eq_true h1) (of_decide_eq_true h2) (Nat.le_refl _)
    refine ⟨_, _, h, str_rel _, ?_⟩
    simp [Instr.sliceAt, Instr.slice, run_underlying hd, hr]
  · rename_i e t xs hk
    obtain ⟨d, hd, rfl⟩ := und_of hE hk (by simp)
    simp only at h
    obtain ⟨he, h⟩ := bif_some h
    obtain ⟨h012, h⟩ := bif_some h
    obtain ⟨h01, h2⟩ := and3 h012
    obtain ⟨h0, h1⟩ := and3 h01
    have h0 := of_decide_eq_true h0
    have h1 := of_decide_eq_true h1
    have h2 := of_decide_eq_true h2
    obtain ⟨r, ti, _, h3, h4, _, _, h5, _⟩ := elemRow_of hE he
    obtain ⟨A, c, cs', e1, h6, h7, h8⟩ := val_cell hx
    simp only [List.cons.injEq, and_true] at e1
    subst e1
    have hr := run_bounds (P := P) (w := w) (isS := true) (len := xs.length) (cap := c) hl hh h0 h1 h2 h6
    generalize lo.getD 0 = l at h0 h1 hr h
    generalize hi.getD (xs.length : Int) = m at h1 h2 hr h
    obtain ⟨l, rfl⟩ := Int.eq_ofNat_of_zero_le h0
    obtain ⟨m, rfl⟩ := Int.eq_ofNat_of_zero_le (Int.le_trans h0 h1)
    simp only [Int.toNat_natCast] at hr h
    have hlm : l ≤ m := by omega
    have hmx : m ≤ xs.length := by omega
    have hrun : (Instr.sliceAt T (.slice A xs.length c) lv hv none).run P w = .ok (.slice (if c = l then A else A.map (·.add (l * ti.size))) (m - l) (c - l)) w := by
      simp [Instr.sliceAt, Instr.slice, run_underlying hd, hr, run_sizeOf h3]
    have hsplit : xs = xs.take l ++ ((xs.take m).drop l ++ xs.drop m) := by
      rw [← List.append_assoc]
      conv => lhs; rw [← List.take_append_drop m xs]
      congr 1
      conv => lhs; rw [← List.take_append_drop l (xs.take m)]
      rw [List.take_take, Nat.min_eq_left hlm]
    rw [hsplit] at h7
    obtain ⟨c1, c23, e2, k1, k23⟩ := Reps.split h7
    obtain ⟨c2, c3, e3, k2, k3⟩ := Reps.split k23
    have hl1 := Reps.length (fun x c hc => Rep.length hc) k1
    have hl2 := Reps.length (fun x c hc => Rep.length hc) k2
    have hlen : ((xs.take m).drop l).length = m - l := by simp; omega
    refine ⟨_, _, h, ?_, hrun⟩
    refine ⟨_, c - l, c2, by rw [hlen], by rw [hlen]; omega, k2, ?_⟩
    by_cases hz : m = l
    · left
      rw [hlen, hz] at hl2
      simpa using hl2
    · rcases h8 with rfl | ⟨b, o, rfl, k4, k5⟩
      · left
        have := congrArg List.length e2
        rw [e3] at this
        simp only [List.length_nil, List.length_append] at this
        exact List.eq_nil_of_length_eq_zero (by omega)
      · right
        refine ⟨b, o + c1.length, ?_, k4, ?_⟩
        · rw [if_neg (by omega), hl1, h4]
          simp only [Option.map_some, Addr.add_lit, List.length_take, Nat.min_eq_left (Nat.le_trans hlm hmx)]
        · rw [e2, e3] at k5
          exact k5.mid
  · rename_i e b v hk
    obtain ⟨d, hd, rfl⟩ := und_of hE hk (by simp)
    split at h
    · rename_i e' t xs hbox
      obtain ⟨hc, hK⟩ := bif_some h
      clear h
      obtain ⟨hc, h5⟩ := and3 hc
      obtain ⟨hc, h4⟩ := and3 hc
      obtain ⟨hc, h3⟩ := and3 hc
      obtain ⟨h1, h2⟩ := and3 hc
      have h4 := of_decide_eq_true h4
      have h5 := of_decide_eq_true h5
      have e1 := Nat.eq_of_beq_eq_true h1
      subst e1
      cases hi with
      | some _ => cases h3
      | none =>
      obtain ⟨r, ti, _, hi, hsz, _, _, _, _⟩ := elemRow_of hE h2
      have hxv : xv = g.hd b := hx.2.2 e' t xs hbox
      obtain ⟨cs, k1, k2, k3⟩ := hb b v _ (getBox_look hbox (by simp))
      rcases k1.2 with ⟨_, e0⟩ | ⟨blk, cap, cur, e5, _, _, hq1, _⟩
      · rw [e0] at h5; exact absurd (Int.lt_of_le_of_lt h4 h5) (by decide)
      rw [hxv, e5]
      have hr := run_bounds (P := P) (w := w) (isS := true) (len := xs.length) (cap := cap) hl hh h4 (by show lo.getD 0 ≤ (xs.length : Int); omega) (by show (xs.length : Int) ≤ xs.length; omega) hq1
      simp only [Option.getD_none] at hr
      have hrun : (Instr.sliceAt T (.slice (some ⟨blk, 0, none⟩) xs.length cap) lv hv none).run P w = .ok (.slice (some ⟨blk, (lo.getD 0).toNat * t.sz, none⟩) (xs.length - (lo.getD 0).toNat) (cap - (lo.getD 0).toNat)) w := by
        have hne : ¬ cap = (lo.getD 0).toNat := by omega
        simp [Instr.sliceAt, Instr.slice, run_underlying hd, hr, run_sizeOf hi, hne, hsz, Addr.add_lit]
      refine ⟨_, _, hK, ?_, hrun⟩
      refine ⟨hx.1, rfl, fun T' t' xs' hbox' => ?_⟩
      rw [hbox] at hbox'
      cases hbox'
      exact ⟨h4, h5, blk, xs.length, cap, e5, rfl⟩
    · cases h
  · rename_i n e t y off hk
    exact sliceArr_sound hE hk h hx hl hh
  · rename_i n e t p hk
    cases p with
    | none => cases h
    | some y =>
      obtain ⟨b, o, cs, e1, k1, k2, k3⟩ := val_cell hx
      simp only [List.cons.injEq, and_true] at e1
      exact sliceArr_sound hE hk h ⟨b, o, cs, e1, k1, k2, k3⟩ hl hh
  · cases h
theorem len_sound (hE : EnvOk P E) {T ty : TypeId} {ts : Array TypeId} {x : AV} {xv : Value} {K : AV → Option R} (hT : ts[0]? = some T) (h : evLen E T x bs K = some out) (hx : VRel E.ET g bs w x xv) (hb : BsRel E.ET g bs w) :
    ∃ v u, K v = some out ∧ VRel E.ET g bs w v u ∧ (Builtin.len_ ts ty #[xv]).run P w = .ok u w := by
  unfold evLen at h
  split at h
  · rename_i s hk
    obtain ⟨d, hd, rfl⟩ := und_of hE hk (by simp)
    rw [rel_str hx]
    exact ⟨_, _, h, int_rel _ _, by simp [Builtin.len_, hT, run_underlying hd, goInt]⟩
  · rename_i e t l hk
    obtain ⟨d, hd, rfl⟩ := und_of hE hk (by simp)
    obtain ⟨A, c, cs', e1, _⟩ := val_cell hx
    simp only [List.cons.injEq, and_true] at e1
    subst e1
    exact ⟨_, _, h, int_rel _ _, by simp [Builtin.len_, hT, run_underlying hd, goInt]⟩
  · rename_i e hk
    obtain ⟨d, hd, rfl⟩ := und_of hE hk (by simp)
    rw [show xv = .slice none 0 0 from hx]
    exact ⟨_, _, h, int_rel _ _, by simp [Builtin.len_, hT, run_underlying hd, goInt]⟩
  · rename_i e b v hk
    obtain ⟨d, hd, rfl⟩ := und_of hE hk (by simp)
    split at h
    · rename_i T' t xs hbox
      have hxv := hx.2.2 _ _ _ hbox
      obtain ⟨cs, k1, _⟩ := hb b v _ (getBox_look hbox (by simp))
      subst hxv
      rcases k1.2 with ⟨e1, e0⟩ | ⟨blk, cap, cur, e1, _⟩
      · refine ⟨_, _, h, int_rel _ _, ?_⟩
        rw [e1]
        simp [Builtin.len_, hT, run_underlying hd, goInt, e0]
      · refine ⟨_, _, h, int_rel _ _, ?_⟩
        rw [e1]
        simp [Builtin.len_, hT, run_underlying hd, goInt]
    · cases h
  · rename_i n e hk
    obtain ⟨d, hd, rfl⟩ := und_of hE hk (by simp)
    exact ⟨_, _, h, int_rel _ _, by simp [Builtin.len_, hT, run_underlying hd, goInt]⟩
  · cases h
theorem assert_sound (hE : EnvOk P E) {T xT : TypeId} {ok : Bool} {x : AV} {xv : Value} {K : AV → Option R} (h : evAssert E T ok x K = some out) (hx : VRel E.ET g bs w x xv) :
    ∃ v u, K v = some out ∧ VRel E.ET g bs w v u ∧ (Instr.typeAssert xv xT T ok).run P w = .ok u w := by
  unfold evAssert at h
  split at h
  · rename_i e
    split at h
    · rename_i z0 hz0
      have hbif := bif_some h
      clear h
      obtain ⟨h1234, hK⟩ := hbif
      obtain ⟨h123, h4⟩ := and3 h1234
      obtain ⟨h12, h3⟩ := and3 h123
      obtain ⟨rfl, h2⟩ := and3 h12
      have hT := Nat.eq_of_beq_eq_true h2
      have hk := of_decide_eq_true h3
      have h4 : z0 = (0 : Int) := by simpa using h4
      subst h4
      obtain ⟨r, hr, hrk, hro⟩ := row_of hE hk (by simp)
      obtain ⟨i, z, hi, _, _, hz, hzr, _, hzk⟩ := hro.info
      have hrz : r.zero = [.val (.int .i64) (0 : Int)] := by
        simp only [zeroRow, hr, Option.some.injEq] at hz0; exact hz0
      have hzc : z.cells = #[z] := by
        rcases hzk (by rw [hrk]; simp) with ⟨e1, _⟩ | ⟨_, e2⟩
        · rw [hrk] at e1; cases e1
        · exact e2
      have hzv : z = .int .i64 0 := by
        have := hzr g bs w
        rw [hrz, hzc] at this
        exact rel_int (LRel.up this.1)
      have hu := zero_int hE hk
      rw [rel_err hx]
      subst hT
      cases e with
      | none =>
        refine ⟨_, _, hK, ⟨[.int .i64 0, .bool false], rfl, rfl, rfl, trivial⟩, ?_⟩
        simp [Instr.typeAssert, errV, run_underlying hu, zeroValue, typeInfo, hi, hz, hzv]
      | some c =>
        refine ⟨_, _, hK, ⟨[.int .i64 c, .bool true], rfl, rfl, rfl, trivial⟩, ?_⟩
        simp [Instr.typeAssert, errV, run_underlying hu]
    · cases h
  · cases h
theorem foldl_push : ∀ (ns : List Int) (acc : ByteArray), ns.foldl (fun r n => r.push (UInt8.ofNat n.toNat)) acc = ⟨acc.data ++ (ns.map fun n => UInt8.ofNat n.toNat).toArray⟩
  | [], acc => by simp
  | n :: ns, acc => by
    rw [List.foldl_cons, foldl_push ns]
    show (⟨acc.data.push (UInt8.ofNat n.toNat) ++ (ns.map fun n => UInt8.ofNat n.toNat).toArray⟩ : ByteArray) = _
    congr 1
    apply Array.ext'
    simp
theorem reps_u8 {ok : Nat → Prop} : ∀ {l : List Int} {cs : List Value}, Reps (fun (x : Int) c => Rep E.ET ok w (.int .u8) x c) l cs → cs = l.map (Value.int .u8)
  | [], cs, h => by simpa [Reps] using h
  | x :: l, _, ⟨c1, c2, e, h1, h2⟩ => by
    simp only [Rep] at h1
    subst h1
    rw [e, reps_u8 h2]; rfl
theorem run_bytesOf {blk o n c : Nat} {l : List Int} (hl : Lies w blk o (l.map (Value.int .u8))) (hn : n = l.length) :
    (Conv.bytesToString (.slice (some ⟨blk, o, none⟩) n c)).run P w = .ok (.string (strOf l)) w := by
  have h := run_loadCells_list (P := P) w ⟨blk, o, none⟩ (l.map (Value.int .u8)) (fun j u hj => by rw [Addr.add_lit]; exact hl j u hj)
  rw [List.length_map, ← hn] at h
  rw [run_bytesToString w ⟨blk, o, none⟩ n c l h, foldl_push]
  have : ByteArray.empty.data ++ (l.map fun n => UInt8.ofNat n.toNat).toArray = (l.map fun n => UInt8.ofNat n.toNat).toArray := by
    show (#[] : Array UInt8) ++ _ = _
    simp
  rw [this]; rfl
end
end Go.Proofs.YtcnngodgngmghaaGreatDoor.Ev
/- The evaluator's conversions, stores, new variables, rows and appends are sound. -/
namespace Go.Proofs.YtcnngodgngmghaaGreatDoor.Ev
open Go
open Go.RowKit
set_option linter.unusedVariables false
set_option linter.unusedSimpArgs false
section
variable {P : Program} {E : Env} {R : Type} {out : R} {g0 g g' : Gh} {w0 w w' : World} {sl : List AV} {bs0 bs bs' : Boxes} {a : Act}

def Done (P : Program) (ET : TypeId) (out : R) (g : Gh) (bs : Boxes) (w : World) (K : AV → Boxes → Option R) (s : Sem Value) : Prop :=
  ∃ v u bs' g' w', K v bs' = some out ∧ s.run P w = .ok u w' ∧ VRel ET g' bs' w' v u ∧ BsRel ET g' bs' w' ∧ Ext g bs w g' bs' w'
theorem Done.pure {K : AV → Boxes → Option R} {s : Sem Value} (hb : BsRel E.ET g bs w) (h : ∃ v u, K v bs = some out ∧ VRel E.ET g bs w v u ∧ s.run P w = .ok u w) : Done P E.ET out g bs w K s :=
  let ⟨v, u, h1, h2, h3⟩ := h
  ⟨v, u, bs, g, w, h1, h3, h2, hb, Ext.refl _ _ _⟩
theorem BsRel.frame (hb : BsRel E.ET g bs w) (fr : Fr g w g' w') (hd : g'.hd = g.hd) (ho : ∀ blk b, blk < w.heap.size → g.O blk = some b → g'.O blk = some b ∧ w'.heap[blk]? = w.heap[blk]?) : BsRel E.ET g' bs w' := by
  intro b ver c hl
  have he : Ext g bs w g' bs w' := Ext.of_fr fr hd
  have h := hb b ver c hl
  cases c with
  | dead => trivial
  | var T cells =>
    obtain ⟨blk, arr, k1, k2, k3, k4⟩ := h
    have hlt : blk < w.heap.size := (Array.getElem?_eq_some_iff.1 k3).1
    exact ⟨blk, arr, by rw [hd]; exact k1, (ho blk b hlt k2).1, (ho blk b hlt k2).2.trans k3, k4.mono fun _ _ => LRel.keep he⟩
  | row T t xs =>
    obtain ⟨cs, k1, k2, k3⟩ := h
    refine ⟨cs, ?_, k2.mono fun _ _ => Rep.mono he.fr.okB, ?_⟩
    · rw [hd]
      exact ownsRow_of_block k1 fun blk hblk => (ho blk b (ORow.lt k1 blk hblk).2 (k3 blk hblk)).2
    · rw [hd]
      intro blk hblk
      exact (ho blk b (ORow.lt k1 blk hblk).2 (k3 blk hblk)).1
theorem freeze_heap {blk : Nat} {cur : Array Value} {T : TypeId} {fz : Nat × Nat} (hg : w.heap[blk]? = some (.cells cur T fz)) (hz : FzOk fz cur.size) :
    (∃ fz', (w.freeze ⟨blk, cur.size, none⟩ 1).heap[blk]? = some (.cells cur T fz') ∧ FzOk fz' cur.size) ∧ (∀ i, i ≠ blk → (w.freeze ⟨blk, cur.size, none⟩ 1).heap[i]? = w.heap[i]?) ∧
      (w.freeze ⟨blk, cur.size, none⟩ 1).heap.size = w.heap.size := by
  obtain ⟨lo, hi⟩ := fz
  have hlt := (Array.getElem?_eq_some_iff.1 hg).1
  unfold World.freeze
  rw [if_neg (by decide)]
  refine ⟨⟨if lo == hi then (cur.size, cur.size + 1) else (min lo cur.size, max hi (cur.size + 1)), ?_, ?_⟩, fun i hi' => ?_, by simp⟩
  · simp only [Array.getElem?_modify, if_true, hg, Option.map_some]
  · by_cases c : lo = hi
    · subst c
      rw [if_pos (by simp)]; exact .inr (Nat.le_refl _)
    · rw [if_neg (by simpa using c)]
      rcases hz with hz | hz
      · exact absurd hz c
      · exact .inr (Nat.le_min.2 ⟨hz, Nat.le_refl _⟩)
  · simp only [Array.getElem?_modify, if_neg (Ne.symm hi')]
theorem run_markSame {T dst e : TypeId} {blk n cap : Nat} {cur : Array Value} {U : TypeId} {fz : Nat × Nat} (us : P.underlying dst = some (.slice e)) (ue : P.underlying e = some (.int .u8)) (hg : w.heap[blk]? = some (.cells cur U fz)) :
    (convert dst dst (.slice (some ⟨blk, 0, none⟩) n cap)).run P w = .ok (.slice (some ⟨blk, 0, none⟩) n cap) (w.freeze ⟨blk, cur.size, none⟩ 1) := by
  have hsh : w.shape? blk = some (U, cur.size) := by simp [World.shape?, hg]
  simp [convert, run_underlying us, run_underlying ue, markStringish, hsh]
theorem conv_sound (hE : EnvOk P E) {d : Option Tmp} {src dst : TypeId} {x : AV} {xv : Value} {K : AV → Boxes → Option R} (h : evConv E d src dst x bs K = some out) (hx : VRel E.ET g bs w x xv) (hb : BsRel E.ET g bs w) :
    Done P E.ET out g bs w K (convert src dst xv) := by
  unfold evConv at h
  split at h
  · rename_i k0 k k1 n hs hd
    have us := zero_int hE hs
    have ud := zero_int hE hd
    rw [rel_int hx]
    exact Done.pure hb ⟨_, _, h, int_rel _ _, by simp [convert, run_underlying us, run_underlying ud, Conv.intToInt]⟩
  · rename_i s hs hd
    obtain ⟨d1, us, rfl⟩ := und_of hE hs (by simp)
    obtain ⟨d2, ud, rfl⟩ := und_of hE hd (by simp)
    rw [rel_str hx]
    exact Done.pure hb ⟨_, _, h, str_rel _, by simp [convert, run_underlying us, run_underlying ud]⟩
  · rename_i e l hs hd
    obtain ⟨d1, us, rfl⟩ := und_of hE hs (by simp)
    obtain ⟨d2, ud, rfl⟩ := und_of hE hd (by simp)
    split at h
    · rename_i hk
      have ue := zero_int hE hk
      obtain ⟨A, c, cs', e1, h6, h7, h8⟩ := val_cell hx
      simp only [List.cons.injEq, and_true] at e1
      subst e1
      have hcs := reps_u8 h7
      have hc : (convert src dst (.slice A l.length c)).run P w = (Conv.bytesToString (.slice A l.length c)).run P w := by
        cases A <;> simp [convert, run_underlying us, run_underlying ud, run_underlying ue]
      rcases h8 with h8 | ⟨b, o, rfl, k3, k4⟩
      · have hl0 : l = [] := by
          rw [h8] at hcs
          exact List.map_eq_nil_iff.1 hcs.symm
        subst hl0
        refine Done.pure hb ⟨_, _, h, str_rel _, ?_⟩
        rw [hc]
        cases A with
        | none => rfl
        | some a => rfl
      · rw [hcs] at k4
        exact Done.pure hb ⟨_, _, h, str_rel _, by rw [hc]; exact run_bytesOf k4 rfl⟩
    · cases h
  · rename_i e hs hd
    obtain ⟨d1, us, rfl⟩ := und_of hE hs (by simp)
    obtain ⟨d2, ud, rfl⟩ := und_of hE hd (by simp)
    split at h
    · rename_i hk
      have ue := zero_int hE hk
      rw [show xv = .slice none 0 0 from hx]
      exact Done.pure hb ⟨_, _, h, str_rel _, by simp [convert, run_underlying us, run_underlying ud, run_underlying ue, Conv.bytesToString]⟩
    · cases h
  · rename_i e b v hs hd
    obtain ⟨d1, us, rfl⟩ := und_of hE hs (by simp)
    obtain ⟨d2, ud, rfl⟩ := und_of hE hd (by simp)
    split at h
    · rename_i e' xs hk hbox
      obtain ⟨hee, hK⟩ := bif_some h
      have ue := zero_int hE hk
      have hxv := hx.2.2 _ _ _ hbox
      obtain ⟨cs, k1, k2, k3⟩ := hb b v _ (getBox_look hbox (by simp))
      have hcs := reps_u8 k2
      subst hxv
      refine Done.pure hb ⟨_, _, hK, str_rel _, ?_⟩
      have hc : ∀ q : Value, (∃ A n c, q = .slice A n c) → (convert src dst q).run P w = (Conv.bytesToString q).run P w := by
        rintro q ⟨A, n, c, rfl⟩
        cases A <;> simp [convert, run_underlying us, run_underlying ud, run_underlying ue]
      rcases k1.2 with ⟨e1, e0⟩ | ⟨blk, cap, cur, e1, hq⟩
      · rw [e1, hc _ ⟨_, _, _, rfl⟩]
        have : xs = [] := List.eq_nil_of_length_eq_zero e0
        subst this
        rfl
      · rw [e1, hc _ ⟨_, _, _, rfl⟩]
        refine run_bytesOf ?_ rfl
        intro j u hj
        rw [← hcs] at hj
        have := ORow.cells k1 (g := blk) (by rw [e1]; rfl) j u hj
        rwa [Addr.add_lit] at this
    · cases h
  · rename_i e s hs hd
    obtain ⟨d1, us, rfl⟩ := und_of hE hs (by simp)
    obtain ⟨d2, ud, rfl⟩ := und_of hE hd (by simp)
    split at h
    · rename_i hk
      have ue := zero_int hE hk
      obtain ⟨hsm0, h⟩ := bif_some h
      have hsm : s.size ≤ maxLen := by have := of_decide_eq_true hsm0; show s.size ≤ 9223372036854775807; omega
      rw [rel_str hx]
      have hrun := run_bytes_of_string (P := P) w src dst e s us ud ue
      generalize hC : bytesRow s (grownCap w s.size 0 e) = C at hrun
      have hge := grownCap_ge w s.size 0 e
      have hcapm : grownCap w s.size 0 e ≤ maxLen := grownCap_le_maxLen w s.size 0 e hsm
      generalize grownCap w s.size 0 e = cap at hrun hge hC hcapm
      have hlen : (bytesOf s).length = s.size := by
        show (s.data.toList.map _).length = s.data.size
        rw [List.length_map, Array.length_toList]
      have hsz : ((bytesOf s).map (Value.int .u8)).length = (bytesOf s).length * 1 := by rw [List.length_map, Nat.mul_one]
      have hcs : C.size = cap := by
        rw [← hC]; unfold bytesRow
        rw [Array.size_append, Array.size_map, Array.size_replicate]
        have : s.data.size = s.size := rfl
        omega
      have hcm : cap ≤ maxLen := hcapm
      have hrow : ORow (w.drew.alloc (.cells C e (C.size, C.size + 1))) e 1 (.slice (some ⟨w.heap.size, 0, none⟩) s.size cap) s.size ((bytesOf s).map (Value.int .u8)) := by
        refine ⟨by rw [hsz, hlen], .inr ⟨w.heap.size, cap, C, rfl, Nat.zero_le _, ⟨_, heap_alloc_new w.drew _, fzOk_end _⟩, hge, hcm, by rw [hcs, Nat.mul_one], ?_⟩⟩
        rw [Nat.mul_one, ← hC]
        unfold bytesRow
        have hs : s.size = (s.data.map (fun b => Value.int IntKind.u8 (b.toNat : Int))).toList.length := by rw [Array.length_toList, Array.size_map]; rfl
        rw [Array.toList_append, hs, List.take_left]
        simp only [bytesOf, List.map_map, Array.toList_map]
        rfl
      have hreps : Reps (fun (x : Int) c => Rep E.ET (okB g w) w (.int .u8) x c) (bytesOf s) ((bytesOf s).map (Value.int .u8)) := by
        generalize bytesOf s = l
        induction l with
        | nil => rfl
        | cons x l ih => exact ⟨[.int .u8 x], _, rfl, rfl, ih⟩
      have hrow : ORow (w.drew.alloc (.cells C e (C.size, C.size + 1))) e (Ty.sz (.int .u8)) (.slice (some ⟨w.heap.size, 0, none⟩) s.size cap) (List.length (α := Ty.den (.int .u8)) (bytesOf s)) ((bytesOf s).map (Value.int .u8)) := by
        have e1 : (List.length (α := Ty.den (.int .u8)) (bytesOf s)) = s.size := hlen
        rw [e1]; exact hrow
      obtain ⟨v, bs', g', n1, n2, n3, n4⟩ := newRow_sound (w' := w.drew.alloc (.cells C e (C.size, C.size + 1))) (t := .int .u8) (xs := bytesOf s) h hb rfl rfl rfl (by show w.heap.size ≤ (w.heap.push _).size; rw [Array.size_push]; exact Nat.le_succ _)
        (fun i hi _ => allocOld w.drew _ i hi) (fun i hi hlt => by simp [Value.ownBlock] at hi; omega) hrow hreps
      exact ⟨v, _, bs', g', _, n1, hrun, n2, n3, n4⟩
    · cases h
  · rename_i e1 e b v hs hd
    split at h
    · rename_i e' xs hk hbox
      obtain ⟨hc, hK⟩ := bif_some h
      obtain ⟨hc, h0⟩ := and3 hc
      obtain ⟨hsd, hne⟩ := and3 hc
      have hsd := Nat.eq_of_beq_eq_true hsd
      subst hsd
      obtain ⟨d1, us, rfl⟩ := und_of hE hd (by simp)
      have ue := zero_int hE hk
      have hlook := getBox_look hbox (by simp)
      have hxv := hx.2.2 _ _ _ hbox
      have hbox' := hb b v _ hlook
      obtain ⟨cs, k1, k2, k3⟩ := hbox'
      have hne' : xs.length ≠ 0 := by intro q; rw [q] at hne; cases hne
      have hb0 : b ≠ 0 := by intro q; subst q; cases h0
      rcases k1.2 with ⟨e1', e0⟩ | ⟨blk, cap, cur, e1', hq0, ⟨fz, hq, hfz⟩, hq1, hq2, hq3, hq4⟩
      · exact absurd e0 hne'
      · have hOb := k3 blk (by rw [e1']; rfl)
        obtain ⟨⟨fz', m1, m2⟩, m3, m4⟩ := freeze_heap hq hfz
        have hrun := run_markSame (P := P) (T := src) (n := xs.length) (cap := cap) us ue hq
        have hos : (w.freeze ⟨blk, cur.size, none⟩ 1).os = w.os ∧ (w.freeze ⟨blk, cur.size, none⟩ 1).tape = w.tape ∧ (w.freeze ⟨blk, cur.size, none⟩ 1).output = w.output := by unfold World.freeze; rw [if_neg (by decide)]; exact ⟨rfl, rfl, rfl⟩
        generalize w.freeze ⟨blk, cur.size, none⟩ 1 = w' at *
        have fr : Fr g w g w' := ⟨hos.1, hos.2.1, hos.2.2, Nat.le_of_eq m4.symm, fun i hi _ => ⟨hi, m3 i (fun e => by subst e; rw [hOb] at hi; cases hi)⟩,
          fun i hi _ => ⟨hi, m3 i (fun e => by subst e; rw [hOb] at hi; simp only [Option.some.injEq] at hi; exact hb0 hi)⟩⟩
        have he := Ext.same (c' := .row e' (.int .u8) xs) hlook (show sameKind _ _ from ⟨rfl, rfl, rfl⟩) fr rfl
        refine ⟨_, _, _, g, w', hK, by rw [hxv, e1']; exact hrun, ?_, hb.cons he (fun b' hb' => ⟨rfl, fun blk' _ ho => ⟨ho, m3 blk' (fun e => by subst e; rw [hOb] at ho; simp only [Option.some.injEq] at ho; exact hb' ho.symm)⟩⟩) ?_, he⟩
        · have := VRel.keep he hx
          rw [hxv, e1'] at this
          exact this
        · exact ⟨cs, ⟨k1.1, .inr ⟨blk, cap, cur, e1', Nat.zero_le _, ⟨fz', m1, m2⟩, hq1, hq2, hq3, hq4⟩⟩, k2.mono fun _ _ => Rep.mono fr.okB, k3⟩
    · cases h
  · cases h
end
end Go.Proofs.YtcnngodgngmghaaGreatDoor.Ev
/- The evaluator's stores are sound. -/
namespace Go.Proofs.YtcnngodgngmghaaGreatDoor.Ev
open Go
open Go.RowKit
set_option linter.unusedVariables false
set_option linter.unusedSimpArgs false
section
variable {P : Program} {E : Env} {R : Type} {out : R} {g0 g g' : Gh} {w0 w w' : World} {sl : List AV} {bs0 bs bs' : Boxes} {a : Act}

theorem asTy_rel {t : Ty} {x : AV} {v : Value} {y : t.den} (h : asTy bs t x = some y) (hx : LRel E.ET g bs w x v) : Rep E.ET (okB g w) w t y [v] := by
  unfold asTy at h
  split at h
  · rename_i k k' n
    obtain ⟨h1, h2⟩ := bif_some h
    have := kindEq_eq h1
    subst this
    simp only [Option.some.injEq] at h2
    subst h2
    exact hx
  · simp only [Option.some.injEq] at h; subst h; exact hx
  · simp only [Option.some.injEq] at h; subst h; exact hx
  · simp only [Option.some.injEq] at h; subst h; exact hx
  · simp only [Option.some.injEq] at h; subst h
    rw [show v = .slice none 0 0 from hx]
    exact ⟨none, 0, [], rfl, Nat.le_refl _, rfl, .inl rfl⟩
  · simp only [Option.some.injEq] at h; subst h
    rw [show v = .pointer none from hx]
    exact rfl
  · split at h
    · rename_i e
      subst e
      simp only [Option.some.injEq] at h
      subst h
      exact hx
    · cases h
  · split at h
    · rename_i e
      subst e
      simp only [Option.some.injEq] at h
      subst h
      exact hx
    · cases h
  · split at h
    · rename_i y' hy
      simp only [Option.some.injEq] at h
      subst h
      obtain ⟨b, o, cs, rfl, k1, k2, k3⟩ := hx
      obtain ⟨cs', q1, q2⟩ := subT_rel hy k2 k3
      exact ⟨b, _, cs', rfl, k1, q1, q2⟩
    · cases h
  · cases h
theorem gather_leaf {t : Ty} {l l' : List AV} {vs : List Value} {y : t.den}
    (h : (match l with | [] => none | a :: l => match asTy bs t a with | some x => some (x, l) | none => none) = some (y, l')) (hl : All2 (LRel E.ET g bs w) l vs) :
    ∃ c1 c2, vs = c1 ++ c2 ∧ Rep E.ET (okB g w) w t y c1 ∧ All2 (LRel E.ET g bs w) l' c2 := by
  cases l with
  | nil => cases h
  | cons a l =>
    cases vs with
    | nil => exact hl.elim
    | cons v vs =>
      simp only at h
      split at h
      · rename_i x hx
        simp only [Option.some.injEq, Prod.mk.injEq] at h
        obtain ⟨rfl, rfl⟩ := h
        exact ⟨[v], vs, rfl, asTy_rel hx hl.1, hl.2⟩
      · cases h
theorem gather_rel : ∀ {t : Ty} {l l' : List AV} {vs : List Value} {y : t.den}, gather bs t l = some (y, l') → All2 (LRel E.ET g bs w) l vs →
    ∃ c1 c2, vs = c1 ++ c2 ∧ Rep E.ET (okB g w) w t y c1 ∧ All2 (LRel E.ET g bs w) l' c2
  | .pair a b, l, l', vs, y, h, hl => by
    simp only [gather] at h
    split at h
    · rename_i x l1 h1
      split at h
      · rename_i z l2 h2
        simp only [Option.some.injEq, Prod.mk.injEq] at h
        obtain ⟨rfl, rfl⟩ := h
        obtain ⟨c1, c2, e, k1, k2⟩ := gather_rel h1 hl
        obtain ⟨d1, d2, e2, k3, k4⟩ := gather_rel h2 k2
        exact ⟨c1 ++ d1, d2, by rw [e, e2, List.append_assoc], ⟨c1, d1, rfl, k1, k3⟩, k4⟩
      · cases h
    · cases h
  | .unit, l, l', vs, y, h, hl => by
    simp only [gather, Option.some.injEq, Prod.mk.injEq] at h
    obtain ⟨_, rfl⟩ := h
    exact ⟨[], vs, rfl, rfl, hl⟩
  | .int k, l, l', vs, y, h, hl => gather_leaf (by cases l <;> exact h) hl
  | .bool, l, l', vs, y, h, hl => gather_leaf (by cases l <;> exact h) hl
  | .str, l, l', vs, y, h, hl => gather_leaf (by cases l <;> exact h) hl
  | .err, l, l', vs, y, h, hl => gather_leaf (by cases l <;> exact h) hl
  | .sl t, l, l', vs, y, h, hl => gather_leaf (by cases l <;> exact h) hl
  | .nptr t, l, l', vs, y, h, hl => gather_leaf (by cases l <;> exact h) hl
theorem gather_all {t : Ty} {l : List AV} {vs : List Value} {y : t.den} (h : gather bs t l = some (y, [])) (hl : All2 (LRel E.ET g bs w) l vs) : Rep E.ET (okB g w) w t y vs := by
  obtain ⟨c1, c2, e, h1, h2⟩ := gather_rel h hl
  cases c2 with
  | cons _ _ => exact h2.elim
  | nil => rw [e, List.append_nil]; exact h1
theorem leaves_rel : ∀ {y : AV} {yv : Value}, allOk (leaves y) = true → VRel E.ET g bs w y yv → All2 (LRel E.ET g bs w) (leaves y) yv.cells.toList ∧ ∀ v ∈ yv.cells.toList, v.oneCell' = true := by
  have all1 : ∀ {l : List AV} {vs : List Value}, allOk l = true → All2 (LRel E.ET g bs w) l vs → ∀ v ∈ vs, v.oneCell' = true := by
    intro l
    induction l with
    | nil => intro vs _ h v hv; cases vs with
      | nil => cases hv
      | cons _ _ => exact h.elim
    | cons x l ih =>
      intro vs ho h v hv
      cases vs with
      | nil => exact h.elim
      | cons u vs =>
        simp only [allOk, Bool.and_eq_true] at ho
        rcases List.mem_cons.1 hv with rfl | hv
        · exact cellOk_one ho.1 h.1
        · exact ih ho.2 h.2 v hv
  have one : ∀ {y : AV} {yv : Value}, cellOk y = true → LRel E.ET g bs w y yv → All2 (LRel E.ET g bs w) [y] yv.cells.toList ∧ ∀ v ∈ yv.cells.toList, v.oneCell' = true := by
    intro y yv ho h
    have h1 := cellOk_one ho h
    have : yv.cells = #[yv] := by cases yv <;> first | rfl | cases h1
    rw [this]
    exact ⟨⟨h, trivial⟩, fun v hv => by simp at hv; rw [hv]; exact h1⟩
  intro y yv ho h
  cases y with
  | agg l =>
    obtain ⟨vs, rfl, ha⟩ := h
    exact ⟨by simpa [Value.cells, leaves] using ha, by simpa [Value.cells] using all1 ho ha⟩
  | tup l => simp [leaves, allOk, cellOk] at ho
  | top => simp [leaves, allOk, cellOk] at ho
  | und => simp [leaves, allOk, cellOk] at ho
  | nilS => exact one rfl h
  | nilP => exact one rfl h
  | val t x => exact one rfl h
  | ref b v off => exact one rfl h
  | osl b v => exact one rfl h
  | imm t x off => exact one rfl h
  | oel b v i off => exact one rfl h
  | osb b v i => exact one rfl h
  | fn f caps => exact one rfl h
theorem setRow_size (w : World) (k : Nat) (c : Array Value) : (w.setRow k c).heap.size = w.heap.size := by simp
theorem Fr.setRow {k b : Nat} {c : Array Value} (hO : g.O k = some b) (h0 : b ≠ 0) : Fr g w g (w.setRow k c) :=
  ⟨rfl, rfl, rfl, by rw [setRow_size]; exact Nat.le_refl _, fun i hi _ => ⟨hi, setRow_other w k i c (fun e => by subst e; rw [hO] at hi; cases hi)⟩,
    fun i hi _ => ⟨hi, setRow_other w k i c (fun e => by subst e; rw [hO] at hi; simp only [Option.some.injEq] at hi; exact h0 hi)⟩⟩
theorem ne0 {b : Nat} (h : (!Nat.beq b 0) = true) : b ≠ 0 := by intro e; subst e; cases h
theorem storeAt_run {T : TypeId} {i : TypeInfo} {T' : TypeId} {blk o : Nat} {cur : Array Value} {yv : Value} (hi : P.info? T = some i) (hn : yv.cells.size = i.size) {fz : Nat × Nat} (hg : w.heap[blk]? = some (.cells cur T' fz)) (hfz : FzOk fz cur.size)
    (ho : o + yv.cells.toList.length ≤ cur.size) (h1 : ∀ v ∈ yv.cells.toList, v.oneCell' = true) :
    (Instr.storeAt T (.pointer (some ⟨blk, o, none⟩)) yv).run P w = .ok () (w.setRow blk (cur.toList.take o ++ yv.cells.toList ++ cur.toList.drop (o + yv.cells.toList.length)).toArray) := by
  have := run_storeCells_atN P blk o T' fz yv.cells.toList 0 cur w hg hfz (by simpa using ho) h1
  simp only [Nat.add_zero] at this
  simp only [Instr.storeAt, Instr.sureAddr, Sem.run_bind, Sem.run_pure, Result.andThen_ok, storeVar, run_sizeOf hi, hn, ne_eq, not_true_eq_false, if_false, this]
theorem Reps.set {α : Type} {r : α → List Value → Prop} {n : Nat} (hlen : ∀ x c, r x c → c.length = n) {xs : List α} {cs : List Value} (h : Reps r xs cs) {i : Nat} (hi : i < xs.length) :
    ∃ c1 e c3, cs = c1 ++ (e ++ c3) ∧ c1.length = i * n ∧ r xs[i] e ∧ ∀ z e', r z e' → Reps r (xs.set i z) (c1 ++ (e' ++ c3)) := by
  have hx : xs = xs.take i ++ (xs[i] :: xs.drop (i + 1)) := by
    conv => lhs; rw [← List.take_append_drop i xs]
    congr 1
    exact List.drop_eq_getElem_cons hi
  rw [hx] at h
  obtain ⟨c1, c2, e1, h1, h2⟩ := Reps.split h
  obtain ⟨e, c3, e2, h3, h4⟩ := h2
  refine ⟨c1, e, c3, by rw [e1, e2], ?_, h3, fun z e' hz => ?_⟩
  · rw [Reps.length hlen h1, List.length_take, Nat.min_eq_left (Nat.le_of_lt hi)]
  · rw [List.set_eq_take_append_cons_drop, if_pos hi]
    exact Reps.join h1 ⟨e', c3, rfl, hz, h4⟩
theorem splice_mid {c1 e c3 vs : List Value} {off : Nat} (h : off + vs.length ≤ e.length) :
    (c1 ++ (e ++ c3)).take (c1.length + off) ++ vs ++ (c1 ++ (e ++ c3)).drop (c1.length + off + vs.length) = c1 ++ ((e.take off ++ vs ++ e.drop (off + vs.length)) ++ c3) := by
  rw [List.take_length_add_append, Nat.add_assoc, List.drop_length_add_append]
  rw [List.take_append_of_le_length (by omega), List.drop_append_of_le_length h]
  simp [List.append_assoc]
theorem take_splice {cur cs vs : List Value} {o : Nat} (h : cur.take cs.length = cs) (hn : cs.length ≤ cur.length) (ho : o + vs.length ≤ cs.length) :
    (cur.take o ++ vs ++ cur.drop (o + vs.length)).take cs.length = cs.take o ++ vs ++ cs.drop (o + vs.length) := by
  have e : cur = cs ++ cur.drop cs.length := by
    conv => lhs; rw [← List.take_append_drop cs.length cur, h]
  generalize cur.drop cs.length = rest at e
  clear h hn
  subst e
  have h1 : (cs ++ rest).take o = cs.take o := List.take_append_of_le_length (by omega)
  have h2 : (cs ++ rest).drop (o + vs.length) = cs.drop (o + vs.length) ++ rest := List.drop_append_of_le_length ho
  rw [h1, h2, ← List.append_assoc]
  refine List.take_left' ?_
  simp only [List.length_append, List.length_take, List.length_drop]
  omega
theorem store_sound (hE : EnvOk P E) {T : TypeId} {x y : AV} {xv yv : Value} {K : Boxes → Option R} (h : evStore E T x y bs K = some out) (hx : VRel E.ET g bs w x xv) (hy : VRel E.ET g bs w y yv) (hb : BsRel E.ET g bs w) :
    ∃ bs' w', K bs' = some out ∧ (Instr.storeAt T xv yv).run P w = .ok () w' ∧ BsRel E.ET g bs' w' ∧ Ext g bs w g bs' w' := by
  unfold evStore at h
  split at h
  · cases h
  · rename_i r hr
    obtain ⟨i, z, hi, hsz, _⟩ := (hE.rows T r hr).info
    obtain ⟨hc, hK⟩ := bif_some h
    clear h
    obtain ⟨hc1, hc2⟩ := and3 hc
    have hn := Nat.eq_of_beq_eq_true hc1
    rw [lenN_eq] at hn
    obtain ⟨hl1, hl2⟩ := leaves_rel hc2 hy
    have hvl : yv.cells.toList.length = r.size := by rw [← hl1.length, hn]
    have hvs : yv.cells.size = i.size := by rw [hsz, ← hvl, Array.length_toList]
    split at hK
    · rename_i b v off
      split at hK
      · rename_i T' cells hbox
        obtain ⟨hle, hK⟩ := bif_some hK
        obtain ⟨hle, h0⟩ := and3 hle
        have hle := Nat.le_of_ble_eq_true hle
        rw [lenN_eq] at hle
        have hlook := getBox_look hbox (by simp)
        obtain ⟨blk, h1, rfl⟩ := hx.2.2 T' cells hbox
        obtain ⟨blk', arr, k1, k2, k3, k4⟩ := hb b v _ hlook
        rw [h1] at k1
        simp only [Value.pointer.injEq, Option.some.injEq, Addr.mk.injEq, and_true] at k1
        subst k1
        have hal : arr.toList.length = cells.length := k4.length.symm
        have hrun := storeAt_run (P := P) (T := T) (o := off) hi hvs k3 (fzOk_zero _) (by rw [hvl, ← Array.length_toList, hal]; exact hle) hl2
        generalize hC : (arr.toList.take off ++ yv.cells.toList ++ arr.toList.drop (off + yv.cells.toList.length)).toArray = C at hrun
        have fr : Fr g w g (w.setRow blk C) := Fr.setRow k2 (ne0 h0)
        have he := Ext.same (c' := .var T' (setCells cells off (leaves y))) hlook (show sameKind _ _ from rfl) fr rfl
        refine ⟨_, _, hK, hrun, ?_, he⟩
        refine hb.cons he (fun b' hb' => ⟨rfl, fun q hq ho => ⟨ho, setRow_other w blk q _ (fun e => by subst e; rw [k2] at ho; simp only [Option.some.injEq] at ho; exact hb' ho.symm)⟩⟩) ?_
        refine ⟨blk, C, h1, k2, setRow_heap w blk arr C T' _ k3, ?_⟩
        rw [show C.toList = _ by rw [← hC, List.toList_toArray]]
        exact (setCells_all2 (α := AV) (β := Value) off k4 hl1 (by rw [hn]; exact hle)).mono fun _ _ => LRel.keep he
      · cases hK
    · rename_i b v j off
      split at hK
      · rename_i T' t xs hbox
        cases hle0 : Nat.ble r.size t.sz with
        | false =>
          rw [hle0, cond_false] at hK
          split at hK
          · rename_i zs hzs
            obtain ⟨p1, hK1⟩ := bif_some hK
            obtain ⟨p2, hK2⟩ := bif_some hK1
            obtain ⟨p3, h0⟩ := and3 p1
            obtain ⟨p4, p5⟩ := and3 p3
            obtain ⟨p6, p7⟩ := and3 p4
            have t1 := Nat.eq_of_beq_eq_true p6
            have t2 := Nat.eq_of_beq_eq_true p7
            have t3 := of_decide_eq_true p5
            have t4 := of_decide_eq_true p2
            subst t2; subst t3
            have hlook := getBox_look hbox (by simp)
            obtain ⟨j0, j1, blk, m, c, h2, rfl⟩ := hx.2.2 T' t xs hbox
            obtain ⟨cs, k1, k2, k3⟩ := hb b v _ hlook
            have hOb := k3 blk (by rw [h2]; rfl)
            obtain ⟨hzl, hzr⟩ := listV_rel t1 hzs hl1
            have hzn : zs.length = r.size := by rw [hzl, hn]
            rcases k1.2 with ⟨e0, _⟩ | ⟨blk', cap, cur, e5, _, ⟨fz, hq, hfz⟩, hq1, hq2, hq3, hq4⟩
            · rw [h2] at e0; cases e0
            · rw [h2] at e5
              simp only [Value.slice.injEq, Option.some.injEq, Addr.mk.injEq, and_true] at e5
              obtain ⟨rfl, rfl, rfl⟩ := e5
              rw [t1, Nat.mul_one] at hq3 hq4
              have hcap : r.size ≤ cur.size := by rw [hq3]; omega
              have hrun := storeAt_run (P := P) (T := T) (o := 0) hi hvs hq hfz (by rw [hvl]; omega) hl2
              generalize hC : (cur.toList.take 0 ++ yv.cells.toList ++ cur.toList.drop (0 + yv.cells.toList.length)).toArray = C at hrun
              have fr : Fr g w g (w.setRow blk C) := Fr.setRow hOb (ne0 h0)
              have he := Ext.same (c' := .row T' t zs) hlook (show sameKind _ _ from ⟨rfl, rfl, by omega⟩) fr rfl
              have hrun' : (Instr.storeAt T (.pointer (some ⟨blk, (0 : Int).toNat * t.sz + 0, none⟩)) yv).run P w = .ok () (w.setRow blk C) := by simpa using hrun
              refine ⟨_, _, hK2, hrun', ?_, he⟩
              refine hb.cons he (fun b' hb' => ⟨rfl, fun q hq' ho => ⟨ho, setRow_other w blk q _ (fun e => by subst e; rw [hOb] at ho; simp only [Option.some.injEq] at ho; exact hb' ho.symm)⟩⟩) ?_
              have hCl : C.toList = yv.cells.toList ++ cur.toList.drop r.size := by rw [← hC, List.toList_toArray, hvl]; simp
              have hCs : C.size = cur.size := by
                rw [← Array.length_toList, hCl, List.length_append, hvl, List.length_drop, Array.length_toList]; omega
              refine ⟨yv.cells.toList, ⟨by rw [hvl, hzn, t1, Nat.mul_one], .inr ⟨blk, c, C, by rw [h2, show zs.length = xs.length by omega], Nat.zero_le _, ⟨fz, setRow_heap w blk cur C T' _ hq, fzOk_size hfz hCs⟩, by omega, hq2, by rw [hCs, hq3, t1, Nat.mul_one], ?_⟩⟩, hzr.mono fun _ _ => Rep.mono fr.okB, fun q hq' => k3 q hq'⟩
              rw [hCl, t1, Nat.mul_one, hzn, ← hvl]
              exact List.take_left' rfl
          · cases hK
        | true =>
        rw [hle0, cond_true] at hK
        split at hK
        · rename_i z' hz'
          obtain ⟨hle, hK⟩ := bif_some hK
          obtain ⟨hle, h0⟩ := and3 hle
          have hle := Nat.le_of_ble_eq_true hle
          have hlook := getBox_look hbox (by simp)
          obtain ⟨j0, j1, blk, m, c, h2, rfl⟩ := hx.2.2 T' t xs hbox
          obtain ⟨cs, k1, k2, k3⟩ := hb b v _ hlook
          have hlt : j.toNat < xs.length := by omega
          obtain ⟨c1, e, c3, e1, e2, e3, e4⟩ := Reps.set (fun x c hc => Rep.length hc) k2 hlt
          have hOb := k3 blk (by rw [h2]; rfl)
          have hel := Rep.length e3
          rcases k1.2 with ⟨e0, _⟩ | ⟨blk', cap, cur, e5, _, ⟨fz, hq, hfz⟩, hq1, hq2, hq3, hq4⟩
          · rw [h2] at e0; cases e0
          · rw [h2] at e5
            simp only [Value.slice.injEq, Option.some.injEq, Addr.mk.injEq, and_true] at e5
            obtain ⟨rfl, rfl, rfl⟩ := e5
            have hcsl : cs.length = xs.length * t.sz := k1.1
            have hpos : j.toNat * t.sz + t.sz ≤ xs.length * t.sz := by
              rw [← Nat.succ_mul]; exact Nat.mul_le_mul_right _ hlt
            have hcap : xs.length * t.sz ≤ c * t.sz := Nat.mul_le_mul_right _ hq1
            have hrun := storeAt_run (P := P) (T := T) (o := j.toNat * t.sz + off) hi hvs hq hfz (by rw [hvl, hq3]; omega) hl2
            generalize hC : (cur.toList.take (j.toNat * t.sz + off) ++ yv.cells.toList ++ cur.toList.drop (j.toNat * t.sz + off + yv.cells.toList.length)).toArray = C at hrun
            have fr : Fr g w g (w.setRow blk C) := Fr.setRow hOb (ne0 h0)
            have he := Ext.same (c' := .row T' t (xs.set j.toNat z')) hlook (show sameKind _ _ from ⟨rfl, rfl, (List.length_set ..).symm⟩) fr rfl
            refine ⟨_, _, hK, hrun, ?_, he⟩
            refine hb.cons he (fun b' hb' => ⟨rfl, fun q hq' ho => ⟨ho, setRow_other w blk q _ (fun e => by subst e; rw [hOb] at ho; simp only [Option.some.injEq] at ho; exact hb' ho.symm)⟩⟩) ?_
            have hrep : Rep E.ET (okB g w) w t z' (e.take off ++ yv.cells.toList ++ e.drop (off + yv.cells.toList.length)) := by
              refine gather_all hz' (setCells_all2 (α := AV) (β := Value) off ?_ hl1 ?_)
              · rw [gd_get t xs j j0 j1]; exact expand_rel e3
              · rw [hn]
                have := (expand_rel (bs := bs) e3).length
                rw [gd_get t xs j j0 j1, this, hel]; exact hle
            have hsp := splice_mid (c1 := c1) (e := e) (c3 := c3) (vs := yv.cells.toList) (off := off) (by rw [hvl, hel]; exact hle)
            rw [← e1, e2] at hsp
            refine ⟨_, ?_, (e4 z' _ hrep).mono fun _ _ => Rep.mono fr.okB, fun q hq' => k3 q hq'⟩
            rw [List.length_set]
            refine ⟨?_, .inr ⟨blk, c, C, h2, Nat.zero_le _, ⟨fz, setRow_heap w blk cur C T' _ hq, fzOk_size hfz ?_⟩, hq1, hq2, ?_, ?_⟩⟩
            · rw [← hsp]
              simp only [List.length_append, List.length_take, List.length_drop]
              rw [hcsl, hvl]; omega
            · rw [← hC, List.size_toArray]
              simp only [List.length_append, List.length_take, List.length_drop, Array.length_toList]
              rw [hvs.trans hsz, hq3]; omega
            · rw [← hq3, ← hC, List.size_toArray]
              simp only [List.length_append, List.length_take, List.length_drop, Array.length_toList]
              rw [hvs.trans hsz, hq3]; omega
            · rw [← hC, List.toList_toArray, ← hsp, ← hcsl]
              have hcl : cur.toList.length = c * t.sz := (Array.length_toList (xs := cur)).trans hq3
              exact take_splice (by rw [hcsl]; exact hq4) (by rw [hcsl, hcl]; exact hcap) (by rw [hvl, hcsl]; omega)
        · cases hK
      · cases hK
    · cases hK
end
end Go.Proofs.YtcnngodgngmghaaGreatDoor.Ev
/- Boxes told as plain values from here on: what stood for the machine's state stands for it still. -/
namespace Go.Proofs.YtcnngodgngmghaaGreatDoor.Ev
open Go
open Go.RowKit
set_option linter.unusedVariables false
set_option linter.unusedSimpArgs false
section
variable {P : Program} {E : Env} {R : Type} {out : R} {g0 g g' : Gh} {w0 w w' : World} {sl : List AV} {bs0 bs bs' : Boxes} {a : Act} {b v : Nat} {c : Th}
theorem rep_row {T : TypeId} {t : Ty} {xs : List t.den} {v : Value} {cs : List Value} {ok : Nat → Prop} (k1 : ORow w T t.sz v xs.length cs) (k2 : Reps (fun x c => Rep E.ET ok w t x c) xs cs)
    (k3 : ∀ blk, v.ownBlock = some blk → ok blk) : Rep E.ET ok w (.sl t) xs [v] := by
  have hc := fun g h => ORow.cells k1 (g := g) h
  rcases k1.2 with ⟨e1, e0⟩ | ⟨blk, cap, cur, e1, _, hq, hn, _⟩
  · have : xs = [] := List.eq_nil_of_length_eq_zero e0
    subst this
    exact ⟨none, 0, [], by rw [e1]; rfl, Nat.le_refl _, rfl, .inl rfl⟩
  · refine ⟨some ⟨blk, 0, none⟩, cap, cs, by rw [e1], hn, k2, .inr ⟨blk, 0, rfl, k3 blk (by rw [e1]; rfl), fun j u hj => ?_⟩⟩
    have := hc blk (by rw [e1]; rfl) j u hj
    rwa [Addr.add_lit] at this
def thG (g : Gh) (b : Nat) : Gh := ⟨fun blk => if g.O blk = some b then none else g.O blk, g.hd⟩
theorem thG_ok {blk : Nat} (h : okB g w blk) : okB (thG g b) w blk := ⟨by show (if g.O blk = some b then none else g.O blk) = none; rw [h.1]; simp, h.2.1, h.2.2⟩
theorem thG_own {blk b' : Nat} (hb : b' ≠ b) (h : g.O blk = some b') : (thG g b).O blk = some b' := by
  show (if g.O blk = some b then none else g.O blk) = some b'
  rw [h, if_neg (by simp only [Option.some.injEq]; exact hb)]
theorem thG_free {blk : Nat} (h : g.O blk = some b) : (thG g b).O blk = none := if_pos h
theorem look_thB : ∀ (l : Boxes) (i : Nat), look (thB b v c l) i = (look l i).map fun x => (x.1, thX b v c x.2)
  | [], _ => rfl
  | (j, (k, x)) :: l, i => by
    simp only [thB, look]
    cases Nat.beq j i with
    | true => rfl
    | false => exact look_thB l i
structure ThOk (ET : TypeId) (g : Gh) (bs : Boxes) (w : World) (b v : Nat) (c : Th) : Prop where
  ne0 : b ≠ 0
  live : ∃ x, look bs b = some (v, x)
  row : ∀ t xs, c = .row t xs → ∃ T, getBox bs b v = .row T t xs
  var : ∀ t x, c = .var t x → (∃ T cells, getBox bs b v = .var T cells) ∧ ∃ blk cs, g.hd b = .pointer (some ⟨blk, 0, none⟩) ∧ g.O blk = some b ∧ (blk < w.heap.size ∧ ∀ o : Obj, w.heap[blk]? = some o → o.isCells = true) ∧ Rep ET (okB g w) w t x cs ∧ Lies w blk 0 cs
@[reducible] def thBs (b v : Nat) (c : Th) (bs : Boxes) : Boxes := (b, (v, .dead)) :: thB b v c bs
theorem th_nv (h : ThOk E.ET g bs w b v c) (i : Nat) : nextVer (thBs b v c bs) i = nextVer bs i := by
  by_cases e : b = i
  · subst e
    obtain ⟨x, hx⟩ := h.live
    simp only [nextVer, look_cons_eq, hx]
  · simp only [nextVer, look_cons_ne _ _ e, look_thB]
    cases look bs i with
    | none => rfl
    | some x => rfl
theorem th_var {i k : Nat} {T : TypeId} {cells' : List AV} (h : getBox (thBs b v c bs) i k = .var T cells') : i ≠ b ∧ ∃ cells, getBox bs i k = .var T cells ∧ cells' = thAs b v c cells := by
  by_cases e : b = i
  · subst e
    simp only [getBox, look_cons_eq] at h
    cases hq : Nat.beq v k <;> rw [hq] at h <;> cases h
  · refine ⟨Ne.symm e, ?_⟩
    simp only [getBox, look_cons_ne _ _ e, look_thB] at h
    cases hl : look bs i with
    | none => rw [hl] at h; cases h
    | some x =>
      obtain ⟨k', x⟩ := x
      rw [hl] at h
      simp only [Option.map_some] at h
      cases hq : Nat.beq k' k with
      | false => rw [hq] at h; cases h
      | true =>
        rw [hq] at h
        simp only [cond_true] at h
        cases x with
        | var T' cells =>
          simp only [thX, BoxC.var.injEq] at h
          obtain ⟨rfl, rfl⟩ := h
          exact ⟨cells, by simp only [getBox, hl, hq, cond_true], rfl⟩
        | row T' t xs => cases h
        | dead => cases h
theorem th_row {i k : Nat} {T : TypeId} {t : Ty} {xs : List t.den} (h : getBox (thBs b v c bs) i k = .row T t xs) : i ≠ b ∧ getBox bs i k = .row T t xs := by
  by_cases e : b = i
  · subst e
    simp only [getBox, look_cons_eq] at h
    cases hq : Nat.beq v k <;> rw [hq] at h <;> cases h
  · refine ⟨Ne.symm e, ?_⟩
    simp only [getBox, look_cons_ne _ _ e, look_thB] at h
    cases hl : look bs i with
    | none => rw [hl] at h; cases h
    | some x =>
      obtain ⟨k', x⟩ := x
      rw [hl] at h
      simp only [Option.map_some] at h
      cases hq : Nat.beq k' k with
      | false => rw [hq] at h; cases h
      | true =>
        rw [hq] at h
        simp only [cond_true] at h
        cases x with
        | var T' cells => cases h
        | row T' t' xs' => simp only [getBox, hl, hq, cond_true]; exact h
        | dead => cases h
theorem th_beq {i k : Nat} (h : (Nat.beq i b && Nat.beq k v) = true) : i = b ∧ k = v := by
  obtain ⟨h1, h2⟩ := and3 h
  exact ⟨Nat.eq_of_beq_eq_true h1, Nat.eq_of_beq_eq_true h2⟩
theorem th_cap (h : ThOk E.ET g bs w b v c) : ∀ {x : AV} {u : Value}, capR g bs x u → capR (thG g b) (thBs b v c bs) x u
  | .ref i k off, u, ⟨h1, hv, h2⟩ => ⟨by rw [th_nv (E := E) (w := w) h]; exact h1, hv, fun T cells hb => by
      obtain ⟨_, cells', hc, _⟩ := th_var hb
      exact h2 T cells' hc⟩
  | .top, _, hh => hh.elim
  | .und, _, hh => hh.elim
  | .nilS, _, hh => hh.elim
  | .nilP, _, hh => hh.elim
  | .val _ _, _, hh => hh.elim
  | .osl _ _, _, hh => hh.elim
  | .imm _ _ _, _, hh => hh.elim
  | .oel _ _ _ _, _, hh => hh.elim
  | .osb _ _ _, _, hh => hh.elim
  | .fn _ _, _, hh => hh.elim
  | .agg _, _, hh => hh.elim
  | .tup _, _, hh => hh.elim
theorem th_osl (h : ThOk E.ET g bs w b v c) (hb : BsRel E.ET g bs w) {i k : Nat} {u : Value} (hx : LRel E.ET g bs w (.osl i k) u) : LRel E.ET (thG g b) (thBs b v c bs) w (.osl i k) u :=
  ⟨by rw [th_nv (E := E) (w := w) h]; exact hx.1, hx.2.1, fun T t xs hbx => hx.2.2 T t xs (th_row hbx).2⟩
theorem th_ref (h : ThOk E.ET g bs w b v c) {i k off : Nat} {u : Value} (hx : LRel E.ET g bs w (.ref i k off) u) : LRel E.ET (thG g b) (thBs b v c bs) w (.ref i k off) u :=
  ⟨by rw [th_nv (E := E) (w := w) h]; exact hx.1, hx.2.1, fun T cells hbx => by
    obtain ⟨_, cells', hc, _⟩ := th_var hbx
    exact hx.2.2 T cells' hc⟩
theorem thA_rel (h : ThOk E.ET g bs w b v c) (hb : BsRel E.ET g bs w) : ∀ {x : AV} {u : Value}, LRel E.ET g bs w x u → LRel E.ET (thG g b) (thBs b v c bs) w (thA b v c x) u
  | .top, _, _ => trivial
  | .und, _, hh => hh
  | .nilS, _, hh => hh
  | .nilP, _, hh => hh
  | .val t x, _, hh => Rep.mono (fun q hq => ⟨thG_ok hq, rfl⟩) hh
  | .ref i k off, u, hh => by
    cases c with
    | row t xs => exact th_ref (E := E) h hh
    | var t x =>
      simp only [thA]
      cases hq : (Nat.beq i b && Nat.beq k v) with
      | false => exact th_ref (E := E) h hh
      | true =>
        obtain ⟨rfl, rfl⟩ := th_beq hq
        obtain ⟨⟨T, cells, hbox⟩, blk, cs, k1, k2, k3, k4, k5⟩ := h.var t x rfl
        obtain ⟨blk', e1, e2⟩ := hh.2.2 T cells hbox
        rw [k1] at e1
        simp only [Value.pointer.injEq, Option.some.injEq, Addr.mk.injEq, and_true] at e1
        subst e1
        exact ⟨blk, 0, cs, by rw [e2, Nat.zero_add], ⟨thG_free k2, k3⟩, Rep.mono (fun q hq => ⟨thG_ok hq, rfl⟩) k4, k5⟩
  | .osl i k, u, hh => by
    cases c with
    | var t x => exact th_osl (E := E) h hb hh
    | row t xs =>
      simp only [thA]
      cases hq : (Nat.beq i b && Nat.beq k v) with
      | false => exact th_osl (E := E) h hb hh
      | true =>
        obtain ⟨rfl, rfl⟩ := th_beq hq
        obtain ⟨T, hbox⟩ := h.row t xs rfl
        have e := hh.2.2 T t xs hbox
        obtain ⟨cs, k1, k2, k3⟩ := hb _ _ _ (getBox_look hbox (by simp))
        rw [← e] at k1 k3
        exact rep_row k1 (k2.mono fun _ _ => Rep.mono (fun q hq => ⟨thG_ok hq, rfl⟩)) fun q hq => ⟨thG_free (k3 q hq), (ORow.lt k1 q hq).2, ORow.obj k1 hq⟩
  | .imm t x off, u, ⟨q, o, cs, e, h1, h2, h3⟩ => ⟨q, o, cs, e, thG_ok h1, Rep.mono (fun q hq => ⟨thG_ok hq, rfl⟩) h2, h3⟩
  | .oel i k j off, u, hh => ⟨by rw [th_nv (E := E) (w := w) h]; exact hh.1, hh.2.1, fun T t xs hbx => hh.2.2 T t xs (th_row hbx).2⟩
  | .osb i k j, u, hh => ⟨by rw [th_nv (E := E) (w := w) h]; exact hh.1, hh.2.1, fun T t xs hbx => hh.2.2 T t xs (th_row hbx).2⟩
  | .fn f caps, u, ⟨cv, e, ha⟩ => ⟨cv, e, ha.mono fun _ _ => th_cap (E := E) (w := w) h⟩
  | .agg _, _, hh => hh.elim
  | .tup _, _, hh => hh.elim
theorem thAs_rel (h : ThOk E.ET g bs w b v c) (hb : BsRel E.ET g bs w) : ∀ {l : List AV} {us : List Value}, All2 (LRel E.ET g bs w) l us → All2 (LRel E.ET (thG g b) (thBs b v c bs) w) (thAs b v c l) us
  | [], [], _ => trivial
  | _ :: _, _ :: _, ⟨h1, h2⟩ => ⟨thA_rel (E := E) h hb h1, thAs_rel h hb h2⟩
  | [], _ :: _, hh => hh.elim
  | _ :: _, [], hh => hh.elim
theorem thC_rel (h : ThOk E.ET g bs w b v c) (hb : BsRel E.ET g bs w) : ∀ {x : AV} {u : Value}, CRel E.ET g bs w x u → CRel E.ET (thG g b) (thBs b v c bs) w (thC b v c x) u
  | .agg l, _, ⟨vs, e, ha⟩ => ⟨vs, e, thAs_rel (E := E) h hb ha⟩
  | .tup l, _, hh => (show False from hh).elim
  | .top, _, hh => (thA_rel (E := E) h hb (x := .top) hh).upC
  | .und, _, hh => (thA_rel (E := E) h hb (x := .und) hh).upC
  | .nilS, _, hh => (thA_rel (E := E) h hb (x := .nilS) hh).upC
  | .nilP, _, hh => (thA_rel (E := E) h hb (x := .nilP) hh).upC
  | .val t x, _, hh => (thA_rel (E := E) h hb (x := .val t x) hh).upC
  | .ref i k o, _, hh => (thA_rel (E := E) h hb (x := .ref i k o) hh).upC
  | .osl i k, _, hh => (thA_rel (E := E) h hb (x := .osl i k) hh).upC
  | .imm t x o, _, hh => (thA_rel (E := E) h hb (x := .imm t x o) hh).upC
  | .oel i k j o, _, hh => (thA_rel (E := E) h hb (x := .oel i k j o) hh).upC
  | .osb i k j, _, hh => (thA_rel (E := E) h hb (x := .osb i k j) hh).upC
  | .fn f k, _, hh => (thA_rel (E := E) h hb (x := .fn f k) hh).upC
theorem thCs_rel (h : ThOk E.ET g bs w b v c) (hb : BsRel E.ET g bs w) : ∀ {l : List AV} {us : List Value}, All2 (CRel E.ET g bs w) l us → All2 (CRel E.ET (thG g b) (thBs b v c bs) w) (thCs b v c l) us
  | [], [], _ => trivial
  | _ :: _, _ :: _, ⟨h1, h2⟩ => ⟨thC_rel (E := E) h hb h1, thCs_rel h hb h2⟩
  | [], _ :: _, hh => hh.elim
  | _ :: _, [], hh => hh.elim
theorem thV_rel (h : ThOk E.ET g bs w b v c) (hb : BsRel E.ET g bs w) : ∀ {x : AV} {u : Value}, VRel E.ET g bs w x u → VRel E.ET (thG g b) (thBs b v c bs) w (thV b v c x) u
  | .tup l, _, ⟨vs, e, ha⟩ => ⟨vs, e, thCs_rel (E := E) h hb ha⟩
  | .agg l, _, hh => (thC_rel (E := E) h hb (x := .agg l) hh).up
  | .top, _, hh => (thC_rel (E := E) h hb (x := .top) hh).up
  | .und, _, hh => (thC_rel (E := E) h hb (x := .und) hh).up
  | .nilS, _, hh => (thC_rel (E := E) h hb (x := .nilS) hh).up
  | .nilP, _, hh => (thC_rel (E := E) h hb (x := .nilP) hh).up
  | .val t x, _, hh => (thC_rel (E := E) h hb (x := .val t x) hh).up
  | .ref i k o, _, hh => (thC_rel (E := E) h hb (x := .ref i k o) hh).up
  | .osl i k, _, hh => (thC_rel (E := E) h hb (x := .osl i k) hh).up
  | .imm t x o, _, hh => (thC_rel (E := E) h hb (x := .imm t x o) hh).up
  | .oel i k j o, _, hh => (thC_rel (E := E) h hb (x := .oel i k j o) hh).up
  | .osb i k j, _, hh => (thC_rel (E := E) h hb (x := .osb i k j) hh).up
  | .fn f k, _, hh => (thC_rel (E := E) h hb (x := .fn f k) hh).up
theorem getS_thVs : ∀ (l : List AV) (i : Nat), getS (thVs b v c l) i = thV b v c (getS l i)
  | [], _ => rfl
  | _ :: _, 0 => rfl
  | _ :: l, i + 1 => getS_thVs l i
theorem length_thVs : ∀ (l : List AV), (thVs b v c l).length = l.length
  | [] => rfl
  | _ :: l => by simp [thVs, length_thVs l]
theorem th_fr (h0 : b ≠ 0) : Fr g w (thG g b) w :=
  ⟨rfl, rfl, rfl, Nat.le_refl _, fun q hq _ => ⟨by show (if g.O q = some b then none else g.O q) = none; rw [hq]; simp, rfl⟩, fun q hq _ => ⟨thG_own (Ne.symm h0) hq, rfl⟩⟩
theorem th_boxes (h : ThOk E.ET g bs w b v c) (hb : BsRel E.ET g bs w) : BsRel E.ET (thG g b) (thBs b v c bs) w := by
  intro i ver x hl
  by_cases e : b = i
  · subst e
    rw [look_cons_eq] at hl
    simp only [Option.some.injEq, Prod.mk.injEq] at hl
    obtain ⟨_, rfl⟩ := hl
    trivial
  · rw [look_cons_ne _ _ e, look_thB] at hl
    cases hq : look bs i with
    | none => rw [hq] at hl; cases hl
    | some y =>
      obtain ⟨k, y⟩ := y
      rw [hq] at hl
      simp only [Option.map_some, Option.some.injEq, Prod.mk.injEq] at hl
      obtain ⟨rfl, rfl⟩ := hl
      have hbox := hb i k y hq
      cases y with
      | dead => trivial
      | var T cells =>
        obtain ⟨blk, arr, k1, k2, k3, k4⟩ := hbox
        exact ⟨blk, arr, k1, thG_own (Ne.symm e) k2, k3, thAs_rel (E := E) h hb k4⟩
      | row T t xs =>
        obtain ⟨cs, k1, k2, k3⟩ := hbox
        exact ⟨cs, k1, k2.mono fun _ _ => Rep.mono (fun q hq => ⟨thG_ok hq, rfl⟩), fun blk hblk => thG_own (Ne.symm e) (k3 blk hblk)⟩
theorem th_st (h : ThOk E.ET g bs w b v c) (hr : Rel E.ET g0 bs0 w0 g ⟨sl, bs⟩ a w) : Rel E.ET g0 bs0 w0 (thG g b) (thSt b v c ⟨sl, bs⟩) a w := by
  have hb : BsRel E.ET g bs w := hr.boxes
  refine ⟨hr.glb.keep (th_fr h.ne0), ?_, fun i => ?_, th_boxes (E := E) h hb, hr.defers.mono (th_fr h.ne0), ?_⟩
  · show (thVs b v c sl).length ≤ _
    rw [length_thVs]; exact hr.size
  · show VRel E.ET (thG g b) (thBs b v c bs) w (getS (thVs b v c sl) i) _
    rw [getS_thVs]
    exact thV_rel (E := E) h hb (hr.slots i)
  · refine ⟨hr.ext.fr.trans (th_fr h.ne0), fun i => ?_, fun i ver T cells hv hbx => ?_, fun i ver T t xs hv hbx => ?_⟩
    · show nextVer bs0 i ≤ nextVer (thBs b v c bs) i
      rw [th_nv (E := E) (w := w) h]; exact hr.ext.ver i
    · obtain ⟨_, cells', hc, _⟩ := th_var hbx
      exact hr.ext.var i ver T cells' hv hc
    · exact hr.ext.row i ver T t xs hv (th_row hbx).2
theorem freezeB_rel (hr : Rel E.ET g0 bs0 w0 g ⟨sl, bs⟩ a w) (b v : Nat) : ∃ g', Rel E.ET g0 bs0 w0 g' (freezeB E ⟨sl, bs⟩ b v) a w := by
  unfold freezeB
  cases hb0 : Nat.beq b 0 with
  | true => exact ⟨g, hr⟩
  | false =>
    have h0 : b ≠ 0 := by intro e; subst e; cases hb0
    simp only [cond_false]
    split
    · rename_i T t xs hbox
      refine ⟨_, th_st (E := E) ⟨h0, ⟨_, getBox_look hbox (by simp)⟩, fun t' xs' e => ?_, fun t' x' e => by cases e⟩ hr⟩
      cases e; exact ⟨T, hbox⟩
    · rename_i T cells hbox
      split
      · rename_i r _
        split
        · rename_i x hx
          refine ⟨_, th_st (E := E) ⟨h0, ⟨_, getBox_look hbox (by simp)⟩, fun t' xs' e => (by cases e), fun t' x' e => ?_⟩ hr⟩
          obtain ⟨blk, arr, k1, k2, k3, k4⟩ := hr.boxes b v _ (getBox_look hbox (by simp))
          cases e
          exact ⟨⟨T, cells, hbox⟩, blk, arr.toList, k1, k2, ⟨(Array.getElem?_eq_some_iff.1 k3).1, fun o ho => by rw [k3] at ho; cases ho; rfl⟩, gather_all hx k4, lies_of_row k3⟩
        · exact ⟨g, hr⟩
      · exact ⟨g, hr⟩
    · exact ⟨g, hr⟩
theorem freezeL_rel : ∀ (l : List (Nat × Nat)) {g : Gh} {st : St}, Rel E.ET g0 bs0 w0 g st a w → ∃ g', Rel E.ET g0 bs0 w0 g' (freezeL E st l) a w
  | [], g, st, hr => ⟨g, hr⟩
  | (b, v) :: l, g, ⟨sl, bs⟩, hr => by
    obtain ⟨g1, h1⟩ := freezeB_rel (E := E) hr b v
    exact freezeL_rel l h1
theorem freezeT_rel : ∀ (l : List Tmp) {g : Gh} {st : St}, Rel E.ET g0 bs0 w0 g st a w → ∃ g', Rel E.ET g0 bs0 w0 g' (freezeT E st l) a w
  | [], g, st, hr => ⟨g, hr⟩
  | t :: l, g, st, hr => by
    obtain ⟨g1, h1⟩ := freezeL_rel (E := E) _ hr
    exact freezeT_rel l h1
end
end Go.Proofs.YtcnngodgngmghaaGreatDoor.Ev
/- The evaluator's new variables, struct values, rows and appends are sound. -/
namespace Go.Proofs.YtcnngodgngmghaaGreatDoor.Ev
open Go
open Go.RowKit
set_option linter.unusedVariables false
set_option linter.unusedSimpArgs false
section
variable {P : Program} {E : Env} {R : Type} {out : R} {g0 g g' : Gh} {w0 w w' : World} {sl : List AV} {bs0 bs bs' : Boxes} {a : Act}

theorem listV_allOk {t : Ty} : ∀ {l : List AV} {r : List t.den}, listV t l = some r → allOk l = true
  | [], _, _ => rfl
  | a :: l, r, h => by
    unfold listV at h
    split at h
    · rename_i x hx
      split at h
      · rename_i r' hr
        have ih := listV_allOk hr
        unfold leafV at hx
        split at hx
        · simp only [allOk, cellOk, ih, Bool.and_true]
        · cases hx
      · cases h
    · cases h
theorem newArr_sound {d : Option Tmp} {T : TypeId} {z : List AV} {vs : List Value} {K : AV → Boxes → Option R} (h : newArr d bs T z K = some out)
    (hb : BsRel E.ET g bs w) (hc : All2 (LRel E.ET g bs w) z vs) :
    ∃ v bs' g', K v bs' = some out ∧ VRel E.ET g' bs' (w.alloc (.cells vs.toArray T)) v (.pointer (some ⟨w.heap.size, 0, none⟩)) ∧
      BsRel E.ET g' bs' (w.alloc (.cells vs.toArray T)) ∧ Ext g bs w g' bs' (w.alloc (.cells vs.toArray T)) := by
  unfold newArr at h
  split at h
  · rename_i xs hxs
    obtain ⟨p1, hA⟩ := bif_some h
    obtain ⟨p4, p5⟩ := and3 p1
    obtain ⟨p2, p3⟩ := and3 p4
    have t1 := Nat.eq_of_beq_eq_true p2
    obtain ⟨hzl, hzr⟩ := listV_rel t1 hxs hc
    have hle := Nat.le_of_ble_eq_true p5
    have hlen : xs.length = vs.length := by rw [hzl, hc.length]
    have hpos : 0 < xs.length := by cases xs with | nil => simp at p3 | cons _ _ => simp
    have hh : ∀ i, i < w.heap.size → (w.alloc (.cells vs.toArray T)).heap[i]? = w.heap[i]? := fun i hi => allocOld w _ i hi
    obtain ⟨v, bs', g', h1, h2, h3, h4⟩ := newRow_sound (hv := .slice (some ⟨w.heap.size, 0, none⟩) xs.length xs.length) (cs := vs) (w' := w.alloc (.cells vs.toArray T)) hA hb rfl rfl rfl (by simp)
      (fun i hi _ => hh i hi) (fun i e hi => by simp [Value.ownBlock] at e; omega)
      ⟨by rw [t1, Nat.mul_one, hlen], .inr ⟨w.heap.size, xs.length, vs.toArray, rfl, Nat.zero_le _, ⟨(0, 0), heap_alloc_new w _, fzOk_zero _⟩, Nat.le_refl _, by unfold maxLen; omega, by rw [t1, Nat.mul_one, hlen]; simp, by rw [t1, Nat.mul_one, hlen]; simp⟩⟩ hzr
    cases v with
    | osl b ver =>
      refine ⟨_, _, _, h1, ⟨h2.1, rfl, fun T' t' xs' hbox => ?_⟩, h3, h4⟩
      have e := h2.2.2 T' t' xs' hbox
      obtain ⟨cs', q1, _, _⟩ := h3 b ver _ (getBox_look hbox (by simp))
      rcases q1.2 with ⟨e0, _⟩ | ⟨blk, cap, cur, e1, _⟩
      · rw [← e] at e0; cases e0
      · rw [← e] at e1
        simp only [Value.slice.injEq, Option.some.injEq, Addr.mk.injEq, and_true] at e1
        obtain ⟨rfl, e2, rfl⟩ := e1
        exact ⟨Int.le_refl _, by omega, _, _, _, e.symm, by simp⟩
    | _ => cases h1
  · cases h
theorem alloc_sound (hE : EnvOk P E) {d : Option Tmp} {T : TypeId} {z : List AV} {K : AV → Boxes → Option R} (hz : zeroRow E T = some z) (h : (bif bigT E T then newArr d bs T z K else newVar d bs T z K) = some out) (hb : BsRel E.ET g bs w) :
    Done P E.ET out g bs w K (Instr.alloc T true (.tuple #[])) := by
  unfold zeroRow at hz
  split at hz
  · rename_i r hr
    simp only [Option.some.injEq] at hz
    subst hz
    obtain ⟨i, zv, hi, _, _, hzv, hzr, _⟩ := (hE.rows T r hr).info
    cases hbig : bigT E T with
    | false =>
      rw [hbig, cond_false] at h
      obtain ⟨v, bs', g', h1, h2, h3, h4⟩ := newVar_sound h hb (hzr g bs w)
      refine ⟨v, _, bs', g', _, h1, ?_, h2, h3, h4⟩
      simp [Instr.alloc, zeroValue, typeInfo, hi, hzv, Go.newVar, Go.newRow]
    | true =>
      rw [hbig, cond_true] at h
      obtain ⟨v, bs', g', h1, h2, h3, h4⟩ := newArr_sound h hb (hzr g bs w)
      refine ⟨v, _, bs', g', _, h1, ?_, h2, h3, h4⟩
      simp [Instr.alloc, zeroValue, typeInfo, hi, hzv, Go.newVar, Go.newRow]
  · cases hz
theorem box_sound (hE : EnvOk P E) {d : Option Tmp} {T : TypeId} {x : AV} {xv : Value} {K : AV → Boxes → Option R} (h : (bif bigT E T then newArr d bs T (leaves x) K else newVar d bs T (leaves x) K) = some out) (hx : VRel E.ET g bs w x xv) (hb : BsRel E.ET g bs w) :
    Done P E.ET out g bs w K (Instr.box T xv) := by
  cases hbig : bigT E T with
  | false =>
    rw [hbig, cond_false] at h
    have ho : allOk (leaves x) = true := by
      unfold newVar at h
      cases d with
      | none => cases h
      | some d => exact (bif_some h).1
    obtain ⟨v, bs', g', h1, h2, h3, h4⟩ := newVar_sound h hb (leaves_rel ho hx).1
    refine ⟨v, _, bs', g', _, h1, ?_, h2, h3, h4⟩
    simp [Instr.box, Go.newVar, Go.newRow]
  | true =>
    rw [hbig, cond_true] at h
    have ho : allOk (leaves x) = true := by
      unfold newArr at h
      split at h
      · rename_i xs hxs
        exact listV_allOk hxs
      · cases h
    obtain ⟨v, bs', g', h1, h2, h3, h4⟩ := newArr_sound h hb (leaves_rel ho hx).1
    refine ⟨v, _, bs', g', _, h1, ?_, h2, h3, h4⟩
    simp [Instr.box, Go.newVar, Go.newRow]

theorem set_splice {L : List Value} {a : Nat} (v : Value) (vs : List Value) (h : a < L.length) :
    (L.set a v).take (a + 1) ++ vs ++ (L.set a v).drop (a + 1 + vs.length) = L.take a ++ v :: vs ++ L.drop (a + (v :: vs).length) := by
  have e : L = L.take a ++ (L[a] :: L.drop (a + 1)) := by
    conv => lhs; rw [← List.take_append_drop a L]
    congr 1
    exact List.drop_eq_getElem_cons h
  have hA : (L.take a).length = a := by rw [List.length_take, Nat.min_eq_left (Nat.le_of_lt h)]
  generalize L.take a = A at e hA
  generalize L[a] = x at e
  generalize L.drop (a + 1) = B at e
  subst e
  subst hA
  have h1 : (A ++ x :: B).set A.length v = A ++ v :: B := by simp
  rw [h1]
  have h2 : (A ++ v :: B).take (A.length + 1) = A ++ [v] := by rw [List.take_length_add_append]; rfl
  have h3 : (A ++ v :: B).drop (A.length + 1 + vs.length) = B.drop vs.length := by
    rw [Nat.add_assoc, List.drop_length_add_append, Nat.add_comm 1]; rfl
  have h4 : (A ++ x :: B).drop (A.length + (v :: vs).length) = B.drop vs.length := by
    rw [List.drop_length_add_append]; rfl
  rw [h2, h3, h4]
  simp
theorem foldl_set (vs : List Value) : ∀ (o : Nat) (cells : Array Value), o + vs.length ≤ cells.size →
    (vs.zipIdx.foldl (fun (cs : Array Value) (x : Value × Nat) => cs.setIfInBounds (o + x.2) x.1) cells).toList = cells.toList.take o ++ vs ++ cells.toList.drop (o + vs.length) := by
  have gen : ∀ (vs : List Value) (k o : Nat) (cells : Array Value), o + k + vs.length ≤ cells.size →
      ((vs.zipIdx k).foldl (fun (cs : Array Value) (x : Value × Nat) => cs.setIfInBounds (o + x.2) x.1) cells).toList = cells.toList.take (o + k) ++ vs ++ cells.toList.drop (o + k + vs.length) := by
    intro vs
    induction vs with
    | nil => intro k o cells _; simp
    | cons v vs ih =>
      intro k o cells h
      simp only [List.length_cons] at h
      rw [List.zipIdx_cons, List.foldl_cons, ih (k + 1) o _ (by simp; omega)]
      simp only [Array.toList_setIfInBounds]
      have hlt : o + k < cells.toList.length := by rw [Array.length_toList]; omega
      exact set_splice v vs hlt
  intro o cells h
  exact gen vs 0 o cells h
theorem fill_rel {fs : List (Nat × Nat × Bool)} {place : Nat → Option (Nat × Nat)} (hp : ∀ i o n ag, fs[i]? = some (o, n, ag) → place i = some (o, n)) :
    ∀ {parts : List (Nat × AV)} {pv : List (Nat × Value)} {cells out' : List AV} {cv : Array Value},
      buildCells fs cells parts = some out' → All2 (fun p q => p.1 = q.1 ∧ VRel E.ET g bs w p.2 q.2) parts pv → All2 (LRel E.ET g bs w) cells cv.toList →
      (∀ p ∈ parts, allOk (leaves p.2) = true ∨ ∃ l, p.2 = .agg l) →
      ∃ ov, Instr.fill place cv pv = some ov ∧ All2 (LRel E.ET g bs w) out' ov.toList
  | [], [], cells, out', cv, h, _, hc, _ => by
    simp only [buildCells, Option.some.injEq] at h
    subst h
    exact ⟨cv, rfl, hc⟩
  | [], _ :: _, _, _, _, _, h, _, _ => h.elim
  | _ :: _, [], _, _, _, _, h, _, _ => h.elim
  | (i, v) :: rest, (i', u) :: restv, cells, out', cv, h, ⟨⟨hi, hv⟩, hr⟩, hc, hok => by
    simp only at hi
    subst hi
    simp only [buildCells] at h
    split at h
    · rename_i o n ag hfs
      obtain ⟨h12, h⟩ := bif_some h
      obtain ⟨h1, h2⟩ := and3 h12
      have h1 := Nat.eq_of_beq_eq_true h1
      have h2 := Nat.le_of_ble_eq_true h2
      rw [lenN_eq] at h1 h2
      have hl : All2 (LRel E.ET g bs w) (leaves v) u.cells.toList := by
        rcases hok (i, v) (by simp) with ho | ⟨l, hl⟩
        · exact (leaves_rel ho hv).1
        · simp only at hl
          subst hl
          obtain ⟨vs, rfl, ha⟩ := hv
          simpa [Value.cells, leaves] using ha
      have hul : u.cells.size = n := by rw [← h1, hl.length, Array.length_toList]
      have hcl : cells.length = cv.size := by rw [hc.length, Array.length_toList]
      obtain ⟨ov, k1, k2⟩ := fill_rel hp (cv := u.cells.zipIdx.foldl (fun cs (c, j) => cs.setIfInBounds (o + j) c) cv) h hr (by
        rw [← Array.foldl_toList, Array.toList_zipIdx, foldl_set _ o cv (by rw [Array.length_toList, hul, ← hcl]; exact h2)]
        exact setCells_all2 (α := AV) (β := Value) o hc hl (by rw [h1]; exact h2)) (fun p hp' => hok p (List.mem_cons_of_mem _ hp'))
      refine ⟨ov, ?_, k2⟩
      simp only [Instr.fill, hp i o n ag hfs]
      rw [if_neg (by rw [hul]; simp; omega)]
      exact k1
    · cases h

theorem partsOk_of : ∀ {parts : List (Nat × AV)}, partsOk parts = true → ∀ p ∈ parts, allOk (leaves p.2) = true ∨ ∃ l, p.2 = .agg l
  | [], _, p, hp => by cases hp
  | (i, x) :: l, h, p, hp => by
    have hl : partsOk l = true ∧ (allOk (leaves x) = true ∨ ∃ l, x = .agg l) := by
      cases x <;> simp_all [partsOk, leaves, allOk]
    rcases List.mem_cons.1 hp with rfl | hp
    · exact hl.2
    · exact partsOk_of hl.1 p hp
theorem arrPlaces_get : ∀ (n o sz i : Nat) (q : Nat × Nat × Bool), (arrPlaces n o sz)[i]? = some q → q.1 = o + i * sz ∧ q.2.1 = sz
  | 0, o, sz, i, q, h => by simp [arrPlaces] at h
  | n + 1, o, sz, 0, q, h => by
    simp only [arrPlaces, List.getElem?_cons_zero, Option.some.injEq] at h
    subst h; simp
  | n + 1, o, sz, i + 1, q, h => by
    simp only [arrPlaces, List.getElem?_cons_succ] at h
    obtain ⟨h1, h2⟩ := arrPlaces_get n (o + sz) sz i q h
    exact ⟨by rw [h1, Nat.add_mul]; omega, h2⟩
theorem build_sound (hE : EnvOk P E) {T : TypeId} {parts : List (Nat × AV)} {pv : Array (Nat × Value)} {K : AV → Option R} (h : evBuild E T parts K = some out)
    (hp : All2 (fun p q => p.1 = q.1 ∧ VRel E.ET g bs w p.2 q.2) parts pv.toList) : ∃ v u, K v = some out ∧ VRel E.ET g bs w v u ∧ (Instr.build T pv).run P w = .ok u w := by
  unfold evBuild at h
  split at h
  · rename_i r hr
    obtain ⟨i, z, hi, hsz, _, hz, hzr, _⟩ := (hE.rows T r hr).info
    obtain ⟨d, hd, hk, _⟩ := (hE.rows T r hr).desc
    obtain ⟨hok, h⟩ := bif_some h
    have hok := partsOk_of hok
    split at h
    · rename_i fs hkd
      rw [hkd] at hk
      obtain ⟨fields, rfl, hf, hm⟩ := hk
      split at h
      · rename_i cells hc
        obtain ⟨ov, k1, k2⟩ := fill_rel (place := fun x => (fs.map fun x => (x.1, x.2.1)).toArray[x]?) (fun j o n ag hj => by simp [hj]) hc hp (hzr g bs w) hok
        refine ⟨_, _, h, ⟨ov.toList, rfl, k2⟩, ?_⟩
        rw [Array.toArray_toList]
        refine run_build w T pv ov ?_
        simp only [Program.built, hi, hd, hz, hm]
        exact k1
      · cases h
    · rename_i n e hkd
      rw [hkd] at hk
      have hk : d = .array n e := hk
      subst hk
      split at h
      · rename_i re hre
        obtain ⟨ie, ze, hie, hsze, _⟩ := (hE.rows e re hre).info
        split at h
        · rename_i cells hc
          obtain ⟨ov, k1, k2⟩ := fill_rel (place := fun j => some (j * re.size, re.size)) (fun j o n ag hj => by
            obtain ⟨h1, h2⟩ := arrPlaces_get _ _ _ _ _ hj
            simp only at h1 h2
            rw [h1, h2, Nat.zero_add]) hc hp (hzr g bs w) hok
          refine ⟨_, _, h, ⟨ov.toList, rfl, k2⟩, ?_⟩
          rw [Array.toArray_toList]
          refine run_build w T pv ov ?_
          simp only [Program.built, hi, hd, hz, hie, hsze]
          exact k1
        · cases h
      · cases h
    · cases h
  · cases h

theorem fill_seq {sz : Nat} : ∀ (pv : List (Nat × Value)) (k : Nat) (cv : Array Value) (done : List Value), (∀ j p, pv[j]? = some p → p.1 = k + j ∧ p.2.cells.size = sz) →
    cv.toList.take (k * sz) = done → cv.size = (k + pv.length) * sz →
    ∃ ov, Instr.fill (fun i => some (i * sz, sz)) cv pv = some ov ∧ ov.toList = done ++ (pv.map fun p => p.2.cells.toList).flatten
  | [], k, cv, done, _, hd, hs => by
    refine ⟨cv, rfl, ?_⟩
    rw [← hd, List.take_of_length_le (by rw [Array.length_toList, hs]; simp)]
    simp
  | (i, u) :: pv, k, cv, done, hp, hd, hs => by
    obtain ⟨h1, h2⟩ := hp 0 (i, u) rfl
    simp only [Nat.add_zero] at h1 h2
    subst h1
    simp only [List.length_cons] at hs
    have hle : i * sz + sz ≤ cv.size := by
      rw [hs, ← Nat.succ_mul]; exact Nat.mul_le_mul_right _ (by omega)
    have hf := foldl_set u.cells.toList (i * sz) cv (by rw [Array.length_toList, h2]; exact hle)
    rw [← Array.toList_zipIdx, Array.foldl_toList, Array.length_toList, h2, hd] at hf
    have hdl : done.length = i * sz := by rw [← hd, List.length_take, Array.length_toList]; omega
    obtain ⟨ov, k1, k2⟩ := fill_seq (sz := sz) pv (i + 1) (u.cells.zipIdx.foldl (fun cs (c, j) => cs.setIfInBounds (i * sz + j) c) cv) (done ++ u.cells.toList)
      (fun j p hj => by
        have := hp (j + 1) p (by simpa using hj)
        exact ⟨by rw [this.1]; omega, this.2⟩)
      (by
        rw [hf, List.take_append_of_le_length (by rw [List.length_append, hdl, Array.length_toList, h2, Nat.succ_mul]; exact Nat.le_refl _)]
        exact List.take_of_length_le (by rw [List.length_append, hdl, Array.length_toList, h2, Nat.succ_mul]; exact Nat.le_refl _))
      (by
        have := congrArg List.length hf
        rw [Array.length_toList] at this
        rw [this]
        simp only [List.length_append, List.length_drop, Array.length_toList, hdl, h2]
        rw [show (i + 1 + pv.length) * sz = (i + (pv.length + 1)) * sz by congr 1; omega, ← hs]
        omega)
    refine ⟨ov, ?_, by rw [k2]; simp⟩
    simp only [Instr.fill]
    rw [if_neg (by rw [h2]; simp; omega)]
    exact k1
theorem gatherAll_rel {t : Ty} : ∀ {parts : List (Nat × AV)} {pv : List (Nat × Value)} {n : Nat} {xs : List t.den}, gatherAll bs t n parts = some xs →
    All2 (fun p q => p.1 = q.1 ∧ VRel E.ET g bs w p.2 q.2) parts pv →
    Reps (fun x c => Rep E.ET (okB g w) w t x c) xs (pv.map fun p => p.2.cells.toList).flatten ∧ xs.length = pv.length ∧ ∀ j p, pv[j]? = some p → p.1 = n + j ∧ p.2.cells.size = t.sz
  | [], [], n, xs, h, _ => by
    simp only [gatherAll, Option.some.injEq] at h
    subst h
    exact ⟨rfl, rfl, fun j p hj => by simp at hj⟩
  | [], _ :: _, _, _, _, h => h.elim
  | _ :: _, [], _, _, _, h => h.elim
  | (i, v) :: rest, (i', u) :: pv, n, xs, h, ⟨⟨hi, hv⟩, hr⟩ => by
    simp only at hi
    subst hi
    simp only [gatherAll] at h
    obtain ⟨h12, h⟩ := bif_some h
    obtain ⟨h1, h2⟩ := and3 h12
    have h1 := Nat.eq_of_beq_eq_true h1
    subst h1
    split at h
    · rename_i x hx
      split at h
      · rename_i l hl
        simp only [Option.some.injEq] at h
        subst h
        obtain ⟨k1, k2, k3⟩ := gatherAll_rel hl hr
        have hrep := gather_all hx (leaves_rel h2 hv).1
        refine ⟨⟨u.cells.toList, _, by simp, hrep, k1⟩, by simp [k2], fun j p hj => ?_⟩
        cases j with
        | zero =>
          simp only [List.getElem?_cons_zero, Option.some.injEq] at hj
          subst hj
          exact ⟨by simp, by rw [← Array.length_toList]; exact hrep.length⟩
        | succ j =>
          simp only [List.getElem?_cons_succ] at hj
          obtain ⟨e1, e2⟩ := k3 j p hj
          exact ⟨by rw [e1]; omega, e2⟩
      · cases h
    · cases h
theorem buildSlice_sound (hE : EnvOk P E) {d : Option Tmp} {T : TypeId} {len : Nat} {parts : List (Nat × AV)} {pv : Array (Nat × Value)} {K : AV → Boxes → Option R} (h : evBuildSlice E d T len parts bs K = some out)
    (hp : All2 (fun p q => p.1 = q.1 ∧ VRel E.ET g bs w p.2 q.2) parts pv.toList) (hb : BsRel E.ET g bs w) : Done P E.ET out g bs w K (Instr.buildSlice T len pv) := by
  unfold evBuildSlice at h
  split at h
  · rename_i e hk
    obtain ⟨dd, hd, rfl⟩ := und_of hE hk (by simp)
    split at h
    · rename_i r hr
      obtain ⟨h123, h⟩ := bif_some h
      obtain ⟨h12, h3⟩ := and3 h123
      obtain ⟨h1, h2⟩ := and3 h12
      have h2 := Nat.eq_of_beq_eq_true h2
      have h3 := Nat.le_of_ble_eq_true h3
      obtain ⟨r', i, hr', hi, hsz, hrs, _, hne, hro⟩ := elemRow_of hE h1
      rw [hr] at hr'
      simp only [Option.some.injEq] at hr'
      subst hr'
      obtain ⟨i', z, hi', _, _, hz, _⟩ := hro.info
      rw [hi] at hi'
      simp only [Option.some.injEq] at hi'
      subst hi'
      split at h
      · rename_i xs hxs
        obtain ⟨k1, k2, k3⟩ := gatherAll_rel hxs hp
        have hlen : pv.toList.length = len := by rw [← h2, hp.length]
        generalize hZ : (Array.range (len * i.size)).map (fun j => (if len * i.size = 0 then #[] else z.cells)[j % (if len * i.size = 0 then (#[] : Array Value) else z.cells).size]!) = Z
        have hZs : Z.size = len * i.size := by rw [← hZ]; simp
        obtain ⟨ov, f1, f2⟩ := fill_seq (sz := i.size) pv.toList 0 Z [] (fun j p hj => by
          obtain ⟨e1, e2⟩ := k3 j p hj
          exact ⟨e1, e2.trans hsz.symm⟩) (by simp) (by rw [hZs, hlen, Nat.zero_add])
        rw [List.nil_append] at f2
        rw [← f2] at k1
        have hovl : ov.size = len * i.size := by
          rw [← Array.length_toList, Reps.length (fun x c hc => Rep.length hc) k1, k2, hlen, hsz]
        have hrun : (Instr.buildSlice T len pv).run P w = .ok (.slice (some ⟨w.heap.size, 0, none⟩) len len) (w.alloc (.cells ov e)) := by
          have hnl : ¬ (2 ^ 24 < len * i.size) := by rw [hsz, ← hrs]; simpa using h3
          simp only [Instr.buildSlice, Sem.run_bind, run_underlying hd, Result.andThen_ok, run_sizeOf hi, gt_iff_lt, hnl, if_false, Sem.run_pure]
          by_cases h0 : len * i.size = 0
          · rw [if_pos h0] at hZ
            rw [if_pos h0]
            simp only [Sem.run_bind, Sem.run_pure, Result.andThen_ok]
            rw [hZ, f1]
            simp [Go.newRow]
          · rw [if_neg h0] at hZ
            rw [if_neg h0]
            simp only [Sem.run_bind, Sem.run_pure, Result.andThen_ok, zeroValue, typeInfo, run_program, hi, hz]
            rw [hZ, f1]
            simp [Go.newRow]
        have hlm : len ≤ maxLen := by
          have h0 : 0 < r.shape.sz := Nat.pos_of_ne_zero hne
          have := Nat.le_mul_of_pos_right len h0
          rw [← hrs] at this
          simp only [maxLen]; omega
        obtain ⟨v, bs', g', n1, n2, n3, n4⟩ := newRow_sound (w' := w.alloc (.cells ov e)) (hv := .slice (some ⟨w.heap.size, 0, none⟩) len len) h hb rfl rfl rfl (by simp)
          (fun q hq _ => allocOld w _ q hq) (fun q hq hlt => by simp only [Value.ownBlock, Option.some.injEq] at hq; omega)
          (by
            rw [k2, hlen]
            refine ⟨by rw [Array.length_toList, hovl, hsz], .inr ⟨w.heap.size, len, ov, rfl, Nat.zero_le _, ⟨_, heap_alloc_new w _, fzOk_zero _⟩, Nat.le_refl _, hlm, by rw [hovl, hsz], ?_⟩⟩
            exact List.take_of_length_le (by rw [Array.length_toList, hovl, hsz]; exact Nat.le_refl _)) k1
        exact ⟨v, _, bs', g', _, n1, hrun, n2, n3, n4⟩
      · cases h
    · cases h
  · cases h
end
end Go.Proofs.YtcnngodgngmghaaGreatDoor.Ev
