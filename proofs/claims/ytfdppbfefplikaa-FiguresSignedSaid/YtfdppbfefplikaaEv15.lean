/- States in a fixed form: the data of a state told by a shape, and the other way; a state told anew stands for the same machine. -/
import Derived.Test.YtfdppbfefplikaaEv26
namespace Go.Proofs.Ytfdppbfefplikaa.Ev
open Go
open Go.RowKit
set_option linter.unusedVariables false
set_option linter.unusedSimpArgs false
set_option linter.unusedSectionVars false

/-- A cell's shape: not told; a plain value; a pointer to the k-th box; the k-th box's row. -/
inductive LSh where
  | top | v (t : Ty) | ref (k off : Nat) | osl (k : Nat) | fn (f : FuncId) (ks : List Nat)
inductive BSh where
  | var (T : TypeId) (cells : List LSh) | row (T : TypeId) (t : Ty)
/-- A slot's shape: one cell, or a struct's or array's cells. -/
inductive SSh where
  | any | mk (ag : Bool) (ls : List LSh)
structure PSh where
  boxes : List BSh
  slots : List SSh
@[reducible] def lsDen : List LSh → Type
  | [] => Unit
  | .v t :: l => t.den × lsDen l
  | .top :: l => lsDen l
  | .ref _ _ :: l => lsDen l
  | .osl _ :: l => lsDen l
  | .fn _ _ :: l => lsDen l
@[reducible] def ssDen : List SSh → Type
  | [] => Unit
  | .any :: l => ssDen l
  | .mk _ ls :: l => lsDen ls × ssDen l
@[reducible] def bsDen : List BSh → Type
  | [] => Unit
  | .var _ cs :: l => lsDen cs × bsDen l
  | .row _ t :: l => List t.den × bsDen l
@[reducible] def PSh.den (p : PSh) : Type := bsDen p.boxes × ssDen p.slots
/-- From data: the k-th box has the number c + k. -/
def decK (c : Nat) : List Nat → List AV
  | [] => []
  | k :: l => .ref (c + k) 0 0 :: decK c l
def decL (c : Nat) : (l : List LSh) → lsDen l → List AV
  | [], _ => []
  | .v t :: l, d => .val t d.1 :: decL c l d.2
  | .top :: l, d => .top :: decL c l d
  | .ref k off :: l, d => .ref (c + k) 0 off :: decL c l d
  | .osl k :: l, d => .osl (c + k) 0 :: decL c l d
  | .fn f ks :: l, d => .fn f (decK c ks) :: decL c l d
def decS1 (ag : Bool) (l : List AV) : AV := cond ag (.agg l) (match l with | [x] => x | _ => .top)
def decS (c : Nat) : (l : List SSh) → ssDen l → List AV
  | [], _ => []
  | .any :: l, d => .top :: decS c l d
  | .mk ag ls :: l, d => decS1 ag (decL c ls d.1) :: decS c l d.2
def decB (c : Nat) : Nat → (l : List BSh) → bsDen l → Boxes
  | _, [], _ => []
  | k, .var T cs :: l, d => (c + k, (0, .var T (decL c cs d.1))) :: decB c (k + 1) l d.2
  | k, .row T t :: l, d => (c + k, (0, .row T t d.1)) :: decB c (k + 1) l d.2
/-- Which box each number stands for (none: the nil slice). -/
abbrev Mp := List (Nat × Option (Nat × Nat))
def mget : Mp → Nat → Option (Option (Nat × Nat))
  | [], _ => none
  | (i, x) :: r, k => bif Nat.beq i k then some x else mget r k
def mfind : Mp → Nat → Option Nat
  | [], _ => none
  | (k, some (b', _)) :: r, b => bif Nat.beq b' b then some k else mfind r b
  | (_, none) :: r, b => mfind r b
def madd (m : Mp) (k : Nat) (x : Option (Nat × Nat)) : Mp :=
  match mget m k with
  | some _ => m
  | none => (k, x) :: m
def mcaps : Mp → List Nat → List AV → Mp
  | m, k :: ks, .ref b v _ :: l => mcaps (madd m k (some (b, v))) ks l
  | m, _, _ => m
def mleaf (m : Mp) : LSh → AV → Mp
  | .ref k _, .ref b v _ => madd m k (some (b, v))
  | .osl k, .osl b v => madd m k (some (b, v))
  | .osl k, .nilS => madd m k none
  | .fn _ ks, .fn _ caps => mcaps m ks caps
  | _, _ => m
def mleaves : Mp → List LSh → List AV → Mp
  | m, s :: l, x :: a => mleaves (mleaf m s x) l a
  | m, _, _ => m
def mslots : Mp → List SSh → List AV → Mp
  | m, .mk _ ls :: l, x :: a => mslots (mleaves m ls (leaves x)) l a
  | m, .any :: l, _ :: a => mslots m l a
  | m, _, _ => m
def mboxes (bs : Boxes) : Nat → List BSh → Mp → Mp
  | k, .var _ cs :: l, m => mboxes bs (k + 1) l (match mget m k with
    | some (some (b, v)) => match getBox bs b v with
      | .var _ cells => mleaves m cs cells
      | _ => m
    | _ => m)
  | k, .row _ _ :: l, m => mboxes bs (k + 1) l m
  | _, [], m => m
def PSh.mp (p : PSh) (slots : List AV) (bs : Boxes) : Mp := mboxes bs 0 p.boxes (mslots [] p.slots slots)
def mchk (m : Mp) : Mp → Bool
  | [] => true
  | (k, some (b, _)) :: r => (match mfind m b with | some k' => Nat.beq k' k | none => false) && !Nat.beq b 0 && mchk m r
  | (_, none) :: r => mchk m r
def mis (m : Mp) (nb k b v : Nat) : Bool :=
  match mget m k with
  | some (some (b', v')) => Nat.beq b' b && Nat.beq v' v && Nat.blt k nb
  | _ => false
def mnil (m : Mp) (nb k : Nat) : Bool :=
  match mget m k with
  | some none => Nat.blt k nb
  | _ => false
def encK (m : Mp) (nb : Nat) : List Nat → List AV → Bool
  | [], [] => true
  | k :: ks, .ref b v off :: l => mis m nb k b v && (Nat.beq off 0 && encK m nb ks l)
  | _, _ => false
def free (m : Mp) (z : Nat → Bool) (b : Nat) : Bool :=
  match mfind m b with
  | some _ => false
  | none => z b && !Nat.beq b 0
def leafF (bs : Boxes) (t : Ty) : List AV → Option (t.den × List AV)
  | a :: l => match asTy bs t a with
    | some x => some (x, l)
    | none => none
  | [] => none
/-- Cells put together; a box that is held no more is read out, for good. -/
def gatherF (bs : Boxes) (m : Mp) (z : Nat → Bool) : (t : Ty) → List AV → Option (t.den × List AV)
  | .pair a b, l => match gatherF bs m z a l with
    | some (x, l) => match gatherF bs m z b l with
      | some (y, l) => some ((x, y), l)
      | none => none
    | none => none
  | .unit, l => some ((), l)
  | .nptr t, l => match l with
    | .ref b v 0 :: l => bif free m z b then match getBox bs b v with
      | .var _ cells => match gatherF bs m z t cells with
        | some (x, []) => some (some x, l)
        | _ => none
      | _ => none else none
    | l => leafF bs (.nptr t) l
  | .sl t, l => match l with
    | .osl b v :: l => bif free m z b then match getBox bs b v with
      | .row _ t' xs => if h : t' = t then some (h ▸ xs, l) else none
      | _ => none else none
    | l => leafF bs (.sl t) l
  | .int k, l => leafF bs (.int k) l
  | .bool, l => leafF bs .bool l
  | .str, l => leafF bs .str l
  | .err, l => leafF bs .err l
def fz (bs : Boxes) (m : Mp) (z : Nat → Bool) (t : Ty) (x : AV) : Option t.den :=
  match gatherF bs m z t [x] with
  | some (y, []) => some y
  | _ => none
section
variable (bs : Boxes) (m : Mp) (z : Nat → Bool) (nb : Nat)
def encL : (l : List LSh) → List AV → Option (lsDen l)
  | [], [] => some ()
  | .v t :: l, x :: a => match fz bs m z t x with
    | some y => match encL l a with
      | some r => some (y, r)
      | none => none
    | none => none
  | .top :: l, _ :: a => encL l a
  | .ref k off :: l, .ref b v off' :: a => bif mis m nb k b v && Nat.beq off off' then encL l a else none
  | .osl k :: l, .osl b v :: a => bif mis m nb k b v then encL l a else none
  | .osl k :: l, .nilS :: a => bif mnil m nb k then encL l a else none
  | .fn f ks :: l, .fn f' caps :: a => bif Nat.beq f f' && encK m nb ks caps then encL l a else none
  | _, _ => none
def encS1 (ag : Bool) (ls : List LSh) (x : AV) : Option (lsDen ls) :=
  match ag, x with
  | true, .agg l => encL bs m z nb ls l
  | true, _ => none
  | false, .agg _ => none
  | false, .tup _ => none
  | false, x => encL bs m z nb ls [x]
def encS : (l : List SSh) → List AV → Option (ssDen l)
  | [], _ => some ()
  | .any :: l, a => match a with
    | _ :: a => encS l a
    | [] => none
  | .mk ag ls :: l, a => match a with
    | x :: a => match encS1 bs m z nb ag ls x with
      | some y => match encS l a with
        | some r => some (y, r)
        | none => none
      | none => none
    | [] => none
def encB : Nat → (l : List BSh) → Option (bsDen l)
  | _, [] => some ()
  | k, .var T cs :: l => match mget m k with
    | some (some (b, v)) => match getBox bs b v with
      | .var T' cells => bif Nat.beq T' T then match encL bs m z nb cs cells with
        | some d => match encB (k + 1) l with
          | some r => some (d, r)
          | none => none
        | none => none else none
      | _ => none
    | _ => none
  | k, .row T t :: l => match mget m k with
    | some (some (b, v)) => match getBox bs b v with
      | .row T' t' xs => bif Nat.beq T' T then (if h : t' = t then match encB (k + 1) l with
        | some r => some (h ▸ xs, r)
        | none => none else none) else none
      | _ => none
    | some none => match encB (k + 1) l with
      | some r => some ([], r)
      | none => none
    | _ => none
end
def lenB : List BSh → Nat
  | [] => 0
  | _ :: l => lenB l + 1
/-- A state's data, by a shape. -/
def PSh.enc (p : PSh) (z : Nat → Bool) (slots : List AV) (bs : Boxes) : Option p.den :=
  bif mchk (p.mp slots bs) (p.mp slots bs) then
    match encB bs (p.mp slots bs) z (lenB p.boxes) 0 p.boxes with
    | some x => match encS bs (p.mp slots bs) z (lenB p.boxes) p.slots slots with
      | some y => some (x, y)
      | none => none
    | none => none
  else none
def PSh.decB (p : PSh) (c : Nat) (d : p.den) : Boxes := Ev.decB c 0 p.boxes d.1
def PSh.decS (p : PSh) (c : Nat) (d : p.den) : List AV := Ev.decS c p.slots d.2

/-- What is not seen, in the new numbers. -/
def canonG (g : Gh) (m : Mp) (z : Nat → Bool) (c : Nat) : Gh :=
  ⟨fun blk => match g.O blk with
    | none => none
    | some b => match mfind m b with
      | some k => some (c + k)
      | none => if z b && !Nat.beq b 0 then none else some 0,
   fun i => match mget m (i - c) with
    | some (some (b, _)) => g.hd b
    | _ => .slice none 0 0⟩
section
variable {P : Program} {E : Env} {R : Type} {out : R} {g0 g g' : Gh} {w0 w w' : World} {sl : List AV} {bs0 bs bs' : Boxes} {a : Act} {m : Mp} {z : Nat → Bool} {nb c k b v : Nat}
theorem mfind_of : ∀ {r : Mp} {k b v : Nat}, mchk m r = true → mget r k = some (some (b, v)) → mfind m b = some k ∧ b ≠ 0
  | [], _, _, _, _, h => by cases h
  | (i, x) :: r, k, b, v, hc, h => by
    simp only [mget] at h
    cases hb : Nat.beq i k with
    | true =>
      rw [hb] at h
      have e := Nat.eq_of_beq_eq_true hb
      subst e
      simp only [cond_true, Option.some.injEq] at h
      subst h
      simp only [mchk, Bool.and_eq_true] at hc
      obtain ⟨⟨h1, h2⟩, _⟩ := hc
      refine ⟨?_, ne0 h2⟩
      split at h1
      · rename_i k' hk'
        rw [hk', Nat.eq_of_beq_eq_true h1]
      · cases h1
    | false =>
      rw [hb] at h
      refine mfind_of (r := r) ?_ h
      cases x with
      | none => exact hc
      | some x =>
        simp only [mchk, Bool.and_eq_true] at hc
        exact hc.2
theorem mfind_mem : ∀ {r : Mp} {b k : Nat}, mfind r b = some k → ∃ v, (k, some (b, v)) ∈ r
  | [], _, _, h => by cases h
  | (k', none) :: r, b, k, h => by
    obtain ⟨v, hv⟩ := mfind_mem (r := r) h
    exact ⟨v, List.mem_cons_of_mem _ hv⟩
  | (k', some (b', v')) :: r, b, k, h => by
    simp only [mfind] at h
    cases hb : Nat.beq b' b with
    | true =>
      rw [hb] at h
      simp only [cond_true, Option.some.injEq] at h
      have e := Nat.eq_of_beq_eq_true hb
      subst e; subst h
      exact ⟨v', List.mem_cons_self ..⟩
    | false =>
      rw [hb] at h
      obtain ⟨v, hv⟩ := mfind_mem (r := r) h
      exact ⟨v, List.mem_cons_of_mem _ hv⟩
theorem mchk_mem : ∀ {r : Mp} {b k v : Nat}, mchk m r = true → (k, some (b, v)) ∈ r → b ≠ 0
  | [], _, _, _, _, h => by cases h
  | (k', none) :: r, b, k, v, hc, h => by
    cases h with
    | tail _ h => exact mchk_mem (r := r) hc h
  | (k', some (b', v')) :: r, b, k, v, hc, h => by
    simp only [mchk, Bool.and_eq_true] at hc
    cases h with
    | head => exact ne0 hc.1.2
    | tail _ h => exact mchk_mem (r := r) hc.2 h
theorem mfind_ne0 (hc : mchk m m = true) {k : Nat} (h : mfind m 0 = some k) : False := by
  obtain ⟨v, hv⟩ := mfind_mem h
  exact mchk_mem hc hv rfl
theorem mis_of (h : mis m nb k b v = true) : mget m k = some (some (b, v)) ∧ k < nb := by
  unfold mis at h
  split at h
  · rename_i b' v' hk
    simp only [Bool.and_eq_true] at h
    obtain ⟨⟨h1, h2⟩, h3⟩ := h
    rw [hk, Nat.eq_of_beq_eq_true h1, Nat.eq_of_beq_eq_true h2]
    exact ⟨rfl, Nat.le_of_ble_eq_true h3⟩
  · cases h
theorem mnil_of (h : mnil m nb k = true) : mget m k = some none ∧ k < nb := by
  unfold mnil at h
  split at h
  · rename_i hk
    exact ⟨hk, Nat.le_of_ble_eq_true h⟩
  · cases h
theorem canonG_none {blk : Nat} (h : g.O blk = none) : (canonG g m z c).O blk = none := by simp only [canonG, h]
theorem canonG_ok {blk : Nat} (h : okB g w blk) : okB (canonG g m z c) w blk := ⟨canonG_none h.1, h.2⟩
theorem canonG_free {blk b : Nat} (h : g.O blk = some b) (hf : free m z b = true) : (canonG g m z c).O blk = none := by
  unfold free at hf
  split at hf
  · cases hf
  · rename_i hm
    simp only [canonG, h, hm, hf, if_true]
theorem canonG_in {blk b k : Nat} (h : g.O blk = some b) (hf : mfind m b = some k) : (canonG g m z c).O blk = some (c + k) := by
  simp only [canonG, h, hf]
theorem canonG_hd {k b v : Nat} (h : mget m k = some (some (b, v))) : (canonG g m z c).hd (c + k) = g.hd b := by
  simp only [canonG, Nat.add_sub_cancel_left, h]
theorem canonG_nil {k : Nat} (h : mget m k = some none) : (canonG g m z c).hd (c + k) = .slice none 0 0 := by
  simp only [canonG, Nat.add_sub_cancel_left, h]
theorem canon_rep {t : Ty} {x : t.den} {cs : List Value} (h : Rep E.ET (okB g w) w t x cs) : Rep E.ET (okB (canonG g m z c) w) w t x cs :=
  Rep.mono (fun b hb => ⟨canonG_ok hb, rfl⟩) h
theorem leafF_rel {t : Ty} {l l' : List AV} {vs : List Value} {y : t.den} (h : leafF bs t l = some (y, l')) (hl : All2 (LRel E.ET g bs w) l vs) :
    ∃ c1 c2, vs = c1 ++ c2 ∧ Rep E.ET (okB (canonG g m z c) w) w t y c1 ∧ All2 (LRel E.ET g bs w) l' c2 := by
  cases l with
  | nil => cases h
  | cons a l =>
    cases vs with
    | nil => exact hl.elim
    | cons v vs =>
      simp only [leafF] at h
      split at h
      · rename_i x hx
        simp only [Option.some.injEq, Prod.mk.injEq] at h
        obtain ⟨rfl, rfl⟩ := h
        exact ⟨[v], vs, rfl, canon_rep (asTy_rel hx hl.1), hl.2⟩
      · cases h
theorem gatherF_rel (hb : BsRel E.ET g bs w) : ∀ {t : Ty} {l l' : List AV} {vs : List Value} {y : t.den}, gatherF bs m z t l = some (y, l') → All2 (LRel E.ET g bs w) l vs →
    ∃ c1 c2, vs = c1 ++ c2 ∧ Rep E.ET (okB (canonG g m z c) w) w t y c1 ∧ All2 (LRel E.ET g bs w) l' c2
  | .pair a b, l, l', vs, y, h, hl => by
    simp only [gatherF] at h
    split at h
    · rename_i x l1 h1
      split at h
      · rename_i z l2 h2
        simp only [Option.some.injEq, Prod.mk.injEq] at h
        obtain ⟨rfl, rfl⟩ := h
        obtain ⟨c1, c2, e, k1, k2⟩ := gatherF_rel hb h1 hl
        obtain ⟨d1, d2, e2, k3, k4⟩ := gatherF_rel hb h2 k2
        exact ⟨c1 ++ d1, d2, by rw [e, e2, List.append_assoc], ⟨c1, d1, rfl, k1, k3⟩, k4⟩
      · cases h
    · cases h
  | .unit, l, l', vs, y, h, hl => by
    simp only [gatherF, Option.some.injEq, Prod.mk.injEq] at h
    obtain ⟨_, rfl⟩ := h
    exact ⟨[], vs, rfl, rfl, hl⟩
  | .nptr t, l, l', vs, y, h, hl => by
    simp only [gatherF] at h
    split at h
    · rename_i b v l1
      cases vs with
      | nil => exact hl.elim
      | cons u vs =>
        obtain ⟨hf, h⟩ := bif_some h
        split at h
        · rename_i T cells hbox
          split at h
          · rename_i x hx
            simp only [Option.some.injEq, Prod.mk.injEq] at h
            obtain ⟨rfl, rfl⟩ := h
            obtain ⟨blk, h1, h2⟩ := hl.1.2.2 T cells hbox
            obtain ⟨blk', arr, k1, k2, k3, k4⟩ := hb b v _ (getBox_look hbox (by simp))
            rw [h1] at k1
            simp only [Value.pointer.injEq, Option.some.injEq, Addr.mk.injEq, and_true] at k1
            subst k1
            obtain ⟨c1, c2, e, r1, r2⟩ := gatherF_rel hb hx k4
            have : c2 = [] := by cases c2 with | nil => rfl | cons _ _ => exact r2.elim
            subst this
            rw [List.append_nil] at e
            refine ⟨[u], vs, rfl, ?_, hl.2⟩
            exact ⟨blk, 0, c1, by rw [h2], ⟨canonG_free k2 hf, (Array.getElem?_eq_some_iff.1 k3).1⟩, r1, by rw [← e]; exact lies_of_row k3⟩
          · cases h
        · cases h
    · exact leafF_rel h hl
  | .sl t, l, l', vs, y, h, hl => by
    simp only [gatherF] at h
    split at h
    · rename_i b v l1
      cases vs with
      | nil => exact hl.elim
      | cons u vs =>
        obtain ⟨hf, h⟩ := bif_some h
        split at h
        · rename_i T t' xs hbox
          split at h
          · rename_i et
            subst et
            simp only [Option.some.injEq, Prod.mk.injEq] at h
            obtain ⟨rfl, rfl⟩ := h
            have h1 := hl.1.2.2 T t' xs hbox
            obtain ⟨cs, k1, k2, k3⟩ := hb b v _ (getBox_look hbox (by simp))
            rw [← h1] at k1 k3
            refine ⟨[u], vs, rfl, rep_row k1 (k2.mono fun _ _ => canon_rep) (fun blk hblk => ?_), hl.2⟩
            exact ⟨canonG_free (k3 blk hblk) hf, (World.ownsRow.lt k1 blk hblk).2⟩
          · cases h
        · cases h
    · exact leafF_rel h hl
  | .int k, l, l', vs, y, h, hl => leafF_rel h hl
  | .bool, l, l', vs, y, h, hl => leafF_rel h hl
  | .str, l, l', vs, y, h, hl => leafF_rel h hl
  | .err, l, l', vs, y, h, hl => leafF_rel h hl
theorem fz_rel (hb : BsRel E.ET g bs w) {t : Ty} {x : AV} {u : Value} {y : t.den} (h : fz bs m z t x = some y) (hx : LRel E.ET g bs w x u) : Rep E.ET (okB (canonG g m z c) w) w t y [u] := by
  unfold fz at h
  split at h
  · rename_i y' hy
    simp only [Option.some.injEq] at h
    subst h
    obtain ⟨c1, c2, e, r1, r2⟩ := gatherF_rel (c := c) hb hy (vs := [u]) ⟨hx, trivial⟩
    have : c2 = [] := by cases c2 with | nil => rfl | cons _ _ => exact r2.elim
    subst this
    rw [List.append_nil] at e
    rw [e]; exact r1
  · cases h
/-- The new boxes: the k-th has the number c + k, and is read out of the old ones. -/
def BoxIs (bs : Boxes) (m : Mp) (z : Nat → Bool) (nb c k : Nat) (x : BoxC) : Prop :=
  (∃ T cs d b v cells, mget m k = some (some (b, v)) ∧ getBox bs b v = .var T cells ∧ encL bs m z nb cs cells = some d ∧ x = .var T (decL c cs d)) ∨
  (∃ (T : TypeId) (t : Ty) (xs : List t.den) (b v : Nat), mget m k = some (some (b, v)) ∧ getBox bs b v = .row T t xs ∧ x = .row T t xs) ∨
  (∃ (T : TypeId) (t : Ty), mget m k = some none ∧ x = .row T t [])
theorem look_decB : ∀ {l : List BSh} {j : Nat} {d : bsDen l}, encB bs m z nb j l = some d →
    (∀ i x, look (decB c j l d) i = some x → ∃ k, j ≤ k ∧ i = c + k ∧ x.1 = 0 ∧ BoxIs bs m z nb c k x.2) ∧ (∀ k, j ≤ k → k < j + lenB l → ∃ x, look (decB c j l d) (c + k) = some x)
  | [], j, d, h => ⟨fun i x hx => (by cases hx), fun k h1 h2 => (by simp only [lenB] at h2; omega)⟩
  | .var T cs :: l, j, d, h => by
    simp only [encB] at h
    split at h
    · rename_i b v hm
      split at h
      · rename_i T' cells hbox
        obtain ⟨hT, h⟩ := bif_some h
        have hT := Nat.eq_of_beq_eq_true hT
        subst hT
        split at h
        · rename_i d1 hd1
          split at h
          · rename_i r hr
            simp only [Option.some.injEq] at h
            subst h
            obtain ⟨i1, i2⟩ := look_decB hr
            refine ⟨fun i x hx => ?_, fun k h1 h2 => ?_⟩
            · by_cases e : c + j = i
              · subst e
                simp only [decB, look_cons_eq, Option.some.injEq] at hx
                subst hx
                exact ⟨j, Nat.le_refl _, rfl, rfl, .inl ⟨_, cs, d1, b, v, cells, hm, hbox, hd1, rfl⟩⟩
              · simp only [decB, look_cons_ne _ _ e] at hx
                obtain ⟨k, k1, k2⟩ := i1 i x hx
                exact ⟨k, by omega, k2⟩
            · by_cases e : k = j
              · subst e
                simp only [decB, look_cons_eq]
                exact ⟨_, rfl⟩
              · simp only [decB]
                rw [look_cons_ne _ _ (by omega)]
                exact i2 k (by omega) (by simp only [lenB] at h2; omega)
          · cases h
        · cases h
      · cases h
    · cases h
  | .row T t :: l, j, d, h => by
    simp only [encB] at h
    split at h
    · rename_i b v hm
      split at h
      · rename_i T' t' xs hbox
        obtain ⟨hT, h⟩ := bif_some h
        have hT := Nat.eq_of_beq_eq_true hT
        subst hT
        split at h
        · rename_i et
          subst et
          split at h
          · rename_i r hr
            simp only [Option.some.injEq] at h
            subst h
            obtain ⟨i1, i2⟩ := look_decB hr
            refine ⟨fun i x hx => ?_, fun k h1 h2 => ?_⟩
            · by_cases e : c + j = i
              · subst e
                simp only [decB, look_cons_eq, Option.some.injEq] at hx
                subst hx
                exact ⟨j, Nat.le_refl _, rfl, rfl, .inr (.inl ⟨_, t', xs, b, v, hm, hbox, rfl⟩)⟩
              · simp only [decB, look_cons_ne _ _ e] at hx
                obtain ⟨k, k1, k2⟩ := i1 i x hx
                exact ⟨k, by omega, k2⟩
            · by_cases e : k = j
              · subst e
                simp only [decB, look_cons_eq]
                exact ⟨_, rfl⟩
              · simp only [decB]
                rw [look_cons_ne _ _ (by omega)]
                exact i2 k (by omega) (by simp only [lenB] at h2; omega)
          · cases h
        · cases h
      · cases h
    · rename_i hm
      split at h
      · rename_i r hr
        simp only [Option.some.injEq] at h
        subst h
        obtain ⟨i1, i2⟩ := look_decB hr
        refine ⟨fun i x hx => ?_, fun k h1 h2 => ?_⟩
        · by_cases e : c + j = i
          · subst e
            simp only [decB, look_cons_eq, Option.some.injEq] at hx
            subst hx
            exact ⟨j, Nat.le_refl _, rfl, rfl, .inr (.inr ⟨T, t, hm, rfl⟩)⟩
          · simp only [decB, look_cons_ne _ _ e] at hx
            obtain ⟨k, k1, k2⟩ := i1 i x hx
            exact ⟨k, by omega, k2⟩
        · by_cases e : k = j
          · subst e
            simp only [decB, look_cons_eq]
            exact ⟨_, rfl⟩
          · simp only [decB]
            rw [look_cons_ne _ _ (by omega)]
            exact i2 k (by omega) (by simp only [lenB] at h2; omega)
      · cases h
    · cases h
section
variable {p : PSh} {dB : bsDen p.boxes}
variable (hc : mchk m m = true) (hb : BsRel E.ET g bs w) (hB : encB bs m z (lenB p.boxes) 0 p.boxes = some dB)
include hc hb hB
theorem canon_getVar {k : Nat} {T : TypeId} {cells : List AV} (h : getBox (decB c 0 p.boxes dB) (c + k) 0 = .var T cells) :
    ∃ cs d b v cells', mget m k = some (some (b, v)) ∧ getBox bs b v = .var T cells' ∧ encL bs m z (lenB p.boxes) cs cells' = some d ∧ cells = decL c cs d := by
  obtain ⟨i1, _⟩ := look_decB (c := c) hB
  have hl := getBox_look h (by simp)
  obtain ⟨k', _, e, _, hbox⟩ := i1 _ _ hl
  have : k' = k := by omega
  subst this
  rcases hbox with ⟨T', cs, d, b, v, cells', h1, h2, h3, h4⟩ | ⟨T', t, xs, b, v, h1, h2, h3⟩ | ⟨T', t, h1, h2⟩
  · simp only [BoxC.var.injEq] at h4
    obtain ⟨rfl, rfl⟩ := h4
    exact ⟨cs, d, b, v, cells', h1, h2, h3, rfl⟩
  · cases h3
  · cases h2
theorem canon_nv {k : Nat} (h : k < lenB p.boxes) : 0 < nextVer (decB c 0 p.boxes dB) (c + k) := by
  obtain ⟨_, i2⟩ := look_decB (c := c) hB
  obtain ⟨x, hx⟩ := i2 k (Nat.zero_le _) (by omega)
  simp only [nextVer, hx]
  omega
theorem canon_caps : ∀ {ks : List Nat} {l : List AV} {vs : List Value}, encK m (lenB p.boxes) ks l = true → All2 (capR g bs) l vs → All2 (capR (canonG g m z c) (decB c 0 p.boxes dB)) (decK c ks) vs
  | [], [], [], _, _ => trivial
  | [], [], _ :: _, _, hl => hl.elim
  | [], _ :: _, _, h, _ => by simp [encK] at h
  | k :: ks, [], _, h, _ => by simp [encK] at h
  | k :: ks, x :: l, [], h, hl => hl.elim
  | k :: ks, x :: l, u :: vs, h, hl => by
    cases x with
    | ref b v off =>
      simp only [encK, Bool.and_eq_true] at h
      obtain ⟨h1, h2, h'⟩ := h
      have h2 := Nat.eq_of_beq_eq_true h2
      subst h2
      obtain ⟨h3, h4⟩ := mis_of h1
      refine ⟨⟨canon_nv hc hb hB h4, hl.1.2.1, fun T cells hbox => ?_⟩, canon_caps h' hl.2⟩
      obtain ⟨cs, d', b', v', cells', k1, k2, k3, k4⟩ := canon_getVar hc hb hB hbox
      rw [h3] at k1
      simp only [Option.some.injEq, Prod.mk.injEq] at k1
      obtain ⟨rfl, rfl⟩ := k1
      rw [canonG_hd h3]
      exact hl.1.2.2 T cells' k2
    | _ => simp [encK] at h
theorem canon_leaf : ∀ {ls : List LSh} {l : List AV} {vs : List Value} {d : lsDen ls}, encL bs m z (lenB p.boxes) ls l = some d → All2 (LRel E.ET g bs w) l vs →
    All2 (LRel E.ET (canonG g m z c) (decB c 0 p.boxes dB) w) (decL c ls d) vs
  | [], [], [], d, h, hl => trivial
  | [], [], _ :: _, d, h, hl => hl.elim
  | [], _ :: _, _, d, h, hl => by simp [encL] at h
  | .v t :: ls, [], vs, d, h, hl => by simp [encL] at h
  | .v t :: ls, x :: l, [], d, h, hl => hl.elim
  | .v t :: ls, x :: l, u :: vs, d, h, hl => by
    simp only [encL] at h
    split at h
    · rename_i y hy
      split at h
      · rename_i r hr
        simp only [Option.some.injEq] at h
        subst h
        exact ⟨fz_rel hb hy hl.1, canon_leaf hr hl.2⟩
      · cases h
    · cases h
  | .top :: ls, [], vs, d, h, hl => by simp [encL] at h
  | .top :: ls, x :: l, [], d, h, hl => hl.elim
  | .top :: ls, x :: l, u :: vs, d, h, hl => by
    simp only [encL] at h
    exact ⟨trivial, canon_leaf h hl.2⟩
  | .ref k off :: ls, [], vs, d, h, hl => by simp [encL] at h
  | .ref k off :: ls, x :: l, [], d, h, hl => hl.elim
  | .ref k off :: ls, x :: l, u :: vs, d, h, hl => by
    cases x with
    | ref b v off' =>
      simp only [encL] at h
      obtain ⟨h1', h'⟩ := bif_some h
      obtain ⟨h1, h2⟩ := and3 h1'
      have h2 := Nat.eq_of_beq_eq_true h2
      subst h2
      obtain ⟨h3, h4⟩ := mis_of h1
      refine ⟨⟨canon_nv hc hb hB h4, hl.1.2.1, fun T cells hbox => ?_⟩, canon_leaf h' hl.2⟩
      obtain ⟨cs, d', b', v', cells', k1, k2, k3, k4⟩ := canon_getVar hc hb hB hbox
      rw [h3] at k1
      simp only [Option.some.injEq, Prod.mk.injEq] at k1
      obtain ⟨rfl, rfl⟩ := k1
      rw [canonG_hd h3]
      exact hl.1.2.2 T cells' k2
    | _ => simp [encL] at h
  | .osl k :: ls, [], vs, d, h, hl => by simp [encL] at h
  | .osl k :: ls, x :: l, [], d, h, hl => hl.elim
  | .osl k :: ls, x :: l, u :: vs, d, h, hl => by
    cases x with
    | osl b v =>
      simp only [encL] at h
      obtain ⟨h1, h⟩ := bif_some h
      obtain ⟨h3, h4⟩ := mis_of h1
      refine ⟨⟨canon_nv hc hb hB h4, hl.1.2.1, fun T t xs hbox => ?_⟩, canon_leaf h hl.2⟩
      obtain ⟨i1, _⟩ := look_decB (c := c) hB
      have hl' := getBox_look hbox (by simp)
      obtain ⟨k', _, e, _, hbox'⟩ := i1 _ _ hl'
      have : k' = k := by omega
      subst this
      rcases hbox' with ⟨T', cs, d', b', v', cells', h1, h2, h3', h4'⟩ | ⟨T', t', xs', b', v', h1, h2, h3'⟩ | ⟨T', t', h1, h2⟩
      · cases h4'
      · rw [h3] at h1
        simp only [Option.some.injEq, Prod.mk.injEq] at h1
        obtain ⟨rfl, rfl⟩ := h1
        rw [canonG_hd h3]
        exact hl.1.2.2 _ _ _ h2
      · rw [h3] at h1; cases h1
    | nilS =>
      simp only [encL] at h
      obtain ⟨h1, h⟩ := bif_some h
      obtain ⟨h3, h4⟩ := mnil_of h1
      have hu : u = .slice none 0 0 := hl.1
      refine ⟨⟨canon_nv hc hb hB h4, by rw [hu]; rfl, fun T t xs hbox => ?_⟩, canon_leaf h hl.2⟩
      rw [canonG_nil h3]; exact hu
    | _ => simp [encL] at h
  | .fn f ks :: ls, [], vs, d, h, hl => by simp [encL] at h
  | .fn f ks :: ls, x :: l, [], d, h, hl => hl.elim
  | .fn f ks :: ls, x :: l, u :: vs, d, h, hl => by
    cases x with
    | fn f' caps =>
      simp only [encL] at h
      obtain ⟨h1, h'⟩ := bif_some h
      obtain ⟨h1, h2⟩ := and3 h1
      have h1 := Nat.eq_of_beq_eq_true h1
      subst h1
      obtain ⟨cv, e, ha⟩ := hl.1
      exact ⟨⟨cv, e, canon_caps hc hb hB h2 ha⟩, canon_leaf h' hl.2⟩
    | _ => simp [encL] at h
theorem canon_boxes : BsRel E.ET (canonG g m z c) (decB c 0 p.boxes dB) w := by
  intro i ver x hl
  obtain ⟨i1, _⟩ := look_decB (c := c) hB
  obtain ⟨k, _, rfl, e, hbox⟩ := i1 _ _ hl
  rcases hbox with ⟨T, cs, d, b, v, cells, h1, h2, h3, h4⟩ | ⟨T, t, xs, b, v, h1, h2, h3⟩ | ⟨T, t, h1, h2⟩
  · simp only at h4
    subst h4
    obtain ⟨blk, arr, k1, k2, k3, k4⟩ := hb b v _ (getBox_look h2 (by simp))
    exact ⟨blk, arr, by rw [canonG_hd h1]; exact k1, canonG_in k2 (mfind_of hc h1).1, k3, canon_leaf hc hb hB h3 k4⟩
  · simp only at h3
    subst h3
    obtain ⟨cs, k1, k2, k3⟩ := hb b v _ (getBox_look h2 (by simp))
    exact ⟨cs, by rw [canonG_hd h1]; exact k1, k2.mono fun _ _ => canon_rep, fun blk hblk => canonG_in (k3 blk (by rw [canonG_hd h1] at hblk; exact hblk)) (mfind_of hc h1).1⟩
  · simp only at h2
    subst h2
    refine ⟨[], by rw [canonG_nil h1]; exact w.ownsRow_nil 0 T t.sz, rfl, fun blk hblk => ?_⟩
    rw [canonG_nil h1] at hblk
    simp [Value.ownBlock] at hblk
theorem canon_slot {ag : Bool} {ls : List LSh} {x : AV} {u : Value} {d : lsDen ls} (h : encS1 bs m z (lenB p.boxes) ag ls x = some d) (hx : VRel E.ET g bs w x u) :
    VRel E.ET (canonG g m z c) (decB c 0 p.boxes dB) w (decS1 ag (decL c ls d)) u := by
  unfold encS1 at h
  split at h
  · obtain ⟨vs, rfl, hl⟩ := hx
    exact ⟨vs, rfl, canon_leaf hc hb hB h hl⟩
  · cases h
  · cases h
  · cases h
  · rename_i h1 h2
    have hL : LRel E.ET g bs w x u := by
      cases x <;> first | exact hx | exact (h1 _ rfl).elim | exact (h2 _ rfl).elim
    have := canon_leaf (c := c) hc hb hB h (vs := [u]) ⟨hL, trivial⟩
    unfold decS1
    match hd : decL c ls d, this with
    | [y], hy => exact hy.1.up
theorem canon_slots : ∀ {ls : List SSh} {l : List AV} {d : ssDen ls}, encS bs m z (lenB p.boxes) ls l = some d → ∀ (f : Nat → Value), (∀ i, VRel E.ET g bs w (getS l i) (f i)) →
    ((decS c ls d).length ≤ l.length ∧ ∀ i, VRel E.ET (canonG g m z c) (decB c 0 p.boxes dB) w (getS (decS c ls d) i) (f i))
  | [], l, d, h, f, hl => ⟨Nat.zero_le _, fun i => trivial⟩
  | .any :: ls, l, d, h, f, hl => by
    simp only [encS] at h
    split at h
    · rename_i x a
      obtain ⟨h1, h2⟩ := canon_slots h (fun i => f (i + 1)) (fun i => hl (i + 1))
      refine ⟨by simp only [decS, List.length_cons]; omega, fun i => ?_⟩
      cases i with
      | zero => trivial
      | succ i => exact h2 i
    · cases h
  | .mk ag lss :: ls, l, d, h, f, hl => by
    simp only [encS] at h
    split at h
    · rename_i x a
      split at h
      · rename_i y hy
        split at h
        · rename_i r hr
          simp only [Option.some.injEq] at h
          subst h
          obtain ⟨h1, h2⟩ := canon_slots hr (fun i => f (i + 1)) (fun i => hl (i + 1))
          refine ⟨by simp only [decS, List.length_cons]; omega, fun i => ?_⟩
          cases i with
          | zero => exact canon_slot hc hb hB hy (hl 0)
          | succ i => exact h2 i
        · cases h
      · cases h
    · cases h
end
theorem canon_fr (hz : mchk m m = true) : Fr g w (canonG g m z c) w := by
  refine ⟨rfl, rfl, rfl, Nat.le_refl _, fun b h _ => ⟨canonG_none h, rfl⟩, fun b h _ => ⟨?_, rfl⟩⟩
  have : mfind m 0 = none := by
    cases hm : mfind m 0 with
    | none => rfl
    | some k =>
      exact (mfind_ne0 hz hm).elim
  simp [canonG, h, this]
/-- A state told anew. -/
theorem canon {p : PSh} {d : p.den} (h : p.enc z sl bs = some d) (hb : BsRel E.ET g bs w) (f : Nat → Value) (hl : ∀ i, VRel E.ET g bs w (getS sl i) (f i)) :
    ((p.decS c d).length ≤ sl.length ∧ ∀ i, VRel E.ET (canonG g (p.mp sl bs) z c) (p.decB c d) w (getS (p.decS c d) i) (f i)) ∧
    BsRel E.ET (canonG g (p.mp sl bs) z c) (p.decB c d) w ∧ Fr g w (canonG g (p.mp sl bs) z c) w := by
  unfold PSh.enc at h
  obtain ⟨hc, h⟩ := bif_some h
  split at h
  · rename_i x hx
    split at h
    · rename_i y hy
      simp only [Option.some.injEq] at h
      subst h
      exact ⟨canon_slots hc hb hx hy f hl, canon_boxes hc hb hx, canon_fr hc⟩
    · cases h
  · cases h
end
end Go.Proofs.Ytfdppbfefplikaa.Ev
