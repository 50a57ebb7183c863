/- States in a fixed form: the data of a state told by a shape, and the other way; a state told anew stands for the same machine. -/
import Derived.Test.YtcnngodgngmghaaGreatDoorEvC
namespace Go.Proofs.YtcnngodgngmghaaGreatDoor.Ev
open Go
open Go.RowKit
set_option linter.unusedVariables false
set_option linter.unusedSimpArgs false
set_option linter.unusedSectionVars false

inductive LSh where
  | top | v (t : Ty) | ref (k off : Nat) | osl (k : Nat) | opt (k : Nat) | fn (f : FuncId) (ks : List Nat)
inductive BSh where
  | var (T : TypeId) (cells : List LSh) | row (T : TypeId) (t : Ty)
inductive SSh where
  | any | mk (ag : Bool) (ls : List LSh)
structure PSh where
  boxes : List BSh
  slots : List SSh
@[reducible] def lsDen : List LSh → Type
  | [] => Unit
  | .v t :: l => t.den × lsDen l
  | .top :: l => lsDen l
  | .ref _ _ :: l => lsDen l
  | .osl _ :: l => lsDen l
  | .opt _ :: l => lsDen l
  | .fn _ _ :: l => lsDen l
@[reducible] def ssDen : List SSh → Type
  | [] => Unit
  | .any :: l => ssDen l
  | .mk _ ls :: l => lsDen ls × ssDen l
@[reducible] def bsDen : List BSh → Type
  | [] => Unit
  | .var _ cs :: l => lsDen cs × bsDen l
  | .row _ t :: l => List t.den × bsDen l
@[reducible] def PSh.den (p : PSh) : Type := bsDen p.boxes × ssDen p.slots
def decK (c : Nat) : List Nat → List AV
  | [] => []
  | k :: l => .ref (c + k) 0 0 :: decK c l
def decL (c : Nat) : (l : List LSh) → lsDen l → List AV
  | [], _ => []
  | .v t :: l, d => .val t d.1 :: decL c l d.2
  | .top :: l, d => .top :: decL c l d
  | .ref k off :: l, d => .ref (c + k) 0 off :: decL c l d
  | .osl k :: l, d => .osl (c + k) 0 :: decL c l d
  | .opt k :: l, d => .oel (c + k) 0 0 0 :: decL c l d
  | .fn f ks :: l, d => .fn f (decK c ks) :: decL c l d
def decS1 (ag : Bool) (l : List AV) : AV := cond ag (.agg l) (match l with | [x] => x | _ => .top)
def decS (c : Nat) : (l : List SSh) → ssDen l → List AV
  | [], _ => []
  | .any :: l, d => .top :: decS c l d
  | .mk ag ls :: l, d => decS1 ag (decL c ls d.1) :: decS c l d.2
def decB (c : Nat) : Nat → (l : List BSh) → bsDen l → Boxes
  | _, [], _ => []
  | k, .var T cs :: l, d => (c + k, (0, .var T (decL c cs d.1))) :: decB c (k + 1) l d.2
  | k, .row T t :: l, d => (c + k, (0, .row T t d.1)) :: decB c (k + 1) l d.2
abbrev Mp := List (Nat × Option (Nat × Nat))
def mget : Mp → Nat → Option (Option (Nat × Nat))
  | [], _ => none
  | (i, x) :: r, k => bif Nat.beq i k then some x else mget r k
def mfind : Mp → Nat → Option Nat
  | [], _ => none
  | (k, some (b', _)) :: r, b => bif Nat.beq b' b then some k else mfind r b
  | (_, none) :: r, b => mfind r b
def madd (m : Mp) (k : Nat) (x : Option (Nat × Nat)) : Mp :=
  match mget m k with
  | some _ => m
  | none => (k, x) :: m
def mcaps : Mp → List Nat → List AV → Mp
  | m, k :: ks, .ref b v _ :: l => mcaps (madd m k (some (b, v))) ks l
  | m, _, _ => m
def mleaf (m : Mp) : LSh → AV → Mp
  | .ref k _, .ref b v _ => madd m k (some (b, v))
  | .osl k, .osl b v => madd m k (some (b, v))
  | .osl k, .nilS => madd m k none
  | .opt k, .oel b v _ _ => madd m k (some (b, v))
  | .fn _ ks, .fn _ caps => mcaps m ks caps
  | _, _ => m
def mleaves : Mp → List LSh → List AV → Mp
  | m, s :: l, x :: a => mleaves (mleaf m s x) l a
  | m, _, _ => m
def mslots : Mp → List SSh → List AV → Mp
  | m, .mk _ ls :: l, x :: a => mslots (mleaves m ls (leaves x)) l a
  | m, .any :: l, _ :: a => mslots m l a
  | m, _, _ => m
def mboxes (bs : Boxes) : Nat → List BSh → Mp → Mp
  | k, .var _ cs :: l, m => mboxes bs (k + 1) l (match mget m k with
    | some (some (b, v)) => match getBox bs b v with
      | .var _ cells => mleaves m cs cells
      | _ => m
    | _ => m)
  | k, .row _ _ :: l, m => mboxes bs (k + 1) l m
  | _, [], m => m
def PSh.mp (p : PSh) (slots : List AV) (bs : Boxes) : Mp := mboxes bs 0 p.boxes (mslots [] p.slots slots)
def mchk (m : Mp) : Mp → Bool
  | [] => true
  | (k, some (b, _)) :: r => (match mfind m b with | some k' => Nat.beq k' k | none => false) && !Nat.beq b 0 && mchk m r
  | (_, none) :: r => mchk m r
def mis (m : Mp) (nb k b v : Nat) : Bool :=
  match mget m k with
  | some (some (b', v')) => Nat.beq b' b && Nat.beq v' v && Nat.blt k nb
  | _ => false
def mnil (m : Mp) (nb k : Nat) : Bool :=
  match mget m k with
  | some none => Nat.blt k nb
  | _ => false
def encK (m : Mp) (nb : Nat) : List Nat → List AV → Bool
  | [], [] => true
  | k :: ks, .ref b v off :: l => mis m nb k b v && (Nat.beq off 0 && encK m nb ks l)
  | _, _ => false
def free (m : Mp) (z : Nat → Bool) (b : Nat) : Bool :=
  match mfind m b with
  | some _ => false
  | none => z b && !Nat.beq b 0
def leafF (bs : Boxes) (t : Ty) : List AV → Option (t.den × List AV)
  | a :: l => match asTy bs t a with
    | some x => some (x, l)
    | none => none
  | [] => none
def gatherF (bs : Boxes) (m : Mp) (z : Nat → Bool) : (t : Ty) → List AV → Option (t.den × List AV)
  | .pair a b, l => match gatherF bs m z a l with
    | some (x, l) => match gatherF bs m z b l with
      | some (y, l) => some ((x, y), l)
      | none => none
    | none => none
  | .unit, l => some ((), l)
  | .nptr t, l => match l with
    | .ref b v 0 :: l => bif free m z b then match getBox bs b v with
      | .var _ cells => match gatherF bs m z t cells with
        | some (x, []) => some (some x, l)
        | _ => none
      | _ => none else none
    | l => leafF bs (.nptr t) l
  | .sl t, l => match l with
    | .osl b v :: l => bif free m z b then match getBox bs b v with
      | .row _ t' xs => if h : t' = t then some (h ▸ xs, l) else none
      | _ => none else none
    | l => leafF bs (.sl t) l
  | .int k, l => leafF bs (.int k) l
  | .bool, l => leafF bs .bool l
  | .str, l => leafF bs .str l
  | .err, l => leafF bs .err l
def fz (bs : Boxes) (m : Mp) (z : Nat → Bool) (t : Ty) (x : AV) : Option t.den :=
  match gatherF bs m z t [x] with
  | some (y, []) => some y
  | _ => none
section
variable (bs : Boxes) (m : Mp) (z : Nat → Bool) (nb : Nat)
def encL : (l : List LSh) → List AV → Option (lsDen l)
  | [], [] => some ()
  | .v t :: l, x :: a => match fz bs m z t x with
    | some y => match encL l a with
      | some r => some (y, r)
      | none => none
    | none => none
  | .top :: l, _ :: a => encL l a
  | .ref k off :: l, .ref b v off' :: a => bif mis m nb k b v && Nat.beq off off' then encL l a else none
  | .osl k :: l, .osl b v :: a => bif mis m nb k b v then encL l a else none
  | .osl k :: l, .nilS :: a => bif mnil m nb k then encL l a else none
  | .opt k :: l, .oel b v i off :: a => bif mis m nb k b v && (Nat.beq off 0 && decide (i = 0)) then encL l a else none
  | .fn f ks :: l, .fn f' caps :: a => bif Nat.beq f f' && encK m nb ks caps then encL l a else none
  | _, _ => none
def encS1 (ag : Bool) (ls : List LSh) (x : AV) : Option (lsDen ls) :=
  match ag, x with
  | true, .agg l => encL bs m z nb ls l
  | true, _ => none
  | false, .agg _ => none
  | false, .tup _ => none
  | false, x => encL bs m z nb ls [x]
def encS : (l : List SSh) → List AV → Option (ssDen l)
  | [], _ => some ()
  | .any :: l, a => match a with
    | _ :: a => encS l a
    | [] => none
  | .mk ag ls :: l, a => match a with
    | x :: a => match encS1 bs m z nb ag ls x with
      | some y => match encS l a with
        | some r => some (y, r)
        | none => none
      | none => none
    | [] => none
def encB : Nat → (l : List BSh) → Option (bsDen l)
  | _, [] => some ()
  | k, .var T cs :: l => match mget m k with
    | some (some (b, v)) => match getBox bs b v with
      | .var T' cells => bif Nat.beq T' T then match encL bs m z nb cs cells with
        | some d => match encB (k + 1) l with
          | some r => some (d, r)
          | none => none
        | none => none else none
      | _ => none
    | _ => none
  | k, .row T t :: l => match mget m k with
    | some (some (b, v)) => match getBox bs b v with
      | .row T' t' xs => bif Nat.beq T' T then (if h : t' = t then match encB (k + 1) l with
        | some r => some (h ▸ xs, r)
        | none => none else none) else none
      | _ => none
    | some none => match encB (k + 1) l with
      | some r => some ([], r)
      | none => none
    | _ => none
end
def lenB : List BSh → Nat
  | [] => 0
  | _ :: l => lenB l + 1
def PSh.enc (p : PSh) (z : Nat → Bool) (slots : List AV) (bs : Boxes) : Option p.den :=
  bif mchk (p.mp slots bs) (p.mp slots bs) then
    match encB bs (p.mp slots bs) z (lenB p.boxes) 0 p.boxes with
    | some x => match encS bs (p.mp slots bs) z (lenB p.boxes) p.slots slots with
      | some y => some (x, y)
      | none => none
    | none => none
  else none
def PSh.decB (p : PSh) (c : Nat) (d : p.den) : Boxes := Ev.decB c 0 p.boxes d.1
def PSh.decS (p : PSh) (c : Nat) (d : p.den) : List AV := Ev.decS c p.slots d.2

def canonG (g : Gh) (m : Mp) (z : Nat → Bool) (c : Nat) : Gh :=
  ⟨fun blk => match g.O blk with
    | none => none
    | some b => match mfind m b with
      | some k => some (c + k)
      | none => if z b && !Nat.beq b 0 then none else some 0,
   fun i => match mget m (i - c) with
    | some (some (b, _)) => g.hd b
    | _ => .slice none 0 0⟩
section
variable {P : Program} {E : Env} {R : Type} {out : R} {g0 g g' : Gh} {w0 w w' : World} {sl : List AV} {bs0 bs bs' : Boxes} {a : Act} {m : Mp} {z : Nat → Bool} {nb c k b v : Nat}
theorem mfind_of : ∀ {r : Mp} {k b v : Nat}, mchk m r = true → mget r k = some (some (b, v)) → mfind m b = some k ∧ b ≠ 0
  | [], _, _, _, _, h => by cases h
  | (i, x) :: r, k, b, v, hc, h => by
    simp only [mget] at h
    cases hb : Nat.beq i k with
    | true =>
      rw [hb] at h
      have e := Nat.eq_of_beq_eq_true hb
      subst e
      simp only [cond_true, Option.some.injEq] at h
      subst h
      simp only [mchk, Bool.and_eq_true] at hc
      obtain ⟨⟨h1, h2⟩, _⟩ := hc
      refine ⟨?_, ne0 h2⟩
      split at h1
      · rename_i k' hk'
        rw [hk', Nat.eq_of_beq_eq_true h1]
      · cases h1
    | false =>
      rw [hb] at h
      refine mfind_of (r := r) ?_ h
      cases x with
      | none => exact hc
      | some x =>
        simp only [mchk, Bool.and_eq_true] at hc
        exact hc.2
theorem mfind_mem : ∀ {r : Mp} {b k : Nat}, mfind r b = some k → ∃ v, (k, some (b, v)) ∈ r
  | [], _, _, h => by cases h
  | (k', none) :: r, b, k, h => by
    obtain ⟨v, hv⟩ := mfind_mem (r := r) h
    exact ⟨v, List.mem_cons_of_mem _ hv⟩
  | (k', some (b', v')) :: r, b, k, h => by
    simp only [mfind] at h
    cases hb : Nat.beq b' b with
    | true =>
      rw [hb] at h
      simp only [cond_true, Option.some.injEq] at h
      have e := Nat.eq_of_beq_eq_true hb
      subst e; subst h
      exact ⟨v', List.mem_cons_self ..⟩
    | false =>
      rw [hb] at h
      obtain ⟨v, hv⟩ := mfind_mem (r := r) h
      exact ⟨v, List.mem_cons_of_mem _ hv⟩
theorem mchk_mem : ∀ {r : Mp} {b k v : Nat}, mchk m r = true → (k, some (b, v)) ∈ r → b ≠ 0
  | [], _, _, _, _, h => by cases h
  | (k', none) :: r, b, k, v, hc, h => by
    cases h with
    | tail _ h => exact mchk_mem (r := r) hc h
  | (k', some (b', v')) :: r, b, k, v, hc, h => by
    simp only [mchk, Bool.and_eq_true] at hc
    cases h with
    | head => exact ne0 hc.1.2
    | tail _ h => exact mchk_mem (r := r) hc.2 h
theorem mfind_ne0 (hc : mchk m m = true) {k : Nat} (h : mfind m 0 = some k) : False := by
  obtain ⟨v, hv⟩ := mfind_mem h
  exact mchk_mem hc hv rfl
theorem mis_of (h : mis m nb k b v = true) : mget m k = some (some (b, v)) ∧ k < nb := by
  unfold mis at h
  split at h
  · rename_i b' v' hk
    simp only [Bool.and_eq_true] at h
    obtain ⟨⟨h1, h2⟩, h3⟩ := h
    rw [hk, Nat.eq_of_beq_eq_true h1, Nat.eq_of_beq_eq_true h2]
    exact ⟨rfl, Nat.le_of_ble_eq_true h3⟩
  · cases h
theorem mnil_of (h : mnil m nb k = true) : mget m k = some none ∧ k < nb := by
  unfold mnil at h
  split at h
  · rename_i hk
    exact ⟨hk, Nat.le_of_ble_eq_true h⟩
  · cases h
theorem canonG_none {blk : Nat} (h : g.O blk = none) : (canonG g m z c).O blk = none := by simp only [canonG, h]
theorem canonG_ok {blk : Nat} (h : okB g w blk) : okB (canonG g m z c) w blk := ⟨canonG_none h.1, h.2.1, h.2.2⟩
theorem canonG_free {blk b : Nat} (h : g.O blk = some b) (hf : free m z b = true) : (canonG g m z c).O blk = none := by
  unfold free at hf
  split at hf
  · cases hf
  · rename_i hm
    simp only [canonG, h, hm, hf, if_true]
theorem canonG_in {blk b k : Nat} (h : g.O blk = some b) (hf : mfind m b = some k) : (canonG g m z c).O blk = some (c + k) := by
  simp only [canonG, h, hf]
theorem canonG_hd {k b v : Nat} (h : mget m k = some (some (b, v))) : (canonG g m z c).hd (c + k) = g.hd b := by
  simp only [canonG, Nat.add_sub_cancel_left, h]
theorem canonG_nil {k : Nat} (h : mget m k = some none) : (canonG g m z c).hd (c + k) = .slice none 0 0 := by
  simp only [canonG, Nat.add_sub_cancel_left, h]
theorem canon_rep {t : Ty} {x : t.den} {cs : List Value} (h : Rep E.ET (okB g w) w t x cs) : Rep E.ET (okB (canonG g m z c) w) w t x cs :=
  Rep.mono (fun b hb => ⟨canonG_ok hb, rfl⟩) h
theorem leafF_rel {t : Ty} {l l' : List AV} {vs : List Value} {y : t.den} (h : leafF bs t l = some (y, l')) (hl : All2 (LRel E.ET g bs w) l vs) :
    ∃ c1 c2, vs = c1 ++ c2 ∧ Rep E.ET (okB (canonG g m z c) w) w t y c1 ∧ All2 (LRel E.ET g bs w) l' c2 := by
  cases l with
  | nil => cases h
  | cons a l =>
    cases vs with
    | nil => exact hl.elim
    | cons v vs =>
      simp only [leafF] at h
      split at h
      · rename_i x hx
        simp only [Option.some.injEq, Prod.mk.injEq] at h
        obtain ⟨rfl, rfl⟩ := h
        exact ⟨[v], vs, rfl, canon_rep (asTy_rel hx hl.1), hl.2⟩
      · cases h
theorem gatherF_rel (hb : BsRel E.ET g bs w) : ∀ {t : Ty} {l l' : List AV} {vs : List Value} {y : t.den}, gatherF bs m z t l = some (y, l') → All2 (LRel E.ET g bs w) l vs →
    ∃ c1 c2, vs = c1 ++ c2 ∧ Rep E.ET (okB (canonG g m z c) w) w t y c1 ∧ All2 (LRel E.ET g bs w) l' c2
  | .pair a b, l, l', vs, y, h, hl => by
    simp only [gatherF] at h
    split at h
    · rename_i x l1 h1
      split at h
      · rename_i z l2 h2
        simp only [Option.some.injEq, Prod.mk.injEq] at h
        obtain ⟨rfl, rfl⟩ := h
        obtain ⟨c1, c2, e, k1, k2⟩ := gatherF_rel hb h1 hl
        obtain ⟨d1, d2, e2, k3, k4⟩ := gatherF_rel hb h2 k2
        exact ⟨c1 ++ d1, d2, by rw [e, e2, List.append_assoc], ⟨c1, d1, rfl, k1, k3⟩, k4⟩
      · cases h
    · cases h
  | .unit, l, l', vs, y, h, hl => by
    simp only [gatherF, Option.some.injEq, Prod.mk.injEq] at h
    obtain ⟨_, rfl⟩ := h
    exact ⟨[], vs, rfl, rfl, hl⟩
  | .nptr t, l, l', vs, y, h, hl => by
    simp only [gatherF] at h
    split at h
    · rename_i b v l1
      cases vs with
      | nil => exact hl.elim
      | cons u vs =>
        obtain ⟨hf, h⟩ := bif_some h
        split at h
        · rename_i T cells hbox
          split at h
          · rename_i x hx
            simp only [Option.some.injEq, Prod.mk.injEq] at h
            obtain ⟨rfl, rfl⟩ := h
            obtain ⟨blk, h1, h2⟩ := hl.1.2.2 T cells hbox
            obtain ⟨blk', arr, k1, k2, k3, k4⟩ := hb b v _ (getBox_look hbox (by simp))
            rw [h1] at k1
            simp only [Value.pointer.injEq, Option.some.injEq, Addr.mk.injEq, and_true] at k1
            subst k1
            obtain ⟨c1, c2, e, r1, r2⟩ := gatherF_rel hb hx k4
            have : c2 = [] := by cases c2 with | nil => rfl | cons _ _ => exact r2.elim
            subst this
            rw [List.append_nil] at e
            refine ⟨[u], vs, rfl, ?_, hl.2⟩
            exact ⟨blk, 0, c1, by rw [h2], ⟨canonG_free k2 hf, (Array.getElem?_eq_some_iff.1 k3).1, fun o ho => by rw [k3] at ho; cases ho; rfl⟩, r1, by rw [← e]; exact lies_of_row k3⟩
          · cases h
        · cases h
    · exact leafF_rel h hl
  | .sl t, l, l', vs, y, h, hl => by
    simp only [gatherF] at h
    split at h
    · rename_i b v l1
      cases vs with
      | nil => exact hl.elim
      | cons u vs =>
        obtain ⟨hf, h⟩ := bif_some h
        split at h
        · rename_i T t' xs hbox
          split at h
          · rename_i et
            subst et
            simp only [Option.some.injEq, Prod.mk.injEq] at h
            obtain ⟨rfl, rfl⟩ := h
            have h1 := hl.1.2.2 T t' xs hbox
            obtain ⟨cs, k1, k2, k3⟩ := hb b v _ (getBox_look hbox (by simp))
            rw [← h1] at k1 k3
            refine ⟨[u], vs, rfl, rep_row k1 (k2.mono fun _ _ => canon_rep) (fun blk hblk => ?_), hl.2⟩
            exact ⟨canonG_free (k3 blk hblk) hf, (ORow.lt k1 blk hblk).2, ORow.obj k1 hblk⟩
          · cases h
        · cases h
    · exact leafF_rel h hl
  | .int k, l, l', vs, y, h, hl => leafF_rel h hl
  | .bool, l, l', vs, y, h, hl => leafF_rel h hl
  | .str, l, l', vs, y, h, hl => leafF_rel h hl
  | .err, l, l', vs, y, h, hl => leafF_rel h hl
theorem fz_rel (hb : BsRel E.ET g bs w) {t : Ty} {x : AV} {u : Value} {y : t.den} (h : fz bs m z t x = some y) (hx : LRel E.ET g bs w x u) : Rep E.ET (okB (canonG g m z c) w) w t y [u] := by
  unfold fz at h
  split at h
  · rename_i y' hy
    simp only [Option.some.injEq] at h
    subst h
    obtain ⟨c1, c2, e, r1, r2⟩ := gatherF_rel (c := c) hb hy (vs := [u]) ⟨hx, trivial⟩
    have : c2 = [] := by cases c2 with | nil => rfl | cons _ _ => exact r2.elim
    subst this
    rw [List.append_nil] at e
    rw [e]; exact r1
  · cases h
def BoxIs (bs : Boxes) (m : Mp) (z : Nat → Bool) (nb c k : Nat) (x : BoxC) : Prop :=
  (∃ T cs d b v cells, mget m k = some (some (b, v)) ∧ getBox bs b v = .var T cells ∧ encL bs m z nb cs cells = some d ∧ x = .var T (decL c cs d)) ∨
  (∃ (T : TypeId) (t : Ty) (xs : List t.den) (b v : Nat), mget m k = some (some (b, v)) ∧ getBox bs b v = .row T t xs ∧ x = .row T t xs) ∨
  (∃ (T : TypeId) (t : Ty), mget m k = some none ∧ x = .row T t [])
theorem look_decB : ∀ {l : List BSh} {j : Nat} {d : bsDen l}, encB bs m z nb j l = some d →
    (∀ i x, look (decB c j l d) i = some x → ∃ k, j ≤ k ∧ i = c + k ∧ x.1 = 0 ∧ BoxIs bs m z nb c k x.2) ∧ (∀ k, j ≤ k → k < j + lenB l → ∃ x, look (decB c j l d) (c + k) = some x)
  | [], j, d, h => ⟨fun i x hx => (by cases hx), fun k h1 h2 => (by simp only [lenB] at h2; omega)⟩
  | .var T cs :: l, j, d, h => by
    simp only [encB] at h
    split at h
    · rename_i b v hm
      split at h
      · rename_i T' cells hbox
        obtain ⟨hT, h⟩ := bif_some h
        have hT := Nat.eq_of_beq_eq_true hT
        subst hT
        split at h
        · rename_i d1 hd1
          split at h
          · rename_i r hr
            simp only [Option.some.injEq] at h
            subst h
            obtain ⟨i1, i2⟩ := look_decB hr
            refine ⟨fun i x hx => ?_, fun k h1 h2 => ?_⟩
            · by_cases e : c + j = i
              · subst e
                simp only [decB, look_cons_eq, Option.some.injEq] at hx
                subst hx
                exact ⟨j, Nat.le_refl _, rfl, rfl, .inl ⟨_, cs, d1, b, v, cells, hm, hbox, hd1, rfl⟩⟩
              · simp only [decB, look_cons_ne _ _ e] at hx
                obtain ⟨k, k1, k2⟩ := i1 i x hx
                exact ⟨k, by omega, k2⟩
            · by_cases e : k = j
              · subst e
                simp only [decB, look_cons_eq]
                exact ⟨_, rfl⟩
              · simp only [decB]
                rw [look_cons_ne _ _ (by omega)]
                exact i2 k (by omega) (by simp only [lenB] at h2; omega)
          · cases h
        · cases h
      · cases h
    · cases h
  | .row T t :: l, j, d, h => by
    simp only [encB] at h
    split at h
    · rename_i b v hm
      split at h
      · rename_i T' t' xs hbox
        obtain ⟨hT, h⟩ := bif_some h
        have hT := Nat.eq_of_beq_eq_true hT
        subst hT
        split at h
        · rename_i et
          subst et
          split at h
          · rename_i r hr
            simp only [Option.some.injEq] at h
            subst h
            obtain ⟨i1, i2⟩ := look_decB hr
            refine ⟨fun i x hx => ?_, fun k h1 h2 => ?_⟩
            · by_cases e : c + j = i
              · subst e
                simp only [decB, look_cons_eq, Option.some.injEq] at hx
                subst hx
                exact ⟨j, Nat.le_refl _, rfl, rfl, .inr (.inl ⟨_, t', xs, b, v, hm, hbox, rfl⟩)⟩
              · simp only [decB, look_cons_ne _ _ e] at hx
                obtain ⟨k, k1, k2⟩ := i1 i x hx
                exact ⟨k, by omega, k2⟩
            · by_cases e : k = j
              · subst e
                simp only [decB, look_cons_eq]
                exact ⟨_, rfl⟩
              · simp only [decB]
                rw [look_cons_ne _ _ (by omega)]
                exact i2 k (by omega) (by simp only [lenB] at h2; omega)
          · cases h
        · cases h
      · cases h
    · rename_i hm
      split at h
      · rename_i r hr
        simp only [Option.some.injEq] at h
        subst h
        obtain ⟨i1, i2⟩ := look_decB hr
        refine ⟨fun i x hx => ?_, fun k h1 h2 => ?_⟩
        · by_cases e : c + j = i
          · subst e
            simp only [decB, look_cons_eq, Option.some.injEq] at hx
            subst hx
            exact ⟨j, Nat.le_refl _, rfl, rfl, .inr (.inr ⟨T, t, hm, rfl⟩)⟩
          · simp only [decB, look_cons_ne _ _ e] at hx
            obtain ⟨k, k1, k2⟩ := i1 i x hx
            exact ⟨k, by omega, k2⟩
        · by_cases e : k = j
          · subst e
            simp only [decB, look_cons_eq]
            exact ⟨_, rfl⟩
          · simp only [decB]
            rw [look_cons_ne _ _ (by omega)]
            exact i2 k (by omega) (by simp only [lenB] at h2; omega)
      · cases h
    · cases h
section
variable {p : PSh} {dB : bsDen p.boxes}
variable (hc : mchk m m = true) (hb : BsRel E.ET g bs w) (hB : encB bs m z (lenB p.boxes) 0 p.boxes = some dB)
include hc hb hB
theorem canon_getVar {k : Nat} {T : TypeId} {cells : List AV} (h : getBox (decB c 0 p.boxes dB) (c + k) 0 = .var T cells) :
    ∃ cs d b v cells', mget m k = some (some (b, v)) ∧ getBox bs b v = .var T cells' ∧ encL bs m z (lenB p.boxes) cs cells' = some d ∧ cells = decL c cs d := by
  obtain ⟨i1, _⟩ := look_decB (c := c) hB
  have hl := getBox_look h (by simp)
  obtain ⟨k', _, e, _, hbox⟩ := i1 _ _ hl
  have : k' = k := by omega
  subst this
  rcases hbox with ⟨T', cs, d, b, v, cells', h1, h2, h3, h4⟩ | ⟨T', t, xs, b, v, h1, h2, h3⟩ | ⟨T', t, h1, h2⟩
  · simp only [BoxC.var.injEq] at h4
    obtain ⟨rfl, rfl⟩ := h4
    exact ⟨cs, d, b, v, cells', h1, h2, h3, rfl⟩
  · cases h3
  · cases h2
theorem canon_nv {k : Nat} (h : k < lenB p.boxes) : 0 < nextVer (decB c 0 p.boxes dB) (c + k) := by
  obtain ⟨_, i2⟩ := look_decB (c := c) hB
  obtain ⟨x, hx⟩ := i2 k (Nat.zero_le _) (by omega)
  simp only [nextVer, hx]
  omega
theorem canon_caps : ∀ {ks : List Nat} {l : List AV} {vs : List Value}, encK m (lenB p.boxes) ks l = true → All2 (capR g bs) l vs → All2 (capR (canonG g m z c) (decB c 0 p.boxes dB)) (decK c ks) vs
  | [], [], [], _, _ => trivial
  | [], [], _ :: _, _, hl => hl.elim
  | [], _ :: _, _, h, _ => by simp [encK] at h
  | k :: ks, [], _, h, _ => by simp [encK] at h
  | k :: ks, x :: l, [], h, hl => hl.elim
  | k :: ks, x :: l, u :: vs, h, hl => by
    cases x with
    | ref b v off =>
      simp only [encK, Bool.and_eq_true] at h
      obtain ⟨h1, h2, h'⟩ := h
      have h2 := Nat.eq_of_beq_eq_true h2
      subst h2
      obtain ⟨h3, h4⟩ := mis_of h1
      refine ⟨⟨canon_nv hc hb hB h4, hl.1.2.1, fun T cells hbox => ?_⟩, canon_caps h' hl.2⟩
      obtain ⟨cs, d', b', v', cells', k1, k2, k3, k4⟩ := canon_getVar hc hb hB hbox
      rw [h3] at k1
      simp only [Option.some.injEq, Prod.mk.injEq] at k1
      obtain ⟨rfl, rfl⟩ := k1
      rw [canonG_hd h3]
      exact hl.1.2.2 T cells' k2
    | _ => simp [encK] at h
theorem canon_leaf : ∀ {ls : List LSh} {l : List AV} {vs : List Value} {d : lsDen ls}, encL bs m z (lenB p.boxes) ls l = some d → All2 (LRel E.ET g bs w) l vs →
    All2 (LRel E.ET (canonG g m z c) (decB c 0 p.boxes dB) w) (decL c ls d) vs
  | [], [], [], d, h, hl => trivial
  | [], [], _ :: _, d, h, hl => hl.elim
  | [], _ :: _, _, d, h, hl => by simp [encL] at h
  | .v t :: ls, [], vs, d, h, hl => by simp [encL] at h
  | .v t :: ls, x :: l, [], d, h, hl => hl.elim
  | .v t :: ls, x :: l, u :: vs, d, h, hl => by
    simp only [encL] at h
    split at h
    · rename_i y hy
      split at h
      · rename_i r hr
        simp only [Option.some.injEq] at h
        subst h
        exact ⟨fz_rel hb hy hl.1, canon_leaf hr hl.2⟩
      · cases h
    · cases h
  | .top :: ls, [], vs, d, h, hl => by simp [encL] at h
  | .top :: ls, x :: l, [], d, h, hl => hl.elim
  | .top :: ls, x :: l, u :: vs, d, h, hl => by
    simp only [encL] at h
    exact ⟨trivial, canon_leaf h hl.2⟩
  | .ref k off :: ls, [], vs, d, h, hl => by simp [encL] at h
  | .ref k off :: ls, x :: l, [], d, h, hl => hl.elim
  | .ref k off :: ls, x :: l, u :: vs, d, h, hl => by
    cases x with
    | ref b v off' =>
      simp only [encL] at h
      obtain ⟨h1', h'⟩ := bif_some h
      obtain ⟨h1, h2⟩ := and3 h1'
      have h2 := Nat.eq_of_beq_eq_true h2
      subst h2
      obtain ⟨h3, h4⟩ := mis_of h1
      refine ⟨⟨canon_nv hc hb hB h4, hl.1.2.1, fun T cells hbox => ?_⟩, canon_leaf h' hl.2⟩
      obtain ⟨cs, d', b', v', cells', k1, k2, k3, k4⟩ := canon_getVar hc hb hB hbox
      rw [h3] at k1
      simp only [Option.some.injEq, Prod.mk.injEq] at k1
      obtain ⟨rfl, rfl⟩ := k1
      rw [canonG_hd h3]
      exact hl.1.2.2 T cells' k2
    | _ => simp [encL] at h
  | .osl k :: ls, [], vs, d, h, hl => by simp [encL] at h
  | .osl k :: ls, x :: l, [], d, h, hl => hl.elim
  | .osl k :: ls, x :: l, u :: vs, d, h, hl => by
    cases x with
    | osl b v =>
      simp only [encL] at h
      obtain ⟨h1, h⟩ := bif_some h
      obtain ⟨h3, h4⟩ := mis_of h1
      refine ⟨⟨canon_nv hc hb hB h4, hl.1.2.1, fun T t xs hbox => ?_⟩, canon_leaf h hl.2⟩
      obtain ⟨i1, _⟩ := look_decB (c := c) hB
      have hl' := getBox_look hbox (by simp)
      obtain ⟨k', _, e, _, hbox'⟩ := i1 _ _ hl'
      have : k' = k := by omega
      subst this
      rcases hbox' with ⟨T', cs, d', b', v', cells', h1, h2, h3', h4'⟩ | ⟨T', t', xs', b', v', h1, h2, h3'⟩ | ⟨T', t', h1, h2⟩
      · cases h4'
      · rw [h3] at h1
        simp only [Option.some.injEq, Prod.mk.injEq] at h1
        obtain ⟨rfl, rfl⟩ := h1
        rw [canonG_hd h3]
        exact hl.1.2.2 _ _ _ h2
      · rw [h3] at h1; cases h1
    | nilS =>
      simp only [encL] at h
      obtain ⟨h1, h⟩ := bif_some h
      obtain ⟨h3, h4⟩ := mnil_of h1
      have hu : u = .slice none 0 0 := hl.1
      refine ⟨⟨canon_nv hc hb hB h4, by rw [hu]; rfl, fun T t xs hbox => ?_⟩, canon_leaf h hl.2⟩
      rw [canonG_nil h3]; exact hu
    | _ => simp [encL] at h
  | .opt k :: ls, [], vs, d, h, hl => by simp [encL] at h
  | .opt k :: ls, x :: l, [], d, h, hl => hl.elim
  | .opt k :: ls, x :: l, u :: vs, d, h, hl => by
    cases x with
    | oel b v j off =>
      simp only [encL] at h
      obtain ⟨h1', h'⟩ := bif_some h
      obtain ⟨h1, h2'⟩ := and3 h1'
      obtain ⟨h2a, h2b⟩ := and3 h2'
      have h2a := Nat.eq_of_beq_eq_true h2a
      have h2b := of_decide_eq_true h2b
      subst h2a; subst h2b
      obtain ⟨h3, h4⟩ := mis_of h1
      refine ⟨⟨canon_nv hc hb hB h4, hl.1.2.1, fun T t xs hbox => ?_⟩, canon_leaf h' hl.2⟩
      obtain ⟨i1, _⟩ := look_decB (c := c) hB
      have hl' := getBox_look hbox (by simp)
      obtain ⟨k', _, e, _, hbox'⟩ := i1 _ _ hl'
      have : k' = k := by omega
      subst this
      rcases hbox' with ⟨T', cs, d', b', v', cells', h1, h2, h3', h4'⟩ | ⟨T', t', xs', b', v', h1, h2, h3'⟩ | ⟨T', t', h1, h2⟩
      · cases h4'
      · rw [h3] at h1
        simp only [Option.some.injEq, Prod.mk.injEq] at h1
        obtain ⟨rfl, rfl⟩ := h1
        simp only [BoxC.row.injEq] at h3'
        obtain ⟨rfl, rfl, hxs⟩ := h3'
        have hxs := eq_of_heq hxs
        subst hxs
        rw [canonG_hd h3]
        exact hl.1.2.2 _ _ _ h2
      · rw [h3] at h1; cases h1
    | _ => simp [encL] at h
  | .fn f ks :: ls, [], vs, d, h, hl => by simp [encL] at h
  | .fn f ks :: ls, x :: l, [], d, h, hl => hl.elim
  | .fn f ks :: ls, x :: l, u :: vs, d, h, hl => by
    cases x with
    | fn f' caps =>
      simp only [encL] at h
      obtain ⟨h1, h'⟩ := bif_some h
      obtain ⟨h1, h2⟩ := and3 h1
      have h1 := Nat.eq_of_beq_eq_true h1
      subst h1
      obtain ⟨cv, e, ha⟩ := hl.1
      exact ⟨⟨cv, e, canon_caps hc hb hB h2 ha⟩, canon_leaf h' hl.2⟩
    | _ => simp [encL] at h
theorem canon_boxes : BsRel E.ET (canonG g m z c) (decB c 0 p.boxes dB) w := by
  intro i ver x hl
  obtain ⟨i1, _⟩ := look_decB (c := c) hB
  obtain ⟨k, _, rfl, e, hbox⟩ := i1 _ _ hl
  rcases hbox with ⟨T, cs, d, b, v, cells, h1, h2, h3, h4⟩ | ⟨T, t, xs, b, v, h1, h2, h3⟩ | ⟨T, t, h1, h2⟩
  · simp only at h4
    subst h4
    obtain ⟨blk, arr, k1, k2, k3, k4⟩ := hb b v _ (getBox_look h2 (by simp))
    exact ⟨blk, arr, by rw [canonG_hd h1]; exact k1, canonG_in k2 (mfind_of hc h1).1, k3, canon_leaf hc hb hB h3 k4⟩
  · simp only at h3
    subst h3
    obtain ⟨cs, k1, k2, k3⟩ := hb b v _ (getBox_look h2 (by simp))
    exact ⟨cs, by rw [canonG_hd h1]; exact k1, k2.mono fun _ _ => canon_rep, fun blk hblk => canonG_in (k3 blk (by rw [canonG_hd h1] at hblk; exact hblk)) (mfind_of hc h1).1⟩
  · simp only at h2
    subst h2
    refine ⟨[], by rw [canonG_nil h1]; exact ORow.nil w T t.sz, rfl, fun blk hblk => ?_⟩
    rw [canonG_nil h1] at hblk
    simp [Value.ownBlock] at hblk
theorem canon_slot {ag : Bool} {ls : List LSh} {x : AV} {u : Value} {d : lsDen ls} (h : encS1 bs m z (lenB p.boxes) ag ls x = some d) (hx : VRel E.ET g bs w x u) :
    VRel E.ET (canonG g m z c) (decB c 0 p.boxes dB) w (decS1 ag (decL c ls d)) u := by
  unfold encS1 at h
  split at h
  · obtain ⟨vs, rfl, hl⟩ := hx
    exact ⟨vs, rfl, canon_leaf hc hb hB h hl⟩
  · cases h
  · cases h
  · cases h
  · rename_i h1 h2
    have hL : LRel E.ET g bs w x u := by
      cases x <;> first | exact hx | exact (h1 _ rfl).elim | exact (h2 _ rfl).elim
    have := canon_leaf (c := c) hc hb hB h (vs := [u]) ⟨hL, trivial⟩
    unfold decS1
    match hd : decL c ls d, this with
    | [y], hy => exact hy.1.up
theorem canon_slots : ∀ {ls : List SSh} {l : List AV} {d : ssDen ls}, encS bs m z (lenB p.boxes) ls l = some d → ∀ (f : Nat → Value), (∀ i, VRel E.ET g bs w (getS l i) (f i)) →
    ((decS c ls d).length ≤ l.length ∧ ∀ i, VRel E.ET (canonG g m z c) (decB c 0 p.boxes dB) w (getS (decS c ls d) i) (f i))
  | [], l, d, h, f, hl => ⟨Nat.zero_le _, fun i => trivial⟩
  | .any :: ls, l, d, h, f, hl => by
    simp only [encS] at h
    split at h
    · rename_i x a
      obtain ⟨h1, h2⟩ := canon_slots h (fun i => f (i + 1)) (fun i => hl (i + 1))
      refine ⟨by simp only [decS, List.length_cons]; omega, fun i => ?_⟩
      cases i with
      | zero => trivial
      | succ i => exact h2 i
    · cases h
  | .mk ag lss :: ls, l, d, h, f, hl => by
    simp only [encS] at h
    split at h
    · rename_i x a
      split at h
      · rename_i y hy
        split at h
        · rename_i r hr
          simp only [Option.some.injEq] at h
          subst h
          obtain ⟨h1, h2⟩ := canon_slots hr (fun i => f (i + 1)) (fun i => hl (i + 1))
          refine ⟨by simp only [decS, List.length_cons]; omega, fun i => ?_⟩
          cases i with
          | zero => exact canon_slot hc hb hB hy (hl 0)
          | succ i => exact h2 i
        · cases h
      · cases h
    · cases h
end
theorem canon_fr (hz : mchk m m = true) : Fr g w (canonG g m z c) w := by
  refine ⟨rfl, rfl, rfl, Nat.le_refl _, fun b h _ => ⟨canonG_none h, rfl⟩, fun b h _ => ⟨?_, rfl⟩⟩
  have : mfind m 0 = none := by
    cases hm : mfind m 0 with
    | none => rfl
    | some k =>
      exact (mfind_ne0 hz hm).elim
  simp [canonG, h, this]
theorem canon {p : PSh} {d : p.den} (h : p.enc z sl bs = some d) (hb : BsRel E.ET g bs w) (f : Nat → Value) (hl : ∀ i, VRel E.ET g bs w (getS sl i) (f i)) :
    ((p.decS c d).length ≤ sl.length ∧ ∀ i, VRel E.ET (canonG g (p.mp sl bs) z c) (p.decB c d) w (getS (p.decS c d) i) (f i)) ∧
    BsRel E.ET (canonG g (p.mp sl bs) z c) (p.decB c d) w ∧ Fr g w (canonG g (p.mp sl bs) z c) w := by
  unfold PSh.enc at h
  obtain ⟨hc, h⟩ := bif_some h
  split at h
  · rename_i x hx
    split at h
    · rename_i y hy
      simp only [Option.some.injEq] at h
      subst h
      exact ⟨canon_slots hc hb hx hy f hl, canon_boxes hc hb hx, canon_fr hc⟩
    · cases h
  · cases h
end
end Go.Proofs.YtcnngodgngmghaaGreatDoor.Ev
/- A function's body by the evaluator: what is told of its data holds of the call. -/
namespace Go.Proofs.YtcnngodgngmghaaGreatDoor.Ev
open Go
open Go.RowKit
set_option linter.unusedVariables false
set_option linter.unusedSimpArgs false
set_option linter.unusedSectionVars false

def C0 : Nat := 100000
def zAll (_ : Nat) : Bool := true
def resAV (l : List AV) : AV := match l with | [x] => x | l => .tup l
structure FnOk (P : Program) (ET : TypeId) (f : FuncId) (pi po : PSh) (F : pi.den → Option po.den) : Prop where
  fn : ∃ fn, P.funcs[f]? = some fn ∧ (fn.name == "runtime.NumGoroutine") = false ∧ fn.body.isNone = false
  run : ∀ d out, F d = some out → ∀ (g : Gh) (w : World) (vals : List Value), Glb g w → vals.length = pi.slots.length →
    (∀ i, VRel ET g (pi.decB C0 d) w (getS (pi.decS C0 d) i) (vals.getD i undef)) → BsRel ET g (pi.decB C0 d) w → ∀ c,
    Calls P f vals.toArray w fun e w' => ∃ u g', e = .returned u ∧ VRel ET g' (po.decB c out) w' (resAV (po.decS c out)) u ∧ BsRel ET g' (po.decB c out) w' ∧ Fr g w g' w'

def argV (v : Value) : Option Nat → Value
  | none => v
  | some j => match v with
    | .func _ _ cv => cv.toList.getD j undef
    | .agg vs => vs.toList.getD j undef
    | _ => undef
structure FnIo (P : Program) (ET : TypeId) (f : FuncId) (pi po : PSh) (n : Nat) (io : List (Nat × Nat × Option Nat)) (F : pi.den → Option po.den) : Prop where
  fn : ∃ fn, P.funcs[f]? = some fn ∧ (fn.name == "runtime.NumGoroutine") = false ∧ fn.body.isNone = false
  run : ∀ d out, F d = some out → ∀ (g : Gh) (w : World) (vals : List Value), Glb g w → vals.length = pi.slots.length →
    (∀ i, VRel ET g (pi.decB C0 d) w (getS (pi.decS C0 d) i) (vals.getD i undef)) → BsRel ET g (pi.decB C0 d) w → ∀ c,
    Calls P f vals.toArray w fun e w' => ∃ u g', e = .returned u ∧ VRel ET g' (po.decB c out) w' (resAV ((po.decS c out).take n)) u ∧ BsRel ET g' (po.decB c out) w' ∧ Fr g w g' w' ∧
      ∀ x ∈ io, g'.hd (c + x.1) = argV (vals.getD x.2.1 undef) x.2.2
theorem FnIo.plain {P : Program} {ET : TypeId} {f : FuncId} {pi po : PSh} {F : pi.den → Option po.den} (h : FnIo P ET f pi po po.slots.length [] F) (hl : ∀ c out, (po.decS c out).length = po.slots.length) : FnOk P ET f pi po F :=
  ⟨h.fn, fun d out hF g w vals hG hv h1 h2 c => Calls.mono (h.run d out hF g w vals hG hv h1 h2 c) fun e w' ⟨u, g', e1, e2, e3, e4, _⟩ => ⟨u, g', e1, by rw [← hl c out, List.take_length] at e2; exact e2, e3, e4⟩⟩
theorem FnOk.io {P : Program} {ET : TypeId} {f : FuncId} {pi po : PSh} {F : pi.den → Option po.den} (h : FnOk P ET f pi po F) (hl : ∀ c out, (po.decS c out).length = po.slots.length) : FnIo P ET f pi po po.slots.length [] F :=
  ⟨h.fn, fun d out hF g w vals hG hv h1 h2 c => Calls.mono (h.run d out hF g w vals hG hv h1 h2 c) fun e w' ⟨u, g', e1, e2, e3, e4⟩ => ⟨u, g', e1, by rw [← hl c out, List.take_length]; exact e2, e3, e4, fun x hx => by cases hx⟩⟩

abbrev Pts (R : Type) := List (Nat × (Σ p : PSh, p.den → Option R))
def tabP {R : Type} : Pts R → Nat → St → Option R
  | [], _, _ => none
  | (i, ⟨p, G⟩) :: r, j, st => bif Nat.beq i j then (match p.enc zAll st.slots st.bs with | some d => G d | none => none) else tabP r j st
abbrev PtsR (R : Type) := List (Nat × (Σ x : PSh × Ty, List x.2.den → x.1.den → Option R))
def tabR {R : Type} : PtsR R → Nat → (t : Ty) → List t.den → St → Option R
  | [], _, _, _, _ => none
  | (i, ⟨⟨p, t'⟩, G⟩) :: r, j, t, l, st => bif Nat.beq i j then (if h : t = t' then (match p.enc zAll st.slots st.bs with | some d => G (h ▸ l) d | none => none) else none) else tabR r j t l st
def tb {R : Type} (a : Pts R) (b : PtsR R) : Tb R := ⟨tabP a, tabR b⟩
theorem tabR_some {R : Type} {out : R} : ∀ {r : PtsR R} {j : Nat} {t : Ty} {l : List t.den} {st : St}, tabR r j t l st = some out →
    ∃ (p : PSh) (G : List t.den → p.den → Option R), (j, ⟨(p, t), G⟩) ∈ r ∧ ∃ d, p.enc zAll st.slots st.bs = some d ∧ G l d = some out
  | [], _, _, _, _, h => by cases h
  | (i, ⟨⟨p, t'⟩, G⟩) :: r, j, t, l, st, h => by
    simp only [tabR] at h
    cases hb : Nat.beq i j with
    | true =>
      rw [hb] at h
      simp only [cond_true] at h
      have e := Nat.eq_of_beq_eq_true hb
      subst e
      split at h
      · rename_i ht
        subst ht
        split at h
        · rename_i d hd
          exact ⟨p, G, List.mem_cons_self .., d, hd, h⟩
        · cases h
      · cases h
    | false =>
      rw [hb] at h
      obtain ⟨p', G', hm, h1⟩ := tabR_some (r := r) h
      exact ⟨p', G', List.mem_cons_of_mem _ hm, h1⟩
theorem look_decB_ge (c : Nat) : ∀ {l : List BSh} {j i : Nat} {d : bsDen l}, i < c + j → look (decB c j l d) i = none
  | [], _, _, _, _ => rfl
  | .var T cs :: l, j, i, d, h => by
    show look ((c + j, _) :: decB c (j + 1) l d.2) i = none
    rw [look_cons_ne _ _ (by omega)]; exact look_decB_ge c (by omega)
  | .row T t :: l, j, i, d, h => by
    show look ((c + j, _) :: decB c (j + 1) l d.2) i = none
    rw [look_cons_ne _ _ (by omega)]; exact look_decB_ge c (by omega)
theorem tab_some {R : Type} {out : R} : ∀ {l : Pts R} {j : Nat} {st : St}, tabP l j st = some out → ∃ x ∈ l, x.1 = j ∧ ∃ d, x.2.1.enc zAll st.slots st.bs = some d ∧ x.2.2 d = some out
  | [], _, _, h => by cases h
  | (i, ⟨p, G⟩) :: r, j, st, h => by
    simp only [tabP] at h
    cases hb : Nat.beq i j with
    | true =>
      rw [hb] at h
      simp only [cond_true] at h
      split at h
      · rename_i d hd
        exact ⟨_, List.mem_cons_self .., Nat.eq_of_beq_eq_true hb, d, hd, h⟩
      · cases h
    | false =>
      rw [hb] at h
      obtain ⟨x, hx, h1⟩ := tab_some (l := r) h
      exact ⟨x, List.mem_cons_of_mem _ hx, h1⟩
def undN : Nat → List AV
  | 0 => []
  | n + 1 => .und :: undN n
theorem getS_undN : ∀ (n i : Nat), getS (undN n) i = .und ∨ getS (undN n) i = .top
  | 0, _ => .inr rfl
  | n + 1, 0 => .inl rfl
  | n + 1, i + 1 => getS_undN n i
def appN : List AV → List AV → List AV
  | [], m => m
  | a :: l, m => a :: appN l m
theorem appN_eq : ∀ l m, appN l m = l ++ m
  | [], _ => rfl
  | a :: l, m => by simp [appN, appN_eq l m]
theorem length_undN : ∀ n, (undN n).length = n
  | 0 => rfl
  | n + 1 => by simp [undN, length_undN n]
theorem getS_append_lt : ∀ {l m : List AV} {i : Nat}, i < l.length → getS (l ++ m) i = getS l i
  | [], _, _, h => by simp at h
  | _ :: _, _, 0, _ => rfl
  | _ :: l, m, i + 1, h => getS_append_lt (l := l) (by simpa using h)
theorem getS_append_ge : ∀ {l m : List AV} {i : Nat}, l.length ≤ i → getS (l ++ m) i = getS m (i - l.length)
  | [], _, _, _ => rfl
  | _ :: _, _, 0, h => by simp at h
  | _ :: l, m, i + 1, h => by
    simp only [List.cons_append, getS, List.length_cons, Nat.add_sub_add_right]
    exact getS_append_ge (l := l) (by simpa using h)
theorem length_decS (c : Nat) : ∀ (l : List SSh) (d : ssDen l), (decS c l d).length = l.length
  | [], _ => rfl
  | .any :: l, d => by simp [decS, length_decS c l d]
  | .mk _ _ :: l, d => by simp [decS, length_decS c l d.2]
def startSt (p : PSh) (ntmps : Nat) (d : p.den) : St := ⟨appN (p.decS C0 d) (undN (ntmps - p.slots.length)), p.decB C0 d⟩
inductive RV where
  | tmp (t : Nat) | cell (a : Nat) (T : TypeId)
def RV.toR : RV → ResultVar
  | .tmp t => .tmp t
  | .cell a T => .cell a T
noncomputable def resOne (E : Env) (st : St) : RV → Option AV
  | .tmp t => some (getS st.slots t)
  | .cell a T => evLoad E T (getS st.slots a) st.bs some
noncomputable def resSlots (E : Env) (st : St) : List RV → Option (List AV)
  | [] => some []
  | r :: rs => match resOne E st r with
    | some x => match resSlots E st rs with
      | some l => some (x :: l)
      | none => none
    | none => none
def ghAV (st : St) (x : Nat × Option Nat) : AV :=
  match x.2, getS st.slots x.1 with
  | none, y => y
  | some j, .fn _ caps => getS caps j
  | some j, .agg l => getS l j
  | _, _ => .top
def ghAVs (st : St) : List (Nat × Option Nat) → List AV
  | [] => []
  | x :: l => ghAV st x :: ghAVs st l
noncomputable def finKio (E : Env) (po : PSh) (rs : List RV) (gh : List (Nat × Option Nat)) : Kont po.den :=
  let fin : St → Option po.den := fun st => match resSlots E st rs with
    | some l => po.enc zAll (appN l (ghAVs st gh)) st.bs
    | none => none
  ⟨fin, fin, []⟩
noncomputable def finK (E : Env) (po : PSh) (rs : List RV) : Kont po.den := finKio E po rs []
def ioOk (po : PSh) (gh : List (Nat × Option Nat)) (kp : List Nat) : Nat → List (Nat × Nat × Option Nat) → Bool
  | _, [] => true
  | n, (k, i, j) :: l => (match po.slots[n]?, po.boxes[k]? with
    | some (.mk false [.ref k' 0]), some (.var _ _) => Nat.beq k' k
    | some (.mk false [.osl k']), some (.row _ _) => Nat.beq k' k
    | _, _ => false) && (memN kp i && ioOk po gh kp (n + 1) l)
def ptSt (p : PSh) (d : p.den) : St := ⟨p.decS C0 d, p.decB C0 d⟩
section
variable {P : Program} {E : Env} {g0 g g' : Gh} {w0 w w' : World}
theorem VRel.noTup : ∀ {x : AV} {v : Value} {bs : Boxes}, VRel E.ET g bs w x v → (∀ l, x ≠ .tup l) → CRel E.ET g bs w x v
  | .tup l, _, _, _, h => absurd rfl (h l)
  | .agg l, _, _, hh, _ => hh
  | .top, _, _, hh, _ => hh
  | .und, _, _, hh, _ => hh
  | .nilS, _, _, hh, _ => hh
  | .nilP, _, _, hh, _ => hh
  | .val t x, _, _, hh, _ => hh
  | .ref b v o, _, _, hh, _ => hh
  | .osl b v, _, _, hh, _ => hh
  | .imm t x o, _, _, hh, _ => hh
  | .oel b v i o, _, _, hh, _ => hh
  | .osb b v i, _, _, hh, _ => hh
  | .fn f c, _, _, hh, _ => hh
theorem decL_noTup (c : Nat) : ∀ (ls : List LSh) (d : lsDen ls), ∀ x ∈ decL c ls d, ∀ l, x ≠ .tup l
  | [], _, x, h, _ => by cases h
  | .v t :: ls, d, x, h, l => by
    rcases List.mem_cons.1 h with rfl | h
    · simp
    · exact decL_noTup c ls d.2 x h l
  | .top :: ls, d, x, h, l => by
    rcases List.mem_cons.1 h with rfl | h
    · simp
    · exact decL_noTup c ls d x h l
  | .ref k o :: ls, d, x, h, l => by
    rcases List.mem_cons.1 h with rfl | h
    · simp
    · exact decL_noTup c ls d x h l
  | .osl k :: ls, d, x, h, l => by
    rcases List.mem_cons.1 h with rfl | h
    · simp
    · exact decL_noTup c ls d x h l
  | .opt k :: ls, d, x, h, l => by
    rcases List.mem_cons.1 h with rfl | h
    · simp
    · exact decL_noTup c ls d x h l
  | .fn f ks :: ls, d, x, h, l => by
    rcases List.mem_cons.1 h with rfl | h
    · simp
    · exact decL_noTup c ls d x h l
theorem decS_noTup (c : Nat) : ∀ (ls : List SSh) (d : ssDen ls), ∀ x ∈ decS c ls d, ∀ l, x ≠ .tup l
  | [], _, x, h, _ => by cases h
  | .any :: ls, d, x, h, l => by
    rcases List.mem_cons.1 h with rfl | h
    · simp
    · exact decS_noTup c ls d x h l
  | .mk ag lss :: ls, d, x, h, l => by
    rcases List.mem_cons.1 h with rfl | h
    · unfold decS1
      cases ag with
      | true => simp
      | false =>
        simp only [cond_false]
        split
        · rename_i y hy
          exact decL_noTup c lss d.1 y (by rw [hy]; exact List.mem_cons_self ..) l
        · simp
    · exact decS_noTup c ls d.2 x h l
theorem res_rel {bs : Boxes} {l : List AV} {vs : List Value} (hn : ∀ x ∈ l, ∀ k, x ≠ .tup k) (h : All2 (VRel E.ET g bs w) l vs) :
    VRel E.ET g bs w (resAV l) (if h : vs.toArray.size = 1 then vs.toArray[0] else .tuple vs.toArray) := by
  have all : ∀ {l : List AV} {vs : List Value}, (∀ x ∈ l, ∀ k, x ≠ .tup k) → All2 (VRel E.ET g bs w) l vs → All2 (CRel E.ET g bs w) l vs := by
    intro l
    induction l with
    | nil => intro vs _ h; cases vs with | nil => trivial | cons _ _ => exact h.elim
    | cons x l ih =>
      intro vs hn h
      cases vs with
      | nil => exact h.elim
      | cons v vs => exact ⟨h.1.noTup (hn x (List.mem_cons_self ..)), ih (fun y hy => hn y (List.mem_cons_of_mem _ hy)) h.2⟩
  match l, vs, h with
  | [], [], _ => exact ⟨[], rfl, trivial⟩
  | [x], [v], h => exact h.1
  | x :: y :: l, v :: u :: vs, h =>
    rw [dif_neg (by simp)]
    exact ⟨_, rfl, all hn h⟩
  | [], _ :: _, h => exact h.elim
  | [_], [], h => exact h.elim
  | [_], _ :: _ :: _, h => exact h.2.elim
  | _ :: _ :: _, [], h => exact h.elim
  | _ :: _ :: _, [_], h => exact h.2.elim
theorem all2_of_get : ∀ {l : List AV} {vs : List Value} {bs : Boxes}, l.length = vs.length → (∀ i, VRel E.ET g bs w (getS l i) (vs.getD i undef)) → All2 (VRel E.ET g bs w) l vs
  | [], [], _, _, _ => trivial
  | x :: l, v :: vs, bs, hl, h => ⟨h 0, all2_of_get (by simpa using hl) (fun i => h (i + 1))⟩
  | [], _ :: _, _, h, _ => by simp at h
  | _ :: _, [], _, h, _ => by simp at h
theorem get_of_all2 : ∀ {l : List AV} {vs : List Value} {bs : Boxes}, All2 (VRel E.ET g bs w) l vs → ∀ i, VRel E.ET g bs w (getS l i) (vs.getD i undef)
  | [], [], _, _, i => trivial
  | x :: l, v :: vs, bs, h, 0 => h.1
  | x :: l, v :: vs, bs, h, i + 1 => get_of_all2 (l := l) h.2 i
  | [], _ :: _, _, h, _ => h.elim
  | _ :: _, [], _, h, _ => h.elim
def oneRes (tmps : Array Value) : ResultVar → Sem Value
  | .tmp t => pure (tmps.getD t undef)
  | .cell a t => do loadVar t (← asAddr (tmps.getD a undef))
theorem asAddr_of_load {T : TypeId} {v u : Value} (h : (Instr.loadAt T v).run P w = .ok u w) : (do loadVar T (← asAddr v)).run P w = .ok u w := by
  cases v with
  | pointer p =>
    cases p with
    | some a => simpa [Instr.loadAt, Instr.sureAddr, asAddr] using h
    | none => simp [Instr.loadAt, Instr.sureAddr, stuck] at h
  | _ => simp [Instr.loadAt, Instr.sureAddr, stuck] at h
theorem resSlots_run (hE : EnvOk P E) {st : St} {tmps : Array Value} (hs : ∀ i, VRel E.ET g st.bs w (getS st.slots i) (tmps.getD i undef)) (hb : BsRel E.ET g st.bs w) : ∀ {rs : List RV} {l : List AV}, resSlots E st rs = some l →
    l.length = rs.length ∧ ∃ vs, All2 (VRel E.ET g st.bs w) l vs ∧ ((rs.map RV.toR).mapM (oneRes tmps)).run P w = .ok vs w
  | [], l, h => by
    simp only [resSlots, Option.some.injEq] at h
    subst h
    exact ⟨rfl, [], trivial, by simp⟩
  | r :: rs, l, h => by
    simp only [resSlots] at h
    split at h
    · rename_i x hx
      split at h
      · rename_i l' hl'
        simp only [Option.some.injEq] at h
        subst h
        obtain ⟨i0, vs, i1, i2⟩ := resSlots_run hE hs hb hl'
        have hone : ∃ u, VRel E.ET g st.bs w x u ∧ (oneRes tmps r.toR).run P w = .ok u w := by
          cases r with
          | tmp t =>
            simp only [resOne, Option.some.injEq] at hx
            subst hx
            exact ⟨_, hs t, by simp [oneRes, RV.toR]⟩
          | cell a T =>
            simp only [resOne] at hx
            obtain ⟨v, u, k1, k2, k3⟩ := load_sound hE hx (hs a) hb
            simp only [Option.some.injEq] at k1
            subst k1
            exact ⟨u, k2, asAddr_of_load k3⟩
        obtain ⟨u, u1, u2⟩ := hone
        refine ⟨by simp [i0], u :: vs, ⟨u1, i1⟩, ?_⟩
        rw [List.map_cons, List.mapM_cons]
        simp only [Sem.run_bind, u2, i2, Result.andThen_ok, Sem.run_pure]
      · cases h
    · cases h
theorem results_run {fn : Func} {rs : List RV} {tmps : Array Value} {vs : List Value} (hr : fn.results = (rs.map RV.toR).toArray) (h : ((rs.map RV.toR).mapM (oneRes tmps)).run P w = .ok vs w) :
    (results fn tmps).run P w = .ok (if h : vs.toArray.size = 1 then vs.toArray[0] else .tuple vs.toArray) w := by
  unfold results
  rw [hr]
  simp only [Array.mapM_eq_mapM_toList, List.toList_toArray, Sem.run_bind, Sem.run_map]
  have e : (List.map RV.toR rs).mapM (fun | .tmp t => (pure (tmps.getD t undef) : Sem Value) | .cell a t => do loadVar t (← asAddr (tmps.getD a undef))) = (rs.map RV.toR).mapM (oneRes tmps) := by
    congr 1
  erw [e, h]
  simp only [Result.andThen_ok, Sem.run_pure]
theorem look_var (c : Nat) : ∀ {l : List BSh} {j k : Nat} {T : TypeId} {cs : List LSh} {d : bsDen l}, l[k]? = some (.var T cs) → ∃ cells, look (decB c j l d) (c + (j + k)) = some (0, .var T cells)
  | [], _, _, _, _, _, h => by simp at h
  | .var T' cs' :: l, j, 0, T, cs, d, h => by
    simp only [List.getElem?_cons_zero, Option.some.injEq, BSh.var.injEq] at h
    obtain ⟨rfl, rfl⟩ := h
    exact ⟨decL c cs' d.1, by rw [Nat.add_zero]; exact look_cons_eq ..⟩
  | .row T' t :: l, j, 0, T, cs, d, h => by simp at h
  | .var T' cs' :: l, j, k + 1, T, cs, d, h => by
    obtain ⟨cells, hc⟩ := look_var c (l := l) (j := j + 1) (k := k) (d := d.2) (by simpa using h)
    refine ⟨cells, ?_⟩
    show look ((c + j, _) :: decB c (j + 1) l d.2) _ = _
    rw [look_cons_ne _ _ (by omega), ← hc]; congr 1; omega
  | .row T' t :: l, j, k + 1, T, cs, d, h => by
    obtain ⟨cells, hc⟩ := look_var c (l := l) (j := j + 1) (k := k) (d := d.2) (by simpa using h)
    refine ⟨cells, ?_⟩
    show look ((c + j, _) :: decB c (j + 1) l d.2) _ = _
    rw [look_cons_ne _ _ (by omega), ← hc]; congr 1; omega
theorem look_row (c : Nat) : ∀ {l : List BSh} {j k : Nat} {T : TypeId} {t : Ty} {d : bsDen l}, l[k]? = some (.row T t) → ∃ xs : List t.den, look (decB c j l d) (c + (j + k)) = some (0, .row T t xs)
  | [], _, _, _, _, _, h => by simp at h
  | .row T' t' :: l, j, 0, T, t, d, h => by
    simp only [List.getElem?_cons_zero, Option.some.injEq, BSh.row.injEq] at h
    obtain ⟨rfl, rfl⟩ := h
    exact ⟨d.1, by rw [Nat.add_zero]; exact look_cons_eq ..⟩
  | .var T' cs' :: l, j, 0, T, t, d, h => by simp at h
  | .var T' cs' :: l, j, k + 1, T, t, d, h => by
    obtain ⟨xs, hc⟩ := look_row c (l := l) (j := j + 1) (k := k) (d := d.2) (by simpa using h)
    refine ⟨xs, ?_⟩
    show look ((c + j, _) :: decB c (j + 1) l d.2) _ = _
    rw [look_cons_ne _ _ (by omega), ← hc]; congr 1; omega
  | .row T' t' :: l, j, k + 1, T, t, d, h => by
    obtain ⟨xs, hc⟩ := look_row c (l := l) (j := j + 1) (k := k) (d := d.2) (by simpa using h)
    refine ⟨xs, ?_⟩
    show look ((c + j, _) :: decB c (j + 1) l d.2) _ = _
    rw [look_cons_ne _ _ (by omega), ← hc]; congr 1; omega
theorem getS_decSl (c : Nat) : ∀ {l : List SSh} {i k : Nat} {d : ssDen l}, l[i]? = some (.mk false [.osl k]) → getS (decS c l d) i = .osl (c + k) 0
  | [], _, _, _, h => by simp at h
  | .any :: l, 0, _, _, h => by simp at h
  | .any :: l, i + 1, k, d, h => getS_decSl c (l := l) (i := i) (d := d) (by simpa using h)
  | .mk ag ls :: l, 0, k, d, h => by
    simp only [List.getElem?_cons_zero, Option.some.injEq, SSh.mk.injEq] at h
    obtain ⟨rfl, rfl⟩ := h
    rfl
  | .mk ag ls :: l, i + 1, k, d, h => getS_decSl c (l := l) (i := i) (d := d.2) (by simpa using h)
theorem getS_decS (c : Nat) : ∀ {l : List SSh} {i k : Nat} {d : ssDen l}, l[i]? = some (.mk false [.ref k 0]) → getS (decS c l d) i = .ref (c + k) 0 0
  | [], _, _, _, h => by simp at h
  | .any :: l, 0, _, _, h => by simp at h
  | .any :: l, i + 1, k, d, h => getS_decS c (l := l) (i := i) (d := d) (by simpa using h)
  | .mk ag ls :: l, 0, k, d, h => by
    simp only [List.getElem?_cons_zero, Option.some.injEq, SSh.mk.injEq] at h
    obtain ⟨rfl, rfl⟩ := h
    rfl
  | .mk ag ls :: l, i + 1, k, d, h => getS_decS c (l := l) (i := i) (d := d.2) (by simpa using h)
theorem ghAV_rel {st : St} {tmps : Array Value} {vals : List Value} (hs : ∀ i, VRel E.ET g st.bs w (getS st.slots i) (tmps.getD i undef)) {x : Nat × Option Nat} (hk : tmps.getD x.1 undef = vals.getD x.1 undef) :
    VRel E.ET g st.bs w (ghAV st x) (argV (vals.getD x.1 undef) x.2) := by
  obtain ⟨i, j⟩ := x
  have hi := hs i
  rw [show tmps.getD i undef = vals.getD i undef from hk] at hi
  unfold ghAV
  cases j with
  | none => exact hi
  | some j =>
    simp only
    split
    · rename_i h; cases h
    · rename_i j' f caps hq hj
      cases hq
      rw [hj] at hi
      obtain ⟨cv, e, ha⟩ := hi
      rw [e]
      have := get_of_all2 (E := E) (w := w) (ha.mono fun _ _ => capR.up (E := E) (w := w)) j
      simpa [argV] using this
    · rename_i j' l hq hj
      cases hq
      rw [hj] at hi
      obtain ⟨vs, e, ha⟩ := hi
      rw [e]
      have := get_of_all2 (E := E) (w := w) (ha.mono fun _ _ => LRel.up (ET := E.ET) (w := w)) j
      simpa [argV] using this
    · trivial
theorem memN_iff : ∀ {l : List Nat} {n : Nat}, memN l n = true ↔ n ∈ l
  | [], n => by simp [memN]
  | a :: l, n => by
    simp only [memN, Bool.or_eq_true, List.mem_cons, memN_iff (l := l)]
    constructor
    · rintro (h | h)
      · exact .inl (Nat.eq_of_beq_eq_true h).symm
      · exact .inr h
    · rintro (rfl | h)
      · exact .inl (Nat.beq_refl _)
      · exact .inr h
theorem all2_take {α β : Type} {r : α → β → Prop} : ∀ (n : Nat) {l : List α} {m : List β}, All2 r l m → All2 r (l.take n) (m.take n)
  | 0, _, _, _ => by simp only [List.take_zero]; trivial
  | n + 1, [], [], _ => trivial
  | n + 1, _ :: _, _ :: _, ⟨h1, h2⟩ => ⟨h1, all2_take n h2⟩
  | n + 1, [], _ :: _, h => h.elim
  | n + 1, _ :: _, [], h => h.elim
theorem leavesM {ET : TypeId} {g0 g : Gh} {w0 : World} {bs0 : Boxes} {st : St} {fn : Func} {R' : Ending → World → Prop} {n : Nat} {a : Act} : ∀ {ds : List Deferred} {w : World}, Rel ET g0 bs0 w0 g st { a with defers := ds } w →
    (∀ w', Rel ET g0 bs0 w0 g st { a with defers := [] } w' → LeavesIn Fence.wide n P fn a.tmps R' [] .returning w') → LeavesInM Fence.wide n P fn a.tmps R' ds .returning w
  | [], w, hr, h => h w hr
  | d :: ds, w, hr, h => by
    obtain ⟨⟨D, e, h1, h2, h3, h4, h5⟩, h6⟩ := hr.defers
    refine ⟨by simp, .inl ⟨D, _, by rw [e], run_takeDeferred h4, leavesM (ds := ds) ?_ h⟩⟩
    have hr1 : Rel ET g0 bs0 w0 g st { a with defers := ds } w := ⟨hr.glb, hr.size, hr.slots, hr.boxes, h6, hr.ext⟩
    refine rel_turn hr1 (GrownT.of (grownBy_putObj' w D _)) ⟨fun r er hok => ?_, fun r er b x hl ho o hh => ?_, fun r er hlt => ?_, fun r er d' hd' => ?_⟩
    · cases er
      have := hok.2.2 _ h4
      cases this
    · cases er
      rw [h4] at hh; cases hh; rfl
    · cases er
      omega
    · cases er
      rw [← e]; exact h5 d' hd'
theorem fn_of_bodyIo (hE : EnvOk P E) {f : FuncId} {fn : Func} {c : Code} {pi po : PSh} {F : pi.den → Option po.den} (hf : P.funcs[f]? = some fn) (hname : (fn.name == "runtime.NumGoroutine") = false) (hb : fn.body = some c)
    (rs : List RV) (gh : List (Nat × Option Nat)) (io : List (Nat × Nat × Option Nat)) (hr : fn.results = (rs.map RV.toR).toArray) (hrs : rs.length + gh.length = po.slots.length) (hgh : io.map (·.2) = gh) (hio : ioOk po gh E.keep rs.length io = true) (hkeep : ∀ i ∈ E.keep, i < pi.slots.length) (hnt : pi.slots.length ≤ fn.ntmps)
    (cuts : List Nat) (L : Nat → Pts po.den) (LR : Nat → PtsR po.den) (h0 : ∀ x ∈ L 0, ∀ d, x.2.2 d = none)
    (hL : ∀ k, ∀ x ∈ L (k + 1), ∀ d out, x.2.2 d = some out → evAt E (tb (L k) (LR k)) cuts x.1 c 0 (finKio E po rs gh) (ptSt x.2.1 d) = some out)
    (h0R : ∀ x ∈ LR 0, ∀ l d, x.2.2 l d = none)
    (hLR : ∀ k, ∀ x ∈ LR (k + 1), ∀ l d out, x.2.2 l d = some out → evAtR E (tb (L k) (LR k)) cuts x.1 c 0 (finKio E po rs gh) x.2.1.2 l (ptSt x.2.1.1 d) = some out)
    (hF : ∀ d out, F d = some out → ∃ k, evCode E (tb (L k) (LR k)) cuts c 0 (finKio E po rs gh) (startSt pi fn.ntmps d) = some out) : FnIo P E.ET f pi po rs.length io F := by
  refine ⟨⟨fn, hf, hname, by rw [hb]; rfl⟩, fun d out hd g w vals hG hvl hv hbs cc => ?_⟩
  obtain ⟨k, hk⟩ := hF d out hd
  refine (callsIn_wide (n := 0)).1 (callsIn_of_wp_marks hf hb trivial (wpIn_wide.2 ?_))
  let Q : Post := bodyPostM Fence.wide 0 P fn fun e w' => ∃ u g', e = .returned u ∧ VRel E.ET g' (po.decB cc out) w' (resAV ((po.decS cc out).take rs.length)) u ∧ BsRel E.ET g' (po.decB cc out) w' ∧ Fr g w g' w' ∧ ∀ x ∈ io, g'.hd (cc + x.1) = argV (vals.getD x.2.1 undef) x.2.2
  show c.wp P Q _ _
  have hfin : ∀ (st : St) (a : Act) (w0 : World), RlOf E.ET g [] w E.keep vals st a w0 → (match resSlots E st rs with | some l => po.enc zAll (appN l (ghAVs st gh)) st.bs | none => none) = some out → Q .ret a w0 ∧ Q .normal a w0 := by
    intro st a w0 ⟨⟨g1, hr0⟩, hk1⟩ he
    have main : Q .ret a w0 := leavesM (g := g1) hr0 fun w' hr1 => ?main
    exact ⟨main, main⟩
    case main =>
    split at he
    · rename_i l hl
      obtain ⟨hll, vs, hvs, hrun⟩ := resSlots_run hE hr1.slots hr1.boxes hl
      have hgv : ∀ (q : List (Nat × Nat × Option Nat)) (m : Nat), ioOk po gh E.keep m q = true → All2 (VRel E.ET g1 st.bs w') (ghAVs st (q.map (·.2))) (q.map fun x => argV (vals.getD x.2.1 undef) x.2.2) := by
        intro q
        induction q with
        | nil => intro _ _; trivial
        | cons x q ih =>
          intro m hm
          obtain ⟨k, i, j⟩ := x
          simp only [ioOk, Bool.and_eq_true] at hm
          exact ⟨ghAV_rel hr1.slots (x := (i, j)) (hk1 i (memN_iff.1 hm.2.1)), ih _ hm.2.2⟩
      have hga := hgv io _ hio
      rw [hgh] at hga
      have hall0 : All2 (VRel E.ET g1 st.bs w') (appN l (ghAVs st gh)) (vs ++ io.map fun x => argV (vals.getD x.2.1 undef) x.2.2) := by rw [appN_eq]; exact all2_app hvs hga
      obtain ⟨⟨k1, k2⟩, k3, k4⟩ := canon (c := cc) he hr1.boxes (fun i => (vs ++ io.map fun x => argV (vals.getD x.2.1 undef) x.2.2).getD i undef) (get_of_all2 hall0)
      have hvl : vs.length = rs.length := by rw [← hll, ← hvs.length]
      have hiol : io.length = gh.length := by rw [← hgh, List.length_map]
      have hlen : (po.decS cc out).length = (vs ++ io.map fun x => argV (vals.getD x.2.1 undef) x.2.2).length := by
        rw [List.length_append, List.length_map, hvl, hiol, hrs]; exact length_decS cc po.slots out.2
      have hall := all2_of_get hlen k2
      have hall1 : All2 (VRel E.ET (canonG g1 (po.mp (appN l (ghAVs st gh)) st.bs) zAll cc) (po.decB cc out) w') ((po.decS cc out).take rs.length) vs := by
        have := all2_take rs.length hall
        rw [← hvl, List.take_left] at this; rw [← hvl]; exact this
      have hres := res_rel (fun x hx l => decS_noTup cc po.slots out.2 x (List.mem_of_mem_take hx) l) hall1
      have hrun := results_run hr hrun
      have hhd : ∀ (q : List (Nat × Nat × Option Nat)) (m : Nat), ioOk po gh E.keep (rs.length + m) q = true → io.drop m = q → ∀ x ∈ q, (canonG g1 (po.mp (appN l (ghAVs st gh)) st.bs) zAll cc).hd (cc + x.1) = argV (vals.getD x.2.1 undef) x.2.2 := by
        intro q
        induction q with
        | nil => intro _ _ _ x hx; cases hx
        | cons y q ih =>
          intro m hm hdr x hx
          obtain ⟨k, i, j⟩ := y
          simp only [ioOk, Bool.and_eq_true] at hm
          rcases List.mem_cons.1 hx with rfl | hx
          · have hm1 := hm.1
            split at hm1
            · rename_i k' T cs hs1 hs2
              have hk' := Nat.eq_of_beq_eq_true hm1
              subst hk'
              have hv := k2 (rs.length + m)
              rw [show getS (po.decS cc out) (rs.length + m) = .ref (cc + k') 0 0 from getS_decS cc hs1] at hv
              obtain ⟨cells, hlk⟩ := look_var cc (j := 0) (d := out.1) hs2
              rw [Nat.zero_add] at hlk
              obtain ⟨blk, h1, h2⟩ := hv.2.2 T cells (by show (match look (decB cc 0 po.boxes out.1) (cc + k') with | some (v', c) => bif Nat.beq v' 0 then c else .dead | none => .dead) = _; rw [hlk]; rfl)
              rw [h1, ← h2]
              have hmd : io[m]? = some (k', i, j) := by
                have := congrArg (fun l => l[0]?) hdr
                simpa using this
              rw [List.getD_eq_getElem?_getD, List.getElem?_append_right (by omega), hvl, Nat.add_sub_cancel_left, List.getElem?_map, hmd]
              rfl
            · rename_i k' T t hs1 hs2
              have hk' := Nat.eq_of_beq_eq_true hm1
              subst hk'
              have hv := k2 (rs.length + m)
              rw [show getS (po.decS cc out) (rs.length + m) = .osl (cc + k') 0 from getS_decSl cc hs1] at hv
              obtain ⟨xs, hlk⟩ := look_row cc (j := 0) (d := out.1) hs2
              rw [Nat.zero_add] at hlk
              have h2 := hv.2.2 T t xs (by show (match look (decB cc 0 po.boxes out.1) (cc + k') with | some (v', c) => bif Nat.beq v' 0 then c else .dead | none => .dead) = _; rw [hlk]; rfl)
              rw [← h2]
              have hmd : io[m]? = some (k', i, j) := by
                have := congrArg (fun l => l[0]?) hdr
                simpa using this
              rw [List.getD_eq_getElem?_getD, List.getElem?_append_right (by omega), hvl, Nat.add_sub_cancel_left, List.getElem?_map, hmd]
              rfl
            · cases hm1
          · have hdr2 : io.drop (m + 1) = q := by
              have := congrArg List.tail hdr
              simpa [List.tail_drop] using this
            exact ih (m + 1) (by rw [← Nat.add_assoc]; exact hm.2.2) hdr2 x hx
      have hhd := hhd io 0 (by rw [Nat.add_zero]; exact hio) rfl
      have hq : ∃ v, (results fn a.tmps).run P w' = .ok v w' ∧ ∃ u g', Ending.returned v = .returned u ∧ VRel E.ET g' (po.decB cc out) w' (resAV ((po.decS cc out).take rs.length)) u ∧ BsRel E.ET g' (po.decB cc out) w' ∧ Fr g w g' w' ∧ ∀ x ∈ io, g'.hd (cc + x.1) = argV (vals.getD x.2.1 undef) x.2.2 :=
        ⟨_, hrun, _, _, rfl, hres, k3, hr1.ext.fr.trans k4, hhd⟩
      exact hq
    · cases he
  have hgood : Good (RlOf E.ET g [] w E.keep vals) out (finKio E po rs gh) Q := by
    refine ⟨fun st a w' h1 h2 => (hfin st a w' h1 h2).2, fun st a w' h1 h2 => (hfin st a w' h1 h2).1, fun i st a w' h1 h2 => by cases h2⟩
  refine body_sound (regOk hE g [] w vals) (drawOk hE g [] w vals) (rfStep hE g w vals) (rfEntry hE g w vals) (condOk E.ET g [] w E.keep vals) (fun k => tb (L k) (LR k)) c (finKio E po rs gh) Q ?_ ?_ ?_ ?_ hgood k (startSt pi fn.ntmps d) _ w ?_ hk
  · intro j st
    show tabP (L 0) j st = none
    cases ht : tabP (L 0) j st with
    | none => rfl
    | some y =>
      obtain ⟨x, hx, _, d', _, h2⟩ := tab_some ht
      rw [h0 x hx d'] at h2; cases h2
  · intro j t l st
    show tabR (LR 0) j t l st = none
    cases ht : tabR (LR 0) j t l st with
    | none => rfl
    | some y =>
      obtain ⟨p, G, hx, d', _, h2⟩ := tabR_some ht
      rw [show G l d' = none from h0R _ hx l d'] at h2; cases h2
  · intro k j st ht
    obtain ⟨x, hx, rfl, d', h1, h2⟩ := tab_some ht
    refine ⟨ptSt x.2.1 d', hL k x hx d' out h2, fun a w' ⟨⟨g1, hr1⟩, hk1⟩ => ?_⟩
    obtain ⟨⟨k1, k2⟩, k3, k4⟩ := canon (c := C0) h1 hr1.boxes (fun i => a.tmps.getD i undef) hr1.slots
    exact ⟨⟨_, hr1.glb.keep k4, Nat.le_trans k1 hr1.size, k2, k3, hr1.defers.mono k4, hr1.ext.fr.trans k4, fun b => Nat.zero_le _, fun b ver T cells hv => absurd hv (Nat.not_lt_zero _), fun b ver T t xs hv => absurd hv (Nat.not_lt_zero _)⟩, hk1⟩
  · intro k j t l st ht
    obtain ⟨p, G, hx, d', h1, h2⟩ := tabR_some ht
    refine ⟨ptSt p d', hLR k _ hx l d' out h2, fun V C O0 n0 a w' ⟨g1, okS, hr1, hV, hk1, hf1⟩ => ?_⟩
    obtain ⟨⟨k1, k2⟩, k3, k4⟩ := canon (c := C0) h1 hr1.boxes (fun i => a.tmps.getD i undef) hr1.slots
    refine ⟨_, okS, ⟨hr1.glb.keep k4, Nat.le_trans k1 hr1.size, k2, k3, hr1.defers.mono k4, hr1.ext.fr.trans k4, fun b => Nat.zero_le _, fun b ver T cells hv => absurd hv (Nat.not_lt_zero _), fun b ver T t xs hv => absurd hv (Nat.not_lt_zero _)⟩,
      hV, hk1, ⟨fun b hb => ⟨(hf1.os b hb).1, (k4.ro b (hf1.os b hb).2 (Nat.lt_of_lt_of_le (hf1.os b hb).1 hf1.le)).1⟩, fun b hb ho => ?_, fun b hb => ⟨?_, (hf1.c b hb).2⟩, hf1.cb, hf1.cd, hf1.dn, look_decB_ge C0 (by simp [C0]), hf1.le0, hf1.le⟩⟩
    · have hlt : b < w'.heap.size := Nat.lt_of_lt_of_le hb hf1.le
      rcases hf1.o0 b hb ho with h | h
      · exact .inl (k4.ro b h hlt).1
      · exact .inr (k4.fo b h hlt).1
    · exact (k4.fo b (hf1.c b hb).1 (Nat.lt_of_lt_of_le (hf1.c b hb).2 hf1.le)).1
  · -- the beginning
    have hdl : (pi.decS C0 d).length = pi.slots.length := length_decS C0 pi.slots d.2
    refine ⟨⟨g, hG, ?_, ?_, hbs, trivial, Fr.refl g w, fun b => Nat.zero_le _, fun b ver T cells hv => absurd hv (Nat.not_lt_zero _), fun b ver T t xs hv => absurd hv (Nat.not_lt_zero _)⟩, ?_⟩
    · simp only [startSt, appN_eq, List.length_append, hdl, length_undN, Array.size_append, List.size_toArray, Array.size_replicate, hvl]
      exact Nat.le_refl _
    · intro i
      simp only [startSt, appN_eq]
      by_cases hi : i < vals.length
      · rw [getS_append_lt (by omega)]
        have e : (vals.toArray ++ Array.replicate (fn.ntmps - vals.toArray.size) undef).getD i undef = vals.getD i undef := by
          rw [Array.getD_eq_getD_getElem?, Array.getElem?_append_left (by simpa using hi), List.getElem?_toArray, List.getD_eq_getElem?_getD]
        rw [e]; exact hv i
      · rw [getS_append_ge (by omega)]
        have e : (vals.toArray ++ Array.replicate (fn.ntmps - vals.toArray.size) undef).getD i undef = undef := by
          rw [Array.getD_eq_getD_getElem?, Array.getElem?_append_right (by simpa using hi), Array.getElem?_replicate]
          split <;> rfl
        rw [e]
        rcases getS_undN (fn.ntmps - pi.slots.length) (i - (pi.decS C0 d).length) with h | h <;> rw [h]
        · exact (rfl : undef = undef)
        · trivial
    · intro i hi
      have hlt := hkeep i hi
      rw [← hvl] at hlt
      show (vals.toArray ++ Array.replicate (fn.ntmps - vals.toArray.size) undef).getD i undef = vals.getD i undef
      rw [Array.getD_eq_getD_getElem?, Array.getElem?_append_left (by simpa using hlt), List.getElem?_toArray, List.getD_eq_getElem?_getD]
theorem fn_of_body (hE : EnvOk P E) {f : FuncId} {fn : Func} {c : Code} {pi po : PSh} {F : pi.den → Option po.den} (hf : P.funcs[f]? = some fn) (hname : (fn.name == "runtime.NumGoroutine") = false) (hb : fn.body = some c)
    (rs : List RV) (hr : fn.results = (rs.map RV.toR).toArray) (hrs : rs.length = po.slots.length) (hnt : pi.slots.length ≤ fn.ntmps) (hkeep : E.keep = [])
    (cuts : List Nat) (L : Nat → Pts po.den) (LR : Nat → PtsR po.den) (h0 : ∀ x ∈ L 0, ∀ d, x.2.2 d = none)
    (hL : ∀ k, ∀ x ∈ L (k + 1), ∀ d out, x.2.2 d = some out → evAt E (tb (L k) (LR k)) cuts x.1 c 0 (finK E po rs) (ptSt x.2.1 d) = some out)
    (h0R : ∀ x ∈ LR 0, ∀ l d, x.2.2 l d = none)
    (hLR : ∀ k, ∀ x ∈ LR (k + 1), ∀ l d out, x.2.2 l d = some out → evAtR E (tb (L k) (LR k)) cuts x.1 c 0 (finK E po rs) x.2.1.2 l (ptSt x.2.1.1 d) = some out)
    (hF : ∀ d out, F d = some out → ∃ k, evCode E (tb (L k) (LR k)) cuts c 0 (finK E po rs) (startSt pi fn.ntmps d) = some out) : FnOk P E.ET f pi po F := by
  have := fn_of_bodyIo hE hf hname hb rs [] [] hr hrs rfl rfl (by rw [hkeep]; intro i hi; cases hi) hnt cuts L LR h0 hL h0R hLR hF
  rw [hrs] at this
  exact this.plain fun cc out => length_decS cc po.slots out.2
end
end Go.Proofs.YtcnngodgngmghaaGreatDoor.Ev
/- A told function, as its callers see it. -/
namespace Go.Proofs.YtcnngodgngmghaaGreatDoor.Ev
open Go
open Go.RowKit
set_option linter.unusedVariables false
set_option linter.unusedSimpArgs false
set_option linter.unusedSectionVars false

def flatT : Ty → Bool
  | .sl _ => false
  | .nptr _ => false
  | .pair a b => flatT a && flatT b
  | _ => true
def flatL : List LSh → Bool
  | [] => true
  | .v t :: l => flatT t && flatL l
  | _ :: l => flatL l
def flatS : List SSh → Bool
  | [] => true
  | .any :: l => flatS l
  | .mk _ ls :: l => flatL ls && flatS l
def flatB : List BSh → Bool
  | [] => true
  | .var _ cs :: l => flatL cs && flatB l
  | .row _ t :: l => flatT t && flatB l
def PSh.flat (p : PSh) : Bool := flatB p.boxes && flatS p.slots
def killL (bs : Boxes) : List Nat → Boxes
  | [] => bs
  | b :: l => match look bs b with
    | some (v, _) => (b, (v, .dead)) :: killL bs l
    | none => killL bs l
def movedL : Mp → List Nat
  | [] => []
  | (_, some (b, _)) :: r => b :: movedL r
  | (_, none) :: r => movedL r
def freshB (bs : Boxes) (c : Nat) : Nat → Bool
  | 0 => true
  | n + 1 => (match look bs (c + n) with | none => true | some _ => false) && freshB bs c n
def lenSl : List SSh → Nat
  | [] => 0
  | _ :: l => lenSl l + 1
def goneL (pi po : PSh) (args : List AV) (bs : Boxes) : List Nat :=
  movedL (pi.mp args bs) ++ bif po.flat then [] else zOf bs args
def appB : Boxes → Boxes → Boxes
  | [], m => m
  | x :: l, m => x :: appB l m
def typedRun (pi po : PSh) (F : pi.den → Option po.den) (dd : Option Nat) (args : List AV) (bs : Boxes) (R : Type) (K : AV → Boxes → Option R) : Option R :=
  bif Nat.beq (lenN args) (lenSl pi.slots) && freshB bs (callBase dd) (lenB po.boxes) then
    match pi.enc (fun b => memN (zOf bs args) b) args bs with
    | some d => (F d).bind fun out => K (resAV (po.decS (callBase dd) out)) (appB (po.decB (callBase dd) out) (killL bs (goneL pi po args bs)))
    | none => none
  else none
def typedSem (pi po : PSh) (F : pi.den → Option po.den) : CallSem := ⟨typedRun pi po F, some (lenB po.boxes)⟩
section
variable {P : Program} {E : Env} {R : Type} {out : R} {g0 g g' g1 g3 : Gh} {w0 w w' : World} {bs : Boxes}
theorem look_killL (bs : Boxes) (b : Nat) : ∀ (l : List Nat), look (killL bs l) b = if b ∈ l then (look bs b).map (fun x => (x.1, BoxC.dead)) else look bs b
  | [] => by simp [killL]
  | a :: l => by
    simp only [killL]
    have ih := look_killL bs b l
    split
    · rename_i v c hl
      by_cases e : a = b
      · subst e
        rw [look_cons_eq, if_pos (List.mem_cons_self ..), hl]; rfl
      · rw [look_cons_ne _ _ e, ih]
        have : (b ∈ a :: l) ↔ b ∈ l := by simp [Ne.symm e]
        by_cases h : b ∈ l
        · rw [if_pos h, if_pos (this.2 h)]
        · rw [if_neg h, if_neg (fun h' => h (this.1 h'))]
    · rename_i hl
      rw [ih]
      by_cases e : a = b
      · subst e
        rw [hl]; simp
      · have : (b ∈ a :: l) ↔ b ∈ l := by simp [Ne.symm e]
        by_cases h : b ∈ l
        · rw [if_pos h, if_pos (this.2 h)]
        · rw [if_neg h, if_neg (fun h' => h (this.1 h'))]
theorem look_app : ∀ (l m : Boxes) (b : Nat), look (appB l m) b = match look l b with | some x => some x | none => look m b
  | [], m, b => rfl
  | (i, x) :: l, m, b => by
    simp only [appB, look]
    cases Nat.beq i b with
    | true => rfl
    | false => exact look_app l m b
theorem freshB_of : ∀ {n : Nat} {c : Nat}, freshB bs c n = true → ∀ k < n, look bs (c + k) = none
  | 0, _, _, k, h => by omega
  | n + 1, c, h, k, hk => by
    simp only [freshB, Bool.and_eq_true] at h
    by_cases e : k = n
    · subst e
      have := h.1
      split at this
      · assumption
      · cases this
    · exact freshB_of h.2 k (by omega)
theorem lenSl_eq : ∀ l : List SSh, lenSl l = l.length
  | [] => rfl
  | _ :: l => by simp [lenSl, lenSl_eq l]
theorem rep_flat {ok ok' : Nat → Prop} : ∀ {t : Ty} {x : t.den} {cs : List Value}, flatT t = true → Rep E.ET ok w t x cs → Rep E.ET ok' w' t x cs
  | .int _, _, _, _, h => h
  | .bool, _, _, _, h => h
  | .str, _, _, _, h => h
  | .err, _, _, _, h => h
  | .sl _, _, _, hf, _ => by cases hf
  | .nptr _, _, _, hf, _ => by cases hf
  | .pair a b, _, _, hf, ⟨c1, c2, e, h1, h2⟩ => by
    simp only [flatT, Bool.and_eq_true] at hf
    exact ⟨c1, c2, e, rep_flat hf.1 h1, rep_flat hf.2 h2⟩
  | .unit, _, _, _, h => h
structure Over (fl : Bool) (g3 gN : Gh) (c n : Nat) (bsN bsO : Boxes) (w' : World) : Prop where
  ok : fl = false → ∀ b, okB g3 w' b → okB gN w' b
  own : ∀ b k, k < n → g3.O b = some (c + k) → gN.O b = some (c + k)
  hd : ∀ k < n, gN.hd (c + k) = g3.hd (c + k)
  look : ∀ k < n, look bsN (c + k) = look bsO (c + k)
theorem over_caps {fl : Bool} {gN : Gh} {c n : Nat} {bsN bsO : Boxes} (ho : Over fl g3 gN c n bsN bsO w') (hn : ∀ i, 0 < nextVer bsO i → ∃ k < n, i = c + k) : ∀ {ks : List Nat} {vs : List Value},
    All2 (capR g3 bsO) (decK c ks) vs → All2 (capR gN bsN) (decK c ks) vs
  | [], [], _ => trivial
  | [], _ :: _, h => h.elim
  | k :: ks, [], h => h.elim
  | k :: ks, v :: vs, h => by
    obtain ⟨k', hk', e⟩ := hn _ h.1.1
    have e : k' = k := by omega
    subst e
    refine ⟨⟨?_, h.1.2.1, fun T cells hb => ?_⟩, over_caps ho hn h.2⟩
    · have := h.1.1
      simp only [nextVer] at this ⊢
      rw [ho.look k' hk']; exact this
    · simp only [getBox] at hb
      rw [ho.look k' hk'] at hb
      obtain ⟨blk, h1, h2⟩ := h.1.2.2 T cells hb
      exact ⟨blk, (ho.hd k' hk').trans h1, h2⟩
theorem over_leaf {fl : Bool} {gN : Gh} {c n : Nat} {bsN bsO : Boxes} (ho : Over fl g3 gN c n bsN bsO w') (hn : ∀ i, 0 < nextVer bsO i → ∃ k < n, i = c + k) : ∀ {ls : List LSh} {d : lsDen ls} {vs : List Value},
    (fl = true → flatL ls = true) → All2 (LRel E.ET g3 bsO w') (decL c ls d) vs → All2 (LRel E.ET gN bsN w') (decL c ls d) vs
  | [], d, [], _, _ => trivial
  | [], d, _ :: _, _, h => h.elim
  | .v t :: ls, d, [], _, h => h.elim
  | .v t :: ls, d, v :: vs, hf, h => by
    refine ⟨?_, over_leaf ho hn (fun e => by have := hf e; simp only [flatL, Bool.and_eq_true] at this; exact this.2) h.2⟩
    cases hfl : fl with
    | true =>
      have := hf hfl
      simp only [flatL, Bool.and_eq_true] at this
      exact rep_flat (E := E) this.1 h.1
    | false => exact Rep.mono (fun b hb => ⟨ho.ok hfl b hb, rfl⟩) h.1
  | .top :: ls, d, [], _, h => h.elim
  | .top :: ls, d, v :: vs, hf, h => ⟨trivial, over_leaf ho hn hf h.2⟩
  | .ref k o :: ls, d, [], _, h => h.elim
  | .ref k o :: ls, d, v :: vs, hf, h => by
    obtain ⟨k', hk', e⟩ := hn _ h.1.1
    have e : k' = k := by omega
    subst e
    refine ⟨⟨?_, h.1.2.1, fun T cells hb => ?_⟩, over_leaf ho hn hf h.2⟩
    · have := h.1.1
      simp only [nextVer] at this ⊢
      rw [ho.look k' hk']; exact this
    · simp only [getBox] at hb
      rw [ho.look k' hk'] at hb
      obtain ⟨blk, h1, h2⟩ := h.1.2.2 T cells hb
      exact ⟨blk, (ho.hd k' hk').trans h1, h2⟩
  | .osl k :: ls, d, [], _, h => h.elim
  | .osl k :: ls, d, v :: vs, hf, h => by
    obtain ⟨k', hk', e⟩ := hn _ h.1.1
    have e : k' = k := by omega
    subst e
    refine ⟨⟨?_, h.1.2.1, fun T t xs hb => ?_⟩, over_leaf ho hn hf h.2⟩
    · have := h.1.1
      simp only [nextVer] at this ⊢
      rw [ho.look k' hk']; exact this
    · simp only [getBox] at hb
      rw [ho.look k' hk'] at hb
      rw [ho.hd k' hk']; exact h.1.2.2 T t xs hb
  | .opt k :: ls, d, [], _, h => h.elim
  | .opt k :: ls, d, v :: vs, hf, h => by
    obtain ⟨k', hk', e⟩ := hn _ h.1.1
    have e : k' = k := by omega
    subst e
    refine ⟨⟨?_, h.1.2.1, fun T t xs hb => ?_⟩, over_leaf ho hn hf h.2⟩
    · have := h.1.1
      simp only [nextVer] at this ⊢
      rw [ho.look k' hk']; exact this
    · simp only [getBox] at hb
      rw [ho.look k' hk'] at hb
      rw [ho.hd k' hk']; exact h.1.2.2 T t xs hb
  | .fn f ks :: ls, d, [], _, h => h.elim
  | .fn f ks :: ls, d, v :: vs, hf, h => by
    obtain ⟨cv, e, ha⟩ := h.1
    exact ⟨⟨cv, e, over_caps ho hn ha⟩, over_leaf ho hn hf h.2⟩
theorem decL_noAgg (c : Nat) : ∀ (ls : List LSh) (d : lsDen ls), ∀ x ∈ decL c ls d, ∀ l, x ≠ .agg l
  | [], _, x, h, _ => by cases h
  | .v t :: ls, d, x, h, l => by
    rcases List.mem_cons.1 h with rfl | h
    · simp
    · exact decL_noAgg c ls d.2 x h l
  | .top :: ls, d, x, h, l => by
    rcases List.mem_cons.1 h with rfl | h
    · simp
    · exact decL_noAgg c ls d x h l
  | .ref k o :: ls, d, x, h, l => by
    rcases List.mem_cons.1 h with rfl | h
    · simp
    · exact decL_noAgg c ls d x h l
  | .osl k :: ls, d, x, h, l => by
    rcases List.mem_cons.1 h with rfl | h
    · simp
    · exact decL_noAgg c ls d x h l
  | .opt k :: ls, d, x, h, l => by
    rcases List.mem_cons.1 h with rfl | h
    · simp
    · exact decL_noAgg c ls d x h l
  | .fn f ks :: ls, d, x, h, l => by
    rcases List.mem_cons.1 h with rfl | h
    · simp
    · exact decL_noAgg c ls d x h l
theorem over_slot1 {fl : Bool} {gN : Gh} {c n : Nat} {bsN bsO : Boxes} (ho : Over fl g3 gN c n bsN bsO w') (hn : ∀ i, 0 < nextVer bsO i → ∃ k < n, i = c + k) {ag : Bool} {ls : List LSh} {d : lsDen ls} {v : Value}
    (hf : fl = true → flatL ls = true) (h : VRel E.ET g3 bsO w' (decS1 ag (decL c ls d)) v) : VRel E.ET gN bsN w' (decS1 ag (decL c ls d)) v := by
  unfold decS1 at h ⊢
  cases ag with
  | true =>
    obtain ⟨vs, e, h⟩ := h
    exact ⟨vs, e, over_leaf ho hn hf h⟩
  | false =>
    simp only [cond_false] at h ⊢
    split
    · rename_i x hx
      rw [hx] at h
      have hnt : LRel E.ET g3 bsO w' x v := by
        have h2 := decL_noTup c ls d x (by rw [hx]; exact List.mem_cons_self ..)
        have h3 : ∀ l, x ≠ .agg l := by
          intro l e
          subst e
          exact decL_noAgg c ls d _ (by rw [hx]; exact List.mem_cons_self ..) l rfl
        cases x <;> first | exact h | exact (h2 _ rfl).elim | exact (h3 _ rfl).elim
      have := over_leaf (d := d) ho hn hf (vs := [v]) (by rw [hx]; exact ⟨hnt, trivial⟩)
      rw [hx] at this
      exact this.1.up
    · trivial
theorem over_slots {fl : Bool} {gN : Gh} {c n : Nat} {bsN bsO : Boxes} (ho : Over fl g3 gN c n bsN bsO w') (hn : ∀ i, 0 < nextVer bsO i → ∃ k < n, i = c + k) : ∀ {ls : List SSh} {d : ssDen ls} {vs : List Value},
    (fl = true → flatS ls = true) → All2 (CRel E.ET g3 bsO w') (decS c ls d) vs → All2 (CRel E.ET gN bsN w') (decS c ls d) vs
  | [], d, [], _, _ => trivial
  | [], d, _ :: _, _, h => h.elim
  | .any :: ls, d, [], _, h => h.elim
  | .any :: ls, d, v :: vs, hf, h => ⟨trivial, over_slots ho hn hf h.2⟩
  | .mk ag lss :: ls, d, [], _, h => h.elim
  | .mk ag lss :: ls, d, v :: vs, hf, h => by
    have hf' : fl = true → flatL lss = true ∧ flatS ls = true := fun e => by have := hf e; simpa only [flatS, Bool.and_eq_true] using this
    refine ⟨?_, over_slots ho hn (fun e => (hf' e).2) h.2⟩
    refine (over_slot1 ho hn (fun e => (hf' e).1) h.1.up).noTup fun l => ?_
    exact decS_noTup c (.mk ag lss :: ls) d _ (List.mem_cons_self ..) l
theorem over_res {fl : Bool} {gN : Gh} {c n : Nat} {bsN bsO : Boxes} (ho : Over fl g3 gN c n bsN bsO w') (hn : ∀ i, 0 < nextVer bsO i → ∃ k < n, i = c + k) : ∀ {ls : List SSh} {d : ssDen ls} {u : Value},
    (fl = true → flatS ls = true) → VRel E.ET g3 bsO w' (resAV (decS c ls d)) u → VRel E.ET gN bsN w' (resAV (decS c ls d)) u
  | [], d, u, _, ⟨vs, e, h⟩ => ⟨vs, e, by cases vs with | nil => trivial | cons _ _ => exact h.elim⟩
  | [.any], d, u, _, h => trivial
  | [.mk ag lss], d, u, hf, h => over_slot1 ho hn (fun e => by have := hf e; simp only [flatS, Bool.and_eq_true] at this; exact this.1) h
  | .any :: .any :: ls, d, u, hf, ⟨vs, e, h⟩ => ⟨vs, e, over_slots (ls := .any :: .any :: ls) (d := d) ho hn hf h⟩
  | .any :: .mk a1 l1 :: ls, d, u, hf, ⟨vs, e, h⟩ => ⟨vs, e, over_slots (ls := .any :: .mk a1 l1 :: ls) (d := d) ho hn hf h⟩
  | .mk a1 l1 :: .any :: ls, d, u, hf, ⟨vs, e, h⟩ => ⟨vs, e, over_slots (ls := .mk a1 l1 :: .any :: ls) (d := d) ho hn hf h⟩
  | .mk a1 l1 :: .mk a2 l2 :: ls, d, u, hf, ⟨vs, e, h⟩ => ⟨vs, e, over_slots (ls := .mk a1 l1 :: .mk a2 l2 :: ls) (d := d) ho hn hf h⟩
theorem look_decB2 {fl : Bool} (c : Nat) : ∀ {l : List BSh} {j : Nat} {d : bsDen l}, (fl = true → flatB l = true) →
    (∀ i x, look (decB c j l d) i = some x → (∃ k, j ≤ k ∧ k < j + lenB l ∧ i = c + k) ∧
      ((∃ T cs d', (fl = true → flatL cs = true) ∧ x.2 = .var T (decL c cs d')) ∨ (∃ (T : TypeId) (t : Ty) (xs : List t.den), (fl = true → flatT t = true) ∧ x.2 = .row T t xs))) ∧
    (∀ k, j ≤ k → k < j + lenB l → ∃ x, look (decB c j l d) (c + k) = some x)
  | [], j, d, _ => ⟨fun i x hx => (by cases hx), fun k h1 h2 => (by simp only [lenB] at h2; omega)⟩
  | .var T cs :: l, j, d, hf => by
    have hf' : fl = true → flatL cs = true ∧ flatB l = true := fun e => by have := hf e; simpa only [flatB, Bool.and_eq_true] using this
    obtain ⟨i1, i2⟩ := look_decB2 (fl := fl) c (l := l) (j := j + 1) (d := d.2) (fun e => (hf' e).2)
    refine ⟨fun i x hx => ?_, fun k h1 h2 => ?_⟩
    · by_cases e : c + j = i
      · subst e
        simp only [decB, look_cons_eq, Option.some.injEq] at hx
        subst hx
        exact ⟨⟨j, Nat.le_refl _, by simp only [lenB]; omega, rfl⟩, .inl ⟨T, cs, d.1, fun e => (hf' e).1, rfl⟩⟩
      · simp only [decB, look_cons_ne _ _ e] at hx
        obtain ⟨⟨k, k1, k2, k3⟩, h⟩ := i1 i x hx
        exact ⟨⟨k, by omega, by simp only [lenB]; omega, k3⟩, h⟩
    · by_cases e : k = j
      · subst e
        simp only [decB, look_cons_eq]
        exact ⟨_, rfl⟩
      · simp only [decB]
        rw [look_cons_ne _ _ (by omega)]
        exact i2 k (by omega) (by simp only [lenB] at h2; omega)
  | .row T t :: l, j, d, hf => by
    have hf' : fl = true → flatT t = true ∧ flatB l = true := fun e => by have := hf e; simpa only [flatB, Bool.and_eq_true] using this
    obtain ⟨i1, i2⟩ := look_decB2 (fl := fl) c (l := l) (j := j + 1) (d := d.2) (fun e => (hf' e).2)
    refine ⟨fun i x hx => ?_, fun k h1 h2 => ?_⟩
    · by_cases e : c + j = i
      · subst e
        simp only [decB, look_cons_eq, Option.some.injEq] at hx
        subst hx
        exact ⟨⟨j, Nat.le_refl _, by simp only [lenB]; omega, rfl⟩, .inr ⟨T, t, d.1, fun e => (hf' e).1, rfl⟩⟩
      · simp only [decB, look_cons_ne _ _ e] at hx
        obtain ⟨⟨k, k1, k2, k3⟩, h⟩ := i1 i x hx
        exact ⟨⟨k, by omega, by simp only [lenB]; omega, k3⟩, h⟩
    · by_cases e : k = j
      · subst e
        simp only [decB, look_cons_eq]
        exact ⟨_, rfl⟩
      · simp only [decB]
        rw [look_cons_ne _ _ (by omega)]
        exact i2 k (by omega) (by simp only [lenB] at h2; omega)
theorem mem_moved : ∀ {m : Mp} {b k : Nat}, mfind m b = some k → b ∈ movedL m
  | [], _, _, h => by cases h
  | (k', none) :: r, b, k, h => mem_moved (m := r) h
  | (k', some (b', v')) :: r, b, k, h => by
    simp only [mfind] at h
    cases hb : Nat.beq b' b with
    | true =>
      have := Nat.eq_of_beq_eq_true hb
      subst this
      exact List.mem_cons_self ..
    | false =>
      rw [hb] at h
      exact List.mem_cons_of_mem _ (mem_moved (m := r) h)
def okL (ok : Nat → Prop) : AV → Prop
  | .ref b _ _ => ok b
  | .osl b _ => ok b
  | .oel b _ _ _ => ok b
  | .fn _ caps => ∀ b ∈ mentR caps, ok b
  | _ => True
theorem leafF_bs {bs2 : Boxes} (t : Ty) (l : List AV) : leafF bs2 t l = leafF bs t l := by
  cases l with
  | nil => rfl
  | cons a l => simp only [leafF]; rw [asTy_bs (bs2 := bs)]
theorem leafF_rest {t : Ty} {l l' : List AV} {y : t.den} (h : leafF bs t l = some (y, l')) : ∀ x ∈ l', x ∈ l := by
  cases l with
  | nil => cases h
  | cons a l =>
    simp only [leafF] at h
    split at h
    · simp only [Option.some.injEq, Prod.mk.injEq] at h
      obtain ⟨_, rfl⟩ := h
      exact fun x hx => List.mem_cons_of_mem _ hx
    · cases h
structure Same (ok : Nat → Prop) (bs bs2 : Boxes) : Prop where
  look : ∀ b, ok b → look bs2 b = look bs b
  cells : ∀ b v T cells, ok b → getBox bs b v = .var T cells → ∀ x ∈ cells, okL ok x
theorem gatherF_same {ok : Nat → Prop} {bs2 : Boxes} {m : Mp} {z : Nat → Bool} (hs : Same ok bs bs2) : ∀ (t : Ty) (l : List AV), (∀ x ∈ l, okL ok x) →
    gatherF bs2 m z t l = gatherF bs m z t l ∧ ∀ y l', gatherF bs m z t l = some (y, l') → ∀ x ∈ l', okL ok x
  | .pair a b, l, hl => by
    obtain ⟨h1, h2⟩ := gatherF_same hs a l hl
    simp only [gatherF]
    rw [h1]
    cases hg : gatherF bs m z a l with
    | none => exact ⟨rfl, fun y l' h => by cases h⟩
    | some p =>
      obtain ⟨x, l1⟩ := p
      have hl1 := h2 x l1 hg
      obtain ⟨k1, k2⟩ := gatherF_same hs b l1 hl1
      simp only
      rw [k1]
      refine ⟨rfl, fun y l' h => ?_⟩
      cases hg2 : gatherF bs m z b l1 with
      | none => rw [hg2] at h; cases h
      | some q =>
        obtain ⟨y2, l2⟩ := q
        rw [hg2] at h
        simp only [Option.some.injEq, Prod.mk.injEq] at h
        obtain ⟨_, rfl⟩ := h
        exact k2 _ _ hg2
  | .unit, l, hl => ⟨rfl, fun y l' h => by simp only [gatherF, Option.some.injEq, Prod.mk.injEq] at h; obtain ⟨_, rfl⟩ := h; exact hl⟩
  | .nptr t, l, hl => by
    simp only [gatherF]
    split
    · rename_i b v l1
      have hb : ok b := hl _ (List.mem_cons_self ..)
      have hg : getBox bs2 b v = getBox bs b v := by simp only [getBox, hs.look b hb]
      rw [hg]
      have hrest : ∀ x ∈ l1, okL ok x := fun x hx => hl x (List.mem_cons_of_mem _ hx)
      cases hbx : getBox bs b v with
      | var T cells =>
        obtain ⟨h1, _⟩ := gatherF_same hs t cells (hs.cells b v T cells hb hbx)
        simp only
        rw [h1]
        refine ⟨rfl, fun y l' h => ?_⟩
        obtain ⟨_, h⟩ := bif_some h
        split at h
        · simp only [Option.some.injEq, Prod.mk.injEq] at h
          obtain ⟨_, rfl⟩ := h
          exact hrest
        · cases h
      | dead => exact ⟨rfl, fun y l' h => by obtain ⟨_, h⟩ := bif_some h; cases h⟩
      | row T t' xs => exact ⟨rfl, fun y l' h => by obtain ⟨_, h⟩ := bif_some h; cases h⟩
    · exact ⟨leafF_bs _ _, fun y l' h x hx => hl x (leafF_rest h x hx)⟩
  | .sl t, l, hl => by
    simp only [gatherF]
    split
    · rename_i b v l1
      have hb : ok b := hl _ (List.mem_cons_self ..)
      have hg : getBox bs2 b v = getBox bs b v := by simp only [getBox, hs.look b hb]
      rw [hg]
      have hrest : ∀ x ∈ l1, okL ok x := fun x hx => hl x (List.mem_cons_of_mem _ hx)
      refine ⟨rfl, fun y l' h => ?_⟩
      obtain ⟨_, h⟩ := bif_some h
      split at h
      · split at h
        · simp only [Option.some.injEq, Prod.mk.injEq] at h
          obtain ⟨_, rfl⟩ := h
          exact hrest
        · cases h
      · cases h
    · exact ⟨leafF_bs _ _, fun y l' h x hx => hl x (leafF_rest h x hx)⟩
  | .int k, l, hl => ⟨leafF_bs _ _, fun y l' h x hx => hl x (leafF_rest h x hx)⟩
  | .bool, l, hl => ⟨leafF_bs _ _, fun y l' h x hx => hl x (leafF_rest h x hx)⟩
  | .str, l, hl => ⟨leafF_bs _ _, fun y l' h x hx => hl x (leafF_rest h x hx)⟩
  | .err, l, hl => ⟨leafF_bs _ _, fun y l' h x hx => hl x (leafF_rest h x hx)⟩
def okM (ok : Nat → Prop) (m : Mp) : Prop := ∀ k b v, (k, some (b, v)) ∈ m → ok b
theorem mget_mem : ∀ {m : Mp} {k b v : Nat}, mget m k = some (some (b, v)) → ∃ k', (k', some (b, v)) ∈ m
  | [], _, _, _, h => by cases h
  | (i, x) :: r, k, b, v, h => by
    simp only [mget] at h
    cases hb : Nat.beq i k with
    | true =>
      rw [hb] at h
      simp only [cond_true, Option.some.injEq] at h
      subst h
      exact ⟨i, List.mem_cons_self ..⟩
    | false =>
      rw [hb] at h
      obtain ⟨k', hk⟩ := mget_mem (m := r) h
      exact ⟨k', List.mem_cons_of_mem _ hk⟩
theorem madd_ok {ok : Nat → Prop} {m : Mp} {k : Nat} {x : Option (Nat × Nat)} (hm : okM ok m) (hx : ∀ b v, x = some (b, v) → ok b) : okM ok (madd m k x) := by
  unfold madd
  split
  · exact hm
  · intro k' b v h
    rcases List.mem_cons.1 h with h | h
    · simp only [Prod.mk.injEq] at h
      exact hx b v h.2.symm
    · exact hm k' b v h
theorem mcaps_ok {ok : Nat → Prop} : ∀ (ks : List Nat) (l : List AV) {m : Mp}, okM ok m → (∀ b ∈ mentR l, ok b) → okM ok (mcaps m ks l)
  | [], _, m, hm, _ => by unfold mcaps; exact hm
  | _ :: _, [], m, hm, _ => by unfold mcaps; exact hm
  | k :: ks, x :: l, m, hm, hl => by
    cases x with
    | ref b v o =>
      show okM ok (mcaps (madd m k (some (b, v))) ks l)
      exact mcaps_ok ks l (madd_ok hm fun b' v' e => by simp only [Option.some.injEq, Prod.mk.injEq] at e; rw [← e.1]; exact hl b (List.mem_cons_self ..)) fun y hy => hl y (List.mem_cons_of_mem _ hy)
    | _ => exact hm
theorem mleaf_ok {ok : Nat → Prop} {m : Mp} {s : LSh} {x : AV} (hm : okM ok m) (hx : okL ok x) : okM ok (mleaf m s x) := by
  unfold mleaf
  split
  · exact madd_ok hm fun b v h => by simp only [Option.some.injEq, Prod.mk.injEq] at h; rw [← h.1]; exact hx
  · exact madd_ok hm fun b v h => by simp only [Option.some.injEq, Prod.mk.injEq] at h; rw [← h.1]; exact hx
  · exact madd_ok hm fun b v h => by cases h
  · exact madd_ok hm fun b v h => by simp only [Option.some.injEq, Prod.mk.injEq] at h; rw [← h.1]; exact hx
  · exact mcaps_ok _ _ hm hx
  · exact hm
theorem mleaves_ok {ok : Nat → Prop} : ∀ (ls : List LSh) (l : List AV) {m : Mp}, okM ok m → (∀ x ∈ l, okL ok x) → okM ok (mleaves m ls l)
  | [], _, m, hm, _ => by unfold mleaves; exact hm
  | _ :: _, [], m, hm, _ => by unfold mleaves; exact hm
  | s :: ls, x :: l, m, hm, hl => by
    show okM ok (mleaves (mleaf m s x) ls l)
    exact mleaves_ok ls l (mleaf_ok hm (hl x (List.mem_cons_self ..))) fun y hy => hl y (List.mem_cons_of_mem _ hy)
theorem mslots_ok {ok : Nat → Prop} : ∀ (ls : List SSh) (l : List AV) {m : Mp}, okM ok m → (∀ x ∈ l, ∀ y ∈ leaves x, okL ok y) → okM ok (mslots m ls l)
  | [], _, m, hm, _ => by unfold mslots; exact hm
  | .any :: _, [], m, hm, _ => by unfold mslots; exact hm
  | .mk _ _ :: _, [], m, hm, _ => by unfold mslots; exact hm
  | .any :: ls, x :: l, m, hm, hl => mslots_ok ls l (m := m) hm fun y hy => hl y (List.mem_cons_of_mem _ hy)
  | .mk ag lss :: ls, x :: l, m, hm, hl => mslots_ok ls l (mleaves_ok lss (leaves x) hm (hl x (List.mem_cons_self ..))) fun y hy => hl y (List.mem_cons_of_mem _ hy)
theorem mboxes_same {ok : Nat → Prop} {bs2 : Boxes} (hs : Same ok bs bs2) : ∀ (l : List BSh) (k : Nat) {m : Mp}, okM ok m → mboxes bs2 k l m = mboxes bs k l m ∧ okM ok (mboxes bs k l m)
  | [], k, m, hm => ⟨by unfold mboxes; rfl, by unfold mboxes; exact hm⟩
  | .row T t :: l, k, m, hm => mboxes_same hs l (k + 1) hm
  | .var T cs :: l, k, m, hm => by
    show mboxes bs2 (k + 1) l (match mget m k with | some (some (b, v)) => (match getBox bs2 b v with | .var _ cells => mleaves m cs cells | _ => m) | _ => m) =
        mboxes bs (k + 1) l (match mget m k with | some (some (b, v)) => (match getBox bs b v with | .var _ cells => mleaves m cs cells | _ => m) | _ => m) ∧
      okM ok (mboxes bs (k + 1) l (match mget m k with | some (some (b, v)) => (match getBox bs b v with | .var _ cells => mleaves m cs cells | _ => m) | _ => m))
    cases hg : mget m k with
    | none => exact mboxes_same hs l (k + 1) hm
    | some o =>
      cases o with
      | none => exact mboxes_same hs l (k + 1) hm
      | some bv =>
        obtain ⟨b, v⟩ := bv
        obtain ⟨k', hk'⟩ := mget_mem hg
        have hb := hm k' b v hk'
        have hbx : getBox bs2 b v = getBox bs b v := by simp only [getBox, hs.look b hb]
        simp only
        rw [hbx]
        cases hc : getBox bs b v with
        | var T' cells => exact mboxes_same hs l (k + 1) (mleaves_ok cs cells hm (hs.cells b v T' cells hb hc))
        | dead => exact mboxes_same hs l (k + 1) hm
        | row T' t' xs => exact mboxes_same hs l (k + 1) hm
theorem fz_same {ok : Nat → Prop} {bs2 : Boxes} {m : Mp} {z : Nat → Bool} (hs : Same ok bs bs2) {t : Ty} {x : AV} (hx : okL ok x) : fz bs2 m z t x = fz bs m z t x := by
  unfold fz
  rw [(gatherF_same hs t [x] (by intro y hy; simp only [List.mem_singleton] at hy; subst hy; exact hx)).1]
theorem encL_same {ok : Nat → Prop} {bs2 : Boxes} {m : Mp} {z : Nat → Bool} {nb : Nat} (hs : Same ok bs bs2) : ∀ (ls : List LSh) (l : List AV), (∀ x ∈ l, okL ok x) → encL bs2 m z nb ls l = encL bs m z nb ls l
  | [], [], _ => rfl
  | [], _ :: _, _ => rfl
  | .v t :: ls, [], _ => rfl
  | .v t :: ls, x :: l, hl => by
    simp only [encL]
    rw [fz_same hs (hl x (List.mem_cons_self ..)), encL_same hs ls l fun y hy => hl y (List.mem_cons_of_mem _ hy)]
  | .top :: ls, [], _ => rfl
  | .top :: ls, x :: l, hl => by
    simp only [encL]
    exact encL_same hs ls l fun y hy => hl y (List.mem_cons_of_mem _ hy)
  | .ref k o :: ls, [], _ => rfl
  | .ref k o :: ls, x :: l, hl => by
    have ih := encL_same (m := m) (z := z) (nb := nb) hs ls l fun y hy => hl y (List.mem_cons_of_mem _ hy)
    cases x <;> simp only [encL, ih]
  | .osl k :: ls, [], _ => rfl
  | .osl k :: ls, x :: l, hl => by
    have ih := encL_same (m := m) (z := z) (nb := nb) hs ls l fun y hy => hl y (List.mem_cons_of_mem _ hy)
    cases x <;> simp only [encL, ih]
  | .opt k :: ls, [], _ => rfl
  | .opt k :: ls, x :: l, hl => by
    have ih := encL_same (m := m) (z := z) (nb := nb) hs ls l fun y hy => hl y (List.mem_cons_of_mem _ hy)
    cases x <;> simp only [encL, ih]
  | .fn f ks :: ls, [], _ => rfl
  | .fn f ks :: ls, x :: l, hl => by
    have ih := encL_same (m := m) (z := z) (nb := nb) hs ls l fun y hy => hl y (List.mem_cons_of_mem _ hy)
    cases x <;> simp only [encL, ih]
theorem encS1_same {ok : Nat → Prop} {bs2 : Boxes} {m : Mp} {z : Nat → Bool} {nb : Nat} (hs : Same ok bs bs2) (ag : Bool) (ls : List LSh) (x : AV) (hx : ∀ y ∈ leaves x, okL ok y) : encS1 bs2 m z nb ag ls x = encS1 bs m z nb ag ls x := by
  unfold encS1
  cases ag with
  | true => cases x <;> first | rfl | exact encL_same hs ls _ hx
  | false => cases x <;> first | rfl | exact encL_same hs ls _ hx
theorem encS_same {ok : Nat → Prop} {bs2 : Boxes} {m : Mp} {z : Nat → Bool} {nb : Nat} (hs : Same ok bs bs2) : ∀ (ls : List SSh) (l : List AV), (∀ x ∈ l, ∀ y ∈ leaves x, okL ok y) → encS bs2 m z nb ls l = encS bs m z nb ls l
  | [], _, _ => rfl
  | .any :: ls, [], _ => rfl
  | .any :: ls, x :: l, hl => by
    simp only [encS]
    exact encS_same hs ls l fun y hy => hl y (List.mem_cons_of_mem _ hy)
  | .mk ag lss :: ls, [], _ => rfl
  | .mk ag lss :: ls, x :: l, hl => by
    simp only [encS]
    rw [encS1_same hs ag lss x (hl x (List.mem_cons_self ..)), encS_same hs ls l fun y hy => hl y (List.mem_cons_of_mem _ hy)]
theorem encB_same {ok : Nat → Prop} {bs2 : Boxes} {m : Mp} {z : Nat → Bool} {nb : Nat} (hs : Same ok bs bs2) (hm : okM ok m) : ∀ (l : List BSh) (k : Nat), encB bs2 m z nb k l = encB bs m z nb k l
  | [], _ => rfl
  | .var T cs :: l, k => by
    simp only [encB]
    rw [encB_same hs hm l (k + 1)]
    cases hg : mget m k with
    | none => rfl
    | some o =>
      cases o with
      | none => rfl
      | some bv =>
        obtain ⟨b, v⟩ := bv
        obtain ⟨k', hk'⟩ := mget_mem hg
        have hb := hm k' b v hk'
        have hbx : getBox bs2 b v = getBox bs b v := by simp only [getBox, hs.look b hb]
        simp only
        rw [hbx]
        cases hc : getBox bs b v with
        | var T' cells =>
          simp only
          rw [encL_same hs cs cells (hs.cells b v T' cells hb hc)]
        | dead => rfl
        | row T' t' xs => rfl
  | .row T t :: l, k => by
    simp only [encB]
    rw [encB_same hs hm l (k + 1)]
    cases hg : mget m k with
    | none => rfl
    | some o =>
      cases o with
      | none => rfl
      | some bv =>
        obtain ⟨b, v⟩ := bv
        obtain ⟨k', hk'⟩ := mget_mem hg
        have hb := hm k' b v hk'
        have hbx : getBox bs2 b v = getBox bs b v := by simp only [getBox, hs.look b hb]
        simp only
        rw [hbx]
theorem enc_same {ok : Nat → Prop} {bs2 : Boxes} {z : Nat → Bool} {p : PSh} {args : List AV} (hs : Same ok bs bs2) (ha : ∀ x ∈ args, ∀ y ∈ leaves x, okL ok y) :
    p.mp args bs2 = p.mp args bs ∧ p.enc z args bs2 = p.enc z args bs ∧ okM ok (p.mp args bs) := by
  have h0 : okM ok (mslots [] p.slots args) := mslots_ok p.slots args (by intro k b v h; cases h) ha
  obtain ⟨h1, h2⟩ := mboxes_same hs p.boxes 0 h0
  have hmp : p.mp args bs2 = p.mp args bs := h1
  refine ⟨hmp, ?_, h2⟩
  have h2' : okM ok (p.mp args bs) := h2
  unfold PSh.enc
  rw [hmp, encB_same hs h2', encS_same hs _ _ ha]
def kills (bs : Boxes) : List Nat → Boxes
  | [] => []
  | b :: l => match look bs b with
    | some (v, _) => (b, (v, .dead)) :: kills bs l
    | none => kills bs l
theorem killL_eq (bs : Boxes) : ∀ l, killL bs l = kills bs l ++ bs
  | [] => rfl
  | b :: l => by
    simp only [killL, kills]
    split
    · rw [killL_eq bs l]; rfl
    · exact killL_eq bs l
theorem kills_same {bs2 : Boxes} (h : ∀ b, look bs2 b = look bs b) : ∀ l, kills bs2 l = kills bs l
  | [] => rfl
  | b :: l => by simp only [kills]; rw [h b, kills_same h l]
theorem appB_eq : ∀ l m : Boxes, appB l m = l ++ m
  | [], _ => rfl
  | x :: l, m => by simp [appB, appB_eq l m]
theorem freshB_same {bs2 : Boxes} {c : Nat} : ∀ (n : Nat), (∀ k < n, look bs2 (c + k) = look bs (c + k)) → freshB bs2 c n = freshB bs c n
  | 0, _ => rfl
  | n + 1, h => by simp only [freshB]; rw [h n (Nat.lt_succ_self n), freshB_same n fun k hk => h k (Nat.lt_succ_of_lt hk)]
theorem mem_rangeN {c : Nat} : ∀ {n b : Nat}, b ∈ rangeN c n ↔ ∃ k < n, b = c + k
  | 0, b => by simp [rangeN]
  | n + 1, b => by
    simp only [rangeN, List.mem_cons, mem_rangeN (n := n)]
    constructor
    · rintro (rfl | ⟨k, hk, rfl⟩)
      · exact ⟨n, Nat.lt_succ_self n, rfl⟩
      · exact ⟨k, Nat.lt_succ_of_lt hk, rfl⟩
    · rintro ⟨k, hk, rfl⟩
      by_cases e : k = n
      · exact .inl (by rw [e])
      · exact .inr ⟨k, by omega, rfl⟩
theorem ids_decB (c : Nat) : ∀ (l : List BSh) (j : Nat) (d : bsDen l), ∀ x ∈ decB c j l d, ∃ k, j ≤ k ∧ k < j + lenB l ∧ x.1 = c + k
  | [], _, _, x, h => by cases h
  | .var T cs :: l, j, d, x, h => by
    rcases List.mem_cons.1 h with rfl | h
    · exact ⟨j, Nat.le_refl _, by simp only [lenB]; omega, rfl⟩
    · obtain ⟨k, k1, k2, k3⟩ := ids_decB c l (j + 1) d.2 x h
      exact ⟨k, by omega, by simp only [lenB]; omega, k3⟩
  | .row T t :: l, j, d, x, h => by
    rcases List.mem_cons.1 h with rfl | h
    · exact ⟨j, Nat.le_refl _, by simp only [lenB]; omega, rfl⟩
    · obtain ⟨k, k1, k2, k3⟩ := ids_decB c l (j + 1) d.2 x h
      exact ⟨k, by omega, by simp only [lenB]; omega, k3⟩
theorem mentB_same {bs2 : Boxes} (h : ∀ b, look bs2 b = look bs b) : ∀ l, mentB bs2 l = mentB bs l
  | [] => rfl
  | b :: l => by simp only [mentB]; rw [h b, mentB_same h l]
theorem catN_nil : ∀ {l m : List Nat}, catN l m = [] → l = [] ∧ m = []
  | [], m, h => ⟨rfl, h⟩
  | a :: l, m, h => by cases h
theorem plain_mentL : ∀ {l : List AV}, mentL l = [] → ∀ x ∈ l, okL (fun _ => False) x
  | [], _, x, h => by cases h
  | a :: l, h, x, hx => by
    have h2 : mentL l = [] ∧ okL (fun _ => False) a := by
      cases a <;> simp only [mentL] at h <;> first
        | exact ⟨h, trivial⟩
        | (cases h; done)
        | (obtain ⟨h3, h4⟩ := catN_nil h; exact ⟨h4, fun b hb => by rw [h3] at hb; cases hb⟩)
    rcases List.mem_cons.1 hx with rfl | hx
    · exact h2.2
    · exact plain_mentL h2.1 x hx
theorem plain_ment : ∀ {l : List AV}, ment l = [] → ∀ x ∈ l, ∀ y ∈ leaves x, okL (fun _ => False) y
  | [], _, x, h => by cases h
  | a :: l, h, x, hx => by
    have h2 : ment l = [] ∧ ∀ y ∈ leaves a, okL (fun _ => False) y := by
      cases a <;> simp only [ment] at h <;> first
        | (refine ⟨h, fun y hy => ?_⟩; simp only [leaves, List.mem_singleton] at hy; subst hy; trivial)
        | (cases h; done)
        | (obtain ⟨h3, h4⟩ := catN_nil h; exact ⟨h4, plain_mentL h3⟩)
        | (obtain ⟨h3, h4⟩ := catN_nil h; exact ⟨h4, fun y hy => by simp only [leaves, List.mem_singleton] at hy; subst hy; exact fun b hb => by rw [h3] at hb; cases hb⟩)
    rcases List.mem_cons.1 hx with rfl | hx
    · exact h2.2
    · exact plain_ment h2.1 x hx
theorem memN_mem : ∀ {l : List Nat} {n : Nat}, memN l n = true → n ∈ l
  | [], n, h => by simp [memN] at h
  | a :: l, n, h => by
    simp only [memN, Bool.or_eq_true] at h
    rcases h with h | h
    · rw [Nat.eq_of_beq_eq_true h]; exact List.mem_cons_self ..
    · exact List.mem_cons_of_mem _ (memN_mem h)
theorem subN_of : ∀ {l m : List Nat}, subN l m = true → ∀ b ∈ l, b ∈ m
  | [], _, _, b, hb => by cases hb
  | a :: l, m, h, b, hb => by
    simp only [subN, Bool.and_eq_true] at h
    rcases List.mem_cons.1 hb with rfl | hb
    · exact memN_mem h.1
    · exact subN_of h.2 b hb
theorem closB_of : ∀ {l m : List Nat}, closB bs m l = true → ∀ b ∈ l, ∀ v T cells, look bs b = some (v, .var T cells) → ∀ c ∈ mentL cells, c ∈ m
  | [], _, _, b, hb => by cases hb
  | a :: l, m, h, b, hb => by
    simp only [closB, Bool.and_eq_true] at h
    intro v T cells hl
    rcases List.mem_cons.1 hb with rfl | hb
    · have h1 := h.1
      rw [hl] at h1
      exact subN_of h1
    · exact closB_of h.2 b hb v T cells hl
theorem mentB_agr {bs2 : Boxes} : ∀ {l : List Nat}, (∀ b ∈ l, look bs2 b = look bs b) → mentB bs2 l = mentB bs l
  | [], _ => rfl
  | b :: l, h => by simp only [mentB]; rw [h b (List.mem_cons_self ..), mentB_agr (l := l) fun c hc => h c (List.mem_cons_of_mem _ hc)]
theorem mentB_rows : ∀ {l : List Nat}, (∀ b ∈ l, (match look bs b with | some (_, .var _ _) => false | _ => true) = true) → mentB bs l = []
  | [], _ => rfl
  | a :: l, h => by
    simp only [mentB]
    rw [mentB_rows (l := l) fun b hb => h b (List.mem_cons_of_mem _ hb), List.append_nil]
    have := h a (List.mem_cons_self ..)
    split
    · rename_i hl; rw [hl] at this; cases this
    · rfl
theorem kills_same' {bs2 : Boxes} : ∀ {l : List Nat}, (∀ b ∈ l, look bs2 b = look bs b) → kills bs2 l = kills bs l
  | [], _ => rfl
  | b :: l, h => by simp only [kills]; rw [h b (List.mem_cons_self ..), kills_same' (l := l) fun b hb => h b (List.mem_cons_of_mem _ hb)]
theorem kills_mem : ∀ {l : List Nat} {x : Nat × (Nat × BoxC)}, x ∈ kills bs l → x.1 ∈ l
  | [], x, h => by cases h
  | b :: l, x, h => by
    simp only [kills] at h
    split at h
    · rcases List.mem_cons.1 h with rfl | h
      · exact List.mem_cons_self ..
      · exact List.mem_cons_of_mem _ (kills_mem h)
    · exact List.mem_cons_of_mem _ (kills_mem h)
theorem moved_ok {ok : Nat → Prop} : ∀ {m : Mp}, okM ok m → ∀ b ∈ movedL m, ok b
  | [], _, b, hb => by cases hb
  | (k, none) :: r, h, b, hb => moved_ok (m := r) (fun k b v hk => h k b v (List.mem_cons_of_mem _ hk)) b hb
  | (k, some (b', v)) :: r, h, b, hb => by
    rcases List.mem_cons.1 hb with rfl | hb
    · exact h k _ v (List.mem_cons_self ..)
    · exact moved_ok (m := r) (fun k b v hk => h k b v (List.mem_cons_of_mem _ hk)) b hb
theorem okL_mono {ok ok' : Nat → Prop} (h : ∀ b, ok b → ok' b) : ∀ {y : AV}, okL ok y → okL ok' y := by
  intro y hy
  cases y <;> first | exact hy | exact h _ hy | exact fun b hb => h b (hy b hb)
theorem mentL_ok : ∀ (l : List AV), ∀ y ∈ l, okL (fun b => b ∈ mentL l) y
  | [], y, h => by cases h
  | a :: l, y, hy => by
    rcases List.mem_cons.1 hy with rfl | hy
    · cases y <;> first | trivial | exact List.mem_cons_self .. | exact fun b hb => mem_catN.2 (.inl hb)
    · refine okL_mono (fun b hb => ?_) (mentL_ok l y hy)
      cases a <;> simp only [mentL] <;> first | exact hb | exact List.mem_cons_of_mem _ hb | exact mem_catN.2 (.inr hb)
theorem ment_ok : ∀ (l : List AV), ∀ x ∈ l, ∀ y ∈ leaves x, okL (fun b => b ∈ ment l) y
  | [], x, h => by cases h
  | a :: l, x, hx => by
    intro y hy
    rcases List.mem_cons.1 hx with rfl | hx
    · cases x with
      | agg k => exact okL_mono (fun b hb => mem_catN.2 (.inl hb)) (mentL_ok k y hy)
      | _ =>
        simp only [leaves, List.mem_singleton] at hy
        subst hy
        first | trivial | exact List.mem_cons_self .. | exact fun b hb => mem_catN.2 (.inl hb)
    · refine okL_mono (fun b hb => ?_) (ment_ok l x hx y hy)
      cases a <;> simp only [ment] <;> first | exact hb | exact List.mem_cons_of_mem _ hb | exact mem_catN.2 (.inr hb)
theorem moved_plain : ∀ {m : Mp}, okM (fun _ => False) m → movedL m = []
  | [], _ => rfl
  | (k, none) :: r, h => moved_plain (m := r) fun k b v hk => h k b v (List.mem_cons_of_mem _ hk)
  | (k, some (b, v)) :: r, h => (h k b v (List.mem_cons_self ..)).elim
theorem close_same {args : List AV} {bs2 : Boxes} (hnil : closB bs (zOf bs args) (zOf bs args) = true) (ha : ∀ b ∈ zOf bs args, look bs2 b = look bs b) :
    Same (fun b => b ∈ zOf bs args) bs bs2 ∧ (∀ x ∈ args, ∀ y ∈ leaves x, okL (fun b => b ∈ zOf bs args) y) ∧ zOf bs2 args = zOf bs args := by
  refine ⟨⟨ha, fun b v T c hb hl x hx => ?_⟩, fun x hx y hy => okL_mono (fun b hb => List.mem_append.2 (.inl hb)) (ment_ok args x hx y hy), ?_⟩
  · have := closB_of hnil b hb v T c (getBox_look hl (by simp))
    exact okL_mono this (mentL_ok c x hx)
  · unfold zOf
    rw [mentB_agr (bs := bs) (bs2 := bs2) fun b hb => ha b (List.mem_append.2 (.inl hb))]
theorem typed_in {pi po : PSh} {o : po.den} {dd : Option Nat} {args : List AV} {x : Nat × (Nat × BoxC)} (hx : x ∈ po.decB (callBase dd) o ++ kills bs (goneL pi po args bs)) : InA (callFoot dd args bs (lenB po.boxes)) x.1 := by
  unfold callFoot
  cases hnil : closB bs (zOf bs args) (zOf bs args) with
  | false => trivial
  | true =>
    obtain ⟨hsame, hok, _⟩ := close_same hnil (bs2 := bs) fun _ _ => rfl
    rcases List.mem_append.1 hx with hx | hx
    · obtain ⟨k, _, hk, e⟩ := ids_decB (callBase dd) po.boxes 0 o.1 x hx
      exact mem_catN.2 (.inr (mem_rangeN.2 ⟨k, by omega, e⟩))
    · refine mem_catN.2 (.inl ?_)
      have hb := kills_mem hx
      unfold goneL at hb
      rcases List.mem_append.1 hb with hb | hb
      · exact moved_ok (enc_same (p := pi) (z := fun _ => true) hsame hok).2.2 _ hb
      · cases hfl : po.flat with
        | true => rw [hfl] at hb; cases hb
        | false => rw [hfl] at hb; exact hb
theorem typed_eff {pi po : PSh} {F : pi.den → Option po.den} {n : Nat} (hn : (typedSem pi po F).nb = some n) {dd : Option Nat} {args : List AV} {K : AV → Boxes → Option R}
    (hs : (typedSem pi po F).run dd args bs R K = some out) : Eff (callFoot dd args bs n) (fun bs R K => (typedSem pi po F).run dd args bs R K) bs K out := by
  have hn : lenB po.boxes = n := by simpa [typedSem] using hn
  subst hn
  replace hs : typedRun pi po F dd args bs R K = some out := hs
  unfold typedRun at hs
  obtain ⟨hc1, hs⟩ := bif_some hs
  split at hs
  · rename_i d hd
    cases hF : F d with
    | none => rw [hF] at hs; cases hs
    | some o =>
      rw [hF] at hs
      simp only [Option.bind_some] at hs
      rw [appB_eq, killL_eq] at hs
      refine ⟨resAV (po.decS (callBase dd) o), po.decB (callBase dd) o ++ kills bs (goneL pi po args bs), by rw [List.append_assoc]; exact hs, fun bs2 ha R' K' => ?_, fun x hx => ?_⟩
      · have key : ∃ ok : Nat → Prop, Same ok bs bs2 ∧ (∀ x ∈ args, ∀ y ∈ leaves x, okL ok y) ∧ zOf bs2 args = zOf bs args ∧ (∀ k < lenB po.boxes, look bs2 (callBase dd + k) = look bs (callBase dd + k)) ∧
            kills bs2 (goneL pi po args bs) = kills bs (goneL pi po args bs) := by
          unfold callFoot at ha
          cases hnil : closB bs (zOf bs args) (zOf bs args) with
          | true =>
            rw [hnil] at ha
            have ha : ∀ b, b ∈ catN (zOf bs args) (rangeN (callBase dd) (lenB po.boxes)) → look bs2 b = look bs b := ha
            have ham : ∀ b ∈ zOf bs args, look bs2 b = look bs b := fun b hb => ha b (mem_catN.2 (.inl hb))
            obtain ⟨hsame, hok, hz⟩ := close_same hnil ham
            refine ⟨_, hsame, hok, hz, fun k hk => ha _ (mem_catN.2 (.inr (mem_rangeN.2 ⟨k, hk, rfl⟩))), ?_⟩
            refine kills_same' fun b hb => ?_
            unfold goneL at hb
            rcases List.mem_append.1 hb with hb | hb
            · exact ham b (moved_ok (enc_same (p := pi) (z := fun _ => true) hsame hok).2.2 b hb)
            · cases hfl : po.flat with
              | true => rw [hfl] at hb; cases hb
              | false => rw [hfl] at hb; exact ham b hb
          | false =>
            rw [hnil] at ha
            have ha : ∀ b, look bs2 b = look bs b := ha
            refine ⟨fun _ => True, ⟨fun b _ => ha b, fun b v T c _ _ x _ => by cases x <;> first | trivial | exact fun _ _ => trivial⟩, fun x _ y _ => by cases y <;> first | trivial | exact fun _ _ => trivial, ?_, fun k _ => ha _, kills_same ha _⟩
            unfold zOf
            rw [mentB_same ha]
        obtain ⟨ok, h1, h2, h3, h4, h5⟩ := key
        obtain ⟨e1, e2, _⟩ := enc_same (p := pi) (z := fun b => memN (zOf bs args) b) h1 h2
        have hgone : goneL pi po args bs2 = goneL pi po args bs := by unfold goneL; rw [e1, h3]
        show typedRun pi po F dd args bs2 R' K' = _
        unfold typedRun
        rw [freshB_same _ h4, hc1, h3, e2, hd, hgone]
        simp only [cond_true, hF, Option.bind_some]
        rw [appB_eq, killL_eq, h5, List.append_assoc]
      · exact typed_in hx
  · cases hs
open Classical in
theorem over_mem {fl : Bool} {gN : Gh} {c n : Nat} {bsN bsO : Boxes} (ho : Over fl g3 gN c n bsN bsO w') (hn : ∀ i, 0 < nextVer bsO i → ∃ k < n, i = c + k) : ∀ {ls : List SSh} {d : ssDen ls},
    (fl = true → flatS ls = true) → ∀ x ∈ decS c ls d, ∀ v, VRel E.ET g3 bsO w' x v → VRel E.ET gN bsN w' x v
  | [], d, _, x, hx, _, _ => by cases hx
  | .any :: ls, d, hf, x, hx, v, h => by
    rcases List.mem_cons.1 hx with rfl | hx
    · trivial
    · exact over_mem ho hn (ls := ls) (d := d) hf x hx v h
  | .mk ag lss :: ls, d, hf, x, hx, v, h => by
    have hf' : fl = true → flatL lss = true ∧ flatS ls = true := fun e => by have := hf e; simpa only [flatS, Bool.and_eq_true] using this
    rcases List.mem_cons.1 hx with rfl | hx
    · exact over_slot1 ho hn (fun e => (hf' e).1) h
    · exact over_mem ho hn (ls := ls) (d := d.2) (fun e => (hf' e).2) x hx v h
theorem res_map {gN : Gh} {bsN bsO : Boxes} : ∀ {l : List AV} {u : Value}, (∀ x ∈ l, ∀ k, x ≠ .tup k) → (∀ x ∈ l, ∀ v, VRel E.ET g3 bsO w' x v → VRel E.ET gN bsN w' x v) → VRel E.ET g3 bsO w' (resAV l) u → VRel E.ET gN bsN w' (resAV l) u
  | [], u, _, _, ⟨vs, e, h⟩ => ⟨vs, e, by cases vs with | nil => trivial | cons _ _ => exact h.elim⟩
  | [x], u, _, hm, h => hm x (List.mem_cons_self ..) u h
  | x :: y :: l, u, ht, hm, ⟨vs, e, h⟩ => by
    refine ⟨vs, e, ?_⟩
    have all : ∀ (l : List AV) (vs : List Value), (∀ x ∈ l, ∀ k, x ≠ .tup k) → (∀ x ∈ l, ∀ v, VRel E.ET g3 bsO w' x v → VRel E.ET gN bsN w' x v) → All2 (CRel E.ET g3 bsO w') l vs → All2 (CRel E.ET gN bsN w') l vs := by
      intro l
      induction l with
      | nil => intro vs _ _ h; cases vs with | nil => trivial | cons _ _ => exact h.elim
      | cons x l ih =>
        intro vs ht hm h
        cases vs with
        | nil => exact h.elim
        | cons v vs => exact ⟨(hm x (List.mem_cons_self ..) v h.1.up).noTup (ht x (List.mem_cons_self ..)), ih vs (fun y hy => ht y (List.mem_cons_of_mem _ hy)) (fun y hy => hm y (List.mem_cons_of_mem _ hy)) h.2⟩
    exact all _ vs ht hm h
theorem typed_core {f : FuncId} {pi po : PSh} {n : Nat} {io : List (Nat × Nat × Option Nat)} {F : pi.den → Option po.den} (h : FnIo P E.ET f pi po n io F) {dd : Option Nat} {args : List AV} {bs : Boxes} {d : pi.den} {o : po.den}
    (hlen : Nat.beq (lenN args) (lenSl pi.slots) = true) (hfr0 : freshB bs (callBase dd) (lenB po.boxes) = true) (hd : pi.enc (fun b => memN (zOf bs args) b) args bs = some d) (hF : F d = some o)
    {g : Gh} {w : World} {vals : List Value} (hG : Glb g w) (hv : All2 (VRel E.ET g bs w) args vals) (hb : BsRel E.ET g bs w) :
    Calls P f vals.toArray w fun e w' => ∃ u gN, e = .returned u ∧ VRel E.ET gN (appB (po.decB (callBase dd) o) (killL bs (goneL pi po args bs))) w' (resAV ((po.decS (callBase dd) o).take n)) u ∧
      BsRel E.ET gN (appB (po.decB (callBase dd) o) (killL bs (goneL pi po args bs))) w' ∧ Ext g bs w gN (appB (po.decB (callBase dd) o) (killL bs (goneL pi po args bs))) w' ∧
      (∀ x ∈ io, x.1 < lenB po.boxes → gN.hd (callBase dd + x.1) = argV (vals.getD x.2.1 undef) x.2.2) ∧
      (∀ b blk, b ∉ goneL pi po args bs → blk < w.heap.size → g.O blk = some b → w'.heap[blk]? = w.heap[blk]?) := by
  have hfr := freshB_of hfr0
  have hc0 : callBase dd ≠ 0 := by unfold callBase; split <;> omega
  obtain ⟨⟨k1, k2⟩, k3, k4⟩ := canon (c := C0) hd hb (fun i => vals.getD i undef) (get_of_all2 hv)
  have hvl : vals.length = pi.slots.length := by
    rw [← hv.length, ← lenSl_eq, ← lenN_eq]
    exact Nat.eq_of_beq_eq_true hlen
  refine Calls.mono (h.run d o hF _ w vals (hG.keep k4) hvl k2 k3 (callBase dd)) ?_
  rintro e w' ⟨u, g3, rfl, r1, r2, r3, r4⟩
  generalize hgone : goneL pi po args bs = gone
  generalize callBase dd = c at *
  generalize hm : pi.mp args bs = m at *
  generalize hzz : zOf bs args = zz at *
  have hg1 : ∀ b, mfind m b ≠ none → b ∈ gone := by
    intro b hb'
    obtain ⟨k, hk⟩ := Option.ne_none_iff_exists'.1 hb'
    rw [← hgone]
    unfold goneL
    rw [hm]
    exact List.mem_append_left _ (mem_moved hk)
  have hg2 : po.flat = false → ∀ b, b ∈ zz → b ∈ gone := by
    intro hf b hb'
    rw [← hgone]
    unfold goneL
    rw [hf, hzz]
    exact List.mem_append_right _ hb'
  let gN : Gh := ⟨fun blk => if blk < w.heap.size then (match g.O blk with
      | none => none
      | some b => if mfind m b ≠ none then g3.O blk else if po.flat = false ∧ b ∈ zz ∧ b ≠ 0 then none else some b) else g3.O blk,
    fun i => if c ≤ i ∧ i < c + lenB po.boxes then g3.hd i else g.hd i⟩
  -- what the callee left alone
  have hN : ∀ blk, blk < w.heap.size → g.O blk = none → gN.O blk = none ∧ g3.O blk = none ∧ w'.heap[blk]? = w.heap[blk]? := by
    intro blk hlt ho
    obtain ⟨q1, q2⟩ := r3.ro blk (canonG_none ho) hlt
    exact ⟨by show (if blk < w.heap.size then _ else _) = _; rw [if_pos hlt, ho], q1, q2⟩
  have hS : ∀ blk b, blk < w.heap.size → g.O blk = some b → mfind m b = none →
      ((b ∈ zz ∧ b ≠ 0) → g3.O blk = none) ∧ (¬ (b ∈ zz ∧ b ≠ 0) → g3.O blk = some 0) ∧ w'.heap[blk]? = w.heap[blk]? ∧
      gN.O blk = if po.flat = false ∧ b ∈ zz ∧ b ≠ 0 then none else some b := by
    intro blk b hlt ho hmf
    have hgN : gN.O blk = if po.flat = false ∧ b ∈ zz ∧ b ≠ 0 then none else some b := by
      show (if blk < w.heap.size then _ else _) = _
      rw [if_pos hlt, ho]
      simp only [hmf, ne_eq, not_true_eq_false, if_false]
    by_cases hz : b ∈ zz ∧ b ≠ 0
    · have hq : (canonG g m (fun b => memN zz b) C0).O blk = none := canonG_free ho (by
        unfold free
        rw [hmf]
        simp only [Bool.and_eq_true, memN_iff]
        exact ⟨hz.1, by rw [beq_no hz.2]; rfl⟩)
      obtain ⟨q1, q2⟩ := r3.ro blk hq hlt
      exact ⟨fun _ => q1, fun hn => absurd hz hn, q2, hgN⟩
    · have hq : (canonG g m (fun b => memN zz b) C0).O blk = some 0 := by
        have : (memN zz b && !Nat.beq b 0) = false := by
          cases hq : (memN zz b && !Nat.beq b 0) with
          | false => rfl
          | true =>
            simp only [Bool.and_eq_true, memN_iff] at hq
            exact absurd ⟨hq.1, ne0 hq.2⟩ hz
        simp only [canonG, ho, hmf, this, Bool.false_eq_true, if_false]
      obtain ⟨q1, q2⟩ := r3.fo blk hq hlt
      exact ⟨fun hn => absurd hn hz, fun _ => q1, q2, hgN⟩
  have hM : ∀ blk b, blk < w.heap.size → g.O blk = some b → mfind m b ≠ none → gN.O blk = g3.O blk := by
    intro blk b hlt ho hmf
    show (if blk < w.heap.size then _ else _) = _
    rw [if_pos hlt, ho]
    simp only [hmf, ne_eq, not_false_eq_true, if_true]
  have hB : ∀ blk, ¬ blk < w.heap.size → gN.O blk = g3.O blk := by
    intro blk hlt
    show (if blk < w.heap.size then _ else _) = _
    rw [if_neg hlt]
  have hflB : po.flat = true → flatB po.boxes = true := fun e => by unfold PSh.flat at e; exact (and3 e).1
  have hflS : po.flat = true → flatS po.slots = true := fun e => by unfold PSh.flat at e; exact (and3 e).2
  obtain ⟨i1, i2⟩ := look_decB2 (fl := po.flat) c (l := po.boxes) (j := 0) (d := o.1) hflB
  have hlookN : ∀ b, look (appB (po.decB c o) (killL bs gone)) b = match look (po.decB c o) b with | some x => some x | none => look (killL bs gone) b := fun b => look_app _ _ b
  have hnew : ∀ b x, look (po.decB c o) b = some x → look bs b = none ∧ ∃ k < lenB po.boxes, b = c + k := by
    intro b x hx
    obtain ⟨⟨k, _, k2, rfl⟩, _⟩ := i1 b x hx
    have k2 : k < lenB po.boxes := by omega
    exact ⟨hfr k k2, k, k2, rfl⟩
  have hold : ∀ b, look bs b ≠ none → look (po.decB c o) b = none ∧ gN.hd b = g.hd b := by
    intro b hne
    constructor
    · cases hq : look (po.decB c o) b with
      | none => rfl
      | some x => exact absurd (hnew b x hq).1 hne
    · show (if c ≤ b ∧ b < c + lenB po.boxes then g3.hd b else g.hd b) = g.hd b
      rw [if_neg]
      rintro ⟨q1, q2⟩
      have := hfr (b - c) (by omega)
      rw [show c + (b - c) = b by omega] at this
      exact hne this
  have hnv : ∀ b, nextVer bs b ≠ 0 → look bs b ≠ none := by
    intro b hb' e
    simp only [nextVer, e] at hb'
    exact hb' rfl
  have hover : Over po.flat g3 gN c (lenB po.boxes) (appB (po.decB c o) (killL bs gone)) (po.decB c o) w' := by
    refine ⟨fun hf blk hok => ⟨?_, hok.2⟩, fun blk k hk ho => ?_, fun k hk => ?_, fun k hk => ?_⟩
    · by_cases hlt : blk < w.heap.size
      · cases ho : g.O blk with
        | none => exact (hN blk hlt ho).1
        | some b =>
          by_cases hmf : mfind m b = none
          · obtain ⟨s1, s2, s3, s4⟩ := hS blk b hlt ho hmf
            by_cases hz : b ∈ zz ∧ b ≠ 0
            · rw [s4, if_pos ⟨hf, hz⟩]
            · have := s2 hz
              rw [hok.1] at this; cases this
          · rw [hM blk b hlt ho hmf]; exact hok.1
      · rw [hB blk hlt]; exact hok.1
    · by_cases hlt : blk < w.heap.size
      · cases hgo : g.O blk with
        | none =>
          have := (hN blk hlt hgo).2.1
          rw [ho] at this; cases this
        | some b =>
          by_cases hmf : mfind m b = none
          · obtain ⟨s1, s2, s3, s4⟩ := hS blk b hlt hgo hmf
            by_cases hz : b ∈ zz ∧ b ≠ 0
            · have := s1 hz
              rw [ho] at this; cases this
            · have := s2 hz
              rw [ho] at this
              simp only [Option.some.injEq] at this
              omega
          · rw [hM blk b hlt hgo hmf]; exact ho
      · rw [hB blk hlt]; exact ho
    · show (if c ≤ c + k ∧ c + k < c + lenB po.boxes then g3.hd (c + k) else g.hd (c + k)) = _
      rw [if_pos ⟨by omega, by omega⟩]
    · rw [hlookN]
      obtain ⟨x, hx⟩ := i2 k (Nat.zero_le _) (by omega)
      rw [show look (po.decB c o) (c + k) = some x from hx]
  have hnx : ∀ i, 0 < nextVer (po.decB c o) i → ∃ k < lenB po.boxes, i = c + k := by
    intro i hi
    cases hq : look (po.decB c o) i with
    | none => simp only [nextVer, hq] at hi; omega
    | some x => exact (hnew i x hq).2
  have hkill : ∀ b, look bs b ≠ none → look (appB (po.decB c o) (killL bs gone)) b = if b ∈ gone then (look bs b).map (fun x => (x.1, BoxC.dead)) else look bs b := by
    intro b hne
    rw [hlookN, (hold b hne).1]
    exact look_killL bs b gone
  have fr : Fr g w gN w' := by
    refine ⟨r3.os, r3.tape, r3.output, r3.size, fun b ho hlt => ⟨(hN b hlt ho).1, (hN b hlt ho).2.2⟩, fun b ho hlt => ?_⟩
    have hmf : mfind m 0 = none := by
      cases hq : mfind m 0 with
      | none => rfl
      | some k =>
        unfold PSh.enc at hd
        obtain ⟨hc, _⟩ := bif_some hd
        rw [hm] at hc
        exact (mfind_ne0 hc hq).elim
    obtain ⟨s1, s2, s3, s4⟩ := hS b 0 hlt ho hmf
    rw [if_neg (by simp)] at s4
    exact ⟨s4, s3⟩
  have he : Ext g bs w gN (appB (po.decB c o) (killL bs gone)) w' := by
    refine ⟨fr, fun b => ?_, fun b ver T cells hv' hbx => ?_, fun b ver T t xs hv' hbx => ?_⟩
    · by_cases hne : look bs b = none
      · simp only [nextVer, hne]; exact Nat.zero_le _
      · simp only [nextVer, hkill b hne]
        by_cases hin : b ∈ gone
        · rw [if_pos hin]
          cases hq : look bs b with
          | none => exact absurd hq hne
          | some x => obtain ⟨v, cc⟩ := x; simp
        · rw [if_neg hin]; exact Nat.le_refl _
    · have hne := hnv b (by omega)
      simp only [getBox, hkill b hne] at hbx
      by_cases hin : b ∈ gone
      · rw [if_pos hin] at hbx
        cases hq : look bs b with
        | none => exact absurd hq hne
        | some x =>
          rw [hq] at hbx
          simp only [Option.map_some] at hbx
          cases hq3 : Nat.beq x.1 ver <;> rw [hq3] at hbx <;> cases hbx
      · rw [if_neg hin] at hbx
        exact ⟨⟨cells, by simp only [getBox]; exact hbx⟩, (hold b hne).2⟩
    · have hne := hnv b (by omega)
      simp only [getBox, hkill b hne] at hbx
      by_cases hin : b ∈ gone
      · rw [if_pos hin] at hbx
        cases hq : look bs b with
        | none => exact absurd hq hne
        | some x =>
          rw [hq] at hbx
          simp only [Option.map_some] at hbx
          cases hq3 : Nat.beq x.1 ver <;> rw [hq3] at hbx <;> cases hbx
      · rw [if_neg hin] at hbx
        exact ⟨⟨xs, by simp only [getBox]; exact hbx, rfl⟩, (hold b hne).2⟩
  have hkeepAll : ∀ b blk, b ∉ gone → blk < w.heap.size → g.O blk = some b → w'.heap[blk]? = w.heap[blk]? := by
    intro b blk hin hlt ho
    have hmf : mfind m b = none := by
      cases hq : mfind m b with
      | none => rfl
      | some k => exact absurd (hg1 b (by rw [hq]; simp)) hin
    exact (hS blk b hlt ho hmf).2.2.1
  refine ⟨u, gN, rfl, res_map (fun x hx l => decS_noTup c po.slots o.2 x (List.mem_of_mem_take hx) l) (fun x hx v hv => over_mem (d := o.2) hover hnx hflS x (List.mem_of_mem_take hx) v hv) r1, ?_, he, fun x hx hlt => (hover.hd x.1 hlt).trans (r4 x hx), hkeepAll⟩
  intro b ver x hl
  by_cases hne : look bs b = none
  · -- one of the callee's
    have hl' : look (po.decB c o) b = some (ver, x) := by
      rw [hlookN] at hl
      cases hq : look (po.decB c o) b with
      | some y => rw [hq] at hl; exact hl
      | none =>
        rw [hq] at hl
        simp only [look_killL, hne, Option.map_none, ite_self] at hl
        cases hl
    obtain ⟨⟨k, _, hk, rfl⟩, hx⟩ := i1 b _ hl'
    have hk : k < lenB po.boxes := by omega
    have hbox := r2 _ _ _ hl'
    have hhd : gN.hd (c + k) = g3.hd (c + k) := hover.hd k hk
    rcases hx with ⟨T, cs, d', hf, e⟩ | ⟨T, t, xs, hf, e⟩
    · simp only at e
      subst e
      obtain ⟨blk, arr, b1, b2, b3, b4⟩ := hbox
      exact ⟨blk, arr, hhd.trans b1, hover.own blk k hk b2, b3, over_leaf hover hnx hf b4⟩
    · simp only at e
      subst e
      obtain ⟨cs, b1, b2, b3⟩ := hbox
      refine ⟨cs, by rw [hhd]; exact b1, b2.mono fun x c' hr => ?_, fun blk hblk => hover.own blk k hk (b3 blk (by rw [hhd] at hblk; exact hblk))⟩
      cases hfl : po.flat with
      | true => exact rep_flat (E := E) (hf hfl) hr
      | false => exact Rep.mono (fun q hq => ⟨hover.ok hfl q hq, rfl⟩) hr
  · rw [hkill b hne] at hl
    by_cases hin : b ∈ gone
    · rw [if_pos hin] at hl
      cases hq : look bs b with
      | none => exact absurd hq hne
      | some y =>
        rw [hq] at hl
        simp only [Option.map_some, Option.some.injEq, Prod.mk.injEq] at hl
        obtain ⟨_, rfl⟩ := hl
        trivial
    · rw [if_neg hin] at hl
      have hbox := hb b ver x hl
      have hmf : mfind m b = none := by
        cases hq : mfind m b with
        | none => rfl
        | some k => exact absurd (hg1 b (by rw [hq]; simp)) hin
      have hhd := (hold b hne).2
      have hkeep : ∀ blk, blk < w.heap.size → g.O blk = some b → gN.O blk = some b ∧ w'.heap[blk]? = w.heap[blk]? := by
        intro blk hlt ho
        obtain ⟨s1, s2, s3, s4⟩ := hS blk b hlt ho hmf
        refine ⟨?_, s3⟩
        rw [s4, if_neg]
        rintro ⟨hf, hz, _⟩
        exact hin (hg2 hf b hz)
      cases x with
      | dead => trivial
      | var T cells =>
        obtain ⟨blk, arr, b1, b2, b3, b4⟩ := hbox
        have hlt : blk < w.heap.size := (Array.getElem?_eq_some_iff.1 b3).1
        exact ⟨blk, arr, hhd.trans b1, (hkeep blk hlt b2).1, (hkeep blk hlt b2).2.trans b3, b4.mono fun _ _ => LRel.keep he⟩
      | row T t xs =>
        obtain ⟨cs, b1, b2, b3⟩ := hbox
        refine ⟨cs, ?_, b2.mono fun _ _ => Rep.mono he.fr.okB, ?_⟩
        · rw [hhd]
          exact ownsRow_of_block b1 fun blk hblk => (hkeep blk (ORow.lt b1 blk hblk).2 (b3 blk hblk)).2
        · rw [hhd]
          intro blk hblk
          exact (hkeep blk (ORow.lt b1 blk hblk).2 (b3 blk hblk)).1
theorem typed_ok {f : FuncId} {pi po : PSh} {F : pi.den → Option po.den} (h : FnOk P E.ET f pi po F) : CallOk P E.ET f (typedSem pi po F) := by
  refine ⟨h.fn, fun dd args bs R K out hs g w vals hG hv hb => ?_, fun n hn dd args bs R K out hs => typed_eff hn hs⟩
  replace hs : typedRun pi po F dd args bs R K = some out := hs
  unfold typedRun at hs
  replace hs := bif_some hs
  obtain ⟨hc1, hs⟩ := hs
  obtain ⟨hlen, hfr⟩ := and3 hc1
  split at hs
  · rename_i d hd
    cases hF : F d with
    | none => rw [hF] at hs; cases hs
    | some o =>
      rw [hF] at hs
      simp only [Option.bind_some] at hs
      have hl : ∀ c out, (po.decS c out).length = po.slots.length := fun c out => length_decS c po.slots out.2
      refine Calls.mono (typed_core (h.io hl) hlen hfr hd hF hG hv hb) ?_
      rintro e w' ⟨u, gN, rfl, q1, q2, q3, _, _⟩
      rw [← hl (callBase dd) o, List.take_length] at q1
      exact ⟨u, _, _, gN, rfl, hs, q1, q2, q3⟩
  · cases hs
end
end Go.Proofs.YtcnngodgngmghaaGreatDoor.Ev
/- A call that writes into its arguments' variables: those variables come back to the boxes that they came from. -/
namespace Go.Proofs.YtcnngodgngmghaaGreatDoor.Ev
open Go
open Go.RowKit
set_option linter.unusedVariables false
set_option linter.unusedSimpArgs false
def inN (c n : Nat) (b : Nat) : Bool := Nat.ble c b && Nat.blt b (c + n)
def inNs (c n : Nat) : List Nat → Bool
  | [] => true
  | b :: l => inN c n b && inNs c n l
def newA (c n : Nat) : AV → Bool
  | .ref b _ _ => inN c n b
  | .osl b _ => inN c n b
  | .oel b _ _ _ => inN c n b
  | .osb b _ _ => inN c n b
  | .fn _ caps => inNs c n (mentR caps)
  | _ => true
def newAs (c n : Nat) : List AV → Bool
  | [] => true
  | x :: l => newA c n x && newAs c n l
def newC (c n : Nat) : AV → Bool
  | .agg l => newAs c n l
  | x => newA c n x
def newCs (c n : Nat) : List AV → Bool
  | [] => true
  | x :: l => newC c n x && newCs c n l
def newV (c n : Nat) : AV → Bool
  | .tup l => newCs c n l
  | x => newC c n x
def argA (args : List AV) (i : Nat) (j : Option Nat) : AV :=
  match j, getS args i with
  | none, x => x
  | some j, .fn _ caps => match getS caps j with
    | .ref b v off => .ref b v off
    | _ => .top
  | some j, .agg l => match getS l j with
    | .ref b v off => .ref b v off
    | _ => .top
  | _, _ => .top
def ioOne (bs : Boxes) (c n k : Nat) (x : AV) (bs1 : Boxes) : Option Boxes :=
  match x with
  | .ref b v 0 => match look bs1 (c + k) with
    | some (0, .var T cells) => match look bs1 b with
      | some (v', .dead) => match getBox bs b v with
        | .var T0 _ => bif Nat.beq v' v && (Nat.beq T T0 && (newAs c n cells && Nat.blt k n)) then some ((b, (v, .var T cells)) :: (c + k, (0, .dead)) :: bs1) else none
        | _ => none
      | _ => none
    | _ => none
  | .osl b v => match look bs1 (c + k) with
    | some (0, .row T t xs) => match look bs1 b with
      | some (v', .dead) => match getBox bs b v with
        | .row T0 t0 _ => bif Nat.beq v' v && (Nat.beq T T0 && (decide (t = t0) && Nat.blt k n)) then some ((b, (v, .row T t xs)) :: (c + k, (0, .dead)) :: bs1) else none
        | _ => none
      | _ => none
    | _ => none
  | _ => none
def ioAll (bs : Boxes) (c n : Nat) (args : List AV) : List (Nat × Nat × Option Nat) → Boxes → Option Boxes
  | [], bs1 => some bs1
  | (k, i, j) :: l, bs1 => match ioOne bs c n k (argA args i j) bs1 with
    | some bs2 => ioAll bs c n args l bs2
    | none => none
def takeR : Nat → List AV → List AV
  | 0, _ => []
  | n + 1, x :: l => x :: takeR n l
  | _ + 1, [] => []
def newBs (c n : Nat) : Boxes → Bool
  | [] => true
  | (_, (_, .var _ cells)) :: l => newAs c n cells && newBs c n l
  | _ :: l => newBs c n l
def renA (m b v : Nat) : AV → AV
  | .ref m' ver off => bif Nat.beq m' m && Nat.beq ver 0 then .ref b v off else .ref m' ver off
  | x => x
def renAs (m b v : Nat) : List AV → List AV
  | [] => []
  | x :: l => renA m b v x :: renAs m b v l
def renC (m b v : Nat) : AV → AV
  | .agg l => .agg (renAs m b v l)
  | x => renA m b v x
def renCs (m b v : Nat) : List AV → List AV
  | [] => []
  | x :: l => renC m b v x :: renCs m b v l
def renV (m b v : Nat) : AV → AV
  | .tup l => .tup (renCs m b v l)
  | x => renC m b v x
def renIo (args : List AV) (c : Nat) (io : List (Nat × Nat × Option Nat)) (r : AV) : AV :=
  match io with
  | [(k, i, j)] => match argA args i j with
    | .ref b v 0 => renV (c + k) b v r
    | _ => r
  | _ => r
def ioRun (pi po : PSh) (n : Nat) (io : List (Nat × Nat × Option Nat)) (F : pi.den → Option po.den) (dd : Option Nat) (args : List AV) (bs : Boxes) (R : Type) (K : AV → Boxes → Option R) : Option R :=
  bif Nat.beq (lenN args) (lenSl pi.slots) && freshB bs (callBase dd) (lenB po.boxes) then
    match pi.enc (fun b => memN (zOf bs args) b) args bs with
    | some d => (F d).bind fun out =>
      match ioAll bs (callBase dd) (lenB po.boxes) args io (appB (po.decB (callBase dd) out) (killL bs (goneL pi po args bs))) with
      | some bs2 => bif newBs (callBase dd) (lenB po.boxes) (po.decB (callBase dd) out) && newV (callBase dd) (lenB po.boxes) (resAV (takeR n (po.decS (callBase dd) out))) then K (renIo args (callBase dd) io (resAV (takeR n (po.decS (callBase dd) out)))) bs2 else none
      | none => none
    | none => none
  else none
def ioSem (pi po : PSh) (n : Nat) (io : List (Nat × Nat × Option Nat)) (F : pi.den → Option po.den) : CallSem := ⟨ioRun pi po n io F, some (lenB po.boxes)⟩
theorem takeR_eq : ∀ (n : Nat) (l : List AV), takeR n l = l.take n
  | 0, _ => rfl
  | n + 1, [] => rfl
  | n + 1, x :: l => by simp [takeR, takeR_eq n l]
section
variable {P : Program} {E : Env} {R : Type} {out : R} {g g1 g2 : Gh} {w w' : World} {bs bs1 bs2 : Boxes} {c n : Nat}
theorem inN_iff {b : Nat} : inN c n b = true ↔ c ≤ b ∧ b < c + n := by
  unfold inN
  rw [Bool.and_eq_true, Nat.blt_eq]
  constructor
  · rintro ⟨h1, h2⟩; exact ⟨Nat.le_of_ble_eq_true h1, h2⟩
  · rintro ⟨h1, h2⟩; exact ⟨Nat.ble_eq_true_of_le h1, h2⟩
structure Ren (c n : Nat) (g1 : Gh) (bs1 : Boxes) (g2 : Gh) (bs2 : Boxes) : Prop where
  look : ∀ m, c ≤ m → m < c + n → look bs2 m = look bs1 m ∨ ∃ v x, look bs1 m = some (v, x) ∧ look bs2 m = some (v, .dead)
  hd : ∀ m, c ≤ m → m < c + n → g2.hd m = g1.hd m
  O : ∀ blk, g1.O blk = none → g2.O blk = none
theorem Ren.nv (h : Ren c n g1 bs1 g2 bs2) {m : Nat} (h1 : c ≤ m) (h2 : m < c + n) : nextVer bs2 m = nextVer bs1 m := by
  rcases h.look m h1 h2 with e | ⟨v, x, e1, e2⟩
  · simp only [nextVer, e]
  · simp only [nextVer, e1, e2]
theorem Ren.box (h : Ren c n g1 bs1 g2 bs2) {m v : Nat} (h1 : c ≤ m) (h2 : m < c + n) {x : BoxC} (hx : x ≠ .dead) (hb : getBox bs2 m v = x) : getBox bs1 m v = x := by
  rcases h.look m h1 h2 with e | ⟨v', y, e1, e2⟩
  · simp only [getBox, e] at hb ⊢; exact hb
  · simp only [getBox, e2] at hb
    exfalso
    cases hq : Nat.beq v' v <;> rw [hq] at hb <;> exact hx hb.symm
theorem capR.ren (h : Ren c n g1 bs1 g2 bs2) : ∀ {l : List AV} {vs : List Value}, inNs c n (mentR l) = true → All2 (capR g1 bs1) l vs → All2 (capR g2 bs2) l vs
  | [], [], _, _ => trivial
  | [], _ :: _, _, hh => hh.elim
  | _ :: _, [], _, hh => hh.elim
  | .ref b v off :: l, u :: vs, hn, ⟨⟨h1, h2, h3⟩, hl⟩ => by
    simp only [mentR, inNs, Bool.and_eq_true] at hn
    obtain ⟨a1, a2⟩ := inN_iff.1 hn.1
    refine ⟨⟨by rw [h.nv a1 a2]; exact h1, h2, fun T cells hb => ?_⟩, capR.ren h hn.2 hl⟩
    rw [h.hd b a1 a2]; exact h3 T cells (h.box a1 a2 (by simp) hb)
  | .top :: _, _ :: _, _, ⟨hh, _⟩ => hh.elim
  | .und :: _, _ :: _, _, ⟨hh, _⟩ => hh.elim
  | .nilS :: _, _ :: _, _, ⟨hh, _⟩ => hh.elim
  | .nilP :: _, _ :: _, _, ⟨hh, _⟩ => hh.elim
  | .val _ _ :: _, _ :: _, _, ⟨hh, _⟩ => hh.elim
  | .osl _ _ :: _, _ :: _, _, ⟨hh, _⟩ => hh.elim
  | .imm _ _ _ :: _, _ :: _, _, ⟨hh, _⟩ => hh.elim
  | .oel _ _ _ _ :: _, _ :: _, _, ⟨hh, _⟩ => hh.elim
  | .osb _ _ _ :: _, _ :: _, _, ⟨hh, _⟩ => hh.elim
  | .fn _ _ :: _, _ :: _, _, ⟨hh, _⟩ => hh.elim
  | .agg _ :: _, _ :: _, _, ⟨hh, _⟩ => hh.elim
  | .tup _ :: _, _ :: _, _, ⟨hh, _⟩ => hh.elim
theorem LRel.ren (h : Ren c n g1 bs1 g2 bs2) : ∀ {x : AV} {v : Value}, newA c n x = true → LRel E.ET g1 bs1 w x v → LRel E.ET g2 bs2 w x v
  | .top, _, _, hh => trivial
  | .und, _, _, hh => hh
  | .nilS, _, _, hh => hh
  | .nilP, _, _, hh => hh
  | .val t x, v, _, hh => Rep.mono (fun b hb => ⟨⟨h.O b hb.1, hb.2⟩, rfl⟩) hh
  | .ref b ver off, v, hn, ⟨h1, hv, h2⟩ => by
    obtain ⟨a1, a2⟩ := inN_iff.1 hn
    refine ⟨by rw [h.nv a1 a2]; exact h1, hv, fun T cells hb => ?_⟩
    rw [h.hd b a1 a2]; exact h2 T cells (h.box a1 a2 (by simp) hb)
  | .osl b ver, v, hn, ⟨h1, hv, h2⟩ => by
    obtain ⟨a1, a2⟩ := inN_iff.1 hn
    refine ⟨by rw [h.nv a1 a2]; exact h1, hv, fun T t xs hb => ?_⟩
    rw [h.hd b a1 a2]; exact h2 T t xs (h.box a1 a2 (by simp) hb)
  | .imm t x off, v, _, ⟨b, o, cs, e, h1, h2, h3⟩ => ⟨b, o, cs, e, ⟨h.O b h1.1, h1.2⟩, Rep.mono (fun b hb => ⟨⟨h.O b hb.1, hb.2⟩, rfl⟩) h2, h3⟩
  | .oel b ver i off, v, hn, ⟨h1, hv, h2⟩ => by
    obtain ⟨a1, a2⟩ := inN_iff.1 hn
    refine ⟨by rw [h.nv a1 a2]; exact h1, hv, fun T t xs hb => ?_⟩
    rw [h.hd b a1 a2]; exact h2 T t xs (h.box a1 a2 (by simp) hb)
  | .osb b ver i, v, hn, ⟨h1, hv, h2⟩ => by
    obtain ⟨a1, a2⟩ := inN_iff.1 hn
    refine ⟨by rw [h.nv a1 a2]; exact h1, hv, fun T t xs hb => ?_⟩
    rw [h.hd b a1 a2]; exact h2 T t xs (h.box a1 a2 (by simp) hb)
  | .fn f caps, v, hn, ⟨cv, e, ha⟩ => ⟨cv, e, capR.ren h hn ha⟩
  | .agg _, _, _, hh => hh.elim
  | .tup _, _, _, hh => hh.elim
theorem LRel.rens (h : Ren c n g1 bs1 g2 bs2) : ∀ {l : List AV} {vs : List Value}, newAs c n l = true → All2 (LRel E.ET g1 bs1 w) l vs → All2 (LRel E.ET g2 bs2 w) l vs
  | [], [], _, _ => trivial
  | [], _ :: _, _, hh => hh.elim
  | _ :: _, [], _, hh => hh.elim
  | x :: l, u :: vs, hn, ⟨h1, h2⟩ => by
    simp only [newAs, Bool.and_eq_true] at hn
    exact ⟨LRel.ren (E := E) (w := w) h hn.1 h1, LRel.rens h hn.2 h2⟩
theorem CRel.ren (h : Ren c n g1 bs1 g2 bs2) : ∀ {x : AV} {v : Value}, newC c n x = true → CRel E.ET g1 bs1 w x v → CRel E.ET g2 bs2 w x v
  | .agg l, _, hn, ⟨vs, e, ha⟩ => ⟨vs, e, LRel.rens (E := E) (w := w) h hn ha⟩
  | .tup l, _, _, hh => (show False from hh).elim
  | .top, _, _, _ => trivial
  | .und, _, hn, hh => LRel.ren (E := E) (w := w) (x := .und) h hn hh
  | .nilS, _, hn, hh => LRel.ren (E := E) (w := w) (x := .nilS) h hn hh
  | .nilP, _, hn, hh => LRel.ren (E := E) (w := w) (x := .nilP) h hn hh
  | .val t x, _, hn, hh => LRel.ren (E := E) (w := w) (x := .val t x) h hn hh
  | .ref b v o, _, hn, hh => LRel.ren (E := E) (w := w) (x := .ref b v o) h hn hh
  | .osl b v, _, hn, hh => LRel.ren (E := E) (w := w) (x := .osl b v) h hn hh
  | .imm t x o, _, hn, hh => LRel.ren (E := E) (w := w) (x := .imm t x o) h hn hh
  | .oel b v i o, _, hn, hh => LRel.ren (E := E) (w := w) (x := .oel b v i o) h hn hh
  | .osb b v i, _, hn, hh => LRel.ren (E := E) (w := w) (x := .osb b v i) h hn hh
  | .fn f k, _, hn, hh => LRel.ren (E := E) (w := w) (x := .fn f k) h hn hh
theorem CRel.rens (h : Ren c n g1 bs1 g2 bs2) : ∀ {l : List AV} {vs : List Value}, newCs c n l = true → All2 (CRel E.ET g1 bs1 w) l vs → All2 (CRel E.ET g2 bs2 w) l vs
  | [], [], _, _ => trivial
  | [], _ :: _, _, hh => hh.elim
  | _ :: _, [], _, hh => hh.elim
  | x :: l, u :: vs, hn, ⟨h1, h2⟩ => by
    simp only [newCs, Bool.and_eq_true] at hn
    exact ⟨CRel.ren (E := E) (w := w) h hn.1 h1, CRel.rens h hn.2 h2⟩
theorem VRel.ren (h : Ren c n g1 bs1 g2 bs2) : ∀ {x : AV} {v : Value}, newV c n x = true → VRel E.ET g1 bs1 w x v → VRel E.ET g2 bs2 w x v
  | .tup l, _, hn, ⟨vs, e, ha⟩ => ⟨vs, e, CRel.rens (E := E) (w := w) h hn ha⟩
  | .agg l, _, hn, hh => CRel.ren (E := E) (w := w) (x := .agg l) h hn hh
  | .top, _, _, _ => trivial
  | .und, _, hn, hh => CRel.ren (E := E) (w := w) (x := .und) h hn hh
  | .nilS, _, hn, hh => CRel.ren (E := E) (w := w) (x := .nilS) h hn hh
  | .nilP, _, hn, hh => CRel.ren (E := E) (w := w) (x := .nilP) h hn hh
  | .val t x, _, hn, hh => CRel.ren (E := E) (w := w) (x := .val t x) h hn hh
  | .ref b v o, _, hn, hh => CRel.ren (E := E) (w := w) (x := .ref b v o) h hn hh
  | .osl b v, _, hn, hh => CRel.ren (E := E) (w := w) (x := .osl b v) h hn hh
  | .imm t x o, _, hn, hh => CRel.ren (E := E) (w := w) (x := .imm t x o) h hn hh
  | .oel b v i o, _, hn, hh => CRel.ren (E := E) (w := w) (x := .oel b v i o) h hn hh
  | .osb b v i, _, hn, hh => CRel.ren (E := E) (w := w) (x := .osb b v i) h hn hh
  | .fn f k, _, hn, hh => CRel.ren (E := E) (w := w) (x := .fn f k) h hn hh
structure IoInv (ET : TypeId) (c n : Nat) (gone : List Nat) (g : Gh) (bs : Boxes) (w : World) (g1 : Gh) (bs1 : Boxes) (w' : World) : Prop where
  ext : Ext g bs w g1 bs1 w'
  boxes : BsRel ET g1 bs1 w'
  cls : ∀ i v T cells, look bs1 i = some (v, .var T cells) → newAs c n cells = true ∨ (i ∉ gone ∧ look bs i = some (v, .var T cells))
theorem argA_rel {args : List AV} {vals : List Value} (hv : All2 (VRel E.ET g bs w) args vals) (i : Nat) (j : Option Nat) : VRel E.ET g bs w (argA args i j) (argV (vals.getD i undef) j) := by
  have hi := get_of_all2 (E := E) hv i
  unfold argA
  cases j with
  | none => exact hi
  | some j =>
    split
    · rename_i h; cases h
    · rename_i j' f caps hq hj
      cases hq
      rw [hj] at hi
      obtain ⟨cv, e, ha⟩ := hi
      rw [e]
      have := get_of_all2 (E := E) (w := w) (ha.mono fun _ _ => capR.up (E := E) (w := w)) j
      split
      · rename_i hc
        rw [hc] at this
        simpa [argV] using this
      · trivial
    · rename_i j' l hq hj
      cases hq
      rw [hj] at hi
      obtain ⟨vs, e, ha⟩ := hi
      rw [e]
      have := get_of_all2 (E := E) (w := w) (ha.mono fun _ _ => LRel.up (ET := E.ET) (w := w)) j
      split
      · rename_i hc
        rw [hc] at this
        simpa [argV] using this
      · trivial
    · trivial
theorem io_put {gone : List Nat} (hI : IoInv E.ET c n gone g bs w g1 bs1 w') (hb : BsRel E.ET g bs w) (hc : c ≠ 0) (hfr : ∀ k < n, look bs (c + k) = none)
    (hheap : ∀ b blk, b ∉ gone → blk < w.heap.size → g.O blk = some b → w'.heap[blk]? = w.heap[blk]?) {k b v' : Nat} {C C0 : BoxC} (hl1 : look bs1 (c + k) = some (0, C)) (hl2 : look bs1 b = some (v', .dead)) (hl3 : getBox bs b v' = C0) (hC0 : C0 ≠ .dead)
    (hh : g.hd b = g1.hd (c + k)) (hv : ∀ T cells, C = .var T cells → (∃ cells0, C0 = .var T cells0) ∧ newAs c n cells = true) (hr : ∀ T t xs, C = .row T t xs → ∃ xs0, C0 = .row T t xs0 ∧ xs0.length = xs.length) (e4 : k < n) :
    ∃ g2, IoInv E.ET c n gone g bs w g2 ((b, (v', C)) :: (c + k, (0, .dead)) :: bs1) w' ∧ Ren c n g1 bs1 g2 ((b, (v', C)) :: (c + k, (0, .dead)) :: bs1) ∧ ∀ m, c ≤ m → m < c + n → g2.hd m = g1.hd m := by
  have hbn : look bs b ≠ none := by
    intro e; simp only [getBox, e] at hl3; exact hC0 hl3.symm
  have hnb : ¬(c ≤ b ∧ b < c + n) := by
    rintro ⟨a1, a2⟩
    have := hfr (b - c) (by omega)
    rw [show c + (b - c) = b by omega] at this
    exact hbn this
  have hne : b ≠ c + k := fun e => hnb ⟨by omega, by omega⟩
  let g2 : Gh := ⟨fun y => if g1.O y = some (c + k) then some b else g1.O y, fun i => if i = b then g.hd b else g1.hd i⟩
  have hO : ∀ y, g1.O y ≠ some (c + k) → g2.O y = g1.O y := fun y hy => if_neg hy
  have hlk : ∀ m, m ≠ b → m ≠ c + k → look ((b, (v', C)) :: (c + k, (0, .dead)) :: bs1) m = look bs1 m := by
    intro m h1 h2
    rw [look_cons_ne _ _ (Ne.symm h1), look_cons_ne _ _ (Ne.symm h2)]
  have hlb : look ((b, (v', C)) :: (c + k, (0, .dead)) :: bs1) b = some (v', C) := look_cons_eq ..
  have hlc : look ((b, (v', C)) :: (c + k, (0, .dead)) :: bs1) (c + k) = some (0, .dead) := by
    rw [look_cons_ne _ _ hne, look_cons_eq]
  have hhd : ∀ i, i ≠ b → g2.hd i = g1.hd i := fun i hi => if_neg hi
  have hhb : g2.hd b = g.hd b := if_pos rfl
  have hren : Ren c n g1 bs1 g2 ((b, (v', C)) :: (c + k, (0, .dead)) :: bs1) := by
    refine ⟨fun m a1 a2 => ?_, fun m a1 a2 => hhd m (fun e => hnb ⟨by omega, by omega⟩), fun y hy => by rw [hO y (by rw [hy]; simp)]; exact hy⟩
    by_cases hm : m = c + k
    · subst hm
      exact .inr ⟨0, _, hl1, hlc⟩
    · exact .inl (hlk m (fun e => hnb ⟨by omega, by omega⟩) hm)
  have hext : Ext g bs w g2 ((b, (v', C)) :: (c + k, (0, .dead)) :: bs1) w' := by
    have hf := hI.ext.fr
    refine ⟨⟨hf.os, hf.tape, hf.output, hf.size, fun y hy hlt => ?_, fun y hy hlt => ?_⟩, fun m => ?_, fun m ver T' cells' hv' hbx => ?_, fun m ver T' t' xs' hv' hbx => ?_⟩
    · obtain ⟨a1, a2⟩ := hf.ro y hy hlt
      exact ⟨by rw [hO y (by rw [a1]; simp)]; exact a1, a2⟩
    · obtain ⟨a1, a2⟩ := hf.fo y hy hlt
      exact ⟨by rw [hO y (by rw [a1]; simp only [ne_eq, Option.some.injEq]; omega)]; exact a1, a2⟩
    · have := hI.ext.ver m
      by_cases hm : m = b
      · subst hm
        have : nextVer bs1 m = v' + 1 := by simp only [nextVer, hl2]
        have e : nextVer ((m, (v', C)) :: (c + k, (0, .dead)) :: bs1) m = v' + 1 := by simp only [nextVer, hlb]
        omega
      · by_cases hm2 : m = c + k
        · subst hm2
          have : nextVer bs1 (c + k) = 0 + 1 := by simp only [nextVer, hl1]
          have e : nextVer ((b, (v', C)) :: (c + k, (0, .dead)) :: bs1) (c + k) = 0 + 1 := by simp only [nextVer, hlc]
          omega
        · have e : nextVer ((b, (v', C)) :: (c + k, (0, .dead)) :: bs1) m = nextVer bs1 m := by simp only [nextVer, hlk m hm hm2]
          omega
    · by_cases hm : m = b
      · subst hm
        simp only [getBox, hlb] at hbx
        cases hq : Nat.beq v' ver with
        | false => rw [hq] at hbx; cases hbx
        | true =>
          rw [hq] at hbx
          have := Nat.eq_of_beq_eq_true hq
          subst this
          obtain ⟨⟨cells0, e0⟩, _⟩ := hv T' cells' hbx
          exact ⟨⟨cells0, by rw [hl3]; exact e0⟩, hhb⟩
      · by_cases hm2 : m = c + k
        · subst hm2
          simp only [getBox, hlc] at hbx
          cases hq : Nat.beq 0 ver <;> rw [hq] at hbx <;> cases hbx
        · have : getBox bs1 m ver = .var T' cells' := by simp only [getBox, hlk m hm hm2] at hbx; exact hbx
          obtain ⟨a1, a2⟩ := hI.ext.var m ver T' cells' hv' this
          exact ⟨a1, (hhd m hm).trans a2⟩
    · by_cases hm : m = b
      · subst hm
        simp only [getBox, hlb] at hbx
        cases hq : Nat.beq v' ver with
        | false => rw [hq] at hbx; cases hbx
        | true =>
          rw [hq] at hbx
          have := Nat.eq_of_beq_eq_true hq
          subst this
          obtain ⟨xs0, e0, e1⟩ := hr T' t' xs' hbx
          exact ⟨⟨xs0, by rw [hl3]; exact e0, e1⟩, hhb⟩
      · by_cases hm2 : m = c + k
        · subst hm2
          simp only [getBox, hlc] at hbx
          cases hq : Nat.beq 0 ver <;> rw [hq] at hbx <;> cases hbx
        · have : getBox bs1 m ver = .row T' t' xs' := by simp only [getBox, hlk m hm hm2] at hbx; exact hbx
          obtain ⟨a1, a2⟩ := hI.ext.row m ver T' t' xs' hv' this
          exact ⟨a1, (hhd m hm).trans a2⟩
  refine ⟨g2, ⟨hext, ?_, ?_⟩, hren, fun m a1 a2 => hhd m (fun e => hnb ⟨by omega, by omega⟩)⟩
  · intro m ver y hl
    by_cases hm : m = b
    · subst hm
      rw [hlb] at hl
      simp only [Option.some.injEq, Prod.mk.injEq] at hl
      obtain ⟨rfl, rfl⟩ := hl
      have hbox := hI.boxes _ _ _ hl1
      cases C with
      | dead => trivial
      | var T cells =>
        obtain ⟨blk, arr, p1, p2, p3, p4⟩ := hbox
        exact ⟨blk, arr, by rw [hhb, hh]; exact p1, if_pos p2, p3, LRel.rens (E := E) hren (hv T cells rfl).2 p4⟩
      | row T t xs =>
        obtain ⟨cs, p1, p2, p3⟩ := hbox
        exact ⟨cs, by rw [hhb, hh]; exact p1, p2.mono fun _ _ => Rep.mono (fun z hz => ⟨⟨hren.O z hz.1, hz.2⟩, rfl⟩), fun z hz => if_pos (p3 z (by rw [hhb, hh] at hz; exact hz))⟩
    · by_cases hm2 : m = c + k
      · subst hm2
        rw [hlc] at hl
        simp only [Option.some.injEq, Prod.mk.injEq] at hl
        obtain ⟨rfl, rfl⟩ := hl
        trivial
      · rw [hlk m hm hm2] at hl
        have hbox := hI.boxes m ver y hl
        have hown : ∀ z, g1.O z = some m → g2.O z = some m := fun z hz => by rw [hO z (by rw [hz]; simp only [ne_eq, Option.some.injEq]; exact hm2)]; exact hz
        cases y with
        | dead => trivial
        | var T' cells' =>
          obtain ⟨b1, a1, r1, r2, r3, r4⟩ := hbox
          refine ⟨b1, a1, (hhd m hm).trans r1, hown b1 r2, r3, ?_⟩
          rcases hI.cls m ver T' cells' hl with hn | ⟨hn1, hn2⟩
          · exact LRel.rens (E := E) hren hn r4
          · obtain ⟨b0, a0, s1, s2, s3, s4⟩ := hb m ver _ hn2
            have hgb : getBox bs1 m ver = .var T' cells' := by simp only [getBox, hl, Nat.beq_refl, cond_true]
            have hver : ver < nextVer bs m := by simp only [nextVer, hn2]; omega
            have := (hI.ext.var m ver T' cells' hver hgb).2
            rw [s1, r1] at this
            simp only [Value.pointer.injEq, Option.some.injEq, Addr.mk.injEq] at this
            obtain ⟨rfl, _⟩ := this
            have hlt : b1 < w.heap.size := (Array.getElem?_eq_some_iff.1 s3).1
            have := hheap m b1 hn1 hlt s2
            rw [r3, s3] at this
            simp only [Option.some.injEq, Obj.cells.injEq] at this
            obtain ⟨rfl, _⟩ := this
            exact s4.mono fun _ _ => LRel.keep hext
        | row T' t' xs' =>
          obtain ⟨cs, r1, r2, r3⟩ := hbox
          refine ⟨cs, by rw [hhd m hm]; exact r1, r2.mono fun _ _ => Rep.mono (fun z hz => ⟨⟨hren.O z hz.1, hz.2⟩, rfl⟩), fun z hz => ?_⟩
          rw [hhd m hm] at hz
          exact hown z (r3 z hz)
  · intro m ver T' cells' hl
    by_cases hm : m = b
    · subst hm
      rw [hlb] at hl
      simp only [Option.some.injEq, Prod.mk.injEq] at hl
      obtain ⟨rfl, rfl⟩ := hl
      exact .inl (hv T' cells' rfl).2
    · by_cases hm2 : m = c + k
      · subst hm2
        rw [hlc] at hl
        simp only [Option.some.injEq, Prod.mk.injEq] at hl
        cases hl.2
      · rw [hlk m hm hm2] at hl
        exact hI.cls m ver T' cells' hl
theorem owns_len {T T' : TypeId} {n n' k k' : Nat} {v : Value} {cs cs' : List Value} {w w' : World} (h : ORow w T n v k cs) (h' : ORow w' T' n' v k' cs') : k = k' := by
  rcases h.2 with ⟨e1, e2⟩ | ⟨q, cap, cur, e1, _⟩
  · rcases h'.2 with ⟨f1, f2⟩ | ⟨q', cap', cur', f1, _⟩
    · omega
    · rw [e1] at f1; cases f1
  · rcases h'.2 with ⟨f1, f2⟩ | ⟨q', cap', cur', f1, _⟩
    · rw [e1] at f1; cases f1
    · rw [e1] at f1
      simp only [Value.slice.injEq] at f1
      exact f1.2.1
theorem io_one {gone : List Nat} (hI : IoInv E.ET c n gone g bs w g1 bs1 w') (hb : BsRel E.ET g bs w) (hc : c ≠ 0) (hfr : ∀ k < n, look bs (c + k) = none)
    (hheap : ∀ b blk, b ∉ gone → blk < w.heap.size → g.O blk = some b → w'.heap[blk]? = w.heap[blk]?) {k : Nat} {x : AV} {u : Value} (hx : VRel E.ET g bs w x u) (hu : g1.hd (c + k) = u) (h : ioOne bs c n k x bs1 = some bs2) :
    ∃ g2, IoInv E.ET c n gone g bs w g2 bs2 w' ∧ Ren c n g1 bs1 g2 bs2 ∧ ∀ m, c ≤ m → m < c + n → g2.hd m = g1.hd m := by
  unfold ioOne at h
  split at h
  · rename_i b v
    split at h
    · rename_i T cells hl1
      split at h
      · rename_i v' hl2
        split at h
        · rename_i T0 cells0 hl3
          obtain ⟨hcond, h'⟩ := bif_some h
          clear h
          simp only [Bool.and_eq_true] at hcond
          obtain ⟨e1, e2, e3, e4⟩ := hcond
          have e1 := Nat.eq_of_beq_eq_true e1
          have e2 := Nat.eq_of_beq_eq_true e2
          rw [Nat.blt_eq] at e4
          subst e1; subst e2
          cases h'
          obtain ⟨blk0, q1, q2⟩ := hx.2.2 _ _ hl3
          refine io_put hI hb hc hfr hheap hl1 hl2 hl3 (by simp) (by rw [q1, hu, q2]) (fun T' cells' e => ?_) (fun T' t' xs' e => by cases e) e4
          cases e
          exact ⟨⟨cells0, rfl⟩, e3⟩
        · cases h
      · cases h
    · cases h
  · rename_i b v
    split at h
    · rename_i T t xs hl1
      split at h
      · rename_i v' hl2
        split at h
        · rename_i T0 t0 xs0 hl3
          obtain ⟨hcond, h'⟩ := bif_some h
          clear h
          simp only [Bool.and_eq_true] at hcond
          obtain ⟨e1, e2, e3, e4⟩ := hcond
          have e1 := Nat.eq_of_beq_eq_true e1
          have e2 := Nat.eq_of_beq_eq_true e2
          have e3 : t = t0 := of_decide_eq_true e3
          rw [Nat.blt_eq] at e4
          subst e1; subst e2; subst e3
          cases h'
          have q := hx.2.2 _ _ _ hl3
          refine io_put hI hb hc hfr hheap hl1 hl2 hl3 (by simp) (by rw [← q, hu]) (fun T' cells' e => by cases e) (fun T' t' xs' e => ?_) e4
          cases e
          obtain ⟨cs0, p1, _⟩ := hb _ _ _ (getBox_look hl3 (by simp))
          obtain ⟨cs1, p2, _⟩ := hI.boxes _ _ _ hl1
          rw [hu, q] at p2
          exact ⟨xs0, rfl, owns_len p1 p2⟩
        · cases h
      · cases h
    · cases h
  · cases h
theorem io_lt {k : Nat} {x : AV} (h : ioOne bs c n k x bs1 = some bs2) : k < n := by
  unfold ioOne at h
  split at h
  · split at h
    · split at h
      · split at h
        · obtain ⟨hc, _⟩ := bif_some h
          simp only [Bool.and_eq_true, Nat.blt_eq] at hc
          exact hc.2.2.2
        · cases h
      · cases h
    · cases h
  · split at h
    · split at h
      · split at h
        · obtain ⟨hc, _⟩ := bif_some h
          simp only [Bool.and_eq_true, Nat.blt_eq] at hc
          exact hc.2.2.2
        · cases h
      · cases h
    · cases h
  · cases h
theorem io_all {gone : List Nat} {args : List AV} {vals : List Value} (hv : All2 (VRel E.ET g bs w) args vals) (hb : BsRel E.ET g bs w) (hc : c ≠ 0) (hfr : ∀ k < n, look bs (c + k) = none)
    (hheap : ∀ b blk, b ∉ gone → blk < w.heap.size → g.O blk = some b → w'.heap[blk]? = w.heap[blk]?) {r : AV} {u : Value} (hr : newV c n r = true) : ∀ (io : List (Nat × Nat × Option Nat)) {g1 : Gh} {bs1 bs2 : Boxes}, IoInv E.ET c n gone g bs w g1 bs1 w' →
    (∀ x ∈ io, x.1 < n → g1.hd (c + x.1) = argV (vals.getD x.2.1 undef) x.2.2) → VRel E.ET g1 bs1 w' r u → ioAll bs c n args io bs1 = some bs2 → ∃ g2, IoInv E.ET c n gone g bs w g2 bs2 w' ∧ VRel E.ET g2 bs2 w' r u
  | [], g1, bs1, bs2, hI, _, hu, h => by simp only [ioAll, Option.some.injEq] at h; subst h; exact ⟨g1, hI, hu⟩
  | (k, i, j) :: io, g1, bs1, bs2, hI, hhd, hu, h => by
    unfold ioAll at h
    split at h
    · rename_i bsM hM
      have hk := io_lt hM
      obtain ⟨g2, i1, i2, i3⟩ := io_one hI hb hc hfr hheap (argA_rel (E := E) hv i j) (hhd (k, i, j) (List.mem_cons_self ..) hk) hM
      exact io_all hv hb hc hfr hheap hr io i1 (fun x hx hlt => (i3 _ (by omega) (by omega)).trans (hhd x (List.mem_cons_of_mem _ hx) hlt)) (VRel.ren (E := E) (w := w') i2 hr hu) h
    · cases h
theorem LRel.ren2 {m b v : Nat} (h : Ren c n g1 bs1 g2 bs2) (hR : ∀ off u, LRel E.ET g1 bs1 w (.ref m 0 off) u → LRel E.ET g2 bs2 w (.ref b v off) u) : ∀ {x : AV} {u : Value}, newA c n x = true → LRel E.ET g1 bs1 w x u → LRel E.ET g2 bs2 w (renA m b v x) u
  | .ref m' ver off, u, hn, hh => by
    show LRel E.ET g2 bs2 w (bif Nat.beq m' m && Nat.beq ver 0 then AV.ref b v off else AV.ref m' ver off) u
    cases hq : (Nat.beq m' m && Nat.beq ver 0) with
    | false => exact LRel.ren (E := E) (w := w) h hn hh
    | true =>
      simp only [Bool.and_eq_true] at hq
      have e1 := Nat.eq_of_beq_eq_true hq.1
      have e2 := Nat.eq_of_beq_eq_true hq.2
      subst e1; subst e2
      exact hR off u hh
  | .top, _, _, _ => trivial
  | .und, _, hn, hh => LRel.ren (E := E) (w := w) (x := .und) h hn hh
  | .nilS, _, hn, hh => LRel.ren (E := E) (w := w) (x := .nilS) h hn hh
  | .nilP, _, hn, hh => LRel.ren (E := E) (w := w) (x := .nilP) h hn hh
  | .val t x, _, hn, hh => LRel.ren (E := E) (w := w) (x := .val t x) h hn hh
  | .osl b v, _, hn, hh => LRel.ren (E := E) (w := w) (x := .osl b v) h hn hh
  | .imm t x o, _, hn, hh => LRel.ren (E := E) (w := w) (x := .imm t x o) h hn hh
  | .oel b v i o, _, hn, hh => LRel.ren (E := E) (w := w) (x := .oel b v i o) h hn hh
  | .osb b v i, _, hn, hh => LRel.ren (E := E) (w := w) (x := .osb b v i) h hn hh
  | .fn f k, _, hn, hh => LRel.ren (E := E) (w := w) (x := .fn f k) h hn hh
  | .agg _, _, _, hh => hh.elim
  | .tup _, _, _, hh => hh.elim
theorem LRel.rens2 {m b v : Nat} (h : Ren c n g1 bs1 g2 bs2) (hR : ∀ off u, LRel E.ET g1 bs1 w (.ref m 0 off) u → LRel E.ET g2 bs2 w (.ref b v off) u) : ∀ {l : List AV} {vs : List Value}, newAs c n l = true → All2 (LRel E.ET g1 bs1 w) l vs → All2 (LRel E.ET g2 bs2 w) (renAs m b v l) vs
  | [], [], _, _ => trivial
  | [], _ :: _, _, hh => hh.elim
  | _ :: _, [], _, hh => hh.elim
  | x :: l, u :: vs, hn, ⟨h1, h2⟩ => by
    simp only [newAs, Bool.and_eq_true] at hn
    exact ⟨LRel.ren2 (E := E) (w := w) h hR hn.1 h1, LRel.rens2 h hR hn.2 h2⟩
theorem CRel.ren2 {m b v : Nat} (h : Ren c n g1 bs1 g2 bs2) (hR : ∀ off u, LRel E.ET g1 bs1 w (.ref m 0 off) u → LRel E.ET g2 bs2 w (.ref b v off) u) {x : AV} {u : Value} (hn : newC c n x = true) (hh : CRel E.ET g1 bs1 w x u) : CRel E.ET g2 bs2 w (renC m b v x) u := by
  cases x with
  | agg l =>
    obtain ⟨vs, e, ha⟩ := hh
    exact ⟨vs, e, LRel.rens2 (E := E) (w := w) h hR hn ha⟩
  | tup l => exact (show False from hh).elim
  | ref m' ver off =>
    have : LRel E.ET g2 bs2 w (bif Nat.beq m' m && Nat.beq ver 0 then AV.ref b v off else AV.ref m' ver off) u := LRel.ren2 (E := E) (w := w) h hR (x := .ref m' ver off) hn hh
    show CRel E.ET g2 bs2 w (bif Nat.beq m' m && Nat.beq ver 0 then AV.ref b v off else AV.ref m' ver off) u
    cases hq : (Nat.beq m' m && Nat.beq ver 0) <;> rw [hq] at this <;> exact this
  | _ => exact CRel.ren (E := E) (w := w) h hn hh
theorem CRel.rens2 {m b v : Nat} (h : Ren c n g1 bs1 g2 bs2) (hR : ∀ off u, LRel E.ET g1 bs1 w (.ref m 0 off) u → LRel E.ET g2 bs2 w (.ref b v off) u) : ∀ {l : List AV} {vs : List Value}, newCs c n l = true → All2 (CRel E.ET g1 bs1 w) l vs → All2 (CRel E.ET g2 bs2 w) (renCs m b v l) vs
  | [], [], _, _ => trivial
  | [], _ :: _, _, hh => hh.elim
  | _ :: _, [], _, hh => hh.elim
  | x :: l, u :: vs, hn, ⟨h1, h2⟩ => by
    simp only [newCs, Bool.and_eq_true] at hn
    exact ⟨CRel.ren2 (E := E) (w := w) h hR hn.1 h1, CRel.rens2 h hR hn.2 h2⟩
theorem VRel.ren2 {m b v : Nat} (h : Ren c n g1 bs1 g2 bs2) (hR : ∀ off u, LRel E.ET g1 bs1 w (.ref m 0 off) u → LRel E.ET g2 bs2 w (.ref b v off) u) {x : AV} {u : Value} (hn : newV c n x = true) (hh : VRel E.ET g1 bs1 w x u) : VRel E.ET g2 bs2 w (renV m b v x) u := by
  cases x with
  | tup l =>
    obtain ⟨vs, e, ha⟩ := hh
    exact ⟨vs, e, CRel.rens2 (E := E) (w := w) h hR hn ha⟩
  | ref m' ver off =>
    have : CRel E.ET g2 bs2 w (bif Nat.beq m' m && Nat.beq ver 0 then AV.ref b v off else AV.ref m' ver off) u := CRel.ren2 (E := E) (w := w) h hR (x := .ref m' ver off) hn hh
    show VRel E.ET g2 bs2 w (bif Nat.beq m' m && Nat.beq ver 0 then AV.ref b v off else AV.ref m' ver off) u
    cases hq : (Nat.beq m' m && Nat.beq ver 0) <;> rw [hq] at this <;> exact this
  | agg l => exact CRel.ren2 (E := E) (w := w) h hR (x := .agg l) hn hh
  | _ => exact VRel.ren (E := E) (w := w) h hn hh
theorem io_allR {gone : List Nat} {args : List AV} {vals : List Value} (hv : All2 (VRel E.ET g bs w) args vals) (hb : BsRel E.ET g bs w) (hc : c ≠ 0) (hfr : ∀ k < n, look bs (c + k) = none)
    (hheap : ∀ b blk, b ∉ gone → blk < w.heap.size → g.O blk = some b → w'.heap[blk]? = w.heap[blk]?) {r : AV} {u : Value} (hr : newV c n r = true) (io : List (Nat × Nat × Option Nat)) {g1 : Gh} {bs1 bs2 : Boxes} (hI : IoInv E.ET c n gone g bs w g1 bs1 w')
    (hhd : ∀ x ∈ io, x.1 < n → g1.hd (c + x.1) = argV (vals.getD x.2.1 undef) x.2.2) (hu : VRel E.ET g1 bs1 w' r u) (h : ioAll bs c n args io bs1 = some bs2) : ∃ g2, IoInv E.ET c n gone g bs w g2 bs2 w' ∧ VRel E.ET g2 bs2 w' (renIo args c io r) u := by
  have gen := io_all hv hb hc hfr hheap hr io hI hhd hu h
  unfold renIo
  split
  · rename_i k i j
    split
    · rename_i b v hA
      clear gen
      unfold ioAll at h
      split at h
      · rename_i bsM hM
        simp only [ioAll, Option.some.injEq] at h
        subst h
        have hk := io_lt hM
        have hx := argA_rel (E := E) hv i j
        have hd := hhd (k, i, j) (List.mem_cons_self ..) hk
        obtain ⟨g2, i1, i2, i3⟩ := io_one hI hb hc hfr hheap hx hd hM
        refine ⟨g2, i1, VRel.ren2 (E := E) (w := w') i2 (fun off u' hl => ?_) hr hu⟩
        rw [hA] at hM hx
        unfold ioOne at hM
        split at hM
        · rename_i b' v' e'
          cases e'
          split at hM
          · rename_i T cells hl1
            split at hM
            · rename_i v' hl2
              split at hM
              · rename_i T0 cells0 hl3
                obtain ⟨hcond, hM⟩ := bif_some hM
                simp only [Bool.and_eq_true] at hcond
                have e1 := Nat.eq_of_beq_eq_true hcond.1
                subst e1
                cases hM
                have hlb : look ((b, (v', .var T cells)) :: (c + k, (0, .dead)) :: bs1) b = some (v', .var T cells) := look_cons_eq ..
                have hgb : getBox ((b, (v', .var T cells)) :: (c + k, (0, .dead)) :: bs1) b v' = .var T cells := by simp only [getBox, hlb, Nat.beq_refl, cond_true]
                have hg2 := (i1.ext.var b v' T cells hx.1 hgb).2
                obtain ⟨blk, q1, q2⟩ := hx.2.2 T0 cells0 hl3
                have hg1 : getBox bs1 (c + k) 0 = .var T cells := by simp only [getBox, hl1]; rfl
                obtain ⟨l1, l2, l3⟩ := hl
                obtain ⟨blk', q3, q4⟩ := l3 T cells hg1
                refine ⟨by simp only [nextVer, hlb]; omega, l2, fun T' cells' _ => ⟨blk', ?_, q4⟩⟩
                rw [hg2, q1, ← q2, ← q3]
                exact hd.symm
              · cases hM
            · cases hM
          · cases hM
        · rename_i b' v' e'
          cases e'
        · cases hM
      · cases h
    · exact gen
  · exact gen
theorem look_class {gone : List Nat} {D : Boxes} (hD : ∀ i v x, look D i = some (v, x) → ∀ T cells, x = .var T cells → newAs c n cells = true) {i v : Nat} {T : TypeId} {cells : List AV}
    (h : look (appB D (killL bs gone)) i = some (v, .var T cells)) : newAs c n cells = true ∨ (i ∉ gone ∧ look bs i = some (v, .var T cells)) := by
  rw [look_app] at h
  cases hq : look D i with
  | some y =>
    rw [hq] at h
    simp only [Option.some.injEq] at h
    subst h
    exact .inl (hD i v _ hq T cells rfl)
  | none =>
    rw [hq] at h
    simp only [look_killL] at h
    by_cases hin : i ∈ gone
    · rw [if_pos hin] at h
      cases hq2 : look bs i with
      | none => rw [hq2] at h; cases h
      | some y => rw [hq2] at h; simp only [Option.map_some, Option.some.injEq, Prod.mk.injEq] at h; cases h.2
    · rw [if_neg hin] at h
      exact .inr ⟨hin, h⟩
theorem newBs_look : ∀ {D : Boxes}, newBs c n D = true → ∀ i v x, look D i = some (v, x) → ∀ T cells, x = .var T cells → newAs c n cells = true
  | [], _, i, v, x, h, _, _, _ => by cases h
  | (i', (v', .var T' cells')) :: l, hn, i, v, x, h, T, cells, e => by
    simp only [newBs, Bool.and_eq_true] at hn
    by_cases hi : i' = i
    · subst hi
      rw [look_cons_eq] at h
      simp only [Option.some.injEq, Prod.mk.injEq] at h
      obtain ⟨_, rfl⟩ := h
      simp only [BoxC.var.injEq] at e
      obtain ⟨_, rfl⟩ := e
      exact hn.1
    · rw [look_cons_ne _ _ hi] at h
      exact newBs_look hn.2 i v x h T cells e
  | (i', (v', .dead)) :: l, hn, i, v, x, h, T, cells, e => by
    by_cases hi : i' = i
    · subst hi
      rw [look_cons_eq] at h
      simp only [Option.some.injEq, Prod.mk.injEq] at h
      obtain ⟨_, rfl⟩ := h
      cases e
    · rw [look_cons_ne _ _ hi] at h
      exact newBs_look (D := l) hn i v x h T cells e
  | (i', (v', .row T' t' xs')) :: l, hn, i, v, x, h, T, cells, e => by
    by_cases hi : i' = i
    · subst hi
      rw [look_cons_eq] at h
      simp only [Option.some.injEq, Prod.mk.injEq] at h
      obtain ⟨_, rfl⟩ := h
      cases e
    · rw [look_cons_ne _ _ hi] at h
      exact newBs_look (D := l) hn i v x h T cells e
theorem mentR_mem : ∀ {l : List AV} {j b v off : Nat}, getS l j = .ref b v off → b ∈ mentR l
  | [], _, _, _, _, h => by cases h
  | x :: l, 0, b, v, off, h => by
    have h : x = .ref b v off := h
    subst h
    exact List.mem_cons_self ..
  | x :: l, j + 1, b, v, off, h => by
    have := mentR_mem (l := l) (j := j) h
    cases x <;> first | exact this | exact List.mem_cons_of_mem _ this
theorem mentL_mem : ∀ {l : List AV} {j b v off : Nat}, getS l j = .ref b v off → b ∈ mentL l
  | [], _, _, _, _, h => by cases h
  | x :: l, 0, b, v, off, h => by
    have h : x = .ref b v off := h
    subst h
    exact List.mem_cons_self ..
  | x :: l, j + 1, b, v, off, h => by
    have := mentL_mem (l := l) (j := j) h
    cases x <;> simp only [mentL, mem_catN, List.mem_cons] <;> first | exact this | exact .inr this
theorem ment_get : ∀ {l : List AV} {i b : Nat}, b ∈ ment [getS l i] → b ∈ ment l
  | [], _, _, h => by cases h
  | x :: l, 0, b, h => by
    have h : b ∈ ment [x] := h
    cases x <;> simp only [ment, mem_catN, List.mem_cons, List.not_mem_nil, or_false] at h ⊢ <;> first | exact .inl h | exact h.elim
  | x :: l, i + 1, b, h => by
    have := ment_get (l := l) (i := i) h
    cases x <;> simp only [ment, mem_catN, List.mem_cons] <;> first | exact this | exact .inr this
theorem argA_ment {args : List AV} {i : Nat} {j : Option Nat} {b v : Nat} (h : (∃ off, argA args i j = .ref b v off) ∨ argA args i j = .osl b v) : b ∈ ment args := by
  unfold argA at h
  cases j with
  | none =>
    refine ment_get (i := i) ?_
    rcases h with ⟨off, h⟩ | h <;> (simp only at h; rw [h]; simp [ment])
  | some j =>
    split at h
    · rename_i hj
      cases hj
    · rename_i j' f caps hj hq
      cases hj
      refine ment_get (i := i) ?_
      rw [hq]
      simp only [ment, mem_catN]
      refine .inl ?_
      split at h
      · rename_i b' v' off' hc
        rcases h with ⟨off, h⟩ | h
        · cases h; exact mentR_mem hc
        · cases h
      · rcases h with ⟨off, h⟩ | h <;> cases h
    · rename_i j' l hj hq
      cases hj
      refine ment_get (i := i) ?_
      rw [hq]
      simp only [ment, mem_catN]
      refine .inl ?_
      split at h
      · rename_i b' v' off' hc
        rcases h with ⟨off, h⟩ | h
        · cases h; exact mentL_mem hc
        · cases h
      · rcases h with ⟨off, h⟩ | h <;> cases h
    · rcases h with ⟨off, h⟩ | h <;> cases h
theorem ioOne_ext {k : Nat} {x : AV} {r : Boxes} {S : Nat → Prop} (hx : ∀ b v, ((∃ off, x = .ref b v off) ∨ x = .osl b v) → S b) (hR : ∀ k < n, S (c + k)) (h : ioOne bs c n k x bs1 = some r) :
    ∃ ch : Boxes, r = ch ++ bs1 ∧ (∀ y ∈ ch, S y.1) ∧ ∀ bs' bs1' : Boxes, (∀ b, S b → look bs' b = look bs b) → (∀ b, S b → look bs1' b = look bs1 b) → ioOne bs' c n k x bs1' = some (ch ++ bs1') := by
  have hbox : ∀ {bs' : Boxes} {b v : Nat}, look bs' b = look bs b → getBox bs' b v = getBox bs b v := fun e => by unfold getBox; rw [e]
  unfold ioOne at h
  split at h
  · rename_i b v
    have hb : S b := hx b v (.inl ⟨0, rfl⟩)
    split at h
    · rename_i T cells h1
      split at h
      · rename_i v' h2
        split at h
        · rename_i T0 c0 h3
          obtain ⟨h4, h⟩ := bif_some h
          simp only [Option.some.injEq] at h
          have hk : S (c + k) := hR k (by
            obtain ⟨_, q⟩ := and3 h4
            obtain ⟨_, q⟩ := and3 q
            obtain ⟨_, q⟩ := and3 q
            exact by rw [Nat.blt_eq] at q; exact q)
          subst h
          refine ⟨[(b, (v, .var T cells)), (c + k, (0, .dead))], rfl, fun y hy => ?_, fun bs' bs1' a1 a2 => ?_⟩
          · simp only [List.mem_cons, List.not_mem_nil, or_false] at hy
            rcases hy with rfl | rfl
            · exact hb
            · exact hk
          · simp only [ioOne, a2 _ hk, h1, a2 _ hb, h2, hbox (a1 _ hb), h3, h4, cond_true]; rfl
        · cases h
      · cases h
    · cases h
  · rename_i b v
    have hb : S b := hx b v (.inr rfl)
    split at h
    · rename_i T t xs h1
      split at h
      · rename_i v' h2
        split at h
        · rename_i T0 t0 c0 h3
          obtain ⟨h4, h⟩ := bif_some h
          simp only [Option.some.injEq] at h
          have hk : S (c + k) := hR k (by
            obtain ⟨_, q⟩ := and3 h4
            obtain ⟨_, q⟩ := and3 q
            obtain ⟨_, q⟩ := and3 q
            exact by rw [Nat.blt_eq] at q; exact q)
          subst h
          refine ⟨[(b, (v, .row T t xs)), (c + k, (0, .dead))], rfl, fun y hy => ?_, fun bs' bs1' a1 a2 => ?_⟩
          · simp only [List.mem_cons, List.not_mem_nil, or_false] at hy
            rcases hy with rfl | rfl
            · exact hb
            · exact hk
          · simp only [ioOne, a2 _ hk, h1, a2 _ hb, h2, hbox (a1 _ hb), h3, h4, cond_true]; rfl
        · cases h
      · cases h
    · cases h
  · cases h
theorem look_front : ∀ (l : Boxes) {m m' : Boxes} {b : Nat}, look m' b = look m b → look (l ++ m') b = look (l ++ m) b
  | [], _, _, _, h => h
  | (i, x) :: l, m, m', b, h => by
    show look ((i, x) :: (l ++ m')) b = look ((i, x) :: (l ++ m)) b
    by_cases e : i = b
    · subst e; rw [look_cons_eq, look_cons_eq]
    · rw [look_cons_ne _ _ e, look_cons_ne _ _ e]; exact look_front l h
theorem ioAll_ext {args : List AV} {S : Nat → Prop} (hA : ∀ b ∈ ment args, S b) (hR : ∀ k < n, S (c + k)) : ∀ {io : List (Nat × Nat × Option Nat)} {bs1 r : Boxes}, ioAll bs c n args io bs1 = some r →
    ∃ ch : Boxes, r = ch ++ bs1 ∧ (∀ y ∈ ch, S y.1) ∧ ∀ bs' bs1' : Boxes, (∀ b, S b → look bs' b = look bs b) → (∀ b, S b → look bs1' b = look bs1 b) → ioAll bs' c n args io bs1' = some (ch ++ bs1')
  | [], bs1, r, h => by
    simp only [ioAll, Option.some.injEq] at h
    exact ⟨[], by rw [← h]; rfl, (fun y hy => nomatch hy), fun bs' bs1' _ _ => rfl⟩
  | (k, i, j) :: l, bs1, r, h => by
    simp only [ioAll] at h
    split at h
    · rename_i b2 h2
      obtain ⟨ch1, rfl, k1, k2⟩ := ioOne_ext (S := S) (fun b v hb => hA b (argA_ment hb)) hR h2
      obtain ⟨ch2, rfl, m1, m2⟩ := ioAll_ext hA hR h
      refine ⟨ch2 ++ ch1, by rw [List.append_assoc], fun y hy => (List.mem_append.1 hy).elim (m1 y) (k1 y), fun bs' bs1' a1 a2 => ?_⟩
      simp only [ioAll, k2 bs' bs1' a1 a2]
      rw [m2 bs' (ch1 ++ bs1') a1 (fun b hb => look_front ch1 (a2 b hb)), List.append_assoc]
    · cases h
theorem io_eff {pi po : PSh} {m : Nat} {io : List (Nat × Nat × Option Nat)} {F : pi.den → Option po.den} {q : Nat} (hn : (ioSem pi po m io F).nb = some q) {dd : Option Nat} {args : List AV} {K : AV → Boxes → Option R}
    (hs : (ioSem pi po m io F).run dd args bs R K = some out) : Eff (callFoot dd args bs q) (fun bs R K => (ioSem pi po m io F).run dd args bs R K) bs K out := by
  have hn : lenB po.boxes = q := by simpa [ioSem] using hn
  subst hn
  replace hs : ioRun pi po m io F dd args bs R K = some out := hs
  unfold ioRun at hs
  obtain ⟨hc1, hs⟩ := bif_some hs
  split at hs
  · rename_i d hd
    cases hF : F d with
    | none => rw [hF] at hs; cases hs
    | some o =>
      rw [hF] at hs
      simp only [Option.bind_some] at hs
      rw [appB_eq, killL_eq] at hs
      split at hs
      · rename_i r hall
        obtain ⟨hnew, hs⟩ := bif_some hs
        -- the boxes that are spoken of
        have key : ∃ S : Nat → Prop, (∀ b ∈ ment args, S b) ∧ (∀ k < lenB po.boxes, S (callBase dd + k)) ∧ (∀ b, S b → InA (callFoot dd args bs (lenB po.boxes)) b) ∧
            ∀ bs2, Agr (callFoot dd args bs (lenB po.boxes)) bs bs2 → (∀ b, S b → look bs2 b = look bs b) ∧ ∃ ok : Nat → Prop, Same ok bs bs2 ∧ (∀ x ∈ args, ∀ y ∈ leaves x, okL ok y) ∧ zOf bs2 args = zOf bs args ∧ (∀ k < lenB po.boxes, look bs2 (callBase dd + k) = look bs (callBase dd + k)) ∧
            kills bs2 (goneL pi po args bs) = kills bs (goneL pi po args bs) := by
          unfold callFoot
          cases hnil : closB bs (zOf bs args) (zOf bs args) with
          | true =>
            refine ⟨fun b => b ∈ catN (zOf bs args) (rangeN (callBase dd) (lenB po.boxes)), fun b hb => mem_catN.2 (.inl (List.mem_append.2 (.inl hb))), fun k hk => mem_catN.2 (.inr (mem_rangeN.2 ⟨k, hk, rfl⟩)), fun b hb => hb, fun bs2 ha => ?_⟩
            have ha : ∀ b, b ∈ catN (zOf bs args) (rangeN (callBase dd) (lenB po.boxes)) → look bs2 b = look bs b := ha
            refine ⟨ha, ?_⟩
            have ham : ∀ b ∈ zOf bs args, look bs2 b = look bs b := fun b hb => ha b (mem_catN.2 (.inl hb))
            obtain ⟨hsame, hok, hz⟩ := close_same hnil ham
            refine ⟨_, hsame, hok, hz, fun k hk => ha _ (mem_catN.2 (.inr (mem_rangeN.2 ⟨k, hk, rfl⟩))), ?_⟩
            refine kills_same' fun b hb => ?_
            unfold goneL at hb
            rcases List.mem_append.1 hb with hb | hb
            · exact ham b (moved_ok (enc_same (p := pi) (z := fun _ => true) hsame hok).2.2 b hb)
            · cases hfl : po.flat with
              | true => rw [hfl] at hb; cases hb
              | false => rw [hfl] at hb; exact ham b hb
          | false =>
            refine ⟨fun _ => True, fun _ _ => trivial, fun _ _ => trivial, fun _ _ => trivial, fun bs2 ha => ?_⟩
            have ha : ∀ b, look bs2 b = look bs b := ha
            refine ⟨fun b _ => ha b, fun _ => True, ⟨fun b _ => ha b, fun b v T c _ _ x _ => by cases x <;> first | trivial | exact fun _ _ => trivial⟩, fun x _ y _ => by cases y <;> first | trivial | exact fun _ _ => trivial, ?_, fun k _ => ha _, kills_same ha _⟩
            unfold zOf
            rw [mentB_same ha]
        obtain ⟨S, hSA, hSR, hSI, hkey⟩ := key
        obtain ⟨ch, rfl, k1, k2⟩ := ioAll_ext (S := S) hSA hSR hall
        refine ⟨_, ch ++ (po.decB (callBase dd) o ++ kills bs (goneL pi po args bs)), by rw [List.append_assoc, List.append_assoc]; exact hs, fun bs2 ha R' K' => ?_, fun x hx => ?_⟩
        · obtain ⟨hS, ok, h1, h2, h3, h4, h5⟩ := hkey bs2 ha
          obtain ⟨e1, e2, _⟩ := enc_same (p := pi) (z := fun b => memN (zOf bs args) b) h1 h2
          have hgone : goneL pi po args bs2 = goneL pi po args bs := by unfold goneL; rw [e1, h3]
          show ioRun pi po m io F dd args bs2 R' K' = _
          unfold ioRun
          rw [freshB_same _ h4, hc1, h3, e2, hd, hgone]
          simp only [cond_true, hF, Option.bind_some]
          rw [appB_eq, killL_eq, h5, k2 bs2 _ hS (fun b hb => look_front _ (look_front _ (hS b hb)))]
          simp only [hnew, cond_true]
          rw [List.append_assoc, List.append_assoc]
        · rcases List.mem_append.1 hx with hx | hx
          · exact hSI _ (k1 x hx)
          · exact typed_in hx
      · cases hs
  · cases hs
theorem io_ok {f : FuncId} {pi po : PSh} {m : Nat} {io : List (Nat × Nat × Option Nat)} {F : pi.den → Option po.den} (h : FnIo P E.ET f pi po m io F) : CallOk P E.ET f (ioSem pi po m io F) := by
  refine ⟨h.fn, fun dd args bs R K out hs g w vals hG hv hb => ?_, fun n hn dd args bs R K out hs => io_eff hn hs⟩
  replace hs : ioRun pi po m io F dd args bs R K = some out := hs
  unfold ioRun at hs
  replace hs := bif_some hs
  obtain ⟨hc1, hs⟩ := hs
  obtain ⟨hlen, hfr⟩ := and3 hc1
  split at hs
  · rename_i d hd
    cases hF : F d with
    | none => rw [hF] at hs; cases hs
    | some o =>
      rw [hF] at hs
      simp only [Option.bind_some] at hs
      split at hs
      · rename_i bs2 hall
        obtain ⟨hnew, hs⟩ := bif_some hs
        obtain ⟨hnew1, hnew2⟩ := and3 hnew
        have hc0 : callBase dd ≠ 0 := by unfold callBase; split <;> omega
        refine Calls.mono (typed_core h hlen hfr hd hF hG hv hb) ?_
        rintro e w' ⟨u, gN, rfl, q1, q2, q3, q4, q5⟩
        rw [← takeR_eq] at q1
        obtain ⟨g2, r1, r2⟩ := io_allR (c := callBase dd) (n := lenB po.boxes) (gone := goneL pi po args bs) hv hb hc0 (freshB_of hfr) q5 hnew2 io
          ⟨q3, q2, fun i v T cells hl => look_class (newBs_look hnew1) hl⟩ q4 q1 hall
        exact ⟨u, _, _, g2, rfl, hs, r2, r1.boxes, r1.ext⟩
      · cases hs
  · cases hs
end
end Go.Proofs.YtcnngodgngmghaaGreatDoor.Ev
/- What a function that is ranged over gives, by the evaluator. -/
namespace Go.Proofs.YtcnngodgngmghaaGreatDoor.Ev
open Go
open Go.RowKit
set_option linter.unusedVariables false
set_option linter.unusedSimpArgs false
set_option linter.unusedSectionVars false
noncomputable section
variable {R : Type}
def evSlice3 (E : Env) (T : TypeId) (x : AV) (lo hi mx : Int) (K : AV → Option R) : Option R :=
  match kindOf E T, x with
  | .slice e, .val (.sl t) xs =>
    bif elemRow E e t then (bif decide (0 ≤ lo) && decide (lo ≤ hi) && decide (hi ≤ mx) && decide (mx ≤ xs.length) then K (.val (.sl t) ((xs.take hi.toNat).drop lo.toNat)) else none) else none
  | _, _ => none
def evOpP (E : Env) (o : Oper) (sl : List AV) (bs : Boxes) (K : AV → Option R) : Option R :=
  match o.op with
  | .move x | .assign x => K (opnd sl x)
  | .binOp op T x y _ => evBin2 E bs op T (isConstO x || isConstO y) (opnd sl x) (opnd sl y) K
  | .unOp op _ x => evUn op (opnd sl x) K
  | .load T x => evLoad E T (opnd sl x) bs K
  | .slice T x lo hi none => match optInt lo sl, optInt hi sl with
    | some l, some h => evSlice E T (opnd sl x) l h bs K
    | _, _ => none
  | .slice T x (some lo) (some hi) (some mx) => match asI (opnd sl lo), asI (opnd sl hi), asI (opnd sl mx) with
    | some l, some h, some m => evSlice3 E T (opnd sl x) l h m K
    | _, _, _ => none
  | .call { callee := .builtin b, args := xs, argTypes := ts } =>
    match b, ts.toList, xs.toList.map (opnd sl) with
    | .len, T :: _, [x] => evLen E T x bs K
    | _, _, _ => none
  | _ => none
def pureB (o : Oper) : Bool :=
  match o.op with
  | .move _ | .assign _ | .binOp _ _ _ _ _ | .unOp _ _ _ | .load _ _ | .slice _ _ _ _ _ => true
  | .call { callee := .builtin .len, args := _, argTypes := _ } => true
  | _ => false
def rmN : List Nat → Nat → List Nat
  | [], _ => []
  | a :: l, d => bif Nat.beq a d then rmN l d else a :: rmN l d
def rmO (l : List Nat) : Option Tmp → List Nat
  | some d => rmN l d
  | none => l
def mvY (n : Nat) (ys : List Nat) (o : Oper) : List Nat :=
  match o.op, o.dst with
  | .move (.tmp y), some d => bif memN ys y && Nat.blt d n then d :: ys else rmN ys d
  | _, d => rmO ys d
def yArg (ys : List Nat) (o : Oper) : Option (Operand × Tmp) :=
  match o.op with
  | .call { callee := .value (.tmp y), args := xs, argTypes := _ } => match o.dst, xs.toList with
    | some d, [x] => bif memN ys y then some (x, d) else none
    | _, _ => none
  | _ => none
def flatA : AV → Bool
  | .val t _ => flatT t
  | .top | .und => true
  | _ => false
def flatAs : List AV → Bool
  | [] => true
  | a :: l => flatA a && flatAs l
def flatC : BoxC → Bool
  | .dead => true
  | .var _ cells => flatAs cells
  | .row _ _ _ => false
def flatY : Boxes → Bool
  | [] => true
  | (_, (v, c)) :: l => (Nat.beq v 0 && flatC c) && flatY l
def subY (old : Boxes) : Boxes → Bool
  | [] => true
  | (b, _) :: l => (match look old b with | some _ => true | none => false) && subY old l
def idsY (old bs : Boxes) : Bool := flatY bs && subY old bs
def dem (x : AV) : AV := bif flatA x then x else .top
def demD (d : Option Tmp) (sl : List AV) : AV :=
  match d with
  | some d => dem (getS sl d)
  | none => .top
def demL (wr : List Nat) (new : List AV) : Nat → List AV → List AV
  | _, [] => []
  | i, a :: l => cond (memN wr i) (dem (getS new i)) a :: demL wr new (i + 1) l
def evOpsY (E : Env) (all : List Oper) (t : Ty) : List Oper → List Nat → St → (St → Option (List t.den)) → Option (List t.den)
  | [], ys, st, K => bif memN ys 0 then K st else none
  | o :: rest, ys, st, K => match o.guard with
    | some _ => none
    | none => match yArg ys o with
      | some (x, d) => match asTy st.bs t (opnd st.slots x) with
        | some v => (evOpsY E all t rest (rmN ys d) ⟨setS st.slots d (.val .bool false), st.bs⟩ K).bind fun l0 => bif l0.isEmpty then
            (evOpsY E all t rest (rmN ys d) ⟨setS st.slots d (.val .bool true), st.bs⟩ K).bind fun l => some (v :: l) else none
        | none => none
      | none => bif pureB o then evOpP E o st.slots st.bs fun v => evOpsY E all t rest (mvY (lenN st.slots) ys o) ⟨putS st.slots o.dst v, st.bs⟩ K
        else evOps E all [o] st fun s => bif idsY st.bs s.bs then evOpsY E all t rest (rmO ys o.dst) ⟨putS st.slots o.dst (demD o.dst s.slots), s.bs⟩ K else none
def evCodeY (E : Env) (t : Ty) (T : Nat → St → Option (List t.den)) : Code → Nat → Kont (List t.den) → St → Option (List t.den)
  | .skip, _, K, st => K.normal st
  | .region id ops draw, _, K, st =>
    bif draw then (bif !(!memN (dstsO ops.toList) 0 && Nat.blt 0 (lenN st.slots)) then none else evOpsL { E with keep := restN (dstsO ops.toList) 0 (lenN st.slots) } ops.toList st fun s => bif idsY st.bs s.bs && Nat.ble (lenN st.slots) (lenN s.slots) then K.normal ⟨demL (dstsO ops.toList) s.slots 0 st.slots, s.bs⟩ else none)
    else evOpsY E ops.toList t ops.toList [0] st K.normal
  | .seq a b, n, K, st => evCodeY E t T a (n + 1) { K with normal := evCodeY E t T b (n + 1 + cnt a) K } st
  | .cond c a b, n, K, st =>
    match c with
    | .tmp x => match getS st.slots x with
      | .val .bool v => cond v (evCodeY E t T a n K st) (evCodeY E t T b (n + cnt a) K st)
      | _ => none
    | .const (.bool v) => cond v (evCodeY E t T a n K st) (evCodeY E t T b (n + cnt a) K st)
    | _ => none
  | .block i b, n, K, st => evCodeY E t T b n { K with exits := (i, K.normal) :: K.exits } st
  | .loop _, n, _, st => T n st
  | .exit i, _, K, st => findExit K.exits i st
  | .ret, _, K, st => K.ret st
  | .label _, _, K, st => K.normal st
  | _, _, _, _ => none
def evAtY (E : Env) (t : Ty) (T : Nat → St → Option (List t.den)) (j : Nat) : Code → Nat → Kont (List t.den) → St → Option (List t.den)
  | .seq a b, n, K, st =>
    bif Nat.ble (n + 1 + cnt a) j then evAtY E t T j b (n + 1 + cnt a) K st
    else evAtY E t T j a (n + 1) { K with normal := evCodeY E t T b (n + 1 + cnt a) K } st
  | .loop b, n, K, st =>
    bif Nat.beq n j then evCodeY E t T b (n + 1) { K with normal := T n } st
    else evAtY E t T j b (n + 1) { K with normal := T n } st
  | .cond _ a b, n, K, st => bif Nat.ble (n + cnt a) j then evAtY E t T j b (n + cnt a) K st else evAtY E t T j a n K st
  | .block i b, n, K, st => evAtY E t T j b n { K with exits := (i, K.normal) :: K.exits } st
  | _, _, _, _ => none
end
section
variable {P : Program} {E : Env} {R : Type} {out : R} {g0 g g' : Gh} {w0 w w' : World} {sl : List AV} {bs0 bs bs' : Boxes} {a : Act}
theorem slice3_sound (hE : EnvOk P E) {T : TypeId} {x : AV} {xv : Value} {lo hi mx : Int} {lv hv mv : Value} {K : AV → Option R} (h : evSlice3 E T x lo hi mx K = some out)
    (hx : VRel E.ET g bs w x xv) (hl : ∃ k, lv = .int k lo) (hh : ∃ k, hv = .int k hi) (hm : ∃ k, mv = .int k mx) : ∃ v u, K v = some out ∧ VRel E.ET g bs w v u ∧ (Instr.sliceAt T xv (some lv) (some hv) (some mv)).run P w = .ok u w := by
  unfold evSlice3 at h
  split at h
  · rename_i e t xs hk
    obtain ⟨d, hd, rfl⟩ := und_of hE hk (by simp)
    obtain ⟨he, hA⟩ := bif_some h
    obtain ⟨h012, hB⟩ := bif_some hA
    obtain ⟨h01, h3'⟩ := and3 h012
    obtain ⟨h0', h2⟩ := and3 h01
    obtain ⟨h0, h1⟩ := and3 h0'
    have h0 := of_decide_eq_true h0
    have h1 := of_decide_eq_true h1
    have h2 := of_decide_eq_true h2
    have h3' := of_decide_eq_true h3'
    obtain ⟨r, ti, _, h3, h4, _, _, h5, _⟩ := elemRow_of hE he
    obtain ⟨A, c, cs', e1, h6, h7, h8⟩ := val_cell hx
    simp only [List.cons.injEq, and_true] at e1
    subst e1
    obtain ⟨kl, rfl⟩ := hl
    obtain ⟨kh, rfl⟩ := hh
    obtain ⟨km, rfl⟩ := hm
    obtain ⟨l, rfl⟩ := Int.eq_ofNat_of_zero_le h0
    obtain ⟨m, rfl⟩ := Int.eq_ofNat_of_zero_le (Int.le_trans h0 h1)
    obtain ⟨q, rfl⟩ := Int.eq_ofNat_of_zero_le (Int.le_trans (Int.le_trans h0 h1) h2)
    have hlm : l ≤ m := by omega
    have hmq : m ≤ q := by omega
    have hqx : q ≤ xs.length := by omega
    have hmx : m ≤ xs.length := by omega
    have hb : (Instr.sliceBounds true xs.length c (some (.int kl l)) (some (.int kh m)) (some (.int km q))).run P w = .ok (l, m, q) w := by
      unfold Instr.sliceBounds
      have e1 := run_sliceBound (P := P) w km (q : Int) c BoundsCode.slice3Acap (by omega) (by omega)
      have e2 := run_sliceBound (P := P) w kh (m : Int) q BoundsCode.slice3B (by omega) (by omega)
      have e3 := run_sliceBound (P := P) w kl (l : Int) m BoundsCode.slice3C (by omega) (by omega)
      simp only [Int.toNat_natCast] at e1 e2 e3
      simp [e1, e2, e3]
    have hrun : (Instr.sliceAt T (.slice A xs.length c) (some (.int kl l)) (some (.int kh m)) (some (.int km q))).run P w = .ok (.slice (if q = l then A else A.map (·.add (l * ti.size))) (m - l) (q - l)) w := by
      simp [Instr.sliceAt, Instr.slice, run_underlying hd, hb, run_sizeOf h3]
    simp only [Int.toNat_natCast] at hB
    have hsplit : xs = xs.take l ++ ((xs.take m).drop l ++ xs.drop m) := by
      rw [← List.append_assoc]
      conv => lhs; rw [← List.take_append_drop m xs]
      congr 1
      conv => lhs; rw [← List.take_append_drop l (xs.take m)]
      rw [List.take_take, Nat.min_eq_left hlm]
    rw [hsplit] at h7
    obtain ⟨c1, c23, e2, k1, k23⟩ := Reps.split h7
    obtain ⟨c2, c3, e3, k2, k3⟩ := Reps.split k23
    have hl1 := Reps.length (fun x c hc => Rep.length hc) k1
    have hl2 := Reps.length (fun x c hc => Rep.length hc) k2
    have hlen : ((xs.take m).drop l).length = m - l := by simp; omega
    refine ⟨_, _, hB, ?_, hrun⟩
    refine ⟨_, q - l, c2, by rw [hlen], by rw [hlen]; omega, k2, ?_⟩
    by_cases hz : m = l
    · left
      rw [hlen, hz] at hl2
      simpa using hl2
    · rcases h8 with rfl | ⟨b, o, rfl, k4, k5⟩
      · left
        have := congrArg List.length e2
        rw [e3] at this
        simp only [List.length_nil, List.length_append] at this
        exact List.eq_nil_of_length_eq_zero (by omega)
      · right
        refine ⟨b, o + c1.length, ?_, k4, ?_⟩
        · rw [if_neg (by omega), hl1, h4]
          simp only [Option.map_some, Addr.add_lit, List.length_take, Nat.min_eq_left (Nat.le_trans hlm hmx)]
        · rw [e2, e3] at k5
          exact k5.mid
  · cases h
theorem evOpP_sound (hE : EnvOk P E) {o : Oper} {K : AV → Option R} (h : evOpP E o sl bs K = some out) (hr : Rel E.ET g0 bs0 w0 g ⟨sl, bs⟩ a w) :
    ∃ v u, K v = some out ∧ VRel E.ET g bs w v u ∧ (execOp a.eval o).run P w = .ok (.value u) w := by
  have hb : BsRel E.ET g bs w := hr.boxes
  have fin : ∀ {s : Sem Value}, (execOp a.eval o).run P w = (s >>= fun v => pure (.value v)).run P w → (∃ v u, K v = some out ∧ VRel E.ET g bs w v u ∧ s.run P w = .ok u w) →
      ∃ v u, K v = some out ∧ VRel E.ET g bs w v u ∧ (execOp a.eval o).run P w = .ok (.value u) w := by
    intro s hs ⟨v, u, h1, h2, h3⟩
    refine ⟨v, u, h1, h2, ?_⟩
    rw [hs, Sem.run_bind, h3]; rfl
  obtain ⟨dst, op, type, pos, nm, guard⟩ := o
  unfold evOpP at h
  simp only at h
  split at h
  · rename_i x
    exact ⟨_, a.eval x, h, opnd_rel hr x, by simp [execOp]⟩
  · rename_i x
    exact ⟨_, a.eval x, h, opnd_rel hr x, by simp [execOp]⟩
  · rename_i op T x y z
    exact fin (s := binRun op T x y (a.eval x) (a.eval y)) rfl (evBin2_sound hE h (opnd_rel hr x) (opnd_rel hr y))
  · rename_i op T x
    exact fin (s := Op.unary op (a.eval x)) rfl (evUn_sound h (opnd_rel hr x))
  · rename_i T x
    exact fin (s := Instr.loadAt T (a.eval x)) rfl (load_sound hE h (opnd_rel hr x) hb)
  · rename_i T x lo hi
    split at h
    · rename_i l u hl hh
      exact fin (s := Instr.sliceAt T (a.eval x) (lo.map a.eval) (hi.map a.eval) none) rfl (slice_sound hE h (opnd_rel hr x) hb (optInt_rel hr hl) (optInt_rel hr hh))
    · cases h
  · rename_i T x lo hi mx
    have one : ∀ {q : Operand} {i : Int}, asI (opnd sl q) = some i → ∃ k, a.eval q = .int k i := by
      intro q i hi
      have hq := opnd_rel hr q
      unfold asI at hi
      split at hi
      · rename_i k n hn
        simp only [Option.some.injEq] at hi
        subst hi
        rw [hn] at hq
        exact ⟨k, rel_int hq⟩
      · cases hi
    split at h
    · rename_i l u m h1 h2 h3
      exact fin (s := Instr.sliceAt T (a.eval x) (some (a.eval lo)) (some (a.eval hi)) (some (a.eval mx))) rfl (slice3_sound hE h (opnd_rel hr x) (one h1) (one h2) (one h3))
    · cases h
  · rename_i b xs ts
    have hargs := args_rel hr xs.toList
    split at h
    · rename_i T l x hts hx
      rw [hx] at hargs
      match hv : xs.toList.map a.eval, hargs with
      | [xv], ⟨h1, _⟩ =>
        refine fin (s := Builtin.len_ ts type (xs.map a.eval)) (by simp [execOp, resolve, invoke, builtin]) ?_
        rw [show xs.map a.eval = #[xv] by rw [← hv, ← Array.toList_map]]
        exact len_sound hE (by rw [← Array.getElem?_toList, hts]; rfl) h h1 hb
    · cases h
  · cases h
end
end Go.Proofs.YtcnngodgngmghaaGreatDoor.Ev
/- What a function that is ranged over gives, by the evaluator: it is sound. -/
namespace Go.Proofs.YtcnngodgngmghaaGreatDoor.Ev
open Go
open Go.RowKit
set_option linter.unusedVariables false
set_option linter.unusedSimpArgs false
set_option linter.unusedSectionVars false
section
variable {P : Program} {E : Env} {ET : TypeId} {g g' : Gh} {w w' : World} {st : St} {bs bs' old : Boxes} {a : Act}
variable {t : Ty} {J : List t.den → World → Prop} {Jx : World → Prop} {bl : List Nat} {Y : Value} {okN O0 : Nat → Prop} {n0 : Nat}
theorem upon_wide {o : Oper} {a : Act} {next : Act → World → Prop} {Q : Post} {n : Nat} : ∀ {r : Result Next}, o.upon P a next Q r → o.uponIn Fence.wide n P a next Q r := by
  intro r h
  match r, h with
  | .ok (.value v) w', h => exact h
  | .ok .skip w', h => exact h
  | .ok (.defer d) w', h => exact h
  | .ok (.enter f args) w', h => exact ⟨fun hh => by simp [Fence.wide] at hh, callsIn_wide.2 h⟩
  | .ok (.row row args) w', h =>
    refine ⟨fun hh => by simp [Fence.wide] at hh, fun c cs _ => ?_⟩
    obtain ⟨v, w2, h1, h2⟩ := h c cs
    exact ⟨v, w2, h1, stepsIn_wide.2 h2⟩
  | .halt (.panic v) w', h => exact h
theorem wp_wide {o : Oper} {a : Act} {next : Act → World → Prop} {Q : Post} {n : Nat} (h : o.wp P a w next Q) : o.wpIn Fence.wide n P a w next Q :=
  ⟨fun _ _ => trivial, by rw [show Fence.wide.round = none from rfl, Oper.semAt_none]; exact upon_wide h⟩
theorem flat_keep {x : AV} {v : Value} (hf : flatA x = true) (h : VRel ET g bs w x v) : VRel ET g' bs' w' x v := by
  cases x with
  | top => trivial
  | und => exact h
  | val t x => exact rep_flat (E := { rows := [], calls := [], ET := ET }) hf h
  | _ => cases hf
theorem flat_keepL {x : AV} {v : Value} (hf : flatA x = true) (h : LRel ET g bs w x v) : LRel ET g' bs' w' x v := by
  cases x with
  | top => trivial
  | und => exact h
  | val t x => exact rep_flat (E := { rows := [], calls := [], ET := ET }) hf h
  | _ => cases hf
theorem flat_all : ∀ {l : List AV} {vs : List Value}, flatAs l = true → All2 (LRel ET g bs w) l vs → All2 (LRel ET g' bs' w') l vs
  | [], [], _, _ => trivial
  | [], _ :: _, _, h => h.elim
  | _ :: _, [], _, h => h.elim
  | a :: l, v :: vs, hf, ⟨h1, h2⟩ => by
    simp only [flatAs, Bool.and_eq_true] at hf
    exact ⟨flat_keepL hf.1 h1, flat_all hf.2 h2⟩
theorem flatY_look : ∀ {bs : Boxes} {b v : Nat} {c : BoxC}, flatY bs = true → look bs b = some (v, c) → v = 0 ∧ flatC c = true
  | [], _, _, _, _, h => by cases h
  | (i, (v', c')) :: l, b, v, c, hf, h => by
    simp only [flatY, Bool.and_eq_true] at hf
    simp only [look] at h
    cases hb : Nat.beq i b with
    | true =>
      rw [hb] at h
      simp only [cond_true, Option.some.injEq, Prod.mk.injEq] at h
      obtain ⟨rfl, rfl⟩ := h
      exact ⟨Nat.eq_of_beq_eq_true hf.1.1, hf.1.2⟩
    | false => rw [hb] at h; exact flatY_look hf.2 h
theorem subY_look : ∀ {bs : Boxes} {b : Nat} {x : Nat × BoxC}, subY old bs = true → look bs b = some x → ∃ y, look old b = some y
  | [], _, _, _, h => by cases h
  | (i, y) :: l, b, x, hf, h => by
    simp only [subY, Bool.and_eq_true] at hf
    simp only [look] at h
    cases hb : Nat.beq i b with
    | true =>
      have := Nat.eq_of_beq_eq_true hb
      subst this
      have h1 := hf.1
      split at h1
      · rename_i z hz; exact ⟨z, hz⟩
      · cases h1
    | false => rw [hb] at h; exact subY_look hf.2 h
def RlY (ET : TypeId) (t : Ty) (J : List t.den → World → Prop) (Jx : World → Prop) (bl : List Nat) (Y : Value) (okN : Nat → Prop) (l : List t.den) (ys : List Nat) : SRel := fun st a w =>
  ∃ g, Rel ET g [] w g st a w ∧ a.defers = [] ∧ (∀ k, g.O k = none → okN k ∧ k ∉ bl) ∧ (∀ k, k < w.heap.size → k ∉ bl → g.O k = none ∨ g.O k = some 0) ∧
    (∀ b T cells, look st.bs b = some (0, .var T cells) → ∃ blk ∈ bl, g.hd b = .pointer (some ⟨blk, 0, none⟩)) ∧ flatY st.bs = true ∧ (∀ y ∈ ys, a.tmps.getD y undef = Y) ∧ (J l w ∨ (l = [] ∧ Jx w))
def rsG (bl : List Nat) (g g' : Gh) : Gh := ⟨fun k => if k ∈ bl then (match g'.O k with | none => some 0 | some j => some j) else if g.O k = none then none else some 0, g'.hd⟩
theorem rsG_in {k j : Nat} (hk : k ∈ bl) (h : g'.O k = some j) : (rsG bl g g').O k = some j := by
  simp only [rsG, if_pos hk, h]
theorem rsG_inN {k : Nat} (hk : k ∈ bl) : (rsG bl g g').O k ≠ none := by
  simp only [rsG, if_pos hk]
  split <;> simp
theorem rsG_out {k : Nat} (hk : k ∉ bl) : (rsG bl g g').O k = if g.O k = none then none else some 0 := if_neg hk
theorem rsG_none {k : Nat} (h : (rsG bl g g').O k = none) : k ∉ bl ∧ g.O k = none := by
  by_cases hk : k ∈ bl
  · exact absurd h (rsG_inN hk)
  · refine ⟨hk, ?_⟩
    rw [rsG_out hk] at h
    split at h
    · assumption
    · cases h
theorem rsG_keep {k : Nat} (hk : k ∉ bl) (h : g.O k = none) : (rsG bl g g').O k = none := by rw [rsG_out hk, if_pos h]
theorem rsG_or {k : Nat} (hk : k ∉ bl) : (rsG bl g g').O k = none ∨ (rsG bl g g').O k = some 0 := by
  rw [rsG_out hk]
  split
  · exact .inl rfl
  · exact .inr rfl
theorem relY_step (hJ : ∀ s A B T, J s A → GrownT A B T → (∀ r, T r → r ∈ bl) → J s B) (hJx : ∀ A B T, Jx A → GrownT A B T → (∀ r, T r → r ∈ bl) → Jx B)
    {l : List t.den} {st1 st2 : St} {a' : Act} {ys' : List Nat} (hr : Rel ET g [] w g st a w) (hn : ∀ k, g.O k = none → okN k ∧ k ∉ bl) (hp : ∀ k, k < w.heap.size → k ∉ bl → g.O k = none ∨ g.O k = some 0)
    (hc : ∀ b T cells, look st.bs b = some (0, .var T cells) → ∃ blk ∈ bl, g.hd b = .pointer (some ⟨blk, 0, none⟩)) (hfl : flatY st.bs = true) (hi : J l w ∨ (l = [] ∧ Jx w))
    (hr' : Rel ET g st.bs w g' st1 a' w') (hid : idsY st.bs st1.bs = true) (hd : a'.defers = []) (hbs : st2.bs = st1.bs) (hsz : st2.slots.length ≤ a'.tmps.size)
    (hsl : ∀ i, (flatA (getS st2.slots i) = true ∧ (getS st2.slots i = getS st1.slots i ∨ getS st2.slots i = .top)) ∨ (getS st2.slots i = getS st.slots i ∧ a'.tmps.getD i undef = a.tmps.getD i undef))
    (hy : ∀ y ∈ ys', a'.tmps.getD y undef = Y) : RlY ET t J Jx bl Y okN l ys' st2 a' w' := by
  have fr := hr'.ext.fr
  simp only [idsY, Bool.and_eq_true] at hid
  have hext : Ext g st.bs w (rsG bl g g') st1.bs w' := by
    refine ⟨⟨fr.os, fr.tape, fr.output, fr.size, fun b hb hlt => ?_, fun b hb hlt => ?_⟩, hr'.ext.ver, hr'.ext.var, hr'.ext.row⟩
    · exact ⟨rsG_keep (hn b hb).2 hb, (fr.ro b hb hlt).2⟩
    · refine ⟨?_, (fr.fo b hb hlt).2⟩
      by_cases hk : b ∈ bl
      · exact rsG_in hk (fr.fo b hb hlt).1
      · rw [rsG_out hk, if_neg (by rw [hb]; simp)]
  have hcap : ∀ b T cells, look st1.bs b = some (0, .var T cells) → ∃ blk ∈ bl, g'.hd b = .pointer (some ⟨blk, 0, none⟩) := by
    intro b T cells hl
    obtain ⟨⟨v0, c0⟩, h0⟩ := subY_look hid.2 hl
    have hv0 := (flatY_look hfl h0).1
    subst hv0
    have hbox : getBox st1.bs b 0 = .var T cells := by simp only [getBox, hl]; rfl
    obtain ⟨⟨cells', h1⟩, h2⟩ := hr'.ext.var b 0 T cells (by simp only [nextVer, h0]; omega) hbox
    obtain ⟨blk, hb1, hb2⟩ := hc b T cells' (getBox_look h1 (by simp))
    exact ⟨blk, hb1, h2.trans hb2⟩
  refine ⟨rsG bl g g', ⟨hr.glb.keep hext.fr, hsz, fun i => ?_, fun b ver c hl => ?_, by rw [hd]; trivial, Fr.refl _ _, fun b => Nat.zero_le _, fun b ver T cells hv => absurd hv (Nat.not_lt_zero _), fun b ver T t xs hv => absurd hv (Nat.not_lt_zero _)⟩, hd, fun k hk => ?_, fun k _ hk => rsG_or hk, fun b T cells hl => ?_, by rw [hbs]; exact hid.1, hy, ?_⟩
  · rw [hbs]
    rcases hsl i with ⟨h1, h2 | h2⟩ | ⟨h1, h2⟩
    · rw [h2] at h1 ⊢
      exact flat_keep h1 (hr'.slots i)
    · rw [h2]; trivial
    · rw [h1, h2]
      exact (hr.slots i).keep hext
  · rw [hbs] at hl ⊢
    obtain ⟨hv, hf⟩ := flatY_look hid.1 hl
    subst hv
    have hb := hr'.boxes b 0 c hl
    cases c with
    | dead => trivial
    | row T t xs => cases hf
    | var T cells =>
      obtain ⟨blk, arr, k1, k2, k3, k4⟩ := hb
      obtain ⟨blk', hb1, hb2⟩ := hcap b T cells hl
      rw [k1] at hb2
      simp only [Value.pointer.injEq, Option.some.injEq, Addr.mk.injEq, and_true] at hb2
      subst hb2
      exact ⟨blk, arr, k1, rsG_in hb1 k2, k3, flat_all hf k4⟩
  · obtain ⟨h1, h2⟩ := rsG_none hk
    exact ⟨(hn k h2).1, h1⟩
  · rw [hbs] at hl
    exact hcap b T cells hl
  · have hgt : GrownT w w' (· ∈ bl) := ⟨fr.os, fr.tape, fr.output, fr.size, fun k hk hnk => by
      rcases hp k hk hnk with h | h
      · exact (fr.ro k h hk).2
      · exact (fr.fo k h hk).2⟩
    rcases hi with h | ⟨h1, h2⟩
    · exact .inl (hJ _ _ _ _ h hgt (fun r hr => hr))
    · exact .inr ⟨h1, hJx _ _ _ h2 hgt (fun r hr => hr)⟩
theorem rmN_mem {y d : Nat} : ∀ {l : List Nat}, y ∈ rmN l d → y ∈ l ∧ y ≠ d
  | [], h => by cases h
  | x :: l, h => by
    simp only [rmN] at h
    cases hb : Nat.beq x d with
    | true => rw [hb] at h; obtain ⟨h1, h2⟩ := rmN_mem (l := l) h; exact ⟨List.mem_cons_of_mem _ h1, h2⟩
    | false =>
      rw [hb] at h
      rcases List.mem_cons.1 h with rfl | h
      · exact ⟨List.mem_cons_self .., fun e => by rw [e, Nat.beq_refl] at hb; cases hb⟩
      · obtain ⟨h1, h2⟩ := rmN_mem (l := l) h; exact ⟨List.mem_cons_of_mem _ h1, h2⟩
theorem put_other {d : Tmp} {y : Nat} {u : Value} (h : y ≠ d) : (a.put (some d) u).tmps.getD y undef = a.tmps.getD y undef := getD_set_other (Ne.symm h)
theorem rmO_mem {y : Nat} {d : Option Tmp} {l : List Nat} {u : Value} (h : y ∈ rmO l d) : y ∈ l ∧ (a.put d u).tmps.getD y undef = a.tmps.getD y undef := by
  cases d with
  | none => exact ⟨h, rfl⟩
  | some d =>
    obtain ⟨h1, h2⟩ := rmN_mem h
    exact ⟨h1, put_other h2⟩
theorem flat_dem (x : AV) : flatA (dem x) = true ∧ (dem x = x ∨ dem x = .top) := by
  unfold dem
  cases h : flatA x with
  | true => exact ⟨h, .inl rfl⟩
  | false => exact ⟨rfl, .inr rfl⟩
theorem defers_put {d : Option Tmp} {u : Value} : (a.put d u).defers = a.defers := by cases d <;> rfl
theorem opsY_sound (hE : EnvOk P E) (hkeep : E.keep = []) (hJ : ∀ s A B T, J s A → GrownT A B T → (∀ r, T r → r ∈ bl) → J s B) (hJx : ∀ A B T, Jx A → GrownT A B T → (∀ r, T r → r ∈ bl) → Jx B)
    {lp n : Nat} (hY : Y = .func (.yield lp) #[] #[]) (hokN : ∀ k, okN k → k < n0 ∧ O0 k) (hbl : ∀ k ∈ bl, k < n0 ∧ O0 k)
    (hyield : ∀ x rest u W1, J (x :: rest) W1 → VU E.ET t okN W1 x u → YieldAt Fence.wide n P lp #[u] W1 fun e W' => (e = .returned (.bool true) ∧ J rest W' ∧ KpOf O0 n0 W1 W') ∨ (e = .returned (.bool false) ∧ Jx W' ∧ KpOf O0 n0 W1 W'))
    {all : List Oper} {Q : Post} (hq : ¬ LetsOut Q) {K : St → Option (List t.den)} (hK : ∀ l st a w, RlY E.ET t J Jx bl Y okN l [0] st a w → K st = some l → Q .normal a w) :
    ∀ (rest : List Oper) (ys : List Nat) (st : St) (l : List t.den) (a : Act) (w : World), RlY E.ET t J Jx bl Y okN l ys st a w → evOpsY E all t rest ys st K = some l → wpListIn Fence.wide (n + 1) P all.toArray Q rest a w
  | [], ys, st, l, a, w, hrl, h => by
    simp only [evOpsY] at h
    obtain ⟨h0, h⟩ := bif_some h
    obtain ⟨g, h1, h2, h3, h4, h5, h6, h7, h8⟩ := hrl
    exact hK l st a w ⟨g, h1, h2, h3, h4, h5, h6, fun y hy => by
      rw [List.mem_singleton.1 hy]
      exact h7 0 (memN_iff'.1 h0), h8⟩ h
  | o :: rest, ys, st, l, a, w, hrl, h => by
    simp only [evOpsY] at h
    split at h
    · cases h
    · rename_i hgd
      unfold wpListIn
      rw [if_pos (by unfold Region.wanted; rw [hgd])]
      obtain ⟨g, hr, hd, hn, hp, hc, hfl, hy, hi⟩ := id hrl
      split at h
      · -- yield
        rename_i x d hya
        split at h
        · rename_i v hv
          have hop : ∃ y xs ts, o.op = .call { callee := .value (.tmp y), args := xs, argTypes := ts } ∧ o.dst = some d ∧ xs = #[x] ∧ y ∈ ys := by
            unfold yArg at hya
            split at hya
            · rename_i y xs ts ho
              split at hya
              · rename_i d' x' hd' hx'
                obtain ⟨hm, hya⟩ := bif_some hya
                simp only [Option.some.injEq, Prod.mk.injEq] at hya
                obtain ⟨rfl, rfl⟩ := hya
                exact ⟨y, xs, ts, ho, hd', by rw [← Array.toArray_toList (xs := xs), hx'], memN_iff'.1 hm⟩
              · cases hya
            · cases hya
          obtain ⟨y, xs, ts, ho, hdst, rfl, hym⟩ := hop
          have hyv : a.eval (.tmp y) = .func (.yield lp) #[] #[] := (hy y hym).trans hY
          -- the two ways on
          cases h0 : evOpsY E all t rest (rmN ys d) ⟨setS st.slots d (.val .bool false), st.bs⟩ K with
          | none => rw [h0] at h; cases h
          | some l0 =>
            rw [h0] at h
            simp only [Option.bind_some] at h
            obtain ⟨he0, hB⟩ := bif_some h
            have hl0 : l0 = [] := List.isEmpty_iff.1 he0
            subst hl0
            cases h1 : evOpsY E all t rest (rmN ys d) ⟨setS st.slots d (.val .bool true), st.bs⟩ K with
            | none => rw [h1] at hB; cases hB
            | some l1 =>
              rw [h1] at hB
              simp only [Option.bind_some, Option.some.injEq] at hB
              subst hB
              have hJl : J (v :: l1) w := by
                rcases hi with h | ⟨h, _⟩
                · exact h
                · cases h
              have hx := opnd_rel (sl := st.slots) (bs := st.bs) hr x
              have hrep : VU E.ET t okN w v (a.eval x) := by
                have hx' : LRel E.ET g st.bs w (opnd st.slots x) (a.eval x) := by
                  revert hv hx
                  generalize opnd st.slots x = z
                  intro hv hx
                  cases z with
                  | agg l => simp [asTy] at hv
                  | tup l => simp [asTy] at hv
                  | _ => exact hx
                exact Rep.mono (fun b hb => ⟨⟨(hn b hb.1).1, hb.2⟩, rfl⟩) (asTy_rel (E := E) hv hx')
              obtain ⟨fn, tm, asg, bd, hy1, hy2⟩ := hyield v l1 (a.eval x) w hJl hrep
              have hex : (o.semAt Fence.wide.round a.eval).run P w = .ok (.round lp fn tm asg bd) w := by
                rw [show Fence.wide.round = none from rfl, Oper.semAt_none]
                simp only [execOp, ho, resolve, hyv, Deferred.ofValue, invoke, Sem.run_bind, Sem.run_pure, Result.andThen_ok]
                simpa using hy1
              refine ⟨fun _ _ => trivial, ?_⟩
              rw [hex, Oper.uponIn_round]
              refine ⟨fun hh => by simp [Fence.wide] at hh, RoundIn.mono hy2 ?_⟩
              have back : ∀ (bv : Bool) (l' : List t.den) (W' : World), KpOf O0 n0 w W' → (J l' W' ∨ (l' = [] ∧ Jx W')) → evOpsY E all t rest (rmN ys d) ⟨setS st.slots d (.val .bool bv), st.bs⟩ K = some l' →
                  wpListIn Fence.wide (n + 1) P all.toArray Q rest (a.put o.dst (.bool bv)) W' := by
                intro bv l' W' hk hi' he
                refine opsY_sound hE hkeep hJ hJx hY hokN hbl hyield hq hK rest (rmN ys d) _ l' _ W' ?_ he
                rw [hdst]
                have hok : ∀ b, okB g w b → okB (rsG bl g g) W' b ∧ W'.heap[b]? = w.heap[b]? := by
                  intro b hb
                  have e := hk b (hokN b (hn b hb.1).1).1 (hokN b (hn b hb.1).1).2
                  refine ⟨⟨rsG_keep (hn b hb.1).2 hb.1, ?_, by rw [e]; exact hb.2.2⟩, e⟩
                  have : ∃ o, w.heap[b]? = some o := ⟨_, Array.getElem?_eq_getElem hb.2.1⟩
                  obtain ⟨o', ho'⟩ := this
                  rw [ho'] at e
                  exact (Array.getElem?_eq_some_iff.1 e).1
                have base : Rel E.ET (rsG bl g g) [] W' (rsG bl g g) ⟨st.slots, st.bs⟩ a W' := by
                  refine ⟨⟨fun b hb => (hok b (hr.glb.ours b hb)).1, hr.glb.tab.keep fun b hb => (hok b (hr.glb.ours b hb)).2⟩, hr.size, fun i => VRel.turn (g := g) (g' := rsG bl g g) rfl hok (hr.slots i), fun b ver c hl => ?_, by rw [hd]; trivial, Fr.refl _ _, fun b => Nat.zero_le _, fun b ver T cells hv => absurd hv (Nat.not_lt_zero _), fun b ver T t xs hv => absurd hv (Nat.not_lt_zero _)⟩
                  obtain ⟨hv0, hf⟩ := flatY_look hfl hl
                  subst hv0
                  have hb := hr.boxes b 0 c hl
                  cases c with
                  | dead => trivial
                  | row T t xs => cases hf
                  | var T cells =>
                    obtain ⟨blk, arr, k1, k2, k3, k4⟩ := hb
                    obtain ⟨blk', hb1, hb2⟩ := hc b T cells hl
                    rw [k1] at hb2
                    simp only [Value.pointer.injEq, Option.some.injEq, Addr.mk.injEq, and_true] at hb2
                    subst hb2
                    exact ⟨blk, arr, k1, rsG_in hb1 k2, (hk blk (hbl blk hb1).1 (hbl blk hb1).2).trans k3, flat_all hf k4⟩
                refine ⟨rsG bl g g, base.put (v := .val .bool bv) (u := .bool bv) rfl (some d), hd, fun k hk => ?_, fun k _ hk => rsG_or hk, hc, hfl, fun y hy' => ?_, hi'⟩
                · obtain ⟨q1, q2⟩ := rsG_none hk
                  exact ⟨(hn k q2).1, q1⟩
                · obtain ⟨q1, q2⟩ := rmN_mem hy'
                  rw [put_other q2]; exact hy y q1
              rintro e W' (⟨rfl, q1, q2⟩ | ⟨rfl, q1, q2⟩)
              · exact back true l1 W' q2 (.inl q1) h1
              · exact back false [] W' q2 (.inr ⟨rfl, q1⟩) h0
        · cases h
      · cases hpu : pureB o with
        | true =>
          rw [hpu] at h
          simp only [cond_true] at h
          obtain ⟨v, u, h1, h2, h3⟩ := evOpP_sound hE h hr
          refine ⟨fun _ _ => trivial, ?_⟩
          rw [show Fence.wide.round = none from rfl, Oper.semAt_none, h3, Oper.uponIn_value]
          refine opsY_sound hE hkeep hJ hJx hY hokN hbl hyield hq hK rest (mvY (lenN st.slots) ys o) _ l _ w ?_ h1
          refine ⟨g, hr.put h2 o.dst, by rw [defers_put]; exact hd, hn, hp, hc, hfl, fun y hy' => ?_, hi⟩
          unfold mvY at hy'
          split at hy'
          · rename_i z d hop hdst
            cases hm : (memN ys z && Nat.blt d (lenN st.slots)) with
            | true =>
              rw [hm] at hy'
              obtain ⟨hm, hlt⟩ := and3 hm
              have hlt : d < a.tmps.size := Nat.lt_of_lt_of_le (by rw [← lenN_eq]; exact Nat.le_of_ble_eq_true hlt) hr.size
              have hu : u = Y := by
                have : (execOp a.eval o).run P w = .ok (.value (a.eval (.tmp z))) w := by simp [execOp, hop]
                rw [this] at h3
                simp only [Result.ok.injEq, Next.value.injEq, and_true] at h3
                rw [← h3]; exact hy z (memN_iff'.1 hm)
              by_cases e : y = d
              · subst e
                rw [hdst, hu]
                exact getD_set_eq hlt
              · rw [hdst, put_other e]
                rcases List.mem_cons.1 hy' with rfl | hy'
                · exact absurd rfl e
                · exact hy y hy'
            | false =>
              rw [hm] at hy'
              obtain ⟨q1, q2⟩ := rmN_mem hy'
              rw [hdst, put_other q2]; exact hy y q1
          · obtain ⟨q1, q2⟩ := rmO_mem (a := a) (u := u) hy'
            rw [q2]; exact hy y q1
        | false =>
          rw [hpu] at h
          simp only [cond_false] at h
          refine wp_wide ?_
          have hb1 : Rel E.ET g st.bs w g st a w := ⟨hr.glb, hr.size, hr.slots, hr.boxes, by rw [hd]; trivial, Ext.refl _ _ _⟩
          have hop := opOk (vals := []) (W := wpListIn Fence.wide (n + 1) P all.toArray Q rest) (Q := Q) hE (show RlOf E.ET g st.bs w E.keep [] st a w from ⟨⟨g, hb1⟩, by rw [hkeep]; intro i hi; cases hi⟩) h ?_
          · rw [if_pos (by unfold Region.wanted; rw [hgd])] at hop
            rcases hop with h | h
            · exact h
            · exact absurd h.2 hq
          · rintro s a' w' ⟨⟨g', hr'⟩, _⟩ ⟨u, rfl⟩ h2
            obtain ⟨hid, h2⟩ := bif_some h2
            refine opsY_sound hE hkeep hJ hJx hY hokN hbl hyield hq hK rest (rmO ys o.dst) _ l _ w' ?_ h2
            refine relY_step hJ hJx hr hn hp hc hfl hi hr' hid (by rw [defers_put]; exact hd) rfl ?_ (fun i => ?_) (fun y hy' => ?_)
            · show (putS st.slots o.dst _).length ≤ _
              rw [length_putS]
              refine Nat.le_trans hr.size ?_
              cases o.dst with
              | none => exact Nat.le_refl _
              | some d => simp [Act.put]
            · show (flatA (getS (putS st.slots o.dst (demD o.dst s.slots)) i) = true ∧ _) ∨ _
              cases hdd : o.dst with
              | none => exact .inr ⟨rfl, rfl⟩
              | some d =>
                simp only [putS, getS_setS]
                by_cases hi2 : i = d ∧ d < st.slots.length
                · obtain ⟨rfl, hlt⟩ := hi2
                  rw [if_pos ⟨rfl, hlt⟩]
                  exact .inl (flat_dem _)
                · rw [if_neg hi2]
                  by_cases e : i = d
                  · subst e
                    refine .inl ?_
                    have : getS st.slots i = .top := getS_ge _ _ (by
                      rcases Nat.lt_or_ge i st.slots.length with h | h
                      · exact absurd ⟨rfl, h⟩ hi2
                      · exact h)
                    rw [this]; exact ⟨rfl, .inr rfl⟩
                  · exact .inr ⟨rfl, put_other e⟩
            · obtain ⟨q1, q2⟩ := rmO_mem (a := a) (u := u) hy'
              rw [q2]; exact hy y q1
end
end Go.Proofs.YtcnngodgngmghaaGreatDoor.Ev
/- What a function that is ranged over gives, by the evaluator: its whole body. -/
namespace Go.Proofs.YtcnngodgngmghaaGreatDoor.Ev
open Go
open Go.RowKit
set_option linter.unusedVariables false
set_option linter.unusedSimpArgs false
set_option linter.unusedSectionVars false
section
variable {P : Program} {E : Env} {ET : TypeId} {g g' : Gh} {w w' : World} {st : St} {bs bs' old : Boxes} {a : Act}
variable {t : Ty} {J : List t.den → World → Prop} {Jx : World → Prop} {bl : List Nat} {Y : Value} {okN O0 : Nat → Prop} {n0 : Nat}
structure CtxY (P : Program) (E : Env) (t : Ty) (J : List t.den → World → Prop) (Jx : World → Prop) (bl : List Nat) (Y : Value) (okN : Nat → Prop) : Prop where
  env : EnvOk P E
  keep : E.keep = []
  frz : E.frz = []
  own : ∀ s A B T, J s A → GrownT A B T → (∀ r, T r → r ∈ bl) → J s B
  ownx : ∀ A B T, Jx A → GrownT A B T → (∀ r, T r → r ∈ bl) → Jx B
  yld : ∃ lp n n0 O0, Y = .func (.yield lp) #[] #[] ∧ (∀ k, okN k → k < n0 ∧ O0 k) ∧ (∀ k ∈ bl, k < n0 ∧ O0 k) ∧
    (∀ x rest u W1, J (x :: rest) W1 → VU E.ET t okN W1 x u → YieldAt Fence.wide n P lp #[u] W1 fun e W' => (e = .returned (.bool true) ∧ J rest W' ∧ KpOf O0 n0 W1 W') ∨ (e = .returned (.bool false) ∧ Jx W' ∧ KpOf O0 n0 W1 W'))
structure GoodY (E : Env) (t : Ty) (J : List t.den → World → Prop) (Jx : World → Prop) (bl : List Nat) (Y : Value) (okN : Nat → Prop) (K : Kont (List t.den)) (Q : Post) : Prop where
  normal : ∀ l st a w, RlY E.ET t J Jx bl Y okN l [0] st a w → K.normal st = some l → Q .normal a w
  ret : ∀ l st a w, RlY E.ET t J Jx bl Y okN l [0] st a w → K.ret st = some l → Q .ret a w
  exits : ∀ i l st a w, RlY E.ET t J Jx bl Y okN l [0] st a w → findExit K.exits i st = some l → Q (.exit i) a w
theorem goodY_seq {K : Kont (List t.den)} {Q : Post} {N : St → Option (List t.den)} {W : Act → World → Prop} (h : GoodY E t J Jx bl Y okN K Q)
    (hn : ∀ l st a w, RlY E.ET t J Jx bl Y okN l [0] st a w → N st = some l → W a w) : GoodY E t J Jx bl Y okN { K with normal := N } (Exit.then W Q) :=
  ⟨hn, h.ret, h.exits⟩
theorem goodY_block {K : Kont (List t.den)} {Q : Post} {i : Nat} (h : GoodY E t J Jx bl Y okN K Q) : GoodY E t J Jx bl Y okN { K with exits := (i, K.normal) :: K.exits } (Exit.inBlock i Q) := by
  refine ⟨h.normal, h.ret, fun j l st a w hr hj => ?_⟩
  simp only [findExit] at hj
  simp only [Exit.inBlock]
  by_cases e : j = i
  · subst e
    rw [if_pos rfl]
    rw [show Nat.beq j j = true from Nat.beq_refl j] at hj
    exact h.normal _ _ _ _ hr hj
  · rw [if_neg e]
    rw [beq_no (Ne.symm e)] at hj
    exact h.exits _ _ _ _ _ hr hj
def AllY (P : Program) (E : Env) (t : Ty) (T : Nat → St → Option (List t.den)) (lv : Nat) (φ : Nat → (Act → World → Prop) → Prop) : Code → Nat → Kont (List t.den) → Post → Prop
  | .seq a b, n, K, Q => AllY P E t T lv φ a (n + 1) { K with normal := evCodeY E t T b (n + 1 + cnt a) K } (Exit.then (b.wp P Q) Q) ∧ AllY P E t T lv φ b (n + 1 + cnt a) K Q
  | .loop b, n, K, Q => φ n (Code.rounds P b Q lv) ∧ AllY P E t T lv φ b (n + 1) { K with normal := T n } (Exit.then (Code.rounds P b Q lv) Q)
  | .cond _ a b, n, K, Q => AllY P E t T lv φ a n K Q ∧ AllY P E t T lv φ b (n + cnt a) K Q
  | .block i b, n, K, Q => AllY P E t T lv φ b n { K with exits := (i, K.normal) :: K.exits } (Exit.inBlock i Q)
  | _, _, _, _ => True
def HoldsY (E : Env) (t : Ty) (J : List t.den → World → Prop) (Jx : World → Prop) (bl : List Nat) (Y : Value) (okN : Nat → Prop) (T : Nat → St → Option (List t.den)) (n : Nat) (W : Act → World → Prop) : Prop :=
  ∀ l st a w, T n st = some l → RlY E.ET t J Jx bl Y okN l [0] st a w → W a w
theorem getS_demL (wr : List Nat) (new : List AV) : ∀ (l : List AV) (k i : Nat), (memN wr (k + i) = true ∧ i < l.length ∧ getS (demL wr new k l) i = dem (getS new (k + i))) ∨ (memN wr (k + i) = false ∧ getS (demL wr new k l) i = getS l i) ∨ l.length ≤ i
  | [], _, _ => .inr (.inr (Nat.zero_le _))
  | x :: l, k, 0 => by
    show (memN wr k = true ∧ _ ∧ cond (memN wr k) (dem (getS new k)) x = _) ∨ (memN wr k = false ∧ cond (memN wr k) (dem (getS new k)) x = x) ∨ _
    cases h : memN wr k with
    | true => exact .inl ⟨rfl, Nat.succ_pos _, rfl⟩
    | false => exact .inr (.inl ⟨rfl, rfl⟩)
  | x :: l, k, i + 1 => by
    have := getS_demL wr new l (k + 1) i
    rw [show k + 1 + i = k + (i + 1) by omega] at this
    rcases this with ⟨h1, h2, h3⟩ | ⟨h1, h2⟩ | h
    · exact .inl ⟨h1, Nat.succ_lt_succ h2, h3⟩
    · exact .inr (.inl ⟨h1, h2⟩)
    · exact .inr (.inr (Nat.succ_le_succ h))
theorem length_demL (wr : List Nat) (new : List AV) : ∀ (l : List AV) (k : Nat), (demL wr new k l).length = l.length
  | [], _ => rfl
  | x :: l, k => by simp [demL, length_demL wr new l (k + 1)]
variable {T : Nat → St → Option (List t.den)} {lv : Nat}
theorem evCodeY_sound (X : CtxY P E t J Jx bl Y okN) : ∀ (c : Code) (n : Nat) (K : Kont (List t.den)) (Q : Post) (l : List t.den) (st : St) (a : Act) (w : World),
    AllY P E t T lv (HoldsY E t J Jx bl Y okN T) c n K Q → ¬ LetsOut Q → GoodY E t J Jx bl Y okN K Q → RlY E.ET t J Jx bl Y okN l [0] st a w → evCodeY E t T c n K st = some l → c.wp P Q a w
  | .skip, n, K, Q, l, st, a, w, _, _, hg, hr, he => wp_skip (hg.normal _ _ _ _ hr he)
  | .region id ops draw, n, K, Q, l, st, a, w, _, hq, hg, hr, he => by
    simp only [evCodeY] at he
    cases draw with
    | true =>
      simp only [cond_true] at he
      cases hm : (!memN (dstsO ops.toList) 0 && Nat.blt 0 (lenN st.slots)) with
      | false => rw [hm] at he; cases he
      | true =>
        rw [hm] at he
        simp only [Bool.not_true, cond_false] at he
        obtain ⟨hm0, hlt0⟩ := and3 hm
        have hE' : EnvOk P { E with keep := restN (dstsO ops.toList) 0 (lenN st.slots) } := envOk_keep X.env
        obtain ⟨g, hr0, hd, hn, hp, hc, hfl, hy, hi⟩ := (show RlY E.ET t J Jx bl Y okN l [0] st a w from hr)
        have hb1 : Rel E.ET g st.bs w g st a w := ⟨hr0.glb, hr0.size, hr0.slots, hr0.boxes, by rw [hd]; trivial, Ext.refl _ _ _⟩
        have hkv : ∀ i, a.tmps.toList.getD i undef = a.tmps.getD i undef := fun i => by rw [List.getD_eq_getElem?_getD, Array.getD_eq_getD_getElem?, Array.getElem?_toList]
        have hfz : freezeT { E with keep := restN (dstsO ops.toList) 0 (lenN st.slots) } st (frzOf E.frz (some (1000000 + id))) = st := by rw [X.frz]; rfl
        have hdr := drawOk (out := l) hE' g st.bs w a.tmps.toList id ops st _ a w Q ⟨⟨g, hb1⟩, fun i _ => (hkv i).symm⟩ (by rw [hfz]; exact he) (fun s a' w' h1 hda h2 => by
          obtain ⟨⟨g', hr'⟩, hk'⟩ := h1
          obtain ⟨hid, h2⟩ := bif_some h2
          obtain ⟨hid, hls⟩ := and3 hid
          refine hg.normal l _ a' w' ?_ h2
          have hkeep : ∀ i, i < st.slots.length → memN (dstsO ops.toList) i = false → a'.tmps.getD i undef = a.tmps.getD i undef := fun i hi hw =>
            (hk' i ((mem_restN _ _ _ _).2 ⟨Nat.zero_le _, by rw [Nat.zero_add, lenN_eq]; exact hi, hw⟩)).trans (hkv i)
          have hsz : st.slots.length ≤ a'.tmps.size := by
            have h1 := Nat.le_of_ble_eq_true hls
            rw [lenN_eq, lenN_eq] at h1
            exact Nat.le_trans h1 hr'.size
          refine relY_step X.own X.ownx hr0 hn hp hc hfl hi hr' hid (hda.trans hd) rfl (by rw [length_demL]; exact hsz) (fun i => ?_) (fun y hy' => ?_)
          · show (flatA (getS (demL (dstsO ops.toList) s.slots 0 st.slots) i) = true ∧ _) ∨ _
            rcases getS_demL (dstsO ops.toList) s.slots st.slots 0 i with ⟨h1, h2, h3⟩ | ⟨h1, h2⟩ | h3
            · rw [h3, Nat.zero_add]; exact .inl (flat_dem _)
            · rw [Nat.zero_add] at h1
              by_cases hi : i < st.slots.length
              · exact .inr ⟨h2, hkeep i hi h1⟩
              · rw [h2, getS_ge _ _ (Nat.le_of_not_lt hi)]; exact .inl ⟨rfl, .inr rfl⟩
            · rw [getS_ge _ _ (by rw [length_demL]; exact h3)]; exact .inl ⟨rfl, .inr rfl⟩
          · rw [List.mem_singleton.1 hy']
            have hlt : 0 < st.slots.length := by rw [← lenN_eq]; exact Nat.le_of_ble_eq_true hlt0
            rw [hkeep 0 hlt (by simpa using hm0)]
            exact hy 0 (List.mem_singleton.2 rfl))
        exact wp_region_any hdr.1 hdr.2
    | false =>
      simp only [cond_false] at he
      obtain ⟨lp, n', n0, O0, h1, h2, h3, h4⟩ := X.yld
      exact (wpIn_wide (n := n' + 1)).1 (wpIn_region_list (opsY_sound X.env X.keep X.own X.ownx h1 h2 h3 h4 hq hg.normal ops.toList [0] st l a w hr he))
  | .seq x y, n, K, Q, l, st, a, w, hp, hq, hg, hr, he => by
    refine wp_seq ?_
    exact evCodeY_sound X x (n + 1) _ _ l st a w hp.1 (letsOut_then hq) (goodY_seq hg fun l' st' a' w' hr' hn => evCodeY_sound X y _ K Q l' st' a' w' hp.2 hq hg hr' hn) hr he
  | .cond c x y, n, K, Q, l, st, a, w, hp, hq, hg, hr, he => by
    simp only [evCodeY] at he
    cases c with
    | tmp z =>
      simp only at he
      split at he
      · rename_i b hb
        have hv : a.eval (.tmp z) = .bool b := by
          obtain ⟨g, hr0, _⟩ := (show RlY E.ET t J Jx bl Y okN l [0] st a w from hr)
          have := hr0.slots z
          rw [hb] at this
          exact rel_bool (E := E) this
        refine wp_cond (t := b) hv ?_
        cases b with
        | true => exact evCodeY_sound X x n K Q l st a w hp.1 hq hg hr he
        | false => exact evCodeY_sound X y _ K Q l st a w hp.2 hq hg hr he
      · cases he
    | const v =>
      cases v with
      | bool b =>
        refine wp_cond (t := b) rfl ?_
        cases b with
        | true => exact evCodeY_sound X x n K Q l st a w hp.1 hq hg hr he
        | false => exact evCodeY_sound X y _ K Q l st a w hp.2 hq hg hr he
      | _ => cases he
    | _ => cases he
  | .block i b, n, K, Q, l, st, a, w, hp, hq, hg, hr, he => wp_block (evCodeY_sound X b n _ _ l st a w hp (letsOut_block hq) (goodY_block hg) hr he)
  | .loop b, n, K, Q, l, st, a, w, hp, hq, hg, hr, he => wp_loop_rounds lv (hp.1 l st a w he hr)
  | .exit i, n, K, Q, l, st, a, w, _, _, hg, hr, he => wp_exit (hg.exits _ _ _ _ _ hr he)
  | .ret, n, K, Q, l, st, a, w, _, _, hg, hr, he => wp_ret (hg.ret _ _ _ _ hr he)
  | .rangeFunc _ _ _ _, _, _, _, _, _, _, _, _, _, _, _, he => by simp [evCodeY] at he
  | .scope _, _, _, _, _, _, _, _, _, _, _, _, he => by simp [evCodeY] at he
  | .label _, n, K, Q, l, st, a, w, _, _, hg, hr, he => wp_label (hg.normal _ _ _ _ hr he)
  | .goto _, _, _, _, _, _, _, _, _, _, _, _, he => by simp [evCodeY] at he
  | .refuse _, _, _, _, _, _, _, _, _, _, _, _, he => by simp [evCodeY] at he
theorem step_ptsY (X : CtxY P E t J Jx bl Y okN) (T' : Nat → St → Option (List t.den)) (root : Nat → St → Option (List t.den))
    (heq : ∀ j st l, T' j st = some l → ∃ st', root j st' = some l ∧ ∀ a w, RlY E.ET t J Jx bl Y okN l [0] st a w → RlY E.ET t J Jx bl Y okN l [0] st' a w) :
    ∀ (c : Code) (n : Nat) (K K' : Kont (List t.den)) (Q Q' : Post), (∀ j, n ≤ j → j < n + cnt c → ∀ st, root j st = evAtY E t T j c n K st) →
      AllY P E t T lv (HoldsY E t J Jx bl Y okN T) c n K Q → ¬ LetsOut Q → GoodY E t J Jx bl Y okN K Q → (∀ e a w, Q e a w → Q' e a w) →
      AllY P E t T' (lv + 1) (HoldsY E t J Jx bl Y okN T') c n K' Q'
  | .seq x y, n, K, K', Q, Q', hroot, hp, hq, hg, hm => by
    obtain ⟨h1, h2⟩ := hp
    have hg' := goodY_seq (W := y.wp P Q) hg fun l' st' a' w' hr' hn => evCodeY_sound X y _ K Q l' st' a' w' h2 hq hg hr' hn
    refine ⟨step_ptsY X T' root heq x (n + 1) _ _ _ _ (fun j hj1 hj2 st => ?_) h1 (letsOut_then hq) hg' (then_mono (fun a w h => wp_mono h hm) hm), step_ptsY X T' root heq y (n + 1 + cnt x) K K' Q Q' (fun j hj1 hj2 st => ?_) h2 hq hg hm⟩
    · rw [hroot j (by omega) (by simp only [cnt]; omega) st]
      simp only [evAtY, ble_no (show j < n + 1 + cnt x by omega), cond_false]
    · rw [hroot j (by omega) (by simp only [cnt]; omega) st]
      simp only [evAtY, Nat.ble_eq_true_of_le hj1, cond_true]
  | .loop b, n, K, K', Q, Q', hroot, hp, hq, hg, hm => by
    obtain ⟨h1, h2⟩ := hp
    have hg' := goodY_seq (W := Code.rounds P b Q lv) hg fun l' st' a' w' hr' hn => h1 l' st' a' w' hn hr'
    refine ⟨fun l st a w ht hr => ?_, step_ptsY X T' root heq b (n + 1) _ _ _ _ (fun j hj1 hj2 st => ?_) h2 (letsOut_then hq) hg' (then_mono (fun a w h => rounds_mono hm _ _ (Nat.le_succ _) a w h) hm)⟩
    · obtain ⟨st', he, hr'⟩ := heq n st l ht
      rw [hroot n (Nat.le_refl _) (by simp only [cnt]; omega) st'] at he
      simp only [evAtY, show Nat.beq n n = true from Nat.beq_refl n, cond_true] at he
      exact rounds_mono hm (lv + 1) (lv + 1) (Nat.le_refl _) a w (evCodeY_sound X b _ _ _ l st' a w h2 (letsOut_then hq) hg' (hr' a w hr) he)
    · rw [hroot j (by omega) (by simp only [cnt]; omega) st]
      simp only [evAtY, beq_no (show n ≠ j by omega), cond_false]
  | .cond c x y, n, K, K', Q, Q', hroot, hp, hq, hg, hm => by
    refine ⟨step_ptsY X T' root heq x n K K' Q Q' (fun j hj1 hj2 st => ?_) hp.1 hq hg hm, step_ptsY X T' root heq y _ K K' Q Q' (fun j hj1 hj2 st => ?_) hp.2 hq hg hm⟩
    · rw [hroot j (by omega) (by simp only [cnt]; omega) st]
      simp only [evAtY, ble_no (show j < n + cnt x by omega), cond_false]
    · rw [hroot j (by omega) (by simp only [cnt]; omega) st]
      simp only [evAtY, Nat.ble_eq_true_of_le hj1, cond_true]
  | .block i b, n, K, K', Q, Q', hroot, hp, hq, hg, hm => by
    refine step_ptsY X T' root heq b n _ _ _ _ (fun j hj1 hj2 st => ?_) hp (letsOut_block hq) (goodY_block hg) (block_mono hm)
    rw [hroot j hj1 (by simp only [cnt]; omega) st]
    simp only [evAtY]
  | .skip, _, _, _, _, _, _, _, _, _, _ => trivial
  | .region _ _ _, _, _, _, _, _, _, _, _, _, _ => trivial
  | .exit _, _, _, _, _, _, _, _, _, _, _ => trivial
  | .ret, _, _, _, _, _, _, _, _, _, _ => trivial
  | .rangeFunc _ _ _ _, _, _, _, _, _, _, _, _, _, _ => trivial
  | .scope _, _, _, _, _, _, _, _, _, _, _ => trivial
  | .label _, _, _, _, _, _, _, _, _, _, _ => trivial
  | .goto _, _, _, _, _, _, _, _, _, _, _ => trivial
  | .refuse _, _, _, _, _, _, _, _, _, _, _ => trivial
theorem all_noneY (h : ∀ j st l, T j st ≠ some l) : ∀ (c : Code) (n : Nat) (K : Kont (List t.den)) (Q : Post), AllY P E t T lv (HoldsY E t J Jx bl Y okN T) c n K Q
  | .seq x y, n, K, Q => ⟨all_noneY h x _ _ _, all_noneY h y _ _ _⟩
  | .loop b, n, K, Q => ⟨fun l st a w ht _ => absurd ht (h _ _ _), all_noneY h b _ _ _⟩
  | .cond _ x y, n, K, Q => ⟨all_noneY h x _ _ _, all_noneY h y _ _ _⟩
  | .block _ b, n, K, Q => all_noneY h b _ _ _
  | .skip, _, _, _ => trivial
  | .region _ _ _, _, _, _ => trivial
  | .exit _, _, _, _ => trivial
  | .ret, _, _, _ => trivial
  | .rangeFunc _ _ _ _, _, _, _ => trivial
  | .scope _, _, _, _ => trivial
  | .label _, _, _, _ => trivial
  | .goto _, _, _, _ => trivial
  | .refuse _, _, _, _ => trivial
theorem body_soundY (X : CtxY P E t J Jx bl Y okN) (Tf : Nat → Nat → St → Option (List t.den)) (c : Code) (K : Kont (List t.den)) (Q : Post) (h0 : ∀ j st, Tf 0 j st = none)
    (hs : ∀ k j st l, Tf (k + 1) j st = some l → ∃ st', evAtY E t (Tf k) j c 0 K st' = some l ∧ ∀ a w, RlY E.ET t J Jx bl Y okN l [0] st a w → RlY E.ET t J Jx bl Y okN l [0] st' a w)
    (hq : ¬ LetsOut Q) (hg : GoodY E t J Jx bl Y okN K Q) (k : Nat) (l : List t.den) (st : St) (a : Act) (w : World) (hr : RlY E.ET t J Jx bl Y okN l [0] st a w) (he : evCodeY E t (Tf k) c 0 K st = some l) : c.wp P Q a w := by
  have key : ∀ k, AllY P E t (Tf k) k (HoldsY E t J Jx bl Y okN (Tf k)) c 0 K Q := by
    intro k
    induction k with
    | zero => exact all_noneY (fun j st l => by rw [h0]; simp) c 0 K Q
    | succ k ih => exact step_ptsY X (Tf (k + 1)) (fun j st => evAtY E t (Tf k) j c 0 K st) (hs k) c 0 K K Q Q (fun _ _ _ _ => rfl) ih hq hg (fun _ _ _ h => h)
  exact evCodeY_sound X c 0 K Q l st a w (key k) hq hg hr he
end
end Go.Proofs.YtcnngodgngmghaaGreatDoor.Ev
/- What a function that is ranged over gives, by the evaluator: the contract. -/
namespace Go.Proofs.YtcnngodgngmghaaGreatDoor.Ev
open Go
open Go.RowKit
set_option linter.unusedVariables false
set_option linter.unusedSimpArgs false
set_option linter.unusedSectionVars false
def tabY {R : Type} : Pts R → Nat → St → Option R
  | [], _, _ => none
  | (i, ⟨p, G⟩) :: r, j, st => bif Nat.beq i j then (match p.enc (fun _ => false) st.slots st.bs with | some d => G d | none => none) else tabY r j st
theorem tabY_some {R : Type} {out : R} : ∀ {l : Pts R} {j : Nat} {st : St}, tabY l j st = some out → ∃ x ∈ l, x.1 = j ∧ ∃ d, x.2.1.enc (fun _ => false) st.slots st.bs = some d ∧ x.2.2 d = some out
  | [], _, _, h => by cases h
  | (i, ⟨p, G⟩) :: r, j, st, h => by
    simp only [tabY] at h
    cases hb : Nat.beq i j with
    | true =>
      rw [hb] at h
      simp only [cond_true] at h
      split at h
      · rename_i d hd
        exact ⟨_, List.mem_cons_self .., Nat.eq_of_beq_eq_true hb, d, hd, h⟩
      · cases h
    | false =>
      rw [hb] at h
      obtain ⟨x, hx, h1⟩ := tabY_some (l := r) h
      exact ⟨x, List.mem_cons_of_mem _ hx, h1⟩
def flatLs : List LSh → Bool
  | [] => true
  | .v t :: l => flatT t && flatLs l
  | .top :: l => flatLs l
  | _ :: _ => false
def flatPB : List BSh → Bool
  | [] => true
  | .var _ cs :: l => flatLs cs && flatPB l
  | .row _ _ :: _ => false
theorem flatLs_dec (c : Nat) : ∀ {ls : List LSh} {d : lsDen ls}, flatLs ls = true → flatAs (decL c ls d) = true
  | [], _, _ => rfl
  | .v t :: l, d, h => by
    simp only [flatLs, Bool.and_eq_true] at h
    show (flatT t && flatAs (decL c l d.2)) = true
    rw [h.1, flatLs_dec c h.2]; rfl
  | .top :: l, d, h => flatLs_dec c (ls := l) (d := d) h
  | .ref _ _ :: _, _, h => by cases h
  | .osl _ :: _, _, h => by cases h
  | .fn _ _ :: _, _, h => by cases h
theorem flatPB_dec (c : Nat) : ∀ {l : List BSh} {j : Nat} {d : bsDen l}, flatPB l = true → flatY (decB c j l d) = true
  | [], _, _, _ => rfl
  | .var T cs :: l, j, d, h => by
    simp only [flatPB, Bool.and_eq_true] at h
    show ((Nat.beq 0 0 && flatAs (decL c cs d.1)) && flatY (decB c (j + 1) l d.2)) = true
    rw [flatLs_dec c h.1, flatPB_dec c h.2]; rfl
  | .row _ _ :: _, _, _, h => by cases h
def finY {α : Type} : Kont (List α) := ⟨fun _ => some [], fun _ => some [], []⟩
def capS : (ts : List (TypeId × Ty)) → List Bool → tupDen ts → Nat → List AV
  | [], _, _, _ => []
  | _ :: ts, true :: fs, x, i => .ref (C0 + i) 0 0 :: capS ts fs x.2 (i + 1)
  | t :: ts, false :: fs, x, i => .val (.nptr t.2) (some x.1) :: capS ts fs x.2 i
  | _ :: ts, [], x, i => .top :: capS ts [] x.2 i
def capB : (ts : List (TypeId × Ty)) → List Bool → tupDen ts → Nat → Boxes
  | [], _, _, _ => []
  | t :: ts, true :: fs, x, i => (C0 + i, (0, .var t.1 (expand t.2 x.1))) :: capB ts fs x.2 (i + 1)
  | _ :: ts, false :: fs, x, i => capB ts fs x.2 i
  | _ :: ts, [], x, i => capB ts [] x.2 i
def flatW : List (TypeId × Ty) → List Bool → Bool
  | t :: ts, true :: fs => flatT t.2 && flatW ts fs
  | _ :: ts, false :: fs => flatW ts fs
  | _, _ => true
def startY (ts : List (TypeId × Ty)) (fs : List Bool) (ntmps : Nat) (x : tupDen ts) : St := ⟨.top :: appN (capS ts fs x 0) (undN (ntmps - (ts.length + 1))), capB ts fs x 0⟩
def posN : List Nat → Nat → Nat → Option Nat
  | [], _, _ => none
  | a :: l, k, i => if a = k then some i else posN l k (i + 1)
theorem posN_at : ∀ {l : List Nat} {j i k : Nat}, l.Nodup → l[j]? = some k → posN l k i = some (i + j)
  | [], _, _, _, _, h => by simp at h
  | a :: l, 0, i, k, _, h => by
    simp only [List.getElem?_cons_zero, Option.some.injEq] at h
    simp [posN, h]
  | a :: l, j + 1, i, k, hn, h => by
    obtain ⟨n1, n2⟩ := List.nodup_cons.1 hn
    simp only [List.getElem?_cons_succ] at h
    have hne : a ≠ k := fun e => n1 (e ▸ List.mem_of_getElem? h)
    simp only [posN, if_neg hne]
    rw [posN_at n2 h]; congr 1; omega
theorem posN_out : ∀ {l : List Nat} {i k : Nat}, k ∉ l → posN l k i = none
  | [], _, _, _ => rfl
  | a :: l, i, k, h => by
    simp only [List.mem_cons, not_or] at h
    simp only [posN, if_neg (Ne.symm h.1)]
    exact posN_out h.2
section
variable {P : Program} {E : Env} {ET : TypeId} {g g' gI : Gh} {w w' W : World} {st : St} {bs bs' BS : Boxes} {a : Act}
theorem flat_expand : ∀ {t : Ty} {x : t.den}, flatT t = true → flatAs (expand t x) = true := by
  have app : ∀ {l m : List AV}, flatAs l = true → flatAs m = true → flatAs (l ++ m) = true := by
    intro l
    induction l with
    | nil => intro m _ h; exact h
    | cons a l ih =>
      intro m h1 h2
      simp only [flatAs, Bool.and_eq_true] at h1
      simp only [List.cons_append, flatAs, h1.1, ih h1.2 h2, Bool.and_self]
  intro t
  induction t with
  | pair a b iha ihb =>
    intro x h
    simp only [flatT, Bool.and_eq_true] at h
    exact app (iha h.1) (ihb h.2)
  | unit => intro x h; rfl
  | sl t ih => intro x h; cases h
  | nptr t ih => intro x h; cases h
  | int k => intro x h; rfl
  | bool => intro x h; rfl
  | str => intro x h; rfl
  | err => intro x h; rfl
theorem flat_capB : ∀ {ts : List (TypeId × Ty)} {fs : List Bool} {x : tupDen ts} {i : Nat}, flatW ts fs = true → flatY (capB ts fs x i) = true
  | [], _, _, _, _ => rfl
  | t :: ts, true :: fs, x, i, h => by
    simp only [flatW, Bool.and_eq_true] at h
    show ((Nat.beq 0 0 && flatAs (expand t.2 x.1)) && flatY (capB ts fs x.2 (i + 1))) = true
    rw [flat_expand h.1, flat_capB h.2]; rfl
  | _ :: ts, false :: fs, x, i, h => flat_capB (ts := ts) (fs := fs) (x := x.2) (i := i) h
  | _ :: ts, [], x, i, h => by
    have : flatW ts [] = true := by cases ts <;> rfl
    exact flat_capB (ts := ts) (fs := []) (x := x.2) (i := i) this
theorem capS_rel : ∀ {ts : List (TypeId × Ty)} {fs : List Bool} {x : tupDen ts} {bl : List Nat} {vs : List Value} {i : Nat}, CapR ET (okB gI W) W ts x bl vs → (∀ b ∈ selW fs false bl, okB gI W b) →
    (∀ j blk, (selW fs true bl)[j]? = some blk → gI.hd (C0 + (i + j)) = .pointer (some ⟨blk, 0, none⟩) ∧ 0 < nextVer BS (C0 + (i + j))) → All2 (VRel ET gI BS W) (capS ts fs x i) vs
  | [], _, _, [], [], _, _, _, _ => trivial
  | [], _, _, _ :: _, _, _, h, _, _ => h.elim
  | [], _, _, [], _ :: _, _, h, _, _ => h.elim
  | _ :: _, _, _, [], _, _, h, _, _ => h.elim
  | _ :: _, _, _, _ :: _, [], _, h, _, _ => h.elim
  | t :: ts, true :: fs, x, b :: bl, v :: vs, i, ⟨⟨e, arr, h1, h2⟩, h3⟩, hr, hw => by
    have e1 : selW (true :: fs) true (b :: bl) = b :: selW fs true bl := by simp [selW]
    have e2 : selW (true :: fs) false (b :: bl) = selW fs false bl := by simp [selW]
    rw [e1] at hw
    rw [e2] at hr
    obtain ⟨k1, k2⟩ := hw 0 b rfl
    refine ⟨⟨by rw [Nat.add_zero] at k2; exact k2, by rw [e]; rfl, fun T cells _ => ⟨b, k1, e⟩⟩, capS_rel h3 hr fun j blk hj => ?_⟩
    have := hw (j + 1) blk hj
    rw [show i + (j + 1) = i + 1 + j by omega] at this; exact this
  | t :: ts, false :: fs, x, b :: bl, v :: vs, i, ⟨⟨e, arr, h1, h2⟩, h3⟩, hr, hw => by
    have e1 : selW (false :: fs) true (b :: bl) = selW fs true bl := by simp [selW]
    have e2 : selW (false :: fs) false (b :: bl) = b :: selW fs false bl := by simp [selW]
    rw [e1] at hw
    rw [e2] at hr
    exact ⟨⟨b, 0, arr.toList, by rw [e], hr b (List.mem_cons_self ..), h2, lies_of_row h1⟩, capS_rel h3 (fun b' hb => hr b' (List.mem_cons_of_mem _ hb)) hw⟩
  | t :: ts, [], x, b :: bl, v :: vs, i, ⟨_, h3⟩, hr, hw => by
    have e1 : ∀ v, selW [] v (b :: bl) = [] := fun v => by simp [selW]
    have e2 : ∀ v, selW [] v bl = [] := fun v => by simp [selW]
    exact ⟨trivial, capS_rel (fs := []) h3 (fun b' hb => by rw [e2] at hb; cases hb) (fun j blk hj => by rw [e2] at hj; simp at hj)⟩
theorem capB_rel : ∀ {ts : List (TypeId × Ty)} {fs : List Bool} {x : tupDen ts} {bl : List Nat} {vs : List Value} {i : Nat}, CapR E.ET (okB gI W) W ts x bl vs →
    (∀ b ver c, look (capB ts fs x i) b = some (ver, c) → ∃ j blk T cells arr, b = C0 + (i + j) ∧ (selW fs true bl)[j]? = some blk ∧ ver = 0 ∧ c = .var T cells ∧ W.heap[blk]? = some (.cells arr T (0, 0)) ∧ All2 (LRel E.ET gI BS W) cells arr.toList) ∧
    (∀ j blk, (selW fs true bl)[j]? = some blk → 0 < nextVer (capB ts fs x i) (C0 + (i + j)))
  | [], fs, _, [], [], _, _ => ⟨fun b ver c h => (by cases h), fun j blk h => (by cases fs <;> simp [selW] at h)⟩
  | [], _, _, _ :: _, _, _, h => h.elim
  | [], _, _, [], _ :: _, _, h => h.elim
  | _ :: _, _, _, [], _, _, h => h.elim
  | _ :: _, _, _, _ :: _, [], _, h => h.elim
  | t :: ts, true :: fs, x, b :: bl, v :: vs, i, ⟨⟨e, arr, h1, h2⟩, h3⟩ => by
    have e1 : selW (true :: fs) true (b :: bl) = b :: selW fs true bl := by simp [selW]
    rw [e1]
    obtain ⟨r1, r2⟩ := capB_rel (fs := fs) (i := i + 1) h3
    refine ⟨fun b' ver c hl => ?_, fun j blk hj => ?_⟩
    · by_cases eb : C0 + i = b'
      · subst eb
        rw [show capB (t :: ts) (true :: fs) x i = (C0 + i, (0, .var t.1 (expand t.2 x.1))) :: capB ts fs x.2 (i + 1) from rfl, look_cons_eq] at hl
        simp only [Option.some.injEq, Prod.mk.injEq] at hl
        obtain ⟨rfl, rfl⟩ := hl
        exact ⟨0, b, t.1, _, arr, rfl, rfl, rfl, rfl, h1, expand_rel h2⟩
      · rw [show capB (t :: ts) (true :: fs) x i = (C0 + i, (0, .var t.1 (expand t.2 x.1))) :: capB ts fs x.2 (i + 1) from rfl, look_cons_ne _ _ eb] at hl
        obtain ⟨j, blk, T, cells, arr', q1, q2, q3⟩ := r1 b' ver c hl
        exact ⟨j + 1, blk, T, cells, arr', by omega, q2, q3⟩
    · cases j with
      | zero =>
        rw [Nat.add_zero]
        simp only [nextVer, show capB (t :: ts) (true :: fs) x i = (C0 + i, (0, .var t.1 (expand t.2 x.1))) :: capB ts fs x.2 (i + 1) from rfl, look_cons_eq]
        omega
      | succ j =>
        have := r2 j blk hj
        rw [show i + 1 + j = i + (j + 1) by omega] at this
        simp only [nextVer, show capB (t :: ts) (true :: fs) x i = (C0 + i, (0, .var t.1 (expand t.2 x.1))) :: capB ts fs x.2 (i + 1) from rfl, look_cons_ne _ _ (show C0 + i ≠ C0 + (i + (j + 1)) by omega)] at this ⊢
        exact this
  | t :: ts, false :: fs, x, b :: bl, v :: vs, i, ⟨_, h3⟩ => by
    have e1 : selW (false :: fs) true (b :: bl) = selW fs true bl := by simp [selW]
    rw [e1]
    exact capB_rel (fs := fs) (i := i) h3
  | t :: ts, [], x, b :: bl, v :: vs, i, ⟨_, h3⟩ => by
    have e1 : selW [] true (b :: bl) = selW [] true bl := by simp [selW]
    rw [e1]
    exact capB_rel (ts := ts) (x := x.2) (bl := bl) (vs := vs) (fs := []) (i := i) h3
theorem selW_nodup {v : Bool} : ∀ {fs : List Bool} {bl : List Nat}, bl.Nodup → (selW fs v bl).Nodup
  | [], _, _ => by simp [selW]
  | f :: fs, [], _ => by simp [selW]
  | f :: fs, c :: bl, hn => by
    obtain ⟨n1, n2⟩ := List.nodup_cons.1 hn
    simp only [selW]
    split
    · exact List.nodup_cons.2 ⟨fun h => n1 (selW_sub h), selW_nodup n2⟩
    · exact selW_nodup n2
theorem capR_len : ∀ {ok : Nat → Prop} {ts : List (TypeId × Ty)} {x : tupDen ts} {bl : List Nat} {vs : List Value}, CapR ET ok w ts x bl vs → vs.length = ts.length
  | _, [], _, [], [], _ => rfl
  | _, t :: ts, x, b :: bl, v :: vl, ⟨_, h3⟩ => by simp [capR_len h3]
  | _, [], _, _ :: _, _, hh => hh.elim
  | _, [], _, [], _ :: _, hh => hh.elim
  | _, _ :: _, _, [], _, hh => hh.elim
  | _, _ :: _, _, _ :: _, [], hh => hh.elim
theorem capS_len : ∀ {ts : List (TypeId × Ty)} {fs : List Bool} {x : tupDen ts} {i : Nat}, (capS ts fs x i).length = ts.length
  | [], _, _, _ => rfl
  | _ :: ts, true :: fs, x, i => by simp [capS, capS_len (ts := ts)]
  | _ :: ts, false :: fs, x, i => by simp [capS, capS_len (ts := ts)]
  | _ :: ts, [], x, i => by simp [capS, capS_len (ts := ts)]
theorem capR_move {ok ok' : Nat → Prop} (h : ∀ b, ok b → ok' b ∧ w'.heap[b]? = w.heap[b]?) : ∀ {ts : List (TypeId × Ty)} {x : tupDen ts} {bl : List Nat} {vs : List Value}, (∀ b ∈ bl, w'.heap[b]? = w.heap[b]?) → CapR ET ok w ts x bl vs → CapR ET ok' w' ts x bl vs
  | [], _, [], [], _, _ => trivial
  | t :: ts, x, b :: bl, v :: vl, hb, ⟨⟨e, arr, h1, h2⟩, h3⟩ => ⟨⟨e, arr, (hb b (List.mem_cons_self ..)).trans h1, Rep.mono h h2⟩, capR_move h (fun b' hb' => hb b' (List.mem_cons_of_mem _ hb')) h3⟩
  | [], _, _ :: _, _, _, hh => hh.elim
  | [], _, [], _ :: _, _, hh => hh.elim
  | _ :: _, _, [], _, _, hh => hh.elim
  | _ :: _, _, _ :: _, [], _, hh => hh.elim
theorem seq_of_body (hE : EnvOk P E) (hkeep : E.keep = []) (hfrz : E.frz = []) {gf : FuncId} {fn : Func} {c : Code} {q : SeqSem} (hf : P.funcs[gf]? = some fn) (hname : (fn.name == "runtime.NumGoroutine") = false) (hb : fn.body = some c)
    (hres : fn.results = #[]) (hflat : flatW q.ts q.wr = true) (L : Nat → Pts (List q.t.den)) (h0 : ∀ x ∈ L 0, ∀ d, x.2.2 d = none) (hfl : ∀ k, ∀ x ∈ L k, flatPB x.2.1.boxes = true)
    (hL : ∀ k, ∀ x ∈ L (k + 1), ∀ d out, x.2.2 d = some out → evAtY E q.t (tabY (L k)) x.1 c 0 finY (ptSt x.2.1 d) = some out)
    (hF : ∀ x l, q.F x = some l → ∃ k, evCodeY E q.t (tabY (L k)) c 0 finY (startY q.ts q.wr fn.ntmps x) = some l) : SeqOk P E.ET gf q := by
  refine ⟨⟨fn, hf, hname, by rw [hb]; rfl⟩, fun x l hx g w bl lb hG hcap hnd hW hR => ?_⟩
  intro lp n J Jx W hsz hsame hJ hJx hy hj
  obtain ⟨k, hk⟩ := hF x l hx
  refine callsIn_wide.2 (calls_of_wp hf hb ?_)
  have hcells := capR_cells hcap
  have hblt : ∀ b ∈ bl, b < w.heap.size := fun b hb => by
    obtain ⟨arr, T, h⟩ := hcells b hb
    exact (Array.getElem?_eq_some_iff.1 h).1
  have hnw := selW_nodup (v := true) (fs := q.wr) hnd
  let gI : Gh := ⟨fun k => match posN (selW q.wr true bl) k 0 with
    | some i => some (C0 + i)
    | none => if k < w.heap.size ∧ g.O k = none then none else some 0, fun b => match (selW q.wr true bl)[b - C0]? with
    | some blk => .pointer (some ⟨blk, 0, none⟩)
    | none => undef⟩
  have gin : ∀ j blk, (selW q.wr true bl)[j]? = some blk → gI.O blk = some (C0 + j) ∧ gI.hd (C0 + j) = .pointer (some ⟨blk, 0, none⟩) := by
    intro j blk h
    constructor
    · show (match posN (selW q.wr true bl) blk 0 with | some i => some (C0 + i) | none => _) = _
      rw [posN_at hnw h, Nat.zero_add]
    · show (match (selW q.wr true bl)[C0 + j - C0]? with | some blk => _ | none => _) = _
      rw [Nat.add_sub_cancel_left, h]
  have gout : ∀ b, b ∉ selW q.wr true bl → gI.O b = if b < w.heap.size ∧ g.O b = none then none else some 0 := by
    intro b hb
    show (match posN (selW q.wr true bl) b 0 with | some i => some (C0 + i) | none => _) = _
    rw [posN_out hb]
  have gmem : ∀ b, b ∈ selW q.wr true bl → gI.O b ≠ none := by
    intro b hb
    obtain ⟨j, hj⟩ := List.getElem?_of_mem hb
    rw [(gin j b hj).1]; simp
  have hok : ∀ b, okB g w b → okB gI W b ∧ W.heap[b]? = w.heap[b]? := by
    intro b ⟨h1, h2, h3⟩
    have hn : b ∉ selW q.wr true bl := fun h => by rw [hW b h] at h1; cases h1
    exact ⟨⟨by rw [gout b hn, if_pos ⟨h2, h1⟩], Nat.lt_of_lt_of_le h2 hsz, by rw [hsame b h2]; exact h3⟩, hsame b h2⟩
  have hGI : Glb gI W := ⟨fun b hb => (hok b (hG.ours b hb)).1, hG.tab.keep fun b hb => (hok b (hG.ours b hb)).2⟩
  have hcapW : CapR E.ET (okB gI W) W q.ts x bl lb := capR_move hok (fun b hb => hsame b (hblt b hb)) hcap
  obtain ⟨b1, b2⟩ := capB_rel (E := E) (fs := q.wr) (i := 0) (BS := capB q.ts q.wr x 0) hcapW
  have hro : ∀ b ∈ selW q.wr false bl, okB gI W b := by
    intro b hb
    have hbb := selW_sub hb
    obtain ⟨arr, T, h⟩ := hcells b hbb
    exact (hok b ⟨hR b hb, hblt b hbb, fun o ho => by rw [h] at ho; cases ho; rfl⟩).1
  have hS := capS_rel (ET := E.ET) (BS := capB q.ts q.wr x 0) (i := 0) hcapW hro (fun j blk hj => ⟨by rw [Nat.zero_add]; exact (gin j blk hj).2, b2 j blk hj⟩)
  have hlen := capR_len hcap
  let Y : Value := .func (.yield lp) #[] #[]
  let okN : Nat → Prop := fun b => b < w.heap.size ∧ g.O b = none
  have X : CtxY P E q.t J Jx (selW q.wr true bl) Y okN := by
    refine ⟨hE, hkeep, hfrz, fun s A B T h1 h2 h3 => hJ s A B T h1 h2 (fun r hr => .inl (h3 r hr)), fun A B T h1 h2 h3 => hJx A B T h1 h2 (fun r hr => .inl (h3 r hr)), lp, n, w.heap.size, (fun b => g.O b = none ∨ g.O b = some 0), rfl, fun k h => ⟨h.1, .inl h.2⟩, fun k h => ⟨hblt k (selW_sub h), .inr (hW k h)⟩, hy⟩
  have hrl : RlY E.ET q.t J Jx (selW q.wr true bl) Y okN l [0] (startY q.ts q.wr fn.ntmps x) { tmps := (#[Y] ++ lb.toArray) ++ Array.replicate (fn.ntmps - (#[Y] ++ lb.toArray).size) undef, defers := [] } W := by
    have hcap0 : ∀ b ver c, look (capB q.ts q.wr x 0) b = some (ver, c) → ∃ blk ∈ selW q.wr true bl, ver = 0 ∧ gI.hd b = .pointer (some ⟨blk, 0, none⟩) ∧ gI.O blk = some b ∧ ∃ T cells arr, c = .var T cells ∧ W.heap[blk]? = some (.cells arr T (0, 0)) ∧ All2 (LRel E.ET gI (capB q.ts q.wr x 0) W) cells arr.toList := by
      intro b ver c hl
      obtain ⟨j, blk, T, cells, arr, e1, e2, e3, e4, e5, e6⟩ := b1 b ver c hl
      rw [Nat.zero_add] at e1
      subst e1
      exact ⟨blk, List.mem_of_getElem? e2, e3, (gin j blk e2).2, (gin j blk e2).1, T, cells, arr, e4, e5, e6⟩
    refine ⟨gI, ⟨hGI, ?_, fun i => ?_, fun b ver c hl => ?_, trivial, Fr.refl _ _, fun b => Nat.zero_le _, fun b ver T cells hv => absurd hv (Nat.not_lt_zero _), fun b ver T t xs hv => absurd hv (Nat.not_lt_zero _)⟩, rfl, fun k hk => ?_, fun k hk hn => ?_, fun b T cells hl => ?_, flat_capB hflat, fun y hy => ?_, .inl hj⟩
    · simp only [startY, appN_eq, List.length_cons, List.length_append, length_undN, capS_len, Array.size_append, List.size_toArray, Array.size_replicate, hlen, List.length_nil]
      omega
    · cases i with
      | zero => trivial
      | succ i =>
        show VRel E.ET gI _ W (getS (appN (capS q.ts q.wr x 0) (undN _)) i) _
        rw [appN_eq]
        have et : ((#[Y] ++ lb.toArray) ++ Array.replicate (fn.ntmps - (#[Y] ++ lb.toArray).size) undef).getD (i + 1) undef = if i < lb.length then lb.getD i undef else undef := by
          rw [Array.getD_eq_getD_getElem?, List.getD_eq_getElem?_getD]
          by_cases hi : i < lb.length
          · rw [if_pos hi, Array.getElem?_append_left (by simp; omega), Array.getElem?_append_right (by simp)]
            simp
          · rw [if_neg hi, Array.getElem?_append_right (by simp; omega), Array.getElem?_replicate]
            split <;> rfl
        rw [et]
        by_cases hi : i < lb.length
        · rw [if_pos hi, getS_append_lt (by rw [capS_len, ← hlen]; exact hi)]
          exact get_of_all2 (E := E) hS i
        · rw [if_neg hi, getS_append_ge (by rw [capS_len, ← hlen]; omega)]
          rcases getS_undN (fn.ntmps - (q.ts.length + 1)) (i - (capS q.ts q.wr x 0).length) with h | h <;> rw [h]
          · exact (rfl : undef = undef)
          · trivial
    · obtain ⟨blk, k1, k2, k3, k4, T, cells, arr, k5, k6, k7⟩ := hcap0 b ver c hl
      subst k5
      exact ⟨blk, arr, k3, k4, k6, k7⟩
    · by_cases hm : k ∈ selW q.wr true bl
      · exact absurd hk (gmem k hm)
      · rw [gout k hm] at hk
        split at hk
        · rename_i h; exact ⟨h, hm⟩
        · cases hk
    · rw [gout k hn]
      split
      · exact .inl rfl
      · exact .inr rfl
    · obtain ⟨blk, k1, k2, k3, _⟩ := hcap0 b 0 _ hl
      exact ⟨blk, k1, k3⟩
    · rw [List.mem_singleton.1 hy, Array.getD_eq_getD_getElem?, Array.getElem?_append_left (by simp), Array.getElem?_append_left (by simp)]
      rfl
  refine body_soundY X (fun k => tabY (L k)) c finY _ ?_ ?_ ?_ ?_ k l _ _ W hrl hk
  · intro j st
    show tabY (L 0) j st = none
    cases ht : tabY (L 0) j st with
    | none => rfl
    | some y =>
      obtain ⟨x, hx, _, d', _, h2⟩ := tabY_some ht
      rw [h0 x hx d'] at h2; cases h2
  · intro k j st l' ht
    obtain ⟨x, hx, rfl, d', h1, h2⟩ := tabY_some ht
    refine ⟨ptSt x.2.1 d', hL k x hx d' l' h2, fun a w' ⟨g1, hr1, hd, hn, hp, hc, hfl1, hy1, hi⟩ => ?_⟩
    obtain ⟨⟨k1, k2⟩, k3, k4⟩ := canon (c := C0) h1 hr1.boxes (fun i => a.tmps.getD i undef) hr1.slots
    refine ⟨_, ⟨hr1.glb.keep k4, Nat.le_trans k1 hr1.size, k2, k3, by rw [hd]; trivial, Fr.refl _ _, fun b => Nat.zero_le _, fun b ver T cells hv => absurd hv (Nat.not_lt_zero _), fun b ver T t xs hv => absurd hv (Nat.not_lt_zero _)⟩, hd, fun k hk => ?_, fun k hk hnm => ?_, fun b T cells hl => ?_, flatPB_dec C0 (hfl (k + 1) x hx), hy1, hi⟩
    · refine hn k ?_
      simp only [canonG] at hk
      split at hk
      · assumption
      · split at hk
        · cases hk
        · simp at hk
    · rcases hp k hk hnm with h | h
      · exact .inl (k4.ro k h hk).1
      · exact .inr (k4.fo k h hk).1
    · obtain ⟨blk, arr, q1, q2, q3, q4⟩ := k3 b 0 _ hl
      refine ⟨blk, ?_, q1⟩
      have hlt : blk < w'.heap.size := (Array.getElem?_eq_some_iff.1 q3).1
      have hb0 : b ≠ 0 := fun e => by
        subst e
        have := look_decB_ge C0 (l := x.2.1.boxes) (j := 0) (i := 0) (d := d'.1) (by simp [C0])
        rw [show look (ptSt x.2.1 d').bs 0 = look (decB C0 0 x.2.1.boxes d'.1) 0 from rfl, this] at hl
        cases hl
      refine Decidable.byContradiction fun hnm => ?_
      rcases hp blk hlt hnm with h | h
      · have := (k4.ro blk h hlt).1
        rw [q2] at this; cases this
      · have := (k4.fo blk h hlt).1
        rw [q2] at this
        simp only [Option.some.injEq] at this
        exact hb0 this
  · rintro ⟨_, _, ⟨⟨v, h⟩, _⟩⟩
    cases h
  · have fin : ∀ (l' : List q.t.den) (st : St) (a : Act) (w' : World), RlY E.ET q.t J Jx (selW q.wr true bl) Y okN l' [0] st a w' → some ([] : List q.t.den) = some l' →
        a.defers = [] ∧ ∃ v, (results fn a.tmps).run P w' = .ok v w' ∧ (∃ v', Ending.returned v = .returned v') ∧ (J [] w' ∨ Jx w') := by
      intro l' st a w' ⟨g1, hr1, hd, hn, hp, hc, hfl1, hy1, hi⟩ he
      simp only [Option.some.injEq] at he
      subst he
      refine ⟨hd, _, results_none hres _ _ _, ⟨_, rfl⟩, ?_⟩
      rcases hi with h | ⟨_, h⟩
      · exact .inl h
      · exact .inr h
    exact ⟨fun l' st a w' h1 h2 => fin l' st a w' h1 h2, fun l' st a w' h1 h2 => fin l' st a w' h1 h2, fun i l' st a w' h1 h2 => by cases h2⟩
end
end Go.Proofs.YtcnngodgngmghaaGreatDoor.Ev
