/- A call that writes into its arguments' variables: those variables come back to the boxes that they came from. -/
import Derived.Test.YtfdppbfefplikaaEv17
namespace Go.Proofs.Ytfdppbfefplikaa.Ev
open Go
open Go.RowKit
set_option linter.unusedVariables false
set_option linter.unusedSimpArgs false
def inN (c n : Nat) (b : Nat) : Bool := Nat.ble c b && Nat.blt b (c + n)
def inNs (c n : Nat) : List Nat → Bool
  | [] => true
  | b :: l => inN c n b && inNs c n l
/-- It leads to the call's own boxes alone. -/
def newA (c n : Nat) : AV → Bool
  | .ref b _ _ => inN c n b
  | .osl b _ => inN c n b
  | .oel b _ _ _ => inN c n b
  | .fn _ caps => inNs c n (mentR caps)
  | _ => true
def newAs (c n : Nat) : List AV → Bool
  | [] => true
  | x :: l => newA c n x && newAs c n l
def newC (c n : Nat) : AV → Bool
  | .agg l => newAs c n l
  | x => newA c n x
def newCs (c n : Nat) : List AV → Bool
  | [] => true
  | x :: l => newC c n x && newCs c n l
def newV (c n : Nat) : AV → Bool
  | .tup l => newCs c n l
  | x => newC c n x
/-- An argument's variable. -/
def argA (args : List AV) (i : Nat) (j : Option Nat) : AV :=
  match j, getS args i with
  | none, x => x
  | some j, .fn _ caps => getS caps j
  | _, _ => .top
/-- One variable goes back. -/
def ioOne (bs : Boxes) (c n k : Nat) (x : AV) (bs1 : Boxes) : Option Boxes :=
  match x with
  | .ref b v 0 => match look bs1 (c + k) with
    | some (0, .var T cells) => match look bs1 b with
      | some (v', .dead) => match getBox bs b v with
        | .var T0 _ => bif Nat.beq v' v && (Nat.beq T T0 && (newAs c n cells && Nat.blt k n)) then some ((b, (v, .var T cells)) :: (c + k, (0, .dead)) :: bs1) else none
        | _ => none
      | _ => none
    | _ => none
  | .osl b v => match look bs1 (c + k) with
    | some (0, .row T t xs) => match look bs1 b with
      | some (v', .dead) => match getBox bs b v with
        | .row T0 t0 _ => bif Nat.beq v' v && (Nat.beq T T0 && (decide (t = t0) && Nat.blt k n)) then some ((b, (v, .row T t xs)) :: (c + k, (0, .dead)) :: bs1) else none
        | _ => none
      | _ => none
    | _ => none
  | _ => none
def ioAll (bs : Boxes) (c n : Nat) (args : List AV) : List (Nat × Nat × Option Nat) → Boxes → Option Boxes
  | [], bs1 => some bs1
  | (k, i, j) :: l, bs1 => match ioOne bs c n k (argA args i j) bs1 with
    | some bs2 => ioAll bs c n args l bs2
    | none => none
def takeR : Nat → List AV → List AV
  | 0, _ => []
  | n + 1, x :: l => x :: takeR n l
  | _ + 1, [] => []
/-- What lies in the new boxes leads to new boxes alone. -/
def newBs (c n : Nat) : Boxes → Bool
  | [] => true
  | (_, (_, .var _ cells)) :: l => newAs c n cells && newBs c n l
  | _ :: l => newBs c n l
def ioRun (pi po : PSh) (n : Nat) (io : List (Nat × Nat × Option Nat)) (F : pi.den → Option po.den) (dd : Option Nat) (args : List AV) (bs : Boxes) (R : Type) (K : AV → Boxes → Option R) : Option R :=
  bif Nat.beq (lenN args) (lenSl pi.slots) && freshB bs (callBase dd) (lenB po.boxes) then
    match pi.enc (fun b => memN (zOf bs args) b) args bs with
    | some d => (F d).bind fun out =>
      match ioAll bs (callBase dd) (lenB po.boxes) args io (appB (po.decB (callBase dd) out) (killL bs (goneL pi po args bs))) with
      | some bs2 => bif newBs (callBase dd) (lenB po.boxes) (po.decB (callBase dd) out) && newV (callBase dd) (lenB po.boxes) (resAV (takeR n (po.decS (callBase dd) out))) then K (resAV (takeR n (po.decS (callBase dd) out))) bs2 else none
      | none => none
    | none => none
  else none
def ioSem (pi po : PSh) (n : Nat) (io : List (Nat × Nat × Option Nat)) (F : pi.den → Option po.den) : CallSem := ⟨ioRun pi po n io F, none⟩
theorem takeR_eq : ∀ (n : Nat) (l : List AV), takeR n l = l.take n
  | 0, _ => rfl
  | n + 1, [] => rfl
  | n + 1, x :: l => by simp [takeR, takeR_eq n l]
section
variable {P : Program} {E : Env} {R : Type} {out : R} {g g1 g2 : Gh} {w w' : World} {bs bs1 bs2 : Boxes} {c n : Nat}
theorem inN_iff {b : Nat} : inN c n b = true ↔ c ≤ b ∧ b < c + n := by
  unfold inN
  rw [Bool.and_eq_true, Nat.blt_eq]
  constructor
  · rintro ⟨h1, h2⟩; exact ⟨Nat.le_of_ble_eq_true h1, h2⟩
  · rintro ⟨h1, h2⟩; exact ⟨Nat.ble_eq_true_of_le h1, h2⟩
/-- One box is renamed. -/
structure Ren (c n : Nat) (g1 : Gh) (bs1 : Boxes) (g2 : Gh) (bs2 : Boxes) : Prop where
  look : ∀ m, c ≤ m → m < c + n → look bs2 m = look bs1 m ∨ ∃ v x, look bs1 m = some (v, x) ∧ look bs2 m = some (v, .dead)
  hd : ∀ m, c ≤ m → m < c + n → g2.hd m = g1.hd m
  O : ∀ blk, g1.O blk = none → g2.O blk = none
theorem Ren.nv (h : Ren c n g1 bs1 g2 bs2) {m : Nat} (h1 : c ≤ m) (h2 : m < c + n) : nextVer bs2 m = nextVer bs1 m := by
  rcases h.look m h1 h2 with e | ⟨v, x, e1, e2⟩
  · simp only [nextVer, e]
  · simp only [nextVer, e1, e2]
theorem Ren.box (h : Ren c n g1 bs1 g2 bs2) {m v : Nat} (h1 : c ≤ m) (h2 : m < c + n) {x : BoxC} (hx : x ≠ .dead) (hb : getBox bs2 m v = x) : getBox bs1 m v = x := by
  rcases h.look m h1 h2 with e | ⟨v', y, e1, e2⟩
  · simp only [getBox, e] at hb ⊢; exact hb
  · simp only [getBox, e2] at hb
    exfalso
    cases hq : Nat.beq v' v <;> rw [hq] at hb <;> exact hx hb.symm
theorem capR.ren (h : Ren c n g1 bs1 g2 bs2) : ∀ {l : List AV} {vs : List Value}, inNs c n (mentR l) = true → All2 (capR g1 bs1) l vs → All2 (capR g2 bs2) l vs
  | [], [], _, _ => trivial
  | [], _ :: _, _, hh => hh.elim
  | _ :: _, [], _, hh => hh.elim
  | .ref b v off :: l, u :: vs, hn, ⟨⟨h1, h2, h3⟩, hl⟩ => by
    simp only [mentR, inNs, Bool.and_eq_true] at hn
    obtain ⟨a1, a2⟩ := inN_iff.1 hn.1
    refine ⟨⟨by rw [h.nv a1 a2]; exact h1, h2, fun T cells hb => ?_⟩, capR.ren h hn.2 hl⟩
    rw [h.hd b a1 a2]; exact h3 T cells (h.box a1 a2 (by simp) hb)
  | .top :: _, _ :: _, _, ⟨hh, _⟩ => hh.elim
  | .und :: _, _ :: _, _, ⟨hh, _⟩ => hh.elim
  | .nilS :: _, _ :: _, _, ⟨hh, _⟩ => hh.elim
  | .nilP :: _, _ :: _, _, ⟨hh, _⟩ => hh.elim
  | .val _ _ :: _, _ :: _, _, ⟨hh, _⟩ => hh.elim
  | .osl _ _ :: _, _ :: _, _, ⟨hh, _⟩ => hh.elim
  | .imm _ _ _ :: _, _ :: _, _, ⟨hh, _⟩ => hh.elim
  | .oel _ _ _ _ :: _, _ :: _, _, ⟨hh, _⟩ => hh.elim
  | .fn _ _ :: _, _ :: _, _, ⟨hh, _⟩ => hh.elim
  | .agg _ :: _, _ :: _, _, ⟨hh, _⟩ => hh.elim
  | .tup _ :: _, _ :: _, _, ⟨hh, _⟩ => hh.elim
theorem LRel.ren (h : Ren c n g1 bs1 g2 bs2) : ∀ {x : AV} {v : Value}, newA c n x = true → LRel E.ET g1 bs1 w x v → LRel E.ET g2 bs2 w x v
  | .top, _, _, hh => trivial
  | .und, _, _, hh => hh
  | .nilS, _, _, hh => hh
  | .nilP, _, _, hh => hh
  | .val t x, v, _, hh => Rep.mono (fun b hb => ⟨⟨h.O b hb.1, hb.2⟩, rfl⟩) hh
  | .ref b ver off, v, hn, ⟨h1, hv, h2⟩ => by
    obtain ⟨a1, a2⟩ := inN_iff.1 hn
    refine ⟨by rw [h.nv a1 a2]; exact h1, hv, fun T cells hb => ?_⟩
    rw [h.hd b a1 a2]; exact h2 T cells (h.box a1 a2 (by simp) hb)
  | .osl b ver, v, hn, ⟨h1, hv, h2⟩ => by
    obtain ⟨a1, a2⟩ := inN_iff.1 hn
    refine ⟨by rw [h.nv a1 a2]; exact h1, hv, fun T t xs hb => ?_⟩
    rw [h.hd b a1 a2]; exact h2 T t xs (h.box a1 a2 (by simp) hb)
  | .imm t x off, v, _, ⟨b, o, cs, e, h1, h2, h3⟩ => ⟨b, o, cs, e, ⟨h.O b h1.1, h1.2⟩, Rep.mono (fun b hb => ⟨⟨h.O b hb.1, hb.2⟩, rfl⟩) h2, h3⟩
  | .oel b ver i off, v, hn, ⟨h1, hv, h2⟩ => by
    obtain ⟨a1, a2⟩ := inN_iff.1 hn
    refine ⟨by rw [h.nv a1 a2]; exact h1, hv, fun T t xs hb => ?_⟩
    rw [h.hd b a1 a2]; exact h2 T t xs (h.box a1 a2 (by simp) hb)
  | .fn f caps, v, hn, ⟨cv, e, ha⟩ => ⟨cv, e, capR.ren h hn ha⟩
  | .agg _, _, _, hh => hh.elim
  | .tup _, _, _, hh => hh.elim
theorem LRel.rens (h : Ren c n g1 bs1 g2 bs2) : ∀ {l : List AV} {vs : List Value}, newAs c n l = true → All2 (LRel E.ET g1 bs1 w) l vs → All2 (LRel E.ET g2 bs2 w) l vs
  | [], [], _, _ => trivial
  | [], _ :: _, _, hh => hh.elim
  | _ :: _, [], _, hh => hh.elim
  | x :: l, u :: vs, hn, ⟨h1, h2⟩ => by
    simp only [newAs, Bool.and_eq_true] at hn
    exact ⟨LRel.ren (E := E) (w := w) h hn.1 h1, LRel.rens h hn.2 h2⟩
theorem CRel.ren (h : Ren c n g1 bs1 g2 bs2) : ∀ {x : AV} {v : Value}, newC c n x = true → CRel E.ET g1 bs1 w x v → CRel E.ET g2 bs2 w x v
  | .agg l, _, hn, ⟨vs, e, ha⟩ => ⟨vs, e, LRel.rens (E := E) (w := w) h hn ha⟩
  | .tup l, _, _, hh => (show False from hh).elim
  | .top, _, _, _ => trivial
  | .und, _, hn, hh => LRel.ren (E := E) (w := w) (x := .und) h hn hh
  | .nilS, _, hn, hh => LRel.ren (E := E) (w := w) (x := .nilS) h hn hh
  | .nilP, _, hn, hh => LRel.ren (E := E) (w := w) (x := .nilP) h hn hh
  | .val t x, _, hn, hh => LRel.ren (E := E) (w := w) (x := .val t x) h hn hh
  | .ref b v o, _, hn, hh => LRel.ren (E := E) (w := w) (x := .ref b v o) h hn hh
  | .osl b v, _, hn, hh => LRel.ren (E := E) (w := w) (x := .osl b v) h hn hh
  | .imm t x o, _, hn, hh => LRel.ren (E := E) (w := w) (x := .imm t x o) h hn hh
  | .oel b v i o, _, hn, hh => LRel.ren (E := E) (w := w) (x := .oel b v i o) h hn hh
  | .fn f k, _, hn, hh => LRel.ren (E := E) (w := w) (x := .fn f k) h hn hh
theorem CRel.rens (h : Ren c n g1 bs1 g2 bs2) : ∀ {l : List AV} {vs : List Value}, newCs c n l = true → All2 (CRel E.ET g1 bs1 w) l vs → All2 (CRel E.ET g2 bs2 w) l vs
  | [], [], _, _ => trivial
  | [], _ :: _, _, hh => hh.elim
  | _ :: _, [], _, hh => hh.elim
  | x :: l, u :: vs, hn, ⟨h1, h2⟩ => by
    simp only [newCs, Bool.and_eq_true] at hn
    exact ⟨CRel.ren (E := E) (w := w) h hn.1 h1, CRel.rens h hn.2 h2⟩
theorem VRel.ren (h : Ren c n g1 bs1 g2 bs2) : ∀ {x : AV} {v : Value}, newV c n x = true → VRel E.ET g1 bs1 w x v → VRel E.ET g2 bs2 w x v
  | .tup l, _, hn, ⟨vs, e, ha⟩ => ⟨vs, e, CRel.rens (E := E) (w := w) h hn ha⟩
  | .agg l, _, hn, hh => CRel.ren (E := E) (w := w) (x := .agg l) h hn hh
  | .top, _, _, _ => trivial
  | .und, _, hn, hh => CRel.ren (E := E) (w := w) (x := .und) h hn hh
  | .nilS, _, hn, hh => CRel.ren (E := E) (w := w) (x := .nilS) h hn hh
  | .nilP, _, hn, hh => CRel.ren (E := E) (w := w) (x := .nilP) h hn hh
  | .val t x, _, hn, hh => CRel.ren (E := E) (w := w) (x := .val t x) h hn hh
  | .ref b v o, _, hn, hh => CRel.ren (E := E) (w := w) (x := .ref b v o) h hn hh
  | .osl b v, _, hn, hh => CRel.ren (E := E) (w := w) (x := .osl b v) h hn hh
  | .imm t x o, _, hn, hh => CRel.ren (E := E) (w := w) (x := .imm t x o) h hn hh
  | .oel b v i o, _, hn, hh => CRel.ren (E := E) (w := w) (x := .oel b v i o) h hn hh
  | .fn f k, _, hn, hh => CRel.ren (E := E) (w := w) (x := .fn f k) h hn hh
/-- What holds between the steps. -/
structure IoInv (ET : TypeId) (c n : Nat) (gone : List Nat) (g : Gh) (bs : Boxes) (w : World) (g1 : Gh) (bs1 : Boxes) (w' : World) : Prop where
  ext : Ext g bs w g1 bs1 w'
  boxes : BsRel ET g1 bs1 w'
  cls : ∀ i v T cells, look bs1 i = some (v, .var T cells) → newAs c n cells = true ∨ (i ∉ gone ∧ look bs i = some (v, .var T cells))
theorem argA_rel {args : List AV} {vals : List Value} (hv : All2 (VRel E.ET g bs w) args vals) (i : Nat) (j : Option Nat) : VRel E.ET g bs w (argA args i j) (argV (vals.getD i undef) j) := by
  have hi := get_of_all2 (E := E) hv i
  unfold argA
  cases j with
  | none => exact hi
  | some j =>
    split
    · rename_i h; cases h
    · rename_i j' f caps hq hj
      cases hq
      rw [hj] at hi
      obtain ⟨cv, e, ha⟩ := hi
      rw [e]
      have := get_of_all2 (E := E) (w := w) (ha.mono fun _ _ => capR.up (E := E) (w := w)) j
      simpa [argV] using this
    · trivial
theorem io_put {gone : List Nat} (hI : IoInv E.ET c n gone g bs w g1 bs1 w') (hb : BsRel E.ET g bs w) (hc : c ≠ 0) (hfr : ∀ k < n, look bs (c + k) = none)
    (hheap : ∀ b blk, b ∉ gone → blk < w.heap.size → g.O blk = some b → w'.heap[blk]? = w.heap[blk]?) {k b v' : Nat} {C C0 : BoxC} (hl1 : look bs1 (c + k) = some (0, C)) (hl2 : look bs1 b = some (v', .dead)) (hl3 : getBox bs b v' = C0) (hC0 : C0 ≠ .dead)
    (hh : g.hd b = g1.hd (c + k)) (hv : ∀ T cells, C = .var T cells → (∃ cells0, C0 = .var T cells0) ∧ newAs c n cells = true) (hr : ∀ T t xs, C = .row T t xs → ∃ xs0, C0 = .row T t xs0 ∧ xs0.length = xs.length) (e4 : k < n) :
    ∃ g2, IoInv E.ET c n gone g bs w g2 ((b, (v', C)) :: (c + k, (0, .dead)) :: bs1) w' ∧ Ren c n g1 bs1 g2 ((b, (v', C)) :: (c + k, (0, .dead)) :: bs1) ∧ ∀ m, c ≤ m → m < c + n → g2.hd m = g1.hd m := by
  have hbn : look bs b ≠ none := by
    intro e; simp only [getBox, e] at hl3; exact hC0 hl3.symm
  have hnb : ¬(c ≤ b ∧ b < c + n) := by
    rintro ⟨a1, a2⟩
    have := hfr (b - c) (by omega)
    rw [show c + (b - c) = b by omega] at this
    exact hbn this
  have hne : b ≠ c + k := fun e => hnb ⟨by omega, by omega⟩
  let g2 : Gh := ⟨fun y => if g1.O y = some (c + k) then some b else g1.O y, fun i => if i = b then g.hd b else g1.hd i⟩
  have hO : ∀ y, g1.O y ≠ some (c + k) → g2.O y = g1.O y := fun y hy => if_neg hy
  have hlk : ∀ m, m ≠ b → m ≠ c + k → look ((b, (v', C)) :: (c + k, (0, .dead)) :: bs1) m = look bs1 m := by
    intro m h1 h2
    rw [look_cons_ne _ _ (Ne.symm h1), look_cons_ne _ _ (Ne.symm h2)]
  have hlb : look ((b, (v', C)) :: (c + k, (0, .dead)) :: bs1) b = some (v', C) := look_cons_eq ..
  have hlc : look ((b, (v', C)) :: (c + k, (0, .dead)) :: bs1) (c + k) = some (0, .dead) := by
    rw [look_cons_ne _ _ hne, look_cons_eq]
  have hhd : ∀ i, i ≠ b → g2.hd i = g1.hd i := fun i hi => if_neg hi
  have hhb : g2.hd b = g.hd b := if_pos rfl
  have hren : Ren c n g1 bs1 g2 ((b, (v', C)) :: (c + k, (0, .dead)) :: bs1) := by
    refine ⟨fun m a1 a2 => ?_, fun m a1 a2 => hhd m (fun e => hnb ⟨by omega, by omega⟩), fun y hy => by rw [hO y (by rw [hy]; simp)]; exact hy⟩
    by_cases hm : m = c + k
    · subst hm
      exact .inr ⟨0, _, hl1, hlc⟩
    · exact .inl (hlk m (fun e => hnb ⟨by omega, by omega⟩) hm)
  have hext : Ext g bs w g2 ((b, (v', C)) :: (c + k, (0, .dead)) :: bs1) w' := by
    have hf := hI.ext.fr
    refine ⟨⟨hf.os, hf.tape, hf.output, hf.size, fun y hy hlt => ?_, fun y hy hlt => ?_⟩, fun m => ?_, fun m ver T' cells' hv' hbx => ?_, fun m ver T' t' xs' hv' hbx => ?_⟩
    · obtain ⟨a1, a2⟩ := hf.ro y hy hlt
      exact ⟨by rw [hO y (by rw [a1]; simp)]; exact a1, a2⟩
    · obtain ⟨a1, a2⟩ := hf.fo y hy hlt
      exact ⟨by rw [hO y (by rw [a1]; simp only [ne_eq, Option.some.injEq]; omega)]; exact a1, a2⟩
    · have := hI.ext.ver m
      by_cases hm : m = b
      · subst hm
        have : nextVer bs1 m = v' + 1 := by simp only [nextVer, hl2]
        have e : nextVer ((m, (v', C)) :: (c + k, (0, .dead)) :: bs1) m = v' + 1 := by simp only [nextVer, hlb]
        omega
      · by_cases hm2 : m = c + k
        · subst hm2
          have : nextVer bs1 (c + k) = 0 + 1 := by simp only [nextVer, hl1]
          have e : nextVer ((b, (v', C)) :: (c + k, (0, .dead)) :: bs1) (c + k) = 0 + 1 := by simp only [nextVer, hlc]
          omega
        · have e : nextVer ((b, (v', C)) :: (c + k, (0, .dead)) :: bs1) m = nextVer bs1 m := by simp only [nextVer, hlk m hm hm2]
          omega
    · by_cases hm : m = b
      · subst hm
        simp only [getBox, hlb] at hbx
        cases hq : Nat.beq v' ver with
        | false => rw [hq] at hbx; cases hbx
        | true =>
          rw [hq] at hbx
          have := Nat.eq_of_beq_eq_true hq
          subst this
          obtain ⟨⟨cells0, e0⟩, _⟩ := hv T' cells' hbx
          exact ⟨⟨cells0, by rw [hl3]; exact e0⟩, hhb⟩
      · by_cases hm2 : m = c + k
        · subst hm2
          simp only [getBox, hlc] at hbx
          cases hq : Nat.beq 0 ver <;> rw [hq] at hbx <;> cases hbx
        · have : getBox bs1 m ver = .var T' cells' := by simp only [getBox, hlk m hm hm2] at hbx; exact hbx
          obtain ⟨a1, a2⟩ := hI.ext.var m ver T' cells' hv' this
          exact ⟨a1, (hhd m hm).trans a2⟩
    · by_cases hm : m = b
      · subst hm
        simp only [getBox, hlb] at hbx
        cases hq : Nat.beq v' ver with
        | false => rw [hq] at hbx; cases hbx
        | true =>
          rw [hq] at hbx
          have := Nat.eq_of_beq_eq_true hq
          subst this
          obtain ⟨xs0, e0, e1⟩ := hr T' t' xs' hbx
          exact ⟨⟨xs0, by rw [hl3]; exact e0, e1⟩, hhb⟩
      · by_cases hm2 : m = c + k
        · subst hm2
          simp only [getBox, hlc] at hbx
          cases hq : Nat.beq 0 ver <;> rw [hq] at hbx <;> cases hbx
        · have : getBox bs1 m ver = .row T' t' xs' := by simp only [getBox, hlk m hm hm2] at hbx; exact hbx
          obtain ⟨a1, a2⟩ := hI.ext.row m ver T' t' xs' hv' this
          exact ⟨a1, (hhd m hm).trans a2⟩
  refine ⟨g2, ⟨hext, ?_, ?_⟩, hren, fun m a1 a2 => hhd m (fun e => hnb ⟨by omega, by omega⟩)⟩
  · intro m ver y hl
    by_cases hm : m = b
    · subst hm
      rw [hlb] at hl
      simp only [Option.some.injEq, Prod.mk.injEq] at hl
      obtain ⟨rfl, rfl⟩ := hl
      have hbox := hI.boxes _ _ _ hl1
      cases C with
      | dead => trivial
      | var T cells =>
        obtain ⟨blk, arr, p1, p2, p3, p4⟩ := hbox
        exact ⟨blk, arr, by rw [hhb, hh]; exact p1, if_pos p2, p3, LRel.rens (E := E) hren (hv T cells rfl).2 p4⟩
      | row T t xs =>
        obtain ⟨cs, p1, p2, p3⟩ := hbox
        exact ⟨cs, by rw [hhb, hh]; exact p1, p2.mono fun _ _ => Rep.mono (fun z hz => ⟨⟨hren.O z hz.1, hz.2⟩, rfl⟩), fun z hz => if_pos (p3 z (by rw [hhb, hh] at hz; exact hz))⟩
    · by_cases hm2 : m = c + k
      · subst hm2
        rw [hlc] at hl
        simp only [Option.some.injEq, Prod.mk.injEq] at hl
        obtain ⟨rfl, rfl⟩ := hl
        trivial
      · rw [hlk m hm hm2] at hl
        have hbox := hI.boxes m ver y hl
        have hown : ∀ z, g1.O z = some m → g2.O z = some m := fun z hz => by rw [hO z (by rw [hz]; simp only [ne_eq, Option.some.injEq]; exact hm2)]; exact hz
        cases y with
        | dead => trivial
        | var T' cells' =>
          obtain ⟨b1, a1, r1, r2, r3, r4⟩ := hbox
          refine ⟨b1, a1, (hhd m hm).trans r1, hown b1 r2, r3, ?_⟩
          rcases hI.cls m ver T' cells' hl with hn | ⟨hn1, hn2⟩
          · exact LRel.rens (E := E) hren hn r4
          · obtain ⟨b0, a0, s1, s2, s3, s4⟩ := hb m ver _ hn2
            have hgb : getBox bs1 m ver = .var T' cells' := by simp only [getBox, hl, Nat.beq_refl, cond_true]
            have hver : ver < nextVer bs m := by simp only [nextVer, hn2]; omega
            have := (hI.ext.var m ver T' cells' hver hgb).2
            rw [s1, r1] at this
            simp only [Value.pointer.injEq, Option.some.injEq, Addr.mk.injEq] at this
            obtain ⟨rfl, _⟩ := this
            have hlt : b1 < w.heap.size := (Array.getElem?_eq_some_iff.1 s3).1
            have := hheap m b1 hn1 hlt s2
            rw [r3, s3] at this
            simp only [Option.some.injEq, Obj.cells.injEq] at this
            obtain ⟨rfl, _⟩ := this
            exact s4.mono fun _ _ => LRel.keep hext
        | row T' t' xs' =>
          obtain ⟨cs, r1, r2, r3⟩ := hbox
          refine ⟨cs, by rw [hhd m hm]; exact r1, r2.mono fun _ _ => Rep.mono (fun z hz => ⟨⟨hren.O z hz.1, hz.2⟩, rfl⟩), fun z hz => ?_⟩
          rw [hhd m hm] at hz
          exact hown z (r3 z hz)
  · intro m ver T' cells' hl
    by_cases hm : m = b
    · subst hm
      rw [hlb] at hl
      simp only [Option.some.injEq, Prod.mk.injEq] at hl
      obtain ⟨rfl, rfl⟩ := hl
      exact .inl (hv T' cells' rfl).2
    · by_cases hm2 : m = c + k
      · subst hm2
        rw [hlc] at hl
        simp only [Option.some.injEq, Prod.mk.injEq] at hl
        cases hl.2
      · rw [hlk m hm hm2] at hl
        exact hI.cls m ver T' cells' hl
theorem owns_len {T T' : TypeId} {n n' k k' : Nat} {v : Value} {cs cs' : List Value} {w w' : World} (h : w.ownsRow 0 T n v k cs) (h' : w'.ownsRow 0 T' n' v k' cs') : k = k' := by
  rcases h.2 with ⟨e1, e2⟩ | ⟨q, cap, cur, e1, _⟩
  · rcases h'.2 with ⟨f1, f2⟩ | ⟨q', cap', cur', f1, _⟩
    · omega
    · rw [e1] at f1; cases f1
  · rcases h'.2 with ⟨f1, f2⟩ | ⟨q', cap', cur', f1, _⟩
    · rw [e1] at f1; cases f1
    · rw [e1] at f1
      simp only [Value.slice.injEq] at f1
      exact f1.2.1
theorem io_one {gone : List Nat} (hI : IoInv E.ET c n gone g bs w g1 bs1 w') (hb : BsRel E.ET g bs w) (hc : c ≠ 0) (hfr : ∀ k < n, look bs (c + k) = none)
    (hheap : ∀ b blk, b ∉ gone → blk < w.heap.size → g.O blk = some b → w'.heap[blk]? = w.heap[blk]?) {k : Nat} {x : AV} {u : Value} (hx : VRel E.ET g bs w x u) (hu : g1.hd (c + k) = u) (h : ioOne bs c n k x bs1 = some bs2) :
    ∃ g2, IoInv E.ET c n gone g bs w g2 bs2 w' ∧ Ren c n g1 bs1 g2 bs2 ∧ ∀ m, c ≤ m → m < c + n → g2.hd m = g1.hd m := by
  unfold ioOne at h
  split at h
  · rename_i b v
    split at h
    · rename_i T cells hl1
      split at h
      · rename_i v' hl2
        split at h
        · rename_i T0 cells0 hl3
          obtain ⟨hcond, h'⟩ := bif_some h
          clear h
          simp only [Bool.and_eq_true] at hcond
          obtain ⟨e1, e2, e3, e4⟩ := hcond
          have e1 := Nat.eq_of_beq_eq_true e1
          have e2 := Nat.eq_of_beq_eq_true e2
          rw [Nat.blt_eq] at e4
          subst e1; subst e2
          cases h'
          obtain ⟨blk0, q1, q2⟩ := hx.2.2 _ _ hl3
          refine io_put hI hb hc hfr hheap hl1 hl2 hl3 (by simp) (by rw [q1, hu, q2]) (fun T' cells' e => ?_) (fun T' t' xs' e => by cases e) e4
          cases e
          exact ⟨⟨cells0, rfl⟩, e3⟩
        · cases h
      · cases h
    · cases h
  · rename_i b v
    split at h
    · rename_i T t xs hl1
      split at h
      · rename_i v' hl2
        split at h
        · rename_i T0 t0 xs0 hl3
          obtain ⟨hcond, h'⟩ := bif_some h
          clear h
          simp only [Bool.and_eq_true] at hcond
          obtain ⟨e1, e2, e3, e4⟩ := hcond
          have e1 := Nat.eq_of_beq_eq_true e1
          have e2 := Nat.eq_of_beq_eq_true e2
          have e3 : t = t0 := of_decide_eq_true e3
          rw [Nat.blt_eq] at e4
          subst e1; subst e2; subst e3
          cases h'
          have q := hx.2.2 _ _ _ hl3
          refine io_put hI hb hc hfr hheap hl1 hl2 hl3 (by simp) (by rw [← q, hu]) (fun T' cells' e => by cases e) (fun T' t' xs' e => ?_) e4
          cases e
          obtain ⟨cs0, p1, _⟩ := hb _ _ _ (getBox_look hl3 (by simp))
          obtain ⟨cs1, p2, _⟩ := hI.boxes _ _ _ hl1
          rw [hu, q] at p2
          exact ⟨xs0, rfl, owns_len p1 p2⟩
        · cases h
      · cases h
    · cases h
  · cases h
theorem io_lt {k : Nat} {x : AV} (h : ioOne bs c n k x bs1 = some bs2) : k < n := by
  unfold ioOne at h
  split at h
  · split at h
    · split at h
      · split at h
        · obtain ⟨hc, _⟩ := bif_some h
          simp only [Bool.and_eq_true, Nat.blt_eq] at hc
          exact hc.2.2.2
        · cases h
      · cases h
    · cases h
  · split at h
    · split at h
      · split at h
        · obtain ⟨hc, _⟩ := bif_some h
          simp only [Bool.and_eq_true, Nat.blt_eq] at hc
          exact hc.2.2.2
        · cases h
      · cases h
    · cases h
  · cases h
theorem io_all {gone : List Nat} {args : List AV} {vals : List Value} (hv : All2 (VRel E.ET g bs w) args vals) (hb : BsRel E.ET g bs w) (hc : c ≠ 0) (hfr : ∀ k < n, look bs (c + k) = none)
    (hheap : ∀ b blk, b ∉ gone → blk < w.heap.size → g.O blk = some b → w'.heap[blk]? = w.heap[blk]?) {r : AV} {u : Value} (hr : newV c n r = true) : ∀ (io : List (Nat × Nat × Option Nat)) {g1 : Gh} {bs1 bs2 : Boxes}, IoInv E.ET c n gone g bs w g1 bs1 w' →
    (∀ x ∈ io, x.1 < n → g1.hd (c + x.1) = argV (vals.getD x.2.1 undef) x.2.2) → VRel E.ET g1 bs1 w' r u → ioAll bs c n args io bs1 = some bs2 → ∃ g2, IoInv E.ET c n gone g bs w g2 bs2 w' ∧ VRel E.ET g2 bs2 w' r u
  | [], g1, bs1, bs2, hI, _, hu, h => by simp only [ioAll, Option.some.injEq] at h; subst h; exact ⟨g1, hI, hu⟩
  | (k, i, j) :: io, g1, bs1, bs2, hI, hhd, hu, h => by
    unfold ioAll at h
    split at h
    · rename_i bsM hM
      have hk := io_lt hM
      obtain ⟨g2, i1, i2, i3⟩ := io_one hI hb hc hfr hheap (argA_rel (E := E) hv i j) (hhd (k, i, j) (List.mem_cons_self ..) hk) hM
      exact io_all hv hb hc hfr hheap hr io i1 (fun x hx hlt => (i3 _ (by omega) (by omega)).trans (hhd x (List.mem_cons_of_mem _ hx) hlt)) (VRel.ren (E := E) (w := w') i2 hr hu) h
    · cases h
theorem look_class {gone : List Nat} {D : Boxes} (hD : ∀ i v x, look D i = some (v, x) → ∀ T cells, x = .var T cells → newAs c n cells = true) {i v : Nat} {T : TypeId} {cells : List AV}
    (h : look (appB D (killL bs gone)) i = some (v, .var T cells)) : newAs c n cells = true ∨ (i ∉ gone ∧ look bs i = some (v, .var T cells)) := by
  rw [look_app] at h
  cases hq : look D i with
  | some y =>
    rw [hq] at h
    simp only [Option.some.injEq] at h
    subst h
    exact .inl (hD i v _ hq T cells rfl)
  | none =>
    rw [hq] at h
    simp only [look_killL] at h
    by_cases hin : i ∈ gone
    · rw [if_pos hin] at h
      cases hq2 : look bs i with
      | none => rw [hq2] at h; cases h
      | some y => rw [hq2] at h; simp only [Option.map_some, Option.some.injEq, Prod.mk.injEq] at h; cases h.2
    · rw [if_neg hin] at h
      exact .inr ⟨hin, h⟩
theorem newBs_look : ∀ {D : Boxes}, newBs c n D = true → ∀ i v x, look D i = some (v, x) → ∀ T cells, x = .var T cells → newAs c n cells = true
  | [], _, i, v, x, h, _, _, _ => by cases h
  | (i', (v', .var T' cells')) :: l, hn, i, v, x, h, T, cells, e => by
    simp only [newBs, Bool.and_eq_true] at hn
    by_cases hi : i' = i
    · subst hi
      rw [look_cons_eq] at h
      simp only [Option.some.injEq, Prod.mk.injEq] at h
      obtain ⟨_, rfl⟩ := h
      simp only [BoxC.var.injEq] at e
      obtain ⟨_, rfl⟩ := e
      exact hn.1
    · rw [look_cons_ne _ _ hi] at h
      exact newBs_look hn.2 i v x h T cells e
  | (i', (v', .dead)) :: l, hn, i, v, x, h, T, cells, e => by
    by_cases hi : i' = i
    · subst hi
      rw [look_cons_eq] at h
      simp only [Option.some.injEq, Prod.mk.injEq] at h
      obtain ⟨_, rfl⟩ := h
      cases e
    · rw [look_cons_ne _ _ hi] at h
      exact newBs_look (D := l) hn i v x h T cells e
  | (i', (v', .row T' t' xs')) :: l, hn, i, v, x, h, T, cells, e => by
    by_cases hi : i' = i
    · subst hi
      rw [look_cons_eq] at h
      simp only [Option.some.injEq, Prod.mk.injEq] at h
      obtain ⟨_, rfl⟩ := h
      cases e
    · rw [look_cons_ne _ _ hi] at h
      exact newBs_look (D := l) hn i v x h T cells e
theorem io_ok {f : FuncId} {pi po : PSh} {m : Nat} {io : List (Nat × Nat × Option Nat)} {F : pi.den → Option po.den} (h : FnIo P E.ET f pi po m io F) : CallOk P E.ET f (ioSem pi po m io F) := by
  refine ⟨h.fn, fun dd args bs R K out hs g w vals hv hb => ?_, fun n hn => by cases hn⟩
  replace hs : ioRun pi po m io F dd args bs R K = some out := hs
  unfold ioRun at hs
  replace hs := bif_some hs
  obtain ⟨hc1, hs⟩ := hs
  obtain ⟨hlen, hfr⟩ := and3 hc1
  split at hs
  · rename_i d hd
    cases hF : F d with
    | none => rw [hF] at hs; cases hs
    | some o =>
      rw [hF] at hs
      simp only [Option.bind_some] at hs
      split at hs
      · rename_i bs2 hall
        obtain ⟨hnew, hs⟩ := bif_some hs
        obtain ⟨hnew1, hnew2⟩ := and3 hnew
        have hc0 : callBase dd ≠ 0 := by unfold callBase; split <;> omega
        refine Calls.mono (typed_core h hlen hfr hd hF hv hb) ?_
        rintro e w' ⟨u, gN, rfl, q1, q2, q3, q4, q5⟩
        rw [← takeR_eq] at q1
        obtain ⟨g2, r1, r2⟩ := io_all (c := callBase dd) (n := lenB po.boxes) (gone := goneL pi po args bs) hv hb hc0 (freshB_of hfr) q5 hnew2 io
          ⟨q3, q2, fun i v T cells hl => look_class (newBs_look hnew1) hl⟩ q4 q1 hall
        exact ⟨u, _, _, g2, rfl, hs, r2, r1.boxes, r1.ext⟩
      · cases hs
  · cases hs
end
end Go.Proofs.Ytfdppbfefplikaa.Ev
