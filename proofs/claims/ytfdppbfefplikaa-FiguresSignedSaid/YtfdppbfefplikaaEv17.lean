/- A told function, as its callers see it. -/
import Derived.Test.YtfdppbfefplikaaEv16
namespace Go.Proofs.Ytfdppbfefplikaa.Ev
open Go
open Go.RowKit
set_option linter.unusedVariables false
set_option linter.unusedSimpArgs false
set_option linter.unusedSectionVars false

/-- No pointer in it. -/
def flatT : Ty → Bool
  | .sl _ => false
  | .nptr _ => false
  | .pair a b => flatT a && flatT b
  | _ => true
def flatL : List LSh → Bool
  | [] => true
  | .v t :: l => flatT t && flatL l
  | _ :: l => flatL l
def flatS : List SSh → Bool
  | [] => true
  | .any :: l => flatS l
  | .mk _ ls :: l => flatL ls && flatS l
def flatB : List BSh → Bool
  | [] => true
  | .var _ cs :: l => flatL cs && flatB l
  | .row _ t :: l => flatT t && flatB l
def PSh.flat (p : PSh) : Bool := flatB p.boxes && flatS p.slots
def mentB (bs : Boxes) : List Nat → List Nat
  | [] => []
  | b :: l => (match look bs b with
    | some (_, .var _ cells) => mentL cells
    | _ => []) ++ mentB bs l
def zOf (bs : Boxes) (args : List AV) : List Nat := ment args ++ mentB bs (ment args)
def killL (bs : Boxes) : List Nat → Boxes
  | [] => bs
  | b :: l => match look bs b with
    | some (v, _) => (b, (v, .dead)) :: killL bs l
    | none => killL bs l
def movedL : Mp → List Nat
  | [] => []
  | (_, some (b, _)) :: r => b :: movedL r
  | (_, none) :: r => movedL r
def freshB (bs : Boxes) (c : Nat) : Nat → Bool
  | 0 => true
  | n + 1 => (match look bs (c + n) with | none => true | some _ => false) && freshB bs c n
def lenSl : List SSh → Nat
  | [] => 0
  | _ :: l => lenSl l + 1
def goneL (pi po : PSh) (args : List AV) (bs : Boxes) : List Nat :=
  movedL (pi.mp args bs) ++ bif po.flat then [] else zOf bs args
def appB : Boxes → Boxes → Boxes
  | [], m => m
  | x :: l, m => x :: appB l m
/-- The call, by what the function tells. -/
def typedRun (pi po : PSh) (F : pi.den → Option po.den) (dd : Option Nat) (args : List AV) (bs : Boxes) (R : Type) (K : AV → Boxes → Option R) : Option R :=
  bif Nat.beq (lenN args) (lenSl pi.slots) && freshB bs (callBase dd) (lenB po.boxes) then
    match pi.enc (fun b => memN (zOf bs args) b) args bs with
    | some d => (F d).bind fun out => K (resAV (po.decS (callBase dd) out)) (appB (po.decB (callBase dd) out) (killL bs (goneL pi po args bs)))
    | none => none
  else none
def typedSem (pi po : PSh) (F : pi.den → Option po.den) : CallSem := ⟨typedRun pi po F, some (lenB po.boxes)⟩
section
variable {P : Program} {E : Env} {R : Type} {out : R} {g0 g g' g1 g3 : Gh} {w0 w w' : World} {bs : Boxes}
theorem look_killL (bs : Boxes) (b : Nat) : ∀ (l : List Nat), look (killL bs l) b = if b ∈ l then (look bs b).map (fun x => (x.1, BoxC.dead)) else look bs b
  | [] => by simp [killL]
  | a :: l => by
    simp only [killL]
    have ih := look_killL bs b l
    split
    · rename_i v c hl
      by_cases e : a = b
      · subst e
        rw [look_cons_eq, if_pos (List.mem_cons_self ..), hl]; rfl
      · rw [look_cons_ne _ _ e, ih]
        have : (b ∈ a :: l) ↔ b ∈ l := by simp [Ne.symm e]
        by_cases h : b ∈ l
        · rw [if_pos h, if_pos (this.2 h)]
        · rw [if_neg h, if_neg (fun h' => h (this.1 h'))]
    · rename_i hl
      rw [ih]
      by_cases e : a = b
      · subst e
        rw [hl]; simp
      · have : (b ∈ a :: l) ↔ b ∈ l := by simp [Ne.symm e]
        by_cases h : b ∈ l
        · rw [if_pos h, if_pos (this.2 h)]
        · rw [if_neg h, if_neg (fun h' => h (this.1 h'))]
theorem look_app : ∀ (l m : Boxes) (b : Nat), look (appB l m) b = match look l b with | some x => some x | none => look m b
  | [], m, b => rfl
  | (i, x) :: l, m, b => by
    simp only [appB, look]
    cases Nat.beq i b with
    | true => rfl
    | false => exact look_app l m b
theorem freshB_of : ∀ {n : Nat} {c : Nat}, freshB bs c n = true → ∀ k < n, look bs (c + k) = none
  | 0, _, _, k, h => by omega
  | n + 1, c, h, k, hk => by
    simp only [freshB, Bool.and_eq_true] at h
    by_cases e : k = n
    · subst e
      have := h.1
      split at this
      · assumption
      · cases this
    · exact freshB_of h.2 k (by omega)
theorem lenSl_eq : ∀ l : List SSh, lenSl l = l.length
  | [] => rfl
  | _ :: l => by simp [lenSl, lenSl_eq l]
theorem rep_flat {ok ok' : Nat → Prop} : ∀ {t : Ty} {x : t.den} {cs : List Value}, flatT t = true → Rep E.ET ok w t x cs → Rep E.ET ok' w' t x cs
  | .int _, _, _, _, h => h
  | .bool, _, _, _, h => h
  | .str, _, _, _, h => h
  | .err, _, _, _, h => h
  | .sl _, _, _, hf, _ => by cases hf
  | .nptr _, _, _, hf, _ => by cases hf
  | .pair a b, _, _, hf, ⟨c1, c2, e, h1, h2⟩ => by
    simp only [flatT, Bool.and_eq_true] at hf
    exact ⟨c1, c2, e, rep_flat hf.1 h1, rep_flat hf.2 h2⟩
  | .unit, _, _, _, h => h
/-- What goes over from the callee's view to the caller's. -/
structure Over (fl : Bool) (g3 gN : Gh) (c n : Nat) (bsN bsO : Boxes) (w' : World) : Prop where
  ok : fl = false → ∀ b, okB g3 w' b → okB gN w' b
  own : ∀ b k, k < n → g3.O b = some (c + k) → gN.O b = some (c + k)
  hd : ∀ k < n, gN.hd (c + k) = g3.hd (c + k)
  look : ∀ k < n, look bsN (c + k) = look bsO (c + k)
theorem over_caps {fl : Bool} {gN : Gh} {c n : Nat} {bsN bsO : Boxes} (ho : Over fl g3 gN c n bsN bsO w') (hn : ∀ i, 0 < nextVer bsO i → ∃ k < n, i = c + k) : ∀ {ks : List Nat} {vs : List Value},
    All2 (capR g3 bsO) (decK c ks) vs → All2 (capR gN bsN) (decK c ks) vs
  | [], [], _ => trivial
  | [], _ :: _, h => h.elim
  | k :: ks, [], h => h.elim
  | k :: ks, v :: vs, h => by
    obtain ⟨k', hk', e⟩ := hn _ h.1.1
    have e : k' = k := by omega
    subst e
    refine ⟨⟨?_, h.1.2.1, fun T cells hb => ?_⟩, over_caps ho hn h.2⟩
    · have := h.1.1
      simp only [nextVer] at this ⊢
      rw [ho.look k' hk']; exact this
    · simp only [getBox] at hb
      rw [ho.look k' hk'] at hb
      obtain ⟨blk, h1, h2⟩ := h.1.2.2 T cells hb
      exact ⟨blk, (ho.hd k' hk').trans h1, h2⟩
theorem over_leaf {fl : Bool} {gN : Gh} {c n : Nat} {bsN bsO : Boxes} (ho : Over fl g3 gN c n bsN bsO w') (hn : ∀ i, 0 < nextVer bsO i → ∃ k < n, i = c + k) : ∀ {ls : List LSh} {d : lsDen ls} {vs : List Value},
    (fl = true → flatL ls = true) → All2 (LRel E.ET g3 bsO w') (decL c ls d) vs → All2 (LRel E.ET gN bsN w') (decL c ls d) vs
  | [], d, [], _, _ => trivial
  | [], d, _ :: _, _, h => h.elim
  | .v t :: ls, d, [], _, h => h.elim
  | .v t :: ls, d, v :: vs, hf, h => by
    refine ⟨?_, over_leaf ho hn (fun e => by have := hf e; simp only [flatL, Bool.and_eq_true] at this; exact this.2) h.2⟩
    cases hfl : fl with
    | true =>
      have := hf hfl
      simp only [flatL, Bool.and_eq_true] at this
      exact rep_flat (E := E) this.1 h.1
    | false => exact Rep.mono (fun b hb => ⟨ho.ok hfl b hb, rfl⟩) h.1
  | .top :: ls, d, [], _, h => h.elim
  | .top :: ls, d, v :: vs, hf, h => ⟨trivial, over_leaf ho hn hf h.2⟩
  | .ref k o :: ls, d, [], _, h => h.elim
  | .ref k o :: ls, d, v :: vs, hf, h => by
    obtain ⟨k', hk', e⟩ := hn _ h.1.1
    have e : k' = k := by omega
    subst e
    refine ⟨⟨?_, h.1.2.1, fun T cells hb => ?_⟩, over_leaf ho hn hf h.2⟩
    · have := h.1.1
      simp only [nextVer] at this ⊢
      rw [ho.look k' hk']; exact this
    · simp only [getBox] at hb
      rw [ho.look k' hk'] at hb
      obtain ⟨blk, h1, h2⟩ := h.1.2.2 T cells hb
      exact ⟨blk, (ho.hd k' hk').trans h1, h2⟩
  | .osl k :: ls, d, [], _, h => h.elim
  | .osl k :: ls, d, v :: vs, hf, h => by
    obtain ⟨k', hk', e⟩ := hn _ h.1.1
    have e : k' = k := by omega
    subst e
    refine ⟨⟨?_, h.1.2.1, fun T t xs hb => ?_⟩, over_leaf ho hn hf h.2⟩
    · have := h.1.1
      simp only [nextVer] at this ⊢
      rw [ho.look k' hk']; exact this
    · simp only [getBox] at hb
      rw [ho.look k' hk'] at hb
      rw [ho.hd k' hk']; exact h.1.2.2 T t xs hb
  | .fn f ks :: ls, d, [], _, h => h.elim
  | .fn f ks :: ls, d, v :: vs, hf, h => by
    obtain ⟨cv, e, ha⟩ := h.1
    exact ⟨⟨cv, e, over_caps ho hn ha⟩, over_leaf ho hn hf h.2⟩
theorem decL_noAgg (c : Nat) : ∀ (ls : List LSh) (d : lsDen ls), ∀ x ∈ decL c ls d, ∀ l, x ≠ .agg l
  | [], _, x, h, _ => by cases h
  | .v t :: ls, d, x, h, l => by
    rcases List.mem_cons.1 h with rfl | h
    · simp
    · exact decL_noAgg c ls d.2 x h l
  | .top :: ls, d, x, h, l => by
    rcases List.mem_cons.1 h with rfl | h
    · simp
    · exact decL_noAgg c ls d x h l
  | .ref k o :: ls, d, x, h, l => by
    rcases List.mem_cons.1 h with rfl | h
    · simp
    · exact decL_noAgg c ls d x h l
  | .osl k :: ls, d, x, h, l => by
    rcases List.mem_cons.1 h with rfl | h
    · simp
    · exact decL_noAgg c ls d x h l
  | .fn f ks :: ls, d, x, h, l => by
    rcases List.mem_cons.1 h with rfl | h
    · simp
    · exact decL_noAgg c ls d x h l
theorem over_slot1 {fl : Bool} {gN : Gh} {c n : Nat} {bsN bsO : Boxes} (ho : Over fl g3 gN c n bsN bsO w') (hn : ∀ i, 0 < nextVer bsO i → ∃ k < n, i = c + k) {ag : Bool} {ls : List LSh} {d : lsDen ls} {v : Value}
    (hf : fl = true → flatL ls = true) (h : VRel E.ET g3 bsO w' (decS1 ag (decL c ls d)) v) : VRel E.ET gN bsN w' (decS1 ag (decL c ls d)) v := by
  unfold decS1 at h ⊢
  cases ag with
  | true =>
    obtain ⟨vs, e, h⟩ := h
    exact ⟨vs, e, over_leaf ho hn hf h⟩
  | false =>
    simp only [cond_false] at h ⊢
    split
    · rename_i x hx
      rw [hx] at h
      have hnt : LRel E.ET g3 bsO w' x v := by
        have h2 := decL_noTup c ls d x (by rw [hx]; exact List.mem_cons_self ..)
        have h3 : ∀ l, x ≠ .agg l := by
          intro l e
          subst e
          exact decL_noAgg c ls d _ (by rw [hx]; exact List.mem_cons_self ..) l rfl
        cases x <;> first | exact h | exact (h2 _ rfl).elim | exact (h3 _ rfl).elim
      have := over_leaf (d := d) ho hn hf (vs := [v]) (by rw [hx]; exact ⟨hnt, trivial⟩)
      rw [hx] at this
      exact this.1.up
    · trivial
theorem over_slots {fl : Bool} {gN : Gh} {c n : Nat} {bsN bsO : Boxes} (ho : Over fl g3 gN c n bsN bsO w') (hn : ∀ i, 0 < nextVer bsO i → ∃ k < n, i = c + k) : ∀ {ls : List SSh} {d : ssDen ls} {vs : List Value},
    (fl = true → flatS ls = true) → All2 (CRel E.ET g3 bsO w') (decS c ls d) vs → All2 (CRel E.ET gN bsN w') (decS c ls d) vs
  | [], d, [], _, _ => trivial
  | [], d, _ :: _, _, h => h.elim
  | .any :: ls, d, [], _, h => h.elim
  | .any :: ls, d, v :: vs, hf, h => ⟨trivial, over_slots ho hn hf h.2⟩
  | .mk ag lss :: ls, d, [], _, h => h.elim
  | .mk ag lss :: ls, d, v :: vs, hf, h => by
    have hf' : fl = true → flatL lss = true ∧ flatS ls = true := fun e => by have := hf e; simpa only [flatS, Bool.and_eq_true] using this
    refine ⟨?_, over_slots ho hn (fun e => (hf' e).2) h.2⟩
    refine (over_slot1 ho hn (fun e => (hf' e).1) h.1.up).noTup fun l => ?_
    exact decS_noTup c (.mk ag lss :: ls) d _ (List.mem_cons_self ..) l
theorem over_res {fl : Bool} {gN : Gh} {c n : Nat} {bsN bsO : Boxes} (ho : Over fl g3 gN c n bsN bsO w') (hn : ∀ i, 0 < nextVer bsO i → ∃ k < n, i = c + k) : ∀ {ls : List SSh} {d : ssDen ls} {u : Value},
    (fl = true → flatS ls = true) → VRel E.ET g3 bsO w' (resAV (decS c ls d)) u → VRel E.ET gN bsN w' (resAV (decS c ls d)) u
  | [], d, u, _, ⟨vs, e, h⟩ => ⟨vs, e, by cases vs with | nil => trivial | cons _ _ => exact h.elim⟩
  | [.any], d, u, _, h => trivial
  | [.mk ag lss], d, u, hf, h => over_slot1 ho hn (fun e => by have := hf e; simp only [flatS, Bool.and_eq_true] at this; exact this.1) h
  | .any :: .any :: ls, d, u, hf, ⟨vs, e, h⟩ => ⟨vs, e, over_slots (ls := .any :: .any :: ls) (d := d) ho hn hf h⟩
  | .any :: .mk a1 l1 :: ls, d, u, hf, ⟨vs, e, h⟩ => ⟨vs, e, over_slots (ls := .any :: .mk a1 l1 :: ls) (d := d) ho hn hf h⟩
  | .mk a1 l1 :: .any :: ls, d, u, hf, ⟨vs, e, h⟩ => ⟨vs, e, over_slots (ls := .mk a1 l1 :: .any :: ls) (d := d) ho hn hf h⟩
  | .mk a1 l1 :: .mk a2 l2 :: ls, d, u, hf, ⟨vs, e, h⟩ => ⟨vs, e, over_slots (ls := .mk a1 l1 :: .mk a2 l2 :: ls) (d := d) ho hn hf h⟩
theorem look_decB2 {fl : Bool} (c : Nat) : ∀ {l : List BSh} {j : Nat} {d : bsDen l}, (fl = true → flatB l = true) →
    (∀ i x, look (decB c j l d) i = some x → (∃ k, j ≤ k ∧ k < j + lenB l ∧ i = c + k) ∧
      ((∃ T cs d', (fl = true → flatL cs = true) ∧ x.2 = .var T (decL c cs d')) ∨ (∃ (T : TypeId) (t : Ty) (xs : List t.den), (fl = true → flatT t = true) ∧ x.2 = .row T t xs))) ∧
    (∀ k, j ≤ k → k < j + lenB l → ∃ x, look (decB c j l d) (c + k) = some x)
  | [], j, d, _ => ⟨fun i x hx => (by cases hx), fun k h1 h2 => (by simp only [lenB] at h2; omega)⟩
  | .var T cs :: l, j, d, hf => by
    have hf' : fl = true → flatL cs = true ∧ flatB l = true := fun e => by have := hf e; simpa only [flatB, Bool.and_eq_true] using this
    obtain ⟨i1, i2⟩ := look_decB2 (fl := fl) c (l := l) (j := j + 1) (d := d.2) (fun e => (hf' e).2)
    refine ⟨fun i x hx => ?_, fun k h1 h2 => ?_⟩
    · by_cases e : c + j = i
      · subst e
        simp only [decB, look_cons_eq, Option.some.injEq] at hx
        subst hx
        exact ⟨⟨j, Nat.le_refl _, by simp only [lenB]; omega, rfl⟩, .inl ⟨T, cs, d.1, fun e => (hf' e).1, rfl⟩⟩
      · simp only [decB, look_cons_ne _ _ e] at hx
        obtain ⟨⟨k, k1, k2, k3⟩, h⟩ := i1 i x hx
        exact ⟨⟨k, by omega, by simp only [lenB]; omega, k3⟩, h⟩
    · by_cases e : k = j
      · subst e
        simp only [decB, look_cons_eq]
        exact ⟨_, rfl⟩
      · simp only [decB]
        rw [look_cons_ne _ _ (by omega)]
        exact i2 k (by omega) (by simp only [lenB] at h2; omega)
  | .row T t :: l, j, d, hf => by
    have hf' : fl = true → flatT t = true ∧ flatB l = true := fun e => by have := hf e; simpa only [flatB, Bool.and_eq_true] using this
    obtain ⟨i1, i2⟩ := look_decB2 (fl := fl) c (l := l) (j := j + 1) (d := d.2) (fun e => (hf' e).2)
    refine ⟨fun i x hx => ?_, fun k h1 h2 => ?_⟩
    · by_cases e : c + j = i
      · subst e
        simp only [decB, look_cons_eq, Option.some.injEq] at hx
        subst hx
        exact ⟨⟨j, Nat.le_refl _, by simp only [lenB]; omega, rfl⟩, .inr ⟨T, t, d.1, fun e => (hf' e).1, rfl⟩⟩
      · simp only [decB, look_cons_ne _ _ e] at hx
        obtain ⟨⟨k, k1, k2, k3⟩, h⟩ := i1 i x hx
        exact ⟨⟨k, by omega, by simp only [lenB]; omega, k3⟩, h⟩
    · by_cases e : k = j
      · subst e
        simp only [decB, look_cons_eq]
        exact ⟨_, rfl⟩
      · simp only [decB]
        rw [look_cons_ne _ _ (by omega)]
        exact i2 k (by omega) (by simp only [lenB] at h2; omega)
theorem mem_moved : ∀ {m : Mp} {b k : Nat}, mfind m b = some k → b ∈ movedL m
  | [], _, _, h => by cases h
  | (k', none) :: r, b, k, h => mem_moved (m := r) h
  | (k', some (b', v')) :: r, b, k, h => by
    simp only [mfind] at h
    cases hb : Nat.beq b' b with
    | true =>
      have := Nat.eq_of_beq_eq_true hb
      subst this
      exact List.mem_cons_self ..
    | false =>
      rw [hb] at h
      exact List.mem_cons_of_mem _ (mem_moved (m := r) h)
/-! ### a told function, by its footprint -/
def okL (ok : Nat → Prop) : AV → Prop
  | .ref b _ _ => ok b
  | .osl b _ => ok b
  | .fn _ caps => ∀ b ∈ mentR caps, ok b
  | _ => True
theorem leafF_bs {bs2 : Boxes} (t : Ty) (l : List AV) : leafF bs2 t l = leafF bs t l := by
  cases l with
  | nil => rfl
  | cons a l => simp only [leafF]; rw [asTy_bs (bs2 := bs)]
theorem leafF_rest {t : Ty} {l l' : List AV} {y : t.den} (h : leafF bs t l = some (y, l')) : ∀ x ∈ l', x ∈ l := by
  cases l with
  | nil => cases h
  | cons a l =>
    simp only [leafF] at h
    split at h
    · simp only [Option.some.injEq, Prod.mk.injEq] at h
      obtain ⟨_, rfl⟩ := h
      exact fun x hx => List.mem_cons_of_mem _ hx
    · cases h
structure Same (ok : Nat → Prop) (bs bs2 : Boxes) : Prop where
  look : ∀ b, ok b → look bs2 b = look bs b
  cells : ∀ b v T cells, ok b → getBox bs b v = .var T cells → ∀ x ∈ cells, okL ok x
theorem gatherF_same {ok : Nat → Prop} {bs2 : Boxes} {m : Mp} {z : Nat → Bool} (hs : Same ok bs bs2) : ∀ (t : Ty) (l : List AV), (∀ x ∈ l, okL ok x) →
    gatherF bs2 m z t l = gatherF bs m z t l ∧ ∀ y l', gatherF bs m z t l = some (y, l') → ∀ x ∈ l', okL ok x
  | .pair a b, l, hl => by
    obtain ⟨h1, h2⟩ := gatherF_same hs a l hl
    simp only [gatherF]
    rw [h1]
    cases hg : gatherF bs m z a l with
    | none => exact ⟨rfl, fun y l' h => by cases h⟩
    | some p =>
      obtain ⟨x, l1⟩ := p
      have hl1 := h2 x l1 hg
      obtain ⟨k1, k2⟩ := gatherF_same hs b l1 hl1
      simp only
      rw [k1]
      refine ⟨rfl, fun y l' h => ?_⟩
      cases hg2 : gatherF bs m z b l1 with
      | none => rw [hg2] at h; cases h
      | some q =>
        obtain ⟨y2, l2⟩ := q
        rw [hg2] at h
        simp only [Option.some.injEq, Prod.mk.injEq] at h
        obtain ⟨_, rfl⟩ := h
        exact k2 _ _ hg2
  | .unit, l, hl => ⟨rfl, fun y l' h => by simp only [gatherF, Option.some.injEq, Prod.mk.injEq] at h; obtain ⟨_, rfl⟩ := h; exact hl⟩
  | .nptr t, l, hl => by
    simp only [gatherF]
    split
    · rename_i b v l1
      have hb : ok b := hl _ (List.mem_cons_self ..)
      have hg : getBox bs2 b v = getBox bs b v := by simp only [getBox, hs.look b hb]
      rw [hg]
      have hrest : ∀ x ∈ l1, okL ok x := fun x hx => hl x (List.mem_cons_of_mem _ hx)
      cases hbx : getBox bs b v with
      | var T cells =>
        obtain ⟨h1, _⟩ := gatherF_same hs t cells (hs.cells b v T cells hb hbx)
        simp only
        rw [h1]
        refine ⟨rfl, fun y l' h => ?_⟩
        obtain ⟨_, h⟩ := bif_some h
        split at h
        · simp only [Option.some.injEq, Prod.mk.injEq] at h
          obtain ⟨_, rfl⟩ := h
          exact hrest
        · cases h
      | dead => exact ⟨rfl, fun y l' h => by obtain ⟨_, h⟩ := bif_some h; cases h⟩
      | row T t' xs => exact ⟨rfl, fun y l' h => by obtain ⟨_, h⟩ := bif_some h; cases h⟩
    · exact ⟨leafF_bs _ _, fun y l' h x hx => hl x (leafF_rest h x hx)⟩
  | .sl t, l, hl => by
    simp only [gatherF]
    split
    · rename_i b v l1
      have hb : ok b := hl _ (List.mem_cons_self ..)
      have hg : getBox bs2 b v = getBox bs b v := by simp only [getBox, hs.look b hb]
      rw [hg]
      have hrest : ∀ x ∈ l1, okL ok x := fun x hx => hl x (List.mem_cons_of_mem _ hx)
      refine ⟨rfl, fun y l' h => ?_⟩
      obtain ⟨_, h⟩ := bif_some h
      split at h
      · split at h
        · simp only [Option.some.injEq, Prod.mk.injEq] at h
          obtain ⟨_, rfl⟩ := h
          exact hrest
        · cases h
      · cases h
    · exact ⟨leafF_bs _ _, fun y l' h x hx => hl x (leafF_rest h x hx)⟩
  | .int k, l, hl => ⟨leafF_bs _ _, fun y l' h x hx => hl x (leafF_rest h x hx)⟩
  | .bool, l, hl => ⟨leafF_bs _ _, fun y l' h x hx => hl x (leafF_rest h x hx)⟩
  | .str, l, hl => ⟨leafF_bs _ _, fun y l' h x hx => hl x (leafF_rest h x hx)⟩
  | .err, l, hl => ⟨leafF_bs _ _, fun y l' h x hx => hl x (leafF_rest h x hx)⟩
def okM (ok : Nat → Prop) (m : Mp) : Prop := ∀ k b v, (k, some (b, v)) ∈ m → ok b
theorem mget_mem : ∀ {m : Mp} {k b v : Nat}, mget m k = some (some (b, v)) → ∃ k', (k', some (b, v)) ∈ m
  | [], _, _, _, h => by cases h
  | (i, x) :: r, k, b, v, h => by
    simp only [mget] at h
    cases hb : Nat.beq i k with
    | true =>
      rw [hb] at h
      simp only [cond_true, Option.some.injEq] at h
      subst h
      exact ⟨i, List.mem_cons_self ..⟩
    | false =>
      rw [hb] at h
      obtain ⟨k', hk⟩ := mget_mem (m := r) h
      exact ⟨k', List.mem_cons_of_mem _ hk⟩
theorem madd_ok {ok : Nat → Prop} {m : Mp} {k : Nat} {x : Option (Nat × Nat)} (hm : okM ok m) (hx : ∀ b v, x = some (b, v) → ok b) : okM ok (madd m k x) := by
  unfold madd
  split
  · exact hm
  · intro k' b v h
    rcases List.mem_cons.1 h with h | h
    · simp only [Prod.mk.injEq] at h
      exact hx b v h.2.symm
    · exact hm k' b v h
theorem mcaps_ok {ok : Nat → Prop} : ∀ (ks : List Nat) (l : List AV) {m : Mp}, okM ok m → (∀ b ∈ mentR l, ok b) → okM ok (mcaps m ks l)
  | [], _, m, hm, _ => by unfold mcaps; exact hm
  | _ :: _, [], m, hm, _ => by unfold mcaps; exact hm
  | k :: ks, x :: l, m, hm, hl => by
    cases x with
    | ref b v o =>
      show okM ok (mcaps (madd m k (some (b, v))) ks l)
      exact mcaps_ok ks l (madd_ok hm fun b' v' e => by simp only [Option.some.injEq, Prod.mk.injEq] at e; rw [← e.1]; exact hl b (List.mem_cons_self ..)) fun y hy => hl y (List.mem_cons_of_mem _ hy)
    | _ => exact hm
theorem mleaf_ok {ok : Nat → Prop} {m : Mp} {s : LSh} {x : AV} (hm : okM ok m) (hx : okL ok x) : okM ok (mleaf m s x) := by
  unfold mleaf
  split
  · exact madd_ok hm fun b v h => by simp only [Option.some.injEq, Prod.mk.injEq] at h; rw [← h.1]; exact hx
  · exact madd_ok hm fun b v h => by simp only [Option.some.injEq, Prod.mk.injEq] at h; rw [← h.1]; exact hx
  · exact madd_ok hm fun b v h => by cases h
  · exact mcaps_ok _ _ hm hx
  · exact hm
theorem mleaves_ok {ok : Nat → Prop} : ∀ (ls : List LSh) (l : List AV) {m : Mp}, okM ok m → (∀ x ∈ l, okL ok x) → okM ok (mleaves m ls l)
  | [], _, m, hm, _ => by unfold mleaves; exact hm
  | _ :: _, [], m, hm, _ => by unfold mleaves; exact hm
  | s :: ls, x :: l, m, hm, hl => by
    show okM ok (mleaves (mleaf m s x) ls l)
    exact mleaves_ok ls l (mleaf_ok hm (hl x (List.mem_cons_self ..))) fun y hy => hl y (List.mem_cons_of_mem _ hy)
theorem mslots_ok {ok : Nat → Prop} : ∀ (ls : List SSh) (l : List AV) {m : Mp}, okM ok m → (∀ x ∈ l, ∀ y ∈ leaves x, okL ok y) → okM ok (mslots m ls l)
  | [], _, m, hm, _ => by unfold mslots; exact hm
  | .any :: _, [], m, hm, _ => by unfold mslots; exact hm
  | .mk _ _ :: _, [], m, hm, _ => by unfold mslots; exact hm
  | .any :: ls, x :: l, m, hm, hl => mslots_ok ls l (m := m) hm fun y hy => hl y (List.mem_cons_of_mem _ hy)
  | .mk ag lss :: ls, x :: l, m, hm, hl => mslots_ok ls l (mleaves_ok lss (leaves x) hm (hl x (List.mem_cons_self ..))) fun y hy => hl y (List.mem_cons_of_mem _ hy)
theorem mboxes_same {ok : Nat → Prop} {bs2 : Boxes} (hs : Same ok bs bs2) : ∀ (l : List BSh) (k : Nat) {m : Mp}, okM ok m → mboxes bs2 k l m = mboxes bs k l m ∧ okM ok (mboxes bs k l m)
  | [], k, m, hm => ⟨by unfold mboxes; rfl, by unfold mboxes; exact hm⟩
  | .row T t :: l, k, m, hm => mboxes_same hs l (k + 1) hm
  | .var T cs :: l, k, m, hm => by
    show mboxes bs2 (k + 1) l (match mget m k with | some (some (b, v)) => (match getBox bs2 b v with | .var _ cells => mleaves m cs cells | _ => m) | _ => m) =
        mboxes bs (k + 1) l (match mget m k with | some (some (b, v)) => (match getBox bs b v with | .var _ cells => mleaves m cs cells | _ => m) | _ => m) ∧
      okM ok (mboxes bs (k + 1) l (match mget m k with | some (some (b, v)) => (match getBox bs b v with | .var _ cells => mleaves m cs cells | _ => m) | _ => m))
    cases hg : mget m k with
    | none => exact mboxes_same hs l (k + 1) hm
    | some o =>
      cases o with
      | none => exact mboxes_same hs l (k + 1) hm
      | some bv =>
        obtain ⟨b, v⟩ := bv
        obtain ⟨k', hk'⟩ := mget_mem hg
        have hb := hm k' b v hk'
        have hbx : getBox bs2 b v = getBox bs b v := by simp only [getBox, hs.look b hb]
        simp only
        rw [hbx]
        cases hc : getBox bs b v with
        | var T' cells => exact mboxes_same hs l (k + 1) (mleaves_ok cs cells hm (hs.cells b v T' cells hb hc))
        | dead => exact mboxes_same hs l (k + 1) hm
        | row T' t' xs => exact mboxes_same hs l (k + 1) hm
theorem fz_same {ok : Nat → Prop} {bs2 : Boxes} {m : Mp} {z : Nat → Bool} (hs : Same ok bs bs2) {t : Ty} {x : AV} (hx : okL ok x) : fz bs2 m z t x = fz bs m z t x := by
  unfold fz
  rw [(gatherF_same hs t [x] (by intro y hy; simp only [List.mem_singleton] at hy; subst hy; exact hx)).1]
theorem encL_same {ok : Nat → Prop} {bs2 : Boxes} {m : Mp} {z : Nat → Bool} {nb : Nat} (hs : Same ok bs bs2) : ∀ (ls : List LSh) (l : List AV), (∀ x ∈ l, okL ok x) → encL bs2 m z nb ls l = encL bs m z nb ls l
  | [], [], _ => rfl
  | [], _ :: _, _ => rfl
  | .v t :: ls, [], _ => rfl
  | .v t :: ls, x :: l, hl => by
    simp only [encL]
    rw [fz_same hs (hl x (List.mem_cons_self ..)), encL_same hs ls l fun y hy => hl y (List.mem_cons_of_mem _ hy)]
  | .top :: ls, [], _ => rfl
  | .top :: ls, x :: l, hl => by
    simp only [encL]
    exact encL_same hs ls l fun y hy => hl y (List.mem_cons_of_mem _ hy)
  | .ref k o :: ls, [], _ => rfl
  | .ref k o :: ls, x :: l, hl => by
    have ih := encL_same (m := m) (z := z) (nb := nb) hs ls l fun y hy => hl y (List.mem_cons_of_mem _ hy)
    cases x <;> simp only [encL, ih]
  | .osl k :: ls, [], _ => rfl
  | .osl k :: ls, x :: l, hl => by
    have ih := encL_same (m := m) (z := z) (nb := nb) hs ls l fun y hy => hl y (List.mem_cons_of_mem _ hy)
    cases x <;> simp only [encL, ih]
  | .fn f ks :: ls, [], _ => rfl
  | .fn f ks :: ls, x :: l, hl => by
    have ih := encL_same (m := m) (z := z) (nb := nb) hs ls l fun y hy => hl y (List.mem_cons_of_mem _ hy)
    cases x <;> simp only [encL, ih]
theorem encS1_same {ok : Nat → Prop} {bs2 : Boxes} {m : Mp} {z : Nat → Bool} {nb : Nat} (hs : Same ok bs bs2) (ag : Bool) (ls : List LSh) (x : AV) (hx : ∀ y ∈ leaves x, okL ok y) : encS1 bs2 m z nb ag ls x = encS1 bs m z nb ag ls x := by
  unfold encS1
  cases ag with
  | true => cases x <;> first | rfl | exact encL_same hs ls _ hx
  | false => cases x <;> first | rfl | exact encL_same hs ls _ hx
theorem encS_same {ok : Nat → Prop} {bs2 : Boxes} {m : Mp} {z : Nat → Bool} {nb : Nat} (hs : Same ok bs bs2) : ∀ (ls : List SSh) (l : List AV), (∀ x ∈ l, ∀ y ∈ leaves x, okL ok y) → encS bs2 m z nb ls l = encS bs m z nb ls l
  | [], _, _ => rfl
  | .any :: ls, [], _ => rfl
  | .any :: ls, x :: l, hl => by
    simp only [encS]
    exact encS_same hs ls l fun y hy => hl y (List.mem_cons_of_mem _ hy)
  | .mk ag lss :: ls, [], _ => rfl
  | .mk ag lss :: ls, x :: l, hl => by
    simp only [encS]
    rw [encS1_same hs ag lss x (hl x (List.mem_cons_self ..)), encS_same hs ls l fun y hy => hl y (List.mem_cons_of_mem _ hy)]
theorem encB_same {ok : Nat → Prop} {bs2 : Boxes} {m : Mp} {z : Nat → Bool} {nb : Nat} (hs : Same ok bs bs2) (hm : okM ok m) : ∀ (l : List BSh) (k : Nat), encB bs2 m z nb k l = encB bs m z nb k l
  | [], _ => rfl
  | .var T cs :: l, k => by
    simp only [encB]
    rw [encB_same hs hm l (k + 1)]
    cases hg : mget m k with
    | none => rfl
    | some o =>
      cases o with
      | none => rfl
      | some bv =>
        obtain ⟨b, v⟩ := bv
        obtain ⟨k', hk'⟩ := mget_mem hg
        have hb := hm k' b v hk'
        have hbx : getBox bs2 b v = getBox bs b v := by simp only [getBox, hs.look b hb]
        simp only
        rw [hbx]
        cases hc : getBox bs b v with
        | var T' cells =>
          simp only
          rw [encL_same hs cs cells (hs.cells b v T' cells hb hc)]
        | dead => rfl
        | row T' t' xs => rfl
  | .row T t :: l, k => by
    simp only [encB]
    rw [encB_same hs hm l (k + 1)]
    cases hg : mget m k with
    | none => rfl
    | some o =>
      cases o with
      | none => rfl
      | some bv =>
        obtain ⟨b, v⟩ := bv
        obtain ⟨k', hk'⟩ := mget_mem hg
        have hb := hm k' b v hk'
        have hbx : getBox bs2 b v = getBox bs b v := by simp only [getBox, hs.look b hb]
        simp only
        rw [hbx]
theorem enc_same {ok : Nat → Prop} {bs2 : Boxes} {z : Nat → Bool} {p : PSh} {args : List AV} (hs : Same ok bs bs2) (ha : ∀ x ∈ args, ∀ y ∈ leaves x, okL ok y) :
    p.mp args bs2 = p.mp args bs ∧ p.enc z args bs2 = p.enc z args bs ∧ okM ok (p.mp args bs) := by
  have h0 : okM ok (mslots [] p.slots args) := mslots_ok p.slots args (by intro k b v h; cases h) ha
  obtain ⟨h1, h2⟩ := mboxes_same hs p.boxes 0 h0
  have hmp : p.mp args bs2 = p.mp args bs := h1
  refine ⟨hmp, ?_, h2⟩
  have h2' : okM ok (p.mp args bs) := h2
  unfold PSh.enc
  rw [hmp, encB_same hs h2', encS_same hs _ _ ha]
def kills (bs : Boxes) : List Nat → Boxes
  | [] => []
  | b :: l => match look bs b with
    | some (v, _) => (b, (v, .dead)) :: kills bs l
    | none => kills bs l
theorem killL_eq (bs : Boxes) : ∀ l, killL bs l = kills bs l ++ bs
  | [] => rfl
  | b :: l => by
    simp only [killL, kills]
    split
    · rw [killL_eq bs l]; rfl
    · exact killL_eq bs l
theorem kills_same {bs2 : Boxes} (h : ∀ b, look bs2 b = look bs b) : ∀ l, kills bs2 l = kills bs l
  | [] => rfl
  | b :: l => by simp only [kills]; rw [h b, kills_same h l]
theorem appB_eq : ∀ l m : Boxes, appB l m = l ++ m
  | [], _ => rfl
  | x :: l, m => by simp [appB, appB_eq l m]
theorem freshB_same {bs2 : Boxes} {c : Nat} : ∀ (n : Nat), (∀ k < n, look bs2 (c + k) = look bs (c + k)) → freshB bs2 c n = freshB bs c n
  | 0, _ => rfl
  | n + 1, h => by simp only [freshB]; rw [h n (Nat.lt_succ_self n), freshB_same n fun k hk => h k (Nat.lt_succ_of_lt hk)]
theorem mem_rangeN {c : Nat} : ∀ {n b : Nat}, b ∈ rangeN c n ↔ ∃ k < n, b = c + k
  | 0, b => by simp [rangeN]
  | n + 1, b => by
    simp only [rangeN, List.mem_cons, mem_rangeN (n := n)]
    constructor
    · rintro (rfl | ⟨k, hk, rfl⟩)
      · exact ⟨n, Nat.lt_succ_self n, rfl⟩
      · exact ⟨k, Nat.lt_succ_of_lt hk, rfl⟩
    · rintro ⟨k, hk, rfl⟩
      by_cases e : k = n
      · exact .inl (by rw [e])
      · exact .inr ⟨k, by omega, rfl⟩
theorem ids_decB (c : Nat) : ∀ (l : List BSh) (j : Nat) (d : bsDen l), ∀ x ∈ decB c j l d, ∃ k, j ≤ k ∧ k < j + lenB l ∧ x.1 = c + k
  | [], _, _, x, h => by cases h
  | .var T cs :: l, j, d, x, h => by
    rcases List.mem_cons.1 h with rfl | h
    · exact ⟨j, Nat.le_refl _, by simp only [lenB]; omega, rfl⟩
    · obtain ⟨k, k1, k2, k3⟩ := ids_decB c l (j + 1) d.2 x h
      exact ⟨k, by omega, by simp only [lenB]; omega, k3⟩
  | .row T t :: l, j, d, x, h => by
    rcases List.mem_cons.1 h with rfl | h
    · exact ⟨j, Nat.le_refl _, by simp only [lenB]; omega, rfl⟩
    · obtain ⟨k, k1, k2, k3⟩ := ids_decB c l (j + 1) d.2 x h
      exact ⟨k, by omega, by simp only [lenB]; omega, k3⟩
theorem mentB_same {bs2 : Boxes} (h : ∀ b, look bs2 b = look bs b) : ∀ l, mentB bs2 l = mentB bs l
  | [] => rfl
  | b :: l => by simp only [mentB]; rw [h b, mentB_same h l]
theorem catN_nil : ∀ {l m : List Nat}, catN l m = [] → l = [] ∧ m = []
  | [], m, h => ⟨rfl, h⟩
  | a :: l, m, h => by cases h
theorem plain_mentL : ∀ {l : List AV}, mentL l = [] → ∀ x ∈ l, okL (fun _ => False) x
  | [], _, x, h => by cases h
  | a :: l, h, x, hx => by
    have h2 : mentL l = [] ∧ okL (fun _ => False) a := by
      cases a <;> simp only [mentL] at h <;> first
        | exact ⟨h, trivial⟩
        | (cases h; done)
        | (obtain ⟨h3, h4⟩ := catN_nil h; exact ⟨h4, fun b hb => by rw [h3] at hb; cases hb⟩)
    rcases List.mem_cons.1 hx with rfl | hx
    · exact h2.2
    · exact plain_mentL h2.1 x hx
theorem plain_ment : ∀ {l : List AV}, ment l = [] → ∀ x ∈ l, ∀ y ∈ leaves x, okL (fun _ => False) y
  | [], _, x, h => by cases h
  | a :: l, h, x, hx => by
    have h2 : ment l = [] ∧ ∀ y ∈ leaves a, okL (fun _ => False) y := by
      cases a <;> simp only [ment] at h <;> first
        | (refine ⟨h, fun y hy => ?_⟩; simp only [leaves, List.mem_singleton] at hy; subst hy; trivial)
        | (cases h; done)
        | (obtain ⟨h3, h4⟩ := catN_nil h; exact ⟨h4, plain_mentL h3⟩)
        | (obtain ⟨h3, h4⟩ := catN_nil h; exact ⟨h4, fun y hy => by simp only [leaves, List.mem_singleton] at hy; subst hy; exact fun b hb => by rw [h3] at hb; cases hb⟩)
    rcases List.mem_cons.1 hx with rfl | hx
    · exact h2.2
    · exact plain_ment h2.1 x hx
theorem rowsB_of : ∀ {l : List Nat}, rowsB bs l = true → ∀ b ∈ l, (match look bs b with | some (_, .var _ _) => false | _ => true) = true
  | [], _, b, hb => by cases hb
  | a :: l, h, b, hb => by
    simp only [rowsB, Bool.and_eq_true] at h
    rcases List.mem_cons.1 hb with rfl | hb
    · exact h.1
    · exact rowsB_of h.2 b hb
theorem mentB_rows : ∀ {l : List Nat}, (∀ b ∈ l, (match look bs b with | some (_, .var _ _) => false | _ => true) = true) → mentB bs l = []
  | [], _ => rfl
  | a :: l, h => by
    simp only [mentB]
    rw [mentB_rows (l := l) fun b hb => h b (List.mem_cons_of_mem _ hb), List.append_nil]
    have := h a (List.mem_cons_self ..)
    split
    · rename_i hl; rw [hl] at this; cases this
    · rfl
theorem kills_same' {bs2 : Boxes} : ∀ {l : List Nat}, (∀ b ∈ l, look bs2 b = look bs b) → kills bs2 l = kills bs l
  | [], _ => rfl
  | b :: l, h => by simp only [kills]; rw [h b (List.mem_cons_self ..), kills_same' (l := l) fun b hb => h b (List.mem_cons_of_mem _ hb)]
theorem kills_mem : ∀ {l : List Nat} {x : Nat × (Nat × BoxC)}, x ∈ kills bs l → x.1 ∈ l
  | [], x, h => by cases h
  | b :: l, x, h => by
    simp only [kills] at h
    split at h
    · rcases List.mem_cons.1 h with rfl | h
      · exact List.mem_cons_self ..
      · exact List.mem_cons_of_mem _ (kills_mem h)
    · exact List.mem_cons_of_mem _ (kills_mem h)
theorem moved_ok {ok : Nat → Prop} : ∀ {m : Mp}, okM ok m → ∀ b ∈ movedL m, ok b
  | [], _, b, hb => by cases hb
  | (k, none) :: r, h, b, hb => moved_ok (m := r) (fun k b v hk => h k b v (List.mem_cons_of_mem _ hk)) b hb
  | (k, some (b', v)) :: r, h, b, hb => by
    rcases List.mem_cons.1 hb with rfl | hb
    · exact h k _ v (List.mem_cons_self ..)
    · exact moved_ok (m := r) (fun k b v hk => h k b v (List.mem_cons_of_mem _ hk)) b hb
theorem okL_mono {ok ok' : Nat → Prop} (h : ∀ b, ok b → ok' b) : ∀ {y : AV}, okL ok y → okL ok' y := by
  intro y hy
  cases y <;> first | exact hy | exact h _ hy | exact fun b hb => h b (hy b hb)
theorem mentL_ok : ∀ (l : List AV), ∀ y ∈ l, okL (fun b => b ∈ mentL l) y
  | [], y, h => by cases h
  | a :: l, y, hy => by
    rcases List.mem_cons.1 hy with rfl | hy
    · cases y <;> first | trivial | exact List.mem_cons_self .. | exact fun b hb => mem_catN.2 (.inl hb)
    · refine okL_mono (fun b hb => ?_) (mentL_ok l y hy)
      cases a <;> simp only [mentL] <;> first | exact hb | exact List.mem_cons_of_mem _ hb | exact mem_catN.2 (.inr hb)
theorem ment_ok : ∀ (l : List AV), ∀ x ∈ l, ∀ y ∈ leaves x, okL (fun b => b ∈ ment l) y
  | [], x, h => by cases h
  | a :: l, x, hx => by
    intro y hy
    rcases List.mem_cons.1 hx with rfl | hx
    · cases x with
      | agg k => exact okL_mono (fun b hb => mem_catN.2 (.inl hb)) (mentL_ok k y hy)
      | _ =>
        simp only [leaves, List.mem_singleton] at hy
        subst hy
        first | trivial | exact List.mem_cons_self .. | exact fun b hb => mem_catN.2 (.inl hb)
    · refine okL_mono (fun b hb => ?_) (ment_ok l x hx y hy)
      cases a <;> simp only [ment] <;> first | exact hb | exact List.mem_cons_of_mem _ hb | exact mem_catN.2 (.inr hb)
theorem moved_plain : ∀ {m : Mp}, okM (fun _ => False) m → movedL m = []
  | [], _ => rfl
  | (k, none) :: r, h => moved_plain (m := r) fun k b v hk => h k b v (List.mem_cons_of_mem _ hk)
  | (k, some (b, v)) :: r, h => (h k b v (List.mem_cons_self ..)).elim
theorem typed_eff {pi po : PSh} {F : pi.den → Option po.den} {n : Nat} (hn : (typedSem pi po F).nb = some n) {dd : Option Nat} {args : List AV} {K : AV → Boxes → Option R}
    (hs : (typedSem pi po F).run dd args bs R K = some out) : Eff (callFoot dd args bs n) (fun bs R K => (typedSem pi po F).run dd args bs R K) bs K out := by
  have hn : lenB po.boxes = n := by simpa [typedSem] using hn
  subst hn
  replace hs : typedRun pi po F dd args bs R K = some out := hs
  unfold typedRun at hs
  obtain ⟨hc1, hs⟩ := bif_some hs
  split at hs
  · rename_i d hd
    cases hF : F d with
    | none => rw [hF] at hs; cases hs
    | some o =>
      rw [hF] at hs
      simp only [Option.bind_some] at hs
      rw [appB_eq, killL_eq] at hs
      refine ⟨resAV (po.decS (callBase dd) o), po.decB (callBase dd) o ++ kills bs (goneL pi po args bs), by rw [List.append_assoc]; exact hs, fun bs2 ha R' K' => ?_, fun x hx => ?_⟩
      · have key : ∃ ok : Nat → Prop, Same ok bs bs2 ∧ (∀ x ∈ args, ∀ y ∈ leaves x, okL ok y) ∧ zOf bs2 args = zOf bs args ∧ (∀ k < lenB po.boxes, look bs2 (callBase dd + k) = look bs (callBase dd + k)) ∧
            kills bs2 (goneL pi po args bs) = kills bs (goneL pi po args bs) := by
          unfold callFoot at ha
          cases hnil : rowsB bs (ment args) with
          | true =>
            rw [hnil] at ha
            have ha : ∀ b, b ∈ catN (ment args) (rangeN (callBase dd) (lenB po.boxes)) → look bs2 b = look bs b := ha
            have ham : ∀ b ∈ ment args, look bs2 b = look bs b := fun b hb => ha b (mem_catN.2 (.inl hb))
            have hsame : Same (fun b => b ∈ ment args) bs bs2 := ⟨ham, fun b v T c hb hl => by
              have := rowsB_of hnil b hb
              rw [getBox_look hl (by simp)] at this; cases this⟩
            have hok := ment_ok args
            have hz : ∀ bs' : Boxes, (∀ b ∈ ment args, look bs' b = look bs b) → zOf bs' args = ment args := fun bs' h => by
              unfold zOf
              rw [mentB_rows (bs := bs') fun b hb => by rw [h b hb]; exact rowsB_of hnil b hb, List.append_nil]
            refine ⟨_, hsame, hok, by rw [hz bs2 ham, hz bs fun _ _ => rfl], fun k hk => ha _ (mem_catN.2 (.inr (mem_rangeN.2 ⟨k, hk, rfl⟩))), ?_⟩
            refine kills_same' fun b hb => ?_
            unfold goneL at hb
            rcases List.mem_append.1 hb with hb | hb
            · exact ham b (moved_ok (enc_same (p := pi) (z := fun _ => true) hsame hok).2.2 b hb)
            · rw [hz bs fun _ _ => rfl] at hb
              cases hfl : po.flat with
              | true => rw [hfl] at hb; cases hb
              | false => rw [hfl] at hb; exact ham b hb
          | false =>
            rw [hnil] at ha
            have ha : ∀ b, look bs2 b = look bs b := ha
            refine ⟨fun _ => True, ⟨fun b _ => ha b, fun b v T c _ _ x _ => by cases x <;> first | trivial | exact fun _ _ => trivial⟩, fun x _ y _ => by cases y <;> first | trivial | exact fun _ _ => trivial, ?_, fun k _ => ha _, kills_same ha _⟩
            unfold zOf
            rw [mentB_same ha]
        obtain ⟨ok, h1, h2, h3, h4, h5⟩ := key
        obtain ⟨e1, e2, _⟩ := enc_same (p := pi) (z := fun b => memN (zOf bs args) b) h1 h2
        have hgone : goneL pi po args bs2 = goneL pi po args bs := by unfold goneL; rw [e1, h3]
        show typedRun pi po F dd args bs2 R' K' = _
        unfold typedRun
        rw [freshB_same _ h4, hc1, h3, e2, hd, hgone]
        simp only [cond_true, hF, Option.bind_some]
        rw [appB_eq, killL_eq, h5, List.append_assoc]
      · unfold callFoot
        cases hnil : rowsB bs (ment args) with
        | false => trivial
        | true =>
          have hsame : Same (fun b => b ∈ ment args) bs bs := ⟨fun b _ => rfl, fun b v T c hb hl => by
            have := rowsB_of hnil b hb
            rw [getBox_look hl (by simp)] at this; cases this⟩
          rcases List.mem_append.1 hx with hx | hx
          · obtain ⟨k, _, hk, e⟩ := ids_decB (callBase dd) po.boxes 0 o.1 x hx
            exact mem_catN.2 (.inr (mem_rangeN.2 ⟨k, by omega, e⟩))
          · refine mem_catN.2 (.inl ?_)
            have hb := kills_mem hx
            unfold goneL at hb
            rcases List.mem_append.1 hb with hb | hb
            · exact moved_ok (enc_same (p := pi) (z := fun _ => true) hsame (ment_ok args)).2.2 _ hb
            · have hz : zOf bs args = ment args := by
                unfold zOf
                rw [mentB_rows (bs := bs) fun b hb => rowsB_of hnil b hb, List.append_nil]
              rw [hz] at hb
              cases hfl : po.flat with
              | true => rw [hfl] at hb; cases hb
              | false => rw [hfl] at hb; exact hb
  · cases hs
open Classical in
theorem over_mem {fl : Bool} {gN : Gh} {c n : Nat} {bsN bsO : Boxes} (ho : Over fl g3 gN c n bsN bsO w') (hn : ∀ i, 0 < nextVer bsO i → ∃ k < n, i = c + k) : ∀ {ls : List SSh} {d : ssDen ls},
    (fl = true → flatS ls = true) → ∀ x ∈ decS c ls d, ∀ v, VRel E.ET g3 bsO w' x v → VRel E.ET gN bsN w' x v
  | [], d, _, x, hx, _, _ => by cases hx
  | .any :: ls, d, hf, x, hx, v, h => by
    rcases List.mem_cons.1 hx with rfl | hx
    · trivial
    · exact over_mem ho hn (ls := ls) (d := d) hf x hx v h
  | .mk ag lss :: ls, d, hf, x, hx, v, h => by
    have hf' : fl = true → flatL lss = true ∧ flatS ls = true := fun e => by have := hf e; simpa only [flatS, Bool.and_eq_true] using this
    rcases List.mem_cons.1 hx with rfl | hx
    · exact over_slot1 ho hn (fun e => (hf' e).1) h
    · exact over_mem ho hn (ls := ls) (d := d.2) (fun e => (hf' e).2) x hx v h
theorem res_map {gN : Gh} {bsN bsO : Boxes} : ∀ {l : List AV} {u : Value}, (∀ x ∈ l, ∀ k, x ≠ .tup k) → (∀ x ∈ l, ∀ v, VRel E.ET g3 bsO w' x v → VRel E.ET gN bsN w' x v) → VRel E.ET g3 bsO w' (resAV l) u → VRel E.ET gN bsN w' (resAV l) u
  | [], u, _, _, ⟨vs, e, h⟩ => ⟨vs, e, by cases vs with | nil => trivial | cons _ _ => exact h.elim⟩
  | [x], u, _, hm, h => hm x (List.mem_cons_self ..) u h
  | x :: y :: l, u, ht, hm, ⟨vs, e, h⟩ => by
    refine ⟨vs, e, ?_⟩
    have all : ∀ (l : List AV) (vs : List Value), (∀ x ∈ l, ∀ k, x ≠ .tup k) → (∀ x ∈ l, ∀ v, VRel E.ET g3 bsO w' x v → VRel E.ET gN bsN w' x v) → All2 (CRel E.ET g3 bsO w') l vs → All2 (CRel E.ET gN bsN w') l vs := by
      intro l
      induction l with
      | nil => intro vs _ _ h; cases vs with | nil => trivial | cons _ _ => exact h.elim
      | cons x l ih =>
        intro vs ht hm h
        cases vs with
        | nil => exact h.elim
        | cons v vs => exact ⟨(hm x (List.mem_cons_self ..) v h.1.up).noTup (ht x (List.mem_cons_self ..)), ih vs (fun y hy => ht y (List.mem_cons_of_mem _ hy)) (fun y hy => hm y (List.mem_cons_of_mem _ hy)) h.2⟩
    exact all _ vs ht hm h
/-- The call, by what the function tells: the boxes behind it, and where the variables are. -/
theorem typed_core {f : FuncId} {pi po : PSh} {n : Nat} {io : List (Nat × Nat × Option Nat)} {F : pi.den → Option po.den} (h : FnIo P E.ET f pi po n io F) {dd : Option Nat} {args : List AV} {bs : Boxes} {d : pi.den} {o : po.den}
    (hlen : Nat.beq (lenN args) (lenSl pi.slots) = true) (hfr0 : freshB bs (callBase dd) (lenB po.boxes) = true) (hd : pi.enc (fun b => memN (zOf bs args) b) args bs = some d) (hF : F d = some o)
    {g : Gh} {w : World} {vals : List Value} (hv : All2 (VRel E.ET g bs w) args vals) (hb : BsRel E.ET g bs w) :
    Calls P f vals.toArray w fun e w' => ∃ u gN, e = .returned u ∧ VRel E.ET gN (appB (po.decB (callBase dd) o) (killL bs (goneL pi po args bs))) w' (resAV ((po.decS (callBase dd) o).take n)) u ∧
      BsRel E.ET gN (appB (po.decB (callBase dd) o) (killL bs (goneL pi po args bs))) w' ∧ Ext g bs w gN (appB (po.decB (callBase dd) o) (killL bs (goneL pi po args bs))) w' ∧
      (∀ x ∈ io, x.1 < lenB po.boxes → gN.hd (callBase dd + x.1) = argV (vals.getD x.2.1 undef) x.2.2) ∧
      (∀ b blk, b ∉ goneL pi po args bs → blk < w.heap.size → g.O blk = some b → w'.heap[blk]? = w.heap[blk]?) := by
  have hfr := freshB_of hfr0
  have hc0 : callBase dd ≠ 0 := by unfold callBase; split <;> omega
  obtain ⟨⟨k1, k2⟩, k3, k4⟩ := canon (c := C0) hd hb (fun i => vals.getD i undef) (get_of_all2 hv)
  have hvl : vals.length = pi.slots.length := by
    rw [← hv.length, ← lenSl_eq, ← lenN_eq]
    exact Nat.eq_of_beq_eq_true hlen
  refine Calls.mono (h.run d o hF _ w vals hvl k2 k3 (callBase dd)) ?_
  rintro e w' ⟨u, g3, rfl, r1, r2, r3, r4⟩
  generalize hgone : goneL pi po args bs = gone
  generalize callBase dd = c at *
  generalize hm : pi.mp args bs = m at *
  generalize hzz : zOf bs args = zz at *
  have hg1 : ∀ b, mfind m b ≠ none → b ∈ gone := by
    intro b hb'
    obtain ⟨k, hk⟩ := Option.ne_none_iff_exists'.1 hb'
    rw [← hgone]
    unfold goneL
    rw [hm]
    exact List.mem_append_left _ (mem_moved hk)
  have hg2 : po.flat = false → ∀ b, b ∈ zz → b ∈ gone := by
    intro hf b hb'
    rw [← hgone]
    unfold goneL
    rw [hf, hzz]
    exact List.mem_append_right _ hb'
  let gN : Gh := ⟨fun blk => if blk < w.heap.size then (match g.O blk with
      | none => none
      | some b => if mfind m b ≠ none then g3.O blk else if po.flat = false ∧ b ∈ zz ∧ b ≠ 0 then none else some b) else g3.O blk,
    fun i => if c ≤ i ∧ i < c + lenB po.boxes then g3.hd i else g.hd i⟩
  -- what the callee left alone
  have hN : ∀ blk, blk < w.heap.size → g.O blk = none → gN.O blk = none ∧ g3.O blk = none ∧ w'.heap[blk]? = w.heap[blk]? := by
    intro blk hlt ho
    obtain ⟨q1, q2⟩ := r3.ro blk (canonG_none ho) hlt
    exact ⟨by show (if blk < w.heap.size then _ else _) = _; rw [if_pos hlt, ho], q1, q2⟩
  have hS : ∀ blk b, blk < w.heap.size → g.O blk = some b → mfind m b = none →
      ((b ∈ zz ∧ b ≠ 0) → g3.O blk = none) ∧ (¬ (b ∈ zz ∧ b ≠ 0) → g3.O blk = some 0) ∧ w'.heap[blk]? = w.heap[blk]? ∧
      gN.O blk = if po.flat = false ∧ b ∈ zz ∧ b ≠ 0 then none else some b := by
    intro blk b hlt ho hmf
    have hgN : gN.O blk = if po.flat = false ∧ b ∈ zz ∧ b ≠ 0 then none else some b := by
      show (if blk < w.heap.size then _ else _) = _
      rw [if_pos hlt, ho]
      simp only [hmf, ne_eq, not_true_eq_false, if_false]
    by_cases hz : b ∈ zz ∧ b ≠ 0
    · have hq : (canonG g m (fun b => memN zz b) C0).O blk = none := canonG_free ho (by
        unfold free
        rw [hmf]
        simp only [Bool.and_eq_true, memN_iff]
        exact ⟨hz.1, by rw [beq_no hz.2]; rfl⟩)
      obtain ⟨q1, q2⟩ := r3.ro blk hq hlt
      exact ⟨fun _ => q1, fun hn => absurd hz hn, q2, hgN⟩
    · have hq : (canonG g m (fun b => memN zz b) C0).O blk = some 0 := by
        have : (memN zz b && !Nat.beq b 0) = false := by
          cases hq : (memN zz b && !Nat.beq b 0) with
          | false => rfl
          | true =>
            simp only [Bool.and_eq_true, memN_iff] at hq
            exact absurd ⟨hq.1, ne0 hq.2⟩ hz
        simp only [canonG, ho, hmf, this, Bool.false_eq_true, if_false]
      obtain ⟨q1, q2⟩ := r3.fo blk hq hlt
      exact ⟨fun hn => absurd hn hz, fun _ => q1, q2, hgN⟩
  have hM : ∀ blk b, blk < w.heap.size → g.O blk = some b → mfind m b ≠ none → gN.O blk = g3.O blk := by
    intro blk b hlt ho hmf
    show (if blk < w.heap.size then _ else _) = _
    rw [if_pos hlt, ho]
    simp only [hmf, ne_eq, not_false_eq_true, if_true]
  have hB : ∀ blk, ¬ blk < w.heap.size → gN.O blk = g3.O blk := by
    intro blk hlt
    show (if blk < w.heap.size then _ else _) = _
    rw [if_neg hlt]
  have hflB : po.flat = true → flatB po.boxes = true := fun e => by unfold PSh.flat at e; exact (and3 e).1
  have hflS : po.flat = true → flatS po.slots = true := fun e => by unfold PSh.flat at e; exact (and3 e).2
  obtain ⟨i1, i2⟩ := look_decB2 (fl := po.flat) c (l := po.boxes) (j := 0) (d := o.1) hflB
  have hlookN : ∀ b, look (appB (po.decB c o) (killL bs gone)) b = match look (po.decB c o) b with | some x => some x | none => look (killL bs gone) b := fun b => look_app _ _ b
  have hnew : ∀ b x, look (po.decB c o) b = some x → look bs b = none ∧ ∃ k < lenB po.boxes, b = c + k := by
    intro b x hx
    obtain ⟨⟨k, _, k2, rfl⟩, _⟩ := i1 b x hx
    have k2 : k < lenB po.boxes := by omega
    exact ⟨hfr k k2, k, k2, rfl⟩
  have hold : ∀ b, look bs b ≠ none → look (po.decB c o) b = none ∧ gN.hd b = g.hd b := by
    intro b hne
    constructor
    · cases hq : look (po.decB c o) b with
      | none => rfl
      | some x => exact absurd (hnew b x hq).1 hne
    · show (if c ≤ b ∧ b < c + lenB po.boxes then g3.hd b else g.hd b) = g.hd b
      rw [if_neg]
      rintro ⟨q1, q2⟩
      have := hfr (b - c) (by omega)
      rw [show c + (b - c) = b by omega] at this
      exact hne this
  have hnv : ∀ b, nextVer bs b ≠ 0 → look bs b ≠ none := by
    intro b hb' e
    simp only [nextVer, e] at hb'
    exact hb' rfl
  have hover : Over po.flat g3 gN c (lenB po.boxes) (appB (po.decB c o) (killL bs gone)) (po.decB c o) w' := by
    refine ⟨fun hf blk hok => ⟨?_, hok.2⟩, fun blk k hk ho => ?_, fun k hk => ?_, fun k hk => ?_⟩
    · by_cases hlt : blk < w.heap.size
      · cases ho : g.O blk with
        | none => exact (hN blk hlt ho).1
        | some b =>
          by_cases hmf : mfind m b = none
          · obtain ⟨s1, s2, s3, s4⟩ := hS blk b hlt ho hmf
            by_cases hz : b ∈ zz ∧ b ≠ 0
            · rw [s4, if_pos ⟨hf, hz⟩]
            · have := s2 hz
              rw [hok.1] at this; cases this
          · rw [hM blk b hlt ho hmf]; exact hok.1
      · rw [hB blk hlt]; exact hok.1
    · by_cases hlt : blk < w.heap.size
      · cases hgo : g.O blk with
        | none =>
          have := (hN blk hlt hgo).2.1
          rw [ho] at this; cases this
        | some b =>
          by_cases hmf : mfind m b = none
          · obtain ⟨s1, s2, s3, s4⟩ := hS blk b hlt hgo hmf
            by_cases hz : b ∈ zz ∧ b ≠ 0
            · have := s1 hz
              rw [ho] at this; cases this
            · have := s2 hz
              rw [ho] at this
              simp only [Option.some.injEq] at this
              omega
          · rw [hM blk b hlt hgo hmf]; exact ho
      · rw [hB blk hlt]; exact ho
    · show (if c ≤ c + k ∧ c + k < c + lenB po.boxes then g3.hd (c + k) else g.hd (c + k)) = _
      rw [if_pos ⟨by omega, by omega⟩]
    · rw [hlookN]
      obtain ⟨x, hx⟩ := i2 k (Nat.zero_le _) (by omega)
      rw [show look (po.decB c o) (c + k) = some x from hx]
  have hnx : ∀ i, 0 < nextVer (po.decB c o) i → ∃ k < lenB po.boxes, i = c + k := by
    intro i hi
    cases hq : look (po.decB c o) i with
    | none => simp only [nextVer, hq] at hi; omega
    | some x => exact (hnew i x hq).2
  have hkill : ∀ b, look bs b ≠ none → look (appB (po.decB c o) (killL bs gone)) b = if b ∈ gone then (look bs b).map (fun x => (x.1, BoxC.dead)) else look bs b := by
    intro b hne
    rw [hlookN, (hold b hne).1]
    exact look_killL bs b gone
  have fr : Fr g w gN w' := by
    refine ⟨r3.os, r3.tape, r3.output, r3.size, fun b ho hlt => ⟨(hN b hlt ho).1, (hN b hlt ho).2.2⟩, fun b ho hlt => ?_⟩
    have hmf : mfind m 0 = none := by
      cases hq : mfind m 0 with
      | none => rfl
      | some k =>
        unfold PSh.enc at hd
        obtain ⟨hc, _⟩ := bif_some hd
        rw [hm] at hc
        exact (mfind_ne0 hc hq).elim
    obtain ⟨s1, s2, s3, s4⟩ := hS b 0 hlt ho hmf
    rw [if_neg (by simp)] at s4
    exact ⟨s4, s3⟩
  have he : Ext g bs w gN (appB (po.decB c o) (killL bs gone)) w' := by
    refine ⟨fr, fun b => ?_, fun b ver T cells hv' hbx => ?_, fun b ver T t xs hv' hbx => ?_⟩
    · by_cases hne : look bs b = none
      · simp only [nextVer, hne]; exact Nat.zero_le _
      · simp only [nextVer, hkill b hne]
        by_cases hin : b ∈ gone
        · rw [if_pos hin]
          cases hq : look bs b with
          | none => exact absurd hq hne
          | some x => obtain ⟨v, cc⟩ := x; simp
        · rw [if_neg hin]; exact Nat.le_refl _
    · have hne := hnv b (by omega)
      simp only [getBox, hkill b hne] at hbx
      by_cases hin : b ∈ gone
      · rw [if_pos hin] at hbx
        cases hq : look bs b with
        | none => exact absurd hq hne
        | some x =>
          rw [hq] at hbx
          simp only [Option.map_some] at hbx
          cases hq3 : Nat.beq x.1 ver <;> rw [hq3] at hbx <;> cases hbx
      · rw [if_neg hin] at hbx
        exact ⟨⟨cells, by simp only [getBox]; exact hbx⟩, (hold b hne).2⟩
    · have hne := hnv b (by omega)
      simp only [getBox, hkill b hne] at hbx
      by_cases hin : b ∈ gone
      · rw [if_pos hin] at hbx
        cases hq : look bs b with
        | none => exact absurd hq hne
        | some x =>
          rw [hq] at hbx
          simp only [Option.map_some] at hbx
          cases hq3 : Nat.beq x.1 ver <;> rw [hq3] at hbx <;> cases hbx
      · rw [if_neg hin] at hbx
        exact ⟨⟨xs, by simp only [getBox]; exact hbx, rfl⟩, (hold b hne).2⟩
  have hkeepAll : ∀ b blk, b ∉ gone → blk < w.heap.size → g.O blk = some b → w'.heap[blk]? = w.heap[blk]? := by
    intro b blk hin hlt ho
    have hmf : mfind m b = none := by
      cases hq : mfind m b with
      | none => rfl
      | some k => exact absurd (hg1 b (by rw [hq]; simp)) hin
    exact (hS blk b hlt ho hmf).2.2.1
  refine ⟨u, gN, rfl, res_map (fun x hx l => decS_noTup c po.slots o.2 x (List.mem_of_mem_take hx) l) (fun x hx v hv => over_mem (d := o.2) hover hnx hflS x (List.mem_of_mem_take hx) v hv) r1, ?_, he, fun x hx hlt => (hover.hd x.1 hlt).trans (r4 x hx), hkeepAll⟩
  intro b ver x hl
  by_cases hne : look bs b = none
  · -- one of the callee's
    have hl' : look (po.decB c o) b = some (ver, x) := by
      rw [hlookN] at hl
      cases hq : look (po.decB c o) b with
      | some y => rw [hq] at hl; exact hl
      | none =>
        rw [hq] at hl
        simp only [look_killL, hne, Option.map_none, ite_self] at hl
        cases hl
    obtain ⟨⟨k, _, hk, rfl⟩, hx⟩ := i1 b _ hl'
    have hk : k < lenB po.boxes := by omega
    have hbox := r2 _ _ _ hl'
    have hhd : gN.hd (c + k) = g3.hd (c + k) := hover.hd k hk
    rcases hx with ⟨T, cs, d', hf, e⟩ | ⟨T, t, xs, hf, e⟩
    · simp only at e
      subst e
      obtain ⟨blk, arr, b1, b2, b3, b4⟩ := hbox
      exact ⟨blk, arr, hhd.trans b1, hover.own blk k hk b2, b3, over_leaf hover hnx hf b4⟩
    · simp only at e
      subst e
      obtain ⟨cs, b1, b2, b3⟩ := hbox
      refine ⟨cs, by rw [hhd]; exact b1, b2.mono fun x c' hr => ?_, fun blk hblk => hover.own blk k hk (b3 blk (by rw [hhd] at hblk; exact hblk))⟩
      cases hfl : po.flat with
      | true => exact rep_flat (E := E) (hf hfl) hr
      | false => exact Rep.mono (fun q hq => ⟨hover.ok hfl q hq, rfl⟩) hr
  · rw [hkill b hne] at hl
    by_cases hin : b ∈ gone
    · rw [if_pos hin] at hl
      cases hq : look bs b with
      | none => exact absurd hq hne
      | some y =>
        rw [hq] at hl
        simp only [Option.map_some, Option.some.injEq, Prod.mk.injEq] at hl
        obtain ⟨_, rfl⟩ := hl
        trivial
    · rw [if_neg hin] at hl
      have hbox := hb b ver x hl
      have hmf : mfind m b = none := by
        cases hq : mfind m b with
        | none => rfl
        | some k => exact absurd (hg1 b (by rw [hq]; simp)) hin
      have hhd := (hold b hne).2
      have hkeep : ∀ blk, blk < w.heap.size → g.O blk = some b → gN.O blk = some b ∧ w'.heap[blk]? = w.heap[blk]? := by
        intro blk hlt ho
        obtain ⟨s1, s2, s3, s4⟩ := hS blk b hlt ho hmf
        refine ⟨?_, s3⟩
        rw [s4, if_neg]
        rintro ⟨hf, hz, _⟩
        exact hin (hg2 hf b hz)
      cases x with
      | dead => trivial
      | var T cells =>
        obtain ⟨blk, arr, b1, b2, b3, b4⟩ := hbox
        have hlt : blk < w.heap.size := (Array.getElem?_eq_some_iff.1 b3).1
        exact ⟨blk, arr, hhd.trans b1, (hkeep blk hlt b2).1, (hkeep blk hlt b2).2.trans b3, b4.mono fun _ _ => LRel.keep he⟩
      | row T t xs =>
        obtain ⟨cs, b1, b2, b3⟩ := hbox
        refine ⟨cs, ?_, b2.mono fun _ _ => Rep.mono he.fr.okB, ?_⟩
        · rw [hhd]
          exact ownsRow_of_block b1 fun blk hblk => (hkeep blk (World.ownsRow.lt b1 blk hblk).2 (b3 blk hblk)).2
        · rw [hhd]
          intro blk hblk
          exact (hkeep blk (World.ownsRow.lt b1 blk hblk).2 (b3 blk hblk)).1
theorem typed_ok {f : FuncId} {pi po : PSh} {F : pi.den → Option po.den} (h : FnOk P E.ET f pi po F) : CallOk P E.ET f (typedSem pi po F) := by
  refine ⟨h.fn, fun dd args bs R K out hs g w vals hv hb => ?_, fun n hn dd args bs R K out hs => typed_eff hn hs⟩
  replace hs : typedRun pi po F dd args bs R K = some out := hs
  unfold typedRun at hs
  replace hs := bif_some hs
  obtain ⟨hc1, hs⟩ := hs
  obtain ⟨hlen, hfr⟩ := and3 hc1
  split at hs
  · rename_i d hd
    cases hF : F d with
    | none => rw [hF] at hs; cases hs
    | some o =>
      rw [hF] at hs
      simp only [Option.bind_some] at hs
      have hl : ∀ c out, (po.decS c out).length = po.slots.length := fun c out => length_decS c po.slots out.2
      refine Calls.mono (typed_core (h.io hl) hlen hfr hd hF hv hb) ?_
      rintro e w' ⟨u, gN, rfl, q1, q2, q3, _, _⟩
      rw [← hl (callBase dd) o, List.take_length] at q1
      exact ⟨u, _, _, gN, rfl, hs, q1, q2, q3⟩
  · cases hs
end
end Go.Proofs.Ytfdppbfefplikaa.Ev
