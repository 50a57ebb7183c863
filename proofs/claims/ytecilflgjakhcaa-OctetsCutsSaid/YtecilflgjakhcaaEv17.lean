/- A told function, as its callers see it. -/
import Derived.Test.YtecilflgjakhcaaEv16
namespace Go.Proofs.Ytecilflgjakhcaa.Ev
open Go
open Go.RowKit
set_option linter.unusedVariables false
set_option linter.unusedSimpArgs false
set_option linter.unusedSectionVars false

/-- No pointer in it. -/
def flatT : Ty → Bool
  | .sl _ => false
  | .nptr _ => false
  | .pair a b => flatT a && flatT b
  | _ => true
def flatL : List LSh → Bool
  | [] => true
  | .v t :: l => flatT t && flatL l
  | _ :: l => flatL l
def flatS : List SSh → Bool
  | [] => true
  | .any :: l => flatS l
  | .mk _ ls :: l => flatL ls && flatS l
def flatB : List BSh → Bool
  | [] => true
  | .var _ cs :: l => flatL cs && flatB l
  | .row _ t :: l => flatT t && flatB l
def PSh.flat (p : PSh) : Bool := flatB p.boxes && flatS p.slots
/-- The boxes that values lead to. -/
def ment : List AV → List Nat
  | [] => []
  | .ref b _ _ :: l => b :: ment l
  | .osl b _ :: l => b :: ment l
  | .oel b _ _ _ :: l => b :: ment l
  | .agg k :: l => go k ++ ment l
  | _ :: l => ment l
where go : List AV → List Nat
  | [] => []
  | .ref b _ _ :: l => b :: go l
  | .osl b _ :: l => b :: go l
  | .oel b _ _ _ :: l => b :: go l
  | _ :: l => go l
def mentB (bs : Boxes) : List Nat → List Nat
  | [] => []
  | b :: l => (match look bs b with
    | some (_, .var _ cells) => ment.go cells
    | _ => []) ++ mentB bs l
def zOf (bs : Boxes) (args : List AV) : List Nat := ment args ++ mentB bs (ment args)
def killL (bs : Boxes) : List Nat → Boxes
  | [] => bs
  | b :: l => match look bs b with
    | some (v, _) => (b, (v, .dead)) :: killL bs l
    | none => killL bs l
def movedL : Mp → List Nat
  | [] => []
  | (_, some (b, _)) :: r => b :: movedL r
  | (_, none) :: r => movedL r
def freshB (bs : Boxes) (c : Nat) : Nat → Bool
  | 0 => true
  | n + 1 => (match look bs (c + n) with | none => true | some _ => false) && freshB bs c n
def lenBs : Boxes → Nat
  | [] => 0
  | _ :: l => lenBs l + 1
def lenSl : List SSh → Nat
  | [] => 0
  | _ :: l => lenSl l + 1
def callBase (bs : Boxes) : Nat := 200000 + 1000 * lenBs bs
def goneL (pi po : PSh) (args : List AV) (bs : Boxes) : List Nat :=
  movedL (pi.mp args bs) ++ bif po.flat then [] else zOf bs args
/-- The call, by what the function tells. -/
def typedSem (pi po : PSh) (F : pi.den → Option po.den) : CallSem := fun args bs R K =>
  bif Nat.beq (lenN args) (lenSl pi.slots) && freshB bs (callBase bs) (lenB po.boxes) then
    match pi.enc (fun b => memN (zOf bs args) b) args bs with
    | some d => (F d).bind fun out => K (resAV (po.decS (callBase bs) out)) (appB (po.decB (callBase bs) out) (killL bs (goneL pi po args bs)))
    | none => none
  else none
where appB : Boxes → Boxes → Boxes
  | [], m => m
  | x :: l, m => x :: appB l m
section
variable {P : Program} {E : Env} {R : Type} {out : R} {g0 g g' g1 g3 : Gh} {w0 w w' : World} {bs : Boxes}
theorem memN_iff : ∀ {l : List Nat} {n : Nat}, memN l n = true ↔ n ∈ l
  | [], n => by simp [memN]
  | a :: l, n => by
    simp only [memN, Bool.or_eq_true, List.mem_cons, memN_iff (l := l)]
    constructor
    · rintro (h | h)
      · exact .inl (Nat.eq_of_beq_eq_true h).symm
      · exact .inr h
    · rintro (rfl | h)
      · exact .inl (Nat.beq_refl _)
      · exact .inr h
theorem look_killL (bs : Boxes) (b : Nat) : ∀ (l : List Nat), look (killL bs l) b = if b ∈ l then (look bs b).map (fun x => (x.1, BoxC.dead)) else look bs b
  | [] => by simp [killL]
  | a :: l => by
    simp only [killL]
    have ih := look_killL bs b l
    split
    · rename_i v c hl
      by_cases e : a = b
      · subst e
        rw [look_cons_eq, if_pos (List.mem_cons_self ..), hl]; rfl
      · rw [look_cons_ne _ _ e, ih]
        have : (b ∈ a :: l) ↔ b ∈ l := by simp [Ne.symm e]
        by_cases h : b ∈ l
        · rw [if_pos h, if_pos (this.2 h)]
        · rw [if_neg h, if_neg (fun h' => h (this.1 h'))]
    · rename_i hl
      rw [ih]
      by_cases e : a = b
      · subst e
        rw [hl]; simp
      · have : (b ∈ a :: l) ↔ b ∈ l := by simp [Ne.symm e]
        by_cases h : b ∈ l
        · rw [if_pos h, if_pos (this.2 h)]
        · rw [if_neg h, if_neg (fun h' => h (this.1 h'))]
theorem look_app : ∀ (l m : Boxes) (b : Nat), look (typedSem.appB l m) b = match look l b with | some x => some x | none => look m b
  | [], m, b => rfl
  | (i, x) :: l, m, b => by
    simp only [typedSem.appB, look]
    cases Nat.beq i b with
    | true => rfl
    | false => exact look_app l m b
theorem freshB_of : ∀ {n : Nat} {c : Nat}, freshB bs c n = true → ∀ k < n, look bs (c + k) = none
  | 0, _, _, k, h => by omega
  | n + 1, c, h, k, hk => by
    simp only [freshB, Bool.and_eq_true] at h
    by_cases e : k = n
    · subst e
      have := h.1
      split at this
      · assumption
      · cases this
    · exact freshB_of h.2 k (by omega)
theorem lenSl_eq : ∀ l : List SSh, lenSl l = l.length
  | [] => rfl
  | _ :: l => by simp [lenSl, lenSl_eq l]
theorem rep_flat {ok ok' : Nat → Prop} : ∀ {t : Ty} {x : t.den} {cs : List Value}, flatT t = true → Rep E.ET ok w t x cs → Rep E.ET ok' w' t x cs
  | .int _, _, _, _, h => h
  | .bool, _, _, _, h => h
  | .str, _, _, _, h => h
  | .err, _, _, _, h => h
  | .sl _, _, _, hf, _ => by cases hf
  | .nptr _, _, _, hf, _ => by cases hf
  | .pair a b, _, _, hf, ⟨c1, c2, e, h1, h2⟩ => by
    simp only [flatT, Bool.and_eq_true] at hf
    exact ⟨c1, c2, e, rep_flat hf.1 h1, rep_flat hf.2 h2⟩
  | .unit, _, _, _, h => h
/-- What goes over from the callee's view to the caller's. -/
structure Over (fl : Bool) (g3 gN : Gh) (c n : Nat) (bsN bsO : Boxes) (w' : World) : Prop where
  ok : fl = false → ∀ b, okB g3 w' b → okB gN w' b
  own : ∀ b k, k < n → g3.O b = some (c + k) → gN.O b = some (c + k)
  hd : ∀ k < n, gN.hd (c + k) = g3.hd (c + k)
  look : ∀ k < n, look bsN (c + k) = look bsO (c + k)
theorem over_leaf {fl : Bool} {gN : Gh} {c n : Nat} {bsN bsO : Boxes} (ho : Over fl g3 gN c n bsN bsO w') (hn : ∀ i, 0 < nextVer bsO i → ∃ k < n, i = c + k) : ∀ {ls : List LSh} {d : lsDen ls} {vs : List Value},
    (fl = true → flatL ls = true) → All2 (LRel E.ET g3 bsO w') (decL c ls d) vs → All2 (LRel E.ET gN bsN w') (decL c ls d) vs
  | [], d, [], _, _ => trivial
  | [], d, _ :: _, _, h => h.elim
  | .v t :: ls, d, [], _, h => h.elim
  | .v t :: ls, d, v :: vs, hf, h => by
    refine ⟨?_, over_leaf ho hn (fun e => by have := hf e; simp only [flatL, Bool.and_eq_true] at this; exact this.2) h.2⟩
    cases hfl : fl with
    | true =>
      have := hf hfl
      simp only [flatL, Bool.and_eq_true] at this
      exact rep_flat (E := E) this.1 h.1
    | false => exact Rep.mono (fun b hb => ⟨ho.ok hfl b hb, rfl⟩) h.1
  | .top :: ls, d, [], _, h => h.elim
  | .top :: ls, d, v :: vs, hf, h => ⟨trivial, over_leaf ho hn hf h.2⟩
  | .ref k o :: ls, d, [], _, h => h.elim
  | .ref k o :: ls, d, v :: vs, hf, h => by
    obtain ⟨k', hk', e⟩ := hn _ h.1.1
    have e : k' = k := by omega
    subst e
    refine ⟨⟨?_, h.1.2.1, fun T cells hb => ?_⟩, over_leaf ho hn hf h.2⟩
    · have := h.1.1
      simp only [nextVer] at this ⊢
      rw [ho.look k' hk']; exact this
    · simp only [getBox] at hb
      rw [ho.look k' hk'] at hb
      obtain ⟨blk, h1, h2⟩ := h.1.2.2 T cells hb
      exact ⟨blk, (ho.hd k' hk').trans h1, h2⟩
  | .osl k :: ls, d, [], _, h => h.elim
  | .osl k :: ls, d, v :: vs, hf, h => by
    obtain ⟨k', hk', e⟩ := hn _ h.1.1
    have e : k' = k := by omega
    subst e
    refine ⟨⟨?_, h.1.2.1, fun T t xs hb => ?_⟩, over_leaf ho hn hf h.2⟩
    · have := h.1.1
      simp only [nextVer] at this ⊢
      rw [ho.look k' hk']; exact this
    · simp only [getBox] at hb
      rw [ho.look k' hk'] at hb
      rw [ho.hd k' hk']; exact h.1.2.2 T t xs hb
theorem decL_noAgg (c : Nat) : ∀ (ls : List LSh) (d : lsDen ls), ∀ x ∈ decL c ls d, ∀ l, x ≠ .agg l
  | [], _, x, h, _ => by cases h
  | .v t :: ls, d, x, h, l => by
    rcases List.mem_cons.1 h with rfl | h
    · simp
    · exact decL_noAgg c ls d.2 x h l
  | .top :: ls, d, x, h, l => by
    rcases List.mem_cons.1 h with rfl | h
    · simp
    · exact decL_noAgg c ls d x h l
  | .ref k o :: ls, d, x, h, l => by
    rcases List.mem_cons.1 h with rfl | h
    · simp
    · exact decL_noAgg c ls d x h l
  | .osl k :: ls, d, x, h, l => by
    rcases List.mem_cons.1 h with rfl | h
    · simp
    · exact decL_noAgg c ls d x h l
theorem over_slot1 {fl : Bool} {gN : Gh} {c n : Nat} {bsN bsO : Boxes} (ho : Over fl g3 gN c n bsN bsO w') (hn : ∀ i, 0 < nextVer bsO i → ∃ k < n, i = c + k) {ag : Bool} {ls : List LSh} {d : lsDen ls} {v : Value}
    (hf : fl = true → flatL ls = true) (h : VRel E.ET g3 bsO w' (decS1 ag (decL c ls d)) v) : VRel E.ET gN bsN w' (decS1 ag (decL c ls d)) v := by
  unfold decS1 at h ⊢
  cases ag with
  | true =>
    obtain ⟨vs, e, h⟩ := h
    exact ⟨vs, e, over_leaf ho hn hf h⟩
  | false =>
    simp only [cond_false] at h ⊢
    split
    · rename_i x hx
      rw [hx] at h
      have hnt : LRel E.ET g3 bsO w' x v := by
        have h2 := decL_noTup c ls d x (by rw [hx]; exact List.mem_cons_self ..)
        have h3 : ∀ l, x ≠ .agg l := by
          intro l e
          subst e
          exact decL_noAgg c ls d _ (by rw [hx]; exact List.mem_cons_self ..) l rfl
        cases x <;> first | exact h | exact (h2 _ rfl).elim | exact (h3 _ rfl).elim
      have := over_leaf (d := d) ho hn hf (vs := [v]) (by rw [hx]; exact ⟨hnt, trivial⟩)
      rw [hx] at this
      exact this.1.up
    · trivial
theorem over_slots {fl : Bool} {gN : Gh} {c n : Nat} {bsN bsO : Boxes} (ho : Over fl g3 gN c n bsN bsO w') (hn : ∀ i, 0 < nextVer bsO i → ∃ k < n, i = c + k) : ∀ {ls : List SSh} {d : ssDen ls} {vs : List Value},
    (fl = true → flatS ls = true) → All2 (CRel E.ET g3 bsO w') (decS c ls d) vs → All2 (CRel E.ET gN bsN w') (decS c ls d) vs
  | [], d, [], _, _ => trivial
  | [], d, _ :: _, _, h => h.elim
  | .any :: ls, d, [], _, h => h.elim
  | .any :: ls, d, v :: vs, hf, h => ⟨trivial, over_slots ho hn hf h.2⟩
  | .mk ag lss :: ls, d, [], _, h => h.elim
  | .mk ag lss :: ls, d, v :: vs, hf, h => by
    have hf' : fl = true → flatL lss = true ∧ flatS ls = true := fun e => by have := hf e; simpa only [flatS, Bool.and_eq_true] using this
    refine ⟨?_, over_slots ho hn (fun e => (hf' e).2) h.2⟩
    refine (over_slot1 ho hn (fun e => (hf' e).1) h.1.up).noTup fun l => ?_
    exact decS_noTup c (.mk ag lss :: ls) d _ (List.mem_cons_self ..) l
theorem over_res {fl : Bool} {gN : Gh} {c n : Nat} {bsN bsO : Boxes} (ho : Over fl g3 gN c n bsN bsO w') (hn : ∀ i, 0 < nextVer bsO i → ∃ k < n, i = c + k) : ∀ {ls : List SSh} {d : ssDen ls} {u : Value},
    (fl = true → flatS ls = true) → VRel E.ET g3 bsO w' (resAV (decS c ls d)) u → VRel E.ET gN bsN w' (resAV (decS c ls d)) u
  | [], d, u, _, ⟨vs, e, h⟩ => ⟨vs, e, by cases vs with | nil => trivial | cons _ _ => exact h.elim⟩
  | [.any], d, u, _, h => trivial
  | [.mk ag lss], d, u, hf, h => over_slot1 ho hn (fun e => by have := hf e; simp only [flatS, Bool.and_eq_true] at this; exact this.1) h
  | .any :: .any :: ls, d, u, hf, ⟨vs, e, h⟩ => ⟨vs, e, over_slots (ls := .any :: .any :: ls) (d := d) ho hn hf h⟩
  | .any :: .mk a1 l1 :: ls, d, u, hf, ⟨vs, e, h⟩ => ⟨vs, e, over_slots (ls := .any :: .mk a1 l1 :: ls) (d := d) ho hn hf h⟩
  | .mk a1 l1 :: .any :: ls, d, u, hf, ⟨vs, e, h⟩ => ⟨vs, e, over_slots (ls := .mk a1 l1 :: .any :: ls) (d := d) ho hn hf h⟩
  | .mk a1 l1 :: .mk a2 l2 :: ls, d, u, hf, ⟨vs, e, h⟩ => ⟨vs, e, over_slots (ls := .mk a1 l1 :: .mk a2 l2 :: ls) (d := d) ho hn hf h⟩
theorem look_decB2 {fl : Bool} (c : Nat) : ∀ {l : List BSh} {j : Nat} {d : bsDen l}, (fl = true → flatB l = true) →
    (∀ i x, look (decB c j l d) i = some x → (∃ k, j ≤ k ∧ k < j + lenB l ∧ i = c + k) ∧
      ((∃ T cs d', (fl = true → flatL cs = true) ∧ x.2 = .var T (decL c cs d')) ∨ (∃ (T : TypeId) (t : Ty) (xs : List t.den), (fl = true → flatT t = true) ∧ x.2 = .row T t xs))) ∧
    (∀ k, j ≤ k → k < j + lenB l → ∃ x, look (decB c j l d) (c + k) = some x)
  | [], j, d, _ => ⟨fun i x hx => (by cases hx), fun k h1 h2 => (by simp only [lenB] at h2; omega)⟩
  | .var T cs :: l, j, d, hf => by
    have hf' : fl = true → flatL cs = true ∧ flatB l = true := fun e => by have := hf e; simpa only [flatB, Bool.and_eq_true] using this
    obtain ⟨i1, i2⟩ := look_decB2 (fl := fl) c (l := l) (j := j + 1) (d := d.2) (fun e => (hf' e).2)
    refine ⟨fun i x hx => ?_, fun k h1 h2 => ?_⟩
    · by_cases e : c + j = i
      · subst e
        simp only [decB, look_cons_eq, Option.some.injEq] at hx
        subst hx
        exact ⟨⟨j, Nat.le_refl _, by simp only [lenB]; omega, rfl⟩, .inl ⟨T, cs, d.1, fun e => (hf' e).1, rfl⟩⟩
      · simp only [decB, look_cons_ne _ _ e] at hx
        obtain ⟨⟨k, k1, k2, k3⟩, h⟩ := i1 i x hx
        exact ⟨⟨k, by omega, by simp only [lenB]; omega, k3⟩, h⟩
    · by_cases e : k = j
      · subst e
        simp only [decB, look_cons_eq]
        exact ⟨_, rfl⟩
      · simp only [decB]
        rw [look_cons_ne _ _ (by omega)]
        exact i2 k (by omega) (by simp only [lenB] at h2; omega)
  | .row T t :: l, j, d, hf => by
    have hf' : fl = true → flatT t = true ∧ flatB l = true := fun e => by have := hf e; simpa only [flatB, Bool.and_eq_true] using this
    obtain ⟨i1, i2⟩ := look_decB2 (fl := fl) c (l := l) (j := j + 1) (d := d.2) (fun e => (hf' e).2)
    refine ⟨fun i x hx => ?_, fun k h1 h2 => ?_⟩
    · by_cases e : c + j = i
      · subst e
        simp only [decB, look_cons_eq, Option.some.injEq] at hx
        subst hx
        exact ⟨⟨j, Nat.le_refl _, by simp only [lenB]; omega, rfl⟩, .inr ⟨T, t, d.1, fun e => (hf' e).1, rfl⟩⟩
      · simp only [decB, look_cons_ne _ _ e] at hx
        obtain ⟨⟨k, k1, k2, k3⟩, h⟩ := i1 i x hx
        exact ⟨⟨k, by omega, by simp only [lenB]; omega, k3⟩, h⟩
    · by_cases e : k = j
      · subst e
        simp only [decB, look_cons_eq]
        exact ⟨_, rfl⟩
      · simp only [decB]
        rw [look_cons_ne _ _ (by omega)]
        exact i2 k (by omega) (by simp only [lenB] at h2; omega)
theorem mem_moved : ∀ {m : Mp} {b k : Nat}, mfind m b = some k → b ∈ movedL m
  | [], _, _, h => by cases h
  | (k', none) :: r, b, k, h => mem_moved (m := r) h
  | (k', some (b', v')) :: r, b, k, h => by
    simp only [mfind] at h
    cases hb : Nat.beq b' b with
    | true =>
      have := Nat.eq_of_beq_eq_true hb
      subst this
      exact List.mem_cons_self ..
    | false =>
      rw [hb] at h
      exact List.mem_cons_of_mem _ (mem_moved (m := r) h)
open Classical in
theorem typed_ok {f : FuncId} {pi po : PSh} {F : pi.den → Option po.den} (h : FnOk P E.ET f pi po F) : CallOk P E.ET f (typedSem pi po F) := by
  refine ⟨h.fn, fun args bs R K out hs g w vals hv hb => ?_⟩
  unfold typedSem at hs
  replace hs := bif_some hs
  obtain ⟨hc1, hs⟩ := hs
  obtain ⟨hlen, hfr⟩ := and3 hc1
  have hfr := freshB_of hfr
  have hc0 : callBase bs ≠ 0 := by unfold callBase; omega
  split at hs
  · rename_i d hd
    cases hF : F d with
    | none => rw [hF] at hs; cases hs
    | some o =>
      rw [hF] at hs
      simp only [Option.bind_some] at hs
      obtain ⟨⟨k1, k2⟩, k3, k4⟩ := canon (c := C0) hd hb (fun i => vals.getD i undef) (get_of_all2 hv)
      have hvl : vals.length = pi.slots.length := by
        rw [← hv.length, ← lenSl_eq, ← lenN_eq]
        exact Nat.eq_of_beq_eq_true hlen
      refine Calls.mono (h.run d o hF _ w vals hvl k2 k3 (callBase bs)) ?_
      rintro e w' ⟨u, g3, rfl, r1, r2, r3⟩
      generalize hgone : goneL pi po args bs = gone at hs
      generalize callBase bs = c at *
      generalize hm : pi.mp args bs = m at *
      generalize hzz : zOf bs args = zz at *
      have hg1 : ∀ b, mfind m b ≠ none → b ∈ gone := by
        intro b hb'
        obtain ⟨k, hk⟩ := Option.ne_none_iff_exists'.1 hb'
        rw [← hgone]
        unfold goneL
        rw [hm]
        exact List.mem_append_left _ (mem_moved hk)
      have hg2 : po.flat = false → ∀ b, b ∈ zz → b ∈ gone := by
        intro hf b hb'
        rw [← hgone]
        unfold goneL
        rw [hf, hzz]
        exact List.mem_append_right _ hb'
      let gN : Gh := ⟨fun blk => if blk < w.heap.size then (match g.O blk with
          | none => none
          | some b => if mfind m b ≠ none then g3.O blk else if po.flat = false ∧ b ∈ zz ∧ b ≠ 0 then none else some b) else g3.O blk,
        fun i => if c ≤ i ∧ i < c + lenB po.boxes then g3.hd i else g.hd i⟩
      -- what the callee left alone
      have hN : ∀ blk, blk < w.heap.size → g.O blk = none → gN.O blk = none ∧ g3.O blk = none ∧ w'.heap[blk]? = w.heap[blk]? := by
        intro blk hlt ho
        obtain ⟨q1, q2⟩ := r3.ro blk (canonG_none ho) hlt
        exact ⟨by show (if blk < w.heap.size then _ else _) = _; rw [if_pos hlt, ho], q1, q2⟩
      have hS : ∀ blk b, blk < w.heap.size → g.O blk = some b → mfind m b = none →
          ((b ∈ zz ∧ b ≠ 0) → g3.O blk = none) ∧ (¬ (b ∈ zz ∧ b ≠ 0) → g3.O blk = some 0) ∧ w'.heap[blk]? = w.heap[blk]? ∧
          gN.O blk = if po.flat = false ∧ b ∈ zz ∧ b ≠ 0 then none else some b := by
        intro blk b hlt ho hmf
        have hgN : gN.O blk = if po.flat = false ∧ b ∈ zz ∧ b ≠ 0 then none else some b := by
          show (if blk < w.heap.size then _ else _) = _
          rw [if_pos hlt, ho]
          simp only [hmf, ne_eq, not_true_eq_false, if_false]
        by_cases hz : b ∈ zz ∧ b ≠ 0
        · have hq : (canonG g m (fun b => memN zz b) C0).O blk = none := canonG_free ho (by
            unfold free
            rw [hmf]
            simp only [Bool.and_eq_true, memN_iff]
            exact ⟨hz.1, by rw [beq_no hz.2]; rfl⟩)
          obtain ⟨q1, q2⟩ := r3.ro blk hq hlt
          exact ⟨fun _ => q1, fun hn => absurd hz hn, q2, hgN⟩
        · have hq : (canonG g m (fun b => memN zz b) C0).O blk = some 0 := by
            have : (memN zz b && !Nat.beq b 0) = false := by
              cases hq : (memN zz b && !Nat.beq b 0) with
              | false => rfl
              | true =>
                simp only [Bool.and_eq_true, memN_iff] at hq
                exact absurd ⟨hq.1, ne0 hq.2⟩ hz
            simp only [canonG, ho, hmf, this, Bool.false_eq_true, if_false]
          obtain ⟨q1, q2⟩ := r3.fo blk hq hlt
          exact ⟨fun hn => absurd hn hz, fun _ => q1, q2, hgN⟩
      have hM : ∀ blk b, blk < w.heap.size → g.O blk = some b → mfind m b ≠ none → gN.O blk = g3.O blk := by
        intro blk b hlt ho hmf
        show (if blk < w.heap.size then _ else _) = _
        rw [if_pos hlt, ho]
        simp only [hmf, ne_eq, not_false_eq_true, if_true]
      have hB : ∀ blk, ¬ blk < w.heap.size → gN.O blk = g3.O blk := by
        intro blk hlt
        show (if blk < w.heap.size then _ else _) = _
        rw [if_neg hlt]
      have hflB : po.flat = true → flatB po.boxes = true := fun e => by unfold PSh.flat at e; exact (and3 e).1
      have hflS : po.flat = true → flatS po.slots = true := fun e => by unfold PSh.flat at e; exact (and3 e).2
      obtain ⟨i1, i2⟩ := look_decB2 (fl := po.flat) c (l := po.boxes) (j := 0) (d := o.1) hflB
      have hlookN : ∀ b, look (typedSem.appB (po.decB c o) (killL bs gone)) b = match look (po.decB c o) b with | some x => some x | none => look (killL bs gone) b := fun b => look_app _ _ b
      have hnew : ∀ b x, look (po.decB c o) b = some x → look bs b = none ∧ ∃ k < lenB po.boxes, b = c + k := by
        intro b x hx
        obtain ⟨⟨k, _, k2, rfl⟩, _⟩ := i1 b x hx
        have k2 : k < lenB po.boxes := by omega
        exact ⟨hfr k k2, k, k2, rfl⟩
      have hold : ∀ b, look bs b ≠ none → look (po.decB c o) b = none ∧ gN.hd b = g.hd b := by
        intro b hne
        constructor
        · cases hq : look (po.decB c o) b with
          | none => rfl
          | some x => exact absurd (hnew b x hq).1 hne
        · show (if c ≤ b ∧ b < c + lenB po.boxes then g3.hd b else g.hd b) = g.hd b
          rw [if_neg]
          rintro ⟨q1, q2⟩
          have := hfr (b - c) (by omega)
          rw [show c + (b - c) = b by omega] at this
          exact hne this
      have hnv : ∀ b, nextVer bs b ≠ 0 → look bs b ≠ none := by
        intro b hb' e
        simp only [nextVer, e] at hb'
        exact hb' rfl
      have hover : Over po.flat g3 gN c (lenB po.boxes) (typedSem.appB (po.decB c o) (killL bs gone)) (po.decB c o) w' := by
        refine ⟨fun hf blk hok => ⟨?_, hok.2⟩, fun blk k hk ho => ?_, fun k hk => ?_, fun k hk => ?_⟩
        · by_cases hlt : blk < w.heap.size
          · cases ho : g.O blk with
            | none => exact (hN blk hlt ho).1
            | some b =>
              by_cases hmf : mfind m b = none
              · obtain ⟨s1, s2, s3, s4⟩ := hS blk b hlt ho hmf
                by_cases hz : b ∈ zz ∧ b ≠ 0
                · rw [s4, if_pos ⟨hf, hz⟩]
                · have := s2 hz
                  rw [hok.1] at this; cases this
              · rw [hM blk b hlt ho hmf]; exact hok.1
          · rw [hB blk hlt]; exact hok.1
        · by_cases hlt : blk < w.heap.size
          · cases hgo : g.O blk with
            | none =>
              have := (hN blk hlt hgo).2.1
              rw [ho] at this; cases this
            | some b =>
              by_cases hmf : mfind m b = none
              · obtain ⟨s1, s2, s3, s4⟩ := hS blk b hlt hgo hmf
                by_cases hz : b ∈ zz ∧ b ≠ 0
                · have := s1 hz
                  rw [ho] at this; cases this
                · have := s2 hz
                  rw [ho] at this
                  simp only [Option.some.injEq] at this
                  omega
              · rw [hM blk b hlt hgo hmf]; exact ho
          · rw [hB blk hlt]; exact ho
        · show (if c ≤ c + k ∧ c + k < c + lenB po.boxes then g3.hd (c + k) else g.hd (c + k)) = _
          rw [if_pos ⟨by omega, by omega⟩]
        · rw [hlookN]
          obtain ⟨x, hx⟩ := i2 k (Nat.zero_le _) (by omega)
          rw [show look (po.decB c o) (c + k) = some x from hx]
      have hnx : ∀ i, 0 < nextVer (po.decB c o) i → ∃ k < lenB po.boxes, i = c + k := by
        intro i hi
        cases hq : look (po.decB c o) i with
        | none => simp only [nextVer, hq] at hi; omega
        | some x => exact (hnew i x hq).2
      have hkill : ∀ b, look bs b ≠ none → look (typedSem.appB (po.decB c o) (killL bs gone)) b = if b ∈ gone then (look bs b).map (fun x => (x.1, BoxC.dead)) else look bs b := by
        intro b hne
        rw [hlookN, (hold b hne).1]
        exact look_killL bs b gone
      have fr : Fr g w gN w' := by
        refine ⟨r3.os, r3.tape, r3.output, r3.size, fun b ho hlt => ⟨(hN b hlt ho).1, (hN b hlt ho).2.2⟩, fun b ho hlt => ?_⟩
        have hmf : mfind m 0 = none := by
          cases hq : mfind m 0 with
          | none => rfl
          | some k =>
            unfold PSh.enc at hd
            obtain ⟨hc, _⟩ := bif_some hd
            rw [hm] at hc
            exact (mfind_ne0 hc hq).elim
        obtain ⟨s1, s2, s3, s4⟩ := hS b 0 hlt ho hmf
        rw [if_neg (by simp)] at s4
        exact ⟨s4, s3⟩
      have he : Ext g bs w gN (typedSem.appB (po.decB c o) (killL bs gone)) w' := by
        refine ⟨fr, fun b => ?_, fun b ver T cells hv' hbx => ?_, fun b ver T t xs hv' hbx => ?_⟩
        · by_cases hne : look bs b = none
          · simp only [nextVer, hne]; exact Nat.zero_le _
          · simp only [nextVer, hkill b hne]
            by_cases hin : b ∈ gone
            · rw [if_pos hin]
              cases hq : look bs b with
              | none => exact absurd hq hne
              | some x => obtain ⟨v, cc⟩ := x; simp
            · rw [if_neg hin]; exact Nat.le_refl _
        · have hne := hnv b (by omega)
          simp only [getBox, hkill b hne] at hbx
          by_cases hin : b ∈ gone
          · rw [if_pos hin] at hbx
            cases hq : look bs b with
            | none => exact absurd hq hne
            | some x =>
              rw [hq] at hbx
              simp only [Option.map_some] at hbx
              cases hq3 : Nat.beq x.1 ver <;> rw [hq3] at hbx <;> cases hbx
          · rw [if_neg hin] at hbx
            exact ⟨⟨cells, by simp only [getBox]; exact hbx⟩, (hold b hne).2⟩
        · have hne := hnv b (by omega)
          simp only [getBox, hkill b hne] at hbx
          by_cases hin : b ∈ gone
          · rw [if_pos hin] at hbx
            cases hq : look bs b with
            | none => exact absurd hq hne
            | some x =>
              rw [hq] at hbx
              simp only [Option.map_some] at hbx
              cases hq3 : Nat.beq x.1 ver <;> rw [hq3] at hbx <;> cases hbx
          · rw [if_neg hin] at hbx
            exact ⟨⟨xs, by simp only [getBox]; exact hbx, rfl⟩, (hold b hne).2⟩
      refine ⟨u, _, _, gN, rfl, hs, over_res (d := o.2) hover hnx hflS r1, ?_, he⟩
      intro b ver x hl
      by_cases hne : look bs b = none
      · -- one of the callee's
        have hl' : look (po.decB c o) b = some (ver, x) := by
          rw [hlookN] at hl
          cases hq : look (po.decB c o) b with
          | some y => rw [hq] at hl; exact hl
          | none =>
            rw [hq] at hl
            simp only [look_killL, hne, Option.map_none, ite_self] at hl
            cases hl
        obtain ⟨⟨k, _, hk, rfl⟩, hx⟩ := i1 b _ hl'
        have hk : k < lenB po.boxes := by omega
        have hbox := r2 _ _ _ hl'
        have hhd : gN.hd (c + k) = g3.hd (c + k) := hover.hd k hk
        rcases hx with ⟨T, cs, d', hf, e⟩ | ⟨T, t, xs, hf, e⟩
        · simp only at e
          subst e
          obtain ⟨blk, arr, b1, b2, b3, b4⟩ := hbox
          exact ⟨blk, arr, hhd.trans b1, hover.own blk k hk b2, b3, over_leaf hover hnx hf b4⟩
        · simp only at e
          subst e
          obtain ⟨cs, b1, b2, b3⟩ := hbox
          refine ⟨cs, by rw [hhd]; exact b1, b2.mono fun x c' hr => ?_, fun blk hblk => hover.own blk k hk (b3 blk (by rw [hhd] at hblk; exact hblk))⟩
          cases hfl : po.flat with
          | true => exact rep_flat (E := E) (hf hfl) hr
          | false => exact Rep.mono (fun q hq => ⟨hover.ok hfl q hq, rfl⟩) hr
      · rw [hkill b hne] at hl
        by_cases hin : b ∈ gone
        · rw [if_pos hin] at hl
          cases hq : look bs b with
          | none => exact absurd hq hne
          | some y =>
            rw [hq] at hl
            simp only [Option.map_some, Option.some.injEq, Prod.mk.injEq] at hl
            obtain ⟨_, rfl⟩ := hl
            trivial
        · rw [if_neg hin] at hl
          have hbox := hb b ver x hl
          have hmf : mfind m b = none := by
            cases hq : mfind m b with
            | none => rfl
            | some k => exact absurd (hg1 b (by rw [hq]; simp)) hin
          have hhd := (hold b hne).2
          have hkeep : ∀ blk, blk < w.heap.size → g.O blk = some b → gN.O blk = some b ∧ w'.heap[blk]? = w.heap[blk]? := by
            intro blk hlt ho
            obtain ⟨s1, s2, s3, s4⟩ := hS blk b hlt ho hmf
            refine ⟨?_, s3⟩
            rw [s4, if_neg]
            rintro ⟨hf, hz, _⟩
            exact hin (hg2 hf b hz)
          cases x with
          | dead => trivial
          | var T cells =>
            obtain ⟨blk, arr, b1, b2, b3, b4⟩ := hbox
            have hlt : blk < w.heap.size := (Array.getElem?_eq_some_iff.1 b3).1
            exact ⟨blk, arr, hhd.trans b1, (hkeep blk hlt b2).1, (hkeep blk hlt b2).2.trans b3, b4.mono fun _ _ => LRel.keep he⟩
          | row T t xs =>
            obtain ⟨cs, b1, b2, b3⟩ := hbox
            refine ⟨cs, ?_, b2.mono fun _ _ => Rep.mono he.fr.okB, ?_⟩
            · rw [hhd]
              exact ownsRow_of_block b1 fun blk hblk => (hkeep blk (World.ownsRow.lt b1 blk hblk).2 (b3 blk hblk)).2
            · rw [hhd]
              intro blk hblk
              exact (hkeep blk (World.ownsRow.lt b1 blk hblk).2 (b3 blk hblk)).1
  · cases hs
end
end Go.Proofs.Ytecilflgjakhcaa.Ev
