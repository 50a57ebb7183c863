/- Every operation of the evaluator is sound; so is a region in its order. -/
import Derived.Test.YtfdppbfefplikaaEv13
namespace Go.Proofs.Ytfdppbfefplikaa.Ev
open Go
open Go.RowKit
set_option linter.unusedVariables false
set_option linter.unusedSimpArgs false
section
variable {P : Program} {E : Env} {R : Type} {out : R} {g0 g g' : Gh} {w0 w w' : World} {sl : List AV} {bs0 bs bs' : Boxes} {a : Act}

/-- What an operation leaves. -/
def Next1 (ET : TypeId) (out : R) (g : Gh) (bs : Boxes) (w : World) (K : AV → Boxes → Option R) (u : Value) (w' : World) : Prop :=
  ∃ v bs' g', K v bs' = some out ∧ VRel ET g' bs' w' v u ∧ BsRel ET g' bs' w' ∧ Ext g bs w g' bs' w'
theorem wp_done {o : Oper} {W : Act → World → Prop} {Q : Post} {K : AV → Boxes → Option R} {s : Sem Value}
    (hs : (execOp a.eval o).run P w = (s >>= fun v => pure (.value v)).run P w) (h : Done P E.ET out g bs w K s)
    (hW : ∀ u w', Next1 E.ET out g bs w K u w' → W (a.put o.dst u) w') : o.wp P a w W Q := by
  obtain ⟨v, u, bs', g', w', h1, h2, h3, h4, h5⟩ := h
  refine wp_val (u := u) (w' := w') ?_ (hW u w' ⟨v, bs', g', h1, h3, h4, h5⟩)
  rw [hs, Sem.run_bind, h2]; rfl
theorem args_rel (hr : Rel E.ET g0 bs0 w0 g ⟨sl, bs⟩ a w) : ∀ (xs : List Operand), All2 (VRel E.ET g bs w) (xs.map (opnd sl)) (xs.map a.eval)
  | [] => trivial
  | x :: xs => ⟨opnd_rel hr x, args_rel hr xs⟩
theorem parts_rel (hr : Rel E.ET g0 bs0 w0 g ⟨sl, bs⟩ a w) : ∀ (xs : List (Nat × Operand)),
    All2 (fun p q => p.1 = q.1 ∧ VRel E.ET g bs w p.2 q.2) (xs.map fun p => (p.1, opnd sl p.2)) (xs.map fun p => (p.1, a.eval p.2))
  | [] => trivial
  | x :: xs => ⟨⟨rfl, opnd_rel hr x.2⟩, parts_rel hr xs⟩
theorem lift1 {K : AV → Boxes → Option R} {s : Sem Value} (hb : BsRel E.ET g bs w) (h : ∃ v u, (fun v => K v bs) v = some out ∧ VRel E.ET g bs w v u ∧ s.run P w = .ok u w) : Done P E.ET out g bs w K s :=
  Done.pure hb h
theorem ex_build (dst : Option Tmp) (T : TypeId) (ps : Array (Nat × Operand)) (type : TypeId) (pos : String) (nm) (guard) :
    (execOp a.eval (⟨dst, .build T ps, type, pos, nm, guard⟩ : Oper)).run P w = (Instr.build T (ps.map fun p => (p.1, a.eval p.2)) >>= fun v => pure (.value v)).run P w := by
  simp only [execOp]
theorem ex_buildSlice (dst : Option Tmp) (T : TypeId) (n : Nat) (ps : Array (Nat × Operand)) (type : TypeId) (pos : String) (nm) (guard) :
    (execOp a.eval (⟨dst, .buildSlice T n ps, type, pos, nm, guard⟩ : Oper)).run P w = (Instr.buildSlice T n (ps.map fun p => (p.1, a.eval p.2)) >>= fun v => pure (.value v)).run P w := by
  simp only [execOp]
theorem all2_app {α β : Type} {r : α → β → Prop} : ∀ {l1 l2 : List α} {m1 m2 : List β}, All2 r l1 m1 → All2 r l2 m2 → All2 r (l1 ++ l2) (m1 ++ m2)
  | [], _, [], _, _, h => h
  | _ :: _, _, _ :: _, _, ⟨h1, h2⟩, h => ⟨h1, all2_app h2 h⟩
theorem capR.up : ∀ {x : AV} {v : Value}, capR g bs x v → VRel E.ET g bs w x v
  | .ref _ _ _, _, hh => hh
  | .top, _, hh => hh.elim
  | .und, _, hh => hh.elim
  | .nilS, _, hh => hh.elim
  | .nilP, _, hh => hh.elim
  | .val _ _, _, hh => hh.elim
  | .osl _ _, _, hh => hh.elim
  | .imm _ _ _, _, hh => hh.elim
  | .oel _ _ _ _, _, hh => hh.elim
  | .fn _ _, _, hh => hh.elim
  | .agg _, _, hh => hh.elim
  | .tup _, _, hh => hh.elim
theorem caps_rel : ∀ {l : List AV} {m : List Value}, allRef l = true → All2 (VRel E.ET g bs w) l m → All2 (capR g bs) l m
  | [], [], _, _ => trivial
  | .ref b v o :: l, u :: m, h, ⟨h1, h2⟩ => ⟨h1, caps_rel (l := l) h h2⟩
  | [], _ :: _, _, hh => hh.elim
  | .ref _ _ _ :: _, [], _, hh => hh.elim
  | .top :: _, _, h, _ => by cases h
  | .und :: _, _, h, _ => by cases h
  | .nilS :: _, _, h, _ => by cases h
  | .nilP :: _, _, h, _ => by cases h
  | .val _ _ :: _, _, h, _ => by cases h
  | .osl _ _ :: _, _, h, _ => by cases h
  | .imm _ _ _ :: _, _, h, _ => by cases h
  | .oel _ _ _ _ :: _, _, h, _ => by cases h
  | .fn _ _ :: _, _, h, _ => by cases h
  | .agg _ :: _, _, h, _ => by cases h
  | .tup _ :: _, _, h, _ => by cases h
set_option maxHeartbeats 1000000 in
theorem evOp_sound (hE : EnvOk P E) {o : Oper} {K : AV → Boxes → Option R} (h : evOp E o sl bs K = some out) (hr : Rel E.ET g0 bs0 w0 g ⟨sl, bs⟩ a w) {W : Act → World → Prop} {Q : Post}
    (hW : ∀ u w', Next1 E.ET out g bs w K u w' → W (a.put o.dst u) w') : o.wp P a w W Q := by
  have hb : BsRel E.ET g bs w := hr.boxes
  obtain ⟨dst, op, type, pos, nm, guard⟩ := o
  simp only at hW
  unfold evOp at h
  simp only at h
  split at h
  · rename_i x
    exact wp_val (u := a.eval x) (w' := w) (by simp [execOp]) (hW _ _ ⟨_, _, _, h, opnd_rel hr x, hb, Ext.refl _ _ _⟩)
  · rename_i x
    exact wp_val (u := a.eval x) (w' := w) (by simp [execOp]) (hW _ _ ⟨_, _, _, h, opnd_rel hr x, hb, Ext.refl _ _ _⟩)
  · rename_i c x y
    split at h
    · rename_i t ht
      have hc : a.eval c = .bool t := by have := opnd_rel hr c; rw [ht] at this; exact rel_bool this
      cases t with
      | true => exact wp_val (u := a.eval x) (w' := w) (by simp [execOp, hc, asBool]) (hW _ _ ⟨_, _, _, h, opnd_rel hr x, hb, Ext.refl _ _ _⟩)
      | false => exact wp_val (u := a.eval y) (w' := w) (by simp [execOp, hc, asBool]) (hW _ _ ⟨_, _, _, h, opnd_rel hr y, hb, Ext.refl _ _ _⟩)
    · cases h
  · rename_i op T x y z
    exact wp_done (s := binRun op T x y (a.eval x) (a.eval y)) rfl (lift1 hb (evBin_sound hE h (opnd_rel hr x) (opnd_rel hr y))) hW
  · rename_i op T x
    exact wp_done (s := Op.unary op (a.eval x)) rfl (lift1 hb (evUn_sound h (opnd_rel hr x))) hW
  · rename_i s d x
    exact wp_done (s := convert s d (a.eval x)) rfl (conv_sound hE h (opnd_rel hr x) hb) hW
  · rename_i t i
    split at h
    · rename_i l hl
      split at h
      · rename_i v hv
        have ht := opnd_rel hr t
        rw [hl] at ht
        obtain ⟨u, h1, h2⟩ := extract_sound ht hv
        exact wp_done (s := Instr.extract (a.eval t) i) rfl (lift1 hb ⟨v, u, h, h1, h2⟩) hW
      · cases h
    · cases h
  · rename_i t x
    split at h
    · rename_i n hn
      obtain ⟨h1, h⟩ := bif_some h
      have hx := opnd_rel hr x
      rw [hn] at hx
      have hm := makeInterface_sound (w := w) (n := n) hE h1
      refine wp_done (s := Instr.makeInterface t (a.eval x)) rfl (lift1 hb ⟨_, _, h, err_rel _, ?_⟩) hW
      rw [rel_int hx]; exact hm
    · cases h
  · rename_i x xT T ok
    exact wp_done (s := Instr.typeAssert (a.eval x) xT T ok) rfl (lift1 hb (assert_sound hE h (opnd_rel hr x))) hW
  · rename_i T x
    exact wp_done (s := Instr.loadAt T (a.eval x)) rfl (lift1 hb (load_sound hE h (opnd_rel hr x) hb)) hW
  · rename_i T x y
    obtain ⟨bs', w', h1, h2, h3, h4⟩ := store_sound hE h (opnd_rel hr x) (opnd_rel hr y) hb
    exact wp_none (w' := w') (by simp only [execOp, Sem.run_bind, h2]; rfl) (hW _ _ ⟨_, _, _, h1, rfl, h3, h4⟩)
  · rename_i T x f
    exact wp_done (s := Instr.fieldAt T (a.eval x) f) rfl (lift1 hb (fieldAddr_sound hE h (opnd_rel hr x))) hW
  · rename_i T x f
    exact wp_done (s := Instr.field T (a.eval x) f) rfl (lift1 hb (field_sound hE h (opnd_rel hr x))) hW
  · rename_i x
    have hx := opnd_rel hr x
    split at h
    · rename_i b v off hbx
      rw [hbx] at hx
      obtain ⟨h1, h⟩ := bif_some h
      obtain ⟨T, cells, hc⟩ := isVar_of h1
      obtain ⟨blk, k1, k2⟩ := hx.2.2 T cells hc
      exact wp_val (u := a.eval x) (w' := w) (by simp only [execOp]; rw [k2]; rfl) (hW _ _ ⟨_, _, _, h, hx, hb, Ext.refl _ _ _⟩)
    · rename_i t y off hbx
      rw [hbx] at hx
      obtain ⟨b, o, cs, k1, k2⟩ := id hx
      exact wp_val (u := a.eval x) (w' := w) (by simp only [execOp]; rw [k1]; rfl) (hW _ _ ⟨_, _, _, h, hx, hb, Ext.refl _ _ _⟩)
    · rename_i t p hbx
      rw [hbx] at hx
      cases p with
      | none => cases h
      | some y =>
        obtain ⟨b, o, cs, k1, k2, k3, k4⟩ := val_cell hx
        simp only [List.cons.injEq, and_true] at k1
        refine wp_val (u := a.eval x) (w' := w) (by simp only [execOp]; rw [k1]; rfl) (hW _ _ ⟨_, _, _, h, ?_, hb, Ext.refl _ _ _⟩)
        exact ⟨b, o, cs, k1, k2, k3, k4⟩
    · cases h
  · rename_i T x i
    exact wp_done (s := Instr.indexAt T (a.eval x) (a.eval i)) rfl (lift1 hb (indexAddr_sound hE h (opnd_rel hr x) (opnd_rel hr i) hb)) hW
  · rename_i T x i
    exact wp_done (s := Instr.index T (a.eval x) (a.eval i)) rfl (lift1 hb (index_sound hE h (opnd_rel hr x) (opnd_rel hr i))) hW
  · rename_i T x lo hi
    split at h
    · rename_i l u hl hh
      exact wp_done (s := Instr.sliceAt T (a.eval x) (lo.map a.eval) (hi.map a.eval) none) rfl (lift1 hb (slice_sound hE h (opnd_rel hr x) (optInt_rel hr hl) (optInt_rel hr hh))) hW
    · cases h
  · rename_i T
    split at h
    · rename_i z hz
      exact wp_done (s := Instr.alloc T true (.tuple #[])) rfl (alloc_sound hE hz h hb) hW
    · cases h
  · rename_i T x
    split at h
    · rename_i r hrow
      obtain ⟨_, h⟩ := bif_some h
      exact wp_done (s := Instr.box T (a.eval x)) rfl (box_sound hE h (opnd_rel hr x) hb) hW
    · cases h
  · rename_i T ps
    have h1 := build_sound hE h (pv := ps.map fun p => (p.1, a.eval p.2)) (by rw [Array.toList_map]; exact parts_rel hr ps.toList)
    have h2 := ex_build (P := P) (w := w) (a := a) dst T ps type pos nm guard
    exact wp_done h2 (lift1 hb h1) hW
  · rename_i T n ps
    have h1 := buildSlice_sound hE h (pv := ps.map fun p => (p.1, a.eval p.2)) (by rw [Array.toList_map]; exact parts_rel hr ps.toList) hb
    have h2 := ex_buildSlice (P := P) (w := w) (a := a) dst T n ps type pos nm guard
    exact wp_done h2 h1 hW
  · rename_i fn fs caps
    unfold evMakeFunc at h
    split at h
    · rename_i f
      obtain ⟨h0, h'⟩ := bif_some h
      obtain ⟨h00, h0⟩ := and3 h0
      obtain rfl : fs = #[] := by
        obtain ⟨l⟩ := fs
        cases l with
        | nil => rfl
        | cons x l => cases h00
      exact wp_done (s := Instr.makeFunc (.func f) #[] (caps.map a.eval)) (by simp [execOp]) (lift1 hb ⟨.fn f (caps.toList.map (opnd sl)), .func (.func f) #[] (caps.map a.eval), h', (show LRel E.ET g bs w (.fn f (caps.toList.map (opnd sl))) (.func (.func f) #[] (caps.map a.eval)) from ⟨caps.toList.map a.eval, by rw [← Array.toList_map], caps_rel h0 (args_rel hr _)⟩), by simp [Instr.makeFunc]⟩) hW
    · cases h
  · rename_i T n m
    exact wp_done (s := Instr.makeSlice T (a.eval n) (a.eval m)) rfl (makeSlice_sound hE h (opnd_rel hr n) (opnd_rel hr m) hb) hW
  · -- a call
    rename_i f xs ts
    unfold callOp at h
    split at h
    · rename_i fid caps hf
      split at h
      · rename_i s hs
        have hfv := opnd_rel hr f
        rw [hf] at hfv
        obtain ⟨cv, hfv, hcap⟩ := hfv
        have hok := hE.calls fid s hs
        obtain ⟨fn, hfn, hname, hbody⟩ := hok.fn
        have hex : (execOp a.eval (⟨dst, .call { callee := .value f, args := xs, argTypes := ts }, type, pos, nm, guard⟩ : Oper)).run P w = .ok (.enter fid (xs.map a.eval ++ cv.toArray)) w := by
          have hname' : ¬ fn.name = "runtime.NumGoroutine" := by simpa using hname
          have hbody' : ¬ fn.body = none := by intro e; rw [e] at hbody; cases hbody
          simp [execOp, resolve, hfv, Deferred.ofValue, invoke, callFunc, hfn, hname', hbody']
        unfold Oper.wp
        rw [hex]
        simp only [Oper.upon_enter]
        have hc := hok.run _ _ bs R K out h g w (xs.toList.map a.eval ++ cv) (all2_app (args_rel hr _) (hcap.mono fun _ _ => capR.up)) hb
        rw [show (List.map a.eval xs.toList ++ cv).toArray = xs.map a.eval ++ cv.toArray by rw [← Array.toList_map]; simp] at hc
        refine Calls.mono hc fun e w' he => ?_
        obtain ⟨u, v, bs', g', rfl, k1, k2, k3, k4⟩ := he
        exact hW u w' ⟨v, bs', g', k1, k2, k3, k4⟩
      · cases h
    · cases h
  · -- a builtin
    rename_i b xs ts
    have hargs := args_rel hr xs.toList
    split at h
    · rename_i T l x hts hx
      rw [hx] at hargs
      match hv : xs.toList.map a.eval, hargs with
      | [xv], ⟨h1, _⟩ =>
        refine wp_done (s := Builtin.len_ ts type (xs.map a.eval)) (by simp [execOp, resolve, invoke, builtin]) (lift1 hb ?_) hW
        rw [show xs.map a.eval = #[xv] by rw [← hv, ← Array.toList_map]]
        exact len_sound hE (by rw [← Array.getElem?_toList, hts]; rfl) h h1 hb
    · rename_i T T' x y hts hx
      obtain ⟨hT, h'⟩ := bif_some h
      have hT := Nat.eq_of_beq_eq_true hT
      subst hT
      rw [hx] at hargs
      match hv : xs.toList.map a.eval, hargs with
      | [xv, yv], ⟨h1, h2, _⟩ =>
        refine wp_done (s := Builtin.append_ ts type (xs.map a.eval)) (by simp [execOp, resolve, invoke, builtin]) ?_ hW
        rw [show xs.map a.eval = #[xv, yv] by rw [← hv, ← Array.toList_map], show ts = #[T, T] by rw [← hts]]
        exact append_sound hE h' h1 h2 hb
    · refine wp_done (s := Builtin.max_ ts type (xs.map a.eval)) (by simp [execOp, resolve, invoke, builtin]) (lift1 hb ?_) hW
      obtain ⟨v, u, k1, k2, k3⟩ := mm_sound (P := P) ts type h hargs
      refine ⟨v, u, k1, k2, ?_⟩
      rw [show (List.map a.eval xs.toList).toArray = xs.map a.eval by rw [← Array.toList_map]] at k3
      simpa using k3
    · refine wp_done (s := Builtin.min_ ts type (xs.map a.eval)) (by simp [execOp, resolve, invoke, builtin]) (lift1 hb ?_) hW
      obtain ⟨v, u, k1, k2, k3⟩ := mm_sound (P := P) ts type h hargs
      refine ⟨v, u, k1, k2, ?_⟩
      rw [show (List.map a.eval xs.toList).toArray = xs.map a.eval by rw [← Array.toList_map]] at k3
      simpa using k3
    · cases h
  · cases h
/-- The state that the points keep. -/
def RlOf (ET : TypeId) (g0 : Gh) (bs0 : Boxes) (w0 : World) (kp : List Nat) (vals : List Value) : SRel := fun st a w => (∃ g, Rel ET g0 bs0 w0 g st a w) ∧ ∀ i ∈ kp, a.tmps.getD i undef = vals.getD i undef
theorem notN_iff : ∀ {l : List Nat} {n : Nat}, keepB.notN l n = true → n ∉ l
  | [], _, _ => by simp
  | a :: l, n, h => by
    simp only [keepB.notN, Bool.and_eq_true] at h
    intro hm
    rcases List.mem_cons.1 hm with rfl | hm
    · simp at h
    · exact notN_iff h.2 hm
/-- What is put does not touch what is kept. -/
theorem keep_put {kp : List Nat} {vals : List Value} {d : Option Tmp} (hd : keepB kp d = true) (u : Value) (h : ∀ i ∈ kp, a.tmps.getD i undef = vals.getD i undef) : ∀ i ∈ kp, (a.put d u).tmps.getD i undef = vals.getD i undef := by
  intro i hi
  cases d with
  | none => exact h i hi
  | some d =>
    have hne : i ≠ d := by rintro rfl; exact notN_iff hd hi
    simp only [Act.put, Array.getD_eq_getD_getElem?]
    rw [Array.getElem?_setIfInBounds_ne (Ne.symm hne), ← Array.getD_eq_getD_getElem?]
    exact h i hi
theorem condOk (ET : TypeId) (g0 : Gh) (bs0 : Boxes) (w0 : World) (kp : List Nat) (vals : List Value) : CondOk (RlOf ET g0 bs0 w0 kp vals) := by
  refine ⟨fun st a w t b ⟨⟨g, hr⟩, _⟩ hg => ?_, fun st a w t b ⟨⟨g, hr⟩, hk⟩ hg => ?_⟩
  · have := hr.slots t
    rw [hg] at this
    exact rel_bool (E := { rows := [], calls := [], ET := ET }) this
  · refine ⟨⟨g, hr.retell t ?_⟩, hk⟩
    have := hr.slots t
    rw [hg] at this
    exact this
theorem guardSlot_eq : ∀ (all : List Oper) (j : Nat), guardSlot all j = (all[j]?).bind (·.dst)
  | [], j => by simp [guardSlot]
  | o :: _, 0 => by simp [guardSlot]
  | _ :: l, n + 1 => by simp [guardSlot, guardSlot_eq l n]
/-- One operation. -/
theorem opOk (hE : EnvOk P E) {vals : List Value} {all : List Oper} {o : Oper} {st : St} {K : St → Option R} {W : Act → World → Prop} {Q : Post} (hr0 : RlOf E.ET g0 bs0 w0 E.keep vals st a w) (h : evOps E all [o] st K = some out)
    (hW : ∀ st' a' w', RlOf E.ET g0 bs0 w0 E.keep vals st' a' w' → K st' = some out → W a' w') :
    if Region.wanted o (yielded all.toArray a.tmps) then o.wp P a w W Q ∨ (o.asks P a w ∧ LetsOut Q) else W (a.put o.dst undef) w := by
  obtain ⟨⟨g, hr⟩, hkp⟩ := hr0
  obtain ⟨sl, bs⟩ := st
  unfold evOps at h
  have hkd : keepB E.keep o.dst = true := by
    cases hq : keepB E.keep o.dst with
    | true => rfl
    | false => rw [hq] at h; cases h
  rw [hkd] at h
  simp only [Bool.not_true, cond_false] at h
  have yes : ∀ sl, Rel E.ET g0 bs0 w0 g ⟨sl, bs⟩ a w → (evOp E o sl bs fun v bs => evOps E all [] ⟨putS sl o.dst v, bs⟩ K) = some out → o.wp P a w W Q :=
    fun sl hr h => evOp_sound hE h hr fun u w' ⟨v, bs', g', k1, k2, k3, k4⟩ => hW ⟨putS sl o.dst v, bs'⟩ _ w' ⟨⟨g', hr.step k4 k3 k2 o.dst⟩, keep_put hkd u hkp⟩ k1
  have no : ∀ sl, Rel E.ET g0 bs0 w0 g ⟨sl, bs⟩ a w → evOps E all [] ⟨putS sl o.dst .und, bs⟩ K = some out → W (a.put o.dst undef) w :=
    fun sl hr h => hW ⟨putS sl o.dst .und, bs⟩ _ w ⟨⟨g, hr.put (v := .und) (u := undef) (show VRel E.ET g bs w .und undef from (rfl : undef = undef)) o.dst⟩, keep_put hkd undef hkp⟩ h
  cases hg : o.guard with
  | none =>
    rw [hg] at h
    rw [if_pos (by simp [Region.wanted, hg])]
    exact .inl (yes sl hr h)
  | some jw =>
    obtain ⟨j, want⟩ := jw
    rw [hg] at h
    simp only at h
    rw [guardSlot_eq] at h
    split at h
    · cases h
    · rename_i s hs
      have hy : yielded all.toArray a.tmps j = match a.tmps[s]? with | some (.bool b) => some b | _ => none := by
        unfold yielded
        rw [show (all.toArray[j]?).bind (·.dst) = some s by rw [← hs]; simp]
        rfl
      have hslot := hr.slots s
      split at h
      · rename_i b hb
        rw [hb] at hslot
        have hv := rel_bool hslot
        have hlt : s < a.tmps.size := by
          rcases Nat.lt_or_ge s a.tmps.size with h1 | h1
          · exact h1
          · rw [getS_ge sl s (Nat.le_trans hr.size h1)] at hb; cases hb
        have hy : yielded all.toArray a.tmps j = some b := by
          rw [hy]
          rw [Array.getElem?_eq_getElem hlt]
          rw [Array.getD, dif_pos hlt] at hv
          rw [show a.tmps[s] = Value.bool b from hv]
        have hr' : Rel E.ET g0 bs0 w0 g ⟨setS sl s (.val .bool b), bs⟩ a w := hr.retell s hslot
        have hwt : Region.wanted o (yielded all.toArray a.tmps) = (some b == some want) := by simp only [Region.wanted, hg, hy]
        rw [hwt]
        cases b <;> cases want <;> simp only [cond_true, cond_false] at h
        · rw [if_pos (by decide)]; exact .inl (yes _ hr' h)
        · rw [if_neg (by decide)]; exact no _ hr' h
        · rw [if_neg (by decide)]; exact no _ hr' h
        · rw [if_pos (by decide)]; exact .inl (yes _ hr' h)
      · rename_i hb
        rw [hb] at hslot
        have hv : a.tmps.getD s undef = undef := hslot
        have hy : yielded all.toArray a.tmps j = none := by
          rw [hy]
          by_cases hlt : s < a.tmps.size
          · rw [Array.getElem?_eq_getElem hlt]
            rw [Array.getD, dif_pos hlt] at hv
            rw [show a.tmps[s] = undef from hv]; rfl
          · rw [Array.getElem?_eq_none (Nat.le_of_not_lt hlt)]
        simp only [Region.wanted, hg, hy]
        rw [if_neg (by simp)]
        exact no _ hr h
      · cases h
theorem regOk (hE : EnvOk P E) (g0 : Gh) (bs0 : Boxes) (w0 : World) (vals : List Value) : RegOk (R := R) P E (RlOf E.ET g0 bs0 w0 E.keep vals) out := by
  intro all ops
  induction ops with
  | nil => intro st K a w Q hr h hK; exact hK st a w hr h
  | cons o rest ih =>
    intro st K a w Q ⟨⟨g, hr⟩, hkp⟩ h hK
    simp only [evOpsF] at h
    obtain ⟨g, hr⟩ := freezeT_rel (E := E) (frzOf E.frz o.dst) hr
    unfold wpList
    exact opOk hE ⟨⟨g, hr⟩, hkp⟩ h fun st' a' w' h1 h2 => ih st' K a' w' Q h1 h2 hK
end
end Go.Proofs.Ytfdppbfefplikaa.Ev
