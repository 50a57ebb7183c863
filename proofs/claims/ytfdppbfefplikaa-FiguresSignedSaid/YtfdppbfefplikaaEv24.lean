/- A region that draws its order: operations that are apart may be swapped. -/
import Derived.Test.YtfdppbfefplikaaEv23
namespace Go.Proofs.Ytfdppbfefplikaa.Ev
open Go
open Go.RowKit
set_option linter.unusedVariables false
set_option linter.unusedSimpArgs false
set_option linter.unusedSectionVars false
section
variable {P : Program} {E : Env} {R : Type} {out : R} {g0 g g' : Gh} {w0 w w' : World} {sl sl2 : List AV} {bs0 bs bs2 : Boxes} {a : Act}

theorem map_opnd {l : List Operand} (h : ∀ x ∈ l, opnd sl2 x = opnd sl x) : l.map (opnd sl2) = l.map (opnd sl) := List.map_congr_left h
theorem optInt_congr {o : Option Operand} (h : ∀ x, o = some x → opnd sl2 x = opnd sl x) : optInt o sl2 = optInt o sl := by
  cases o with
  | none => rfl
  | some x => simp only [optInt, h x rfl]
theorem evOp_congr {o : Oper} (h : ∀ x ∈ o.op.operands, opnd sl2 x = opnd sl x) (bs : Boxes) (R : Type) (K : AV → Boxes → Option R) : evOp E o sl2 bs K = evOp E o sl bs K := by
  obtain ⟨dst, op, type, pos, after, guard⟩ := o
  cases op <;> simp only [Op.operands] at h <;> simp only [evOp]
  case slice T x lo hi mx =>
    have hx : opnd sl2 x = opnd sl x := h x (by simp)
    have h1 : optInt lo sl2 = optInt lo sl := optInt_congr fun y hy => h y (by simp [hy])
    have h2 : optInt hi sl2 = optInt hi sl := optInt_congr fun y hy => h y (by simp [hy])
    cases mx <;> simp only [hx, h1, h2]
  case build T ps =>
    have e : (ps.toList.map fun p => (p.1, opnd sl2 p.2)) = ps.toList.map fun p => (p.1, opnd sl p.2) :=
      List.map_congr_left fun p hp => by rw [h p.2 (by simp only [List.mem_toArray, List.mem_map]; exact ⟨p, hp, rfl⟩)]
    rw [e]
  case buildSlice T n ps =>
    have e : (ps.toList.map fun p => (p.1, opnd sl2 p.2)) = ps.toList.map fun p => (p.1, opnd sl p.2) :=
      List.map_congr_left fun p hp => by rw [h p.2 (by simp only [List.mem_toArray, List.mem_map]; exact ⟨p, hp, rfl⟩)]
    rw [e]
  case makeFunc fn fs caps =>
    rw [map_opnd fun x hx => h x (by simp only [Array.mem_append]; exact .inr (by simpa using hx))]
  case call c =>
    obtain ⟨callee, args, ts⟩ := c
    have e : args.toList.map (opnd sl2) = args.toList.map (opnd sl) := map_opnd fun x hx => h x (by simp [Call.operands]; cases callee <;> simp_all)
    cases callee with
    | value f =>
      have hf : opnd sl2 f = opnd sl f := h f (by simp [Call.operands])
      simp only [hf, e]
    | builtin b => simp only [e]
    | invoke r m => rfl
  all_goals first
    | rfl
    | (simp_all; done)
theorem Eff.of_det {A : Option (List Nat)} {f : Boxes → (R : Type) → (AV → Boxes → Option R) → Option R} {K : AV → Boxes → Option R} {p : (R : Type) → (AV → Option R) → Option R}
    (h : Det p (fun v => K v bs) out) (e : ∀ bs2 (R' : Type) (K' : AV → Boxes → Option R'), f bs2 R' K' = p R' fun v => K' v bs2) : Eff A f bs K out := by
  obtain ⟨v, h1, h2⟩ := h
  exact Eff.val ⟨v, h1, fun bs2 _ R' K' => (e bs2 R' K').trans (h2 R' _)⟩
theorem det_makeFunc {fn : Fn} {b : Bool} {caps : List AV} {K : AV → Option R} (h : evMakeFunc fn b caps K = some out) : Det (fun R (K : AV → Option R) => evMakeFunc fn b caps K) K out := by
  unfold evMakeFunc at h
  split at h
  · rename_i f
    obtain ⟨h0, h'⟩ := bif_some h
    exact ⟨_, h', fun R' K' => by simp only [evMakeFunc, h0, cond_true]⟩
  · cases h
theorem mem_catN : ∀ {l m : List Nat} {b : Nat}, b ∈ catN l m ↔ b ∈ l ∨ b ∈ m
  | [], m, b => by simp [catN]
  | a :: l, m, b => by simp [catN, mem_catN (l := l), or_assoc]
theorem ment_two {x y : AV} : (∀ b ∈ ment [x], b ∈ ment [x, y]) ∧ (∀ b ∈ ment [y], b ∈ ment [x, y]) := by
  constructor
  · intro b hb
    cases x <;> simp_all [ment, mem_catN]
  · intro b hb
    cases x <;> simp_all [ment, mem_catN]
theorem eff_op (hE : EnvOk P E) {o : Oper} {K : AV → Boxes → Option R} (hd : detB E o sl = true) (h : evOp E o sl bs K = some out) : Eff (foot E o sl bs) (fun bs R K => evOp E o sl bs K) bs K out := by
  obtain ⟨dst, op, type, pos, after, guard⟩ := o
  unfold evOp at h
  simp only at h
  split at h
  · exact Eff.val ⟨_, h, fun bs2 _ R' K' => rfl⟩
  · exact Eff.val ⟨_, h, fun bs2 _ R' K' => rfl⟩
  · rename_i c x y
    split at h
    · rename_i t ht
      cases t with
      | true => exact Eff.val ⟨_, h, fun bs2 _ R' K' => by simp only [evOp, ht, cond_true]⟩
      | false => exact Eff.val ⟨_, h, fun bs2 _ R' K' => by simp only [evOp, ht, cond_false]⟩
    · cases h
  · rename_i op T x y z
    have hk : isSliceK (kindOf E T) = false := by simpa [detB] using hd
    exact Eff.of_det (det_bin hk h) fun bs2 R' K' => rfl
  · exact Eff.of_det (det_un h) fun bs2 R' K' => rfl
  · rename_i s d x
    exact eff_conv h
  · rename_i t i
    split at h
    · rename_i l hl
      split at h
      · rename_i v hv
        exact Eff.val ⟨v, h, fun bs2 _ R' K' => by simp only [evOp, hl, hv]⟩
      · cases h
    · cases h
  · rename_i t x
    split at h
    · rename_i n hn
      obtain ⟨h1, h⟩ := bif_some h
      exact Eff.val ⟨_, h, fun bs2 _ R' K' => by simp only [evOp, hn, h1, cond_true]⟩
    · cases h
  · exact Eff.of_det (det_assert h) fun bs2 R' K' => rfl
  · rename_i T x
    obtain ⟨v, h1, h2⟩ := det_load h
    exact Eff.val ⟨v, h1, fun bs2 ha R' K' => h2 bs2 ha R' fun v => K' v bs2⟩
  · rename_i T x y
    exact eff_store h
  · rename_i T x f
    obtain ⟨v, h1, h2⟩ := det_fieldAddr h
    exact Eff.val ⟨v, h1, fun bs2 ha R' K' => h2 bs2 ha R' fun v => K' v bs2⟩
  · exact Eff.of_det (det_field h) fun bs2 R' K' => rfl
  · rename_i x
    split at h
    · rename_i b v off hx
      obtain ⟨h1, h⟩ := bif_some h
      refine Eff.val ⟨_, h, fun bs2 ha R' K' => ?_⟩
      have hb : look bs2 b = look bs b := ha b (by rw [hx]; simp [ment])
      simp only [evOp, hx, getBox_agr hb, h1, cond_true]
    · rename_i t y off hx
      exact Eff.val ⟨_, h, fun bs2 ha R' K' => by simp only [evOp, hx]⟩
    · rename_i t p hx
      cases p with
      | none => cases h
      | some y => exact Eff.val ⟨_, h, fun bs2 ha R' K' => by simp only [evOp, hx]; rfl⟩
    · cases h
  · rename_i T x i
    obtain ⟨v, h1, h2⟩ := det_indexAddr h
    exact Eff.val ⟨v, h1, fun bs2 ha R' K' => h2 bs2 ha R' fun v => K' v bs2⟩
  · exact Eff.of_det (det_index h) fun bs2 R' K' => rfl
  · rename_i T x lo hi
    split at h
    · rename_i l u hl hh
      obtain ⟨v, h1, h2⟩ := det_slice h
      exact Eff.val ⟨v, h1, fun bs2 ha R' K' => by simp only [evOp, hl, hh]; exact h2 bs2 R' _⟩
    · cases h
  · rename_i T
    split at h
    · rename_i z hz
      obtain ⟨v, ch, k1, k2, k3⟩ := eff_newVar h
      exact ⟨v, ch, k1, fun bs2 ha R' K' => by simp only [evOp, hz]; exact k2 bs2 ha R' K', k3⟩
    · cases h
  · rename_i T x
    split at h
    · rename_i r hr
      obtain ⟨h1, h⟩ := bif_some h
      obtain ⟨v, ch, k1, k2, k3⟩ := eff_newVar h
      exact ⟨v, ch, k1, fun bs2 ha R' K' => by simp only [evOp, hr, h1, cond_true]; exact k2 bs2 ha R' K', k3⟩
    · cases h
  · exact Eff.of_det (det_build h) fun bs2 R' K' => rfl
  · rename_i T n ps
    exact eff_buildSlice h
  · exact Eff.of_det (det_makeFunc h) fun bs2 R' K' => rfl
  · rename_i T n m
    exact eff_makeSlice h
  · -- a call
    rename_i f xs ts
    unfold callOp at h
    split at h
    · rename_i fid caps hf
      split at h
      · rename_i s hs
        have hok := hE.calls fid s hs
        cases caps with
        | cons c cs => simp [detB, hf] at hd
        | nil =>
          simp only [detB, hf, hs] at hd
          obtain ⟨n, hn⟩ := Option.isSome_iff_exists.1 hd
          have he := hok.eff n hn _ _ _ _ _ _ h
          have hfoot : foot E ⟨dst, .call { callee := .value f, args := xs, argTypes := ts }, type, pos, after, guard⟩ sl bs = callFoot (E.nid dst) (xs.toList.map (opnd sl) ++ []) bs n := by
            simp only [foot, hf, hs, hn, callFoot, List.append_nil]
          rw [hfoot]
          obtain ⟨v, ch, k1, k2, k3⟩ := he
          exact ⟨v, ch, k1, fun bs2 ha R' K' => by simp only [evOp, callOp, hf, hs]; exact k2 bs2 ha R' K', k3⟩
      · cases h
    · cases h
  · -- a builtin
    rename_i b xs ts
    split at h
    · rename_i T l x hts hx
      obtain ⟨v, h1, h2⟩ := det_len h
      refine Eff.val ⟨v, h1, fun bs2 ha R' K' => ?_⟩
      simp only [evOp, hts, hx]
      refine h2 bs2 (fun b hb => ha b ?_) R' _
      simp only [foot, hx]
      exact mem_catN.2 (.inr hb)
    · rename_i T T' x y hts hx
      obtain ⟨hT, h'⟩ := bif_some h
      have := eff_append (A := catN (nidL (E.nid dst)) (ment [x, y])) (fun b hb => mem_catN.2 (.inl hb)) (fun b hb => mem_catN.2 (.inr (ment_two.1 b hb))) (fun b hb => mem_catN.2 (.inr (ment_two.2 b hb))) h'
      obtain ⟨v, ch, k1, k2, k3⟩ := this
      have hfoot : foot E ⟨dst, .call { callee := .builtin .append, args := xs, argTypes := ts }, type, pos, after, guard⟩ sl bs = some (catN (nidL (E.nid dst)) (ment [x, y])) := by
        simp only [foot, hx]
      rw [hfoot]
      exact ⟨v, ch, k1, fun bs2 ha R' K' => by simp only [evOp, hts, hx, hT, cond_true]; exact k2 bs2 ha R' K', k3⟩
    · refine Eff.of_det (det_mm h) fun bs2 R' K' => ?_
      rfl
    · refine Eff.of_det (det_mm h) fun bs2 R' K' => ?_
      rfl
    · cases h
  · cases h
end
end Go.Proofs.Ytfdppbfefplikaa.Ev
