/- The evaluator's new variables, struct values, rows and appends are sound. -/
import Derived.Test.YtfdppbfefplikaaEv31
namespace Go.Proofs.Ytfdppbfefplikaa.Ev
open Go
open Go.RowKit
set_option linter.unusedVariables false
set_option linter.unusedSimpArgs false
section
variable {P : Program} {E : Env} {R : Type} {out : R} {g0 g g' : Gh} {w0 w w' : World} {sl : List AV} {bs0 bs bs' : Boxes} {a : Act}

theorem alloc_sound (hE : EnvOk P E) {d : Option Tmp} {T : TypeId} {z : List AV} {K : AV → Boxes → Option R} (hz : zeroRow E T = some z) (h : newVar d bs T z K = some out) (hb : BsRel E.ET g bs w) :
    Done P E.ET out g bs w K (Instr.alloc T true (.tuple #[])) := by
  unfold zeroRow at hz
  split at hz
  · rename_i r hr
    simp only [Option.some.injEq] at hz
    subst hz
    obtain ⟨i, zv, hi, _, _, hzv, hzr, _⟩ := (hE.rows T r hr).info
    obtain ⟨v, bs', g', h1, h2, h3, h4⟩ := newVar_sound h hb (hzr g bs w)
    refine ⟨v, _, bs', g', _, h1, ?_, h2, h3, h4⟩
    simp [Instr.alloc, zeroValue, typeInfo, hi, hzv, Go.newVar, Go.newRow]
  · cases hz
theorem box_sound (hE : EnvOk P E) {d : Option Tmp} {T : TypeId} {x : AV} {xv : Value} {K : AV → Boxes → Option R} (h : newVar d bs T (leaves x) K = some out) (hx : VRel E.ET g bs w x xv) (hb : BsRel E.ET g bs w) :
    Done P E.ET out g bs w K (Instr.box T xv) := by
  have ho : allOk (leaves x) = true := by
    unfold newVar at h
    cases d with
    | none => cases h
    | some d => exact (bif_some h).1
  obtain ⟨v, bs', g', h1, h2, h3, h4⟩ := newVar_sound h hb (leaves_rel ho hx).1
  refine ⟨v, _, bs', g', _, h1, ?_, h2, h3, h4⟩
  simp [Instr.box, Go.newVar, Go.newRow]

/-! ### struct and array values -/
theorem set_splice {L : List Value} {a : Nat} (v : Value) (vs : List Value) (h : a < L.length) :
    (L.set a v).take (a + 1) ++ vs ++ (L.set a v).drop (a + 1 + vs.length) = L.take a ++ v :: vs ++ L.drop (a + (v :: vs).length) := by
  have e : L = L.take a ++ (L[a] :: L.drop (a + 1)) := by
    conv => lhs; rw [← List.take_append_drop a L]
    congr 1
    exact List.drop_eq_getElem_cons h
  have hA : (L.take a).length = a := by rw [List.length_take, Nat.min_eq_left (Nat.le_of_lt h)]
  generalize L.take a = A at e hA
  generalize L[a] = x at e
  generalize L.drop (a + 1) = B at e
  subst e
  subst hA
  have h1 : (A ++ x :: B).set A.length v = A ++ v :: B := by simp
  rw [h1]
  have h2 : (A ++ v :: B).take (A.length + 1) = A ++ [v] := by rw [List.take_length_add_append]; rfl
  have h3 : (A ++ v :: B).drop (A.length + 1 + vs.length) = B.drop vs.length := by
    rw [Nat.add_assoc, List.drop_length_add_append, Nat.add_comm 1]; rfl
  have h4 : (A ++ x :: B).drop (A.length + (v :: vs).length) = B.drop vs.length := by
    rw [List.drop_length_add_append]; rfl
  rw [h2, h3, h4]
  simp
theorem foldl_set (vs : List Value) : ∀ (o : Nat) (cells : Array Value), o + vs.length ≤ cells.size →
    (vs.zipIdx.foldl (fun (cs : Array Value) (x : Value × Nat) => cs.setIfInBounds (o + x.2) x.1) cells).toList = cells.toList.take o ++ vs ++ cells.toList.drop (o + vs.length) := by
  have gen : ∀ (vs : List Value) (k o : Nat) (cells : Array Value), o + k + vs.length ≤ cells.size →
      ((vs.zipIdx k).foldl (fun (cs : Array Value) (x : Value × Nat) => cs.setIfInBounds (o + x.2) x.1) cells).toList = cells.toList.take (o + k) ++ vs ++ cells.toList.drop (o + k + vs.length) := by
    intro vs
    induction vs with
    | nil => intro k o cells _; simp
    | cons v vs ih =>
      intro k o cells h
      simp only [List.length_cons] at h
      rw [List.zipIdx_cons, List.foldl_cons, ih (k + 1) o _ (by simp; omega)]
      simp only [Array.toList_setIfInBounds]
      have hlt : o + k < cells.toList.length := by rw [Array.length_toList]; omega
      exact set_splice v vs hlt
  intro o cells h
  exact gen vs 0 o cells h
theorem fill_rel {fs : List (Nat × Nat × Bool)} {place : Nat → Option (Nat × Nat)} (hp : ∀ i o n ag, fs[i]? = some (o, n, ag) → place i = some (o, n)) :
    ∀ {parts : List (Nat × AV)} {pv : List (Nat × Value)} {cells out' : List AV} {cv : Array Value},
      buildCells fs cells parts = some out' → All2 (fun p q => p.1 = q.1 ∧ VRel E.ET g bs w p.2 q.2) parts pv → All2 (LRel E.ET g bs w) cells cv.toList →
      (∀ p ∈ parts, allOk (leaves p.2) = true ∨ ∃ l, p.2 = .agg l) →
      ∃ ov, Instr.fill place cv pv = some ov ∧ All2 (LRel E.ET g bs w) out' ov.toList
  | [], [], cells, out', cv, h, _, hc, _ => by
    simp only [buildCells, Option.some.injEq] at h
    subst h
    exact ⟨cv, rfl, hc⟩
  | [], _ :: _, _, _, _, _, h, _, _ => h.elim
  | _ :: _, [], _, _, _, _, h, _, _ => h.elim
  | (i, v) :: rest, (i', u) :: restv, cells, out', cv, h, ⟨⟨hi, hv⟩, hr⟩, hc, hok => by
    simp only at hi
    subst hi
    simp only [buildCells] at h
    split at h
    · rename_i o n ag hfs
      obtain ⟨h12, h⟩ := bif_some h
      obtain ⟨h1, h2⟩ := and3 h12
      have h1 := Nat.eq_of_beq_eq_true h1
      have h2 := Nat.le_of_ble_eq_true h2
      rw [lenN_eq] at h1 h2
      have hl : All2 (LRel E.ET g bs w) (leaves v) u.cells.toList := by
        rcases hok (i, v) (by simp) with ho | ⟨l, hl⟩
        · exact (leaves_rel ho hv).1
        · simp only at hl
          subst hl
          obtain ⟨vs, rfl, ha⟩ := hv
          simpa [Value.cells, leaves] using ha
      have hul : u.cells.size = n := by rw [← h1, hl.length, Array.length_toList]
      have hcl : cells.length = cv.size := by rw [hc.length, Array.length_toList]
      obtain ⟨ov, k1, k2⟩ := fill_rel hp (cv := u.cells.zipIdx.foldl (fun cs (c, j) => cs.setIfInBounds (o + j) c) cv) h hr (by
        rw [← Array.foldl_toList, Array.toList_zipIdx, foldl_set _ o cv (by rw [Array.length_toList, hul, ← hcl]; exact h2)]
        exact setCells_all2 (α := AV) (β := Value) o hc hl (by rw [h1]; exact h2)) (fun p hp' => hok p (List.mem_cons_of_mem _ hp'))
      refine ⟨ov, ?_, k2⟩
      simp only [Instr.fill, hp i o n ag hfs]
      rw [if_neg (by rw [hul]; simp; omega)]
      exact k1
    · cases h

theorem partsOk_of : ∀ {parts : List (Nat × AV)}, partsOk parts = true → ∀ p ∈ parts, allOk (leaves p.2) = true ∨ ∃ l, p.2 = .agg l
  | [], _, p, hp => by cases hp
  | (i, x) :: l, h, p, hp => by
    have hl : partsOk l = true ∧ (allOk (leaves x) = true ∨ ∃ l, x = .agg l) := by
      cases x <;> simp_all [partsOk, leaves, allOk]
    rcases List.mem_cons.1 hp with rfl | hp
    · exact hl.2
    · exact partsOk_of hl.1 p hp
theorem arrPlaces_get : ∀ (n o sz i : Nat) (q : Nat × Nat × Bool), (arrPlaces n o sz)[i]? = some q → q.1 = o + i * sz ∧ q.2.1 = sz
  | 0, o, sz, i, q, h => by simp [arrPlaces] at h
  | n + 1, o, sz, 0, q, h => by
    simp only [arrPlaces, List.getElem?_cons_zero, Option.some.injEq] at h
    subst h; simp
  | n + 1, o, sz, i + 1, q, h => by
    simp only [arrPlaces, List.getElem?_cons_succ] at h
    obtain ⟨h1, h2⟩ := arrPlaces_get n (o + sz) sz i q h
    exact ⟨by rw [h1, Nat.add_mul]; omega, h2⟩
theorem build_sound (hE : EnvOk P E) {T : TypeId} {parts : List (Nat × AV)} {pv : Array (Nat × Value)} {K : AV → Option R} (h : evBuild E T parts K = some out)
    (hp : All2 (fun p q => p.1 = q.1 ∧ VRel E.ET g bs w p.2 q.2) parts pv.toList) : ∃ v u, K v = some out ∧ VRel E.ET g bs w v u ∧ (Instr.build T pv).run P w = .ok u w := by
  unfold evBuild at h
  split at h
  · rename_i r hr
    obtain ⟨i, z, hi, hsz, _, hz, hzr, _⟩ := (hE.rows T r hr).info
    obtain ⟨d, hd, hk, _⟩ := (hE.rows T r hr).desc
    obtain ⟨hok, h⟩ := bif_some h
    have hok := partsOk_of hok
    split at h
    · rename_i fs hkd
      rw [hkd] at hk
      obtain ⟨fields, rfl, hf, hm⟩ := hk
      split at h
      · rename_i cells hc
        obtain ⟨ov, k1, k2⟩ := fill_rel (place := fun x => (fs.map fun x => (x.1, x.2.1)).toArray[x]?) (fun j o n ag hj => by simp [hj]) hc hp (hzr g bs w) hok
        refine ⟨_, _, h, ⟨ov.toList, rfl, k2⟩, ?_⟩
        rw [Array.toArray_toList]
        refine run_build w T pv ov ?_
        simp only [Program.built, hi, hd, hz, hm]
        exact k1
      · cases h
    · rename_i n e hkd
      rw [hkd] at hk
      have hk : d = .array n e := hk
      subst hk
      split at h
      · rename_i re hre
        obtain ⟨ie, ze, hie, hsze, _⟩ := (hE.rows e re hre).info
        split at h
        · rename_i cells hc
          obtain ⟨ov, k1, k2⟩ := fill_rel (place := fun j => some (j * re.size, re.size)) (fun j o n ag hj => by
            obtain ⟨h1, h2⟩ := arrPlaces_get _ _ _ _ _ hj
            simp only at h1 h2
            rw [h1, h2, Nat.zero_add]) hc hp (hzr g bs w) hok
          refine ⟨_, _, h, ⟨ov.toList, rfl, k2⟩, ?_⟩
          rw [Array.toArray_toList]
          refine run_build w T pv ov ?_
          simp only [Program.built, hi, hd, hz, hie, hsze]
          exact k1
        · cases h
      · cases h
    · cases h
  · cases h

/-! ### rows -/
theorem fill_seq {sz : Nat} : ∀ (pv : List (Nat × Value)) (k : Nat) (cv : Array Value) (done : List Value), (∀ j p, pv[j]? = some p → p.1 = k + j ∧ p.2.cells.size = sz) →
    cv.toList.take (k * sz) = done → cv.size = (k + pv.length) * sz →
    ∃ ov, Instr.fill (fun i => some (i * sz, sz)) cv pv = some ov ∧ ov.toList = done ++ (pv.map fun p => p.2.cells.toList).flatten
  | [], k, cv, done, _, hd, hs => by
    refine ⟨cv, rfl, ?_⟩
    rw [← hd, List.take_of_length_le (by rw [Array.length_toList, hs]; simp)]
    simp
  | (i, u) :: pv, k, cv, done, hp, hd, hs => by
    obtain ⟨h1, h2⟩ := hp 0 (i, u) rfl
    simp only [Nat.add_zero] at h1 h2
    subst h1
    simp only [List.length_cons] at hs
    have hle : i * sz + sz ≤ cv.size := by
      rw [hs, ← Nat.succ_mul]; exact Nat.mul_le_mul_right _ (by omega)
    have hf := foldl_set u.cells.toList (i * sz) cv (by rw [Array.length_toList, h2]; exact hle)
    rw [← Array.toList_zipIdx, Array.foldl_toList, Array.length_toList, h2, hd] at hf
    have hdl : done.length = i * sz := by rw [← hd, List.length_take, Array.length_toList]; omega
    obtain ⟨ov, k1, k2⟩ := fill_seq (sz := sz) pv (i + 1) (u.cells.zipIdx.foldl (fun cs (c, j) => cs.setIfInBounds (i * sz + j) c) cv) (done ++ u.cells.toList)
      (fun j p hj => by
        have := hp (j + 1) p (by simpa using hj)
        exact ⟨by rw [this.1]; omega, this.2⟩)
      (by
        rw [hf, List.take_append_of_le_length (by rw [List.length_append, hdl, Array.length_toList, h2, Nat.succ_mul]; exact Nat.le_refl _)]
        exact List.take_of_length_le (by rw [List.length_append, hdl, Array.length_toList, h2, Nat.succ_mul]; exact Nat.le_refl _))
      (by
        have := congrArg List.length hf
        rw [Array.length_toList] at this
        rw [this]
        simp only [List.length_append, List.length_drop, Array.length_toList, hdl, h2]
        rw [show (i + 1 + pv.length) * sz = (i + (pv.length + 1)) * sz by congr 1; omega, ← hs]
        omega)
    refine ⟨ov, ?_, by rw [k2]; simp⟩
    simp only [Instr.fill]
    rw [if_neg (by rw [h2]; simp; omega)]
    exact k1
theorem gatherAll_rel {t : Ty} : ∀ {parts : List (Nat × AV)} {pv : List (Nat × Value)} {n : Nat} {xs : List t.den}, gatherAll bs t n parts = some xs →
    All2 (fun p q => p.1 = q.1 ∧ VRel E.ET g bs w p.2 q.2) parts pv →
    Reps (fun x c => Rep E.ET (okB g w) w t x c) xs (pv.map fun p => p.2.cells.toList).flatten ∧ xs.length = pv.length ∧ ∀ j p, pv[j]? = some p → p.1 = n + j ∧ p.2.cells.size = t.sz
  | [], [], n, xs, h, _ => by
    simp only [gatherAll, Option.some.injEq] at h
    subst h
    exact ⟨rfl, rfl, fun j p hj => by simp at hj⟩
  | [], _ :: _, _, _, _, h => h.elim
  | _ :: _, [], _, _, _, h => h.elim
  | (i, v) :: rest, (i', u) :: pv, n, xs, h, ⟨⟨hi, hv⟩, hr⟩ => by
    simp only at hi
    subst hi
    simp only [gatherAll] at h
    obtain ⟨h12, h⟩ := bif_some h
    obtain ⟨h1, h2⟩ := and3 h12
    have h1 := Nat.eq_of_beq_eq_true h1
    subst h1
    split at h
    · rename_i x hx
      split at h
      · rename_i l hl
        simp only [Option.some.injEq] at h
        subst h
        obtain ⟨k1, k2, k3⟩ := gatherAll_rel hl hr
        have hrep := gather_all hx (leaves_rel h2 hv).1
        refine ⟨⟨u.cells.toList, _, by simp, hrep, k1⟩, by simp [k2], fun j p hj => ?_⟩
        cases j with
        | zero =>
          simp only [List.getElem?_cons_zero, Option.some.injEq] at hj
          subst hj
          exact ⟨by simp, by rw [← Array.length_toList]; exact hrep.length⟩
        | succ j =>
          simp only [List.getElem?_cons_succ] at hj
          obtain ⟨e1, e2⟩ := k3 j p hj
          exact ⟨by rw [e1]; omega, e2⟩
      · cases h
    · cases h
theorem buildSlice_sound (hE : EnvOk P E) {d : Option Tmp} {T : TypeId} {len : Nat} {parts : List (Nat × AV)} {pv : Array (Nat × Value)} {K : AV → Boxes → Option R} (h : evBuildSlice E d T len parts bs K = some out)
    (hp : All2 (fun p q => p.1 = q.1 ∧ VRel E.ET g bs w p.2 q.2) parts pv.toList) (hb : BsRel E.ET g bs w) : Done P E.ET out g bs w K (Instr.buildSlice T len pv) := by
  unfold evBuildSlice at h
  split at h
  · rename_i e hk
    obtain ⟨dd, hd, rfl⟩ := und_of hE hk (by simp)
    split at h
    · rename_i r hr
      obtain ⟨h123, h⟩ := bif_some h
      obtain ⟨h12, h3⟩ := and3 h123
      obtain ⟨h1, h2⟩ := and3 h12
      have h2 := Nat.eq_of_beq_eq_true h2
      have h3 := Nat.le_of_ble_eq_true h3
      obtain ⟨r', i, hr', hi, hsz, hrs, _, hne, hro⟩ := elemRow_of hE h1
      rw [hr] at hr'
      simp only [Option.some.injEq] at hr'
      subst hr'
      obtain ⟨i', z, hi', _, _, hz, _⟩ := hro.info
      rw [hi] at hi'
      simp only [Option.some.injEq] at hi'
      subst hi'
      split at h
      · rename_i xs hxs
        obtain ⟨k1, k2, k3⟩ := gatherAll_rel hxs hp
        have hlen : pv.toList.length = len := by rw [← h2, hp.length]
        generalize hZ : (Array.range (len * i.size)).map (fun j => (if len * i.size = 0 then #[] else z.cells)[j % (if len * i.size = 0 then (#[] : Array Value) else z.cells).size]!) = Z
        have hZs : Z.size = len * i.size := by rw [← hZ]; simp
        obtain ⟨ov, f1, f2⟩ := fill_seq (sz := i.size) pv.toList 0 Z [] (fun j p hj => by
          obtain ⟨e1, e2⟩ := k3 j p hj
          exact ⟨e1, e2.trans hsz.symm⟩) (by simp) (by rw [hZs, hlen, Nat.zero_add])
        rw [List.nil_append] at f2
        rw [← f2] at k1
        have hovl : ov.size = len * i.size := by
          rw [← Array.length_toList, Reps.length (fun x c hc => Rep.length hc) k1, k2, hlen, hsz]
        have hrun : (Instr.buildSlice T len pv).run P w = .ok (.slice (some ⟨w.heap.size, 0, none⟩) len len) (w.alloc (.cells ov e)) := by
          have hnl : ¬ (2 ^ 24 < len * i.size) := by rw [hsz, ← hrs]; simpa using h3
          simp only [Instr.buildSlice, Sem.run_bind, run_underlying hd, Result.andThen_ok, run_sizeOf hi, gt_iff_lt, hnl, if_false, Sem.run_pure]
          by_cases h0 : len * i.size = 0
          · rw [if_pos h0] at hZ
            rw [if_pos h0]
            simp only [Sem.run_bind, Sem.run_pure, Result.andThen_ok]
            rw [hZ, f1]
            simp [Go.newRow]
          · rw [if_neg h0] at hZ
            rw [if_neg h0]
            simp only [Sem.run_bind, Sem.run_pure, Result.andThen_ok, zeroValue, typeInfo, run_program, hi, hz]
            rw [hZ, f1]
            simp [Go.newRow]
        have hlm : len ≤ maxLen := by
          have h0 : 0 < r.shape.sz := Nat.pos_of_ne_zero hne
          have := Nat.le_mul_of_pos_right len h0
          rw [← hrs] at this
          simp only [maxLen]; omega
        obtain ⟨v, bs', g', n1, n2, n3, n4⟩ := newRow_sound (w' := w.alloc (.cells ov e)) (hv := .slice (some ⟨w.heap.size, 0, none⟩) len len) h hb rfl rfl rfl (by simp)
          (fun q hq _ => heap_alloc_old w _ q hq) (fun q hq hlt => by simp only [Value.ownBlock, Option.some.injEq] at hq; omega)
          (by
            rw [k2, hlen]
            refine ⟨by rw [Array.length_toList, hovl, hsz], .inr ⟨w.heap.size, len, ov, rfl, Nat.zero_le _, heap_alloc_new w _, Nat.le_refl _, hlm, by rw [hovl, hsz], ?_⟩⟩
            exact List.take_of_length_le (by rw [Array.length_toList, hovl, hsz]; exact Nat.le_refl _)) k1
        exact ⟨v, _, bs', g', _, n1, hrun, n2, n3, n4⟩
      · cases h
    · cases h
  · cases h
end
end Go.Proofs.Ytfdppbfefplikaa.Ev
