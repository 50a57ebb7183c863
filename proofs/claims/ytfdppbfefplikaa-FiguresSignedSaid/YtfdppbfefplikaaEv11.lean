/- The evaluator's stores are sound. -/
import Derived.Test.YtfdppbfefplikaaEv10
namespace Go.Proofs.Ytfdppbfefplikaa.Ev
open Go
open Go.RowKit
set_option linter.unusedVariables false
set_option linter.unusedSimpArgs false
section
variable {P : Program} {E : Env} {R : Type} {out : R} {g0 g g' : Gh} {w0 w w' : World} {sl : List AV} {bs0 bs bs' : Boxes} {a : Act}

theorem asTy_rel {t : Ty} {x : AV} {v : Value} {y : t.den} (h : asTy bs t x = some y) (hx : LRel E.ET g bs w x v) : Rep E.ET (okB g w) w t y [v] := by
  unfold asTy at h
  split at h
  · rename_i k k' n
    obtain ⟨h1, h2⟩ := bif_some h
    have := kindEq_eq h1
    subst this
    simp only [Option.some.injEq] at h2
    subst h2
    exact hx
  · simp only [Option.some.injEq] at h; subst h; exact hx
  · simp only [Option.some.injEq] at h; subst h; exact hx
  · simp only [Option.some.injEq] at h; subst h; exact hx
  · simp only [Option.some.injEq] at h; subst h
    rw [show v = .slice none 0 0 from hx]
    exact ⟨none, 0, [], rfl, Nat.le_refl _, rfl, .inl rfl⟩
  · simp only [Option.some.injEq] at h; subst h
    rw [show v = .pointer none from hx]
    exact rfl
  · split at h
    · rename_i e
      subst e
      simp only [Option.some.injEq] at h
      subst h
      exact hx
    · cases h
  · split at h
    · rename_i e
      subst e
      simp only [Option.some.injEq] at h
      subst h
      exact hx
    · cases h
  · split at h
    · rename_i y' hy
      simp only [Option.some.injEq] at h
      subst h
      obtain ⟨b, o, cs, rfl, k1, k2, k3⟩ := hx
      obtain ⟨cs', q1, q2⟩ := subT_rel hy k2 k3
      exact ⟨b, _, cs', rfl, k1, q1, q2⟩
    · cases h
  · cases h
theorem gather_leaf {t : Ty} {l l' : List AV} {vs : List Value} {y : t.den}
    (h : (match l with | [] => none | a :: l => match asTy bs t a with | some x => some (x, l) | none => none) = some (y, l')) (hl : All2 (LRel E.ET g bs w) l vs) :
    ∃ c1 c2, vs = c1 ++ c2 ∧ Rep E.ET (okB g w) w t y c1 ∧ All2 (LRel E.ET g bs w) l' c2 := by
  cases l with
  | nil => cases h
  | cons a l =>
    cases vs with
    | nil => exact hl.elim
    | cons v vs =>
      simp only at h
      split at h
      · rename_i x hx
        simp only [Option.some.injEq, Prod.mk.injEq] at h
        obtain ⟨rfl, rfl⟩ := h
        exact ⟨[v], vs, rfl, asTy_rel hx hl.1, hl.2⟩
      · cases h
theorem gather_rel : ∀ {t : Ty} {l l' : List AV} {vs : List Value} {y : t.den}, gather bs t l = some (y, l') → All2 (LRel E.ET g bs w) l vs →
    ∃ c1 c2, vs = c1 ++ c2 ∧ Rep E.ET (okB g w) w t y c1 ∧ All2 (LRel E.ET g bs w) l' c2
  | .pair a b, l, l', vs, y, h, hl => by
    simp only [gather] at h
    split at h
    · rename_i x l1 h1
      split at h
      · rename_i z l2 h2
        simp only [Option.some.injEq, Prod.mk.injEq] at h
        obtain ⟨rfl, rfl⟩ := h
        obtain ⟨c1, c2, e, k1, k2⟩ := gather_rel h1 hl
        obtain ⟨d1, d2, e2, k3, k4⟩ := gather_rel h2 k2
        exact ⟨c1 ++ d1, d2, by rw [e, e2, List.append_assoc], ⟨c1, d1, rfl, k1, k3⟩, k4⟩
      · cases h
    · cases h
  | .unit, l, l', vs, y, h, hl => by
    simp only [gather, Option.some.injEq, Prod.mk.injEq] at h
    obtain ⟨_, rfl⟩ := h
    exact ⟨[], vs, rfl, rfl, hl⟩
  | .int k, l, l', vs, y, h, hl => gather_leaf (by cases l <;> exact h) hl
  | .bool, l, l', vs, y, h, hl => gather_leaf (by cases l <;> exact h) hl
  | .str, l, l', vs, y, h, hl => gather_leaf (by cases l <;> exact h) hl
  | .err, l, l', vs, y, h, hl => gather_leaf (by cases l <;> exact h) hl
  | .sl t, l, l', vs, y, h, hl => gather_leaf (by cases l <;> exact h) hl
  | .nptr t, l, l', vs, y, h, hl => gather_leaf (by cases l <;> exact h) hl
theorem gather_all {t : Ty} {l : List AV} {vs : List Value} {y : t.den} (h : gather bs t l = some (y, [])) (hl : All2 (LRel E.ET g bs w) l vs) : Rep E.ET (okB g w) w t y vs := by
  obtain ⟨c1, c2, e, h1, h2⟩ := gather_rel h hl
  cases c2 with
  | cons _ _ => exact h2.elim
  | nil => rw [e, List.append_nil]; exact h1
theorem leaves_rel : ∀ {y : AV} {yv : Value}, allOk (leaves y) = true → VRel E.ET g bs w y yv → All2 (LRel E.ET g bs w) (leaves y) yv.cells.toList ∧ ∀ v ∈ yv.cells.toList, v.oneCell' = true := by
  have all1 : ∀ {l : List AV} {vs : List Value}, allOk l = true → All2 (LRel E.ET g bs w) l vs → ∀ v ∈ vs, v.oneCell' = true := by
    intro l
    induction l with
    | nil => intro vs _ h v hv; cases vs with
      | nil => cases hv
      | cons _ _ => exact h.elim
    | cons x l ih =>
      intro vs ho h v hv
      cases vs with
      | nil => exact h.elim
      | cons u vs =>
        simp only [allOk, Bool.and_eq_true] at ho
        rcases List.mem_cons.1 hv with rfl | hv
        · exact cellOk_one ho.1 h.1
        · exact ih ho.2 h.2 v hv
  have one : ∀ {y : AV} {yv : Value}, cellOk y = true → LRel E.ET g bs w y yv → All2 (LRel E.ET g bs w) [y] yv.cells.toList ∧ ∀ v ∈ yv.cells.toList, v.oneCell' = true := by
    intro y yv ho h
    have h1 := cellOk_one ho h
    have : yv.cells = #[yv] := by cases yv <;> first | rfl | cases h1
    rw [this]
    exact ⟨⟨h, trivial⟩, fun v hv => by simp at hv; rw [hv]; exact h1⟩
  intro y yv ho h
  cases y with
  | agg l =>
    obtain ⟨vs, rfl, ha⟩ := h
    exact ⟨by simpa [Value.cells, leaves] using ha, by simpa [Value.cells] using all1 ho ha⟩
  | tup l => simp [leaves, allOk, cellOk] at ho
  | top => simp [leaves, allOk, cellOk] at ho
  | und => simp [leaves, allOk, cellOk] at ho
  | nilS => exact one rfl h
  | nilP => exact one rfl h
  | val t x => exact one rfl h
  | ref b v off => exact one rfl h
  | osl b v => exact one rfl h
  | imm t x off => exact one rfl h
  | oel b v i off => exact one rfl h
  | fn f caps => exact one rfl h
theorem setRow_size (w : World) (k : Nat) (c : Array Value) : (w.setRow k c).heap.size = w.heap.size := by simp
/-- A write into an owned block. -/
theorem Fr.setRow {k b : Nat} {c : Array Value} (hO : g.O k = some b) (h0 : b ≠ 0) : Fr g w g (w.setRow k c) :=
  ⟨rfl, rfl, rfl, by rw [setRow_size]; exact Nat.le_refl _, fun i hi _ => ⟨hi, setRow_other w k i c (fun e => by subst e; rw [hO] at hi; cases hi)⟩,
    fun i hi _ => ⟨hi, setRow_other w k i c (fun e => by subst e; rw [hO] at hi; simp only [Option.some.injEq] at hi; exact h0 hi)⟩⟩
theorem ne0 {b : Nat} (h : (!Nat.beq b 0) = true) : b ≠ 0 := by intro e; subst e; cases h
theorem storeAt_run {T : TypeId} {i : TypeInfo} {T' : TypeId} {blk o : Nat} {cur : Array Value} {yv : Value} (hi : P.info? T = some i) (hn : yv.cells.size = i.size) (hg : w.heap[blk]? = some (.cells cur T' (0, 0)))
    (ho : o + yv.cells.toList.length ≤ cur.size) (h1 : ∀ v ∈ yv.cells.toList, v.oneCell' = true) :
    (Instr.storeAt T (.pointer (some ⟨blk, o, none⟩)) yv).run P w = .ok () (w.setRow blk (cur.toList.take o ++ yv.cells.toList ++ cur.toList.drop (o + yv.cells.toList.length)).toArray) := by
  have := run_storeCells_at P blk o T' yv.cells.toList 0 cur w hg (by simpa using ho) h1
  simp only [Nat.add_zero] at this
  simp only [Instr.storeAt, Instr.sureAddr, Sem.run_bind, Sem.run_pure, Result.andThen_ok, storeVar, run_sizeOf hi, hn, ne_eq, not_true_eq_false, if_false, this]
theorem Reps.set {α : Type} {r : α → List Value → Prop} {n : Nat} (hlen : ∀ x c, r x c → c.length = n) {xs : List α} {cs : List Value} (h : Reps r xs cs) {i : Nat} (hi : i < xs.length) :
    ∃ c1 e c3, cs = c1 ++ (e ++ c3) ∧ c1.length = i * n ∧ r xs[i] e ∧ ∀ z e', r z e' → Reps r (xs.set i z) (c1 ++ (e' ++ c3)) := by
  have hx : xs = xs.take i ++ (xs[i] :: xs.drop (i + 1)) := by
    conv => lhs; rw [← List.take_append_drop i xs]
    congr 1
    exact List.drop_eq_getElem_cons hi
  rw [hx] at h
  obtain ⟨c1, c2, e1, h1, h2⟩ := Reps.split h
  obtain ⟨e, c3, e2, h3, h4⟩ := h2
  refine ⟨c1, e, c3, by rw [e1, e2], ?_, h3, fun z e' hz => ?_⟩
  · rw [Reps.length hlen h1, List.length_take, Nat.min_eq_left (Nat.le_of_lt hi)]
  · rw [List.set_eq_take_append_cons_drop, if_pos hi]
    exact Reps.join h1 ⟨e', c3, rfl, hz, h4⟩
theorem splice_mid {c1 e c3 vs : List Value} {off : Nat} (h : off + vs.length ≤ e.length) :
    (c1 ++ (e ++ c3)).take (c1.length + off) ++ vs ++ (c1 ++ (e ++ c3)).drop (c1.length + off + vs.length) = c1 ++ ((e.take off ++ vs ++ e.drop (off + vs.length)) ++ c3) := by
  rw [List.take_length_add_append, Nat.add_assoc, List.drop_length_add_append]
  rw [List.take_append_of_le_length (by omega), List.drop_append_of_le_length h]
  simp [List.append_assoc]
theorem take_splice {cur cs vs : List Value} {o : Nat} (h : cur.take cs.length = cs) (hn : cs.length ≤ cur.length) (ho : o + vs.length ≤ cs.length) :
    (cur.take o ++ vs ++ cur.drop (o + vs.length)).take cs.length = cs.take o ++ vs ++ cs.drop (o + vs.length) := by
  have e : cur = cs ++ cur.drop cs.length := by
    conv => lhs; rw [← List.take_append_drop cs.length cur, h]
  generalize cur.drop cs.length = rest at e
  clear h hn
  subst e
  have h1 : (cs ++ rest).take o = cs.take o := List.take_append_of_le_length (by omega)
  have h2 : (cs ++ rest).drop (o + vs.length) = cs.drop (o + vs.length) ++ rest := List.drop_append_of_le_length ho
  rw [h1, h2, ← List.append_assoc]
  refine List.take_left' ?_
  simp only [List.length_append, List.length_take, List.length_drop]
  omega
theorem store_sound (hE : EnvOk P E) {T : TypeId} {x y : AV} {xv yv : Value} {K : Boxes → Option R} (h : evStore E T x y bs K = some out) (hx : VRel E.ET g bs w x xv) (hy : VRel E.ET g bs w y yv) (hb : BsRel E.ET g bs w) :
    ∃ bs' w', K bs' = some out ∧ (Instr.storeAt T xv yv).run P w = .ok () w' ∧ BsRel E.ET g bs' w' ∧ Ext g bs w g bs' w' := by
  unfold evStore at h
  split at h
  · cases h
  · rename_i r hr
    obtain ⟨i, z, hi, hsz, _⟩ := (hE.rows T r hr).info
    obtain ⟨hc, hK⟩ := bif_some h
    clear h
    obtain ⟨hc1, hc2⟩ := and3 hc
    have hn := Nat.eq_of_beq_eq_true hc1
    rw [lenN_eq] at hn
    obtain ⟨hl1, hl2⟩ := leaves_rel hc2 hy
    have hvl : yv.cells.toList.length = r.size := by rw [← hl1.length, hn]
    have hvs : yv.cells.size = i.size := by rw [hsz, ← hvl, Array.length_toList]
    split at hK
    · rename_i b v off
      split at hK
      · rename_i T' cells hbox
        obtain ⟨hle, hK⟩ := bif_some hK
        obtain ⟨hle, h0⟩ := and3 hle
        have hle := Nat.le_of_ble_eq_true hle
        rw [lenN_eq] at hle
        have hlook := getBox_look hbox (by simp)
        obtain ⟨blk, h1, rfl⟩ := hx.2.2 T' cells hbox
        obtain ⟨blk', arr, k1, k2, k3, k4⟩ := hb b v _ hlook
        rw [h1] at k1
        simp only [Value.pointer.injEq, Option.some.injEq, Addr.mk.injEq, and_true] at k1
        subst k1
        have hal : arr.toList.length = cells.length := k4.length.symm
        have hrun := storeAt_run (P := P) (T := T) (o := off) hi hvs k3 (by rw [hvl, ← Array.length_toList, hal]; exact hle) hl2
        generalize hC : (arr.toList.take off ++ yv.cells.toList ++ arr.toList.drop (off + yv.cells.toList.length)).toArray = C at hrun
        have fr : Fr g w g (w.setRow blk C) := Fr.setRow k2 (ne0 h0)
        have he := Ext.same (c' := .var T' (setCells cells off (leaves y))) hlook (show sameKind _ _ from rfl) fr rfl
        refine ⟨_, _, hK, hrun, ?_, he⟩
        refine hb.cons he (fun b' hb' => ⟨rfl, fun q hq ho => ⟨ho, setRow_other w blk q _ (fun e => by subst e; rw [k2] at ho; simp only [Option.some.injEq] at ho; exact hb' ho.symm)⟩⟩) ?_
        refine ⟨blk, C, h1, k2, setRow_heap w blk arr C T' _ k3, ?_⟩
        rw [show C.toList = _ by rw [← hC, List.toList_toArray]]
        exact (setCells_all2 (α := AV) (β := Value) off k4 hl1 (by rw [hn]; exact hle)).mono fun _ _ => LRel.keep he
      · cases hK
    · rename_i b v j off
      split at hK
      · rename_i T' t xs hbox
        split at hK
        · rename_i z' hz'
          obtain ⟨hle, hK⟩ := bif_some hK
          obtain ⟨hle, h0⟩ := and3 hle
          have hle := Nat.le_of_ble_eq_true hle
          have hlook := getBox_look hbox (by simp)
          obtain ⟨j0, j1, blk, m, c, h2, rfl⟩ := hx.2.2 T' t xs hbox
          obtain ⟨cs, k1, k2, k3⟩ := hb b v _ hlook
          have hlt : j.toNat < xs.length := by omega
          obtain ⟨c1, e, c3, e1, e2, e3, e4⟩ := Reps.set (fun x c hc => Rep.length hc) k2 hlt
          have hOb := k3 blk (by rw [h2]; rfl)
          have hel := Rep.length e3
          rcases k1.2 with ⟨e0, _⟩ | ⟨blk', cap, cur, e5, _, hq, hq1, hq2, hq3, hq4⟩
          · rw [h2] at e0; cases e0
          · rw [h2] at e5
            simp only [Value.slice.injEq, Option.some.injEq, Addr.mk.injEq, and_true] at e5
            obtain ⟨rfl, rfl, rfl⟩ := e5
            have hcsl : cs.length = xs.length * t.sz := k1.1
            have hpos : j.toNat * t.sz + t.sz ≤ xs.length * t.sz := by
              rw [← Nat.succ_mul]; exact Nat.mul_le_mul_right _ hlt
            have hcap : xs.length * t.sz ≤ c * t.sz := Nat.mul_le_mul_right _ hq1
            have hrun := storeAt_run (P := P) (T := T) (o := j.toNat * t.sz + off) hi hvs hq (by rw [hvl, hq3]; omega) hl2
            generalize hC : (cur.toList.take (j.toNat * t.sz + off) ++ yv.cells.toList ++ cur.toList.drop (j.toNat * t.sz + off + yv.cells.toList.length)).toArray = C at hrun
            have fr : Fr g w g (w.setRow blk C) := Fr.setRow hOb (ne0 h0)
            have he := Ext.same (c' := .row T' t (xs.set j.toNat z')) hlook (show sameKind _ _ from ⟨rfl, rfl, (List.length_set ..).symm⟩) fr rfl
            refine ⟨_, _, hK, hrun, ?_, he⟩
            refine hb.cons he (fun b' hb' => ⟨rfl, fun q hq' ho => ⟨ho, setRow_other w blk q _ (fun e => by subst e; rw [hOb] at ho; simp only [Option.some.injEq] at ho; exact hb' ho.symm)⟩⟩) ?_
            have hrep : Rep E.ET (okB g w) w t z' (e.take off ++ yv.cells.toList ++ e.drop (off + yv.cells.toList.length)) := by
              refine gather_all hz' (setCells_all2 (α := AV) (β := Value) off ?_ hl1 ?_)
              · rw [gd_get t xs j j0 j1]; exact expand_rel e3
              · rw [hn]
                have := (expand_rel (bs := bs) e3).length
                rw [gd_get t xs j j0 j1, this, hel]; exact hle
            have hsp := splice_mid (c1 := c1) (e := e) (c3 := c3) (vs := yv.cells.toList) (off := off) (by rw [hvl, hel]; exact hle)
            rw [← e1, e2] at hsp
            refine ⟨_, ?_, (e4 z' _ hrep).mono fun _ _ => Rep.mono fr.okB, fun q hq' => k3 q hq'⟩
            rw [List.length_set]
            refine ⟨?_, .inr ⟨blk, c, C, h2, Nat.zero_le _, setRow_heap w blk cur C T' _ hq, hq1, hq2, ?_, ?_⟩⟩
            · rw [← hsp]
              simp only [List.length_append, List.length_take, List.length_drop]
              rw [hcsl, hvl]; omega
            · rw [← hq3, ← hC, List.size_toArray]
              simp only [List.length_append, List.length_take, List.length_drop, Array.length_toList]
              rw [hvs.trans hsz, hq3]; omega
            · rw [← hC, List.toList_toArray, ← hsp, ← hcsl]
              have hcl : cur.toList.length = c * t.sz := (Array.length_toList (xs := cur)).trans hq3
              exact take_splice (by rw [hcsl]; exact hq4) (by rw [hcsl, hcl]; exact hcap) (by rw [hvl, hcsl]; omega)
        · cases hK
      · cases hK
    · cases hK
end
end Go.Proofs.Ytfdppbfefplikaa.Ev
