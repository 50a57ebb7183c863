/- The evaluator's operations on memory are sound: loads, stores, addresses. -/
import Derived.Test.YtfdppbfefplikaaEv6
namespace Go.Proofs.Ytfdppbfefplikaa.Ev
open Go
open Go.RowKit
set_option linter.unusedVariables false
set_option linter.unusedSimpArgs false
section
variable {P : Program} {E : Env} {R : Type} {out : R} {g0 g g' : Gh} {w0 w w' : World} {sl : List AV} {bs0 bs bs' : Boxes} {a : Act}

theorem pack_sound {T : TypeId} {r : Row} {blk off : Nat} {cells : List AV} {vs : List Value} {K : AV → Option R} (hr : RowOk P E.ET T r) (hc : All2 (LRel E.ET g bs w) cells vs) (h : pack r cells K = some out)
    (hl : ∀ j u, vs[j]? = some u → w.cell? ⟨blk, off + j, none⟩ = some u) :
    ∃ v u, K v = some out ∧ VRel E.ET g bs w v u ∧ (Instr.loadAt T (.pointer (some ⟨blk, off, none⟩))).run P w = .ok u w := by
  obtain ⟨i, z, hi, hsz, _⟩ := hr.info
  obtain ⟨d, hd, _, hag⟩ := hr.desc
  have hko : r.kind ≠ .other := fun e => by simp only [pack, e] at h; cases h
  have h' : packK r.size (isAggK r.kind) cells K = some out := by
    revert h hko
    unfold pack
    cases r.kind <;> intro h hko <;> first | exact absurd rfl hko | exact h
  clear h
  unfold packK at h'
  cases hb : Nat.beq (lenN cells) r.size with
  | false => rw [hb] at h'; cases h'
  | true =>
    rw [hb] at h'
    have hlen := Nat.eq_of_beq_eq_true hb
    rw [lenN_eq] at hlen
    have hvl : vs.length = r.size := by rw [← hlen, hc.length]
    simp only [cond_true] at h'
    have hagg := run_isAgg (w := w) hd
    rw [hag hko] at hagg
    cases ha : isAggK r.kind with
    | true =>
      rw [ha] at h' hagg
      have hlo := run_loadCells_list (P := P) w ⟨blk, off, none⟩ vs (fun j u hj => by rw [Addr.add_lit]; exact hl j u hj)
      rw [hvl, ← hsz] at hlo
      refine ⟨_, .agg vs.toArray, h', ⟨vs, rfl, hc⟩, ?_⟩
      simp only [Instr.loadAt, Instr.sureAddr, loadVar, Sem.run_bind, Sem.run_pure, Result.andThen_ok, hagg, if_true, run_sizeOf hi, hlo]
    | false =>
      rw [ha] at h' hagg
      simp only [cond_false] at h'
      match cells, vs, hc, h' with
      | [c], [u], hc, h' =>
        have h0 := hl 0 u rfl
        simp only [Nat.add_zero] at h0
        refine ⟨c, u, h', hc.1.up, ?_⟩
        simp only [Instr.loadAt, Instr.sureAddr, loadVar, Sem.run_bind, Sem.run_pure, Result.andThen_ok, hagg, Bool.false_eq_true, if_false]
        rw [run_load, h0]
theorem Lies.drop_take {b o k n : Nat} {cs : List Value} (h : Lies w b o cs) : Lies w b (o + k) ((cs.drop k).take n) := by
  intro j u hj
  rw [List.getElem?_take] at hj
  split at hj
  · rw [List.getElem?_drop] at hj
    rw [Nat.add_assoc]; exact h (k + j) u hj
  · cases hj
theorem lies_of_row {T : TypeId} {blk : Nat} {arr : Array Value} {fr : Nat × Nat} (h : w.heap[blk]? = some (.cells arr T fr)) : Lies w blk 0 arr.toList := by
  intro j u hj
  rw [Nat.zero_add, cell_of_row w blk j arr T fr h]
  simpa using hj
theorem row_of_some (hE : EnvOk P E) {T : TypeId} {r : Row} (h : E.row T = some r) : RowOk P E.ET T r := hE.rows T r h
/-- The element's cells, in the row that owns them. -/
theorem row_elem {T : TypeId} {t : Ty} {xs : List t.den} {cs : List Value} {v : Value} {blk n c : Nat} (hv : v = .slice (some ⟨blk, 0, none⟩) n c) (ho : w.ownsRow 0 T t.sz v xs.length cs)
    (hx : Reps (fun x c => Rep E.ET (okB g w) w t x c) xs cs) (i : Int) (h0 : 0 ≤ i) (h1 : i < xs.length) :
    ∃ ecs, Rep E.ET (okB g w) w t (gd t xs i) ecs ∧ Lies w blk (i.toNat * t.sz) ecs := by
  obtain ⟨ecs, k1, k2⟩ := Reps.get (fun x c hc => Rep.length hc) i.toNat (by omega) hx
  rw [gd_get t xs i h0 h1]
  refine ⟨ecs, k1, fun j u hj => ?_⟩
  have := World.ownsRow.cells ho (g := blk) (by subst hv; rfl) _ _ (k2 j u hj)
  rwa [Addr.add_lit, Nat.zero_add] at this
theorem load_sound (hE : EnvOk P E) {T : TypeId} {x : AV} {xv : Value} {K : AV → Option R} (h : evLoad E T x bs K = some out) (hx : VRel E.ET g bs w x xv) (hb : BsRel E.ET g bs w) :
    ∃ v u, K v = some out ∧ VRel E.ET g bs w v u ∧ (Instr.loadAt T xv).run P w = .ok u w := by
  unfold evLoad at h
  split at h
  · cases h
  · rename_i r hr
    have hro := row_of_some hE hr
    split at h
    · rename_i b v off
      split at h
      · rename_i T' cells hbox
        obtain ⟨blk, h1, rfl⟩ := hx.2.2 T' cells hbox
        obtain ⟨blk', arr, k1, k2, k3, k4⟩ := hb b v _ (getBox_look hbox (by simp))
        rw [h1] at k1
        simp only [Value.pointer.injEq, Option.some.injEq, Addr.mk.injEq, and_true] at k1
        subst k1
        rw [takeN_eq, dropN_eq] at h
        have hlies := (lies_of_row k3).drop_take (k := off) (n := r.size)
        rw [Nat.zero_add] at hlies
        exact pack_sound hro ((k4.drop off).take r.size) h hlies
      · cases h
    · rename_i t x off
      obtain ⟨b, o, cs, rfl, k1, k2, k3⟩ := hx
      rw [takeN_eq, dropN_eq] at h
      exact pack_sound hro (((expand_rel k2).drop off).take r.size) h (k3.drop_take)
    · rename_i b v i off
      split at h
      · rename_i T' t xs hbox
        obtain ⟨h0, h1, blk, n, c, h2, rfl⟩ := hx.2.2 T' t xs hbox
        obtain ⟨cs, k1, k2, k3⟩ := hb b v _ (getBox_look hbox (by simp))
        obtain ⟨ecs, e1, e2⟩ := row_elem h2 k1 k2 i h0 h1
        rw [takeN_eq, dropN_eq] at h
        exact pack_sound hro (((expand_rel e1).drop off).take r.size) h (e2.drop_take)
      · cases h
    · cases h

theorem cellOk_one {x : AV} {v : Value} (h : cellOk x = true) (hx : LRel E.ET g bs w x v) : v.oneCell' = true := by
  cases x with
  | top => simp [cellOk] at h
  | und => simp [cellOk] at h
  | nilS => rw [show v = _ from hx]; rfl
  | nilP => rw [show v = _ from hx]; rfl
  | val t x =>
    have hh : Rep E.ET (okB g w) w t x [v] := hx
    clear hx h
    induction t with
    | int k => simp only [Rep, List.cons.injEq, and_true] at hh; subst hh; rfl
    | bool => simp only [Rep, List.cons.injEq, and_true] at hh; subst hh; rfl
    | str => simp only [Rep, List.cons.injEq, and_true] at hh; subst hh; rfl
    | err => simp only [Rep, List.cons.injEq, and_true] at hh; subst hh; cases x <;> rfl
    | sl t _ => obtain ⟨A, c, cs', e, _⟩ := hh; simp only [List.cons.injEq, and_true] at e; subst e; rfl
    | nptr t _ => cases x with
      | none => simp only [Rep, List.cons.injEq, and_true] at hh; subst hh; rfl
      | some x => obtain ⟨b, o, cs', e, _⟩ := hh; simp only [List.cons.injEq, and_true] at e; subst e; rfl
    | pair a b iha ihb =>
      obtain ⟨c1, c2, e, h1, h2⟩ := hh
      cases c1 with
      | nil => simp only [List.nil_append] at e; subst e; exact ihb x.2 h2
      | cons c c1 =>
        simp only [List.cons_append, List.cons.injEq, List.nil_eq, List.append_eq_nil_iff] at e
        obtain ⟨rfl, rfl, rfl⟩ := e
        exact iha x.1 h1
    | unit => simp [Rep] at hh
  | agg l => exact hx.elim
  | tup l => exact hx.elim
  | ref b ver off => exact hx.2.1
  | osl b ver => exact hx.2.1
  | oel b ver i off => exact hx.2.1
  | imm t x off => obtain ⟨b, o, cs, e, _⟩ := hx; subst e; rfl
  | fn f caps => obtain ⟨cv, e, _⟩ := hx; subst e; rfl
end
end Go.Proofs.Ytfdppbfefplikaa.Ev
