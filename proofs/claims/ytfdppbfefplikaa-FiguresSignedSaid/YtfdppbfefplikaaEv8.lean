/- The evaluator's addresses, indexes, cuts, lengths and conversions are sound. -/
import Derived.Test.YtfdppbfefplikaaEv7
import Derived.Laws.BytesString
import Derived.Laws.IdiomStrings
import Derived.Laws.Slices
namespace Go.Proofs.Ytfdppbfefplikaa.Ev
open Go
open Go.RowKit
set_option linter.unusedVariables false
set_option linter.unusedSimpArgs false
section
variable {P : Program} {E : Env} {R : Type} {out : R} {g0 g g' : Gh} {w0 w w' : World} {sl : List AV} {bs0 bs bs' : Boxes} {a : Act}

theorem asI_of {x : AV} {n : Int} (h : asI x = some n) : ∃ k, x = .val (.int k) n := by
  unfold asI at h
  split at h
  · simp only [Option.some.injEq] at h; subst h; exact ⟨_, rfl⟩
  · cases h
theorem isVar_of {c : BoxC} (h : isVar c = true) : ∃ T cells, c = .var T cells := by cases c <;> first | exact ⟨_, _, rfl⟩ | cases h
theorem isRow_of {c : BoxC} (h : isRow c = true) : ∃ T t xs, c = .row T t xs := by cases c <;> first | exact ⟨_, _, _, rfl⟩ | cases h
theorem run_fieldAt {T : TypeId} {fields : Array Field} {i : Nat} {f : Field} {fi : TypeInfo} {blk off : Nat} (h : P.underlying T = some (.struct fields)) (hf : fields[i]? = some f)
    (hi : P.info? f.type = some fi) (hn : fi.size ≠ 0) : (Instr.fieldAt T (.pointer (some ⟨blk, off, none⟩)) i).run P w = .ok (.pointer (some ⟨blk, off + f.offset, none⟩)) w := by
  simp only [Instr.fieldAt, Sem.run_bind, run_underlying h, Result.andThen_ok, hf, Instr.sureAddr, Sem.run_pure, fieldPlace, run_sizeOf hi, hn, if_false, Addr.add_lit]
theorem fieldAddr_sound (hE : EnvOk P E) {T : TypeId} {x : AV} {xv : Value} {f : Nat} {K : AV → Option R} (h : evFieldAddr E T x f bs K = some out) (hx : VRel E.ET g bs w x xv) :
    ∃ v u, K v = some out ∧ VRel E.ET g bs w v u ∧ (Instr.fieldAt T xv f).run P w = .ok u w := by
  unfold evFieldAddr at h
  split at h
  · rename_i fs hk
    obtain ⟨d, hd, fields, rfl, hf, _⟩ := und_of hE hk (by simp)
    split at h
    · rename_i o n ag hfs
      obtain ⟨fd, fi, fdd, h1, h2, h3, h4, h5, h6⟩ := hf f o n ag hfs
      cases hn : Nat.beq n 0 with
      | true => rw [hn] at h; cases h
      | false =>
        rw [hn] at h
        have hn0 : fi.size ≠ 0 := by
          intro e
          rw [← h4, e] at hn
          simp at hn
        simp only [cond_false] at h
        split at h
        · rename_i b v off
          cases hv : isVar (getBox bs b v) with
          | false => rw [hv] at h; cases h
          | true =>
            rw [hv] at h
            obtain ⟨T', cells, hc⟩ := isVar_of hv
            obtain ⟨blk, k1, rfl⟩ := hx.2.2 T' cells hc
            refine ⟨_, .pointer (some ⟨blk, off + o, none⟩), h, ⟨hx.1, rfl, fun T'' cells' hc' => ⟨blk, k1, rfl⟩⟩, ?_⟩
            rw [← h2]; exact run_fieldAt hd h1 h3 hn0
        · rename_i t y off
          obtain ⟨b, o', cs, rfl, k1, k2, k3⟩ := hx
          refine ⟨_, _, h, ⟨b, o', cs, rfl, k1, k2, k3⟩, ?_⟩
          rw [← h2, ← Nat.add_assoc]; exact run_fieldAt hd h1 h3 hn0
        · rename_i b v i off
          cases hv : isRow (getBox bs b v) with
          | false => rw [hv] at h; cases h
          | true =>
            rw [hv] at h
            obtain ⟨T', t, xs, hc⟩ := isRow_of hv
            obtain ⟨i0, i1, blk, m, c, k1, rfl⟩ := hx.2.2 T' t xs hc
            refine ⟨_, .pointer (some ⟨blk, i.toNat * t.sz + off + o, none⟩), h, ⟨hx.1, rfl, fun T'' t'' xs' hc' => ?_⟩, ?_⟩
            · rw [hc] at hc'
              simp only [BoxC.row.injEq] at hc'
              obtain ⟨rfl, rfl, hxs⟩ := hc'
              have hxs := eq_of_heq hxs
              subst hxs
              exact ⟨i0, i1, blk, m, c, k1, by rw [Nat.add_assoc]⟩
            · rw [← h2]; exact run_fieldAt hd h1 h3 hn0
        · cases h
    · cases h
  · cases h
theorem field_sound (hE : EnvOk P E) {T : TypeId} {x : AV} {xv : Value} {f : Nat} {K : AV → Option R} (h : evField E T x f K = some out) (hx : VRel E.ET g bs w x xv) :
    ∃ v u, K v = some out ∧ VRel E.ET g bs w v u ∧ (Instr.field T xv f).run P w = .ok u w := by
  unfold evField at h
  split at h
  · rename_i fs l hk
    obtain ⟨d, hd, fields, rfl, hf, _⟩ := und_of hE hk (by simp)
    obtain ⟨vs, rfl, ha⟩ := hx
    split at h
    · rename_i o n ag hfs
      obtain ⟨fd, fi, fdd, h1, h2, h3, h4, h5, h6⟩ := hf f o n ag hfs
      have hr := part_run (w := w) (vs := vs) (o := o) h5 h3
      have hrun : (Instr.field T (.agg vs.toArray) f).run P w = (part fd.type vs.toArray o).run P w := by
        simp only [Instr.field, Sem.run_bind, run_underlying hd, Result.andThen_ok, h1, asAgg, Sem.run_pure, h2]
      rw [takeN_eq, dropN_eq] at h
      have hal := (ha.drop o).take n
      cases hb : Nat.beq (lenN ((l.drop o).take n)) n with
      | false => rw [hb] at h; cases h
      | true =>
        rw [hb] at h
        have hlen := Nat.eq_of_beq_eq_true hb
        rw [lenN_eq] at hlen
        simp only [cond_true] at h
        cases ag with
        | true =>
          rw [h6, if_pos rfl, h4] at hr
          exact ⟨_, _, h, ⟨_, rfl, hal⟩, hrun.trans hr⟩
        | false =>
          simp only [cond_false] at h
          rw [h6] at hr
          simp only [Bool.false_eq_true, if_false] at hr
          split at h
          · rename_i c hc
            rw [hc] at hal hlen
            have hvl := hal.length
            have hn1 : n = 1 := by simpa using hlen.symm
            subst hn1
            match hm : (vs.drop o).take 1, hal with
            | [u], hal =>
              have hu : vs[o]? = some u := by
                have := congrArg (fun l => l[0]?) hm
                simpa using this
              rw [hu] at hr
              exact ⟨c, u, h, hal.1.up, hrun.trans hr⟩
          · cases h
    · cases h
  · cases h
theorem elemRow_of (hE : EnvOk P E) {T : TypeId} {t : Ty} (h : elemRow E T t = true) : ∃ r i, E.row T = some r ∧ P.info? T = some i ∧ i.size = t.sz ∧ r.size = t.sz ∧ i.bytes = r.bytes ∧ t.sz ≠ 0 ∧ RowOk P E.ET T r := by
  unfold elemRow at h
  split at h
  · rename_i r hr
    simp only [Bool.and_eq_true, Bool.not_eq_true'] at h
    have e := Nat.eq_of_beq_eq_true h.1
    obtain ⟨i, z, h1, h2, h3, _⟩ := (hE.rows T r hr).info
    refine ⟨r, i, hr, h1, h2.trans e, e, h3, ?_, hE.rows T r hr⟩
    intro e0; rw [e0] at h; simp at h
  · cases h
theorem run_indexAt_sl {T e : TypeId} {i : TypeInfo} {blk off n c : Nat} {k : IntKind} {j : Int} (h : P.underlying T = some (.slice e)) (hi : P.info? e = some i) (h0 : 0 ≤ j) (h1 : j < n) :
    (Instr.indexAt T (.slice (some ⟨blk, off, none⟩) n c) (.int k j)).run P w = .ok (.pointer (some ⟨blk, off + j.toNat * i.size, none⟩)) w := by
  simp [Instr.indexAt, asIntOf, run_underlying h, h0, h1, run_sizeOf hi, Addr.add_lit]
theorem pickN_some {f : Nat → Option R} : ∀ {n j : Nat} {i : Int}, pickN n j i f = some out → ∃ q, q < j + n ∧ i = (q : Int) ∧ f q = some out
  | 0, _, _, h => by cases h
  | n + 1, j, i, h => by
    simp only [pickN] at h
    by_cases e : i = (j : Int)
    · rw [decide_eq_true e, cond_true] at h
      exact ⟨j, by omega, e, h⟩
    · rw [decide_eq_false e, cond_false] at h
      obtain ⟨q, h1, h2⟩ := pickN_some h
      exact ⟨q, by omega, h2⟩
theorem indexAddr_sound (hE : EnvOk P E) {T : TypeId} {x i : AV} {xv iv : Value} {K : AV → Option R} (h : evIndexAddr E T x i bs K = some out) (hx : VRel E.ET g bs w x xv) (hi : VRel E.ET g bs w i iv)
    (hb : BsRel E.ET g bs w) : ∃ v u, K v = some out ∧ VRel E.ET g bs w v u ∧ (Instr.indexAt T xv iv).run P w = .ok u w := by
  unfold evIndexAddr at h
  split at h
  · rename_i j hj
    obtain ⟨k, rfl⟩ := asI_of hj
    rw [rel_int hi]
    split at h
    · rename_i e t l hk
      obtain ⟨d, hd, rfl⟩ := und_of hE hk (by simp)
      obtain ⟨he, h⟩ := bif_some h
      obtain ⟨h01, h⟩ := bif_some h
      obtain ⟨h0, h1⟩ := and3 h01
      have h0 := of_decide_eq_true h0
      have h1 := of_decide_eq_true h1
      obtain ⟨r, ti, _, h3, h4, _, _, h5, _⟩ := elemRow_of hE he
      obtain ⟨A, c, cs', e1, h6, h7, h8⟩ := val_cell hx
      simp only [List.cons.injEq, and_true] at e1
      subst e1
      obtain ⟨ecs, k1, k2⟩ := Reps.get (fun x c hc => Rep.length hc) j.toNat (by omega) h7
      rcases h8 with rfl | ⟨b, o, rfl, k3, k4⟩
      · have hl := Reps.length (fun x c hc => Rep.length hc) h7
        simp only [List.length_nil] at hl
        have : l.length = 0 := by
          rcases Nat.mul_eq_zero.1 hl.symm with h | h
          · exact h
          · exact absurd h h5
        omega
      · refine ⟨_, _, h, ⟨b, o + j.toNat * t.sz, ecs, rfl, k3, by rw [gd_get t l j h0 h1]; exact k1, fun q u hq => ?_⟩, ?_⟩
        · rw [Nat.add_assoc]; exact k4 _ _ (k2 q u hq)
        · rw [Nat.add_zero, ← h4]; exact run_indexAt_sl hd h3 h0 h1
    · rename_i e b v hk
      obtain ⟨d, hd, rfl⟩ := und_of hE hk (by simp)
      split at h
      · rename_i e' t xs hbox
        obtain ⟨he2, h⟩ := bif_some h
        obtain ⟨hee, he⟩ := and3 he2
        obtain ⟨h01, h⟩ := bif_some h
        obtain ⟨h0, h1⟩ := and3 h01
        have h0 := of_decide_eq_true h0
        have h1 := of_decide_eq_true h1
        obtain ⟨r, ti, _, h3, h4, _, _, h5, _⟩ := elemRow_of hE he
        have hxv := hx.2.2 _ _ _ hbox
        obtain ⟨cs, k1, k2, k3⟩ := hb b v _ (getBox_look hbox (by simp))
        rcases k1.2 with ⟨_, e0⟩ | ⟨blk, cap, cur, e1, _, _, _, _, _, _⟩
        · omega
        · rw [e1] at hxv
          subst hxv
          refine ⟨_, .pointer (some ⟨blk, j.toNat * t.sz, none⟩), h, ⟨hx.1, rfl, fun T'' t'' xs' hc' => ?_⟩, ?_⟩
          · rw [hbox] at hc'
            simp only [BoxC.row.injEq] at hc'
            obtain ⟨rfl, rfl, hxs⟩ := hc'
            have hxs := eq_of_heq hxs
            subst hxs
            exact ⟨h0, h1, blk, _, cap, e1, by rw [Nat.add_zero]⟩
          · have := run_indexAt_sl (w := w) (blk := blk) (off := 0) (n := xs.length) (c := cap) (k := k) hd h3 h0 h1
            rw [h4, Nat.zero_add] at this
            exact this
      · cases h
    · rename_i n e b v off hk
      obtain ⟨d, hd, rfl⟩ := und_of hE hk (by simp)
      split at h
      · rename_i r hr
        obtain ⟨hc3, h⟩ := bif_some h
        obtain ⟨hc2, h1⟩ := and3 hc3
        obtain ⟨hv, h0⟩ := and3 hc2
        have h0 := of_decide_eq_true h0
        have h1 := of_decide_eq_true h1
        obtain ⟨T', cells, hc⟩ := isVar_of hv
        obtain ⟨blk, k1, rfl⟩ := hx.2.2 T' cells hc
        obtain ⟨ti, z, h3, h4, _⟩ := (hE.rows e r hr).info
        obtain ⟨q, _, hq, hpk⟩ := pickN_some h
        subst hq
        refine ⟨_, .pointer (some ⟨blk, off + q * r.size, none⟩), hpk, ⟨hx.1, rfl, fun T'' cells' hc' => ⟨blk, k1, rfl⟩⟩, ?_⟩
        simp [Instr.indexAt, asIntOf, run_underlying hd, Instr.sureAddr, h0, show q < n by omega, run_sizeOf h3, Addr.add_lit, h4]
      · cases h
    · rename_i n e t y off hk
      obtain ⟨d, hd, rfl⟩ := und_of hE hk (by simp)
      split at h
      · rename_i r hr
        obtain ⟨hc2, h⟩ := bif_some h
        obtain ⟨h0, h1⟩ := and3 hc2
        have h0 := of_decide_eq_true h0
        have h1 := of_decide_eq_true h1
        obtain ⟨blk, o, cs, rfl, k1, k2, k3⟩ := hx
        obtain ⟨ti, z, h3, h4, _⟩ := (hE.rows e r hr).info
        obtain ⟨q, _, hq, hpk⟩ := pickN_some h
        subst hq
        refine ⟨_, .pointer (some ⟨blk, o + off + q * r.size, none⟩), hpk, ⟨blk, o, cs, by rw [Nat.add_assoc], k1, k2, k3⟩, ?_⟩
        simp [Instr.indexAt, asIntOf, run_underlying hd, Instr.sureAddr, h0, show q < n by omega, run_sizeOf h3, Addr.add_lit, h4]
      · cases h
    · cases h
  · cases h
theorem index_sound (hE : EnvOk P E) {T : TypeId} {x i : AV} {xv iv : Value} {K : AV → Option R} (h : evIndex E T x i K = some out) (hx : VRel E.ET g bs w x xv) (hi : VRel E.ET g bs w i iv) :
    ∃ v u, K v = some out ∧ VRel E.ET g bs w v u ∧ (Instr.index T xv iv).run P w = .ok u w := by
  unfold evIndex at h
  split at h
  · rename_i s j hk hj
    obtain ⟨k, rfl⟩ := asI_of hj
    obtain ⟨d, hd, rfl⟩ := und_of hE hk (by simp)
    obtain ⟨h01, h⟩ := bif_some h
    obtain ⟨h0, h1⟩ := and3 h01
    have h0 := of_decide_eq_true h0
    have h1 := of_decide_eq_true h1
    rw [rel_str hx, rel_int hi]
    have hlt : j.toNat < s.size := by omega
    refine ⟨_, _, h, int_rel _ _, ?_⟩
    have hg : s[j.toNat]? = some (s[j.toNat]'hlt) := by simp [hlt]
    simp only [Instr.index, asIntOf, Sem.run_bind, Sem.run_pure, Result.andThen_ok, run_underlying hd, h0, if_true, hg, bt, hlt, dif_pos]
  · rename_i n e l j hk hj
    obtain ⟨k, rfl⟩ := asI_of hj
    obtain ⟨d, hd, rfl⟩ := und_of hE hk (by simp)
    obtain ⟨vs, rfl, ha⟩ := hx
    split at h
    · rename_i r hr
      obtain ⟨h01, h⟩ := bif_some h
      obtain ⟨h0, h1⟩ := and3 h01
      have h0 := of_decide_eq_true h0
      have h1 := of_decide_eq_true h1
      obtain ⟨q, _, hq, hpk⟩ := pickN_some h
      clear h
      subst hq
      have h := hpk
      have hro := hE.rows e r hr
      obtain ⟨ti, z, h3, h4, _⟩ := hro.info
      obtain ⟨de, hde, hke, hag⟩ := hro.desc
      have hko : r.kind ≠ .other := fun e => by simp only [pack, e] at h; cases h
      have h' : packK r.size (isAggK r.kind) (takeN r.size (dropN (q * r.size) l)) K = some out := by
        revert h hko
        unfold pack
        cases r.kind <;> intro h hko <;> first | exact absurd rfl hko | exact h
      clear h
      have hag := hag hko
      have hrr := part_run (w := w) (vs := vs) (o := q * r.size) hde h3
      have hrun : (Instr.index T (.agg vs.toArray) (.int k (q : Int))).run P w = (part e vs.toArray (q * r.size)).run P w := by
        simp only [Instr.index, asIntOf, Sem.run_bind, Sem.run_pure, Result.andThen_ok, run_underlying hd, h0, h1, and_self, if_true, run_sizeOf h3, Int.toNat_natCast, h4]
      rw [rel_int hi]
      unfold packK at h'
      rw [takeN_eq, dropN_eq] at h'
      have hal := (ha.drop (q * r.size)).take r.size
      cases hb : Nat.beq (lenN ((l.drop (q * r.size)).take r.size)) r.size with
      | false => rw [hb] at h'; cases h'
      | true =>
        rw [hb] at h'
        have hlen := Nat.eq_of_beq_eq_true hb
        rw [lenN_eq] at hlen
        simp only [cond_true] at h'
        cases hak : isAggK r.kind with
        | true =>
          rw [hak] at h' hag
          rw [hag, if_pos rfl, h4] at hrr
          exact ⟨_, _, h', ⟨_, rfl, hal⟩, hrun.trans hrr⟩
        | false =>
          rw [hak] at h' hag
          simp only [cond_false] at h'
          rw [hag] at hrr
          simp only [Bool.false_eq_true, if_false] at hrr
          split at h'
          · rename_i c hc
            rw [hc] at hal hlen
            have hn1 : r.size = 1 := by simpa using hlen.symm
            rw [hn1] at hal hrr hrun
            match hm : (vs.drop (q * 1)).take 1, hal with
            | [u], hal =>
              have hu : vs[q * 1]? = some u := by
                have := congrArg (fun l => l[0]?) hm
                simpa using this
              rw [hu] at hrr
              exact ⟨c, u, h', hal.1.up, hrun.trans hrr⟩
          · cases h'
    · cases h
  · cases h
end
end Go.Proofs.Ytfdppbfefplikaa.Ev
