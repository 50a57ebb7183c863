/- The evaluator's conversions, stores, new variables, rows and appends are sound. -/
import Derived.Test.YtfdppbfefplikaaEv9
namespace Go.Proofs.Ytfdppbfefplikaa.Ev
open Go
open Go.RowKit
set_option linter.unusedVariables false
set_option linter.unusedSimpArgs false
section
variable {P : Program} {E : Env} {R : Type} {out : R} {g0 g g' : Gh} {w0 w w' : World} {sl : List AV} {bs0 bs bs' : Boxes} {a : Act}

/-- An operation's value, and what is so behind it. -/
def Done (P : Program) (ET : TypeId) (out : R) (g : Gh) (bs : Boxes) (w : World) (K : AV → Boxes → Option R) (s : Sem Value) : Prop :=
  ∃ v u bs' g' w', K v bs' = some out ∧ s.run P w = .ok u w' ∧ VRel ET g' bs' w' v u ∧ BsRel ET g' bs' w' ∧ Ext g bs w g' bs' w'
theorem Done.pure {K : AV → Boxes → Option R} {s : Sem Value} (hb : BsRel E.ET g bs w) (h : ∃ v u, K v bs = some out ∧ VRel E.ET g bs w v u ∧ s.run P w = .ok u w) : Done P E.ET out g bs w K s :=
  let ⟨v, u, h1, h2, h3⟩ := h
  ⟨v, u, bs, g, w, h1, h3, h2, hb, Ext.refl _ _ _⟩
/-- Boxes and all, over a frame that turns no box. -/
theorem BsRel.frame (hb : BsRel E.ET g bs w) (fr : Fr g w g' w') (hd : g'.hd = g.hd) (ho : ∀ blk b, blk < w.heap.size → g.O blk = some b → g'.O blk = some b ∧ w'.heap[blk]? = w.heap[blk]?) : BsRel E.ET g' bs w' := by
  intro b ver c hl
  have he : Ext g bs w g' bs w' := Ext.of_fr fr hd
  have h := hb b ver c hl
  cases c with
  | dead => trivial
  | var T cells =>
    obtain ⟨blk, arr, k1, k2, k3, k4⟩ := h
    have hlt : blk < w.heap.size := (Array.getElem?_eq_some_iff.1 k3).1
    exact ⟨blk, arr, by rw [hd]; exact k1, (ho blk b hlt k2).1, (ho blk b hlt k2).2.trans k3, k4.mono fun _ _ => LRel.keep he⟩
  | row T t xs =>
    obtain ⟨cs, k1, k2, k3⟩ := h
    refine ⟨cs, ?_, k2.mono fun _ _ => Rep.mono he.fr.okB, ?_⟩
    · rw [hd]
      exact ownsRow_of_block k1 fun blk hblk => (ho blk b (World.ownsRow.lt k1 blk hblk).2 (k3 blk hblk)).2
    · rw [hd]
      intro blk hblk
      exact (ho blk b (World.ownsRow.lt k1 blk hblk).2 (k3 blk hblk)).1
theorem conv_sound (hE : EnvOk P E) {d : Option Tmp} {src dst : TypeId} {x : AV} {xv : Value} {K : AV → Boxes → Option R} (h : evConv E d src dst x bs K = some out) (hx : VRel E.ET g bs w x xv) (hb : BsRel E.ET g bs w) :
    Done P E.ET out g bs w K (convert src dst xv) := by
  unfold evConv at h
  split at h
  · rename_i k0 k k1 n hs hd
    have us := zero_int hE hs
    have ud := zero_int hE hd
    rw [rel_int hx]
    exact Done.pure hb ⟨_, _, h, int_rel _ _, by simp [convert, run_underlying us, run_underlying ud, Conv.intToInt]⟩
  · rename_i s hs hd
    obtain ⟨d1, us, rfl⟩ := und_of hE hs (by simp)
    obtain ⟨d2, ud, rfl⟩ := und_of hE hd (by simp)
    rw [rel_str hx]
    exact Done.pure hb ⟨_, _, h, str_rel _, by simp [convert, run_underlying us, run_underlying ud]⟩
  · rename_i e l hs hd
    obtain ⟨d1, us, rfl⟩ := und_of hE hs (by simp)
    obtain ⟨d2, ud, rfl⟩ := und_of hE hd (by simp)
    split at h
    · rename_i hk
      have ue := zero_int hE hk
      obtain ⟨A, c, cs', e1, h6, h7, h8⟩ := val_cell hx
      simp only [List.cons.injEq, and_true] at e1
      subst e1
      have hcs := reps_u8 h7
      have hc : (convert src dst (.slice A l.length c)).run P w = (Conv.bytesToString (.slice A l.length c)).run P w := by
        cases A <;> simp [convert, run_underlying us, run_underlying ud, run_underlying ue]
      rcases h8 with h8 | ⟨b, o, rfl, k3, k4⟩
      · have hl0 : l = [] := by
          rw [h8] at hcs
          exact List.map_eq_nil_iff.1 hcs.symm
        subst hl0
        refine Done.pure hb ⟨_, _, h, str_rel _, ?_⟩
        rw [hc]
        cases A with
        | none => rfl
        | some a => rfl
      · rw [hcs] at k4
        exact Done.pure hb ⟨_, _, h, str_rel _, by rw [hc]; exact run_bytesOf k4 rfl⟩
    · cases h
  · rename_i e hs hd
    obtain ⟨d1, us, rfl⟩ := und_of hE hs (by simp)
    obtain ⟨d2, ud, rfl⟩ := und_of hE hd (by simp)
    split at h
    · rename_i hk
      have ue := zero_int hE hk
      rw [show xv = .slice none 0 0 from hx]
      exact Done.pure hb ⟨_, _, h, str_rel _, by simp [convert, run_underlying us, run_underlying ud, run_underlying ue, Conv.bytesToString]⟩
    · cases h
  · rename_i e b v hs hd
    obtain ⟨d1, us, rfl⟩ := und_of hE hs (by simp)
    obtain ⟨d2, ud, rfl⟩ := und_of hE hd (by simp)
    split at h
    · rename_i e' xs hk hbox
      obtain ⟨hee, hK⟩ := bif_some h
      have ue := zero_int hE hk
      have hxv := hx.2.2 _ _ _ hbox
      obtain ⟨cs, k1, k2, k3⟩ := hb b v _ (getBox_look hbox (by simp))
      have hcs := reps_u8 k2
      subst hxv
      refine Done.pure hb ⟨_, _, hK, str_rel _, ?_⟩
      have hc : ∀ q : Value, (∃ A n c, q = .slice A n c) → (convert src dst q).run P w = (Conv.bytesToString q).run P w := by
        rintro q ⟨A, n, c, rfl⟩
        cases A <;> simp [convert, run_underlying us, run_underlying ud, run_underlying ue]
      rcases k1.2 with ⟨e1, e0⟩ | ⟨blk, cap, cur, e1, hq⟩
      · rw [e1, hc _ ⟨_, _, _, rfl⟩]
        have : xs = [] := List.eq_nil_of_length_eq_zero e0
        subst this
        rfl
      · rw [e1, hc _ ⟨_, _, _, rfl⟩]
        refine run_bytesOf ?_ rfl
        intro j u hj
        rw [← hcs] at hj
        have := World.ownsRow.cells k1 (g := blk) (by rw [e1]; rfl) j u hj
        rwa [Addr.add_lit] at this
    · cases h
  · rename_i e s hs hd
    obtain ⟨d1, us, rfl⟩ := und_of hE hs (by simp)
    obtain ⟨d2, ud, rfl⟩ := und_of hE hd (by simp)
    split at h
    · rename_i hk
      have ue := zero_int hE hk
      rw [rel_str hx]
      have hrun := run_bytes_of_string (P := P) w src dst e s us ud ue
      generalize hC : bytesRow s (grownCap w s.size 0 e) = C at hrun
      have hge := grownCap_ge w s.size 0 e
      generalize grownCap w s.size 0 e = cap at hrun hge hC
      -- the new block is nobody's
      let g2 : Gh := ⟨fun i => if i = w.heap.size then none else g.O i, g.hd⟩
      have hh : ∀ i, i < w.heap.size → (w.drew.alloc (.cells C e (C.size, C.size + 1))).heap[i]? = w.heap[i]? := fun i hi => heap_alloc_old w.drew _ i hi
      have fr : Fr g w g2 (w.drew.alloc (.cells C e (C.size, C.size + 1))) :=
        ⟨rfl, rfl, rfl, by show w.heap.size ≤ (w.heap.push _).size; rw [Array.size_push]; exact Nat.le_succ _, fun i hi hs => ⟨by show (if i = w.heap.size then none else g.O i) = none; rw [if_neg (by omega)]; exact hi, hh i hs⟩, fun i hi hs => ⟨by show (if i = w.heap.size then none else g.O i) = some 0; rw [if_neg (by omega)]; exact hi, hh i hs⟩⟩
      refine ⟨_, _, bs, g2, _, h, hrun, ?_, ?_, Ext.of_fr fr rfl⟩
      · have hlen : (bytesOf s).length = s.size := by
          show (s.data.toList.map _).length = s.data.size
          rw [List.length_map, Array.length_toList]
        refine ⟨some ⟨w.heap.size, 0, none⟩, cap, (bytesOf s).map (Value.int .u8), by rw [hlen], by rw [hlen]; exact hge, ?_, .inr ⟨w.heap.size, 0, rfl, ⟨?_, ?_⟩, ?_⟩⟩
        · generalize bytesOf s = l
          induction l with
          | nil => rfl
          | cons x l ih => exact ⟨[.int .u8 x], _, rfl, rfl, ih⟩
        · show (if w.heap.size = w.heap.size then none else g.O w.heap.size) = none
          rw [if_pos rfl]
        · show w.heap.size < (w.heap.push _).size
          rw [Array.size_push]; exact Nat.lt_succ_self _
        · intro j u hj
          rw [Nat.zero_add, cell_of_row _ w.heap.size j C e (C.size, C.size + 1) (heap_alloc_new w.drew _), ← hC]
          have hjl := (List.getElem?_eq_some_iff.1 hj).1
          rw [List.length_map, hlen] at hjl
          have hjd : j < s.data.size := hjl
          rw [← hj]
          unfold bytesRow
          rw [Array.getElem?_append_left (by rw [Array.size_map]; exact hjd)]
          simp only [bytesOf, List.map_map, List.getElem?_map, Array.getElem?_map, Array.getElem?_toList]
          rfl
      · exact hb.frame fr rfl (fun blk b hlt ho => ⟨by show (if blk = w.heap.size then none else g.O blk) = some b; rw [if_neg (by omega)]; exact ho, hh blk hlt⟩)
    · cases h
  · cases h
end
end Go.Proofs.Ytfdppbfefplikaa.Ev
