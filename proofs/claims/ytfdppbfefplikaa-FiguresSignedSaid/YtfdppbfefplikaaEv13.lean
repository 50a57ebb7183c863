/- The evaluator's makes and appends are sound. -/
import Derived.Test.YtfdppbfefplikaaEv12
namespace Go.Proofs.Ytfdppbfefplikaa.Ev
open Go
open Go.RowKit
set_option linter.unusedVariables false
set_option linter.unusedSimpArgs false
section
variable {P : Program} {E : Env} {R : Type} {out : R} {g0 g g' : Gh} {w0 w w' : World} {sl : List AV} {bs0 bs bs' : Boxes} {a : Act}

theorem reps_replicate {α : Type} {r : α → List Value → Prop} {x : α} {v : Value} (h : r x [v]) : ∀ n, Reps r (List.replicate n x) (List.replicate n v)
  | 0 => rfl
  | n + 1 => ⟨[v], List.replicate n v, rfl, h, reps_replicate h n⟩
theorem makeSlice_sound (hE : EnvOk P E) {d : Option Tmp} {T : TypeId} {x y : AV} {xv yv : Value} {K : AV → Boxes → Option R} (h : evMakeSlice E d T x y bs K = some out)
    (hx : VRel E.ET g bs w x xv) (hy : VRel E.ET g bs w y yv) (hb : BsRel E.ET g bs w) : Done P E.ET out g bs w K (Instr.makeSlice T xv yv) := by
  unfold evMakeSlice at h
  split at h
  · rename_i n m e hk
    rw [rel_int hx, rel_int hy]
    generalize (show Int from n) = n at h
    generalize (show Int from m) = m at h
    obtain ⟨dd, hd, rfl⟩ := und_of hE hk (by simp)
    split at h
    · rename_i r hr
      split at h
      · rename_i z0 hz0
        obtain ⟨hc, h⟩ := bif_some h
        obtain ⟨hc, h6⟩ := and3 hc
        obtain ⟨hc, h5⟩ := and3 hc
        obtain ⟨hc, h4⟩ := and3 hc
        obtain ⟨hc, h3⟩ := and3 hc
        obtain ⟨h1, h2⟩ := and3 hc
        have h2 := Nat.eq_of_beq_eq_true h2
        have h3 : 0 ≤ n := of_decide_eq_true h3
        have h4 : n ≤ m := of_decide_eq_true h4
        have h5 : m * (r.bytes : Int) ≤ 140737488355328 := of_decide_eq_true h5
        have h6 : m ≤ 9223372036854775807 := of_decide_eq_true h6
        obtain ⟨r', i, hr', hi, hsz, hrs, hby, hne, hro⟩ := elemRow_of hE h1
        rw [hr] at hr'
        simp only [Option.some.injEq] at hr'
        subst hr'
        obtain ⟨i', z, hi', _, _, hz, hzr, hzs, _⟩ := hro.info
        rw [hi] at hi'
        simp only [Option.some.injEq] at hi'
        subst hi'
        have hsz1 : r.shape.sz = 1 := by rw [← hrs]; exact h2
        rw [h2] at hzs
        obtain ⟨zv, hzv⟩ : ∃ zv, z.cells = #[zv] := by
          match hzc : z.cells, hzs with
          | ⟨[q]⟩, _ => exact ⟨q, rfl⟩
        have hrep := gather_all hz0 (hzr g bs w)
        rw [hzv] at hrep
        have hrun := run_make (P := P) w T e i z hd hi hz .i64 .i64 n m h3 h4 (by rw [hby, Int.mul_comm]; omega) h6
        rw [hsz, hsz1, Nat.mul_one, hzv] at hrun
        obtain ⟨v, bs', g', n1, n2, n3, n4⟩ := newRow_sound (w' := w.alloc (.cells (madeCells #[zv] m.toNat) e)) (hv := .slice (some ⟨w.heap.size, 0, none⟩) n.toNat m.toNat) (cs := List.replicate n.toNat zv) h hb rfl rfl rfl (by simp)
          (fun q hq _ => heap_alloc_old w _ q hq) (fun q hq hlt => by simp only [Value.ownBlock, Option.some.injEq] at hq; omega)
          (by
            rw [List.length_replicate, hsz1]
            refine ⟨by simp, .inr ⟨w.heap.size, m.toNat, _, rfl, Nat.zero_le _, heap_alloc_new w _, by omega, by simp only [maxLen]; omega, by rw [size_madeCells, Nat.mul_one], ?_⟩⟩
            rw [toList_madeCells_one, Nat.mul_one, List.take_replicate, Nat.min_eq_left (by omega)])
          (reps_replicate hrep _)
        exact ⟨v, _, bs', g', _, n1, hrun, n2, n3, n4⟩
      · cases h
    · cases h
  · cases h
/-- What is appended, in memory. -/
def Src (ET : TypeId) (g : Gh) (w : World) (t : Ty) (ys : List t.den) (v : Value) : Prop :=
  ∃ A c news, v = .slice A ys.length c ∧ Reps (fun x c => Rep ET (okB g w) w t x c) ys news ∧ (A = none → ys = []) ∧ ∀ a, A = some a → ∀ j u, news[j]? = some u → w.cell? (a.add j) = some u
theorem srcOf_rel {e : TypeId} {t : Ty} (h0 : t.sz ≠ 0) {y : AV} {yv : Value} {ys : List t.den} (h : srcOf E bs e t y = some ys) (hy : VRel E.ET g bs w y yv) (hb : BsRel E.ET g bs w) : Src E.ET g w t ys yv := by
  unfold srcOf at h
  split at h
  · simp only [Option.some.injEq] at h
    subst h
    rw [show yv = .slice none 0 0 from hy]
    exact ⟨none, 0, [], rfl, rfl, fun _ => rfl, fun a ha => by cases ha⟩
  · rename_i t' l
    split at h
    · rename_i e
      subst e
      simp only [Option.some.injEq] at h
      subst h
      obtain ⟨A, c, cs', e1, h6, h7, h8⟩ := val_cell hy
      simp only [List.cons.injEq, and_true] at e1
      subst e1
      refine ⟨A, c, cs', rfl, h7, fun hA => ?_, fun a ha j u hj => ?_⟩
      · rcases h8 with rfl | ⟨b, o, hA', _⟩
        · have hl := Reps.length (fun x c hc => Rep.length hc) h7
          simp only [List.length_nil] at hl
          rcases Nat.mul_eq_zero.1 hl.symm with h | h
          · exact List.eq_nil_of_length_eq_zero h
          · exact absurd h h0
        · rw [hA] at hA'; cases hA'
      · rcases h8 with rfl | ⟨b, o, hA', _, k4⟩
        · simp at hj
        · rw [ha] at hA'
          simp only [Option.some.injEq] at hA'
          subst hA'
          rw [Addr.add_lit]; exact k4 j u hj
    · cases h
  · rename_i b v
    split at h
    · rename_i e' t' xs hbox
      split at h
      · rename_i et
        subst et
        obtain ⟨_, h⟩ := bif_some h
        simp only [Option.some.injEq] at h
        subst h
        have hyv := hy.2.2 _ _ _ hbox
        obtain ⟨cs, k1, k2, k3⟩ := hb b v _ (getBox_look hbox (by simp))
        rcases k1.2 with ⟨e1, e0⟩ | ⟨blk, cap, cur, e1, hq⟩
        · have : xs = [] := List.eq_nil_of_length_eq_zero e0
          subst this
          rw [hyv, e1]
          exact ⟨none, 0, [], rfl, rfl, fun _ => rfl, fun a ha => by cases ha⟩
        · rw [hyv, e1]
          refine ⟨_, _, cs, rfl, k2, fun hA => (by cases hA), fun a ha j u hj => ?_⟩
          simp only [Option.some.injEq] at ha
          subst ha
          exact World.ownsRow.cells k1 (g := blk) (by rw [e1]; rfl) j u hj
      · cases h
    · cases h
  · cases h
/-- An append to a row of the call's own: as the kit has it, with the new block told. -/
theorem run_append_here {t ty e : TypeId} {i : TypeInfo} {z : Value} {size : Nat} (ht : P.underlying t = some (.slice e)) (hi : P.info? e = some i) (hz : i.zero = some z) (hsize : i.size = size) (hzs : z.cells.size = size) (hsz : size ≠ 0)
    {v : Value} {n : Nat} {xs : List Value} (hown : w.ownsRow 0 e size v n xs) {A : Option Addr} {m c : Nat} {news : List Value} (hl : news.length = m * size) (hA0 : A = none → m = 0)
    (hnews : ∀ a, A = some a → ∀ j u, news[j]? = some u → w.cell? (a.add j) = some u) (h1 : ∀ u ∈ news, u.oneCell' = true) (h63 : n + m ≤ 9223372036854775807) (hbytes : (n + m) * i.bytes ≤ 140737488355328) :
    ∃ v' w', (Builtin.append_ #[t, t] ty #[v, .slice A m c]).run P w = .ok v' w' ∧ w'.ownsRow 0 e size v' (n + m) (xs ++ news) ∧ w.grownBy w' v.ownBlock ∧
      (v'.ownBlock = v.ownBlock ∨ (v'.ownBlock = some w.heap.size ∧ ∀ k < w.heap.size, w'.heap[k]? = w.heap[k]?)) := by
  subst hsize
  have hlen : (xs ++ news).length = (n + m) * i.size := by rw [List.length_append, hown.1, hl, Nat.add_mul]
  by_cases hm : m = 0
  · -- nothing is appended
    subst hm
    have hn : news = [] := List.eq_nil_of_length_eq_zero (by simpa using hl)
    subst hn
    refine ⟨v, w, ?_, by simpa using hown, ⟨rfl, rfl, rfl, Nat.le_refl _, fun _ _ _ => rfl⟩, .inl rfl⟩
    rcases hown.2 with ⟨rfl, rfl⟩ | ⟨q, cap, cur, rfl, _, hq, hnc, _, _, _⟩
    · cases A <;> simp [Builtin.append_, run_underlying ht, sizeOf, typeInfo, hi, Builtin.lenOf, Builtin.firstCells, loadCells, loadCellsFrom]
    · cases A <;> simp [Builtin.append_, run_underlying ht, sizeOf, typeInfo, hi, Builtin.lenOf, Builtin.firstCells, loadCells, loadCellsFrom, hnc, storeCells]
  · cases A with
    | none => exact absurd (hA0 rfl) hm
    | some ad =>
      have hnews := hnews ad rfl
      have hml : maxLen = 9223372036854775807 := rfl
      have hcm : ∀ old, grownCap w (n + m) old e ≤ maxLen := fun old => grownCap_le_maxLen w (n + m) old e (by rw [hml]; exact h63)
      have grown : ∀ (old : Nat), (w.drew.alloc (.cells (xs.toArray ++ news.toArray ++ Builtin.zeroCells z.cells (grownCap w (n + m) old e - (n + m))) e)).ownsRow 0 e i.size
          (.slice (some ⟨w.heap.size, 0, none⟩) (n + m) (grownCap w (n + m) old e)) (n + m) (xs ++ news) := by
        intro old
        have hge := grownCap_ge w (n + m) old e
        refine ⟨hlen, .inr ⟨w.heap.size, _, _, rfl, Nat.zero_le _, heap_alloc_new w.drew _, hge, hcm old, ?_, ?_⟩⟩
        · simp only [Array.size_append, List.size_toArray, size_zeroCells, hzs, hown.1, hl, ← Nat.add_mul]
          congr 1
          omega
        · simp only [Array.toList_append, List.append_assoc]
          rw [← List.append_assoc, ← hlen]
          exact List.take_left
      have gb : ∀ old, w.grownBy (w.drew.alloc (.cells (xs.toArray ++ news.toArray ++ Builtin.zeroCells z.cells (grownCap w (n + m) old e - (n + m))) e)) v.ownBlock :=
        fun old => ⟨rfl, rfl, rfl, by show w.heap.size ≤ (w.heap.push _).size; rw [Array.size_push]; exact Nat.le_succ _, fun k hk _ => heap_alloc_old w.drew _ k hk⟩
      rcases hown.2 with ⟨rfl, rfl⟩ | ⟨q, cap, cur, rfl, _, hq, hnc, hcmx, hcs, htake⟩
      · have hx : xs = [] := List.eq_nil_of_length_eq_zero (by simpa using hown.1)
        subst hx
        have hr := run_append_nil (P := P) w t ty e i z ht hi hz ad m c news hl hnews (by omega) (by omega) (by have hb := hbytes; simp only [Nat.zero_add] at hb; omega)
        have hg := grown 0
        have hgb := gb 0
        simp only [Nat.zero_add, List.nil_append, Array.empty_append] at hg hgb ⊢
        exact ⟨_, _, hr, hg, hgb, .inr ⟨rfl, fun k hk => heap_alloc_old w.drew _ k hk⟩⟩
      · by_cases hroom : n + m ≤ cap
        · have hfit : n * i.size + news.length ≤ cur.size := by rw [hl, hcs, ← Nat.add_mul]; exact Nat.mul_le_mul_right _ hroom
          have hr := run_append_room (P := P) w t ty e i ht hi q n cap cur hq ad m c news hl hnews h1 hroom hfit
          refine ⟨_, _, hr, ⟨hlen, .inr ⟨q, cap, _, rfl, Nat.zero_le _, setRow_heap w q cur _ e _ hq, hroom, hcmx, ?_, ?_⟩⟩, ⟨rfl, rfl, rfl, by simp, fun k hk hk' => setRow_other w q k _ (fun e => hk' (by simp [Value.ownBlock, e]))⟩, .inl rfl⟩
          · simp only [List.size_toArray, List.length_append, List.length_take, List.length_drop, Array.length_toList]
            omega
          · rw [htake, ← hlen]
            exact List.take_left
        · have holds : ∀ j u, xs[j]? = some u → w.cell? ((⟨q, 0, none⟩ : Addr).add j) = some u := hown.cells (g := q) rfl
          have hr := run_append_grow (P := P) w t ty e i z ht hi hz ⟨q, 0, none⟩ n cap xs hown.1 holds ad m c news hl hnews (by omega) (by omega) (growslice_fits (by omega) hbytes)
          exact ⟨_, _, hr, grown cap, gb cap, .inr ⟨rfl, fun k hk => heap_alloc_old w.drew _ k hk⟩⟩
theorem rep_one {ok : Nat → Prop} : ∀ {t : Ty} {x : t.den} {cs : List Value}, Rep E.ET ok w t x cs → ∀ v ∈ cs, v.oneCell' = true
  | .int _, _, _, h, v, hv => by simp only [Rep] at h; subst h; simp at hv; subst hv; rfl
  | .bool, _, _, h, v, hv => by simp only [Rep] at h; subst h; simp at hv; subst hv; rfl
  | .str, _, _, h, v, hv => by simp only [Rep] at h; subst h; simp at hv; subst hv; rfl
  | .err, x, _, h, v, hv => by simp only [Rep] at h; subst h; simp at hv; subst hv; cases x <;> rfl
  | .sl t, _, _, ⟨A, c, cs', e, _⟩, v, hv => by subst e; simp at hv; subst hv; rfl
  | .nptr t, none, _, h, v, hv => by simp only [Rep] at h; subst h; simp at hv; subst hv; rfl
  | .nptr t, some _, _, ⟨b, o, cs', e, _⟩, v, hv => by subst e; simp at hv; subst hv; rfl
  | .pair a b, _, _, ⟨c1, c2, e, h1, h2⟩, v, hv => by
    subst e
    rcases List.mem_append.1 hv with h | h
    · exact rep_one h1 v h
    · exact rep_one h2 v h
  | .unit, _, _, h, v, hv => by simp only [Rep] at h; subst h; cases hv
theorem reps_one {ok : Nat → Prop} {t : Ty} : ∀ {l : List t.den} {cs : List Value}, Reps (fun x c => Rep E.ET ok w t x c) l cs → ∀ v ∈ cs, v.oneCell' = true
  | [], cs, h, v, hv => by simp only [Reps] at h; subst h; cases hv
  | x :: l, _, ⟨c1, c2, e, h1, h2⟩, v, hv => by
    subst e
    rcases List.mem_append.1 hv with h | h
    · exact rep_one h1 v h
    · exact reps_one h2 v h
theorem append_sound (hE : EnvOk P E) {d : Option Tmp} {T ty : TypeId} {x y : AV} {xv yv : Value} {K : AV → Boxes → Option R} (h : evAppend E d T x y bs K = some out)
    (hx : VRel E.ET g bs w x xv) (hy : VRel E.ET g bs w y yv) (hb : BsRel E.ET g bs w) : Done P E.ET out g bs w K (Builtin.append_ #[T, T] ty #[xv, yv]) := by
  unfold evAppend at h
  split at h
  · rename_i e hk
    obtain ⟨dd, hd, rfl⟩ := und_of hE hk (by simp)
    split at h
    · rename_i r hr
      obtain ⟨h1, h⟩ := bif_some h
      obtain ⟨r', i, hr', hi, hsz, hrs, hby, hne, hro⟩ := elemRow_of hE h1
      rw [hr] at hr'
      simp only [Option.some.injEq] at hr'
      subst hr'
      obtain ⟨i', z, hi', hsz', _, hz, hzr, hzs, _⟩ := hro.info
      rw [hi] at hi'
      simp only [Option.some.injEq] at hi'
      subst hi'
      split at h
      · rename_i ys hys
        obtain ⟨A, c, news, rfl, q1, q2, q3⟩ := srcOf_rel hne hys hy hb
        have hnl : news.length = ys.length * i.size := by rw [Reps.length (fun x c hc => Rep.length hc) q1, hsz]
        split at h
        · -- to nil
          obtain ⟨h2, h⟩ := bif_some h
          obtain ⟨h2, h3⟩ := and3 h2
          have h2 := of_decide_eq_true h2
          have h3 := of_decide_eq_true h3
          rw [show xv = .slice none 0 0 from hx]
          obtain ⟨v', w1, k1, k2, k3, k4⟩ := run_append_here (P := P) (ty := ty) hd hi hz rfl (by rw [hzs, hsz']) (by rw [hsz]; exact hne) (w.ownsRow_nil 0 e i.size) (A := A) (c := c) hnl (fun hA => by rw [q2 hA]; rfl) q3 (reps_one q1)
            (by rw [Nat.zero_add]; exact h3) (by rw [Nat.zero_add, hby]; exact h2)
          rw [Nat.zero_add, List.nil_append, hsz] at k2
          obtain ⟨v, bs', g', n1, n2, n3, n4⟩ := newRow_sound h hb k3.os k3.tape k3.output k3.size
            (fun q hq _ => k3.block q hq (by simp [Value.ownBlock]))
            (fun q hq hlt => by
              rcases k4 with k4 | k4
              · rw [hq] at k4; simp [Value.ownBlock] at k4
              · rw [hq] at k4; simp only [Option.some.injEq] at k4; have := k4.1; omega) k2 q1
          exact ⟨v, _, bs', g', _, n1, k1, n2, n3, n4⟩
        · rename_i b v _
          split at h
          · rename_i e' t xs hbox
            obtain ⟨hee, h⟩ := bif_some h
            obtain ⟨hee, hb0⟩ := and3 hee
            have hee := Nat.eq_of_beq_eq_true hee
            subst hee
            split at h
            · rename_i et
              subst et
              obtain ⟨h2, h⟩ := bif_some h
              obtain ⟨h2, h3⟩ := and3 h2
              have h2 := of_decide_eq_true h2
              have h3 := of_decide_eq_true h3
              have hlook := getBox_look hbox (by simp)
              have hxv := hx.2.2 _ _ _ hbox
              subst hxv
              obtain ⟨cs, p1, p2, p3⟩ := hb b v _ hlook
              rw [← hsz] at p1
              obtain ⟨v', w1, k1, k2, k3, k4⟩ := run_append_here (P := P) (ty := ty) hd hi hz rfl (by rw [hzs, hsz']) (by rw [hsz]; exact hne) p1 (A := A) (c := c) hnl (fun hA => by rw [q2 hA]; rfl) q3 (reps_one q1)
                h3 (by rw [hby]; exact h2)
              rw [hsz, ← List.length_append] at k2
              have hbk := hb.kill hlook
              obtain ⟨v2, bs', g', n1, n2, n3, n4⟩ := newRow_sound h hbk k3.os k3.tape k3.output k3.size
                (fun q hq hne' => by
                  by_cases hq' : (g.hd b).ownBlock = some q
                  · rcases k4 with k4 | k4
                    · exact absurd (k4.trans hq') hne'
                    · exact k4.2 q (by rcases p1.2 with ⟨e1, _⟩ | ⟨blk, cap, cur, e1, _, hbk', _⟩
                                       · rw [e1] at hq'; simp [Value.ownBlock] at hq'
                                       · rw [e1] at hq'; simp only [Value.ownBlock, Option.some.injEq] at hq'; subst hq'; exact (Array.getElem?_eq_some_iff.1 hbk').1)
                  · exact k3.block q hq (fun e => hq' e.symm))
                (fun q hq hlt => by
                  rcases k4 with k4 | k4
                  · refine ⟨b, ⟨p3 q (k4 ▸ hq), ne0 hb0⟩, fun ver c hl => ?_⟩
                    unfold kill at hl
                    rw [look_cons_eq] at hl
                    simp only [Option.some.injEq, Prod.mk.injEq] at hl
                    exact hl.2.symm
                  · rw [hq] at k4; simp only [Option.some.injEq] at k4; have := k4.1; omega) k2 (Reps.join p2 q1)
              exact ⟨v2, _, bs', g', _, n1, k1, n2, n3, (Ext.kill hlook).trans n4⟩
            · cases h
          · cases h
        · cases h
      · cases h
    · cases h
  · cases h
end
end Go.Proofs.Ytfdppbfefplikaa.Ev
