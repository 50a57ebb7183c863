/- Own texts, put together: see the row's text for what is proved. -/
import Derived.Test.YtcnngodgngmghaaGreatDoorPkListParses0
namespace Go.Proofs.YtcnngodgngmghaaGreatDoor.Ev
open Go
open Go.RowKit Go.Lib
set_option linter.unusedVariables false
set_option linter.unusedSimpArgs false
section
variable {P : Program} {E : Env} {R : Type} {out : R} {g0 g g' : Gh} {w0 w w' : World} {sl : List AV} {bs0 bs bs' : Al} {a : Act}
theorem Aiy {α : Type} {r : α -> List Value -> Prop} {x : α} {v : Value} (h : r x [v]) : ∀ n, It r (List.replicate n x) (List.replicate n v)
 | 0 => rfl
 | n + 1 => ⟨[v], List.replicate n v, rfl, h, Aiy h n⟩
theorem As3 (hE : Db P E) {d : Option Tmp} {T : TypeId} {x y : AV} {xv yv : Value} {K : AV -> Al -> Option R} (h : N0 E d T x y bs K = some out)
  (hx : Cb E.ET g bs w x xv) (hy : Cb E.ET g bs w y yv) (hb : Cy E.ET g bs w) : A1l P E.ET out g bs w K (Instr.makeSlice T xv yv) := by
 unfold N0 at h
 split at h
 ·rename_i n m e hk
  rw [Mf hx, Mf hy]
  generalize (show Int from n) = n at h
  generalize (show Int from m) = m at h
  obtain ⟨dd, hd, rfl⟩ := C5 hE hk (by simp)
  split at h
  ·rename_i r hr
   split at h
   ·rename_i z0 hz0
    obtain ⟨hc, h⟩ := Af h
    obtain ⟨hc, h6⟩ := I9 hc
    obtain ⟨hc, h5⟩ := I9 hc
    obtain ⟨hc, h4⟩ := I9 hc
    obtain ⟨hc, h3⟩ := I9 hc
    obtain ⟨h1, h2⟩ := I9 hc
    have h2 := Nat.eq_of_beq_eq_true h2
    have h3 : 0 <= n := of_decide_eq_true h3
    have h4 : n <= m := of_decide_eq_true h4
    have h5 : m * (r.bytes : Int) <= 140737488355328 := of_decide_eq_true h5
    have h6 : m <= 9223372036854775807 := of_decide_eq_true h6
    obtain ⟨r', i, hr', hi, hsz, hrs, hby, hne, hro⟩ := Iw hE h1
    rw [hr] at hr'
    simp only [Option.some.injEq] at hr'
    subst hr'
    obtain ⟨i', z, hi', _, _, hz, hzr, hzs, _⟩ := hro.info
    rw [hi] at hi'
    simp only [Option.some.injEq] at hi'
    subst hi'
    have hsz1 : r.shape.sz = 1 := by rw [<- hrs]; exact h2
    rw [h2] at hzs
    obtain ⟨zv, hzv⟩ : ∃ zv, z.cells = #[zv] := by
     match hzc : z.cells, hzs with
     | ⟨[q]⟩, _ => exact ⟨q, rfl⟩
    have hrep := Aab hz0 (hzr g bs w)
    rw [hzv] at hrep
    have hrun := run_make (P := P) w T e i z hd hi hz .i64 .i64 n m h3 h4 (by rw [hby, Int.mul_comm]; omega) h6
    rw [hsz, hsz1, Nat.mul_one, hzv] at hrun
    obtain ⟨v, bs', g', n1, n2, n3, n4⟩ := Oc (w' := w.alloc (.cells (madeCells #[zv] m.toNat) e)) (hv := .slice (some ⟨w.heap.size, 0, none⟩) n.toNat m.toNat) (cs := List.replicate n.toNat zv) h hb rfl rfl rfl (by simp)
     (fun q hq _ => Pz w _ q hq) (fun q hq hlt => by simp only [Value.ownBlock, Option.some.injEq] at hq; omega)
     (by
      rw [List.length_replicate, hsz1]
      refine ⟨by simp, .inr ⟨w.heap.size, m.toNat, _, rfl, Nat.zero_le _, ⟨_, heap_alloc_new w _, Vl _⟩, by omega, by simp only [maxLen]; omega, by rw [size_madeCells, Nat.mul_one], ?_⟩⟩
      rw [toList_madeCells_one, Nat.mul_one, List.take_replicate, Nat.min_eq_left (by omega)])
     (Aiy hrep _)
    exact ⟨v, _, bs', g', _, n1, hrun, n2, n3, n4⟩
   ·cases h
  ·cases h
 ·cases h
def Src (ET : TypeId) (g : Gh) (w : World) (t : Ty) (ys : List t.den) (v : Value) : Prop :=
 ∃ A c news, v = .slice A ys.length c /\ It (fun x c => Rep ET (okB g w) w t x c) ys news /\ (A = none -> ys = []) /\ ∀ a, A = some a -> ∀ j u, news[j]? = some u -> w.cell? (a.add j) = some u
theorem A2l {e : TypeId} {t : Ty} (h0 : t.sz ≠ 0) {y : AV} {yv : Value} {ys : List t.den} (h : A3n E bs e t y = some ys) (hy : Cb E.ET g bs w y yv) (hb : Cy E.ET g bs w) : Src E.ET g w t ys yv := by
 unfold A3n at h
 split at h
 ·simp only [Option.some.injEq] at h
  subst h
  rw [show yv = .slice none 0 0 from hy]
  exact ⟨none, 0, [], rfl, rfl, fun _ => rfl, fun a ha => by cases ha⟩
 ·rename_i t' l
  split at h
  ·rename_i e
   subst e
   simp only [Option.some.injEq] at h
   subst h
   obtain ⟨A, c, cs', e1, h6, h7, h8⟩ := In hy
   simp only [List.cons.injEq, and_true] at e1
   subst e1
   refine ⟨A, c, cs', rfl, h7, fun hA => ?_, fun a ha j u hj => ?_⟩
   ·rcases h8 with rfl | ⟨b, o, hA', _⟩
    ·have hl := It.length (fun x c hc => Rep.length hc) h7
     simp only [List.length_nil] at hl
     rcases Nat.mul_eq_zero.1 hl.symm with h | h
     ·exact List.eq_nil_of_length_eq_zero h
     ·exact absurd h h0
    ·rw [hA] at hA'; cases hA'
   ·rcases h8 with rfl | ⟨b, o, hA', _, k4⟩
    ·simp at hj
    ·rw [ha] at hA'
     simp only [Option.some.injEq] at hA'
     subst hA'
     rw [Addr.add_lit]; exact k4 j u hj
  ·cases h
 ·rename_i b v
  split at h
  ·rename_i e' t' xs hbox
   split at h
   ·rename_i et
    subst et
    obtain ⟨_, h⟩ := Af h
    simp only [Option.some.injEq] at h
    subst h
    have hyv := hy.2.2 _ _ _ hbox
    obtain ⟨cs, k1, k2, k3⟩ := hb b v _ (A8 hbox (by simp))
    rcases k1.2 with ⟨e1, e0⟩ | ⟨blk, cap, cur, e1, hq⟩
    ·have : xs = [] := List.eq_nil_of_length_eq_zero e0
     subst this
     rw [hyv, e1]
     exact ⟨none, 0, [], rfl, rfl, fun _ => rfl, fun a ha => by cases ha⟩
    ·rw [hyv, e1]
     refine ⟨_, _, cs, rfl, k2, fun hA => (by cases hA), fun a ha j u hj => ?_⟩
     simp only [Option.some.injEq] at ha
     subst ha
     exact Tv.cells k1 (g := blk) (by rw [e1]; rfl) j u hj
   ·cases h
  ·cases h
 ·cases h
theorem Ast {t ty e : TypeId} {i : TypeInfo} {z : Value} {size : Nat} (ht : P.underlying t = some (.slice e)) (hi : P.info? e = some i) (hz : i.zero = some z) (hsize : i.size = size) (hzs : z.cells.size = size) (hsz : size ≠ 0)
  {v : Value} {n : Nat} {xs : List Value} (hown : Tv w e size v n xs) {A : Option Addr} {m c : Nat} {news : List Value} (hl : news.length = m * size) (hA0 : A = none -> m = 0)
  (hnews : ∀ a, A = some a -> ∀ j u, news[j]? = some u -> w.cell? (a.add j) = some u) (h1 : ∀ u ∈ news, u.oneCell' = true) (h63 : n + m <= 9223372036854775807) (hbytes : (n + m) * i.bytes <= 140737488355328) :
  ∃ v' w', (Builtin.append_ #[t, t] ty #[v, .slice A m c]).run P w = .ok v' w' /\ Tv w' e size v' (n + m) (xs ++ news) /\ w.grownBy w' v.ownBlock /\
   (v'.ownBlock = v.ownBlock \/ (v'.ownBlock = some w.heap.size /\ ∀ k < w.heap.size, w'.heap[k]? = w.heap[k]?)) := by
 subst hsize
 have hlen : (xs ++ news).length = (n + m) * i.size := by rw [List.length_append, hown.1, hl, Nat.add_mul]
 by_cases hm : m = 0
 ·-- nothing is appended
  subst hm
  have hn : news = [] := List.eq_nil_of_length_eq_zero (by simpa using hl)
  subst hn
  refine ⟨v, w, ?_, by simpa using hown, ⟨rfl, rfl, rfl, Nat.le_refl _, fun _ _ _ => rfl⟩, .inl rfl⟩
  rcases hown.2 with ⟨rfl, rfl⟩ | ⟨q, cap, cur, rfl, _, ⟨fz, hq, hfz⟩, hnc, _, _, _⟩
  ·cases A <;> simp [Builtin.append_, run_underlying ht, sizeOf, typeInfo, hi, Builtin.lenOf, Builtin.firstCells, loadCells, loadCellsFrom]
  ·cases A <;> simp [Builtin.append_, run_underlying ht, sizeOf, typeInfo, hi, Builtin.lenOf, Builtin.firstCells, loadCells, loadCellsFrom, hnc, storeCells]
 ·cases A with
  | none => exact absurd (hA0 rfl) hm
  | some ad =>
   have hnews := hnews ad rfl
   have hml : maxLen = 9223372036854775807 := rfl
   have hcm : ∀ old, grownCap w (n + m) old e <= maxLen := fun old => grownCap_le_maxLen w (n + m) old e (by rw [hml]; exact h63)
   have grown : ∀ (old : Nat), Tv (w.drew.alloc (.cells (xs.toArray ++ news.toArray ++ Builtin.zeroCells z.cells (grownCap w (n + m) old e - (n + m))) e)) e i.size
     (.slice (some ⟨w.heap.size, 0, none⟩) (n + m) (grownCap w (n + m) old e)) (n + m) (xs ++ news) := by
    intro old
    have hge := grownCap_ge w (n + m) old e
    refine ⟨hlen, .inr ⟨w.heap.size, _, _, rfl, Nat.zero_le _, ⟨_, heap_alloc_new w.drew _, Vl _⟩, hge, hcm old, ?_, ?_⟩⟩
    ·simp only [Array.size_append, List.size_toArray, size_zeroCells, hzs, hown.1, hl, <- Nat.add_mul]
     congr 1
     omega
    ·simp only [Array.toList_append, List.append_assoc]
     rw [<- List.append_assoc, <- hlen]
     exact List.take_left
   have gb : ∀ old, w.grownBy (w.drew.alloc (.cells (xs.toArray ++ news.toArray ++ Builtin.zeroCells z.cells (grownCap w (n + m) old e - (n + m))) e)) v.ownBlock :=
    fun old => ⟨rfl, rfl, rfl, by show w.heap.size <= (w.heap.push _).size; rw [Array.size_push]; exact Nat.le_succ _, fun k hk _ => Pz w.drew _ k hk⟩
   rcases hown.2 with ⟨rfl, rfl⟩ | ⟨q, cap, cur, rfl, _, ⟨fz, hq, hfz⟩, hnc, hcmx, hcs, htake⟩
   ·have hx : xs = [] := List.eq_nil_of_length_eq_zero (by simpa using hown.1)
    subst hx
    have hr := run_append_nil (P := P) w t ty e i z ht hi hz ad m c news hl hnews (by omega) (by omega) (by have hb := hbytes; simp only [Nat.zero_add] at hb; omega)
    have hg := grown 0
    have hgb := gb 0
    simp only [Nat.zero_add, List.nil_append, Array.empty_append] at hg hgb ⊢
    exact ⟨_, _, hr, hg, hgb, .inr ⟨rfl, fun k hk => Pz w.drew _ k hk⟩⟩
   ·by_cases hroom : n + m <= cap
    ·have hfit : n * i.size + news.length <= cur.size := by rw [hl, hcs, <- Nat.add_mul]; exact Nat.mul_le_mul_right _ hroom
     have hr := Ao9 (P := P) w t ty e i ht hi q n cap cur fz hq hfz ad m c news hl hnews h1 hroom hfit
     refine ⟨_, _, hr, ⟨hlen, .inr ⟨q, cap, _, rfl, Nat.zero_le _, ⟨_, setRow_heap w q cur _ e _ hq, Ae9 hfz ?_⟩, hroom, hcmx, ?_, ?_⟩⟩, ⟨rfl, rfl, rfl, by simp, fun k hk hk' => setRow_other w q k _ (fun e => hk' (by simp [Value.ownBlock, e]))⟩, .inl rfl⟩
     ·simp only [List.size_toArray, List.length_append, List.length_take, List.length_drop, Array.length_toList]
      omega
     ·simp only [List.size_toArray, List.length_append, List.length_take, List.length_drop, Array.length_toList]
      omega
     ·rw [htake, <- hlen]
      exact List.take_left
    ·have holds : ∀ j u, xs[j]? = some u -> w.cell? ((⟨q, 0, none⟩ : Addr).add j) = some u := hown.cells (g := q) rfl
     have hr := run_append_grow (P := P) w t ty e i z ht hi hz ⟨q, 0, none⟩ n cap xs hown.1 holds ad m c news hl hnews (by omega) (by omega) (growslice_fits (by omega) hbytes)
     exact ⟨_, _, hr, grown cap, gb cap, .inr ⟨rfl, fun k hk => Pz w.drew _ k hk⟩⟩
theorem A60 {ok : Nat -> Prop} : ∀ {t : Ty} {x : t.den} {cs : List Value}, Rep E.ET ok w t x cs -> ∀ v ∈ cs, v.oneCell' = true
 | .int _, _, _, h, v, hv => by simp only [Rep] at h; subst h; simp at hv; subst hv; rfl
 | .bool, _, _, h, v, hv => by simp only [Rep] at h; subst h; simp at hv; subst hv; rfl
 | .str, _, _, h, v, hv => by simp only [Rep] at h; subst h; simp at hv; subst hv; rfl
 | .err, x, _, h, v, hv => by simp only [Rep] at h; subst h; simp at hv; subst hv; cases x <;> rfl
 | .sl t, _, _, ⟨A, c, cs', e, _⟩, v, hv => by subst e; simp at hv; subst hv; rfl
 | .nptr t, none, _, h, v, hv => by simp only [Rep] at h; subst h; simp at hv; subst hv; rfl
 | .nptr t, some _, _, ⟨b, o, cs', e, _⟩, v, hv => by subst e; simp at hv; subst hv; rfl
 | .pair a b, _, _, ⟨c1, c2, e, h1, h2⟩, v, hv => by
  subst e
  rcases List.mem_append.1 hv with h | h
  ·exact A60 h1 v h
  ·exact A60 h2 v h
 | .unit, _, _, h, v, hv => by simp only [Rep] at h; subst h; cases hv
theorem Az2 {ok : Nat -> Prop} {t : Ty} : ∀ {l : List t.den} {cs : List Value}, It (fun x c => Rep E.ET ok w t x c) l cs -> ∀ v ∈ cs, v.oneCell' = true
 | [], cs, h, v, hv => by simp only [It] at h; subst h; cases hv
 | x :: l, _, ⟨c1, c2, e, h1, h2⟩, v, hv => by
  subst e
  rcases List.mem_append.1 hv with h | h
  ·exact A60 h1 v h
  ·exact Az2 h2 v h
theorem A4y (dT sT ty elem : TypeId) (g o dLen dCap : Nat) (A : Option Addr) (sLen sCap : Nat) (cur : Array Value) (t : TypeId) (fz : Nat × Nat) (cs : List Value)
  (hu : P.underlying dT = some (.slice elem)) (hs : (P.info? elem).map (·.size) = some 1)
  (hg : w.heap[g]? = some (.cells cur t fz)) (hfz : A8n fz cur.size) (hn : cs.length = Nat.min sLen dLen) (hA : A = none -> sLen = 0)
  (hsrc : ∀ a, A = some a -> ∀ j v, cs[j]? = some v -> w.cell? (a.add j) = some v) (hfit : o + cs.length <= cur.size) (h1 : ∀ v ∈ cs, v.oneCell' = true) :
  (Builtin.copy_ #[dT, sT] ty #[.slice (some ⟨g, o, none⟩) dLen dCap, .slice A sLen sCap]).run P w =
   .ok (goInt cs.length) (w.setRow g (cur.toList.take o ++ cs ++ cur.toList.drop (o + cs.length)).toArray) := by
 have hst := Hw P g o t fz cs 0 cur w hg hfz (by simpa using hfit) h1
 cases hq : P.info? elem with
 | none => simp [hq] at hs
 | some i =>
  have hi : i.size = 1 := by simpa [hq] using hs
  cases A with
  | none =>
   have h0 := hA rfl
   subst h0
   have : cs = [] := List.eq_nil_of_length_eq_zero (by rw [hn]; exact Nat.zero_min _)
   subst this
   simp at hst
   simp [Builtin.copy_, run_underlying hu, Builtin.lenOf, Builtin.firstCells, sizeOf, typeInfo, hq, hi, hst]
  | some a =>
   have hl := run_loadCells_list (P := P) w a cs (hsrc a rfl)
   simp [Builtin.copy_, run_underlying hu, Builtin.lenOf, Builtin.firstCells, sizeOf, typeInfo, hq, hi, <- hn, hl, hst]
theorem Axy (hE : Db P E) {T U ty : TypeId} {x y : AV} {xv yv : Value} {K : AV -> Al -> Option R} (h : Ap3 E T U x y bs K = some out)
  (hx : Cb E.ET g bs w x xv) (hy : Cb E.ET g bs w y yv) (hb : Cy E.ET g bs w) : A1l P E.ET out g bs w K (Builtin.copy_ #[T, U] ty #[xv, yv]) := by
 unfold Ap3 at h
 split at h
 ·rename_i e b v lo hk
  obtain ⟨dd, hd, rfl⟩ := C5 hE hk (by simp)
  split at h
  ·rename_i e' t xs hbox
   split at h
   ·rename_i ys hys0
    obtain ⟨hc, hK⟩ := Af h
    clear h
    obtain ⟨hc, h5⟩ := I9 hc
    obtain ⟨hc, h4⟩ := I9 hc
    obtain ⟨hc, h3⟩ := I9 hc
    obtain ⟨h1, h2⟩ := I9 hc
    have e1 := Nat.eq_of_beq_eq_true h1
    subst e1
    have hs1 := Nat.eq_of_beq_eq_true h3
    obtain ⟨r, i, hr, hi, hsz, hrs, hby, hne, hro⟩ := Iw hE h2
    have hlook := A8 hbox (by simp)
    obtain ⟨l0, l1, blk, m, c, hhd, rfl⟩ := hx.2.2 _ _ _ hbox
    obtain ⟨A, c', cs', rfl, q2, qA, q3⟩ := A2l hne hys0 hy hb
    obtain ⟨cs, k1, k2, k3⟩ := hb b v _ hlook
    have hOb := k3 blk (by rw [hhd]; rfl)
    rcases k1.2 with ⟨e0, _⟩ | ⟨blk', cap, cur, e5, _, ⟨fz, hq, hfz⟩, hq1, hq2, hq3, hq4⟩
    ·rw [hhd] at e0; cases e0
    rw [hhd] at e5
    simp only [Value.slice.injEq, Option.some.injEq, Addr.mk.injEq, and_true] at e5
    obtain ⟨rfl, rfl, rfl⟩ := e5
    obtain ⟨l, rfl⟩ := Int.eq_ofNat_of_zero_le l0
    simp only [Int.toNat_natCast] at hK ⊢
    have hlt : l < xs.length := by omega
    generalize hn : min ys.length (xs.length - l) = n at hK
    have hn1 : n <= ys.length := by omega
    have hn2 : l + n <= xs.length := by omega
    -- the cells
    have hys : ys = ys.take n ++ ys.drop n := (List.take_append_drop ..).symm
    rw [hys] at q2
    obtain ⟨c1, c2, e2, p1, p2⟩ := It.split q2
    have hx3 : xs = xs.take l ++ ((xs.drop l).take n ++ xs.drop (l + n)) := by
     rw [<- List.drop_drop, List.take_append_drop, List.take_append_drop]
    rw [hx3] at k2
    obtain ⟨d1, d23, f1, u1, u23⟩ := It.split k2
    obtain ⟨d2, d3, f2, u2, u3⟩ := It.split u23
    have lc1 : c1.length = n := by
     have := It.length (fun x c hc => Rep.length hc) p1
     rw [this, hs1, List.length_take]; omega
    have ld1 : d1.length = l := by
     have := It.length (fun x c hc => Rep.length hc) u1
     rw [this, hs1, List.length_take]; omega
    have ld2 : d2.length = n := by
     have := It.length (fun x c hc => Rep.length hc) u2
     rw [this, hs1, List.length_take, List.length_drop]; omega
    have hcsl : cs.length = xs.length := by rw [k1.1, hs1, Nat.mul_one]
    have hcap : cur.size = c := by rw [hq3, hs1, Nat.mul_one]
    have hrun := A4y (P := P) (w := w) T U ty e' blk l (xs.length - l) (c - l) A ys.length c' cur e' fz c1 hd (by rw [hi]; exact congrArg some (hsz.trans hs1)) hq hfz (by rw [lc1, <- hn])
     (fun hA => by rw [qA hA]; rfl)
     (fun a ha j u hj => q3 a ha j u (by rw [e2, List.getElem?_append_left (List.getElem?_eq_some_iff.1 hj).1]; exact hj))
     (by rw [lc1, hcap]; omega) (Az2 p1)
    rw [hs1, Nat.mul_one]
    generalize hC : (cur.toList.take l ++ c1 ++ cur.toList.drop (l + c1.length)).toArray = C at hrun
    have fr : Fr g w g (w.setRow blk C) := Fr.setRow hOb (ne0 h4)
    have hlen : (cpL xs l ys).length = xs.length := by
     unfold cpL
     simp only [List.length_append, List.length_take, List.length_drop]; omega
    have he := Ext.same (c' := .row e' t (cpL xs l ys)) hlook (show Xv _ _ from ⟨rfl, rfl, hlen.symm⟩) fr rfl
    refine ⟨_, _, _, g, _, hK, hrun, ?_, ?_, he⟩
    ·rw [lc1]; exact Pp _ _
    refine hb.cons he (fun b' hb' => ⟨rfl, fun q hq' ho => ⟨ho, setRow_other w blk q _ (fun e => by subst e; rw [hOb] at ho; simp only [Option.some.injEq] at ho; exact hb' ho.symm)⟩⟩) ?_
    have hcp : cpL xs l ys = xs.take l ++ (ys.take n ++ xs.drop (l + n)) := by unfold cpL; rw [hn]
    refine ⟨d1 ++ (c1 ++ d3), ?_, ?_, fun q hq' => k3 q hq'⟩
    ·rw [hlen]
     have hcs : d1 ++ (c1 ++ d3) = cs.take l ++ c1 ++ cs.drop (l + c1.length) := by
      rw [f1, f2, <- ld1, List.take_left, List.append_assoc, lc1, <- ld2, <- List.length_append, <- List.append_assoc d1 d2 d3, List.drop_left]
     refine ⟨?_, .inr ⟨blk, c, C, hhd, Nat.zero_le _, ⟨fz, setRow_heap w blk cur C e' _ hq, Ae9 hfz ?_⟩, hq1, hq2, ?_, ?_⟩⟩
     ·rw [hs1, Nat.mul_one, <- hcsl, f1, f2]
      simp only [List.length_append]; omega
     ·rw [<- hC, List.size_toArray]
      simp only [List.length_append, List.length_take, List.length_drop, Array.length_toList]; omega
     ·rw [<- hq3, <- hC, List.size_toArray]
      simp only [List.length_append, List.length_take, List.length_drop, Array.length_toList]; omega
     ·rw [<- hC, List.toList_toArray, hcs, hs1, Nat.mul_one, <- hcsl]
      have hcl : cur.toList.length = c := (Array.length_toList (xs := cur)).trans hcap
      exact Auc (by rw [hcsl]; rw [hs1, Nat.mul_one] at hq4; exact hq4) (by rw [hcsl, hcl]; exact hq1) (by rw [lc1, hcsl]; omega)
    ·rw [hcp]
     exact (It.join u1 (It.join p1 u3)).mono fun _ _ => Rep.mono fr.okB
   ·cases h
  ·cases h
 ·cases h
theorem Akt {t u ty e : TypeId} {i : TypeInfo} {z : Value} (ht : P.underlying t = some (.slice e)) (hu : P.underlying u = some .string) (hi : P.info? e = some i) (hz : i.zero = some z) (hs1 : i.size = 1) (hzs : z.cells.size = 1)
  {v : Value} {n : Nat} {xs : List Value} (hown : Tv w e 1 v n xs) (s : ByteArray) (h63 : n + s.size <= 9223372036854775807) (hbytes : (n + s.size) * i.bytes <= 140737488355328) :
  ∃ v' w', (Builtin.append_ #[t, u] ty #[v, .string s]).run P w = .ok v' w' /\ Tv w' e 1 v' (n + s.size) (xs ++ strCells s) /\ w.grownBy w' v.ownBlock /\
   (v'.ownBlock = v.ownBlock \/ (v'.ownBlock = some w.heap.size /\ ∀ k < w.heap.size, w'.heap[k]? = w.heap[k]?)) := by
 have hxl : xs.length = n := by simpa using hown.1
 have hlen : (xs ++ strCells s).length = (n + s.size) * 1 := by rw [List.length_append, hxl, strCells_length, Nat.mul_one]
 by_cases hm : s.size = 0
 ·-- nothing is appended
  have hs : strCells s = [] := List.eq_nil_of_length_eq_zero (by rw [strCells_length]; exact hm)
  refine ⟨v, w, ?_, by rw [hs, hm]; simpa using hown, ⟨rfl, rfl, rfl, Nat.le_refl _, fun _ _ _ => rfl⟩, .inl rfl⟩
  rcases hown.2 with ⟨rfl, rfl⟩ | ⟨q, cap, cur, rfl, _, ⟨fz, hq, hfz⟩, hnc, _, _, _⟩
  ·simp [Builtin.append_, run_underlying ht, run_underlying hu, sizeOf, typeInfo, hi, Builtin.lenOf, Builtin.firstCells, hm]
  ·simp [Builtin.append_, run_underlying ht, run_underlying hu, sizeOf, typeInfo, hi, Builtin.lenOf, Builtin.firstCells, hnc, storeCells, hm]
 ·have hml : maxLen = 9223372036854775807 := rfl
  have hcm : ∀ old, grownCap w (n + s.size) old e <= maxLen := fun old => grownCap_le_maxLen w (n + s.size) old e (by rw [hml]; exact h63)
  have grown : ∀ (old : Nat), Tv (w.drew.alloc (.cells (xs.toArray ++ (strCells s).toArray ++ Builtin.zeroCells z.cells (grownCap w (n + s.size) old e - (n + s.size))) e)) e 1
    (.slice (some ⟨w.heap.size, 0, none⟩) (n + s.size) (grownCap w (n + s.size) old e)) (n + s.size) (xs ++ strCells s) := by
   intro old
   have hge := grownCap_ge w (n + s.size) old e
   refine ⟨hlen, .inr ⟨w.heap.size, _, _, rfl, Nat.zero_le _, ⟨_, heap_alloc_new w.drew _, Vl _⟩, hge, hcm old, ?_, ?_⟩⟩
   ·simp only [Array.size_append, List.size_toArray, size_zeroCells, hzs, hxl, strCells_length]
    omega
   ·simp only [Array.toList_append, List.append_assoc]
    rw [<- List.append_assoc, <- hlen]
    exact List.take_left
  have gb : ∀ old, w.grownBy (w.drew.alloc (.cells (xs.toArray ++ (strCells s).toArray ++ Builtin.zeroCells z.cells (grownCap w (n + s.size) old e - (n + s.size))) e)) v.ownBlock :=
   fun old => ⟨rfl, rfl, rfl, by show w.heap.size <= (w.heap.push _).size; rw [Array.size_push]; exact Nat.le_succ _, fun k hk _ => Pz w.drew _ k hk⟩
  rcases hown.2 with ⟨rfl, rfl⟩ | ⟨q, cap, cur, rfl, _, ⟨fz, hq, hfz⟩, hnc, hcmx, hcs, htake⟩
  ·have hx : xs = [] := List.eq_nil_of_length_eq_zero hxl
   subst hx
   have hr := run_append_nil_string (P := P) w t u ty e i z ht hu hi hz s (by omega) (by omega) (by have hb := hbytes; simp only [Nat.zero_add] at hb; omega)
   have hsc : (strCells s).toArray = s.data.map (fun b => Value.int .u8 b.toNat) := by
    apply Array.ext'
    simp [strCells]
   rw [<- hsc] at hr
   have hg := grown 0
   have hgb := gb 0
   simp only [Nat.zero_add, List.nil_append, Array.empty_append] at hg hgb ⊢
   exact ⟨_, _, hr, hg, hgb, .inr ⟨rfl, fun k hk => Pz w.drew _ k hk⟩⟩
  ·by_cases hroom : n + s.size <= cap
   ·have hfit : n + s.size <= cur.size := by rw [hcs, Nat.mul_one]; exact hroom
    have hr := Acr (P := P) w t u ty e i ht hu hi hs1 q n cap cur fz hq hfz s hroom hfit
    refine ⟨_, _, hr, ⟨hlen, .inr ⟨q, cap, _, rfl, Nat.zero_le _, ⟨_, setRow_heap w q cur _ e _ hq, Ae9 hfz ?_⟩, hroom, hcmx, ?_, ?_⟩⟩, ⟨rfl, rfl, rfl, by simp, fun k hk hk' => setRow_other w q k _ (fun e => hk' (by simp [Value.ownBlock, e]))⟩, .inl rfl⟩
    ·simp only [List.size_toArray, List.length_append, List.length_take, List.length_drop, Array.length_toList, strCells_length]
     omega
    ·simp only [List.size_toArray, List.length_append, List.length_take, List.length_drop, Array.length_toList, strCells_length]
     omega
    ·rw [Nat.mul_one] at htake
     rw [List.toList_toArray, htake, <- hlen]
     exact List.take_left
   ·have holds : ∀ j u, xs[j]? = some u -> w.cell? ((⟨q, 0, none⟩ : Addr).add j) = some u := hown.cells (g := q) rfl
    have hr := run_append_grow_string (P := P) w t u ty e i z ht hu hi hz ⟨q, 0, none⟩ n cap xs (by rw [hs1, Nat.mul_one]; exact hxl) holds s (by omega) (by omega) (growslice_fits (by omega) hbytes)
    exact ⟨_, _, hr, grown cap, gb cap, .inr ⟨rfl, fun k hk => Pz w.drew _ k hk⟩⟩
def Bkl (P : Program) (w : World) (T U ty e : TypeId) (i : TypeInfo) (yv : Value) (m : Nat) (news : List Value) : Prop :=
 ∀ {v : Value} {n : Nat} {xs : List Value}, Tv w e i.size v n xs -> n + m <= 9223372036854775807 -> (n + m) * i.bytes <= 140737488355328 ->
  ∃ v' w', (Builtin.append_ #[T, U] ty #[v, yv]).run P w = .ok v' w' /\ Tv w' e i.size v' (n + m) (xs ++ news) /\ w.grownBy w' v.ownBlock /\
   (v'.ownBlock = v.ownBlock \/ (v'.ownBlock = some w.heap.size /\ ∀ k < w.heap.size, w'.heap[k]? = w.heap[k]?))
theorem Bbz {ok : Nat -> Prop} (s : ByteArray) : It (fun (x : Int) c => Rep E.ET ok w (.int .u8) x c) (bytesOf s) (strCells s) := by
 unfold bytesOf strCells
 generalize s.data.toList = l
 induction l with
 | nil => rfl
 | cons x l ih => exact ⟨[.int .u8 (x.toNat : Int)], _, rfl, rfl, ih⟩
theorem Bdz (hE : Db P E) {T U ty e : TypeId} {t : Ty} {i : TypeInfo} {z : Value} {y : AV} {yv : Value} {ys : List t.den} (h0 : t.sz ≠ 0) (h : Ay7 E bs (Nat.beq T U) U e t y = some ys) (hy : Cb E.ET g bs w y yv) (hb : Cy E.ET g bs w)
  (ht : P.underlying T = some (.slice e)) (hi : P.info? e = some i) (hz : i.zero = some z) (hsz : i.size = t.sz) (hzs : z.cells.size = i.size) :
  ∃ news, It (fun x c => Rep E.ET (okB g w) w t x c) ys news /\ Bkl P w T U ty e i yv ys.length news := by
 have plain : (bif Nat.beq T U then A3n E bs e t y else none) = some ys -> ∃ news, It (fun x c => Rep E.ET (okB g w) w t x c) ys news /\ Bkl P w T U ty e i yv ys.length news := by
  intro h1
  obtain ⟨hTU, h2⟩ := Af h1
  have hTU := Nat.eq_of_beq_eq_true hTU
  subst hTU
  obtain ⟨A, c, news, rfl, q1, q2, q3⟩ := A2l h0 h2 hy hb
  have hnl : news.length = ys.length * i.size := by rw [It.length (fun x c hc => Rep.length hc) q1, hsz]
  refine ⟨news, q1, fun {v n xs} ho h1 h2 => ?_⟩
  exact Ast (P := P) (ty := ty) ht hi hz rfl hzs (by rw [hsz]; exact h0) ho (A := A) (c := c) hnl (fun hA => by rw [q2 hA]; rfl) q3 (Az2 q1) h1 h2
 unfold Ay7 at h
 split at h
 ·rename_i s
  split at h
  ·rename_i et
   subst et
   split at h
   ·rename_i hkU hke
    simp only [Option.some.injEq] at h
    subst h
    obtain ⟨d2, uU, rfl⟩ := C5 hE hkU (by simp)
    have hyv : yv = .string s := Aey hy
    subst hyv
    have hlen : (bytesOf s).length = s.size := by
     show (s.data.toList.map _).length = s.data.size
     rw [List.length_map, Array.length_toList]
    have hs1 : i.size = 1 := hsz
    refine ⟨strCells s, Bbz s, fun {v n xs} ho h1 h2 => ?_⟩
    have hlen' : (List.length (α := Ty.den (.int .u8)) (bytesOf s)) = s.size := hlen
    rw [hlen'] at h1 h2 ⊢
    rw [hs1] at ho ⊢
    exact Akt (P := P) (ty := ty) ht uU hi hz hs1 (by rw [hzs, hs1]) ho s h1 h2
   ·cases h
  ·cases h
 ·exact plain h
theorem A3e (hE : Db P E) {d : Option Tmp} {T U ty : TypeId} {x y : AV} {xv yv : Value} {K : AV -> Al -> Option R} (h : Xi E d T U x y bs K = some out)
  (hx : Cb E.ET g bs w x xv) (hy : Cb E.ET g bs w y yv) (hb : Cy E.ET g bs w) : A1l P E.ET out g bs w K (Builtin.append_ #[T, U] ty #[xv, yv]) := by
 unfold Xi at h
 split at h
 ·rename_i e hk
  obtain ⟨dd, hd, rfl⟩ := C5 hE hk (by simp)
  split at h
  ·rename_i r hr
   obtain ⟨h1, h⟩ := Af h
   obtain ⟨r', i, hr', hi, hsz, hrs, hby, hne, hro⟩ := Iw hE h1
   rw [hr] at hr'
   simp only [Option.some.injEq] at hr'
   subst hr'
   obtain ⟨i', z, hi', hsz', _, hz, hzr, hzs, _⟩ := hro.info
   rw [hi] at hi'
   simp only [Option.some.injEq] at hi'
   subst hi'
   split at h
   ·rename_i ys hys
    obtain ⟨news, q1, hApp⟩ := Bdz (ty := ty) hE hne hys hy hb hd hi hz hsz (by rw [hzs, hsz'])
    split at h
    ·-- to nil
     obtain ⟨h2, h⟩ := Af h
     obtain ⟨h2, h3⟩ := I9 h2
     have h2 := of_decide_eq_true h2
     have h3 := of_decide_eq_true h3
     rw [show xv = .slice none 0 0 from hx]
     obtain ⟨v', w1, k1, k2, k3, k4⟩ := hApp (Tv.nil w e i.size)
      (by rw [Nat.zero_add]; exact h3) (by rw [Nat.zero_add, hby]; exact h2)
     rw [Nat.zero_add, List.nil_append, hsz] at k2
     obtain ⟨v, bs', g', n1, n2, n3, n4⟩ := Oc h hb k3.os k3.tape k3.output k3.size
      (fun q hq _ => k3.block q hq (by simp [Value.ownBlock]))
      (fun q hq hlt => by
       rcases k4 with k4 | k4
       ·rw [hq] at k4; simp [Value.ownBlock] at k4
       ·rw [hq] at k4; simp only [Option.some.injEq] at k4; have := k4.1; omega) k2 q1
     exact ⟨v, _, bs', g', _, n1, k1, n2, n3, n4⟩
    ·rename_i b v _
     split at h
     ·rename_i e' t xs hbox
      obtain ⟨hee, h⟩ := Af h
      obtain ⟨hee, hb0⟩ := I9 hee
      have hee := Nat.eq_of_beq_eq_true hee
      subst hee
      split at h
      ·rename_i et
       subst et
       obtain ⟨h2, h⟩ := Af h
       obtain ⟨h2, h3⟩ := I9 h2
       have h2 := of_decide_eq_true h2
       have h3 := of_decide_eq_true h3
       have hlook := A8 hbox (by simp)
       have hxv := hx.2.2 _ _ _ hbox
       subst hxv
       obtain ⟨cs, p1, p2, p3⟩ := hb b v _ hlook
       rw [<- hsz] at p1
       obtain ⟨v', w1, k1, k2, k3, k4⟩ := hApp p1
        h3 (by rw [hby]; exact h2)
       rw [hsz, <- List.length_append] at k2
       have hbk := hb.kill hlook
       obtain ⟨v2, bs', g', n1, n2, n3, n4⟩ := Oc h hbk k3.os k3.tape k3.output k3.size
        (fun q hq hne' => by
         by_cases hq' : (g.hd b).ownBlock = some q
         ·rcases k4 with k4 | k4
          ·exact absurd (k4.trans hq') hne'
          ·exact k4.2 q (by rcases p1.2 with ⟨e1, _⟩ | ⟨blk, cap, cur, e1, _, ⟨fz, hbk', _⟩, _⟩
                            ·rw [e1] at hq'; simp [Value.ownBlock] at hq'
                            ·rw [e1] at hq'; simp only [Value.ownBlock, Option.some.injEq] at hq'; subst hq'; exact (Array.getElem?_eq_some_iff.1 hbk').1)
         ·exact k3.block q hq (fun e => hq' e.symm))
        (fun q hq hlt => by
         rcases k4 with k4 | k4
         ·refine ⟨b, ⟨p3 q (k4 ▸ hq), ne0 hb0⟩, fun ver c hl => ?_⟩
          unfold kill at hl
          rw [Ao] at hl
          simp only [Option.some.injEq, Prod.mk.injEq] at hl
          exact hl.2.symm
         ·rw [hq] at k4; simp only [Option.some.injEq] at k4; have := k4.1; omega) k2 (It.join p2 q1)
       exact ⟨v2, _, bs', g', _, n1, k1, n2, n3, (Ext.kill hlook).trans n4⟩
      ·cases h
     ·cases h
    ·cases h
   ·cases h
  ·cases h
 ·cases h
theorem A7k (hE : Db P E) {T U ty : TypeId} {x y : AV} {xv yv : Value} {K : AV -> Al -> Option R} (h : Agd E T U x y bs K = some out)
  (hx : Cb E.ET g bs w x xv) (hy : Cb E.ET g bs w y yv) (hb : Cy E.ET g bs w) : A1l P E.ET out g bs w K (Builtin.copy_ #[T, U] ty #[xv, yv]) := by
 unfold Agd at h
 split at h
 ·rename_i b v
  split at h
  ·rename_i e' t xs hbox
   obtain ⟨hp, h⟩ := Af h
   have hp := of_decide_eq_true hp
   refine Axy hE h ?_ hy hb
   have hxv := hx.2.2 _ _ _ hbox
   obtain ⟨cs, k1, _, _⟩ := hb b v _ (A8 hbox (by simp))
   rcases k1.2 with ⟨_, e0⟩ | ⟨blk, cap, cur, e1, _⟩
   ·omega
   ·refine ⟨hx.1, hx.2.1, fun T'' t'' xs' hc' => ?_⟩
    rw [hbox] at hc'
    simp only [Aam.row.injEq] at hc'
    obtain ⟨rfl, rfl, hxs⟩ := hc'
    have hxs := eq_of_heq hxs
    subst hxs
    exact ⟨Int.le_refl _, hp, blk, _, cap, e1, by rw [hxv, e1]; simp⟩
  ·cases h
 ·exact Axy hE h hx hy hb
end
open Go.RowKit
section
variable {P : Program} {E : Env} {R : Type} {out : R} {g0 g g' : Gh} {w0 w w' : World} {sl : List AV} {bs0 bs bs' : Al} {a : Act}
def Bnf (ET : TypeId) (out : R) (g : Gh) (bs : Al) (w : World) (K : AV -> Al -> Option R) (u : Value) (w' : World) : Prop :=
 ∃ v bs' g', K v bs' = some out /\ Cb ET g' bs' w' v u /\ Cy ET g' bs' w' /\ Ext g bs w g' bs' w'
theorem F3 {o : Oper} {W : Act -> World -> Prop} {Q : Qn} {K : AV -> Al -> Option R} {s : Sem Value}
  (hs : (execOp a.eval o).run P w = (s >>= fun v => pure (.value v)).run P w) (h : A1l P E.ET out g bs w K s)
  (hW : ∀ u w', Bnf E.ET out g bs w K u w' -> W (a.put o.dst u) w') : o.wp P a w W Q := by
 obtain ⟨v, u, bs', g', w', h1, h2, h3, h4, h5⟩ := h
 refine Aqz (u := u) (w' := w') ?_ (hW u w' ⟨v, bs', g', h1, h3, h4, h5⟩)
 rw [hs, Sem.run_bind, h2]; rfl
theorem Alt (hr : Rel E.ET g0 bs0 w0 g ⟨sl, bs⟩ a w) : ∀ (xs : List Operand), D2 (Cb E.ET g bs w) (xs.map (H1 sl)) (xs.map a.eval)
 | [] => trivial
 | x :: xs => ⟨Br hr x, Alt hr xs⟩
theorem At6 (hr : Rel E.ET g0 bs0 w0 g ⟨sl, bs⟩ a w) : ∀ (xs : List (Nat × Operand)),
  D2 (fun p q => p.1 = q.1 /\ Cb E.ET g bs w p.2 q.2) (xs.map fun p => (p.1, H1 sl p.2)) (xs.map fun p => (p.1, a.eval p.2))
 | [] => trivial
 | x :: xs => ⟨⟨rfl, Br hr x.2⟩, At6 hr xs⟩
theorem Ae0 {K : AV -> Al -> Option R} {s : Sem Value} (hb : Cy E.ET g bs w) (h : ∃ v u, (fun v => K v bs) v = some out /\ Cb E.ET g bs w v u /\ s.run P w = .ok u w) : A1l P E.ET out g bs w K s :=
 A1l.pure hb h
theorem Bix (dst : Option Tmp) (T : TypeId) (ps : Array (Nat × Operand)) (type : TypeId) (pos : String) (nm) (guard) :
  (execOp a.eval (⟨dst, .build T ps, type, pos, nm, guard⟩ : Oper)).run P w = (Instr.build T (ps.map fun p => (p.1, a.eval p.2)) >>= fun v => pure (.value v)).run P w := by
 simp only [execOp]
theorem A0z (dst : Option Tmp) (T : TypeId) (n : Nat) (ps : Array (Nat × Operand)) (type : TypeId) (pos : String) (nm) (guard) :
  (execOp a.eval (⟨dst, .buildSlice T n ps, type, pos, nm, guard⟩ : Oper)).run P w = (Instr.buildSlice T n (ps.map fun p => (p.1, a.eval p.2)) >>= fun v => pure (.value v)).run P w := by
 simp only [execOp]
theorem A04 {α β : Type} {r : α -> β -> Prop} : ∀ {l1 l2 : List α} {m1 m2 : List β}, D2 r l1 m1 -> D2 r l2 m2 -> D2 r (l1 ++ l2) (m1 ++ m2)
 | [], _, [], _, _, h => h
 | _ :: _, _, _ :: _, _, ⟨h1, h2⟩, h => ⟨h1, A04 h2 h⟩
theorem An8.up : ∀ {x : AV} {v : Value}, An8 g bs x v -> Cb E.ET g bs w x v
 | .ref _ _ _, _, hh => hh
 | .top, _, hh => hh.elim
 | .und, _, hh => hh.elim
 | .nilS, _, hh => hh.elim
 | .nilP, _, hh => hh.elim
 | .val _ _, _, hh => hh.elim
 | .osl _ _, _, hh => hh.elim
 | .imm _ _ _, _, hh => hh.elim
 | .oel _ _ _ _, _, hh => hh.elim
 | .osb _ _ _, _, hh => hh.elim
 | .fn _ _, _, hh => hh.elim
 | .agg _, _, hh => hh.elim
 | .tup _, _, hh => hh.elim
theorem A88 : ∀ {l : List AV} {m : List Value}, Bdw l = true -> D2 (Cb E.ET g bs w) l m -> D2 (An8 g bs) l m
 | [], [], _, _ => trivial
 | .ref b v o :: l, u :: m, h, ⟨h1, h2⟩ => ⟨h1, A88 (l := l) h h2⟩
 | [], _ :: _, _, hh => hh.elim
 | .ref _ _ _ :: _, [], _, hh => hh.elim
 | .top :: _, _, h, _ => by cases h
 | .und :: _, _, h, _ => by cases h
 | .nilS :: _, _, h, _ => by cases h
 | .nilP :: _, _, h, _ => by cases h
 | .val _ _ :: _, _, h, _ => by cases h
 | .osl _ _ :: _, _, h, _ => by cases h
 | .imm _ _ _ :: _, _, h, _ => by cases h
 | .oel _ _ _ _ :: _, _, h, _ => by cases h
 | .osb _ _ _ :: _, _, h, _ => by cases h
 | .fn _ _ :: _, _, h, _ => by cases h
 | .agg _ :: _, _, h, _ => by cases h
 | .tup _ :: _, _, h, _ => by cases h
theorem Bgb {ET : TypeId} {ok : Nat -> Prop} {t : Ty} {l : List t.den} : ∀ {n i : Nat} {cs : List Value}, It (fun x c => Rep ET ok w t x c) (l.drop i) cs -> i + n <= l.length ->
  ∃ c1 c2, cs = c1 ++ c2 /\ Rep ET ok w (Bhq t n) (Blt t n l i) c1
 | 0, i, cs, h, _ => ⟨[], cs, rfl, rfl⟩
 | 1, i, cs, h, hl => by
  have e : l.drop i = l[i] :: l.drop (i + 1) := List.drop_eq_getElem_cons (by omega)
  rw [e] at h
  obtain ⟨c1, c2, e2, h1, h2⟩ := h
  refine ⟨c1, c2, e2, ?_⟩
  show Rep ET ok w t (gd t l (i : Int)) c1
  rw [Aek t l i (by omega) (by omega)]
  exact h1
 | n + 2, i, cs, h, hl => by
  have e : l.drop i = l[i] :: l.drop (i + 1) := List.drop_eq_getElem_cons (by omega)
  rw [e] at h
  obtain ⟨c1, c2, e2, h1, h2⟩ := h
  obtain ⟨d1, d2, e3, h3⟩ := Bgb (n := n + 1) (i := i + 1) h2 (by omega)
  refine ⟨c1 ++ d1, d2, by rw [e2, e3, List.append_assoc], c1, d1, rfl, ?_, h3⟩
  show Rep ET ok w t (gd t l (i : Int)) c1
  rw [Aek t l i (by omega) (by omega)]
  exact h1
theorem A5r (hE : Db P E) {T : TypeId} {x : AV} {xv : Value} {K : AV -> Option R} (h : Akr E T x K = some out) (hx : Cb E.ET g bs w x xv) :
  ∃ v u, K v = some out /\ Cb E.ET g bs w v u /\ (Instr.arrayAt T xv).run P w = .ok u w := by
 unfold Akr at h
 split at h
 ·rename_i n e t l hk
  obtain ⟨hc, h⟩ := Af h
  obtain ⟨hc0, hle⟩ := I9 hc
  obtain ⟨hn0, hs0⟩ := I9 hc0
  have hle := of_decide_eq_true hle
  have hn0 : n ≠ 0 := fun e => by subst e; cases hn0
  have hs0 : t.sz ≠ 0 := fun e => by rw [e] at hs0; cases hs0
  obtain ⟨d, hd, rfl⟩ := C5 hE hk (by simp)
  obtain ⟨A, c, cs', e1, h6, h7, h8⟩ := In hx
  simp only [List.cons.injEq, and_true] at e1
  subst e1
  obtain ⟨c1, c2, e2, h3⟩ := Bgb (n := n) (i := 0) (by rw [List.drop_zero]; exact h7) (by omega)
  have hlen := It.length (fun x c hc => Rep.length hc) h7
  have hpos : 0 < cs'.length := by rw [hlen]; exact Nat.mul_pos (by omega) (by omega)
  rcases h8 with h8 | ⟨b, o, rfl, k1, k2⟩
  ·rw [h8] at hpos; simp at hpos
  ·refine ⟨_, .pointer (some ⟨b, o, none⟩), h, ⟨b, o, c1, rfl, k1, h3, by rw [e2] at k2; exact k2.left⟩, ?_⟩
   have : ¬ l.length < n := by omega
   simp [Instr.arrayAt, run_underlying hd, this]
 ·cases h
set_option maxHeartbeats 1000000 in
theorem Bcq (hE : Db P E) {o : Oper} {K : AV -> Al -> Option R} (h : Aot E o sl bs K = some out) (hr : Rel E.ET g0 bs0 w0 g ⟨sl, bs⟩ a w) {W : Act -> World -> Prop} {Q : Qn}
  (hW : ∀ u w', Bnf E.ET out g bs w K u w' -> W (a.put o.dst u) w') : o.wp P a w W Q := by
 have hb : Cy E.ET g bs w := hr.boxes
 obtain ⟨dst, op, type, pos, nm, guard⟩ := o
 simp only at hW
 unfold Aot at h
 simp only at h
 split at h
 ·rename_i x
  exact Aqz (u := a.eval x) (w' := w) (by simp [execOp]) (hW _ _ ⟨_, _, _, h, Br hr x, hb, Ext.refl _ _ _⟩)
 ·rename_i x
  exact Aqz (u := a.eval x) (w' := w) (by simp [execOp]) (hW _ _ ⟨_, _, _, h, Br hr x, hb, Ext.refl _ _ _⟩)
 ·rename_i c x y
  split at h
  ·rename_i t ht
   have hc : a.eval c = .bool t := by have := Br hr c; rw [ht] at this; exact Xd this
   cases t with
   | true => exact Aqz (u := a.eval x) (w' := w) (by simp [execOp, hc, asBool]) (hW _ _ ⟨_, _, _, h, Br hr x, hb, Ext.refl _ _ _⟩)
   | false => exact Aqz (u := a.eval y) (w' := w) (by simp [execOp, hc, asBool]) (hW _ _ ⟨_, _, _, h, Br hr y, hb, Ext.refl _ _ _⟩)
  ·cases h
 ·rename_i op T x y z
  exact F3 (s := Avc op T x y (a.eval x) (a.eval y)) rfl (Ae0 hb (Aqb hE h (Br hr x) (Br hr y))) hW
 ·rename_i op T x
  exact F3 (s := Op.unary op (a.eval x)) rfl (Ae0 hb (Azh h (Br hr x))) hW
 ·rename_i s d x
  exact F3 (s := convert s d (a.eval x)) rfl (Bbb hE h (Br hr x) hb) hW
 ·rename_i t i
  split at h
  ·rename_i l hl
   split at h
   ·rename_i v hv
    have ht := Br hr t
    rw [hl] at ht
    obtain ⟨u, h1, h2⟩ := A0e ht hv
    exact F3 (s := Instr.extract (a.eval t) i) rfl (Ae0 hb ⟨v, u, h, h1, h2⟩) hW
   ·cases h
  ·cases h
 ·rename_i t x
  split at h
  ·rename_i n hn
   obtain ⟨h1, h⟩ := Af h
   have hx := Br hr x
   rw [hn] at hx
   have hm := Ajz (w := w) (n := n) hE h1
   refine F3 (s := Instr.makeInterface t (a.eval x)) rfl (Ae0 hb ⟨_, _, h, Bmx _, ?_⟩) hW
   rw [Mf hx]; exact hm
  ·cases h
 ·rename_i x xT T ok
  exact F3 (s := Instr.typeAssert (a.eval x) xT T ok) rfl (Ae0 hb (A27 hE h (Br hr x))) hW
 ·rename_i T x
  exact F3 (s := Instr.loadAt T (a.eval x)) rfl (Ae0 hb (Aof hE h (Br hr x) hb)) hW
 ·rename_i T x y
  obtain ⟨bs', w', h1, h2, h3, h4⟩ := A5w hE h (Br hr x) (Br hr y) hb
  exact Bls (w' := w') (by simp only [execOp, Sem.run_bind, h2]; rfl) (hW _ _ ⟨_, _, _, h1, rfl, h3, h4⟩)
 ·rename_i T x f
  exact F3 (s := Instr.fieldAt T (a.eval x) f) rfl (Ae0 hb (Atu hE h (Br hr x))) hW
 ·rename_i T x f
  exact F3 (s := Instr.field T (a.eval x) f) rfl (Ae0 hb (A5z hE h (Br hr x))) hW
 ·rename_i x
  have hx := Br hr x
  split at h
  ·rename_i b v off hbx
   rw [hbx] at hx
   obtain ⟨h1, h⟩ := Af h
   obtain ⟨T, cells, hc⟩ := Az4 h1
   obtain ⟨blk, k1, k2⟩ := hx.2.2 T cells hc
   exact Aqz (u := a.eval x) (w' := w) (by simp only [execOp]; rw [k2]; rfl) (hW _ _ ⟨_, _, _, h, hx, hb, Ext.refl _ _ _⟩)
  ·rename_i t y off hbx
   rw [hbx] at hx
   obtain ⟨b, o, cs, k1, k2⟩ := id hx
   exact Aqz (u := a.eval x) (w' := w) (by simp only [execOp]; rw [k1]; rfl) (hW _ _ ⟨_, _, _, h, hx, hb, Ext.refl _ _ _⟩)
  ·rename_i t p hbx
   rw [hbx] at hx
   cases p with
   | none => cases h
   | some y =>
    obtain ⟨b, o, cs, k1, k2, k3, k4⟩ := In hx
    simp only [List.cons.injEq, and_true] at k1
    refine Aqz (u := a.eval x) (w' := w) (by simp only [execOp]; rw [k1]; rfl) (hW _ _ ⟨_, _, _, h, ?_, hb, Ext.refl _ _ _⟩)
    exact ⟨b, o, cs, k1, k2, k3, k4⟩
  ·cases h
 ·rename_i T x i
  exact F3 (s := Instr.indexAt T (a.eval x) (a.eval i)) rfl (Ae0 hb (Avd hE h (Br hr x) (Br hr i) hb)) hW
 ·rename_i T x i
  exact F3 (s := Instr.index T (a.eval x) (a.eval i)) rfl (Ae0 hb (A51 hE h (Br hr x) (Br hr i))) hW
 ·rename_i T x lo hi
  split at h
  ·rename_i l u hl hh
   exact F3 (s := Instr.sliceAt T (a.eval x) (lo.map a.eval) (hi.map a.eval) none) rfl (Ae0 hb (Atv hE h (Br hr x) hb (Ah9 hr hl) (Ah9 hr hh))) hW
  ·cases h
 ·rename_i T
  split at h
  ·rename_i z hz
   exact F3 (s := Instr.alloc T true (.tuple #[])) rfl (A78 hE hz h hb) hW
  ·cases h
 ·rename_i T x
  split at h
  ·rename_i r hrow
   obtain ⟨_, h⟩ := Af h
   exact F3 (s := Instr.box T (a.eval x)) rfl (Bds hE h (Br hr x) hb) hW
  ·cases h
 ·rename_i T ps
  have h1 := A61 hE h (pv := ps.map fun p => (p.1, a.eval p.2)) (by rw [Array.toList_map]; exact At6 hr ps.toList)
  have h2 := Bix (P := P) (w := w) (a := a) dst T ps type pos nm guard
  exact F3 h2 (Ae0 hb h1) hW
 ·rename_i T n ps
  have h1 := Arw hE h (pv := ps.map fun p => (p.1, a.eval p.2)) (by rw [Array.toList_map]; exact At6 hr ps.toList) hb
  have h2 := A0z (P := P) (w := w) (a := a) dst T n ps type pos nm guard
  exact F3 h2 h1 hW
 ·rename_i fn fs caps
  unfold Uy at h
  split at h
  ·rename_i f
   obtain ⟨h0, h'⟩ := Af h
   obtain ⟨h00, h0⟩ := I9 h0
   obtain rfl : fs = #[] := by
    obtain ⟨l⟩ := fs
    cases l with
    | nil => rfl
    | cons x l => cases h00
   exact F3 (s := Instr.makeFunc (.func f) #[] (caps.map a.eval)) (by simp [execOp]) (Ae0 hb ⟨.fn f (caps.toList.map (H1 sl)), .func (.func f) #[] (caps.map a.eval), h', (show Cr E.ET g bs w (.fn f (caps.toList.map (H1 sl))) (.func (.func f) #[] (caps.map a.eval)) from ⟨caps.toList.map a.eval, by rw [<- Array.toList_map], A88 h0 (Alt hr _)⟩), by simp [Instr.makeFunc]⟩) hW
  ·cases h
 ·rename_i T n m
  exact F3 (s := Instr.makeSlice T (a.eval n) (a.eval m)) rfl (As3 hE h (Br hr n) (Br hr m) hb) hW
 ·-- a call
  rename_i f xs ts
  unfold Bax at h
  split at h
  ·rename_i fid caps hf
   split at h
   ·rename_i s hs
    have hfv := Br hr f
    rw [hf] at hfv
    obtain ⟨cv, hfv, hcap⟩ := hfv
    have hok := hE.calls fid s hs
    obtain ⟨fn, hfn, hname, hbody⟩ := hok.fn
    have hex : (execOp a.eval (⟨dst, .call { callee := .value f, args := xs, argTypes := ts }, type, pos, nm, guard⟩ : Oper)).run P w = .ok (.enter fid (xs.map a.eval ++ cv.toArray)) w := by
     have hname' : ¬ fn.name = "runtime.NumGoroutine" := by simpa using hname
     have hbody' : ¬ fn.body = none := by intro e; rw [e] at hbody; cases hbody
     simp [execOp, resolve, hfv, Deferred.ofValue, invoke, callFunc, hfn, hname', hbody']
    unfold Oper.wp
    rw [hex]
    simp only [Oper.upon_enter]
    have hc := hok.run _ _ bs R K out h g w (xs.toList.map a.eval ++ cv) hr.glb (A04 (Alt hr _) (hcap.mono fun _ _ => An8.up)) hb
    rw [show (List.map a.eval xs.toList ++ cv).toArray = xs.map a.eval ++ cv.toArray by rw [<- Array.toList_map]; simp] at hc
    refine Calls.mono hc fun e w' he => ?_
    obtain ⟨u, v, bs', g', rfl, k1, k2, k3, k4⟩ := he
    exact hW u w' ⟨v, bs', g', k1, k2, k3, k4⟩
   ·cases h
  ·cases h
 ·-- a builtin
  rename_i b xs ts
  have hargs := Alt hr xs.toList
  split at h
  ·rename_i T l x hts hx
   rw [hx] at hargs
   match hv : xs.toList.map a.eval, hargs with
   | [xv], ⟨h1, _⟩ =>
    refine F3 (s := Builtin.len_ ts type (xs.map a.eval)) (by simp [execOp, resolve, invoke, builtin]) (Ae0 hb ?_) hW
    rw [show xs.map a.eval = #[xv] by rw [<- hv, <- Array.toList_map]]
    exact A3u hE (by rw [<- Array.getElem?_toList, hts]; rfl) h h1 hb
  ·rename_i T T' x y hts hx
   rw [hx] at hargs
   match hv : xs.toList.map a.eval, hargs with
   | [xv, yv], ⟨h1, h2, _⟩ =>
    refine F3 (s := Builtin.append_ ts type (xs.map a.eval)) (by simp [execOp, resolve, invoke, builtin]) ?_ hW
    rw [show xs.map a.eval = #[xv, yv] by rw [<- hv, <- Array.toList_map], show ts = #[T, T'] by rw [<- hts]]
    exact A3e hE h h1 h2 hb
  ·rename_i T T' x y hts hx
   rw [hx] at hargs
   match hv : xs.toList.map a.eval, hargs with
   | [xv, yv], ⟨h1, h2, _⟩ =>
    refine F3 (s := Builtin.copy_ ts type (xs.map a.eval)) (by simp [execOp, resolve, invoke, builtin]) ?_ hW
    rw [show xs.map a.eval = #[xv, yv] by rw [<- hv, <- Array.toList_map], show ts = #[T, T'] by rw [<- hts]]
    exact A7k hE h h1 h2 hb
  ·refine F3 (s := Builtin.max_ ts type (xs.map a.eval)) (by simp [execOp, resolve, invoke, builtin]) (Ae0 hb ?_) hW
   obtain ⟨v, u, k1, k2, k3⟩ := A9e (P := P) ts type h hargs
   refine ⟨v, u, k1, k2, ?_⟩
   rw [show (List.map a.eval xs.toList).toArray = xs.map a.eval by rw [<- Array.toList_map]] at k3
   simpa using k3
  ·refine F3 (s := Builtin.min_ ts type (xs.map a.eval)) (by simp [execOp, resolve, invoke, builtin]) (Ae0 hb ?_) hW
   obtain ⟨v, u, k1, k2, k3⟩ := A9e (P := P) ts type h hargs
   refine ⟨v, u, k1, k2, ?_⟩
   rw [show (List.map a.eval xs.toList).toArray = xs.map a.eval by rw [<- Array.toList_map]] at k3
   simpa using k3
  ·cases h
 ·rename_i T x
  exact F3 (s := Instr.arrayAt T (a.eval x)) rfl (Ae0 hb (A5r hE h (Br hr x))) hW
 ·cases h
def Aqt (ET : TypeId) (g0 : Gh) (bs0 : Al) (w0 : World) (kp : List Nat) (vals : List Value) : Bby := fun st a w => (∃ g, Rel ET g0 bs0 w0 g st a w) /\ ∀ i ∈ kp, a.tmps.getD i undef = vals.getD i undef
theorem A8g : ∀ {l : List Nat} {n : Nat}, A5f.notN l n = true -> n ∉ l
 | [], _, _ => by simp
 | a :: l, n, h => by
  simp only [A5f.notN, Bool.and_eq_true] at h
  intro hm
  rcases List.mem_cons.1 hm with rfl | hm
  ·simp at h
  ·exact A8g h.2 hm
theorem A9w {kp : List Nat} {vals : List Value} {d : Option Tmp} (hd : A5f kp d = true) (u : Value) (h : ∀ i ∈ kp, a.tmps.getD i undef = vals.getD i undef) : ∀ i ∈ kp, (a.put d u).tmps.getD i undef = vals.getD i undef := by
 intro i hi
 cases d with
 | none => exact h i hi
 | some d =>
  have hne : i ≠ d := by rintro rfl; exact A8g hd hi
  simp only [Act.put, Array.getD_eq_getD_getElem?]
  rw [Array.getElem?_setIfInBounds_ne (Ne.symm hne), <- Array.getD_eq_getD_getElem?]
  exact h i hi
theorem Bfj (ET : TypeId) (g0 : Gh) (bs0 : Al) (w0 : World) (kp : List Nat) (vals : List Value) : Ax8 (Aqt ET g0 bs0 w0 kp vals) := by
 refine ⟨fun st a w t b ⟨⟨g, hr⟩, _⟩ hg => ?_, fun st a w t b ⟨⟨g, hr⟩, hk⟩ hg => ?_⟩
 ·have := hr.slots t
  rw [hg] at this
  exact Xd (E := { rows := [], calls := [], ET := ET }) this
 ·refine ⟨⟨g, hr.retell t ?_⟩, hk⟩
  have := hr.slots t
  rw [hg] at this
  exact this
theorem Aft : ∀ (all : List Oper) (j : Nat), Wl all j = (all[j]?).bind (·.dst)
 | [], j => by simp [Wl]
 | o :: _, 0 => by simp [Wl]
 | _ :: l, n + 1 => by simp [Wl, Aft l n]
theorem Bpe (hE : Db P E) {vals : List Value} {all : List Oper} {o : Oper} {st : St} {K : St -> Option R} {W : Act -> World -> Prop} {Q : Qn} (hr0 : Aqt E.ET g0 bs0 w0 E.keep vals st a w) (h : Qc E all [o] st K = some out)
  (hW : ∀ st' a' w', Aqt E.ET g0 bs0 w0 E.keep vals st' a' w' -> (∃ u, a' = a.put o.dst u) -> K st' = some out -> W a' w') :
  if Region.wanted o (yielded all.toArray a.tmps) then o.wp P a w W Q \/ (o.asks P a w /\ LetsOut Q) else W (a.put o.dst undef) w := by
 obtain ⟨⟨g, hr⟩, hkp⟩ := hr0
 obtain ⟨sl, bs⟩ := st
 unfold Qc at h
 have hkd : A5f E.keep o.dst = true := by
  cases hq : A5f E.keep o.dst with
  | true => rfl
  | false => rw [hq] at h; cases h
 rw [hkd] at h
 simp only [Bool.not_true, cond_false] at h
 have yes : ∀ sl, Rel E.ET g0 bs0 w0 g ⟨sl, bs⟩ a w -> (Aot E o sl bs fun v bs => Qc E all [] ⟨Ab1 sl o.dst v, bs⟩ K) = some out -> o.wp P a w W Q :=
  fun sl hr h => Bcq hE h hr fun u w' ⟨v, bs', g', k1, k2, k3, k4⟩ => hW ⟨Ab1 sl o.dst v, bs'⟩ _ w' ⟨⟨g', hr.step k4 k3 k2 o.dst⟩, A9w hkd u hkp⟩ ⟨u, rfl⟩ k1
 have no : ∀ sl, Rel E.ET g0 bs0 w0 g ⟨sl, bs⟩ a w -> Qc E all [] ⟨Ab1 sl o.dst .und, bs⟩ K = some out -> W (a.put o.dst undef) w :=
  fun sl hr h => hW ⟨Ab1 sl o.dst .und, bs⟩ _ w ⟨⟨g, hr.put (v := .und) (u := undef) (show Cb E.ET g bs w .und undef from (rfl : undef = undef)) o.dst⟩, A9w hkd undef hkp⟩ ⟨undef, rfl⟩ h
 cases hg : o.guard with
 | none =>
  rw [hg] at h
  rw [if_pos (by simp [Region.wanted, hg])]
  exact .inl (yes sl hr h)
 | some jw =>
  obtain ⟨j, want⟩ := jw
  rw [hg] at h
  simp only at h
  rw [Aft] at h
  split at h
  ·cases h
  ·rename_i s hs
   have hy : yielded all.toArray a.tmps j = match a.tmps[s]? with | some (.bool b) => some b | _ => none := by
    unfold yielded
    rw [show (all.toArray[j]?).bind (·.dst) = some s by rw [<- hs]; simp]
    rfl
   have hslot := hr.slots s
   split at h
   ·rename_i b hb
    rw [hb] at hslot
    have hv := Xd hslot
    have hlt : s < a.tmps.size := by
     rcases Nat.lt_or_ge s a.tmps.size with h1 | h1
     ·exact h1
     ·rw [Aog sl s (Nat.le_trans hr.size h1)] at hb; cases hb
    have hy : yielded all.toArray a.tmps j = some b := by
     rw [hy]
     rw [Array.getElem?_eq_getElem hlt]
     rw [Array.getD, dif_pos hlt] at hv
     rw [show a.tmps[s] = Value.bool b from hv]
    have hr' : Rel E.ET g0 bs0 w0 g ⟨Aap sl s (.val .bool b), bs⟩ a w := hr.retell s hslot
    have hwt : Region.wanted o (yielded all.toArray a.tmps) = (some b == some want) := by simp only [Region.wanted, hg, hy]
    rw [hwt]
    cases b <;> cases want <;> simp only [cond_true, cond_false] at h
    ·rw [if_pos (by decide)]; exact .inl (yes _ hr' h)
    ·rw [if_neg (by decide)]; exact no _ hr' h
    ·rw [if_neg (by decide)]; exact no _ hr' h
    ·rw [if_pos (by decide)]; exact .inl (yes _ hr' h)
   ·rename_i hb
    rw [hb] at hslot
    have hv : a.tmps.getD s undef = undef := hslot
    have hy : yielded all.toArray a.tmps j = none := by
     rw [hy]
     by_cases hlt : s < a.tmps.size
     ·rw [Array.getElem?_eq_getElem hlt]
      rw [Array.getD, dif_pos hlt] at hv
      rw [show a.tmps[s] = undef from hv]; rfl
     ·rw [Array.getElem?_eq_none (Nat.le_of_not_lt hlt)]
    simp only [Region.wanted, hg, hy]
    rw [if_neg (by simp)]
    exact no _ hr h
   ·cases h
theorem Bm2 (hE : Db P E) (g0 : Gh) (bs0 : Al) (w0 : World) (vals : List Value) : Bcd (R := R) P E (Aqt E.ET g0 bs0 w0 E.keep vals) out := by
 intro all ops
 induction ops with
 | nil => intro st K a w Q hr h hK; exact hK st a w hr h
 | cons o rest ih =>
  intro st K a w Q ⟨⟨g, hr⟩, hkp⟩ h hK
  simp only [A4x] at h
  obtain ⟨g, hr⟩ := Akc (E := E) (Awj E.frz o.dst) hr
  unfold wpList
  exact Bpe hE ⟨⟨g, hr⟩, hkp⟩ h fun st' a' w' h1 _ h2 => ih st' K a' w' Q h1 h2 hK
end
section
variable {E : Env} {R : Type} {out : R} {bs bs2 : Al}
def Det (f : (R : Type) -> (AV -> Option R) -> Option R) {R : Type} (K : AV -> Option R) (out : R) : Prop :=
 ∃ v, K v = some out /\ ∀ (R' : Type) (K' : AV -> Option R'), f R' K' = K' v
theorem Bba {op : BinOp} {k : IntKind} {x y : Int} {K : AV -> Option R} (h : Abm op k x y K = some out) : Det (fun R K => Abm op k x y K) K out := by
 unfold Abm at h
 cases op <;> simp only at h <;>
  first
   | exact ⟨_, h, fun R' K' => rfl⟩
   | (cases hz : (y == 0) <;> rw [hz] at h <;> simp only [cond_true, cond_false] at h
      ·exact ⟨_, h, fun R' K' => by simp only [Abm, hz, cond_false]⟩
      ·cases h)
   | cases h
theorem Bbs {op : BinOp} {x y : ByteArray} {K : AV -> Option R} (h : Ac6 op x y K = some out) : Det (fun R K => Ac6 op x y K) K out := by
 unfold Ac6 at h
 cases op <;> simp only at h <;>
  first
   | exact ⟨_, h, fun R' K' => rfl⟩
   | (obtain ⟨h1, h2⟩ := Af h
      exact ⟨_, h2, fun R' K' => by simp only [Ac6, h1, cond_true]⟩)
   | cases h
theorem Bj7 {T : TypeId} {cst neg : Bool} {x y : AV} {K : AV -> Option R} (hk : Am6 (Ew E T) = false) (h : A5l E T cst neg x y K = some out) : Det (fun R K => A5l E T cst neg x y K) K out := by
 unfold A5l at h
 simp only at h
 split at h
 ·rename_i hT
  exact ⟨_, h, fun R' K' => by simp only [A5l, hT]⟩
 ·rename_i hT
  cases cst with
  | false => cases h
  | true => exact ⟨_, h, fun R' K' => by simp only [A5l, hT, cond_true]⟩
 ·rename_i hn hT
  cases cst with
  | false => cases h
  | true =>
   refine ⟨_, h, fun R' K' => ?_⟩
   simp only [A5l, hT]
   rfl
 ·rename_i hT
  exact ⟨_, h, fun R' K' => by simp only [A5l, hT]⟩
 ·cases h
 ·rename_i hT
  exact ⟨_, h, fun R' K' => by simp only [A5l, hT]⟩
 ·rename_i e t l hT
  rw [hT] at hk; cases hk
 ·rename_i e hT
  rw [hT] at hk; cases hk
 ·rename_i fs l m hT
  split at h
  ·rename_i ks hks
   split at h
   ·rename_i b hb
    exact ⟨_, h, fun R' K' => by simp only [A5l, hT, hks, hb]⟩
   ·cases h
  ·cases h
 ·rename_i an ae l m hT
  split at h
  ·rename_i ks hks
   split at h
   ·rename_i b hb
    exact ⟨_, h, fun R' K' => by simp only [A5l, hT, hks, hb]⟩
   ·cases h
  ·cases h
 ·cases h
theorem Bk0 {op : BinOp} {T : TypeId} {cst : Bool} {x y : AV} {K : AV -> Option R} (hk : Am6 (Ew E T) = false) (h : Asy E op T cst x y K = some out) : Det (fun R K => Asy E op T cst x y K) K out := by
 unfold Asy at h
 split at h
 ·rename_i k p k' q
  split at h
  ·cases hd : decide (q < 0) <;> rw [hd] at h <;> simp only [cond_true, cond_false] at h
   ·exact ⟨_, h, fun R' K' => by simp only [Asy, hd, cond_false]⟩
   ·cases h
  ·cases hd : decide (q < 0) <;> rw [hd] at h <;> simp only [cond_true, cond_false] at h
   ·exact ⟨_, h, fun R' K' => by simp only [Asy, hd, cond_false]⟩
   ·cases h
  ·rename_i h1 h2
   obtain ⟨hkk, h⟩ := Af h
   obtain ⟨v, h3, h4⟩ := Bba h
   refine ⟨v, h3, fun R' K' => ?_⟩
   have := h4 R' K'
   cases op <;> first | exact (h1 rfl).elim | exact (h2 rfl).elim | (simp only [Asy, hkk, cond_true]; exact this)
 ·obtain ⟨v, h3, h4⟩ := Bbs h
  exact ⟨v, h3, fun R' K' => h4 R' K'⟩
 ·rename_i h1 h2
  have key : ∀ (R' : Type) (K' : AV -> Option R'), Asy E op T cst x y K' = (match op with | .eql => A5l E T cst false x y K' | .neq => A5l E T cst true x y K' | _ => none) := by
   intro R' K'
   unfold Asy
   split
   ·exact (h1 _ _ _ _ rfl rfl).elim
   ·exact (h2 _ _ rfl rfl).elim
   ·cases op <;> rfl
  split at h
  ·obtain ⟨v, h3, h4⟩ := Bj7 hk h
   exact ⟨v, h3, fun R' K' => (key R' K').trans (h4 R' K')⟩
  ·obtain ⟨v, h3, h4⟩ := Bj7 hk h
   exact ⟨v, h3, fun R' K' => (key R' K').trans (h4 R' K')⟩
  ·cases h
theorem Bng {op : UnOp} {x : AV} {K : AV -> Option R} (h : Blf op x K = some out) : Det (fun R K => Blf op x K) K out := by
 unfold Blf at h
 split at h <;> first | exact ⟨_, h, fun R' K' => rfl⟩ | cases h
theorem Bc5 {n : Nat} {ag : Bool} {cells : List AV} {K : AV -> Option R} (h : Anu n ag cells K = some out) : Det (fun R K => Anu n ag cells K) K out := by
 unfold Anu at h
 obtain ⟨h1, h⟩ := Af h
 cases ag with
 | true => exact ⟨_, h, fun R' K' => by simp only [Anu, h1, cond_true]⟩
 | false =>
  simp only [cond_false] at h
  split at h
  ·exact ⟨_, h, fun R' K' => by simp only [Anu, h1, cond_true, cond_false]⟩
  ·cases h
theorem Ama {r : Row} {cells : List AV} {K : AV -> Option R} (h : Asg r cells K = some out) : Det (fun R K => Asg r cells K) K out := by
 unfold Asg at h
 split at h
 ·cases h
 ·rename_i hk
  obtain ⟨v, h3, h4⟩ := Bc5 h
  refine ⟨v, h3, fun R' K' => ?_⟩
  have := h4 R' K'
  show Asg r cells K' = K' v
  unfold Asg
  split
  ·rename_i h5; exact (hk h5).elim
  ·exact this
theorem Cs {b v : Nat} (h : look bs2 b = look bs b) : Ar bs2 b v = Ar bs b v := by simp only [Ar, h]
theorem Bii {T : TypeId} {x : AV} {K : AV -> Option R} (h : Aay E T x bs K = some out) : ∃ v, K v = some out /\ ∀ bs2, (∀ b ∈ Jr [x], look bs2 b = look bs b) -> ∀ (R' : Type) (K' : AV -> Option R'), Aay E T x bs2 K' = K' v := by
 unfold Aay at h
 split at h
 ·cases h
 ·rename_i r hr
  split at h
  ·rename_i b v off
   split at h
   ·rename_i T' cells hb
    obtain ⟨u, h3, h4⟩ := Ama h
    exact ⟨u, h3, fun bs2 ha R' K' => by simp only [Aay, hr, Cs (ha b (by simp [Jr])), hb]; exact h4 R' K'⟩
   ·cases h
  ·obtain ⟨u, h3, h4⟩ := Ama h
   exact ⟨u, h3, fun bs2 ha R' K' => by simp only [Aay, hr]; exact h4 R' K'⟩
  ·rename_i t p
   cases p with
   | none => cases h
   | some y =>
    obtain ⟨u, h3, h4⟩ := Ama (show Asg r (S7 r.size (Als 0 (Qg t y))) K = some out from h)
    exact ⟨u, h3, fun bs2 ha R' K' => by simp only [Aay, hr, Option.bind_some]; exact h4 R' K'⟩
  ·rename_i b v i off
   split at h
   ·rename_i T' t xs hb
    cases hle : Nat.ble r.size t.sz with
    | true =>
     rw [hle, cond_true] at h
     obtain ⟨u, h3, h4⟩ := Ama h
     exact ⟨u, h3, fun bs2 ha R' K' => by simp only [Aay, hr, Cs (ha b (by simp [Jr])), hb, hle, cond_true]; exact h4 R' K'⟩
    | false =>
     rw [hle, cond_false] at h
     obtain ⟨p1, hA⟩ := Af h
     obtain ⟨p2, hB⟩ := Af hA
     obtain ⟨u, h3, h4⟩ := Ama hB
     exact ⟨u, h3, fun bs2 ha R' K' => by simp only [Aay, hr, Cs (ha b (by simp [Jr])), hb, hle, cond_false, p1, p2, cond_true]; exact h4 R' K'⟩
   ·cases h
  ·cases h
theorem A0d {T : TypeId} {x : AV} {f : Nat} {K : AV -> Option R} (h : Js E T x f bs K = some out) : ∃ v, K v = some out /\ ∀ bs2, (∀ b ∈ Jr [x], look bs2 b = look bs b) -> ∀ (R' : Type) (K' : AV -> Option R'), Js E T x f bs2 K' = K' v := by
 unfold Js at h
 split at h
 ·rename_i fs hk
  split at h
  ·rename_i o n ag hf
   cases hn : Nat.beq n 0 <;> rw [hn] at h <;> simp only [cond_true, cond_false] at h
   ·split at h
    ·rename_i b v off
     obtain ⟨h1, h⟩ := Af h
     exact ⟨_, h, fun bs2 ha R' K' => by simp only [Js, hk, hf, hn, cond_false, Cs (ha b (by simp [Jr])), h1, cond_true]⟩
    ·exact ⟨_, h, fun bs2 ha R' K' => by simp only [Js, hk, hf, hn, cond_false]⟩
    ·rename_i b v i off
     obtain ⟨h1, h⟩ := Af h
     exact ⟨_, h, fun bs2 ha R' K' => by simp only [Js, hk, hf, hn, cond_false, Cs (ha b (by simp [Jr])), h1, cond_true]⟩
    ·cases h
   ·cases h
  ·cases h
 ·cases h
theorem Bgx {T : TypeId} {x : AV} {f : Nat} {K : AV -> Option R} (h : Ahe E T x f K = some out) : Det (fun R K => Ahe E T x f K) K out := by
 unfold Ahe at h
 split at h
 ·rename_i fs l hk
  split at h
  ·rename_i o n ag hf
   obtain ⟨h1, h⟩ := Af h
   cases ag with
   | true => exact ⟨_, h, fun R' K' => by simp only [Ahe, hk, hf, h1, cond_true]⟩
   | false =>
    simp only [cond_false] at h
    split at h
    ·rename_i c hc
     refine ⟨_, h, fun R' K' => ?_⟩
     simp only [Ahe, hk, hf, h1, cond_true, cond_false]
     rw [hc]
    ·cases h
  ·cases h
 ·cases h
theorem Avz {n j : Nat} {i : Int} {f : Nat -> Option R} (h : Ava n j i f = some out) : ∃ q, (∀ (R' : Type) (f' : Nat -> Option R'), Ava n j i f' = f' q) /\ f q = some out := by
 induction n generalizing j with
 | zero => cases h
 | succ n ih =>
  simp only [Ava] at h
  by_cases e : i = (j : Int)
  ·rw [decide_eq_true e, cond_true] at h
   exact ⟨j, fun R' f' => by simp only [Ava, decide_eq_true e, cond_true], h⟩
  ·rw [decide_eq_false e, cond_false] at h
   obtain ⟨q, h1, h2⟩ := ih h
   exact ⟨q, fun R' f' => by simp only [Ava, decide_eq_false e, cond_false, h1], h2⟩
theorem A9m {r : Row} {cells : List AV} {K : AV -> Option R} (h : Asg r cells K = some out) : ∃ v, (∀ (R' : Type) (K' : AV -> Option R'), Asg r cells K' = K' v) /\ K v = some out := by
 have hko : r.kind ≠ .other := fun e => by simp only [Asg, e] at h; cases h
 have hp : ∀ (R' : Type) (K' : AV -> Option R'), Asg r cells K' = Anu r.size (Aaw r.kind) cells K' := fun R' K' => by
  unfold Asg
  revert hko
  cases r.kind <;> intro hko <;> first | exact absurd rfl hko | rfl
 rw [hp] at h
 unfold Anu at h
 obtain ⟨h1, h⟩ := Af h
 cases ha : Aaw r.kind with
 | true =>
  rw [ha] at h
  exact ⟨_, fun R' K' => by rw [hp]; simp only [Anu, h1, ha, cond_true], h⟩
 | false =>
  rw [ha] at h
  simp only [cond_false] at h
  split at h
  ·rename_i c _
   exact ⟨c, fun R' K' => by rw [hp]; simp only [Anu, h1, ha, cond_true, cond_false], h⟩
  ·cases h
theorem Az0 {T : TypeId} {x i : AV} {K : AV -> Option R} (h : Gy E T x i bs K = some out) : ∃ v, K v = some out /\ ∀ bs2, (∀ b ∈ Jr [x], look bs2 b = look bs b) -> ∀ (R' : Type) (K' : AV -> Option R'), Gy E T x i bs2 K' = K' v := by
 unfold Gy at h
 split at h
 ·rename_i j hj
  split at h
  ·rename_i e t l hk
   obtain ⟨h1, h⟩ := Af h
   obtain ⟨h2, h⟩ := Af h
   exact ⟨_, h, fun bs2 ha R' K' => by simp only [Gy, hj, hk, h1, h2, cond_true]⟩
  ·rename_i e b v hk
   split at h
   ·rename_i e' t xs hb
    obtain ⟨h1, h⟩ := Af h
    obtain ⟨h2, h⟩ := Af h
    exact ⟨_, h, fun bs2 ha R' K' => by simp only [Gy, hj, hk, Cs (ha b (by simp [Jr])), hb, h1, h2, cond_true]⟩
   ·cases h
  ·rename_i n e b v off hk
   split at h
   ·rename_i r hr
    obtain ⟨h1, h⟩ := Af h
    obtain ⟨q, hq, h⟩ := Avz h
    exact ⟨_, h, fun bs2 ha R' K' => by simp only [Gy, hj, hk, hr, Cs (ha b (by simp [Jr])), h1, cond_true, hq]⟩
   ·cases h
  ·rename_i n e t y off hk
   split at h
   ·rename_i r hr
    obtain ⟨h1, h⟩ := Af h
    obtain ⟨q, hq, h⟩ := Avz h
    exact ⟨_, h, fun bs2 ha R' K' => by simp only [Gy, hj, hk, hr, h1, cond_true, hq]⟩
   ·cases h
  ·rename_i n e b v i0 off hk
   split at h
   ·rename_i T' t xs hb
    obtain ⟨p1, hA⟩ := Af h
    obtain ⟨p2, hB⟩ := Af hA
    exact ⟨_, hB, fun bs2 ha R' K' => by simp only [Gy, hj, hk, Cs (ha b (by simp [Jr])), hb, p1, p2, cond_true]⟩
   ·cases h
  ·cases h
 ·cases h
theorem Bdj {T : TypeId} {x i : AV} {K : AV -> Option R} (h : Abb E T x i K = some out) : Det (fun R K => Abb E T x i K) K out := by
 unfold Abb at h
 split at h
 ·rename_i s j hk hj
  obtain ⟨h1, h⟩ := Af h
  exact ⟨_, h, fun R' K' => by simp only [Abb, hk, hj, h1, cond_true]⟩
 ·rename_i n e l j hk hj
  split at h
  ·rename_i r hr
   obtain ⟨h1, h⟩ := Af h
   cases hbig : Nat.blt 16 n with
   | false =>
    rw [hbig, cond_false] at h
    obtain ⟨q, hq, h⟩ := Avz h
    obtain ⟨v, hv, h⟩ := A9m h
    exact ⟨v, h, fun R' K' => by simp only [Abb, hk, hj, hr, h1, hbig, cond_true, cond_false, hq, hv]⟩
   | true =>
    rw [hbig, cond_true] at h
    split at h
    ·rename_i xs hxs
     obtain ⟨p1, h⟩ := Af h
     obtain ⟨v, hv, h⟩ := A9m h
     exact ⟨v, h, fun R' K' => by simp only [Abb, hk, hj, hr, h1, hbig, hxs, p1, cond_true, hv]⟩
    ·cases h
  ·cases h
 ·cases h
theorem Aqi {n : Nat} {e : TypeId} {t : Ty} {y : t.den} {off : Nat} {lo hi : Option Int} {K : AV -> Option R} (h : L0 E n e t y off lo hi K = some out) : ∃ v, K v = some out /\ ∀ (R' : Type) (K' : AV -> Option R'), L0 E n e t y off lo hi K' = K' v := by
 unfold L0 at h
 split at h
 ·rename_i r hr
  split at h
  ·rename_i xs hxs
   obtain ⟨h1, h⟩ := Af h
   obtain ⟨h2, h⟩ := Af h
   exact ⟨_, h, fun R' K' => by simp only [L0, hr, hxs, h1, h2, cond_true]⟩
  ·cases h
 ·cases h
theorem Bgm {T : TypeId} {x : AV} {lo hi : Option Int} {K : AV -> Option R} (h : Tm E T x lo hi bs K = some out) : ∃ v, K v = some out /\ ∀ bs2, (∀ b ∈ Jr [x], look bs2 b = look bs b) -> ∀ (R' : Type) (K' : AV -> Option R'), Tm E T x lo hi bs2 K' = K' v := by
 unfold Tm at h
 split at h
 ·rename_i s hk
  obtain ⟨h1, h⟩ := Af h
  exact ⟨_, h, fun bs2 ha R' K' => by simp only [Tm, hk, h1, cond_true]⟩
 ·rename_i e t xs hk
  obtain ⟨h1, h⟩ := Af h
  obtain ⟨h2, h⟩ := Af h
  exact ⟨_, h, fun bs2 ha R' K' => by simp only [Tm, hk, h1, h2, cond_true]⟩
 ·rename_i e b v hk
  split at h
  ·rename_i e' t xs hb
   obtain ⟨h1, h⟩ := Af h
   exact ⟨_, h, fun bs2 ha R' K' => by simp only [Tm, hk, Cs (ha b (by simp [Jr])), hb, h1, cond_true]⟩
  ·cases h
 ·rename_i n e t y off hk
  obtain ⟨v, h1, h2⟩ := Aqi h
  exact ⟨v, h1, fun bs2 ha R' K' => by simp only [Tm, hk]; exact h2 R' K'⟩
 ·rename_i n e t p hk
  cases p with
  | none => cases h
  | some y =>
   obtain ⟨v, h1, h2⟩ := Aqi (show L0 E n e t y 0 lo hi K = some out from h)
   exact ⟨v, h1, fun bs2 ha R' K' => by simp only [Tm, hk]; exact h2 R' K'⟩
 ·cases h
theorem Bf8 {T : TypeId} {parts : List (Nat × AV)} {K : AV -> Option R} (h : Ahl E T parts K = some out) : Det (fun R K => Ahl E T parts K) K out := by
 unfold Ahl at h
 split at h
 ·rename_i r hr
  obtain ⟨h1, h⟩ := Af h
  split at h
  ·rename_i fs hk
   split at h
   ·rename_i cells hc
    exact ⟨_, h, fun R' K' => by simp only [Ahl, hr, h1, hk, hc, cond_true]⟩
   ·cases h
  ·rename_i n e hk
   split at h
   ·rename_i re hre
    split at h
    ·rename_i cells hc
     exact ⟨_, h, fun R' K' => by simp only [Ahl, hr, h1, hk, hre, hc, cond_true]⟩
    ·cases h
   ·cases h
  ·cases h
 ·cases h
theorem Bkq {T : TypeId} {x : AV} {K : AV -> Option R} (h : Arb E T x bs K = some out) : ∃ v, K v = some out /\ ∀ bs2, (∀ b ∈ Jr [x], look bs2 b = look bs b) -> ∀ (R' : Type) (K' : AV -> Option R'), Arb E T x bs2 K' = K' v := by
 unfold Arb at h
 split at h
 ·rename_i s hk
  exact ⟨_, h, fun bs2 ha R' K' => by simp only [Arb, hk]⟩
 ·rename_i e t l hk
  exact ⟨_, h, fun bs2 ha R' K' => by simp only [Arb, hk]⟩
 ·rename_i e hk
  exact ⟨_, h, fun bs2 ha R' K' => by simp only [Arb, hk]⟩
 ·rename_i e b v hk
  split at h
  ·rename_i T' t xs hb
   exact ⟨_, h, fun bs2 ha R' K' => by simp only [Arb, hk, Cs (ha b (by simp [Jr])), hb]⟩
  ·cases h
 ·rename_i n e hk
  refine ⟨_, h, fun bs2 ha R' K' => ?_⟩
  simp only [Arb, hk]
 ·cases h
theorem Bkg {mx : Bool} {l : List AV} {K : AV -> Option R} (h : Bj2 mx l K = some out) : Det (fun R K => Bj2 mx l K) K out := by
 unfold Bj2 at h
 split at h
 ·obtain ⟨h1, h⟩ := Af h
  exact ⟨_, h, fun R' K' => by simp only [Bj2, h1, cond_true]⟩
 ·cases h
theorem Bbq {T : TypeId} {ok : Bool} {x : AV} {K : AV -> Option R} (h : Adb E T ok x K = some out) : Det (fun R K => Adb E T ok x K) K out := by
 unfold Adb at h
 split at h
 ·split at h
  ·rename_i z hz
   obtain ⟨h1, h⟩ := Af h
   exact ⟨_, h, fun R' K' => by simp only [Adb, hz, h1, cond_true]⟩
  ·cases h
 ·cases h
end
section
variable {P : Program} {E : Env} {R : Type} {out : R} {bs bs2 : Al}
theorem Aj9 : ∀ (t : Ty) (x : AV), Bg0 bs t x = Bg0 bs2 t x := by
 intro t x
 unfold Bg0
 split <;> rfl
theorem Ae4 : ∀ (t : Ty) (l : List AV), Od bs t l = Od bs2 t l
 | .pair a b, l => by
  simp only [Od]
  rw [Ae4 a l]
  split
  ·rw [Ae4 b]
  ·rfl
 | .unit, l => rfl
 | .int k, l => by cases l <;> simp only [Od]; rw [Aj9]
 | .bool, l => by cases l <;> simp only [Od]; rw [Aj9]
 | .str, l => by cases l <;> simp only [Od]; rw [Aj9]
 | .err, l => by cases l <;> simp only [Od]; rw [Aj9]
 | .sl t, l => by cases l <;> simp only [Od]; rw [Aj9]
 | .nptr t, l => by cases l <;> simp only [Od]; rw [Aj9]
theorem Aq2 (t : Ty) : ∀ (l : List (Nat × AV)) (n : Nat), Sl bs t n l = Sl bs2 t n l
 | [], n => rfl
 | (i, v) :: l, n => by
  simp only [Sl]
  rw [Ae4 (bs2 := bs2) t (Dx v), Aq2 t l (n + 1)]
theorem Eff.mono {A A' : Option (List Nat)} {f : Al -> (R : Type) -> (AV -> Al -> Option R) -> Option R} {K : AV -> Al -> Option R} (h : Eff A f bs K out)
  (h1 : ∀ bs2, Agr A' bs bs2 -> Agr A bs bs2) (h2 : ∀ b, InA A b -> InA A' b) : Eff A' f bs K out := by
 obtain ⟨v, ch, k1, k2, k3⟩ := h
 exact ⟨v, ch, k1, fun bs2 ha => k2 bs2 (h1 bs2 ha), fun x hx => h2 _ (k3 x hx)⟩
theorem Eff.val {A : Option (List Nat)} {f : Al -> (R : Type) -> (AV -> Al -> Option R) -> Option R} {K : AV -> Al -> Option R}
  (h : ∃ v, K v bs = some out /\ ∀ bs2, Agr A bs bs2 -> ∀ (R' : Type) (K' : AV -> Al -> Option R'), f bs2 R' K' = K' v bs2) : Eff A f bs K out := by
 obtain ⟨v, h1, h2⟩ := h
 exact ⟨v, [], h1, h2, fun x hx => by cases hx⟩
theorem Akj {b : Nat} (h : look bs2 b = look bs b) : Av bs2 b = Av bs b := by simp only [Av, h]
theorem Aag {d : Option Nat} {T : TypeId} {t : Ty} {xs : List t.den} {K : AV -> Al -> Option R} (h : newRow d bs T t xs K = some out) :
  Eff (some (Ay5 d)) (fun bs R K => newRow d bs T t xs K) bs K out := by
 cases d with
 | none => cases h
 | some d =>
  refine ⟨_, [(d, (Av bs d, .row T t xs))], h, fun bs2 ha R' K' => ?_, fun x hx => ?_⟩
  ·simp only [newRow, Akj (ha d (by simp [Ay5])), List.singleton_append]
  ·simp only [List.mem_singleton] at hx; subst hx; simp [InA, Ay5]
theorem Axr {d : Option Nat} {T : TypeId} {cells : List AV} {K : AV -> Al -> Option R} (h : newVar d bs T cells K = some out) :
  Eff (some (Ay5 d)) (fun bs R K => newVar d bs T cells K) bs K out := by
 cases d with
 | none => cases h
 | some d =>
  simp only [newVar] at h
  obtain ⟨h1, h⟩ := Af h
  refine ⟨_, [(d, (Av bs d, .var T cells))], h, fun bs2 ha R' K' => ?_, fun x hx => ?_⟩
  ·simp only [newVar, h1, cond_true, Akj (ha d (by simp [Ay5])), List.singleton_append]
  ·simp only [List.mem_singleton] at hx; subst hx; simp [InA, Ay5]
theorem Ayr {d : Option Nat} {T : TypeId} {z : List AV} {K : AV -> Al -> Option R} (h : Afu d bs T z K = some out) :
  Eff (some (Ay5 d)) (fun bs R K => Afu d bs T z K) bs K out := by
 unfold Afu at h
 split at h
 ·rename_i xs hxs
  obtain ⟨p1, hA⟩ := Af h
  cases d with
  | none => cases hA
  | some d =>
   refine ⟨.oel d (Av bs d) 0 0, [(d, (Av bs d, .row T (Ap4 z) xs))], hA, fun bs2 ha R' K' => ?_, fun x hx => ?_⟩
   ·simp only [Afu, hxs, p1, cond_true, newRow, Akj (ha d (by simp [Ay5])), List.singleton_append]
   ·simp only [List.mem_singleton] at hx; subst hx; simp [InA, Ay5]
 ·cases h
theorem Aw9 {d : Option Nat} {T : TypeId} {n : Nat} {parts : List (Nat × AV)} {K : AV -> Al -> Option R} (h : Kw E d T n parts bs K = some out) :
  Eff (some (Ay5 d)) (fun bs R K => Kw E d T n parts bs K) bs K out := by
 unfold Kw at h
 split at h
 ·rename_i e hk
  split at h
  ·rename_i r hr
   obtain ⟨h1, h⟩ := Af h
   split at h
   ·rename_i xs hxs
    obtain ⟨v, ch, k1, k2, k3⟩ := Aag h
    refine ⟨v, ch, k1, fun bs2 ha R' K' => ?_, k3⟩
    simp only [Kw, hk, hr, h1, cond_true]
    rw [Aq2 (bs2 := bs) r.shape parts 0, hxs]
    exact k2 bs2 ha R' K'
   ·cases h
  ·cases h
 ·cases h
theorem A1k {d : Option Nat} {T : TypeId} {x y : AV} {K : AV -> Al -> Option R} (h : N0 E d T x y bs K = some out) :
  Eff (some (Ay5 d)) (fun bs R K => N0 E d T x y bs K) bs K out := by
 unfold N0 at h
 split at h
 ·rename_i n m e hk
  split at h
  ·rename_i r hr
   split at h
   ·rename_i z hz
    obtain ⟨h1, h⟩ := Af h
    obtain ⟨v, ch, k1, k2, k3⟩ := Aag h
    refine ⟨v, ch, k1, fun bs2 ha R' K' => ?_, k3⟩
    simp only [N0, hk, hr]
    rw [Ae4 (bs2 := bs) r.shape r.zero, hz]
    simp only [h1, cond_true]
    exact k2 bs2 ha R' K'
   ·cases h
  ·cases h
 ·cases h
theorem A46 {e : TypeId} {t : Ty} {y : AV} (h : ∀ b ∈ Jr [y], look bs2 b = look bs b) : A3n E bs2 e t y = A3n E bs e t y := by
 unfold A3n
 split <;> try rfl
 rename_i b v
 rw [Cs (h b (by simp [Jr]))]
theorem Azg {e U : TypeId} {same : Bool} {t : Ty} {y : AV} (h : ∀ b ∈ Jr [y], look bs2 b = look bs b) : Ay7 E bs2 same U e t y = Ay7 E bs same U e t y := by
 unfold Ay7
 split <;> try rfl
 rw [A46 h]
theorem Bbc {d : Option Nat} {T U : TypeId} {x y : AV} {K : AV -> Al -> Option R} {A : List Nat} (hd : ∀ b ∈ Ay5 d, b ∈ A) (hx : ∀ b ∈ Jr [x], b ∈ A) (hy : ∀ b ∈ Jr [y], b ∈ A)
  (h : Xi E d T U x y bs K = some out) : Eff (some A) (fun bs R K => Xi E d T U x y bs K) bs K out := by
 unfold Xi at h
 split at h
 ·rename_i e hk
  split at h
  ·rename_i r hr
   obtain ⟨h1, h⟩ := Af h
   split at h
   ·rename_i ys hys
    split at h
    ·obtain ⟨h2, h⟩ := Af h
     obtain ⟨v, ch, k1, k2, k3⟩ := Aag h
     refine ⟨v, ch, k1, fun bs2 ha R' K' => ?_, fun q hq => hd _ (k3 q hq)⟩
     simp only [Xi, hk, hr, h1, cond_true]
     rw [Azg (bs := bs) (fun b hb => ha b (hy b hb)), hys]
     simp only [h2, cond_true]
     exact k2 bs2 (fun b hb => ha b (hd b hb)) R' K'
    ·rename_i b v _
     split at h
     ·rename_i e' t xs hb
      obtain ⟨h2, h⟩ := Af h
      split at h
      ·rename_i et
       subst et
       obtain ⟨h3, h⟩ := Af h
       obtain ⟨v', ch, k1, k2, k3⟩ := Aag h
       have hbA : b ∈ A := hx b (by simp [Jr])
       refine ⟨v', ch ++ [(b, (v, .dead))], by simpa [kill] using k1, fun bs2 ha R' K' => ?_, fun q hq => ?_⟩
       ·simp only [Xi, hk, hr, h1, cond_true]
        rw [Azg (bs := bs) (fun b hb => ha b (hy b hb)), hys]
        simp only [Cs (ha b hbA), hb, h2, cond_true, h3, dif_pos]
        have := k2 (kill bs2 b v) (fun c hc => by
         have h5 := ha c (hd c hc)
         unfold kill
         by_cases e6 : b = c
         ·subst e6; rw [Ao, Ao]
         ·rw [An _ _ e6, An _ _ e6]; exact h5) R' K'
        refine Eq.trans this ?_
        simp [kill]
       ·rcases List.mem_append.1 hq with hq | hq
        ·exact hd _ (k3 q hq)
        ·simp only [List.mem_singleton] at hq; subst hq; exact hbA
      ·cases h
     ·cases h
    ·cases h
   ·cases h
  ·cases h
 ·cases h
theorem A9b {A : List Nat} {T U : TypeId} {x y : AV} {K : AV -> Al -> Option R} (hA : ∀ b ∈ Jr [x], b ∈ A) (hy : ∀ b ∈ Jr [y], b ∈ A) (h : Ap3 E T U x y bs K = some out) :
  Eff (some A) (fun bs R K => Ap3 E T U x y bs K) bs K out := by
 unfold Ap3 at h
 split at h
 ·rename_i e b v lo hk
  split at h
  ·rename_i e' t xs hb
   split at h
   ·rename_i ys hys
    obtain ⟨h1, h⟩ := Af h
    have hbA : b ∈ A := hA b (by simp [Jr])
    refine ⟨_, [(b, (v, _))], h, fun bs2 ha R' K' => ?_, fun q hq => ?_⟩
    ·have hy2 := A46 (E := E) (e := e') (t := t) (bs := bs) (bs2 := bs2) (y := y) (fun b hb => ha b (hy b hb))
     simp only [Ap3, hk, Cs (ha b hbA), hb, hy2, hys, h1, cond_true, List.singleton_append]
    ·simp only [List.mem_singleton] at hq; subst hq; exact hbA
   ·cases h
  ·cases h
 ·cases h
theorem Be5 {A : List Nat} {T U : TypeId} {x y : AV} {K : AV -> Al -> Option R} (hA : ∀ b ∈ Jr [x], b ∈ A) (hy : ∀ b ∈ Jr [y], b ∈ A) (h : Agd E T U x y bs K = some out) :
  Eff (some A) (fun bs R K => Agd E T U x y bs K) bs K out := by
 unfold Agd at h
 split at h
 ·rename_i b v
  split at h
  ·rename_i e' t xs hb
   obtain ⟨hp, h⟩ := Af h
   have hbA : b ∈ A := hA b (by simp [Jr])
   obtain ⟨u, ch, k1, k2, k3⟩ := A9b (x := .osb b v 0) (fun q hq => hA q (by simpa [Jr] using hq)) hy h
   exact ⟨u, ch, k1, fun bs2 ha R' K' => by simp only [Agd, Cs (ha b hbA), hb, hp, cond_true]; exact k2 bs2 ha R' K', k3⟩
  ·cases h
 ·rename_i hn
  obtain ⟨u, ch, k1, k2, k3⟩ := A9b hA hy h
  refine ⟨u, ch, k1, fun bs2 ha R' K' => ?_, k3⟩
  unfold Agd
  split
  ·exact (hn _ _ rfl).elim
  ·exact k2 bs2 ha R' K'
theorem Bfh {T : TypeId} {x y : AV} {K : AV -> Al -> Option R} (h : Abr E T x y bs (fun bs => K .und bs) = some out) :
  Eff (some (Jr [x])) (fun bs R K => Abr E T x y bs fun bs => K .und bs) bs K out := by
 unfold Abr at h
 split at h
 ·cases h
 ·rename_i r hr
  obtain ⟨h1, h⟩ := Af h
  split at h
  ·rename_i b v off _
   split at h
   ·rename_i T' cells hb
    obtain ⟨h2, h⟩ := Af h
    refine ⟨.und, [(b, (v, _))], h, fun bs2 ha R' K' => ?_, fun q hq => ?_⟩
    ·simp only [Abr, hr, h1, cond_true, Cs (ha b (by simp [Jr])), hb, h2, List.singleton_append]
    ·simp only [List.mem_singleton] at hq; subst hq; simp [InA, Jr]
   ·cases h
  ·rename_i b v i off _
   split at h
   ·rename_i T' t xs hb
    cases hle : Nat.ble r.size t.sz with
    | true =>
     rw [hle, cond_true] at h
     split at h
     ·rename_i z hz
      obtain ⟨h2, h⟩ := Af h
      refine ⟨.und, [(b, (v, _))], h, fun bs2 ha R' K' => ?_, fun q hq => ?_⟩
      ·simp only [Abr, hr, h1, cond_true, Cs (ha b (by simp [Jr])), hb, hle]
       rw [Ae4 (bs2 := bs), hz]
       simp only [h2, cond_true, List.singleton_append]
      ·simp only [List.mem_singleton] at hq; subst hq; simp [InA, Jr]
     ·cases h
    | false =>
     rw [hle, cond_false] at h
     split at h
     ·rename_i zs hzs
      obtain ⟨p1, hA⟩ := Af h
      obtain ⟨p2, hB⟩ := Af hA
      refine ⟨.und, [(b, (v, _))], hB, fun bs2 ha R' K' => ?_, fun q hq => ?_⟩
      ·simp only [Abr, hr, h1, cond_true, Cs (ha b (by simp [Jr])), hb, hle, cond_false, hzs, p1, p2, List.singleton_append]
      ·simp only [List.mem_singleton] at hq; subst hq; simp [InA, Jr]
     ·cases h
   ·cases h
  ·cases h
theorem Cg : ∀ {l m : List Nat} {b : Nat}, b ∈ Au9 l m ↔ b ∈ l \/ b ∈ m
 | [], m, b => by simp [Au9]
 | a :: l, m, b => by simp [Au9, Cg (l := l), or_assoc]
theorem Bhn {d : Option Nat} {src dst : TypeId} {x : AV} {K : AV -> Al -> Option R} (h : Z6 E d src dst x bs K = some out) : Eff (some (Au9 (Ay5 d) (Jr [x]))) (fun bs R K => Z6 E d src dst x bs K) bs K out := by
 unfold Z6 at h
 split at h
 ·rename_i hs hd
  exact Eff.val ⟨_, h, fun bs2 ha R' K' => by simp only [Z6, hs, hd]⟩
 ·rename_i hs hd
  exact Eff.val ⟨_, h, fun bs2 ha R' K' => by simp only [Z6, hs, hd]⟩
 ·rename_i hs hd
  split at h
  ·rename_i hk
   exact Eff.val ⟨_, h, fun bs2 ha R' K' => by simp only [Z6, hs, hd, hk]⟩
  ·cases h
 ·rename_i hs hd
  split at h
  ·rename_i hk
   exact Eff.val ⟨_, h, fun bs2 ha R' K' => by simp only [Z6, hs, hd, hk]⟩
  ·cases h
 ·rename_i e b v hs hd
  split at h
  ·rename_i e' xs hk hb
   obtain ⟨h1, h⟩ := Af h
   exact Eff.val ⟨_, h, fun bs2 ha R' K' => by simp only [Z6, hs, hd, hk, Cs (ha b (Cg.2 (.inr (by simp [Jr])))), hb, h1, cond_true]⟩
  ·cases h
 ·rename_i hs hd
  split at h
  ·rename_i hk
   obtain ⟨h1, h⟩ := Af h
   obtain ⟨v, ch, k1, k2, k3⟩ := Aag h
   exact ⟨v, ch, k1, fun bs2 ha R' K' => by simp only [Z6, hs, hd, hk, h1, cond_true]; exact k2 bs2 (fun b hb => ha b (Cg.2 (.inl hb))) R' K', fun q hq => Cg.2 (.inl (k3 q hq))⟩
  ·cases h
 ·rename_i e b v hs hd
  split at h
  ·rename_i e' xs hk hb
   obtain ⟨h1, h⟩ := Af h
   refine ⟨_, [(b, (v, .row e' (.int .u8) xs))], h, fun bs2 ha R' K' => by simp only [Z6, hs, hd, hk, Cs (ha b (Cg.2 (.inr (by simp [Jr])))), hb, h1, cond_true]; rfl, fun q hq => ?_⟩
   rcases List.mem_singleton.1 hq with rfl
   exact Cg.2 (.inr (by simp [Jr]))
  ·cases h
 ·cases h
end
set_option linter.unusedSectionVars false
section
variable {P : Program} {E : Env} {R : Type} {out : R} {g0 g g' : Gh} {w0 w w' : World} {sl sl2 : List AV} {bs0 bs bs2 : Al} {a : Act}
theorem A9n {l : List Operand} (h : ∀ x ∈ l, H1 sl2 x = H1 sl x) : l.map (H1 sl2) = l.map (H1 sl) := List.map_congr_left h
theorem Aqc {o : Option Operand} (h : ∀ x, o = some x -> H1 sl2 x = H1 sl x) : Xs o sl2 = Xs o sl := by
 cases o with
 | none => rfl
 | some x => simp only [Xs, h x rfl]
theorem Ayi {o : Oper} (h : ∀ x ∈ o.op.operands, H1 sl2 x = H1 sl x) (bs : Al) (R : Type) (K : AV -> Al -> Option R) : Aot E o sl2 bs K = Aot E o sl bs K := by
 obtain ⟨dst, op, type, pos, after, guard⟩ := o
 cases op <;> simp only [Op.operands] at h <;> simp only [Aot]
 case slice T x lo hi mx =>
  have hx : H1 sl2 x = H1 sl x := h x (by simp)
  have h1 : Xs lo sl2 = Xs lo sl := Aqc fun y hy => h y (by simp [hy])
  have h2 : Xs hi sl2 = Xs hi sl := Aqc fun y hy => h y (by simp [hy])
  cases mx <;> simp only [hx, h1, h2]
 case build T ps =>
  have e : (ps.toList.map fun p => (p.1, H1 sl2 p.2)) = ps.toList.map fun p => (p.1, H1 sl p.2) :=
   List.map_congr_left fun p hp => by rw [h p.2 (by simp only [List.mem_toArray, List.mem_map]; exact ⟨p, hp, rfl⟩)]
  rw [e]
 case buildSlice T n ps =>
  have e : (ps.toList.map fun p => (p.1, H1 sl2 p.2)) = ps.toList.map fun p => (p.1, H1 sl p.2) :=
   List.map_congr_left fun p hp => by rw [h p.2 (by simp only [List.mem_toArray, List.mem_map]; exact ⟨p, hp, rfl⟩)]
  rw [e]
 case makeFunc fn fs caps =>
  rw [A9n fun x hx => h x (by simp only [Array.mem_append]; exact .inr (by simpa using hx))]
 case call c =>
  obtain ⟨callee, args, ts⟩ := c
  have e : args.toList.map (H1 sl2) = args.toList.map (H1 sl) := A9n fun x hx => h x (by simp [Call.operands]; cases callee <;> simp_all)
  cases callee with
  | value f =>
   have hf : H1 sl2 f = H1 sl f := h f (by simp [Call.operands])
   simp only [hf, e]
  | builtin b => simp only [e]
  | invoke r m => rfl
 all_goals first
  | rfl
  | (simp_all; done)
theorem Eff.of_det {A : Option (List Nat)} {f : Al -> (R : Type) -> (AV -> Al -> Option R) -> Option R} {K : AV -> Al -> Option R} {p : (R : Type) -> (AV -> Option R) -> Option R}
  (h : Det p (fun v => K v bs) out) (e : ∀ bs2 (R' : Type) (K' : AV -> Al -> Option R'), f bs2 R' K' = p R' fun v => K' v bs2) : Eff A f bs K out := by
 obtain ⟨v, h1, h2⟩ := h
 exact Eff.val ⟨v, h1, fun bs2 _ R' K' => (e bs2 R' K').trans (h2 R' _)⟩
theorem A3y {fn : Fn} {b : Bool} {caps : List AV} {K : AV -> Option R} (h : Uy fn b caps K = some out) : Det (fun R (K : AV -> Option R) => Uy fn b caps K) K out := by
 unfold Uy at h
 split at h
 ·rename_i f
  obtain ⟨h0, h'⟩ := Af h
  exact ⟨_, h', fun R' K' => by simp only [Uy, h0, cond_true]⟩
 ·cases h
theorem Bgd {T : TypeId} {x : AV} {K : AV -> Option R} (h : Akr E T x K = some out) : Det (fun R (K : AV -> Option R) => Akr E T x K) K out := by
 unfold Akr at h
 split at h
 ·rename_i n e t l hk
  obtain ⟨h0, h'⟩ := Af h
  exact ⟨_, h', fun R' K' => by simp only [Akr, hk, h0, cond_true]⟩
 ·cases h
theorem Ar7 {x y : AV} : (∀ b ∈ Jr [x], b ∈ Jr [x, y]) /\ (∀ b ∈ Jr [y], b ∈ Jr [x, y]) := by
 constructor
 ·intro b hb
  cases x <;> simp_all [Jr, Cg]
 ·intro b hb
  cases x <;> simp_all [Jr, Cg]
theorem Bid {op : BinOp} {T : TypeId} {cst : Bool} {x y : AV} {K : AV -> Al -> Option R} (hk : Am6 (Ew E T) = false) (h : Ajb E bs op T cst x y (fun v => K v bs) = some out) :
  Eff (some (Jr [x])) (fun bs R K => Ajb E bs op T cst x y fun v => K v bs) bs K out := by
 unfold Ajb at h
 split at h
 ·rename_i b v off
  split at h
  ·rename_i h1 h2
   exact Eff.val ⟨_, h, fun bs2 ha R' K' => by simp only [Ajb, Cs (ha b (by simp [Jr])), h1, h2]⟩
  ·rename_i h1 h2
   exact Eff.val ⟨_, h, fun bs2 ha R' K' => by simp only [Ajb, Cs (ha b (by simp [Jr])), h1, h2]⟩
  ·cases h
 ·rename_i hn
  obtain ⟨v, h1, h2⟩ := Bk0 hk h
  refine Eff.val ⟨v, h1, fun bs2 _ R' K' => ?_⟩
  have := h2 R' fun v => K' v bs2
  unfold Ajb
  split
  ·exact (hn _ _ _ rfl rfl).elim
  ·exact this
theorem Bj1 (hE : Db P E) {o : Oper} {K : AV -> Al -> Option R} (hd : Bne E o sl = true) (h : Aot E o sl bs K = some out) : Eff (A30 E o sl bs) (fun bs R K => Aot E o sl bs K) bs K out := by
 obtain ⟨dst, op, type, pos, after, guard⟩ := o
 unfold Aot at h
 simp only at h
 split at h
 ·exact Eff.val ⟨_, h, fun bs2 _ R' K' => rfl⟩
 ·exact Eff.val ⟨_, h, fun bs2 _ R' K' => rfl⟩
 ·rename_i c x y
  split at h
  ·rename_i t ht
   cases t with
   | true => exact Eff.val ⟨_, h, fun bs2 _ R' K' => by simp only [Aot, ht, cond_true]⟩
   | false => exact Eff.val ⟨_, h, fun bs2 _ R' K' => by simp only [Aot, ht, cond_false]⟩
  ·cases h
 ·rename_i op T x y z
  have hk : Am6 (Ew E T) = false := by simpa [Bne] using hd
  exact Bid hk h
 ·exact Eff.of_det (Bng h) fun bs2 R' K' => rfl
 ·rename_i s d x
  exact Bhn h
 ·rename_i t i
  split at h
  ·rename_i l hl
   split at h
   ·rename_i v hv
    exact Eff.val ⟨v, h, fun bs2 _ R' K' => by simp only [Aot, hl, hv]⟩
   ·cases h
  ·cases h
 ·rename_i t x
  split at h
  ·rename_i n hn
   obtain ⟨h1, h⟩ := Af h
   exact Eff.val ⟨_, h, fun bs2 _ R' K' => by simp only [Aot, hn, h1, cond_true]⟩
  ·cases h
 ·exact Eff.of_det (Bbq h) fun bs2 R' K' => rfl
 ·rename_i T x
  obtain ⟨v, h1, h2⟩ := Bii h
  exact Eff.val ⟨v, h1, fun bs2 ha R' K' => h2 bs2 ha R' fun v => K' v bs2⟩
 ·rename_i T x y
  exact Bfh h
 ·rename_i T x f
  obtain ⟨v, h1, h2⟩ := A0d h
  exact Eff.val ⟨v, h1, fun bs2 ha R' K' => h2 bs2 ha R' fun v => K' v bs2⟩
 ·exact Eff.of_det (Bgx h) fun bs2 R' K' => rfl
 ·rename_i x
  split at h
  ·rename_i b v off hx
   obtain ⟨h1, h⟩ := Af h
   refine Eff.val ⟨_, h, fun bs2 ha R' K' => ?_⟩
   have hb : look bs2 b = look bs b := ha b (by rw [hx]; simp [Jr])
   simp only [Aot, hx, Cs hb, h1, cond_true]
  ·rename_i t y off hx
   exact Eff.val ⟨_, h, fun bs2 ha R' K' => by simp only [Aot, hx]⟩
  ·rename_i t p hx
   cases p with
   | none => cases h
   | some y => exact Eff.val ⟨_, h, fun bs2 ha R' K' => by simp only [Aot, hx]; rfl⟩
  ·cases h
 ·rename_i T x i
  obtain ⟨v, h1, h2⟩ := Az0 h
  exact Eff.val ⟨v, h1, fun bs2 ha R' K' => h2 bs2 ha R' fun v => K' v bs2⟩
 ·exact Eff.of_det (Bdj h) fun bs2 R' K' => rfl
 ·rename_i T x lo hi
  split at h
  ·rename_i l u hl hh
   obtain ⟨v, h1, h2⟩ := Bgm h
   exact Eff.val ⟨v, h1, fun bs2 ha R' K' => by simp only [Aot, hl, hh]; exact h2 bs2 ha R' _⟩
  ·cases h
 ·rename_i T
  split at h
  ·rename_i z hz
   cases hbig : Bj3 E T with
   | false =>
    rw [hbig, cond_false] at h
    obtain ⟨v, ch, k1, k2, k3⟩ := Axr h
    exact ⟨v, ch, k1, fun bs2 ha R' K' => by simp only [Aot, hz, hbig, cond_false]; exact k2 bs2 ha R' K', k3⟩
   | true =>
    rw [hbig, cond_true] at h
    obtain ⟨v, ch, k1, k2, k3⟩ := Ayr h
    exact ⟨v, ch, k1, fun bs2 ha R' K' => by simp only [Aot, hz, hbig, cond_true]; exact k2 bs2 ha R' K', k3⟩
  ·cases h
 ·rename_i T x
  split at h
  ·rename_i r hr
   obtain ⟨h1, h⟩ := Af h
   cases hbig : Bj3 E T with
   | false =>
    rw [hbig, cond_false] at h
    obtain ⟨v, ch, k1, k2, k3⟩ := Axr h
    exact ⟨v, ch, k1, fun bs2 ha R' K' => by simp only [Aot, hr, h1, hbig, cond_true, cond_false]; exact k2 bs2 ha R' K', k3⟩
   | true =>
    rw [hbig, cond_true] at h
    obtain ⟨v, ch, k1, k2, k3⟩ := Ayr h
    exact ⟨v, ch, k1, fun bs2 ha R' K' => by simp only [Aot, hr, h1, hbig, cond_true]; exact k2 bs2 ha R' K', k3⟩
  ·cases h
 ·exact Eff.of_det (Bf8 h) fun bs2 R' K' => rfl
 ·rename_i T n ps
  exact Aw9 h
 ·exact Eff.of_det (A3y h) fun bs2 R' K' => rfl
 ·rename_i T n m
  exact A1k h
 ·-- a call
  rename_i f xs ts
  unfold Bax at h
  split at h
  ·rename_i fid caps hf
   split at h
   ·rename_i s hs
    have hok := hE.calls fid s hs
    cases caps with
    | cons c cs => simp [Bne, hf] at hd
    | nil =>
     simp only [Bne, hf, hs] at hd
     obtain ⟨n, hn⟩ := Option.isSome_iff_exists.1 hd
     have he := hok.eff n hn _ _ _ _ _ _ h
     have hfoot : A30 E ⟨dst, .call { callee := .value f, args := xs, argTypes := ts }, type, pos, after, guard⟩ sl bs = Pd (E.nid dst) (xs.toList.map (H1 sl) ++ []) bs n := by
      simp only [A30, hf, hs, hn, Pd, List.append_nil]
     rw [hfoot]
     obtain ⟨v, ch, k1, k2, k3⟩ := he
     exact ⟨v, ch, k1, fun bs2 ha R' K' => by simp only [Aot, Bax, hf, hs]; exact k2 bs2 ha R' K', k3⟩
   ·cases h
  ·cases h
 ·-- a builtin
  rename_i b xs ts
  split at h
  ·rename_i T l x hts hx
   obtain ⟨v, h1, h2⟩ := Bkq h
   refine Eff.val ⟨v, h1, fun bs2 ha R' K' => ?_⟩
   simp only [Aot, hts, hx]
   refine h2 bs2 (fun b hb => ha b ?_) R' _
   simp only [A30, hx]
   exact Cg.2 (.inr hb)
  ·rename_i T T' x y hts hx
   have := Bbc (A := Au9 (Ay5 (E.nid dst)) (Jr [x, y])) (fun b hb => Cg.2 (.inl hb)) (fun b hb => Cg.2 (.inr (Ar7.1 b hb))) (fun b hb => Cg.2 (.inr (Ar7.2 b hb))) h
   obtain ⟨v, ch, k1, k2, k3⟩ := this
   have hfoot : A30 E ⟨dst, .call { callee := .builtin .append, args := xs, argTypes := ts }, type, pos, after, guard⟩ sl bs = some (Au9 (Ay5 (E.nid dst)) (Jr [x, y])) := by
    simp only [A30, hx]
   rw [hfoot]
   exact ⟨v, ch, k1, fun bs2 ha R' K' => by simp only [Aot, hts, hx]; exact k2 bs2 ha R' K', k3⟩
  ·rename_i T T' x y hts hx
   have := Be5 (A := Au9 (Ay5 (E.nid dst)) (Jr [x, y])) (fun b hb => Cg.2 (.inr (Ar7.1 b hb))) (fun b hb => Cg.2 (.inr (Ar7.2 b hb))) h
   obtain ⟨v, ch, k1, k2, k3⟩ := this
   have hfoot : A30 E ⟨dst, .call { callee := .builtin .copy, args := xs, argTypes := ts }, type, pos, after, guard⟩ sl bs = some (Au9 (Ay5 (E.nid dst)) (Jr [x, y])) := by
    simp only [A30, hx]
   rw [hfoot]
   exact ⟨v, ch, k1, fun bs2 ha R' K' => by simp only [Aot, hts, hx]; exact k2 bs2 ha R' K', k3⟩
  ·refine Eff.of_det (Bkg h) fun bs2 R' K' => ?_
   rfl
  ·refine Eff.of_det (Bkg h) fun bs2 R' K' => ?_
   rfl
  ·cases h
 ·exact Eff.of_det (Bgd h) fun bs2 R' K' => rfl
 ·cases h
end
structure Dat where
 v : AV
 ch : Al
 A : Option (List Nat)
def Amy (all : List Oper) (o : Oper) (sl sl2 : List AV) : Prop :=
 (∀ x ∈ o.op.operands, H1 sl2 x = H1 sl x) /\ ∀ j want s, o.guard = some (j, want) -> Wl all j = some s -> He sl2 s = He sl s
def Stp (E : Env) (all : List Oper) (o : Oper) (D : Dat) (sl : List AV) (bs : Al) : Prop :=
 (∀ sl2 bs2, Amy all o sl sl2 -> Agr D.A bs bs2 -> ∀ (R : Type) (K : St -> Option R), Qc E all [o] ⟨sl2, bs2⟩ K = K ⟨Ab1 sl2 o.dst D.v, D.ch ++ bs2⟩) /\ ∀ x ∈ D.ch, InA D.A x.1
section
variable {P : Program} {E : Env} {R : Type} {out : R} {g0 g g' : Gh} {w0 w w' : World} {sl sl2 : List AV} {bs0 bs bs2 : Al} {a : Act} {all : List Oper}
theorem Ahd : ∀ (l : List AV) (i : Nat), Aap l i (He l i) = l
 | [], i => rfl
 | x :: l, 0 => rfl
 | x :: l, i + 1 => by simp only [Aap, He, Ahd l i]
theorem A3l : ∀ (l : List AV) {i j : Nat} (u v : AV), i ≠ j -> Aap (Aap l i u) j v = Aap (Aap l j v) i u
 | [], _, _, _, _, _ => rfl
 | x :: l, 0, 0, _, _, h => absurd rfl h
 | x :: l, 0, j + 1, _, _, _ => rfl
 | x :: l, i + 1, 0, _, _, _ => rfl
 | x :: l, i + 1, j + 1, u, v, h => by
  have := A3l l u v (fun (e : i = j) => h (congrArg Nat.succ e))
  simp only [Aap, this]
theorem Bgt (l : List AV) {d e : Option Tmp} (u v : AV) (h : ∀ x, d = some x -> e ≠ some x) : Ab1 (Ab1 l d u) e v = Ab1 (Ab1 l e v) d u := by
 cases d with
 | none => rfl
 | some d =>
  cases e with
  | none => rfl
  | some e => exact A3l l u v (fun q => h d rfl (by rw [q]))
theorem A3k {d : Option Tmp} {v : AV} {i : Nat} (h : ∀ x, d = some x -> x ≠ i) : He (Ab1 sl d v) i = He sl i := by
 cases d with
 | none => rfl
 | some d =>
  simp only [Ab1, Agc]
  rw [if_neg]
  rintro ⟨e, _⟩
  exact h d rfl e.symm
theorem Bgn {d : Option Tmp} {v : AV} {x : Operand} (h : ∀ t, d = some t -> x ≠ .tmp t) : H1 (Ab1 sl d v) x = H1 sl x := by
 cases x with
 | tmp t => exact A3k fun y hy e => h y hy (by rw [e])
 | _ => rfl
theorem K4 : ∀ {l : Al} {b : Nat}, (∀ x ∈ l, x.1 ≠ b) -> look (l ++ bs) b = look bs b
 | [], b, h => rfl
 | (i, x) :: l, b, h => by
  show look ((i, x) :: (l ++ bs)) b = look bs b
  rw [An _ _ (h _ (List.mem_cons_self ..))]
  exact K4 fun y hy => h y (List.mem_cons_of_mem _ hy)
theorem Aan : ∀ {l : Al} {bs bs2 : Al}, (∀ b, look bs2 b = look bs b) -> ∀ b, look (l ++ bs2) b = look (l ++ bs) b
 | [], _, _, h, b => h b
 | (i, x) :: l, bs, bs2, h, b => by
  show look ((i, x) :: (l ++ bs2)) b = look ((i, x) :: (l ++ bs)) b
  by_cases e : i = b
  ·subst e; rw [Ao, Ao]
  ·rw [An _ _ e, An _ _ e]; exact Aan h b
theorem Amy.refl {o : Oper} : Amy all o sl sl := ⟨fun _ _ => rfl, fun _ _ _ _ _ => rfl⟩
theorem Agr.refl (A : Option (List Nat)) : Agr A bs bs := by cases A <;> simp [Agr]
theorem Bo4 (hE : Db P E) {o : Oper} {K : St -> Option R} (hd : Bne E o sl = true) (h : Qc E all [o] ⟨sl, bs⟩ K = some out) :
  ∃ D : Dat, K ⟨Ab1 sl o.dst D.v, D.ch ++ bs⟩ = some out /\ D.A = A30 E o sl bs /\ Stp E all o D sl bs := by
 unfold Qc at h
 have hkd : A5f E.keep o.dst = true := by
  cases hq : A5f E.keep o.dst with
  | true => rfl
  | false => rw [hq] at h; cases h
 rw [hkd] at h
 simp only [Bool.not_true, cond_false] at h
 cases hg : o.guard with
 | none =>
  rw [hg] at h
  simp only [Qc] at h
  obtain ⟨v, ch, k1, k2, k3⟩ := Bj1 hE hd h
  refine ⟨⟨v, ch, A30 E o sl bs⟩, k1, rfl, fun sl2 bs2 hs ha R' K' => ?_, k3⟩
  show Qc E all [o] ⟨sl2, bs2⟩ K' = _
  unfold Qc
  simp only [hkd, Bool.not_true, cond_false, hg, Qc]
  rw [Ayi hs.1]
  exact k2 bs2 ha R' _
 | some jw =>
  obtain ⟨j, want⟩ := jw
  rw [hg] at h
  simp only at h
  split at h
  ·cases h
  ·rename_i s hs
   split at h
   ·rename_i b hb
    have yes : b = want -> ∃ D : Dat, K ⟨Ab1 sl o.dst D.v, D.ch ++ bs⟩ = some out /\ D.A = A30 E o sl bs /\ Stp E all o D sl bs := by
     intro e
     subst e
     have h2 : (Aot E o sl bs fun v bs => Qc E all [] ⟨Ab1 sl o.dst v, bs⟩ K) = some out := by
      have hset : Aap sl s (.val .bool b) = sl := by rw [<- hb]; exact Ahd sl s
      cases b <;> simp only [cond_true, cond_false, hset] at h <;> exact h
     simp only [Qc] at h2
     obtain ⟨v, ch, k1, k2, k3⟩ := Bj1 hE hd h2
     refine ⟨⟨v, ch, A30 E o sl bs⟩, k1, rfl, fun sl2 bs2 hsl ha R' K' => ?_, k3⟩
     show Qc E all [o] ⟨sl2, bs2⟩ K' = _
     have hb2 : He sl2 s = .val .bool b := by rw [hsl.2 j b s hg hs]; exact hb
     have hset : Aap sl2 s (.val .bool b) = sl2 := by rw [<- hb2]; exact Ahd sl2 s
     unfold Qc
     simp only [hkd, Bool.not_true, cond_false, hg, hs, hb2, Qc]
     cases b <;> simp only [cond_true, cond_false, hset] <;> (rw [Ayi hsl.1]; exact k2 bs2 ha R' _)
    have no : b ≠ want -> ∃ D : Dat, K ⟨Ab1 sl o.dst D.v, D.ch ++ bs⟩ = some out /\ D.A = A30 E o sl bs /\ Stp E all o D sl bs := by
     intro e
     have h2 : Qc E all [] ⟨Ab1 sl o.dst .und, bs⟩ K = some out := by
      have hset : Aap sl s (.val .bool b) = sl := by rw [<- hb]; exact Ahd sl s
      cases b <;> cases want <;> first | exact (e rfl).elim | (simp only [cond_true, cond_false, hset] at h; exact h)
     refine ⟨⟨.und, [], A30 E o sl bs⟩, h2, rfl, fun sl2 bs2 hsl ha R' K' => ?_, fun x hx => by cases hx⟩
     show Qc E all [o] ⟨sl2, bs2⟩ K' = _
     have hb2 : He sl2 s = .val .bool b := by rw [hsl.2 j want s hg hs]; exact hb
     have hset : Aap sl2 s (.val .bool b) = sl2 := by rw [<- hb2]; exact Ahd sl2 s
     unfold Qc
     simp only [hkd, Bool.not_true, cond_false, hg, hs, hb2, Qc]
     cases b <;> cases want <;> first | exact (e rfl).elim | (simp only [cond_true, cond_false, hset]; rfl)
    by_cases e : b = want
    ·exact yes e
    ·exact no e
   ·rename_i hb
    refine ⟨⟨.und, [], A30 E o sl bs⟩, h, rfl, fun sl2 bs2 hsl ha R' K' => ?_, fun x hx => by cases hx⟩
    show Qc E all [o] ⟨sl2, bs2⟩ K' = _
    have hb2 : He sl2 s = .und := by rw [hsl.2 j want s hg hs]; exact hb
    unfold Qc
    simp only [hkd, Bool.not_true, cond_false, hg, hs, hb2, Qc]
    rfl
   ·cases h
theorem Ayd {o1 o2 : Oper} {v : AV} (h : ∀ d, o1.dst = some d -> d ∉ o2.looksAt all.toArray) : Amy all o2 sl (Ab1 sl o1.dst v) := by
 refine ⟨fun x hx => Bgn fun t ht e => ?_, fun j want s hg hs => A3k fun t ht e => ?_⟩
 ·subst e
  refine h t ht (List.mem_append_left _ (List.mem_filterMap.2 ⟨.tmp t, by simpa using hx, rfl⟩))
 ·subst e
  refine h t ht (List.mem_append_right _ ?_)
  rw [hg]
  rw [Aft] at hs
  simp [hs]
theorem Amy.symm {o : Oper} (h : Amy all o sl sl2) : Amy all o sl2 sl := ⟨fun x hx => (h.1 x hx).symm, fun j w s h1 h2 => (h.2 j w s h1 h2).symm⟩
theorem Amy.trans {o : Oper} {sl3 : List AV} (h : Amy all o sl sl2) (k : Amy all o sl2 sl3) : Amy all o sl sl3 :=
 ⟨fun x hx => (k.1 x hx).trans (h.1 x hx), fun j w s h1 h2 => (k.2 j w s h1 h2).trans (h.2 j w s h1 h2)⟩
theorem Azd {A : Option (List Nat)} {ch : Al} (h : ∀ x ∈ ch, ¬ InA A x.1) : Agr A bs (ch ++ bs) := by
 cases A with
 | none =>
  intro b
  cases ch with
  | nil => rfl
  | cons x ch => exact (h x (List.mem_cons_self ..) trivial).elim
 | some l =>
  intro b hb
  refine K4 fun x hx e => ?_
  subst e
  exact h x hx hb
theorem Agr.symm {A : Option (List Nat)} (h : Agr A bs bs2) : Agr A bs2 bs := by
 cases A with
 | none => exact fun b => (h b).symm
 | some l => exact fun b hb => (h b hb).symm
theorem Agr.trans {A : Option (List Nat)} {bs3 : Al} (h : Agr A bs bs2) (k : Agr A bs2 bs3) : Agr A bs bs3 := by
 cases A with
 | none => exact fun b => (k b).trans (h b)
 | some l => exact fun b hb => (k b hb).trans (h b hb)
theorem Stp.alike {o : Oper} {D : Dat} (h : Stp E all o D sl bs) (hs : Amy all o sl sl2) (ha : Agr D.A bs bs2) : Stp E all o D sl2 bs2 :=
 ⟨fun sl3 bs3 hs3 ha3 R K => h.1 sl3 bs3 (hs.trans hs3) (ha.trans ha3) R K, h.2⟩
def Ind (all : List Oper) (oj oi : Oper) (Dj Di : Dat) : Prop :=
 oj.apart all.toArray oi = true /\ (∀ x ∈ Di.ch, ¬ InA Dj.A x.1) /\ ∀ x ∈ Dj.ch, ¬ InA Di.A x.1
theorem Biu {oj oi : Oper} {Dj Di : Dat} (hj : Stp E all oj Dj sl bs) (hi : Stp E all oi Di (Ab1 sl oj.dst Dj.v) (Dj.ch ++ bs)) (hind : Ind all oj oi Dj Di) :
  Stp E all oi Di sl bs /\ Stp E all oj Dj (Ab1 sl oi.dst Di.v) (Di.ch ++ bs) /\ Ab1 (Ab1 sl oj.dst Dj.v) oi.dst Di.v = Ab1 (Ab1 sl oi.dst Di.v) oj.dst Dj.v /\
  ∀ b, look (Di.ch ++ (Dj.ch ++ bs)) b = look (Dj.ch ++ (Di.ch ++ bs)) b := by
 obtain ⟨hap, h1, h2⟩ := hind
 obtain ⟨a1, a2, a3⟩ := Oper.apart_spec hap
 refine ⟨hi.alike (Ayd (v := Dj.v) a1).symm (Azd h2).symm, hj.alike (Ayd (v := Di.v) a3) (Azd h1), Bgt sl _ _ a2, fun b => ?_⟩
 by_cases hb : ∃ x ∈ Dj.ch, x.1 = b
 ·obtain ⟨x, hx, rfl⟩ := hb
  have hin : InA Dj.A x.1 := hj.2 x hx
  have hn : ∀ y ∈ Di.ch, y.1 ≠ x.1 := fun y hy e => h1 y hy (by rw [e]; exact hin)
  rw [K4 hn]
  have : ∀ (l : Al), (∃ y ∈ l, y.1 = x.1) -> ∀ m m' : Al, look (l ++ m) x.1 = look (l ++ m') x.1 := by
   intro l
   induction l with
   | nil => rintro ⟨y, hy, _⟩; cases hy
   | cons z l ih =>
    rintro ⟨y, hy, e⟩ m m'
    obtain ⟨i, c⟩ := z
    show look ((i, c) :: (l ++ m)) x.1 = look ((i, c) :: (l ++ m')) x.1
    by_cases e2 : i = x.1
    ·rw [<- e2, Ao, Ao]
    ·rw [An _ _ e2, An _ _ e2]
     refine ih ?_ m m'
     rcases List.mem_cons.1 hy with rfl | hy
     ·exact (e2 e).elim
     ·exact ⟨y, hy, e⟩
  exact this Dj.ch ⟨x, hx, rfl⟩ _ _
 ·have hn : ∀ y ∈ Dj.ch, y.1 ≠ b := fun y hy e => hb ⟨y, hy, e⟩
  rw [K4 (l := Dj.ch) hn]
  have : ∀ (l : Al), look (l ++ (Dj.ch ++ bs)) b = look (l ++ bs) b := by
   intro l
   induction l with
   | nil => exact K4 hn
   | cons z l ih =>
    obtain ⟨i, c⟩ := z
    show look ((i, c) :: (l ++ (Dj.ch ++ bs))) b = look ((i, c) :: (l ++ bs)) b
    by_cases e2 : i = b
    ·rw [e2, Ao, Ao]
    ·rw [An _ _ e2, An _ _ e2]; exact ih
  exact this Di.ch
def Awc (E : Env) (all : List Oper) (D : Nat -> Dat) (slE : List AV) (bsE : Al) : List Nat -> List AV -> Al -> Prop
 | [], sl, bs => sl = slE /\ ∀ b, look bs b = look bsE b
 | i :: l, sl, bs => ∃ o, all[i]? = some o /\ Stp E all o (D i) sl bs /\ Awc E all D slE bsE l (Ab1 sl o.dst (D i).v) ((D i).ch ++ bs)
theorem A5h {D : Nat -> Dat} {slE : List AV} {bsE : Al} : ∀ {l : List Nat} {sl : List AV} {bs bs2 : Al}, (∀ b, look bs2 b = look bs b) -> Awc E all D slE bsE l sl bs -> Awc E all D slE bsE l sl bs2
 | [], sl, bs, bs2, h, hr => ⟨hr.1, fun b => (h b).trans (hr.2 b)⟩
 | i :: l, sl, bs, bs2, h, ⟨o, h1, h2, h3⟩ => by
  refine ⟨o, h1, h2.alike Amy.refl ?_, A5h (Aan h) h3⟩
  cases (D i).A with
  | none => exact h
  | some l => exact fun b _ => h b
theorem Bew {D : Nat -> Dat} {slE : List AV} {bsE : Al} {i : Nat} {l2 : List Nat} : ∀ {l1 : List Nat} {sl : List AV} {bs : Al},
  (∀ j ∈ l1, ∀ oj oi, all[j]? = some oj -> all[i]? = some oi -> Ind all oj oi (D j) (D i)) -> Awc E all D slE bsE (l1 ++ i :: l2) sl bs -> Awc E all D slE bsE (i :: (l1 ++ l2)) sl bs
 | [], sl, bs, _, h => h
 | j :: l1, sl, bs, hi, ⟨oj, h1, h2, h3⟩ => by
  obtain ⟨oi, k1, k2, k3⟩ := Bew (fun q hq => hi q (List.mem_cons_of_mem _ hq)) h3
  obtain ⟨s1, s2, s3, s4⟩ := Biu h2 k2 (hi j (List.mem_cons_self ..) oj oi h1 k1)
  refine ⟨oi, k1, s1, oj, h1, s2, ?_⟩
  rw [<- s3]
  exact A5h (fun b => (s4 b).symm) k3
end
section
variable {P : Program} {E : Env} {R : Type} {out : R} {g0 g g' : Gh} {w0 w w' : World} {sl sl2 : List AV} {bs0 bs bs2 : Al} {a : Act} {all : List Oper}
def Awl (D : Nat -> Dat) (all : List Oper) : Log -> Nat -> Prop
 | [], n => n = 0
 | (k, o, A, W) :: l, n => ∃ m, n = m + 1 /\ k = m /\ all[m]? = some o /\ A = (D m).A /\ W = (D m).ch.map (·.1) /\ Awl D all l m
theorem Atx {D D' : Nat -> Dat} : ∀ {l : Log} {n : Nat}, (∀ k < n, D' k = D k) -> Awl D all l n -> Awl D' all l n
 | [], _, _, h => h
 | (k, o, A, W) :: l, n, hk, ⟨m, e, h1, h2, h3, h4, h5⟩ => by
  subst e
  have e := hk m (Nat.lt_succ_self m)
  exact ⟨m, rfl, h1, h2, by rw [e]; exact h3, by rw [e]; exact h4, Atx (fun q hq => hk q (Nat.lt_succ_of_lt hq)) h5⟩
theorem A0w : ∀ l : Al, A7h l = l.length
 | [] => rfl
 | _ :: l => by simp [A7h, A0w l]
theorem Atf : ∀ (ch bs : Al), Bol ch.length (ch ++ bs) = ch.map (·.1)
 | [], _ => rfl
 | (i, c) :: ch, bs => by
  show i :: Bol ch.length (ch ++ bs) = _
  rw [Atf ch bs]; rfl
theorem Bpt (hE : Db P E) {K : St -> Option R} : ∀ (rest : List Oper) (i : Nat) (sl : List AV) (bs : Al) (lg : Log) (D0 : Nat -> Dat), (∀ k < rest.length, rest[k]? = all[i + k]?) -> Awl D0 all lg i ->
  Ayx E all rest i ⟨sl, bs⟩ lg K = some out -> ∃ D slE bsE lg', (∀ k < i, D k = D0 k) /\ K ⟨slE, bsE⟩ = some out /\ Awl D all lg' (i + rest.length) /\
   (Bg6 all (Wn all []) lg' && Ark all 0 && Region.noSelect all.toArray) = true /\ Awc E all D slE bsE (List.range' i rest.length) sl bs
 | [], i, sl, bs, lg, D0, hk, hl, h => by
  simp only [Ayx] at h
  obtain ⟨h1, h⟩ := Af h
  exact ⟨D0, sl, bs, lg, fun _ _ => rfl, h, hl, h1, rfl, fun _ => rfl⟩
 | o :: rest, i, sl, bs, lg, D0, hk, hl, h => by
  simp only [Ayx] at h
  obtain ⟨hd, h⟩ := Af h
  obtain ⟨Di, h1, h2, h3⟩ := Bo4 hE hd h
  have ho : all[i]? = some o := by have := hk 0 (by simp); simpa using this.symm
  have hlog : Awl (fun k => if k = i then Di else D0 k) all ((i, o, A30 E o sl bs, Bol (A7h (Di.ch ++ bs) - A7h bs) (Di.ch ++ bs)) :: lg) (i + 1) := by
   refine ⟨i, rfl, rfl, ho, by simp [h2], ?_, Atx (fun k hk => by show (if k = i then Di else D0 k) = D0 k; rw [if_neg (by omega)]) hl⟩
   rw [A0w, A0w, List.length_append, Nat.add_sub_cancel, Atf]
   simp
  obtain ⟨D, slE, bsE, lg', k1, k2, k3, k4, k5⟩ := Bpt hE rest (i + 1) _ _ _ _ (fun k hk1 => by have := hk (k + 1) (by simpa using hk1); rw [List.getElem?_cons_succ] at this; rw [this]; congr 1; omega) hlog h1
  have hDi : D i = Di := by rw [k1 i (Nat.lt_succ_self i)]; simp
  refine ⟨D, slE, bsE, lg', fun k hk' => ?_, k2, by rw [List.length_cons, show i + (rest.length + 1) = i + 1 + rest.length by omega]; exact k3, k4, ?_⟩
  ·rw [k1 k (by omega)]; show (if k = i then Di else D0 k) = D0 k; rw [if_neg (by omega)]
  ·rw [List.length_cons, List.range'_succ]
   exact ⟨o, ho, by rw [hDi]; exact h3, by rw [hDi]; exact k5⟩
theorem Bgl {A : Option (List Nat)} {ch : Al} (h : Bed A (ch.map (·.1)) = true) : ∀ x ∈ ch, ¬ InA A x.1 := by
 intro x hx hin
 cases A with
 | none =>
  cases ch with
  | nil => cases hx
  | cons y ch => simp [Bed, Bke] at h
 | some l =>
  simp only [Bed, List.all_eq_true] at h
  have := h x.1 (List.mem_map.2 ⟨x, hx, rfl⟩)
  simp only [Bool.not_eq_true'] at this
  have hm : O9 l x.1 = true := by
   have : ∀ {l : List Nat} {n : Nat}, n ∈ l -> O9 l n = true := by
    intro l n h
    induction l with
    | nil => cases h
    | cons b l ih =>
     simp only [O9, Bool.or_eq_true]
     rcases List.mem_cons.1 h with rfl | h
     ·exact .inl (Nat.beq_refl _)
     ·exact .inr (ih h)
   exact this hin
  rw [hm] at this; cases this
theorem A95 {D : Nat -> Dat} {bm i : Nat} {oi : Oper} : ∀ {l : Log} {n : Nat}, Awl D all l n -> Bjo all bm i oi (D i).A ((D i).ch.map (·.1)) l = true -> ∀ j < n, ∀ oj, all[j]? = some oj -> bm.testBit j = true \/ Ind all oj oi (D j) (D i)
 | [], n, h, _, j, hj, _, _ => by simp only [Awl] at h; omega
 | (k, o, A, W) :: l, n, ⟨m, e, h1, h2, h3, h4, h5⟩, hok, j, hj, oj, hoj => by
  subst e; subst h1
  simp only [Bjo, Bool.and_eq_true, Bool.or_eq_true] at hok
  by_cases e : j = k
  ·subst e
   rw [h2] at hoj
   simp only [Option.some.injEq] at hoj
   subst hoj
   rcases hok.1 with h | ⟨⟨ha, hb⟩, hc⟩
   ·exact .inl h
   ·refine .inr ⟨ha, ?_, ?_⟩
    ·rw [h3] at hc; exact Bgl hc
    ·rw [h4] at hb; exact Bgl hb
  ·exact A95 h5 hok.2 j (by omega) oj hoj
theorem A0y {D : Nat -> Dat} {bms : List Nat} : ∀ {l : Log} {n : Nat}, Awl D all l n -> Bg6 all bms l = true -> ∀ j i, j < i -> i < n -> ∀ oj oi, all[j]? = some oj -> all[i]? = some oi ->
  (Aru bms i).testBit j = true \/ Ind all oj oi (D j) (D i)
 | [], n, h, _, j, i, _, hi, _, _, _, _ => by simp only [Awl] at h; omega
 | (k, o, A, W) :: l, n, ⟨m, e, h1, h2, h3, h4, h5⟩, hok, j, i, hji, hi, oj, oi, hoj, hoi => by
  subst e; subst h1
  simp only [Bg6, Bool.and_eq_true] at hok
  by_cases e : i = k
  ·subst e
   rw [h2] at hoi
   simp only [Option.some.injEq] at hoi
   subst hoi
   rw [h3, h4] at hok
   exact A95 h5 hok.1 j hji oj hoj
  ·exact A0y h5 hok.2 j i hji (by omega) oj oi hoj hoi
theorem Alw : ∀ {l : List Oper} {n k : Nat} {o : Oper}, Ark l n = true -> l[k]? = some o -> ∀ e ∈ o.after.toList, Region.binds .any e = true -> e.on < n + k
 | [], _, _, _, _, h, _, _, _ => by simp at h
 | o' :: l, n, 0, o, hb, h, e, he, hbi => by
  simp only [List.getElem?_cons_zero, Option.some.injEq] at h
  subst h
  simp only [Ark, Bool.and_eq_true, List.all_eq_true] at hb
  have := hb.1 e he
  rw [hbi] at this
  have := Nat.le_of_ble_eq_true (by simpa [Nat.blt] using this : Nat.ble (e.on + 1) n = true)
  omega
 | o' :: l, n, k + 1, o, hb, h, e, he, hbi => by
  simp only [Ark, Bool.and_eq_true] at hb
  have := Alw hb.2 (by simpa using h) e he hbi
  omega
theorem Acz (x : Nat) : ∀ l : List Nat, (A55 l x).length = l.length + 1
 | [] => rfl
 | _ :: l => by simp [A55, Acz x l]
theorem Aqk (x : Nat) : ∀ (l : List Nat) (k : Nat), k < l.length -> Aru (A55 l x) k = Aru l k
 | [], _, h => by simp at h
 | _ :: _, 0, _ => rfl
 | _ :: l, k + 1, h => Aqk x l k (by simpa using h)
theorem Ap0 (x : Nat) : ∀ (l : List Nat), Aru (A55 l x) l.length = x
 | [] => rfl
 | _ :: l => Ap0 x l
theorem Auf : ∀ (l : List Oper) (acc : List Nat) (k : Nat), k < acc.length -> Aru (Wn l acc) k = Aru acc k
 | [], _, _, _ => rfl
 | o :: l, acc, k, h => by
  simp only [Wn]
  rw [Auf l _ k (by rw [Acz]; omega), Aqk _ _ _ h]
theorem A8o : ∀ (l : List Oper) (acc : List Nat) (k : Nat) (o : Oper), l[k]? = some o -> ∃ acc', acc'.length = acc.length + k /\ (∀ q < acc'.length, Aru acc' q = Aru (Wn l acc) q) /\ Aru (Wn l acc) (acc.length + k) = Ay8 acc' o.after.toList 0
 | [], _, _, _, h => by simp at h
 | o' :: l, acc, 0, o, h => by
  simp only [List.getElem?_cons_zero, Option.some.injEq] at h
  subst h
  refine ⟨acc, rfl, fun q hq => (Auf (o' :: l) acc q hq).symm, ?_⟩
  simp only [Wn, Nat.add_zero]
  rw [Auf l _ _ (by rw [Acz]; omega), Ap0]
 | o' :: l, acc, k + 1, o, h => by
  obtain ⟨acc', h1, h2, h3⟩ := A8o l (A55 acc (Ay8 acc o'.after.toList 0)) k o (by simpa using h)
  rw [Acz] at h1 h3
  exact ⟨acc', by omega, h2, by rw [show acc.length + (k + 1) = acc.length + 1 + k by omega]; exact h3⟩
theorem Azj (acc : List Nat) : ∀ (es : List Edge) (s j : Nat), (Ay8 acc es s).testBit j = true -> s.testBit j = true \/ ∃ e ∈ es, Region.binds .any e = true /\ (j = e.on \/ (Aru acc e.on).testBit j = true)
 | [], s, j, h => .inl h
 | e :: es, s, j, h => by
  simp only [Ay8] at h
  rcases Azj acc es _ j h with h | ⟨e', he', h1⟩
  ·cases hb : Region.binds .any e with
   | false => rw [hb] at h; exact .inl h
   | true =>
    rw [hb] at h
    simp only [cond_true, Nat.testBit_or, Bool.or_eq_true, Nat.testBit_two_pow, decide_eq_true_eq] at h
    rcases h with (h | h) | h
    ·exact .inl h
    ·exact .inr ⟨e, List.mem_cons_self .., hb, .inl h.symm⟩
    ·exact .inr ⟨e, List.mem_cons_self .., hb, .inr h⟩
  ·exact .inr ⟨e', List.mem_cons_of_mem _ he', h1⟩
theorem A2q (hb : Ark all 0 = true) {i j : Nat} {o : Oper} (ho : all[i]? = some o) (h : (Aru (Wn all []) i).testBit j = true) :
  ∃ e ∈ o.after.toList, Region.binds .any e = true /\ e.on < i /\ (j = e.on \/ (Aru (Wn all []) e.on).testBit j = true) := by
 obtain ⟨acc', h1, h2, h3⟩ := A8o all [] i o ho
 simp only [List.length_nil, Nat.zero_add] at h1 h3
 rw [h3] at h
 rcases Azj acc' _ 0 j h with h | ⟨e, he, hbi, h⟩
 ·simp at h
 ·have hlt : e.on < i := by have := Alw hb ho e he hbi; omega
  refine ⟨e, he, hbi, hlt, ?_⟩
  rcases h with h | h
  ·exact .inl h
  ·rw [h2 e.on (by omega)] at h; exact .inr h
def Cl (all : List Oper) (listed : Array Bool) : Prop :=
 ∀ k o, all[k]? = some o -> listed.getD k false = true -> ∀ e ∈ o.after.toList, Region.binds .any e = true -> listed.getD e.on false = true
theorem A3o (hb : Ark all 0 = true) {listed : Array Bool} (hc : Cl all listed) (hsz : listed.size = all.length) : ∀ (k j : Nat), listed.getD k false = true -> (Aru (Wn all []) k).testBit j = true -> listed.getD j false = true := by
 intro k
 induction k using Nat.strongRecOn with
 | _ k ih =>
  intro j hk hj
  have hlt : k < all.length := by
   rcases Nat.lt_or_ge k listed.size with h | h
   ·omega
   ·rw [Array.getD, dif_neg (by omega)] at hk; cases hk
  obtain ⟨e, he, hbi, hlt2, h⟩ := A2q hb (List.getElem?_eq_getElem hlt) hj
  have := hc k _ (List.getElem?_eq_getElem hlt) hk e he hbi
  rcases h with rfl | h
  ·exact this
  ·exact ih e.on hlt2 j this h
theorem Aa3 (hb : Ark all 0 = true) {listed : Array Bool} (hc : Cl all listed) (hsz : listed.size = all.length) {i j : Nat} (hi : i ∈ Region.ready .any all.toArray listed) (hj : (Aru (Wn all []) i).testBit j = true) : listed.getD j false = true := by
 obtain ⟨_, o, ho, hall⟩ := mem_ready.1 hi
 rw [List.getElem?_toArray] at ho
 obtain ⟨e, he, hbi, _, h⟩ := A2q hb ho hj
 have := hall e (by simpa using he) hbi
 rcases h with rfl | h
 ·exact this
 ·exact A3o hb hc hsz e.on j this h
theorem Ber (hE : Db P E) {o : Oper} {D : Dat} (hs : Stp E all o D sl bs) (hr : Rel E.ET g0 bs0 w0 g ⟨sl, bs⟩ a w) {kv : List Value} (hkp : ∀ i ∈ E.keep, a.tmps.getD i undef = kv.getD i undef) {W : Act -> World -> Prop} {Q : Qn}
  (hW : ∀ a' w', Aqt E.ET g0 bs0 w0 E.keep kv ⟨Ab1 sl o.dst D.v, D.ch ++ bs⟩ a' w' -> a'.defers = a.defers -> W a' w') :
  if Region.wanted o (yielded all.toArray a.tmps) then o.wp P a w W Q \/ (o.asks P a w /\ LetsOut Q) else W (a.put o.dst undef) w := by
 have h := hs.1 sl bs Amy.refl (Agr.refl _) St some
 exact Bpe (R := St) (out := ⟨Ab1 sl o.dst D.v, D.ch ++ bs⟩) hE ⟨⟨g, hr⟩, hkp⟩ h fun st' a' w' h1 hp h2 => by
  simp only [Option.some.injEq] at h2
  subst h2
  refine hW a' w' h1 ?_
  obtain ⟨u, rfl⟩ := hp
  cases o.dst <;> rfl
theorem Bi0 (h : ∀ b, look bs2 b = look bs b) : Ext g bs w g bs2 w := by
 refine ⟨Fr.refl g w, fun b => by simp only [Av, h]; exact Nat.le_refl _, fun b v T c _ hb => ?_, fun b v T t xs _ hb => ?_⟩
 ·exact ⟨⟨c, by simp only [Ar, <- h b]; exact hb⟩, rfl⟩
 ·exact ⟨⟨xs, by simp only [Ar, <- h b]; exact hb, rfl⟩, rfl⟩
theorem A7z {b : Nat} {c : Aam} (he : Ext g bs w g bs2 w) (h : A8w E.ET g bs w b c) : A8w E.ET g bs2 w b c := by
 cases c with
 | dead => trivial
 | var T cells =>
  obtain ⟨blk, arr, k1, k2, k3, k4⟩ := h
  exact ⟨blk, arr, k1, k2, k3, k4.mono fun _ _ => Cr.keep he⟩
 | row T t xs => exact h
theorem Bfo {kv : List Value} (h : ∀ b, look bs2 b = look bs b) (hr : Aqt E.ET g0 bs0 w0 E.keep kv ⟨sl, bs⟩ a w) : Aqt E.ET g0 bs0 w0 E.keep kv ⟨sl, bs2⟩ a w := by
 obtain ⟨⟨g, hr⟩, hk⟩ := hr
 have he : Ext g bs w g bs2 w := Bi0 h
 exact ⟨⟨g, hr.glb, hr.size, fun i => (hr.slots i).keep he, fun b v c hl => A7z he (hr.boxes b v c (by rw [<- h b]; exact hl)), hr.defers.mono he.fr, hr.ext.trans he⟩, hk⟩
theorem A84 {kv : List Value} (hr : Aqt E.ET g0 bs0 w0 E.keep kv ⟨sl, bs⟩ a w) : Aqt E.ET g0 bs0 w0 E.keep kv ⟨sl, bs⟩ a { w with drawn := w.drawn + 1 } := by
 obtain ⟨⟨g, hr⟩, hk⟩ := hr
 have fr : Fr g w g { w with drawn := w.drawn + 1 } := ⟨rfl, rfl, rfl, Nat.le_refl _, fun b h _ => ⟨h, rfl⟩, fun b h _ => ⟨h, rfl⟩⟩
 have he : Ext g bs w g bs { w with drawn := w.drawn + 1 } := Ext.of_fr fr rfl
 exact ⟨⟨g, hr.glb.keep fr, hr.size, fun i => (hr.slots i).keep he, hr.boxes.frame fr rfl (fun blk b _ h => ⟨h, rfl⟩), hr.defers.mono he.fr, hr.ext.trans he⟩, hk⟩
theorem Bob {kv : List Value} (hE : Db P E) {D : Nat -> Dat} {slE : List AV} {bsE : Al} {Q : Qn} (hback : Ark all 0 = true)
  (hpair : ∀ j i, j < i -> i < all.length -> ∀ oj oi, all[j]? = some oj -> all[i]? = some oi -> (Aru (Wn all []) i).testBit j = true \/ Ind all oj oi (D j) (D i))
  {ds : List Deferred} (hQ : ∀ bs a w, (∀ b, look bs b = look bsE b) -> Aqt E.ET g0 bs0 w0 E.keep kv ⟨slE, bs⟩ a w -> a.defers = ds -> Q .normal a w) :
  ∀ (n : Nat) (rem : List Nat) (listed : Array Bool) (sl : List AV) (bs : Al) (a : Act) (w : World), rem.length = n -> rem.Pairwise (· < ·) -> (∀ i, i ∈ rem ↔ i < all.length /\ listed.getD i true = false) ->
   listed.size = all.length -> Cl all listed -> a.defers = ds -> Aqt E.ET g0 bs0 w0 E.keep kv ⟨sl, bs⟩ a w -> Awc E all D slE bsE rem sl bs -> wpAny P .any all.toArray Q n listed a w := by
 have inRem : ∀ {rem : List Nat} {listed : Array Bool} {i : Nat}, (∀ i, i ∈ rem ↔ i < all.length /\ listed.getD i true = false) -> i ∈ Region.ready .any all.toArray listed -> i ∈ rem := by
  intro rem listed i hmem hi
  obtain ⟨h1, o, ho, _⟩ := mem_ready.1 hi
  rw [List.getElem?_toArray] at ho
  exact (hmem i).2 ⟨(List.getElem?_eq_some_iff.1 ho).1, h1⟩
 have same : ∀ {listed : Array Bool} {k : Nat}, listed.size = all.length -> k < all.length -> listed.getD k true = listed.getD k false := by
  intro listed k hs hk
  rw [Array.getD, Array.getD, dif_pos (by omega), dif_pos (by omega)]
 intro n
 induction n with
 | zero =>
  intro rem listed sl bs a w hlen hpw hmem hsz hcl hds hr hrun
  have : rem = [] := List.eq_nil_of_length_eq_zero hlen
  subst this
  refine ⟨?_, ?_⟩
  ·rw [List.eq_nil_iff_forall_not_mem]
   intro i hi
   have := inRem hmem hi
   cases this
  ·obtain ⟨e, hl⟩ := hrun
   subst e
   exact hQ bs a w hl hr hds
 | succ n ih =>
  intro rem listed sl bs a w hlen hpw hmem hsz hcl hds hr hrun
  refine ⟨fun hnone => ?_, fun i hi => ?_⟩
  ·-- the first of the rest may come up
   exfalso
   cases rem with
   | nil => simp at hlen
   | cons r rs =>
    obtain ⟨hrl, hru⟩ := (hmem r).1 (List.mem_cons_self ..)
    have hready : r ∈ Region.ready .any all.toArray listed := by
     refine mem_ready.2 ⟨hru, all[r], by rw [List.getElem?_toArray]; exact List.getElem?_eq_getElem hrl, fun e he hbi => ?_⟩
     have hlt := Alw hback (List.getElem?_eq_getElem hrl) e (by simpa using he) hbi
     have hlt : e.on < r := by omega
     have hnot : e.on ∉ r :: rs := by
      intro hin
      rcases List.mem_cons.1 hin with h | h
      ·omega
      ·have := (List.pairwise_cons.1 hpw).1 _ h
       omega
     have h2 : listed.getD e.on true ≠ false := fun h => hnot ((hmem e.on).2 ⟨by omega, h⟩)
     rw [<- same hsz (by omega)]
     simpa using h2
    rw [hnone] at hready
    cases hready
  ·have hin := inRem hmem hi
   obtain ⟨l1, l2, rfl⟩ := List.append_of_mem hin
   obtain ⟨hil, hiu⟩ := (hmem i).1 hin
   have hpw' := List.pairwise_append.1 hpw
   have hb : Awc E all D slE bsE (i :: (l1 ++ l2)) sl bs := by
    refine Bew (fun j hj oj oi hoj hoi => ?_) hrun
    have hji : j < i := hpw'.2.2 j hj i (List.mem_cons_self ..)
    obtain ⟨hjl, hju⟩ := (hmem j).1 (List.mem_append_left _ hj)
    rcases hpair j i hji hil oj oi hoj hoi with h | h
    ·exfalso
     have := Aa3 hback hcl hsz hi h
     rw [<- same hsz hjl, hju] at this
     cases this
    ·exact h
   obtain ⟨o, ho, hstp, hrun'⟩ := hb
   obtain ⟨⟨g, hr'⟩, hkp⟩ := hr
   have hget : ∀ k, (listed.setIfInBounds i true).getD k true = if k = i then true else listed.getD k true := by
    intro k
    by_cases e : k = i
    ·subst e
     rw [if_pos rfl, Array.getD]
     split <;> simp
    ·rw [if_neg e, getD_set_ne true (Ne.symm e)]
   unfold wpOp
   rw [List.getElem?_toArray, ho]
   refine Ber hE hstp hr' hkp fun a' w' hrl hda => ?_
   refine ih (l1 ++ l2) (listed.setIfInBounds i true) _ _ a' w' ?_ ?_ ?_ (by rw [Array.size_setIfInBounds]; exact hsz) ?_ (hda.trans hds) hrl hrun'
   ·simp only [List.length_append, List.length_cons] at hlen ⊢; omega
   ·exact hpw.sublist (List.Sublist.append_left (List.sublist_cons_self i l2) l1)
   ·intro k
    rw [hget]
    by_cases e : k = i
    ·subst e
     simp only [if_true]
     constructor
     ·intro hk
      rcases List.mem_append.1 hk with hk | hk
      ·have := hpw'.2.2 k hk k (List.mem_cons_self ..); omega
      ·have := (List.pairwise_cons.1 hpw'.2.1).1 k hk; omega
     ·rintro ⟨_, h⟩; cases h
    ·rw [if_neg e, <- hmem k]
     simp only [List.mem_append, List.mem_cons, e, false_or]
   ·intro k ok hok hk e he hbi
    by_cases ek : k = i
    ·subst ek
     obtain ⟨_, o', ho', hall⟩ := mem_ready.1 hi
     rw [List.getElem?_toArray, hok] at ho'
     simp only [Option.some.injEq] at ho'
     subst ho'
     exact getD_set_true (hall e (by simpa using he) hbi)
    ·rw [getD_set_ne false (Ne.symm ek)] at hk
     exact getD_set_true (hcl k ok hok hk e he hbi)
def Bn4 (P : Program) (ops : Array Oper) (Q : Qn) : Nat -> Nat -> Act -> World -> Prop
 | 0, _ => fun a w => Q .normal a w
 | s + 1, m => wpOp P ops Q m (Bn4 P ops Q s (m + 1))
theorem A1d {listed : Array Bool} {i : Nat} (hi : i ∈ Region.ready .any all.toArray listed) : i < all.length /\ listed.getD i true = false := by
 obtain ⟨h1, o, ho, _⟩ := mem_ready.1 hi
 rw [List.getElem?_toArray] at ho
 exact ⟨(List.getElem?_eq_some_iff.1 ho).1, h1⟩
theorem Vq {listed : Array Bool} {k : Nat} (hs : listed.size = all.length) (hk : k < all.length) : listed.getD k true = listed.getD k false := by
 rw [Array.getD, Array.getD, dif_pos (by omega), dif_pos (by omega)]
theorem A9k (listed : Array Bool) (i k : Nat) : (listed.setIfInBounds i true).getD k true = if k = i then true else listed.getD k true := by
 by_cases e : k = i
 ·subst e
  rw [if_pos rfl, Array.getD]
  split <;> simp
 ·rw [if_neg e, getD_set_ne true (Ne.symm e)]
theorem Bj0 {listed : Array Bool} {i : Nat} (hcl : Cl all listed) (hi : i ∈ Region.ready .any all.toArray listed) : Cl all (listed.setIfInBounds i true) := by
 intro k ok hok hk e he hbi
 by_cases ek : k = i
 ·subst ek
  obtain ⟨_, o', ho', hall⟩ := mem_ready.1 hi
  rw [List.getElem?_toArray, hok] at ho'
  simp only [Option.some.injEq] at ho'
  subst ho'
  exact getD_set_true (hall e (by simpa using he) hbi)
 ·rw [getD_set_ne false (Ne.symm ek)] at hk
  exact getD_set_true (hcl k ok hok hk e he hbi)
theorem Bk4 {Q : Qn} (hback : Ark all 0 = true) : ∀ (s m : Nat) (listed : Array Bool) (a : Act) (w : World), all.length = m + s -> (∀ j < m, listed.getD j true = true) -> (∀ j, m <= j -> j < all.length -> listed.getD j true = false) ->
  (∀ i, m <= i -> i < all.length -> ∀ j < i, (Aru (Wn all []) i).testBit j = true) -> Cl all listed -> listed.size = all.length -> Bn4 P all.toArray Q s m a w -> wpAny P .any all.toArray Q s listed a w := by
 intro s
 induction s with
 | zero =>
  intro m listed a w hm h1 h2 hf hcl hsz hw
  refine ⟨?_, hw⟩
  rw [List.eq_nil_iff_forall_not_mem]
  intro k hk
  obtain ⟨k1, k2⟩ := A1d hk
  rw [h1 k (by omega)] at k2
  cases k2
 | succ s ih =>
  intro m listed a w hm h1 h2 hf hcl hsz hw
  have hml : m < all.length := by omega
  refine ⟨fun hnone => ?_, fun i hi => ?_⟩
  ·exfalso
   have hready : m ∈ Region.ready .any all.toArray listed := by
    refine mem_ready.2 ⟨h2 m (Nat.le_refl _) hml, all[m], by rw [List.getElem?_toArray]; exact List.getElem?_eq_getElem hml, fun e he hbi => ?_⟩
    have hlt := Alw hback (List.getElem?_eq_getElem hml) e (by simpa using he) hbi
    rw [<- Vq hsz (by omega)]
    exact h1 e.on (by omega)
   rw [hnone] at hready
   cases hready
  ·obtain ⟨k1, k2⟩ := A1d hi
   have him : i = m := by
    rcases Nat.lt_trichotomy i m with h | h | h
    ·rw [h1 i h] at k2; cases k2
    ·exact h
    ·exfalso
     have := Aa3 hback hcl hsz hi (hf i (by omega) k1 m h)
     rw [<- Vq hsz hml, h2 m (Nat.le_refl _) hml] at this
     cases this
   subst him
   refine wpOp_mono (fun a' w' h' => ih (i + 1) _ a' w' (by omega) (fun j hj => ?_) (fun j hj hjl => ?_) (fun q hq => hf q (by omega)) (Bj0 hcl hi) (by rw [Array.size_setIfInBounds]; exact hsz) h') hw
   ·rw [A9k]
    by_cases e : j = i
    ·rw [if_pos e]
    ·rw [if_neg e]; exact h1 j (by omega)
   ·rw [A9k, if_neg (by omega)]
    exact h2 j (by omega) hjl
theorem Bmg {kv : List Value} (hE : Db P E) {D : Nat -> Dat} {slE : List AV} {bsE : Al} {Q : Qn} {m s : Nat} (hm : all.length = m + s) (hback : Ark all 0 = true)
  (hfull : ∀ i, m <= i -> i < all.length -> ∀ j < i, (Aru (Wn all []) i).testBit j = true)
  (hpair : ∀ j i, j < i -> i < m -> ∀ oj oi, all[j]? = some oj -> all[i]? = some oi -> (Aru (Wn all []) i).testBit j = true \/ Ind all oj oi (D j) (D i))
  {ds : List Deferred} (hQ : ∀ bs a w, (∀ b, look bs b = look bsE b) -> Aqt E.ET g0 bs0 w0 E.keep kv ⟨slE, bs⟩ a w -> a.defers = ds -> Bn4 P all.toArray Q s m a w) :
  ∀ (n : Nat) (rem : List Nat) (listed : Array Bool) (sl : List AV) (bs : Al) (a : Act) (w : World), rem.length = n -> rem.Pairwise (· < ·) -> (∀ i, i ∈ rem ↔ i < m /\ listed.getD i true = false) -> (∀ j, m <= j -> j < all.length -> listed.getD j true = false) ->
   listed.size = all.length -> Cl all listed -> a.defers = ds -> Aqt E.ET g0 bs0 w0 E.keep kv ⟨sl, bs⟩ a w -> Awc E all D slE bsE rem sl bs -> wpAny P .any all.toArray Q (n + s) listed a w := by
 intro n
 induction n with
 | zero =>
  intro rem listed sl bs a w hlen hpw hmem hum hsz hcl hds hr hrun
  have : rem = [] := List.eq_nil_of_length_eq_zero hlen
  subst this
  obtain ⟨e, hl⟩ := hrun
  subst e
  rw [Nat.zero_add]
  refine Bk4 hback s m listed a w hm (fun j hj => ?_) hum hfull hcl hsz (hQ bs a w hl hr hds)
  cases hc : listed.getD j true with
  | true => rfl
  | false => have := (hmem j).2 ⟨hj, hc⟩; cases this
 | succ n ih =>
  intro rem listed sl bs a w hlen hpw hmem hum hsz hcl hds hr hrun
  rw [show n + 1 + s = (n + s) + 1 by omega]
  refine ⟨fun hnone => ?_, fun i hi => ?_⟩
  ·exfalso
   cases rem with
   | nil => simp at hlen
   | cons r rs =>
    obtain ⟨hrl, hru⟩ := (hmem r).1 (List.mem_cons_self ..)
    have hready : r ∈ Region.ready .any all.toArray listed := by
     refine mem_ready.2 ⟨hru, all[r], by rw [List.getElem?_toArray]; exact List.getElem?_eq_getElem (by omega), fun e he hbi => ?_⟩
     have hlt := Alw hback (List.getElem?_eq_getElem (show r < all.length by omega)) e (by simpa using he) hbi
     have hlt : e.on < r := by omega
     have hnot : e.on ∉ r :: rs := by
      intro hin
      rcases List.mem_cons.1 hin with h | h
      ·omega
      ·have := (List.pairwise_cons.1 hpw).1 _ h
       omega
     have h2 : listed.getD e.on true ≠ false := fun h => hnot ((hmem e.on).2 ⟨by omega, h⟩)
     rw [<- Vq hsz (by omega)]
     simpa using h2
    rw [hnone] at hready
    cases hready
  ·obtain ⟨h1, h2⟩ := A1d hi
   have him : i < m := by
    rcases Nat.lt_or_ge i m with h | h
    ·exact h
    ·exfalso
     cases rem with
     | nil => simp at hlen
     | cons r rs =>
      obtain ⟨hrl, hru⟩ := (hmem r).1 (List.mem_cons_self ..)
      have := Aa3 hback hcl hsz hi (hfull i h h1 r (by omega))
      rw [<- Vq hsz (by omega), hru] at this
      cases this
   have hin := (hmem i).2 ⟨him, h2⟩
   obtain ⟨l1, l2, rfl⟩ := List.append_of_mem hin
   have hpw' := List.pairwise_append.1 hpw
   have hb : Awc E all D slE bsE (i :: (l1 ++ l2)) sl bs := by
    refine Bew (fun j hj oj oi hoj hoi => ?_) hrun
    have hji : j < i := hpw'.2.2 j hj i (List.mem_cons_self ..)
    obtain ⟨hjl, hju⟩ := (hmem j).1 (List.mem_append_left _ hj)
    rcases hpair j i hji him oj oi hoj hoi with h | h
    ·exfalso
     have := Aa3 hback hcl hsz hi h
     rw [<- Vq hsz (by omega), hju] at this
     cases this
    ·exact h
   obtain ⟨o, ho, hstp, hrun'⟩ := hb
   obtain ⟨⟨g, hr'⟩, hkp⟩ := hr
   unfold wpOp
   rw [List.getElem?_toArray, ho]
   refine Ber hE hstp hr' hkp fun a' w' hrl hda => ?_
   refine ih (l1 ++ l2) (listed.setIfInBounds i true) _ _ a' w' ?_ ?_ ?_ (fun j hj hjl => by rw [A9k, if_neg (by omega)]; exact hum j hj hjl) (by rw [Array.size_setIfInBounds]; exact hsz) (Bj0 hcl hi) (hda.trans hds) hrl hrun'
   ·simp only [List.length_append, List.length_cons] at hlen ⊢; omega
   ·exact hpw.sublist (List.Sublist.append_left (List.sublist_cons_self i l2) l1)
   ·intro k
    rw [A9k]
    by_cases e : k = i
    ·subst e
     simp only [if_true]
     constructor
     ·intro hk
      rcases List.mem_append.1 hk with hk | hk
      ·have := hpw'.2.2 k hk k (List.mem_cons_self ..); omega
      ·have := (List.pairwise_cons.1 hpw'.2.1).1 k hk; omega
     ·rintro ⟨_, h⟩; cases h
    ·rw [if_neg e, <- hmem k]
     simp only [List.mem_append, List.mem_cons, e, false_or]
theorem Bas {ms : List Nat} : ∀ {l : List Oper} {i : Nat}, Bif ms i l = true -> ∀ k, i <= k -> k < i + l.length -> Aru ms k = 2 ^ k - 1
 | [], i, _, k, h1, h2 => by simp at h2; omega
 | _ :: l, i, h, k, h1, h2 => by
  simp only [Bif, Bool.and_eq_true] at h
  by_cases e : k = i
  ·subst e; exact Nat.eq_of_beq_eq_true h.1
  ·exact Bas h.2 k (by omega) (by simp only [List.length_cons] at h2; omega)
theorem Bde (hE : Db P E) {kv : List Value} {Q : Qn} {ds : List Deferred} {K : St -> Option R} (hK : ∀ st' a' w', Aqt E.ET g0 bs0 w0 E.keep kv st' a' w' -> a'.defers = ds -> K st' = some out -> Q .normal a' w') :
  ∀ (rest : List Oper) (m : Nat) (st : St) (a : Act) (w : World), (∀ k < rest.length, rest[k]? = all[m + k]?) -> Aqt E.ET g0 bs0 w0 E.keep kv st a w -> a.defers = ds -> Bdh E all rest st K = some out -> Bn4 P all.toArray Q rest.length m a w
 | [], m, st, a, w, _, hr, hd, h => hK st a w hr hd h
 | o :: rest, m, st, a, w, hk, hr, hd, h => by
  have ho : all[m]? = some o := by have := hk 0 (by simp); simpa using this.symm
  show wpOp P all.toArray Q m (Bn4 P all.toArray Q rest.length (m + 1)) a w
  unfold wpOp
  rw [List.getElem?_toArray, ho]
  refine Bpe hE hr h fun st' a' w' h1 hp h2 => ?_
  refine Bde hE hK rest (m + 1) st' a' w' (fun k hk1 => by have := hk (k + 1) (by simpa using hk1); rw [List.getElem?_cons_succ] at this; rw [this]; congr 1; omega) h1 ?_ h2
  obtain ⟨u, rfl⟩ := hp
  exact (show (a.put o.dst u).defers = a.defers by cases o.dst <;> rfl).trans hd
theorem A8j (hE : Db P E) (g0 : Gh) (bs0 : Al) (w0 : World) (kv : List Value) : Ay0 (R := R) P E (Aqt E.ET g0 bs0 w0 E.keep kv) out := by
 intro id ops st K a w Q hr0 h hK
 have hr : Aqt E.ET g0 bs0 w0 E.keep kv (Acg E st (Awj E.frz (some (1000000 + id)))) a w := by
  obtain ⟨⟨g, hg⟩, hk⟩ := hr0
  obtain ⟨g', hg'⟩ := Akc (E := E) (Awj E.frz (some (1000000 + id))) hg
  exact ⟨⟨g', hg'⟩, hk⟩
 clear hr0
 generalize Acg E st (Awj E.frz (some (1000000 + id))) = st at h hr
 obtain ⟨sl, bs⟩ := st
 unfold A3g at h
 cases hlate : Bp2 E ops.toList with
 | true =>
  rw [hlate] at h
  simp only [cond_true] at h
  generalize hp : Axx (Wn ops.toList []) 0 ops.toList 0 = p at h
  obtain ⟨hfull, h⟩ := Af h
  obtain ⟨D, slE, bsE, lg', _, k2, k3, k4, k5⟩ := Bpt hE (ops.toList.take p) 0 sl bs [] (fun _ => ⟨.top, [], none⟩) (fun k hk => by
   rw [Nat.zero_add]
   rw [List.length_take] at hk
   rw [List.getElem?_take, if_pos (by omega)]) rfl h
  simp only [Bool.and_eq_true] at k4
  rw [Nat.zero_add] at k3
  refine ⟨hE.mixed, ?_⟩
  have hsz : ops.size = ops.toList.length := by simp
  have hms : ops.toList.length = (ops.toList.take p).length + (ops.toList.drop p).length := by
   rw [List.length_take, List.length_drop]; omega
  have hfl : ∀ i, (ops.toList.take p).length <= i -> i < ops.toList.length -> ∀ j < i, (Aru (Wn ops.toList []) i).testBit j = true := by
   intro i h1 h2 j hj
   rw [List.length_take] at h1
   have := Bas hfull i (by omega) (by rw [List.length_drop]; omega)
   rw [this, Nat.testBit_two_pow_sub_one]; exact decide_eq_true hj
  have key := Bmg (P := P) (g0 := g0) (bs0 := bs0) (w0 := w0) (Q := Q) (kv := kv) hE hms k4.1.2 hfl
   (fun j i hji hi oj oi hoj hoi => A0y k3 k4.1.1 j i hji hi oj oi hoj hoi)
   (ds := a.defers) (fun bs a' w' hl hrl hd => Bde hE (ds := a.defers) hK (ops.toList.drop p) _ _ a' w' (fun k hk => by
    rw [List.length_drop] at hk
    rw [List.getElem?_drop, List.length_take, Nat.min_eq_left (by omega)]) (Bfo (fun b => (hl b).symm) hrl) hd k2)
   (ops.toList.take p).length (List.range' 0 (ops.toList.take p).length) (Array.replicate ops.size false) sl bs a { w with drawn := w.drawn + 1 }
   (by simp) (by simpa using List.pairwise_lt_range') (fun i => by
    rw [List.mem_range'_1, Nat.zero_add]
    constructor
    ·rintro ⟨_, h⟩
     refine ⟨h, ?_⟩
     rw [Array.getD, dif_pos (by simp only [Array.size_replicate]; omega)]; simp
    ·rintro ⟨h, _⟩
     exact ⟨Nat.zero_le _, h⟩) (fun j _ hj => by
    rw [Array.getD, dif_pos (by simp only [Array.size_replicate]; omega)]; simp) (by simp) (fun k o ho hk => by
    rw [Array.getD] at hk
    split at hk
    ·simp at hk
    ·cases hk) rfl (A84 hr) k5
  rw [<- hms, <- hsz] at key
  simpa using key
 | false =>
 rw [hlate] at h
 simp only [cond_false] at h
 obtain ⟨D, slE, bsE, lg', _, k2, k3, k4, k5⟩ := Bpt hE ops.toList 0 sl bs [] (fun _ => ⟨.top, [], none⟩) (fun k _ => by rw [Nat.zero_add]) rfl h
 simp only [Bool.and_eq_true] at k4
 rw [Nat.zero_add] at k3
 refine ⟨hE.mixed, ?_⟩
 have key := Bob (P := P) (g0 := g0) (bs0 := bs0) (w0 := w0) (Q := Q) (kv := kv) hE k4.1.2 (fun j i hji hi oj oi hoj hoi => A0y k3 k4.1.1 j i hji hi oj oi hoj hoi)
  (ds := a.defers) (fun bs a' w hl hrl hd => hK ⟨slE, bsE⟩ a' w (Bfo (fun b => (hl b).symm) hrl) hd k2) ops.size (List.range' 0 ops.size) (Array.replicate ops.size false) sl bs a { w with drawn := w.drawn + 1 }
  (by simp) (by simpa using List.pairwise_lt_range') (fun i => by
   rw [List.mem_range'_1, Nat.zero_add]
   constructor
   ·rintro ⟨_, h⟩
    refine ⟨by simpa using h, ?_⟩
    rw [Array.getD, dif_pos (by simpa using h)]; simp
   ·rintro ⟨h, _⟩
    exact ⟨Nat.zero_le _, by simpa using h⟩) (by simp) (fun k o ho hk => by
   rw [Array.getD] at hk
   split at hk
   ·simp at hk
   ·cases hk) rfl (A84 hr) (by simpa using k5)
 simpa using key
end
section
variable {P : Program} {R : Type} {out : R} {ET : TypeId} {g0 g g' : Gh} {w0 w w' : World} {bs : Al}
theorem Bmd {o : Oper} {a : Act} {next : Act -> World -> Prop} {Q : Qn} {l n : Nat} : ∀ {r : Result Next}, o.upon P a next Q r -> o.uponIn (Fence.wide.inRound l) n P a next Q r := by
 intro r h
 match r, h with
 | .ok (.value v) w', h => exact h
 | .ok .skip w', h => exact h
 | .ok (.defer d) w', h => exact h
 | .ok (.enter f args) w', h => exact ⟨fun hh => by simp [Fence.wide] at hh, CallsIn.inRound l (callsIn_wide.2 h)⟩
 | .ok (.row row args) w', h =>
  refine ⟨fun hh => by simp [Fence.wide] at hh, fun c cs _ => ?_⟩
  obtain ⟨v, w2, h1, h2⟩ := h c cs
  exact ⟨v, w2, h1, stepsIn_wide.2 h2⟩
 | .halt (.panic v) w', h => exact h
theorem Bll {o : Oper} {a : Act} {next : Act -> World -> Prop} {Q : Qn} {l n : Nat} (hnd : ∀ c, o.op ≠ .defer c) (h : o.wp P a w next Q) : o.wpIn (Fence.wide.inRound l) n P a w next Q :=
 ⟨fun _ _ => trivial, by rw [Oper.semAt_eq _ _ _ hnd]; exact Bmd h⟩
theorem A1h : ∀ {l : List Oper}, Bh8 l = true -> ∀ o ∈ l, ∀ c, o.op ≠ .defer c
 | [], _, o, ho, _ => by cases ho
 | o :: l, h, o', ho, c => by
  simp only [Bh8, Bool.and_eq_true] at h
  rcases List.mem_cons.1 ho with rfl | ho
  ·intro e
   have := h.1
   rw [e] at this; cases this
  ·exact A1h h.2 o' ho c
theorem Avf {ops : Array Oper} {Q : Qn} {l n : Nat} (hq : ¬ LetsOut Q) : ∀ {rest : List Oper}, (∀ o ∈ rest, ∀ c, o.op ≠ .defer c) -> ∀ {a : Act} {w : World}, wpList P ops Q rest a w -> wpListIn (Fence.wide.inRound l) n P ops Q rest a w
 | [], _, _, _, h => h
 | o :: rest, hc, a, w, h => by
  unfold wpList at h
  unfold wpListIn
  split
  ·rename_i hw
   rw [if_pos hw] at h
   rcases h with h | h
   ·exact Bll (hc o (List.mem_cons_self ..)) (Oper.wp_mono (fun a w h => Avf hq (fun o' ho' => hc o' (List.mem_cons_of_mem _ ho')) h) h)
   ·exact absurd h.2 hq
  ·rename_i hw
   rw [if_neg hw] at h
   exact ⟨fun _ _ => trivial, Avf hq (fun o' ho' => hc o' (List.mem_cons_of_mem _ ho')) h⟩
theorem Bkr {ops : Array Oper} {Q : Qn} {l n i : Nat} (hq : ¬ LetsOut Q) (hc : ∀ (i : Nat) (o : Oper), ops[i]? = some o -> ∀ c, o.op ≠ .defer c) {K K' : Act -> World -> Prop} (hk : ∀ a w, K a w -> K' a w) {a : Act} {w : World}
  (h : wpOp P ops Q i K a w) : wpOpIn (Fence.wide.inRound l) n P ops Q i K' a w := by
 unfold wpOp at h
 unfold wpOpIn
 split
 ·rename_i hn
  rw [hn] at h
  exact hk _ _ h
 ·rename_i o ho
  rw [ho] at h
  simp only at h
  split
  ·rename_i hw
   rw [if_pos hw] at h
   rcases h with h | h
   ·exact Bll (hc i o ho) (Oper.wp_mono hk h)
   ·exact absurd h.2 hq
  ·rename_i hw
   rw [if_neg hw] at h
   exact ⟨fun _ _ => trivial, hk _ _ h⟩
theorem A96 {ops : Array Oper} {Q : Qn} {l n : Nat} {md : Region.Mode} (hq : ¬ LetsOut Q) (hc : ∀ (i : Nat) (o : Oper), ops[i]? = some o -> ∀ c, o.op ≠ .defer c) :
  ∀ (k : Nat) (listed : Array Bool) (a : Act) (w : World), wpAny P md ops Q k listed a w -> wpAnyIn (Fence.wide.inRound l) n P md ops Q k listed a w
 | 0, _, _, _, h => h
 | k + 1, listed, a, w, h => ⟨h.1, fun i hi => Bkr hq hc (fun a w h => A96 hq hc k _ a w h) (h.2 i hi)⟩
theorem Sx {W : Act -> World -> Prop} {Q : Qn} (h : ¬ LetsOut Q) : ¬ LetsOut (Exit.then W Q) := fun ⟨a, w, hh⟩ => h ⟨a, w, hh⟩
theorem Abx {i : Nat} {Q : Qn} (h : ¬ LetsOut Q) : ¬ LetsOut (Exit.inBlock i Q) := fun ⟨a, w, hh⟩ => h ⟨a, w, hh⟩
theorem Sb {E : Env} {Rl : Bby} {T : Tb R} (hreg : Bcd (R := R) P E Rl out) (hdr : Ay0 (R := R) P E Rl out) (hc : Ax8 Rl) {l m : Nat} : ∀ (c : Code) (n : Nat) (K : Akz R) (Q : Qn) (st : St) (a : Act) (w : World),
  Axa c = true -> ¬ LetsOut Q -> A5k Rl out K Q -> Rl st a w -> F9 E T [] c n K st = some out -> c.wpIn (Fence.wide.inRound l) m P Q a w
 | .skip, n, K, Q, st, a, w, _, _, hg, hr, he => wpIn_skip (hg.normal _ _ _ hr he)
 | .region id ops draw, n, K, Q, st, a, w, hcm, hq, hg, hr, he => by
  simp only [F9] at he
  simp only [Axa] at hcm
  cases draw with
  | true =>
   have hd := hdr id ops st K.normal a w Q hr he (fun st' a' w' h1 _ h2 => hg.normal _ _ _ h1 h2)
   exact wpIn_region_any hd.1 (A96 hq (fun i o ho c => A1h hcm o (by
    obtain ⟨h1, h2⟩ := Array.getElem?_eq_some_iff.1 ho
    rw [<- h2]; simp) c) _ _ _ _ hd.2)
  | false => exact wpIn_region_list (Avf hq (A1h hcm) (by simpa using hreg ops.toList ops.toList st K.normal a w Q hr he (fun st' a' w' h1 h2 => hg.normal _ _ _ h1 h2)))
 | .seq x y, n, K, Q, st, a, w, hcm, hq, hg, hr, he => by
  simp only [Axa, Bool.and_eq_true] at hcm
  refine wpIn_seq ?_
  refine Sb hreg hdr hc x (n + 1) _ _ st a w hcm.1 (Sx hq) (Ah1 hg fun st' a' w' hr' hn => ?_) hr he
  exact Sb hreg hdr hc y _ K Q st' a' w' hcm.2 hq hg hr' hn
 | .cond c x y, n, K, Q, st, a, w, hcm, hq, hg, hr, he => by
  simp only [Axa, Bool.and_eq_true] at hcm
  simp only [F9] at he
  cases c with
  | tmp t =>
   simp only at he
   split at he
   ·rename_i b hb
    refine wpIn_cond (t := b) (hc.yes _ _ _ _ _ hr hb) ?_
    have hs := hc.set _ _ _ _ _ hr hb
    cases b with
    | true => exact Sb hreg hdr hc x n K Q _ a w hcm.1 hq hg hs he
    | false => exact Sb hreg hdr hc y _ K Q _ a w hcm.2 hq hg hs he
   ·cases he
  | const v =>
   cases v with
   | bool b =>
    refine wpIn_cond (t := b) rfl ?_
    cases b with
    | true => exact Sb hreg hdr hc x n K Q st a w hcm.1 hq hg hr he
    | false => exact Sb hreg hdr hc y _ K Q st a w hcm.2 hq hg hr he
   | _ => cases he
  | _ => cases he
 | .block i b, n, K, Q, st, a, w, hcm, hq, hg, hr, he => by
  exact wpIn_block (Sb hreg hdr hc b n _ _ st a w hcm (Abx hq) (Ahn hg) hr he)
 | .loop b, _, _, _, _, _, _, hcm, _, _, _, _ => by cases hcm
 | .exit i, n, K, Q, st, a, w, _, _, hg, hr, he => wpIn_exit (hg.exits _ _ _ _ hr he)
 | .ret, n, K, Q, st, a, w, _, _, hg, hr, he => wpIn_ret (hg.ret _ _ _ hr he)
 | .rangeFunc _ _ _ _, _, _, _, _, _, _, hcm, _, _, _, _ => by cases hcm
 | .scope b, _, _, _, _, _, _, hcm, _, _, _, _ => by cases hcm
 | .label _, n, K, Q, st, a, w, _, _, hg, hr, he => wpIn_label (hg.normal _ _ _ hr he)
 | .goto _, _, _, _, _, _, _, hcm, _, _, _, _ => by cases hcm
 | .refuse _, _, _, _, _, _, _, hcm, _, _, _, _ => by cases hcm
theorem An8.turn (hd : g'.hd = g.hd) : ∀ {x : AV} {v : Value}, An8 g bs x v -> An8 g' bs x v
 | .ref b ver off, v, ⟨h1, hv, h2⟩ => ⟨h1, hv, fun T cells hb => by rw [hd]; exact h2 T cells hb⟩
 | .top, _, hh => hh.elim
 | .und, _, hh => hh.elim
 | .nilS, _, hh => hh.elim
 | .nilP, _, hh => hh.elim
 | .val _ _, _, hh => hh.elim
 | .osl _ _, _, hh => hh.elim
 | .imm _ _ _, _, hh => hh.elim
 | .oel _ _ _ _, _, hh => hh.elim
 | .osb _ _ _, _, hh => hh.elim
 | .fn _ _, _, hh => hh.elim
 | .agg _, _, hh => hh.elim
 | .tup _, _, hh => hh.elim
theorem Cr.turn (hd : g'.hd = g.hd) (hok : ∀ b, okB g w b -> okB g' w' b /\ w'.heap[b]? = w.heap[b]?) : ∀ {x : AV} {v : Value}, Cr ET g bs w x v -> Cr ET g' bs w' x v
 | .top, _, hh => trivial
 | .und, _, hh => hh
 | .nilS, _, hh => hh
 | .nilP, _, hh => hh
 | .val t x, v, hh => Rep.mono hok hh
 | .ref b ver off, v, ⟨h1, hv, h2⟩ => ⟨h1, hv, fun T cells hb => by rw [hd]; exact h2 T cells hb⟩
 | .osl b ver, v, ⟨h1, hv, h2⟩ => ⟨h1, hv, fun T t xs hb => by rw [hd]; exact h2 T t xs hb⟩
 | .imm t x off, v, ⟨b, o, cs, e, h1, h2, h3⟩ => ⟨b, o, cs, e, (hok b h1).1, Rep.mono hok h2, h3.mono (hok b h1).2⟩
 | .oel b ver i off, v, ⟨h1, hv, h2⟩ => ⟨h1, hv, fun T t xs hb => by rw [hd]; exact h2 T t xs hb⟩
 | .osb b ver i, v, ⟨h1, hv, h2⟩ => ⟨h1, hv, fun T t xs hb => by rw [hd]; exact h2 T t xs hb⟩
 | .fn f caps, v, ⟨cv, e, ha⟩ => ⟨cv, e, ha.mono fun _ _ => An8.turn hd⟩
 | .agg _, _, hh => hh.elim
 | .tup _, _, hh => hh.elim
theorem Jv.turn (hd : g'.hd = g.hd) (hok : ∀ b, okB g w b -> okB g' w' b /\ w'.heap[b]? = w.heap[b]?) : ∀ {x : AV} {v : Value}, Jv ET g bs w x v -> Jv ET g' bs w' x v
 | .agg l, _, ⟨vs, e, ha⟩ => ⟨vs, e, ha.mono fun _ _ => Cr.turn hd hok⟩
 | .tup l, _, hh => (show False from hh).elim
 | .top, _, _ => trivial
 | .und, _, hh => Cr.turn (ET := ET) (bs := bs) (x := .und) hd hok hh
 | .nilS, _, hh => Cr.turn (ET := ET) (bs := bs) (x := .nilS) hd hok hh
 | .nilP, _, hh => Cr.turn (ET := ET) (bs := bs) (x := .nilP) hd hok hh
 | .val t x, _, hh => Cr.turn (ET := ET) (bs := bs) (x := .val t x) hd hok hh
 | .ref b v o, _, hh => Cr.turn (ET := ET) (bs := bs) (x := .ref b v o) hd hok hh
 | .osl b v, _, hh => Cr.turn (ET := ET) (bs := bs) (x := .osl b v) hd hok hh
 | .imm t x o, _, hh => Cr.turn (ET := ET) (bs := bs) (x := .imm t x o) hd hok hh
 | .oel b v i o, _, hh => Cr.turn (ET := ET) (bs := bs) (x := .oel b v i o) hd hok hh
 | .osb b v i, _, hh => Cr.turn (ET := ET) (bs := bs) (x := .osb b v i) hd hok hh
 | .fn f c, _, hh => Cr.turn (ET := ET) (bs := bs) (x := .fn f c) hd hok hh
theorem Cb.turn (hd : g'.hd = g.hd) (hok : ∀ b, okB g w b -> okB g' w' b /\ w'.heap[b]? = w.heap[b]?) : ∀ {x : AV} {v : Value}, Cb ET g bs w x v -> Cb ET g' bs w' x v
 | .tup l, _, ⟨vs, e, ha⟩ => ⟨vs, e, ha.mono fun _ _ => Jv.turn hd hok⟩
 | .agg l, _, hh => Jv.turn (ET := ET) (bs := bs) (x := .agg l) hd hok hh
 | .top, _, _ => trivial
 | .und, _, hh => Jv.turn (ET := ET) (bs := bs) (x := .und) hd hok hh
 | .nilS, _, hh => Jv.turn (ET := ET) (bs := bs) (x := .nilS) hd hok hh
 | .nilP, _, hh => Jv.turn (ET := ET) (bs := bs) (x := .nilP) hd hok hh
 | .val t x, _, hh => Jv.turn (ET := ET) (bs := bs) (x := .val t x) hd hok hh
 | .ref b v o, _, hh => Jv.turn (ET := ET) (bs := bs) (x := .ref b v o) hd hok hh
 | .osl b v, _, hh => Jv.turn (ET := ET) (bs := bs) (x := .osl b v) hd hok hh
 | .imm t x o, _, hh => Jv.turn (ET := ET) (bs := bs) (x := .imm t x o) hd hok hh
 | .oel b v i o, _, hh => Jv.turn (ET := ET) (bs := bs) (x := .oel b v i o) hd hok hh
 | .osb b v i, _, hh => Jv.turn (ET := ET) (bs := bs) (x := .osb b v i) hd hok hh
 | .fn f c, _, hh => Jv.turn (ET := ET) (bs := bs) (x := .fn f c) hd hok hh
structure Bnp (g0 : Gh) (w0 : World) (g : Gh) (bs : Al) (ds : List Deferred) (w : World) (T : Nat -> Prop) : Prop where
 ro : ∀ r, T r -> okB g w r -> False
 box : ∀ r, T r -> ∀ b x, look bs b = some x -> g.O r = some b -> ∀ o : Obj, w.heap[r]? = some o -> o.isCells = false
 base : ∀ r, T r -> r < w0.heap.size -> g0.O r ≠ none /\ g0.O r ≠ some 0
 mark : ∀ r, T r -> ∀ d ∈ ds, d ≠ { target := .collected r, args := #[] }
theorem Bad {st : St} {a : Act} {bs0 : Al} (hr : Rel ET g0 bs0 w0 g st a w) {U : Nat -> Prop} (hg : P0 w w' U) (ht : Bnp g0 w0 g st.bs a.defers w U) : Rel ET g0 bs0 w0 g st a w' := by
 have hok : ∀ b, okB g w b -> okB g w' b /\ w'.heap[b]? = w.heap[b]? := by
  intro b hb
  have hne : ¬ U b := fun e => ht.ro b e hb
  have e := hg.block b hb.2.1 hne
  exact ⟨⟨hb.1, Nat.lt_of_lt_of_le hb.2.1 hg.size, by rw [e]; exact hb.2.2⟩, e⟩
 refine ⟨?_, hr.size, fun i => Cb.turn rfl hok (hr.slots i), fun b ver c hl => ?_, ?_, ?_, hr.ext.ver, hr.ext.var, hr.ext.row⟩
 ·exact ⟨fun b hb => (hok b (hr.glb.ours b hb)).1, hr.glb.tab.keep fun b hb => (hok b (hr.glb.ours b hb)).2⟩
 ·have hbr := hr.boxes b ver c hl
  cases c with
  | dead => trivial
  | var T cells =>
   obtain ⟨blk, arr, k1, k2, k3, k4⟩ := hbr
   have hne : ¬ U blk := fun e => by have := ht.box blk e b _ hl k2 _ k3; cases this
   exact ⟨blk, arr, k1, k2, (hg.block blk (Array.getElem?_eq_some_iff.1 k3).1 hne).trans k3, k4.mono fun _ _ => Cr.turn rfl hok⟩
  | row T t xs =>
   obtain ⟨cs, k1, k2, k3⟩ := hbr
   refine ⟨cs, J5 k1 fun blk hblk => ?_, k2.mono fun _ _ => Rep.mono hok, k3⟩
   have hlt := (Tv.lt k1 blk hblk).2
   refine hg.block blk hlt fun e => ?_
   have h1 := ht.box blk e b _ hl (k3 blk hblk) _ (Array.getElem?_eq_getElem hlt)
   have h2 := Tv.obj k1 hblk _ (Array.getElem?_eq_getElem hlt)
   rw [h1] at h2; cases h2
 ·have : ∀ {l : List Deferred}, (∀ r, U r -> ∀ d ∈ l, d ≠ { target := .collected r, args := #[] }) -> Azp w0 g w l -> Azp w0 g w' l := by
   intro l
   induction l with
   | nil => intro _ _; trivial
   | cons d l ih =>
    intro hm ⟨⟨D, e, h1, h2, h3, h4, h5⟩, h6⟩
    refine ⟨⟨D, e, h1, h2, Nat.lt_of_lt_of_le h3 hg.size, ?_, h5⟩, ih (fun r hr d hd => hm r hr d (List.mem_cons_of_mem _ hd)) h6⟩
    exact (hg.block D h3 (fun er => hm D er d (List.mem_cons_self ..) e)).trans h4
  exact this ht.mark hr.defers
 ·have f := hr.ext.fr
  refine ⟨hg.os.trans f.os, hg.tape.trans f.tape, hg.output.trans f.output, Nat.le_trans f.size hg.size, fun b hb hlt => ?_, fun b hb hlt => ?_⟩
  ·obtain ⟨h1, h2⟩ := f.ro b hb hlt
   exact ⟨h1, (hg.block b (Nat.lt_of_lt_of_le hlt f.size) (fun e => (ht.base b e hlt).1 hb)).trans h2⟩
  ·obtain ⟨h1, h2⟩ := f.fo b hb hlt
   exact ⟨h1, (hg.block b (Nat.lt_of_lt_of_le hlt f.size) (fun e => (ht.base b e hlt).2 hb)).trans h2⟩
theorem Atc {st : St} {a : Act} (hr : Rel ET g0 [] w0 g st a w) (hd : g'.hd = g.hd) (hok : ∀ b, okB g w b -> okB g' w b) (fr : Fr g w g' w)
  (hbox : ∀ b x blk, look st.bs b = some x -> x.2 ≠ .dead -> g.O blk = some b -> (∀ o : Obj, w.heap[blk]? = some o -> o.isCells = true) -> g'.O blk = some b) : Rel ET g0 [] w0 g' st a w := by
 have hok' : ∀ b, okB g w b -> okB g' w b /\ w.heap[b]? = w.heap[b]? := fun b h => ⟨hok b h, rfl⟩
 refine ⟨hr.glb.keep fr, hr.size, fun i => Cb.turn hd hok' (hr.slots i), fun b ver c hl => ?_, hr.defers.mono fr, hr.ext.fr.trans fr, fun b => Nat.zero_le _, fun b ver T cells hv => absurd hv (Nat.not_lt_zero _), fun b ver T t xs hv => absurd hv (Nat.not_lt_zero _)⟩
 have hbr := hr.boxes b ver c hl
 cases c with
 | dead => trivial
 | var T cells =>
  obtain ⟨blk, arr, k1, k2, k3, k4⟩ := hbr
  exact ⟨blk, arr, by rw [hd]; exact k1, hbox b _ blk hl (by simp) k2 (fun o ho => by rw [k3] at ho; cases ho; rfl), k3, k4.mono fun _ _ => Cr.turn hd hok'⟩
 | row T t xs =>
  obtain ⟨cs, k1, k2, k3⟩ := hbr
  exact ⟨cs, by rw [hd]; exact k1, k2.mono fun _ _ => Rep.mono hok', fun blk hblk => by
   rw [hd] at hblk
   exact hbox b _ blk hl (by simp) (k3 blk hblk) (Tv.obj k1 hblk)⟩
def Vm (g : Gh) (w : World) : Gh := ⟨fun b => match g.O b with
 | none => none
 | some k => match w.heap[b]? with
  | some o => if o.isCells = false then some 0 else some k
  | none => some k, g.hd⟩
theorem Aos {b : Nat} (h : g.O b = none) : (Vm g w).O b = none := by simp only [Vm, h]
theorem Ax6 {b : Nat} (h : g.O b = some 0) : (Vm g w).O b = some 0 := by
 simp only [Vm, h]
 split
 ·split <;> rfl
 ·rfl
theorem A77 {b : Nat} (h : ∀ o : Obj, w.heap[b]? = some o -> o.isCells = true) : (Vm g w).O b = g.O b := by
 simp only [Vm]
 split
 ·rename_i e; exact e.symm
 ·rename_i k e
  split
  ·rename_i o ho
   rw [if_neg (by rw [h o ho]; simp), e]
  ·exact e.symm
theorem Be6 {b : Nat} {o : Obj} (ho : w.heap[b]? = some o) (hc : o.isCells = false) : (Vm g w).O b = none \/ (Vm g w).O b = some 0 := by
 simp only [Vm]
 split
 ·exact .inl rfl
 ·rw [ho]
  exact .inr (if_pos hc)
theorem A8x : Fr g w (Vm g w) w := ⟨rfl, rfl, rfl, Nat.le_refl _, fun b h _ => ⟨Aos h, rfl⟩, fun b h _ => ⟨Ax6 h, rfl⟩⟩
theorem Bac {b : Nat} (h : okB g w b) : okB (Vm g w) w b := ⟨Aos h.1, h.2⟩
structure Bi2 (g0 : Gh) (w0 : World) (g : Gh) (bs : Al) (ds : List Deferred) (okS C O0 : Nat -> Prop) (n0 : Nat) (w : World) : Prop where
 os : ∀ b, okS b -> b < n0 /\ g.O b = none
 o0 : ∀ b, b < n0 -> O0 b -> g.O b = none \/ g.O b = some 0
 c : ∀ b, C b -> g.O b = some 0 /\ b < n0
 cb : ∀ b, C b -> b < w0.heap.size -> g0.O b ≠ none /\ g0.O b ≠ some 0
 cd : ∀ b, C b -> ∀ d ∈ ds, d ≠ { target := .collected b, args := #[] }
 dn : ∀ d ∈ ds, ∀ D, d = { target := .collected D, args := #[] } -> D < n0
 b0 : look bs 0 = none
 le0 : w0.heap.size <= n0
 le : n0 <= w.heap.size
variable {okS C O0 : Nat -> Prop} {n0 : Nat} {st : St} {a : Act}
theorem Big (hr : Rel ET g0 [] w0 g st a w) (hf : Bi2 g0 w0 g st.bs a.defers okS C O0 n0 w) {T : Nat -> Prop} (hg : P0 w w' T)
  (hrow : ∀ r, T r -> C r \/ (n0 <= r /\ ∃ o : Obj, w.heap[r]? = some o /\ o.isCells = false)) :
  Rel ET g0 [] w0 g st a w' /\ Bi2 g0 w0 g st.bs a.defers okS C O0 n0 w' /\ ∀ b, okB g w b -> okB g w' b /\ w'.heap[b]? = w.heap[b]? := by
 have ht : ∀ r, T r -> okB g w r -> False := fun r e hok => by
  rcases hrow r e with h | ⟨_, o, ho, hc⟩
  ·have := (hf.c r h).1; rw [hok.1] at this; cases this
  ·have := hok.2.2 o ho; rw [hc] at this; cases this
 refine ⟨Bad hr hg ⟨ht, fun r e b x hl ho o hh => ?_, fun r e hlt => ?_, fun r e d hd ed => ?_⟩, ⟨hf.os, hf.o0, hf.c, hf.cb, hf.cd, hf.dn, hf.b0, hf.le0, Nat.le_trans hf.le hg.size⟩, fun b hb => ?_⟩
 ·rcases hrow r e with h | ⟨_, o', ho', hc⟩
  ·have h1 := (hf.c r h).1
   rw [ho] at h1
   simp only [Option.some.injEq] at h1
   subst h1
   rw [hf.b0] at hl; cases hl
  ·rw [hh] at ho'; cases ho'; exact hc
 ·rcases hrow r e with h | ⟨hn, _⟩
  ·exact hf.cb r h hlt
  ·have := hf.le0; omega
 ·rcases hrow r e with h | ⟨hn, _⟩
  ·exact hf.cd r h d hd ed
  ·have := hf.dn d hd r ed; omega
 ·have e := hg.block b hb.2.1 (fun e => ht b e hb)
  exact ⟨⟨hb.1, Nat.lt_of_lt_of_le hb.2.1 hg.size, by rw [e]; exact hb.2.2⟩, e⟩
theorem A99 (h : OS C n0 w w') (hr : Rel ET g0 [] w0 g st a w) (hf : Bi2 g0 w0 g st.bs a.defers okS C O0 n0 w) :
  Rel ET g0 [] w0 g st a w' /\ Bi2 g0 w0 g st.bs a.defers okS C O0 n0 w' /\ ∀ b, okB g w b -> okB g w' b /\ w'.heap[b]? = w.heap[b]? := by
 induction h with
 | refl => exact ⟨hr, hf, fun b hb => ⟨hb, rfl⟩⟩
 | step T _ hg hrow ih =>
  obtain ⟨h1, h2, h3⟩ := Big ih.1 ih.2.1 hg hrow
  exact ⟨h1, h2, fun b hb => ⟨(h3 b (ih.2.2 b hb).1).1, (h3 b (ih.2.2 b hb).1).2.trans (ih.2.2 b hb).2⟩⟩
theorem A0m (hr : Rel ET g0 [] w0 g st a w) (hf : Bi2 g0 w0 g st.bs a.defers okS C O0 n0 w) {D : Nat} (hD : n0 <= D) (hh : w.heap[D]? = some (.deferred (some []))) :
  ∃ g', Rel ET g0 [] w0 g' st (Bey a D) w := by
 have hlt : D < w.heap.size := (Array.getElem?_eq_some_iff.1 hh).1
 let g1 : Gh := ⟨fun b => if b = D then (match g.O D with | none => none | some _ => some 0) else g.O b, g.hd⟩
 have ne : ∀ b, b ≠ D -> g1.O b = g.O b := fun b h => if_neg h
 have hz : g1.O D = none \/ g1.O D = some 0 := by
  show (if D = D then _ else _) = _ \/ (if D = D then _ else _) = _
  rw [if_pos rfl]
  split
  ·exact .inl rfl
  ·exact .inr rfl
 have fr : Fr g w g1 w := by
  refine ⟨rfl, rfl, rfl, Nat.le_refl _, fun b h _ => ⟨?_, rfl⟩, fun b h _ => ⟨?_, rfl⟩⟩
  ·by_cases e : b = D
   ·subst e
    show (if b = b then _ else _) = _
    rw [if_pos rfl, h]
   ·rw [ne b e]; exact h
  ·by_cases e : b = D
   ·subst e
    show (if b = b then _ else _) = _
    rw [if_pos rfl, h]
   ·rw [ne b e]; exact h
 have h1 : Rel ET g0 [] w0 g1 st a w := by
  refine Atc hr rfl (fun b hb => ?_) fr (fun b x blk hl hx ho hc => ?_)
  ·have : b ≠ D := fun e => by
    subst e
    have := hb.2.2 _ hh
    cases this
   exact ⟨by rw [ne b this]; exact hb.1, hb.2⟩
  ·have : blk ≠ D := fun e => by
    subst e
    have := hc _ hh
    cases this
   rw [ne blk this]; exact ho
 exact ⟨g1, h1.glb, h1.size, h1.slots, h1.boxes, ⟨⟨D, rfl, hz, Nat.le_trans hf.le0 hD, hlt, hh, fun d hd e => by have := hf.dn d hd D e; omega⟩, h1.defers⟩, h1.ext⟩
theorem Atm (wr : List Nat) : ∀ (l : List AV) (k i : Nat), He (Bhe wr k l) i = .top \/ (O9 wr (k + i) = false /\ He (Bhe wr k l) i = He l i)
 | [], _, _ => .inl rfl
 | x :: l, k, 0 => by
  show cond (O9 wr k) .top x = .top \/ (O9 wr k = false /\ cond (O9 wr k) .top x = x)
  cases h : O9 wr k with
  | true => exact .inl rfl
  | false => exact .inr ⟨rfl, rfl⟩
 | x :: l, k, i + 1 => by
  rcases Atm wr l (k + 1) i with h | ⟨h1, h2⟩
  ·exact .inl h
  ·exact .inr ⟨by rw [show k + (i + 1) = k + 1 + i by omega]; exact h1, h2⟩
theorem Alc (wr : List Nat) : ∀ (l : List AV) (k : Nat), (Bhe wr k l).length = l.length
 | [], _ => rfl
 | x :: l, k => by simp [Bhe, Alc wr l (k + 1)]
theorem Asz : ∀ (n : Nat) (l : List AV) (i : Nat), He (S7 n l) i = .top \/ (i < n /\ He (S7 n l) i = He l i)
 | 0, _, _ => .inl rfl
 | n + 1, [], _ => .inl rfl
 | n + 1, x :: l, 0 => .inr ⟨Nat.succ_pos _, rfl⟩
 | n + 1, x :: l, i + 1 => by
  rcases Asz n l i with h | ⟨h1, h2⟩
  ·exact .inl h
  ·exact .inr ⟨Nat.succ_lt_succ h1, h2⟩
theorem A4v (n : Nat) (l : List AV) : (S7 n l).length <= n := by rw [Uc, List.length_take]; omega
theorem A0l (n : Nat) (l : List AV) : (S7 n l).length <= l.length := by rw [Uc, List.length_take]; omega
theorem Al0 (wr : List Nat) : ∀ (n k i : Nat), i ∈ Arg wr k n ↔ k <= i /\ i < k + n /\ O9 wr i = false
 | 0, k, i => by
  simp only [Arg, List.not_mem_nil, false_iff]
  rintro ⟨h1, h2, _⟩; omega
 | n + 1, k, i => by
  simp only [Arg]
  have ih := Al0 wr n (k + 1) i
  cases h : O9 wr k with
  | true =>
   simp only [cond_true]
   rw [ih]
   constructor
   ·rintro ⟨h1, h2, h3⟩; exact ⟨by omega, by omega, h3⟩
   ·rintro ⟨h1, h2, h3⟩
    have : i ≠ k := fun e => by subst e; rw [h] at h3; cases h3
    exact ⟨by omega, by omega, h3⟩
  | false =>
   simp only [cond_false, List.mem_cons]
   rw [ih]
   constructor
   ·rintro (rfl | ⟨h1, h2, h3⟩)
    ·exact ⟨Nat.le_refl _, by omega, h⟩
    ·exact ⟨by omega, by omega, h3⟩
   ·rintro ⟨h1, h2, h3⟩
    by_cases e : i = k
    ·exact .inl e
    ·exact .inr ⟨by omega, by omega, h3⟩
theorem Bff (wr : List Nat) (m : Nat) (hr : Rel ET g0 [] w0 g st a w) : Rel ET g0 [] w0 g (Bb6 wr m st) a w := by
 refine ⟨hr.glb, ?_, fun i => ?_, hr.boxes, hr.defers, hr.ext⟩
 ·show (Bhe wr 0 (S7 m st.slots)).length <= _
  rw [Alc]
  exact Nat.le_trans (A0l m st.slots) hr.size
 ·show Cb ET g st.bs w (He (Bhe wr 0 (S7 m st.slots)) i) _
  rcases Atm wr (S7 m st.slots) 0 i with h | ⟨_, h⟩
  ·rw [h]; trivial
  ·rw [h]
   rcases Asz m st.slots i with h | ⟨_, h⟩
   ·rw [h]; trivial
   ·rw [h]; exact hr.slots i
theorem A13 (hr : Rel ET g0 [] w0 g st a w) (hf : Bi2 g0 w0 g st.bs a.defers okS C O0 n0 w) {wr : List Nat} {s : St} {a2 : Act} {w2 : World}
  (h2 : Aqt ET (Vm g w) [] w (Arg wr 0 (V1 st.slots)) a.tmps.toList s a2 w2) (h0 : look s.bs 0 = none) :
  ∃ g2, Rel ET g0 [] w0 g2 (Bb6 wr (V1 st.slots) s) a w2 /\ Bi2 g0 w0 g2 s.bs a.defers okS C O0 n0 w2 /\ Fr (Vm g w) w g2 w2 := by
 obtain ⟨⟨g2, hr2⟩, hk⟩ := h2
 have f2 := hr2.ext.fr
 have f : Fr g w g2 w2 := A8x.trans f2
 refine ⟨g2, ⟨hr2.glb, ?_, fun i => ?_, hr2.boxes, hr.defers.mono f, hr.ext.fr.trans f, fun b => Nat.zero_le _, fun b ver T cells hv => absurd hv (Nat.not_lt_zero _), fun b ver T t xs hv => absurd hv (Nat.not_lt_zero _)⟩,
  ⟨fun b hb => ⟨(hf.os b hb).1, (f.ro b (hf.os b hb).2 (Nat.lt_of_lt_of_le (hf.os b hb).1 hf.le)).1⟩, fun b hb ho => ?_, fun b hb => ⟨?_, (hf.c b hb).2⟩, hf.cb, hf.cd, hf.dn, h0, hf.le0, Nat.le_trans hf.le f.size⟩, f2⟩
 ·show (Bhe wr 0 (S7 (V1 st.slots) s.slots)).length <= _
  rw [Alc]
  exact Nat.le_trans (A4v _ _) (by rw [Ny]; exact hr.size)
 ·show Cb ET g2 s.bs w2 (He (Bhe wr 0 (S7 (V1 st.slots) s.slots)) i) _
  rcases Atm wr (S7 (V1 st.slots) s.slots) 0 i with h | ⟨h1, h⟩
  ·rw [h]; trivial
  ·rw [h]
   rcases Asz (V1 st.slots) s.slots i with h | ⟨hlt, h⟩
   ·rw [h]; trivial
   ·rw [h]
    rw [Nat.zero_add] at h1
    have := hk i ((Al0 wr _ 0 i).2 ⟨Nat.zero_le _, by rw [Nat.zero_add]; exact hlt, h1⟩)
    have e : a.tmps.toList.getD i undef = a.tmps.getD i undef := by
     rw [List.getD_eq_getElem?_getD, Array.getD_eq_getD_getElem?, Array.getElem?_toList]
    rw [e] at this
    rw [<- this]; exact hr2.slots i
 ·have hlt : b < w.heap.size := Nat.lt_of_lt_of_le hb hf.le
  rcases hf.o0 b hb ho with h | h
  ·exact .inl (f.ro b h hlt).1
  ·exact .inr (f.fo b h hlt).1
 ·exact (f.fo b (hf.c b hb).1 (Nat.lt_of_lt_of_le (hf.c b hb).2 hf.le)).1
end
section
variable {P : Program} {E : Env} {R : Type} {out : R} {ET : TypeId} {g0 g g' : Gh} {w0 w w' : World} {bs : Al} {okS C O0 : Nat -> Prop} {n0 : Nat} {st : St} {a : Act} {α : Type} {V : World -> α -> Value -> Prop}
theorem Blo {ps : List Tmp} {asn b : Code} {Q : Qn} : ∀ {lv : Nat} {l : List α} {w w' : World}, RF P ps asn b V C O0 n0 Q a lv l w -> OS C n0 w w' -> RF P ps asn b V C O0 n0 Q a lv l w'
 | 0, _, _, _, h, _ => h.elim
 | lv + 1, _, _, _, h, ho => fun w2 h2 => h w2 (ho.trans h2)
theorem Ayk {W : World} {l : Nat} {o : Obj} (o' : Obj) (hl : W.heap[l]? = some o) (ho : o.isCells = false) (hn : n0 <= l) : OS C n0 W (W.putObj l o') :=
 .step _ .refl (P0.of (grownBy_putObj' W l o')) (fun r e => by cases e; exact .inr ⟨hn, o, hl, ho⟩)
theorem A9s (W : World) (o : Obj) : OS C n0 W (W.alloc o) := .step _ .refl (P0.of (World.grownBy_alloc W o none)) (fun r e => by cases e)
theorem Bnl {asn : Code} {q p : Tmp} (h : A54 asn = some (q, p)) {l n : Nat} {K : Act -> World -> Prop} {a : Act} {w : World} (hK : K { a with tmps := a.tmps.setIfInBounds q (a.tmps.getD p undef) } w) :
  asn.wpIn (Fence.wide.inRound l) n P (Exit.then K (fun _ _ _ => False)) a w := by
 unfold A54 at h
 split at h
 ·rename_i id ops
  split at h
  ·rename_i o ho
   have key : ∀ {x : Operand}, x = .tmp p -> (execOp a.eval o).run P w = .ok (.value (a.eval x)) w -> o.guard = none -> o.dst = some q -> (∀ c, o.op ≠ .defer c) ->
     (Code.region id ops false).wpIn (Fence.wide.inRound l) n P (Exit.then K (fun _ _ _ => False)) a w := by
    intro x ex hx hgd hds hnd
    refine wpIn_region_list ?_
    rw [ho]
    unfold wpListIn
    have hw : Region.wanted o (yielded ops a.tmps) = true := by unfold Region.wanted; rw [hgd]
    rw [if_pos hw]
    refine Bll hnd ?_
    unfold Oper.wp
    rw [hx, Oper.upon_value, hds, ex]
    exact hK
   split at h
   ·rename_i q' p' h1 h2 h3
    simp only [Option.some.injEq, Prod.mk.injEq] at h
    obtain ⟨rfl, rfl⟩ := h
    exact key rfl (by simp [execOp, h2]) h3 h1 (fun c e => by rw [h2] at e; cases e)
   ·rename_i q' p' h1 h2 h3
    simp only [Option.some.injEq, Prod.mk.injEq] at h
    obtain ⟨rfl, rfl⟩ := h
    exact key rfl (by simp [execOp, h2]) h3 h1 (fun c e => by rw [h2] at e; cases e)
   ·cases h
  ·cases h
 ·cases h
theorem Ata {f : Operand} {ps : Array Tmp} {asn b : Code} {Q : Qn} {a : Act} {w : World} {gf : Nat} {lb : Array Value} {us : List α} {lv : Nat} (hV : ∀ W W' x u, OS C w.heap.size W W' -> V W x u -> V W' x u) (hg : a.eval f = .func (.func gf) #[] lb)
  (eg : ∀ args w, (callFunc gf args).run P w = .ok (.enter gf args) w) (hgo : Bn8 P gf lb us V C O0 w) (hC : ∀ r, C r -> r < w.heap.size) (hRF : RF P ps.toList asn b V C O0 w.heap.size Q a lv us w) : (Code.rangeFunc f ps asn b).wp P Q a w := by
 refine (wpIn_wide (n := 2)).1 (wpIn_rangeFunc ?_)
 intro fn hfn
 rw [Fence.wide_round]
 obtain ⟨rec, hrec⟩ : ∃ rec : LoopState -> Option Code -> Loop, rec = fun st pe => { state := st, pending := pe, fn, tmps := a.tmps, params := ps, assign := asn, body := b, defers := w.heap.size } := ⟨_, rfl⟩
 obtain ⟨W1, hW1⟩ : ∃ W1, (w.alloc (.deferred (some []))).alloc (.loop (rec .ready none)) = W1 := ⟨_, rfl⟩
 have hL1 : W1.heap[w.heap.size + 1]? = some (.loop (rec .ready none)) := by
  rw [<- hW1]; have := World.alloc_heap_new (w.alloc (.deferred (some []))) (.loop (rec .ready none)); rwa [World.size_alloc] at this
 have hK1 : W1.heap[w.heap.size]? = some (.deferred (some [])) := by
  rw [<- hW1]; exact (Below.heap_alloc _ _ _ (by simp)).trans (World.alloc_heap_new w _)
 have hos1 : OS C w.heap.size w W1 := by rw [<- hW1]; exact (A9s w _).trans (A9s _ _)
 have hold : ∀ k < w.heap.size, W1.heap[k]? = w.heap[k]? := by
  intro k hk
  rw [<- hW1]; exact (Below.heap_alloc _ _ _ (by simp; omega)).trans (Below.heap_alloc _ _ _ hk)
 have hsz : w.heap.size <= W1.heap.size := by have := (Array.getElem?_eq_some_iff.1 hK1).1; omega
 refine ⟨w.heap.size + 1, [{ target := .collected w.heap.size, args := #[] }], W1, { target := .fn (.func gf) lb, args := #[.func (.yield (w.heap.size + 1)) #[] #[]] }, W1, gf,
  #[.func (.yield (w.heap.size + 1)) #[] #[]] ++ lb, W1, ?_, ?_, ?_, ?_, fun h => by simp [Fence.wide] at h, ?_⟩
 ·rw [<- hW1, hrec]; exact run_enterLoop_outer _ _ _ _ _
 ·simp only [resolve, hg]
  simp [go_sem]
 ·intro f' hf'; trivial
 ·simp [invoke, go_sem, eg]
 ·have hlt1 : w.heap.size + 1 < W1.heap.size := (Array.getElem?_eq_some_iff.1 hL1).1
  have rows : ∀ {A B : World} {T : Nat -> Prop} {k : Nat} {o : Obj}, P0 A B T -> (∀ r, T r -> C r \/ (W1.heap.size <= r /\ ∃ o : Obj, A.heap[r]? = some o /\ o.isCells = false)) -> w.heap.size <= k -> k < W1.heap.size -> A.heap[k]? = some o -> B.heap[k]? = some o := by
   intro A B T k o hg hr hk hk2 ho
   refine (hg.block k (Array.getElem?_eq_some_iff.1 ho).1 (fun e => ?_)).trans ho
   rcases hr k e with h | ⟨h, _⟩
   ·have := hC k h; omega
   ·omega
  have steps : ∀ {A B : World} {T : Nat -> Prop}, P0 A B T -> (∀ r, T r -> C r \/ (W1.heap.size <= r /\ ∃ o : Obj, A.heap[r]? = some o /\ o.isCells = false)) -> OS C w.heap.size A B := fun hg hr => .step _ .refl hg (fun r e => by
   rcases hr r e with h | ⟨h, ho⟩
   ·exact .inl h
   ·exact .inr ⟨by omega, ho⟩)
  refine (hgo (w.heap.size + 1) 1
   (fun rest W => (∃ lv, RF P ps.toList asn b V C O0 w.heap.size Q a lv rest W) /\ W.heap[w.heap.size + 1]? = some (.loop (rec .ready none)) /\ W.heap[w.heap.size]? = some (.deferred (some [])))
   (fun W => ∃ c, (∀ w'', OS C w.heap.size W w'' -> ∀ D, w.heap.size <= D -> w''.heap[D]? = some (.deferred (some [])) -> c.wpIn Fence.wide 2 P Q (Bey a D) w'') /\ W.heap[w.heap.size + 1]? = some (.loop (rec .done (some c))) /\ W.heap[w.heap.size]? = some (.deferred (some [])))
   W1 hsz hold
   (fun s A B T ⟨⟨lv, h1⟩, h2, h3⟩ hg hr => ⟨⟨lv, Blo h1 (steps hg hr)⟩, rows hg hr (by omega) hlt1 h2, rows hg hr (Nat.le_refl _) (by omega) h3⟩)
   (fun A B T ⟨c, h1, h2, h3⟩ hg hr => ⟨c, fun w2 h => h1 w2 ((steps hg hr).trans h), rows hg hr (by omega) hlt1 h2, rows hg hr (Nat.le_refl _) (by omega) h3⟩)
   ?_ ⟨⟨lv, Blo hRF hos1⟩, hL1, hK1⟩).mono ?_
  ·-- one round
   rintro x rest u W ⟨⟨lv, hi⟩, hl, hk⟩ hu
   cases lv with
   | zero => exact hi.elim
   | succ lv =>
   have hlt : w.heap.size + 1 < W.heap.size := (Array.getElem?_eq_some_iff.1 hl).1
   have hos2 : OS C w.heap.size W (W.putObj (w.heap.size + 1) (.loop { rec .ready none with state := .busy })) := Ayk _ hl rfl (by omega)
   obtain ⟨⟨⟨p, hps⟩, q, p', hasg, hps'⟩, hbody⟩ := hi _ hos2
   have epp : p' = p := by rw [hps] at hps'; simpa using hps'.symm
   subst epp
   have hpsA : ps = #[p'] := by rw [<- Array.toArray_toList (xs := ps), hps]
   have hy := run_yield (P := P) (args := #[u]) hl (by rw [hrec]; show 1 = ps.size; rw [hpsA]; rfl)
   rw [hrec] at hy
   refine ⟨fn, _, asn, b, hy, roundIn_of_wpIn hfn (Bnl hasg ⟨_, run_beginRound hl (by rw [hrec]), ?_⟩)⟩
   have hl2 : (W.putObj (w.heap.size + 1) (.loop { rec .ready none with state := .busy })).heap[w.heap.size + 1]? = some (.loop { rec .ready none with state := .busy }) := World.putObj_heap_same hlt
   have hk2 : (W.putObj (w.heap.size + 1) (.loop { rec .ready none with state := .busy })).heap[w.heap.size]? = some (.deferred (some [])) := (World.putObj_heap_other (by omega)).trans hk
   have hw2 : Bc3 O0 w.heap.size W (W.putObj (w.heap.size + 1) (.loop { rec .ready none with state := .busy })) := fun k hk _ => World.putObj_heap_other (by omega)
   have hact : Ba7 ps.toList asn a u = { tmps := ((ps.zip #[u]).foldl (fun tmps (x : Tmp × Value) => tmps.setIfInBounds x.1 x.2) a.tmps).setIfInBounds q (((ps.zip #[u]).foldl (fun tmps (x : Tmp × Value) => tmps.setIfInBounds x.1 x.2) a.tmps).getD p' undef), defers := [] } := by
    rw [hps, hpsA]
    simp only [Ba7, hasg]
    simp
   have hb2 := hbody u (hV _ _ _ _ hos2 hu) (w.heap.size + 1) 1
   rw [hact] at hb2
   refine wpIn_mono hb2 ?_
   have fin : ∀ (jump : Option Code) (W3 : World), KeepsFrom w.heap.size (W.putObj (w.heap.size + 1) (.loop { rec .ready none with state := .busy })) W3 ->
     (Instr.endRound (w.heap.size + 1) jump).run P W3 = .ok (.bool jump.isNone) (W3.putObj (w.heap.size + 1) (.loop (rec (if jump.isNone then .ready else .done) jump))) /\
     W3.heap[w.heap.size + 1]? = some (.loop { rec .ready none with state := .busy }) /\
     (W3.putObj (w.heap.size + 1) (.loop (rec (if jump.isNone then .ready else .done) jump))).heap[w.heap.size + 1]? = some (.loop (rec (if jump.isNone then .ready else .done) jump)) /\
     (W3.putObj (w.heap.size + 1) (.loop (rec (if jump.isNone then .ready else .done) jump))).heap[w.heap.size]? = some (.deferred (some [])) := fun jump W3 hk3 => by
    have hl3 := hk3.same _ _ (by omega) hl2 rfl
    have := run_endRound (P := P) jump hl3
    rw [hrec] at this ⊢
    exact ⟨this, by rw [hrec] at hl3; exact hl3, World.putObj_heap_same (Array.getElem?_eq_some_iff.1 hl3).1, (World.putObj_heap_other (by omega)).trans (hk3.same _ _ (Nat.le_refl _) hk2 rfl)⟩
   rintro e a3 W3 hp
   cases e with
   | normal =>
    obtain ⟨hk3, hkp3, hi3⟩ := hp
    obtain ⟨hr, hl3, hl4, hk4⟩ := fin none W3 hk3
    refine ⟨_, _, hr, .inl ⟨rfl, ⟨⟨lv, Blo hi3 (Ayk _ hl3 rfl (by omega))⟩, hl4, hk4⟩, fun k hk ho => ?_⟩⟩
    exact (World.putObj_heap_other (by omega)).trans ((hkp3 k hk ho).trans (hw2 k hk ho))
   | ret =>
    obtain ⟨hk3, hkp3, hi3⟩ := hp
    obtain ⟨hr, hl3, hl4, hk4⟩ := fin (some .ret) W3 hk3
    exact ⟨_, _, hr, .inr ⟨rfl, ⟨.ret, fun w2 h D hD hd => wpIn_ret (hi3 w2 ((Ayk _ hl3 rfl (by omega)).trans h) D hD hd), hl4, hk4⟩, fun k hk ho => (World.putObj_heap_other (by omega)).trans ((hkp3 k hk ho).trans (hw2 k hk ho))⟩⟩
   | exit id =>
    obtain ⟨hk3, hkp3, hi3⟩ := hp
    obtain ⟨hr, hl3, hl4, hk4⟩ := fin (some (.exit id)) W3 hk3
    exact ⟨_, _, hr, .inr ⟨rfl, ⟨.exit id, fun w2 h D hD hd => wpIn_exit (hi3 w2 ((Ayk _ hl3 rfl (by omega)).trans h) D hD hd), hl4, hk4⟩, fun k hk ho => (World.putObj_heap_other (by omega)).trans ((hkp3 k hk ho).trans (hw2 k hk ho))⟩⟩
   | goto t => exact hp.elim
   | panic ch => exact hp.elim
   | outgrown => exact hp.elim
  ·-- behind the function
   rintro e W2 ⟨⟨v, rfl⟩, (⟨⟨lv, hi⟩, hl, hk⟩ | ⟨c, hi, hl, hk⟩)⟩
   ·cases lv with
    | zero => exact hi.elim
    | succ lv =>
     refine ⟨none, _, by have := run_endLoop (P := P) hl (by rw [hrec]; simp); rw [hrec] at this; exact this, ?_⟩
     exact hi _ (Ayk _ hl rfl (by omega)) w.heap.size (Nat.le_refl _) ((World.putObj_heap_other (by omega)).trans hk)
   ·refine ⟨some c, _, by have := run_endLoop (P := P) hl (by rw [hrec]; simp); rw [hrec] at this; exact this, ?_⟩
    exact hi _ (Ayk _ hl rfl (by omega)) w.heap.size (Nat.le_refl _) ((World.putObj_heap_other (by omega)).trans hk)
def Bqc (ET : TypeId) (g0 : Gh) (w0 : World) (kp : List Nat) (kv : List Value) : Bf0 := fun t l V C O0 n0 st a w =>
 ∃ g okS, Rel ET g0 [] w0 g st a w /\ V = VU ET t okS /\ (∀ i ∈ kp, a.tmps.getD i undef = kv.getD i undef) /\ Bi2 g0 w0 g st.bs a.defers okS C O0 n0 w
theorem Ahu {bs : Al} : A9p bs = true ↔ look bs 0 = none := by
 unfold A9p
 constructor
 ·intro h
  split at h
  ·assumption
  ·cases h
 ·intro h; rw [h]
theorem Asq {wr : List Nat} {m : Nat} : ∀ {l : List (Nat × (St -> Option R))} {i : Nat} {s : St}, M5 (A3p wr m l) i s = some out -> look s.bs 0 = none /\ M5 l i (Bb6 wr m s) = some out
 | [], i, s, h => by simp [A3p, M5] at h
 | (j, k) :: l, i, s, h => by
  simp only [A3p, M5] at h ⊢
  cases hb : Nat.beq j i with
  | true =>
   rw [hb] at h
   simp only [cond_true, Biw] at h
   obtain ⟨h1, h2⟩ := Af h
   exact ⟨Ahu.1 h1, h2⟩
  | false =>
   rw [hb] at h
   exact Asq h
theorem Atk {a : Array Value} {p : Nat} {u : Value} (h : p < a.size) : (a.setIfInBounds p u).getD p undef = u := by
 simp [Array.getD, h]
theorem Zb {a : Array Value} {p i : Nat} {u : Value} (h : p ≠ i) : (a.setIfInBounds p u).getD i undef = a.getD i undef := by
 simp only [Array.getD_eq_getD_getElem?]
 rw [Array.getElem?_setIfInBounds_ne h]
theorem Ayt {E : Env} {l : List Nat} (hE : Db P E) : Db P { E with keep := l } := ⟨hE.rows, hE.calls, hE.mixed, hE.seqs⟩
theorem Bho {q p : Tmp} {asn : Code} (h : A54 asn = some (q, p)) : q ∈ Avh asn := by
 unfold A54 at h
 split at h
 ·rename_i id ops
  split at h
  ·rename_i o ho
   simp only [Avh, ho, Aoz]
   split at h
   ·rename_i q' p' h1 h2 h3
    simp only [Option.some.injEq, Prod.mk.injEq] at h
    rw [h1, h.1]; simp
   ·rename_i q' p' h1 h2 h3
    simp only [Option.some.injEq, Prod.mk.injEq] at h
    rw [h1, h.1]; simp
   ·cases h
  ·cases h
 ·cases h
theorem Aao : ∀ {l : List Nat} {n : Nat}, O9 l n = true ↔ n ∈ l
 | [], n => by simp [O9]
 | a :: l, n => by
  simp only [O9, Bool.or_eq_true, List.mem_cons, Aao (l := l)]
  constructor
  ·rintro (h | h)
   ·exact .inl (Nat.eq_of_beq_eq_true h).symm
   ·exact .inr h
  ·rintro (rfl | h)
   ·exact .inl (Nat.beq_refl _)
   ·exact .inr h
theorem Bnv (hE : Db P E) (g0 : Gh) (w0 : World) (kv : List Value) : A98 (R := R) P E (Aqt E.ET g0 [] w0 E.keep kv) (Bqc E.ET g0 w0 E.keep kv) out := by
 intro T lv n ps asn b K Q t l V C O0 n0 st a w hT hg he hrr
 obtain ⟨g, okS, hr, rfl, hk, hf⟩ := hrr
 unfold A7s at he
 cases l with
 | nil =>
   simp only [List.isEmpty_nil, cond_true] at he
   intro w' hos D hD hh
   obtain ⟨hr', hf', _⟩ := A99 hos hr hf
   obtain ⟨g', hm⟩ := A0m (Bff (Bhc ps asn b) (V1 st.slots) hr') hf' hD hh
   exact hg.normal _ _ _ ⟨⟨g', hm⟩, hk⟩ he
 | cons x l =>
   simp only [List.isEmpty_cons, cond_false] at he
   split at he
   ·rename_i p q p' hasg
    obtain ⟨hc, he2⟩ := Af he
    simp only [Bool.and_eq_true] at hc
    obtain ⟨hpp, hcalm, hplt⟩ := hc
    have hpp := Nat.eq_of_beq_eq_true hpp
    subst hpp
    have hplt : p < st.slots.length := by rw [<- Ny]; exact Nat.le_of_ble_eq_true hplt
    intro w' hos
    obtain ⟨hr', hf', hok⟩ := A99 hos hr hf
    refine ⟨⟨⟨p, rfl⟩, q, p, hasg, rfl⟩, fun u hvu lp m => ?_⟩
    have hu : Rep E.ET (okB g w') w' t x [u] := Rep.mono (fun b hb => ⟨⟨(hf'.os b hb.1).2, hb.2⟩, rfl⟩) hvu
    have hpr : okB g w' = okB g w' := rfl
    have hbase0 : Rel E.ET g0 [] w0 (Vm g w') st a w' := Atc hr' rfl (fun _ => Bac) A8x (fun b x blk _ _ ho hc => by rw [A77 hc]; exact ho)
    have hbase : Rel E.ET (Vm g w') [] w' (Vm g w') ⟨st.slots, st.bs⟩ { a with defers := [] } w' :=
     ⟨hbase0.glb, hbase0.size, hbase0.slots, hbase0.boxes, trivial, Fr.refl _ _, fun b => Nat.zero_le _, fun b ver T cells hv => absurd hv (Nat.not_lt_zero _), fun b ver T t xs hv => absurd hv (Nat.not_lt_zero _)⟩
    have hu' : Cb E.ET (Vm g w') st.bs w' (.val t x) u := Rep.mono (fun b hb => ⟨Bac hb, rfl⟩) hu
    have hput := (hbase.put hu' (some p)).put hu' (some q)
    have hpt : p < a.tmps.size := Nat.lt_of_lt_of_le hplt hr'.size
    have hstart : Aqt E.ET (Vm g w') [] w' (Arg (Bhc [p] asn b) 0 (V1 st.slots)) a.tmps.toList ⟨Aap (Aap st.slots p (.val t x)) q (.val t x), st.bs⟩ (Ba7 [p] asn a u) w' := by
     have e : Ba7 [p] asn a u = ((({ a with defers := [] } : Act).put (some p) u).put (some q) u) := by
      simp only [Ba7, hasg, Atk hpt]
      rfl
     rw [e]
     refine ⟨⟨_, hput⟩, fun i hi => ?_⟩
     obtain ⟨_, _, h3⟩ := (Al0 _ _ _ _).1 hi
     have hn : i ∉ Bhc [p] asn b := fun hm => by rw [Aao.2 hm] at h3; cases h3
     have n1 : p ≠ i := fun e => hn (Cg.2 (.inl (by rw [e]; exact List.mem_singleton.2 rfl)))
     have n2 : q ≠ i := fun e => hn (Cg.2 (.inr (Cg.2 (.inl (by rw [<- e]; exact Bho hasg)))))
     show ((a.tmps.setIfInBounds p u).setIfInBounds q u).getD i undef = _
     rw [Zb n2, Zb n1, List.getD_eq_getElem?_getD, Array.getD_eq_getD_getElem?, Array.getElem?_toList]
    have hE' : Db P { E with keep := Arg (Bhc [p] asn b) 0 (V1 st.slots) } := Ayt hE
    have ex : gd t (x :: l) 0 = x := rfl
    rw [ex] at he2
    have keeps : ∀ {g2 : Gh} {w2 : World}, Fr (Vm g w') w' g2 w2 -> KeepsFrom n0 w' w2 := fun {g2 w2} f =>
     ⟨f.size, fun k o hk ho hc => by
      have hlt := (Array.getElem?_eq_some_iff.1 ho).1
      rcases Be6 (g := g) ho hc with h | h
      ·exact ((f.ro k h hlt).2).trans ho
      ·exact ((f.fo k h hlt).2).trans ho⟩
    have kp : ∀ {g2 : Gh} {w2 : World}, Fr (Vm g w') w' g2 w2 -> Bc3 O0 n0 w' w2 := fun {g2 w2} f k hk ho => by
     have hlt := Nat.lt_of_lt_of_le hk hf'.le
     rcases hf'.o0 k hk ho with h | h
     ·exact (f.ro k (Aos h) hlt).2
     ·exact (f.fo k (Ax6 h) hlt).2
    refine Sb (Bm2 hE' (Vm g w') [] w' a.tmps.toList) (A8j hE' (Vm g w') [] w' a.tmps.toList) (Bfj E.ET (Vm g w') [] w' _ a.tmps.toList) b 0 _ _ _ _ _ hcalm ?_ ?_ hstart he2
    ·rintro ⟨_, _, hh⟩; exact hh
    ·refine ⟨fun s a2 w2 h1 h2 => ?_, fun s a2 w2 h1 h2 => ?_, fun i s a2 w2 h1 h2 => ?_⟩
     ·obtain ⟨h0, h2⟩ := Af h2
      have h0 := Ahu.1 h0
      obtain ⟨g2, k1, k2, k3⟩ := A13 hr' hf' h1 h0
      refine ⟨keeps k3, kp k3, hT t l _ C O0 n0 _ a w2 h2 ⟨g2, okS, k1, rfl, hk, k2⟩⟩
     ·obtain ⟨h0, h2⟩ := Af h2
      have h0 := Ahu.1 h0
      obtain ⟨g2, k1, k2, k3⟩ := A13 hr' hf' h1 h0
      refine ⟨keeps k3, kp k3, fun w3 hos3 D hD hh => ?_⟩
      obtain ⟨q1, q2, _⟩ := A99 hos3 k1 k2
      obtain ⟨g3, q3⟩ := A0m q1 q2 hD hh
      exact hg.ret _ _ _ ⟨⟨g3, q3⟩, hk⟩ h2
     ·obtain ⟨h0, h2⟩ := Asq h2
      obtain ⟨g2, k1, k2, k3⟩ := A13 hr' hf' h1 h0
      refine ⟨keeps k3, kp k3, fun w3 hos3 D hD hh => ?_⟩
      obtain ⟨q1, q2, _⟩ := A99 hos3 k1 k2
      obtain ⟨g3, q3⟩ := A0m q1 q2 hD hh
      exact hg.exits i _ _ _ ⟨⟨g3, q3⟩, hk⟩ h2
   ·cases he
theorem Bjf {f : FuncId} {fn : Func} {c : Code} (hf : P.funcs[f]? = some fn) (hname : (fn.name == "runtime.NumGoroutine") = false) (hb : fn.body = some c) (args : Array Value) (w : World) : (callFunc f args).run P w = .ok (.enter f args) w := by
 have h1 : fn.name ≠ "runtime.NumGoroutine" := by simpa using hname
 simp [callFunc, hf, h1, hb, mark]
theorem Ex : ∀ (l : List AV) (i : Nat), i ∉ Aer l -> look (Amd bs l) i = look bs i
 | [], _, _ => rfl
 | .ref b v o :: l, i, h => by
  simp only [Aer, List.mem_cons, not_or] at h
  show look ((b, (v, .dead)) :: Amd bs l) i = _
  rw [An _ _ (Ne.symm h.1)]
  exact Ex l i h.2
 | .top :: l, i, h => Ex l i h
 | .und :: l, i, h => Ex l i h
 | .nilS :: l, i, h => Ex l i h
 | .nilP :: l, i, h => Ex l i h
 | .val _ _ :: l, i, h => Ex l i h
 | .osl _ _ :: l, i, h => Ex l i h
 | .imm _ _ _ :: l, i, h => Ex l i h
 | .oel _ _ _ _ :: l, i, h => Ex l i h
 | .osb _ _ _ :: l, i, h => Ex l i h
 | .fn _ _ :: l, i, h => Ex l i h
 | .agg _ :: l, i, h => Ex l i h
 | .tup _ :: l, i, h => Ex l i h
theorem Azi : ∀ {l : List Nat}, A8z l = true -> l.Nodup
 | [], _ => List.nodup_nil
 | a :: l, h => by
  simp only [A8z, Bool.and_eq_true, Bool.not_eq_true'] at h
  exact List.nodup_cons.2 ⟨fun hm => (by rw [Aao.2 hm] at h; cases h.1), Azi h.2⟩
theorem A4t (hb : Cy E.ET g bs w) : ∀ {ts : List (TypeId × Ty)} {caps : List AV} {x : Tz ts} {vs : List Value}, Afa bs ts caps = some x -> (Aer caps).Nodup -> D2 (An8 g bs) caps vs ->
  ∃ bl : List Nat, Bc0 E.ET (okB g w) w ts x bl vs /\ D2 (fun b i => g.O b = some i) bl (Aer caps) /\ Cy E.ET g (Amd bs caps) w /\ Ext g bs w g (Amd bs caps) w /\ (∀ i ∈ Aer caps, ∃ v, look (Amd bs caps) i = some (v, .dead))
 | [], [], x, [], h, _, _ => ⟨[], trivial, trivial, hb, Ext.refl _ _ _, fun i hi => by simp [Aer] at hi⟩
 | [], [], x, _ :: _, h, _, ha => ha.elim
 | [], _ :: _, x, vs, h, _, _ => by simp [Afa] at h
 | _ :: _, [], x, vs, h, _, _ => by simp [Afa] at h
 | t :: ts, c :: caps, x, vs, h, hn, ha => by
  cases vs with
  | nil => exact ha.elim
  | cons v vs =>
   cases c with
   | ref b ver off =>
    cases off with
    | succ off => simp [Afa] at h
    | zero =>
    simp only [Afa] at h
    split at h
    ·rename_i T' cells hbox
     obtain ⟨hT, h2⟩ := Af h
     have hT := Nat.eq_of_beq_eq_true hT
     subst hT
     clear h
     split at h2
     ·rename_i y hy
      split at h2
      ·rename_i z hz
       simp only [Option.some.injEq] at h2
       subst h2
       simp only [Aer, List.nodup_cons] at hn
       obtain ⟨bl, k1, k2, k3, k4, k5⟩ := A4t hb hz hn.2 ha.2
       obtain ⟨blk, h1, h3⟩ := ha.1.2.2 t.1 cells hbox
       have hlook := A8 hbox (by simp)
       obtain ⟨blk', arr, q1, q2, q3, q4⟩ := hb b ver _ hlook
       rw [h1] at q1
       simp only [Value.pointer.injEq, Option.some.injEq, Addr.mk.injEq, and_true] at q1
       subst q1
       have hl2 : look (Amd bs caps) b = some (ver, .var t.1 cells) := by rw [Ex _ _ hn.1]; exact hlook
       refine ⟨blk :: bl, ⟨⟨h3, arr, q3, Aab hy q4⟩, k1⟩, ⟨q2, k2⟩, k3.kill hl2, k4.trans (Ext.kill hl2), fun i hi => ?_⟩
       rcases List.mem_cons.1 hi with rfl | hi
       ·exact ⟨ver, Ao ..⟩
       ·obtain ⟨v', hv'⟩ := k5 i hi
        by_cases e : b = i
        ·subst e; exact ⟨ver, Ao ..⟩
        ·exact ⟨v', by show look ((b, (ver, .dead)) :: Amd bs caps) i = _; rw [An _ _ e]; exact hv'⟩
      ·cases h2
     ·cases h2
    ·cases h
   | _ => simp [Afa] at h
theorem Ayp : ∀ {bl ids : List Nat}, D2 (fun b i => g.O b = some i) bl ids -> ids.Nodup -> bl.Nodup
 | [], [], _, _ => List.nodup_nil
 | b :: bl, i :: ids, ⟨h1, h2⟩, hn => by
  obtain ⟨n1, n2⟩ := List.nodup_cons.1 hn
  refine List.nodup_cons.2 ⟨fun hm => ?_, Ayp h2 n2⟩
  have : ∀ {bl ids : List Nat}, D2 (fun b i => g.O b = some i) bl ids -> b ∈ bl -> i ∈ ids := by
   intro bl
   induction bl with
   | nil => intro ids _ hb; cases hb
   | cons b' bl ih =>
    intro ids ha hb
    cases ids with
    | nil => exact ha.elim
    | cons i' ids =>
     rcases List.mem_cons.1 hb with rfl | hb
     ·have h3 : g.O b = some i' := ha.1
      have h1 : g.O b = some i := h1
      rw [h1] at h3
      cases h3; exact List.mem_cons_self ..
     ·exact List.mem_cons_of_mem _ (ih ha.2 hb)
  exact n1 (this h2 hm)
 | [], _ :: _, h, _ => h.elim
 | _ :: _, [], h, _ => h.elim
theorem Baw : ∀ {bl ids : List Nat}, D2 (fun b i => g.O b = some i) bl ids -> ∀ b ∈ bl, ∃ i ∈ ids, g.O b = some i
 | [], [], _, b, hb => by cases hb
 | b' :: bl, i :: ids, ⟨h1, h2⟩, b, hb => by
  rcases List.mem_cons.1 hb with rfl | hb
  ·exact ⟨i, List.mem_cons_self .., h1⟩
  ·obtain ⟨j, hj, e⟩ := Baw h2 b hb
   exact ⟨j, List.mem_cons_of_mem _ hj, e⟩
 | [], _ :: _, h, _, _ => h.elim
 | _ :: _, [], h, _, _ => h.elim
theorem A3x {ok ok' : Nat -> Prop} (h : ∀ b, ok b -> ok' b) : ∀ {ts : List (TypeId × Ty)} {x : Tz ts} {bl : List Nat} {vs : List Value}, Bc0 ET ok w ts x bl vs -> Bc0 ET ok' w ts x bl vs
 | [], _, [], [], _ => trivial
 | t :: ts, x, b :: bl, v :: vl, ⟨⟨e, arr, h1, h2⟩, h3⟩ => ⟨⟨e, arr, h1, Rep.mono (fun b hb => ⟨h b hb, rfl⟩) h2⟩, A3x h h3⟩
 | [], _, _ :: _, _, hh => hh.elim
 | [], _, [], _ :: _, hh => hh.elim
 | _ :: _, _, [], _, hh => hh.elim
 | _ :: _, _, _ :: _, [], hh => hh.elim
theorem App : ∀ {ok : Nat -> Prop} {ts : List (TypeId × Ty)} {x : Tz ts} {bl : List Nat} {vs : List Value}, Bc0 ET ok w ts x bl vs -> ∀ b ∈ bl, ∃ arr T, w.heap[b]? = some (.cells arr T (0, 0))
 | _, [], _, [], [], _, b, hb => by cases hb
 | _, t :: ts, x, b' :: bl, v :: vl, ⟨⟨e, arr, h1, h2⟩, h3⟩, b, hb => by
  rcases List.mem_cons.1 hb with rfl | hb
  ·exact ⟨arr, t.1, h1⟩
  ·exact App h3 b hb
 | _, [], _, _ :: _, _, hh, _, _ => hh.elim
 | _, [], _, [], _ :: _, hh, _, _ => hh.elim
 | _, _ :: _, _, [], _, hh, _, _ => hh.elim
 | _, _ :: _, _, _ :: _, [], hh, _, _ => hh.elim
theorem A90 : ∀ {ds : List Deferred}, Azp w0 g w ds -> ∀ d ∈ ds, ∃ D, d = { target := .collected D, args := #[] } /\ D < w.heap.size /\ w.heap[D]? = some (.deferred (some []))
 | [], _, d, hd => by cases hd
 | d' :: ds, ⟨⟨D, e, _, _, h3, h4, _⟩, h6⟩, d, hd => by
  rcases List.mem_cons.1 hd with rfl | hd
  ·exact ⟨D, e, h3, h4⟩
  ·exact A90 h6 d hd
theorem Ub {b : Nat} {v : Bool} : ∀ {fs : List Bool} {bl : List Nat}, b ∈ M6 fs v bl -> b ∈ bl
 | [], _, h => by simp [M6] at h
 | f :: fs, [], h => by simp [M6] at h
 | f :: fs, c :: bl, h => by
  simp only [M6] at h
  split at h
  ·rcases List.mem_cons.1 h with rfl | h
   ·exact List.mem_cons_self ..
   ·exact List.mem_cons_of_mem _ (Ub h)
  ·exact List.mem_cons_of_mem _ (Ub h)
theorem Aty {b : Nat} : ∀ {fs : List Bool} {bl : List Nat}, bl.Nodup -> b ∈ M6 fs true bl -> b ∈ M6 fs false bl -> False
 | [], _, _, h, _ => by simp [M6] at h
 | f :: fs, [], _, h, _ => by simp [M6] at h
 | f :: fs, c :: bl, hn, h, h' => by
  obtain ⟨n1, n2⟩ := List.nodup_cons.1 hn
  simp only [M6] at h h'
  cases f with
  | true =>
   simp only [if_true, reduceCtorEq, if_false] at h h'
   rcases List.mem_cons.1 h with rfl | h
   ·exact n1 (Ub h')
   ·exact Aty n2 h h'
  | false =>
   simp only [if_true, reduceCtorEq, if_false] at h h'
   rcases List.mem_cons.1 h' with rfl | h'
   ·exact n1 (Ub h)
   ·exact Aty n2 h h'
theorem Bpw {t : Ty} {W W' : World} (h : OS C n0 W W') (hd : ∀ b, okS b -> b < n0 /\ ¬ C b) {x : t.den} {u : Value} (hv : VU ET t okS W x u) : VU ET t okS W' x u := by
 induction h with
 | refl => exact hv
 | step T _ hg hr ih =>
  refine Rep.mono (fun b hb => ?_) ih
  have hn : ¬ T b := fun ht => by
   rcases hr b ht with h | ⟨h, _⟩
   ·exact (hd b hb.1).2 h
   ·have := (hd b hb.1).1; omega
  have e := hg.block b hb.2.1 hn
  exact ⟨⟨hb.1, Nat.lt_of_lt_of_le hb.2.1 hg.size, by rw [e]; exact hb.2.2⟩, e⟩
theorem Bl7 (hE : Db P E) (g0 : Gh) (w0 : World) (kv : List Value) : A07 (R := R) P E (Aqt E.ET g0 [] w0 E.keep kv) (Bqc E.ET g0 w0 E.keep kv) out := by
 intro T cuts lv n f ps asn b K Q st a w hT he hrl
 obtain ⟨⟨g, hr⟩, hk⟩ := hrl
 simp only [F9] at he
 split at he
 ·rename_i gf caps hfn
  split at he
  ·rename_i q hq
   split at he
   ·rename_i x hx
    obtain ⟨hc, he⟩ := Af he
    simp only [Bool.and_eq_true] at hc
    obtain ⟨hnd, h0⟩ := hc
    have hnd := Azi hnd
    have h0 := Ahu.1 h0
    obtain ⟨hn0, hnd⟩ := List.nodup_cons.1 hnd
    split at he
    ·rename_i l hl
     have hv := Br (sl := st.slots) (bs := st.bs) hr f
     rw [hfn] at hv
     obtain ⟨cv, ef, hcv⟩ := hv
     obtain ⟨bl, k1, k2, k3, k4, k5⟩ := A4t hr.boxes hx hnd hcv
     let blW := M6 q.wr true bl
     let g2 : Gh := ⟨fun i => if i ∈ blW then some 0 else if i ∈ bl then none else g.O i, g.hd⟩
     have hWs : ∀ i, i ∈ blW -> i ∈ bl := fun i hi => Ub hi
     have gin : ∀ i, i ∈ blW -> g2.O i = some 0 := fun i hi => if_pos hi
     have gro : ∀ i, i ∈ bl -> i ∉ blW -> g2.O i = none := fun i hi hn => (if_neg hn).trans (if_pos hi)
     have gout : ∀ i, i ∉ bl -> g2.O i = g.O i := fun i hi => (if_neg (fun h => hi (hWs i h))).trans (if_neg hi)
     have gbl : ∀ i, i ∈ bl -> ∃ j ∈ Aer caps, g.O i = some j := fun i hi => Baw k2 i hi
     have ok2 : ∀ i, okB g w i -> okB g2 w i := fun i hi => ⟨by
      rw [gout i (fun hm => by obtain ⟨j, _, e⟩ := gbl i hm; rw [hi.1] at e; cases e)]; exact hi.1, hi.2⟩
     have fr2 : Fr g w g2 w := by
      refine ⟨rfl, rfl, rfl, Nat.le_refl _, fun i hi _ => ⟨?_, rfl⟩, fun i hi _ => ⟨?_, rfl⟩⟩
      ·rw [gout i (fun hm => by obtain ⟨j, _, e⟩ := gbl i hm; rw [hi] at e; cases e)]; exact hi
      ·rw [gout i (fun hm => by obtain ⟨j, hj, e⟩ := gbl i hm; rw [hi] at e; cases e; exact hn0 hj)]; exact hi
     have r1 : Rel E.ET g0 [] w0 g ⟨st.slots, Amd st.bs caps⟩ a w :=
      ⟨hr.glb.keep k4.fr, hr.size, fun i => (hr.slots i).keep k4, k3, hr.defers, hr.ext.trans k4⟩
     have r2 : Rel E.ET g0 [] w0 g2 ⟨st.slots, Amd st.bs caps⟩ a w := by
      refine Atc r1 rfl ok2 fr2 (fun i x blk hlk hx ho _ => ?_)
      rw [gout blk (fun hm => ?_)]
      ·exact ho
      ·obtain ⟨j, hj, e⟩ := gbl blk hm
       rw [ho] at e
       cases e
       obtain ⟨v', hv'⟩ := k5 _ hj
       rw [hv'] at hlk
       cases hlk
       exact hx rfl
     have hb0 : look (Amd st.bs caps) 0 = none := by rw [Ex _ _ hn0]; exact h0
     have hfr := hr.ext.fr
     have hcells := App k1
     have hdef := A90 hr.defers
     have hgh : Bi2 g0 w0 g2 (Amd st.bs caps) a.defers (fun b => b < w.heap.size /\ g2.O b = none) (· ∈ blW) (fun i => g2.O i = none \/ g2.O i = some 0) w.heap.size w := by
      refine ⟨fun i h => h, fun i _ h => h, fun i hi => ⟨gin i hi, ?_⟩, fun i hi hlt => ⟨fun e => ?_, fun e => ?_⟩, fun i hi d hd e => ?_, fun d hd D e => ?_, hb0, hfr.size, Nat.le_refl _⟩
      ·obtain ⟨arr, T, h⟩ := hcells i (hWs i hi)
       exact (Array.getElem?_eq_some_iff.1 h).1
      ·obtain ⟨j, hj, e'⟩ := gbl i (hWs i hi)
       have := (hfr.ro i e hlt).1
       rw [e'] at this; cases this
      ·obtain ⟨j, hj, e'⟩ := gbl i (hWs i hi)
       have := (hfr.fo i e hlt).1
       rw [e'] at this
       cases this
       exact hn0 hj
      ·obtain ⟨D, e1, e2, e3⟩ := hdef d hd
       obtain ⟨arr, T, h⟩ := hcells i (hWs i hi)
       rw [e] at e1
       simp only [Deferred.mk.injEq, Target.collected.injEq, and_true] at e1
       subst e1
       rw [h] at e3; cases e3
      ·obtain ⟨D', e1, e2, e3⟩ := hdef d hd
       rw [e] at e1
       simp only [Deferred.mk.injEq, Target.collected.injEq, and_true] at e1
       subst e1
       exact e2
     have hsq := hE.seqs gf q hq
     have hbn := Ayp k2 hnd
     have u2 := hsq.run x l hl g2 w bl cv (hr.glb.keep fr2) (A3x ok2 k1) hbn gin (fun i hi => gro i (Ub hi) (fun h => Aty hbn h hi))
     obtain ⟨fn, f1, f2, f3⟩ := hsq.fn
     have eg : ∀ args w, (callFunc gf args).run P w = .ok (.enter gf args) w := by
      cases hbd : fn.body with
      | none => rw [hbd] at f3; cases f3
      | some c => exact Bjf f1 f2 hbd
     have hRF := hT q.t l _ (· ∈ blW) (fun i => g2.O i = none \/ g2.O i = some 0) w.heap.size _ a w he ⟨g2, _, Bff _ _ r2, rfl, hk, hgh⟩
     have hcb : ∀ b, (b < w.heap.size /\ g2.O b = none) -> b < w.heap.size /\ ¬ b ∈ blW := fun b hb => ⟨hb.1, fun hc => by
      have := hb.2
      rw [gin b hc] at this; cases this⟩
     exact Ata (C := (· ∈ blW)) (V := VU E.ET q.t (fun b => b < w.heap.size /\ g2.O b = none)) (fun W W' x u h hv => Bpw h hcb hv) ef eg u2 (fun r hr => (hgh.c r hr).2) hRF
    ·cases he
   ·cases he
  ·cases he
 ·cases he
end
end Go.Proofs.YtcnngodgngmghaaGreatDoor.Ev
