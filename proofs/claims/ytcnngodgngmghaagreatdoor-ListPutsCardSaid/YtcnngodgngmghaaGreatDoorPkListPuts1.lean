/- Own texts, put together: see the row's text for what is proved. -/
import Derived.Test.YtcnngodgngmghaaGreatDoorPkListPuts0
namespace Go.Proofs.YtcnngodgngmghaaGreatDoor.Ev
open Go
open Go.RowKit Go.Lib
set_option linter.unusedVariables false
set_option linter.unusedSimpArgs false
section
variable {P : Program} {E : Env} {R : Type} {out : R} {g0 g g' : Gh} {w0 w w' : World} {sl : List AV} {bs0 bs bs' : Ag} {a : Act}
theorem Aez {α : Type} {r : α -> List Value -> Prop} {x : α} {v : Value} (h : r x [v]) : ∀ n, Is r (List.replicate n x) (List.replicate n v)
 | 0 => rfl
 | n + 1 => ⟨[v], List.replicate n v, rfl, h, Aez h n⟩
theorem Anp (hE : C8 P E) {d : Option Tmp} {T : TypeId} {x y : AV} {xv yv : Value} {K : AV -> Ag -> Option R} (h : Mr E d T x y bs K = some out)
  (hx : B7 E.ET g bs w x xv) (hy : B7 E.ET g bs w y yv) (hb : Ct E.ET g bs w) : Asz P E.ET out g bs w K (Instr.makeSlice T xv yv) := by
 unfold Mr at h
 split at h
 ·rename_i n m e hk
  rw [Lp hx, Lp hy]
  generalize (show Int from n) = n at h
  generalize (show Int from m) = m at h
  obtain ⟨dd, hd, rfl⟩ := C4 hE hk (by simp)
  split at h
  ·rename_i r hr
   split at h
   ·rename_i z0 hz0
    obtain ⟨hc, h⟩ := Ad h
    obtain ⟨hc, h6⟩ := Ix hc
    obtain ⟨hc, h5⟩ := Ix hc
    obtain ⟨hc, h4⟩ := Ix hc
    obtain ⟨hc, h3⟩ := Ix hc
    obtain ⟨h1, h2⟩ := Ix hc
    have h2 := Nat.eq_of_beq_eq_true h2
    have h3 : 0 <= n := of_decide_eq_true h3
    have h4 : n <= m := of_decide_eq_true h4
    have h5 : m * (r.bytes : Int) <= 140737488355328 := of_decide_eq_true h5
    have h6 : m <= 9223372036854775807 := of_decide_eq_true h6
    obtain ⟨r', i, hr', hi, hsz, hrs, hby, hne, hro⟩ := Iu hE h1
    rw [hr] at hr'
    simp only [Option.some.injEq] at hr'
    subst hr'
    obtain ⟨i', z, hi', _, _, hz, hzr, hzs, _⟩ := hro.info
    rw [hi] at hi'
    simp only [Option.some.injEq] at hi'
    subst hi'
    have hsz1 : r.shape.sz = 1 := by rw [<- hrs]; exact h2
    rw [h2] at hzs
    obtain ⟨zv, hzv⟩ : ∃ zv, z.cells = #[zv] := by
     match hzc : z.cells, hzs with
     | ⟨[q]⟩, _ => exact ⟨q, rfl⟩
    have hrep := Xq hz0 (hzr g bs w)
    rw [hzv] at hrep
    have hrun := run_make (P := P) w T e i z hd hi hz .i64 .i64 n m h3 h4 (by rw [hby, Int.mul_comm]; omega) h6
    rw [hsz, hsz1, Nat.mul_one, hzv] at hrun
    obtain ⟨v, bs', g', n1, n2, n3, n4⟩ := Nf (w' := w.alloc (.cells (madeCells #[zv] m.toNat) e)) (hv := .slice (some ⟨w.heap.size, 0, none⟩) n.toNat m.toNat) (cs := List.replicate n.toNat zv) h hb rfl rfl rfl (by simp)
     (fun q hq _ => O2 w _ q hq) (fun q hq hlt => by simp only [Value.ownBlock, Option.some.injEq] at hq; omega)
     (by
      rw [List.length_replicate, hsz1]
      refine ⟨by simp, .inr ⟨w.heap.size, m.toNat, _, rfl, Nat.zero_le _, ⟨_, heap_alloc_new w _, S1 _⟩, by omega, by simp only [maxLen]; omega, by rw [size_madeCells, Nat.mul_one], ?_⟩⟩
      rw [toList_madeCells_one, Nat.mul_one, List.take_replicate, Nat.min_eq_left (by omega)])
     (Aez hrep _)
    exact ⟨v, _, bs', g', _, n1, hrun, n2, n3, n4⟩
   ·cases h
  ·cases h
 ·cases h
def Src (ET : TypeId) (g : Gh) (w : World) (t : Ty) (ys : List t.den) (v : Value) : Prop :=
 ∃ A c news, v = .slice A ys.length c /\ Is (fun x c => Rep ET (okB g w) w t x c) ys news /\ (A = none -> ys = []) /\ ∀ a, A = some a -> ∀ j u, news[j]? = some u -> w.cell? (a.add j) = some u
theorem Axl {e : TypeId} {t : Ty} (h0 : t.sz ≠ 0) {y : AV} {yv : Value} {ys : List t.den} (h : Avq E bs e t y = some ys) (hy : B7 E.ET g bs w y yv) (hb : Ct E.ET g bs w) : Src E.ET g w t ys yv := by
 unfold Avq at h
 split at h
 ·simp only [Option.some.injEq] at h
  subst h
  rw [show yv = .slice none 0 0 from hy]
  exact ⟨none, 0, [], rfl, rfl, fun _ => rfl, fun a ha => by cases ha⟩
 ·rename_i t' l
  split at h
  ·rename_i e
   subst e
   simp only [Option.some.injEq] at h
   subst h
   obtain ⟨A, c, cs', e1, h6, h7, h8⟩ := Id hy
   simp only [List.cons.injEq, and_true] at e1
   subst e1
   refine ⟨A, c, cs', rfl, h7, fun hA => ?_, fun a ha j u hj => ?_⟩
   ·rcases h8 with rfl | ⟨b, o, hA', _⟩
    ·have hl := Is.length (fun x c hc => Rep.length hc) h7
     simp only [List.length_nil] at hl
     rcases Nat.mul_eq_zero.1 hl.symm with h | h
     ·exact List.eq_nil_of_length_eq_zero h
     ·exact absurd h h0
    ·rw [hA] at hA'; cases hA'
   ·rcases h8 with rfl | ⟨b, o, hA', _, k4⟩
    ·simp at hj
    ·rw [ha] at hA'
     simp only [Option.some.injEq] at hA'
     subst hA'
     rw [Addr.add_lit]; exact k4 j u hj
  ·cases h
 ·rename_i b v
  split at h
  ·rename_i e' t' xs hbox
   split at h
   ·rename_i et
    subst et
    obtain ⟨_, h⟩ := Ad h
    simp only [Option.some.injEq] at h
    subst h
    have hyv := hy.2.2 _ _ _ hbox
    obtain ⟨cs, k1, k2, k3⟩ := hb b v _ (A3 hbox (by simp))
    rcases k1.2 with ⟨e1, e0⟩ | ⟨blk, cap, cur, e1, hq⟩
    ·have : xs = [] := List.eq_nil_of_length_eq_zero e0
     subst this
     rw [hyv, e1]
     exact ⟨none, 0, [], rfl, rfl, fun _ => rfl, fun a ha => by cases ha⟩
    ·rw [hyv, e1]
     refine ⟨_, _, cs, rfl, k2, fun hA => (by cases hA), fun a ha j u hj => ?_⟩
     simp only [Option.some.injEq] at ha
     subst ha
     exact Ry.cells k1 (g := blk) (by rw [e1]; rfl) j u hj
   ·cases h
  ·cases h
 ·cases h
theorem Apu {t ty e : TypeId} {i : TypeInfo} {z : Value} {size : Nat} (ht : P.underlying t = some (.slice e)) (hi : P.info? e = some i) (hz : i.zero = some z) (hsize : i.size = size) (hzs : z.cells.size = size) (hsz : size ≠ 0)
  {v : Value} {n : Nat} {xs : List Value} (hown : Ry w e size v n xs) {A : Option Addr} {m c : Nat} {news : List Value} (hl : news.length = m * size) (hA0 : A = none -> m = 0)
  (hnews : ∀ a, A = some a -> ∀ j u, news[j]? = some u -> w.cell? (a.add j) = some u) (h1 : ∀ u ∈ news, u.oneCell' = true) (h63 : n + m <= 9223372036854775807) (hbytes : (n + m) * i.bytes <= 140737488355328) :
  ∃ v' w', (Builtin.append_ #[t, t] ty #[v, .slice A m c]).run P w = .ok v' w' /\ Ry w' e size v' (n + m) (xs ++ news) /\ w.grownBy w' v.ownBlock /\
   (v'.ownBlock = v.ownBlock \/ (v'.ownBlock = some w.heap.size /\ ∀ k < w.heap.size, w'.heap[k]? = w.heap[k]?)) := by
 subst hsize
 have hlen : (xs ++ news).length = (n + m) * i.size := by rw [List.length_append, hown.1, hl, Nat.add_mul]
 by_cases hm : m = 0
 ·-- nothing is appended
  subst hm
  have hn : news = [] := List.eq_nil_of_length_eq_zero (by simpa using hl)
  subst hn
  refine ⟨v, w, ?_, by simpa using hown, ⟨rfl, rfl, rfl, Nat.le_refl _, fun _ _ _ => rfl⟩, .inl rfl⟩
  rcases hown.2 with ⟨rfl, rfl⟩ | ⟨q, cap, cur, rfl, _, ⟨fz, hq, hfz⟩, hnc, _, _, _⟩
  ·cases A <;> simp [Builtin.append_, run_underlying ht, sizeOf, typeInfo, hi, Builtin.lenOf, Builtin.firstCells, loadCells, loadCellsFrom]
  ·cases A <;> simp [Builtin.append_, run_underlying ht, sizeOf, typeInfo, hi, Builtin.lenOf, Builtin.firstCells, loadCells, loadCellsFrom, hnc, storeCells]
 ·cases A with
  | none => exact absurd (hA0 rfl) hm
  | some ad =>
   have hnews := hnews ad rfl
   have hml : maxLen = 9223372036854775807 := rfl
   have hcm : ∀ old, grownCap w (n + m) old e <= maxLen := fun old => grownCap_le_maxLen w (n + m) old e (by rw [hml]; exact h63)
   have grown : ∀ (old : Nat), Ry (w.drew.alloc (.cells (xs.toArray ++ news.toArray ++ Builtin.zeroCells z.cells (grownCap w (n + m) old e - (n + m))) e)) e i.size
     (.slice (some ⟨w.heap.size, 0, none⟩) (n + m) (grownCap w (n + m) old e)) (n + m) (xs ++ news) := by
    intro old
    have hge := grownCap_ge w (n + m) old e
    refine ⟨hlen, .inr ⟨w.heap.size, _, _, rfl, Nat.zero_le _, ⟨_, heap_alloc_new w.drew _, S1 _⟩, hge, hcm old, ?_, ?_⟩⟩
    ·simp only [Array.size_append, List.size_toArray, size_zeroCells, hzs, hown.1, hl, <- Nat.add_mul]
     congr 1
     omega
    ·simp only [Array.toList_append, List.append_assoc]
     rw [<- List.append_assoc, <- hlen]
     exact List.take_left
   have gb : ∀ old, w.grownBy (w.drew.alloc (.cells (xs.toArray ++ news.toArray ++ Builtin.zeroCells z.cells (grownCap w (n + m) old e - (n + m))) e)) v.ownBlock :=
    fun old => ⟨rfl, rfl, rfl, by show w.heap.size <= (w.heap.push _).size; rw [Array.size_push]; exact Nat.le_succ _, fun k hk _ => O2 w.drew _ k hk⟩
   rcases hown.2 with ⟨rfl, rfl⟩ | ⟨q, cap, cur, rfl, _, ⟨fz, hq, hfz⟩, hnc, hcmx, hcs, htake⟩
   ·have hx : xs = [] := List.eq_nil_of_length_eq_zero (by simpa using hown.1)
    subst hx
    have hr := run_append_nil (P := P) w t ty e i z ht hi hz ad m c news hl hnews (by omega) (by omega) (by have hb := hbytes; simp only [Nat.zero_add] at hb; omega)
    have hg := grown 0
    have hgb := gb 0
    simp only [Nat.zero_add, List.nil_append, Array.empty_append] at hg hgb ⊢
    exact ⟨_, _, hr, hg, hgb, .inr ⟨rfl, fun k hk => O2 w.drew _ k hk⟩⟩
   ·by_cases hroom : n + m <= cap
    ·have hfit : n * i.size + news.length <= cur.size := by rw [hl, hcs, <- Nat.add_mul]; exact Nat.mul_le_mul_right _ hroom
     have hr := Aj5 (P := P) w t ty e i ht hi q n cap cur fz hq hfz ad m c news hl hnews h1 hroom hfit
     refine ⟨_, _, hr, ⟨hlen, .inr ⟨q, cap, _, rfl, Nat.zero_le _, ⟨_, setRow_heap w q cur _ e _ hq, Aau hfz ?_⟩, hroom, hcmx, ?_, ?_⟩⟩, ⟨rfl, rfl, rfl, by simp, fun k hk hk' => setRow_other w q k _ (fun e => hk' (by simp [Value.ownBlock, e]))⟩, .inl rfl⟩
     ·simp only [List.size_toArray, List.length_append, List.length_take, List.length_drop, Array.length_toList]
      omega
     ·simp only [List.size_toArray, List.length_append, List.length_take, List.length_drop, Array.length_toList]
      omega
     ·rw [htake, <- hlen]
      exact List.take_left
    ·have holds : ∀ j u, xs[j]? = some u -> w.cell? ((⟨q, 0, none⟩ : Addr).add j) = some u := hown.cells (g := q) rfl
     have hr := run_append_grow (P := P) w t ty e i z ht hi hz ⟨q, 0, none⟩ n cap xs hown.1 holds ad m c news hl hnews (by omega) (by omega) (growslice_fits (by omega) hbytes)
     exact ⟨_, _, hr, grown cap, gb cap, .inr ⟨rfl, fun k hk => O2 w.drew _ k hk⟩⟩
theorem Ayv {ok : Nat -> Prop} : ∀ {t : Ty} {x : t.den} {cs : List Value}, Rep E.ET ok w t x cs -> ∀ v ∈ cs, v.oneCell' = true
 | .int _, _, _, h, v, hv => by simp only [Rep] at h; subst h; simp at hv; subst hv; rfl
 | .bool, _, _, h, v, hv => by simp only [Rep] at h; subst h; simp at hv; subst hv; rfl
 | .str, _, _, h, v, hv => by simp only [Rep] at h; subst h; simp at hv; subst hv; rfl
 | .err, x, _, h, v, hv => by simp only [Rep] at h; subst h; simp at hv; subst hv; cases x <;> rfl
 | .sl t, _, _, ⟨A, c, cs', e, _⟩, v, hv => by subst e; simp at hv; subst hv; rfl
 | .nptr t, none, _, h, v, hv => by simp only [Rep] at h; subst h; simp at hv; subst hv; rfl
 | .nptr t, some _, _, ⟨b, o, cs', e, _⟩, v, hv => by subst e; simp at hv; subst hv; rfl
 | .pair a b, _, _, ⟨c1, c2, e, h1, h2⟩, v, hv => by
  subst e
  rcases List.mem_append.1 hv with h | h
  ·exact Ayv h1 v h
  ·exact Ayv h2 v h
 | .unit, _, _, h, v, hv => by simp only [Rep] at h; subst h; cases hv
theorem Auy {ok : Nat -> Prop} {t : Ty} : ∀ {l : List t.den} {cs : List Value}, Is (fun x c => Rep E.ET ok w t x c) l cs -> ∀ v ∈ cs, v.oneCell' = true
 | [], cs, h, v, hv => by simp only [Is] at h; subst h; cases hv
 | x :: l, _, ⟨c1, c2, e, h1, h2⟩, v, hv => by
  subst e
  rcases List.mem_append.1 hv with h | h
  ·exact Ayv h1 v h
  ·exact Auy h2 v h
theorem Awf (dT sT ty elem : TypeId) (g o dLen dCap : Nat) (A : Option Addr) (sLen sCap : Nat) (cur : Array Value) (t : TypeId) (fz : Nat × Nat) (cs : List Value)
  (hu : P.underlying dT = some (.slice elem)) (hs : (P.info? elem).map (·.size) = some 1)
  (hg : w.heap[g]? = some (.cells cur t fz)) (hfz : A0s fz cur.size) (hn : cs.length = Nat.min sLen dLen) (hA : A = none -> sLen = 0)
  (hsrc : ∀ a, A = some a -> ∀ j v, cs[j]? = some v -> w.cell? (a.add j) = some v) (hfit : o + cs.length <= cur.size) (h1 : ∀ v ∈ cs, v.oneCell' = true) :
  (Builtin.copy_ #[dT, sT] ty #[.slice (some ⟨g, o, none⟩) dLen dCap, .slice A sLen sCap]).run P w =
   .ok (goInt cs.length) (w.setRow g (cur.toList.take o ++ cs ++ cur.toList.drop (o + cs.length)).toArray) := by
 have hst := Hp P g o t fz cs 0 cur w hg hfz (by simpa using hfit) h1
 cases hq : P.info? elem with
 | none => simp [hq] at hs
 | some i =>
  have hi : i.size = 1 := by simpa [hq] using hs
  cases A with
  | none =>
   have h0 := hA rfl
   subst h0
   have : cs = [] := List.eq_nil_of_length_eq_zero (by rw [hn]; exact Nat.zero_min _)
   subst this
   simp at hst
   simp [Builtin.copy_, run_underlying hu, Builtin.lenOf, Builtin.firstCells, sizeOf, typeInfo, hq, hi, hst]
  | some a =>
   have hl := run_loadCells_list (P := P) w a cs (hsrc a rfl)
   simp [Builtin.copy_, run_underlying hu, Builtin.lenOf, Builtin.firstCells, sizeOf, typeInfo, hq, hi, <- hn, hl, hst]
theorem Ary (hE : C8 P E) {T U ty : TypeId} {x y : AV} {xv yv : Value} {K : AV -> Ag -> Option R} (h : Akw E T U x y bs K = some out)
  (hx : B7 E.ET g bs w x xv) (hy : B7 E.ET g bs w y yv) (hb : Ct E.ET g bs w) : Asz P E.ET out g bs w K (Builtin.copy_ #[T, U] ty #[xv, yv]) := by
 unfold Akw at h
 split at h
 ·rename_i e b v lo hk
  obtain ⟨dd, hd, rfl⟩ := C4 hE hk (by simp)
  split at h
  ·rename_i e' t xs hbox
   split at h
   ·rename_i ys hys0
    obtain ⟨hc, hK⟩ := Ad h
    clear h
    obtain ⟨hc, h5⟩ := Ix hc
    obtain ⟨hc, h4⟩ := Ix hc
    obtain ⟨hc, h3⟩ := Ix hc
    obtain ⟨h1, h2⟩ := Ix hc
    have e1 := Nat.eq_of_beq_eq_true h1
    subst e1
    have hs1 := Nat.eq_of_beq_eq_true h3
    obtain ⟨r, i, hr, hi, hsz, hrs, hby, hne, hro⟩ := Iu hE h2
    have hlook := A3 hbox (by simp)
    obtain ⟨l0, l1, blk, m, c, hhd, rfl⟩ := hx.2.2 _ _ _ hbox
    obtain ⟨A, c', cs', rfl, q2, qA, q3⟩ := Axl hne hys0 hy hb
    obtain ⟨cs, k1, k2, k3⟩ := hb b v _ hlook
    have hOb := k3 blk (by rw [hhd]; rfl)
    rcases k1.2 with ⟨e0, _⟩ | ⟨blk', cap, cur, e5, _, ⟨fz, hq, hfz⟩, hq1, hq2, hq3, hq4⟩
    ·rw [hhd] at e0; cases e0
    rw [hhd] at e5
    simp only [Value.slice.injEq, Option.some.injEq, Addr.mk.injEq, and_true] at e5
    obtain ⟨rfl, rfl, rfl⟩ := e5
    obtain ⟨l, rfl⟩ := Int.eq_ofNat_of_zero_le l0
    simp only [Int.toNat_natCast] at hK ⊢
    have hlt : l < xs.length := by omega
    generalize hn : min ys.length (xs.length - l) = n at hK
    have hn1 : n <= ys.length := by omega
    have hn2 : l + n <= xs.length := by omega
    -- the cells
    have hys : ys = ys.take n ++ ys.drop n := (List.take_append_drop ..).symm
    rw [hys] at q2
    obtain ⟨c1, c2, e2, p1, p2⟩ := Is.split q2
    have hx3 : xs = xs.take l ++ ((xs.drop l).take n ++ xs.drop (l + n)) := by
     rw [<- List.drop_drop, List.take_append_drop, List.take_append_drop]
    rw [hx3] at k2
    obtain ⟨d1, d23, f1, u1, u23⟩ := Is.split k2
    obtain ⟨d2, d3, f2, u2, u3⟩ := Is.split u23
    have lc1 : c1.length = n := by
     have := Is.length (fun x c hc => Rep.length hc) p1
     rw [this, hs1, List.length_take]; omega
    have ld1 : d1.length = l := by
     have := Is.length (fun x c hc => Rep.length hc) u1
     rw [this, hs1, List.length_take]; omega
    have ld2 : d2.length = n := by
     have := Is.length (fun x c hc => Rep.length hc) u2
     rw [this, hs1, List.length_take, List.length_drop]; omega
    have hcsl : cs.length = xs.length := by rw [k1.1, hs1, Nat.mul_one]
    have hcap : cur.size = c := by rw [hq3, hs1, Nat.mul_one]
    have hrun := Awf (P := P) (w := w) T U ty e' blk l (xs.length - l) (c - l) A ys.length c' cur e' fz c1 hd (by rw [hi]; exact congrArg some (hsz.trans hs1)) hq hfz (by rw [lc1, <- hn])
     (fun hA => by rw [qA hA]; rfl)
     (fun a ha j u hj => q3 a ha j u (by rw [e2, List.getElem?_append_left (List.getElem?_eq_some_iff.1 hj).1]; exact hj))
     (by rw [lc1, hcap]; omega) (Auy p1)
    rw [hs1, Nat.mul_one]
    generalize hC : (cur.toList.take l ++ c1 ++ cur.toList.drop (l + c1.length)).toArray = C at hrun
    have fr : Fr g w g (w.setRow blk C) := Fr.setRow hOb (ne0 h4)
    have hlen : (cpL xs l ys).length = xs.length := by
     unfold cpL
     simp only [List.length_append, List.length_take, List.length_drop]; omega
    have he := Ext.same (c' := .row e' t (cpL xs l ys)) hlook (show U8 _ _ from ⟨rfl, rfl, hlen.symm⟩) fr rfl
    refine ⟨_, _, _, g, _, hK, hrun, ?_, ?_, he⟩
    ·rw [lc1]; exact Og _ _
    refine hb.cons he (fun b' hb' => ⟨rfl, fun q hq' ho => ⟨ho, setRow_other w blk q _ (fun e => by subst e; rw [hOb] at ho; simp only [Option.some.injEq] at ho; exact hb' ho.symm)⟩⟩) ?_
    have hcp : cpL xs l ys = xs.take l ++ (ys.take n ++ xs.drop (l + n)) := by unfold cpL; rw [hn]
    refine ⟨d1 ++ (c1 ++ d3), ?_, ?_, fun q hq' => k3 q hq'⟩
    ·rw [hlen]
     have hcs : d1 ++ (c1 ++ d3) = cs.take l ++ c1 ++ cs.drop (l + c1.length) := by
      rw [f1, f2, <- ld1, List.take_left, List.append_assoc, lc1, <- ld2, <- List.length_append, <- List.append_assoc d1 d2 d3, List.drop_left]
     refine ⟨?_, .inr ⟨blk, c, C, hhd, Nat.zero_le _, ⟨fz, setRow_heap w blk cur C e' _ hq, Aau hfz ?_⟩, hq1, hq2, ?_, ?_⟩⟩
     ·rw [hs1, Nat.mul_one, <- hcsl, f1, f2]
      simp only [List.length_append]; omega
     ·rw [<- hC, List.size_toArray]
      simp only [List.length_append, List.length_take, List.length_drop, Array.length_toList]; omega
     ·rw [<- hq3, <- hC, List.size_toArray]
      simp only [List.length_append, List.length_take, List.length_drop, Array.length_toList]; omega
     ·rw [<- hC, List.toList_toArray, hcs, hs1, Nat.mul_one, <- hcsl]
      have hcl : cur.toList.length = c := (Array.length_toList (xs := cur)).trans hcap
      exact Anj (by rw [hcsl]; rw [hs1, Nat.mul_one] at hq4; exact hq4) (by rw [hcsl, hcl]; exact hq1) (by rw [lc1, hcsl]; omega)
    ·rw [hcp]
     exact (Is.join u1 (Is.join p1 u3)).mono fun _ _ => Rep.mono fr.okB
   ·cases h
  ·cases h
 ·cases h
theorem Aff {t u ty e : TypeId} {i : TypeInfo} {z : Value} (ht : P.underlying t = some (.slice e)) (hu : P.underlying u = some .string) (hi : P.info? e = some i) (hz : i.zero = some z) (hs1 : i.size = 1) (hzs : z.cells.size = 1)
  {v : Value} {n : Nat} {xs : List Value} (hown : Ry w e 1 v n xs) (s : ByteArray) (h63 : n + s.size <= 9223372036854775807) (hbytes : (n + s.size) * i.bytes <= 140737488355328) :
  ∃ v' w', (Builtin.append_ #[t, u] ty #[v, .string s]).run P w = .ok v' w' /\ Ry w' e 1 v' (n + s.size) (xs ++ strCells s) /\ w.grownBy w' v.ownBlock /\
   (v'.ownBlock = v.ownBlock \/ (v'.ownBlock = some w.heap.size /\ ∀ k < w.heap.size, w'.heap[k]? = w.heap[k]?)) := by
 have hxl : xs.length = n := by simpa using hown.1
 have hlen : (xs ++ strCells s).length = (n + s.size) * 1 := by rw [List.length_append, hxl, strCells_length, Nat.mul_one]
 by_cases hm : s.size = 0
 ·-- nothing is appended
  have hs : strCells s = [] := List.eq_nil_of_length_eq_zero (by rw [strCells_length]; exact hm)
  refine ⟨v, w, ?_, by rw [hs, hm]; simpa using hown, ⟨rfl, rfl, rfl, Nat.le_refl _, fun _ _ _ => rfl⟩, .inl rfl⟩
  rcases hown.2 with ⟨rfl, rfl⟩ | ⟨q, cap, cur, rfl, _, ⟨fz, hq, hfz⟩, hnc, _, _, _⟩
  ·simp [Builtin.append_, run_underlying ht, run_underlying hu, sizeOf, typeInfo, hi, Builtin.lenOf, Builtin.firstCells, hm]
  ·simp [Builtin.append_, run_underlying ht, run_underlying hu, sizeOf, typeInfo, hi, Builtin.lenOf, Builtin.firstCells, hnc, storeCells, hm]
 ·have hml : maxLen = 9223372036854775807 := rfl
  have hcm : ∀ old, grownCap w (n + s.size) old e <= maxLen := fun old => grownCap_le_maxLen w (n + s.size) old e (by rw [hml]; exact h63)
  have grown : ∀ (old : Nat), Ry (w.drew.alloc (.cells (xs.toArray ++ (strCells s).toArray ++ Builtin.zeroCells z.cells (grownCap w (n + s.size) old e - (n + s.size))) e)) e 1
    (.slice (some ⟨w.heap.size, 0, none⟩) (n + s.size) (grownCap w (n + s.size) old e)) (n + s.size) (xs ++ strCells s) := by
   intro old
   have hge := grownCap_ge w (n + s.size) old e
   refine ⟨hlen, .inr ⟨w.heap.size, _, _, rfl, Nat.zero_le _, ⟨_, heap_alloc_new w.drew _, S1 _⟩, hge, hcm old, ?_, ?_⟩⟩
   ·simp only [Array.size_append, List.size_toArray, size_zeroCells, hzs, hxl, strCells_length]
    omega
   ·simp only [Array.toList_append, List.append_assoc]
    rw [<- List.append_assoc, <- hlen]
    exact List.take_left
  have gb : ∀ old, w.grownBy (w.drew.alloc (.cells (xs.toArray ++ (strCells s).toArray ++ Builtin.zeroCells z.cells (grownCap w (n + s.size) old e - (n + s.size))) e)) v.ownBlock :=
   fun old => ⟨rfl, rfl, rfl, by show w.heap.size <= (w.heap.push _).size; rw [Array.size_push]; exact Nat.le_succ _, fun k hk _ => O2 w.drew _ k hk⟩
  rcases hown.2 with ⟨rfl, rfl⟩ | ⟨q, cap, cur, rfl, _, ⟨fz, hq, hfz⟩, hnc, hcmx, hcs, htake⟩
  ·have hx : xs = [] := List.eq_nil_of_length_eq_zero hxl
   subst hx
   have hr := run_append_nil_string (P := P) w t u ty e i z ht hu hi hz s (by omega) (by omega) (by have hb := hbytes; simp only [Nat.zero_add] at hb; omega)
   have hsc : (strCells s).toArray = s.data.map (fun b => Value.int .u8 b.toNat) := by
    apply Array.ext'
    simp [strCells]
   rw [<- hsc] at hr
   have hg := grown 0
   have hgb := gb 0
   simp only [Nat.zero_add, List.nil_append, Array.empty_append] at hg hgb ⊢
   exact ⟨_, _, hr, hg, hgb, .inr ⟨rfl, fun k hk => O2 w.drew _ k hk⟩⟩
  ·by_cases hroom : n + s.size <= cap
   ·have hfit : n + s.size <= cur.size := by rw [hcs, Nat.mul_one]; exact hroom
    have hr := X0 (P := P) w t u ty e i ht hu hi hs1 q n cap cur fz hq hfz s hroom hfit
    refine ⟨_, _, hr, ⟨hlen, .inr ⟨q, cap, _, rfl, Nat.zero_le _, ⟨_, setRow_heap w q cur _ e _ hq, Aau hfz ?_⟩, hroom, hcmx, ?_, ?_⟩⟩, ⟨rfl, rfl, rfl, by simp, fun k hk hk' => setRow_other w q k _ (fun e => hk' (by simp [Value.ownBlock, e]))⟩, .inl rfl⟩
    ·simp only [List.size_toArray, List.length_append, List.length_take, List.length_drop, Array.length_toList, strCells_length]
     omega
    ·simp only [List.size_toArray, List.length_append, List.length_take, List.length_drop, Array.length_toList, strCells_length]
     omega
    ·rw [Nat.mul_one] at htake
     rw [List.toList_toArray, htake, <- hlen]
     exact List.take_left
   ·have holds : ∀ j u, xs[j]? = some u -> w.cell? ((⟨q, 0, none⟩ : Addr).add j) = some u := hown.cells (g := q) rfl
    have hr := run_append_grow_string (P := P) w t u ty e i z ht hu hi hz ⟨q, 0, none⟩ n cap xs (by rw [hs1, Nat.mul_one]; exact hxl) holds s (by omega) (by omega) (growslice_fits (by omega) hbytes)
    exact ⟨_, _, hr, grown cap, gb cap, .inr ⟨rfl, fun k hk => O2 w.drew _ k hk⟩⟩
def Bbi (P : Program) (w : World) (T U ty e : TypeId) (i : TypeInfo) (yv : Value) (m : Nat) (news : List Value) : Prop :=
 ∀ {v : Value} {n : Nat} {xs : List Value}, Ry w e i.size v n xs -> n + m <= 9223372036854775807 -> (n + m) * i.bytes <= 140737488355328 ->
  ∃ v' w', (Builtin.append_ #[T, U] ty #[v, yv]).run P w = .ok v' w' /\ Ry w' e i.size v' (n + m) (xs ++ news) /\ w.grownBy w' v.ownBlock /\
   (v'.ownBlock = v.ownBlock \/ (v'.ownBlock = some w.heap.size /\ ∀ k < w.heap.size, w'.heap[k]? = w.heap[k]?))
theorem A39 {ok : Nat -> Prop} (s : ByteArray) : Is (fun (x : Int) c => Rep E.ET ok w (.int .u8) x c) (bytesOf s) (strCells s) := by
 unfold bytesOf strCells
 generalize s.data.toList = l
 induction l with
 | nil => rfl
 | cons x l ih => exact ⟨[.int .u8 (x.toNat : Int)], _, rfl, rfl, ih⟩
theorem A7v (hE : C8 P E) {T U ty e : TypeId} {t : Ty} {i : TypeInfo} {z : Value} {y : AV} {yv : Value} {ys : List t.den} (h0 : t.sz ≠ 0) (h : Asb E bs (Nat.beq T U) U e t y = some ys) (hy : B7 E.ET g bs w y yv) (hb : Ct E.ET g bs w)
  (ht : P.underlying T = some (.slice e)) (hi : P.info? e = some i) (hz : i.zero = some z) (hsz : i.size = t.sz) (hzs : z.cells.size = i.size) :
  ∃ news, Is (fun x c => Rep E.ET (okB g w) w t x c) ys news /\ Bbi P w T U ty e i yv ys.length news := by
 have plain : (bif Nat.beq T U then Avq E bs e t y else none) = some ys -> ∃ news, Is (fun x c => Rep E.ET (okB g w) w t x c) ys news /\ Bbi P w T U ty e i yv ys.length news := by
  intro h1
  obtain ⟨hTU, h2⟩ := Ad h1
  have hTU := Nat.eq_of_beq_eq_true hTU
  subst hTU
  obtain ⟨A, c, news, rfl, q1, q2, q3⟩ := Axl h0 h2 hy hb
  have hnl : news.length = ys.length * i.size := by rw [Is.length (fun x c hc => Rep.length hc) q1, hsz]
  refine ⟨news, q1, fun {v n xs} ho h1 h2 => ?_⟩
  exact Apu (P := P) (ty := ty) ht hi hz rfl hzs (by rw [hsz]; exact h0) ho (A := A) (c := c) hnl (fun hA => by rw [q2 hA]; rfl) q3 (Auy q1) h1 h2
 unfold Asb at h
 split at h
 ·rename_i s
  split at h
  ·rename_i et
   subst et
   split at h
   ·rename_i hkU hke
    simp only [Option.some.injEq] at h
    subst h
    obtain ⟨d2, uU, rfl⟩ := C4 hE hkU (by simp)
    have hyv : yv = .string s := Abs hy
    subst hyv
    have hlen : (bytesOf s).length = s.size := by
     show (s.data.toList.map _).length = s.data.size
     rw [List.length_map, Array.length_toList]
    have hs1 : i.size = 1 := hsz
    refine ⟨strCells s, A39 s, fun {v n xs} ho h1 h2 => ?_⟩
    have hlen' : (List.length (α := Ty.den (.int .u8)) (bytesOf s)) = s.size := hlen
    rw [hlen'] at h1 h2 ⊢
    rw [hs1] at ho ⊢
    exact Aff (P := P) (ty := ty) ht uU hi hz hs1 (by rw [hzs, hs1]) ho s h1 h2
   ·cases h
  ·cases h
 ·exact plain h
theorem Avp (hE : C8 P E) {d : Option Tmp} {T U ty : TypeId} {x y : AV} {xv yv : Value} {K : AV -> Ag -> Option R} (h : Uv E d T U x y bs K = some out)
  (hx : B7 E.ET g bs w x xv) (hy : B7 E.ET g bs w y yv) (hb : Ct E.ET g bs w) : Asz P E.ET out g bs w K (Builtin.append_ #[T, U] ty #[xv, yv]) := by
 unfold Uv at h
 split at h
 ·rename_i e hk
  obtain ⟨dd, hd, rfl⟩ := C4 hE hk (by simp)
  split at h
  ·rename_i r hr
   obtain ⟨h1, h⟩ := Ad h
   obtain ⟨r', i, hr', hi, hsz, hrs, hby, hne, hro⟩ := Iu hE h1
   rw [hr] at hr'
   simp only [Option.some.injEq] at hr'
   subst hr'
   obtain ⟨i', z, hi', hsz', _, hz, hzr, hzs, _⟩ := hro.info
   rw [hi] at hi'
   simp only [Option.some.injEq] at hi'
   subst hi'
   split at h
   ·rename_i ys hys
    obtain ⟨news, q1, hApp⟩ := A7v (ty := ty) hE hne hys hy hb hd hi hz hsz (by rw [hzs, hsz'])
    split at h
    ·-- to nil
     obtain ⟨h2, h⟩ := Ad h
     obtain ⟨h2, h3⟩ := Ix h2
     have h2 := of_decide_eq_true h2
     have h3 := of_decide_eq_true h3
     rw [show xv = .slice none 0 0 from hx]
     obtain ⟨v', w1, k1, k2, k3, k4⟩ := hApp (Ry.nil w e i.size)
      (by rw [Nat.zero_add]; exact h3) (by rw [Nat.zero_add, hby]; exact h2)
     rw [Nat.zero_add, List.nil_append, hsz] at k2
     obtain ⟨v, bs', g', n1, n2, n3, n4⟩ := Nf h hb k3.os k3.tape k3.output k3.size
      (fun q hq _ => k3.block q hq (by simp [Value.ownBlock]))
      (fun q hq hlt => by
       rcases k4 with k4 | k4
       ·rw [hq] at k4; simp [Value.ownBlock] at k4
       ·rw [hq] at k4; simp only [Option.some.injEq] at k4; have := k4.1; omega) k2 q1
     exact ⟨v, _, bs', g', _, n1, k1, n2, n3, n4⟩
    ·rename_i b v _
     split at h
     ·rename_i e' t xs hbox
      obtain ⟨hee, h⟩ := Ad h
      obtain ⟨hee, hb0⟩ := Ix hee
      have hee := Nat.eq_of_beq_eq_true hee
      subst hee
      split at h
      ·rename_i et
       subst et
       obtain ⟨h2, h⟩ := Ad h
       obtain ⟨h2, h3⟩ := Ix h2
       have h2 := of_decide_eq_true h2
       have h3 := of_decide_eq_true h3
       have hlook := A3 hbox (by simp)
       have hxv := hx.2.2 _ _ _ hbox
       subst hxv
       obtain ⟨cs, p1, p2, p3⟩ := hb b v _ hlook
       rw [<- hsz] at p1
       obtain ⟨v', w1, k1, k2, k3, k4⟩ := hApp p1
        h3 (by rw [hby]; exact h2)
       rw [hsz, <- List.length_append] at k2
       have hbk := hb.kill hlook
       obtain ⟨v2, bs', g', n1, n2, n3, n4⟩ := Nf h hbk k3.os k3.tape k3.output k3.size
        (fun q hq hne' => by
         by_cases hq' : (g.hd b).ownBlock = some q
         ·rcases k4 with k4 | k4
          ·exact absurd (k4.trans hq') hne'
          ·exact k4.2 q (by rcases p1.2 with ⟨e1, _⟩ | ⟨blk, cap, cur, e1, _, ⟨fz, hbk', _⟩, _⟩
                            ·rw [e1] at hq'; simp [Value.ownBlock] at hq'
                            ·rw [e1] at hq'; simp only [Value.ownBlock, Option.some.injEq] at hq'; subst hq'; exact (Array.getElem?_eq_some_iff.1 hbk').1)
         ·exact k3.block q hq (fun e => hq' e.symm))
        (fun q hq hlt => by
         rcases k4 with k4 | k4
         ·refine ⟨b, ⟨p3 q (k4 ▸ hq), ne0 hb0⟩, fun ver c hl => ?_⟩
          unfold kill at hl
          rw [An] at hl
          simp only [Option.some.injEq, Prod.mk.injEq] at hl
          exact hl.2.symm
         ·rw [hq] at k4; simp only [Option.some.injEq] at k4; have := k4.1; omega) k2 (Is.join p2 q1)
       exact ⟨v2, _, bs', g', _, n1, k1, n2, n3, (Ext.kill hlook).trans n4⟩
      ·cases h
     ·cases h
    ·cases h
   ·cases h
  ·cases h
 ·cases h
theorem Ax4 (hE : C8 P E) {T U ty : TypeId} {x y : AV} {xv yv : Value} {K : AV -> Ag -> Option R} (h : Ab6 E T U x y bs K = some out)
  (hx : B7 E.ET g bs w x xv) (hy : B7 E.ET g bs w y yv) (hb : Ct E.ET g bs w) : Asz P E.ET out g bs w K (Builtin.copy_ #[T, U] ty #[xv, yv]) := by
 unfold Ab6 at h
 split at h
 ·rename_i b v
  split at h
  ·rename_i e' t xs hbox
   obtain ⟨hp, h⟩ := Ad h
   have hp := of_decide_eq_true hp
   refine Ary hE h ?_ hy hb
   have hxv := hx.2.2 _ _ _ hbox
   obtain ⟨cs, k1, _, _⟩ := hb b v _ (A3 hbox (by simp))
   rcases k1.2 with ⟨_, e0⟩ | ⟨blk, cap, cur, e1, _⟩
   ·omega
   ·refine ⟨hx.1, hx.2.1, fun T'' t'' xs' hc' => ?_⟩
    rw [hbox] at hc'
    simp only [Xr.row.injEq] at hc'
    obtain ⟨rfl, rfl, hxs⟩ := hc'
    have hxs := eq_of_heq hxs
    subst hxs
    exact ⟨Int.le_refl _, hp, blk, _, cap, e1, by rw [hxv, e1]; simp⟩
  ·cases h
 ·exact Ary hE h hx hy hb
end
open Go.RowKit
section
variable {P : Program} {E : Env} {R : Type} {out : R} {g0 g g' : Gh} {w0 w w' : World} {sl : List AV} {bs0 bs bs' : Ag} {a : Act}
def Bek (ET : TypeId) (out : R) (g : Gh) (bs : Ag) (w : World) (K : AV -> Ag -> Option R) (u : Value) (w' : World) : Prop :=
 ∃ v bs' g', K v bs' = some out /\ B7 ET g' bs' w' v u /\ Ct ET g' bs' w' /\ Ext g bs w g' bs' w'
theorem Fz {o : Oper} {W : Act -> World -> Prop} {Q : O8} {K : AV -> Ag -> Option R} {s : Sem Value}
  (hs : (execOp a.eval o).run P w = (s >>= fun v => pure (.value v)).run P w) (h : Asz P E.ET out g bs w K s)
  (hW : ∀ u w', Bek E.ET out g bs w K u w' -> W (a.put o.dst u) w') : o.wp P a w W Q := by
 obtain ⟨v, u, bs', g', w', h1, h2, h3, h4, h5⟩ := h
 refine Ali (u := u) (w' := w') ?_ (hW u w' ⟨v, bs', g', h1, h3, h4, h5⟩)
 rw [hs, Sem.run_bind, h2]; rfl
theorem Agn (hr : Rel E.ET g0 bs0 w0 g ⟨sl, bs⟩ a w) : ∀ (xs : List Operand), Du (B7 E.ET g bs w) (xs.map (Ht sl)) (xs.map a.eval)
 | [] => trivial
 | x :: xs => ⟨Bq hr x, Agn hr xs⟩
theorem Apm (hr : Rel E.ET g0 bs0 w0 g ⟨sl, bs⟩ a w) : ∀ (xs : List (Nat × Operand)),
  Du (fun p q => p.1 = q.1 /\ B7 E.ET g bs w p.2 q.2) (xs.map fun p => (p.1, Ht sl p.2)) (xs.map fun p => (p.1, a.eval p.2))
 | [] => trivial
 | x :: xs => ⟨⟨rfl, Bq hr x.2⟩, Apm hr xs⟩
theorem Acg {K : AV -> Ag -> Option R} {s : Sem Value} (hb : Ct E.ET g bs w) (h : ∃ v u, (fun v => K v bs) v = some out /\ B7 E.ET g bs w v u /\ s.run P w = .ok u w) : Asz P E.ET out g bs w K s :=
 Asz.pure hb h
theorem A8o (dst : Option Tmp) (T : TypeId) (ps : Array (Nat × Operand)) (type : TypeId) (pos : String) (nm) (guard) :
  (execOp a.eval (⟨dst, .build T ps, type, pos, nm, guard⟩ : Oper)).run P w = (Instr.build T (ps.map fun p => (p.1, a.eval p.2)) >>= fun v => pure (.value v)).run P w := by
 simp only [execOp]
theorem Atk (dst : Option Tmp) (T : TypeId) (n : Nat) (ps : Array (Nat × Operand)) (type : TypeId) (pos : String) (nm) (guard) :
  (execOp a.eval (⟨dst, .buildSlice T n ps, type, pos, nm, guard⟩ : Oper)).run P w = (Instr.buildSlice T n (ps.map fun p => (p.1, a.eval p.2)) >>= fun v => pure (.value v)).run P w := by
 simp only [execOp]
theorem Aue {α β : Type} {r : α -> β -> Prop} : ∀ {l1 l2 : List α} {m1 m2 : List β}, Du r l1 m1 -> Du r l2 m2 -> Du r (l1 ++ l2) (m1 ++ m2)
 | [], _, [], _, _, h => h
 | _ :: _, _, _ :: _, _, ⟨h1, h2⟩, h => ⟨h1, Aue h2 h⟩
theorem Ais.up : ∀ {x : AV} {v : Value}, Ais g bs x v -> B7 E.ET g bs w x v
 | .ref _ _ _, _, hh => hh
 | .top, _, hh => hh.elim
 | .und, _, hh => hh.elim
 | .nilS, _, hh => hh.elim
 | .nilP, _, hh => hh.elim
 | .val _ _, _, hh => hh.elim
 | .osl _ _, _, hh => hh.elim
 | .imm _ _ _, _, hh => hh.elim
 | .oel _ _ _ _, _, hh => hh.elim
 | .osb _ _ _, _, hh => hh.elim
 | .fn _ _, _, hh => hh.elim
 | .agg _, _, hh => hh.elim
 | .tup _, _, hh => hh.elim
theorem A2i : ∀ {l : List AV} {m : List Value}, A4y l = true -> Du (B7 E.ET g bs w) l m -> Du (Ais g bs) l m
 | [], [], _, _ => trivial
 | .ref b v o :: l, u :: m, h, ⟨h1, h2⟩ => ⟨h1, A2i (l := l) h h2⟩
 | [], _ :: _, _, hh => hh.elim
 | .ref _ _ _ :: _, [], _, hh => hh.elim
 | .top :: _, _, h, _ => by cases h
 | .und :: _, _, h, _ => by cases h
 | .nilS :: _, _, h, _ => by cases h
 | .nilP :: _, _, h, _ => by cases h
 | .val _ _ :: _, _, h, _ => by cases h
 | .osl _ _ :: _, _, h, _ => by cases h
 | .imm _ _ _ :: _, _, h, _ => by cases h
 | .oel _ _ _ _ :: _, _, h, _ => by cases h
 | .osb _ _ _ :: _, _, h, _ => by cases h
 | .fn _ _ :: _, _, h, _ => by cases h
 | .agg _ :: _, _, h, _ => by cases h
 | .tup _ :: _, _, h, _ => by cases h
theorem A7z {ET : TypeId} {ok : Nat -> Prop} {t : Ty} {l : List t.den} : ∀ {n i : Nat} {cs : List Value}, Is (fun x c => Rep ET ok w t x c) (l.drop i) cs -> i + n <= l.length ->
  ∃ c1 c2, cs = c1 ++ c2 /\ Rep ET ok w (A8p t n) (Bdm t n l i) c1
 | 0, i, cs, h, _ => ⟨[], cs, rfl, rfl⟩
 | 1, i, cs, h, hl => by
  have e : l.drop i = l[i] :: l.drop (i + 1) := List.drop_eq_getElem_cons (by omega)
  rw [e] at h
  obtain ⟨c1, c2, e2, h1, h2⟩ := h
  refine ⟨c1, c2, e2, ?_⟩
  show Rep ET ok w t (gd t l (i : Int)) c1
  rw [Aba t l i (by omega) (by omega)]
  exact h1
 | n + 2, i, cs, h, hl => by
  have e : l.drop i = l[i] :: l.drop (i + 1) := List.drop_eq_getElem_cons (by omega)
  rw [e] at h
  obtain ⟨c1, c2, e2, h1, h2⟩ := h
  obtain ⟨d1, d2, e3, h3⟩ := A7z (n := n + 1) (i := i + 1) h2 (by omega)
  refine ⟨c1 ++ d1, d2, by rw [e2, e3, List.append_assoc], c1, d1, rfl, ?_, h3⟩
  show Rep ET ok w t (gd t l (i : Int)) c1
  rw [Aba t l i (by omega) (by omega)]
  exact h1
theorem Ayt (hE : C8 P E) {T : TypeId} {x : AV} {xv : Value} {K : AV -> Option R} (h : Afr E T x K = some out) (hx : B7 E.ET g bs w x xv) :
  ∃ v u, K v = some out /\ B7 E.ET g bs w v u /\ (Instr.arrayAt T xv).run P w = .ok u w := by
 unfold Afr at h
 split at h
 ·rename_i n e t l hk
  obtain ⟨hc, h⟩ := Ad h
  obtain ⟨hc0, hle⟩ := Ix hc
  obtain ⟨hn0, hs0⟩ := Ix hc0
  have hle := of_decide_eq_true hle
  have hn0 : n ≠ 0 := fun e => by subst e; cases hn0
  have hs0 : t.sz ≠ 0 := fun e => by rw [e] at hs0; cases hs0
  obtain ⟨d, hd, rfl⟩ := C4 hE hk (by simp)
  obtain ⟨A, c, cs', e1, h6, h7, h8⟩ := Id hx
  simp only [List.cons.injEq, and_true] at e1
  subst e1
  obtain ⟨c1, c2, e2, h3⟩ := A7z (n := n) (i := 0) (by rw [List.drop_zero]; exact h7) (by omega)
  have hlen := Is.length (fun x c hc => Rep.length hc) h7
  have hpos : 0 < cs'.length := by rw [hlen]; exact Nat.mul_pos (by omega) (by omega)
  rcases h8 with h8 | ⟨b, o, rfl, k1, k2⟩
  ·rw [h8] at hpos; simp at hpos
  ·refine ⟨_, .pointer (some ⟨b, o, none⟩), h, ⟨b, o, c1, rfl, k1, h3, by rw [e2] at k2; exact k2.left⟩, ?_⟩
   have : ¬ l.length < n := by omega
   simp [Instr.arrayAt, run_underlying hd, this]
 ·cases h
set_option maxHeartbeats 1000000 in
theorem A3k (hE : C8 P E) {o : Oper} {K : AV -> Ag -> Option R} (h : Ait E o sl bs K = some out) (hr : Rel E.ET g0 bs0 w0 g ⟨sl, bs⟩ a w) {W : Act -> World -> Prop} {Q : O8}
  (hW : ∀ u w', Bek E.ET out g bs w K u w' -> W (a.put o.dst u) w') : o.wp P a w W Q := by
 have hb : Ct E.ET g bs w := hr.boxes
 obtain ⟨dst, op, type, pos, nm, guard⟩ := o
 simp only at hW
 unfold Ait at h
 simp only at h
 split at h
 ·rename_i x
  exact Ali (u := a.eval x) (w' := w) (by simp [execOp]) (hW _ _ ⟨_, _, _, h, Bq hr x, hb, Ext.refl _ _ _⟩)
 ·rename_i x
  exact Ali (u := a.eval x) (w' := w) (by simp [execOp]) (hW _ _ ⟨_, _, _, h, Bq hr x, hb, Ext.refl _ _ _⟩)
 ·rename_i c x y
  split at h
  ·rename_i t ht
   have hc : a.eval c = .bool t := by have := Bq hr c; rw [ht] at this; exact Uw this
   cases t with
   | true => exact Ali (u := a.eval x) (w' := w) (by simp [execOp, hc, asBool]) (hW _ _ ⟨_, _, _, h, Bq hr x, hb, Ext.refl _ _ _⟩)
   | false => exact Ali (u := a.eval y) (w' := w) (by simp [execOp, hc, asBool]) (hW _ _ ⟨_, _, _, h, Bq hr y, hb, Ext.refl _ _ _⟩)
  ·cases h
 ·rename_i op T x y z
  exact Fz (s := An1 op T x y (a.eval x) (a.eval y)) rfl (Acg hb (Ak3 hE h (Bq hr x) (Bq hr y))) hW
 ·rename_i op T x
  exact Fz (s := Op.unary op (a.eval x)) rfl (Acg hb (Ar7 h (Bq hr x))) hW
 ·rename_i s d x
  exact Fz (s := convert s d (a.eval x)) rfl (A3t hE h (Bq hr x) hb) hW
 ·rename_i t i
  split at h
  ·rename_i l hl
   split at h
   ·rename_i v hv
    have ht := Bq hr t
    rw [hl] at ht
    obtain ⟨u, h1, h2⟩ := Aui ht hv
    exact Fz (s := Instr.extract (a.eval t) i) rfl (Acg hb ⟨v, u, h, h1, h2⟩) hW
   ·cases h
  ·cases h
 ·rename_i t x
  split at h
  ·rename_i n hn
   obtain ⟨h1, h⟩ := Ad h
   have hx := Bq hr x
   rw [hn] at hx
   have hm := Aft (w := w) (n := n) hE h1
   refine Fz (s := Instr.makeInterface t (a.eval x)) rfl (Acg hb ⟨_, _, h, Bd4 _, ?_⟩) hW
   rw [Lp hx]; exact hm
  ·cases h
 ·rename_i x xT T ok
  exact Fz (s := Instr.typeAssert (a.eval x) xT T ok) rfl (Acg hb (Avc hE h (Bq hr x))) hW
 ·rename_i T x
  exact Fz (s := Instr.loadAt T (a.eval x)) rfl (Acg hb (Air hE h (Bq hr x) hb)) hW
 ·rename_i T x y
  obtain ⟨bs', w', h1, h2, h3, h4⟩ := Azj hE h (Bq hr x) (Bq hr y) hb
  exact Bdi (w' := w') (by simp only [execOp, Sem.run_bind, h2]; rfl) (hW _ _ ⟨_, _, _, h1, rfl, h3, h4⟩)
 ·rename_i T x f
  exact Fz (s := Instr.fieldAt T (a.eval x) f) rfl (Acg hb (Aol hE h (Bq hr x))) hW
 ·rename_i T x f
  exact Fz (s := Instr.field T (a.eval x) f) rfl (Acg hb (Ay6 hE h (Bq hr x))) hW
 ·rename_i x
  have hx := Bq hr x
  split at h
  ·rename_i b v off hbx
   rw [hbx] at hx
   obtain ⟨h1, h⟩ := Ad h
   obtain ⟨T, cells, hc⟩ := Aun h1
   obtain ⟨blk, k1, k2⟩ := hx.2.2 T cells hc
   exact Ali (u := a.eval x) (w' := w) (by simp only [execOp]; rw [k2]; rfl) (hW _ _ ⟨_, _, _, h, hx, hb, Ext.refl _ _ _⟩)
  ·rename_i t y off hbx
   rw [hbx] at hx
   obtain ⟨b, o, cs, k1, k2⟩ := id hx
   exact Ali (u := a.eval x) (w' := w) (by simp only [execOp]; rw [k1]; rfl) (hW _ _ ⟨_, _, _, h, hx, hb, Ext.refl _ _ _⟩)
  ·rename_i t p hbx
   rw [hbx] at hx
   cases p with
   | none => cases h
   | some y =>
    obtain ⟨b, o, cs, k1, k2, k3, k4⟩ := Id hx
    simp only [List.cons.injEq, and_true] at k1
    refine Ali (u := a.eval x) (w' := w) (by simp only [execOp]; rw [k1]; rfl) (hW _ _ ⟨_, _, _, h, ?_, hb, Ext.refl _ _ _⟩)
    exact ⟨b, o, cs, k1, k2, k3, k4⟩
  ·cases h
 ·rename_i T x i
  exact Fz (s := Instr.indexAt T (a.eval x) (a.eval i)) rfl (Acg hb (App hE h (Bq hr x) (Bq hr i) hb)) hW
 ·rename_i T x i
  exact Fz (s := Instr.index T (a.eval x) (a.eval i)) rfl (Acg hb (Az6 hE h (Bq hr x) (Bq hr i))) hW
 ·rename_i T x lo hi
  split at h
  ·rename_i l u hl hh
   exact Fz (s := Instr.sliceAt T (a.eval x) (lo.map a.eval) (hi.map a.eval) none) rfl (Acg hb (An5 hE h (Bq hr x) hb (Adp hr hl) (Adp hr hh))) hW
  ·cases h
 ·rename_i T
  split at h
  ·rename_i z hz
   exact Fz (s := Instr.alloc T true (.tuple #[])) rfl (Aza hE hz h hb) hW
  ·cases h
 ·rename_i T x
  split at h
  ·rename_i r hrow
   obtain ⟨_, h⟩ := Ad h
   exact Fz (s := Instr.box T (a.eval x)) rfl (A5u hE h (Bq hr x) hb) hW
  ·cases h
 ·rename_i T ps
  have h1 := Az4 hE h (pv := ps.map fun p => (p.1, a.eval p.2)) (by rw [Array.toList_map]; exact Apm hr ps.toList)
  have h2 := A8o (P := P) (w := w) (a := a) dst T ps type pos nm guard
  exact Fz h2 (Acg hb h1) hW
 ·rename_i T n ps
  have h1 := Alp hE h (pv := ps.map fun p => (p.1, a.eval p.2)) (by rw [Array.toList_map]; exact Apm hr ps.toList) hb
  have h2 := Atk (P := P) (w := w) (a := a) dst T n ps type pos nm guard
  exact Fz h2 h1 hW
 ·rename_i fn fs caps
  unfold Sk at h
  split at h
  ·rename_i f
   obtain ⟨h0, h'⟩ := Ad h
   obtain ⟨h00, h0⟩ := Ix h0
   obtain rfl : fs = #[] := by
    obtain ⟨l⟩ := fs
    cases l with
    | nil => rfl
    | cons x l => cases h00
   exact Fz (s := Instr.makeFunc (.func f) #[] (caps.map a.eval)) (by simp [execOp]) (Acg hb ⟨.fn f (caps.toList.map (Ht sl)), .func (.func f) #[] (caps.map a.eval), h', (show Cn E.ET g bs w (.fn f (caps.toList.map (Ht sl))) (.func (.func f) #[] (caps.map a.eval)) from ⟨caps.toList.map a.eval, by rw [<- Array.toList_map], A2i h0 (Agn hr _)⟩), by simp [Instr.makeFunc]⟩) hW
  ·cases h
 ·rename_i T n m
  exact Fz (s := Instr.makeSlice T (a.eval n) (a.eval m)) rfl (Anp hE h (Bq hr n) (Bq hr m) hb) hW
 ·-- a call
  rename_i f xs ts
  unfold A0f at h
  split at h
  ·rename_i fid caps hf
   split at h
   ·rename_i s hs
    have hfv := Bq hr f
    rw [hf] at hfv
    obtain ⟨cv, hfv, hcap⟩ := hfv
    have hok := hE.calls fid s hs
    obtain ⟨fn, hfn, hname, hbody⟩ := hok.fn
    have hex : (execOp a.eval (⟨dst, .call { callee := .value f, args := xs, argTypes := ts }, type, pos, nm, guard⟩ : Oper)).run P w = .ok (.enter fid (xs.map a.eval ++ cv.toArray)) w := by
     have hname' : ¬ fn.name = "runtime.NumGoroutine" := by simpa using hname
     have hbody' : ¬ fn.body = none := by intro e; rw [e] at hbody; cases hbody
     simp [execOp, resolve, hfv, Deferred.ofValue, invoke, callFunc, hfn, hname', hbody']
    unfold Oper.wp
    rw [hex]
    simp only [Oper.upon_enter]
    have hc := hok.run _ _ bs R K out h g w (xs.toList.map a.eval ++ cv) hr.glb (Aue (Agn hr _) (hcap.mono fun _ _ => Ais.up)) hb
    rw [show (List.map a.eval xs.toList ++ cv).toArray = xs.map a.eval ++ cv.toArray by rw [<- Array.toList_map]; simp] at hc
    refine Calls.mono hc fun e w' he => ?_
    obtain ⟨u, v, bs', g', rfl, k1, k2, k3, k4⟩ := he
    exact hW u w' ⟨v, bs', g', k1, k2, k3, k4⟩
   ·cases h
  ·cases h
 ·-- a builtin
  rename_i b xs ts
  have hargs := Agn hr xs.toList
  split at h
  ·rename_i T l x hts hx
   rw [hx] at hargs
   match hv : xs.toList.map a.eval, hargs with
   | [xv], ⟨h1, _⟩ =>
    refine Fz (s := Builtin.len_ ts type (xs.map a.eval)) (by simp [execOp, resolve, invoke, builtin]) (Acg hb ?_) hW
    rw [show xs.map a.eval = #[xv] by rw [<- hv, <- Array.toList_map]]
    exact Axr hE (by rw [<- Array.getElem?_toList, hts]; rfl) h h1 hb
  ·rename_i T T' x y hts hx
   rw [hx] at hargs
   match hv : xs.toList.map a.eval, hargs with
   | [xv, yv], ⟨h1, h2, _⟩ =>
    refine Fz (s := Builtin.append_ ts type (xs.map a.eval)) (by simp [execOp, resolve, invoke, builtin]) ?_ hW
    rw [show xs.map a.eval = #[xv, yv] by rw [<- hv, <- Array.toList_map], show ts = #[T, T'] by rw [<- hts]]
    exact Avp hE h h1 h2 hb
  ·rename_i T T' x y hts hx
   rw [hx] at hargs
   match hv : xs.toList.map a.eval, hargs with
   | [xv, yv], ⟨h1, h2, _⟩ =>
    refine Fz (s := Builtin.copy_ ts type (xs.map a.eval)) (by simp [execOp, resolve, invoke, builtin]) ?_ hW
    rw [show xs.map a.eval = #[xv, yv] by rw [<- hv, <- Array.toList_map], show ts = #[T, T'] by rw [<- hts]]
    exact Ax4 hE h h1 h2 hb
  ·refine Fz (s := Builtin.max_ ts type (xs.map a.eval)) (by simp [execOp, resolve, invoke, builtin]) (Acg hb ?_) hW
   obtain ⟨v, u, k1, k2, k3⟩ := A1e (P := P) ts type h hargs
   refine ⟨v, u, k1, k2, ?_⟩
   rw [show (List.map a.eval xs.toList).toArray = xs.map a.eval by rw [<- Array.toList_map]] at k3
   simpa using k3
  ·refine Fz (s := Builtin.min_ ts type (xs.map a.eval)) (by simp [execOp, resolve, invoke, builtin]) (Acg hb ?_) hW
   obtain ⟨v, u, k1, k2, k3⟩ := A1e (P := P) ts type h hargs
   refine ⟨v, u, k1, k2, ?_⟩
   rw [show (List.map a.eval xs.toList).toArray = xs.map a.eval by rw [<- Array.toList_map]] at k3
   simpa using k3
  ·cases h
 ·rename_i T x
  exact Fz (s := Instr.arrayAt T (a.eval x)) rfl (Acg hb (Ayt hE h (Bq hr x))) hW
 ·cases h
def Ak8 (ET : TypeId) (g0 : Gh) (bs0 : Ag) (w0 : World) (kp : List Nat) (vals : List Value) : A3u := fun st a w => (∃ g, Rel ET g0 bs0 w0 g st a w) /\ ∀ i ∈ kp, a.tmps.getD i undef = vals.getD i undef
theorem A2e : ∀ {l : List Nat} {n : Nat}, Au9.notN l n = true -> n ∉ l
 | [], _, _ => by simp
 | a :: l, n, h => by
  simp only [Au9.notN, Bool.and_eq_true] at h
  intro hm
  rcases List.mem_cons.1 hm with rfl | hm
  ·simp at h
  ·exact A2e h.2 hm
theorem A0k {kp : List Nat} {vals : List Value} {d : Option Tmp} (hd : Au9 kp d = true) (u : Value) (h : ∀ i ∈ kp, a.tmps.getD i undef = vals.getD i undef) : ∀ i ∈ kp, (a.put d u).tmps.getD i undef = vals.getD i undef := by
 intro i hi
 cases d with
 | none => exact h i hi
 | some d =>
  have hne : i ≠ d := by rintro rfl; exact A2e hd hi
  simp only [Act.put, Array.getD_eq_getD_getElem?]
  rw [Array.getElem?_setIfInBounds_ne (Ne.symm hne), <- Array.getD_eq_getD_getElem?]
  exact h i hi
theorem A7p (ET : TypeId) (g0 : Gh) (bs0 : Ag) (w0 : World) (kp : List Nat) (vals : List Value) : Ar4 (Ak8 ET g0 bs0 w0 kp vals) := by
 refine ⟨fun st a w t b ⟨⟨g, hr⟩, _⟩ hg => ?_, fun st a w t b ⟨⟨g, hr⟩, hk⟩ hg => ?_⟩
 ·have := hr.slots t
  rw [hg] at this
  exact Uw (E := { rows := [], calls := [], ET := ET }) this
 ·refine ⟨⟨g, hr.retell t ?_⟩, hk⟩
  have := hr.slots t
  rw [hg] at this
  exact this
theorem Aa8 : ∀ (all : List Oper) (j : Nat), S6 all j = (all[j]?).bind (·.dst)
 | [], j => by simp [S6]
 | o :: _, 0 => by simp [S6]
 | _ :: l, n + 1 => by simp [S6, Aa8 l n]
theorem Bf3 (hE : C8 P E) {vals : List Value} {all : List Oper} {o : Oper} {st : St} {K : St -> Option R} {W : Act -> World -> Prop} {Q : O8} (hr0 : Ak8 E.ET g0 bs0 w0 E.keep vals st a w) (h : Ou E all [o] st K = some out)
  (hW : ∀ st' a' w', Ak8 E.ET g0 bs0 w0 E.keep vals st' a' w' -> (∃ u, a' = a.put o.dst u) -> K st' = some out -> W a' w') :
  if Region.wanted o (yielded all.toArray a.tmps) then o.wp P a w W Q \/ (o.asks P a w /\ LetsOut Q) else W (a.put o.dst undef) w := by
 obtain ⟨⟨g, hr⟩, hkp⟩ := hr0
 obtain ⟨sl, bs⟩ := st
 unfold Ou at h
 have hkd : Au9 E.keep o.dst = true := by
  cases hq : Au9 E.keep o.dst with
  | true => rfl
  | false => rw [hq] at h; cases h
 rw [hkd] at h
 simp only [Bool.not_true, cond_false] at h
 have yes : ∀ sl, Rel E.ET g0 bs0 w0 g ⟨sl, bs⟩ a w -> (Ait E o sl bs fun v bs => Ou E all [] ⟨X2 sl o.dst v, bs⟩ K) = some out -> o.wp P a w W Q :=
  fun sl hr h => A3k hE h hr fun u w' ⟨v, bs', g', k1, k2, k3, k4⟩ => hW ⟨X2 sl o.dst v, bs'⟩ _ w' ⟨⟨g', hr.step k4 k3 k2 o.dst⟩, A0k hkd u hkp⟩ ⟨u, rfl⟩ k1
 have no : ∀ sl, Rel E.ET g0 bs0 w0 g ⟨sl, bs⟩ a w -> Ou E all [] ⟨X2 sl o.dst .und, bs⟩ K = some out -> W (a.put o.dst undef) w :=
  fun sl hr h => hW ⟨X2 sl o.dst .und, bs⟩ _ w ⟨⟨g, hr.put (v := .und) (u := undef) (show B7 E.ET g bs w .und undef from (rfl : undef = undef)) o.dst⟩, A0k hkd undef hkp⟩ ⟨undef, rfl⟩ h
 cases hg : o.guard with
 | none =>
  rw [hg] at h
  rw [if_pos (by simp [Region.wanted, hg])]
  exact .inl (yes sl hr h)
 | some jw =>
  obtain ⟨j, want⟩ := jw
  rw [hg] at h
  simp only at h
  rw [Aa8] at h
  split at h
  ·cases h
  ·rename_i s hs
   have hy : yielded all.toArray a.tmps j = match a.tmps[s]? with | some (.bool b) => some b | _ => none := by
    unfold yielded
    rw [show (all.toArray[j]?).bind (·.dst) = some s by rw [<- hs]; simp]
    rfl
   have hslot := hr.slots s
   split at h
   ·rename_i b hb
    rw [hb] at hslot
    have hv := Uw hslot
    have hlt : s < a.tmps.size := by
     rcases Nat.lt_or_ge s a.tmps.size with h1 | h1
     ·exact h1
     ·rw [Aiw sl s (Nat.le_trans hr.size h1)] at hb; cases hb
    have hy : yielded all.toArray a.tmps j = some b := by
     rw [hy]
     rw [Array.getElem?_eq_getElem hlt]
     rw [Array.getD, dif_pos hlt] at hv
     rw [show a.tmps[s] = Value.bool b from hv]
    have hr' : Rel E.ET g0 bs0 w0 g ⟨Xm sl s (.val .bool b), bs⟩ a w := hr.retell s hslot
    have hwt : Region.wanted o (yielded all.toArray a.tmps) = (some b == some want) := by simp only [Region.wanted, hg, hy]
    rw [hwt]
    cases b <;> cases want <;> simp only [cond_true, cond_false] at h
    ·rw [if_pos (by decide)]; exact .inl (yes _ hr' h)
    ·rw [if_neg (by decide)]; exact no _ hr' h
    ·rw [if_neg (by decide)]; exact no _ hr' h
    ·rw [if_pos (by decide)]; exact .inl (yes _ hr' h)
   ·rename_i hb
    rw [hb] at hslot
    have hv : a.tmps.getD s undef = undef := hslot
    have hy : yielded all.toArray a.tmps j = none := by
     rw [hy]
     by_cases hlt : s < a.tmps.size
     ·rw [Array.getElem?_eq_getElem hlt]
      rw [Array.getD, dif_pos hlt] at hv
      rw [show a.tmps[s] = undef from hv]; rfl
     ·rw [Array.getElem?_eq_none (Nat.le_of_not_lt hlt)]
    simp only [Region.wanted, hg, hy]
    rw [if_neg (by simp)]
    exact no _ hr h
   ·cases h
theorem Bb1 (hE : C8 P E) (g0 : Gh) (bs0 : Ag) (w0 : World) (vals : List Value) : A3n (R := R) P E (Ak8 E.ET g0 bs0 w0 E.keep vals) out := by
 intro all ops
 induction ops with
 | nil => intro st K a w Q hr h hK; exact hK st a w hr h
 | cons o rest ih =>
  intro st K a w Q ⟨⟨g, hr⟩, hkp⟩ h hK
  simp only [Axg] at h
  obtain ⟨g, hr⟩ := Afl (E := E) (Ap3 E.frz o.dst) hr
  unfold wpList
  exact Bf3 hE ⟨⟨g, hr⟩, hkp⟩ h fun st' a' w' h1 _ h2 => ih st' K a' w' Q h1 h2 hK
end
section
variable {E : Env} {R : Type} {out : R} {bs bs2 : Ag}
def Det (f : (R : Type) -> (AV -> Option R) -> Option R) {R : Type} (K : AV -> Option R) (out : R) : Prop :=
 ∃ v, K v = some out /\ ∀ (R' : Type) (K' : AV -> Option R'), f R' K' = K' v
theorem A3v {op : BinOp} {k : IntKind} {x y : Int} {K : AV -> Option R} (h : Yw op k x y K = some out) : Det (fun R K => Yw op k x y K) K out := by
 unfold Yw at h
 cases op <;> simp only at h <;>
  first
   | exact ⟨_, h, fun R' K' => rfl⟩
   | (cases hz : (y == 0) <;> rw [hz] at h <;> simp only [cond_true, cond_false] at h
      ·exact ⟨_, h, fun R' K' => by simp only [Yw, hz, cond_false]⟩
      ·cases h)
   | cases h
theorem A3f {op : BinOp} {x y : ByteArray} {K : AV -> Option R} (h : Yp op x y K = some out) : Det (fun R K => Yp op x y K) K out := by
 unfold Yp at h
 cases op <;> simp only at h <;>
  first
   | exact ⟨_, h, fun R' K' => rfl⟩
   | (obtain ⟨h1, h2⟩ := Ad h
      exact ⟨_, h2, fun R' K' => by simp only [Yp, h1, cond_true]⟩)
   | cases h
theorem Ba3 {T : TypeId} {cst neg : Bool} {x y : AV} {K : AV -> Option R} (hk : Aim (En E T) = false) (h : Axt E T cst neg x y K = some out) : Det (fun R K => Axt E T cst neg x y K) K out := by
 unfold Axt at h
 simp only at h
 split at h
 ·rename_i hT
  exact ⟨_, h, fun R' K' => by simp only [Axt, hT]⟩
 ·rename_i hT
  cases cst with
  | false => cases h
  | true => exact ⟨_, h, fun R' K' => by simp only [Axt, hT, cond_true]⟩
 ·rename_i hn hT
  cases cst with
  | false => cases h
  | true =>
   refine ⟨_, h, fun R' K' => ?_⟩
   simp only [Axt, hT]
   rfl
 ·rename_i hT
  exact ⟨_, h, fun R' K' => by simp only [Axt, hT]⟩
 ·cases h
 ·rename_i hT
  exact ⟨_, h, fun R' K' => by simp only [Axt, hT]⟩
 ·rename_i e t l hT
  rw [hT] at hk; cases hk
 ·rename_i e hT
  rw [hT] at hk; cases hk
 ·rename_i fs l m hT
  split at h
  ·rename_i ks hks
   split at h
   ·rename_i b hb
    exact ⟨_, h, fun R' K' => by simp only [Axt, hT, hks, hb]⟩
   ·cases h
  ·cases h
 ·rename_i an ae l m hT
  split at h
  ·rename_i ks hks
   split at h
   ·rename_i b hb
    exact ⟨_, h, fun R' K' => by simp only [Axt, hT, hks, hb]⟩
   ·cases h
  ·cases h
 ·cases h
theorem Bcp {op : BinOp} {T : TypeId} {cst : Bool} {x y : AV} {K : AV -> Option R} (hk : Aim (En E T) = false) (h : Anh E op T cst x y K = some out) : Det (fun R K => Anh E op T cst x y K) K out := by
 unfold Anh at h
 split at h
 ·rename_i k p k' q
  split at h
  ·cases hd : decide (q < 0) <;> rw [hd] at h <;> simp only [cond_true, cond_false] at h
   ·exact ⟨_, h, fun R' K' => by simp only [Anh, hd, cond_false]⟩
   ·cases h
  ·cases hd : decide (q < 0) <;> rw [hd] at h <;> simp only [cond_true, cond_false] at h
   ·exact ⟨_, h, fun R' K' => by simp only [Anh, hd, cond_false]⟩
   ·cases h
  ·rename_i h1 h2
   obtain ⟨hkk, h⟩ := Ad h
   obtain ⟨v, h3, h4⟩ := A3v h
   refine ⟨v, h3, fun R' K' => ?_⟩
   have := h4 R' K'
   cases op <;> first | exact (h1 rfl).elim | exact (h2 rfl).elim | (simp only [Anh, hkk, cond_true]; exact this)
 ·obtain ⟨v, h3, h4⟩ := A3f h
  exact ⟨v, h3, fun R' K' => h4 R' K'⟩
 ·rename_i h1 h2
  have key : ∀ (R' : Type) (K' : AV -> Option R'), Anh E op T cst x y K' = (match op with | .eql => Axt E T cst false x y K' | .neq => Axt E T cst true x y K' | _ => none) := by
   intro R' K'
   unfold Anh
   split
   ·exact (h1 _ _ _ _ rfl rfl).elim
   ·exact (h2 _ _ rfl rfl).elim
   ·cases op <;> rfl
  split at h
  ·obtain ⟨v, h3, h4⟩ := Ba3 hk h
   exact ⟨v, h3, fun R' K' => (key R' K').trans (h4 R' K')⟩
  ·obtain ⟨v, h3, h4⟩ := Ba3 hk h
   exact ⟨v, h3, fun R' K' => (key R' K').trans (h4 R' K')⟩
  ·cases h
theorem Bei {op : UnOp} {x : AV} {K : AV -> Option R} (h : Bd3 op x K = some out) : Det (fun R K => Bd3 op x K) K out := by
 unfold Bd3 at h
 split at h <;> first | exact ⟨_, h, fun R' K' => rfl⟩ | cases h
theorem A79 {n : Nat} {ag : Bool} {cells : List AV} {K : AV -> Option R} (h : Ah4 n ag cells K = some out) : Det (fun R K => Ah4 n ag cells K) K out := by
 unfold Ah4 at h
 obtain ⟨h1, h⟩ := Ad h
 cases ag with
 | true => exact ⟨_, h, fun R' K' => by simp only [Ah4, h1, cond_true]⟩
 | false =>
  simp only [cond_false] at h
  split at h
  ·exact ⟨_, h, fun R' K' => by simp only [Ah4, h1, cond_true, cond_false]⟩
  ·cases h
theorem Ahn {r : Row} {cells : List AV} {K : AV -> Option R} (h : Amw r cells K = some out) : Det (fun R K => Amw r cells K) K out := by
 unfold Amw at h
 split at h
 ·cases h
 ·rename_i hk
  obtain ⟨v, h3, h4⟩ := A79 h
  refine ⟨v, h3, fun R' K' => ?_⟩
  have := h4 R' K'
  show Amw r cells K' = K' v
  unfold Amw
  split
  ·rename_i h5; exact (hk h5).elim
  ·exact this
theorem Co {b v : Nat} (h : look bs2 b = look bs b) : Ap bs2 b v = Ap bs b v := by simp only [Ap, h]
theorem A9k {T : TypeId} {x : AV} {K : AV -> Option R} (h : W6 E T x bs K = some out) : ∃ v, K v = some out /\ ∀ bs2, (∀ b ∈ Jb [x], look bs2 b = look bs b) -> ∀ (R' : Type) (K' : AV -> Option R'), W6 E T x bs2 K' = K' v := by
 unfold W6 at h
 split at h
 ·cases h
 ·rename_i r hr
  split at h
  ·rename_i b v off
   split at h
   ·rename_i T' cells hb
    obtain ⟨u, h3, h4⟩ := Ahn h
    exact ⟨u, h3, fun bs2 ha R' K' => by simp only [W6, hr, Co (ha b (by simp [Jb])), hb]; exact h4 R' K'⟩
   ·cases h
  ·obtain ⟨u, h3, h4⟩ := Ahn h
   exact ⟨u, h3, fun bs2 ha R' K' => by simp only [W6, hr]; exact h4 R' K'⟩
  ·rename_i t p
   cases p with
   | none => cases h
   | some y =>
    obtain ⟨u, h3, h4⟩ := Ahn (show Amw r (Rk r.size (Ago 0 (Or t y))) K = some out from h)
    exact ⟨u, h3, fun bs2 ha R' K' => by simp only [W6, hr, Option.bind_some]; exact h4 R' K'⟩
  ·rename_i b v i off
   split at h
   ·rename_i T' t xs hb
    cases hle : Nat.ble r.size t.sz with
    | true =>
     rw [hle, cond_true] at h
     obtain ⟨u, h3, h4⟩ := Ahn h
     exact ⟨u, h3, fun bs2 ha R' K' => by simp only [W6, hr, Co (ha b (by simp [Jb])), hb, hle, cond_true]; exact h4 R' K'⟩
    | false =>
     rw [hle, cond_false] at h
     obtain ⟨p1, hA⟩ := Ad h
     obtain ⟨p2, hB⟩ := Ad hA
     obtain ⟨u, h3, h4⟩ := Ahn hB
     exact ⟨u, h3, fun bs2 ha R' K' => by simp only [W6, hr, Co (ha b (by simp [Jb])), hb, hle, cond_false, p1, p2, cond_true]; exact h4 R' K'⟩
   ·cases h
  ·cases h
theorem At9 {T : TypeId} {x : AV} {f : Nat} {K : AV -> Option R} (h : Jc E T x f bs K = some out) : ∃ v, K v = some out /\ ∀ bs2, (∀ b ∈ Jb [x], look bs2 b = look bs b) -> ∀ (R' : Type) (K' : AV -> Option R'), Jc E T x f bs2 K' = K' v := by
 unfold Jc at h
 split at h
 ·rename_i fs hk
  split at h
  ·rename_i o n ag hf
   cases hn : Nat.beq n 0 <;> rw [hn] at h <;> simp only [cond_true, cond_false] at h
   ·split at h
    ·rename_i b v off
     obtain ⟨h1, h⟩ := Ad h
     exact ⟨_, h, fun bs2 ha R' K' => by simp only [Jc, hk, hf, hn, cond_false, Co (ha b (by simp [Jb])), h1, cond_true]⟩
    ·exact ⟨_, h, fun bs2 ha R' K' => by simp only [Jc, hk, hf, hn, cond_false]⟩
    ·rename_i b v i off
     obtain ⟨h1, h⟩ := Ad h
     exact ⟨_, h, fun bs2 ha R' K' => by simp only [Jc, hk, hf, hn, cond_false, Co (ha b (by simp [Jb])), h1, cond_true]⟩
    ·cases h
   ·cases h
  ·cases h
 ·cases h
theorem A6x {T : TypeId} {x : AV} {f : Nat} {K : AV -> Option R} (h : Aci E T x f K = some out) : Det (fun R K => Aci E T x f K) K out := by
 unfold Aci at h
 split at h
 ·rename_i fs l hk
  split at h
  ·rename_i o n ag hf
   obtain ⟨h1, h⟩ := Ad h
   cases ag with
   | true => exact ⟨_, h, fun R' K' => by simp only [Aci, hk, hf, h1, cond_true]⟩
   | false =>
    simp only [cond_false] at h
    split at h
    ·rename_i c hc
     refine ⟨_, h, fun R' K' => ?_⟩
     simp only [Aci, hk, hf, h1, cond_true, cond_false]
     rw [hc]
    ·cases h
  ·cases h
 ·cases h
theorem Aos {n j : Nat} {i : Int} {f : Nat -> Option R} (h : Aoj n j i f = some out) : ∃ q, (∀ (R' : Type) (f' : Nat -> Option R'), Aoj n j i f' = f' q) /\ f q = some out := by
 induction n generalizing j with
 | zero => cases h
 | succ n ih =>
  simp only [Aoj] at h
  by_cases e : i = (j : Int)
  ·rw [decide_eq_true e, cond_true] at h
   exact ⟨j, fun R' f' => by simp only [Aoj, decide_eq_true e, cond_true], h⟩
  ·rw [decide_eq_false e, cond_false] at h
   obtain ⟨q, h1, h2⟩ := ih h
   exact ⟨q, fun R' f' => by simp only [Aoj, decide_eq_false e, cond_false, h1], h2⟩
theorem A14 {r : Row} {cells : List AV} {K : AV -> Option R} (h : Amw r cells K = some out) : ∃ v, (∀ (R' : Type) (K' : AV -> Option R'), Amw r cells K' = K' v) /\ K v = some out := by
 have hko : r.kind ≠ .other := fun e => by simp only [Amw, e] at h; cases h
 have hp : ∀ (R' : Type) (K' : AV -> Option R'), Amw r cells K' = Ah4 r.size (W0 r.kind) cells K' := fun R' K' => by
  unfold Amw
  revert hko
  cases r.kind <;> intro hko <;> first | exact absurd rfl hko | rfl
 rw [hp] at h
 unfold Ah4 at h
 obtain ⟨h1, h⟩ := Ad h
 cases ha : W0 r.kind with
 | true =>
  rw [ha] at h
  exact ⟨_, fun R' K' => by rw [hp]; simp only [Ah4, h1, ha, cond_true], h⟩
 | false =>
  rw [ha] at h
  simp only [cond_false] at h
  split at h
  ·rename_i c _
   exact ⟨c, fun R' K' => by rw [hp]; simp only [Ah4, h1, ha, cond_true, cond_false], h⟩
  ·cases h
theorem Ati {T : TypeId} {x i : AV} {K : AV -> Option R} (h : Gm E T x i bs K = some out) : ∃ v, K v = some out /\ ∀ bs2, (∀ b ∈ Jb [x], look bs2 b = look bs b) -> ∀ (R' : Type) (K' : AV -> Option R'), Gm E T x i bs2 K' = K' v := by
 unfold Gm at h
 split at h
 ·rename_i j hj
  split at h
  ·rename_i e t l hk
   obtain ⟨h1, h⟩ := Ad h
   obtain ⟨h2, h⟩ := Ad h
   exact ⟨_, h, fun bs2 ha R' K' => by simp only [Gm, hj, hk, h1, h2, cond_true]⟩
  ·rename_i e b v hk
   split at h
   ·rename_i e' t xs hb
    obtain ⟨h1, h⟩ := Ad h
    obtain ⟨h2, h⟩ := Ad h
    exact ⟨_, h, fun bs2 ha R' K' => by simp only [Gm, hj, hk, Co (ha b (by simp [Jb])), hb, h1, h2, cond_true]⟩
   ·cases h
  ·rename_i n e b v off hk
   split at h
   ·rename_i r hr
    obtain ⟨h1, h⟩ := Ad h
    obtain ⟨q, hq, h⟩ := Aos h
    exact ⟨_, h, fun bs2 ha R' K' => by simp only [Gm, hj, hk, hr, Co (ha b (by simp [Jb])), h1, cond_true, hq]⟩
   ·cases h
  ·rename_i n e t y off hk
   split at h
   ·rename_i r hr
    obtain ⟨h1, h⟩ := Ad h
    obtain ⟨q, hq, h⟩ := Aos h
    exact ⟨_, h, fun bs2 ha R' K' => by simp only [Gm, hj, hk, hr, h1, cond_true, hq]⟩
   ·cases h
  ·rename_i n e b v i0 off hk
   split at h
   ·rename_i T' t xs hb
    obtain ⟨p1, hA⟩ := Ad h
    obtain ⟨p2, hB⟩ := Ad hA
    exact ⟨_, hB, fun bs2 ha R' K' => by simp only [Gm, hj, hk, Co (ha b (by simp [Jb])), hb, p1, p2, cond_true]⟩
   ·cases h
  ·cases h
 ·cases h
theorem A4t {T : TypeId} {x i : AV} {K : AV -> Option R} (h : Xz E T x i K = some out) : Det (fun R K => Xz E T x i K) K out := by
 unfold Xz at h
 split at h
 ·rename_i s j hk hj
  obtain ⟨h1, h⟩ := Ad h
  exact ⟨_, h, fun R' K' => by simp only [Xz, hk, hj, h1, cond_true]⟩
 ·rename_i n e l j hk hj
  split at h
  ·rename_i r hr
   obtain ⟨h1, h⟩ := Ad h
   cases hbig : Nat.blt 16 n with
   | false =>
    rw [hbig, cond_false] at h
    obtain ⟨q, hq, h⟩ := Aos h
    obtain ⟨v, hv, h⟩ := A14 h
    exact ⟨v, h, fun R' K' => by simp only [Xz, hk, hj, hr, h1, hbig, cond_true, cond_false, hq, hv]⟩
   | true =>
    rw [hbig, cond_true] at h
    split at h
    ·rename_i xs hxs
     obtain ⟨p1, h⟩ := Ad h
     obtain ⟨v, hv, h⟩ := A14 h
     exact ⟨v, h, fun R' K' => by simp only [Xz, hk, hj, hr, h1, hbig, hxs, p1, cond_true, hv]⟩
    ·cases h
  ·cases h
 ·cases h
theorem Aki {n : Nat} {e : TypeId} {t : Ty} {y : t.den} {off : Nat} {lo hi : Option Int} {K : AV -> Option R} (h : K7 E n e t y off lo hi K = some out) : ∃ v, K v = some out /\ ∀ (R' : Type) (K' : AV -> Option R'), K7 E n e t y off lo hi K' = K' v := by
 unfold K7 at h
 split at h
 ·rename_i r hr
  split at h
  ·rename_i xs hxs
   obtain ⟨h1, h⟩ := Ad h
   obtain ⟨h2, h⟩ := Ad h
   exact ⟨_, h, fun R' K' => by simp only [K7, hr, hxs, h1, h2, cond_true]⟩
  ·cases h
 ·cases h
theorem A56 {T : TypeId} {x : AV} {lo hi : Option Int} {K : AV -> Option R} (h : Rd E T x lo hi bs K = some out) : ∃ v, K v = some out /\ ∀ bs2, (∀ b ∈ Jb [x], look bs2 b = look bs b) -> ∀ (R' : Type) (K' : AV -> Option R'), Rd E T x lo hi bs2 K' = K' v := by
 unfold Rd at h
 split at h
 ·rename_i s hk
  obtain ⟨h1, h⟩ := Ad h
  exact ⟨_, h, fun bs2 ha R' K' => by simp only [Rd, hk, h1, cond_true]⟩
 ·rename_i e t xs hk
  obtain ⟨h1, h⟩ := Ad h
  obtain ⟨h2, h⟩ := Ad h
  exact ⟨_, h, fun bs2 ha R' K' => by simp only [Rd, hk, h1, h2, cond_true]⟩
 ·rename_i e b v hk
  split at h
  ·rename_i e' t xs hb
   obtain ⟨h1, h⟩ := Ad h
   exact ⟨_, h, fun bs2 ha R' K' => by simp only [Rd, hk, Co (ha b (by simp [Jb])), hb, h1, cond_true]⟩
  ·cases h
 ·rename_i n e t y off hk
  obtain ⟨v, h1, h2⟩ := Aki h
  exact ⟨v, h1, fun bs2 ha R' K' => by simp only [Rd, hk]; exact h2 R' K'⟩
 ·rename_i n e t p hk
  cases p with
  | none => cases h
  | some y =>
   obtain ⟨v, h1, h2⟩ := Aki (show K7 E n e t y 0 lo hi K = some out from h)
   exact ⟨v, h1, fun bs2 ha R' K' => by simp only [Rd, hk]; exact h2 R' K'⟩
 ·cases h
theorem A6i {T : TypeId} {parts : List (Nat × AV)} {K : AV -> Option R} (h : Abl E T parts K = some out) : Det (fun R K => Abl E T parts K) K out := by
 unfold Abl at h
 split at h
 ·rename_i r hr
  obtain ⟨h1, h⟩ := Ad h
  split at h
  ·rename_i fs hk
   split at h
   ·rename_i cells hc
    exact ⟨_, h, fun R' K' => by simp only [Abl, hr, h1, hk, hc, cond_true]⟩
   ·cases h
  ·rename_i n e hk
   split at h
   ·rename_i re hre
    split at h
    ·rename_i cells hc
     exact ⟨_, h, fun R' K' => by simp only [Abl, hr, h1, hk, hre, hc, cond_true]⟩
    ·cases h
   ·cases h
  ·cases h
 ·cases h
theorem Bcc {T : TypeId} {x : AV} {K : AV -> Option R} (h : Alj E T x bs K = some out) : ∃ v, K v = some out /\ ∀ bs2, (∀ b ∈ Jb [x], look bs2 b = look bs b) -> ∀ (R' : Type) (K' : AV -> Option R'), Alj E T x bs2 K' = K' v := by
 unfold Alj at h
 split at h
 ·rename_i s hk
  exact ⟨_, h, fun bs2 ha R' K' => by simp only [Alj, hk]⟩
 ·rename_i e t l hk
  exact ⟨_, h, fun bs2 ha R' K' => by simp only [Alj, hk]⟩
 ·rename_i e hk
  exact ⟨_, h, fun bs2 ha R' K' => by simp only [Alj, hk]⟩
 ·rename_i e b v hk
  split at h
  ·rename_i T' t xs hb
   exact ⟨_, h, fun bs2 ha R' K' => by simp only [Alj, hk, Co (ha b (by simp [Jb])), hb]⟩
  ·cases h
 ·rename_i n e hk
  refine ⟨_, h, fun bs2 ha R' K' => ?_⟩
  simp only [Alj, hk]
 ·cases h
theorem Ba7 {mx : Bool} {l : List AV} {K : AV -> Option R} (h : Bax mx l K = some out) : Det (fun R K => Bax mx l K) K out := by
 unfold Bax at h
 split at h
 ·obtain ⟨h1, h⟩ := Ad h
  exact ⟨_, h, fun R' K' => by simp only [Bax, h1, cond_true]⟩
 ·cases h
theorem A3i {T : TypeId} {ok : Bool} {x : AV} {K : AV -> Option R} (h : Zi E T ok x K = some out) : Det (fun R K => Zi E T ok x K) K out := by
 unfold Zi at h
 split at h
 ·split at h
  ·rename_i z hz
   obtain ⟨h1, h⟩ := Ad h
   exact ⟨_, h, fun R' K' => by simp only [Zi, hz, h1, cond_true]⟩
  ·cases h
 ·cases h
end
section
variable {P : Program} {E : Env} {R : Type} {out : R} {bs bs2 : Ag}
theorem Afi : ∀ (t : Ty) (x : AV), A40 bs t x = A40 bs2 t x := by
 intro t x
 unfold A40
 split <;> rfl
theorem Abx : ∀ (t : Ty) (l : List AV), Ni bs t l = Ni bs2 t l
 | .pair a b, l => by
  simp only [Ni]
  rw [Abx a l]
  split
  ·rw [Abx b]
  ·rfl
 | .unit, l => rfl
 | .int k, l => by cases l <;> simp only [Ni]; rw [Afi]
 | .bool, l => by cases l <;> simp only [Ni]; rw [Afi]
 | .str, l => by cases l <;> simp only [Ni]; rw [Afi]
 | .err, l => by cases l <;> simp only [Ni]; rw [Afi]
 | .sl t, l => by cases l <;> simp only [Ni]; rw [Afi]
 | .nptr t, l => by cases l <;> simp only [Ni]; rw [Afi]
theorem Ak1 (t : Ty) : ∀ (l : List (Nat × AV)) (n : Nat), Qu bs t n l = Qu bs2 t n l
 | [], n => rfl
 | (i, v) :: l, n => by
  simp only [Qu]
  rw [Abx (bs2 := bs2) t (Ds v), Ak1 t l (n + 1)]
theorem Eff.mono {A A' : Option (List Nat)} {f : Ag -> (R : Type) -> (AV -> Ag -> Option R) -> Option R} {K : AV -> Ag -> Option R} (h : Eff A f bs K out)
  (h1 : ∀ bs2, Agr A' bs bs2 -> Agr A bs bs2) (h2 : ∀ b, InA A b -> InA A' b) : Eff A' f bs K out := by
 obtain ⟨v, ch, k1, k2, k3⟩ := h
 exact ⟨v, ch, k1, fun bs2 ha => k2 bs2 (h1 bs2 ha), fun x hx => h2 _ (k3 x hx)⟩
theorem Eff.val {A : Option (List Nat)} {f : Ag -> (R : Type) -> (AV -> Ag -> Option R) -> Option R} {K : AV -> Ag -> Option R}
  (h : ∃ v, K v bs = some out /\ ∀ bs2, Agr A bs bs2 -> ∀ (R' : Type) (K' : AV -> Ag -> Option R'), f bs2 R' K' = K' v bs2) : Eff A f bs K out := by
 obtain ⟨v, h1, h2⟩ := h
 exact ⟨v, [], h1, h2, fun x hx => by cases hx⟩
theorem Afv {b : Nat} (h : look bs2 b = look bs b) : Au bs2 b = Au bs b := by simp only [Au, h]
theorem Xh {d : Option Nat} {T : TypeId} {t : Ty} {xs : List t.den} {K : AV -> Ag -> Option R} (h : newRow d bs T t xs K = some out) :
  Eff (some (Aso d)) (fun bs R K => newRow d bs T t xs K) bs K out := by
 cases d with
 | none => cases h
 | some d =>
  refine ⟨_, [(d, (Au bs d, .row T t xs))], h, fun bs2 ha R' K' => ?_, fun x hx => ?_⟩
  ·simp only [newRow, Afv (ha d (by simp [Aso])), List.singleton_append]
  ·simp only [List.mem_singleton] at hx; subst hx; simp [InA, Aso]
theorem Ard {d : Option Nat} {T : TypeId} {cells : List AV} {K : AV -> Ag -> Option R} (h : newVar d bs T cells K = some out) :
  Eff (some (Aso d)) (fun bs R K => newVar d bs T cells K) bs K out := by
 cases d with
 | none => cases h
 | some d =>
  simp only [newVar] at h
  obtain ⟨h1, h⟩ := Ad h
  refine ⟨_, [(d, (Au bs d, .var T cells))], h, fun bs2 ha R' K' => ?_, fun x hx => ?_⟩
  ·simp only [newVar, h1, cond_true, Afv (ha d (by simp [Aso])), List.singleton_append]
  ·simp only [List.mem_singleton] at hx; subst hx; simp [InA, Aso]
theorem Ar9 {d : Option Nat} {T : TypeId} {z : List AV} {K : AV -> Ag -> Option R} (h : Abo d bs T z K = some out) :
  Eff (some (Aso d)) (fun bs R K => Abo d bs T z K) bs K out := by
 unfold Abo at h
 split at h
 ·rename_i xs hxs
  obtain ⟨p1, hA⟩ := Ad h
  cases d with
  | none => cases hA
  | some d =>
   refine ⟨.oel d (Au bs d) 0 0, [(d, (Au bs d, .row T (Akl z) xs))], hA, fun bs2 ha R' K' => ?_, fun x hx => ?_⟩
   ·simp only [Abo, hxs, p1, cond_true, newRow, Afv (ha d (by simp [Aso])), List.singleton_append]
   ·simp only [List.mem_singleton] at hx; subst hx; simp [InA, Aso]
 ·cases h
theorem Ap5 {d : Option Nat} {T : TypeId} {n : Nat} {parts : List (Nat × AV)} {K : AV -> Ag -> Option R} (h : Ks E d T n parts bs K = some out) :
  Eff (some (Aso d)) (fun bs R K => Ks E d T n parts bs K) bs K out := by
 unfold Ks at h
 split at h
 ·rename_i e hk
  split at h
  ·rename_i r hr
   obtain ⟨h1, h⟩ := Ad h
   split at h
   ·rename_i xs hxs
    obtain ⟨v, ch, k1, k2, k3⟩ := Xh h
    refine ⟨v, ch, k1, fun bs2 ha R' K' => ?_, k3⟩
    simp only [Ks, hk, hr, h1, cond_true]
    rw [Ak1 (bs2 := bs) r.shape parts 0, hxs]
    exact k2 bs2 ha R' K'
   ·cases h
  ·cases h
 ·cases h
theorem Auq {d : Option Nat} {T : TypeId} {x y : AV} {K : AV -> Ag -> Option R} (h : Mr E d T x y bs K = some out) :
  Eff (some (Aso d)) (fun bs R K => Mr E d T x y bs K) bs K out := by
 unfold Mr at h
 split at h
 ·rename_i n m e hk
  split at h
  ·rename_i r hr
   split at h
   ·rename_i z hz
    obtain ⟨h1, h⟩ := Ad h
    obtain ⟨v, ch, k1, k2, k3⟩ := Xh h
    refine ⟨v, ch, k1, fun bs2 ha R' K' => ?_, k3⟩
    simp only [Mr, hk, hr]
    rw [Abx (bs2 := bs) r.shape r.zero, hz]
    simp only [h1, cond_true]
    exact k2 bs2 ha R' K'
   ·cases h
  ·cases h
 ·cases h
theorem Axb {e : TypeId} {t : Ty} {y : AV} (h : ∀ b ∈ Jb [y], look bs2 b = look bs b) : Avq E bs2 e t y = Avq E bs e t y := by
 unfold Avq
 split <;> try rfl
 rename_i b v
 rw [Co (h b (by simp [Jb]))]
theorem Asp {e U : TypeId} {same : Bool} {t : Ty} {y : AV} (h : ∀ b ∈ Jb [y], look bs2 b = look bs b) : Asb E bs2 same U e t y = Asb E bs same U e t y := by
 unfold Asb
 split <;> try rfl
 rw [Axb h]
theorem A25 {d : Option Nat} {T U : TypeId} {x y : AV} {K : AV -> Ag -> Option R} {A : List Nat} (hd : ∀ b ∈ Aso d, b ∈ A) (hx : ∀ b ∈ Jb [x], b ∈ A) (hy : ∀ b ∈ Jb [y], b ∈ A)
  (h : Uv E d T U x y bs K = some out) : Eff (some A) (fun bs R K => Uv E d T U x y bs K) bs K out := by
 unfold Uv at h
 split at h
 ·rename_i e hk
  split at h
  ·rename_i r hr
   obtain ⟨h1, h⟩ := Ad h
   split at h
   ·rename_i ys hys
    split at h
    ·obtain ⟨h2, h⟩ := Ad h
     obtain ⟨v, ch, k1, k2, k3⟩ := Xh h
     refine ⟨v, ch, k1, fun bs2 ha R' K' => ?_, fun q hq => hd _ (k3 q hq)⟩
     simp only [Uv, hk, hr, h1, cond_true]
     rw [Asp (bs := bs) (fun b hb => ha b (hy b hb)), hys]
     simp only [h2, cond_true]
     exact k2 bs2 (fun b hb => ha b (hd b hb)) R' K'
    ·rename_i b v _
     split at h
     ·rename_i e' t xs hb
      obtain ⟨h2, h⟩ := Ad h
      split at h
      ·rename_i et
       subst et
       obtain ⟨h3, h⟩ := Ad h
       obtain ⟨v', ch, k1, k2, k3⟩ := Xh h
       have hbA : b ∈ A := hx b (by simp [Jb])
       refine ⟨v', ch ++ [(b, (v, .dead))], by simpa [kill] using k1, fun bs2 ha R' K' => ?_, fun q hq => ?_⟩
       ·simp only [Uv, hk, hr, h1, cond_true]
        rw [Asp (bs := bs) (fun b hb => ha b (hy b hb)), hys]
        simp only [Co (ha b hbA), hb, h2, cond_true, h3, dif_pos]
        have := k2 (kill bs2 b v) (fun c hc => by
         have h5 := ha c (hd c hc)
         unfold kill
         by_cases e6 : b = c
         ·subst e6; rw [An, An]
         ·rw [Am _ _ e6, Am _ _ e6]; exact h5) R' K'
        refine Eq.trans this ?_
        simp [kill]
       ·rcases List.mem_append.1 hq with hq | hq
        ·exact hd _ (k3 q hq)
        ·simp only [List.mem_singleton] at hq; subst hq; exact hbA
      ·cases h
     ·cases h
    ·cases h
   ·cases h
  ·cases h
 ·cases h
theorem A1r {A : List Nat} {T U : TypeId} {x y : AV} {K : AV -> Ag -> Option R} (hA : ∀ b ∈ Jb [x], b ∈ A) (hy : ∀ b ∈ Jb [y], b ∈ A) (h : Akw E T U x y bs K = some out) :
  Eff (some A) (fun bs R K => Akw E T U x y bs K) bs K out := by
 unfold Akw at h
 split at h
 ·rename_i e b v lo hk
  split at h
  ·rename_i e' t xs hb
   split at h
   ·rename_i ys hys
    obtain ⟨h1, h⟩ := Ad h
    have hbA : b ∈ A := hA b (by simp [Jb])
    refine ⟨_, [(b, (v, _))], h, fun bs2 ha R' K' => ?_, fun q hq => ?_⟩
    ·have hy2 := Axb (E := E) (e := e') (t := t) (bs := bs) (bs2 := bs2) (y := y) (fun b hb => ha b (hy b hb))
     simp only [Akw, hk, Co (ha b hbA), hb, hy2, hys, h1, cond_true, List.singleton_append]
    ·simp only [List.mem_singleton] at hq; subst hq; exact hbA
   ·cases h
  ·cases h
 ·cases h
theorem A68 {A : List Nat} {T U : TypeId} {x y : AV} {K : AV -> Ag -> Option R} (hA : ∀ b ∈ Jb [x], b ∈ A) (hy : ∀ b ∈ Jb [y], b ∈ A) (h : Ab6 E T U x y bs K = some out) :
  Eff (some A) (fun bs R K => Ab6 E T U x y bs K) bs K out := by
 unfold Ab6 at h
 split at h
 ·rename_i b v
  split at h
  ·rename_i e' t xs hb
   obtain ⟨hp, h⟩ := Ad h
   have hbA : b ∈ A := hA b (by simp [Jb])
   obtain ⟨u, ch, k1, k2, k3⟩ := A1r (x := .osb b v 0) (fun q hq => hA q (by simpa [Jb] using hq)) hy h
   exact ⟨u, ch, k1, fun bs2 ha R' K' => by simp only [Ab6, Co (ha b hbA), hb, hp, cond_true]; exact k2 bs2 ha R' K', k3⟩
  ·cases h
 ·rename_i hn
  obtain ⟨u, ch, k1, k2, k3⟩ := A1r hA hy h
  refine ⟨u, ch, k1, fun bs2 ha R' K' => ?_, k3⟩
  unfold Ab6
  split
  ·exact (hn _ _ rfl).elim
  ·exact k2 bs2 ha R' K'
theorem A7k {T : TypeId} {x y : AV} {K : AV -> Ag -> Option R} (h : Xw E T x y bs (fun bs => K .und bs) = some out) :
  Eff (some (Jb [x])) (fun bs R K => Xw E T x y bs fun bs => K .und bs) bs K out := by
 unfold Xw at h
 split at h
 ·cases h
 ·rename_i r hr
  obtain ⟨h1, h⟩ := Ad h
  split at h
  ·rename_i b v off _
   split at h
   ·rename_i T' cells hb
    obtain ⟨h2, h⟩ := Ad h
    refine ⟨.und, [(b, (v, _))], h, fun bs2 ha R' K' => ?_, fun q hq => ?_⟩
    ·simp only [Xw, hr, h1, cond_true, Co (ha b (by simp [Jb])), hb, h2, List.singleton_append]
    ·simp only [List.mem_singleton] at hq; subst hq; simp [InA, Jb]
   ·cases h
  ·rename_i b v i off _
   split at h
   ·rename_i T' t xs hb
    cases hle : Nat.ble r.size t.sz with
    | true =>
     rw [hle, cond_true] at h
     split at h
     ·rename_i z hz
      obtain ⟨h2, h⟩ := Ad h
      refine ⟨.und, [(b, (v, _))], h, fun bs2 ha R' K' => ?_, fun q hq => ?_⟩
      ·simp only [Xw, hr, h1, cond_true, Co (ha b (by simp [Jb])), hb, hle]
       rw [Abx (bs2 := bs), hz]
       simp only [h2, cond_true, List.singleton_append]
      ·simp only [List.mem_singleton] at hq; subst hq; simp [InA, Jb]
     ·cases h
    | false =>
     rw [hle, cond_false] at h
     split at h
     ·rename_i zs hzs
      obtain ⟨p1, hA⟩ := Ad h
      obtain ⟨p2, hB⟩ := Ad hA
      refine ⟨.und, [(b, (v, _))], hB, fun bs2 ha R' K' => ?_, fun q hq => ?_⟩
      ·simp only [Xw, hr, h1, cond_true, Co (ha b (by simp [Jb])), hb, hle, cond_false, hzs, p1, p2, List.singleton_append]
      ·simp only [List.mem_singleton] at hq; subst hq; simp [InA, Jb]
     ·cases h
   ·cases h
  ·cases h
theorem Ca : ∀ {l m : List Nat} {b : Nat}, b ∈ Anb l m ↔ b ∈ l \/ b ∈ m
 | [], m, b => by simp [Anb]
 | a :: l, m, b => by simp [Anb, Ca (l := l), or_assoc]
theorem A80 {d : Option Nat} {src dst : TypeId} {x : AV} {K : AV -> Ag -> Option R} (h : Xg E d src dst x bs K = some out) : Eff (some (Anb (Aso d) (Jb [x]))) (fun bs R K => Xg E d src dst x bs K) bs K out := by
 unfold Xg at h
 split at h
 ·rename_i hs hd
  exact Eff.val ⟨_, h, fun bs2 ha R' K' => by simp only [Xg, hs, hd]⟩
 ·rename_i hs hd
  exact Eff.val ⟨_, h, fun bs2 ha R' K' => by simp only [Xg, hs, hd]⟩
 ·rename_i hs hd
  split at h
  ·rename_i hk
   exact Eff.val ⟨_, h, fun bs2 ha R' K' => by simp only [Xg, hs, hd, hk]⟩
  ·cases h
 ·rename_i hs hd
  split at h
  ·rename_i hk
   exact Eff.val ⟨_, h, fun bs2 ha R' K' => by simp only [Xg, hs, hd, hk]⟩
  ·cases h
 ·rename_i e b v hs hd
  split at h
  ·rename_i e' xs hk hb
   obtain ⟨h1, h⟩ := Ad h
   exact Eff.val ⟨_, h, fun bs2 ha R' K' => by simp only [Xg, hs, hd, hk, Co (ha b (Ca.2 (.inr (by simp [Jb])))), hb, h1, cond_true]⟩
  ·cases h
 ·rename_i hs hd
  split at h
  ·rename_i hk
   obtain ⟨h1, h⟩ := Ad h
   obtain ⟨v, ch, k1, k2, k3⟩ := Xh h
   exact ⟨v, ch, k1, fun bs2 ha R' K' => by simp only [Xg, hs, hd, hk, h1, cond_true]; exact k2 bs2 (fun b hb => ha b (Ca.2 (.inl hb))) R' K', fun q hq => Ca.2 (.inl (k3 q hq))⟩
  ·cases h
 ·rename_i e b v hs hd
  split at h
  ·rename_i e' xs hk hb
   obtain ⟨h1, h⟩ := Ad h
   refine ⟨_, [(b, (v, .row e' (.int .u8) xs))], h, fun bs2 ha R' K' => by simp only [Xg, hs, hd, hk, Co (ha b (Ca.2 (.inr (by simp [Jb])))), hb, h1, cond_true]; rfl, fun q hq => ?_⟩
   rcases List.mem_singleton.1 hq with rfl
   exact Ca.2 (.inr (by simp [Jb]))
  ·cases h
 ·cases h
end
set_option linter.unusedSectionVars false
section
variable {P : Program} {E : Env} {R : Type} {out : R} {g0 g g' : Gh} {w0 w w' : World} {sl sl2 : List AV} {bs0 bs bs2 : Ag} {a : Act}
theorem A2f {l : List Operand} (h : ∀ x ∈ l, Ht sl2 x = Ht sl x) : l.map (Ht sl2) = l.map (Ht sl) := List.map_congr_left h
theorem Ala {o : Option Operand} (h : ∀ x, o = some x -> Ht sl2 x = Ht sl x) : Uz o sl2 = Uz o sl := by
 cases o with
 | none => rfl
 | some x => simp only [Uz, h x rfl]
theorem Asf {o : Oper} (h : ∀ x ∈ o.op.operands, Ht sl2 x = Ht sl x) (bs : Ag) (R : Type) (K : AV -> Ag -> Option R) : Ait E o sl2 bs K = Ait E o sl bs K := by
 obtain ⟨dst, op, type, pos, after, guard⟩ := o
 cases op <;> simp only [Op.operands] at h <;> simp only [Ait]
 case slice T x lo hi mx =>
  have hx : Ht sl2 x = Ht sl x := h x (by simp)
  have h1 : Uz lo sl2 = Uz lo sl := Ala fun y hy => h y (by simp [hy])
  have h2 : Uz hi sl2 = Uz hi sl := Ala fun y hy => h y (by simp [hy])
  cases mx <;> simp only [hx, h1, h2]
 case build T ps =>
  have e : (ps.toList.map fun p => (p.1, Ht sl2 p.2)) = ps.toList.map fun p => (p.1, Ht sl p.2) :=
   List.map_congr_left fun p hp => by rw [h p.2 (by simp only [List.mem_toArray, List.mem_map]; exact ⟨p, hp, rfl⟩)]
  rw [e]
 case buildSlice T n ps =>
  have e : (ps.toList.map fun p => (p.1, Ht sl2 p.2)) = ps.toList.map fun p => (p.1, Ht sl p.2) :=
   List.map_congr_left fun p hp => by rw [h p.2 (by simp only [List.mem_toArray, List.mem_map]; exact ⟨p, hp, rfl⟩)]
  rw [e]
 case makeFunc fn fs caps =>
  rw [A2f fun x hx => h x (by simp only [Array.mem_append]; exact .inr (by simpa using hx))]
 case call c =>
  obtain ⟨callee, args, ts⟩ := c
  have e : args.toList.map (Ht sl2) = args.toList.map (Ht sl) := A2f fun x hx => h x (by simp [Call.operands]; cases callee <;> simp_all)
  cases callee with
  | value f =>
   have hf : Ht sl2 f = Ht sl f := h f (by simp [Call.operands])
   simp only [hf, e]
  | builtin b => simp only [e]
  | invoke r m => rfl
 all_goals first
  | rfl
  | (simp_all; done)
theorem Eff.of_det {A : Option (List Nat)} {f : Ag -> (R : Type) -> (AV -> Ag -> Option R) -> Option R} {K : AV -> Ag -> Option R} {p : (R : Type) -> (AV -> Option R) -> Option R}
  (h : Det p (fun v => K v bs) out) (e : ∀ bs2 (R' : Type) (K' : AV -> Ag -> Option R'), f bs2 R' K' = p R' fun v => K' v bs2) : Eff A f bs K out := by
 obtain ⟨v, h1, h2⟩ := h
 exact Eff.val ⟨v, h1, fun bs2 _ R' K' => (e bs2 R' K').trans (h2 R' _)⟩
theorem Av5 {fn : Fn} {b : Bool} {caps : List AV} {K : AV -> Option R} (h : Sk fn b caps K = some out) : Det (fun R (K : AV -> Option R) => Sk fn b caps K) K out := by
 unfold Sk at h
 split at h
 ·rename_i f
  obtain ⟨h0, h'⟩ := Ad h
  exact ⟨_, h', fun R' K' => by simp only [Sk, h0, cond_true]⟩
 ·cases h
theorem A4n {T : TypeId} {x : AV} {K : AV -> Option R} (h : Afr E T x K = some out) : Det (fun R (K : AV -> Option R) => Afr E T x K) K out := by
 unfold Afr at h
 split at h
 ·rename_i n e t l hk
  obtain ⟨h0, h'⟩ := Ad h
  exact ⟨_, h', fun R' K' => by simp only [Afr, hk, h0, cond_true]⟩
 ·cases h
theorem Ams {x y : AV} : (∀ b ∈ Jb [x], b ∈ Jb [x, y]) /\ (∀ b ∈ Jb [y], b ∈ Jb [x, y]) := by
 constructor
 ·intro b hb
  cases x <;> simp_all [Jb, Ca]
 ·intro b hb
  cases x <;> simp_all [Jb, Ca]
theorem A9e {op : BinOp} {T : TypeId} {cst : Bool} {x y : AV} {K : AV -> Ag -> Option R} (hk : Aim (En E T) = false) (h : Aep E bs op T cst x y (fun v => K v bs) = some out) :
  Eff (some (Jb [x])) (fun bs R K => Aep E bs op T cst x y fun v => K v bs) bs K out := by
 unfold Aep at h
 split at h
 ·rename_i b v off
  split at h
  ·rename_i h1 h2
   exact Eff.val ⟨_, h, fun bs2 ha R' K' => by simp only [Aep, Co (ha b (by simp [Jb])), h1, h2]⟩
  ·rename_i h1 h2
   exact Eff.val ⟨_, h, fun bs2 ha R' K' => by simp only [Aep, Co (ha b (by simp [Jb])), h1, h2]⟩
  ·cases h
 ·rename_i hn
  obtain ⟨v, h1, h2⟩ := Bcp hk h
  refine Eff.val ⟨v, h1, fun bs2 _ R' K' => ?_⟩
  have := h2 R' fun v => K' v bs2
  unfold Aep
  split
  ·exact (hn _ _ _ rfl rfl).elim
  ·exact this
theorem Bbe (hE : C8 P E) {o : Oper} {K : AV -> Ag -> Option R} (hd : Bd6 E o sl = true) (h : Ait E o sl bs K = some out) : Eff (Av1 E o sl bs) (fun bs R K => Ait E o sl bs K) bs K out := by
 obtain ⟨dst, op, type, pos, after, guard⟩ := o
 unfold Ait at h
 simp only at h
 split at h
 ·exact Eff.val ⟨_, h, fun bs2 _ R' K' => rfl⟩
 ·exact Eff.val ⟨_, h, fun bs2 _ R' K' => rfl⟩
 ·rename_i c x y
  split at h
  ·rename_i t ht
   cases t with
   | true => exact Eff.val ⟨_, h, fun bs2 _ R' K' => by simp only [Ait, ht, cond_true]⟩
   | false => exact Eff.val ⟨_, h, fun bs2 _ R' K' => by simp only [Ait, ht, cond_false]⟩
  ·cases h
 ·rename_i op T x y z
  have hk : Aim (En E T) = false := by simpa [Bd6] using hd
  exact A9e hk h
 ·exact Eff.of_det (Bei h) fun bs2 R' K' => rfl
 ·rename_i s d x
  exact A80 h
 ·rename_i t i
  split at h
  ·rename_i l hl
   split at h
   ·rename_i v hv
    exact Eff.val ⟨v, h, fun bs2 _ R' K' => by simp only [Ait, hl, hv]⟩
   ·cases h
  ·cases h
 ·rename_i t x
  split at h
  ·rename_i n hn
   obtain ⟨h1, h⟩ := Ad h
   exact Eff.val ⟨_, h, fun bs2 _ R' K' => by simp only [Ait, hn, h1, cond_true]⟩
  ·cases h
 ·exact Eff.of_det (A3i h) fun bs2 R' K' => rfl
 ·rename_i T x
  obtain ⟨v, h1, h2⟩ := A9k h
  exact Eff.val ⟨v, h1, fun bs2 ha R' K' => h2 bs2 ha R' fun v => K' v bs2⟩
 ·rename_i T x y
  exact A7k h
 ·rename_i T x f
  obtain ⟨v, h1, h2⟩ := At9 h
  exact Eff.val ⟨v, h1, fun bs2 ha R' K' => h2 bs2 ha R' fun v => K' v bs2⟩
 ·exact Eff.of_det (A6x h) fun bs2 R' K' => rfl
 ·rename_i x
  split at h
  ·rename_i b v off hx
   obtain ⟨h1, h⟩ := Ad h
   refine Eff.val ⟨_, h, fun bs2 ha R' K' => ?_⟩
   have hb : look bs2 b = look bs b := ha b (by rw [hx]; simp [Jb])
   simp only [Ait, hx, Co hb, h1, cond_true]
  ·rename_i t y off hx
   exact Eff.val ⟨_, h, fun bs2 ha R' K' => by simp only [Ait, hx]⟩
  ·rename_i t p hx
   cases p with
   | none => cases h
   | some y => exact Eff.val ⟨_, h, fun bs2 ha R' K' => by simp only [Ait, hx]; rfl⟩
  ·cases h
 ·rename_i T x i
  obtain ⟨v, h1, h2⟩ := Ati h
  exact Eff.val ⟨v, h1, fun bs2 ha R' K' => h2 bs2 ha R' fun v => K' v bs2⟩
 ·exact Eff.of_det (A4t h) fun bs2 R' K' => rfl
 ·rename_i T x lo hi
  split at h
  ·rename_i l u hl hh
   obtain ⟨v, h1, h2⟩ := A56 h
   exact Eff.val ⟨v, h1, fun bs2 ha R' K' => by simp only [Ait, hl, hh]; exact h2 bs2 ha R' _⟩
  ·cases h
 ·rename_i T
  split at h
  ·rename_i z hz
   cases hbig : Bbd E T with
   | false =>
    rw [hbig, cond_false] at h
    obtain ⟨v, ch, k1, k2, k3⟩ := Ard h
    exact ⟨v, ch, k1, fun bs2 ha R' K' => by simp only [Ait, hz, hbig, cond_false]; exact k2 bs2 ha R' K', k3⟩
   | true =>
    rw [hbig, cond_true] at h
    obtain ⟨v, ch, k1, k2, k3⟩ := Ar9 h
    exact ⟨v, ch, k1, fun bs2 ha R' K' => by simp only [Ait, hz, hbig, cond_true]; exact k2 bs2 ha R' K', k3⟩
  ·cases h
 ·rename_i T x
  split at h
  ·rename_i r hr
   obtain ⟨h1, h⟩ := Ad h
   cases hbig : Bbd E T with
   | false =>
    rw [hbig, cond_false] at h
    obtain ⟨v, ch, k1, k2, k3⟩ := Ard h
    exact ⟨v, ch, k1, fun bs2 ha R' K' => by simp only [Ait, hr, h1, hbig, cond_true, cond_false]; exact k2 bs2 ha R' K', k3⟩
   | true =>
    rw [hbig, cond_true] at h
    obtain ⟨v, ch, k1, k2, k3⟩ := Ar9 h
    exact ⟨v, ch, k1, fun bs2 ha R' K' => by simp only [Ait, hr, h1, hbig, cond_true]; exact k2 bs2 ha R' K', k3⟩
  ·cases h
 ·exact Eff.of_det (A6i h) fun bs2 R' K' => rfl
 ·rename_i T n ps
  exact Ap5 h
 ·exact Eff.of_det (Av5 h) fun bs2 R' K' => rfl
 ·rename_i T n m
  exact Auq h
 ·-- a call
  rename_i f xs ts
  unfold A0f at h
  split at h
  ·rename_i fid caps hf
   split at h
   ·rename_i s hs
    have hok := hE.calls fid s hs
    cases caps with
    | cons c cs => simp [Bd6, hf] at hd
    | nil =>
     simp only [Bd6, hf, hs] at hd
     obtain ⟨n, hn⟩ := Option.isSome_iff_exists.1 hd
     have he := hok.eff n hn _ _ _ _ _ _ h
     have hfoot : Av1 E ⟨dst, .call { callee := .value f, args := xs, argTypes := ts }, type, pos, after, guard⟩ sl bs = Of (E.nid dst) (xs.toList.map (Ht sl) ++ []) bs n := by
      simp only [Av1, hf, hs, hn, Of, List.append_nil]
     rw [hfoot]
     obtain ⟨v, ch, k1, k2, k3⟩ := he
     exact ⟨v, ch, k1, fun bs2 ha R' K' => by simp only [Ait, A0f, hf, hs]; exact k2 bs2 ha R' K', k3⟩
   ·cases h
  ·cases h
 ·-- a builtin
  rename_i b xs ts
  split at h
  ·rename_i T l x hts hx
   obtain ⟨v, h1, h2⟩ := Bcc h
   refine Eff.val ⟨v, h1, fun bs2 ha R' K' => ?_⟩
   simp only [Ait, hts, hx]
   refine h2 bs2 (fun b hb => ha b ?_) R' _
   simp only [Av1, hx]
   exact Ca.2 (.inr hb)
  ·rename_i T T' x y hts hx
   have := A25 (A := Anb (Aso (E.nid dst)) (Jb [x, y])) (fun b hb => Ca.2 (.inl hb)) (fun b hb => Ca.2 (.inr (Ams.1 b hb))) (fun b hb => Ca.2 (.inr (Ams.2 b hb))) h
   obtain ⟨v, ch, k1, k2, k3⟩ := this
   have hfoot : Av1 E ⟨dst, .call { callee := .builtin .append, args := xs, argTypes := ts }, type, pos, after, guard⟩ sl bs = some (Anb (Aso (E.nid dst)) (Jb [x, y])) := by
    simp only [Av1, hx]
   rw [hfoot]
   exact ⟨v, ch, k1, fun bs2 ha R' K' => by simp only [Ait, hts, hx]; exact k2 bs2 ha R' K', k3⟩
  ·rename_i T T' x y hts hx
   have := A68 (A := Anb (Aso (E.nid dst)) (Jb [x, y])) (fun b hb => Ca.2 (.inr (Ams.1 b hb))) (fun b hb => Ca.2 (.inr (Ams.2 b hb))) h
   obtain ⟨v, ch, k1, k2, k3⟩ := this
   have hfoot : Av1 E ⟨dst, .call { callee := .builtin .copy, args := xs, argTypes := ts }, type, pos, after, guard⟩ sl bs = some (Anb (Aso (E.nid dst)) (Jb [x, y])) := by
    simp only [Av1, hx]
   rw [hfoot]
   exact ⟨v, ch, k1, fun bs2 ha R' K' => by simp only [Ait, hts, hx]; exact k2 bs2 ha R' K', k3⟩
  ·refine Eff.of_det (Ba7 h) fun bs2 R' K' => ?_
   rfl
  ·refine Eff.of_det (Ba7 h) fun bs2 R' K' => ?_
   rfl
  ·cases h
 ·exact Eff.of_det (A4n h) fun bs2 R' K' => rfl
 ·cases h
end
structure Dat where
 v : AV
 ch : Ag
 A : Option (List Nat)
def Ah5 (all : List Oper) (o : Oper) (sl sl2 : List AV) : Prop :=
 (∀ x ∈ o.op.operands, Ht sl2 x = Ht sl x) /\ ∀ j want s, o.guard = some (j, want) -> S6 all j = some s -> Hf sl2 s = Hf sl s
def Stp (E : Env) (all : List Oper) (o : Oper) (D : Dat) (sl : List AV) (bs : Ag) : Prop :=
 (∀ sl2 bs2, Ah5 all o sl sl2 -> Agr D.A bs bs2 -> ∀ (R : Type) (K : St -> Option R), Ou E all [o] ⟨sl2, bs2⟩ K = K ⟨X2 sl2 o.dst D.v, D.ch ++ bs2⟩) /\ ∀ x ∈ D.ch, InA D.A x.1
section
variable {P : Program} {E : Env} {R : Type} {out : R} {g0 g g' : Gh} {w0 w w' : World} {sl sl2 : List AV} {bs0 bs bs2 : Ag} {a : Act} {all : List Oper}
theorem Abu : ∀ (l : List AV) (i : Nat), Xm l i (Hf l i) = l
 | [], i => rfl
 | x :: l, 0 => rfl
 | x :: l, i + 1 => by simp only [Xm, Hf, Abu l i]
theorem Avg : ∀ (l : List AV) {i j : Nat} (u v : AV), i ≠ j -> Xm (Xm l i u) j v = Xm (Xm l j v) i u
 | [], _, _, _, _, _ => rfl
 | x :: l, 0, 0, _, _, h => absurd rfl h
 | x :: l, 0, j + 1, _, _, _ => rfl
 | x :: l, i + 1, 0, _, _, _ => rfl
 | x :: l, i + 1, j + 1, u, v, h => by
  have := Avg l u v (fun (e : i = j) => h (congrArg Nat.succ e))
  simp only [Xm, this]
theorem A5s (l : List AV) {d e : Option Tmp} (u v : AV) (h : ∀ x, d = some x -> e ≠ some x) : X2 (X2 l d u) e v = X2 (X2 l e v) d u := by
 cases d with
 | none => rfl
 | some d =>
  cases e with
  | none => rfl
  | some e => exact Avg l u v (fun q => h d rfl (by rw [q]))
theorem Av9 {d : Option Tmp} {v : AV} {i : Nat} (h : ∀ x, d = some x -> x ≠ i) : Hf (X2 sl d v) i = Hf sl i := by
 cases d with
 | none => rfl
 | some d =>
  simp only [X2, Acp]
  rw [if_neg]
  rintro ⟨e, _⟩
  exact h d rfl e.symm
theorem A59 {d : Option Tmp} {v : AV} {x : Operand} (h : ∀ t, d = some t -> x ≠ .tmp t) : Ht (X2 sl d v) x = Ht sl x := by
 cases x with
 | tmp t => exact Av9 fun y hy e => h y hy (by rw [e])
 | _ => rfl
theorem Kd : ∀ {l : Ag} {b : Nat}, (∀ x ∈ l, x.1 ≠ b) -> look (l ++ bs) b = look bs b
 | [], b, h => rfl
 | (i, x) :: l, b, h => by
  show look ((i, x) :: (l ++ bs)) b = look bs b
  rw [Am _ _ (h _ (List.mem_cons_self ..))]
  exact Kd fun y hy => h y (List.mem_cons_of_mem _ hy)
theorem Xf : ∀ {l : Ag} {bs bs2 : Ag}, (∀ b, look bs2 b = look bs b) -> ∀ b, look (l ++ bs2) b = look (l ++ bs) b
 | [], _, _, h, b => h b
 | (i, x) :: l, bs, bs2, h, b => by
  show look ((i, x) :: (l ++ bs2)) b = look ((i, x) :: (l ++ bs)) b
  by_cases e : i = b
  ·subst e; rw [An, An]
  ·rw [Am _ _ e, Am _ _ e]; exact Xf h b
theorem Ah5.refl {o : Oper} : Ah5 all o sl sl := ⟨fun _ _ => rfl, fun _ _ _ _ _ => rfl⟩
theorem Agr.refl (A : Option (List Nat)) : Agr A bs bs := by cases A <;> simp [Agr]
theorem Bfx (hE : C8 P E) {o : Oper} {K : St -> Option R} (hd : Bd6 E o sl = true) (h : Ou E all [o] ⟨sl, bs⟩ K = some out) :
  ∃ D : Dat, K ⟨X2 sl o.dst D.v, D.ch ++ bs⟩ = some out /\ D.A = Av1 E o sl bs /\ Stp E all o D sl bs := by
 unfold Ou at h
 have hkd : Au9 E.keep o.dst = true := by
  cases hq : Au9 E.keep o.dst with
  | true => rfl
  | false => rw [hq] at h; cases h
 rw [hkd] at h
 simp only [Bool.not_true, cond_false] at h
 cases hg : o.guard with
 | none =>
  rw [hg] at h
  simp only [Ou] at h
  obtain ⟨v, ch, k1, k2, k3⟩ := Bbe hE hd h
  refine ⟨⟨v, ch, Av1 E o sl bs⟩, k1, rfl, fun sl2 bs2 hs ha R' K' => ?_, k3⟩
  show Ou E all [o] ⟨sl2, bs2⟩ K' = _
  unfold Ou
  simp only [hkd, Bool.not_true, cond_false, hg, Ou]
  rw [Asf hs.1]
  exact k2 bs2 ha R' _
 | some jw =>
  obtain ⟨j, want⟩ := jw
  rw [hg] at h
  simp only at h
  split at h
  ·cases h
  ·rename_i s hs
   split at h
   ·rename_i b hb
    have yes : b = want -> ∃ D : Dat, K ⟨X2 sl o.dst D.v, D.ch ++ bs⟩ = some out /\ D.A = Av1 E o sl bs /\ Stp E all o D sl bs := by
     intro e
     subst e
     have h2 : (Ait E o sl bs fun v bs => Ou E all [] ⟨X2 sl o.dst v, bs⟩ K) = some out := by
      have hset : Xm sl s (.val .bool b) = sl := by rw [<- hb]; exact Abu sl s
      cases b <;> simp only [cond_true, cond_false, hset] at h <;> exact h
     simp only [Ou] at h2
     obtain ⟨v, ch, k1, k2, k3⟩ := Bbe hE hd h2
     refine ⟨⟨v, ch, Av1 E o sl bs⟩, k1, rfl, fun sl2 bs2 hsl ha R' K' => ?_, k3⟩
     show Ou E all [o] ⟨sl2, bs2⟩ K' = _
     have hb2 : Hf sl2 s = .val .bool b := by rw [hsl.2 j b s hg hs]; exact hb
     have hset : Xm sl2 s (.val .bool b) = sl2 := by rw [<- hb2]; exact Abu sl2 s
     unfold Ou
     simp only [hkd, Bool.not_true, cond_false, hg, hs, hb2, Ou]
     cases b <;> simp only [cond_true, cond_false, hset] <;> (rw [Asf hsl.1]; exact k2 bs2 ha R' _)
    have no : b ≠ want -> ∃ D : Dat, K ⟨X2 sl o.dst D.v, D.ch ++ bs⟩ = some out /\ D.A = Av1 E o sl bs /\ Stp E all o D sl bs := by
     intro e
     have h2 : Ou E all [] ⟨X2 sl o.dst .und, bs⟩ K = some out := by
      have hset : Xm sl s (.val .bool b) = sl := by rw [<- hb]; exact Abu sl s
      cases b <;> cases want <;> first | exact (e rfl).elim | (simp only [cond_true, cond_false, hset] at h; exact h)
     refine ⟨⟨.und, [], Av1 E o sl bs⟩, h2, rfl, fun sl2 bs2 hsl ha R' K' => ?_, fun x hx => by cases hx⟩
     show Ou E all [o] ⟨sl2, bs2⟩ K' = _
     have hb2 : Hf sl2 s = .val .bool b := by rw [hsl.2 j want s hg hs]; exact hb
     have hset : Xm sl2 s (.val .bool b) = sl2 := by rw [<- hb2]; exact Abu sl2 s
     unfold Ou
     simp only [hkd, Bool.not_true, cond_false, hg, hs, hb2, Ou]
     cases b <;> cases want <;> first | exact (e rfl).elim | (simp only [cond_true, cond_false, hset]; rfl)
    by_cases e : b = want
    ·exact yes e
    ·exact no e
   ·rename_i hb
    refine ⟨⟨.und, [], Av1 E o sl bs⟩, h, rfl, fun sl2 bs2 hsl ha R' K' => ?_, fun x hx => by cases hx⟩
    show Ou E all [o] ⟨sl2, bs2⟩ K' = _
    have hb2 : Hf sl2 s = .und := by rw [hsl.2 j want s hg hs]; exact hb
    unfold Ou
    simp only [hkd, Bool.not_true, cond_false, hg, hs, hb2, Ou]
    rfl
   ·cases h
theorem Aq8 {o1 o2 : Oper} {v : AV} (h : ∀ d, o1.dst = some d -> d ∉ o2.looksAt all.toArray) : Ah5 all o2 sl (X2 sl o1.dst v) := by
 refine ⟨fun x hx => A59 fun t ht e => ?_, fun j want s hg hs => Av9 fun t ht e => ?_⟩
 ·subst e
  refine h t ht (List.mem_append_left _ (List.mem_filterMap.2 ⟨.tmp t, by simpa using hx, rfl⟩))
 ·subst e
  refine h t ht (List.mem_append_right _ ?_)
  rw [hg]
  rw [Aa8] at hs
  simp [hs]
theorem Ah5.symm {o : Oper} (h : Ah5 all o sl sl2) : Ah5 all o sl2 sl := ⟨fun x hx => (h.1 x hx).symm, fun j w s h1 h2 => (h.2 j w s h1 h2).symm⟩
theorem Ah5.trans {o : Oper} {sl3 : List AV} (h : Ah5 all o sl sl2) (k : Ah5 all o sl2 sl3) : Ah5 all o sl sl3 :=
 ⟨fun x hx => (k.1 x hx).trans (h.1 x hx), fun j w s h1 h2 => (k.2 j w s h1 h2).trans (h.2 j w s h1 h2)⟩
theorem Arm {A : Option (List Nat)} {ch : Ag} (h : ∀ x ∈ ch, ¬ InA A x.1) : Agr A bs (ch ++ bs) := by
 cases A with
 | none =>
  intro b
  cases ch with
  | nil => rfl
  | cons x ch => exact (h x (List.mem_cons_self ..) trivial).elim
 | some l =>
  intro b hb
  refine Kd fun x hx e => ?_
  subst e
  exact h x hx hb
theorem Agr.symm {A : Option (List Nat)} (h : Agr A bs bs2) : Agr A bs2 bs := by
 cases A with
 | none => exact fun b => (h b).symm
 | some l => exact fun b hb => (h b hb).symm
theorem Agr.trans {A : Option (List Nat)} {bs3 : Ag} (h : Agr A bs bs2) (k : Agr A bs2 bs3) : Agr A bs bs3 := by
 cases A with
 | none => exact fun b => (k b).trans (h b)
 | some l => exact fun b hb => (k b hb).trans (h b hb)
theorem Stp.alike {o : Oper} {D : Dat} (h : Stp E all o D sl bs) (hs : Ah5 all o sl sl2) (ha : Agr D.A bs bs2) : Stp E all o D sl2 bs2 :=
 ⟨fun sl3 bs3 hs3 ha3 R K => h.1 sl3 bs3 (hs.trans hs3) (ha.trans ha3) R K, h.2⟩
def Ind (all : List Oper) (oj oi : Oper) (Dj Di : Dat) : Prop :=
 oj.apart all.toArray oi = true /\ (∀ x ∈ Di.ch, ¬ InA Dj.A x.1) /\ ∀ x ∈ Dj.ch, ¬ InA Di.A x.1
theorem Bah {oj oi : Oper} {Dj Di : Dat} (hj : Stp E all oj Dj sl bs) (hi : Stp E all oi Di (X2 sl oj.dst Dj.v) (Dj.ch ++ bs)) (hind : Ind all oj oi Dj Di) :
  Stp E all oi Di sl bs /\ Stp E all oj Dj (X2 sl oi.dst Di.v) (Di.ch ++ bs) /\ X2 (X2 sl oj.dst Dj.v) oi.dst Di.v = X2 (X2 sl oi.dst Di.v) oj.dst Dj.v /\
  ∀ b, look (Di.ch ++ (Dj.ch ++ bs)) b = look (Dj.ch ++ (Di.ch ++ bs)) b := by
 obtain ⟨hap, h1, h2⟩ := hind
 obtain ⟨a1, a2, a3⟩ := Oper.apart_spec hap
 refine ⟨hi.alike (Aq8 (v := Dj.v) a1).symm (Arm h2).symm, hj.alike (Aq8 (v := Di.v) a3) (Arm h1), A5s sl _ _ a2, fun b => ?_⟩
 by_cases hb : ∃ x ∈ Dj.ch, x.1 = b
 ·obtain ⟨x, hx, rfl⟩ := hb
  have hin : InA Dj.A x.1 := hj.2 x hx
  have hn : ∀ y ∈ Di.ch, y.1 ≠ x.1 := fun y hy e => h1 y hy (by rw [e]; exact hin)
  rw [Kd hn]
  have : ∀ (l : Ag), (∃ y ∈ l, y.1 = x.1) -> ∀ m m' : Ag, look (l ++ m) x.1 = look (l ++ m') x.1 := by
   intro l
   induction l with
   | nil => rintro ⟨y, hy, _⟩; cases hy
   | cons z l ih =>
    rintro ⟨y, hy, e⟩ m m'
    obtain ⟨i, c⟩ := z
    show look ((i, c) :: (l ++ m)) x.1 = look ((i, c) :: (l ++ m')) x.1
    by_cases e2 : i = x.1
    ·rw [<- e2, An, An]
    ·rw [Am _ _ e2, Am _ _ e2]
     refine ih ?_ m m'
     rcases List.mem_cons.1 hy with rfl | hy
     ·exact (e2 e).elim
     ·exact ⟨y, hy, e⟩
  exact this Dj.ch ⟨x, hx, rfl⟩ _ _
 ·have hn : ∀ y ∈ Dj.ch, y.1 ≠ b := fun y hy e => hb ⟨y, hy, e⟩
  rw [Kd (l := Dj.ch) hn]
  have : ∀ (l : Ag), look (l ++ (Dj.ch ++ bs)) b = look (l ++ bs) b := by
   intro l
   induction l with
   | nil => exact Kd hn
   | cons z l ih =>
    obtain ⟨i, c⟩ := z
    show look ((i, c) :: (l ++ (Dj.ch ++ bs))) b = look ((i, c) :: (l ++ bs)) b
    by_cases e2 : i = b
    ·rw [e2, An, An]
    ·rw [Am _ _ e2, Am _ _ e2]; exact ih
  exact this Di.ch
def Aql (E : Env) (all : List Oper) (D : Nat -> Dat) (slE : List AV) (bsE : Ag) : List Nat -> List AV -> Ag -> Prop
 | [], sl, bs => sl = slE /\ ∀ b, look bs b = look bsE b
 | i :: l, sl, bs => ∃ o, all[i]? = some o /\ Stp E all o (D i) sl bs /\ Aql E all D slE bsE l (X2 sl o.dst (D i).v) ((D i).ch ++ bs)
theorem Awg {D : Nat -> Dat} {slE : List AV} {bsE : Ag} : ∀ {l : List Nat} {sl : List AV} {bs bs2 : Ag}, (∀ b, look bs2 b = look bs b) -> Aql E all D slE bsE l sl bs -> Aql E all D slE bsE l sl bs2
 | [], sl, bs, bs2, h, hr => ⟨hr.1, fun b => (h b).trans (hr.2 b)⟩
 | i :: l, sl, bs, bs2, h, ⟨o, h1, h2, h3⟩ => by
  refine ⟨o, h1, h2.alike Ah5.refl ?_, Awg (Xf h) h3⟩
  cases (D i).A with
  | none => exact h
  | some l => exact fun b _ => h b
theorem A7f {D : Nat -> Dat} {slE : List AV} {bsE : Ag} {i : Nat} {l2 : List Nat} : ∀ {l1 : List Nat} {sl : List AV} {bs : Ag},
  (∀ j ∈ l1, ∀ oj oi, all[j]? = some oj -> all[i]? = some oi -> Ind all oj oi (D j) (D i)) -> Aql E all D slE bsE (l1 ++ i :: l2) sl bs -> Aql E all D slE bsE (i :: (l1 ++ l2)) sl bs
 | [], sl, bs, _, h => h
 | j :: l1, sl, bs, hi, ⟨oj, h1, h2, h3⟩ => by
  obtain ⟨oi, k1, k2, k3⟩ := A7f (fun q hq => hi q (List.mem_cons_of_mem _ hq)) h3
  obtain ⟨s1, s2, s3, s4⟩ := Bah h2 k2 (hi j (List.mem_cons_self ..) oj oi h1 k1)
  refine ⟨oi, k1, s1, oj, h1, s2, ?_⟩
  rw [<- s3]
  exact Awg (fun b => (s4 b).symm) k3
end
section
variable {P : Program} {E : Env} {R : Type} {out : R} {g0 g g' : Gh} {w0 w w' : World} {sl sl2 : List AV} {bs0 bs bs2 : Ag} {a : Act} {all : List Oper}
def Aqe (D : Nat -> Dat) (all : List Oper) : Log -> Nat -> Prop
 | [], n => n = 0
 | (k, o, A, W) :: l, n => ∃ m, n = m + 1 /\ k = m /\ all[m]? = some o /\ A = (D m).A /\ W = (D m).ch.map (·.1) /\ Aqe D all l m
theorem Apl {D D' : Nat -> Dat} : ∀ {l : Log} {n : Nat}, (∀ k < n, D' k = D k) -> Aqe D all l n -> Aqe D' all l n
 | [], _, _, h => h
 | (k, o, A, W) :: l, n, hk, ⟨m, e, h1, h2, h3, h4, h5⟩ => by
  subst e
  have e := hk m (Nat.lt_succ_self m)
  exact ⟨m, rfl, h1, h2, by rw [e]; exact h3, by rw [e]; exact h4, Apl (fun q hq => hk q (Nat.lt_succ_of_lt hq)) h5⟩
theorem Aul : ∀ l : Ag, Azm l = l.length
 | [] => rfl
 | _ :: l => by simp [Azm, Aul l]
theorem Aob : ∀ (ch bs : Ag), Be7 ch.length (ch ++ bs) = ch.map (·.1)
 | [], _ => rfl
 | (i, c) :: ch, bs => by
  show i :: Be7 ch.length (ch ++ bs) = _
  rw [Aob ch bs]; rfl
theorem Bgc (hE : C8 P E) {K : St -> Option R} : ∀ (rest : List Oper) (i : Nat) (sl : List AV) (bs : Ag) (lg : Log) (D0 : Nat -> Dat), (∀ k < rest.length, rest[k]? = all[i + k]?) -> Aqe D0 all lg i ->
  Aq3 E all rest i ⟨sl, bs⟩ lg K = some out -> ∃ D slE bsE lg', (∀ k < i, D k = D0 k) /\ K ⟨slE, bsE⟩ = some out /\ Aqe D all lg' (i + rest.length) /\
   (A6r all (Sp all []) lg' && Al4 all 0 && Region.noSelect all.toArray) = true /\ Aql E all D slE bsE (List.range' i rest.length) sl bs
 | [], i, sl, bs, lg, D0, hk, hl, h => by
  simp only [Aq3] at h
  obtain ⟨h1, h⟩ := Ad h
  exact ⟨D0, sl, bs, lg, fun _ _ => rfl, h, hl, h1, rfl, fun _ => rfl⟩
 | o :: rest, i, sl, bs, lg, D0, hk, hl, h => by
  simp only [Aq3] at h
  obtain ⟨hd, h⟩ := Ad h
  obtain ⟨Di, h1, h2, h3⟩ := Bfx hE hd h
  have ho : all[i]? = some o := by have := hk 0 (by simp); simpa using this.symm
  have hlog : Aqe (fun k => if k = i then Di else D0 k) all ((i, o, Av1 E o sl bs, Be7 (Azm (Di.ch ++ bs) - Azm bs) (Di.ch ++ bs)) :: lg) (i + 1) := by
   refine ⟨i, rfl, rfl, ho, by simp [h2], ?_, Apl (fun k hk => by show (if k = i then Di else D0 k) = D0 k; rw [if_neg (by omega)]) hl⟩
   rw [Aul, Aul, List.length_append, Nat.add_sub_cancel, Aob]
   simp
  obtain ⟨D, slE, bsE, lg', k1, k2, k3, k4, k5⟩ := Bgc hE rest (i + 1) _ _ _ _ (fun k hk1 => by have := hk (k + 1) (by simpa using hk1); rw [List.getElem?_cons_succ] at this; rw [this]; congr 1; omega) hlog h1
  have hDi : D i = Di := by rw [k1 i (Nat.lt_succ_self i)]; simp
  refine ⟨D, slE, bsE, lg', fun k hk' => ?_, k2, by rw [List.length_cons, show i + (rest.length + 1) = i + 1 + rest.length by omega]; exact k3, k4, ?_⟩
  ·rw [k1 k (by omega)]; show (if k = i then Di else D0 k) = D0 k; rw [if_neg (by omega)]
  ·rw [List.length_cons, List.range'_succ]
   exact ⟨o, ho, by rw [hDi]; exact h3, by rw [hDi]; exact k5⟩
theorem A73 {A : Option (List Nat)} {ch : Ag} (h : A4k A (ch.map (·.1)) = true) : ∀ x ∈ ch, ¬ InA A x.1 := by
 intro x hx hin
 cases A with
 | none =>
  cases ch with
  | nil => cases hx
  | cons y ch => simp [A4k, Ba4] at h
 | some l =>
  simp only [A4k, List.all_eq_true] at h
  have := h x.1 (List.mem_map.2 ⟨x, hx, rfl⟩)
  simp only [Bool.not_eq_true'] at this
  have hm : Nu l x.1 = true := by
   have : ∀ {l : List Nat} {n : Nat}, n ∈ l -> Nu l n = true := by
    intro l n h
    induction l with
    | nil => cases h
    | cons b l ih =>
     simp only [Nu, Bool.or_eq_true]
     rcases List.mem_cons.1 h with rfl | h
     ·exact .inl (Nat.beq_refl _)
     ·exact .inr (ih h)
   exact this hin
  rw [hm] at this; cases this
theorem A12 {D : Nat -> Dat} {bm i : Nat} {oi : Oper} : ∀ {l : Log} {n : Nat}, Aqe D all l n -> A89 all bm i oi (D i).A ((D i).ch.map (·.1)) l = true -> ∀ j < n, ∀ oj, all[j]? = some oj -> bm.testBit j = true \/ Ind all oj oi (D j) (D i)
 | [], n, h, _, j, hj, _, _ => by simp only [Aqe] at h; omega
 | (k, o, A, W) :: l, n, ⟨m, e, h1, h2, h3, h4, h5⟩, hok, j, hj, oj, hoj => by
  subst e; subst h1
  simp only [A89, Bool.and_eq_true, Bool.or_eq_true] at hok
  by_cases e : j = k
  ·subst e
   rw [h2] at hoj
   simp only [Option.some.injEq] at hoj
   subst hoj
   rcases hok.1 with h | ⟨⟨ha, hb⟩, hc⟩
   ·exact .inl h
   ·refine .inr ⟨ha, ?_, ?_⟩
    ·rw [h3] at hc; exact A73 hc
    ·rw [h4] at hb; exact A73 hb
  ·exact A12 h5 hok.2 j (by omega) oj hoj
theorem As2 {D : Nat -> Dat} {bms : List Nat} : ∀ {l : Log} {n : Nat}, Aqe D all l n -> A6r all bms l = true -> ∀ j i, j < i -> i < n -> ∀ oj oi, all[j]? = some oj -> all[i]? = some oi ->
  (Al1 bms i).testBit j = true \/ Ind all oj oi (D j) (D i)
 | [], n, h, _, j, i, _, hi, _, _, _, _ => by simp only [Aqe] at h; omega
 | (k, o, A, W) :: l, n, ⟨m, e, h1, h2, h3, h4, h5⟩, hok, j, i, hji, hi, oj, oi, hoj, hoi => by
  subst e; subst h1
  simp only [A6r, Bool.and_eq_true] at hok
  by_cases e : i = k
  ·subst e
   rw [h2] at hoi
   simp only [Option.some.injEq] at hoi
   subst hoi
   rw [h3, h4] at hok
   exact A12 h5 hok.1 j hji oj hoj
  ·exact As2 h5 hok.2 j i hji (by omega) oj oi hoj hoi
theorem Ag6 : ∀ {l : List Oper} {n k : Nat} {o : Oper}, Al4 l n = true -> l[k]? = some o -> ∀ e ∈ o.after.toList, Region.binds .any e = true -> e.on < n + k
 | [], _, _, _, _, h, _, _, _ => by simp at h
 | o' :: l, n, 0, o, hb, h, e, he, hbi => by
  simp only [List.getElem?_cons_zero, Option.some.injEq] at h
  subst h
  simp only [Al4, Bool.and_eq_true, List.all_eq_true] at hb
  have := hb.1 e he
  rw [hbi] at this
  have := Nat.le_of_ble_eq_true (by simpa [Nat.blt] using this : Nat.ble (e.on + 1) n = true)
  omega
 | o' :: l, n, k + 1, o, hb, h, e, he, hbi => by
  simp only [Al4, Bool.and_eq_true] at hb
  have := Ag6 hb.2 (by simpa using h) e he hbi
  omega
theorem Yl (x : Nat) : ∀ l : List Nat, (Az5 l x).length = l.length + 1
 | [] => rfl
 | _ :: l => by simp [Az5, Yl x l]
theorem Alg (x : Nat) : ∀ (l : List Nat) (k : Nat), k < l.length -> Al1 (Az5 l x) k = Al1 l k
 | [], _, h => by simp at h
 | _ :: _, 0, _ => rfl
 | _ :: l, k + 1, h => Alg x l k (by simpa using h)
theorem Aks (x : Nat) : ∀ (l : List Nat), Al1 (Az5 l x) l.length = x
 | [] => rfl
 | _ :: l => Aks x l
theorem Ao7 : ∀ (l : List Oper) (acc : List Nat) (k : Nat), k < acc.length -> Al1 (Sp l acc) k = Al1 acc k
 | [], _, _, _ => rfl
 | o :: l, acc, k, h => by
  simp only [Sp]
  rw [Ao7 l _ k (by rw [Yl]; omega), Alg _ _ _ h]
theorem A2b : ∀ (l : List Oper) (acc : List Nat) (k : Nat) (o : Oper), l[k]? = some o -> ∃ acc', acc'.length = acc.length + k /\ (∀ q < acc'.length, Al1 acc' q = Al1 (Sp l acc) q) /\ Al1 (Sp l acc) (acc.length + k) = Ar8 acc' o.after.toList 0
 | [], _, _, _, h => by simp at h
 | o' :: l, acc, 0, o, h => by
  simp only [List.getElem?_cons_zero, Option.some.injEq] at h
  subst h
  refine ⟨acc, rfl, fun q hq => (Ao7 (o' :: l) acc q hq).symm, ?_⟩
  simp only [Sp, Nat.add_zero]
  rw [Ao7 l _ _ (by rw [Yl]; omega), Aks]
 | o' :: l, acc, k + 1, o, h => by
  obtain ⟨acc', h1, h2, h3⟩ := A2b l (Az5 acc (Ar8 acc o'.after.toList 0)) k o (by simpa using h)
  rw [Yl] at h1 h3
  exact ⟨acc', by omega, h2, by rw [show acc.length + (k + 1) = acc.length + 1 + k by omega]; exact h3⟩
theorem Ar3 (acc : List Nat) : ∀ (es : List Edge) (s j : Nat), (Ar8 acc es s).testBit j = true -> s.testBit j = true \/ ∃ e ∈ es, Region.binds .any e = true /\ (j = e.on \/ (Al1 acc e.on).testBit j = true)
 | [], s, j, h => .inl h
 | e :: es, s, j, h => by
  simp only [Ar8] at h
  rcases Ar3 acc es _ j h with h | ⟨e', he', h1⟩
  ·cases hb : Region.binds .any e with
   | false => rw [hb] at h; exact .inl h
   | true =>
    rw [hb] at h
    simp only [cond_true, Nat.testBit_or, Bool.or_eq_true, Nat.testBit_two_pow, decide_eq_true_eq] at h
    rcases h with (h | h) | h
    ·exact .inl h
    ·exact .inr ⟨e, List.mem_cons_self .., hb, .inl h.symm⟩
    ·exact .inr ⟨e, List.mem_cons_self .., hb, .inr h⟩
  ·exact .inr ⟨e', List.mem_cons_of_mem _ he', h1⟩
theorem Aww (hb : Al4 all 0 = true) {i j : Nat} {o : Oper} (ho : all[i]? = some o) (h : (Al1 (Sp all []) i).testBit j = true) :
  ∃ e ∈ o.after.toList, Region.binds .any e = true /\ e.on < i /\ (j = e.on \/ (Al1 (Sp all []) e.on).testBit j = true) := by
 obtain ⟨acc', h1, h2, h3⟩ := A2b all [] i o ho
 simp only [List.length_nil, Nat.zero_add] at h1 h3
 rw [h3] at h
 rcases Ar3 acc' _ 0 j h with h | ⟨e, he, hbi, h⟩
 ·simp at h
 ·have hlt : e.on < i := by have := Ag6 hb ho e he hbi; omega
  refine ⟨e, he, hbi, hlt, ?_⟩
  rcases h with h | h
  ·exact .inl h
  ·rw [h2 e.on (by omega)] at h; exact .inr h
def Cl (all : List Oper) (listed : Array Bool) : Prop :=
 ∀ k o, all[k]? = some o -> listed.getD k false = true -> ∀ e ∈ o.after.toList, Region.binds .any e = true -> listed.getD e.on false = true
theorem Awy (hb : Al4 all 0 = true) {listed : Array Bool} (hc : Cl all listed) (hsz : listed.size = all.length) : ∀ (k j : Nat), listed.getD k false = true -> (Al1 (Sp all []) k).testBit j = true -> listed.getD j false = true := by
 intro k
 induction k using Nat.strongRecOn with
 | _ k ih =>
  intro j hk hj
  have hlt : k < all.length := by
   rcases Nat.lt_or_ge k listed.size with h | h
   ·omega
   ·rw [Array.getD, dif_neg (by omega)] at hk; cases hk
  obtain ⟨e, he, hbi, hlt2, h⟩ := Aww hb (List.getElem?_eq_getElem hlt) hj
  have := hc k _ (List.getElem?_eq_getElem hlt) hk e he hbi
  rcases h with rfl | h
  ·exact this
  ·exact ih e.on hlt2 j this h
theorem Zf (hb : Al4 all 0 = true) {listed : Array Bool} (hc : Cl all listed) (hsz : listed.size = all.length) {i j : Nat} (hi : i ∈ Region.ready .any all.toArray listed) (hj : (Al1 (Sp all []) i).testBit j = true) : listed.getD j false = true := by
 obtain ⟨_, o, ho, hall⟩ := mem_ready.1 hi
 rw [List.getElem?_toArray] at ho
 obtain ⟨e, he, hbi, _, h⟩ := Aww hb ho hj
 have := hall e (by simpa using he) hbi
 rcases h with rfl | h
 ·exact this
 ·exact Awy hb hc hsz e.on j this h
theorem A4i (hE : C8 P E) {o : Oper} {D : Dat} (hs : Stp E all o D sl bs) (hr : Rel E.ET g0 bs0 w0 g ⟨sl, bs⟩ a w) {kv : List Value} (hkp : ∀ i ∈ E.keep, a.tmps.getD i undef = kv.getD i undef) {W : Act -> World -> Prop} {Q : O8}
  (hW : ∀ a' w', Ak8 E.ET g0 bs0 w0 E.keep kv ⟨X2 sl o.dst D.v, D.ch ++ bs⟩ a' w' -> a'.defers = a.defers -> W a' w') :
  if Region.wanted o (yielded all.toArray a.tmps) then o.wp P a w W Q \/ (o.asks P a w /\ LetsOut Q) else W (a.put o.dst undef) w := by
 have h := hs.1 sl bs Ah5.refl (Agr.refl _) St some
 exact Bf3 (R := St) (out := ⟨X2 sl o.dst D.v, D.ch ++ bs⟩) hE ⟨⟨g, hr⟩, hkp⟩ h fun st' a' w' h1 hp h2 => by
  simp only [Option.some.injEq] at h2
  subst h2
  refine hW a' w' h1 ?_
  obtain ⟨u, rfl⟩ := hp
  cases o.dst <;> rfl
theorem A96 (h : ∀ b, look bs2 b = look bs b) : Ext g bs w g bs2 w := by
 refine ⟨Fr.refl g w, fun b => by simp only [Au, h]; exact Nat.le_refl _, fun b v T c _ hb => ?_, fun b v T t xs _ hb => ?_⟩
 ·exact ⟨⟨c, by simp only [Ap, <- h b]; exact hb⟩, rfl⟩
 ·exact ⟨⟨xs, by simp only [Ap, <- h b]; exact hb, rfl⟩, rfl⟩
theorem Aye {b : Nat} {c : Xr} (he : Ext g bs w g bs2 w) (h : A15 E.ET g bs w b c) : A15 E.ET g bs2 w b c := by
 cases c with
 | dead => trivial
 | var T cells =>
  obtain ⟨blk, arr, k1, k2, k3, k4⟩ := h
  exact ⟨blk, arr, k1, k2, k3, k4.mono fun _ _ => Cn.keep he⟩
 | row T t xs => exact h
theorem A5v {kv : List Value} (h : ∀ b, look bs2 b = look bs b) (hr : Ak8 E.ET g0 bs0 w0 E.keep kv ⟨sl, bs⟩ a w) : Ak8 E.ET g0 bs0 w0 E.keep kv ⟨sl, bs2⟩ a w := by
 obtain ⟨⟨g, hr⟩, hk⟩ := hr
 have he : Ext g bs w g bs2 w := A96 h
 exact ⟨⟨g, hr.glb, hr.size, fun i => (hr.slots i).keep he, fun b v c hl => Aye he (hr.boxes b v c (by rw [<- h b]; exact hl)), hr.defers.mono he.fr, hr.ext.trans he⟩, hk⟩
theorem A2d {kv : List Value} (hr : Ak8 E.ET g0 bs0 w0 E.keep kv ⟨sl, bs⟩ a w) : Ak8 E.ET g0 bs0 w0 E.keep kv ⟨sl, bs⟩ a { w with drawn := w.drawn + 1 } := by
 obtain ⟨⟨g, hr⟩, hk⟩ := hr
 have fr : Fr g w g { w with drawn := w.drawn + 1 } := ⟨rfl, rfl, rfl, Nat.le_refl _, fun b h _ => ⟨h, rfl⟩, fun b h _ => ⟨h, rfl⟩⟩
 have he : Ext g bs w g bs { w with drawn := w.drawn + 1 } := Ext.of_fr fr rfl
 exact ⟨⟨g, hr.glb.keep fr, hr.size, fun i => (hr.slots i).keep he, hr.boxes.frame fr rfl (fun blk b _ h => ⟨h, rfl⟩), hr.defers.mono he.fr, hr.ext.trans he⟩, hk⟩
theorem Be5 {kv : List Value} (hE : C8 P E) {D : Nat -> Dat} {slE : List AV} {bsE : Ag} {Q : O8} (hback : Al4 all 0 = true)
  (hpair : ∀ j i, j < i -> i < all.length -> ∀ oj oi, all[j]? = some oj -> all[i]? = some oi -> (Al1 (Sp all []) i).testBit j = true \/ Ind all oj oi (D j) (D i))
  {ds : List Deferred} (hQ : ∀ bs a w, (∀ b, look bs b = look bsE b) -> Ak8 E.ET g0 bs0 w0 E.keep kv ⟨slE, bs⟩ a w -> a.defers = ds -> Q .normal a w) :
  ∀ (n : Nat) (rem : List Nat) (listed : Array Bool) (sl : List AV) (bs : Ag) (a : Act) (w : World), rem.length = n -> rem.Pairwise (· < ·) -> (∀ i, i ∈ rem ↔ i < all.length /\ listed.getD i true = false) ->
   listed.size = all.length -> Cl all listed -> a.defers = ds -> Ak8 E.ET g0 bs0 w0 E.keep kv ⟨sl, bs⟩ a w -> Aql E all D slE bsE rem sl bs -> wpAny P .any all.toArray Q n listed a w := by
 have inRem : ∀ {rem : List Nat} {listed : Array Bool} {i : Nat}, (∀ i, i ∈ rem ↔ i < all.length /\ listed.getD i true = false) -> i ∈ Region.ready .any all.toArray listed -> i ∈ rem := by
  intro rem listed i hmem hi
  obtain ⟨h1, o, ho, _⟩ := mem_ready.1 hi
  rw [List.getElem?_toArray] at ho
  exact (hmem i).2 ⟨(List.getElem?_eq_some_iff.1 ho).1, h1⟩
 have same : ∀ {listed : Array Bool} {k : Nat}, listed.size = all.length -> k < all.length -> listed.getD k true = listed.getD k false := by
  intro listed k hs hk
  rw [Array.getD, Array.getD, dif_pos (by omega), dif_pos (by omega)]
 intro n
 induction n with
 | zero =>
  intro rem listed sl bs a w hlen hpw hmem hsz hcl hds hr hrun
  have : rem = [] := List.eq_nil_of_length_eq_zero hlen
  subst this
  refine ⟨?_, ?_⟩
  ·rw [List.eq_nil_iff_forall_not_mem]
   intro i hi
   have := inRem hmem hi
   cases this
  ·obtain ⟨e, hl⟩ := hrun
   subst e
   exact hQ bs a w hl hr hds
 | succ n ih =>
  intro rem listed sl bs a w hlen hpw hmem hsz hcl hds hr hrun
  refine ⟨fun hnone => ?_, fun i hi => ?_⟩
  ·-- the first of the rest may come up
   exfalso
   cases rem with
   | nil => simp at hlen
   | cons r rs =>
    obtain ⟨hrl, hru⟩ := (hmem r).1 (List.mem_cons_self ..)
    have hready : r ∈ Region.ready .any all.toArray listed := by
     refine mem_ready.2 ⟨hru, all[r], by rw [List.getElem?_toArray]; exact List.getElem?_eq_getElem hrl, fun e he hbi => ?_⟩
     have hlt := Ag6 hback (List.getElem?_eq_getElem hrl) e (by simpa using he) hbi
     have hlt : e.on < r := by omega
     have hnot : e.on ∉ r :: rs := by
      intro hin
      rcases List.mem_cons.1 hin with h | h
      ·omega
      ·have := (List.pairwise_cons.1 hpw).1 _ h
       omega
     have h2 : listed.getD e.on true ≠ false := fun h => hnot ((hmem e.on).2 ⟨by omega, h⟩)
     rw [<- same hsz (by omega)]
     simpa using h2
    rw [hnone] at hready
    cases hready
  ·have hin := inRem hmem hi
   obtain ⟨l1, l2, rfl⟩ := List.append_of_mem hin
   obtain ⟨hil, hiu⟩ := (hmem i).1 hin
   have hpw' := List.pairwise_append.1 hpw
   have hb : Aql E all D slE bsE (i :: (l1 ++ l2)) sl bs := by
    refine A7f (fun j hj oj oi hoj hoi => ?_) hrun
    have hji : j < i := hpw'.2.2 j hj i (List.mem_cons_self ..)
    obtain ⟨hjl, hju⟩ := (hmem j).1 (List.mem_append_left _ hj)
    rcases hpair j i hji hil oj oi hoj hoi with h | h
    ·exfalso
     have := Zf hback hcl hsz hi h
     rw [<- same hsz hjl, hju] at this
     cases this
    ·exact h
   obtain ⟨o, ho, hstp, hrun'⟩ := hb
   obtain ⟨⟨g, hr'⟩, hkp⟩ := hr
   have hget : ∀ k, (listed.setIfInBounds i true).getD k true = if k = i then true else listed.getD k true := by
    intro k
    by_cases e : k = i
    ·subst e
     rw [if_pos rfl, Array.getD]
     split <;> simp
    ·rw [if_neg e, getD_set_ne true (Ne.symm e)]
   unfold wpOp
   rw [List.getElem?_toArray, ho]
   refine A4i hE hstp hr' hkp fun a' w' hrl hda => ?_
   refine ih (l1 ++ l2) (listed.setIfInBounds i true) _ _ a' w' ?_ ?_ ?_ (by rw [Array.size_setIfInBounds]; exact hsz) ?_ (hda.trans hds) hrl hrun'
   ·simp only [List.length_append, List.length_cons] at hlen ⊢; omega
   ·exact hpw.sublist (List.Sublist.append_left (List.sublist_cons_self i l2) l1)
   ·intro k
    rw [hget]
    by_cases e : k = i
    ·subst e
     simp only [if_true]
     constructor
     ·intro hk
      rcases List.mem_append.1 hk with hk | hk
      ·have := hpw'.2.2 k hk k (List.mem_cons_self ..); omega
      ·have := (List.pairwise_cons.1 hpw'.2.1).1 k hk; omega
     ·rintro ⟨_, h⟩; cases h
    ·rw [if_neg e, <- hmem k]
     simp only [List.mem_append, List.mem_cons, e, false_or]
   ·intro k ok hok hk e he hbi
    by_cases ek : k = i
    ·subst ek
     obtain ⟨_, o', ho', hall⟩ := mem_ready.1 hi
     rw [List.getElem?_toArray, hok] at ho'
     simp only [Option.some.injEq] at ho'
     subst ho'
     exact getD_set_true (hall e (by simpa using he) hbi)
    ·rw [getD_set_ne false (Ne.symm ek)] at hk
     exact getD_set_true (hcl k ok hok hk e he hbi)
def Bfw (P : Program) (ops : Array Oper) (Q : O8) : Nat -> Nat -> Act -> World -> Prop
 | 0, _ => fun a w => Q .normal a w
 | s + 1, m => wpOp P ops Q m (Bfw P ops Q s (m + 1))
theorem Atx {listed : Array Bool} {i : Nat} (hi : i ∈ Region.ready .any all.toArray listed) : i < all.length /\ listed.getD i true = false := by
 obtain ⟨h1, o, ho, _⟩ := mem_ready.1 hi
 rw [List.getElem?_toArray] at ho
 exact ⟨(List.getElem?_eq_some_iff.1 ho).1, h1⟩
theorem Uh {listed : Array Bool} {k : Nat} (hs : listed.size = all.length) (hk : k < all.length) : listed.getD k true = listed.getD k false := by
 rw [Array.getD, Array.getD, dif_pos (by omega), dif_pos (by omega)]
theorem A0t (listed : Array Bool) (i k : Nat) : (listed.setIfInBounds i true).getD k true = if k = i then true else listed.getD k true := by
 by_cases e : k = i
 ·subst e
  rw [if_pos rfl, Array.getD]
  split <;> simp
 ·rw [if_neg e, getD_set_ne true (Ne.symm e)]
theorem Ba2 {listed : Array Bool} {i : Nat} (hcl : Cl all listed) (hi : i ∈ Region.ready .any all.toArray listed) : Cl all (listed.setIfInBounds i true) := by
 intro k ok hok hk e he hbi
 by_cases ek : k = i
 ·subst ek
  obtain ⟨_, o', ho', hall⟩ := mem_ready.1 hi
  rw [List.getElem?_toArray, hok] at ho'
  simp only [Option.some.injEq] at ho'
  subst ho'
  exact getD_set_true (hall e (by simpa using he) hbi)
 ·rw [getD_set_ne false (Ne.symm ek)] at hk
  exact getD_set_true (hcl k ok hok hk e he hbi)
theorem Bdw {Q : O8} (hback : Al4 all 0 = true) : ∀ (s m : Nat) (listed : Array Bool) (a : Act) (w : World), all.length = m + s -> (∀ j < m, listed.getD j true = true) -> (∀ j, m <= j -> j < all.length -> listed.getD j true = false) ->
  (∀ i, m <= i -> i < all.length -> ∀ j < i, (Al1 (Sp all []) i).testBit j = true) -> Cl all listed -> listed.size = all.length -> Bfw P all.toArray Q s m a w -> wpAny P .any all.toArray Q s listed a w := by
 intro s
 induction s with
 | zero =>
  intro m listed a w hm h1 h2 hf hcl hsz hw
  refine ⟨?_, hw⟩
  rw [List.eq_nil_iff_forall_not_mem]
  intro k hk
  obtain ⟨k1, k2⟩ := Atx hk
  rw [h1 k (by omega)] at k2
  cases k2
 | succ s ih =>
  intro m listed a w hm h1 h2 hf hcl hsz hw
  have hml : m < all.length := by omega
  refine ⟨fun hnone => ?_, fun i hi => ?_⟩
  ·exfalso
   have hready : m ∈ Region.ready .any all.toArray listed := by
    refine mem_ready.2 ⟨h2 m (Nat.le_refl _) hml, all[m], by rw [List.getElem?_toArray]; exact List.getElem?_eq_getElem hml, fun e he hbi => ?_⟩
    have hlt := Ag6 hback (List.getElem?_eq_getElem hml) e (by simpa using he) hbi
    rw [<- Uh hsz (by omega)]
    exact h1 e.on (by omega)
   rw [hnone] at hready
   cases hready
  ·obtain ⟨k1, k2⟩ := Atx hi
   have him : i = m := by
    rcases Nat.lt_trichotomy i m with h | h | h
    ·rw [h1 i h] at k2; cases k2
    ·exact h
    ·exfalso
     have := Zf hback hcl hsz hi (hf i (by omega) k1 m h)
     rw [<- Uh hsz hml, h2 m (Nat.le_refl _) hml] at this
     cases this
   subst him
   refine wpOp_mono (fun a' w' h' => ih (i + 1) _ a' w' (by omega) (fun j hj => ?_) (fun j hj hjl => ?_) (fun q hq => hf q (by omega)) (Ba2 hcl hi) (by rw [Array.size_setIfInBounds]; exact hsz) h') hw
   ·rw [A0t]
    by_cases e : j = i
    ·rw [if_pos e]
    ·rw [if_neg e]; exact h1 j (by omega)
   ·rw [A0t, if_neg (by omega)]
    exact h2 j (by omega) hjl
theorem Bcm {kv : List Value} (hE : C8 P E) {D : Nat -> Dat} {slE : List AV} {bsE : Ag} {Q : O8} {m s : Nat} (hm : all.length = m + s) (hback : Al4 all 0 = true)
  (hfull : ∀ i, m <= i -> i < all.length -> ∀ j < i, (Al1 (Sp all []) i).testBit j = true)
  (hpair : ∀ j i, j < i -> i < m -> ∀ oj oi, all[j]? = some oj -> all[i]? = some oi -> (Al1 (Sp all []) i).testBit j = true \/ Ind all oj oi (D j) (D i))
  {ds : List Deferred} (hQ : ∀ bs a w, (∀ b, look bs b = look bsE b) -> Ak8 E.ET g0 bs0 w0 E.keep kv ⟨slE, bs⟩ a w -> a.defers = ds -> Bfw P all.toArray Q s m a w) :
  ∀ (n : Nat) (rem : List Nat) (listed : Array Bool) (sl : List AV) (bs : Ag) (a : Act) (w : World), rem.length = n -> rem.Pairwise (· < ·) -> (∀ i, i ∈ rem ↔ i < m /\ listed.getD i true = false) -> (∀ j, m <= j -> j < all.length -> listed.getD j true = false) ->
   listed.size = all.length -> Cl all listed -> a.defers = ds -> Ak8 E.ET g0 bs0 w0 E.keep kv ⟨sl, bs⟩ a w -> Aql E all D slE bsE rem sl bs -> wpAny P .any all.toArray Q (n + s) listed a w := by
 intro n
 induction n with
 | zero =>
  intro rem listed sl bs a w hlen hpw hmem hum hsz hcl hds hr hrun
  have : rem = [] := List.eq_nil_of_length_eq_zero hlen
  subst this
  obtain ⟨e, hl⟩ := hrun
  subst e
  rw [Nat.zero_add]
  refine Bdw hback s m listed a w hm (fun j hj => ?_) hum hfull hcl hsz (hQ bs a w hl hr hds)
  cases hc : listed.getD j true with
  | true => rfl
  | false => have := (hmem j).2 ⟨hj, hc⟩; cases this
 | succ n ih =>
  intro rem listed sl bs a w hlen hpw hmem hum hsz hcl hds hr hrun
  rw [show n + 1 + s = (n + s) + 1 by omega]
  refine ⟨fun hnone => ?_, fun i hi => ?_⟩
  ·exfalso
   cases rem with
   | nil => simp at hlen
   | cons r rs =>
    obtain ⟨hrl, hru⟩ := (hmem r).1 (List.mem_cons_self ..)
    have hready : r ∈ Region.ready .any all.toArray listed := by
     refine mem_ready.2 ⟨hru, all[r], by rw [List.getElem?_toArray]; exact List.getElem?_eq_getElem (by omega), fun e he hbi => ?_⟩
     have hlt := Ag6 hback (List.getElem?_eq_getElem (show r < all.length by omega)) e (by simpa using he) hbi
     have hlt : e.on < r := by omega
     have hnot : e.on ∉ r :: rs := by
      intro hin
      rcases List.mem_cons.1 hin with h | h
      ·omega
      ·have := (List.pairwise_cons.1 hpw).1 _ h
       omega
     have h2 : listed.getD e.on true ≠ false := fun h => hnot ((hmem e.on).2 ⟨by omega, h⟩)
     rw [<- Uh hsz (by omega)]
     simpa using h2
    rw [hnone] at hready
    cases hready
  ·obtain ⟨h1, h2⟩ := Atx hi
   have him : i < m := by
    rcases Nat.lt_or_ge i m with h | h
    ·exact h
    ·exfalso
     cases rem with
     | nil => simp at hlen
     | cons r rs =>
      obtain ⟨hrl, hru⟩ := (hmem r).1 (List.mem_cons_self ..)
      have := Zf hback hcl hsz hi (hfull i h h1 r (by omega))
      rw [<- Uh hsz (by omega), hru] at this
      cases this
   have hin := (hmem i).2 ⟨him, h2⟩
   obtain ⟨l1, l2, rfl⟩ := List.append_of_mem hin
   have hpw' := List.pairwise_append.1 hpw
   have hb : Aql E all D slE bsE (i :: (l1 ++ l2)) sl bs := by
    refine A7f (fun j hj oj oi hoj hoi => ?_) hrun
    have hji : j < i := hpw'.2.2 j hj i (List.mem_cons_self ..)
    obtain ⟨hjl, hju⟩ := (hmem j).1 (List.mem_append_left _ hj)
    rcases hpair j i hji him oj oi hoj hoi with h | h
    ·exfalso
     have := Zf hback hcl hsz hi h
     rw [<- Uh hsz (by omega), hju] at this
     cases this
    ·exact h
   obtain ⟨o, ho, hstp, hrun'⟩ := hb
   obtain ⟨⟨g, hr'⟩, hkp⟩ := hr
   unfold wpOp
   rw [List.getElem?_toArray, ho]
   refine A4i hE hstp hr' hkp fun a' w' hrl hda => ?_
   refine ih (l1 ++ l2) (listed.setIfInBounds i true) _ _ a' w' ?_ ?_ ?_ (fun j hj hjl => by rw [A0t, if_neg (by omega)]; exact hum j hj hjl) (by rw [Array.size_setIfInBounds]; exact hsz) (Ba2 hcl hi) (hda.trans hds) hrl hrun'
   ·simp only [List.length_append, List.length_cons] at hlen ⊢; omega
   ·exact hpw.sublist (List.Sublist.append_left (List.sublist_cons_self i l2) l1)
   ·intro k
    rw [A0t]
    by_cases e : k = i
    ·subst e
     simp only [if_true]
     constructor
     ·intro hk
      rcases List.mem_append.1 hk with hk | hk
      ·have := hpw'.2.2 k hk k (List.mem_cons_self ..); omega
      ·have := (List.pairwise_cons.1 hpw'.2.1).1 k hk; omega
     ·rintro ⟨_, h⟩; cases h
    ·rw [if_neg e, <- hmem k]
     simp only [List.mem_append, List.mem_cons, e, false_or]
theorem A1o {ms : List Nat} : ∀ {l : List Oper} {i : Nat}, Baf ms i l = true -> ∀ k, i <= k -> k < i + l.length -> Al1 ms k = 2 ^ k - 1
 | [], i, _, k, h1, h2 => by simp at h2; omega
 | _ :: l, i, h, k, h1, h2 => by
  simp only [Baf, Bool.and_eq_true] at h
  by_cases e : k = i
  ·subst e; exact Nat.eq_of_beq_eq_true h.1
  ·exact A1o h.2 k (by omega) (by simp only [List.length_cons] at h2; omega)
theorem A51 (hE : C8 P E) {kv : List Value} {Q : O8} {ds : List Deferred} {K : St -> Option R} (hK : ∀ st' a' w', Ak8 E.ET g0 bs0 w0 E.keep kv st' a' w' -> a'.defers = ds -> K st' = some out -> Q .normal a' w') :
  ∀ (rest : List Oper) (m : Nat) (st : St) (a : Act) (w : World), (∀ k < rest.length, rest[k]? = all[m + k]?) -> Ak8 E.ET g0 bs0 w0 E.keep kv st a w -> a.defers = ds -> A48 E all rest st K = some out -> Bfw P all.toArray Q rest.length m a w
 | [], m, st, a, w, _, hr, hd, h => hK st a w hr hd h
 | o :: rest, m, st, a, w, hk, hr, hd, h => by
  have ho : all[m]? = some o := by have := hk 0 (by simp); simpa using this.symm
  show wpOp P all.toArray Q m (Bfw P all.toArray Q rest.length (m + 1)) a w
  unfold wpOp
  rw [List.getElem?_toArray, ho]
  refine Bf3 hE hr h fun st' a' w' h1 hp h2 => ?_
  refine A51 hE hK rest (m + 1) st' a' w' (fun k hk1 => by have := hk (k + 1) (by simpa using hk1); rw [List.getElem?_cons_succ] at this; rw [this]; congr 1; omega) h1 ?_ h2
  obtain ⟨u, rfl⟩ := hp
  exact (show (a.put o.dst u).defers = a.defers by cases o.dst <;> rfl).trans hd
theorem A0c (hE : C8 P E) (g0 : Gh) (bs0 : Ag) (w0 : World) (kv : List Value) : Ari (R := R) P E (Ak8 E.ET g0 bs0 w0 E.keep kv) out := by
 intro id ops st K a w Q hr0 h hK
 have hr : Ak8 E.ET g0 bs0 w0 E.keep kv (Z5 E st (Ap3 E.frz (some (1000000 + id)))) a w := by
  obtain ⟨⟨g, hg⟩, hk⟩ := hr0
  obtain ⟨g', hg'⟩ := Afl (E := E) (Ap3 E.frz (some (1000000 + id))) hg
  exact ⟨⟨g', hg'⟩, hk⟩
 clear hr0
 generalize Z5 E st (Ap3 E.frz (some (1000000 + id))) = st at h hr
 obtain ⟨sl, bs⟩ := st
 unfold Avt at h
 cases hlate : Bge E ops.toList with
 | true =>
  rw [hlate] at h
  simp only [cond_true] at h
  generalize hp : Aq9 (Sp ops.toList []) 0 ops.toList 0 = p at h
  obtain ⟨hfull, h⟩ := Ad h
  obtain ⟨D, slE, bsE, lg', _, k2, k3, k4, k5⟩ := Bgc hE (ops.toList.take p) 0 sl bs [] (fun _ => ⟨.top, [], none⟩) (fun k hk => by
   rw [Nat.zero_add]
   rw [List.length_take] at hk
   rw [List.getElem?_take, if_pos (by omega)]) rfl h
  simp only [Bool.and_eq_true] at k4
  rw [Nat.zero_add] at k3
  refine ⟨hE.mixed, ?_⟩
  have hsz : ops.size = ops.toList.length := by simp
  have hms : ops.toList.length = (ops.toList.take p).length + (ops.toList.drop p).length := by
   rw [List.length_take, List.length_drop]; omega
  have hfl : ∀ i, (ops.toList.take p).length <= i -> i < ops.toList.length -> ∀ j < i, (Al1 (Sp ops.toList []) i).testBit j = true := by
   intro i h1 h2 j hj
   rw [List.length_take] at h1
   have := A1o hfull i (by omega) (by rw [List.length_drop]; omega)
   rw [this, Nat.testBit_two_pow_sub_one]; exact decide_eq_true hj
  have key := Bcm (P := P) (g0 := g0) (bs0 := bs0) (w0 := w0) (Q := Q) (kv := kv) hE hms k4.1.2 hfl
   (fun j i hji hi oj oi hoj hoi => As2 k3 k4.1.1 j i hji hi oj oi hoj hoi)
   (ds := a.defers) (fun bs a' w' hl hrl hd => A51 hE (ds := a.defers) hK (ops.toList.drop p) _ _ a' w' (fun k hk => by
    rw [List.length_drop] at hk
    rw [List.getElem?_drop, List.length_take, Nat.min_eq_left (by omega)]) (A5v (fun b => (hl b).symm) hrl) hd k2)
   (ops.toList.take p).length (List.range' 0 (ops.toList.take p).length) (Array.replicate ops.size false) sl bs a { w with drawn := w.drawn + 1 }
   (by simp) (by simpa using List.pairwise_lt_range') (fun i => by
    rw [List.mem_range'_1, Nat.zero_add]
    constructor
    ·rintro ⟨_, h⟩
     refine ⟨h, ?_⟩
     rw [Array.getD, dif_pos (by simp only [Array.size_replicate]; omega)]; simp
    ·rintro ⟨h, _⟩
     exact ⟨Nat.zero_le _, h⟩) (fun j _ hj => by
    rw [Array.getD, dif_pos (by simp only [Array.size_replicate]; omega)]; simp) (by simp) (fun k o ho hk => by
    rw [Array.getD] at hk
    split at hk
    ·simp at hk
    ·cases hk) rfl (A2d hr) k5
  rw [<- hms, <- hsz] at key
  simpa using key
 | false =>
 rw [hlate] at h
 simp only [cond_false] at h
 obtain ⟨D, slE, bsE, lg', _, k2, k3, k4, k5⟩ := Bgc hE ops.toList 0 sl bs [] (fun _ => ⟨.top, [], none⟩) (fun k _ => by rw [Nat.zero_add]) rfl h
 simp only [Bool.and_eq_true] at k4
 rw [Nat.zero_add] at k3
 refine ⟨hE.mixed, ?_⟩
 have key := Be5 (P := P) (g0 := g0) (bs0 := bs0) (w0 := w0) (Q := Q) (kv := kv) hE k4.1.2 (fun j i hji hi oj oi hoj hoi => As2 k3 k4.1.1 j i hji hi oj oi hoj hoi)
  (ds := a.defers) (fun bs a' w hl hrl hd => hK ⟨slE, bsE⟩ a' w (A5v (fun b => (hl b).symm) hrl) hd k2) ops.size (List.range' 0 ops.size) (Array.replicate ops.size false) sl bs a { w with drawn := w.drawn + 1 }
  (by simp) (by simpa using List.pairwise_lt_range') (fun i => by
   rw [List.mem_range'_1, Nat.zero_add]
   constructor
   ·rintro ⟨_, h⟩
    refine ⟨by simpa using h, ?_⟩
    rw [Array.getD, dif_pos (by simpa using h)]; simp
   ·rintro ⟨h, _⟩
    exact ⟨Nat.zero_le _, by simpa using h⟩) (by simp) (fun k o ho hk => by
   rw [Array.getD] at hk
   split at hk
   ·simp at hk
   ·cases hk) rfl (A2d hr) (by simpa using k5)
 simpa using key
end
section
variable {P : Program} {R : Type} {out : R} {ET : TypeId} {g0 g g' : Gh} {w0 w w' : World} {bs : Ag}
theorem Bb2 {o : Oper} {a : Act} {next : Act -> World -> Prop} {Q : O8} {l n : Nat} : ∀ {r : Result Next}, o.upon P a next Q r -> o.uponIn (Fence.wide.inRound l) n P a next Q r := by
 intro r h
 match r, h with
 | .ok (.value v) w', h => exact h
 | .ok .skip w', h => exact h
 | .ok (.defer d) w', h => exact h
 | .ok (.enter f args) w', h => exact ⟨fun hh => by simp [Fence.wide] at hh, CallsIn.inRound l (callsIn_wide.2 h)⟩
 | .ok (.row row args) w', h =>
  refine ⟨fun hh => by simp [Fence.wide] at hh, fun c cs _ => ?_⟩
  obtain ⟨v, w2, h1, h2⟩ := h c cs
  exact ⟨v, w2, h1, stepsIn_wide.2 h2⟩
 | .halt (.panic v) w', h => exact h
theorem Bck {o : Oper} {a : Act} {next : Act -> World -> Prop} {Q : O8} {l n : Nat} (hnd : ∀ c, o.op ≠ .defer c) (h : o.wp P a w next Q) : o.wpIn (Fence.wide.inRound l) n P a w next Q :=
 ⟨fun _ _ => trivial, by rw [Oper.semAt_eq _ _ _ hnd]; exact Bb2 h⟩
theorem At1 : ∀ {l : List Oper}, A8l l = true -> ∀ o ∈ l, ∀ c, o.op ≠ .defer c
 | [], _, o, ho, _ => by cases ho
 | o :: l, h, o', ho, c => by
  simp only [A8l, Bool.and_eq_true] at h
  rcases List.mem_cons.1 ho with rfl | ho
  ·intro e
   have := h.1
   rw [e] at this; cases this
  ·exact At1 h.2 o' ho c
theorem Anu {ops : Array Oper} {Q : O8} {l n : Nat} (hq : ¬ LetsOut Q) : ∀ {rest : List Oper}, (∀ o ∈ rest, ∀ c, o.op ≠ .defer c) -> ∀ {a : Act} {w : World}, wpList P ops Q rest a w -> wpListIn (Fence.wide.inRound l) n P ops Q rest a w
 | [], _, _, _, h => h
 | o :: rest, hc, a, w, h => by
  unfold wpList at h
  unfold wpListIn
  split
  ·rename_i hw
   rw [if_pos hw] at h
   rcases h with h | h
   ·exact Bck (hc o (List.mem_cons_self ..)) (Oper.wp_mono (fun a w h => Anu hq (fun o' ho' => hc o' (List.mem_cons_of_mem _ ho')) h) h)
   ·exact absurd h.2 hq
  ·rename_i hw
   rw [if_neg hw] at h
   exact ⟨fun _ _ => trivial, Anu hq (fun o' ho' => hc o' (List.mem_cons_of_mem _ ho')) h⟩
theorem Bc7 {ops : Array Oper} {Q : O8} {l n i : Nat} (hq : ¬ LetsOut Q) (hc : ∀ (i : Nat) (o : Oper), ops[i]? = some o -> ∀ c, o.op ≠ .defer c) {K K' : Act -> World -> Prop} (hk : ∀ a w, K a w -> K' a w) {a : Act} {w : World}
  (h : wpOp P ops Q i K a w) : wpOpIn (Fence.wide.inRound l) n P ops Q i K' a w := by
 unfold wpOp at h
 unfold wpOpIn
 split
 ·rename_i hn
  rw [hn] at h
  exact hk _ _ h
 ·rename_i o ho
  rw [ho] at h
  simp only at h
  split
  ·rename_i hw
   rw [if_pos hw] at h
   rcases h with h | h
   ·exact Bck (hc i o ho) (Oper.wp_mono hk h)
   ·exact absurd h.2 hq
  ·rename_i hw
   rw [if_neg hw] at h
   exact ⟨fun _ _ => trivial, hk _ _ h⟩
theorem A08 {ops : Array Oper} {Q : O8} {l n : Nat} {md : Region.Mode} (hq : ¬ LetsOut Q) (hc : ∀ (i : Nat) (o : Oper), ops[i]? = some o -> ∀ c, o.op ≠ .defer c) :
  ∀ (k : Nat) (listed : Array Bool) (a : Act) (w : World), wpAny P md ops Q k listed a w -> wpAnyIn (Fence.wide.inRound l) n P md ops Q k listed a w
 | 0, _, _, _, h => h
 | k + 1, listed, a, w, h => ⟨h.1, fun i hi => Bc7 hq hc (fun a w h => A08 hq hc k _ a w h) (h.2 i hi)⟩
theorem Q2 {W : Act -> World -> Prop} {Q : O8} (h : ¬ LetsOut Q) : ¬ LetsOut (Exit.then W Q) := fun ⟨a, w, hh⟩ => h ⟨a, w, hh⟩
theorem Yd {i : Nat} {Q : O8} (h : ¬ LetsOut Q) : ¬ LetsOut (Exit.inBlock i Q) := fun ⟨a, w, hh⟩ => h ⟨a, w, hh⟩
theorem Q3 {E : Env} {Rl : A3u} {T : Tb R} (hreg : A3n (R := R) P E Rl out) (hdr : Ari (R := R) P E Rl out) (hc : Ar4 Rl) {l m : Nat} : ∀ (c : Code) (n : Nat) (K : Agf R) (Q : O8) (st : St) (a : Act) (w : World),
  Aqm c = true -> ¬ LetsOut Q -> Axw Rl out K Q -> Rl st a w -> F3 E T [] c n K st = some out -> c.wpIn (Fence.wide.inRound l) m P Q a w
 | .skip, n, K, Q, st, a, w, _, _, hg, hr, he => wpIn_skip (hg.normal _ _ _ hr he)
 | .region id ops draw, n, K, Q, st, a, w, hcm, hq, hg, hr, he => by
  simp only [F3] at he
  simp only [Aqm] at hcm
  cases draw with
  | true =>
   have hd := hdr id ops st K.normal a w Q hr he (fun st' a' w' h1 _ h2 => hg.normal _ _ _ h1 h2)
   exact wpIn_region_any hd.1 (A08 hq (fun i o ho c => At1 hcm o (by
    obtain ⟨h1, h2⟩ := Array.getElem?_eq_some_iff.1 ho
    rw [<- h2]; simp) c) _ _ _ _ hd.2)
  | false => exact wpIn_region_list (Anu hq (At1 hcm) (by simpa using hreg ops.toList ops.toList st K.normal a w Q hr he (fun st' a' w' h1 h2 => hg.normal _ _ _ h1 h2)))
 | .seq x y, n, K, Q, st, a, w, hcm, hq, hg, hr, he => by
  simp only [Aqm, Bool.and_eq_true] at hcm
  refine wpIn_seq ?_
  refine Q3 hreg hdr hc x (n + 1) _ _ st a w hcm.1 (Q2 hq) (Adg hg fun st' a' w' hr' hn => ?_) hr he
  exact Q3 hreg hdr hc y _ K Q st' a' w' hcm.2 hq hg hr' hn
 | .cond c x y, n, K, Q, st, a, w, hcm, hq, hg, hr, he => by
  simp only [Aqm, Bool.and_eq_true] at hcm
  simp only [F3] at he
  cases c with
  | tmp t =>
   simp only at he
   split at he
   ·rename_i b hb
    refine wpIn_cond (t := b) (hc.yes _ _ _ _ _ hr hb) ?_
    have hs := hc.set _ _ _ _ _ hr hb
    cases b with
    | true => exact Q3 hreg hdr hc x n K Q _ a w hcm.1 hq hg hs he
    | false => exact Q3 hreg hdr hc y _ K Q _ a w hcm.2 hq hg hs he
   ·cases he
  | const v =>
   cases v with
   | bool b =>
    refine wpIn_cond (t := b) rfl ?_
    cases b with
    | true => exact Q3 hreg hdr hc x n K Q st a w hcm.1 hq hg hr he
    | false => exact Q3 hreg hdr hc y _ K Q st a w hcm.2 hq hg hr he
   | _ => cases he
  | _ => cases he
 | .block i b, n, K, Q, st, a, w, hcm, hq, hg, hr, he => by
  exact wpIn_block (Q3 hreg hdr hc b n _ _ st a w hcm (Yd hq) (Adu hg) hr he)
 | .loop b, _, _, _, _, _, _, hcm, _, _, _, _ => by cases hcm
 | .exit i, n, K, Q, st, a, w, _, _, hg, hr, he => wpIn_exit (hg.exits _ _ _ _ hr he)
 | .ret, n, K, Q, st, a, w, _, _, hg, hr, he => wpIn_ret (hg.ret _ _ _ hr he)
 | .rangeFunc _ _ _ _, _, _, _, _, _, _, hcm, _, _, _, _ => by cases hcm
 | .scope b, _, _, _, _, _, _, hcm, _, _, _, _ => by cases hcm
 | .label _, n, K, Q, st, a, w, _, _, hg, hr, he => wpIn_label (hg.normal _ _ _ hr he)
 | .goto _, _, _, _, _, _, _, hcm, _, _, _, _ => by cases hcm
 | .refuse _, _, _, _, _, _, _, hcm, _, _, _, _ => by cases hcm
theorem Ais.turn (hd : g'.hd = g.hd) : ∀ {x : AV} {v : Value}, Ais g bs x v -> Ais g' bs x v
 | .ref b ver off, v, ⟨h1, hv, h2⟩ => ⟨h1, hv, fun T cells hb => by rw [hd]; exact h2 T cells hb⟩
 | .top, _, hh => hh.elim
 | .und, _, hh => hh.elim
 | .nilS, _, hh => hh.elim
 | .nilP, _, hh => hh.elim
 | .val _ _, _, hh => hh.elim
 | .osl _ _, _, hh => hh.elim
 | .imm _ _ _, _, hh => hh.elim
 | .oel _ _ _ _, _, hh => hh.elim
 | .osb _ _ _, _, hh => hh.elim
 | .fn _ _, _, hh => hh.elim
 | .agg _, _, hh => hh.elim
 | .tup _, _, hh => hh.elim
theorem Cn.turn (hd : g'.hd = g.hd) (hok : ∀ b, okB g w b -> okB g' w' b /\ w'.heap[b]? = w.heap[b]?) : ∀ {x : AV} {v : Value}, Cn ET g bs w x v -> Cn ET g' bs w' x v
 | .top, _, hh => trivial
 | .und, _, hh => hh
 | .nilS, _, hh => hh
 | .nilP, _, hh => hh
 | .val t x, v, hh => Rep.mono hok hh
 | .ref b ver off, v, ⟨h1, hv, h2⟩ => ⟨h1, hv, fun T cells hb => by rw [hd]; exact h2 T cells hb⟩
 | .osl b ver, v, ⟨h1, hv, h2⟩ => ⟨h1, hv, fun T t xs hb => by rw [hd]; exact h2 T t xs hb⟩
 | .imm t x off, v, ⟨b, o, cs, e, h1, h2, h3⟩ => ⟨b, o, cs, e, (hok b h1).1, Rep.mono hok h2, h3.mono (hok b h1).2⟩
 | .oel b ver i off, v, ⟨h1, hv, h2⟩ => ⟨h1, hv, fun T t xs hb => by rw [hd]; exact h2 T t xs hb⟩
 | .osb b ver i, v, ⟨h1, hv, h2⟩ => ⟨h1, hv, fun T t xs hb => by rw [hd]; exact h2 T t xs hb⟩
 | .fn f caps, v, ⟨cv, e, ha⟩ => ⟨cv, e, ha.mono fun _ _ => Ais.turn hd⟩
 | .agg _, _, hh => hh.elim
 | .tup _, _, hh => hh.elim
theorem I4.turn (hd : g'.hd = g.hd) (hok : ∀ b, okB g w b -> okB g' w' b /\ w'.heap[b]? = w.heap[b]?) : ∀ {x : AV} {v : Value}, I4 ET g bs w x v -> I4 ET g' bs w' x v
 | .agg l, _, ⟨vs, e, ha⟩ => ⟨vs, e, ha.mono fun _ _ => Cn.turn hd hok⟩
 | .tup l, _, hh => (show False from hh).elim
 | .top, _, _ => trivial
 | .und, _, hh => Cn.turn (ET := ET) (bs := bs) (x := .und) hd hok hh
 | .nilS, _, hh => Cn.turn (ET := ET) (bs := bs) (x := .nilS) hd hok hh
 | .nilP, _, hh => Cn.turn (ET := ET) (bs := bs) (x := .nilP) hd hok hh
 | .val t x, _, hh => Cn.turn (ET := ET) (bs := bs) (x := .val t x) hd hok hh
 | .ref b v o, _, hh => Cn.turn (ET := ET) (bs := bs) (x := .ref b v o) hd hok hh
 | .osl b v, _, hh => Cn.turn (ET := ET) (bs := bs) (x := .osl b v) hd hok hh
 | .imm t x o, _, hh => Cn.turn (ET := ET) (bs := bs) (x := .imm t x o) hd hok hh
 | .oel b v i o, _, hh => Cn.turn (ET := ET) (bs := bs) (x := .oel b v i o) hd hok hh
 | .osb b v i, _, hh => Cn.turn (ET := ET) (bs := bs) (x := .osb b v i) hd hok hh
 | .fn f c, _, hh => Cn.turn (ET := ET) (bs := bs) (x := .fn f c) hd hok hh
theorem B7.turn (hd : g'.hd = g.hd) (hok : ∀ b, okB g w b -> okB g' w' b /\ w'.heap[b]? = w.heap[b]?) : ∀ {x : AV} {v : Value}, B7 ET g bs w x v -> B7 ET g' bs w' x v
 | .tup l, _, ⟨vs, e, ha⟩ => ⟨vs, e, ha.mono fun _ _ => I4.turn hd hok⟩
 | .agg l, _, hh => I4.turn (ET := ET) (bs := bs) (x := .agg l) hd hok hh
 | .top, _, _ => trivial
 | .und, _, hh => I4.turn (ET := ET) (bs := bs) (x := .und) hd hok hh
 | .nilS, _, hh => I4.turn (ET := ET) (bs := bs) (x := .nilS) hd hok hh
 | .nilP, _, hh => I4.turn (ET := ET) (bs := bs) (x := .nilP) hd hok hh
 | .val t x, _, hh => I4.turn (ET := ET) (bs := bs) (x := .val t x) hd hok hh
 | .ref b v o, _, hh => I4.turn (ET := ET) (bs := bs) (x := .ref b v o) hd hok hh
 | .osl b v, _, hh => I4.turn (ET := ET) (bs := bs) (x := .osl b v) hd hok hh
 | .imm t x o, _, hh => I4.turn (ET := ET) (bs := bs) (x := .imm t x o) hd hok hh
 | .oel b v i o, _, hh => I4.turn (ET := ET) (bs := bs) (x := .oel b v i o) hd hok hh
 | .osb b v i, _, hh => I4.turn (ET := ET) (bs := bs) (x := .osb b v i) hd hok hh
 | .fn f c, _, hh => I4.turn (ET := ET) (bs := bs) (x := .fn f c) hd hok hh
structure Bet (g0 : Gh) (w0 : World) (g : Gh) (bs : Ag) (ds : List Deferred) (w : World) (T : Nat -> Prop) : Prop where
 ro : ∀ r, T r -> okB g w r -> False
 box : ∀ r, T r -> ∀ b x, look bs b = some x -> g.O r = some b -> ∀ o : Obj, w.heap[r]? = some o -> o.isCells = false
 base : ∀ r, T r -> r < w0.heap.size -> g0.O r ≠ none /\ g0.O r ≠ some 0
 mark : ∀ r, T r -> ∀ d ∈ ds, d ≠ { target := .collected r, args := #[] }
theorem A0z {st : St} {a : Act} {bs0 : Ag} (hr : Rel ET g0 bs0 w0 g st a w) {U : Nat -> Prop} (hg : Ot w w' U) (ht : Bet g0 w0 g st.bs a.defers w U) : Rel ET g0 bs0 w0 g st a w' := by
 have hok : ∀ b, okB g w b -> okB g w' b /\ w'.heap[b]? = w.heap[b]? := by
  intro b hb
  have hne : ¬ U b := fun e => ht.ro b e hb
  have e := hg.block b hb.2.1 hne
  exact ⟨⟨hb.1, Nat.lt_of_lt_of_le hb.2.1 hg.size, by rw [e]; exact hb.2.2⟩, e⟩
 refine ⟨?_, hr.size, fun i => B7.turn rfl hok (hr.slots i), fun b ver c hl => ?_, ?_, ?_, hr.ext.ver, hr.ext.var, hr.ext.row⟩
 ·exact ⟨fun b hb => (hok b (hr.glb.ours b hb)).1, hr.glb.tab.keep fun b hb => (hok b (hr.glb.ours b hb)).2⟩
 ·have hbr := hr.boxes b ver c hl
  cases c with
  | dead => trivial
  | var T cells =>
   obtain ⟨blk, arr, k1, k2, k3, k4⟩ := hbr
   have hne : ¬ U blk := fun e => by have := ht.box blk e b _ hl k2 _ k3; cases this
   exact ⟨blk, arr, k1, k2, (hg.block blk (Array.getElem?_eq_some_iff.1 k3).1 hne).trans k3, k4.mono fun _ _ => Cn.turn rfl hok⟩
  | row T t xs =>
   obtain ⟨cs, k1, k2, k3⟩ := hbr
   refine ⟨cs, Jl k1 fun blk hblk => ?_, k2.mono fun _ _ => Rep.mono hok, k3⟩
   have hlt := (Ry.lt k1 blk hblk).2
   refine hg.block blk hlt fun e => ?_
   have h1 := ht.box blk e b _ hl (k3 blk hblk) _ (Array.getElem?_eq_getElem hlt)
   have h2 := Ry.obj k1 hblk _ (Array.getElem?_eq_getElem hlt)
   rw [h1] at h2; cases h2
 ·have : ∀ {l : List Deferred}, (∀ r, U r -> ∀ d ∈ l, d ≠ { target := .collected r, args := #[] }) -> Auv w0 g w l -> Auv w0 g w' l := by
   intro l
   induction l with
   | nil => intro _ _; trivial
   | cons d l ih =>
    intro hm ⟨⟨D, e, h1, h2, h3, h4, h5⟩, h6⟩
    refine ⟨⟨D, e, h1, h2, Nat.lt_of_lt_of_le h3 hg.size, ?_, h5⟩, ih (fun r hr d hd => hm r hr d (List.mem_cons_of_mem _ hd)) h6⟩
    exact (hg.block D h3 (fun er => hm D er d (List.mem_cons_self ..) e)).trans h4
  exact this ht.mark hr.defers
 ·have f := hr.ext.fr
  refine ⟨hg.os.trans f.os, hg.tape.trans f.tape, hg.output.trans f.output, Nat.le_trans f.size hg.size, fun b hb hlt => ?_, fun b hb hlt => ?_⟩
  ·obtain ⟨h1, h2⟩ := f.ro b hb hlt
   exact ⟨h1, (hg.block b (Nat.lt_of_lt_of_le hlt f.size) (fun e => (ht.base b e hlt).1 hb)).trans h2⟩
  ·obtain ⟨h1, h2⟩ := f.fo b hb hlt
   exact ⟨h1, (hg.block b (Nat.lt_of_lt_of_le hlt f.size) (fun e => (ht.base b e hlt).2 hb)).trans h2⟩
theorem Ana {st : St} {a : Act} (hr : Rel ET g0 [] w0 g st a w) (hd : g'.hd = g.hd) (hok : ∀ b, okB g w b -> okB g' w b) (fr : Fr g w g' w)
  (hbox : ∀ b x blk, look st.bs b = some x -> x.2 ≠ .dead -> g.O blk = some b -> (∀ o : Obj, w.heap[blk]? = some o -> o.isCells = true) -> g'.O blk = some b) : Rel ET g0 [] w0 g' st a w := by
 have hok' : ∀ b, okB g w b -> okB g' w b /\ w.heap[b]? = w.heap[b]? := fun b h => ⟨hok b h, rfl⟩
 refine ⟨hr.glb.keep fr, hr.size, fun i => B7.turn hd hok' (hr.slots i), fun b ver c hl => ?_, hr.defers.mono fr, hr.ext.fr.trans fr, fun b => Nat.zero_le _, fun b ver T cells hv => absurd hv (Nat.not_lt_zero _), fun b ver T t xs hv => absurd hv (Nat.not_lt_zero _)⟩
 have hbr := hr.boxes b ver c hl
 cases c with
 | dead => trivial
 | var T cells =>
  obtain ⟨blk, arr, k1, k2, k3, k4⟩ := hbr
  exact ⟨blk, arr, by rw [hd]; exact k1, hbox b _ blk hl (by simp) k2 (fun o ho => by rw [k3] at ho; cases ho; rfl), k3, k4.mono fun _ _ => Cn.turn hd hok'⟩
 | row T t xs =>
  obtain ⟨cs, k1, k2, k3⟩ := hbr
  exact ⟨cs, by rw [hd]; exact k1, k2.mono fun _ _ => Rep.mono hok', fun blk hblk => by
   rw [hd] at hblk
   exact hbox b _ blk hl (by simp) (k3 blk hblk) (Ry.obj k1 hblk)⟩
def Sy (g : Gh) (w : World) : Gh := ⟨fun b => match g.O b with
 | none => none
 | some k => match w.heap[b]? with
  | some o => if o.isCells = false then some 0 else some k
  | none => some k, g.hd⟩
theorem Aiu {b : Nat} (h : g.O b = none) : (Sy g w).O b = none := by simp only [Sy, h]
theorem Ar0 {b : Nat} (h : g.O b = some 0) : (Sy g w).O b = some 0 := by
 simp only [Sy, h]
 split
 ·split <;> rfl
 ·rfl
theorem Ayq {b : Nat} (h : ∀ o : Obj, w.heap[b]? = some o -> o.isCells = true) : (Sy g w).O b = g.O b := by
 simp only [Sy]
 split
 ·rename_i e; exact e.symm
 ·rename_i k e
  split
  ·rename_i o ho
   rw [if_neg (by rw [h o ho]; simp), e]
  ·exact e.symm
theorem A6z {b : Nat} {o : Obj} (ho : w.heap[b]? = some o) (hc : o.isCells = false) : (Sy g w).O b = none \/ (Sy g w).O b = some 0 := by
 simp only [Sy]
 split
 ·exact .inl rfl
 ·rw [ho]
  exact .inr (if_pos hc)
theorem A07 : Fr g w (Sy g w) w := ⟨rfl, rfl, rfl, Nat.le_refl _, fun b h _ => ⟨Aiu h, rfl⟩, fun b h _ => ⟨Ar0 h, rfl⟩⟩
theorem A04 {b : Nat} (h : okB g w b) : okB (Sy g w) w b := ⟨Aiu h.1, h.2⟩
structure A8k (g0 : Gh) (w0 : World) (g : Gh) (bs : Ag) (ds : List Deferred) (okS C O0 : Nat -> Prop) (n0 : Nat) (w : World) : Prop where
 os : ∀ b, okS b -> b < n0 /\ g.O b = none
 o0 : ∀ b, b < n0 -> O0 b -> g.O b = none \/ g.O b = some 0
 c : ∀ b, C b -> g.O b = some 0 /\ b < n0
 cb : ∀ b, C b -> b < w0.heap.size -> g0.O b ≠ none /\ g0.O b ≠ some 0
 cd : ∀ b, C b -> ∀ d ∈ ds, d ≠ { target := .collected b, args := #[] }
 dn : ∀ d ∈ ds, ∀ D, d = { target := .collected D, args := #[] } -> D < n0
 b0 : look bs 0 = none
 le0 : w0.heap.size <= n0
 le : n0 <= w.heap.size
variable {okS C O0 : Nat -> Prop} {n0 : Nat} {st : St} {a : Act}
theorem Bab (hr : Rel ET g0 [] w0 g st a w) (hf : A8k g0 w0 g st.bs a.defers okS C O0 n0 w) {T : Nat -> Prop} (hg : Ot w w' T)
  (hrow : ∀ r, T r -> C r \/ (n0 <= r /\ ∃ o : Obj, w.heap[r]? = some o /\ o.isCells = false)) :
  Rel ET g0 [] w0 g st a w' /\ A8k g0 w0 g st.bs a.defers okS C O0 n0 w' /\ ∀ b, okB g w b -> okB g w' b /\ w'.heap[b]? = w.heap[b]? := by
 have ht : ∀ r, T r -> okB g w r -> False := fun r e hok => by
  rcases hrow r e with h | ⟨_, o, ho, hc⟩
  ·have := (hf.c r h).1; rw [hok.1] at this; cases this
  ·have := hok.2.2 o ho; rw [hc] at this; cases this
 refine ⟨A0z hr hg ⟨ht, fun r e b x hl ho o hh => ?_, fun r e hlt => ?_, fun r e d hd ed => ?_⟩, ⟨hf.os, hf.o0, hf.c, hf.cb, hf.cd, hf.dn, hf.b0, hf.le0, Nat.le_trans hf.le hg.size⟩, fun b hb => ?_⟩
 ·rcases hrow r e with h | ⟨_, o', ho', hc⟩
  ·have h1 := (hf.c r h).1
   rw [ho] at h1
   simp only [Option.some.injEq] at h1
   subst h1
   rw [hf.b0] at hl; cases hl
  ·rw [hh] at ho'; cases ho'; exact hc
 ·rcases hrow r e with h | ⟨hn, _⟩
  ·exact hf.cb r h hlt
  ·have := hf.le0; omega
 ·rcases hrow r e with h | ⟨hn, _⟩
  ·exact hf.cd r h d hd ed
  ·have := hf.dn d hd r ed; omega
 ·have e := hg.block b hb.2.1 (fun e => ht b e hb)
  exact ⟨⟨hb.1, Nat.lt_of_lt_of_le hb.2.1 hg.size, by rw [e]; exact hb.2.2⟩, e⟩
theorem A0o (h : OS C n0 w w') (hr : Rel ET g0 [] w0 g st a w) (hf : A8k g0 w0 g st.bs a.defers okS C O0 n0 w) :
  Rel ET g0 [] w0 g st a w' /\ A8k g0 w0 g st.bs a.defers okS C O0 n0 w' /\ ∀ b, okB g w b -> okB g w' b /\ w'.heap[b]? = w.heap[b]? := by
 induction h with
 | refl => exact ⟨hr, hf, fun b hb => ⟨hb, rfl⟩⟩
 | step T _ hg hrow ih =>
  obtain ⟨h1, h2, h3⟩ := Bab ih.1 ih.2.1 hg hrow
  exact ⟨h1, h2, fun b hb => ⟨(h3 b (ih.2.2 b hb).1).1, (h3 b (ih.2.2 b hb).1).2.trans (ih.2.2 b hb).2⟩⟩
theorem At0 (hr : Rel ET g0 [] w0 g st a w) (hf : A8k g0 w0 g st.bs a.defers okS C O0 n0 w) {D : Nat} (hD : n0 <= D) (hh : w.heap[D]? = some (.deferred (some []))) :
  ∃ g', Rel ET g0 [] w0 g' st (A6b a D) w := by
 have hlt : D < w.heap.size := (Array.getElem?_eq_some_iff.1 hh).1
 let g1 : Gh := ⟨fun b => if b = D then (match g.O D with | none => none | some _ => some 0) else g.O b, g.hd⟩
 have ne : ∀ b, b ≠ D -> g1.O b = g.O b := fun b h => if_neg h
 have hz : g1.O D = none \/ g1.O D = some 0 := by
  show (if D = D then _ else _) = _ \/ (if D = D then _ else _) = _
  rw [if_pos rfl]
  split
  ·exact .inl rfl
  ·exact .inr rfl
 have fr : Fr g w g1 w := by
  refine ⟨rfl, rfl, rfl, Nat.le_refl _, fun b h _ => ⟨?_, rfl⟩, fun b h _ => ⟨?_, rfl⟩⟩
  ·by_cases e : b = D
   ·subst e
    show (if b = b then _ else _) = _
    rw [if_pos rfl, h]
   ·rw [ne b e]; exact h
  ·by_cases e : b = D
   ·subst e
    show (if b = b then _ else _) = _
    rw [if_pos rfl, h]
   ·rw [ne b e]; exact h
 have h1 : Rel ET g0 [] w0 g1 st a w := by
  refine Ana hr rfl (fun b hb => ?_) fr (fun b x blk hl hx ho hc => ?_)
  ·have : b ≠ D := fun e => by
    subst e
    have := hb.2.2 _ hh
    cases this
   exact ⟨by rw [ne b this]; exact hb.1, hb.2⟩
  ·have : blk ≠ D := fun e => by
    subst e
    have := hc _ hh
    cases this
   rw [ne blk this]; exact ho
 exact ⟨g1, h1.glb, h1.size, h1.slots, h1.boxes, ⟨⟨D, rfl, hz, Nat.le_trans hf.le0 hD, hlt, hh, fun d hd e => by have := hf.dn d hd D e; omega⟩, h1.defers⟩, h1.ext⟩
theorem Aod (wr : List Nat) : ∀ (l : List AV) (k i : Nat), Hf (A8d wr k l) i = .top \/ (Nu wr (k + i) = false /\ Hf (A8d wr k l) i = Hf l i)
 | [], _, _ => .inl rfl
 | x :: l, k, 0 => by
  show cond (Nu wr k) .top x = .top \/ (Nu wr k = false /\ cond (Nu wr k) .top x = x)
  cases h : Nu wr k with
  | true => exact .inl rfl
  | false => exact .inr ⟨rfl, rfl⟩
 | x :: l, k, i + 1 => by
  rcases Aod wr l (k + 1) i with h | ⟨h1, h2⟩
  ·exact .inl h
  ·exact .inr ⟨by rw [show k + (i + 1) = k + 1 + i by omega]; exact h1, h2⟩
theorem Aga (wr : List Nat) : ∀ (l : List AV) (k : Nat), (A8d wr k l).length = l.length
 | [], _ => rfl
 | x :: l, k => by simp [A8d, Aga wr l (k + 1)]
theorem Am7 : ∀ (n : Nat) (l : List AV) (i : Nat), Hf (Rk n l) i = .top \/ (i < n /\ Hf (Rk n l) i = Hf l i)
 | 0, _, _ => .inl rfl
 | n + 1, [], _ => .inl rfl
 | n + 1, x :: l, 0 => .inr ⟨Nat.succ_pos _, rfl⟩
 | n + 1, x :: l, i + 1 => by
  rcases Am7 n l i with h | ⟨h1, h2⟩
  ·exact .inl h
  ·exact .inr ⟨Nat.succ_lt_succ h1, h2⟩
theorem Axj (n : Nat) (l : List AV) : (Rk n l).length <= n := by rw [Sh, List.length_take]; omega
theorem Aup (n : Nat) (l : List AV) : (Rk n l).length <= l.length := by rw [Sh, List.length_take]; omega
theorem Agy (wr : List Nat) : ∀ (n k i : Nat), i ∈ All wr k n ↔ k <= i /\ i < k + n /\ Nu wr i = false
 | 0, k, i => by
  simp only [All, List.not_mem_nil, false_iff]
  rintro ⟨h1, h2, _⟩; omega
 | n + 1, k, i => by
  simp only [All]
  have ih := Agy wr n (k + 1) i
  cases h : Nu wr k with
  | true =>
   simp only [cond_true]
   rw [ih]
   constructor
   ·rintro ⟨h1, h2, h3⟩; exact ⟨by omega, by omega, h3⟩
   ·rintro ⟨h1, h2, h3⟩
    have : i ≠ k := fun e => by subst e; rw [h] at h3; cases h3
    exact ⟨by omega, by omega, h3⟩
  | false =>
   simp only [cond_false, List.mem_cons]
   rw [ih]
   constructor
   ·rintro (rfl | ⟨h1, h2, h3⟩)
    ·exact ⟨Nat.le_refl _, by omega, h⟩
    ·exact ⟨by omega, by omega, h3⟩
   ·rintro ⟨h1, h2, h3⟩
    by_cases e : i = k
    ·exact .inl e
    ·exact .inr ⟨by omega, by omega, h3⟩
theorem A49 (wr : List Nat) (m : Nat) (hr : Rel ET g0 [] w0 g st a w) : Rel ET g0 [] w0 g (A23 wr m st) a w := by
 refine ⟨hr.glb, ?_, fun i => ?_, hr.boxes, hr.defers, hr.ext⟩
 ·show (A8d wr 0 (Rk m st.slots)).length <= _
  rw [Aga]
  exact Nat.le_trans (Aup m st.slots) hr.size
 ·show B7 ET g st.bs w (Hf (A8d wr 0 (Rk m st.slots)) i) _
  rcases Aod wr (Rk m st.slots) 0 i with h | ⟨_, h⟩
  ·rw [h]; trivial
  ·rw [h]
   rcases Am7 m st.slots i with h | ⟨_, h⟩
   ·rw [h]; trivial
   ·rw [h]; exact hr.slots i
theorem At6 (hr : Rel ET g0 [] w0 g st a w) (hf : A8k g0 w0 g st.bs a.defers okS C O0 n0 w) {wr : List Nat} {s : St} {a2 : Act} {w2 : World}
  (h2 : Ak8 ET (Sy g w) [] w (All wr 0 (Uf st.slots)) a.tmps.toList s a2 w2) (h0 : look s.bs 0 = none) :
  ∃ g2, Rel ET g0 [] w0 g2 (A23 wr (Uf st.slots) s) a w2 /\ A8k g0 w0 g2 s.bs a.defers okS C O0 n0 w2 /\ Fr (Sy g w) w g2 w2 := by
 obtain ⟨⟨g2, hr2⟩, hk⟩ := h2
 have f2 := hr2.ext.fr
 have f : Fr g w g2 w2 := A07.trans f2
 refine ⟨g2, ⟨hr2.glb, ?_, fun i => ?_, hr2.boxes, hr.defers.mono f, hr.ext.fr.trans f, fun b => Nat.zero_le _, fun b ver T cells hv => absurd hv (Nat.not_lt_zero _), fun b ver T t xs hv => absurd hv (Nat.not_lt_zero _)⟩,
  ⟨fun b hb => ⟨(hf.os b hb).1, (f.ro b (hf.os b hb).2 (Nat.lt_of_lt_of_le (hf.os b hb).1 hf.le)).1⟩, fun b hb ho => ?_, fun b hb => ⟨?_, (hf.c b hb).2⟩, hf.cb, hf.cd, hf.dn, h0, hf.le0, Nat.le_trans hf.le f.size⟩, f2⟩
 ·show (A8d wr 0 (Rk (Uf st.slots) s.slots)).length <= _
  rw [Aga]
  exact Nat.le_trans (Axj _ _) (by rw [M1]; exact hr.size)
 ·show B7 ET g2 s.bs w2 (Hf (A8d wr 0 (Rk (Uf st.slots) s.slots)) i) _
  rcases Aod wr (Rk (Uf st.slots) s.slots) 0 i with h | ⟨h1, h⟩
  ·rw [h]; trivial
  ·rw [h]
   rcases Am7 (Uf st.slots) s.slots i with h | ⟨hlt, h⟩
   ·rw [h]; trivial
   ·rw [h]
    rw [Nat.zero_add] at h1
    have := hk i ((Agy wr _ 0 i).2 ⟨Nat.zero_le _, by rw [Nat.zero_add]; exact hlt, h1⟩)
    have e : a.tmps.toList.getD i undef = a.tmps.getD i undef := by
     rw [List.getD_eq_getElem?_getD, Array.getD_eq_getD_getElem?, Array.getElem?_toList]
    rw [e] at this
    rw [<- this]; exact hr2.slots i
 ·have hlt : b < w.heap.size := Nat.lt_of_lt_of_le hb hf.le
  rcases hf.o0 b hb ho with h | h
  ·exact .inl (f.ro b h hlt).1
  ·exact .inr (f.fo b h hlt).1
 ·exact (f.fo b (hf.c b hb).1 (Nat.lt_of_lt_of_le (hf.c b hb).2 hf.le)).1
end
section
variable {P : Program} {E : Env} {R : Type} {out : R} {ET : TypeId} {g0 g g' : Gh} {w0 w w' : World} {bs : Ag} {okS C O0 : Nat -> Prop} {n0 : Nat} {st : St} {a : Act} {α : Type} {V : World -> α -> Value -> Prop}
theorem Bbx {ps : List Tmp} {asn b : Code} {Q : O8} : ∀ {lv : Nat} {l : List α} {w w' : World}, RF P ps asn b V C O0 n0 Q a lv l w -> OS C n0 w w' -> RF P ps asn b V C O0 n0 Q a lv l w'
 | 0, _, _, _, h, _ => h.elim
 | lv + 1, _, _, _, h, ho => fun w2 h2 => h w2 (ho.trans h2)
theorem Aq4 {W : World} {l : Nat} {o : Obj} (o' : Obj) (hl : W.heap[l]? = some o) (ho : o.isCells = false) (hn : n0 <= l) : OS C n0 W (W.putObj l o') :=
 .step _ .refl (Ot.of (grownBy_putObj' W l o')) (fun r e => by cases e; exact .inr ⟨hn, o, hl, ho⟩)
theorem A10 (W : World) (o : Obj) : OS C n0 W (W.alloc o) := .step _ .refl (Ot.of (World.grownBy_alloc W o none)) (fun r e => by cases e)
theorem Bfi {asn : Code} {q p : Tmp} (h : Ayp asn = some (q, p)) {l n : Nat} {K : Act -> World -> Prop} {a : Act} {w : World} (hK : K { a with tmps := a.tmps.setIfInBounds q (a.tmps.getD p undef) } w) :
  asn.wpIn (Fence.wide.inRound l) n P (Exit.then K (fun _ _ _ => False)) a w := by
 unfold Ayp at h
 split at h
 ·rename_i id ops
  split at h
  ·rename_i o ho
   have key : ∀ {x : Operand}, x = .tmp p -> (execOp a.eval o).run P w = .ok (.value (a.eval x)) w -> o.guard = none -> o.dst = some q -> (∀ c, o.op ≠ .defer c) ->
     (Code.region id ops false).wpIn (Fence.wide.inRound l) n P (Exit.then K (fun _ _ _ => False)) a w := by
    intro x ex hx hgd hds hnd
    refine wpIn_region_list ?_
    rw [ho]
    unfold wpListIn
    have hw : Region.wanted o (yielded ops a.tmps) = true := by unfold Region.wanted; rw [hgd]
    rw [if_pos hw]
    refine Bck hnd ?_
    unfold Oper.wp
    rw [hx, Oper.upon_value, hds, ex]
    exact hK
   split at h
   ·rename_i q' p' h1 h2 h3
    simp only [Option.some.injEq, Prod.mk.injEq] at h
    obtain ⟨rfl, rfl⟩ := h
    exact key rfl (by simp [execOp, h2]) h3 h1 (fun c e => by rw [h2] at e; cases e)
   ·rename_i q' p' h1 h2 h3
    simp only [Option.some.injEq, Prod.mk.injEq] at h
    obtain ⟨rfl, rfl⟩ := h
    exact key rfl (by simp [execOp, h2]) h3 h1 (fun c e => by rw [h2] at e; cases e)
   ·cases h
  ·cases h
 ·cases h
theorem Aoc {f : Operand} {ps : Array Tmp} {asn b : Code} {Q : O8} {a : Act} {w : World} {gf : Nat} {lb : Array Value} {us : List α} {lv : Nat} (hV : ∀ W W' x u, OS C w.heap.size W W' -> V W x u -> V W' x u) (hg : a.eval f = .func (.func gf) #[] lb)
  (eg : ∀ args w, (callFunc gf args).run P w = .ok (.enter gf args) w) (hgo : Bfm P gf lb us V C O0 w) (hC : ∀ r, C r -> r < w.heap.size) (hRF : RF P ps.toList asn b V C O0 w.heap.size Q a lv us w) : (Code.rangeFunc f ps asn b).wp P Q a w := by
 refine (wpIn_wide (n := 2)).1 (wpIn_rangeFunc ?_)
 intro fn hfn
 rw [Fence.wide_round]
 obtain ⟨rec, hrec⟩ : ∃ rec : LoopState -> Option Code -> Loop, rec = fun st pe => { state := st, pending := pe, fn, tmps := a.tmps, params := ps, assign := asn, body := b, defers := w.heap.size } := ⟨_, rfl⟩
 obtain ⟨W1, hW1⟩ : ∃ W1, (w.alloc (.deferred (some []))).alloc (.loop (rec .ready none)) = W1 := ⟨_, rfl⟩
 have hL1 : W1.heap[w.heap.size + 1]? = some (.loop (rec .ready none)) := by
  rw [<- hW1]; have := World.alloc_heap_new (w.alloc (.deferred (some []))) (.loop (rec .ready none)); rwa [World.size_alloc] at this
 have hK1 : W1.heap[w.heap.size]? = some (.deferred (some [])) := by
  rw [<- hW1]; exact (Below.heap_alloc _ _ _ (by simp)).trans (World.alloc_heap_new w _)
 have hos1 : OS C w.heap.size w W1 := by rw [<- hW1]; exact (A10 w _).trans (A10 _ _)
 have hold : ∀ k < w.heap.size, W1.heap[k]? = w.heap[k]? := by
  intro k hk
  rw [<- hW1]; exact (Below.heap_alloc _ _ _ (by simp; omega)).trans (Below.heap_alloc _ _ _ hk)
 have hsz : w.heap.size <= W1.heap.size := by have := (Array.getElem?_eq_some_iff.1 hK1).1; omega
 refine ⟨w.heap.size + 1, [{ target := .collected w.heap.size, args := #[] }], W1, { target := .fn (.func gf) lb, args := #[.func (.yield (w.heap.size + 1)) #[] #[]] }, W1, gf,
  #[.func (.yield (w.heap.size + 1)) #[] #[]] ++ lb, W1, ?_, ?_, ?_, ?_, fun h => by simp [Fence.wide] at h, ?_⟩
 ·rw [<- hW1, hrec]; exact run_enterLoop_outer _ _ _ _ _
 ·simp only [resolve, hg]
  simp [go_sem]
 ·intro f' hf'; trivial
 ·simp [invoke, go_sem, eg]
 ·have hlt1 : w.heap.size + 1 < W1.heap.size := (Array.getElem?_eq_some_iff.1 hL1).1
  have rows : ∀ {A B : World} {T : Nat -> Prop} {k : Nat} {o : Obj}, Ot A B T -> (∀ r, T r -> C r \/ (W1.heap.size <= r /\ ∃ o : Obj, A.heap[r]? = some o /\ o.isCells = false)) -> w.heap.size <= k -> k < W1.heap.size -> A.heap[k]? = some o -> B.heap[k]? = some o := by
   intro A B T k o hg hr hk hk2 ho
   refine (hg.block k (Array.getElem?_eq_some_iff.1 ho).1 (fun e => ?_)).trans ho
   rcases hr k e with h | ⟨h, _⟩
   ·have := hC k h; omega
   ·omega
  have steps : ∀ {A B : World} {T : Nat -> Prop}, Ot A B T -> (∀ r, T r -> C r \/ (W1.heap.size <= r /\ ∃ o : Obj, A.heap[r]? = some o /\ o.isCells = false)) -> OS C w.heap.size A B := fun hg hr => .step _ .refl hg (fun r e => by
   rcases hr r e with h | ⟨h, ho⟩
   ·exact .inl h
   ·exact .inr ⟨by omega, ho⟩)
  refine (hgo (w.heap.size + 1) 1
   (fun rest W => (∃ lv, RF P ps.toList asn b V C O0 w.heap.size Q a lv rest W) /\ W.heap[w.heap.size + 1]? = some (.loop (rec .ready none)) /\ W.heap[w.heap.size]? = some (.deferred (some [])))
   (fun W => ∃ c, (∀ w'', OS C w.heap.size W w'' -> ∀ D, w.heap.size <= D -> w''.heap[D]? = some (.deferred (some [])) -> c.wpIn Fence.wide 2 P Q (A6b a D) w'') /\ W.heap[w.heap.size + 1]? = some (.loop (rec .done (some c))) /\ W.heap[w.heap.size]? = some (.deferred (some [])))
   W1 hsz hold
   (fun s A B T ⟨⟨lv, h1⟩, h2, h3⟩ hg hr => ⟨⟨lv, Bbx h1 (steps hg hr)⟩, rows hg hr (by omega) hlt1 h2, rows hg hr (Nat.le_refl _) (by omega) h3⟩)
   (fun A B T ⟨c, h1, h2, h3⟩ hg hr => ⟨c, fun w2 h => h1 w2 ((steps hg hr).trans h), rows hg hr (by omega) hlt1 h2, rows hg hr (Nat.le_refl _) (by omega) h3⟩)
   ?_ ⟨⟨lv, Bbx hRF hos1⟩, hL1, hK1⟩).mono ?_
  ·-- one round
   rintro x rest u W ⟨⟨lv, hi⟩, hl, hk⟩ hu
   cases lv with
   | zero => exact hi.elim
   | succ lv =>
   have hlt : w.heap.size + 1 < W.heap.size := (Array.getElem?_eq_some_iff.1 hl).1
   have hos2 : OS C w.heap.size W (W.putObj (w.heap.size + 1) (.loop { rec .ready none with state := .busy })) := Aq4 _ hl rfl (by omega)
   obtain ⟨⟨⟨p, hps⟩, q, p', hasg, hps'⟩, hbody⟩ := hi _ hos2
   have epp : p' = p := by rw [hps] at hps'; simpa using hps'.symm
   subst epp
   have hpsA : ps = #[p'] := by rw [<- Array.toArray_toList (xs := ps), hps]
   have hy := run_yield (P := P) (args := #[u]) hl (by rw [hrec]; show 1 = ps.size; rw [hpsA]; rfl)
   rw [hrec] at hy
   refine ⟨fn, _, asn, b, hy, roundIn_of_wpIn hfn (Bfi hasg ⟨_, run_beginRound hl (by rw [hrec]), ?_⟩)⟩
   have hl2 : (W.putObj (w.heap.size + 1) (.loop { rec .ready none with state := .busy })).heap[w.heap.size + 1]? = some (.loop { rec .ready none with state := .busy }) := World.putObj_heap_same hlt
   have hk2 : (W.putObj (w.heap.size + 1) (.loop { rec .ready none with state := .busy })).heap[w.heap.size]? = some (.deferred (some [])) := (World.putObj_heap_other (by omega)).trans hk
   have hw2 : A4g O0 w.heap.size W (W.putObj (w.heap.size + 1) (.loop { rec .ready none with state := .busy })) := fun k hk _ => World.putObj_heap_other (by omega)
   have hact : A2w ps.toList asn a u = { tmps := ((ps.zip #[u]).foldl (fun tmps (x : Tmp × Value) => tmps.setIfInBounds x.1 x.2) a.tmps).setIfInBounds q (((ps.zip #[u]).foldl (fun tmps (x : Tmp × Value) => tmps.setIfInBounds x.1 x.2) a.tmps).getD p' undef), defers := [] } := by
    rw [hps, hpsA]
    simp only [A2w, hasg]
    simp
   have hb2 := hbody u (hV _ _ _ _ hos2 hu) (w.heap.size + 1) 1
   rw [hact] at hb2
   refine wpIn_mono hb2 ?_
   have fin : ∀ (jump : Option Code) (W3 : World), KeepsFrom w.heap.size (W.putObj (w.heap.size + 1) (.loop { rec .ready none with state := .busy })) W3 ->
     (Instr.endRound (w.heap.size + 1) jump).run P W3 = .ok (.bool jump.isNone) (W3.putObj (w.heap.size + 1) (.loop (rec (if jump.isNone then .ready else .done) jump))) /\
     W3.heap[w.heap.size + 1]? = some (.loop { rec .ready none with state := .busy }) /\
     (W3.putObj (w.heap.size + 1) (.loop (rec (if jump.isNone then .ready else .done) jump))).heap[w.heap.size + 1]? = some (.loop (rec (if jump.isNone then .ready else .done) jump)) /\
     (W3.putObj (w.heap.size + 1) (.loop (rec (if jump.isNone then .ready else .done) jump))).heap[w.heap.size]? = some (.deferred (some [])) := fun jump W3 hk3 => by
    have hl3 := hk3.same _ _ (by omega) hl2 rfl
    have := run_endRound (P := P) jump hl3
    rw [hrec] at this ⊢
    exact ⟨this, by rw [hrec] at hl3; exact hl3, World.putObj_heap_same (Array.getElem?_eq_some_iff.1 hl3).1, (World.putObj_heap_other (by omega)).trans (hk3.same _ _ (Nat.le_refl _) hk2 rfl)⟩
   rintro e a3 W3 hp
   cases e with
   | normal =>
    obtain ⟨hk3, hkp3, hi3⟩ := hp
    obtain ⟨hr, hl3, hl4, hk4⟩ := fin none W3 hk3
    refine ⟨_, _, hr, .inl ⟨rfl, ⟨⟨lv, Bbx hi3 (Aq4 _ hl3 rfl (by omega))⟩, hl4, hk4⟩, fun k hk ho => ?_⟩⟩
    exact (World.putObj_heap_other (by omega)).trans ((hkp3 k hk ho).trans (hw2 k hk ho))
   | ret =>
    obtain ⟨hk3, hkp3, hi3⟩ := hp
    obtain ⟨hr, hl3, hl4, hk4⟩ := fin (some .ret) W3 hk3
    exact ⟨_, _, hr, .inr ⟨rfl, ⟨.ret, fun w2 h D hD hd => wpIn_ret (hi3 w2 ((Aq4 _ hl3 rfl (by omega)).trans h) D hD hd), hl4, hk4⟩, fun k hk ho => (World.putObj_heap_other (by omega)).trans ((hkp3 k hk ho).trans (hw2 k hk ho))⟩⟩
   | exit id =>
    obtain ⟨hk3, hkp3, hi3⟩ := hp
    obtain ⟨hr, hl3, hl4, hk4⟩ := fin (some (.exit id)) W3 hk3
    exact ⟨_, _, hr, .inr ⟨rfl, ⟨.exit id, fun w2 h D hD hd => wpIn_exit (hi3 w2 ((Aq4 _ hl3 rfl (by omega)).trans h) D hD hd), hl4, hk4⟩, fun k hk ho => (World.putObj_heap_other (by omega)).trans ((hkp3 k hk ho).trans (hw2 k hk ho))⟩⟩
   | goto t => exact hp.elim
   | panic ch => exact hp.elim
   | outgrown => exact hp.elim
  ·-- behind the function
   rintro e W2 ⟨⟨v, rfl⟩, (⟨⟨lv, hi⟩, hl, hk⟩ | ⟨c, hi, hl, hk⟩)⟩
   ·cases lv with
    | zero => exact hi.elim
    | succ lv =>
     refine ⟨none, _, by have := run_endLoop (P := P) hl (by rw [hrec]; simp); rw [hrec] at this; exact this, ?_⟩
     exact hi _ (Aq4 _ hl rfl (by omega)) w.heap.size (Nat.le_refl _) ((World.putObj_heap_other (by omega)).trans hk)
   ·refine ⟨some c, _, by have := run_endLoop (P := P) hl (by rw [hrec]; simp); rw [hrec] at this; exact this, ?_⟩
    exact hi _ (Aq4 _ hl rfl (by omega)) w.heap.size (Nat.le_refl _) ((World.putObj_heap_other (by omega)).trans hk)
def Bg9 (ET : TypeId) (g0 : Gh) (w0 : World) (kp : List Nat) (kv : List Value) : A63 := fun t l V C O0 n0 st a w =>
 ∃ g okS, Rel ET g0 [] w0 g st a w /\ V = VU ET t okS /\ (∀ i ∈ kp, a.tmps.getD i undef = kv.getD i undef) /\ A8k g0 w0 g st.bs a.defers okS C O0 n0 w
theorem Adc {bs : Ag} : A18 bs = true ↔ look bs 0 = none := by
 unfold A18
 constructor
 ·intro h
  split at h
  ·assumption
  ·cases h
 ·intro h; rw [h]
theorem Apq {wr : List Nat} {m : Nat} : ∀ {l : List (Nat × (St -> Option R))} {i : Nat} {s : St}, Mi (Axe wr m l) i s = some out -> look s.bs 0 = none /\ Mi l i (A23 wr m s) = some out
 | [], i, s, h => by simp [Axe, Mi] at h
 | (j, k) :: l, i, s, h => by
  simp only [Axe, Mi] at h ⊢
  cases hb : Nat.beq j i with
  | true =>
   rw [hb] at h
   simp only [cond_true, A8v] at h
   obtain ⟨h1, h2⟩ := Ad h
   exact ⟨Adc.1 h1, h2⟩
  | false =>
   rw [hb] at h
   exact Apq h
theorem Apb {a : Array Value} {p : Nat} {u : Value} (h : p < a.size) : (a.setIfInBounds p u).getD p undef = u := by
 simp [Array.getD, h]
theorem V9 {a : Array Value} {p i : Nat} {u : Value} (h : p ≠ i) : (a.setIfInBounds p u).getD i undef = a.getD i undef := by
 simp only [Array.getD_eq_getD_getElem?]
 rw [Array.getElem?_setIfInBounds_ne h]
theorem Aq6 {E : Env} {l : List Nat} (hE : C8 P E) : C8 P { E with keep := l } := ⟨hE.rows, hE.calls, hE.mixed, hE.seqs⟩
theorem A9v {q p : Tmp} {asn : Code} (h : Ayp asn = some (q, p)) : q ∈ An9 asn := by
 unfold Ayp at h
 split at h
 ·rename_i id ops
  split at h
  ·rename_i o ho
   simp only [An9, ho, Aj4]
   split at h
   ·rename_i q' p' h1 h2 h3
    simp only [Option.some.injEq, Prod.mk.injEq] at h
    rw [h1, h.1]; simp
   ·rename_i q' p' h1 h2 h3
    simp only [Option.some.injEq, Prod.mk.injEq] at h
    rw [h1, h.1]; simp
   ·cases h
  ·cases h
 ·cases h
theorem Xn : ∀ {l : List Nat} {n : Nat}, Nu l n = true ↔ n ∈ l
 | [], n => by simp [Nu]
 | a :: l, n => by
  simp only [Nu, Bool.or_eq_true, List.mem_cons, Xn (l := l)]
  constructor
  ·rintro (h | h)
   ·exact .inl (Nat.eq_of_beq_eq_true h).symm
   ·exact .inr h
  ·rintro (rfl | h)
   ·exact .inl (Nat.beq_refl _)
   ·exact .inr h
theorem Bfr (hE : C8 P E) (g0 : Gh) (w0 : World) (kv : List Value) : A1y (R := R) P E (Ak8 E.ET g0 [] w0 E.keep kv) (Bg9 E.ET g0 w0 E.keep kv) out := by
 intro T lv n ps asn b K Q t l V C O0 n0 st a w hT hg he hrr
 obtain ⟨g, okS, hr, rfl, hk, hf⟩ := hrr
 unfold Az3 at he
 cases l with
 | nil =>
   simp only [List.isEmpty_nil, cond_true] at he
   intro w' hos D hD hh
   obtain ⟨hr', hf', _⟩ := A0o hos hr hf
   obtain ⟨g', hm⟩ := At0 (A49 (A8e ps asn b) (Uf st.slots) hr') hf' hD hh
   exact hg.normal _ _ _ ⟨⟨g', hm⟩, hk⟩ he
 | cons x l =>
   simp only [List.isEmpty_cons, cond_false] at he
   split at he
   ·rename_i p q p' hasg
    obtain ⟨hc, he2⟩ := Ad he
    simp only [Bool.and_eq_true] at hc
    obtain ⟨hpp, hcalm, hplt⟩ := hc
    have hpp := Nat.eq_of_beq_eq_true hpp
    subst hpp
    have hplt : p < st.slots.length := by rw [<- M1]; exact Nat.le_of_ble_eq_true hplt
    intro w' hos
    obtain ⟨hr', hf', hok⟩ := A0o hos hr hf
    refine ⟨⟨⟨p, rfl⟩, q, p, hasg, rfl⟩, fun u hvu lp m => ?_⟩
    have hu : Rep E.ET (okB g w') w' t x [u] := Rep.mono (fun b hb => ⟨⟨(hf'.os b hb.1).2, hb.2⟩, rfl⟩) hvu
    have hpr : okB g w' = okB g w' := rfl
    have hbase0 : Rel E.ET g0 [] w0 (Sy g w') st a w' := Ana hr' rfl (fun _ => A04) A07 (fun b x blk _ _ ho hc => by rw [Ayq hc]; exact ho)
    have hbase : Rel E.ET (Sy g w') [] w' (Sy g w') ⟨st.slots, st.bs⟩ { a with defers := [] } w' :=
     ⟨hbase0.glb, hbase0.size, hbase0.slots, hbase0.boxes, trivial, Fr.refl _ _, fun b => Nat.zero_le _, fun b ver T cells hv => absurd hv (Nat.not_lt_zero _), fun b ver T t xs hv => absurd hv (Nat.not_lt_zero _)⟩
    have hu' : B7 E.ET (Sy g w') st.bs w' (.val t x) u := Rep.mono (fun b hb => ⟨A04 hb, rfl⟩) hu
    have hput := (hbase.put hu' (some p)).put hu' (some q)
    have hpt : p < a.tmps.size := Nat.lt_of_lt_of_le hplt hr'.size
    have hstart : Ak8 E.ET (Sy g w') [] w' (All (A8e [p] asn b) 0 (Uf st.slots)) a.tmps.toList ⟨Xm (Xm st.slots p (.val t x)) q (.val t x), st.bs⟩ (A2w [p] asn a u) w' := by
     have e : A2w [p] asn a u = ((({ a with defers := [] } : Act).put (some p) u).put (some q) u) := by
      simp only [A2w, hasg, Apb hpt]
      rfl
     rw [e]
     refine ⟨⟨_, hput⟩, fun i hi => ?_⟩
     obtain ⟨_, _, h3⟩ := (Agy _ _ _ _).1 hi
     have hn : i ∉ A8e [p] asn b := fun hm => by rw [Xn.2 hm] at h3; cases h3
     have n1 : p ≠ i := fun e => hn (Ca.2 (.inl (by rw [e]; exact List.mem_singleton.2 rfl)))
     have n2 : q ≠ i := fun e => hn (Ca.2 (.inr (Ca.2 (.inl (by rw [<- e]; exact A9v hasg)))))
     show ((a.tmps.setIfInBounds p u).setIfInBounds q u).getD i undef = _
     rw [V9 n2, V9 n1, List.getD_eq_getElem?_getD, Array.getD_eq_getD_getElem?, Array.getElem?_toList]
    have hE' : C8 P { E with keep := All (A8e [p] asn b) 0 (Uf st.slots) } := Aq6 hE
    have ex : gd t (x :: l) 0 = x := rfl
    rw [ex] at he2
    have keeps : ∀ {g2 : Gh} {w2 : World}, Fr (Sy g w') w' g2 w2 -> KeepsFrom n0 w' w2 := fun {g2 w2} f =>
     ⟨f.size, fun k o hk ho hc => by
      have hlt := (Array.getElem?_eq_some_iff.1 ho).1
      rcases A6z (g := g) ho hc with h | h
      ·exact ((f.ro k h hlt).2).trans ho
      ·exact ((f.fo k h hlt).2).trans ho⟩
    have kp : ∀ {g2 : Gh} {w2 : World}, Fr (Sy g w') w' g2 w2 -> A4g O0 n0 w' w2 := fun {g2 w2} f k hk ho => by
     have hlt := Nat.lt_of_lt_of_le hk hf'.le
     rcases hf'.o0 k hk ho with h | h
     ·exact (f.ro k (Aiu h) hlt).2
     ·exact (f.fo k (Ar0 h) hlt).2
    refine Q3 (Bb1 hE' (Sy g w') [] w' a.tmps.toList) (A0c hE' (Sy g w') [] w' a.tmps.toList) (A7p E.ET (Sy g w') [] w' _ a.tmps.toList) b 0 _ _ _ _ _ hcalm ?_ ?_ hstart he2
    ·rintro ⟨_, _, hh⟩; exact hh
    ·refine ⟨fun s a2 w2 h1 h2 => ?_, fun s a2 w2 h1 h2 => ?_, fun i s a2 w2 h1 h2 => ?_⟩
     ·obtain ⟨h0, h2⟩ := Ad h2
      have h0 := Adc.1 h0
      obtain ⟨g2, k1, k2, k3⟩ := At6 hr' hf' h1 h0
      refine ⟨keeps k3, kp k3, hT t l _ C O0 n0 _ a w2 h2 ⟨g2, okS, k1, rfl, hk, k2⟩⟩
     ·obtain ⟨h0, h2⟩ := Ad h2
      have h0 := Adc.1 h0
      obtain ⟨g2, k1, k2, k3⟩ := At6 hr' hf' h1 h0
      refine ⟨keeps k3, kp k3, fun w3 hos3 D hD hh => ?_⟩
      obtain ⟨q1, q2, _⟩ := A0o hos3 k1 k2
      obtain ⟨g3, q3⟩ := At0 q1 q2 hD hh
      exact hg.ret _ _ _ ⟨⟨g3, q3⟩, hk⟩ h2
     ·obtain ⟨h0, h2⟩ := Apq h2
      obtain ⟨g2, k1, k2, k3⟩ := At6 hr' hf' h1 h0
      refine ⟨keeps k3, kp k3, fun w3 hos3 D hD hh => ?_⟩
      obtain ⟨q1, q2, _⟩ := A0o hos3 k1 k2
      obtain ⟨g3, q3⟩ := At0 q1 q2 hD hh
      exact hg.exits i _ _ _ ⟨⟨g3, q3⟩, hk⟩ h2
   ·cases he
theorem A9u {f : FuncId} {fn : Func} {c : Code} (hf : P.funcs[f]? = some fn) (hname : (fn.name == "runtime.NumGoroutine") = false) (hb : fn.body = some c) (args : Array Value) (w : World) : (callFunc f args).run P w = .ok (.enter f args) w := by
 have h1 : fn.name ≠ "runtime.NumGoroutine" := by simpa using hname
 simp [callFunc, hf, h1, hb, mark]
theorem Es : ∀ (l : List AV) (i : Nat), i ∉ Acx l -> look (Agv bs l) i = look bs i
 | [], _, _ => rfl
 | .ref b v o :: l, i, h => by
  simp only [Acx, List.mem_cons, not_or] at h
  show look ((b, (v, .dead)) :: Agv bs l) i = _
  rw [Am _ _ (Ne.symm h.1)]
  exact Es l i h.2
 | .top :: l, i, h => Es l i h
 | .und :: l, i, h => Es l i h
 | .nilS :: l, i, h => Es l i h
 | .nilP :: l, i, h => Es l i h
 | .val _ _ :: l, i, h => Es l i h
 | .osl _ _ :: l, i, h => Es l i h
 | .imm _ _ _ :: l, i, h => Es l i h
 | .oel _ _ _ _ :: l, i, h => Es l i h
 | .osb _ _ _ :: l, i, h => Es l i h
 | .fn _ _ :: l, i, h => Es l i h
 | .agg _ :: l, i, h => Es l i h
 | .tup _ :: l, i, h => Es l i h
theorem Arr : ∀ {l : List Nat}, A1i l = true -> l.Nodup
 | [], _ => List.nodup_nil
 | a :: l, h => by
  simp only [A1i, Bool.and_eq_true, Bool.not_eq_true'] at h
  exact List.nodup_cons.2 ⟨fun hm => (by rw [Xn.2 hm] at h; cases h.1), Arr h.2⟩
theorem Ava (hb : Ct E.ET g bs w) : ∀ {ts : List (TypeId × Ty)} {caps : List AV} {x : Rs ts} {vs : List Value}, Abh bs ts caps = some x -> (Acx caps).Nodup -> Du (Ais g bs) caps vs ->
  ∃ bl : List Nat, A4f E.ET (okB g w) w ts x bl vs /\ Du (fun b i => g.O b = some i) bl (Acx caps) /\ Ct E.ET g (Agv bs caps) w /\ Ext g bs w g (Agv bs caps) w /\ (∀ i ∈ Acx caps, ∃ v, look (Agv bs caps) i = some (v, .dead))
 | [], [], x, [], h, _, _ => ⟨[], trivial, trivial, hb, Ext.refl _ _ _, fun i hi => by simp [Acx] at hi⟩
 | [], [], x, _ :: _, h, _, ha => ha.elim
 | [], _ :: _, x, vs, h, _, _ => by simp [Abh] at h
 | _ :: _, [], x, vs, h, _, _ => by simp [Abh] at h
 | t :: ts, c :: caps, x, vs, h, hn, ha => by
  cases vs with
  | nil => exact ha.elim
  | cons v vs =>
   cases c with
   | ref b ver off =>
    cases off with
    | succ off => simp [Abh] at h
    | zero =>
    simp only [Abh] at h
    split at h
    ·rename_i T' cells hbox
     obtain ⟨hT, h2⟩ := Ad h
     have hT := Nat.eq_of_beq_eq_true hT
     subst hT
     clear h
     split at h2
     ·rename_i y hy
      split at h2
      ·rename_i z hz
       simp only [Option.some.injEq] at h2
       subst h2
       simp only [Acx, List.nodup_cons] at hn
       obtain ⟨bl, k1, k2, k3, k4, k5⟩ := Ava hb hz hn.2 ha.2
       obtain ⟨blk, h1, h3⟩ := ha.1.2.2 t.1 cells hbox
       have hlook := A3 hbox (by simp)
       obtain ⟨blk', arr, q1, q2, q3, q4⟩ := hb b ver _ hlook
       rw [h1] at q1
       simp only [Value.pointer.injEq, Option.some.injEq, Addr.mk.injEq, and_true] at q1
       subst q1
       have hl2 : look (Agv bs caps) b = some (ver, .var t.1 cells) := by rw [Es _ _ hn.1]; exact hlook
       refine ⟨blk :: bl, ⟨⟨h3, arr, q3, Xq hy q4⟩, k1⟩, ⟨q2, k2⟩, k3.kill hl2, k4.trans (Ext.kill hl2), fun i hi => ?_⟩
       rcases List.mem_cons.1 hi with rfl | hi
       ·exact ⟨ver, An ..⟩
       ·obtain ⟨v', hv'⟩ := k5 i hi
        by_cases e : b = i
        ·subst e; exact ⟨ver, An ..⟩
        ·exact ⟨v', by show look ((b, (ver, .dead)) :: Agv bs caps) i = _; rw [Am _ _ e]; exact hv'⟩
      ·cases h2
     ·cases h2
    ·cases h
   | _ => simp [Abh] at h
theorem Asr : ∀ {bl ids : List Nat}, Du (fun b i => g.O b = some i) bl ids -> ids.Nodup -> bl.Nodup
 | [], [], _, _ => List.nodup_nil
 | b :: bl, i :: ids, ⟨h1, h2⟩, hn => by
  obtain ⟨n1, n2⟩ := List.nodup_cons.1 hn
  refine List.nodup_cons.2 ⟨fun hm => ?_, Asr h2 n2⟩
  have : ∀ {bl ids : List Nat}, Du (fun b i => g.O b = some i) bl ids -> b ∈ bl -> i ∈ ids := by
   intro bl
   induction bl with
   | nil => intro ids _ hb; cases hb
   | cons b' bl ih =>
    intro ids ha hb
    cases ids with
    | nil => exact ha.elim
    | cons i' ids =>
     rcases List.mem_cons.1 hb with rfl | hb
     ·have h3 : g.O b = some i' := ha.1
      have h1 : g.O b = some i := h1
      rw [h1] at h3
      cases h3; exact List.mem_cons_self ..
     ·exact List.mem_cons_of_mem _ (ih ha.2 hb)
  exact n1 (this h2 hm)
 | [], _ :: _, h, _ => h.elim
 | _ :: _, [], h, _ => h.elim
theorem A1q : ∀ {bl ids : List Nat}, Du (fun b i => g.O b = some i) bl ids -> ∀ b ∈ bl, ∃ i ∈ ids, g.O b = some i
 | [], [], _, b, hb => by cases hb
 | b' :: bl, i :: ids, ⟨h1, h2⟩, b, hb => by
  rcases List.mem_cons.1 hb with rfl | hb
  ·exact ⟨i, List.mem_cons_self .., h1⟩
  ·obtain ⟨j, hj, e⟩ := A1q h2 b hb
   exact ⟨j, List.mem_cons_of_mem _ hj, e⟩
 | [], _ :: _, h, _, _ => h.elim
 | _ :: _, [], h, _, _ => h.elim
theorem Av7 {ok ok' : Nat -> Prop} (h : ∀ b, ok b -> ok' b) : ∀ {ts : List (TypeId × Ty)} {x : Rs ts} {bl : List Nat} {vs : List Value}, A4f ET ok w ts x bl vs -> A4f ET ok' w ts x bl vs
 | [], _, [], [], _ => trivial
 | t :: ts, x, b :: bl, v :: vl, ⟨⟨e, arr, h1, h2⟩, h3⟩ => ⟨⟨e, arr, h1, Rep.mono (fun b hb => ⟨h b hb, rfl⟩) h2⟩, Av7 h h3⟩
 | [], _, _ :: _, _, hh => hh.elim
 | [], _, [], _ :: _, hh => hh.elim
 | _ :: _, _, [], _, hh => hh.elim
 | _ :: _, _, _ :: _, [], hh => hh.elim
theorem Aip : ∀ {ok : Nat -> Prop} {ts : List (TypeId × Ty)} {x : Rs ts} {bl : List Nat} {vs : List Value}, A4f ET ok w ts x bl vs -> ∀ b ∈ bl, ∃ arr T, w.heap[b]? = some (.cells arr T (0, 0))
 | _, [], _, [], [], _, b, hb => by cases hb
 | _, t :: ts, x, b' :: bl, v :: vl, ⟨⟨e, arr, h1, h2⟩, h3⟩, b, hb => by
  rcases List.mem_cons.1 hb with rfl | hb
  ·exact ⟨arr, t.1, h1⟩
  ·exact Aip h3 b hb
 | _, [], _, _ :: _, _, hh, _, _ => hh.elim
 | _, [], _, [], _ :: _, hh, _, _ => hh.elim
 | _, _ :: _, _, [], _, hh, _, _ => hh.elim
 | _, _ :: _, _, _ :: _, [], hh, _, _ => hh.elim
theorem A09 : ∀ {ds : List Deferred}, Auv w0 g w ds -> ∀ d ∈ ds, ∃ D, d = { target := .collected D, args := #[] } /\ D < w.heap.size /\ w.heap[D]? = some (.deferred (some []))
 | [], _, d, hd => by cases hd
 | d' :: ds, ⟨⟨D, e, _, _, h3, h4, _⟩, h6⟩, d, hd => by
  rcases List.mem_cons.1 hd with rfl | hd
  ·exact ⟨D, e, h3, h4⟩
  ·exact A09 h6 d hd
theorem R8 {b : Nat} {v : Bool} : ∀ {fs : List Bool} {bl : List Nat}, b ∈ L9 fs v bl -> b ∈ bl
 | [], _, h => by simp [L9] at h
 | f :: fs, [], h => by simp [L9] at h
 | f :: fs, c :: bl, h => by
  simp only [L9] at h
  split at h
  ·rcases List.mem_cons.1 h with rfl | h
   ·exact List.mem_cons_self ..
   ·exact List.mem_cons_of_mem _ (R8 h)
  ·exact List.mem_cons_of_mem _ (R8 h)
theorem An2 {b : Nat} : ∀ {fs : List Bool} {bl : List Nat}, bl.Nodup -> b ∈ L9 fs true bl -> b ∈ L9 fs false bl -> False
 | [], _, _, h, _ => by simp [L9] at h
 | f :: fs, [], _, h, _ => by simp [L9] at h
 | f :: fs, c :: bl, hn, h, h' => by
  obtain ⟨n1, n2⟩ := List.nodup_cons.1 hn
  simp only [L9] at h h'
  cases f with
  | true =>
   simp only [if_true, reduceCtorEq, if_false] at h h'
   rcases List.mem_cons.1 h with rfl | h
   ·exact n1 (R8 h')
   ·exact An2 n2 h h'
  | false =>
   simp only [if_true, reduceCtorEq, if_false] at h h'
   rcases List.mem_cons.1 h' with rfl | h'
   ·exact n1 (R8 h)
   ·exact An2 n2 h h'
theorem Bgb {t : Ty} {W W' : World} (h : OS C n0 W W') (hd : ∀ b, okS b -> b < n0 /\ ¬ C b) {x : t.den} {u : Value} (hv : VU ET t okS W x u) : VU ET t okS W' x u := by
 induction h with
 | refl => exact hv
 | step T _ hg hr ih =>
  refine Rep.mono (fun b hb => ?_) ih
  have hn : ¬ T b := fun ht => by
   rcases hr b ht with h | ⟨h, _⟩
   ·exact (hd b hb.1).2 h
   ·have := (hd b hb.1).1; omega
  have e := hg.block b hb.2.1 hn
  exact ⟨⟨hb.1, Nat.lt_of_lt_of_le hb.2.1 hg.size, by rw [e]; exact hb.2.2⟩, e⟩
theorem Bb0 (hE : C8 P E) (g0 : Gh) (w0 : World) (kv : List Value) : Asx (R := R) P E (Ak8 E.ET g0 [] w0 E.keep kv) (Bg9 E.ET g0 w0 E.keep kv) out := by
 intro T cuts lv n f ps asn b K Q st a w hT he hrl
 obtain ⟨⟨g, hr⟩, hk⟩ := hrl
 simp only [F3] at he
 split at he
 ·rename_i gf caps hfn
  split at he
  ·rename_i q hq
   split at he
   ·rename_i x hx
    obtain ⟨hc, he⟩ := Ad he
    simp only [Bool.and_eq_true] at hc
    obtain ⟨hnd, h0⟩ := hc
    have hnd := Arr hnd
    have h0 := Adc.1 h0
    obtain ⟨hn0, hnd⟩ := List.nodup_cons.1 hnd
    split at he
    ·rename_i l hl
     have hv := Bq (sl := st.slots) (bs := st.bs) hr f
     rw [hfn] at hv
     obtain ⟨cv, ef, hcv⟩ := hv
     obtain ⟨bl, k1, k2, k3, k4, k5⟩ := Ava hr.boxes hx hnd hcv
     let blW := L9 q.wr true bl
     let g2 : Gh := ⟨fun i => if i ∈ blW then some 0 else if i ∈ bl then none else g.O i, g.hd⟩
     have hWs : ∀ i, i ∈ blW -> i ∈ bl := fun i hi => R8 hi
     have gin : ∀ i, i ∈ blW -> g2.O i = some 0 := fun i hi => if_pos hi
     have gro : ∀ i, i ∈ bl -> i ∉ blW -> g2.O i = none := fun i hi hn => (if_neg hn).trans (if_pos hi)
     have gout : ∀ i, i ∉ bl -> g2.O i = g.O i := fun i hi => (if_neg (fun h => hi (hWs i h))).trans (if_neg hi)
     have gbl : ∀ i, i ∈ bl -> ∃ j ∈ Acx caps, g.O i = some j := fun i hi => A1q k2 i hi
     have ok2 : ∀ i, okB g w i -> okB g2 w i := fun i hi => ⟨by
      rw [gout i (fun hm => by obtain ⟨j, _, e⟩ := gbl i hm; rw [hi.1] at e; cases e)]; exact hi.1, hi.2⟩
     have fr2 : Fr g w g2 w := by
      refine ⟨rfl, rfl, rfl, Nat.le_refl _, fun i hi _ => ⟨?_, rfl⟩, fun i hi _ => ⟨?_, rfl⟩⟩
      ·rw [gout i (fun hm => by obtain ⟨j, _, e⟩ := gbl i hm; rw [hi] at e; cases e)]; exact hi
      ·rw [gout i (fun hm => by obtain ⟨j, hj, e⟩ := gbl i hm; rw [hi] at e; cases e; exact hn0 hj)]; exact hi
     have r1 : Rel E.ET g0 [] w0 g ⟨st.slots, Agv st.bs caps⟩ a w :=
      ⟨hr.glb.keep k4.fr, hr.size, fun i => (hr.slots i).keep k4, k3, hr.defers, hr.ext.trans k4⟩
     have r2 : Rel E.ET g0 [] w0 g2 ⟨st.slots, Agv st.bs caps⟩ a w := by
      refine Ana r1 rfl ok2 fr2 (fun i x blk hlk hx ho _ => ?_)
      rw [gout blk (fun hm => ?_)]
      ·exact ho
      ·obtain ⟨j, hj, e⟩ := gbl blk hm
       rw [ho] at e
       cases e
       obtain ⟨v', hv'⟩ := k5 _ hj
       rw [hv'] at hlk
       cases hlk
       exact hx rfl
     have hb0 : look (Agv st.bs caps) 0 = none := by rw [Es _ _ hn0]; exact h0
     have hfr := hr.ext.fr
     have hcells := Aip k1
     have hdef := A09 hr.defers
     have hgh : A8k g0 w0 g2 (Agv st.bs caps) a.defers (fun b => b < w.heap.size /\ g2.O b = none) (· ∈ blW) (fun i => g2.O i = none \/ g2.O i = some 0) w.heap.size w := by
      refine ⟨fun i h => h, fun i _ h => h, fun i hi => ⟨gin i hi, ?_⟩, fun i hi hlt => ⟨fun e => ?_, fun e => ?_⟩, fun i hi d hd e => ?_, fun d hd D e => ?_, hb0, hfr.size, Nat.le_refl _⟩
      ·obtain ⟨arr, T, h⟩ := hcells i (hWs i hi)
       exact (Array.getElem?_eq_some_iff.1 h).1
      ·obtain ⟨j, hj, e'⟩ := gbl i (hWs i hi)
       have := (hfr.ro i e hlt).1
       rw [e'] at this; cases this
      ·obtain ⟨j, hj, e'⟩ := gbl i (hWs i hi)
       have := (hfr.fo i e hlt).1
       rw [e'] at this
       cases this
       exact hn0 hj
      ·obtain ⟨D, e1, e2, e3⟩ := hdef d hd
       obtain ⟨arr, T, h⟩ := hcells i (hWs i hi)
       rw [e] at e1
       simp only [Deferred.mk.injEq, Target.collected.injEq, and_true] at e1
       subst e1
       rw [h] at e3; cases e3
      ·obtain ⟨D', e1, e2, e3⟩ := hdef d hd
       rw [e] at e1
       simp only [Deferred.mk.injEq, Target.collected.injEq, and_true] at e1
       subst e1
       exact e2
     have hsq := hE.seqs gf q hq
     have hbn := Asr k2 hnd
     have u2 := hsq.run x l hl g2 w bl cv (hr.glb.keep fr2) (Av7 ok2 k1) hbn gin (fun i hi => gro i (R8 hi) (fun h => An2 hbn h hi))
     obtain ⟨fn, f1, f2, f3⟩ := hsq.fn
     have eg : ∀ args w, (callFunc gf args).run P w = .ok (.enter gf args) w := by
      cases hbd : fn.body with
      | none => rw [hbd] at f3; cases f3
      | some c => exact A9u f1 f2 hbd
     have hRF := hT q.t l _ (· ∈ blW) (fun i => g2.O i = none \/ g2.O i = some 0) w.heap.size _ a w he ⟨g2, _, A49 _ _ r2, rfl, hk, hgh⟩
     have hcb : ∀ b, (b < w.heap.size /\ g2.O b = none) -> b < w.heap.size /\ ¬ b ∈ blW := fun b hb => ⟨hb.1, fun hc => by
      have := hb.2
      rw [gin b hc] at this; cases this⟩
     exact Aoc (C := (· ∈ blW)) (V := VU E.ET q.t (fun b => b < w.heap.size /\ g2.O b = none)) (fun W W' x u h hv => Bgb h hcb hv) ef eg u2 (fun r hr => (hgh.c r hr).2) hRF
    ·cases he
   ·cases he
  ·cases he
 ·cases he
end
end Go.Proofs.YtcnngodgngmghaaGreatDoor.Ev
