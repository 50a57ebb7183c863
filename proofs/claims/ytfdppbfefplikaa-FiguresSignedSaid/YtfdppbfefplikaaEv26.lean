/- A region that draws its order is sound. -/
import Derived.Test.YtfdppbfefplikaaEv25
namespace Go.Proofs.Ytfdppbfefplikaa.Ev
open Go
open Go.RowKit
set_option linter.unusedVariables false
set_option linter.unusedSimpArgs false
set_option linter.unusedSectionVars false
section
variable {P : Program} {E : Env} {R : Type} {out : R} {g0 g g' : Gh} {w0 w w' : World} {sl sl2 : List AV} {bs0 bs bs2 : Boxes} {a : Act} {all : List Oper}
/-! ### the run in the text's order -/
def IsLog (D : Nat → Dat) (all : List Oper) : Log → Nat → Prop
  | [], n => n = 0
  | (k, o, A, W) :: l, n => ∃ m, n = m + 1 ∧ k = m ∧ all[m]? = some o ∧ A = (D m).A ∧ W = (D m).ch.map (·.1) ∧ IsLog D all l m
theorem isLog_congr {D D' : Nat → Dat} : ∀ {l : Log} {n : Nat}, (∀ k < n, D' k = D k) → IsLog D all l n → IsLog D' all l n
  | [], _, _, h => h
  | (k, o, A, W) :: l, n, hk, ⟨m, e, h1, h2, h3, h4, h5⟩ => by
    subst e
    have e := hk m (Nat.lt_succ_self m)
    exact ⟨m, rfl, h1, h2, by rw [e]; exact h3, by rw [e]; exact h4, isLog_congr (fun q hq => hk q (Nat.lt_succ_of_lt hq)) h5⟩
theorem lenBs_eq : ∀ l : Boxes, lenBs l = l.length
  | [] => rfl
  | _ :: l => by simp [lenBs, lenBs_eq l]
theorem idsN_append : ∀ (ch bs : Boxes), idsN ch.length (ch ++ bs) = ch.map (·.1)
  | [], _ => rfl
  | (i, c) :: ch, bs => by
    show i :: idsN ch.length (ch ++ bs) = _
    rw [idsN_append ch bs]; rfl
theorem runD (hE : EnvOk P E) {K : St → Option R} : ∀ (rest : List Oper) (i : Nat) (sl : List AV) (bs : Boxes) (lg : Log) (D0 : Nat → Dat), (∀ k, rest[k]? = all[i + k]?) → IsLog D0 all lg i →
    evOpsD E all rest i ⟨sl, bs⟩ lg K = some out → ∃ D slE bsE lg', (∀ k < i, D k = D0 k) ∧ K ⟨slE, bsE⟩ = some out ∧ IsLog D all lg' (i + rest.length) ∧
      (okLog all (masks all []) lg' && backB all 0 && Region.noSelect all.toArray) = true ∧ RunTo E all D slE bsE (List.range' i rest.length) sl bs
  | [], i, sl, bs, lg, D0, hk, hl, h => by
    simp only [evOpsD] at h
    obtain ⟨h1, h⟩ := bif_some h
    exact ⟨D0, sl, bs, lg, fun _ _ => rfl, h, hl, h1, rfl, fun _ => rfl⟩
  | o :: rest, i, sl, bs, lg, D0, hk, hl, h => by
    simp only [evOpsD] at h
    obtain ⟨hd, h⟩ := bif_some h
    obtain ⟨Di, h1, h2, h3⟩ := stp_of hE hd h
    have ho : all[i]? = some o := by have := hk 0; simpa using this.symm
    have hlog : IsLog (fun k => if k = i then Di else D0 k) all ((i, o, foot E o sl bs, idsN (lenBs (Di.ch ++ bs) - lenBs bs) (Di.ch ++ bs)) :: lg) (i + 1) := by
      refine ⟨i, rfl, rfl, ho, by simp [h2], ?_, isLog_congr (fun k hk => by show (if k = i then Di else D0 k) = D0 k; rw [if_neg (by omega)]) hl⟩
      rw [lenBs_eq, lenBs_eq, List.length_append, Nat.add_sub_cancel, idsN_append]
      simp
    obtain ⟨D, slE, bsE, lg', k1, k2, k3, k4, k5⟩ := runD hE rest (i + 1) _ _ _ _ (fun k => by have := hk (k + 1); rw [List.getElem?_cons_succ] at this; rw [this]; congr 1; omega) hlog h1
    have hDi : D i = Di := by rw [k1 i (Nat.lt_succ_self i)]; simp
    refine ⟨D, slE, bsE, lg', fun k hk' => ?_, k2, by rw [List.length_cons, show i + (rest.length + 1) = i + 1 + rest.length by omega]; exact k3, k4, ?_⟩
    · rw [k1 k (by omega)]; show (if k = i then Di else D0 k) = D0 k; rw [if_neg (by omega)]
    · rw [List.length_cons, List.range'_succ]
      exact ⟨o, ho, by rw [hDi]; exact h3, by rw [hDi]; exact k5⟩
theorem disj_of {A : Option (List Nat)} {ch : Boxes} (h : disjN A (ch.map (·.1)) = true) : ∀ x ∈ ch, ¬ InA A x.1 := by
  intro x hx hin
  cases A with
  | none =>
    cases ch with
    | nil => cases hx
    | cons y ch => simp [disjN, isNilN] at h
  | some l =>
    simp only [disjN, List.all_eq_true] at h
    have := h x.1 (List.mem_map.2 ⟨x, hx, rfl⟩)
    simp only [Bool.not_eq_true'] at this
    have hm : memN l x.1 = true := by
      have : ∀ {l : List Nat} {n : Nat}, n ∈ l → memN l n = true := by
        intro l n h
        induction l with
        | nil => cases h
        | cons b l ih =>
          simp only [memN, Bool.or_eq_true]
          rcases List.mem_cons.1 h with rfl | h
          · exact .inl (Nat.beq_refl _)
          · exact .inr (ih h)
      exact this hin
    rw [hm] at this; cases this
theorem okOne_of {D : Nat → Dat} {bm i : Nat} {oi : Oper} : ∀ {l : Log} {n : Nat}, IsLog D all l n → okOne all bm i oi (D i).A ((D i).ch.map (·.1)) l = true → ∀ j < n, ∀ oj, all[j]? = some oj → bm.testBit j = true ∨ Ind all oj oi (D j) (D i)
  | [], n, h, _, j, hj, _, _ => by simp only [IsLog] at h; omega
  | (k, o, A, W) :: l, n, ⟨m, e, h1, h2, h3, h4, h5⟩, hok, j, hj, oj, hoj => by
    subst e; subst h1
    simp only [okOne, Bool.and_eq_true, Bool.or_eq_true] at hok
    by_cases e : j = k
    · subst e
      rw [h2] at hoj
      simp only [Option.some.injEq] at hoj
      subst hoj
      rcases hok.1 with h | ⟨⟨ha, hb⟩, hc⟩
      · exact .inl h
      · refine .inr ⟨ha, ?_, ?_⟩
        · rw [h3] at hc; exact disj_of hc
        · rw [h4] at hb; exact disj_of hb
    · exact okOne_of h5 hok.2 j (by omega) oj hoj
theorem okLog_of {D : Nat → Dat} {bms : List Nat} : ∀ {l : Log} {n : Nat}, IsLog D all l n → okLog all bms l = true → ∀ j i, j < i → i < n → ∀ oj oi, all[j]? = some oj → all[i]? = some oi →
    (getN bms i).testBit j = true ∨ Ind all oj oi (D j) (D i)
  | [], n, h, _, j, i, _, hi, _, _, _, _ => by simp only [IsLog] at h; omega
  | (k, o, A, W) :: l, n, ⟨m, e, h1, h2, h3, h4, h5⟩, hok, j, i, hji, hi, oj, oi, hoj, hoi => by
    subst e; subst h1
    simp only [okLog, Bool.and_eq_true] at hok
    by_cases e : i = k
    · subst e
      rw [h2] at hoi
      simp only [Option.some.injEq] at hoi
      subst hoi
      rw [h3, h4] at hok
      exact okOne_of h5 hok.1 j hji oj hoj
    · exact okLog_of h5 hok.2 j i hji (by omega) oj oi hoj hoi
/-! ### what waits for what -/
theorem backB_of : ∀ {l : List Oper} {n k : Nat} {o : Oper}, backB l n = true → l[k]? = some o → ∀ e ∈ o.after.toList, Region.binds .any e = true → e.on < n + k
  | [], _, _, _, _, h, _, _, _ => by simp at h
  | o' :: l, n, 0, o, hb, h, e, he, hbi => by
    simp only [List.getElem?_cons_zero, Option.some.injEq] at h
    subst h
    simp only [backB, Bool.and_eq_true, List.all_eq_true] at hb
    have := hb.1 e he
    rw [hbi] at this
    have := Nat.le_of_ble_eq_true (by simpa [Nat.blt] using this : Nat.ble (e.on + 1) n = true)
    omega
  | o' :: l, n, k + 1, o, hb, h, e, he, hbi => by
    simp only [backB, Bool.and_eq_true] at hb
    have := backB_of hb.2 (by simpa using h) e he hbi
    omega
theorem length_snoc (x : Nat) : ∀ l : List Nat, (snocN l x).length = l.length + 1
  | [] => rfl
  | _ :: l => by simp [snocN, length_snoc x l]
theorem getN_snoc_lt (x : Nat) : ∀ (l : List Nat) (k : Nat), k < l.length → getN (snocN l x) k = getN l k
  | [], _, h => by simp at h
  | _ :: _, 0, _ => rfl
  | _ :: l, k + 1, h => getN_snoc_lt x l k (by simpa using h)
theorem getN_snoc_eq (x : Nat) : ∀ (l : List Nat), getN (snocN l x) l.length = x
  | [] => rfl
  | _ :: l => getN_snoc_eq x l
theorem masks_pre : ∀ (l : List Oper) (acc : List Nat) (k : Nat), k < acc.length → getN (masks l acc) k = getN acc k
  | [], _, _, _ => rfl
  | o :: l, acc, k, h => by
    simp only [masks]
    rw [masks_pre l _ k (by rw [length_snoc]; omega), getN_snoc_lt _ _ _ h]
theorem masks_at : ∀ (l : List Oper) (acc : List Nat) (k : Nat) (o : Oper), l[k]? = some o → ∃ acc', acc'.length = acc.length + k ∧ (∀ q < acc'.length, getN acc' q = getN (masks l acc) q) ∧ getN (masks l acc) (acc.length + k) = maskOf acc' o.after.toList 0
  | [], _, _, _, h => by simp at h
  | o' :: l, acc, 0, o, h => by
    simp only [List.getElem?_cons_zero, Option.some.injEq] at h
    subst h
    refine ⟨acc, rfl, fun q hq => (masks_pre (o' :: l) acc q hq).symm, ?_⟩
    simp only [masks, Nat.add_zero]
    rw [masks_pre l _ _ (by rw [length_snoc]; omega), getN_snoc_eq]
  | o' :: l, acc, k + 1, o, h => by
    obtain ⟨acc', h1, h2, h3⟩ := masks_at l (snocN acc (maskOf acc o'.after.toList 0)) k o (by simpa using h)
    rw [length_snoc] at h1 h3
    exact ⟨acc', by omega, h2, by rw [show acc.length + (k + 1) = acc.length + 1 + k by omega]; exact h3⟩
theorem maskOf_bit (acc : List Nat) : ∀ (es : List Edge) (s j : Nat), (maskOf acc es s).testBit j = true → s.testBit j = true ∨ ∃ e ∈ es, Region.binds .any e = true ∧ (j = e.on ∨ (getN acc e.on).testBit j = true)
  | [], s, j, h => .inl h
  | e :: es, s, j, h => by
    simp only [maskOf] at h
    rcases maskOf_bit acc es _ j h with h | ⟨e', he', h1⟩
    · cases hb : Region.binds .any e with
      | false => rw [hb] at h; exact .inl h
      | true =>
        rw [hb] at h
        simp only [cond_true, Nat.testBit_or, Bool.or_eq_true, Nat.testBit_two_pow, decide_eq_true_eq] at h
        rcases h with (h | h) | h
        · exact .inl h
        · exact .inr ⟨e, List.mem_cons_self .., hb, .inl h.symm⟩
        · exact .inr ⟨e, List.mem_cons_self .., hb, .inr h⟩
    · exact .inr ⟨e', List.mem_cons_of_mem _ he', h1⟩
theorem mask_step (hb : backB all 0 = true) {i j : Nat} {o : Oper} (ho : all[i]? = some o) (h : (getN (masks all []) i).testBit j = true) :
    ∃ e ∈ o.after.toList, Region.binds .any e = true ∧ e.on < i ∧ (j = e.on ∨ (getN (masks all []) e.on).testBit j = true) := by
  obtain ⟨acc', h1, h2, h3⟩ := masks_at all [] i o ho
  simp only [List.length_nil, Nat.zero_add] at h1 h3
  rw [h3] at h
  rcases maskOf_bit acc' _ 0 j h with h | ⟨e, he, hbi, h⟩
  · simp at h
  · have hlt : e.on < i := by have := backB_of hb ho e he hbi; omega
    refine ⟨e, he, hbi, hlt, ?_⟩
    rcases h with h | h
    · exact .inl h
    · rw [h2 e.on (by omega)] at h; exact .inr h
def Cl (all : List Oper) (listed : Array Bool) : Prop :=
  ∀ k o, all[k]? = some o → listed.getD k false = true → ∀ e ∈ o.after.toList, Region.binds .any e = true → listed.getD e.on false = true
theorem reach_listed (hb : backB all 0 = true) {listed : Array Bool} (hc : Cl all listed) (hsz : listed.size = all.length) : ∀ (k j : Nat), listed.getD k false = true → (getN (masks all []) k).testBit j = true → listed.getD j false = true := by
  intro k
  induction k using Nat.strongRecOn with
  | _ k ih =>
    intro j hk hj
    have hlt : k < all.length := by
      rcases Nat.lt_or_ge k listed.size with h | h
      · omega
      · rw [Array.getD, dif_neg (by omega)] at hk; cases hk
    obtain ⟨e, he, hbi, hlt2, h⟩ := mask_step hb (List.getElem?_eq_getElem hlt) hj
    have := hc k _ (List.getElem?_eq_getElem hlt) hk e he hbi
    rcases h with rfl | h
    · exact this
    · exact ih e.on hlt2 j this h
theorem reach_ready (hb : backB all 0 = true) {listed : Array Bool} (hc : Cl all listed) (hsz : listed.size = all.length) {i j : Nat} (hi : i ∈ Region.ready .any all.toArray listed) (hj : (getN (masks all []) i).testBit j = true) : listed.getD j false = true := by
  obtain ⟨_, o, ho, hall⟩ := mem_ready.1 hi
  rw [List.getElem?_toArray] at ho
  obtain ⟨e, he, hbi, _, h⟩ := mask_step hb ho hj
  have := hall e (by simpa using he) hbi
  rcases h with rfl | h
  · exact this
  · exact reach_listed hb hc hsz e.on j this h
/-! ### one operation, in the machine -/
theorem op_step (hE : EnvOk P E) {o : Oper} {D : Dat} (hs : Stp E all o D sl bs) (hr : Rel E.ET g0 bs0 w0 g ⟨sl, bs⟩ a w) {kv : List Value} (hkp : ∀ i ∈ E.keep, a.tmps.getD i undef = kv.getD i undef) {W : Act → World → Prop} {Q : Post}
    (hW : ∀ a' w', RlOf E.ET g0 bs0 w0 E.keep kv ⟨putS sl o.dst D.v, D.ch ++ bs⟩ a' w' → W a' w') :
    if Region.wanted o (yielded all.toArray a.tmps) then o.wp P a w W Q ∨ (o.asks P a w ∧ LetsOut Q) else W (a.put o.dst undef) w := by
  have h := hs.1 sl bs SameL.refl (Agr.refl _) St some
  exact opOk (R := St) (out := ⟨putS sl o.dst D.v, D.ch ++ bs⟩) hE ⟨⟨g, hr⟩, hkp⟩ h fun st' a' w' h1 h2 => by
    simp only [Option.some.injEq] at h2
    subst h2
    exact hW a' w' h1
theorem ext_look (h : ∀ b, look bs2 b = look bs b) : Ext g bs w g bs2 w := by
  refine ⟨Fr.refl g w, fun b => by simp only [nextVer, h]; exact Nat.le_refl _, fun b v T c _ hb => ?_, fun b v T t xs _ hb => ?_⟩
  · exact ⟨⟨c, by simp only [getBox, ← h b]; exact hb⟩, rfl⟩
  · exact ⟨⟨xs, by simp only [getBox, ← h b]; exact hb, rfl⟩, rfl⟩
theorem boxRel_keep {b : Nat} {c : BoxC} (he : Ext g bs w g bs2 w) (h : BoxRel E.ET g bs w b c) : BoxRel E.ET g bs2 w b c := by
  cases c with
  | dead => trivial
  | var T cells =>
    obtain ⟨blk, arr, k1, k2, k3, k4⟩ := h
    exact ⟨blk, arr, k1, k2, k3, k4.mono fun _ _ => LRel.keep he⟩
  | row T t xs => exact h
theorem rl_look {kv : List Value} (h : ∀ b, look bs2 b = look bs b) (hr : RlOf E.ET g0 bs0 w0 E.keep kv ⟨sl, bs⟩ a w) : RlOf E.ET g0 bs0 w0 E.keep kv ⟨sl, bs2⟩ a w := by
  obtain ⟨⟨g, hr⟩, hk⟩ := hr
  have he : Ext g bs w g bs2 w := ext_look h
  exact ⟨⟨g, hr.size, fun i => (hr.slots i).keep he, fun b v c hl => boxRel_keep he (hr.boxes b v c (by rw [← h b]; exact hl)), hr.defers, hr.ext.trans he⟩, hk⟩
theorem rl_drawn {kv : List Value} (hr : RlOf E.ET g0 bs0 w0 E.keep kv ⟨sl, bs⟩ a w) : RlOf E.ET g0 bs0 w0 E.keep kv ⟨sl, bs⟩ a { w with drawn := w.drawn + 1 } := by
  obtain ⟨⟨g, hr⟩, hk⟩ := hr
  have fr : Fr g w g { w with drawn := w.drawn + 1 } := ⟨rfl, rfl, rfl, Nat.le_refl _, fun b h _ => ⟨h, rfl⟩, fun b h _ => ⟨h, rfl⟩⟩
  have he : Ext g bs w g bs { w with drawn := w.drawn + 1 } := Ext.of_fr fr rfl
  exact ⟨⟨g, hr.size, fun i => (hr.slots i).keep he, hr.boxes.frame fr rfl (fun blk b _ h => ⟨h, rfl⟩), hr.defers, hr.ext.trans he⟩, hk⟩
theorem any_ok {kv : List Value} (hE : EnvOk P E) {D : Nat → Dat} {slE : List AV} {bsE : Boxes} {Q : Post} (hback : backB all 0 = true)
    (hpair : ∀ j i, j < i → i < all.length → ∀ oj oi, all[j]? = some oj → all[i]? = some oi → (getN (masks all []) i).testBit j = true ∨ Ind all oj oi (D j) (D i))
    (hQ : ∀ bs a w, (∀ b, look bs b = look bsE b) → RlOf E.ET g0 bs0 w0 E.keep kv ⟨slE, bs⟩ a w → Q .normal a w) :
    ∀ (n : Nat) (rem : List Nat) (listed : Array Bool) (sl : List AV) (bs : Boxes) (a : Act) (w : World), rem.length = n → rem.Pairwise (· < ·) → (∀ i, i ∈ rem ↔ i < all.length ∧ listed.getD i true = false) →
      listed.size = all.length → Cl all listed → RlOf E.ET g0 bs0 w0 E.keep kv ⟨sl, bs⟩ a w → RunTo E all D slE bsE rem sl bs → wpAny P .any all.toArray Q n listed a w := by
  have inRem : ∀ {rem : List Nat} {listed : Array Bool} {i : Nat}, (∀ i, i ∈ rem ↔ i < all.length ∧ listed.getD i true = false) → i ∈ Region.ready .any all.toArray listed → i ∈ rem := by
    intro rem listed i hmem hi
    obtain ⟨h1, o, ho, _⟩ := mem_ready.1 hi
    rw [List.getElem?_toArray] at ho
    exact (hmem i).2 ⟨(List.getElem?_eq_some_iff.1 ho).1, h1⟩
  have same : ∀ {listed : Array Bool} {k : Nat}, listed.size = all.length → k < all.length → listed.getD k true = listed.getD k false := by
    intro listed k hs hk
    rw [Array.getD, Array.getD, dif_pos (by omega), dif_pos (by omega)]
  intro n
  induction n with
  | zero =>
    intro rem listed sl bs a w hlen hpw hmem hsz hcl hr hrun
    have : rem = [] := List.eq_nil_of_length_eq_zero hlen
    subst this
    refine ⟨?_, ?_⟩
    · rw [List.eq_nil_iff_forall_not_mem]
      intro i hi
      have := inRem hmem hi
      cases this
    · obtain ⟨e, hl⟩ := hrun
      subst e
      exact hQ bs a w hl hr
  | succ n ih =>
    intro rem listed sl bs a w hlen hpw hmem hsz hcl hr hrun
    refine ⟨fun hnone => ?_, fun i hi => ?_⟩
    · -- the first of the rest may come up
      exfalso
      cases rem with
      | nil => simp at hlen
      | cons r rs =>
        obtain ⟨hrl, hru⟩ := (hmem r).1 (List.mem_cons_self ..)
        have hready : r ∈ Region.ready .any all.toArray listed := by
          refine mem_ready.2 ⟨hru, all[r], by rw [List.getElem?_toArray]; exact List.getElem?_eq_getElem hrl, fun e he hbi => ?_⟩
          have hlt := backB_of hback (List.getElem?_eq_getElem hrl) e (by simpa using he) hbi
          have hlt : e.on < r := by omega
          have hnot : e.on ∉ r :: rs := by
            intro hin
            rcases List.mem_cons.1 hin with h | h
            · omega
            · have := (List.pairwise_cons.1 hpw).1 _ h
              omega
          have h2 : listed.getD e.on true ≠ false := fun h => hnot ((hmem e.on).2 ⟨by omega, h⟩)
          rw [← same hsz (by omega)]
          simpa using h2
        rw [hnone] at hready
        cases hready
    · have hin := inRem hmem hi
      obtain ⟨l1, l2, rfl⟩ := List.append_of_mem hin
      obtain ⟨hil, hiu⟩ := (hmem i).1 hin
      have hpw' := List.pairwise_append.1 hpw
      have hb : RunTo E all D slE bsE (i :: (l1 ++ l2)) sl bs := by
        refine bubble (fun j hj oj oi hoj hoi => ?_) hrun
        have hji : j < i := hpw'.2.2 j hj i (List.mem_cons_self ..)
        obtain ⟨hjl, hju⟩ := (hmem j).1 (List.mem_append_left _ hj)
        rcases hpair j i hji hil oj oi hoj hoi with h | h
        · exfalso
          have := reach_ready hback hcl hsz hi h
          rw [← same hsz hjl, hju] at this
          cases this
        · exact h
      obtain ⟨o, ho, hstp, hrun'⟩ := hb
      obtain ⟨⟨g, hr'⟩, hkp⟩ := hr
      have hget : ∀ k, (listed.setIfInBounds i true).getD k true = if k = i then true else listed.getD k true := by
        intro k
        by_cases e : k = i
        · subst e
          rw [if_pos rfl, Array.getD]
          split <;> simp
        · rw [if_neg e, getD_set_ne true (Ne.symm e)]
      unfold wpOp
      rw [List.getElem?_toArray, ho]
      refine op_step hE hstp hr' hkp fun a' w' hrl => ?_
      refine ih (l1 ++ l2) (listed.setIfInBounds i true) _ _ a' w' ?_ ?_ ?_ (by rw [Array.size_setIfInBounds]; exact hsz) ?_ hrl hrun'
      · simp only [List.length_append, List.length_cons] at hlen ⊢; omega
      · exact hpw.sublist (List.Sublist.append_left (List.sublist_cons_self i l2) l1)
      · intro k
        rw [hget]
        by_cases e : k = i
        · subst e
          simp only [if_true]
          constructor
          · intro hk
            rcases List.mem_append.1 hk with hk | hk
            · have := hpw'.2.2 k hk k (List.mem_cons_self ..); omega
            · have := (List.pairwise_cons.1 hpw'.2.1).1 k hk; omega
          · rintro ⟨_, h⟩; cases h
        · rw [if_neg e, ← hmem k]
          simp only [List.mem_append, List.mem_cons, e, false_or]
      · intro k ok hok hk e he hbi
        by_cases ek : k = i
        · subst ek
          obtain ⟨_, o', ho', hall⟩ := mem_ready.1 hi
          rw [List.getElem?_toArray, hok] at ho'
          simp only [Option.some.injEq] at ho'
          subst ho'
          exact getD_set_true (hall e (by simpa using he) hbi)
        · rw [getD_set_ne false (Ne.symm ek)] at hk
          exact getD_set_true (hcl k ok hok hk e he hbi)
theorem drawOk (hE : EnvOk P E) (g0 : Gh) (bs0 : Boxes) (w0 : World) (kv : List Value) : DrawOk (R := R) P E (RlOf E.ET g0 bs0 w0 E.keep kv) out := by
  intro id ops st K a w Q hr0 h hK
  have hr : RlOf E.ET g0 bs0 w0 E.keep kv (freezeT E st (frzOf E.frz (some (1000000 + id)))) a w := by
    obtain ⟨⟨g, hg⟩, hk⟩ := hr0
    obtain ⟨g', hg'⟩ := freezeT_rel (E := E) (frzOf E.frz (some (1000000 + id))) hg
    exact ⟨⟨g', hg'⟩, hk⟩
  clear hr0
  generalize freezeT E st (frzOf E.frz (some (1000000 + id))) = st at h hr
  obtain ⟨sl, bs⟩ := st
  obtain ⟨D, slE, bsE, lg', _, k2, k3, k4, k5⟩ := runD hE ops.toList 0 sl bs [] (fun _ => ⟨.top, [], none⟩) (fun k => by rw [Nat.zero_add]) rfl h
  simp only [Bool.and_eq_true] at k4
  rw [Nat.zero_add] at k3
  refine wp_region_any hE.mixed ?_
  have key := any_ok (P := P) (g0 := g0) (bs0 := bs0) (w0 := w0) (Q := Q) (kv := kv) hE k4.1.2 (fun j i hji hi oj oi hoj hoi => okLog_of k3 k4.1.1 j i hji hi oj oi hoj hoi)
    (fun bs a w hl hrl => hK ⟨slE, bsE⟩ a w (rl_look (fun b => (hl b).symm) hrl) k2) ops.size (List.range' 0 ops.size) (Array.replicate ops.size false) sl bs a { w with drawn := w.drawn + 1 }
    (by simp) (by simpa using List.pairwise_lt_range') (fun i => by
      rw [List.mem_range'_1, Nat.zero_add]
      constructor
      · rintro ⟨_, h⟩
        refine ⟨by simpa using h, ?_⟩
        rw [Array.getD, dif_pos (by simpa using h)]; simp
      · rintro ⟨h, _⟩
        exact ⟨Nat.zero_le _, by simpa using h⟩) (by simp) (fun k o ho hk => by
      rw [Array.getD] at hk
      split at hk
      · simp at hk
      · cases hk) (rl_drawn hr) (by simpa using k5)
  simpa using key
end
end Go.Proofs.Ytfdppbfefplikaa.Ev
