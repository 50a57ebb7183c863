/- Operations that are apart may be swapped: whatever order a region draws, it comes to the same. -/
import Derived.Test.YtfdppbfefplikaaEv24
namespace Go.Proofs.Ytfdppbfefplikaa.Ev
open Go
open Go.RowKit
set_option linter.unusedVariables false
set_option linter.unusedSimpArgs false
set_option linter.unusedSectionVars false
structure Dat where
  v : AV
  ch : Boxes
  A : Option (List Nat)
def SameL (all : List Oper) (o : Oper) (sl sl2 : List AV) : Prop :=
  (∀ x ∈ o.op.operands, opnd sl2 x = opnd sl x) ∧ ∀ j want s, o.guard = some (j, want) → guardSlot all j = some s → getS sl2 s = getS sl s
/-- A step: in every state that is alike where the operation looks, it leaves that value and those entries. -/
def Stp (E : Env) (all : List Oper) (o : Oper) (D : Dat) (sl : List AV) (bs : Boxes) : Prop :=
  (∀ sl2 bs2, SameL all o sl sl2 → Agr D.A bs bs2 → ∀ (R : Type) (K : St → Option R), evOps E all [o] ⟨sl2, bs2⟩ K = K ⟨putS sl2 o.dst D.v, D.ch ++ bs2⟩) ∧ ∀ x ∈ D.ch, InA D.A x.1
section
variable {P : Program} {E : Env} {R : Type} {out : R} {g0 g g' : Gh} {w0 w w' : World} {sl sl2 : List AV} {bs0 bs bs2 : Boxes} {a : Act} {all : List Oper}
theorem setS_self : ∀ (l : List AV) (i : Nat), setS l i (getS l i) = l
  | [], i => rfl
  | x :: l, 0 => rfl
  | x :: l, i + 1 => by simp only [setS, getS, setS_self l i]
theorem setS_comm : ∀ (l : List AV) {i j : Nat} (u v : AV), i ≠ j → setS (setS l i u) j v = setS (setS l j v) i u
  | [], _, _, _, _, _ => rfl
  | x :: l, 0, 0, _, _, h => absurd rfl h
  | x :: l, 0, j + 1, _, _, _ => rfl
  | x :: l, i + 1, 0, _, _, _ => rfl
  | x :: l, i + 1, j + 1, u, v, h => by
    have := setS_comm l u v (fun (e : i = j) => h (congrArg Nat.succ e))
    simp only [setS, this]
theorem putS_comm (l : List AV) {d e : Option Tmp} (u v : AV) (h : ∀ x, d = some x → e ≠ some x) : putS (putS l d u) e v = putS (putS l e v) d u := by
  cases d with
  | none => rfl
  | some d =>
    cases e with
    | none => rfl
    | some e => exact setS_comm l u v (fun q => h d rfl (by rw [q]))
theorem getS_putS {d : Option Tmp} {v : AV} {i : Nat} (h : ∀ x, d = some x → x ≠ i) : getS (putS sl d v) i = getS sl i := by
  cases d with
  | none => rfl
  | some d =>
    simp only [putS, getS_setS]
    rw [if_neg]
    rintro ⟨e, _⟩
    exact h d rfl e.symm
theorem opnd_putS {d : Option Tmp} {v : AV} {x : Operand} (h : ∀ t, d = some t → x ≠ .tmp t) : opnd (putS sl d v) x = opnd sl x := by
  cases x with
  | tmp t => exact getS_putS fun y hy e => h y hy (by rw [e])
  | _ => rfl
theorem look_append_not : ∀ {l : Boxes} {b : Nat}, (∀ x ∈ l, x.1 ≠ b) → look (l ++ bs) b = look bs b
  | [], b, h => rfl
  | (i, x) :: l, b, h => by
    show look ((i, x) :: (l ++ bs)) b = look bs b
    rw [look_cons_ne _ _ (h _ (List.mem_cons_self ..))]
    exact look_append_not fun y hy => h y (List.mem_cons_of_mem _ hy)
theorem look_append_congr : ∀ {l : Boxes} {bs bs2 : Boxes}, (∀ b, look bs2 b = look bs b) → ∀ b, look (l ++ bs2) b = look (l ++ bs) b
  | [], _, _, h, b => h b
  | (i, x) :: l, bs, bs2, h, b => by
    show look ((i, x) :: (l ++ bs2)) b = look ((i, x) :: (l ++ bs)) b
    by_cases e : i = b
    · subst e; rw [look_cons_eq, look_cons_eq]
    · rw [look_cons_ne _ _ e, look_cons_ne _ _ e]; exact look_append_congr h b
theorem SameL.refl {o : Oper} : SameL all o sl sl := ⟨fun _ _ => rfl, fun _ _ _ _ _ => rfl⟩
theorem Agr.refl (A : Option (List Nat)) : Agr A bs bs := by cases A <;> simp [Agr]
theorem stp_of (hE : EnvOk P E) {o : Oper} {K : St → Option R} (hd : detB E o sl = true) (h : evOps E all [o] ⟨sl, bs⟩ K = some out) :
    ∃ D : Dat, K ⟨putS sl o.dst D.v, D.ch ++ bs⟩ = some out ∧ D.A = foot E o sl bs ∧ Stp E all o D sl bs := by
  unfold evOps at h
  have hkd : keepB E.keep o.dst = true := by
    cases hq : keepB E.keep o.dst with
    | true => rfl
    | false => rw [hq] at h; cases h
  rw [hkd] at h
  simp only [Bool.not_true, cond_false] at h
  cases hg : o.guard with
  | none =>
    rw [hg] at h
    simp only [evOps] at h
    obtain ⟨v, ch, k1, k2, k3⟩ := eff_op hE hd h
    refine ⟨⟨v, ch, foot E o sl bs⟩, k1, rfl, fun sl2 bs2 hs ha R' K' => ?_, k3⟩
    show evOps E all [o] ⟨sl2, bs2⟩ K' = _
    unfold evOps
    simp only [hkd, Bool.not_true, cond_false, hg, evOps]
    rw [evOp_congr hs.1]
    exact k2 bs2 ha R' _
  | some jw =>
    obtain ⟨j, want⟩ := jw
    rw [hg] at h
    simp only at h
    split at h
    · cases h
    · rename_i s hs
      split at h
      · rename_i b hb
        have yes : b = want → ∃ D : Dat, K ⟨putS sl o.dst D.v, D.ch ++ bs⟩ = some out ∧ D.A = foot E o sl bs ∧ Stp E all o D sl bs := by
          intro e
          subst e
          have h2 : (evOp E o sl bs fun v bs => evOps E all [] ⟨putS sl o.dst v, bs⟩ K) = some out := by
            have hset : setS sl s (.val .bool b) = sl := by rw [← hb]; exact setS_self sl s
            cases b <;> simp only [cond_true, cond_false, hset] at h <;> exact h
          simp only [evOps] at h2
          obtain ⟨v, ch, k1, k2, k3⟩ := eff_op hE hd h2
          refine ⟨⟨v, ch, foot E o sl bs⟩, k1, rfl, fun sl2 bs2 hsl ha R' K' => ?_, k3⟩
          show evOps E all [o] ⟨sl2, bs2⟩ K' = _
          have hb2 : getS sl2 s = .val .bool b := by rw [hsl.2 j b s hg hs]; exact hb
          have hset : setS sl2 s (.val .bool b) = sl2 := by rw [← hb2]; exact setS_self sl2 s
          unfold evOps
          simp only [hkd, Bool.not_true, cond_false, hg, hs, hb2, evOps]
          cases b <;> simp only [cond_true, cond_false, hset] <;> (rw [evOp_congr hsl.1]; exact k2 bs2 ha R' _)
        have no : b ≠ want → ∃ D : Dat, K ⟨putS sl o.dst D.v, D.ch ++ bs⟩ = some out ∧ D.A = foot E o sl bs ∧ Stp E all o D sl bs := by
          intro e
          have h2 : evOps E all [] ⟨putS sl o.dst .und, bs⟩ K = some out := by
            have hset : setS sl s (.val .bool b) = sl := by rw [← hb]; exact setS_self sl s
            cases b <;> cases want <;> first | exact (e rfl).elim | (simp only [cond_true, cond_false, hset] at h; exact h)
          refine ⟨⟨.und, [], foot E o sl bs⟩, h2, rfl, fun sl2 bs2 hsl ha R' K' => ?_, fun x hx => by cases hx⟩
          show evOps E all [o] ⟨sl2, bs2⟩ K' = _
          have hb2 : getS sl2 s = .val .bool b := by rw [hsl.2 j want s hg hs]; exact hb
          have hset : setS sl2 s (.val .bool b) = sl2 := by rw [← hb2]; exact setS_self sl2 s
          unfold evOps
          simp only [hkd, Bool.not_true, cond_false, hg, hs, hb2, evOps]
          cases b <;> cases want <;> first | exact (e rfl).elim | (simp only [cond_true, cond_false, hset]; rfl)
        by_cases e : b = want
        · exact yes e
        · exact no e
      · rename_i hb
        refine ⟨⟨.und, [], foot E o sl bs⟩, h, rfl, fun sl2 bs2 hsl ha R' K' => ?_, fun x hx => by cases hx⟩
        show evOps E all [o] ⟨sl2, bs2⟩ K' = _
        have hb2 : getS sl2 s = .und := by rw [hsl.2 j want s hg hs]; exact hb
        unfold evOps
        simp only [hkd, Bool.not_true, cond_false, hg, hs, hb2, evOps]
        rfl
      · cases h
/-! ### swaps -/
theorem apart_same {o1 o2 : Oper} {v : AV} (h : ∀ d, o1.dst = some d → d ∉ o2.looksAt all.toArray) : SameL all o2 sl (putS sl o1.dst v) := by
  refine ⟨fun x hx => opnd_putS fun t ht e => ?_, fun j want s hg hs => getS_putS fun t ht e => ?_⟩
  · subst e
    refine h t ht (List.mem_append_left _ (List.mem_filterMap.2 ⟨.tmp t, by simpa using hx, rfl⟩))
  · subst e
    refine h t ht (List.mem_append_right _ ?_)
    rw [hg]
    rw [guardSlot_eq] at hs
    simp [hs]
theorem SameL.symm {o : Oper} (h : SameL all o sl sl2) : SameL all o sl2 sl := ⟨fun x hx => (h.1 x hx).symm, fun j w s h1 h2 => (h.2 j w s h1 h2).symm⟩
theorem SameL.trans {o : Oper} {sl3 : List AV} (h : SameL all o sl sl2) (k : SameL all o sl2 sl3) : SameL all o sl sl3 :=
  ⟨fun x hx => (k.1 x hx).trans (h.1 x hx), fun j w s h1 h2 => (k.2 j w s h1 h2).trans (h.2 j w s h1 h2)⟩
theorem agr_append {A : Option (List Nat)} {ch : Boxes} (h : ∀ x ∈ ch, ¬ InA A x.1) : Agr A bs (ch ++ bs) := by
  cases A with
  | none =>
    intro b
    cases ch with
    | nil => rfl
    | cons x ch => exact (h x (List.mem_cons_self ..) trivial).elim
  | some l =>
    intro b hb
    refine look_append_not fun x hx e => ?_
    subst e
    exact h x hx hb
theorem Agr.symm {A : Option (List Nat)} (h : Agr A bs bs2) : Agr A bs2 bs := by
  cases A with
  | none => exact fun b => (h b).symm
  | some l => exact fun b hb => (h b hb).symm
theorem Agr.trans {A : Option (List Nat)} {bs3 : Boxes} (h : Agr A bs bs2) (k : Agr A bs2 bs3) : Agr A bs bs3 := by
  cases A with
  | none => exact fun b => (k b).trans (h b)
  | some l => exact fun b hb => (k b hb).trans (h b hb)
theorem Stp.alike {o : Oper} {D : Dat} (h : Stp E all o D sl bs) (hs : SameL all o sl sl2) (ha : Agr D.A bs bs2) : Stp E all o D sl2 bs2 :=
  ⟨fun sl3 bs3 hs3 ha3 R K => h.1 sl3 bs3 (hs.trans hs3) (ha.trans ha3) R K, h.2⟩
/-- Apart: in their temporaries and in their boxes. -/
def Ind (all : List Oper) (oj oi : Oper) (Dj Di : Dat) : Prop :=
  oj.apart all.toArray oi = true ∧ (∀ x ∈ Di.ch, ¬ InA Dj.A x.1) ∧ ∀ x ∈ Dj.ch, ¬ InA Di.A x.1
theorem stp_swap {oj oi : Oper} {Dj Di : Dat} (hj : Stp E all oj Dj sl bs) (hi : Stp E all oi Di (putS sl oj.dst Dj.v) (Dj.ch ++ bs)) (hind : Ind all oj oi Dj Di) :
    Stp E all oi Di sl bs ∧ Stp E all oj Dj (putS sl oi.dst Di.v) (Di.ch ++ bs) ∧ putS (putS sl oj.dst Dj.v) oi.dst Di.v = putS (putS sl oi.dst Di.v) oj.dst Dj.v ∧
    ∀ b, look (Di.ch ++ (Dj.ch ++ bs)) b = look (Dj.ch ++ (Di.ch ++ bs)) b := by
  obtain ⟨hap, h1, h2⟩ := hind
  obtain ⟨a1, a2, a3⟩ := Oper.apart_spec hap
  refine ⟨hi.alike (apart_same (v := Dj.v) a1).symm (agr_append h2).symm, hj.alike (apart_same (v := Di.v) a3) (agr_append h1), putS_comm sl _ _ a2, fun b => ?_⟩
  by_cases hb : ∃ x ∈ Dj.ch, x.1 = b
  · obtain ⟨x, hx, rfl⟩ := hb
    have hin : InA Dj.A x.1 := hj.2 x hx
    have hn : ∀ y ∈ Di.ch, y.1 ≠ x.1 := fun y hy e => h1 y hy (by rw [e]; exact hin)
    rw [look_append_not hn]
    have : ∀ (l : Boxes), (∃ y ∈ l, y.1 = x.1) → ∀ m m' : Boxes, look (l ++ m) x.1 = look (l ++ m') x.1 := by
      intro l
      induction l with
      | nil => rintro ⟨y, hy, _⟩; cases hy
      | cons z l ih =>
        rintro ⟨y, hy, e⟩ m m'
        obtain ⟨i, c⟩ := z
        show look ((i, c) :: (l ++ m)) x.1 = look ((i, c) :: (l ++ m')) x.1
        by_cases e2 : i = x.1
        · rw [← e2, look_cons_eq, look_cons_eq]
        · rw [look_cons_ne _ _ e2, look_cons_ne _ _ e2]
          refine ih ?_ m m'
          rcases List.mem_cons.1 hy with rfl | hy
          · exact (e2 e).elim
          · exact ⟨y, hy, e⟩
    exact this Dj.ch ⟨x, hx, rfl⟩ _ _
  · have hn : ∀ y ∈ Dj.ch, y.1 ≠ b := fun y hy e => hb ⟨y, hy, e⟩
    rw [look_append_not (l := Dj.ch) hn]
    have : ∀ (l : Boxes), look (l ++ (Dj.ch ++ bs)) b = look (l ++ bs) b := by
      intro l
      induction l with
      | nil => exact look_append_not hn
      | cons z l ih =>
        obtain ⟨i, c⟩ := z
        show look ((i, c) :: (l ++ (Dj.ch ++ bs))) b = look ((i, c) :: (l ++ bs)) b
        by_cases e2 : i = b
        · rw [e2, look_cons_eq, look_cons_eq]
        · rw [look_cons_ne _ _ e2, look_cons_ne _ _ e2]; exact ih
    exact this Di.ch
def RunTo (E : Env) (all : List Oper) (D : Nat → Dat) (slE : List AV) (bsE : Boxes) : List Nat → List AV → Boxes → Prop
  | [], sl, bs => sl = slE ∧ ∀ b, look bs b = look bsE b
  | i :: l, sl, bs => ∃ o, all[i]? = some o ∧ Stp E all o (D i) sl bs ∧ RunTo E all D slE bsE l (putS sl o.dst (D i).v) ((D i).ch ++ bs)
theorem run_congr {D : Nat → Dat} {slE : List AV} {bsE : Boxes} : ∀ {l : List Nat} {sl : List AV} {bs bs2 : Boxes}, (∀ b, look bs2 b = look bs b) → RunTo E all D slE bsE l sl bs → RunTo E all D slE bsE l sl bs2
  | [], sl, bs, bs2, h, hr => ⟨hr.1, fun b => (h b).trans (hr.2 b)⟩
  | i :: l, sl, bs, bs2, h, ⟨o, h1, h2, h3⟩ => by
    refine ⟨o, h1, h2.alike SameL.refl ?_, run_congr (look_append_congr h) h3⟩
    cases (D i).A with
    | none => exact h
    | some l => exact fun b _ => h b
theorem run_D {D D' : Nat → Dat} {slE : List AV} {bsE : Boxes} : ∀ {l : List Nat} {sl : List AV} {bs : Boxes}, (∀ k ∈ l, D' k = D k) → RunTo E all D slE bsE l sl bs → RunTo E all D' slE bsE l sl bs
  | [], _, _, _, h => h
  | i :: l, sl, bs, hk, ⟨o, h1, h2, h3⟩ => by
    have e := hk i (List.mem_cons_self ..)
    refine ⟨o, h1, by rw [e]; exact h2, ?_⟩
    rw [e]
    exact run_D (fun k hk' => hk k (List.mem_cons_of_mem _ hk')) h3
theorem bubble {D : Nat → Dat} {slE : List AV} {bsE : Boxes} {i : Nat} {l2 : List Nat} : ∀ {l1 : List Nat} {sl : List AV} {bs : Boxes},
    (∀ j ∈ l1, ∀ oj oi, all[j]? = some oj → all[i]? = some oi → Ind all oj oi (D j) (D i)) → RunTo E all D slE bsE (l1 ++ i :: l2) sl bs → RunTo E all D slE bsE (i :: (l1 ++ l2)) sl bs
  | [], sl, bs, _, h => h
  | j :: l1, sl, bs, hi, ⟨oj, h1, h2, h3⟩ => by
    obtain ⟨oi, k1, k2, k3⟩ := bubble (fun q hq => hi q (List.mem_cons_of_mem _ hq)) h3
    obtain ⟨s1, s2, s3, s4⟩ := stp_swap h2 k2 (hi j (List.mem_cons_self ..) oj oi h1 k1)
    refine ⟨oi, k1, s1, oj, h1, s2, ?_⟩
    rw [← s3]
    exact run_congr (fun b => (s4 b).symm) k3
end
end Go.Proofs.Ytfdppbfefplikaa.Ev
