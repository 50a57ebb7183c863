/- '==' of structs of plain numbers, bools and strings: leaf by leaf. -/
import Derived.Test.YtfdppbfefplikaaEv3
import Derived.Laws.Rows
import Derived.Laws.Build
import Derived.Laws.StructEq
namespace Go.Proofs.Ytfdppbfefplikaa.Ev
open Go
open Go.RowKit
set_option linter.unusedVariables false
set_option linter.unusedSimpArgs false
def fieldKs (P : Program) (rec : TypeId → Option (List LK)) : List Field → Nat → Option (List LK)
  | [], _ => some []
  | f :: l, o => bif (f.name == "_") || !Nat.beq f.offset o then none else match rec f.type with
    | some ks => match P.info? f.type with
      | some i => bif Nat.beq i.size ks.length then (match fieldKs P rec l (o + ks.length) with
        | some r => some (ks ++ r)
        | none => none) else none
      | none => none
    | none => none
def leafKs (P : Program) : Nat → TypeId → Option (List LK)
  | 0, _ => none
  | d + 1, T => match P.underlying T with
    | some (.int k) => some [.int k]
    | some .bool => some [.bool]
    | some .string => some [.str]
    | some (.struct fs) => bif P.stoodInHeld T then none else fieldKs P (leafKs P d) fs.toList 0
    | _ => none
def MatchV : List LK → List Value → Prop
  | [], [] => True
  | .int k :: l, .int k' n :: m => k = k' ∧ MatchV l m
  | .bool :: l, .bool _ :: m => MatchV l m
  | .str :: l, .string _ :: m => MatchV l m
  | _, _ => False
def vEq : Value → Value → Bool
  | .int _ a, .int _ b => a == b
  | .bool a, .bool b => a == b
  | .string a, .string b => a == b
  | _, _ => false
def vsEq : List Value → List Value → Bool
  | x :: xs, y :: ys => vEq x y && vsEq xs ys
  | _, _ => true
def aggD : TypeDesc → Bool
  | .struct _ | .array _ _ => true
  | _ => false
section
variable {P : Program} {w : World}
theorem run_isAgg {T : TypeId} {d : TypeDesc} (h : P.underlying T = some d) : (isAgg T).run P w = .ok (aggD d) w := by
  unfold isAgg
  rw [Sem.run_bind, run_underlying h w]
  cases d <;> rfl
theorem run_sizeOf {T : TypeId} {i : TypeInfo} (h : P.info? T = some i) : (sizeOf T).run P w = .ok i.size w := by
  simp [sizeOf, typeInfo, h]
theorem part_run {T : TypeId} {d : TypeDesc} {i : TypeInfo} {vs : List Value} {o : Nat} (hd : P.underlying T = some d) (hi : P.info? T = some i) :
    (part T vs.toArray o).run P w = (if aggD d then .ok (.agg ((vs.drop o).take i.size).toArray) w else match vs[o]? with | some v => .ok v w | none => (stuck "part: no such cell").run P w) := by
  unfold part
  rw [Sem.run_bind, run_isAgg hd, Result.andThen_ok]
  cases aggD d with
  | true =>
    simp only [if_true, Sem.run_bind, run_sizeOf hi, Result.andThen_ok, Sem.run_pure]
    congr 2
    apply Array.ext'
    simp [List.extract_eq_take_drop, Nat.add_sub_cancel_left]
  | false =>
    simp only [Bool.false_eq_true, if_false, List.getElem?_toArray]
    cases vs[o]? <;> rfl
theorem and3 {a b : Bool} (h : (a && b) = true) : a = true ∧ b = true := by simpa using h
theorem bif_some {α : Type} {b : Bool} {x : Option α} {y : α} (h : (bif b then x else none) = some y) : b = true ∧ x = some y := by
  cases b with
  | false => cases h
  | true => exact ⟨rfl, h⟩
theorem matchV_split : ∀ {ks r : List LK} {xs : List Value}, MatchV (ks ++ r) xs → MatchV ks (xs.take ks.length) ∧ MatchV r (xs.drop ks.length) ∧ ks.length ≤ xs.length
  | [], r, xs, h => ⟨by simp [MatchV], by simpa using h, Nat.zero_le _⟩
  | k :: ks, r, [], h => by cases k <;> exact h.elim
  | k :: ks, r, x :: xs, h => by
    cases k <;> cases x <;> first
      | exact (show False from h).elim
      | (have h2 := matchV_split (ks := ks) (r := r) (xs := xs) (by first | exact h.2 | exact h)
         refine ⟨?_, by simpa using h2.2.1, by simpa using h2.2.2⟩
         first | exact ⟨h.1, by simpa using h2.1⟩ | simpa [MatchV] using h2.1)
theorem vsEq_append : ∀ {xs ys xs2 ys2 : List Value}, xs.length = ys.length → vsEq (xs ++ xs2) (ys ++ ys2) = (vsEq xs ys && vsEq xs2 ys2)
  | [], [], _, _, _ => by simp [vsEq]
  | x :: xs, y :: ys, xs2, ys2, h => by
    simp only [List.cons_append, vsEq]
    rw [vsEq_append (by simpa using h), Bool.and_assoc]
  | [], _ :: _, _, _, h => by simp at h
  | _ :: _, [], _, _, h => by simp at h
theorem matchV_length : ∀ {ks : List LK} {xs : List Value}, MatchV ks xs → xs.length = ks.length
  | [], [], _ => rfl
  | [], _ :: _, h => h.elim
  | k :: ks, [], h => by cases k <;> exact h.elim
  | k :: ks, x :: xs, h => by
    cases k <;> cases x <;> first
      | exact (show False from h).elim
      | (rw [List.length_cons, List.length_cons, matchV_length (ks := ks) (xs := xs) (by first | exact h.2 | exact h)])
/-- What holds of a type, d deep. -/
def EqAt (P : Program) (dd : Nat) (T : TypeId) (ks : List LK) : Prop :=
  ∃ desc, P.underlying T = some desc ∧
    (aggD desc = true → ∀ (w : World) xs ys, MatchV ks xs → MatchV ks ys → (Op.equalIn dd T (.agg xs.toArray) (.agg ys.toArray)).run P w = .ok (vsEq xs ys) w) ∧
    (aggD desc = false → ∀ (w : World) xs ys, MatchV ks xs → MatchV ks ys → ∃ x y, xs = [x] ∧ ys = [y] ∧ (Op.equalIn dd T x y).run P w = .ok (vsEq xs ys) w)
theorem eqFields_run {rec : TypeId → Option (List LK)} {dd : Nat} (hrec : ∀ T ks, rec T = some ks → EqAt P dd T ks) : ∀ (fs : List Field) (o : Nat) (ks : List LK), fieldKs P rec fs o = some ks →
    ∀ (XS YS : List Value), MatchV ks (XS.drop o) → MatchV ks (YS.drop o) → (Op.eqFields dd XS.toArray YS.toArray fs).run P w = .ok (vsEq (XS.drop o) (YS.drop o)) w
  | [], o, ks, h, XS, YS, hx, hy => by
    simp only [fieldKs, Option.some.injEq] at h
    subst h
    have e1 : XS.drop o = [] := by cases hq : XS.drop o with | nil => rfl | cons _ _ => rw [hq] at hx; exact hx.elim
    rw [e1]
    simp [Op.eqFields, vsEq]
  | f :: l, o, ks, h, XS, YS, hx, hy => by
    simp only [fieldKs] at h
    cases hc : ((f.name == "_") || !Nat.beq f.offset o) with
    | true => rw [hc] at h; cases h
    | false =>
      rw [hc] at h
      simp only [cond_false] at h
      simp only [Bool.or_eq_false_iff, Bool.not_eq_false'] at hc
      have hn : f.name ≠ "_" := by simpa using hc.1
      have ho := Nat.eq_of_beq_eq_true hc.2
      split at h
      · rename_i k1 hk1
        split at h
        · rename_i i hi
          obtain ⟨hsz, h⟩ := bif_some h
          have hsz := Nat.eq_of_beq_eq_true hsz
          split at h
          · rename_i r hr
            simp only [Option.some.injEq] at h
            subst h
            obtain ⟨a1, a2, a3⟩ := matchV_split hx
            obtain ⟨b1, b2, b3⟩ := matchV_split hy
            rw [List.drop_drop] at a2 b2
            have ih := eqFields_run hrec l (o + k1.length) r hr XS YS a2 b2
            obtain ⟨desc, hd, hag, hsg⟩ := hrec f.type k1 hk1
            have hsplit : vsEq (XS.drop o) (YS.drop o) = (vsEq ((XS.drop o).take k1.length) ((YS.drop o).take k1.length) && vsEq (XS.drop (o + k1.length)) (YS.drop (o + k1.length))) := by
              conv => lhs; rw [← List.take_append_drop k1.length (XS.drop o), ← List.take_append_drop k1.length (YS.drop o)]
              rw [vsEq_append (by rw [matchV_length a1, matchV_length b1]), List.drop_drop, List.drop_drop]
            have hpart : ∃ A B, (part f.type XS.toArray f.offset).run P w = .ok A w ∧ (part f.type YS.toArray f.offset).run P w = .ok B w ∧
                (Op.equalIn dd f.type A B).run P w = .ok (vsEq ((XS.drop o).take k1.length) ((YS.drop o).take k1.length)) w := by
              rw [ho, part_run hd hi, part_run hd hi, hsz]
              cases hg : aggD desc with
              | true =>
                simp only [if_true]
                exact ⟨_, _, rfl, rfl, hag hg w _ _ a1 b1⟩
              | false =>
                simp only [Bool.false_eq_true, if_false]
                obtain ⟨x, y, e1, e2, e3⟩ := hsg hg w _ _ a1 b1
                have hx0 : XS[o]? = some x := by
                  have : ((XS.drop o).take k1.length)[0]? = some x := by rw [e1]; rfl
                  rw [List.getElem?_take] at this
                  split at this
                  · simpa using this
                  · cases this
                have hy0 : YS[o]? = some y := by
                  have : ((YS.drop o).take k1.length)[0]? = some y := by rw [e2]; rfl
                  rw [List.getElem?_take] at this
                  split at this
                  · simpa using this
                  · cases this
                rw [hx0, hy0]
                exact ⟨x, y, rfl, rfl, e3⟩
            obtain ⟨A, B, p1, p2, p3⟩ := hpart
            rw [Op.eqFields, if_pos hn]
            simp only [Sem.run_bind, p1, p2, p3, Result.andThen_ok]
            rw [hsplit]
            cases vsEq ((XS.drop o).take k1.length) ((YS.drop o).take k1.length) with
            | false => simp
            | true => simpa using ih
          · cases h
        · cases h
      · cases h
theorem eq_at : ∀ (d : Nat) (T : TypeId) (ks : List LK), leafKs P d T = some ks → ∀ dd, d ≤ dd → EqAt P dd T ks
  | 0, _, _, h, _, _ => by cases h
  | d + 1, T, ks, h, 0, hd => by omega
  | d + 1, T, ks, h, dd + 1, hd => by
    simp only [leafKs] at h
    split at h
    · rename_i k hu
      simp only [Option.some.injEq] at h
      subst h
      refine ⟨_, hu, (fun h => by cases h), fun _ w xs ys hx hy => ?_⟩
      match xs, ys, hx, hy with
      | [.int k1 a], [.int k2 b], hx, hy =>
        obtain ⟨rfl, _⟩ := hx
        obtain ⟨rfl, _⟩ := hy
        exact ⟨_, _, rfl, rfl, by simp [Op.equalIn, run_underlying hu, vsEq, vEq]⟩
    · rename_i hu
      simp only [Option.some.injEq] at h
      subst h
      refine ⟨_, hu, (fun h => by cases h), fun _ w xs ys hx hy => ?_⟩
      match xs, ys, hx, hy with
      | [.bool a], [.bool b], hx, hy => exact ⟨_, _, rfl, rfl, by simp [Op.equalIn, run_underlying hu, vsEq, vEq]⟩
    · rename_i hu
      simp only [Option.some.injEq] at h
      subst h
      refine ⟨_, hu, (fun h => by cases h), fun _ w xs ys hx hy => ?_⟩
      match xs, ys, hx, hy with
      | [.string a], [.string b], hx, hy => exact ⟨_, _, rfl, rfl, by simp [Op.equalIn, run_underlying hu, vsEq, vEq]⟩
    · rename_i fs hu
      cases hp : P.stoodInHeld T with
      | true => rw [hp] at h; cases h
      | false =>
        rw [hp] at h
        simp only [cond_false] at h
        refine ⟨_, hu, fun _ w xs ys hx hy => ?_, (fun h => by cases h)⟩
        have hf : P.fieldsOf T = fs := by simp [Program.fieldsOf, hu]
        rw [run_equalIn_struct (P := P) w dd T xs.toArray ys.toArray (by rw [hf]; exact hu) hp, hf]
        have := eqFields_run (w := w) (dd := dd) (fun T ks hk => eq_at d T ks hk dd (by omega)) fs.toList 0 ks h xs ys (by simpa using hx) (by simpa using hy)
        simpa using this
    · cases h
theorem eqAVs_rel {ET : TypeId} {g : Gh} {bs : Boxes} : ∀ {ks : List LK} {l m : List AV} {b : Bool} {xs ys : List Value}, eqAVs ks l m = some b → All2 (LRel ET g bs w) l xs → All2 (LRel ET g bs w) m ys →
    MatchV ks xs ∧ MatchV ks ys ∧ vsEq xs ys = b := by
  intro ks
  induction ks with
  | nil =>
    intro l m b xs ys h hx hy
    cases l <;> cases m <;> simp only [eqAVs] at h <;> first | cases h | skip
    cases xs <;> cases ys <;> first | exact hx.elim | exact hy.elim | skip
    exact ⟨trivial, trivial, rfl⟩
  | cons k ks ih =>
    intro l m b xs ys h hx hy
    cases l with
    | nil => cases k <;> simp [eqAVs] at h
    | cons a l =>
      cases m with
      | nil => cases k <;> cases a <;> simp [eqAVs] at h
      | cons c m =>
        cases xs with
        | nil => exact hx.elim
        | cons x xs =>
          cases ys with
          | nil => exact hy.elim
          | cons y ys =>
            unfold eqAVs at h
            split at h
            · rename_i h1 _ _; cases h1
            · rename_i k1 ks1 ka va l1 kb vb m1 e1 e2 e3
              cases e1; cases e2; cases e3
              obtain ⟨hk, h⟩ := bif_some h
              obtain ⟨hk1, hk2⟩ := and3 hk
              have e4 : k1 = ka := by simpa [kindEq] using hk1
              have e5 : k1 = kb := by simpa [kindEq] using hk2
              subst e4; subst e5
              split at h
              · rename_i r hr
                simp only [Option.some.injEq] at h
                obtain ⟨i1, i2, i3⟩ := ih hr hx.2 hy.2
                have hx1 : x = .int k1 va := by have := hx.1; simpa [LRel, Rep] using this
                have hy1 : y = .int k1 vb := by have := hy.1; simpa [LRel, Rep] using this
                subst hx1; subst hy1
                exact ⟨⟨rfl, i1⟩, ⟨rfl, i2⟩, by simp only [vsEq, vEq, i3, h]⟩
              · cases h
            · rename_i ks1 va l1 vb m1 e1 e2 e3
              cases e1; cases e2; cases e3
              split at h
              · rename_i r hr
                simp only [Option.some.injEq] at h
                obtain ⟨i1, i2, i3⟩ := ih hr hx.2 hy.2
                have hx1 : x = .bool va := by have := hx.1; simpa [LRel, Rep] using this
                have hy1 : y = .bool vb := by have := hy.1; simpa [LRel, Rep] using this
                subst hx1; subst hy1
                exact ⟨i1, i2, by simp only [vsEq, vEq, i3, h]⟩
              · cases h
            · rename_i ks1 va l1 vb m1 e1 e2 e3
              cases e1; cases e2; cases e3
              split at h
              · rename_i r hr
                simp only [Option.some.injEq] at h
                obtain ⟨i1, i2, i3⟩ := ih hr hx.2 hy.2
                have hx1 : x = .string va := by have := hx.1; simpa [LRel, Rep] using this
                have hy1 : y = .string vb := by have := hy.1; simpa [LRel, Rep] using this
                subst hx1; subst hy1
                exact ⟨i1, i2, by simp only [vsEq, vEq, i3, h]⟩
              · cases h
            · cases h
end
end Go.Proofs.Ytfdppbfefplikaa.Ev
