/- What is known of types, checked by reckoning; environments put together. -/
import Derived.Test.YtfdppbfefplikaaEv30
namespace Go.Proofs.Ytfdppbfefplikaa.Ev
open Go
open Go.RowKit
set_option linter.unusedVariables false
set_option linter.unusedSimpArgs false
set_option linter.unusedSectionVars false

def zeroOk : List AV → List Value → Bool
  | [], [] => true
  | a :: l, v :: m => (match a, v with
    | .val (.int k) n, .int k' n' => kindEq k k' && n == n'
    | .val .bool b, .bool b' => b == b'
    | .val .str s, .string s' => Nat.beq s.size 0 && Nat.beq s'.size 0
    | .val .err none, .nilIface => true
    | .nilS, .slice none 0 0 => true
    | .nilP, .pointer none => true
    | .top, _ => true
    | _, _ => false) && zeroOk l m
  | _, _ => false
def fieldsOk (P : Program) : List (Nat × Nat × Bool) → List Field → Bool
  | [], [] => true
  | (o, n, ag) :: l, f :: m => Nat.beq f.offset o && (match P.info? f.type with | some i => Nat.beq i.size n | none => false) &&
      (match P.underlying f.type with | some d => aggD d == ag | none => false) && fieldsOk P l m
  | _, _ => false
def kindOk (P : Program) : RK → TypeDesc → Bool
  | .int k, .int k' => kindEq k k'
  | .bool, .bool => true
  | .str, .string => true
  | .iface, .interface _ => true
  | .slice e, .slice e' => Nat.beq e e'
  | .ptr, .pointer _ => true
  | .struct fs, .struct fields => fieldsOk P fs fields.toList
  | .arr n e, .array n' e' => Nat.beq n n' && Nat.beq e e'
  | .other, _ => true
  | _, _ => false
def isOther : RK → Bool
  | .other => true
  | _ => false
def ksEq : List LK → List LK → Bool
  | [], [] => true
  | .int k :: l, .int k' :: m => kindEq k k' && ksEq l m
  | .bool :: l, .bool :: m => ksEq l m
  | .str :: l, .str :: m => ksEq l m
  | _, _ => false
theorem ksEq_eq : ∀ {l m : List LK}, ksEq l m = true → l = m
  | [], [], _ => rfl
  | [], _ :: _, h => by cases h
  | _ :: _, [], h => by rename_i k l; cases k <;> cases h
  | a :: l, b :: m, h => by
    cases a <;> cases b <;> simp only [ksEq, Bool.and_eq_true] at h <;> first
      | (cases h; done)
      | (have := kindEq_eq h.1; subst this; rw [ksEq_eq h.2])
      | rw [ksEq_eq h]
def rowChk (P : Program) (T : TypeId) (r : Row) : Bool :=
  (match P.info? T with
  | some i => match i.zero with
    | some z => Nat.beq i.size r.size && Nat.beq i.bytes r.bytes && zeroOk r.zero z.cells.toList && Nat.beq z.cells.size r.size &&
        (isOther r.kind || (match z with
          | .agg _ => isAggK r.kind
          | _ => !isAggK r.kind && Nat.beq z.cells.size 1))
    | none => false
  | none => false) &&
  (match P.underlying T with
  | some d => kindOk P r.kind d && (isOther r.kind || aggD d == isAggK r.kind)
  | none => false) &&
  (match r.eqs with
  | some ks => (match leafKs P 8 T with | some ks' => ksEq ks ks' | none => false) && !P.eqGuardType P.depth T
  | none => true)
section
variable {P : Program} {ET : TypeId}
theorem zeroOk_rel : ∀ {l : List AV} {m : List Value}, zeroOk l m = true → ∀ (g : Gh) (bs : Boxes) (w : World), All2 (LRel ET g bs w) l m
  | [], [], _, _, _, _ => trivial
  | [], _ :: _, h, _, _, _ => by cases h
  | _ :: _, [], h, _, _, _ => by cases h
  | a :: l, v :: m, h, g, bs, w => by
    simp only [zeroOk, Bool.and_eq_true] at h
    refine ⟨?_, zeroOk_rel h.2 g bs w⟩
    have h1 := h.1
    split at h1
    · simp only [Bool.and_eq_true, beq_iff_eq] at h1
      obtain ⟨e1, e2⟩ := h1
      have := kindEq_eq e1
      subst this
      subst e2
      rfl
    · have := eq_of_beq h1; subst this; rfl
    · rename_i s s'
      simp only [Bool.and_eq_true] at h1
      have this : s = s' := by
        obtain ⟨⟨a⟩⟩ := s
        obtain ⟨⟨b⟩⟩ := s'
        have ea : a = [] := List.eq_nil_of_length_eq_zero (Nat.eq_of_beq_eq_true h1.1)
        have eb : b = [] := List.eq_nil_of_length_eq_zero (Nat.eq_of_beq_eq_true h1.2)
        rw [ea, eb]
      subst this
      rfl
    · rfl
    · rfl
    · rfl
    · trivial
    · cases h1
theorem fieldsOk_get : ∀ {fs : List (Nat × Nat × Bool)} {l : List Field}, fieldsOk P fs l = true →
    (∀ (i o n : Nat) (ag : Bool), fs[i]? = some (o, n, ag) → ∃ (f : Field) (fi : TypeInfo) (fd : TypeDesc), l[i]? = some f ∧ f.offset = o ∧
      P.info? f.type = some fi ∧ fi.size = n ∧ P.underlying f.type = some fd ∧ aggD fd = ag) ∧
    l.mapM (fun f => (P.info? f.type).map fun i => (f.offset, i.size)) = some (fs.map fun x => (x.1, x.2.1))
  | [], [], _ => ⟨fun i o n ag h => by simp at h, rfl⟩
  | [], _ :: _, h => by cases h
  | _ :: _, [], h => by cases h
  | (o, n, ag) :: fs, f :: l, h => by
    simp only [fieldsOk, Bool.and_eq_true] at h
    obtain ⟨⟨⟨h1, h2⟩, h3⟩, h4⟩ := h
    have e1 := Nat.eq_of_beq_eq_true h1
    obtain ⟨i1, i2⟩ := fieldsOk_get h4
    split at h2
    · rename_i fi hfi
      have e2 := Nat.eq_of_beq_eq_true h2
      split at h3
      · rename_i fd hfd
        have e3 := eq_of_beq h3
        refine ⟨fun i o' n' ag' hi => ?_, ?_⟩
        · cases i with
          | zero =>
            simp only [List.getElem?_cons_zero, Option.some.injEq, Prod.mk.injEq] at hi
            obtain ⟨rfl, rfl, rfl⟩ := hi
            exact ⟨f, fi, fd, rfl, e1, hfi, e2, hfd, e3⟩
          | succ i => exact i1 i o' n' ag' hi
        · rw [List.mapM_cons, i2, hfi, e1]
          simp [e2]
      · cases h3
    · cases h2
theorem kindOk_ok {k : RK} {d : TypeDesc} (h : kindOk P k d = true) : KindOk P k d := by
  unfold kindOk at h
  split at h
  · have := kindEq_eq h; subst this; rfl
  · rfl
  · rfl
  · exact ⟨_, rfl⟩
  · have := Nat.eq_of_beq_eq_true h; subst this; rfl
  · exact ⟨_, rfl⟩
  · obtain ⟨h1, h2⟩ := fieldsOk_get h
    exact ⟨_, rfl, fun i o n ag hi => by
      obtain ⟨f, fi, fd, k1, k2⟩ := h1 i o n ag hi
      exact ⟨f, fi, fd, by rw [← Array.getElem?_toList]; exact k1, k2⟩, h2⟩
  · simp only [Bool.and_eq_true] at h
    rw [Nat.eq_of_beq_eq_true h.1, Nat.eq_of_beq_eq_true h.2]; rfl
  · trivial
  · cases h
theorem isOther_iff {k : RK} : isOther k = true ↔ k = .other := by cases k <;> simp [isOther]
theorem rowChk_ok {T : TypeId} {r : Row} (h : rowChk P T r = true) : RowOk P ET T r := by
  simp only [rowChk, Bool.and_eq_true] at h
  obtain ⟨⟨h1, h2⟩, h3⟩ := h
  refine ⟨?_, ?_, ?_⟩
  · split at h1
    · rename_i i hi
      split at h1
      · rename_i z hz
        simp only [Bool.and_eq_true] at h1
        obtain ⟨⟨⟨⟨k1, k2⟩, k3⟩, k4⟩, k5⟩ := h1
        refine ⟨i, z, hi, Nat.eq_of_beq_eq_true k1, Nat.eq_of_beq_eq_true k2, hz, fun g bs w => zeroOk_rel k3 g bs w, Nat.eq_of_beq_eq_true k4, fun hk => ?_⟩
        have k6 : isOther r.kind = false := by
          cases ho : isOther r.kind with
          | false => rfl
          | true => exact absurd (isOther_iff.1 ho) hk
        rw [k6, Bool.false_or] at k5
        split at k5
        · exact .inl ⟨k5, rfl⟩
        · rename_i hna
          simp only [Bool.and_eq_true, Bool.not_eq_true'] at k5
          refine .inr ⟨k5.1, ?_⟩
          cases z <;> first | rfl | exact (hna _ rfl).elim
      · cases h1
    · cases h1
  · split at h2
    · rename_i d hd
      simp only [Bool.and_eq_true, Bool.or_eq_true, beq_iff_eq] at h2
      refine ⟨d, hd, kindOk_ok h2.1, fun hk => ?_⟩
      rcases h2.2 with h | h
      · exact absurd (isOther_iff.1 h) hk
      · exact h
    · cases h2
  · intro ks hks
    rw [hks] at h3
    simp only [Bool.and_eq_true, Bool.not_eq_true'] at h3
    obtain ⟨k1, k2⟩ := h3
    split at k1
    · rename_i ks' hk'
      rw [ksEq_eq k1]
      exact ⟨hk', k2⟩
    · cases k1
def rowsChk (P : Program) : List (TypeId × Row) → Bool
  | [] => true
  | (T, r) :: l => rowChk P T r && rowsChk P l
theorem rowsChk_ok : ∀ {l : List (TypeId × Row)}, rowsChk P l = true → ∀ T r, Env.row.go T l = some r → RowOk P ET T r
  | [], _, _, _, h => by cases h
  | (i, x) :: l, hc, T, r, h => by
    simp only [rowsChk, Bool.and_eq_true] at hc
    simp only [Env.row.go] at h
    cases hb : Nat.beq i T with
    | true =>
      rw [hb] at h
      simp only [cond_true, Option.some.injEq] at h
      subst h
      rw [← Nat.eq_of_beq_eq_true hb]
      exact rowChk_ok hc.1
    | false => rw [hb] at h; exact rowsChk_ok hc.2 T r h
theorem envOk_rows {rows : List (TypeId × Row)} (h : rowsChk P rows = true) (hm : P.follows .mixedOrders = true) (base : Nat) : EnvOk P ⟨rows, [], ET, base, [], []⟩ :=
  ⟨fun T r hr => rowsChk_ok h T r hr, (fun f s hs => by cases hs), hm⟩
/-- One function more. -/
def Env.add (E : Env) (f : FuncId) (s : CallSem) : Env := ⟨E.rows, (f, s) :: E.calls, E.ET, E.base, E.keep, E.frz⟩
theorem envOk_add {E : Env} {f : FuncId} {s : CallSem} (hE : EnvOk P E) (h : CallOk P E.ET f s) : EnvOk P (E.add f s) :=
  ⟨hE.rows, fun f' s' hs => by
    simp only [Env.callee, Env.add, Env.callee.go] at hs
    cases hb : Nat.beq f f' with
    | true =>
      rw [hb] at hs
      simp only [cond_true, Option.some.injEq] at hs
      subst hs
      rw [← Nat.eq_of_beq_eq_true hb]
      exact h
    | false => rw [hb] at hs; exact hE.calls f' s' hs, hE.mixed⟩
/-- Temporaries that nothing is put into. -/
def Env.kp (E : Env) (l : List Nat) : Env := ⟨E.rows, E.calls, E.ET, E.base, l, E.frz⟩
theorem envOk_kp {E : Env} {l : List Nat} (hE : EnvOk P E) : EnvOk P (E.kp l) := ⟨hE.rows, hE.calls, hE.mixed⟩
/-- What is told as plain values, and when. -/
def Env.fr (E : Env) (l : List (Tmp × List Tmp)) : Env := ⟨E.rows, E.calls, E.ET, E.base, E.keep, l⟩
theorem envOk_fr {E : Env} {l : List (Tmp × List Tmp)} (hE : EnvOk P E) : EnvOk P (E.fr l) := ⟨hE.rows, hE.calls, hE.mixed⟩
/-- One of two, by what comes in. -/
def altRun (p : PSh) (s1 s2 : CallSem) (dd : Option Nat) (args : List AV) (bs : Boxes) (R : Type) (K : AV → Boxes → Option R) : Option R :=
  match p.enc (fun b => memN (zOf bs args) b) args bs with
  | some _ => s1.run dd args bs R K
  | none => s2.run dd args bs R K
def altSem (p : PSh) (s1 s2 : CallSem) : CallSem := ⟨altRun p s1 s2, none⟩
theorem alt_ok {f : FuncId} {p : PSh} {s1 s2 : CallSem} (h1 : CallOk P ET f s1) (h2 : CallOk P ET f s2) : CallOk P ET f (altSem p s1 s2) := by
  refine ⟨h1.fn, fun dd args bs R K out hs g w vals hv hb => ?_, fun n hn => by cases hn⟩
  replace hs : altRun p s1 s2 dd args bs R K = some out := hs
  unfold altRun at hs
  split at hs
  · exact h1.run dd args bs R K out hs g w vals hv hb
  · exact h2.run dd args bs R K out hs g w vals hv hb
end
end Go.Proofs.Ytfdppbfefplikaa.Ev
