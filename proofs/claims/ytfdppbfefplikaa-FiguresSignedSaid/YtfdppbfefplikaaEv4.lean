/- The evaluator's operations without memory are sound. -/
import Derived.Test.YtfdppbfefplikaaEv27
import Derived.Laws.Rows
import Derived.Laws.Build
namespace Go.Proofs.Ytfdppbfefplikaa.Ev
open Go
open Go.RowKit
set_option linter.unusedVariables false
set_option linter.unusedSimpArgs false

def KindOk (P : Program) : RK → TypeDesc → Prop
  | .int k, d => d = .int k
  | .bool, d => d = .bool
  | .str, d => d = .string
  | .iface, d => ∃ ms, d = .interface ms
  | .slice e, d => d = .slice e
  | .ptr, d => ∃ e, d = .pointer e
  | .struct fs, d => ∃ fields : Array Field, d = .struct fields ∧ (∀ (i o n : Nat) (ag : Bool), fs[i]? = some (o, n, ag) → ∃ (f : Field) (fi : TypeInfo) (fd : TypeDesc), fields[i]? = some f ∧ f.offset = o ∧
      P.info? f.type = some fi ∧ fi.size = n ∧ P.underlying f.type = some fd ∧ aggD fd = ag) ∧
      fields.toList.mapM (fun f => (P.info? f.type).map fun i => (f.offset, i.size)) = some (fs.map fun x => (x.1, x.2.1))
  | .arr n e, d => d = .array n e
  | .other, _ => True
structure RowOk (P : Program) (ET T : TypeId) (r : Row) : Prop where
  info : ∃ i z, P.info? T = some i ∧ i.size = r.size ∧ i.bytes = r.bytes ∧ i.zero = some z ∧ (∀ g bs w, All2 (LRel ET g bs w) r.zero z.cells.toList) ∧ z.cells.size = r.size ∧
    (r.kind ≠ .other → (isAggK r.kind = true ∧ z = .agg z.cells) ∨ (isAggK r.kind = false ∧ z.cells = #[z]))
  desc : ∃ d, P.underlying T = some d ∧ KindOk P r.kind d ∧ (r.kind ≠ .other → aggD d = isAggK r.kind)
  eqs : ∀ ks, r.eqs = some ks → leafKs P 8 T = some ks ∧ P.eqGuardType P.depth T = false
/-- Alike where it matters. -/
def Agr (A : Option (List Nat)) (bs bs2 : Boxes) : Prop :=
  match A with
  | some l => ∀ b ∈ l, look bs2 b = look bs b
  | none => ∀ b, look bs2 b = look bs b
def InA (A : Option (List Nat)) (b : Nat) : Prop :=
  match A with
  | some l => b ∈ l
  | none => True
/-- One value, and new entries ahead of the boxes, whatever else is in them. -/
def Eff (A : Option (List Nat)) (f : Boxes → (R : Type) → (AV → Boxes → Option R) → Option R) (bs : Boxes) {R : Type} (K : AV → Boxes → Option R) (out : R) : Prop :=
  ∃ v ch, K v (ch ++ bs) = some out ∧ (∀ bs2, Agr A bs bs2 → ∀ (R' : Type) (K' : AV → Boxes → Option R'), f bs2 R' K' = K' v (ch ++ bs2)) ∧ ∀ x ∈ ch, InA A x.1
def callFoot (dd : Option Nat) (args : List AV) (bs : Boxes) (n : Nat) : Option (List Nat) := bif rowsB bs (ment args) then some (catN (ment args) (rangeN (callBase dd) n)) else none
structure CallOk (P : Program) (ET : TypeId) (f : FuncId) (s : CallSem) : Prop where
  fn : ∃ fn, P.funcs[f]? = some fn ∧ (fn.name == "runtime.NumGoroutine") = false ∧ fn.body.isNone = false
  run : ∀ (dd : Option Nat) (args : List AV) (bs : Boxes) (R : Type) (K : AV → Boxes → Option R) (out : R), s.run dd args bs R K = some out →
    ∀ (g : Gh) (w : World) (vals : List Value), All2 (VRel ET g bs w) args vals → BsRel ET g bs w →
      Calls P f vals.toArray w fun e w' => ∃ u v bs' g', e = .returned u ∧ K v bs' = some out ∧ VRel ET g' bs' w' v u ∧ BsRel ET g' bs' w' ∧ Ext g bs w g' bs' w'
  eff : ∀ n, s.nb = some n → ∀ (dd : Option Nat) (args : List AV) (bs : Boxes) (R : Type) (K : AV → Boxes → Option R) (out : R), s.run dd args bs R K = some out →
    Eff (callFoot dd args bs n) (fun bs R K => s.run dd args bs R K) bs K out
structure EnvOk (P : Program) (E : Env) : Prop where
  rows : ∀ T r, E.row T = some r → RowOk P E.ET T r
  calls : ∀ f s, E.callee f = some s → CallOk P E.ET f s
  mixed : P.follows .mixedOrders = true

section
variable {P : Program} {E : Env} {R : Type} {out : R} {g0 g : Gh} {w0 w : World} {sl : List AV} {bs0 bs : Boxes} {a : Act}
theorem wp_val {o : Oper} {W : Act → World → Prop} {Q : Post} {u : Value} {w' : World} (h : (execOp a.eval o).run P w = .ok (.value u) w') (hW : W (a.put o.dst u) w') : o.wp P a w W Q := by
  unfold Oper.wp; rw [h]; exact hW
theorem wp_none {o : Oper} {W : Act → World → Prop} {Q : Post} {w' : World} (h : (execOp a.eval o).run P w = .ok .skip w') (hW : W (a.put o.dst undef) w') : o.wp P a w W Q := by
  unfold Oper.wp; rw [h]; exact hW
theorem constAV_rel (v : Value) : VRel E.ET g bs w (constAV v) v := by
  unfold constAV
  split <;> first | rfl | trivial
theorem opnd_rel (h : Rel E.ET g0 bs0 w0 g ⟨sl, bs⟩ a w) (x : Operand) : VRel E.ET g bs w (opnd sl x) (a.eval x) := by
  cases x with
  | tmp t => exact h.slots t
  | const v => exact constAV_rel v
  | global n => trivial
  | func f => exact ⟨[], rfl, trivial⟩

theorem kindEq_eq {a b : IntKind} (h : kindEq a b = true) : a = b := by simpa [kindEq] using h

theorem evIntBin_sound {op : BinOp} {k : IntKind} {x y : Int} {K : AV → Option R} (T : TypeId) (h : evIntBin op k x y K = some out) :
    ∃ v u, K v = some out ∧ VRel E.ET g bs w v u ∧ (binOp op T (.int k x) (.int k y)).run P w = .ok u w := by
  unfold evIntBin at h
  cases op <;> simp only at h <;>
    first
      | exact ⟨_, _, h, rfl, by simp [binOp, Op.intArith, Op.intBits, Op.intCmp]⟩
      | (cases hz : (y == 0) <;> rw [hz] at h <;> simp only [cond_true, cond_false] at h
         · have hy : ¬ y = 0 := by simpa using hz
           exact ⟨_, _, h, rfl, by simp [binOp, Op.intDiv, hy]⟩
         · cases h)
      | cases h
theorem evStrBin_sound {op : BinOp} {x y : ByteArray} {K : AV → Option R} (T : TypeId) (h : evStrBin op x y K = some out) :
    ∃ v u, K v = some out ∧ VRel E.ET g bs w v u ∧ (binOp op T (.string x) (.string y)).run P w = .ok u w := by
  unfold evStrBin at h
  cases op <;> simp only at h <;>
    first
      | exact ⟨_, _, h, rfl, by simp [binOp, Op.stringOp]⟩
      | (cases hz : decide (((x.size + y.size : Nat) : Int) ≤ 9223372036854775807) <;> rw [hz] at h <;> simp only [cond_true, cond_false] at h
         · cases h
         · have hle : ¬ (((x.size + y.size : Nat) : Int) > IntKind.i64.max) := by
             have := of_decide_eq_true hz
             simp only [IntKind.max, IntKind.signed, IntKind.bits] at *
             simp; omega
           exact ⟨_, _, h, rfl, by simp only [binOp, Op.stringOp]; rw [if_neg hle]; rfl⟩)
      | cases h
theorem row_of {T : TypeId} {k : RK} (hE : EnvOk P E) (h : kindOf E T = k) (hk : k ≠ .other) : ∃ r, E.row T = some r ∧ r.kind = k ∧ RowOk P E.ET T r := by
  unfold kindOf at h
  cases hr : E.row T with
  | none => rw [hr] at h; exact absurd h.symm hk
  | some r => rw [hr] at h; exact ⟨r, rfl, h, hE.rows T r hr⟩
theorem und_of {T : TypeId} {k : RK} (hE : EnvOk P E) (h : kindOf E T = k) (hk : k ≠ .other) : ∃ d, P.underlying T = some d ∧ KindOk P k d := by
  obtain ⟨r, _, e, hr⟩ := row_of hE h hk
  obtain ⟨d, h1, h2, _⟩ := hr.desc
  exact ⟨d, h1, e ▸ h2⟩
theorem eqGuard_const {op : BinOp} {T : TypeId} {X Y : Operand} {x y : Value} (hc : (isConstO X || isConstO Y) = true) (ha : ∀ cs ds, ¬ (x = .agg cs ∧ y = .agg ds)) :
    (eqGuard op T X Y x y).run P w = .ok () w := by
  cases op <;> first
    | rfl
    | (unfold eqGuard
       simp only [Bool.not_true, Bool.false_eq_true, if_false]
       split
       · rw [if_pos (by cases X <;> cases Y <;> first | rfl | exact (Bool.false_ne_true hc).elim)]; rfl
       · rename_i cs ds
         exact absurd ⟨rfl, rfl⟩ (ha cs ds)
       · rfl)
theorem eqGuard_plain {op : BinOp} {T : TypeId} {X Y : Operand} {x y : Value} (h1 : ¬ (x = .nilIface ∧ y = .nilIface)) (ha : ∀ cs ds, ¬ (x = .agg cs ∧ y = .agg ds)) :
    (eqGuard op T X Y x y).run P w = .ok () w := by
  cases op <;> first
    | rfl
    | (unfold eqGuard
       simp only [Bool.not_true, Bool.false_eq_true, if_false]
       split
       · exact absurd ⟨rfl, rfl⟩ h1
       · rename_i cs ds
         exact absurd ⟨rfl, rfl⟩ (ha cs ds)
       · rfl)
theorem val_cell {t : Ty} {x : t.den} {v : Value} (h : VRel E.ET g bs w (.val t x) v) : Rep E.ET (okB g w) w t x [v] := h
theorem rel_int {k : IntKind} {n : Int} {v : Value} (h : VRel E.ET g bs w (.val (.int k) n) v) : v = .int k n := by
  have := val_cell h; simpa [Rep] using this
theorem rel_bool {b : Bool} {v : Value} (h : VRel E.ET g bs w (.val .bool b) v) : v = .bool b := by
  have := val_cell h; simpa [Rep] using this
theorem rel_str {s : ByteArray} {v : Value} (h : VRel E.ET g bs w (.val .str s) v) : v = .string s := by
  have := val_cell h; simpa [Rep] using this
theorem rel_err {e : Option Int} {v : Value} (h : VRel E.ET g bs w (.val .err e) v) : v = errV E.ET e := by
  have := val_cell h; simpa [Rep] using this
theorem binOp_eq {T : TypeId} {x y : Value} {neg b : Bool} (hi : ∀ k n k' m, ¬ (x = .int k n ∧ y = .int k' m)) (hs : ∀ s t, ¬ (x = .string s ∧ y = .string t))
    (hf : ∀ k n k' m, ¬ (x = .float k n ∧ y = .float k' m)) (hc : ∀ k n m k' p q, ¬ (x = .complex k n m ∧ y = .complex k' p q))
    (h : (Op.equal T x y).run P w = .ok b w) : (binOp (if neg then .neq else .eql) T x y).run P w = .ok (.bool (cond neg (!b) b)) w := by
  cases neg
  · simp only [binOp, Bool.false_eq_true, if_false]
    split <;> first
      | (exact absurd ⟨rfl, rfl⟩ (hi _ _ _ _))
      | (exact absurd ⟨rfl, rfl⟩ (hs _ _))
      | (exact absurd ⟨rfl, rfl⟩ (hf _ _ _ _))
      | (exact absurd ⟨rfl, rfl⟩ (hc _ _ _ _ _ _))
      | simp_all
  · simp only [binOp, if_true]
    split <;> first
      | (exact absurd ⟨rfl, rfl⟩ (hi _ _ _ _))
      | (exact absurd ⟨rfl, rfl⟩ (hs _ _))
      | (exact absurd ⟨rfl, rfl⟩ (hf _ _ _ _))
      | (exact absurd ⟨rfl, rfl⟩ (hc _ _ _ _ _ _))
      | simp_all
end
end Go.Proofs.Ytfdppbfefplikaa.Ev
