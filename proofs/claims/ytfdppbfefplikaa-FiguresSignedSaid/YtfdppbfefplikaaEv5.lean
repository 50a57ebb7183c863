/- The evaluator's operations on numbers, texts, errors and pointers are sound. -/
import Derived.Test.YtfdppbfefplikaaEv4
namespace Go.Proofs.Ytfdppbfefplikaa.Ev
open Go
open Go.RowKit
set_option linter.unusedVariables false
set_option linter.unusedSimpArgs false
section
variable {P : Program} {E : Env} {R : Type} {out : R} {g0 g : Gh} {w0 w : World} {sl : List AV} {bs0 bs : Boxes} {a : Act}

theorem bool_rel (b : Bool) : VRel E.ET g bs w (.val .bool b) (.bool b) := rfl
theorem int_rel (k : IntKind) (n : Int) : VRel E.ET g bs w (.val (.int k) n) (.int k n) := rfl
theorem str_rel (s : ByteArray) : VRel E.ET g bs w (.val .str s) (.string s) := rfl
theorem err_rel (e : Option Int) : VRel E.ET g bs w (.val .err e) (errV E.ET e) := rfl

theorem equalIn_bool (d : Nat) {T : TypeId} (h : P.underlying T = some .bool) (x y : Bool) : (Op.equalIn (d + 1) T (.bool x) (.bool y)).run P w = .ok (x == y) w := by
  simp [Op.equalIn, run_underlying h]
theorem equal_bool {T : TypeId} (h : P.underlying T = some .bool) (x y : Bool) : (Op.equal T (.bool x) (.bool y)).run P w = .ok (x == y) w :=
  equalIn_bool 9999 h x y
theorem equalIn_err_nil (d : Nat) {T : TypeId} {ms : Array (String × TypeId)} (h : P.underlying T = some (.interface ms)) (ET : TypeId) (e : Option Int) :
    (Op.equalIn (d + 1) T (errV ET e) .nilIface).run P w = .ok e.isNone w := by
  cases e <;> simp [Op.equalIn, run_underlying h, errV]
theorem equal_err_nil {T : TypeId} {ms : Array (String × TypeId)} (h : P.underlying T = some (.interface ms)) (ET : TypeId) (e : Option Int) :
    (Op.equal T (errV ET e) .nilIface).run P w = .ok e.isNone w := equalIn_err_nil 9999 h ET e
theorem equalIn_nil_err (d : Nat) {T : TypeId} {ms : Array (String × TypeId)} (h : P.underlying T = some (.interface ms)) (ET : TypeId) (e : Option Int) :
    (Op.equalIn (d + 1) T .nilIface (errV ET e)).run P w = .ok e.isNone w := by
  cases e <;> simp [Op.equalIn, run_underlying h, errV]
theorem equal_nil_err {T : TypeId} {ms : Array (String × TypeId)} (h : P.underlying T = some (.interface ms)) (ET : TypeId) (e : Option Int) :
    (Op.equal T .nilIface (errV ET e)).run P w = .ok e.isNone w := equalIn_nil_err 9999 h ET e
theorem equalIn_ptr_nil (d : Nat) {T e : TypeId} (h : P.underlying T = some (.pointer e)) (p : Option Addr) :
    (Op.equalIn (d + 1) T (.pointer p) (.pointer none)).run P w = .ok p.isNone w := by
  cases p <;> simp [Op.equalIn, run_underlying h]
theorem equal_ptr_nil {T e : TypeId} (h : P.underlying T = some (.pointer e)) (p : Option Addr) :
    (Op.equal T (.pointer p) (.pointer none)).run P w = .ok p.isNone w := equalIn_ptr_nil 9999 h p

theorem equalIn_sl_nil (d : Nat) {T e : TypeId} (h : P.underlying T = some (.slice e)) (A : Option Addr) (n c : Nat) :
    (Op.equalIn (d + 1) T (.slice A n c) (.slice none 0 0)).run P w = .ok A.isNone w := by
  cases A <;> simp [Op.equalIn, run_underlying h]
theorem equal_sl_nil {T e : TypeId} (h : P.underlying T = some (.slice e)) (A : Option Addr) (n c : Nat) :
    (Op.equal T (.slice A n c) (.slice none 0 0)).run P w = .ok A.isNone w := equalIn_sl_nil 9999 h A n c
theorem agree_some {R : Type} {a b : Option R} {out : R} (h : agree a b = some out) : a = some out ∧ b = some out := by
  unfold agree at h
  split at h
  · rename_i e
    exact ⟨h, e ▸ h⟩
  · cases h
/-- What a binary operation is, guard and all. -/
def binRun (op : BinOp) (T : TypeId) (X Y : Operand) (x y : Value) : Sem Value := do eqGuard op T X Y x y; binOp op T x y
theorem binRun_of {op : BinOp} {T : TypeId} {X Y : Operand} {x y u : Value} (h1 : (eqGuard op T X Y x y).run P w = .ok () w) (h2 : (binOp op T x y).run P w = .ok u w) :
    (binRun op T X Y x y).run P w = .ok u w := by
  simp [binRun, h1, h2]
theorem evEq_sound (hE : EnvOk P E) {T : TypeId} {X Y : Operand} {neg : Bool} {x y : AV} {xv yv : Value} {K : AV → Option R}
    (h : evEq E T (isConstO X || isConstO Y) neg x y K = some out) (hx : VRel E.ET g bs w x xv) (hy : VRel E.ET g bs w y yv) :
    ∃ v u, K v = some out ∧ VRel E.ET g bs w v u ∧ (binRun (if neg then .neq else .eql) T X Y xv yv).run P w = .ok u w := by
  unfold evEq at h
  simp only at h
  split at h
  · rename_i p q hk
    obtain ⟨d, hd, rfl⟩ := und_of hE hk (by simp)
    rw [rel_bool hx, rel_bool hy]
    exact ⟨_, _, h, bool_rel _, binRun_of (eqGuard_plain (by simp) (by simp)) (binOp_eq (by simp) (by simp) (by simp) (by simp) (equal_bool hd p q))⟩
  · rename_i p hk
    obtain ⟨d, hd, ms, rfl⟩ := und_of hE hk (by simp)
    cases hc : (isConstO X || isConstO Y) with
    | false => rw [hc] at h; cases h
    | true =>
      rw [hc] at h
      rw [rel_err hx, rel_err hy]
      refine ⟨_, _, h, bool_rel _, binRun_of (eqGuard_const hc ?_) (binOp_eq ?_ ?_ ?_ ?_ (equal_err_nil hd E.ET p))⟩ <;> simp [errV]
  · rename_i p _ hk
    obtain ⟨d, hd, ms, rfl⟩ := und_of hE hk (by simp)
    cases hc : (isConstO X || isConstO Y) with
    | false => rw [hc] at h; cases h
    | true =>
      rw [hc] at h
      rw [rel_err hx, rel_err hy]
      refine ⟨_, _, h, bool_rel _, binRun_of (eqGuard_const hc ?_) (binOp_eq ?_ ?_ ?_ ?_ (equal_nil_err hd E.ET p))⟩ <;> simp [errV]
  · rename_i t o hk
    obtain ⟨d, hd, e, rfl⟩ := und_of hE hk (by simp)
    have hx' := val_cell hx
    rw [show yv = .pointer none from hy]
    cases o with
    | none =>
      have : xv = .pointer none := by simpa [Rep] using hx'
      rw [this]
      exact ⟨_, _, h, bool_rel _, binRun_of (eqGuard_plain (by simp) (by simp)) (binOp_eq (by simp) (by simp) (by simp) (by simp) (equal_ptr_nil hd none))⟩
    | some z =>
      obtain ⟨b, o, cs', e1, _⟩ := hx'
      have : xv = .pointer (some ⟨b, o, none⟩) := by simpa using e1
      rw [this]
      exact ⟨_, _, h, bool_rel _, binRun_of (eqGuard_plain (by simp) (by simp)) (binOp_eq (by simp) (by simp) (by simp) (by simp) (equal_ptr_nil hd (some ⟨b, o, none⟩)))⟩
  · cases h
  · rename_i hk
    obtain ⟨d, hd, e, rfl⟩ := und_of hE hk (by simp)
    rw [show yv = .pointer none from hy, show xv = .pointer none from hx]
    exact ⟨_, _, h, bool_rel _, binRun_of (eqGuard_plain (by simp) (by simp)) (binOp_eq (by simp) (by simp) (by simp) (by simp) (equal_ptr_nil hd none))⟩
  · rename_i e t l hk
    obtain ⟨d, hd, rfl⟩ := und_of hE hk (by simp)
    rw [show yv = .slice none 0 0 from hy]
    obtain ⟨A, c, cs', e1, _, h7, h8⟩ := val_cell hx
    simp only [List.cons.injEq, and_true] at e1
    subst e1
    have hrun : (Op.equal T (.slice A l.length c) (.slice none 0 0)).run P w = .ok A.isNone w := equal_sl_nil hd A _ _
    have hsz : t.sz ≠ 0 := by
      intro e
      rw [e] at h
      cases h
    rw [beq_no hsz] at h
    simp only [cond_false] at h
    have key : K (.val .bool (cond neg (!A.isNone) A.isNone)) = some out := by
      cases hl : l.isEmpty with
      | true =>
        rw [hl] at h
        obtain ⟨k1, k2⟩ := agree_some h
        cases A with
        | none => exact k1
        | some a => exact k2
      | false =>
        rw [hl] at h
        cases A with
        | some a => exact h
        | none =>
          rcases h8 with rfl | ⟨b, o, hA, _⟩
          · have hl0 := Reps.length (fun x c hc => Rep.length hc) h7
            simp only [List.length_nil] at hl0
            rcases Nat.mul_eq_zero.1 hl0.symm with h0 | h0
            · rw [List.eq_nil_of_length_eq_zero h0] at hl; cases hl
            · exact absurd h0 hsz
          · cases hA
    exact ⟨_, _, key, bool_rel _, binRun_of (eqGuard_plain (by simp) (by simp)) (binOp_eq (by simp) (by simp) (by simp) (by simp) hrun)⟩
  · rename_i e hk
    obtain ⟨d, hd, rfl⟩ := und_of hE hk (by simp)
    rw [show yv = .slice none 0 0 from hy, show xv = .slice none 0 0 from hx]
    exact ⟨_, _, h, bool_rel _, binRun_of (eqGuard_plain (by simp) (by simp)) (binOp_eq (by simp) (by simp) (by simp) (by simp) (equal_sl_nil hd none 0 0))⟩
  · rename_i fs l m hk
    obtain ⟨r, hr, hrk, hro⟩ := row_of hE hk (by simp)
    split at h
    · rename_i ks hks
      split at h
      · rename_i b hb
        obtain ⟨vs, rfl, hl⟩ := hx
        obtain ⟨us, rfl, hm⟩ := hy
        obtain ⟨m1, m2, m3⟩ := eqAVs_rel hb hl hm
        have hks' : r.eqs = some ks := by simpa only [eqsOf, hr] using hks
        obtain ⟨hleaf, hguard⟩ := hro.eqs ks hks'
        obtain ⟨desc, hd, hag, hsg⟩ := eq_at 8 T ks hleaf 10000 (by decide)
        obtain ⟨desc2, hd2, hkd⟩ := und_of hE hk (by simp)
        rw [hd] at hd2
        simp only [Option.some.injEq] at hd2
        subst hd2
        obtain ⟨fields, rfl, _⟩ := hkd
        have hrun : (Op.equal T (.agg vs.toArray) (.agg us.toArray)).run P w = .ok b w := by
          have := hag rfl w vs us m1 m2
          rw [m3] at this
          exact this
        refine ⟨_, _, h, bool_rel _, binRun_of ?_ (binOp_eq (by simp) (by simp) (by simp) (by simp) hrun)⟩
        unfold eqGuard
        cases neg <;> simp [hguard]
      · cases h
    · cases h
  · cases h
theorem evBin_sound (hE : EnvOk P E) {op : BinOp} {T : TypeId} {X Y : Operand} {x y : AV} {xv yv : Value} {K : AV → Option R}
    (h : evBin E op T (isConstO X || isConstO Y) x y K = some out) (hx : VRel E.ET g bs w x xv) (hy : VRel E.ET g bs w y yv) :
    ∃ v u, K v = some out ∧ VRel E.ET g bs w v u ∧ (binRun op T X Y xv yv).run P w = .ok u w := by
  unfold evBin at h
  split at h
  · rename_i k p k' q
    rw [rel_int hx, rel_int hy]
    have hg : ∀ op', (eqGuard op' T X Y (.int k p) (.int k' q)).run P w = .ok () w := fun op' => eqGuard_plain (by simp) (by simp)
    split at h
    · cases hb : decide (q < 0) with
      | true => rw [hb] at h; cases h
      | false =>
        rw [hb] at h
        have hq : ¬ q < 0 := of_decide_eq_false hb
        exact ⟨_, _, h, int_rel _ _, binRun_of (hg _) (by simp [binOp, Op.shift, hq])⟩
    · cases hb : decide (q < 0) with
      | true => rw [hb] at h; cases h
      | false =>
        rw [hb] at h
        have hq : ¬ q < 0 := of_decide_eq_false hb
        exact ⟨_, _, h, int_rel _ _, binRun_of (hg _) (by simp [binOp, Op.shift, hq])⟩
    · cases hb : kindEq k k' with
      | false => rw [hb] at h; cases h
      | true =>
        rw [hb] at h
        have := kindEq_eq hb
        subst this
        obtain ⟨v, u, h1, h2, h3⟩ := evIntBin_sound (P := P) (E := E) (g := g) (bs := bs) (w := w) T h
        exact ⟨v, u, h1, h2, binRun_of (hg _) h3⟩
  · rename_i p q
    rw [rel_str hx, rel_str hy]
    obtain ⟨v, u, h1, h2, h3⟩ := evStrBin_sound (P := P) (E := E) (g := g) (bs := bs) (w := w) T h
    exact ⟨v, u, h1, h2, binRun_of (eqGuard_plain (by simp) (by simp)) h3⟩
  · split at h
    · exact evEq_sound (neg := false) hE h hx hy
    · exact evEq_sound (neg := true) hE h hx hy
    · cases h
theorem evUn_sound {op : UnOp} {x : AV} {xv : Value} {K : AV → Option R} (h : evUn op x K = some out) (hx : VRel E.ET g bs w x xv) :
    ∃ v u, K v = some out ∧ VRel E.ET g bs w v u ∧ (Op.unary op xv).run P w = .ok u w := by
  unfold evUn at h
  split at h
  · rw [rel_int hx]; exact ⟨_, _, h, int_rel _ _, by simp [Op.unary, Op.intArith]⟩
  · rw [rel_int hx]; exact ⟨_, _, h, int_rel _ _, by simp [Op.unary, Op.intBits]⟩
  · rw [rel_bool hx]; exact ⟨_, _, h, bool_rel _, by simp [Op.unary]⟩
  · cases h
theorem nth_rel : ∀ {l : List AV} {vs : List Value} {i : Nat} {v : AV}, All2 (CRel E.ET g bs w) l vs → nth l i = some v → ∃ u, vs[i]? = some u ∧ CRel E.ET g bs w v u
  | [], _, i, v, _, h => by simp [nth] at h
  | x :: l, [], i, v, ha, _ => ha.elim
  | x :: l, y :: vs, 0, v, ha, h => by
    simp only [nth, Option.some.injEq] at h
    subst h
    exact ⟨y, rfl, ha.1⟩
  | x :: l, y :: vs, i + 1, v, ha, h => by
    obtain ⟨u, h1, h2⟩ := nth_rel (i := i) ha.2 h
    exact ⟨u, by simpa using h1, h2⟩
theorem extract_sound {l : List AV} {tv : Value} {i : Nat} {v : AV} (ht : VRel E.ET g bs w (.tup l) tv) (h : nth l i = some v) :
    ∃ u, VRel E.ET g bs w v u ∧ (Instr.extract tv i).run P w = .ok u w := by
  obtain ⟨vs, rfl, ha⟩ := ht
  obtain ⟨u, h1, h2⟩ := nth_rel ha h
  exact ⟨u, h2.up, by simp [Instr.extract, h1]⟩
theorem zero_int (hE : EnvOk P E) {T : TypeId} {k : IntKind} (hk : kindOf E T = .int k) : P.underlying T = some (.int k) := by
  obtain ⟨d, hd, rfl⟩ := und_of hE hk (by simp)
  exact hd
theorem makeInterface_sound (hE : EnvOk P E) {T : TypeId} {n : Int} (h : (Nat.beq T E.ET && decide (kindOf E T = .int .i64)) = true) :
    (Instr.makeInterface T (.int .i64 n)).run P w = .ok (errV E.ET (some n)) w := by
  simp only [Bool.and_eq_true, decide_eq_true_eq] at h
  have e : T = E.ET := Nat.eq_of_beq_eq_true h.1
  have hu := zero_int hE h.2
  subst e
  simp only [Instr.makeInterface, Sem.run_bind, run_underlying hu, Result.andThen_ok, Sem.run_pure, errV]
theorem mm_sound {mx : Bool} {l : List AV} {vs : List Value} {K : AV → Option R} (ts : Array TypeId) (ty : TypeId) (h : evMm mx l K = some out) (hl : All2 (VRel E.ET g bs w) l vs) :
    ∃ v u, K v = some out ∧ VRel E.ET g bs w v u ∧ ((if mx then Builtin.max_ ts ty vs.toArray else Builtin.min_ ts ty vs.toArray)).run P w = .ok u w := by
  unfold evMm at h
  split at h
  · rename_i k p k' q
    cases vs with
    | nil => exact hl.elim
    | cons x vs =>
      cases vs with
      | nil => exact hl.2.elim
      | cons y vs =>
        cases vs with
        | cons z vs => exact hl.2.2.elim
        | nil =>
          rw [rel_int hl.1, rel_int hl.2.1]
          cases hb : kindEq k k' with
          | false => rw [hb] at h; cases h
          | true =>
            rw [hb] at h
            have := kindEq_eq hb
            subst this
            refine ⟨_, _, h, int_rel _ _, ?_⟩
            cases mx <;> simp [Builtin.max_, Builtin.min_, Builtin.max2, Builtin.min2]
  · cases h
end
end Go.Proofs.Ytfdppbfefplikaa.Ev
