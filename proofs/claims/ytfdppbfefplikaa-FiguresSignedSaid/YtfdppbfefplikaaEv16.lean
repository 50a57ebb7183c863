/- A function's body by the evaluator: what is told of its data holds of the call. -/
import Derived.Test.YtfdppbfefplikaaEv15
namespace Go.Proofs.Ytfdppbfefplikaa.Ev
open Go
open Go.RowKit
set_option linter.unusedVariables false
set_option linter.unusedSimpArgs false
set_option linter.unusedSectionVars false

/-- Where the numbers of told boxes begin. -/
def C0 : Nat := 100000
def zAll (_ : Nat) : Bool := true
def resAV (l : List AV) : AV := match l with | [x] => x | l => .tup l
/-- What a function tells: of which data, which data. -/
structure FnOk (P : Program) (ET : TypeId) (f : FuncId) (pi po : PSh) (F : pi.den → Option po.den) : Prop where
  fn : ∃ fn, P.funcs[f]? = some fn ∧ (fn.name == "runtime.NumGoroutine") = false ∧ fn.body.isNone = false
  run : ∀ d out, F d = some out → ∀ (g : Gh) (w : World) (vals : List Value), vals.length = pi.slots.length →
    (∀ i, VRel ET g (pi.decB C0 d) w (getS (pi.decS C0 d) i) (vals.getD i undef)) → BsRel ET g (pi.decB C0 d) w → ∀ c,
    Calls P f vals.toArray w fun e w' => ∃ u g', e = .returned u ∧ VRel ET g' (po.decB c out) w' (resAV (po.decS c out)) u ∧ BsRel ET g' (po.decB c out) w' ∧ Fr g w g' w'

/-- A variable's place: an argument's, or one that a function holds. -/
def argV (v : Value) : Option Nat → Value
  | none => v
  | some j => match v with
    | .func _ _ cv => cv.toList.getD j undef
    | _ => undef
/-- What a function tells that writes into its arguments' variables: 'n' results; behind them, in the shape, those variables; 'io': a variable's box, and where its place came in. -/
structure FnIo (P : Program) (ET : TypeId) (f : FuncId) (pi po : PSh) (n : Nat) (io : List (Nat × Nat × Option Nat)) (F : pi.den → Option po.den) : Prop where
  fn : ∃ fn, P.funcs[f]? = some fn ∧ (fn.name == "runtime.NumGoroutine") = false ∧ fn.body.isNone = false
  run : ∀ d out, F d = some out → ∀ (g : Gh) (w : World) (vals : List Value), vals.length = pi.slots.length →
    (∀ i, VRel ET g (pi.decB C0 d) w (getS (pi.decS C0 d) i) (vals.getD i undef)) → BsRel ET g (pi.decB C0 d) w → ∀ c,
    Calls P f vals.toArray w fun e w' => ∃ u g', e = .returned u ∧ VRel ET g' (po.decB c out) w' (resAV ((po.decS c out).take n)) u ∧ BsRel ET g' (po.decB c out) w' ∧ Fr g w g' w' ∧
      ∀ x ∈ io, g'.hd (c + x.1) = argV (vals.getD x.2.1 undef) x.2.2
theorem FnIo.plain {P : Program} {ET : TypeId} {f : FuncId} {pi po : PSh} {F : pi.den → Option po.den} (h : FnIo P ET f pi po po.slots.length [] F) (hl : ∀ c out, (po.decS c out).length = po.slots.length) : FnOk P ET f pi po F :=
  ⟨h.fn, fun d out hF g w vals hv h1 h2 c => Calls.mono (h.run d out hF g w vals hv h1 h2 c) fun e w' ⟨u, g', e1, e2, e3, e4, _⟩ => ⟨u, g', e1, by rw [← hl c out, List.take_length] at e2; exact e2, e3, e4⟩⟩
theorem FnOk.io {P : Program} {ET : TypeId} {f : FuncId} {pi po : PSh} {F : pi.den → Option po.den} (h : FnOk P ET f pi po F) (hl : ∀ c out, (po.decS c out).length = po.slots.length) : FnIo P ET f pi po po.slots.length [] F :=
  ⟨h.fn, fun d out hF g w vals hv h1 h2 c => Calls.mono (h.run d out hF g w vals hv h1 h2 c) fun e w' ⟨u, g', e1, e2, e3, e4⟩ => ⟨u, g', e1, by rw [← hl c out, List.take_length]; exact e2, e3, e4, fun x hx => by cases hx⟩⟩

/-- A table of points: at each a shape, and what is told of such data. -/
abbrev Pts (R : Type) := List (Nat × (Σ p : PSh, p.den → Option R))
def tab {R : Type} : Pts R → Nat → St → Option R
  | [], _, _ => none
  | (i, ⟨p, G⟩) :: r, j, st => bif Nat.beq i j then (match p.enc zAll st.slots st.bs with | some d => G d | none => none) else tab r j st
theorem tab_some {R : Type} {out : R} : ∀ {l : Pts R} {j : Nat} {st : St}, tab l j st = some out → ∃ x ∈ l, x.1 = j ∧ ∃ d, x.2.1.enc zAll st.slots st.bs = some d ∧ x.2.2 d = some out
  | [], _, _, h => by cases h
  | (i, ⟨p, G⟩) :: r, j, st, h => by
    simp only [tab] at h
    cases hb : Nat.beq i j with
    | true =>
      rw [hb] at h
      simp only [cond_true] at h
      split at h
      · rename_i d hd
        exact ⟨_, List.mem_cons_self .., Nat.eq_of_beq_eq_true hb, d, hd, h⟩
      · cases h
    | false =>
      rw [hb] at h
      obtain ⟨x, hx, h1⟩ := tab_some (l := r) h
      exact ⟨x, List.mem_cons_of_mem _ hx, h1⟩
def undN : Nat → List AV
  | 0 => []
  | n + 1 => .und :: undN n
theorem getS_undN : ∀ (n i : Nat), getS (undN n) i = .und ∨ getS (undN n) i = .top
  | 0, _ => .inr rfl
  | n + 1, 0 => .inl rfl
  | n + 1, i + 1 => getS_undN n i
def appN : List AV → List AV → List AV
  | [], m => m
  | a :: l, m => a :: appN l m
theorem appN_eq : ∀ l m, appN l m = l ++ m
  | [], _ => rfl
  | a :: l, m => by simp [appN, appN_eq l m]
theorem length_undN : ∀ n, (undN n).length = n
  | 0 => rfl
  | n + 1 => by simp [undN, length_undN n]
theorem getS_append_lt : ∀ {l m : List AV} {i : Nat}, i < l.length → getS (l ++ m) i = getS l i
  | [], _, _, h => by simp at h
  | _ :: _, _, 0, _ => rfl
  | _ :: l, m, i + 1, h => getS_append_lt (l := l) (by simpa using h)
theorem getS_append_ge : ∀ {l m : List AV} {i : Nat}, l.length ≤ i → getS (l ++ m) i = getS m (i - l.length)
  | [], _, _, _ => rfl
  | _ :: _, _, 0, h => by simp at h
  | _ :: l, m, i + 1, h => by
    simp only [List.cons_append, getS, List.length_cons, Nat.add_sub_add_right]
    exact getS_append_ge (l := l) (by simpa using h)
theorem length_decS (c : Nat) : ∀ (l : List SSh) (d : ssDen l), (decS c l d).length = l.length
  | [], _ => rfl
  | .any :: l, d => by simp [decS, length_decS c l d]
  | .mk _ _ :: l, d => by simp [decS, length_decS c l d.2]
/-- The state at a function's beginning. -/
def startSt (p : PSh) (ntmps : Nat) (d : p.den) : St := ⟨appN (p.decS C0 d) (undN (ntmps - p.slots.length)), p.decB C0 d⟩
/-- A result: in a temporary, or in a variable. -/
inductive RV where
  | tmp (t : Nat) | cell (a : Nat) (T : TypeId)
def RV.toR : RV → ResultVar
  | .tmp t => .tmp t
  | .cell a T => .cell a T
noncomputable def resOne (E : Env) (st : St) : RV → Option AV
  | .tmp t => some (getS st.slots t)
  | .cell a T => evLoad E T (getS st.slots a) st.bs some
noncomputable def resSlots (E : Env) (st : St) : List RV → Option (List AV)
  | [] => some []
  | r :: rs => match resOne E st r with
    | some x => match resSlots E st rs with
      | some l => some (x :: l)
      | none => none
    | none => none
/-- A variable of an argument, as it stands. -/
def ghAV (st : St) (x : Nat × Option Nat) : AV :=
  match x.2, getS st.slots x.1 with
  | none, y => y
  | some j, .fn _ caps => getS caps j
  | _, _ => .top
def ghAVs (st : St) : List (Nat × Option Nat) → List AV
  | [] => []
  | x :: l => ghAV st x :: ghAVs st l
/-- At the end: the results' data, and the variables'. -/
noncomputable def finKio (E : Env) (po : PSh) (rs : List RV) (gh : List (Nat × Option Nat)) : Kont po.den :=
  let fin : St → Option po.den := fun st => match resSlots E st rs with
    | some l => po.enc zAll (appN l (ghAVs st gh)) st.bs
    | none => none
  ⟨fin, fin, []⟩
noncomputable def finK (E : Env) (po : PSh) (rs : List RV) : Kont po.den := finKio E po rs []
/-- The variables stand behind the results, one leaf each. -/
def ioOk (po : PSh) (gh : List (Nat × Option Nat)) (kp : List Nat) : Nat → List (Nat × Nat × Option Nat) → Bool
  | _, [] => true
  | n, (k, i, j) :: l => (match po.slots[n]?, po.boxes[k]? with
    | some (.mk false [.ref k' 0]), some (.var _ _) => Nat.beq k' k
    | some (.mk false [.osl k']), some (.row _ _) => Nat.beq k' k
    | _, _ => false) && (memN kp i && ioOk po gh kp (n + 1) l)
def ptSt (p : PSh) (d : p.den) : St := ⟨p.decS C0 d, p.decB C0 d⟩
section
variable {P : Program} {E : Env} {g0 g g' : Gh} {w0 w w' : World}
theorem VRel.noTup : ∀ {x : AV} {v : Value} {bs : Boxes}, VRel E.ET g bs w x v → (∀ l, x ≠ .tup l) → CRel E.ET g bs w x v
  | .tup l, _, _, _, h => absurd rfl (h l)
  | .agg l, _, _, hh, _ => hh
  | .top, _, _, hh, _ => hh
  | .und, _, _, hh, _ => hh
  | .nilS, _, _, hh, _ => hh
  | .nilP, _, _, hh, _ => hh
  | .val t x, _, _, hh, _ => hh
  | .ref b v o, _, _, hh, _ => hh
  | .osl b v, _, _, hh, _ => hh
  | .imm t x o, _, _, hh, _ => hh
  | .oel b v i o, _, _, hh, _ => hh
  | .fn f c, _, _, hh, _ => hh
theorem decL_noTup (c : Nat) : ∀ (ls : List LSh) (d : lsDen ls), ∀ x ∈ decL c ls d, ∀ l, x ≠ .tup l
  | [], _, x, h, _ => by cases h
  | .v t :: ls, d, x, h, l => by
    rcases List.mem_cons.1 h with rfl | h
    · simp
    · exact decL_noTup c ls d.2 x h l
  | .top :: ls, d, x, h, l => by
    rcases List.mem_cons.1 h with rfl | h
    · simp
    · exact decL_noTup c ls d x h l
  | .ref k o :: ls, d, x, h, l => by
    rcases List.mem_cons.1 h with rfl | h
    · simp
    · exact decL_noTup c ls d x h l
  | .osl k :: ls, d, x, h, l => by
    rcases List.mem_cons.1 h with rfl | h
    · simp
    · exact decL_noTup c ls d x h l
  | .fn f ks :: ls, d, x, h, l => by
    rcases List.mem_cons.1 h with rfl | h
    · simp
    · exact decL_noTup c ls d x h l
theorem decS_noTup (c : Nat) : ∀ (ls : List SSh) (d : ssDen ls), ∀ x ∈ decS c ls d, ∀ l, x ≠ .tup l
  | [], _, x, h, _ => by cases h
  | .any :: ls, d, x, h, l => by
    rcases List.mem_cons.1 h with rfl | h
    · simp
    · exact decS_noTup c ls d x h l
  | .mk ag lss :: ls, d, x, h, l => by
    rcases List.mem_cons.1 h with rfl | h
    · unfold decS1
      cases ag with
      | true => simp
      | false =>
        simp only [cond_false]
        split
        · rename_i y hy
          exact decL_noTup c lss d.1 y (by rw [hy]; exact List.mem_cons_self ..) l
        · simp
    · exact decS_noTup c ls d.2 x h l
/-- Results by slots: as one value. -/
theorem res_rel {bs : Boxes} {l : List AV} {vs : List Value} (hn : ∀ x ∈ l, ∀ k, x ≠ .tup k) (h : All2 (VRel E.ET g bs w) l vs) :
    VRel E.ET g bs w (resAV l) (if h : vs.toArray.size = 1 then vs.toArray[0] else .tuple vs.toArray) := by
  have all : ∀ {l : List AV} {vs : List Value}, (∀ x ∈ l, ∀ k, x ≠ .tup k) → All2 (VRel E.ET g bs w) l vs → All2 (CRel E.ET g bs w) l vs := by
    intro l
    induction l with
    | nil => intro vs _ h; cases vs with | nil => trivial | cons _ _ => exact h.elim
    | cons x l ih =>
      intro vs hn h
      cases vs with
      | nil => exact h.elim
      | cons v vs => exact ⟨h.1.noTup (hn x (List.mem_cons_self ..)), ih (fun y hy => hn y (List.mem_cons_of_mem _ hy)) h.2⟩
  match l, vs, h with
  | [], [], _ => exact ⟨[], rfl, trivial⟩
  | [x], [v], h => exact h.1
  | x :: y :: l, v :: u :: vs, h =>
    rw [dif_neg (by simp)]
    exact ⟨_, rfl, all hn h⟩
  | [], _ :: _, h => exact h.elim
  | [_], [], h => exact h.elim
  | [_], _ :: _ :: _, h => exact h.2.elim
  | _ :: _ :: _, [], h => exact h.elim
  | _ :: _ :: _, [_], h => exact h.2.elim
theorem all2_of_get : ∀ {l : List AV} {vs : List Value} {bs : Boxes}, l.length = vs.length → (∀ i, VRel E.ET g bs w (getS l i) (vs.getD i undef)) → All2 (VRel E.ET g bs w) l vs
  | [], [], _, _, _ => trivial
  | x :: l, v :: vs, bs, hl, h => ⟨h 0, all2_of_get (by simpa using hl) (fun i => h (i + 1))⟩
  | [], _ :: _, _, h, _ => by simp at h
  | _ :: _, [], _, h, _ => by simp at h
theorem get_of_all2 : ∀ {l : List AV} {vs : List Value} {bs : Boxes}, All2 (VRel E.ET g bs w) l vs → ∀ i, VRel E.ET g bs w (getS l i) (vs.getD i undef)
  | [], [], _, _, i => trivial
  | x :: l, v :: vs, bs, h, 0 => h.1
  | x :: l, v :: vs, bs, h, i + 1 => get_of_all2 (l := l) h.2 i
  | [], _ :: _, _, h, _ => h.elim
  | _ :: _, [], _, h, _ => h.elim
/-- One result, as the machine reads it. -/
def oneRes (tmps : Array Value) : ResultVar → Sem Value
  | .tmp t => pure (tmps.getD t undef)
  | .cell a t => do loadVar t (← asAddr (tmps.getD a undef))
theorem asAddr_of_load {T : TypeId} {v u : Value} (h : (Instr.loadAt T v).run P w = .ok u w) : (do loadVar T (← asAddr v)).run P w = .ok u w := by
  cases v with
  | pointer p =>
    cases p with
    | some a => simpa [Instr.loadAt, Instr.sureAddr, asAddr] using h
    | none => simp [Instr.loadAt, Instr.sureAddr, stuck] at h
  | _ => simp [Instr.loadAt, Instr.sureAddr, stuck] at h
theorem resSlots_run (hE : EnvOk P E) {st : St} {tmps : Array Value} (hs : ∀ i, VRel E.ET g st.bs w (getS st.slots i) (tmps.getD i undef)) (hb : BsRel E.ET g st.bs w) : ∀ {rs : List RV} {l : List AV}, resSlots E st rs = some l →
    l.length = rs.length ∧ ∃ vs, All2 (VRel E.ET g st.bs w) l vs ∧ ((rs.map RV.toR).mapM (oneRes tmps)).run P w = .ok vs w
  | [], l, h => by
    simp only [resSlots, Option.some.injEq] at h
    subst h
    exact ⟨rfl, [], trivial, by simp⟩
  | r :: rs, l, h => by
    simp only [resSlots] at h
    split at h
    · rename_i x hx
      split at h
      · rename_i l' hl'
        simp only [Option.some.injEq] at h
        subst h
        obtain ⟨i0, vs, i1, i2⟩ := resSlots_run hE hs hb hl'
        have hone : ∃ u, VRel E.ET g st.bs w x u ∧ (oneRes tmps r.toR).run P w = .ok u w := by
          cases r with
          | tmp t =>
            simp only [resOne, Option.some.injEq] at hx
            subst hx
            exact ⟨_, hs t, by simp [oneRes, RV.toR]⟩
          | cell a T =>
            simp only [resOne] at hx
            obtain ⟨v, u, k1, k2, k3⟩ := load_sound hE hx (hs a) hb
            simp only [Option.some.injEq] at k1
            subst k1
            exact ⟨u, k2, asAddr_of_load k3⟩
        obtain ⟨u, u1, u2⟩ := hone
        refine ⟨by simp [i0], u :: vs, ⟨u1, i1⟩, ?_⟩
        rw [List.map_cons, List.mapM_cons]
        simp only [Sem.run_bind, u2, i2, Result.andThen_ok, Sem.run_pure]
      · cases h
    · cases h
theorem results_run {fn : Func} {rs : List RV} {tmps : Array Value} {vs : List Value} (hr : fn.results = (rs.map RV.toR).toArray) (h : ((rs.map RV.toR).mapM (oneRes tmps)).run P w = .ok vs w) :
    (results fn tmps).run P w = .ok (if h : vs.toArray.size = 1 then vs.toArray[0] else .tuple vs.toArray) w := by
  unfold results
  rw [hr]
  simp only [Array.mapM_eq_mapM_toList, List.toList_toArray, Sem.run_bind, Sem.run_map]
  have e : (List.map RV.toR rs).mapM (fun | .tmp t => (pure (tmps.getD t undef) : Sem Value) | .cell a t => do loadVar t (← asAddr (tmps.getD a undef))) = (rs.map RV.toR).mapM (oneRes tmps) := by
    congr 1
  erw [e, h]
  simp only [Result.andThen_ok, Sem.run_pure]
/-- THE BODY: what the evaluator tells of a function's data holds of the call. -/
theorem look_var (c : Nat) : ∀ {l : List BSh} {j k : Nat} {T : TypeId} {cs : List LSh} {d : bsDen l}, l[k]? = some (.var T cs) → ∃ cells, look (decB c j l d) (c + (j + k)) = some (0, .var T cells)
  | [], _, _, _, _, _, h => by simp at h
  | .var T' cs' :: l, j, 0, T, cs, d, h => by
    simp only [List.getElem?_cons_zero, Option.some.injEq, BSh.var.injEq] at h
    obtain ⟨rfl, rfl⟩ := h
    exact ⟨decL c cs' d.1, by rw [Nat.add_zero]; exact look_cons_eq ..⟩
  | .row T' t :: l, j, 0, T, cs, d, h => by simp at h
  | .var T' cs' :: l, j, k + 1, T, cs, d, h => by
    obtain ⟨cells, hc⟩ := look_var c (l := l) (j := j + 1) (k := k) (d := d.2) (by simpa using h)
    refine ⟨cells, ?_⟩
    show look ((c + j, _) :: decB c (j + 1) l d.2) _ = _
    rw [look_cons_ne _ _ (by omega), ← hc]; congr 1; omega
  | .row T' t :: l, j, k + 1, T, cs, d, h => by
    obtain ⟨cells, hc⟩ := look_var c (l := l) (j := j + 1) (k := k) (d := d.2) (by simpa using h)
    refine ⟨cells, ?_⟩
    show look ((c + j, _) :: decB c (j + 1) l d.2) _ = _
    rw [look_cons_ne _ _ (by omega), ← hc]; congr 1; omega
theorem look_row (c : Nat) : ∀ {l : List BSh} {j k : Nat} {T : TypeId} {t : Ty} {d : bsDen l}, l[k]? = some (.row T t) → ∃ xs : List t.den, look (decB c j l d) (c + (j + k)) = some (0, .row T t xs)
  | [], _, _, _, _, _, h => by simp at h
  | .row T' t' :: l, j, 0, T, t, d, h => by
    simp only [List.getElem?_cons_zero, Option.some.injEq, BSh.row.injEq] at h
    obtain ⟨rfl, rfl⟩ := h
    exact ⟨d.1, by rw [Nat.add_zero]; exact look_cons_eq ..⟩
  | .var T' cs' :: l, j, 0, T, t, d, h => by simp at h
  | .var T' cs' :: l, j, k + 1, T, t, d, h => by
    obtain ⟨xs, hc⟩ := look_row c (l := l) (j := j + 1) (k := k) (d := d.2) (by simpa using h)
    refine ⟨xs, ?_⟩
    show look ((c + j, _) :: decB c (j + 1) l d.2) _ = _
    rw [look_cons_ne _ _ (by omega), ← hc]; congr 1; omega
  | .row T' t' :: l, j, k + 1, T, t, d, h => by
    obtain ⟨xs, hc⟩ := look_row c (l := l) (j := j + 1) (k := k) (d := d.2) (by simpa using h)
    refine ⟨xs, ?_⟩
    show look ((c + j, _) :: decB c (j + 1) l d.2) _ = _
    rw [look_cons_ne _ _ (by omega), ← hc]; congr 1; omega
theorem getS_decSl (c : Nat) : ∀ {l : List SSh} {i k : Nat} {d : ssDen l}, l[i]? = some (.mk false [.osl k]) → getS (decS c l d) i = .osl (c + k) 0
  | [], _, _, _, h => by simp at h
  | .any :: l, 0, _, _, h => by simp at h
  | .any :: l, i + 1, k, d, h => getS_decSl c (l := l) (i := i) (d := d) (by simpa using h)
  | .mk ag ls :: l, 0, k, d, h => by
    simp only [List.getElem?_cons_zero, Option.some.injEq, SSh.mk.injEq] at h
    obtain ⟨rfl, rfl⟩ := h
    rfl
  | .mk ag ls :: l, i + 1, k, d, h => getS_decSl c (l := l) (i := i) (d := d.2) (by simpa using h)
theorem getS_decS (c : Nat) : ∀ {l : List SSh} {i k : Nat} {d : ssDen l}, l[i]? = some (.mk false [.ref k 0]) → getS (decS c l d) i = .ref (c + k) 0 0
  | [], _, _, _, h => by simp at h
  | .any :: l, 0, _, _, h => by simp at h
  | .any :: l, i + 1, k, d, h => getS_decS c (l := l) (i := i) (d := d) (by simpa using h)
  | .mk ag ls :: l, 0, k, d, h => by
    simp only [List.getElem?_cons_zero, Option.some.injEq, SSh.mk.injEq] at h
    obtain ⟨rfl, rfl⟩ := h
    rfl
  | .mk ag ls :: l, i + 1, k, d, h => getS_decS c (l := l) (i := i) (d := d.2) (by simpa using h)
theorem ghAV_rel {st : St} {tmps : Array Value} {vals : List Value} (hs : ∀ i, VRel E.ET g st.bs w (getS st.slots i) (tmps.getD i undef)) {x : Nat × Option Nat} (hk : tmps.getD x.1 undef = vals.getD x.1 undef) :
    VRel E.ET g st.bs w (ghAV st x) (argV (vals.getD x.1 undef) x.2) := by
  obtain ⟨i, j⟩ := x
  have hi := hs i
  rw [show tmps.getD i undef = vals.getD i undef from hk] at hi
  unfold ghAV
  cases j with
  | none => exact hi
  | some j =>
    simp only
    split
    · rename_i h; cases h
    · rename_i j' f caps hq hj
      cases hq
      rw [hj] at hi
      obtain ⟨cv, e, ha⟩ := hi
      rw [e]
      have := get_of_all2 (E := E) (w := w) (ha.mono fun _ _ => capR.up (E := E) (w := w)) j
      simpa [argV] using this
    · trivial
theorem memN_iff : ∀ {l : List Nat} {n : Nat}, memN l n = true ↔ n ∈ l
  | [], n => by simp [memN]
  | a :: l, n => by
    simp only [memN, Bool.or_eq_true, List.mem_cons, memN_iff (l := l)]
    constructor
    · rintro (h | h)
      · exact .inl (Nat.eq_of_beq_eq_true h).symm
      · exact .inr h
    · rintro (rfl | h)
      · exact .inl (Nat.beq_refl _)
      · exact .inr h
theorem all2_take {α β : Type} {r : α → β → Prop} : ∀ (n : Nat) {l : List α} {m : List β}, All2 r l m → All2 r (l.take n) (m.take n)
  | 0, _, _, _ => by simp only [List.take_zero]; trivial
  | n + 1, [], [], _ => trivial
  | n + 1, _ :: _, _ :: _, ⟨h1, h2⟩ => ⟨h1, all2_take n h2⟩
  | n + 1, [], _ :: _, h => h.elim
  | n + 1, _ :: _, [], h => h.elim
theorem fn_of_bodyIo (hE : EnvOk P E) {f : FuncId} {fn : Func} {c : Code} {pi po : PSh} {F : pi.den → Option po.den} (hf : P.funcs[f]? = some fn) (hname : (fn.name == "runtime.NumGoroutine") = false) (hb : fn.body = some c)
    (rs : List RV) (gh : List (Nat × Option Nat)) (io : List (Nat × Nat × Option Nat)) (hr : fn.results = (rs.map RV.toR).toArray) (hrs : rs.length + gh.length = po.slots.length) (hgh : io.map (·.2) = gh) (hio : ioOk po gh E.keep rs.length io = true) (hkeep : ∀ i ∈ E.keep, i < pi.slots.length) (hnt : pi.slots.length ≤ fn.ntmps)
    (cuts : List Nat) (L : Nat → Pts po.den) (h0 : ∀ x ∈ L 0, ∀ d, x.2.2 d = none)
    (hL : ∀ k, ∀ x ∈ L (k + 1), ∀ d out, x.2.2 d = some out → evAt E (tab (L k)) cuts x.1 c 0 (finKio E po rs gh) (ptSt x.2.1 d) = some out)
    (hF : ∀ d out, F d = some out → ∃ k, evCode E (tab (L k)) cuts c 0 (finKio E po rs gh) (startSt pi fn.ntmps d) = some out) : FnIo P E.ET f pi po rs.length io F := by
  refine ⟨⟨fn, hf, hname, by rw [hb]; rfl⟩, fun d out hd g w vals hvl hv hbs cc => ?_⟩
  obtain ⟨k, hk⟩ := hF d out hd
  refine calls_of_wp hf hb ?_
  let Q : Post := bodyPost P fn fun e w' => ∃ u g', e = .returned u ∧ VRel E.ET g' (po.decB cc out) w' (resAV ((po.decS cc out).take rs.length)) u ∧ BsRel E.ET g' (po.decB cc out) w' ∧ Fr g w g' w' ∧ ∀ x ∈ io, g'.hd (cc + x.1) = argV (vals.getD x.2.1 undef) x.2.2
  show c.wp P Q _ _
  have hfin : ∀ (st : St) (a : Act) (w' : World), RlOf E.ET g [] w E.keep vals st a w' → (match resSlots E st rs with | some l => po.enc zAll (appN l (ghAVs st gh)) st.bs | none => none) = some out → Q .ret a w' ∧ Q .normal a w' := by
    intro st a w' ⟨⟨g1, hr1⟩, hk1⟩ he
    split at he
    · rename_i l hl
      obtain ⟨hll, vs, hvs, hrun⟩ := resSlots_run hE hr1.slots hr1.boxes hl
      have hgv : ∀ (q : List (Nat × Nat × Option Nat)) (m : Nat), ioOk po gh E.keep m q = true → All2 (VRel E.ET g1 st.bs w') (ghAVs st (q.map (·.2))) (q.map fun x => argV (vals.getD x.2.1 undef) x.2.2) := by
        intro q
        induction q with
        | nil => intro _ _; trivial
        | cons x q ih =>
          intro m hm
          obtain ⟨k, i, j⟩ := x
          simp only [ioOk, Bool.and_eq_true] at hm
          exact ⟨ghAV_rel hr1.slots (x := (i, j)) (hk1 i (memN_iff.1 hm.2.1)), ih _ hm.2.2⟩
      have hga := hgv io _ hio
      rw [hgh] at hga
      have hall0 : All2 (VRel E.ET g1 st.bs w') (appN l (ghAVs st gh)) (vs ++ io.map fun x => argV (vals.getD x.2.1 undef) x.2.2) := by rw [appN_eq]; exact all2_app hvs hga
      obtain ⟨⟨k1, k2⟩, k3, k4⟩ := canon (c := cc) he hr1.boxes (fun i => (vs ++ io.map fun x => argV (vals.getD x.2.1 undef) x.2.2).getD i undef) (get_of_all2 hall0)
      have hvl : vs.length = rs.length := by rw [← hll, ← hvs.length]
      have hiol : io.length = gh.length := by rw [← hgh, List.length_map]
      have hlen : (po.decS cc out).length = (vs ++ io.map fun x => argV (vals.getD x.2.1 undef) x.2.2).length := by
        rw [List.length_append, List.length_map, hvl, hiol, hrs]; exact length_decS cc po.slots out.2
      have hall := all2_of_get hlen k2
      have hall1 : All2 (VRel E.ET (canonG g1 (po.mp (appN l (ghAVs st gh)) st.bs) zAll cc) (po.decB cc out) w') ((po.decS cc out).take rs.length) vs := by
        have := all2_take rs.length hall
        rw [← hvl, List.take_left] at this; rw [← hvl]; exact this
      have hres := res_rel (fun x hx l => decS_noTup cc po.slots out.2 x (List.mem_of_mem_take hx) l) hall1
      have hrun := results_run hr hrun
      have hhd : ∀ (q : List (Nat × Nat × Option Nat)) (m : Nat), ioOk po gh E.keep (rs.length + m) q = true → io.drop m = q → ∀ x ∈ q, (canonG g1 (po.mp (appN l (ghAVs st gh)) st.bs) zAll cc).hd (cc + x.1) = argV (vals.getD x.2.1 undef) x.2.2 := by
        intro q
        induction q with
        | nil => intro _ _ _ x hx; cases hx
        | cons y q ih =>
          intro m hm hdr x hx
          obtain ⟨k, i, j⟩ := y
          simp only [ioOk, Bool.and_eq_true] at hm
          rcases List.mem_cons.1 hx with rfl | hx
          · have hm1 := hm.1
            split at hm1
            · rename_i k' T cs hs1 hs2
              have hk' := Nat.eq_of_beq_eq_true hm1
              subst hk'
              have hv := k2 (rs.length + m)
              rw [show getS (po.decS cc out) (rs.length + m) = .ref (cc + k') 0 0 from getS_decS cc hs1] at hv
              obtain ⟨cells, hlk⟩ := look_var cc (j := 0) (d := out.1) hs2
              rw [Nat.zero_add] at hlk
              obtain ⟨blk, h1, h2⟩ := hv.2.2 T cells (by show (match look (decB cc 0 po.boxes out.1) (cc + k') with | some (v', c) => bif Nat.beq v' 0 then c else .dead | none => .dead) = _; rw [hlk]; rfl)
              rw [h1, ← h2]
              have hmd : io[m]? = some (k', i, j) := by
                have := congrArg (fun l => l[0]?) hdr
                simpa using this
              rw [List.getD_eq_getElem?_getD, List.getElem?_append_right (by omega), hvl, Nat.add_sub_cancel_left, List.getElem?_map, hmd]
              rfl
            · rename_i k' T t hs1 hs2
              have hk' := Nat.eq_of_beq_eq_true hm1
              subst hk'
              have hv := k2 (rs.length + m)
              rw [show getS (po.decS cc out) (rs.length + m) = .osl (cc + k') 0 from getS_decSl cc hs1] at hv
              obtain ⟨xs, hlk⟩ := look_row cc (j := 0) (d := out.1) hs2
              rw [Nat.zero_add] at hlk
              have h2 := hv.2.2 T t xs (by show (match look (decB cc 0 po.boxes out.1) (cc + k') with | some (v', c) => bif Nat.beq v' 0 then c else .dead | none => .dead) = _; rw [hlk]; rfl)
              rw [← h2]
              have hmd : io[m]? = some (k', i, j) := by
                have := congrArg (fun l => l[0]?) hdr
                simpa using this
              rw [List.getD_eq_getElem?_getD, List.getElem?_append_right (by omega), hvl, Nat.add_sub_cancel_left, List.getElem?_map, hmd]
              rfl
            · cases hm1
          · have hdr2 : io.drop (m + 1) = q := by
              have := congrArg List.tail hdr
              simpa [List.tail_drop] using this
            exact ih (m + 1) (by rw [← Nat.add_assoc]; exact hm.2.2) hdr2 x hx
      have hhd := hhd io 0 (by rw [Nat.add_zero]; exact hio) rfl
      have hq : a.defers = [] ∧ ∃ v, (results fn a.tmps).run P w' = .ok v w' ∧ ∃ u g', Ending.returned v = .returned u ∧ VRel E.ET g' (po.decB cc out) w' (resAV ((po.decS cc out).take rs.length)) u ∧ BsRel E.ET g' (po.decB cc out) w' ∧ Fr g w g' w' ∧ ∀ x ∈ io, g'.hd (cc + x.1) = argV (vals.getD x.2.1 undef) x.2.2 :=
        ⟨hr1.defers, _, hrun, _, _, rfl, hres, k3, hr1.ext.fr.trans k4, hhd⟩
      exact ⟨hq, hq⟩
    · cases he
  have hgood : Good (RlOf E.ET g [] w E.keep vals) out (finKio E po rs gh) Q := by
    refine ⟨fun st a w' h1 h2 => (hfin st a w' h1 h2).2, fun st a w' h1 h2 => (hfin st a w' h1 h2).1, fun i st a w' h1 h2 => by cases h2⟩
  refine body_sound (regOk hE g [] w vals) (drawOk hE g [] w vals) (condOk E.ET g [] w E.keep vals) (fun k => tab (L k)) c (finKio E po rs gh) Q ?_ ?_ hgood k (startSt pi fn.ntmps d) _ w ?_ hk
  · intro j st
    cases ht : tab (L 0) j st with
    | none => rfl
    | some y =>
      obtain ⟨x, hx, _, d', _, h2⟩ := tab_some ht
      rw [h0 x hx d'] at h2; cases h2
  · intro k j st ht
    obtain ⟨x, hx, rfl, d', h1, h2⟩ := tab_some ht
    refine ⟨ptSt x.2.1 d', hL k x hx d' out h2, fun a w' ⟨⟨g1, hr1⟩, hk1⟩ => ?_⟩
    obtain ⟨⟨k1, k2⟩, k3, k4⟩ := canon (c := C0) h1 hr1.boxes (fun i => a.tmps.getD i undef) hr1.slots
    exact ⟨⟨_, Nat.le_trans k1 hr1.size, k2, k3, hr1.defers, hr1.ext.fr.trans k4, fun b => Nat.zero_le _, fun b ver T cells hv => absurd hv (Nat.not_lt_zero _), fun b ver T t xs hv => absurd hv (Nat.not_lt_zero _)⟩, hk1⟩
  · -- the beginning
    have hdl : (pi.decS C0 d).length = pi.slots.length := length_decS C0 pi.slots d.2
    refine ⟨⟨g, ?_, ?_, hbs, rfl, Fr.refl g w, fun b => Nat.zero_le _, fun b ver T cells hv => absurd hv (Nat.not_lt_zero _), fun b ver T t xs hv => absurd hv (Nat.not_lt_zero _)⟩, ?_⟩
    · simp only [startSt, appN_eq, List.length_append, hdl, length_undN, Array.size_append, List.size_toArray, Array.size_replicate, hvl]
      exact Nat.le_refl _
    · intro i
      simp only [startSt, appN_eq]
      by_cases hi : i < vals.length
      · rw [getS_append_lt (by omega)]
        have e : (vals.toArray ++ Array.replicate (fn.ntmps - vals.toArray.size) undef).getD i undef = vals.getD i undef := by
          rw [Array.getD_eq_getD_getElem?, Array.getElem?_append_left (by simpa using hi), List.getElem?_toArray, List.getD_eq_getElem?_getD]
        rw [e]; exact hv i
      · rw [getS_append_ge (by omega)]
        have e : (vals.toArray ++ Array.replicate (fn.ntmps - vals.toArray.size) undef).getD i undef = undef := by
          rw [Array.getD_eq_getD_getElem?, Array.getElem?_append_right (by simpa using hi), Array.getElem?_replicate]
          split <;> rfl
        rw [e]
        rcases getS_undN (fn.ntmps - pi.slots.length) (i - (pi.decS C0 d).length) with h | h <;> rw [h]
        · exact (rfl : undef = undef)
        · trivial
    · intro i hi
      have hlt := hkeep i hi
      rw [← hvl] at hlt
      show (vals.toArray ++ Array.replicate (fn.ntmps - vals.toArray.size) undef).getD i undef = vals.getD i undef
      rw [Array.getD_eq_getD_getElem?, Array.getElem?_append_left (by simpa using hlt), List.getElem?_toArray, List.getD_eq_getElem?_getD]
theorem fn_of_body (hE : EnvOk P E) {f : FuncId} {fn : Func} {c : Code} {pi po : PSh} {F : pi.den → Option po.den} (hf : P.funcs[f]? = some fn) (hname : (fn.name == "runtime.NumGoroutine") = false) (hb : fn.body = some c)
    (rs : List RV) (hr : fn.results = (rs.map RV.toR).toArray) (hrs : rs.length = po.slots.length) (hnt : pi.slots.length ≤ fn.ntmps) (hkeep : E.keep = [])
    (cuts : List Nat) (L : Nat → Pts po.den) (h0 : ∀ x ∈ L 0, ∀ d, x.2.2 d = none)
    (hL : ∀ k, ∀ x ∈ L (k + 1), ∀ d out, x.2.2 d = some out → evAt E (tab (L k)) cuts x.1 c 0 (finK E po rs) (ptSt x.2.1 d) = some out)
    (hF : ∀ d out, F d = some out → ∃ k, evCode E (tab (L k)) cuts c 0 (finK E po rs) (startSt pi fn.ntmps d) = some out) : FnOk P E.ET f pi po F := by
  have := fn_of_bodyIo hE hf hname hb rs [] [] hr hrs rfl rfl (by rw [hkeep]; intro i hi; cases hi) hnt cuts L h0 hL hF
  rw [hrs] at this
  exact this.plain fun cc out => length_decS cc po.slots out.2
end
end Go.Proofs.Ytfdppbfefplikaa.Ev
