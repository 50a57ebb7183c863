/- A function's body by the evaluator: what is told of its data holds of the call. -/
import Derived.Test.YtnielkimpieofaaEv15
namespace Go.Proofs.Ytnielkimpieofaa.Ev
open Go
open Go.RowKit
set_option linter.unusedVariables false
set_option linter.unusedSimpArgs false
set_option linter.unusedSectionVars false

/-- Where the numbers of told boxes begin. -/
def C0 : Nat := 100000
def zAll (_ : Nat) : Bool := true
def resAV (l : List AV) : AV := match l with | [x] => x | l => .tup l
/-- What a function tells: of which data, which data. -/
structure FnOk (P : Program) (ET : TypeId) (f : FuncId) (pi po : PSh) (F : pi.den → Option po.den) : Prop where
  fn : ∃ fn, P.funcs[f]? = some fn ∧ (fn.name == "runtime.NumGoroutine") = false ∧ fn.body.isNone = false
  run : ∀ d out, F d = some out → ∀ (g : Gh) (w : World) (vals : List Value), vals.length = pi.slots.length →
    (∀ i, VRel ET g (pi.decB C0 d) w (getS (pi.decS C0 d) i) (vals.getD i undef)) → BsRel ET g (pi.decB C0 d) w → ∀ c,
    Calls P f vals.toArray w fun e w' => ∃ u g', e = .returned u ∧ VRel ET g' (po.decB c out) w' (resAV (po.decS c out)) u ∧ BsRel ET g' (po.decB c out) w' ∧ Fr g w g' w'

/-- A table of points: at each a shape, and what is told of such data. -/
abbrev Pts (R : Type) := List (Nat × (Σ p : PSh, p.den → Option R))
def tab {R : Type} : Pts R → Nat → St → Option R
  | [], _, _ => none
  | (i, ⟨p, G⟩) :: r, j, st => bif Nat.beq i j then (match p.enc zAll st.slots st.bs with | some d => G d | none => none) else tab r j st
theorem tab_some {R : Type} {out : R} : ∀ {l : Pts R} {j : Nat} {st : St}, tab l j st = some out → ∃ x ∈ l, x.1 = j ∧ ∃ d, x.2.1.enc zAll st.slots st.bs = some d ∧ x.2.2 d = some out
  | [], _, _, h => by cases h
  | (i, ⟨p, G⟩) :: r, j, st, h => by
    simp only [tab] at h
    cases hb : Nat.beq i j with
    | true =>
      rw [hb] at h
      simp only [cond_true] at h
      split at h
      · rename_i d hd
        exact ⟨_, List.mem_cons_self .., Nat.eq_of_beq_eq_true hb, d, hd, h⟩
      · cases h
    | false =>
      rw [hb] at h
      obtain ⟨x, hx, h1⟩ := tab_some (l := r) h
      exact ⟨x, List.mem_cons_of_mem _ hx, h1⟩
def undN : Nat → List AV
  | 0 => []
  | n + 1 => .und :: undN n
theorem getS_undN : ∀ (n i : Nat), getS (undN n) i = .und ∨ getS (undN n) i = .top
  | 0, _ => .inr rfl
  | n + 1, 0 => .inl rfl
  | n + 1, i + 1 => getS_undN n i
def appN : List AV → List AV → List AV
  | [], m => m
  | a :: l, m => a :: appN l m
theorem appN_eq : ∀ l m, appN l m = l ++ m
  | [], _ => rfl
  | a :: l, m => by simp [appN, appN_eq l m]
theorem length_undN : ∀ n, (undN n).length = n
  | 0 => rfl
  | n + 1 => by simp [undN, length_undN n]
theorem getS_append_lt : ∀ {l m : List AV} {i : Nat}, i < l.length → getS (l ++ m) i = getS l i
  | [], _, _, h => by simp at h
  | _ :: _, _, 0, _ => rfl
  | _ :: l, m, i + 1, h => getS_append_lt (l := l) (by simpa using h)
theorem getS_append_ge : ∀ {l m : List AV} {i : Nat}, l.length ≤ i → getS (l ++ m) i = getS m (i - l.length)
  | [], _, _, _ => rfl
  | _ :: _, _, 0, h => by simp at h
  | _ :: l, m, i + 1, h => by
    simp only [List.cons_append, getS, List.length_cons, Nat.add_sub_add_right]
    exact getS_append_ge (l := l) (by simpa using h)
theorem length_decS (c : Nat) : ∀ (l : List SSh) (d : ssDen l), (decS c l d).length = l.length
  | [], _ => rfl
  | .any :: l, d => by simp [decS, length_decS c l d]
  | .mk _ _ :: l, d => by simp [decS, length_decS c l d.2]
/-- The state at a function's beginning. -/
def startSt (p : PSh) (ntmps : Nat) (d : p.den) : St := ⟨appN (p.decS C0 d) (undN (ntmps - p.slots.length)), p.decB C0 d⟩
/-- A result: in a temporary, or in a variable. -/
inductive RV where
  | tmp (t : Nat) | cell (a : Nat) (T : TypeId)
def RV.toR : RV → ResultVar
  | .tmp t => .tmp t
  | .cell a T => .cell a T
noncomputable def resOne (E : Env) (st : St) : RV → Option AV
  | .tmp t => some (getS st.slots t)
  | .cell a T => evLoad E T (getS st.slots a) st.bs some
noncomputable def resSlots (E : Env) (st : St) : List RV → Option (List AV)
  | [] => some []
  | r :: rs => match resOne E st r with
    | some x => match resSlots E st rs with
      | some l => some (x :: l)
      | none => none
    | none => none
/-- At the end: the results' data. -/
noncomputable def finK (E : Env) (po : PSh) (rs : List RV) : Kont po.den :=
  let fin : St → Option po.den := fun st => match resSlots E st rs with
    | some l => po.enc zAll l st.bs
    | none => none
  ⟨fin, fin, []⟩
def ptSt (p : PSh) (d : p.den) : St := ⟨p.decS C0 d, p.decB C0 d⟩
section
variable {P : Program} {E : Env} {g0 g g' : Gh} {w0 w w' : World}
theorem VRel.noTup : ∀ {x : AV} {v : Value} {bs : Boxes}, VRel E.ET g bs w x v → (∀ l, x ≠ .tup l) → CRel E.ET g bs w x v
  | .tup l, _, _, _, h => absurd rfl (h l)
  | .agg l, _, _, hh, _ => hh
  | .top, _, _, hh, _ => hh
  | .und, _, _, hh, _ => hh
  | .nilS, _, _, hh, _ => hh
  | .nilP, _, _, hh, _ => hh
  | .val t x, _, _, hh, _ => hh
  | .ref b v o, _, _, hh, _ => hh
  | .osl b v, _, _, hh, _ => hh
  | .imm t x o, _, _, hh, _ => hh
  | .oel b v i o, _, _, hh, _ => hh
  | .fn f c, _, _, hh, _ => hh
theorem decL_noTup (c : Nat) : ∀ (ls : List LSh) (d : lsDen ls), ∀ x ∈ decL c ls d, ∀ l, x ≠ .tup l
  | [], _, x, h, _ => by cases h
  | .v t :: ls, d, x, h, l => by
    rcases List.mem_cons.1 h with rfl | h
    · simp
    · exact decL_noTup c ls d.2 x h l
  | .top :: ls, d, x, h, l => by
    rcases List.mem_cons.1 h with rfl | h
    · simp
    · exact decL_noTup c ls d x h l
  | .ref k o :: ls, d, x, h, l => by
    rcases List.mem_cons.1 h with rfl | h
    · simp
    · exact decL_noTup c ls d x h l
  | .osl k :: ls, d, x, h, l => by
    rcases List.mem_cons.1 h with rfl | h
    · simp
    · exact decL_noTup c ls d x h l
theorem decS_noTup (c : Nat) : ∀ (ls : List SSh) (d : ssDen ls), ∀ x ∈ decS c ls d, ∀ l, x ≠ .tup l
  | [], _, x, h, _ => by cases h
  | .any :: ls, d, x, h, l => by
    rcases List.mem_cons.1 h with rfl | h
    · simp
    · exact decS_noTup c ls d x h l
  | .mk ag lss :: ls, d, x, h, l => by
    rcases List.mem_cons.1 h with rfl | h
    · unfold decS1
      cases ag with
      | true => simp
      | false =>
        simp only [cond_false]
        split
        · rename_i y hy
          exact decL_noTup c lss d.1 y (by rw [hy]; exact List.mem_cons_self ..) l
        · simp
    · exact decS_noTup c ls d.2 x h l
/-- Results by slots: as one value. -/
theorem res_rel {bs : Boxes} {l : List AV} {vs : List Value} (hn : ∀ x ∈ l, ∀ k, x ≠ .tup k) (h : All2 (VRel E.ET g bs w) l vs) :
    VRel E.ET g bs w (resAV l) (if h : vs.toArray.size = 1 then vs.toArray[0] else .tuple vs.toArray) := by
  have all : ∀ {l : List AV} {vs : List Value}, (∀ x ∈ l, ∀ k, x ≠ .tup k) → All2 (VRel E.ET g bs w) l vs → All2 (CRel E.ET g bs w) l vs := by
    intro l
    induction l with
    | nil => intro vs _ h; cases vs with | nil => trivial | cons _ _ => exact h.elim
    | cons x l ih =>
      intro vs hn h
      cases vs with
      | nil => exact h.elim
      | cons v vs => exact ⟨h.1.noTup (hn x (List.mem_cons_self ..)), ih (fun y hy => hn y (List.mem_cons_of_mem _ hy)) h.2⟩
  match l, vs, h with
  | [], [], _ => exact ⟨[], rfl, trivial⟩
  | [x], [v], h => exact h.1
  | x :: y :: l, v :: u :: vs, h =>
    rw [dif_neg (by simp)]
    exact ⟨_, rfl, all hn h⟩
  | [], _ :: _, h => exact h.elim
  | [_], [], h => exact h.elim
  | [_], _ :: _ :: _, h => exact h.2.elim
  | _ :: _ :: _, [], h => exact h.elim
  | _ :: _ :: _, [_], h => exact h.2.elim
theorem all2_of_get : ∀ {l : List AV} {vs : List Value} {bs : Boxes}, l.length = vs.length → (∀ i, VRel E.ET g bs w (getS l i) (vs.getD i undef)) → All2 (VRel E.ET g bs w) l vs
  | [], [], _, _, _ => trivial
  | x :: l, v :: vs, bs, hl, h => ⟨h 0, all2_of_get (by simpa using hl) (fun i => h (i + 1))⟩
  | [], _ :: _, _, h, _ => by simp at h
  | _ :: _, [], _, h, _ => by simp at h
theorem get_of_all2 : ∀ {l : List AV} {vs : List Value} {bs : Boxes}, All2 (VRel E.ET g bs w) l vs → ∀ i, VRel E.ET g bs w (getS l i) (vs.getD i undef)
  | [], [], _, _, i => trivial
  | x :: l, v :: vs, bs, h, 0 => h.1
  | x :: l, v :: vs, bs, h, i + 1 => get_of_all2 (l := l) h.2 i
  | [], _ :: _, _, h, _ => h.elim
  | _ :: _, [], _, h, _ => h.elim
/-- One result, as the machine reads it. -/
def oneRes (tmps : Array Value) : ResultVar → Sem Value
  | .tmp t => pure (tmps.getD t undef)
  | .cell a t => do loadVar t (← asAddr (tmps.getD a undef))
theorem asAddr_of_load {T : TypeId} {v u : Value} (h : (Instr.loadAt T v).run P w = .ok u w) : (do loadVar T (← asAddr v)).run P w = .ok u w := by
  cases v with
  | pointer p =>
    cases p with
    | some a => simpa [Instr.loadAt, Instr.sureAddr, asAddr] using h
    | none => simp [Instr.loadAt, Instr.sureAddr, stuck] at h
  | _ => simp [Instr.loadAt, Instr.sureAddr, stuck] at h
theorem resSlots_run (hE : EnvOk P E) {st : St} {tmps : Array Value} (hs : ∀ i, VRel E.ET g st.bs w (getS st.slots i) (tmps.getD i undef)) (hb : BsRel E.ET g st.bs w) : ∀ {rs : List RV} {l : List AV}, resSlots E st rs = some l →
    l.length = rs.length ∧ ∃ vs, All2 (VRel E.ET g st.bs w) l vs ∧ ((rs.map RV.toR).mapM (oneRes tmps)).run P w = .ok vs w
  | [], l, h => by
    simp only [resSlots, Option.some.injEq] at h
    subst h
    exact ⟨rfl, [], trivial, by simp⟩
  | r :: rs, l, h => by
    simp only [resSlots] at h
    split at h
    · rename_i x hx
      split at h
      · rename_i l' hl'
        simp only [Option.some.injEq] at h
        subst h
        obtain ⟨i0, vs, i1, i2⟩ := resSlots_run hE hs hb hl'
        have hone : ∃ u, VRel E.ET g st.bs w x u ∧ (oneRes tmps r.toR).run P w = .ok u w := by
          cases r with
          | tmp t =>
            simp only [resOne, Option.some.injEq] at hx
            subst hx
            exact ⟨_, hs t, by simp [oneRes, RV.toR]⟩
          | cell a T =>
            simp only [resOne] at hx
            obtain ⟨v, u, k1, k2, k3⟩ := load_sound hE hx (hs a) hb
            simp only [Option.some.injEq] at k1
            subst k1
            exact ⟨u, k2, asAddr_of_load k3⟩
        obtain ⟨u, u1, u2⟩ := hone
        refine ⟨by simp [i0], u :: vs, ⟨u1, i1⟩, ?_⟩
        rw [List.map_cons, List.mapM_cons]
        simp only [Sem.run_bind, u2, i2, Result.andThen_ok, Sem.run_pure]
      · cases h
    · cases h
theorem results_run {fn : Func} {rs : List RV} {tmps : Array Value} {vs : List Value} (hr : fn.results = (rs.map RV.toR).toArray) (h : ((rs.map RV.toR).mapM (oneRes tmps)).run P w = .ok vs w) :
    (results fn tmps).run P w = .ok (if h : vs.toArray.size = 1 then vs.toArray[0] else .tuple vs.toArray) w := by
  unfold results
  rw [hr]
  simp only [Array.mapM_eq_mapM_toList, List.toList_toArray, Sem.run_bind, Sem.run_map]
  have e : (List.map RV.toR rs).mapM (fun | .tmp t => (pure (tmps.getD t undef) : Sem Value) | .cell a t => do loadVar t (← asAddr (tmps.getD a undef))) = (rs.map RV.toR).mapM (oneRes tmps) := by
    congr 1
  erw [e, h]
  simp only [Result.andThen_ok, Sem.run_pure]
/-- THE BODY: what the evaluator tells of a function's data holds of the call. -/
theorem fn_of_body (hE : EnvOk P E) {f : FuncId} {fn : Func} {c : Code} {pi po : PSh} {F : pi.den → Option po.den} (hf : P.funcs[f]? = some fn) (hname : (fn.name == "runtime.NumGoroutine") = false) (hb : fn.body = some c)
    (rs : List RV) (hr : fn.results = (rs.map RV.toR).toArray) (hrs : rs.length = po.slots.length) (hnt : pi.slots.length ≤ fn.ntmps)
    (cuts : List Nat) (L : Nat → Pts po.den) (h0 : ∀ x ∈ L 0, ∀ d, x.2.2 d = none)
    (hL : ∀ k, ∀ x ∈ L (k + 1), ∀ d out, x.2.2 d = some out → evAt E (tab (L k)) cuts x.1 c 0 (finK E po rs) (ptSt x.2.1 d) = some out)
    (hF : ∀ d out, F d = some out → ∃ k, evCode E (tab (L k)) cuts c 0 (finK E po rs) (startSt pi fn.ntmps d) = some out) : FnOk P E.ET f pi po F := by
  refine ⟨⟨fn, hf, hname, by rw [hb]; rfl⟩, fun d out hd g w vals hvl hv hbs cc => ?_⟩
  obtain ⟨k, hk⟩ := hF d out hd
  refine calls_of_wp hf hb ?_
  let Q : Post := bodyPost P fn fun e w' => ∃ u g', e = .returned u ∧ VRel E.ET g' (po.decB cc out) w' (resAV (po.decS cc out)) u ∧ BsRel E.ET g' (po.decB cc out) w' ∧ Fr g w g' w'
  show c.wp P Q _ _
  have hfin : ∀ (st : St) (a : Act) (w' : World), RlOf E.ET g [] w st a w' → (match resSlots E st rs with | some l => po.enc zAll l st.bs | none => none) = some out → Q .ret a w' ∧ Q .normal a w' := by
    intro st a w' ⟨g1, hr1⟩ he
    split at he
    · rename_i l hl
      obtain ⟨hll, vs, hvs, hrun⟩ := resSlots_run hE hr1.slots hr1.boxes hl
      obtain ⟨⟨k1, k2⟩, k3, k4⟩ := canon (c := cc) he hr1.boxes (fun i => vs.getD i undef) (get_of_all2 hvs)
      have hlen : (po.decS cc out).length = vs.length := by
        rw [← hvs.length, hll, hrs]; exact length_decS cc po.slots out.2
      have hall := all2_of_get hlen k2
      have hres := res_rel (fun x hx l => decS_noTup cc po.slots out.2 x hx l) hall
      have hrun := results_run hr hrun
      have hq : a.defers = [] ∧ ∃ v, (results fn a.tmps).run P w' = .ok v w' ∧ ∃ u g', Ending.returned v = .returned u ∧ VRel E.ET g' (po.decB cc out) w' (resAV (po.decS cc out)) u ∧ BsRel E.ET g' (po.decB cc out) w' ∧ Fr g w g' w' :=
        ⟨hr1.defers, _, hrun, _, _, rfl, hres, k3, hr1.ext.fr.trans k4⟩
      exact ⟨hq, hq⟩
    · cases he
  have hgood : Good (RlOf E.ET g [] w) out (finK E po rs) Q := by
    refine ⟨fun st a w' h1 h2 => (hfin st a w' h1 h2).2, fun st a w' h1 h2 => (hfin st a w' h1 h2).1, fun i st a w' h1 h2 => by cases h2⟩
  refine body_sound (regOk hE g [] w) (drawOk hE g [] w) (condOk E.ET g [] w) (fun k => tab (L k)) c (finK E po rs) Q ?_ ?_ hgood k (startSt pi fn.ntmps d) _ w ?_ hk
  · intro j st
    cases ht : tab (L 0) j st with
    | none => rfl
    | some y =>
      obtain ⟨x, hx, _, d', _, h2⟩ := tab_some ht
      rw [h0 x hx d'] at h2; cases h2
  · intro k j st ht
    obtain ⟨x, hx, rfl, d', h1, h2⟩ := tab_some ht
    refine ⟨ptSt x.2.1 d', hL k x hx d' out h2, fun a w' ⟨g1, hr1⟩ => ?_⟩
    obtain ⟨⟨k1, k2⟩, k3, k4⟩ := canon (c := C0) h1 hr1.boxes (fun i => a.tmps.getD i undef) hr1.slots
    exact ⟨_, Nat.le_trans k1 hr1.size, k2, k3, hr1.defers, hr1.ext.fr.trans k4, fun b => Nat.zero_le _, fun b ver T cells hv => absurd hv (Nat.not_lt_zero _), fun b ver T t xs hv => absurd hv (Nat.not_lt_zero _)⟩
  · -- the beginning
    have hdl : (pi.decS C0 d).length = pi.slots.length := length_decS C0 pi.slots d.2
    refine ⟨g, ?_, ?_, hbs, rfl, Fr.refl g w, fun b => Nat.zero_le _, fun b ver T cells hv => absurd hv (Nat.not_lt_zero _), fun b ver T t xs hv => absurd hv (Nat.not_lt_zero _)⟩
    · simp only [startSt, appN_eq, List.length_append, hdl, length_undN, Array.size_append, List.size_toArray, Array.size_replicate, hvl]
      exact Nat.le_refl _
    · intro i
      simp only [startSt, appN_eq]
      by_cases hi : i < vals.length
      · rw [getS_append_lt (by omega)]
        have e : (vals.toArray ++ Array.replicate (fn.ntmps - vals.toArray.size) undef).getD i undef = vals.getD i undef := by
          rw [Array.getD_eq_getD_getElem?, Array.getElem?_append_left (by simpa using hi), List.getElem?_toArray, List.getD_eq_getElem?_getD]
        rw [e]; exact hv i
      · rw [getS_append_ge (by omega)]
        have e : (vals.toArray ++ Array.replicate (fn.ntmps - vals.toArray.size) undef).getD i undef = undef := by
          rw [Array.getD_eq_getD_getElem?, Array.getElem?_append_right (by simpa using hi), Array.getElem?_replicate]
          split <;> rfl
        rw [e]
        rcases getS_undN (fn.ntmps - pi.slots.length) (i - (pi.decS C0 d).length) with h | h <;> rw [h]
        · exact (rfl : undef = undef)
        · trivial
end
end Go.Proofs.Ytnielkimpieofaa.Ev
