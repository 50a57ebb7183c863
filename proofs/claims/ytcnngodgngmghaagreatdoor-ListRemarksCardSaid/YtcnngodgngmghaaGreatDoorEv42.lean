/- A call told by its callee's body, at the place of the call: loops by so many rounds at most. -/
import Derived.Test.YtcnngodgngmghaaGreatDoorEvE
namespace Go.Proofs.YtcnngodgngmghaaGreatDoor.Ev
open Go
open Go.RowKit
set_option linter.unusedVariables false
set_option linter.unusedSimpArgs false
set_option linter.unusedSectionVars false
noncomputable section
section
variable {R : Type}
/-- So many rounds at most. -/
def iterU (g : (St → Option R) → St → Option R) : Nat → St → Option R
  | 0 => fun _ => none
  | n + 1 => g (iterU g n)
/-- Code without a table: loops unrolled. -/
def evU (E : Env) (fuel : Nat) : Code → Kont R → St → Option R
  | .skip, K, st => K.normal st
  | .region id ops draw, K, st => bif draw then evOpsL E ops.toList (freezeT E st (frzOf E.frz (some (1000000 + id)))) K.normal else evOpsF E ops.toList ops.toList st K.normal
  | .seq a b, K, st => evU E fuel a { K with normal := evU E fuel b K } st
  | .cond c a b, K, st =>
    match c with
    | .tmp t => match getS st.slots t with
      | .val .bool x => cond x (evU E fuel a K ⟨setS st.slots t (.val .bool true), st.bs⟩) (evU E fuel b K ⟨setS st.slots t (.val .bool false), st.bs⟩)
      | _ => none
    | .const (.bool x) => cond x (evU E fuel a K st) (evU E fuel b K st)
    | _ => none
  | .block i b, K, st => evU E fuel b { K with exits := (i, K.normal) :: K.exits } st
  | .loop b, K, st => iterU (fun k => evU E fuel b { K with normal := k }) fuel st
  | .exit i, K, st => findExit K.exits i st
  | .ret, K, st => K.ret st
  | .scope b, K, st => evU E fuel b K st
  | .label _, K, st => K.normal st
  | _, _, _ => none
def noTupB : List AV → Bool
  | [] => true
  | .tup _ :: _ => false
  | _ :: l => noTupB l
/-- At the end: the results go to the caller. -/
def finU (E : Env) (rs : List RV) (K : AV → Boxes → Option R) (st : St) : Option R :=
  match resSlots E st rs with
  | some l => bif noTupB l then K (resAV l) st.bs else none
  | none => none
end
/-- A callee told at the place of its call. -/
def inlSem (E : Env) (body : Code) (np nt fuel : Nat) (rs : List RV) : CallSem :=
  ⟨fun dd args bs R K => bif Nat.beq (lenN args) np && Nat.ble np nt then
    evU { E with base := callBase dd, keep := [] } fuel body ⟨finU E rs K, finU E rs K, []⟩ ⟨appN args (undN (nt - np)), bs⟩ else none, none⟩

section
variable {P : Program} {E : Env} {R : Type} {Rl : SRel} {out : R}
theorem evU_sound {fuel : Nat} (hreg : RegOk (R := R) P E Rl out) (hdr : DrawOk (R := R) P E Rl out) (hc : CondOk Rl) : ∀ (c : Code) (K : Kont R) (Q : Post) (st : St) (a : Act) (w : World),
    Good Rl out K Q → Rl st a w → evU E fuel c K st = some out → c.wp P Q a w
  | .skip, K, Q, st, a, w, hg, hr, he => wp_skip (hg.normal _ _ _ hr he)
  | .region id ops draw, K, Q, st, a, w, hg, hr, he => by
    simp only [evU] at he
    cases draw with
    | true => have hd := hdr id ops st K.normal a w Q hr he (fun st' a' w' h1 _ h2 => hg.normal _ _ _ h1 h2); exact wp_region_any hd.1 hd.2
    | false => exact wp_region_list (by simpa using hreg ops.toList ops.toList st K.normal a w Q hr he (fun st' a' w' h1 h2 => hg.normal _ _ _ h1 h2))
  | .seq x y, K, Q, st, a, w, hg, hr, he => by
    refine wp_seq ?_
    exact evU_sound hreg hdr hc x _ _ st a w (good_seq hg fun st' a' w' hr' hn => evU_sound hreg hdr hc y K Q st' a' w' hg hr' hn) hr he
  | .cond c x y, K, Q, st, a, w, hg, hr, he => by
    simp only [evU] at he
    cases c with
    | tmp t =>
      simp only at he
      split at he
      · rename_i b hb
        refine wp_cond (t := b) (hc.yes _ _ _ _ _ hr hb) ?_
        have hs := hc.set _ _ _ _ _ hr hb
        cases b with
        | true => exact evU_sound hreg hdr hc x K Q _ a w hg hs he
        | false => exact evU_sound hreg hdr hc y K Q _ a w hg hs he
      · cases he
    | const v =>
      cases v with
      | bool b =>
        refine wp_cond (t := b) rfl ?_
        cases b with
        | true => exact evU_sound hreg hdr hc x K Q st a w hg hr he
        | false => exact evU_sound hreg hdr hc y K Q st a w hg hr he
      | _ => cases he
    | _ => cases he
  | .block i b, K, Q, st, a, w, hg, hr, he => wp_block (evU_sound hreg hdr hc b _ _ st a w (good_block hg) hr he)
  | .loop b, K, Q, st, a, w, hg, hr, he => by
    have key : ∀ (n : Nat) (st : St) (a : Act) (w : World), Rl st a w → iterU (fun k => evU E fuel b { K with normal := k }) n st = some out → Code.rounds P b Q n a w := by
      intro n
      induction n with
      | zero => intro st a w _ h; cases h
      | succ n ih =>
        intro st a w hr h
        exact evU_sound hreg hdr hc b _ (Exit.then (Code.rounds P b Q n) Q) st a w (good_seq hg fun st' a' w' hr' hn => ih st' a' w' hr' hn) hr h
    exact wp_loop_rounds fuel (key fuel st a w hr he)
  | .exit i, K, Q, st, a, w, hg, hr, he => wp_exit (hg.exits _ _ _ _ hr he)
  | .ret, K, Q, st, a, w, hg, hr, he => wp_ret (hg.ret _ _ _ hr he)
  | .rangeFunc f ps asn b, _, _, _, _, _, _, _, he => by simp [evU] at he
  | .scope b, K, Q, st, a, w, hg, hr, he => wp_scope_straight (evU_sound hreg hdr hc b _ _ st a w (good_scope hg) hr he)
  | .label _, K, Q, st, a, w, hg, hr, he => wp_label (hg.normal _ _ _ hr he)
  | .goto _, _, _, _, _, _, _, _, he => by simp [evU] at he
  | .refuse _, _, _, _, _, _, _, _, he => by simp [evU] at he
theorem noTupB_iff : ∀ {l : List AV}, noTupB l = true → ∀ x ∈ l, ∀ k, x ≠ .tup k
  | [], _, x, h, _ => by cases h
  | a :: l, hn, x, h, k => by
    cases a with
    | tup _ => cases hn
    | _ =>
      rcases List.mem_cons.1 h with rfl | h
      · intro e; cases e
      · exact noTupB_iff (l := l) hn x h k
theorem inl_ok (hE : EnvOk P E) {f : FuncId} {fn : Func} {c : Code} {rs : List RV} {np fuel : Nat} (hf : P.funcs[f]? = some fn) (hname : (fn.name == "runtime.NumGoroutine") = false) (hb : fn.body = some c)
    (hr : fn.results = (rs.map RV.toR).toArray) : CallOk P E.ET f (inlSem E c np fn.ntmps fuel rs) := by
  refine ⟨⟨fn, hf, hname, by rw [hb]; rfl⟩, fun dd args bs R K out h g w vals hG hv hbs => ?_, fun n h => by cases h⟩
  have h1 : (bif Nat.beq (lenN args) np && Nat.ble np fn.ntmps then
    evU { E with base := callBase dd, keep := [] } fuel c ⟨finU E rs K, finU E rs K, []⟩ ⟨appN args (undN (fn.ntmps - np)), bs⟩ else none) = some out := h
  cases hc : (Nat.beq (lenN args) np && Nat.ble np fn.ntmps) with
  | false => rw [hc] at h1; cases h1
  | true =>
    rw [hc] at h1
    simp only [cond_true] at h1
    simp only [Bool.and_eq_true] at hc
    have hlen : ∀ l : List AV, lenN l = l.length := fun l => by
      induction l with
      | nil => rfl
      | cons _ _ ih => simp [lenN, ih]
    have hnp : args.length = np := by rw [← hlen]; exact Nat.eq_of_beq_eq_true hc.1
    have hnt : np ≤ fn.ntmps := Nat.le_of_ble_eq_true hc.2
    have hvl : vals.length = args.length := hv.length.symm
    have hE' : EnvOk P { E with base := callBase dd, keep := [] } := ⟨hE.rows, hE.calls, hE.mixed, hE.seqs⟩
    refine (callsIn_wide (n := 0)).1 (callsIn_of_wp_marks hf hb trivial (wpIn_wide.2 ?_))
    let RR : Ending → World → Prop := fun e w' => ∃ u v bs' g', e = .returned u ∧ K v bs' = some out ∧ VRel E.ET g' bs' w' v u ∧ BsRel E.ET g' bs' w' ∧ Ext g bs w g' bs' w'
    let Q : Post := bodyPostM Fence.wide 0 P fn RR
    show c.wp P Q _ _
    have hfin : ∀ (st : St) (a : Act) (w0 : World), RlOf E.ET g bs w [] vals st a w0 → finU E rs K st = some out → Q .ret a w0 ∧ Q .normal a w0 := by
      intro st a w0 ⟨⟨g1, hr0⟩, _⟩ he
      have main : Q .ret a w0 := leavesM (g := g1) (bs0 := bs) hr0 fun w' hr1 => ?main
      exact ⟨main, main⟩
      case main =>
      unfold finU at he
      split at he
      · rename_i l hl
        cases hn : noTupB l with
        | false => rw [hn] at he; cases he
        | true =>
          rw [hn] at he
          obtain ⟨hll, vs, hvs, hrun⟩ := resSlots_run hE hr1.slots hr1.boxes hl
          have hres := res_rel (noTupB_iff hn) hvs
          have hrun := results_run hr hrun
          have hq : ∃ v, (results fn a.tmps).run P w' = .ok v w' ∧ RR (.returned v) w' :=
            ⟨_, hrun, _, _, _, g1, rfl, he, hres, hr1.boxes, hr1.ext⟩
          exact hq
      · cases he
    have hgood : Good (RlOf E.ET g bs w [] vals) out ⟨finU E rs K, finU E rs K, []⟩ Q :=
      ⟨fun st a w' h1 h2 => (hfin st a w' h1 h2).2, fun st a w' h1 h2 => (hfin st a w' h1 h2).1, fun i st a w' h1 h2 => by cases h2⟩
    refine evU_sound (E := { E with base := callBase dd, keep := [] }) (regOk hE' g bs w vals) (drawOk hE' g bs w vals) (condOk E.ET g bs w [] vals) c _ Q _ _ w hgood ⟨⟨g, hG, ?_, ?_, hbs, trivial, Ext.refl _ _ _⟩, fun i hi => by cases hi⟩ h1
    · simp only [appN_eq, List.length_append, length_undN, Array.size_append, List.size_toArray, Array.size_replicate, hvl, hnp]
      exact Nat.le_refl _
    · intro i
      simp only [appN_eq]
      by_cases hi : i < vals.length
      · rw [getS_append_lt (by omega)]
        have e : (vals.toArray ++ Array.replicate (fn.ntmps - vals.toArray.size) undef).getD i undef = vals.getD i undef := by
          rw [Array.getD_eq_getD_getElem?, Array.getElem?_append_left (by simpa using hi), List.getElem?_toArray, List.getD_eq_getElem?_getD]
        rw [e]; exact get_of_all2 hv i
      · rw [getS_append_ge (by omega)]
        have e : (vals.toArray ++ Array.replicate (fn.ntmps - vals.toArray.size) undef).getD i undef = undef := by
          rw [Array.getD_eq_getD_getElem?, Array.getElem?_append_right (by simpa using hi), Array.getElem?_replicate]
          split <;> rfl
        rw [e]
        rcases getS_undN (fn.ntmps - np) (i - args.length) with h | h <;> rw [h]
        · exact (rfl : undef = undef)
        · trivial
end
end
end Go.Proofs.YtcnngodgngmghaaGreatDoor.Ev
