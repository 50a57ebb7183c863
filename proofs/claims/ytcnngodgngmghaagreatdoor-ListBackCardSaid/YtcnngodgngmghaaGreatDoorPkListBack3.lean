/- Own texts, put together: see the row's text for what is proved. -/
import Derived.Test.YtcnngodgngmghaaGreatDoorPkListBack2
namespace Go.Proofs.YtcnngodgngmghaaGreatDoor.Ev
open Go
open Go.RowKit
set_option linter.unusedVariables false
set_option linter.unusedSimpArgs false
set_option linter.unusedSectionVars false
noncomputable section
section
variable {R : Type}
def A4n (g : (St -> Option R) -> St -> Option R) : Nat -> St -> Option R
 | 0 => fun _ => none
 | n + 1 => g (A4n g n)
def evU (E : Env) (fuel : Nat) : Code -> Aaq R -> St -> Option R
 | .skip, K, st => K.normal st
 | .region id ops draw, K, st => bif draw then Aqt E ops.toList (Vi E st (Ajy E.frz (some (1000000 + id)))) K.normal else Aoo E ops.toList ops.toList st K.normal
 | .seq a b, K, st => evU E fuel a { K with normal := evU E fuel b K } st
 | .cond c a b, K, st =>
  match c with
  | .tmp t => match Gt st.slots t with
   | .val .bool x => cond x (evU E fuel a K ⟨Ul st.slots t (.val .bool true), st.bs⟩) (evU E fuel b K ⟨Ul st.slots t (.val .bool false), st.bs⟩)
   | _ => none
  | .const (.bool x) => cond x (evU E fuel a K st) (evU E fuel b K st)
  | _ => none
 | .block i b, K, st => evU E fuel b { K with exits := (i, K.normal) :: K.exits } st
 | .loop b, K, st => A4n (fun k => evU E fuel b { K with normal := k }) fuel st
 | .exit i, K, st => K6 K.exits i st
 | .ret, K, st => K.ret st
 | .scope b, K, st => evU E fuel b K st
 | .label _, K, st => K.normal st
 | _, _, _ => none
def Aur : List AV -> Bool
 | [] => true
 | .tup _ :: _ => false
 | _ :: l => Aur l
def A4d (E : Env) (rs : List RV) (K : AV -> Ad -> Option R) (st : St) : Option R :=
 match Uz E st rs with
 | some l => bif Aur l then K (Aed l) st.bs else none
 | none => none
end
def At8 (E : Env) (body : Code) (np nt fuel : Nat) (rs : List RV) : L1 :=
 ⟨fun dd args bs R K => bif Nat.beq (Rt args) np && Nat.ble np nt then
  evU { E with base := A8 dd, keep := [] } fuel body ⟨A4d E rs K, A4d E rs K, []⟩ ⟨Aw0 args (A1i (nt - np)), bs⟩ else none, none⟩
section
variable {P : Program} {E : Env} {R : Type} {Rl : Awq} {out : R}
theorem Kz {fuel : Nat} (hreg : Awh (R := R) P E Rl out) (hdr : Al1 (R := R) P E Rl out) (hc : Aln Rl) : ∀ (c : Code) (K : Aaq R) (Q : Nf) (st : St) (a : Act) (w : World),
  Aq7 Rl out K Q -> Rl st a w -> evU E fuel c K st = some out -> c.wp P Q a w
 | .skip, K, Q, st, a, w, hg, hr, he => wp_skip (hg.normal _ _ _ hr he)
 | .region id ops draw, K, Q, st, a, w, hg, hr, he => by
  simp only [evU] at he
  cases draw with
  | true => have hd := hdr id ops st K.normal a w Q hr he (fun st' a' w' h1 _ h2 => hg.normal _ _ _ h1 h2); exact wp_region_any hd.1 hd.2
  | false => exact wp_region_list (by simpa using hreg ops.toList ops.toList st K.normal a w Q hr he (fun st' a' w' h1 h2 => hg.normal _ _ _ h1 h2))
 | .seq x y, K, Q, st, a, w, hg, hr, he => by
  refine wp_seq ?_
  exact Kz hreg hdr hc x _ _ st a w (Yg hg fun st' a' w' hr' hn => Kz hreg hdr hc y K Q st' a' w' hg hr' hn) hr he
 | .cond c x y, K, Q, st, a, w, hg, hr, he => by
  simp only [evU] at he
  cases c with
  | tmp t =>
   simp only at he
   split at he
   ·rename_i b hb
    refine wp_cond (t := b) (hc.yes _ _ _ _ _ hr hb) ?_
    have hs := hc.set _ _ _ _ _ hr hb
    cases b with
    | true => exact Kz hreg hdr hc x K Q _ a w hg hs he
    | false => exact Kz hreg hdr hc y K Q _ a w hg hs he
   ·cases he
  | const v =>
   cases v with
   | bool b =>
    refine wp_cond (t := b) rfl ?_
    cases b with
    | true => exact Kz hreg hdr hc x K Q st a w hg hr he
    | false => exact Kz hreg hdr hc y K Q st a w hg hr he
   | _ => cases he
  | _ => cases he
 | .block i b, K, Q, st, a, w, hg, hr, he => wp_block (Kz hreg hdr hc b _ _ st a w (Yt hg) hr he)
 | .loop b, K, Q, st, a, w, hg, hr, he => by
  have key : ∀ (n : Nat) (st : St) (a : Act) (w : World), Rl st a w -> A4n (fun k => evU E fuel b { K with normal := k }) n st = some out -> Code.rounds P b Q n a w := by
   intro n
   induction n with
   | zero => intro st a w _ h; cases h
   | succ n ih =>
    intro st a w hr h
    exact Kz hreg hdr hc b _ (Exit.then (Code.rounds P b Q n) Q) st a w (Yg hg fun st' a' w' hr' hn => ih st' a' w' hr' hn) hr h
  exact wp_loop_rounds fuel (key fuel st a w hr he)
 | .exit i, K, Q, st, a, w, hg, hr, he => wp_exit (hg.exits _ _ _ _ hr he)
 | .ret, K, Q, st, a, w, hg, hr, he => wp_ret (hg.ret _ _ _ hr he)
 | .rangeFunc f ps asn b, _, _, _, _, _, _, _, he => by simp [evU] at he
 | .scope b, K, Q, st, a, w, hg, hr, he => wp_scope_straight (Kz hreg hdr hc b _ _ st a w (Ad1 hg) hr he)
 | .label _, K, Q, st, a, w, hg, hr, he => wp_label (hg.normal _ _ _ hr he)
 | .goto _, _, _, _, _, _, _, _, he => by simp [evU] at he
 | .refuse _, _, _, _, _, _, _, _, he => by simp [evU] at he
theorem Alr : ∀ {l : List AV}, Aur l = true -> ∀ x ∈ l, ∀ k, x ≠ .tup k
 | [], _, x, h, _ => by cases h
 | a :: l, hn, x, h, k => by
  cases a with
  | tup _ => cases hn
  | _ =>
   rcases List.mem_cons.1 h with rfl | h
   ·intro e; cases e
   ·exact Alr (l := l) hn x h k
theorem A0y (hE : C8 P E) {f : FuncId} {fn : Func} {c : Code} {rs : List RV} {np fuel : Nat} (hf : P.funcs[f]? = some fn) (hname : (fn.name == "runtime.NumGoroutine") = false) (hb : fn.body = some c)
  (hr : fn.results = (rs.map RV.toR).toArray) : Afa P E.ET f (At8 E c np fn.ntmps fuel rs) := by
 refine ⟨⟨fn, hf, hname, by rw [hb]; rfl⟩, fun dd args bs R K out h g w vals hG hv hbs => ?_, fun n h => by cases h⟩
 have h1 : (bif Nat.beq (Rt args) np && Nat.ble np fn.ntmps then
  evU { E with base := A8 dd, keep := [] } fuel c ⟨A4d E rs K, A4d E rs K, []⟩ ⟨Aw0 args (A1i (fn.ntmps - np)), bs⟩ else none) = some out := h
 cases hc : (Nat.beq (Rt args) np && Nat.ble np fn.ntmps) with
 | false => rw [hc] at h1; cases h1
 | true =>
  rw [hc] at h1
  simp only [cond_true] at h1
  simp only [Bool.and_eq_true] at hc
  have hlen : ∀ l : List AV, Rt l = l.length := fun l => by
   induction l with
   | nil => rfl
   | cons _ _ ih => simp [Rt, ih]
  have hnp : args.length = np := by rw [<- hlen]; exact Nat.eq_of_beq_eq_true hc.1
  have hnt : np <= fn.ntmps := Nat.le_of_ble_eq_true hc.2
  have hvl : vals.length = args.length := hv.length.symm
  have hE' : C8 P { E with base := A8 dd, keep := [] } := ⟨hE.rows, hE.calls, hE.mixed, hE.seqs⟩
  refine (callsIn_wide (n := 0)).1 (callsIn_of_wp_marks hf hb trivial (wpIn_wide.2 ?_))
  let RR : Ending -> World -> Prop := fun e w' => ∃ u v bs' g', e = .returned u /\ K v bs' = some out /\ B0 E.ET g' bs' w' v u /\ Cs E.ET g' bs' w' /\ Ext g bs w g' bs' w'
  let Q : Nf := bodyPostM Fence.wide 0 P fn RR
  show c.wp P Q _ _
  have hfin : ∀ (st : St) (a : Act) (w0 : World), Afn E.ET g bs w [] vals st a w0 -> A4d E rs K st = some out -> Q .ret a w0 /\ Q .normal a w0 := by
   intro st a w0 ⟨⟨g1, hr0⟩, _⟩ he
   have main : Q .ret a w0 := Ar3 (g := g1) (bs0 := bs) hr0 fun w' hr1 => ?main
   exact ⟨main, main⟩
   case main =>
   unfold A4d at he
   split at he
   ·rename_i l hl
    cases hn : Aur l with
    | false => rw [hn] at he; cases he
    | true =>
     rw [hn] at he
     obtain ⟨hll, vs, hvs, hrun⟩ := Xa hE hr1.slots hr1.boxes hl
     have hres := Azj (Alr hn) hvs
     have hrun := Ajs hr hrun
     have hq : ∃ v, (results fn a.tmps).run P w' = .ok v w' /\ RR (.returned v) w' :=
      ⟨_, hrun, _, _, _, g1, rfl, he, hres, hr1.boxes, hr1.ext⟩
     exact hq
   ·cases he
  have hgood : Aq7 (Afn E.ET g bs w [] vals) out ⟨A4d E rs K, A4d E rs K, []⟩ Q :=
   ⟨fun st a w' h1 h2 => (hfin st a w' h1 h2).2, fun st a w' h1 h2 => (hfin st a w' h1 h2).1, fun i st a w' h1 h2 => by cases h2⟩
  refine Kz (E := { E with base := A8 dd, keep := [] }) (A48 hE' g bs w vals) (Atw hE' g bs w vals) (Azy E.ET g bs w [] vals) c _ Q _ _ w hgood ⟨⟨g, hG, ?_, ?_, hbs, trivial, Ext.refl _ _ _⟩, fun i hi => by cases hi⟩ h1
  ·simp only [Yb, List.length_append, Vh, Array.size_append, List.size_toArray, Array.size_replicate, hvl, hnp]
   exact Nat.le_refl _
  ·intro i
   simp only [Yb]
   by_cases hi : i < vals.length
   ·rw [Or (by omega)]
    have e : (vals.toArray ++ Array.replicate (fn.ntmps - vals.toArray.size) undef).getD i undef = vals.getD i undef := by
     rw [Array.getD_eq_getD_getElem?, Array.getElem?_append_left (by simpa using hi), List.getElem?_toArray, List.getD_eq_getElem?_getD]
    rw [e]; exact Fz hv i
   ·rw [Ol (by omega)]
    have e : (vals.toArray ++ Array.replicate (fn.ntmps - vals.toArray.size) undef).getD i undef = undef := by
     rw [Array.getD_eq_getD_getElem?, Array.getElem?_append_right (by simpa using hi), Array.getElem?_replicate]
     split <;> rfl
    rw [e]
    rcases Ab6 (fn.ntmps - np) (i - args.length) with h | h <;> rw [h]
    ·exact (rfl : undef = undef)
    ·trivial
end
end
set_option maxRecDepth 100000
set_option maxHeartbeats 2000000
noncomputable section
abbrev vI : LSh := .v (.int .i64)
abbrev kI : SSh := .mk false [vI]
abbrev vB : LSh := .v .bool
abbrev kB : SSh := .mk false [vB]
abbrev vS : LSh := .v .str
abbrev kS : SSh := .mk false [vS]
abbrev vE : LSh := .v .err
abbrev kE : SSh := .mk false [vE]
abbrev v8 : LSh := .v (.int .u8)
abbrev k8 : SSh := .mk false [v8]
def A9v : List (TypeId × Row) := [
 (2, ⟨.int .i64, 1, 8, (.int .i64), [AV.val (.int .i64) (0 : Int)], none⟩),
 (3, ⟨.int .i64, 1, 8, (.int .i64), [AV.val (.int .i64) (0 : Int)], none⟩),
 (5, ⟨.int .u8, 1, 1, (.int .u8), [AV.val (.int .u8) (0 : Int)], none⟩),
 (9, ⟨.str, 1, 16, .str, [AV.val .str ByteArray.empty], none⟩),
 (23, ⟨.ptr, 1, 8, (.nptr (.pair (.sl (.pair (.int .i64) (.int .i64))) (.pair (.int .i64) (.int .i64)))), [AV.nilP], none⟩),
 (25, ⟨.iface, 1, 16, .err, [AV.val .err (none : Option Int)], none⟩),
 (35, ⟨.int .u32, 1, 4, (.int .u32), [AV.val (.int .u32) (0 : Int)], none⟩),
 (36, ⟨.arr 5 35, 5, 20, (.pair (.int .u32) (.pair (.int .u32) (.pair (.int .u32) (.pair (.int .u32) (.int .u32))))), [AV.val (.int .u32) (0 : Int), AV.val (.int .u32) (0 : Int), AV.val (.int .u32) (0 : Int), AV.val (.int .u32) (0 : Int), AV.val (.int .u32) (0 : Int)], some [.int .u32, .int .u32, .int .u32, .int .u32, .int .u32]⟩),
 (42, ⟨.slice 9, 1, 24, (.sl .str), [AV.nilS], none⟩),
 (46, ⟨.slice 70, 1, 24, (.sl (.pair (.int .i64) (.int .i64))), [AV.nilS], none⟩),
 (48, ⟨.struct [(0, 1, false), (1, 1, false), (2, 1, false)], 3, 40, (.pair (.sl (.pair (.int .i64) (.int .i64))) (.pair (.int .i64) (.int .i64))), [AV.nilS, AV.val (.int .i64) (0 : Int), AV.val (.int .i64) (0 : Int)], none⟩),
 (53, ⟨.arr 20 5, 20, 20, (.pair (.int .u8) (.pair (.int .u8) (.pair (.int .u8) (.pair (.int .u8) (.pair (.int .u8) (.pair (.int .u8) (.pair (.int .u8) (.pair (.int .u8) (.pair (.int .u8) (.pair (.int .u8) (.pair (.int .u8) (.pair (.int .u8) (.pair (.int .u8) (.pair (.int .u8) (.pair (.int .u8) (.pair (.int .u8) (.pair (.int .u8) (.pair (.int .u8) (.pair (.int .u8) (.int .u8)))))))))))))))))))), [AV.val (.int .u8) (0 : Int), AV.val (.int .u8) (0 : Int), AV.val (.int .u8) (0 : Int), AV.val (.int .u8) (0 : Int), AV.val (.int .u8) (0 : Int), AV.val (.int .u8) (0 : Int), AV.val (.int .u8) (0 : Int), AV.val (.int .u8) (0 : Int), AV.val (.int .u8) (0 : Int), AV.val (.int .u8) (0 : Int), AV.val (.int .u8) (0 : Int), AV.val (.int .u8) (0 : Int), AV.val (.int .u8) (0 : Int), AV.val (.int .u8) (0 : Int), AV.val (.int .u8) (0 : Int), AV.val (.int .u8) (0 : Int), AV.val (.int .u8) (0 : Int), AV.val (.int .u8) (0 : Int), AV.val (.int .u8) (0 : Int), AV.val (.int .u8) (0 : Int)], some [.int .u8, .int .u8, .int .u8, .int .u8, .int .u8, .int .u8, .int .u8, .int .u8, .int .u8, .int .u8, .int .u8, .int .u8, .int .u8, .int .u8, .int .u8, .int .u8, .int .u8, .int .u8, .int .u8, .int .u8]⟩),
 (57, ⟨.int .i64, 1, 8, (.int .i64), [AV.val (.int .i64) (0 : Int)], none⟩),
 (63, ⟨.slice 5, 1, 24, (.sl (.int .u8)), [AV.nilS], none⟩),
 (70, ⟨.struct [(0, 1, false), (1, 1, false)], 2, 16, (.pair (.int .i64) (.int .i64)), [AV.val (.int .i64) (0 : Int), AV.val (.int .i64) (0 : Int)], some [.int .i64, .int .i64]⟩),
 (73, ⟨.ptr, 1, 8, (.nptr (.int .i64)), [AV.nilP], none⟩),
 (74, ⟨.ptr, 1, 8, (.nptr (.pair (.int .u32) (.pair (.int .u32) (.pair (.int .u32) (.pair (.int .u32) (.int .u32)))))), [AV.nilP], none⟩),
 (76, ⟨.struct [(0, 1, false), (1, 1, false), (2, 1, false), (3, 1, false)], 4, 48, (.pair (.sl (.pair (.int .i64) (.int .i64))) (.pair (.nptr (.int .i64)) (.pair (.nptr (.int .i64)) (.nptr (.pair (.int .u32) (.pair (.int .u32) (.pair (.int .u32) (.pair (.int .u32) (.int .u32))))))))), [AV.nilS, AV.nilP, AV.nilP, AV.nilP], none⟩),
 (88, ⟨.struct [(0, 1, false), (1, 1, false), (2, 1, false)], 3, 40, (.pair (.sl (.pair (.int .i64) (.int .i64))) (.pair (.int .i64) (.int .i64))), [AV.nilS, AV.val (.int .i64) (0 : Int), AV.val (.int .i64) (0 : Int)], none⟩),
 (91, ⟨.struct [(0, 1, false), (1, 1, false)], 2, 40, (.pair (.sl (.int .u8)) .err), [AV.nilS, AV.val .err (none : Option Int)], none⟩),
 (104, ⟨.int .u64, 1, 8, (.int .u64), [AV.val (.int .u64) (0 : Int)], none⟩),
 (117, ⟨.slice 35, 1, 24, (.sl (.int .u32)), [AV.nilS], none⟩),
 (129, ⟨.int .u64, 1, 8, (.int .u64), [AV.val (.int .u64) (0 : Int)], none⟩),
 (135, ⟨.arr 64 5, 64, 64, (.pair (.int .u8) (.pair (.int .u8) (.pair (.int .u8) (.pair (.int .u8) (.pair (.int .u8) (.pair (.int .u8) (.pair (.int .u8) (.pair (.int .u8) (.pair (.int .u8) (.pair (.int .u8) (.pair (.int .u8) (.pair (.int .u8) (.pair (.int .u8) (.pair (.int .u8) (.pair (.int .u8) (.pair (.int .u8) (.pair (.int .u8) (.pair (.int .u8) (.pair (.int .u8) (.pair (.int .u8) (.pair (.int .u8) (.pair (.int .u8) (.pair (.int .u8) (.pair (.int .u8) (.pair (.int .u8) (.pair (.int .u8) (.pair (.int .u8) (.pair (.int .u8) (.pair (.int .u8) (.pair (.int .u8) (.pair (.int .u8) (.pair (.int .u8) (.pair (.int .u8) (.pair (.int .u8) (.pair (.int .u8) (.pair (.int .u8) (.pair (.int .u8) (.pair (.int .u8) (.pair (.int .u8) (.pair (.int .u8) (.pair (.int .u8) (.pair (.int .u8) (.pair (.int .u8) (.pair (.int .u8) (.pair (.int .u8) (.pair (.int .u8) (.pair (.int .u8) (.pair (.int .u8) (.pair (.int .u8) (.pair (.int .u8) (.pair (.int .u8) (.pair (.int .u8) (.pair (.int .u8) (.pair (.int .u8) (.pair (.int .u8) (.pair (.int .u8) (.pair (.int .u8) (.pair (.int .u8) (.pair (.int .u8) (.pair (.int .u8) (.pair (.int .u8) (.pair (.int .u8) (.pair (.int .u8) (.int .u8)))))))))))))))))))))))))))))))))))))))))))))))))))))))))))))))), [AV.val (.int .u8) (0 : Int), AV.val (.int .u8) (0 : Int), AV.val (.int .u8) (0 : Int), AV.val (.int .u8) (0 : Int), AV.val (.int .u8) (0 : Int), AV.val (.int .u8) (0 : Int), AV.val (.int .u8) (0 : Int), AV.val (.int .u8) (0 : Int), AV.val (.int .u8) (0 : Int), AV.val (.int .u8) (0 : Int), AV.val (.int .u8) (0 : Int), AV.val (.int .u8) (0 : Int), AV.val (.int .u8) (0 : Int), AV.val (.int .u8) (0 : Int), AV.val (.int .u8) (0 : Int), AV.val (.int .u8) (0 : Int), AV.val (.int .u8) (0 : Int), AV.val (.int .u8) (0 : Int), AV.val (.int .u8) (0 : Int), AV.val (.int .u8) (0 : Int), AV.val (.int .u8) (0 : Int), AV.val (.int .u8) (0 : Int), AV.val (.int .u8) (0 : Int), AV.val (.int .u8) (0 : Int), AV.val (.int .u8) (0 : Int), AV.val (.int .u8) (0 : Int), AV.val (.int .u8) (0 : Int), AV.val (.int .u8) (0 : Int), AV.val (.int .u8) (0 : Int), AV.val (.int .u8) (0 : Int), AV.val (.int .u8) (0 : Int), AV.val (.int .u8) (0 : Int), AV.val (.int .u8) (0 : Int), AV.val (.int .u8) (0 : Int), AV.val (.int .u8) (0 : Int), AV.val (.int .u8) (0 : Int), AV.val (.int .u8) (0 : Int), AV.val (.int .u8) (0 : Int), AV.val (.int .u8) (0 : Int), AV.val (.int .u8) (0 : Int), AV.val (.int .u8) (0 : Int), AV.val (.int .u8) (0 : Int), AV.val (.int .u8) (0 : Int), AV.val (.int .u8) (0 : Int), AV.val (.int .u8) (0 : Int), AV.val (.int .u8) (0 : Int), AV.val (.int .u8) (0 : Int), AV.val (.int .u8) (0 : Int), AV.val (.int .u8) (0 : Int), AV.val (.int .u8) (0 : Int), AV.val (.int .u8) (0 : Int), AV.val (.int .u8) (0 : Int), AV.val (.int .u8) (0 : Int), AV.val (.int .u8) (0 : Int), AV.val (.int .u8) (0 : Int), AV.val (.int .u8) (0 : Int), AV.val (.int .u8) (0 : Int), AV.val (.int .u8) (0 : Int), AV.val (.int .u8) (0 : Int), AV.val (.int .u8) (0 : Int), AV.val (.int .u8) (0 : Int), AV.val (.int .u8) (0 : Int), AV.val (.int .u8) (0 : Int), AV.val (.int .u8) (0 : Int)], some [.int .u8, .int .u8, .int .u8, .int .u8, .int .u8, .int .u8, .int .u8, .int .u8, .int .u8, .int .u8, .int .u8, .int .u8, .int .u8, .int .u8, .int .u8, .int .u8, .int .u8, .int .u8, .int .u8, .int .u8, .int .u8, .int .u8, .int .u8, .int .u8, .int .u8, .int .u8, .int .u8, .int .u8, .int .u8, .int .u8, .int .u8, .int .u8, .int .u8, .int .u8, .int .u8, .int .u8, .int .u8, .int .u8, .int .u8, .int .u8, .int .u8, .int .u8, .int .u8, .int .u8, .int .u8, .int .u8, .int .u8, .int .u8, .int .u8, .int .u8, .int .u8, .int .u8, .int .u8, .int .u8, .int .u8, .int .u8, .int .u8, .int .u8, .int .u8, .int .u8, .int .u8, .int .u8, .int .u8, .int .u8]⟩),
 (152, ⟨.arr 80 35, 80, 320, .unit, [AV.val (.int .u32) (0 : Int), AV.val (.int .u32) (0 : Int), AV.val (.int .u32) (0 : Int), AV.val (.int .u32) (0 : Int), AV.val (.int .u32) (0 : Int), AV.val (.int .u32) (0 : Int), AV.val (.int .u32) (0 : Int), AV.val (.int .u32) (0 : Int), AV.val (.int .u32) (0 : Int), AV.val (.int .u32) (0 : Int), AV.val (.int .u32) (0 : Int), AV.val (.int .u32) (0 : Int), AV.val (.int .u32) (0 : Int), AV.val (.int .u32) (0 : Int), AV.val (.int .u32) (0 : Int), AV.val (.int .u32) (0 : Int), AV.val (.int .u32) (0 : Int), AV.val (.int .u32) (0 : Int), AV.val (.int .u32) (0 : Int), AV.val (.int .u32) (0 : Int), AV.val (.int .u32) (0 : Int), AV.val (.int .u32) (0 : Int), AV.val (.int .u32) (0 : Int), AV.val (.int .u32) (0 : Int), AV.val (.int .u32) (0 : Int), AV.val (.int .u32) (0 : Int), AV.val (.int .u32) (0 : Int), AV.val (.int .u32) (0 : Int), AV.val (.int .u32) (0 : Int), AV.val (.int .u32) (0 : Int), AV.val (.int .u32) (0 : Int), AV.val (.int .u32) (0 : Int), AV.val (.int .u32) (0 : Int), AV.val (.int .u32) (0 : Int), AV.val (.int .u32) (0 : Int), AV.val (.int .u32) (0 : Int), AV.val (.int .u32) (0 : Int), AV.val (.int .u32) (0 : Int), AV.val (.int .u32) (0 : Int), AV.val (.int .u32) (0 : Int), AV.val (.int .u32) (0 : Int), AV.val (.int .u32) (0 : Int), AV.val (.int .u32) (0 : Int), AV.val (.int .u32) (0 : Int), AV.val (.int .u32) (0 : Int), AV.val (.int .u32) (0 : Int), AV.val (.int .u32) (0 : Int), AV.val (.int .u32) (0 : Int), AV.val (.int .u32) (0 : Int), AV.val (.int .u32) (0 : Int), AV.val (.int .u32) (0 : Int), AV.val (.int .u32) (0 : Int), AV.val (.int .u32) (0 : Int), AV.val (.int .u32) (0 : Int), AV.val (.int .u32) (0 : Int), AV.val (.int .u32) (0 : Int), AV.val (.int .u32) (0 : Int), AV.val (.int .u32) (0 : Int), AV.val (.int .u32) (0 : Int), AV.val (.int .u32) (0 : Int), AV.val (.int .u32) (0 : Int), AV.val (.int .u32) (0 : Int), AV.val (.int .u32) (0 : Int), AV.val (.int .u32) (0 : Int), AV.val (.int .u32) (0 : Int), AV.val (.int .u32) (0 : Int), AV.val (.int .u32) (0 : Int), AV.val (.int .u32) (0 : Int), AV.val (.int .u32) (0 : Int), AV.val (.int .u32) (0 : Int), AV.val (.int .u32) (0 : Int), AV.val (.int .u32) (0 : Int), AV.val (.int .u32) (0 : Int), AV.val (.int .u32) (0 : Int), AV.val (.int .u32) (0 : Int), AV.val (.int .u32) (0 : Int), AV.val (.int .u32) (0 : Int), AV.val (.int .u32) (0 : Int), AV.val (.int .u32) (0 : Int), AV.val (.int .u32) (0 : Int)], some [.int .u32, .int .u32, .int .u32, .int .u32, .int .u32, .int .u32, .int .u32, .int .u32, .int .u32, .int .u32, .int .u32, .int .u32, .int .u32, .int .u32, .int .u32, .int .u32, .int .u32, .int .u32, .int .u32, .int .u32, .int .u32, .int .u32, .int .u32, .int .u32, .int .u32, .int .u32, .int .u32, .int .u32, .int .u32, .int .u32, .int .u32, .int .u32, .int .u32, .int .u32, .int .u32, .int .u32, .int .u32, .int .u32, .int .u32, .int .u32, .int .u32, .int .u32, .int .u32, .int .u32, .int .u32, .int .u32, .int .u32, .int .u32, .int .u32, .int .u32, .int .u32, .int .u32, .int .u32, .int .u32, .int .u32, .int .u32, .int .u32, .int .u32, .int .u32, .int .u32, .int .u32, .int .u32, .int .u32, .int .u32, .int .u32, .int .u32, .int .u32, .int .u32, .int .u32, .int .u32, .int .u32, .int .u32, .int .u32, .int .u32, .int .u32, .int .u32, .int .u32, .int .u32, .int .u32, .int .u32]⟩),
 (157, ⟨.slice 104, 1, 24, (.sl (.int .u64)), [AV.nilS], none⟩),
 (171, ⟨.ptr, 1, 8, (.nptr (.pair .str (.pair (.int .i64) .err))), [AV.nilP], none⟩),
 (194, ⟨.struct [(0, 1, false), (1, 1, false), (2, 1, false)], 3, 40, (.pair .str (.pair (.int .i64) .err)), [AV.val .str ByteArray.empty, AV.val (.int .i64) (0 : Int), AV.val .err (none : Option Int)], none⟩)]
def ET0 : TypeId := 57
def E0 : Env := ⟨A9v, [], ET0, 0, [], [], []⟩
theorem Bv : C8 Tryz.prog E0 := Av2 (by kernel_rfl) (by kernel_rfl) 0
def Af (l : List (Int × Int)) (i : Int) : (Int × Int) := gd (.pair (.int .i64) (.int .i64)) l i
abbrev V6 : PSh := Afs
abbrev Wd : PSh := Ae0
def L6 := X2
theorem Af2 : Gf Tryz.prog ET0 59 V6 Wd L6 := Aqh ⟨Tryz.f59, Tryz.func59, by kernel_rfl, by kernel_rfl⟩ Tryz.strings_Split Awo
def Ah6 := Ak V6 Wd L6
abbrev X0 : PSh := Ajj
abbrev Wi : PSh := Aix
def Oq := Ach
theorem Ahv : Gf Tryz.prog ET0 86 X0 Wi Oq := Atl ⟨Tryz.f86, Tryz.func86, by kernel_rfl, by kernel_rfl⟩ Tryz.strings_Trim_laid
def Akd := Ak X0 Wi Oq
abbrev Iw : PSh := Aeu
abbrev I5 : PSh := Afp
def D3 := Xr
theorem Pv : Gf Tryz.prog ET0 181 Iw I5 D3 := Aq3 ⟨Tryz.f181, Tryz.func181, by kernel_rfl, by kernel_rfl⟩ Tryz.stringslite_Clone
def Qj := Ak Iw I5 D3
abbrev P7 : PSh := V7
abbrev P5 : PSh := V5
def Et := Vc
theorem P3 : Gf Tryz.prog ET0 149 P7 P5 Et := Af5 ⟨Tryz.f149, Tryz.func149, by kernel_rfl, by kernel_rfl⟩ Tryz.strings_IndexByte
def Rr := Ak P7 P5 Et
abbrev Sg : PSh := Z4
abbrev Sp : PSh := Zq
def J8 := Rn
theorem Ab8 : Gf Tryz.prog ET0 148 Sg Sp J8 := Ajw ⟨Tryz.f148, Tryz.func148, by kernel_rfl, by kernel_rfl⟩ Tryz.strings_ToLower_ascii
def Aef := Ak Sg Sp J8
abbrev Y0 : Type := Unit × (((List (Int × Int)) × Unit) × Unit)
abbrev Y1 : Type := ((List (Int × Int)) × Unit) × (Unit × Unit)
abbrev Y2 : Type := Unit × (((Option ((List (Int × Int)) × (Int × Int))) × Unit) × Unit)
abbrev Y3 : Type := ((List Int) × Unit) × (Unit × Unit)
abbrev Y4 : Type := Unit × ((Int × Unit) × ((Int × Unit) × Unit))
abbrev Y5 : Type := Unit × ((Int × Unit) × (((Option Int) × Unit) × Unit))
abbrev Y6 : Type := Unit × (((List Int) × Unit) × Unit)
abbrev Y7 : Type := Unit × (((List Int) × Unit) × (((List Int) × Unit) × Unit))
abbrev Y8 : Type := Unit × ((Int × (Int × (Int × (Int × (Int × Unit))))) × Unit)
abbrev Y9 : Type := Unit × ((Int × (Int × (Int × (Int × (Int × (Int × (Int × (Int × (Int × (Int × (Int × (Int × (Int × (Int × (Int × (Int × (Int × (Int × (Int × (Int × Unit)))))))))))))))))))) × Unit)
abbrev Y10 : Type := (((Option Int) × Unit) × ((List Int) × Unit)) × (Unit × Unit)
abbrev Y11 : Type := Unit × ((Int × (Int × Unit)) × Unit)
abbrev Y12 : Type := Unit × (((List (Int × Int)) × Unit) × (Unit × Unit))
abbrev Y13 : Type := Unit × (((Option ((List (Int × Int)) × (Int × Int))) × Unit) × (((Option Int) × Unit) × Unit))
abbrev Y14 : Type := Unit × ((ByteArray × Unit) × ((ByteArray × Unit) × Unit))
abbrev Y15 : Type := Unit × ((ByteArray × Unit) × Unit)
abbrev Y16 : Type := ((ByteArray × (Int × ((Option Int) × Unit))) × Unit) × (Unit × Unit)
abbrev Y17 : Type := Unit × (((Option (ByteArray × (Int × (Option Int)))) × Unit) × Unit)
abbrev Y18 : Type := Unit × ((ByteArray × Unit) × ((Int × Unit) × Unit))
abbrev Y19 : Type := Unit × ((Int × Unit) × ((Int × Unit) × (((Option Int) × Unit) × Unit)))
abbrev Y20 : Type := Unit × (((Option Int) × Unit) × Unit)
abbrev Y21 : Type := ((ByteArray × (Int × ((Option Int) × Unit))) × Unit) × (Unit × ((Int × Unit) × Unit))
abbrev Y22 : Type := ((ByteArray × (Int × ((Option Int) × Unit))) × Unit) × (((Option Int) × Unit) × (Unit × Unit))
abbrev Y23 : Type := ((ByteArray × (Int × ((Option Int) × Unit))) × Unit) × ((Int × Unit) × (Unit × Unit))
abbrev Y24 : Type := (((Option Int) × ((Option Int) × ((Option (Int × (Int × (Int × (Int × Int))))) × Unit))) × ((List (Int × Int)) × Unit)) × (Unit × ((ByteArray × Unit) × Unit))
abbrev Y25 : Type := (((Option Int) × ((Option Int) × ((Option (Int × (Int × (Int × (Int × Int))))) × Unit))) × ((List (Int × Int)) × Unit)) × (((Option Int) × Unit) × (Unit × Unit))
abbrev B7 : PSh := ⟨[], [.mk false [.v (.sl (.pair (.int .i64) (.int .i64)))]]⟩
abbrev Cv : PSh := ⟨[.row 70 (.pair (.int .i64) (.int .i64))], [.mk false [.osl 0]]⟩
def Gi (T : Unit) (d : Y0) : Option (Y1) :=
 bif d.2.1.1.isEmpty then (
 Atc (
 some ((([] : List (Int × Int)), ()), ((), ()))) (
 let x1 := ([] : List (Int × Int))
 bif decide (((x1.length + d.2.1.1.length) * 16 : Nat) <= 140737488355328) && decide (x1.length + d.2.1.1.length <= 9223372036854775807) then (
 let x2 := (x1 ++ d.2.1.1)
 some ((x2, ()), ((), ())))
 else none))
 else (
 let x3 := ([] : List (Int × Int))
 bif decide (((x3.length + d.2.1.1.length) * 16 : Nat) <= 140737488355328) && decide (x3.length + d.2.1.1.length <= 9223372036854775807) then (
 let x4 := (x3 ++ d.2.1.1)
 some ((x4, ()), ((), ())))
 else none)
def Bm := Gi ()
theorem G4 : Gf Tryz.prog ET0 57 B7 Cv Bm :=
 fn0 (E := E0) (pi := B7) (po := Cv) Bv (fn := Tryz.f57) Tryz.func57 (by kernel_rfl) (by kernel_rfl) [.tmp 2] (by kernel_rfl) rfl rfl rfl [] fun d => by kernel_rfl
def Hs := Ak B7 Cv Bm
abbrev Ch : PSh := ⟨[], [.mk false [.v (.nptr (.pair (.sl (.pair (.int .i64) (.int .i64))) (.pair (.int .i64) (.int .i64))))]]⟩
abbrev Md : PSh := B7
def Q5 (T : Unit) (d : Y2) : Option (Y0) :=
 bif d.2.1.1.isNone then (
 some ((), ((([] : List (Int × Int)), ()), ())))
 else (
 d.2.1.1.bind fun x1 =>
 some ((), ((x1.1, ()), ())))
def H4 := Q5 ()
theorem Sk : Gf Tryz.prog ET0 68 Ch Md H4 :=
 fn0 (E := E0) (pi := Ch) (po := Md) Bv (fn := Tryz.f68) Tryz.func68 (by kernel_rfl) (by kernel_rfl) [.tmp 2] (by kernel_rfl) rfl rfl rfl [] fun d => by kernel_rfl
def T7 := Ak Ch Md H4
abbrev Mb : PSh := Ch
abbrev Mt : PSh := Cv
def Q6 (T : Unit) (d : Y2) : Option (Y1) :=
 (H4 ((), d.2)).bind fun x1 =>
 (Bm ((), x1.2)).bind fun x2 =>
 some (x2.1, ((), ()))
def Es := Q6 ()
theorem Sf : Gf Tryz.prog ET0 34 Mb Mt Es :=
 fn0 (E := ((E0.add 57 Hs).add 68 T7)) (pi := Mb) (po := Mt) (Aa (Aa Bv (Ae G4)) (Ae Sk)) (fn := Tryz.f34) Tryz.func34 (by kernel_rfl) (by kernel_rfl) [.tmp 2] (by kernel_rfl) rfl rfl rfl [] fun d => by kernel_rfl
def Tt := Ak Mb Mt Es
abbrev Jo : PSh := Ch
abbrev Jw : PSh := ⟨[], [kI]⟩
def No (T : Unit) (d : Y2) : Option (Unit × ((Int × Unit) × Unit)) :=
 bif d.2.1.1.isNone then (
 some ((), ((0, ()), ())))
 else (
 d.2.1.1.bind fun x1 =>
 some ((), ((x1.2.1, ()), ())))
def Dh := No ()
theorem O6 : Gf Tryz.prog ET0 35 Jo Jw Dh :=
 fn0 (E := E0) (pi := Jo) (po := Jw) Bv (fn := Tryz.f35) Tryz.func35 (by kernel_rfl) (by kernel_rfl) [.tmp 2] (by kernel_rfl) rfl rfl rfl [] fun d => by kernel_rfl
def P9 := Ak Jo Jw Dh
abbrev Js : PSh := Ch
abbrev Ju : PSh := ⟨[], [kI]⟩
def Nn (T : Unit) (d : Y2) : Option (Unit × ((Int × Unit) × Unit)) :=
 bif d.2.1.1.isNone then (
 some ((), ((0, ()), ())))
 else (
 d.2.1.1.bind fun x1 =>
 some ((), ((x1.2.2, ()), ())))
def Dg := Nn ()
theorem Pe : Gf Tryz.prog ET0 36 Js Ju Dg :=
 fn0 (E := E0) (pi := Js) (po := Ju) Bv (fn := Tryz.f36) Tryz.func36 (by kernel_rfl) (by kernel_rfl) [.tmp 2] (by kernel_rfl) rfl rfl rfl [] fun d => by kernel_rfl
def P8 := Ak Js Ju Dg
abbrev Bi : PSh := ⟨[.row 5 (.int .u8)], [.mk false [.osl 0]]⟩
abbrev E3 : PSh := Bi
abbrev Fc : Type := Y3
abbrev H8 : Type := ((List Int) × Unit) × (Unit × ((Int × Unit) × ((Int × Unit) × Unit)))
abbrev E5 : Type := (((H8) -> Option (Fc)) × Unit)
abbrev Nl : PSh := ⟨[.row 5 (.int .u8)], [.mk false [.osl 0], .any, kI, kI] ++ Ab1 24⟩
def Cb (T : E5) (d : H8) : Option (Fc) :=
 let x3 := (decide (d.2.2.1.1 < d.2.2.2.1.1))
 bif x3 then (
 bif decide ((0 : Int) <= d.2.2.2.1.1) && decide (d.2.2.2.1.1 < (d.1.1.length : Int)) then (
 bif decide ((0 : Int) <= d.2.2.1.1) && decide (d.2.2.1.1 < (d.1.1.length : Int)) then (
 bif decide ((0 : Int) <= d.2.2.1.1) && decide (d.2.2.1.1 < (d.1.1.length : Int)) then (
 let x4 := (List.set d.1.1 (Int.toNat d.2.2.1.1) (gd (.int .u8) d.1.1 d.2.2.2.1.1))
 bif decide ((0 : Int) <= d.2.2.2.1.1) && decide (d.2.2.2.1.1 < (x4.length : Int)) then (
 let x5 := (List.set x4 (Int.toNat d.2.2.2.1.1) (gd (.int .u8) d.1.1 d.2.2.1.1))
 let x6 := (Cr .i64 d.2.2.1.1 1)
 let x7 := (Nj .i64 d.2.2.2.1.1 1)
 (T.1 ((x5, ()), ((), ((x6, ()), ((x7, ()), ()))))))
 else none)
 else none)
 else none)
 else none)
 else (
 some (d.1, ((), ())))
def Bd : Nat -> E5
 | 0 => (fun _ => none, ())
 | k + 1 => (Cb (Bd k), ())
theorem Fd (k : Nat) : Bd (k + 1) = (Cb (Bd k), ()) := rfl
def Ep (T : E5) (d : Y3) : Option (Fc) :=
 let x1 := (d.1.1.length : Int)
 let x2 := (Nj .i64 x1 1)
 (T.1 (d.1, ((), ((0, ()), ((x2, ()), ())))))
def Du (d) := lim fun k => Ep (Bd k) d
theorem Oy : Age Tryz.prog ET0 134 Bi E3 0 [(0, 0, none)] Du :=
 Azq (E := (E0.kp [0])) (pi := Bi) (po := E3) (Hv Bv) (fn := Tryz.f134) Tryz.func134 (by kernel_rfl) (by kernel_rfl) [] [(0, none)] [(0, 0, none)] (by kernel_rfl) rfl rfl rfl rfl rfl [] (fun k => [(1, ⟨Nl, (Bd k).1⟩)]) (fun _ => [])
 (.intro (fun _ => rfl) trivial) (fun k => (.intro (fun d => by kernel_rfl) trivial)) trivial (fun k => trivial) (fun k d => Ep (Bd k) d) (fun k d => by kernel_rfl)
def Pw := Tg Bi E3 0 [(0, 0, none)] Du
abbrev S6 : PSh := ⟨[], [.mk false [.v (.int .u64)], kI]⟩
abbrev Tp : PSh := ⟨[], [kS]⟩
abbrev Uw : Type := Y15
abbrev Wo : Type := ((List Int) × Unit) × ((Int × Unit) × ((Int × Unit) × (Unit × Unit)))
abbrev Tm : Type := (((Wo) -> Option (Uw)) × Unit)
abbrev Af1 : PSh := ⟨[.row 5 (.int .u8)], [.mk false [.v (.int .u64)], kI, .any, .any, .any, .mk false [.osl 0]] ++ Ab1 22⟩
def G2 (T : Tm) (d : Wo) : Option (Uw) :=
 let x1 := (decide (d.2.1.1 > (0 : Int)))
 bif x1 then (
 let x2 := (Int.tmod d.2.1.1 (10 : Int))
 let x3 := (J4 .u8 x2)
 let x4 := (Cr .u8 (48 : Int) x3)
 let x5 := ([x4] : List Int)
 bif decide (((d.1.1.length + x5.length) * 1 : Nat) <= 140737488355328) && decide (d.1.1.length + x5.length <= 9223372036854775807) then (
 let x6 := (d.1.1 ++ x5)
 let x7 := (Pg .u64 d.2.1.1 (10 : Int))
 (T.1 ((x6, ()), ((x7, ()), (d.2.2.1, ((), ()))))))
 else none)
 else (
 let x8 := (d.1.1.length : Int)
 let x9 := (if (1 : Int) > d.2.2.1.1 then (1 : Int) else d.2.2.1.1)
 let x10 := (decide (x8 < x9))
 bif x10 then (
 let x11 := (Int.tmod d.2.1.1 (10 : Int))
 let x12 := (J4 .u8 x11)
 let x13 := (Cr .u8 (48 : Int) x12)
 let x14 := ([x13] : List Int)
 bif decide (((d.1.1.length + x14.length) * 1 : Nat) <= 140737488355328) && decide (d.1.1.length + x14.length <= 9223372036854775807) then (
 let x15 := (d.1.1 ++ x14)
 let x16 := (Pg .u64 d.2.1.1 (10 : Int))
 (T.1 ((x15, ()), ((x16, ()), (d.2.2.1, ((), ()))))))
 else none)
 else (
 (Du (d.1, ((), ()))).bind fun x17 =>
 let x18 := (As x17.1.1)
 some ((), ((x18, ()), ()))))
def Gb : Nat -> Tm
 | 0 => (fun _ => none, ())
 | k + 1 => (G2 (Gb k), ())
theorem Ql (k : Nat) : Gb (k + 1) = (G2 (Gb k), ()) := rfl
def Q8 (T : Tm) (d : Y4) : Option (Uw) :=
 (T.1 ((([] : List Int), ()), (d.2.1, (d.2.2.1, ((), ())))))
def L2 (d) := lim fun k => Q8 (Gb k) d
theorem Akc : Gf Tryz.prog ET0 94 S6 Tp L2 :=
 fnL (E := (E0.add 134 Pw)) (pi := S6) (po := Tp) (Aa Bv (Ld Oy)) (fn := Tryz.f94) Tryz.func94 (by kernel_rfl) (by kernel_rfl) [.tmp 4] (by kernel_rfl) rfl rfl rfl [] (fun k => [(3, ⟨Af1, (Gb k).1⟩)]) (fun _ => [])
 (.intro (fun _ => rfl) trivial) (fun k => (.intro (fun d => by kernel_rfl) trivial)) trivial (fun k => trivial) (fun k d => Q8 (Gb k) d) (fun k d => by kernel_rfl)
def Ans := Ak S6 Tp L2
abbrev Ta : PSh := ⟨[], [kI, kI]⟩
abbrev S5 : PSh := ⟨[], [kS, kE]⟩
def Xw (T : Unit) (d : Y4) : Option (Unit × ((ByteArray × Unit) × (((Option Int) × Unit) × Unit))) :=
 let x1 := (decide (d.2.2.1.1 < (0 : Int)))
 bif x1 then (
 let x2 := (some (1 : Int))
 some ((), (((⟨#[]⟩ : ByteArray), ()), ((x2, ()), ()))))
 else (
 let x3 := (decide (d.2.2.1.1 > (20 : Int)))
 bif x3 then (
 let x4 := (some (1 : Int))
 some ((), (((⟨#[]⟩ : ByteArray), ()), ((x4, ()), ()))))
 else (
 let x5 := (decide (d.2.1.1 < (0 : Int)))
 bif x5 then (
 let x6 := (J4 .u64 d.2.1.1)
 let x7 := (A9g .u64 x6)
 (L2 ((), ((x7, ()), d.2.2))).bind fun x8 =>
 bif Apc (⟨#[45]⟩ : ByteArray) x8.2.1.1 then (
 let x9 := ((⟨#[45]⟩ : ByteArray) ++ x8.2.1.1)
 some ((), ((x9, ()), (((none : Option Int), ()), ()))))
 else none)
 else (
 let x10 := (J4 .u64 d.2.1.1)
 (L2 ((), ((x10, ()), d.2.2))).bind fun x11 =>
 some ((), (x11.2.1, (((none : Option Int), ()), ()))))))
def J5 := Xw ()
theorem Aki : Gf Tryz.prog ET0 69 Ta S5 J5 :=
 fn0 (E := (E0.add 94 Ans)) (pi := Ta) (po := S5) (Aa Bv (Ae Akc)) (fn := Tryz.f69) Tryz.func69 (by kernel_rfl) (by kernel_rfl) [.tmp 4, .tmp 5] (by kernel_rfl) rfl rfl rfl [] fun d => by kernel_rfl
def An7 := Ak Ta S5 J5
abbrev Aaf : PSh := ⟨[], [kI]⟩
abbrev Aap : PSh := ⟨[], [kI, kE]⟩
def Apw (T : Unit) (d : Unit × ((Int × Unit) × Unit)) : Option (Y5) :=
 let x1 := (d.2.1.1 == (1 : Int))
 bif x1 then (
 some ((), ((40587, ()), (((none : Option Int), ()), ()))))
 else (
 let x2 := (d.2.1.1 == (2 : Int))
 bif x2 then (
 some ((), ((2440588, ()), (((none : Option Int), ()), ()))))
 else (
 let x3 := (d.2.1.1 == (3 : Int))
 bif x3 then (
 some ((), ((25567, ()), (((none : Option Int), ()), ()))))
 else (
 let x4 := (d.2.1.1 == (4 : Int))
 bif x4 then (
 some ((), (((-3657 : Int), ()), (((none : Option Int), ()), ()))))
 else (
 let x5 := (some (11 : Int))
 some ((), ((0, ()), ((x5, ()), ())))))))
def Qo := Apw ()
theorem Agy : Gf Tryz.prog ET0 95 Aaf Aap Qo :=
 fn0 (E := E0) (pi := Aaf) (po := Aap) Bv (fn := Tryz.f95) Tryz.func95 (by kernel_rfl) (by kernel_rfl) [.tmp 2, .tmp 3] (by kernel_rfl) rfl rfl rfl [] fun d => by kernel_rfl
def Alv := Ak Aaf Aap Qo
abbrev Wy : PSh := ⟨[], [kI, kI]⟩
abbrev Xn : PSh := ⟨[], [kI]⟩
def Abt (T : Unit) (d : Y4) : Option (Unit × ((Int × Unit) × Unit)) :=
 bif (d.2.2.1.1 == 0) then (
 none)
 else (
 let x1 := (Pg .i64 d.2.1.1 d.2.2.1.1)
 bif (d.2.2.1.1 == 0) then (
 none)
 else (
 let x2 := (Int.tmod d.2.1.1 d.2.2.1.1)
 let x3 := (decide (x2 < (0 : Int)))
 bif x3 then (
 let x4 := (Nj .i64 x1 1)
 some ((), ((x4, ()), ())))
 else (
 some ((), ((x1, ()), ())))))
def Li := Abt ()
theorem Afm : Gf Tryz.prog ET0 107 Wy Xn Li :=
 fn0 (E := E0) (pi := Wy) (po := Xn) Bv (fn := Tryz.f107) Tryz.func107 (by kernel_rfl) (by kernel_rfl) [.tmp 4] (by kernel_rfl) rfl rfl rfl [] fun d => by kernel_rfl
def Aio := Ak Wy Xn Li
abbrev Vs : PSh := ⟨[], [kI, kI, kI]⟩
abbrev U2 : PSh := ⟨[], [kI]⟩
def Zr (T : Unit) (d : Unit × ((Int × Unit) × ((Int × Unit) × ((Int × Unit) × Unit)))) : Option (Unit × ((Int × Unit) × Unit)) :=
 let x1 := (decide (d.2.2.1.1 <= (2 : Int)))
 bif x1 then (
 let x2 := (Nj .i64 d.2.1.1 1)
 let x3 := (Cr .i64 d.2.2.1.1 12)
 (Li ((), ((x2, ()), ((400, ()), ())))).bind fun x4 =>
 let x5 := (Tx .i64 x4.2.1.1 400)
 let x6 := (Nj .i64 x2 x5)
 let x7 := (Nj .i64 x3 3)
 let x8 := (Tx .i64 (153 : Int) x7)
 let x9 := (Cr .i64 x8 2)
 let x10 := (Pg .i64 x9 (5 : Int))
 let x11 := (Cr .i64 x10 d.2.2.2.1.1)
 let x12 := (Nj .i64 x11 1)
 let x13 := (Tx .i64 x4.2.1.1 146097)
 let x14 := (Tx .i64 x6 365)
 let x15 := (Cr .i64 x13 x14)
 let x16 := (Pg .i64 x6 (4 : Int))
 let x17 := (Cr .i64 x15 x16)
 let x18 := (Pg .i64 x6 (100 : Int))
 let x19 := (Nj .i64 x17 x18)
 let x20 := (Cr .i64 x19 x12)
 let x21 := (Nj .i64 x20 719468)
 some ((), ((x21, ()), ())))
 else (
 (Li ((), (d.2.1, ((400, ()), ())))).bind fun x22 =>
 let x23 := (Tx .i64 x22.2.1.1 400)
 let x24 := (Nj .i64 d.2.1.1 x23)
 let x25 := (Nj .i64 d.2.2.1.1 3)
 let x26 := (Tx .i64 (153 : Int) x25)
 let x27 := (Cr .i64 x26 2)
 let x28 := (Pg .i64 x27 (5 : Int))
 let x29 := (Cr .i64 x28 d.2.2.2.1.1)
 let x30 := (Nj .i64 x29 1)
 let x31 := (Tx .i64 x22.2.1.1 146097)
 let x32 := (Tx .i64 x24 365)
 let x33 := (Cr .i64 x31 x32)
 let x34 := (Pg .i64 x24 (4 : Int))
 let x35 := (Cr .i64 x33 x34)
 let x36 := (Pg .i64 x24 (100 : Int))
 let x37 := (Nj .i64 x35 x36)
 let x38 := (Cr .i64 x37 x30)
 let x39 := (Nj .i64 x38 719468)
 some ((), ((x39, ()), ())))
def Lx := Zr ()
theorem Acq : Gf Tryz.prog ET0 135 Vs U2 Lx :=
 fn0 (E := (E0.add 107 Aio)) (pi := Vs) (po := U2) (Aa Bv (Ae Afm)) (fn := Tryz.f135) Tryz.func135 (by kernel_rfl) (by kernel_rfl) [.tmp 6] (by kernel_rfl) rfl rfl rfl [] fun d => by kernel_rfl
def Ae7 := Ak Vs U2 Lx
abbrev Xt : PSh := ⟨[], []⟩
abbrev Wu : PSh := ⟨[], [kI]⟩
def Abl (T : Unit) (d : Unit × Unit) : Option (Unit × ((Int × Unit) × Unit)) :=
 (Lx ((), (((-9999 : Int), ()), ((1, ()), ((1, ()), ()))))).bind fun x1 =>
 some ((), x1.2)
def Ln := Abl ()
theorem W8 : Gf Tryz.prog ET0 105 Xt Wu Ln :=
 fn0 (E := (E0.add 135 Ae7)) (pi := Xt) (po := Wu) (Aa Bv (Ae Acq)) (fn := Tryz.f105) Tryz.func105 (by kernel_rfl) (by kernel_rfl) [.tmp 0] (by kernel_rfl) rfl rfl rfl [] fun d => by kernel_rfl
def Aay := Ak Xt Wu Ln
abbrev Aag : PSh := ⟨[], []⟩
abbrev Aav : PSh := ⟨[], [kI]⟩
def Afl (T : Unit) (d : Unit × Unit) : Option (Unit × ((Int × Unit) × Unit)) :=
 (Lx ((), ((9999, ()), ((12, ()), ((31, ()), ()))))).bind fun x1 =>
 some ((), x1.2)
def Nz := Afl ()
theorem Aat : Gf Tryz.prog ET0 106 Aag Aav Nz :=
 fn0 (E := (E0.add 135 Ae7)) (pi := Aag) (po := Aav) (Aa Bv (Ae Acq)) (fn := Tryz.f106) Tryz.func106 (by kernel_rfl) (by kernel_rfl) [.tmp 0] (by kernel_rfl) rfl rfl rfl [] fun d => by kernel_rfl
def Adt := Ak Aag Aav Nz
abbrev Xp : PSh := ⟨[], [kI]⟩
abbrev Wx : PSh := ⟨[], [kB]⟩
def Aco (T : Unit) (d : Unit × ((Int × Unit) × Unit)) : Option (Unit × ((Bool × Unit) × Unit)) :=
 (Ln ((), ())).bind fun x1 =>
 let x2 := (decide (d.2.1.1 >= x1.2.1.1))
 bif x2 then (
 (Nz ((), ())).bind fun x3 =>
 let x4 := (decide (d.2.1.1 <= x3.2.1.1))
 some ((), ((x4, ()), ())))
 else (
 some ((), ((false, ()), ())))
def Rv := Aco ()
theorem Apo : Gf Tryz.prog ET0 96 Xp Wx Rv :=
 fn0 (E := ((E0.add 105 Aay).add 106 Adt)) (pi := Xp) (po := Wx) (Aa (Aa Bv (Ae W8)) (Ae Aat)) (fn := Tryz.f96) Tryz.func96 (by kernel_rfl) (by kernel_rfl) [.tmp 2] (by kernel_rfl) rfl rfl rfl [] fun d => by kernel_rfl
def Asp := Ak Xp Wx Rv
abbrev Wn : PSh := ⟨[], [kI, kI]⟩
abbrev Xv : PSh := ⟨[], [kI, kE]⟩
def Acj (T : Unit) (d : Y4) : Option (Y5) :=
 (Qo ((), (d.2.1, ()))).bind fun x1 =>
 let x2 := (!x1.2.2.1.1.isNone)
 bif x2 then (
 some ((), ((0, ()), x1.2.2)))
 else (
 (Rv ((), d.2.2)).bind fun x3 =>
 let x4 := (!x3.2.1.1)
 bif x4 then (
 let x5 := (some (13 : Int))
 some ((), ((0, ()), ((x5, ()), ()))))
 else (
 let x6 := (Cr .i64 d.2.2.1.1 x1.2.1.1)
 some ((), ((x6, ()), (((none : Option Int), ()), ())))))
def Rd := Acj ()
theorem Aq1 : Gf Tryz.prog ET0 70 Wn Xv Rd :=
 fn0 (E := ((E0.add 95 Alv).add 96 Asp)) (pi := Wn) (po := Xv) (Aa (Aa Bv (Ae Agy)) (Ae Apo)) (fn := Tryz.f70) Tryz.func70 (by kernel_rfl) (by kernel_rfl) [.tmp 4, .tmp 5] (by kernel_rfl) rfl rfl rfl [] fun d => by kernel_rfl
def Ar7 := Ak Wn Xv Rd
abbrev Mx : PSh := ⟨[], []⟩
abbrev Nb : PSh := ⟨[], [kI]⟩
abbrev Q3 : Type := Y4
abbrev Na : Type := (((Q3) -> Option (Unit × ((Int × Unit) × Unit))) × Unit)
abbrev Ze : PSh := ⟨[], [.any, kI, .mk false [.v (.int .u32)]] ++ Ab1 11⟩
def Zk (T : Na) (d : Q3) : Option (Unit × ((Int × Unit) × Unit)) :=
 let x3 := (decide (d.2.2.1.1 > (0 : Int)))
 bif x3 then (
 let x4 := (Cr .i64 d.2.1.1 1)
 let x5 := (J4 .u64 d.2.2.1.1)
 let x6 := (Axt .u64 x5 (8 : Int))
 let x7 := (J4 .u32 x6)
 (T.1 ((), ((x4, ()), ((x7, ()), ())))))
 else (
 some ((), (d.2.1, ())))
def In : Nat -> Na
 | 0 => (fun _ => none, ())
 | k + 1 => (Zk (In k), ())
def Rg (T : Na) (d : Unit × Unit) : Option (Unit × ((Int × Unit) × Unit)) :=
 let x1 := (J4 .u32 (0 : Int))
 let x2 := (A9z .u32 x1)
 (T.1 ((), ((0, ()), ((x2, ()), ()))))
def Ka (d) := lim fun k => Rg (In k) d
theorem Acy : Gf Tryz.prog ET0 91 Mx Nb Ka :=
 fnL (E := E0) (pi := Mx) (po := Nb) Bv (fn := Tryz.f91) Tryz.func91 (by kernel_rfl) (by kernel_rfl) [.tmp 0] (by kernel_rfl) rfl rfl rfl [] (fun k => [(4, ⟨Ze, (In k).1⟩)]) (fun _ => [])
 (.intro (fun _ => rfl) trivial) (fun k => (.intro (fun d => by kernel_rfl) trivial)) trivial (fun k => trivial) (fun k d => Rg (In k) d) (fun k d => by kernel_rfl)
def Ad0 := Ak Mx Nb Ka
abbrev Ey : PSh := ⟨[], [.mk false [.v (.sl (.int .u8))]]⟩
abbrev Hf : PSh := Bi
def Kl (T : Unit) (d : Y6) : Option (Y3) :=
 bif d.2.1.1.isEmpty then (
 Atc (
 some ((([] : List Int), ()), ((), ()))) (
 let x1 := ([] : List Int)
 bif decide (((x1.length + d.2.1.1.length) * 1 : Nat) <= 140737488355328) && decide (x1.length + d.2.1.1.length <= 9223372036854775807) then (
 let x2 := (x1 ++ d.2.1.1)
 some ((x2, ()), ((), ())))
 else none))
 else (
 let x3 := ([] : List Int)
 bif decide (((x3.length + d.2.1.1.length) * 1 : Nat) <= 140737488355328) && decide (x3.length + d.2.1.1.length <= 9223372036854775807) then (
 let x4 := (x3 ++ d.2.1.1)
 some ((x4, ()), ((), ())))
 else none)
def C1 := Kl ()
theorem Kv : Gf Tryz.prog ET0 92 Ey Hf C1 :=
 fn0 (E := E0) (pi := Ey) (po := Hf) Bv (fn := Tryz.f92) Tryz.func92 (by kernel_rfl) (by kernel_rfl) [.tmp 2] (by kernel_rfl) rfl rfl rfl [] fun d => by kernel_rfl
def Lv := Ak Ey Hf C1
abbrev N5 : PSh := ⟨[], [.mk false [.v (.sl (.int .u8))], .mk false [.v (.sl (.int .u32))]]⟩
abbrev J7 : PSh := Bi
abbrev I3 : Type := Y3
abbrev M3 : Type := ((List Int) × Unit) × ((Int × Unit) × (Unit × (((List Int) × Unit) × ((Int × Unit) × ((Int × Unit) × Unit)))))
abbrev Lj : Type := ((List Int) × Unit) × ((Int × Unit) × (Unit × ((Int × Unit) × ((Int × Unit) × (((List Int) × Unit) × ((Int × Unit) × ((Int × Unit) × Unit)))))))
abbrev Ke : Type := (((M3) -> Option (I3)) × (((Lj) -> Option (I3)) × Unit))
abbrev Aax : PSh := ⟨[.row 5 (.int .u8)], [.any, .any, .any, .any, .any, kI, .mk false [.osl 0], .any, .any, .any, .any, .any, .any, .mk false [.v (.sl (.int .u32))], kI, kI] ++ Ab1 20⟩
abbrev Zg : PSh := ⟨[.row 5 (.int .u8)], [.any, .any, .any, .any, .any, kI, .mk false [.osl 0], .any, .mk false [.v (.int .u32)], kI, .any, .any, .any, .mk false [.v (.sl (.int .u32))], kI, kI] ++ Ab1 20⟩
def Ij (T : Ke) (d : M3) : Option (I3) :=
 let x4 := (decide (d.2.2.2.2.2.1.1 < d.2.2.2.2.1.1))
 bif x4 then (
 bif decide ((0 : Int) <= d.2.2.2.2.2.1.1) && decide (d.2.2.2.2.2.1.1 < (d.2.2.2.1.1.length : Int)) then (
 let x5 := (Nj .i64 d.2.1.1 1)
 (T.2.1 (d.1, (d.2.1, ((), (((gd (.int .u32) d.2.2.2.1.1 d.2.2.2.2.2.1.1), ()), ((x5, ()), d.2.2.2)))))))
 else none)
 else (
 some (d.1, ((), ())))
def Hu (T : Ke) (d : Lj) : Option (I3) :=
 let x6 := (decide (d.2.2.2.2.1.1 >= (0 : Int)))
 bif x6 then (
 let x7 := (J4 .u64 d.2.2.2.1.1)
 let x8 := (Tx .i64 (8 : Int) d.2.2.2.2.1.1)
 bif decide (x8 < 0) then (
 none)
 else (
 let x9 := (Axt .u64 x7 x8)
 let x10 := (J4 .u8 x9)
 let x11 := ([x10] : List Int)
 bif decide (((d.1.1.length + x11.length) * 1 : Nat) <= 140737488355328) && decide (d.1.1.length + x11.length <= 9223372036854775807) then (
 let x12 := (d.1.1 ++ x11)
 let x13 := (Nj .i64 d.2.2.2.2.1.1 1)
 (T.2.1 ((x12, ()), (d.2.1, ((), (d.2.2.2.1, ((x13, ()), d.2.2.2.2.2)))))))
 else none))
 else (
 let x14 := (Cr .i64 d.2.2.2.2.2.2.2.1.1 1)
 (T.1 (d.1, (d.2.1, ((), (d.2.2.2.2.2.1, (d.2.2.2.2.2.2.1, ((x14, ()), ()))))))))
def Bo : Nat -> Ke
 | 0 => (fun _ => none, (fun _ => none, ()))
 | k + 1 => (Ij (Bo k), (Hu (Bo k), ()))
theorem K3 (k : Nat) : Bo (k + 1) = (Ij (Bo k), (Hu (Bo k), ())) := rfl
def Mj (T : Ke) (d : Y7) : Option (I3) :=
 (Ka ((), ())).bind fun x1 =>
 (C1 ((), (d.2.1, ()))).bind fun x2 =>
 let x3 := (d.2.2.1.1.length : Int)
 (T.1 (x2.1, (x1.2.1, ((), (d.2.2.1, ((x3, ()), ((0, ()), ())))))))
def Ix (d) := lim fun k => Mj (Bo k) d
theorem Adr : Gf Tryz.prog ET0 62 N5 J7 Ix :=
 fnL (E := ((E0.add 91 Ad0).add 92 Lv)) (pi := N5) (po := J7) (Aa (Aa Bv (Ae Acy)) (Ae Kv)) (fn := Tryz.f62) Tryz.func62 (by kernel_rfl) (by kernel_rfl) [.tmp 4] (by kernel_rfl) rfl rfl rfl [] (fun k => [(5, ⟨Aax, (Bo k).1⟩), (11, ⟨Zg, (Bo k).2.1⟩)]) (fun _ => [])
 (.intro (fun _ => rfl) (.intro (fun _ => rfl) trivial)) (fun k => (.intro (fun d => by kernel_rfl) (.intro (fun d => by kernel_rfl) trivial))) trivial (fun k => trivial) (fun k d => Mj (Bo k) d) (fun k d => by kernel_rfl)
def Af7 := Ak N5 J7 Ix
abbrev O4 : PSh := ⟨[], [.mk true [.v (.int .u32), .v (.int .u32), .v (.int .u32), .v (.int .u32), .v (.int .u32)]]⟩
abbrev O7 : PSh := ⟨[], [.mk true [v8, v8, v8, v8, v8, v8, v8, v8, v8, v8, v8, v8, v8, v8, v8, v8, v8, v8, v8, v8]]⟩
def Ann (T : Unit) (d : Y8) : Option (Y9) :=
 let x1 := (d.2.1.1, (d.2.1.2.1, (d.2.1.2.2.1, (d.2.1.2.2.2.1, d.2.1.2.2.2.2.1))))
 let x2 := ([x1.1, x1.2.1, x1.2.2.1, x1.2.2.2.1, x1.2.2.2.2] : List Int)
 (Ix ((), ((([] : List Int), ()), ((x2, ()), ())))).bind fun x3 =>
 bif decide ((20 : Int) <= x3.1.1.length) then (
 let x4 := ((gd (.int .u8) x3.1.1 (0 : Int)), ((gd (.int .u8) x3.1.1 (1 : Int)), ((gd (.int .u8) x3.1.1 (2 : Int)), ((gd (.int .u8) x3.1.1 (3 : Int)), ((gd (.int .u8) x3.1.1 (4 : Int)), ((gd (.int .u8) x3.1.1 (5 : Int)), ((gd (.int .u8) x3.1.1 (6 : Int)), ((gd (.int .u8) x3.1.1 (7 : Int)), ((gd (.int .u8) x3.1.1 (8 : Int)), ((gd (.int .u8) x3.1.1 (9 : Int)), ((gd (.int .u8) x3.1.1 (10 : Int)), ((gd (.int .u8) x3.1.1 (11 : Int)), ((gd (.int .u8) x3.1.1 (12 : Int)), ((gd (.int .u8) x3.1.1 (13 : Int)), ((gd (.int .u8) x3.1.1 (14 : Int)), ((gd (.int .u8) x3.1.1 (15 : Int)), ((gd (.int .u8) x3.1.1 (16 : Int)), ((gd (.int .u8) x3.1.1 (17 : Int)), ((gd (.int .u8) x3.1.1 (18 : Int)), (gd (.int .u8) x3.1.1 (19 : Int)))))))))))))))))))))
 some ((), ((x4.1, (x4.2.1, (x4.2.2.1, (x4.2.2.2.1, (x4.2.2.2.2.1, (x4.2.2.2.2.2.1, (x4.2.2.2.2.2.2.1, (x4.2.2.2.2.2.2.2.1, (x4.2.2.2.2.2.2.2.2.1, (x4.2.2.2.2.2.2.2.2.2.1, (x4.2.2.2.2.2.2.2.2.2.2.1, (x4.2.2.2.2.2.2.2.2.2.2.2.1, (x4.2.2.2.2.2.2.2.2.2.2.2.2.1, (x4.2.2.2.2.2.2.2.2.2.2.2.2.2.1, (x4.2.2.2.2.2.2.2.2.2.2.2.2.2.2.1, (x4.2.2.2.2.2.2.2.2.2.2.2.2.2.2.2.1, (x4.2.2.2.2.2.2.2.2.2.2.2.2.2.2.2.2.1, (x4.2.2.2.2.2.2.2.2.2.2.2.2.2.2.2.2.2.1, (x4.2.2.2.2.2.2.2.2.2.2.2.2.2.2.2.2.2.2.1, (x4.2.2.2.2.2.2.2.2.2.2.2.2.2.2.2.2.2.2.2, ())))))))))))))))))))), ())))
 else none
def Jy := Ann ()
theorem Afr : Gf Tryz.prog ET0 30 O4 O7 Jy :=
 fn0 (E := ((E0.add 62 Af7).fr [(3, [1]), (5, [4])])) (pi := O4) (po := O7) (Amf (Aa Bv (Ae Adr))) (fn := Tryz.f30) Tryz.func30 (by kernel_rfl) (by kernel_rfl) [.cell 2 53] (by kernel_rfl) rfl rfl rfl [] fun d => by kernel_rfl
def Aif := Ak O4 O7 Jy
abbrev Vo : PSh := ⟨[], []⟩
abbrev Vx : PSh := O4
def Akl (T : Unit) (d : Unit × Unit) : Option (Y8) :=
 some ((), (((1732584193 : Int), ((4023233417 : Int), ((2562383102 : Int), ((271733878 : Int), (3285377520, ()))))), ()))
def Ww := Akl ()
theorem Anx : Gf Tryz.prog ET0 72 Vo Vx Ww :=
 fn0 (E := E0) (pi := Vo) (po := Vx) Bv (fn := Tryz.f72) Tryz.func72 (by kernel_rfl) (by kernel_rfl) [.cell 0 36] (by kernel_rfl) rfl rfl rfl [] fun d => by kernel_rfl
def Ao9 := Ak Vo Vx Ww
abbrev Hr : PSh := ⟨[], [.mk false [.v (.sl (.int .u8))], kI]⟩
abbrev Hc : PSh := ⟨[.var 63 [.v (.sl (.int .u8))], .var 3 [vI]], [.mk false [.fn 97 [0, 1]]]⟩
def Ki (T : Unit) (d : Unit × (((List Int) × Unit) × ((Int × Unit) × Unit))) : Option ((((List Int) × Unit) × ((Int × Unit) × Unit)) × (Unit × Unit)) :=
 let x1 := (decide (d.2.2.1.1 < (1 : Int)))
 bif x1 then (
 none)
 else (
 some (d.2, ((), ())))
def Cf := Ki ()
theorem Tl : Gf Tryz.prog ET0 73 Hr Hc Cf :=
 fn0 (E := E0) (pi := Hr) (po := Hc) Bv (fn := Tryz.f73) Tryz.func73 (by kernel_rfl) (by kernel_rfl) [.tmp 4] (by kernel_rfl) rfl rfl rfl [] fun d => by kernel_rfl
def T5 := Ak Hr Hc Cf
abbrev Hq : PSh := ⟨[], [.mk false [.v (.int .u32)], kI]⟩
abbrev Hd : PSh := ⟨[], [.mk false [.v (.int .u32)]]⟩
def R4 (T : Unit) (d : Y4) : Option (Unit × ((Int × Unit) × Unit)) :=
 let x1 := (J4 .u64 d.2.2.1.1)
 let x2 := (Axv .u64 x1 (31 : Int))
 bif decide (x2 < 0) then (
 none)
 else (
 let x3 := (Axs .u32 d.2.1.1 x2)
 let x4 := (Nj .u64 (32 : Int) x2)
 bif decide (x4 < 0) then (
 none)
 else (
 let x5 := (Axt .u32 d.2.1.1 x4)
 let x6 := (ior .u32 x3 x5)
 some ((), ((x6, ()), ()))))
def A7 := R4 ()
theorem K0 : Gf Tryz.prog ET0 100 Hq Hd A7 :=
 fn0 (E := E0) (pi := Hq) (po := Hd) Bv (fn := Tryz.f100) Tryz.func100 (by kernel_rfl) (by kernel_rfl) [.tmp 4] (by kernel_rfl) rfl rfl rfl [] fun d => by kernel_rfl
def Lt := Ak Hq Hd A7
abbrev Pi : PSh := ⟨[], [.mk true [v8, v8, v8, v8, v8, v8, v8, v8, v8, v8, v8, v8, v8, v8, v8, v8, v8, v8, v8, v8, v8, v8, v8, v8, v8, v8, v8, v8, v8, v8, v8, v8, v8, v8, v8, v8, v8, v8, v8, v8, v8, v8, v8, v8, v8, v8, v8, v8, v8, v8, v8, v8, v8, v8, v8, v8, v8, v8, v8, v8, v8, v8, v8, v8]]⟩
abbrev Pp : PSh := ⟨[], [.mk true [.v (.int .u32), .v (.int .u32), .v (.int .u32), .v (.int .u32), .v (.int .u32), .v (.int .u32), .v (.int .u32), .v (.int .u32), .v (.int .u32), .v (.int .u32), .v (.int .u32), .v (.int .u32), .v (.int .u32), .v (.int .u32), .v (.int .u32), .v (.int .u32), .v (.int .u32), .v (.int .u32), .v (.int .u32), .v (.int .u32), .v (.int .u32), .v (.int .u32), .v (.int .u32), .v (.int .u32), .v (.int .u32), .v (.int .u32), .v (.int .u32), .v (.int .u32), .v (.int .u32), .v (.int .u32), .v (.int .u32), .v (.int .u32), .v (.int .u32), .v (.int .u32), .v (.int .u32), .v (.int .u32), .v (.int .u32), .v (.int .u32), .v (.int .u32), .v (.int .u32), .v (.int .u32), .v (.int .u32), .v (.int .u32), .v (.int .u32), .v (.int .u32), .v (.int .u32), .v (.int .u32), .v (.int .u32), .v (.int .u32), .v (.int .u32), .v (.int .u32), .v (.int .u32), .v (.int .u32), .v (.int .u32), .v (.int .u32), .v (.int .u32), .v (.int .u32), .v (.int .u32), .v (.int .u32), .v (.int .u32), .v (.int .u32), .v (.int .u32), .v (.int .u32), .v (.int .u32), .v (.int .u32), .v (.int .u32), .v (.int .u32), .v (.int .u32), .v (.int .u32), .v (.int .u32), .v (.int .u32), .v (.int .u32), .v (.int .u32), .v (.int .u32), .v (.int .u32), .v (.int .u32), .v (.int .u32), .v (.int .u32), .v (.int .u32), .v (.int .u32)]]⟩
abbrev Ro : Type := Unit × ((Int × (Int × (Int × (Int × (Int × (Int × (Int × (Int × (Int × (Int × (Int × (Int × (Int × (Int × (Int × (Int × (Int × (Int × (Int × (Int × (Int × (Int × (Int × (Int × (Int × (Int × (Int × (Int × (Int × (Int × (Int × (Int × (Int × (Int × (Int × (Int × (Int × (Int × (Int × (Int × (Int × (Int × (Int × (Int × (Int × (Int × (Int × (Int × (Int × (Int × (Int × (Int × (Int × (Int × (Int × (Int × (Int × (Int × (Int × (Int × (Int × (Int × (Int × (Int × (Int × (Int × (Int × (Int × (Int × (Int × (Int × (Int × (Int × (Int × (Int × (Int × (Int × (Int × (Int × (Int × Unit)))))))))))))))))))))))))))))))))))))))))))))))))))))))))))))))))))))))))))))))) × Unit)
abbrev Up : Type := ((List Int) × ((List Int) × ((List Int) × Unit))) × (Unit × (Unit × (Unit × ((Int × Unit) × Unit))))
abbrev I4 : Type := (((Up) -> Option (Ro)) × Unit)
abbrev Abp : PSh := ⟨[.row 135 (.int .u8), .row 152 (.int .u32), .row 152 (.int .u32)], [.any, .mk false [.opt 0], .mk false [.opt 1], .mk false [.opt 2], .any, .any, kI] ++ Ab1 57⟩
def Jj (T : I4) (d : Up) : Option (Ro) :=
 let x4 := (decide (d.2.2.2.2.1.1 < (80 : Int)))
 bif x4 then (
 let x5 := (decide (d.2.2.2.2.1.1 < (16 : Int)))
 bif x5 then (
 let x6 := (Tx .i64 (4 : Int) d.2.2.2.2.1.1)
 bif decide ((0 : Int) <= x6) && decide (x6 < (64 : Int)) && decide (x6 < (d.1.1.length : Int)) then (
 let x7 := (J4 .u32 (gd (.int .u8) d.1.1 x6))
 let x8 := (Axs .u32 x7 (24 : Int))
 let x9 := (Cr .i64 x6 1)
 bif decide ((0 : Int) <= x9) && decide (x9 < (64 : Int)) && decide (x9 < (d.1.1.length : Int)) then (
 let x10 := (J4 .u32 (gd (.int .u8) d.1.1 x9))
 let x11 := (Axs .u32 x10 (16 : Int))
 let x12 := (ior .u32 x8 x11)
 let x13 := (Cr .i64 x6 2)
 bif decide ((0 : Int) <= x13) && decide (x13 < (64 : Int)) && decide (x13 < (d.1.1.length : Int)) then (
 let x14 := (J4 .u32 (gd (.int .u8) d.1.1 x13))
 let x15 := (Axs .u32 x14 (8 : Int))
 let x16 := (ior .u32 x12 x15)
 let x17 := (Cr .i64 x6 3)
 bif decide ((0 : Int) <= x17) && decide (x17 < (64 : Int)) && decide (x17 < (d.1.1.length : Int)) then (
 let x18 := (J4 .u32 (gd (.int .u8) d.1.1 x17))
 let x19 := (ior .u32 x16 x18)
 bif decide ((0 : Int) <= d.2.2.2.2.1.1) && decide (d.2.2.2.2.1.1 < (80 : Int)) && decide (d.2.2.2.2.1.1 < (d.1.2.2.1.length : Int)) then (
 let x20 := (List.set d.1.2.2.1 (Int.toNat d.2.2.2.2.1.1) x19)
 let x21 := (Cr .i64 d.2.2.2.2.1.1 1)
 (T.1 ((d.1.1, (d.1.2.1, (x20, ()))), ((), ((), ((), ((x21, ()), ())))))))
 else none)
 else none)
 else none)
 else none)
 else none)
 else (
 let x22 := (Nj .i64 d.2.2.2.2.1.1 3)
 bif decide ((0 : Int) <= x22) && decide (x22 < (80 : Int)) && decide (x22 < (d.1.2.2.1.length : Int)) then (
 let x23 := (Nj .i64 d.2.2.2.2.1.1 8)
 bif decide ((0 : Int) <= x23) && decide (x23 < (80 : Int)) && decide (x23 < (d.1.2.2.1.length : Int)) then (
 let x24 := (Aj7 .u32 (gd (.int .u32) d.1.2.2.1 x22) (gd (.int .u32) d.1.2.2.1 x23))
 let x25 := (Nj .i64 d.2.2.2.2.1.1 14)
 bif decide ((0 : Int) <= x25) && decide (x25 < (80 : Int)) && decide (x25 < (d.1.2.2.1.length : Int)) then (
 let x26 := (Aj7 .u32 x24 (gd (.int .u32) d.1.2.2.1 x25))
 let x27 := (Nj .i64 d.2.2.2.2.1.1 16)
 bif decide ((0 : Int) <= x27) && decide (x27 < (80 : Int)) && decide (x27 < (d.1.2.2.1.length : Int)) then (
 let x28 := (Aj7 .u32 x26 (gd (.int .u32) d.1.2.2.1 x27))
 (A7 ((), ((x28, ()), ((1, ()), ())))).bind fun x29 =>
 bif decide ((0 : Int) <= d.2.2.2.2.1.1) && decide (d.2.2.2.2.1.1 < (80 : Int)) && decide (d.2.2.2.2.1.1 < (d.1.2.2.1.length : Int)) then (
 let x30 := (List.set d.1.2.2.1 (Int.toNat d.2.2.2.2.1.1) x29.2.1.1)
 let x31 := (Cr .i64 d.2.2.2.2.1.1 1)
 (T.1 ((d.1.1, (d.1.2.1, (x30, ()))), ((), ((), ((), ((x31, ()), ())))))))
 else none)
 else none)
 else none)
 else none)
 else none))
 else (
 bif decide ((80 : Int) <= (d.1.2.2.1.length : Int)) then (
 bif decide ((d.1.2.1.length : Int) = (80 : Int)) then (
 let x32 := ([(gd (.int .u32) d.1.2.2.1 (0 : Int)), (gd (.int .u32) d.1.2.2.1 (1 : Int)), (gd (.int .u32) d.1.2.2.1 (2 : Int)), (gd (.int .u32) d.1.2.2.1 (3 : Int)), (gd (.int .u32) d.1.2.2.1 (4 : Int)), (gd (.int .u32) d.1.2.2.1 (5 : Int)), (gd (.int .u32) d.1.2.2.1 (6 : Int)), (gd (.int .u32) d.1.2.2.1 (7 : Int)), (gd (.int .u32) d.1.2.2.1 (8 : Int)), (gd (.int .u32) d.1.2.2.1 (9 : Int)), (gd (.int .u32) d.1.2.2.1 (10 : Int)), (gd (.int .u32) d.1.2.2.1 (11 : Int)), (gd (.int .u32) d.1.2.2.1 (12 : Int)), (gd (.int .u32) d.1.2.2.1 (13 : Int)), (gd (.int .u32) d.1.2.2.1 (14 : Int)), (gd (.int .u32) d.1.2.2.1 (15 : Int)), (gd (.int .u32) d.1.2.2.1 (16 : Int)), (gd (.int .u32) d.1.2.2.1 (17 : Int)), (gd (.int .u32) d.1.2.2.1 (18 : Int)), (gd (.int .u32) d.1.2.2.1 (19 : Int)), (gd (.int .u32) d.1.2.2.1 (20 : Int)), (gd (.int .u32) d.1.2.2.1 (21 : Int)), (gd (.int .u32) d.1.2.2.1 (22 : Int)), (gd (.int .u32) d.1.2.2.1 (23 : Int)), (gd (.int .u32) d.1.2.2.1 (24 : Int)), (gd (.int .u32) d.1.2.2.1 (25 : Int)), (gd (.int .u32) d.1.2.2.1 (26 : Int)), (gd (.int .u32) d.1.2.2.1 (27 : Int)), (gd (.int .u32) d.1.2.2.1 (28 : Int)), (gd (.int .u32) d.1.2.2.1 (29 : Int)), (gd (.int .u32) d.1.2.2.1 (30 : Int)), (gd (.int .u32) d.1.2.2.1 (31 : Int)), (gd (.int .u32) d.1.2.2.1 (32 : Int)), (gd (.int .u32) d.1.2.2.1 (33 : Int)), (gd (.int .u32) d.1.2.2.1 (34 : Int)), (gd (.int .u32) d.1.2.2.1 (35 : Int)), (gd (.int .u32) d.1.2.2.1 (36 : Int)), (gd (.int .u32) d.1.2.2.1 (37 : Int)), (gd (.int .u32) d.1.2.2.1 (38 : Int)), (gd (.int .u32) d.1.2.2.1 (39 : Int)), (gd (.int .u32) d.1.2.2.1 (40 : Int)), (gd (.int .u32) d.1.2.2.1 (41 : Int)), (gd (.int .u32) d.1.2.2.1 (42 : Int)), (gd (.int .u32) d.1.2.2.1 (43 : Int)), (gd (.int .u32) d.1.2.2.1 (44 : Int)), (gd (.int .u32) d.1.2.2.1 (45 : Int)), (gd (.int .u32) d.1.2.2.1 (46 : Int)), (gd (.int .u32) d.1.2.2.1 (47 : Int)), (gd (.int .u32) d.1.2.2.1 (48 : Int)), (gd (.int .u32) d.1.2.2.1 (49 : Int)), (gd (.int .u32) d.1.2.2.1 (50 : Int)), (gd (.int .u32) d.1.2.2.1 (51 : Int)), (gd (.int .u32) d.1.2.2.1 (52 : Int)), (gd (.int .u32) d.1.2.2.1 (53 : Int)), (gd (.int .u32) d.1.2.2.1 (54 : Int)), (gd (.int .u32) d.1.2.2.1 (55 : Int)), (gd (.int .u32) d.1.2.2.1 (56 : Int)), (gd (.int .u32) d.1.2.2.1 (57 : Int)), (gd (.int .u32) d.1.2.2.1 (58 : Int)), (gd (.int .u32) d.1.2.2.1 (59 : Int)), (gd (.int .u32) d.1.2.2.1 (60 : Int)), (gd (.int .u32) d.1.2.2.1 (61 : Int)), (gd (.int .u32) d.1.2.2.1 (62 : Int)), (gd (.int .u32) d.1.2.2.1 (63 : Int)), (gd (.int .u32) d.1.2.2.1 (64 : Int)), (gd (.int .u32) d.1.2.2.1 (65 : Int)), (gd (.int .u32) d.1.2.2.1 (66 : Int)), (gd (.int .u32) d.1.2.2.1 (67 : Int)), (gd (.int .u32) d.1.2.2.1 (68 : Int)), (gd (.int .u32) d.1.2.2.1 (69 : Int)), (gd (.int .u32) d.1.2.2.1 (70 : Int)), (gd (.int .u32) d.1.2.2.1 (71 : Int)), (gd (.int .u32) d.1.2.2.1 (72 : Int)), (gd (.int .u32) d.1.2.2.1 (73 : Int)), (gd (.int .u32) d.1.2.2.1 (74 : Int)), (gd (.int .u32) d.1.2.2.1 (75 : Int)), (gd (.int .u32) d.1.2.2.1 (76 : Int)), (gd (.int .u32) d.1.2.2.1 (77 : Int)), (gd (.int .u32) d.1.2.2.1 (78 : Int)), (gd (.int .u32) d.1.2.2.1 (79 : Int))] : List Int)
 some ((), (((gd (.int .u32) x32 (0 : Int)), ((gd (.int .u32) x32 (1 : Int)), ((gd (.int .u32) x32 (2 : Int)), ((gd (.int .u32) x32 (3 : Int)), ((gd (.int .u32) x32 (4 : Int)), ((gd (.int .u32) x32 (5 : Int)), ((gd (.int .u32) x32 (6 : Int)), ((gd (.int .u32) x32 (7 : Int)), ((gd (.int .u32) x32 (8 : Int)), ((gd (.int .u32) x32 (9 : Int)), ((gd (.int .u32) x32 (10 : Int)), ((gd (.int .u32) x32 (11 : Int)), ((gd (.int .u32) x32 (12 : Int)), ((gd (.int .u32) x32 (13 : Int)), ((gd (.int .u32) x32 (14 : Int)), ((gd (.int .u32) x32 (15 : Int)), ((gd (.int .u32) x32 (16 : Int)), ((gd (.int .u32) x32 (17 : Int)), ((gd (.int .u32) x32 (18 : Int)), ((gd (.int .u32) x32 (19 : Int)), ((gd (.int .u32) x32 (20 : Int)), ((gd (.int .u32) x32 (21 : Int)), ((gd (.int .u32) x32 (22 : Int)), ((gd (.int .u32) x32 (23 : Int)), ((gd (.int .u32) x32 (24 : Int)), ((gd (.int .u32) x32 (25 : Int)), ((gd (.int .u32) x32 (26 : Int)), ((gd (.int .u32) x32 (27 : Int)), ((gd (.int .u32) x32 (28 : Int)), ((gd (.int .u32) x32 (29 : Int)), ((gd (.int .u32) x32 (30 : Int)), ((gd (.int .u32) x32 (31 : Int)), ((gd (.int .u32) x32 (32 : Int)), ((gd (.int .u32) x32 (33 : Int)), ((gd (.int .u32) x32 (34 : Int)), ((gd (.int .u32) x32 (35 : Int)), ((gd (.int .u32) x32 (36 : Int)), ((gd (.int .u32) x32 (37 : Int)), ((gd (.int .u32) x32 (38 : Int)), ((gd (.int .u32) x32 (39 : Int)), ((gd (.int .u32) x32 (40 : Int)), ((gd (.int .u32) x32 (41 : Int)), ((gd (.int .u32) x32 (42 : Int)), ((gd (.int .u32) x32 (43 : Int)), ((gd (.int .u32) x32 (44 : Int)), ((gd (.int .u32) x32 (45 : Int)), ((gd (.int .u32) x32 (46 : Int)), ((gd (.int .u32) x32 (47 : Int)), ((gd (.int .u32) x32 (48 : Int)), ((gd (.int .u32) x32 (49 : Int)), ((gd (.int .u32) x32 (50 : Int)), ((gd (.int .u32) x32 (51 : Int)), ((gd (.int .u32) x32 (52 : Int)), ((gd (.int .u32) x32 (53 : Int)), ((gd (.int .u32) x32 (54 : Int)), ((gd (.int .u32) x32 (55 : Int)), ((gd (.int .u32) x32 (56 : Int)), ((gd (.int .u32) x32 (57 : Int)), ((gd (.int .u32) x32 (58 : Int)), ((gd (.int .u32) x32 (59 : Int)), ((gd (.int .u32) x32 (60 : Int)), ((gd (.int .u32) x32 (61 : Int)), ((gd (.int .u32) x32 (62 : Int)), ((gd (.int .u32) x32 (63 : Int)), ((gd (.int .u32) x32 (64 : Int)), ((gd (.int .u32) x32 (65 : Int)), ((gd (.int .u32) x32 (66 : Int)), ((gd (.int .u32) x32 (67 : Int)), ((gd (.int .u32) x32 (68 : Int)), ((gd (.int .u32) x32 (69 : Int)), ((gd (.int .u32) x32 (70 : Int)), ((gd (.int .u32) x32 (71 : Int)), ((gd (.int .u32) x32 (72 : Int)), ((gd (.int .u32) x32 (73 : Int)), ((gd (.int .u32) x32 (74 : Int)), ((gd (.int .u32) x32 (75 : Int)), ((gd (.int .u32) x32 (76 : Int)), ((gd (.int .u32) x32 (77 : Int)), ((gd (.int .u32) x32 (78 : Int)), ((gd (.int .u32) x32 (79 : Int)), ())))))))))))))))))))))))))))))))))))))))))))))))))))))))))))))))))))))))))))))))), ())))
 else none)
 else none)
def En : Nat -> I4
 | 0 => (fun _ => none, ())
 | k + 1 => (Jj (En k), ())
theorem X4 (k : Nat) : En (k + 1) = (Jj (En k), ()) := rfl
def Oh (T : I4) (d : Unit × ((Int × (Int × (Int × (Int × (Int × (Int × (Int × (Int × (Int × (Int × (Int × (Int × (Int × (Int × (Int × (Int × (Int × (Int × (Int × (Int × (Int × (Int × (Int × (Int × (Int × (Int × (Int × (Int × (Int × (Int × (Int × (Int × (Int × (Int × (Int × (Int × (Int × (Int × (Int × (Int × (Int × (Int × (Int × (Int × (Int × (Int × (Int × (Int × (Int × (Int × (Int × (Int × (Int × (Int × (Int × (Int × (Int × (Int × (Int × (Int × (Int × (Int × (Int × (Int × Unit)))))))))))))))))))))))))))))))))))))))))))))))))))))))))))))))) × Unit)) : Option (Ro) :=
 let x1 := ([d.2.1.1, d.2.1.2.1, d.2.1.2.2.1, d.2.1.2.2.2.1, d.2.1.2.2.2.2.1, d.2.1.2.2.2.2.2.1, d.2.1.2.2.2.2.2.2.1, d.2.1.2.2.2.2.2.2.2.1, d.2.1.2.2.2.2.2.2.2.2.1, d.2.1.2.2.2.2.2.2.2.2.2.1, d.2.1.2.2.2.2.2.2.2.2.2.2.1, d.2.1.2.2.2.2.2.2.2.2.2.2.2.1, d.2.1.2.2.2.2.2.2.2.2.2.2.2.2.1, d.2.1.2.2.2.2.2.2.2.2.2.2.2.2.2.1, d.2.1.2.2.2.2.2.2.2.2.2.2.2.2.2.2.1, d.2.1.2.2.2.2.2.2.2.2.2.2.2.2.2.2.2.1, d.2.1.2.2.2.2.2.2.2.2.2.2.2.2.2.2.2.2.1, d.2.1.2.2.2.2.2.2.2.2.2.2.2.2.2.2.2.2.2.1, d.2.1.2.2.2.2.2.2.2.2.2.2.2.2.2.2.2.2.2.2.1, d.2.1.2.2.2.2.2.2.2.2.2.2.2.2.2.2.2.2.2.2.2.1, d.2.1.2.2.2.2.2.2.2.2.2.2.2.2.2.2.2.2.2.2.2.2.1, d.2.1.2.2.2.2.2.2.2.2.2.2.2.2.2.2.2.2.2.2.2.2.2.1, d.2.1.2.2.2.2.2.2.2.2.2.2.2.2.2.2.2.2.2.2.2.2.2.2.1, d.2.1.2.2.2.2.2.2.2.2.2.2.2.2.2.2.2.2.2.2.2.2.2.2.2.1, d.2.1.2.2.2.2.2.2.2.2.2.2.2.2.2.2.2.2.2.2.2.2.2.2.2.2.1, d.2.1.2.2.2.2.2.2.2.2.2.2.2.2.2.2.2.2.2.2.2.2.2.2.2.2.2.1, d.2.1.2.2.2.2.2.2.2.2.2.2.2.2.2.2.2.2.2.2.2.2.2.2.2.2.2.2.1, d.2.1.2.2.2.2.2.2.2.2.2.2.2.2.2.2.2.2.2.2.2.2.2.2.2.2.2.2.2.1, d.2.1.2.2.2.2.2.2.2.2.2.2.2.2.2.2.2.2.2.2.2.2.2.2.2.2.2.2.2.2.1, d.2.1.2.2.2.2.2.2.2.2.2.2.2.2.2.2.2.2.2.2.2.2.2.2.2.2.2.2.2.2.2.1, d.2.1.2.2.2.2.2.2.2.2.2.2.2.2.2.2.2.2.2.2.2.2.2.2.2.2.2.2.2.2.2.2.1, d.2.1.2.2.2.2.2.2.2.2.2.2.2.2.2.2.2.2.2.2.2.2.2.2.2.2.2.2.2.2.2.2.2.1, d.2.1.2.2.2.2.2.2.2.2.2.2.2.2.2.2.2.2.2.2.2.2.2.2.2.2.2.2.2.2.2.2.2.2.1, d.2.1.2.2.2.2.2.2.2.2.2.2.2.2.2.2.2.2.2.2.2.2.2.2.2.2.2.2.2.2.2.2.2.2.2.1, d.2.1.2.2.2.2.2.2.2.2.2.2.2.2.2.2.2.2.2.2.2.2.2.2.2.2.2.2.2.2.2.2.2.2.2.2.1, d.2.1.2.2.2.2.2.2.2.2.2.2.2.2.2.2.2.2.2.2.2.2.2.2.2.2.2.2.2.2.2.2.2.2.2.2.2.1, d.2.1.2.2.2.2.2.2.2.2.2.2.2.2.2.2.2.2.2.2.2.2.2.2.2.2.2.2.2.2.2.2.2.2.2.2.2.2.1, d.2.1.2.2.2.2.2.2.2.2.2.2.2.2.2.2.2.2.2.2.2.2.2.2.2.2.2.2.2.2.2.2.2.2.2.2.2.2.2.1, d.2.1.2.2.2.2.2.2.2.2.2.2.2.2.2.2.2.2.2.2.2.2.2.2.2.2.2.2.2.2.2.2.2.2.2.2.2.2.2.2.1, d.2.1.2.2.2.2.2.2.2.2.2.2.2.2.2.2.2.2.2.2.2.2.2.2.2.2.2.2.2.2.2.2.2.2.2.2.2.2.2.2.2.1, d.2.1.2.2.2.2.2.2.2.2.2.2.2.2.2.2.2.2.2.2.2.2.2.2.2.2.2.2.2.2.2.2.2.2.2.2.2.2.2.2.2.2.1, d.2.1.2.2.2.2.2.2.2.2.2.2.2.2.2.2.2.2.2.2.2.2.2.2.2.2.2.2.2.2.2.2.2.2.2.2.2.2.2.2.2.2.2.1, d.2.1.2.2.2.2.2.2.2.2.2.2.2.2.2.2.2.2.2.2.2.2.2.2.2.2.2.2.2.2.2.2.2.2.2.2.2.2.2.2.2.2.2.2.1, d.2.1.2.2.2.2.2.2.2.2.2.2.2.2.2.2.2.2.2.2.2.2.2.2.2.2.2.2.2.2.2.2.2.2.2.2.2.2.2.2.2.2.2.2.2.1, d.2.1.2.2.2.2.2.2.2.2.2.2.2.2.2.2.2.2.2.2.2.2.2.2.2.2.2.2.2.2.2.2.2.2.2.2.2.2.2.2.2.2.2.2.2.2.1, d.2.1.2.2.2.2.2.2.2.2.2.2.2.2.2.2.2.2.2.2.2.2.2.2.2.2.2.2.2.2.2.2.2.2.2.2.2.2.2.2.2.2.2.2.2.2.2.1, d.2.1.2.2.2.2.2.2.2.2.2.2.2.2.2.2.2.2.2.2.2.2.2.2.2.2.2.2.2.2.2.2.2.2.2.2.2.2.2.2.2.2.2.2.2.2.2.2.1, d.2.1.2.2.2.2.2.2.2.2.2.2.2.2.2.2.2.2.2.2.2.2.2.2.2.2.2.2.2.2.2.2.2.2.2.2.2.2.2.2.2.2.2.2.2.2.2.2.2.1, d.2.1.2.2.2.2.2.2.2.2.2.2.2.2.2.2.2.2.2.2.2.2.2.2.2.2.2.2.2.2.2.2.2.2.2.2.2.2.2.2.2.2.2.2.2.2.2.2.2.2.1, d.2.1.2.2.2.2.2.2.2.2.2.2.2.2.2.2.2.2.2.2.2.2.2.2.2.2.2.2.2.2.2.2.2.2.2.2.2.2.2.2.2.2.2.2.2.2.2.2.2.2.2.1, d.2.1.2.2.2.2.2.2.2.2.2.2.2.2.2.2.2.2.2.2.2.2.2.2.2.2.2.2.2.2.2.2.2.2.2.2.2.2.2.2.2.2.2.2.2.2.2.2.2.2.2.2.1, d.2.1.2.2.2.2.2.2.2.2.2.2.2.2.2.2.2.2.2.2.2.2.2.2.2.2.2.2.2.2.2.2.2.2.2.2.2.2.2.2.2.2.2.2.2.2.2.2.2.2.2.2.2.1, d.2.1.2.2.2.2.2.2.2.2.2.2.2.2.2.2.2.2.2.2.2.2.2.2.2.2.2.2.2.2.2.2.2.2.2.2.2.2.2.2.2.2.2.2.2.2.2.2.2.2.2.2.2.2.1, d.2.1.2.2.2.2.2.2.2.2.2.2.2.2.2.2.2.2.2.2.2.2.2.2.2.2.2.2.2.2.2.2.2.2.2.2.2.2.2.2.2.2.2.2.2.2.2.2.2.2.2.2.2.2.2.1, d.2.1.2.2.2.2.2.2.2.2.2.2.2.2.2.2.2.2.2.2.2.2.2.2.2.2.2.2.2.2.2.2.2.2.2.2.2.2.2.2.2.2.2.2.2.2.2.2.2.2.2.2.2.2.2.2.1, d.2.1.2.2.2.2.2.2.2.2.2.2.2.2.2.2.2.2.2.2.2.2.2.2.2.2.2.2.2.2.2.2.2.2.2.2.2.2.2.2.2.2.2.2.2.2.2.2.2.2.2.2.2.2.2.2.2.1, d.2.1.2.2.2.2.2.2.2.2.2.2.2.2.2.2.2.2.2.2.2.2.2.2.2.2.2.2.2.2.2.2.2.2.2.2.2.2.2.2.2.2.2.2.2.2.2.2.2.2.2.2.2.2.2.2.2.2.1, d.2.1.2.2.2.2.2.2.2.2.2.2.2.2.2.2.2.2.2.2.2.2.2.2.2.2.2.2.2.2.2.2.2.2.2.2.2.2.2.2.2.2.2.2.2.2.2.2.2.2.2.2.2.2.2.2.2.2.2.1, d.2.1.2.2.2.2.2.2.2.2.2.2.2.2.2.2.2.2.2.2.2.2.2.2.2.2.2.2.2.2.2.2.2.2.2.2.2.2.2.2.2.2.2.2.2.2.2.2.2.2.2.2.2.2.2.2.2.2.2.2.1, d.2.1.2.2.2.2.2.2.2.2.2.2.2.2.2.2.2.2.2.2.2.2.2.2.2.2.2.2.2.2.2.2.2.2.2.2.2.2.2.2.2.2.2.2.2.2.2.2.2.2.2.2.2.2.2.2.2.2.2.2.2.1, d.2.1.2.2.2.2.2.2.2.2.2.2.2.2.2.2.2.2.2.2.2.2.2.2.2.2.2.2.2.2.2.2.2.2.2.2.2.2.2.2.2.2.2.2.2.2.2.2.2.2.2.2.2.2.2.2.2.2.2.2.2.2.1, d.2.1.2.2.2.2.2.2.2.2.2.2.2.2.2.2.2.2.2.2.2.2.2.2.2.2.2.2.2.2.2.2.2.2.2.2.2.2.2.2.2.2.2.2.2.2.2.2.2.2.2.2.2.2.2.2.2.2.2.2.2.2.2.1, d.2.1.2.2.2.2.2.2.2.2.2.2.2.2.2.2.2.2.2.2.2.2.2.2.2.2.2.2.2.2.2.2.2.2.2.2.2.2.2.2.2.2.2.2.2.2.2.2.2.2.2.2.2.2.2.2.2.2.2.2.2.2.2.2.1, d.2.1.2.2.2.2.2.2.2.2.2.2.2.2.2.2.2.2.2.2.2.2.2.2.2.2.2.2.2.2.2.2.2.2.2.2.2.2.2.2.2.2.2.2.2.2.2.2.2.2.2.2.2.2.2.2.2.2.2.2.2.2.2.2.2.1] : List Int)
 let x2 := (List.replicate 80 (0 : Int))
 let x3 := (List.replicate 80 (0 : Int))
 (T.1 ((x1, (x2, (x3, ()))), ((), ((), ((), ((0, ()), ()))))))
def Jv (d) := lim fun k => Oh (En k) d
theorem Af3 : Gf Tryz.prog ET0 98 Pi Pp Jv :=
 fnL (E := (E0.add 100 Lt)) (pi := Pi) (po := Pp) (Aa Bv (Ae K0)) (fn := Tryz.f98) Tryz.func98 (by kernel_rfl) (by kernel_rfl) [.cell 2 152] (by kernel_rfl) rfl rfl rfl [] (fun k => [(4, ⟨Abp, (En k).1⟩)]) (fun _ => [])
 (.intro (fun _ => rfl) trivial) (fun k => (.intro (fun d => by kernel_rfl) trivial)) trivial (fun k => trivial) (fun k d => Oh (En k) d) (fun k d => by kernel_rfl)
def Aja := Ak Pi Pp Jv
abbrev Aal : PSh := ⟨[], [kI, .mk false [.v (.int .u32)], .mk false [.v (.int .u32)], .mk false [.v (.int .u32)]]⟩
abbrev Aaw : PSh := ⟨[], [.mk false [.v (.int .u32)], .mk false [.v (.int .u32)]]⟩
def Afo (T : Unit) (d : Unit × ((Int × Unit) × ((Int × Unit) × ((Int × Unit) × ((Int × Unit) × Unit))))) : Option (Y4) :=
 let x1 := (Pg .i64 d.2.1.1 (20 : Int))
 let x2 := (x1 == (0 : Int))
 bif x2 then (
 let x3 := (Aj7 .u32 d.2.2.2.1.1 d.2.2.2.2.1.1)
 let x4 := (Axv .u32 d.2.2.1.1 x3)
 let x5 := (Aj7 .u32 d.2.2.2.2.1.1 x4)
 some ((), ((x5, ()), ((1518500249, ()), ()))))
 else (
 let x6 := (x1 == (1 : Int))
 bif x6 then (
 let x7 := (Aj7 .u32 d.2.2.1.1 d.2.2.2.1.1)
 let x8 := (Aj7 .u32 x7 d.2.2.2.2.1.1)
 some ((), ((x8, ()), ((1859775393, ()), ()))))
 else (
 let x9 := (x1 == (2 : Int))
 bif x9 then (
 let x10 := (Axv .u32 d.2.2.1.1 d.2.2.2.1.1)
 let x11 := (ior .u32 d.2.2.1.1 d.2.2.2.1.1)
 let x12 := (Axv .u32 d.2.2.2.2.1.1 x11)
 let x13 := (ior .u32 x10 x12)
 some ((), ((x13, ()), ((2400959708, ()), ()))))
 else (
 let x14 := (Aj7 .u32 d.2.2.1.1 d.2.2.2.1.1)
 let x15 := (Aj7 .u32 x14 d.2.2.2.2.1.1)
 some ((), ((x15, ()), ((3395469782, ()), ()))))))
def Qr := Afo ()
theorem Atb : Gf Tryz.prog ET0 99 Aal Aaw Qr :=
 fn0 (E := E0) (pi := Aal) (po := Aaw) Bv (fn := Tryz.f99) Tryz.func99 (by kernel_rfl) (by kernel_rfl) [.tmp 8, .tmp 9] (by kernel_rfl) rfl rfl rfl [] fun d => by kernel_rfl
def Awt := Ak Aal Aaw Qr
abbrev Xc : PSh := ⟨[], [.mk true [.v (.int .u32), .v (.int .u32), .v (.int .u32), .v (.int .u32), .v (.int .u32)], .mk true [v8, v8, v8, v8, v8, v8, v8, v8, v8, v8, v8, v8, v8, v8, v8, v8, v8, v8, v8, v8, v8, v8, v8, v8, v8, v8, v8, v8, v8, v8, v8, v8, v8, v8, v8, v8, v8, v8, v8, v8, v8, v8, v8, v8, v8, v8, v8, v8, v8, v8, v8, v8, v8, v8, v8, v8, v8, v8, v8, v8, v8, v8, v8, v8]]⟩
abbrev Xu : PSh := O4
abbrev Ll : Type := Y8
abbrev Acc : Type := ((Int × (Int × (Int × (Int × (Int × Unit))))) × ((Int × (Int × (Int × (Int × (Int × Unit))))) × ((Int × (Int × (Int × (Int × (Int × Unit))))) × Unit))) × (Unit × (Unit × (Unit × ((Int × (Int × (Int × (Int × (Int × (Int × (Int × (Int × (Int × (Int × (Int × (Int × (Int × (Int × (Int × (Int × (Int × (Int × (Int × (Int × (Int × (Int × (Int × (Int × (Int × (Int × (Int × (Int × (Int × (Int × (Int × (Int × (Int × (Int × (Int × (Int × (Int × (Int × (Int × (Int × (Int × (Int × (Int × (Int × (Int × (Int × (Int × (Int × (Int × (Int × (Int × (Int × (Int × (Int × (Int × (Int × (Int × (Int × (Int × (Int × (Int × (Int × (Int × (Int × (Int × (Int × (Int × (Int × (Int × (Int × (Int × (Int × (Int × (Int × (Int × (Int × (Int × (Int × (Int × (Int × Unit)))))))))))))))))))))))))))))))))))))))))))))))))))))))))))))))))))))))))))))))) × ((Int × Unit) × Unit)))))
abbrev Tj : Type := ((Int × (Int × (Int × (Int × (Int × Unit))))) × ((Int × (Int × (Int × (Int × (Int × Unit))))) × ((Int × (Int × (Int × (Int × (Int × Unit))))) × Unit))) × (Unit × (Unit × (Unit × ((Int × Unit) × Unit))))
abbrev Zn : Type := Tj
abbrev Dz : Type := (((Acc) -> Option (Ll)) × (((Tj) -> Option (Ll)) × (((Zn) -> Option (Ll)) × Unit)))
abbrev Ake : PSh := ⟨[.var 36 [.v (.int .u32), .v (.int .u32), .v (.int .u32), .v (.int .u32), .v (.int .u32)], .var 36 [.v (.int .u32), .v (.int .u32), .v (.int .u32), .v (.int .u32), .v (.int .u32)], .var 36 [.v (.int .u32), .v (.int .u32), .v (.int .u32), .v (.int .u32), .v (.int .u32)]], [.any, .any, .mk false [.ref 0 0], .any, .mk false [.ref 1 0], .mk false [.ref 2 0], .any, .any, .any, .any, .any, .any, .any, .mk true [.v (.int .u32), .v (.int .u32), .v (.int .u32), .v (.int .u32), .v (.int .u32), .v (.int .u32), .v (.int .u32), .v (.int .u32), .v (.int .u32), .v (.int .u32), .v (.int .u32), .v (.int .u32), .v (.int .u32), .v (.int .u32), .v (.int .u32), .v (.int .u32), .v (.int .u32), .v (.int .u32), .v (.int .u32), .v (.int .u32), .v (.int .u32), .v (.int .u32), .v (.int .u32), .v (.int .u32), .v (.int .u32), .v (.int .u32), .v (.int .u32), .v (.int .u32), .v (.int .u32), .v (.int .u32), .v (.int .u32), .v (.int .u32), .v (.int .u32), .v (.int .u32), .v (.int .u32), .v (.int .u32), .v (.int .u32), .v (.int .u32), .v (.int .u32), .v (.int .u32), .v (.int .u32), .v (.int .u32), .v (.int .u32), .v (.int .u32), .v (.int .u32), .v (.int .u32), .v (.int .u32), .v (.int .u32), .v (.int .u32), .v (.int .u32), .v (.int .u32), .v (.int .u32), .v (.int .u32), .v (.int .u32), .v (.int .u32), .v (.int .u32), .v (.int .u32), .v (.int .u32), .v (.int .u32), .v (.int .u32), .v (.int .u32), .v (.int .u32), .v (.int .u32), .v (.int .u32), .v (.int .u32), .v (.int .u32), .v (.int .u32), .v (.int .u32), .v (.int .u32), .v (.int .u32), .v (.int .u32), .v (.int .u32), .v (.int .u32), .v (.int .u32), .v (.int .u32), .v (.int .u32), .v (.int .u32), .v (.int .u32), .v (.int .u32), .v (.int .u32)], kI] ++ Ab1 50⟩
abbrev Xm : PSh := ⟨[.var 36 [.v (.int .u32), .v (.int .u32), .v (.int .u32), .v (.int .u32), .v (.int .u32)], .var 36 [.v (.int .u32), .v (.int .u32), .v (.int .u32), .v (.int .u32), .v (.int .u32)], .var 36 [.v (.int .u32), .v (.int .u32), .v (.int .u32), .v (.int .u32), .v (.int .u32)]], [.any, .any, .mk false [.ref 0 0], .any, .mk false [.ref 1 0], .mk false [.ref 2 0], .any, .any, .any, .any, .any, .any, .any, .any, .any, .any, .any, .any, .any, .any, .any, .any, .any, .any, .any, .any, .any, .any, .any, .any, .any, .any, .any, .any, .any, .any, .any, .any, .any, .any, .any, .any, .any, .any, .any, .any, .any, .any, .any, .any, .any, .any, kI] ++ Ab1 12⟩
abbrev Ahz : PSh := Xm
def S0 (T : Dz) (d : Acc) : Option (Ll) :=
 let x3 := (decide (d.2.2.2.2.2.1.1 < (80 : Int)))
 bif x3 then (
 bif decide ((0 : Int) <= d.2.2.2.2.2.1.1) && decide (d.2.2.2.2.2.1.1 < (80 : Int)) then (
 (Qr ((), (d.2.2.2.2.2.1, ((d.1.2.2.1.2.1, ()), ((d.1.2.2.1.2.2.1, ()), ((d.1.2.2.1.2.2.2.1, ()), ())))))).bind fun x4 =>
 (A7 ((), ((d.1.2.2.1.1, ()), ((5, ()), ())))).bind fun x5 =>
 let x6 := (Cr .u32 x5.2.1.1 x4.2.1.1)
 let x7 := (Cr .u32 x6 d.1.2.2.1.2.2.2.2.1)
 let x8 := (Cr .u32 x7 x4.2.2.1.1)
 let x9 := (Cr .u32 x8 (gd (.int .u32) ([d.2.2.2.2.1.1, d.2.2.2.2.1.2.1, d.2.2.2.2.1.2.2.1, d.2.2.2.2.1.2.2.2.1, d.2.2.2.2.1.2.2.2.2.1, d.2.2.2.2.1.2.2.2.2.2.1, d.2.2.2.2.1.2.2.2.2.2.2.1, d.2.2.2.2.1.2.2.2.2.2.2.2.1, d.2.2.2.2.1.2.2.2.2.2.2.2.2.1, d.2.2.2.2.1.2.2.2.2.2.2.2.2.2.1, d.2.2.2.2.1.2.2.2.2.2.2.2.2.2.2.1, d.2.2.2.2.1.2.2.2.2.2.2.2.2.2.2.2.1, d.2.2.2.2.1.2.2.2.2.2.2.2.2.2.2.2.2.1, d.2.2.2.2.1.2.2.2.2.2.2.2.2.2.2.2.2.2.1, d.2.2.2.2.1.2.2.2.2.2.2.2.2.2.2.2.2.2.2.1, d.2.2.2.2.1.2.2.2.2.2.2.2.2.2.2.2.2.2.2.2.1, d.2.2.2.2.1.2.2.2.2.2.2.2.2.2.2.2.2.2.2.2.2.1, d.2.2.2.2.1.2.2.2.2.2.2.2.2.2.2.2.2.2.2.2.2.2.1, d.2.2.2.2.1.2.2.2.2.2.2.2.2.2.2.2.2.2.2.2.2.2.2.1, d.2.2.2.2.1.2.2.2.2.2.2.2.2.2.2.2.2.2.2.2.2.2.2.2.1, d.2.2.2.2.1.2.2.2.2.2.2.2.2.2.2.2.2.2.2.2.2.2.2.2.2.1, d.2.2.2.2.1.2.2.2.2.2.2.2.2.2.2.2.2.2.2.2.2.2.2.2.2.2.1, d.2.2.2.2.1.2.2.2.2.2.2.2.2.2.2.2.2.2.2.2.2.2.2.2.2.2.2.1, d.2.2.2.2.1.2.2.2.2.2.2.2.2.2.2.2.2.2.2.2.2.2.2.2.2.2.2.2.1, d.2.2.2.2.1.2.2.2.2.2.2.2.2.2.2.2.2.2.2.2.2.2.2.2.2.2.2.2.2.1, d.2.2.2.2.1.2.2.2.2.2.2.2.2.2.2.2.2.2.2.2.2.2.2.2.2.2.2.2.2.2.1, d.2.2.2.2.1.2.2.2.2.2.2.2.2.2.2.2.2.2.2.2.2.2.2.2.2.2.2.2.2.2.2.1, d.2.2.2.2.1.2.2.2.2.2.2.2.2.2.2.2.2.2.2.2.2.2.2.2.2.2.2.2.2.2.2.2.1, d.2.2.2.2.1.2.2.2.2.2.2.2.2.2.2.2.2.2.2.2.2.2.2.2.2.2.2.2.2.2.2.2.2.1, d.2.2.2.2.1.2.2.2.2.2.2.2.2.2.2.2.2.2.2.2.2.2.2.2.2.2.2.2.2.2.2.2.2.2.1, d.2.2.2.2.1.2.2.2.2.2.2.2.2.2.2.2.2.2.2.2.2.2.2.2.2.2.2.2.2.2.2.2.2.2.2.1, d.2.2.2.2.1.2.2.2.2.2.2.2.2.2.2.2.2.2.2.2.2.2.2.2.2.2.2.2.2.2.2.2.2.2.2.2.1, d.2.2.2.2.1.2.2.2.2.2.2.2.2.2.2.2.2.2.2.2.2.2.2.2.2.2.2.2.2.2.2.2.2.2.2.2.2.1, d.2.2.2.2.1.2.2.2.2.2.2.2.2.2.2.2.2.2.2.2.2.2.2.2.2.2.2.2.2.2.2.2.2.2.2.2.2.2.1, d.2.2.2.2.1.2.2.2.2.2.2.2.2.2.2.2.2.2.2.2.2.2.2.2.2.2.2.2.2.2.2.2.2.2.2.2.2.2.2.1, d.2.2.2.2.1.2.2.2.2.2.2.2.2.2.2.2.2.2.2.2.2.2.2.2.2.2.2.2.2.2.2.2.2.2.2.2.2.2.2.2.1, d.2.2.2.2.1.2.2.2.2.2.2.2.2.2.2.2.2.2.2.2.2.2.2.2.2.2.2.2.2.2.2.2.2.2.2.2.2.2.2.2.2.1, d.2.2.2.2.1.2.2.2.2.2.2.2.2.2.2.2.2.2.2.2.2.2.2.2.2.2.2.2.2.2.2.2.2.2.2.2.2.2.2.2.2.2.1, d.2.2.2.2.1.2.2.2.2.2.2.2.2.2.2.2.2.2.2.2.2.2.2.2.2.2.2.2.2.2.2.2.2.2.2.2.2.2.2.2.2.2.2.1, d.2.2.2.2.1.2.2.2.2.2.2.2.2.2.2.2.2.2.2.2.2.2.2.2.2.2.2.2.2.2.2.2.2.2.2.2.2.2.2.2.2.2.2.2.1, d.2.2.2.2.1.2.2.2.2.2.2.2.2.2.2.2.2.2.2.2.2.2.2.2.2.2.2.2.2.2.2.2.2.2.2.2.2.2.2.2.2.2.2.2.2.1, d.2.2.2.2.1.2.2.2.2.2.2.2.2.2.2.2.2.2.2.2.2.2.2.2.2.2.2.2.2.2.2.2.2.2.2.2.2.2.2.2.2.2.2.2.2.2.1, d.2.2.2.2.1.2.2.2.2.2.2.2.2.2.2.2.2.2.2.2.2.2.2.2.2.2.2.2.2.2.2.2.2.2.2.2.2.2.2.2.2.2.2.2.2.2.2.1, d.2.2.2.2.1.2.2.2.2.2.2.2.2.2.2.2.2.2.2.2.2.2.2.2.2.2.2.2.2.2.2.2.2.2.2.2.2.2.2.2.2.2.2.2.2.2.2.2.1, d.2.2.2.2.1.2.2.2.2.2.2.2.2.2.2.2.2.2.2.2.2.2.2.2.2.2.2.2.2.2.2.2.2.2.2.2.2.2.2.2.2.2.2.2.2.2.2.2.2.1, d.2.2.2.2.1.2.2.2.2.2.2.2.2.2.2.2.2.2.2.2.2.2.2.2.2.2.2.2.2.2.2.2.2.2.2.2.2.2.2.2.2.2.2.2.2.2.2.2.2.2.1, d.2.2.2.2.1.2.2.2.2.2.2.2.2.2.2.2.2.2.2.2.2.2.2.2.2.2.2.2.2.2.2.2.2.2.2.2.2.2.2.2.2.2.2.2.2.2.2.2.2.2.2.1, d.2.2.2.2.1.2.2.2.2.2.2.2.2.2.2.2.2.2.2.2.2.2.2.2.2.2.2.2.2.2.2.2.2.2.2.2.2.2.2.2.2.2.2.2.2.2.2.2.2.2.2.2.1, d.2.2.2.2.1.2.2.2.2.2.2.2.2.2.2.2.2.2.2.2.2.2.2.2.2.2.2.2.2.2.2.2.2.2.2.2.2.2.2.2.2.2.2.2.2.2.2.2.2.2.2.2.2.1, d.2.2.2.2.1.2.2.2.2.2.2.2.2.2.2.2.2.2.2.2.2.2.2.2.2.2.2.2.2.2.2.2.2.2.2.2.2.2.2.2.2.2.2.2.2.2.2.2.2.2.2.2.2.2.1, d.2.2.2.2.1.2.2.2.2.2.2.2.2.2.2.2.2.2.2.2.2.2.2.2.2.2.2.2.2.2.2.2.2.2.2.2.2.2.2.2.2.2.2.2.2.2.2.2.2.2.2.2.2.2.2.1, d.2.2.2.2.1.2.2.2.2.2.2.2.2.2.2.2.2.2.2.2.2.2.2.2.2.2.2.2.2.2.2.2.2.2.2.2.2.2.2.2.2.2.2.2.2.2.2.2.2.2.2.2.2.2.2.2.1, d.2.2.2.2.1.2.2.2.2.2.2.2.2.2.2.2.2.2.2.2.2.2.2.2.2.2.2.2.2.2.2.2.2.2.2.2.2.2.2.2.2.2.2.2.2.2.2.2.2.2.2.2.2.2.2.2.2.1, d.2.2.2.2.1.2.2.2.2.2.2.2.2.2.2.2.2.2.2.2.2.2.2.2.2.2.2.2.2.2.2.2.2.2.2.2.2.2.2.2.2.2.2.2.2.2.2.2.2.2.2.2.2.2.2.2.2.2.1, d.2.2.2.2.1.2.2.2.2.2.2.2.2.2.2.2.2.2.2.2.2.2.2.2.2.2.2.2.2.2.2.2.2.2.2.2.2.2.2.2.2.2.2.2.2.2.2.2.2.2.2.2.2.2.2.2.2.2.2.1, d.2.2.2.2.1.2.2.2.2.2.2.2.2.2.2.2.2.2.2.2.2.2.2.2.2.2.2.2.2.2.2.2.2.2.2.2.2.2.2.2.2.2.2.2.2.2.2.2.2.2.2.2.2.2.2.2.2.2.2.2.1, d.2.2.2.2.1.2.2.2.2.2.2.2.2.2.2.2.2.2.2.2.2.2.2.2.2.2.2.2.2.2.2.2.2.2.2.2.2.2.2.2.2.2.2.2.2.2.2.2.2.2.2.2.2.2.2.2.2.2.2.2.2.1, d.2.2.2.2.1.2.2.2.2.2.2.2.2.2.2.2.2.2.2.2.2.2.2.2.2.2.2.2.2.2.2.2.2.2.2.2.2.2.2.2.2.2.2.2.2.2.2.2.2.2.2.2.2.2.2.2.2.2.2.2.2.2.1, d.2.2.2.2.1.2.2.2.2.2.2.2.2.2.2.2.2.2.2.2.2.2.2.2.2.2.2.2.2.2.2.2.2.2.2.2.2.2.2.2.2.2.2.2.2.2.2.2.2.2.2.2.2.2.2.2.2.2.2.2.2.2.2.1, d.2.2.2.2.1.2.2.2.2.2.2.2.2.2.2.2.2.2.2.2.2.2.2.2.2.2.2.2.2.2.2.2.2.2.2.2.2.2.2.2.2.2.2.2.2.2.2.2.2.2.2.2.2.2.2.2.2.2.2.2.2.2.2.2.1, d.2.2.2.2.1.2.2.2.2.2.2.2.2.2.2.2.2.2.2.2.2.2.2.2.2.2.2.2.2.2.2.2.2.2.2.2.2.2.2.2.2.2.2.2.2.2.2.2.2.2.2.2.2.2.2.2.2.2.2.2.2.2.2.2.2.1, d.2.2.2.2.1.2.2.2.2.2.2.2.2.2.2.2.2.2.2.2.2.2.2.2.2.2.2.2.2.2.2.2.2.2.2.2.2.2.2.2.2.2.2.2.2.2.2.2.2.2.2.2.2.2.2.2.2.2.2.2.2.2.2.2.2.2.1, d.2.2.2.2.1.2.2.2.2.2.2.2.2.2.2.2.2.2.2.2.2.2.2.2.2.2.2.2.2.2.2.2.2.2.2.2.2.2.2.2.2.2.2.2.2.2.2.2.2.2.2.2.2.2.2.2.2.2.2.2.2.2.2.2.2.2.2.1, d.2.2.2.2.1.2.2.2.2.2.2.2.2.2.2.2.2.2.2.2.2.2.2.2.2.2.2.2.2.2.2.2.2.2.2.2.2.2.2.2.2.2.2.2.2.2.2.2.2.2.2.2.2.2.2.2.2.2.2.2.2.2.2.2.2.2.2.2.1, d.2.2.2.2.1.2.2.2.2.2.2.2.2.2.2.2.2.2.2.2.2.2.2.2.2.2.2.2.2.2.2.2.2.2.2.2.2.2.2.2.2.2.2.2.2.2.2.2.2.2.2.2.2.2.2.2.2.2.2.2.2.2.2.2.2.2.2.2.2.1, d.2.2.2.2.1.2.2.2.2.2.2.2.2.2.2.2.2.2.2.2.2.2.2.2.2.2.2.2.2.2.2.2.2.2.2.2.2.2.2.2.2.2.2.2.2.2.2.2.2.2.2.2.2.2.2.2.2.2.2.2.2.2.2.2.2.2.2.2.2.2.1, d.2.2.2.2.1.2.2.2.2.2.2.2.2.2.2.2.2.2.2.2.2.2.2.2.2.2.2.2.2.2.2.2.2.2.2.2.2.2.2.2.2.2.2.2.2.2.2.2.2.2.2.2.2.2.2.2.2.2.2.2.2.2.2.2.2.2.2.2.2.2.2.1, d.2.2.2.2.1.2.2.2.2.2.2.2.2.2.2.2.2.2.2.2.2.2.2.2.2.2.2.2.2.2.2.2.2.2.2.2.2.2.2.2.2.2.2.2.2.2.2.2.2.2.2.2.2.2.2.2.2.2.2.2.2.2.2.2.2.2.2.2.2.2.2.2.1, d.2.2.2.2.1.2.2.2.2.2.2.2.2.2.2.2.2.2.2.2.2.2.2.2.2.2.2.2.2.2.2.2.2.2.2.2.2.2.2.2.2.2.2.2.2.2.2.2.2.2.2.2.2.2.2.2.2.2.2.2.2.2.2.2.2.2.2.2.2.2.2.2.2.1, d.2.2.2.2.1.2.2.2.2.2.2.2.2.2.2.2.2.2.2.2.2.2.2.2.2.2.2.2.2.2.2.2.2.2.2.2.2.2.2.2.2.2.2.2.2.2.2.2.2.2.2.2.2.2.2.2.2.2.2.2.2.2.2.2.2.2.2.2.2.2.2.2.2.2.1, d.2.2.2.2.1.2.2.2.2.2.2.2.2.2.2.2.2.2.2.2.2.2.2.2.2.2.2.2.2.2.2.2.2.2.2.2.2.2.2.2.2.2.2.2.2.2.2.2.2.2.2.2.2.2.2.2.2.2.2.2.2.2.2.2.2.2.2.2.2.2.2.2.2.2.2.1, d.2.2.2.2.1.2.2.2.2.2.2.2.2.2.2.2.2.2.2.2.2.2.2.2.2.2.2.2.2.2.2.2.2.2.2.2.2.2.2.2.2.2.2.2.2.2.2.2.2.2.2.2.2.2.2.2.2.2.2.2.2.2.2.2.2.2.2.2.2.2.2.2.2.2.2.2.1, d.2.2.2.2.1.2.2.2.2.2.2.2.2.2.2.2.2.2.2.2.2.2.2.2.2.2.2.2.2.2.2.2.2.2.2.2.2.2.2.2.2.2.2.2.2.2.2.2.2.2.2.2.2.2.2.2.2.2.2.2.2.2.2.2.2.2.2.2.2.2.2.2.2.2.2.2.2.1, d.2.2.2.2.1.2.2.2.2.2.2.2.2.2.2.2.2.2.2.2.2.2.2.2.2.2.2.2.2.2.2.2.2.2.2.2.2.2.2.2.2.2.2.2.2.2.2.2.2.2.2.2.2.2.2.2.2.2.2.2.2.2.2.2.2.2.2.2.2.2.2.2.2.2.2.2.2.2.1, d.2.2.2.2.1.2.2.2.2.2.2.2.2.2.2.2.2.2.2.2.2.2.2.2.2.2.2.2.2.2.2.2.2.2.2.2.2.2.2.2.2.2.2.2.2.2.2.2.2.2.2.2.2.2.2.2.2.2.2.2.2.2.2.2.2.2.2.2.2.2.2.2.2.2.2.2.2.2.2.1, d.2.2.2.2.1.2.2.2.2.2.2.2.2.2.2.2.2.2.2.2.2.2.2.2.2.2.2.2.2.2.2.2.2.2.2.2.2.2.2.2.2.2.2.2.2.2.2.2.2.2.2.2.2.2.2.2.2.2.2.2.2.2.2.2.2.2.2.2.2.2.2.2.2.2.2.2.2.2.2.2.1, d.2.2.2.2.1.2.2.2.2.2.2.2.2.2.2.2.2.2.2.2.2.2.2.2.2.2.2.2.2.2.2.2.2.2.2.2.2.2.2.2.2.2.2.2.2.2.2.2.2.2.2.2.2.2.2.2.2.2.2.2.2.2.2.2.2.2.2.2.2.2.2.2.2.2.2.2.2.2.2.2.2.1, d.2.2.2.2.1.2.2.2.2.2.2.2.2.2.2.2.2.2.2.2.2.2.2.2.2.2.2.2.2.2.2.2.2.2.2.2.2.2.2.2.2.2.2.2.2.2.2.2.2.2.2.2.2.2.2.2.2.2.2.2.2.2.2.2.2.2.2.2.2.2.2.2.2.2.2.2.2.2.2.2.2.2.1, d.2.2.2.2.1.2.2.2.2.2.2.2.2.2.2.2.2.2.2.2.2.2.2.2.2.2.2.2.2.2.2.2.2.2.2.2.2.2.2.2.2.2.2.2.2.2.2.2.2.2.2.2.2.2.2.2.2.2.2.2.2.2.2.2.2.2.2.2.2.2.2.2.2.2.2.2.2.2.2.2.2.2.2.1, d.2.2.2.2.1.2.2.2.2.2.2.2.2.2.2.2.2.2.2.2.2.2.2.2.2.2.2.2.2.2.2.2.2.2.2.2.2.2.2.2.2.2.2.2.2.2.2.2.2.2.2.2.2.2.2.2.2.2.2.2.2.2.2.2.2.2.2.2.2.2.2.2.2.2.2.2.2.2.2.2.2.2.2.2.1] : List Int) d.2.2.2.2.2.1.1))
 (A7 ((), ((d.1.2.2.1.2.1, ()), ((30, ()), ())))).bind fun x10 =>
 let x11 := (Cr .i64 d.2.2.2.2.2.1.1 1)
 (T.1 ((d.1.1, (d.1.2.1, ((x9, (d.1.2.2.1.1, (x10.2.1.1, (d.1.2.2.1.2.2.1, (d.1.2.2.1.2.2.2.1, ()))))), ()))), ((), ((), ((), (d.2.2.2.2.1, ((x11, ()), ()))))))))
 else none)
 else (
 (T.2.1 (d.1, ((), ((), ((), ((0, ()), ())))))))
def E1 (T : Dz) (d : Tj) : Option (Ll) :=
 let x12 := (decide (d.2.2.2.2.1.1 < (5 : Int)))
 bif x12 then (
 bif decide ((0 : Int) <= d.2.2.2.2.1.1) && decide (d.2.2.2.2.1.1 < (5 : Int)) then (
 bif decide (d.2.2.2.2.1.1 = (0 : Int)) then (
 bif decide ((0 : Int) <= d.2.2.2.2.1.1) && decide (d.2.2.2.2.1.1 < (5 : Int)) then (
 bif decide (d.2.2.2.2.1.1 = (0 : Int)) then (
 let x37 := (Cr .u32 d.1.2.2.1.1 d.1.1.1)
 bif decide ((0 : Int) <= d.2.2.2.2.1.1) && decide (d.2.2.2.2.1.1 < (5 : Int)) then (
 bif decide (d.2.2.2.2.1.1 = (0 : Int)) then (
 (T.2.2.1 ((d.1.1, (d.1.2.1, ((x37, d.1.2.2.1.2), ()))), ((), ((), ((), d.2.2.2.2))))))
 else (
 bif decide (d.2.2.2.2.1.1 = (1 : Int)) then (
 (T.2.2.1 ((d.1.1, (d.1.2.1, ((d.1.2.2.1.1, (x37, d.1.2.2.1.2.2)), ()))), ((), ((), ((), d.2.2.2.2))))))
 else (
 bif decide (d.2.2.2.2.1.1 = (2 : Int)) then (
 (T.2.2.1 ((d.1.1, (d.1.2.1, ((d.1.2.2.1.1, (d.1.2.2.1.2.1, (x37, d.1.2.2.1.2.2.2))), ()))), ((), ((), ((), d.2.2.2.2))))))
 else (
 bif decide (d.2.2.2.2.1.1 = (3 : Int)) then (
 (T.2.2.1 ((d.1.1, (d.1.2.1, ((d.1.2.2.1.1, (d.1.2.2.1.2.1, (d.1.2.2.1.2.2.1, (x37, d.1.2.2.1.2.2.2.2)))), ()))), ((), ((), ((), d.2.2.2.2))))))
 else (
 bif decide (d.2.2.2.2.1.1 = (4 : Int)) then (
 (T.2.2.1 ((d.1.1, (d.1.2.1, ((d.1.2.2.1.1, (d.1.2.2.1.2.1, (d.1.2.2.1.2.2.1, (d.1.2.2.1.2.2.2.1, (x37, ()))))), ()))), ((), ((), ((), d.2.2.2.2))))))
 else (
 none))))))
 else none)
 else (
 bif decide (d.2.2.2.2.1.1 = (1 : Int)) then (
 let x36 := (Cr .u32 d.1.2.2.1.1 d.1.1.2.1)
 bif decide ((0 : Int) <= d.2.2.2.2.1.1) && decide (d.2.2.2.2.1.1 < (5 : Int)) then (
 bif decide (d.2.2.2.2.1.1 = (0 : Int)) then (
 (T.2.2.1 ((d.1.1, (d.1.2.1, ((x36, d.1.2.2.1.2), ()))), ((), ((), ((), d.2.2.2.2))))))
 else (
 bif decide (d.2.2.2.2.1.1 = (1 : Int)) then (
 (T.2.2.1 ((d.1.1, (d.1.2.1, ((d.1.2.2.1.1, (x36, d.1.2.2.1.2.2)), ()))), ((), ((), ((), d.2.2.2.2))))))
 else (
 bif decide (d.2.2.2.2.1.1 = (2 : Int)) then (
 (T.2.2.1 ((d.1.1, (d.1.2.1, ((d.1.2.2.1.1, (d.1.2.2.1.2.1, (x36, d.1.2.2.1.2.2.2))), ()))), ((), ((), ((), d.2.2.2.2))))))
 else (
 bif decide (d.2.2.2.2.1.1 = (3 : Int)) then (
 (T.2.2.1 ((d.1.1, (d.1.2.1, ((d.1.2.2.1.1, (d.1.2.2.1.2.1, (d.1.2.2.1.2.2.1, (x36, d.1.2.2.1.2.2.2.2)))), ()))), ((), ((), ((), d.2.2.2.2))))))
 else (
 bif decide (d.2.2.2.2.1.1 = (4 : Int)) then (
 (T.2.2.1 ((d.1.1, (d.1.2.1, ((d.1.2.2.1.1, (d.1.2.2.1.2.1, (d.1.2.2.1.2.2.1, (d.1.2.2.1.2.2.2.1, (x36, ()))))), ()))), ((), ((), ((), d.2.2.2.2))))))
 else (
 none))))))
 else none)
 else (
 bif decide (d.2.2.2.2.1.1 = (2 : Int)) then (
 let x35 := (Cr .u32 d.1.2.2.1.1 d.1.1.2.2.1)
 bif decide ((0 : Int) <= d.2.2.2.2.1.1) && decide (d.2.2.2.2.1.1 < (5 : Int)) then (
 bif decide (d.2.2.2.2.1.1 = (0 : Int)) then (
 (T.2.2.1 ((d.1.1, (d.1.2.1, ((x35, d.1.2.2.1.2), ()))), ((), ((), ((), d.2.2.2.2))))))
 else (
 bif decide (d.2.2.2.2.1.1 = (1 : Int)) then (
 (T.2.2.1 ((d.1.1, (d.1.2.1, ((d.1.2.2.1.1, (x35, d.1.2.2.1.2.2)), ()))), ((), ((), ((), d.2.2.2.2))))))
 else (
 bif decide (d.2.2.2.2.1.1 = (2 : Int)) then (
 (T.2.2.1 ((d.1.1, (d.1.2.1, ((d.1.2.2.1.1, (d.1.2.2.1.2.1, (x35, d.1.2.2.1.2.2.2))), ()))), ((), ((), ((), d.2.2.2.2))))))
 else (
 bif decide (d.2.2.2.2.1.1 = (3 : Int)) then (
 (T.2.2.1 ((d.1.1, (d.1.2.1, ((d.1.2.2.1.1, (d.1.2.2.1.2.1, (d.1.2.2.1.2.2.1, (x35, d.1.2.2.1.2.2.2.2)))), ()))), ((), ((), ((), d.2.2.2.2))))))
 else (
 bif decide (d.2.2.2.2.1.1 = (4 : Int)) then (
 (T.2.2.1 ((d.1.1, (d.1.2.1, ((d.1.2.2.1.1, (d.1.2.2.1.2.1, (d.1.2.2.1.2.2.1, (d.1.2.2.1.2.2.2.1, (x35, ()))))), ()))), ((), ((), ((), d.2.2.2.2))))))
 else (
 none))))))
 else none)
 else (
 bif decide (d.2.2.2.2.1.1 = (3 : Int)) then (
 let x34 := (Cr .u32 d.1.2.2.1.1 d.1.1.2.2.2.1)
 bif decide ((0 : Int) <= d.2.2.2.2.1.1) && decide (d.2.2.2.2.1.1 < (5 : Int)) then (
 bif decide (d.2.2.2.2.1.1 = (0 : Int)) then (
 (T.2.2.1 ((d.1.1, (d.1.2.1, ((x34, d.1.2.2.1.2), ()))), ((), ((), ((), d.2.2.2.2))))))
 else (
 bif decide (d.2.2.2.2.1.1 = (1 : Int)) then (
 (T.2.2.1 ((d.1.1, (d.1.2.1, ((d.1.2.2.1.1, (x34, d.1.2.2.1.2.2)), ()))), ((), ((), ((), d.2.2.2.2))))))
 else (
 bif decide (d.2.2.2.2.1.1 = (2 : Int)) then (
 (T.2.2.1 ((d.1.1, (d.1.2.1, ((d.1.2.2.1.1, (d.1.2.2.1.2.1, (x34, d.1.2.2.1.2.2.2))), ()))), ((), ((), ((), d.2.2.2.2))))))
 else (
 bif decide (d.2.2.2.2.1.1 = (3 : Int)) then (
 (T.2.2.1 ((d.1.1, (d.1.2.1, ((d.1.2.2.1.1, (d.1.2.2.1.2.1, (d.1.2.2.1.2.2.1, (x34, d.1.2.2.1.2.2.2.2)))), ()))), ((), ((), ((), d.2.2.2.2))))))
 else (
 bif decide (d.2.2.2.2.1.1 = (4 : Int)) then (
 (T.2.2.1 ((d.1.1, (d.1.2.1, ((d.1.2.2.1.1, (d.1.2.2.1.2.1, (d.1.2.2.1.2.2.1, (d.1.2.2.1.2.2.2.1, (x34, ()))))), ()))), ((), ((), ((), d.2.2.2.2))))))
 else (
 none))))))
 else none)
 else (
 bif decide (d.2.2.2.2.1.1 = (4 : Int)) then (
 let x33 := (Cr .u32 d.1.2.2.1.1 d.1.1.2.2.2.2.1)
 bif decide ((0 : Int) <= d.2.2.2.2.1.1) && decide (d.2.2.2.2.1.1 < (5 : Int)) then (
 bif decide (d.2.2.2.2.1.1 = (0 : Int)) then (
 (T.2.2.1 ((d.1.1, (d.1.2.1, ((x33, d.1.2.2.1.2), ()))), ((), ((), ((), d.2.2.2.2))))))
 else (
 bif decide (d.2.2.2.2.1.1 = (1 : Int)) then (
 (T.2.2.1 ((d.1.1, (d.1.2.1, ((d.1.2.2.1.1, (x33, d.1.2.2.1.2.2)), ()))), ((), ((), ((), d.2.2.2.2))))))
 else (
 bif decide (d.2.2.2.2.1.1 = (2 : Int)) then (
 (T.2.2.1 ((d.1.1, (d.1.2.1, ((d.1.2.2.1.1, (d.1.2.2.1.2.1, (x33, d.1.2.2.1.2.2.2))), ()))), ((), ((), ((), d.2.2.2.2))))))
 else (
 bif decide (d.2.2.2.2.1.1 = (3 : Int)) then (
 (T.2.2.1 ((d.1.1, (d.1.2.1, ((d.1.2.2.1.1, (d.1.2.2.1.2.1, (d.1.2.2.1.2.2.1, (x33, d.1.2.2.1.2.2.2.2)))), ()))), ((), ((), ((), d.2.2.2.2))))))
 else (
 bif decide (d.2.2.2.2.1.1 = (4 : Int)) then (
 (T.2.2.1 ((d.1.1, (d.1.2.1, ((d.1.2.2.1.1, (d.1.2.2.1.2.1, (d.1.2.2.1.2.2.1, (d.1.2.2.1.2.2.2.1, (x33, ()))))), ()))), ((), ((), ((), d.2.2.2.2))))))
 else (
 none))))))
 else none)
 else (
 none))))))
 else none)
 else (
 bif decide (d.2.2.2.2.1.1 = (1 : Int)) then (
 bif decide ((0 : Int) <= d.2.2.2.2.1.1) && decide (d.2.2.2.2.1.1 < (5 : Int)) then (
 bif decide (d.2.2.2.2.1.1 = (0 : Int)) then (
 let x32 := (Cr .u32 d.1.2.2.1.2.1 d.1.1.1)
 bif decide ((0 : Int) <= d.2.2.2.2.1.1) && decide (d.2.2.2.2.1.1 < (5 : Int)) then (
 bif decide (d.2.2.2.2.1.1 = (0 : Int)) then (
 (T.2.2.1 ((d.1.1, (d.1.2.1, ((x32, d.1.2.2.1.2), ()))), ((), ((), ((), d.2.2.2.2))))))
 else (
 bif decide (d.2.2.2.2.1.1 = (1 : Int)) then (
 (T.2.2.1 ((d.1.1, (d.1.2.1, ((d.1.2.2.1.1, (x32, d.1.2.2.1.2.2)), ()))), ((), ((), ((), d.2.2.2.2))))))
 else (
 bif decide (d.2.2.2.2.1.1 = (2 : Int)) then (
 (T.2.2.1 ((d.1.1, (d.1.2.1, ((d.1.2.2.1.1, (d.1.2.2.1.2.1, (x32, d.1.2.2.1.2.2.2))), ()))), ((), ((), ((), d.2.2.2.2))))))
 else (
 bif decide (d.2.2.2.2.1.1 = (3 : Int)) then (
 (T.2.2.1 ((d.1.1, (d.1.2.1, ((d.1.2.2.1.1, (d.1.2.2.1.2.1, (d.1.2.2.1.2.2.1, (x32, d.1.2.2.1.2.2.2.2)))), ()))), ((), ((), ((), d.2.2.2.2))))))
 else (
 bif decide (d.2.2.2.2.1.1 = (4 : Int)) then (
 (T.2.2.1 ((d.1.1, (d.1.2.1, ((d.1.2.2.1.1, (d.1.2.2.1.2.1, (d.1.2.2.1.2.2.1, (d.1.2.2.1.2.2.2.1, (x32, ()))))), ()))), ((), ((), ((), d.2.2.2.2))))))
 else (
 none))))))
 else none)
 else (
 bif decide (d.2.2.2.2.1.1 = (1 : Int)) then (
 let x31 := (Cr .u32 d.1.2.2.1.2.1 d.1.1.2.1)
 bif decide ((0 : Int) <= d.2.2.2.2.1.1) && decide (d.2.2.2.2.1.1 < (5 : Int)) then (
 bif decide (d.2.2.2.2.1.1 = (0 : Int)) then (
 (T.2.2.1 ((d.1.1, (d.1.2.1, ((x31, d.1.2.2.1.2), ()))), ((), ((), ((), d.2.2.2.2))))))
 else (
 bif decide (d.2.2.2.2.1.1 = (1 : Int)) then (
 (T.2.2.1 ((d.1.1, (d.1.2.1, ((d.1.2.2.1.1, (x31, d.1.2.2.1.2.2)), ()))), ((), ((), ((), d.2.2.2.2))))))
 else (
 bif decide (d.2.2.2.2.1.1 = (2 : Int)) then (
 (T.2.2.1 ((d.1.1, (d.1.2.1, ((d.1.2.2.1.1, (d.1.2.2.1.2.1, (x31, d.1.2.2.1.2.2.2))), ()))), ((), ((), ((), d.2.2.2.2))))))
 else (
 bif decide (d.2.2.2.2.1.1 = (3 : Int)) then (
 (T.2.2.1 ((d.1.1, (d.1.2.1, ((d.1.2.2.1.1, (d.1.2.2.1.2.1, (d.1.2.2.1.2.2.1, (x31, d.1.2.2.1.2.2.2.2)))), ()))), ((), ((), ((), d.2.2.2.2))))))
 else (
 bif decide (d.2.2.2.2.1.1 = (4 : Int)) then (
 (T.2.2.1 ((d.1.1, (d.1.2.1, ((d.1.2.2.1.1, (d.1.2.2.1.2.1, (d.1.2.2.1.2.2.1, (d.1.2.2.1.2.2.2.1, (x31, ()))))), ()))), ((), ((), ((), d.2.2.2.2))))))
 else (
 none))))))
 else none)
 else (
 bif decide (d.2.2.2.2.1.1 = (2 : Int)) then (
 let x30 := (Cr .u32 d.1.2.2.1.2.1 d.1.1.2.2.1)
 bif decide ((0 : Int) <= d.2.2.2.2.1.1) && decide (d.2.2.2.2.1.1 < (5 : Int)) then (
 bif decide (d.2.2.2.2.1.1 = (0 : Int)) then (
 (T.2.2.1 ((d.1.1, (d.1.2.1, ((x30, d.1.2.2.1.2), ()))), ((), ((), ((), d.2.2.2.2))))))
 else (
 bif decide (d.2.2.2.2.1.1 = (1 : Int)) then (
 (T.2.2.1 ((d.1.1, (d.1.2.1, ((d.1.2.2.1.1, (x30, d.1.2.2.1.2.2)), ()))), ((), ((), ((), d.2.2.2.2))))))
 else (
 bif decide (d.2.2.2.2.1.1 = (2 : Int)) then (
 (T.2.2.1 ((d.1.1, (d.1.2.1, ((d.1.2.2.1.1, (d.1.2.2.1.2.1, (x30, d.1.2.2.1.2.2.2))), ()))), ((), ((), ((), d.2.2.2.2))))))
 else (
 bif decide (d.2.2.2.2.1.1 = (3 : Int)) then (
 (T.2.2.1 ((d.1.1, (d.1.2.1, ((d.1.2.2.1.1, (d.1.2.2.1.2.1, (d.1.2.2.1.2.2.1, (x30, d.1.2.2.1.2.2.2.2)))), ()))), ((), ((), ((), d.2.2.2.2))))))
 else (
 bif decide (d.2.2.2.2.1.1 = (4 : Int)) then (
 (T.2.2.1 ((d.1.1, (d.1.2.1, ((d.1.2.2.1.1, (d.1.2.2.1.2.1, (d.1.2.2.1.2.2.1, (d.1.2.2.1.2.2.2.1, (x30, ()))))), ()))), ((), ((), ((), d.2.2.2.2))))))
 else (
 none))))))
 else none)
 else (
 bif decide (d.2.2.2.2.1.1 = (3 : Int)) then (
 let x29 := (Cr .u32 d.1.2.2.1.2.1 d.1.1.2.2.2.1)
 bif decide ((0 : Int) <= d.2.2.2.2.1.1) && decide (d.2.2.2.2.1.1 < (5 : Int)) then (
 bif decide (d.2.2.2.2.1.1 = (0 : Int)) then (
 (T.2.2.1 ((d.1.1, (d.1.2.1, ((x29, d.1.2.2.1.2), ()))), ((), ((), ((), d.2.2.2.2))))))
 else (
 bif decide (d.2.2.2.2.1.1 = (1 : Int)) then (
 (T.2.2.1 ((d.1.1, (d.1.2.1, ((d.1.2.2.1.1, (x29, d.1.2.2.1.2.2)), ()))), ((), ((), ((), d.2.2.2.2))))))
 else (
 bif decide (d.2.2.2.2.1.1 = (2 : Int)) then (
 (T.2.2.1 ((d.1.1, (d.1.2.1, ((d.1.2.2.1.1, (d.1.2.2.1.2.1, (x29, d.1.2.2.1.2.2.2))), ()))), ((), ((), ((), d.2.2.2.2))))))
 else (
 bif decide (d.2.2.2.2.1.1 = (3 : Int)) then (
 (T.2.2.1 ((d.1.1, (d.1.2.1, ((d.1.2.2.1.1, (d.1.2.2.1.2.1, (d.1.2.2.1.2.2.1, (x29, d.1.2.2.1.2.2.2.2)))), ()))), ((), ((), ((), d.2.2.2.2))))))
 else (
 bif decide (d.2.2.2.2.1.1 = (4 : Int)) then (
 (T.2.2.1 ((d.1.1, (d.1.2.1, ((d.1.2.2.1.1, (d.1.2.2.1.2.1, (d.1.2.2.1.2.2.1, (d.1.2.2.1.2.2.2.1, (x29, ()))))), ()))), ((), ((), ((), d.2.2.2.2))))))
 else (
 none))))))
 else none)
 else (
 bif decide (d.2.2.2.2.1.1 = (4 : Int)) then (
 let x28 := (Cr .u32 d.1.2.2.1.2.1 d.1.1.2.2.2.2.1)
 bif decide ((0 : Int) <= d.2.2.2.2.1.1) && decide (d.2.2.2.2.1.1 < (5 : Int)) then (
 bif decide (d.2.2.2.2.1.1 = (0 : Int)) then (
 (T.2.2.1 ((d.1.1, (d.1.2.1, ((x28, d.1.2.2.1.2), ()))), ((), ((), ((), d.2.2.2.2))))))
 else (
 bif decide (d.2.2.2.2.1.1 = (1 : Int)) then (
 (T.2.2.1 ((d.1.1, (d.1.2.1, ((d.1.2.2.1.1, (x28, d.1.2.2.1.2.2)), ()))), ((), ((), ((), d.2.2.2.2))))))
 else (
 bif decide (d.2.2.2.2.1.1 = (2 : Int)) then (
 (T.2.2.1 ((d.1.1, (d.1.2.1, ((d.1.2.2.1.1, (d.1.2.2.1.2.1, (x28, d.1.2.2.1.2.2.2))), ()))), ((), ((), ((), d.2.2.2.2))))))
 else (
 bif decide (d.2.2.2.2.1.1 = (3 : Int)) then (
 (T.2.2.1 ((d.1.1, (d.1.2.1, ((d.1.2.2.1.1, (d.1.2.2.1.2.1, (d.1.2.2.1.2.2.1, (x28, d.1.2.2.1.2.2.2.2)))), ()))), ((), ((), ((), d.2.2.2.2))))))
 else (
 bif decide (d.2.2.2.2.1.1 = (4 : Int)) then (
 (T.2.2.1 ((d.1.1, (d.1.2.1, ((d.1.2.2.1.1, (d.1.2.2.1.2.1, (d.1.2.2.1.2.2.1, (d.1.2.2.1.2.2.2.1, (x28, ()))))), ()))), ((), ((), ((), d.2.2.2.2))))))
 else (
 none))))))
 else none)
 else (
 none))))))
 else none)
 else (
 bif decide (d.2.2.2.2.1.1 = (2 : Int)) then (
 bif decide ((0 : Int) <= d.2.2.2.2.1.1) && decide (d.2.2.2.2.1.1 < (5 : Int)) then (
 bif decide (d.2.2.2.2.1.1 = (0 : Int)) then (
 let x27 := (Cr .u32 d.1.2.2.1.2.2.1 d.1.1.1)
 bif decide ((0 : Int) <= d.2.2.2.2.1.1) && decide (d.2.2.2.2.1.1 < (5 : Int)) then (
 bif decide (d.2.2.2.2.1.1 = (0 : Int)) then (
 (T.2.2.1 ((d.1.1, (d.1.2.1, ((x27, d.1.2.2.1.2), ()))), ((), ((), ((), d.2.2.2.2))))))
 else (
 bif decide (d.2.2.2.2.1.1 = (1 : Int)) then (
 (T.2.2.1 ((d.1.1, (d.1.2.1, ((d.1.2.2.1.1, (x27, d.1.2.2.1.2.2)), ()))), ((), ((), ((), d.2.2.2.2))))))
 else (
 bif decide (d.2.2.2.2.1.1 = (2 : Int)) then (
 (T.2.2.1 ((d.1.1, (d.1.2.1, ((d.1.2.2.1.1, (d.1.2.2.1.2.1, (x27, d.1.2.2.1.2.2.2))), ()))), ((), ((), ((), d.2.2.2.2))))))
 else (
 bif decide (d.2.2.2.2.1.1 = (3 : Int)) then (
 (T.2.2.1 ((d.1.1, (d.1.2.1, ((d.1.2.2.1.1, (d.1.2.2.1.2.1, (d.1.2.2.1.2.2.1, (x27, d.1.2.2.1.2.2.2.2)))), ()))), ((), ((), ((), d.2.2.2.2))))))
 else (
 bif decide (d.2.2.2.2.1.1 = (4 : Int)) then (
 (T.2.2.1 ((d.1.1, (d.1.2.1, ((d.1.2.2.1.1, (d.1.2.2.1.2.1, (d.1.2.2.1.2.2.1, (d.1.2.2.1.2.2.2.1, (x27, ()))))), ()))), ((), ((), ((), d.2.2.2.2))))))
 else (
 none))))))
 else none)
 else (
 bif decide (d.2.2.2.2.1.1 = (1 : Int)) then (
 let x26 := (Cr .u32 d.1.2.2.1.2.2.1 d.1.1.2.1)
 bif decide ((0 : Int) <= d.2.2.2.2.1.1) && decide (d.2.2.2.2.1.1 < (5 : Int)) then (
 bif decide (d.2.2.2.2.1.1 = (0 : Int)) then (
 (T.2.2.1 ((d.1.1, (d.1.2.1, ((x26, d.1.2.2.1.2), ()))), ((), ((), ((), d.2.2.2.2))))))
 else (
 bif decide (d.2.2.2.2.1.1 = (1 : Int)) then (
 (T.2.2.1 ((d.1.1, (d.1.2.1, ((d.1.2.2.1.1, (x26, d.1.2.2.1.2.2)), ()))), ((), ((), ((), d.2.2.2.2))))))
 else (
 bif decide (d.2.2.2.2.1.1 = (2 : Int)) then (
 (T.2.2.1 ((d.1.1, (d.1.2.1, ((d.1.2.2.1.1, (d.1.2.2.1.2.1, (x26, d.1.2.2.1.2.2.2))), ()))), ((), ((), ((), d.2.2.2.2))))))
 else (
 bif decide (d.2.2.2.2.1.1 = (3 : Int)) then (
 (T.2.2.1 ((d.1.1, (d.1.2.1, ((d.1.2.2.1.1, (d.1.2.2.1.2.1, (d.1.2.2.1.2.2.1, (x26, d.1.2.2.1.2.2.2.2)))), ()))), ((), ((), ((), d.2.2.2.2))))))
 else (
 bif decide (d.2.2.2.2.1.1 = (4 : Int)) then (
 (T.2.2.1 ((d.1.1, (d.1.2.1, ((d.1.2.2.1.1, (d.1.2.2.1.2.1, (d.1.2.2.1.2.2.1, (d.1.2.2.1.2.2.2.1, (x26, ()))))), ()))), ((), ((), ((), d.2.2.2.2))))))
 else (
 none))))))
 else none)
 else (
 bif decide (d.2.2.2.2.1.1 = (2 : Int)) then (
 let x25 := (Cr .u32 d.1.2.2.1.2.2.1 d.1.1.2.2.1)
 bif decide ((0 : Int) <= d.2.2.2.2.1.1) && decide (d.2.2.2.2.1.1 < (5 : Int)) then (
 bif decide (d.2.2.2.2.1.1 = (0 : Int)) then (
 (T.2.2.1 ((d.1.1, (d.1.2.1, ((x25, d.1.2.2.1.2), ()))), ((), ((), ((), d.2.2.2.2))))))
 else (
 bif decide (d.2.2.2.2.1.1 = (1 : Int)) then (
 (T.2.2.1 ((d.1.1, (d.1.2.1, ((d.1.2.2.1.1, (x25, d.1.2.2.1.2.2)), ()))), ((), ((), ((), d.2.2.2.2))))))
 else (
 bif decide (d.2.2.2.2.1.1 = (2 : Int)) then (
 (T.2.2.1 ((d.1.1, (d.1.2.1, ((d.1.2.2.1.1, (d.1.2.2.1.2.1, (x25, d.1.2.2.1.2.2.2))), ()))), ((), ((), ((), d.2.2.2.2))))))
 else (
 bif decide (d.2.2.2.2.1.1 = (3 : Int)) then (
 (T.2.2.1 ((d.1.1, (d.1.2.1, ((d.1.2.2.1.1, (d.1.2.2.1.2.1, (d.1.2.2.1.2.2.1, (x25, d.1.2.2.1.2.2.2.2)))), ()))), ((), ((), ((), d.2.2.2.2))))))
 else (
 bif decide (d.2.2.2.2.1.1 = (4 : Int)) then (
 (T.2.2.1 ((d.1.1, (d.1.2.1, ((d.1.2.2.1.1, (d.1.2.2.1.2.1, (d.1.2.2.1.2.2.1, (d.1.2.2.1.2.2.2.1, (x25, ()))))), ()))), ((), ((), ((), d.2.2.2.2))))))
 else (
 none))))))
 else none)
 else (
 bif decide (d.2.2.2.2.1.1 = (3 : Int)) then (
 let x24 := (Cr .u32 d.1.2.2.1.2.2.1 d.1.1.2.2.2.1)
 bif decide ((0 : Int) <= d.2.2.2.2.1.1) && decide (d.2.2.2.2.1.1 < (5 : Int)) then (
 bif decide (d.2.2.2.2.1.1 = (0 : Int)) then (
 (T.2.2.1 ((d.1.1, (d.1.2.1, ((x24, d.1.2.2.1.2), ()))), ((), ((), ((), d.2.2.2.2))))))
 else (
 bif decide (d.2.2.2.2.1.1 = (1 : Int)) then (
 (T.2.2.1 ((d.1.1, (d.1.2.1, ((d.1.2.2.1.1, (x24, d.1.2.2.1.2.2)), ()))), ((), ((), ((), d.2.2.2.2))))))
 else (
 bif decide (d.2.2.2.2.1.1 = (2 : Int)) then (
 (T.2.2.1 ((d.1.1, (d.1.2.1, ((d.1.2.2.1.1, (d.1.2.2.1.2.1, (x24, d.1.2.2.1.2.2.2))), ()))), ((), ((), ((), d.2.2.2.2))))))
 else (
 bif decide (d.2.2.2.2.1.1 = (3 : Int)) then (
 (T.2.2.1 ((d.1.1, (d.1.2.1, ((d.1.2.2.1.1, (d.1.2.2.1.2.1, (d.1.2.2.1.2.2.1, (x24, d.1.2.2.1.2.2.2.2)))), ()))), ((), ((), ((), d.2.2.2.2))))))
 else (
 bif decide (d.2.2.2.2.1.1 = (4 : Int)) then (
 (T.2.2.1 ((d.1.1, (d.1.2.1, ((d.1.2.2.1.1, (d.1.2.2.1.2.1, (d.1.2.2.1.2.2.1, (d.1.2.2.1.2.2.2.1, (x24, ()))))), ()))), ((), ((), ((), d.2.2.2.2))))))
 else (
 none))))))
 else none)
 else (
 bif decide (d.2.2.2.2.1.1 = (4 : Int)) then (
 let x23 := (Cr .u32 d.1.2.2.1.2.2.1 d.1.1.2.2.2.2.1)
 bif decide ((0 : Int) <= d.2.2.2.2.1.1) && decide (d.2.2.2.2.1.1 < (5 : Int)) then (
 bif decide (d.2.2.2.2.1.1 = (0 : Int)) then (
 (T.2.2.1 ((d.1.1, (d.1.2.1, ((x23, d.1.2.2.1.2), ()))), ((), ((), ((), d.2.2.2.2))))))
 else (
 bif decide (d.2.2.2.2.1.1 = (1 : Int)) then (
 (T.2.2.1 ((d.1.1, (d.1.2.1, ((d.1.2.2.1.1, (x23, d.1.2.2.1.2.2)), ()))), ((), ((), ((), d.2.2.2.2))))))
 else (
 bif decide (d.2.2.2.2.1.1 = (2 : Int)) then (
 (T.2.2.1 ((d.1.1, (d.1.2.1, ((d.1.2.2.1.1, (d.1.2.2.1.2.1, (x23, d.1.2.2.1.2.2.2))), ()))), ((), ((), ((), d.2.2.2.2))))))
 else (
 bif decide (d.2.2.2.2.1.1 = (3 : Int)) then (
 (T.2.2.1 ((d.1.1, (d.1.2.1, ((d.1.2.2.1.1, (d.1.2.2.1.2.1, (d.1.2.2.1.2.2.1, (x23, d.1.2.2.1.2.2.2.2)))), ()))), ((), ((), ((), d.2.2.2.2))))))
 else (
 bif decide (d.2.2.2.2.1.1 = (4 : Int)) then (
 (T.2.2.1 ((d.1.1, (d.1.2.1, ((d.1.2.2.1.1, (d.1.2.2.1.2.1, (d.1.2.2.1.2.2.1, (d.1.2.2.1.2.2.2.1, (x23, ()))))), ()))), ((), ((), ((), d.2.2.2.2))))))
 else (
 none))))))
 else none)
 else (
 none))))))
 else none)
 else (
 bif decide (d.2.2.2.2.1.1 = (3 : Int)) then (
 bif decide ((0 : Int) <= d.2.2.2.2.1.1) && decide (d.2.2.2.2.1.1 < (5 : Int)) then (
 bif decide (d.2.2.2.2.1.1 = (0 : Int)) then (
 let x22 := (Cr .u32 d.1.2.2.1.2.2.2.1 d.1.1.1)
 bif decide ((0 : Int) <= d.2.2.2.2.1.1) && decide (d.2.2.2.2.1.1 < (5 : Int)) then (
 bif decide (d.2.2.2.2.1.1 = (0 : Int)) then (
 (T.2.2.1 ((d.1.1, (d.1.2.1, ((x22, d.1.2.2.1.2), ()))), ((), ((), ((), d.2.2.2.2))))))
 else (
 bif decide (d.2.2.2.2.1.1 = (1 : Int)) then (
 (T.2.2.1 ((d.1.1, (d.1.2.1, ((d.1.2.2.1.1, (x22, d.1.2.2.1.2.2)), ()))), ((), ((), ((), d.2.2.2.2))))))
 else (
 bif decide (d.2.2.2.2.1.1 = (2 : Int)) then (
 (T.2.2.1 ((d.1.1, (d.1.2.1, ((d.1.2.2.1.1, (d.1.2.2.1.2.1, (x22, d.1.2.2.1.2.2.2))), ()))), ((), ((), ((), d.2.2.2.2))))))
 else (
 bif decide (d.2.2.2.2.1.1 = (3 : Int)) then (
 (T.2.2.1 ((d.1.1, (d.1.2.1, ((d.1.2.2.1.1, (d.1.2.2.1.2.1, (d.1.2.2.1.2.2.1, (x22, d.1.2.2.1.2.2.2.2)))), ()))), ((), ((), ((), d.2.2.2.2))))))
 else (
 bif decide (d.2.2.2.2.1.1 = (4 : Int)) then (
 (T.2.2.1 ((d.1.1, (d.1.2.1, ((d.1.2.2.1.1, (d.1.2.2.1.2.1, (d.1.2.2.1.2.2.1, (d.1.2.2.1.2.2.2.1, (x22, ()))))), ()))), ((), ((), ((), d.2.2.2.2))))))
 else (
 none))))))
 else none)
 else (
 bif decide (d.2.2.2.2.1.1 = (1 : Int)) then (
 let x21 := (Cr .u32 d.1.2.2.1.2.2.2.1 d.1.1.2.1)
 bif decide ((0 : Int) <= d.2.2.2.2.1.1) && decide (d.2.2.2.2.1.1 < (5 : Int)) then (
 bif decide (d.2.2.2.2.1.1 = (0 : Int)) then (
 (T.2.2.1 ((d.1.1, (d.1.2.1, ((x21, d.1.2.2.1.2), ()))), ((), ((), ((), d.2.2.2.2))))))
 else (
 bif decide (d.2.2.2.2.1.1 = (1 : Int)) then (
 (T.2.2.1 ((d.1.1, (d.1.2.1, ((d.1.2.2.1.1, (x21, d.1.2.2.1.2.2)), ()))), ((), ((), ((), d.2.2.2.2))))))
 else (
 bif decide (d.2.2.2.2.1.1 = (2 : Int)) then (
 (T.2.2.1 ((d.1.1, (d.1.2.1, ((d.1.2.2.1.1, (d.1.2.2.1.2.1, (x21, d.1.2.2.1.2.2.2))), ()))), ((), ((), ((), d.2.2.2.2))))))
 else (
 bif decide (d.2.2.2.2.1.1 = (3 : Int)) then (
 (T.2.2.1 ((d.1.1, (d.1.2.1, ((d.1.2.2.1.1, (d.1.2.2.1.2.1, (d.1.2.2.1.2.2.1, (x21, d.1.2.2.1.2.2.2.2)))), ()))), ((), ((), ((), d.2.2.2.2))))))
 else (
 bif decide (d.2.2.2.2.1.1 = (4 : Int)) then (
 (T.2.2.1 ((d.1.1, (d.1.2.1, ((d.1.2.2.1.1, (d.1.2.2.1.2.1, (d.1.2.2.1.2.2.1, (d.1.2.2.1.2.2.2.1, (x21, ()))))), ()))), ((), ((), ((), d.2.2.2.2))))))
 else (
 none))))))
 else none)
 else (
 bif decide (d.2.2.2.2.1.1 = (2 : Int)) then (
 let x20 := (Cr .u32 d.1.2.2.1.2.2.2.1 d.1.1.2.2.1)
 bif decide ((0 : Int) <= d.2.2.2.2.1.1) && decide (d.2.2.2.2.1.1 < (5 : Int)) then (
 bif decide (d.2.2.2.2.1.1 = (0 : Int)) then (
 (T.2.2.1 ((d.1.1, (d.1.2.1, ((x20, d.1.2.2.1.2), ()))), ((), ((), ((), d.2.2.2.2))))))
 else (
 bif decide (d.2.2.2.2.1.1 = (1 : Int)) then (
 (T.2.2.1 ((d.1.1, (d.1.2.1, ((d.1.2.2.1.1, (x20, d.1.2.2.1.2.2)), ()))), ((), ((), ((), d.2.2.2.2))))))
 else (
 bif decide (d.2.2.2.2.1.1 = (2 : Int)) then (
 (T.2.2.1 ((d.1.1, (d.1.2.1, ((d.1.2.2.1.1, (d.1.2.2.1.2.1, (x20, d.1.2.2.1.2.2.2))), ()))), ((), ((), ((), d.2.2.2.2))))))
 else (
 bif decide (d.2.2.2.2.1.1 = (3 : Int)) then (
 (T.2.2.1 ((d.1.1, (d.1.2.1, ((d.1.2.2.1.1, (d.1.2.2.1.2.1, (d.1.2.2.1.2.2.1, (x20, d.1.2.2.1.2.2.2.2)))), ()))), ((), ((), ((), d.2.2.2.2))))))
 else (
 bif decide (d.2.2.2.2.1.1 = (4 : Int)) then (
 (T.2.2.1 ((d.1.1, (d.1.2.1, ((d.1.2.2.1.1, (d.1.2.2.1.2.1, (d.1.2.2.1.2.2.1, (d.1.2.2.1.2.2.2.1, (x20, ()))))), ()))), ((), ((), ((), d.2.2.2.2))))))
 else (
 none))))))
 else none)
 else (
 bif decide (d.2.2.2.2.1.1 = (3 : Int)) then (
 let x19 := (Cr .u32 d.1.2.2.1.2.2.2.1 d.1.1.2.2.2.1)
 bif decide ((0 : Int) <= d.2.2.2.2.1.1) && decide (d.2.2.2.2.1.1 < (5 : Int)) then (
 bif decide (d.2.2.2.2.1.1 = (0 : Int)) then (
 (T.2.2.1 ((d.1.1, (d.1.2.1, ((x19, d.1.2.2.1.2), ()))), ((), ((), ((), d.2.2.2.2))))))
 else (
 bif decide (d.2.2.2.2.1.1 = (1 : Int)) then (
 (T.2.2.1 ((d.1.1, (d.1.2.1, ((d.1.2.2.1.1, (x19, d.1.2.2.1.2.2)), ()))), ((), ((), ((), d.2.2.2.2))))))
 else (
 bif decide (d.2.2.2.2.1.1 = (2 : Int)) then (
 (T.2.2.1 ((d.1.1, (d.1.2.1, ((d.1.2.2.1.1, (d.1.2.2.1.2.1, (x19, d.1.2.2.1.2.2.2))), ()))), ((), ((), ((), d.2.2.2.2))))))
 else (
 bif decide (d.2.2.2.2.1.1 = (3 : Int)) then (
 (T.2.2.1 ((d.1.1, (d.1.2.1, ((d.1.2.2.1.1, (d.1.2.2.1.2.1, (d.1.2.2.1.2.2.1, (x19, d.1.2.2.1.2.2.2.2)))), ()))), ((), ((), ((), d.2.2.2.2))))))
 else (
 bif decide (d.2.2.2.2.1.1 = (4 : Int)) then (
 (T.2.2.1 ((d.1.1, (d.1.2.1, ((d.1.2.2.1.1, (d.1.2.2.1.2.1, (d.1.2.2.1.2.2.1, (d.1.2.2.1.2.2.2.1, (x19, ()))))), ()))), ((), ((), ((), d.2.2.2.2))))))
 else (
 none))))))
 else none)
 else (
 bif decide (d.2.2.2.2.1.1 = (4 : Int)) then (
 let x18 := (Cr .u32 d.1.2.2.1.2.2.2.1 d.1.1.2.2.2.2.1)
 bif decide ((0 : Int) <= d.2.2.2.2.1.1) && decide (d.2.2.2.2.1.1 < (5 : Int)) then (
 bif decide (d.2.2.2.2.1.1 = (0 : Int)) then (
 (T.2.2.1 ((d.1.1, (d.1.2.1, ((x18, d.1.2.2.1.2), ()))), ((), ((), ((), d.2.2.2.2))))))
 else (
 bif decide (d.2.2.2.2.1.1 = (1 : Int)) then (
 (T.2.2.1 ((d.1.1, (d.1.2.1, ((d.1.2.2.1.1, (x18, d.1.2.2.1.2.2)), ()))), ((), ((), ((), d.2.2.2.2))))))
 else (
 bif decide (d.2.2.2.2.1.1 = (2 : Int)) then (
 (T.2.2.1 ((d.1.1, (d.1.2.1, ((d.1.2.2.1.1, (d.1.2.2.1.2.1, (x18, d.1.2.2.1.2.2.2))), ()))), ((), ((), ((), d.2.2.2.2))))))
 else (
 bif decide (d.2.2.2.2.1.1 = (3 : Int)) then (
 (T.2.2.1 ((d.1.1, (d.1.2.1, ((d.1.2.2.1.1, (d.1.2.2.1.2.1, (d.1.2.2.1.2.2.1, (x18, d.1.2.2.1.2.2.2.2)))), ()))), ((), ((), ((), d.2.2.2.2))))))
 else (
 bif decide (d.2.2.2.2.1.1 = (4 : Int)) then (
 (T.2.2.1 ((d.1.1, (d.1.2.1, ((d.1.2.2.1.1, (d.1.2.2.1.2.1, (d.1.2.2.1.2.2.1, (d.1.2.2.1.2.2.2.1, (x18, ()))))), ()))), ((), ((), ((), d.2.2.2.2))))))
 else (
 none))))))
 else none)
 else (
 none))))))
 else none)
 else (
 bif decide (d.2.2.2.2.1.1 = (4 : Int)) then (
 bif decide ((0 : Int) <= d.2.2.2.2.1.1) && decide (d.2.2.2.2.1.1 < (5 : Int)) then (
 bif decide (d.2.2.2.2.1.1 = (0 : Int)) then (
 let x17 := (Cr .u32 d.1.2.2.1.2.2.2.2.1 d.1.1.1)
 bif decide ((0 : Int) <= d.2.2.2.2.1.1) && decide (d.2.2.2.2.1.1 < (5 : Int)) then (
 bif decide (d.2.2.2.2.1.1 = (0 : Int)) then (
 (T.2.2.1 ((d.1.1, (d.1.2.1, ((x17, d.1.2.2.1.2), ()))), ((), ((), ((), d.2.2.2.2))))))
 else (
 bif decide (d.2.2.2.2.1.1 = (1 : Int)) then (
 (T.2.2.1 ((d.1.1, (d.1.2.1, ((d.1.2.2.1.1, (x17, d.1.2.2.1.2.2)), ()))), ((), ((), ((), d.2.2.2.2))))))
 else (
 bif decide (d.2.2.2.2.1.1 = (2 : Int)) then (
 (T.2.2.1 ((d.1.1, (d.1.2.1, ((d.1.2.2.1.1, (d.1.2.2.1.2.1, (x17, d.1.2.2.1.2.2.2))), ()))), ((), ((), ((), d.2.2.2.2))))))
 else (
 bif decide (d.2.2.2.2.1.1 = (3 : Int)) then (
 (T.2.2.1 ((d.1.1, (d.1.2.1, ((d.1.2.2.1.1, (d.1.2.2.1.2.1, (d.1.2.2.1.2.2.1, (x17, d.1.2.2.1.2.2.2.2)))), ()))), ((), ((), ((), d.2.2.2.2))))))
 else (
 bif decide (d.2.2.2.2.1.1 = (4 : Int)) then (
 (T.2.2.1 ((d.1.1, (d.1.2.1, ((d.1.2.2.1.1, (d.1.2.2.1.2.1, (d.1.2.2.1.2.2.1, (d.1.2.2.1.2.2.2.1, (x17, ()))))), ()))), ((), ((), ((), d.2.2.2.2))))))
 else (
 none))))))
 else none)
 else (
 bif decide (d.2.2.2.2.1.1 = (1 : Int)) then (
 let x16 := (Cr .u32 d.1.2.2.1.2.2.2.2.1 d.1.1.2.1)
 bif decide ((0 : Int) <= d.2.2.2.2.1.1) && decide (d.2.2.2.2.1.1 < (5 : Int)) then (
 bif decide (d.2.2.2.2.1.1 = (0 : Int)) then (
 (T.2.2.1 ((d.1.1, (d.1.2.1, ((x16, d.1.2.2.1.2), ()))), ((), ((), ((), d.2.2.2.2))))))
 else (
 bif decide (d.2.2.2.2.1.1 = (1 : Int)) then (
 (T.2.2.1 ((d.1.1, (d.1.2.1, ((d.1.2.2.1.1, (x16, d.1.2.2.1.2.2)), ()))), ((), ((), ((), d.2.2.2.2))))))
 else (
 bif decide (d.2.2.2.2.1.1 = (2 : Int)) then (
 (T.2.2.1 ((d.1.1, (d.1.2.1, ((d.1.2.2.1.1, (d.1.2.2.1.2.1, (x16, d.1.2.2.1.2.2.2))), ()))), ((), ((), ((), d.2.2.2.2))))))
 else (
 bif decide (d.2.2.2.2.1.1 = (3 : Int)) then (
 (T.2.2.1 ((d.1.1, (d.1.2.1, ((d.1.2.2.1.1, (d.1.2.2.1.2.1, (d.1.2.2.1.2.2.1, (x16, d.1.2.2.1.2.2.2.2)))), ()))), ((), ((), ((), d.2.2.2.2))))))
 else (
 bif decide (d.2.2.2.2.1.1 = (4 : Int)) then (
 (T.2.2.1 ((d.1.1, (d.1.2.1, ((d.1.2.2.1.1, (d.1.2.2.1.2.1, (d.1.2.2.1.2.2.1, (d.1.2.2.1.2.2.2.1, (x16, ()))))), ()))), ((), ((), ((), d.2.2.2.2))))))
 else (
 none))))))
 else none)
 else (
 bif decide (d.2.2.2.2.1.1 = (2 : Int)) then (
 let x15 := (Cr .u32 d.1.2.2.1.2.2.2.2.1 d.1.1.2.2.1)
 bif decide ((0 : Int) <= d.2.2.2.2.1.1) && decide (d.2.2.2.2.1.1 < (5 : Int)) then (
 bif decide (d.2.2.2.2.1.1 = (0 : Int)) then (
 (T.2.2.1 ((d.1.1, (d.1.2.1, ((x15, d.1.2.2.1.2), ()))), ((), ((), ((), d.2.2.2.2))))))
 else (
 bif decide (d.2.2.2.2.1.1 = (1 : Int)) then (
 (T.2.2.1 ((d.1.1, (d.1.2.1, ((d.1.2.2.1.1, (x15, d.1.2.2.1.2.2)), ()))), ((), ((), ((), d.2.2.2.2))))))
 else (
 bif decide (d.2.2.2.2.1.1 = (2 : Int)) then (
 (T.2.2.1 ((d.1.1, (d.1.2.1, ((d.1.2.2.1.1, (d.1.2.2.1.2.1, (x15, d.1.2.2.1.2.2.2))), ()))), ((), ((), ((), d.2.2.2.2))))))
 else (
 bif decide (d.2.2.2.2.1.1 = (3 : Int)) then (
 (T.2.2.1 ((d.1.1, (d.1.2.1, ((d.1.2.2.1.1, (d.1.2.2.1.2.1, (d.1.2.2.1.2.2.1, (x15, d.1.2.2.1.2.2.2.2)))), ()))), ((), ((), ((), d.2.2.2.2))))))
 else (
 bif decide (d.2.2.2.2.1.1 = (4 : Int)) then (
 (T.2.2.1 ((d.1.1, (d.1.2.1, ((d.1.2.2.1.1, (d.1.2.2.1.2.1, (d.1.2.2.1.2.2.1, (d.1.2.2.1.2.2.2.1, (x15, ()))))), ()))), ((), ((), ((), d.2.2.2.2))))))
 else (
 none))))))
 else none)
 else (
 bif decide (d.2.2.2.2.1.1 = (3 : Int)) then (
 let x14 := (Cr .u32 d.1.2.2.1.2.2.2.2.1 d.1.1.2.2.2.1)
 bif decide ((0 : Int) <= d.2.2.2.2.1.1) && decide (d.2.2.2.2.1.1 < (5 : Int)) then (
 bif decide (d.2.2.2.2.1.1 = (0 : Int)) then (
 (T.2.2.1 ((d.1.1, (d.1.2.1, ((x14, d.1.2.2.1.2), ()))), ((), ((), ((), d.2.2.2.2))))))
 else (
 bif decide (d.2.2.2.2.1.1 = (1 : Int)) then (
 (T.2.2.1 ((d.1.1, (d.1.2.1, ((d.1.2.2.1.1, (x14, d.1.2.2.1.2.2)), ()))), ((), ((), ((), d.2.2.2.2))))))
 else (
 bif decide (d.2.2.2.2.1.1 = (2 : Int)) then (
 (T.2.2.1 ((d.1.1, (d.1.2.1, ((d.1.2.2.1.1, (d.1.2.2.1.2.1, (x14, d.1.2.2.1.2.2.2))), ()))), ((), ((), ((), d.2.2.2.2))))))
 else (
 bif decide (d.2.2.2.2.1.1 = (3 : Int)) then (
 (T.2.2.1 ((d.1.1, (d.1.2.1, ((d.1.2.2.1.1, (d.1.2.2.1.2.1, (d.1.2.2.1.2.2.1, (x14, d.1.2.2.1.2.2.2.2)))), ()))), ((), ((), ((), d.2.2.2.2))))))
 else (
 bif decide (d.2.2.2.2.1.1 = (4 : Int)) then (
 (T.2.2.1 ((d.1.1, (d.1.2.1, ((d.1.2.2.1.1, (d.1.2.2.1.2.1, (d.1.2.2.1.2.2.1, (d.1.2.2.1.2.2.2.1, (x14, ()))))), ()))), ((), ((), ((), d.2.2.2.2))))))
 else (
 none))))))
 else none)
 else (
 bif decide (d.2.2.2.2.1.1 = (4 : Int)) then (
 let x13 := (Cr .u32 d.1.2.2.1.2.2.2.2.1 d.1.1.2.2.2.2.1)
 bif decide ((0 : Int) <= d.2.2.2.2.1.1) && decide (d.2.2.2.2.1.1 < (5 : Int)) then (
 bif decide (d.2.2.2.2.1.1 = (0 : Int)) then (
 (T.2.2.1 ((d.1.1, (d.1.2.1, ((x13, d.1.2.2.1.2), ()))), ((), ((), ((), d.2.2.2.2))))))
 else (
 bif decide (d.2.2.2.2.1.1 = (1 : Int)) then (
 (T.2.2.1 ((d.1.1, (d.1.2.1, ((d.1.2.2.1.1, (x13, d.1.2.2.1.2.2)), ()))), ((), ((), ((), d.2.2.2.2))))))
 else (
 bif decide (d.2.2.2.2.1.1 = (2 : Int)) then (
 (T.2.2.1 ((d.1.1, (d.1.2.1, ((d.1.2.2.1.1, (d.1.2.2.1.2.1, (x13, d.1.2.2.1.2.2.2))), ()))), ((), ((), ((), d.2.2.2.2))))))
 else (
 bif decide (d.2.2.2.2.1.1 = (3 : Int)) then (
 (T.2.2.1 ((d.1.1, (d.1.2.1, ((d.1.2.2.1.1, (d.1.2.2.1.2.1, (d.1.2.2.1.2.2.1, (x13, d.1.2.2.1.2.2.2.2)))), ()))), ((), ((), ((), d.2.2.2.2))))))
 else (
 bif decide (d.2.2.2.2.1.1 = (4 : Int)) then (
 (T.2.2.1 ((d.1.1, (d.1.2.1, ((d.1.2.2.1.1, (d.1.2.2.1.2.1, (d.1.2.2.1.2.2.1, (d.1.2.2.1.2.2.2.1, (x13, ()))))), ()))), ((), ((), ((), d.2.2.2.2))))))
 else (
 none))))))
 else none)
 else (
 none))))))
 else none)
 else (
 none))))))
 else none)
 else (
 some ((), d.1.2.2))
def Rx (T : Dz) (d : Zn) : Option (Ll) :=
 let x38 := (Cr .i64 d.2.2.2.2.1.1 1)
 (T.2.1 (d.1, ((), ((), ((), ((x38, ()), ()))))))
def Ct : Nat -> Dz
 | 0 => (fun _ => none, (fun _ => none, (fun _ => none, ())))
 | k + 1 => (S0 (Ct k), (E1 (Ct k), (Rx (Ct k), ())))
theorem Aae (k : Nat) : Ct (k + 1) = (S0 (Ct k), (E1 (Ct k), (Rx (Ct k), ()))) := rfl
def V2 (T : Dz) (d : Unit × ((Int × (Int × (Int × (Int × (Int × Unit))))) × ((Int × (Int × (Int × (Int × (Int × (Int × (Int × (Int × (Int × (Int × (Int × (Int × (Int × (Int × (Int × (Int × (Int × (Int × (Int × (Int × (Int × (Int × (Int × (Int × (Int × (Int × (Int × (Int × (Int × (Int × (Int × (Int × (Int × (Int × (Int × (Int × (Int × (Int × (Int × (Int × (Int × (Int × (Int × (Int × (Int × (Int × (Int × (Int × (Int × (Int × (Int × (Int × (Int × (Int × (Int × (Int × (Int × (Int × (Int × (Int × (Int × (Int × (Int × (Int × Unit)))))))))))))))))))))))))))))))))))))))))))))))))))))))))))))))) × Unit))) : Option (Ll) :=
 let x1 := ([d.2.2.1.1, d.2.2.1.2.1, d.2.2.1.2.2.1, d.2.2.1.2.2.2.1, d.2.2.1.2.2.2.2.1, d.2.2.1.2.2.2.2.2.1, d.2.2.1.2.2.2.2.2.2.1, d.2.2.1.2.2.2.2.2.2.2.1, d.2.2.1.2.2.2.2.2.2.2.2.1, d.2.2.1.2.2.2.2.2.2.2.2.2.1, d.2.2.1.2.2.2.2.2.2.2.2.2.2.1, d.2.2.1.2.2.2.2.2.2.2.2.2.2.2.1, d.2.2.1.2.2.2.2.2.2.2.2.2.2.2.2.1, d.2.2.1.2.2.2.2.2.2.2.2.2.2.2.2.2.1, d.2.2.1.2.2.2.2.2.2.2.2.2.2.2.2.2.2.1, d.2.2.1.2.2.2.2.2.2.2.2.2.2.2.2.2.2.2.1, d.2.2.1.2.2.2.2.2.2.2.2.2.2.2.2.2.2.2.2.1, d.2.2.1.2.2.2.2.2.2.2.2.2.2.2.2.2.2.2.2.2.1, d.2.2.1.2.2.2.2.2.2.2.2.2.2.2.2.2.2.2.2.2.2.1, d.2.2.1.2.2.2.2.2.2.2.2.2.2.2.2.2.2.2.2.2.2.2.1, d.2.2.1.2.2.2.2.2.2.2.2.2.2.2.2.2.2.2.2.2.2.2.2.1, d.2.2.1.2.2.2.2.2.2.2.2.2.2.2.2.2.2.2.2.2.2.2.2.2.1, d.2.2.1.2.2.2.2.2.2.2.2.2.2.2.2.2.2.2.2.2.2.2.2.2.2.1, d.2.2.1.2.2.2.2.2.2.2.2.2.2.2.2.2.2.2.2.2.2.2.2.2.2.2.1, d.2.2.1.2.2.2.2.2.2.2.2.2.2.2.2.2.2.2.2.2.2.2.2.2.2.2.2.1, d.2.2.1.2.2.2.2.2.2.2.2.2.2.2.2.2.2.2.2.2.2.2.2.2.2.2.2.2.1, d.2.2.1.2.2.2.2.2.2.2.2.2.2.2.2.2.2.2.2.2.2.2.2.2.2.2.2.2.2.1, d.2.2.1.2.2.2.2.2.2.2.2.2.2.2.2.2.2.2.2.2.2.2.2.2.2.2.2.2.2.2.1, d.2.2.1.2.2.2.2.2.2.2.2.2.2.2.2.2.2.2.2.2.2.2.2.2.2.2.2.2.2.2.2.1, d.2.2.1.2.2.2.2.2.2.2.2.2.2.2.2.2.2.2.2.2.2.2.2.2.2.2.2.2.2.2.2.2.1, d.2.2.1.2.2.2.2.2.2.2.2.2.2.2.2.2.2.2.2.2.2.2.2.2.2.2.2.2.2.2.2.2.2.1, d.2.2.1.2.2.2.2.2.2.2.2.2.2.2.2.2.2.2.2.2.2.2.2.2.2.2.2.2.2.2.2.2.2.2.1, d.2.2.1.2.2.2.2.2.2.2.2.2.2.2.2.2.2.2.2.2.2.2.2.2.2.2.2.2.2.2.2.2.2.2.2.1, d.2.2.1.2.2.2.2.2.2.2.2.2.2.2.2.2.2.2.2.2.2.2.2.2.2.2.2.2.2.2.2.2.2.2.2.2.1, d.2.2.1.2.2.2.2.2.2.2.2.2.2.2.2.2.2.2.2.2.2.2.2.2.2.2.2.2.2.2.2.2.2.2.2.2.2.1, d.2.2.1.2.2.2.2.2.2.2.2.2.2.2.2.2.2.2.2.2.2.2.2.2.2.2.2.2.2.2.2.2.2.2.2.2.2.2.1, d.2.2.1.2.2.2.2.2.2.2.2.2.2.2.2.2.2.2.2.2.2.2.2.2.2.2.2.2.2.2.2.2.2.2.2.2.2.2.2.1, d.2.2.1.2.2.2.2.2.2.2.2.2.2.2.2.2.2.2.2.2.2.2.2.2.2.2.2.2.2.2.2.2.2.2.2.2.2.2.2.2.1, d.2.2.1.2.2.2.2.2.2.2.2.2.2.2.2.2.2.2.2.2.2.2.2.2.2.2.2.2.2.2.2.2.2.2.2.2.2.2.2.2.2.1, d.2.2.1.2.2.2.2.2.2.2.2.2.2.2.2.2.2.2.2.2.2.2.2.2.2.2.2.2.2.2.2.2.2.2.2.2.2.2.2.2.2.2.1, d.2.2.1.2.2.2.2.2.2.2.2.2.2.2.2.2.2.2.2.2.2.2.2.2.2.2.2.2.2.2.2.2.2.2.2.2.2.2.2.2.2.2.2.1, d.2.2.1.2.2.2.2.2.2.2.2.2.2.2.2.2.2.2.2.2.2.2.2.2.2.2.2.2.2.2.2.2.2.2.2.2.2.2.2.2.2.2.2.2.1, d.2.2.1.2.2.2.2.2.2.2.2.2.2.2.2.2.2.2.2.2.2.2.2.2.2.2.2.2.2.2.2.2.2.2.2.2.2.2.2.2.2.2.2.2.2.1, d.2.2.1.2.2.2.2.2.2.2.2.2.2.2.2.2.2.2.2.2.2.2.2.2.2.2.2.2.2.2.2.2.2.2.2.2.2.2.2.2.2.2.2.2.2.2.1, d.2.2.1.2.2.2.2.2.2.2.2.2.2.2.2.2.2.2.2.2.2.2.2.2.2.2.2.2.2.2.2.2.2.2.2.2.2.2.2.2.2.2.2.2.2.2.2.1, d.2.2.1.2.2.2.2.2.2.2.2.2.2.2.2.2.2.2.2.2.2.2.2.2.2.2.2.2.2.2.2.2.2.2.2.2.2.2.2.2.2.2.2.2.2.2.2.2.1, d.2.2.1.2.2.2.2.2.2.2.2.2.2.2.2.2.2.2.2.2.2.2.2.2.2.2.2.2.2.2.2.2.2.2.2.2.2.2.2.2.2.2.2.2.2.2.2.2.2.1, d.2.2.1.2.2.2.2.2.2.2.2.2.2.2.2.2.2.2.2.2.2.2.2.2.2.2.2.2.2.2.2.2.2.2.2.2.2.2.2.2.2.2.2.2.2.2.2.2.2.2.1, d.2.2.1.2.2.2.2.2.2.2.2.2.2.2.2.2.2.2.2.2.2.2.2.2.2.2.2.2.2.2.2.2.2.2.2.2.2.2.2.2.2.2.2.2.2.2.2.2.2.2.2.1, d.2.2.1.2.2.2.2.2.2.2.2.2.2.2.2.2.2.2.2.2.2.2.2.2.2.2.2.2.2.2.2.2.2.2.2.2.2.2.2.2.2.2.2.2.2.2.2.2.2.2.2.2.1, d.2.2.1.2.2.2.2.2.2.2.2.2.2.2.2.2.2.2.2.2.2.2.2.2.2.2.2.2.2.2.2.2.2.2.2.2.2.2.2.2.2.2.2.2.2.2.2.2.2.2.2.2.2.1, d.2.2.1.2.2.2.2.2.2.2.2.2.2.2.2.2.2.2.2.2.2.2.2.2.2.2.2.2.2.2.2.2.2.2.2.2.2.2.2.2.2.2.2.2.2.2.2.2.2.2.2.2.2.2.1, d.2.2.1.2.2.2.2.2.2.2.2.2.2.2.2.2.2.2.2.2.2.2.2.2.2.2.2.2.2.2.2.2.2.2.2.2.2.2.2.2.2.2.2.2.2.2.2.2.2.2.2.2.2.2.2.1, d.2.2.1.2.2.2.2.2.2.2.2.2.2.2.2.2.2.2.2.2.2.2.2.2.2.2.2.2.2.2.2.2.2.2.2.2.2.2.2.2.2.2.2.2.2.2.2.2.2.2.2.2.2.2.2.2.1, d.2.2.1.2.2.2.2.2.2.2.2.2.2.2.2.2.2.2.2.2.2.2.2.2.2.2.2.2.2.2.2.2.2.2.2.2.2.2.2.2.2.2.2.2.2.2.2.2.2.2.2.2.2.2.2.2.2.1, d.2.2.1.2.2.2.2.2.2.2.2.2.2.2.2.2.2.2.2.2.2.2.2.2.2.2.2.2.2.2.2.2.2.2.2.2.2.2.2.2.2.2.2.2.2.2.2.2.2.2.2.2.2.2.2.2.2.2.1, d.2.2.1.2.2.2.2.2.2.2.2.2.2.2.2.2.2.2.2.2.2.2.2.2.2.2.2.2.2.2.2.2.2.2.2.2.2.2.2.2.2.2.2.2.2.2.2.2.2.2.2.2.2.2.2.2.2.2.2.1, d.2.2.1.2.2.2.2.2.2.2.2.2.2.2.2.2.2.2.2.2.2.2.2.2.2.2.2.2.2.2.2.2.2.2.2.2.2.2.2.2.2.2.2.2.2.2.2.2.2.2.2.2.2.2.2.2.2.2.2.2.1, d.2.2.1.2.2.2.2.2.2.2.2.2.2.2.2.2.2.2.2.2.2.2.2.2.2.2.2.2.2.2.2.2.2.2.2.2.2.2.2.2.2.2.2.2.2.2.2.2.2.2.2.2.2.2.2.2.2.2.2.2.2.1, d.2.2.1.2.2.2.2.2.2.2.2.2.2.2.2.2.2.2.2.2.2.2.2.2.2.2.2.2.2.2.2.2.2.2.2.2.2.2.2.2.2.2.2.2.2.2.2.2.2.2.2.2.2.2.2.2.2.2.2.2.2.2.1, d.2.2.1.2.2.2.2.2.2.2.2.2.2.2.2.2.2.2.2.2.2.2.2.2.2.2.2.2.2.2.2.2.2.2.2.2.2.2.2.2.2.2.2.2.2.2.2.2.2.2.2.2.2.2.2.2.2.2.2.2.2.2.2.1, d.2.2.1.2.2.2.2.2.2.2.2.2.2.2.2.2.2.2.2.2.2.2.2.2.2.2.2.2.2.2.2.2.2.2.2.2.2.2.2.2.2.2.2.2.2.2.2.2.2.2.2.2.2.2.2.2.2.2.2.2.2.2.2.2.1, d.2.2.1.2.2.2.2.2.2.2.2.2.2.2.2.2.2.2.2.2.2.2.2.2.2.2.2.2.2.2.2.2.2.2.2.2.2.2.2.2.2.2.2.2.2.2.2.2.2.2.2.2.2.2.2.2.2.2.2.2.2.2.2.2.2.1, d.2.2.1.2.2.2.2.2.2.2.2.2.2.2.2.2.2.2.2.2.2.2.2.2.2.2.2.2.2.2.2.2.2.2.2.2.2.2.2.2.2.2.2.2.2.2.2.2.2.2.2.2.2.2.2.2.2.2.2.2.2.2.2.2.2.2.1] : List Int)
 bif decide ((64 : Int) <= (x1.length : Int)) then (
 (Jv ((), (((gd (.int .u8) x1 (0 : Int)), ((gd (.int .u8) x1 (1 : Int)), ((gd (.int .u8) x1 (2 : Int)), ((gd (.int .u8) x1 (3 : Int)), ((gd (.int .u8) x1 (4 : Int)), ((gd (.int .u8) x1 (5 : Int)), ((gd (.int .u8) x1 (6 : Int)), ((gd (.int .u8) x1 (7 : Int)), ((gd (.int .u8) x1 (8 : Int)), ((gd (.int .u8) x1 (9 : Int)), ((gd (.int .u8) x1 (10 : Int)), ((gd (.int .u8) x1 (11 : Int)), ((gd (.int .u8) x1 (12 : Int)), ((gd (.int .u8) x1 (13 : Int)), ((gd (.int .u8) x1 (14 : Int)), ((gd (.int .u8) x1 (15 : Int)), ((gd (.int .u8) x1 (16 : Int)), ((gd (.int .u8) x1 (17 : Int)), ((gd (.int .u8) x1 (18 : Int)), ((gd (.int .u8) x1 (19 : Int)), ((gd (.int .u8) x1 (20 : Int)), ((gd (.int .u8) x1 (21 : Int)), ((gd (.int .u8) x1 (22 : Int)), ((gd (.int .u8) x1 (23 : Int)), ((gd (.int .u8) x1 (24 : Int)), ((gd (.int .u8) x1 (25 : Int)), ((gd (.int .u8) x1 (26 : Int)), ((gd (.int .u8) x1 (27 : Int)), ((gd (.int .u8) x1 (28 : Int)), ((gd (.int .u8) x1 (29 : Int)), ((gd (.int .u8) x1 (30 : Int)), ((gd (.int .u8) x1 (31 : Int)), ((gd (.int .u8) x1 (32 : Int)), ((gd (.int .u8) x1 (33 : Int)), ((gd (.int .u8) x1 (34 : Int)), ((gd (.int .u8) x1 (35 : Int)), ((gd (.int .u8) x1 (36 : Int)), ((gd (.int .u8) x1 (37 : Int)), ((gd (.int .u8) x1 (38 : Int)), ((gd (.int .u8) x1 (39 : Int)), ((gd (.int .u8) x1 (40 : Int)), ((gd (.int .u8) x1 (41 : Int)), ((gd (.int .u8) x1 (42 : Int)), ((gd (.int .u8) x1 (43 : Int)), ((gd (.int .u8) x1 (44 : Int)), ((gd (.int .u8) x1 (45 : Int)), ((gd (.int .u8) x1 (46 : Int)), ((gd (.int .u8) x1 (47 : Int)), ((gd (.int .u8) x1 (48 : Int)), ((gd (.int .u8) x1 (49 : Int)), ((gd (.int .u8) x1 (50 : Int)), ((gd (.int .u8) x1 (51 : Int)), ((gd (.int .u8) x1 (52 : Int)), ((gd (.int .u8) x1 (53 : Int)), ((gd (.int .u8) x1 (54 : Int)), ((gd (.int .u8) x1 (55 : Int)), ((gd (.int .u8) x1 (56 : Int)), ((gd (.int .u8) x1 (57 : Int)), ((gd (.int .u8) x1 (58 : Int)), ((gd (.int .u8) x1 (59 : Int)), ((gd (.int .u8) x1 (60 : Int)), ((gd (.int .u8) x1 (61 : Int)), ((gd (.int .u8) x1 (62 : Int)), ((gd (.int .u8) x1 (63 : Int)), ())))))))))))))))))))))))))))))))))))))))))))))))))))))))))))))))), ()))).bind fun x2 =>
 (T.1 ((d.2.1, (((0 : Int), ((0 : Int), ((0 : Int), ((0 : Int), (0, ()))))), (d.2.1, ()))), ((), ((), ((), (x2.2.1, ((0, ()), ()))))))))
 else none
def Lb (d) := lim fun k => V2 (Ct k) d
theorem Apk : Gf Tryz.prog ET0 74 Xc Xu Lb :=
 fnL (E := (((E0.add 98 Aja).add 99 Awt).add 100 Lt)) (pi := Xc) (po := Xu) (Aa (Aa (Aa Bv (Ae Af3)) (Ae Atb)) (Ae K0)) (fn := Tryz.f74) Tryz.func74 (by kernel_rfl) (by kernel_rfl) [.cell 4 36] (by kernel_rfl) rfl rfl rfl [15] (fun k => [(4, ⟨Ake, (Ct k).1⟩), (12, ⟨Xm, (Ct k).2.1⟩), (15, ⟨Ahz, (Ct k).2.2.1⟩)]) (fun _ => [])
 (.intro (fun _ => rfl) (.intro (fun _ => rfl) (.intro (fun _ => rfl) trivial))) (fun k => (.intro (fun d => by kernel_rfl) (.intro (fun d => by kernel_rfl) (.intro (fun d => by kernel_rfl) trivial)))) trivial (fun k => trivial) (fun k d => V2 (Ct k) d) (fun k d => by kernel_rfl)
def Asw := Ak Xc Xu Lb
abbrev S1 : PSh := ⟨[], [kI]⟩
abbrev Tn : PSh := ⟨[], [kI]⟩
def Wz (T : Unit) (d : Unit × ((Int × Unit) × Unit)) : Option (Unit × ((Int × Unit) × Unit)) :=
 let x1 := (decide (d.2.1.1 < (0 : Int)))
 bif x1 then (
 some ((), ((0, ()), ())))
 else (
 let x2 := (Pg .i64 d.2.1.1 (64 : Int))
 let x3 := (Int.tmod d.2.1.1 (64 : Int))
 let x4 := (Cr .i64 x3 1)
 let x5 := (Cr .i64 x4 8)
 let x6 := (decide (x5 > (64 : Int)))
 bif x6 then (
 let x7 := (Cr .i64 x2 1)
 let x8 := (Cr .i64 x7 1)
 some ((), ((x8, ()), ())))
 else (
 let x9 := (Cr .i64 x2 1)
 some ((), ((x9, ()), ()))))
def M0 := Wz ()
theorem Aj2 : Gf Tryz.prog ET0 75 S1 Tn M0 :=
 fn0 (E := E0) (pi := S1) (po := Tn) Bv (fn := Tryz.f75) Tryz.func75 (by kernel_rfl) (by kernel_rfl) [.tmp 2] (by kernel_rfl) rfl rfl rfl [] fun d => by kernel_rfl
def Am9 := Ak S1 Tn M0
abbrev Mf : PSh := ⟨[], []⟩
abbrev Mi : PSh := ⟨[], [kI]⟩
abbrev Qv : Type := Y4
abbrev L3 : Type := (((Qv) -> Option (Unit × ((Int × Unit) × Unit))) × Unit)
abbrev Zf : PSh := ⟨[], [.any, kI, .mk false [.v (.int .u64)]] ++ Ab1 9⟩
def Zm (T : L3) (d : Qv) : Option (Unit × ((Int × Unit) × Unit)) :=
 let x3 := (decide (d.2.2.1.1 > (0 : Int)))
 bif x3 then (
 let x4 := (Cr .i64 d.2.1.1 1)
 let x5 := (Axt .u64 d.2.2.1.1 (8 : Int))
 (T.1 ((), ((x4, ()), ((x5, ()), ())))))
 else (
 some ((), (d.2.1, ())))
def Il : Nat -> L3
 | 0 => (fun _ => none, ())
 | k + 1 => (Zm (Il k), ())
def Qw (T : L3) (d : Unit × Unit) : Option (Unit × ((Int × Unit) × Unit)) :=
 let x1 := (J4 .u64 (0 : Int))
 let x2 := (A9z .u64 x1)
 (T.1 ((), ((0, ()), ((x2, ()), ()))))
def Kb (d) := lim fun k => Qw (Il k) d
theorem Abs : Gf Tryz.prog ET0 101 Mf Mi Kb :=
 fnL (E := E0) (pi := Mf) (po := Mi) Bv (fn := Tryz.f101) Tryz.func101 (by kernel_rfl) (by kernel_rfl) [.tmp 0] (by kernel_rfl) rfl rfl rfl [] (fun k => [(4, ⟨Zf, (Il k).1⟩)]) (fun _ => [])
 (.intro (fun _ => rfl) trivial) (fun k => (.intro (fun d => by kernel_rfl) trivial)) trivial (fun k => trivial) (fun k d => Qw (Il k) d) (fun k d => by kernel_rfl)
def Aee := Ak Mf Mi Kb
abbrev Nu : PSh := ⟨[], [.mk false [.v (.sl (.int .u8))], .mk false [.v (.sl (.int .u64))]]⟩
abbrev Kc : PSh := Bi
abbrev Iv : Type := Y3
abbrev Sx : Type := M3
abbrev Q1 : Type := Lj
abbrev Kd : Type := (((Sx) -> Option (Iv)) × (((Q1) -> Option (Iv)) × Unit))
abbrev Aar : PSh := ⟨[.row 5 (.int .u8)], [.any, .any, .any, .any, .any, kI, .mk false [.osl 0], .any, .any, .any, .any, .any, .any, .mk false [.v (.sl (.int .u64))], kI, kI] ++ Ab1 19⟩
abbrev Zj : PSh := ⟨[.row 5 (.int .u8)], [.any, .any, .any, .any, .any, kI, .mk false [.osl 0], .any, .mk false [.v (.int .u64)], kI, .any, .any, .any, .mk false [.v (.sl (.int .u64))], kI, kI] ++ Ab1 19⟩
def Im (T : Kd) (d : Sx) : Option (Iv) :=
 let x4 := (decide (d.2.2.2.2.2.1.1 < d.2.2.2.2.1.1))
 bif x4 then (
 bif decide ((0 : Int) <= d.2.2.2.2.2.1.1) && decide (d.2.2.2.2.2.1.1 < (d.2.2.2.1.1.length : Int)) then (
 let x5 := (Nj .i64 d.2.1.1 1)
 (T.2.1 (d.1, (d.2.1, ((), (((gd (.int .u64) d.2.2.2.1.1 d.2.2.2.2.2.1.1), ()), ((x5, ()), d.2.2.2)))))))
 else none)
 else (
 some (d.1, ((), ())))
def Hx (T : Kd) (d : Q1) : Option (Iv) :=
 let x6 := (decide (d.2.2.2.2.1.1 >= (0 : Int)))
 bif x6 then (
 let x7 := (Tx .i64 (8 : Int) d.2.2.2.2.1.1)
 bif decide (x7 < 0) then (
 none)
 else (
 let x8 := (Axt .u64 d.2.2.2.1.1 x7)
 let x9 := (J4 .u8 x8)
 let x10 := ([x9] : List Int)
 bif decide (((d.1.1.length + x10.length) * 1 : Nat) <= 140737488355328) && decide (d.1.1.length + x10.length <= 9223372036854775807) then (
 let x11 := (d.1.1 ++ x10)
 let x12 := (Nj .i64 d.2.2.2.2.1.1 1)
 (T.2.1 ((x11, ()), (d.2.1, ((), (d.2.2.2.1, ((x12, ()), d.2.2.2.2.2)))))))
 else none))
 else (
 let x13 := (Cr .i64 d.2.2.2.2.2.2.2.1.1 1)
 (T.1 (d.1, (d.2.1, ((), (d.2.2.2.2.2.1, (d.2.2.2.2.2.2.1, ((x13, ()), ()))))))))
def Bn : Nat -> Kd
 | 0 => (fun _ => none, (fun _ => none, ()))
 | k + 1 => (Im (Bn k), (Hx (Bn k), ()))
theorem K5 (k : Nat) : Bn (k + 1) = (Im (Bn k), (Hx (Bn k), ())) := rfl
def L5 (T : Kd) (d : Y7) : Option (Iv) :=
 (Kb ((), ())).bind fun x1 =>
 (C1 ((), (d.2.1, ()))).bind fun x2 =>
 let x3 := (d.2.2.1.1.length : Int)
 (T.1 (x2.1, (x1.2.1, ((), (d.2.2.1, ((x3, ()), ((0, ()), ())))))))
def K4 (d) := lim fun k => L5 (Bn k) d
theorem Adb : Gf Tryz.prog ET0 76 Nu Kc K4 :=
 fnL (E := ((E0.add 92 Lv).add 101 Aee)) (pi := Nu) (po := Kc) (Aa (Aa Bv (Ae Kv)) (Ae Abs)) (fn := Tryz.f76) Tryz.func76 (by kernel_rfl) (by kernel_rfl) [.tmp 4] (by kernel_rfl) rfl rfl rfl [] (fun k => [(5, ⟨Aar, (Bn k).1⟩), (11, ⟨Zj, (Bn k).2.1⟩)]) (fun _ => [])
 (.intro (fun _ => rfl) (.intro (fun _ => rfl) trivial)) (fun k => (.intro (fun d => by kernel_rfl) (.intro (fun d => by kernel_rfl) trivial))) trivial (fun k => trivial) (fun k d => L5 (Bn k) d) (fun k d => by kernel_rfl)
def Agb := Ak Nu Kc K4
abbrev F5 : Type := (((Unit × (((Option (List Int)) × Unit) × (((Option Int) × Unit) × ((Int × Unit) × Unit)))) -> Option (List (List Int))) × Unit)
abbrev I2 : PSh := ⟨[], [.any, .mk false [.v (.nptr (.sl (.int .u8)))], .mk false [.v (.nptr (.int .i64))], .any, kI] ++ Ab1 26⟩
def B1 (T : F5) (d : Unit × (((Option (List Int)) × Unit) × (((Option Int) × Unit) × ((Int × Unit) × Unit)))) : Option (List (List Int)) :=
 d.2.1.1.bind fun x1 =>
 let x2 := (x1.length : Int)
 let x3 := (decide (d.2.2.2.1.1 < x2))
 bif x3 then (
 d.2.2.1.1.bind fun x4 =>
 d.2.1.1.bind fun x5 =>
 bif decide ((0 : Int) <= d.2.2.2.1.1) && decide (d.2.2.2.1.1 <= (x5.length : Int)) && decide ((x5.length : Int) <= (x5.length : Int)) then (
 let x6 := (List.drop (Int.toNat d.2.2.2.1.1) (List.take (Int.toNat (x5.length : Int)) x5))
 let x7 := (x6.length : Int)
 let x8 := (if x7 < x4 then x7 else x4)
 d.2.1.1.bind fun x9 =>
 let x10 := (Cr .i64 d.2.2.2.1.1 x8)
 let x11 := (Cr .i64 d.2.2.2.1.1 x8)
 bif decide ((0 : Int) <= d.2.2.2.1.1) && decide (d.2.2.2.1.1 <= x10) && decide (x10 <= x11) && decide (x11 <= (x9.length : Int)) then (
 let x12 := (List.drop (Int.toNat d.2.2.2.1.1) (List.take (Int.toNat x10) x9))
 (some ([] : List (List Int))).bind fun (x13 : List (List Int)) =>
 bif x13.isEmpty then (
 (d.2.2.1.1.bind fun x15 =>
 let x16 := (Cr .i64 d.2.2.2.1.1 x15)
 (T.1 ((), ((d.2.1.1, ()), ((d.2.2.1.1, ()), ((x16, ()), ())))))).bind fun (x14 : List (List Int)) =>
 some (x12 :: x14))
 else none)
 else none)
 else none)
 else (
 some ([] : List (List Int)))
def A0 : Nat -> F5
 | 0 => (fun _ => none, ())
 | k + 1 => (B1 (A0 k), ())
def Jh (T : F5) (d : ((List Int) × (Int × Unit))) : Option (List (List Int)) :=
 (T.1 ((), (((some d.1), ()), (((some d.2.1), ()), ((0, ()), ())))))
def Gx (k : Nat) : Pts (List (List Int)) := [(1, ⟨I2, (A0 k).1⟩)]
def Dd (d : ((List Int) × (Int × Unit))) : Option (List (List Int)) := lim fun k => Jh (A0 k) d
def Ea : Acd := ⟨[(63, (.sl (.int .u8))), (3, (.int .i64))], [false, false], (.sl (.int .u8)), Dd⟩
def G0 : Env := E0
theorem Qc (k : Nat) (d : Unit × (((Option (List Int)) × Unit) × (((Option Int) × Unit) × ((Int × Unit) × Unit)))) : We G0 (.sl (.int .u8)) (A1m (Gx k)) 1 (O8 Tryz.f97) 0 A8k (Ava I2 d) = B1 (A0 k) d := by kernel_rfl
theorem Qa (k : Nat) (d : ((List Int) × (Int × Unit))) : H2 G0 (.sl (.int .u8)) (A1m (Gx k)) (O8 Tryz.f97) 0 A8k (Avu Ea.ts Ea.wr 31 d) = Jh (A0 k) d := by kernel_rfl
theorem Qb : A16 Tryz.prog ET0 97 Ea := by
 refine Asb (E := G0) Bv rfl rfl (fn := Tryz.f97) Tryz.func97 (by kernel_rfl) (by kernel_rfl) (by kernel_rfl) (by kernel_rfl) Gx ?_ ?_ ?_ (by intro d l h; obtain ⟨k, hk⟩ := Anu h; exact ⟨k, (Qa k d).trans hk⟩)
 ·intro x hx d
  rcases List.mem_cons.1 hx with rfl | hx
  ·rfl
  ·
   cases hx
 ·intro k x hx
  rcases List.mem_cons.1 hx with rfl | hx
  ·rfl
  ·
   cases hx
 ·intro k x hx d out h
  rcases List.mem_cons.1 hx with rfl | hx
  ·exact (Qc k d).trans h
  ·
   cases hx
abbrev Aa5 : PSh := Ey
abbrev Z5 : PSh := O7
abbrev T9 : Type := Y9
abbrev Afc : Type := ((Int × (Int × (Int × (Int × (Int × (Int × (Int × (Int × (Int × (Int × (Int × (Int × (Int × (Int × (Int × (Int × (Int × (Int × (Int × (Int × Unit)))))))))))))))))))) × ((Int × (Int × (Int × (Int × (Int × Unit))))) × Unit)) × (((List Int) × Unit) × (Unit × (Unit × ((Int × Unit) × Unit))))
abbrev Abf : Type := ((Int × (Int × (Int × (Int × (Int × (Int × (Int × (Int × (Int × (Int × (Int × (Int × (Int × (Int × (Int × (Int × (Int × (Int × (Int × (Int × Unit)))))))))))))))))))) × ((Int × (Int × (Int × (Int × (Int × Unit))))) × Unit)) × (Unit × (Unit × Unit))
abbrev Jp : Type := ((List (List Int) -> (Afc) -> Option (T9)) × ((List (List Int) -> (Abf) -> Option (T9)) × Unit))
abbrev An1 : PSh := ⟨[.var 53 [v8, v8, v8, v8, v8, v8, v8, v8, v8, v8, v8, v8, v8, v8, v8, v8, v8, v8, v8, v8], .var 36 [.v (.int .u32), .v (.int .u32), .v (.int .u32), .v (.int .u32), .v (.int .u32)]], [.mk false [.v (.sl (.int .u8))], .any, .mk false [.ref 0 0], .mk false [.ref 1 0], kI] ++ Ab1 55⟩
abbrev Aj9 : PSh := ⟨[.var 53 [v8, v8, v8, v8, v8, v8, v8, v8, v8, v8, v8, v8, v8, v8, v8, v8, v8, v8, v8, v8], .var 36 [.v (.int .u32), .v (.int .u32), .v (.int .u32), .v (.int .u32), .v (.int .u32)]], [.any, .any, .mk false [.ref 0 0], .mk false [.ref 1 0]] ++ Ab1 56⟩
def Qd (T : Jp) (l : List (List Int)) (d : Afc) : Option (T9) :=
 bif l.isEmpty then (
 let x8 := (d.2.1.1.length : Int)
 (M0 ((), ((x8, ()), ()))).bind fun x9 =>
 let x10 := (Pg .i64 d.2.2.2.2.1.1 (64 : Int))
 let x11 := (Nj .i64 x9.2.1.1 x10)
 let x12 := (Tx .i64 x11 64)
 let x13 := (Nj .i64 x12 8)
 bif decide ((0 : Int) <= x13) && decide (x13 <= x13) && decide (x13 * (1 : Int) <= 140737488355328) && decide (x13 <= 9223372036854775807) then (
 let x14 := (List.replicate (Int.toNat x13) (0 : Int))
 bif decide ((0 : Int) <= d.2.2.2.2.1.1) && decide (d.2.2.2.2.1.1 <= (d.2.1.1.length : Int)) && decide ((d.2.1.1.length : Int) <= (d.2.1.1.length : Int)) then (
 let x15 := (List.drop (Int.toNat d.2.2.2.2.1.1) (List.take (Int.toNat (d.2.1.1.length : Int)) d.2.1.1))
 bif decide ((0 : Int) < (x14.length : Int)) then (
 let x16 := (cpL x14 (Int.toNat (0 : Int)) x15)
 let x17 := ((min x15.length (x14.length - (Int.toNat (0 : Int))) : Nat) : Int)
 let x18 := (d.2.1.1.length : Int)
 let x19 := (Nj .i64 x18 d.2.2.2.2.1.1)
 bif decide ((0 : Int) <= x19) && decide (x19 < (x16.length : Int)) then (
 let x20 := (List.set x16 (Int.toNat x19) (128 : Int))
 let x21 := (d.2.1.1.length : Int)
 let x22 := (J4 .u64 x21)
 let x23 := (Tx .u64 x22 8)
 let x24 := ([x23] : List Int)
 (K4 ((), ((x20, ()), ((x24, ()), ())))).bind fun x25 =>
 (Cf ((), (x25.1, ((64, ()), ())))).bind fun x26 =>
 (Dd (x26.1.1.1, (x26.1.2.1.1, ()))).bind fun x27 =>
 (T.2.1 x27 (d.1, ((), ((), ())))))
 else none)
 else none)
 else none)
 else none)
 else (
 let x28 := (gd (.sl (.int .u8)) l (0 : Int))
 bif decide ((64 : Int) <= x28.length) then (
 let x29 := ((gd (.int .u8) x28 (0 : Int)), ((gd (.int .u8) x28 (1 : Int)), ((gd (.int .u8) x28 (2 : Int)), ((gd (.int .u8) x28 (3 : Int)), ((gd (.int .u8) x28 (4 : Int)), ((gd (.int .u8) x28 (5 : Int)), ((gd (.int .u8) x28 (6 : Int)), ((gd (.int .u8) x28 (7 : Int)), ((gd (.int .u8) x28 (8 : Int)), ((gd (.int .u8) x28 (9 : Int)), ((gd (.int .u8) x28 (10 : Int)), ((gd (.int .u8) x28 (11 : Int)), ((gd (.int .u8) x28 (12 : Int)), ((gd (.int .u8) x28 (13 : Int)), ((gd (.int .u8) x28 (14 : Int)), ((gd (.int .u8) x28 (15 : Int)), ((gd (.int .u8) x28 (16 : Int)), ((gd (.int .u8) x28 (17 : Int)), ((gd (.int .u8) x28 (18 : Int)), ((gd (.int .u8) x28 (19 : Int)), ((gd (.int .u8) x28 (20 : Int)), ((gd (.int .u8) x28 (21 : Int)), ((gd (.int .u8) x28 (22 : Int)), ((gd (.int .u8) x28 (23 : Int)), ((gd (.int .u8) x28 (24 : Int)), ((gd (.int .u8) x28 (25 : Int)), ((gd (.int .u8) x28 (26 : Int)), ((gd (.int .u8) x28 (27 : Int)), ((gd (.int .u8) x28 (28 : Int)), ((gd (.int .u8) x28 (29 : Int)), ((gd (.int .u8) x28 (30 : Int)), ((gd (.int .u8) x28 (31 : Int)), ((gd (.int .u8) x28 (32 : Int)), ((gd (.int .u8) x28 (33 : Int)), ((gd (.int .u8) x28 (34 : Int)), ((gd (.int .u8) x28 (35 : Int)), ((gd (.int .u8) x28 (36 : Int)), ((gd (.int .u8) x28 (37 : Int)), ((gd (.int .u8) x28 (38 : Int)), ((gd (.int .u8) x28 (39 : Int)), ((gd (.int .u8) x28 (40 : Int)), ((gd (.int .u8) x28 (41 : Int)), ((gd (.int .u8) x28 (42 : Int)), ((gd (.int .u8) x28 (43 : Int)), ((gd (.int .u8) x28 (44 : Int)), ((gd (.int .u8) x28 (45 : Int)), ((gd (.int .u8) x28 (46 : Int)), ((gd (.int .u8) x28 (47 : Int)), ((gd (.int .u8) x28 (48 : Int)), ((gd (.int .u8) x28 (49 : Int)), ((gd (.int .u8) x28 (50 : Int)), ((gd (.int .u8) x28 (51 : Int)), ((gd (.int .u8) x28 (52 : Int)), ((gd (.int .u8) x28 (53 : Int)), ((gd (.int .u8) x28 (54 : Int)), ((gd (.int .u8) x28 (55 : Int)), ((gd (.int .u8) x28 (56 : Int)), ((gd (.int .u8) x28 (57 : Int)), ((gd (.int .u8) x28 (58 : Int)), ((gd (.int .u8) x28 (59 : Int)), ((gd (.int .u8) x28 (60 : Int)), ((gd (.int .u8) x28 (61 : Int)), ((gd (.int .u8) x28 (62 : Int)), (gd (.int .u8) x28 (63 : Int)))))))))))))))))))))))))))))))))))))))))))))))))))))))))))))))))
 (Lb ((), (d.1.2.1, ((x29.1, (x29.2.1, (x29.2.2.1, (x29.2.2.2.1, (x29.2.2.2.2.1, (x29.2.2.2.2.2.1, (x29.2.2.2.2.2.2.1, (x29.2.2.2.2.2.2.2.1, (x29.2.2.2.2.2.2.2.2.1, (x29.2.2.2.2.2.2.2.2.2.1, (x29.2.2.2.2.2.2.2.2.2.2.1, (x29.2.2.2.2.2.2.2.2.2.2.2.1, (x29.2.2.2.2.2.2.2.2.2.2.2.2.1, (x29.2.2.2.2.2.2.2.2.2.2.2.2.2.1, (x29.2.2.2.2.2.2.2.2.2.2.2.2.2.2.1, (x29.2.2.2.2.2.2.2.2.2.2.2.2.2.2.2.1, (x29.2.2.2.2.2.2.2.2.2.2.2.2.2.2.2.2.1, (x29.2.2.2.2.2.2.2.2.2.2.2.2.2.2.2.2.2.1, (x29.2.2.2.2.2.2.2.2.2.2.2.2.2.2.2.2.2.2.1, (x29.2.2.2.2.2.2.2.2.2.2.2.2.2.2.2.2.2.2.2.1, (x29.2.2.2.2.2.2.2.2.2.2.2.2.2.2.2.2.2.2.2.2.1, (x29.2.2.2.2.2.2.2.2.2.2.2.2.2.2.2.2.2.2.2.2.2.1, (x29.2.2.2.2.2.2.2.2.2.2.2.2.2.2.2.2.2.2.2.2.2.2.1, (x29.2.2.2.2.2.2.2.2.2.2.2.2.2.2.2.2.2.2.2.2.2.2.2.1, (x29.2.2.2.2.2.2.2.2.2.2.2.2.2.2.2.2.2.2.2.2.2.2.2.2.1, (x29.2.2.2.2.2.2.2.2.2.2.2.2.2.2.2.2.2.2.2.2.2.2.2.2.2.1, (x29.2.2.2.2.2.2.2.2.2.2.2.2.2.2.2.2.2.2.2.2.2.2.2.2.2.2.1, (x29.2.2.2.2.2.2.2.2.2.2.2.2.2.2.2.2.2.2.2.2.2.2.2.2.2.2.2.1, (x29.2.2.2.2.2.2.2.2.2.2.2.2.2.2.2.2.2.2.2.2.2.2.2.2.2.2.2.2.1, (x29.2.2.2.2.2.2.2.2.2.2.2.2.2.2.2.2.2.2.2.2.2.2.2.2.2.2.2.2.2.1, (x29.2.2.2.2.2.2.2.2.2.2.2.2.2.2.2.2.2.2.2.2.2.2.2.2.2.2.2.2.2.2.1, (x29.2.2.2.2.2.2.2.2.2.2.2.2.2.2.2.2.2.2.2.2.2.2.2.2.2.2.2.2.2.2.2.1, (x29.2.2.2.2.2.2.2.2.2.2.2.2.2.2.2.2.2.2.2.2.2.2.2.2.2.2.2.2.2.2.2.2.1, (x29.2.2.2.2.2.2.2.2.2.2.2.2.2.2.2.2.2.2.2.2.2.2.2.2.2.2.2.2.2.2.2.2.2.1, (x29.2.2.2.2.2.2.2.2.2.2.2.2.2.2.2.2.2.2.2.2.2.2.2.2.2.2.2.2.2.2.2.2.2.2.1, (x29.2.2.2.2.2.2.2.2.2.2.2.2.2.2.2.2.2.2.2.2.2.2.2.2.2.2.2.2.2.2.2.2.2.2.2.1, (x29.2.2.2.2.2.2.2.2.2.2.2.2.2.2.2.2.2.2.2.2.2.2.2.2.2.2.2.2.2.2.2.2.2.2.2.2.1, (x29.2.2.2.2.2.2.2.2.2.2.2.2.2.2.2.2.2.2.2.2.2.2.2.2.2.2.2.2.2.2.2.2.2.2.2.2.2.1, (x29.2.2.2.2.2.2.2.2.2.2.2.2.2.2.2.2.2.2.2.2.2.2.2.2.2.2.2.2.2.2.2.2.2.2.2.2.2.2.1, (x29.2.2.2.2.2.2.2.2.2.2.2.2.2.2.2.2.2.2.2.2.2.2.2.2.2.2.2.2.2.2.2.2.2.2.2.2.2.2.2.1, (x29.2.2.2.2.2.2.2.2.2.2.2.2.2.2.2.2.2.2.2.2.2.2.2.2.2.2.2.2.2.2.2.2.2.2.2.2.2.2.2.2.1, (x29.2.2.2.2.2.2.2.2.2.2.2.2.2.2.2.2.2.2.2.2.2.2.2.2.2.2.2.2.2.2.2.2.2.2.2.2.2.2.2.2.2.1, (x29.2.2.2.2.2.2.2.2.2.2.2.2.2.2.2.2.2.2.2.2.2.2.2.2.2.2.2.2.2.2.2.2.2.2.2.2.2.2.2.2.2.2.1, (x29.2.2.2.2.2.2.2.2.2.2.2.2.2.2.2.2.2.2.2.2.2.2.2.2.2.2.2.2.2.2.2.2.2.2.2.2.2.2.2.2.2.2.2.1, (x29.2.2.2.2.2.2.2.2.2.2.2.2.2.2.2.2.2.2.2.2.2.2.2.2.2.2.2.2.2.2.2.2.2.2.2.2.2.2.2.2.2.2.2.2.1, (x29.2.2.2.2.2.2.2.2.2.2.2.2.2.2.2.2.2.2.2.2.2.2.2.2.2.2.2.2.2.2.2.2.2.2.2.2.2.2.2.2.2.2.2.2.2.1, (x29.2.2.2.2.2.2.2.2.2.2.2.2.2.2.2.2.2.2.2.2.2.2.2.2.2.2.2.2.2.2.2.2.2.2.2.2.2.2.2.2.2.2.2.2.2.2.1, (x29.2.2.2.2.2.2.2.2.2.2.2.2.2.2.2.2.2.2.2.2.2.2.2.2.2.2.2.2.2.2.2.2.2.2.2.2.2.2.2.2.2.2.2.2.2.2.2.1, (x29.2.2.2.2.2.2.2.2.2.2.2.2.2.2.2.2.2.2.2.2.2.2.2.2.2.2.2.2.2.2.2.2.2.2.2.2.2.2.2.2.2.2.2.2.2.2.2.2.1, (x29.2.2.2.2.2.2.2.2.2.2.2.2.2.2.2.2.2.2.2.2.2.2.2.2.2.2.2.2.2.2.2.2.2.2.2.2.2.2.2.2.2.2.2.2.2.2.2.2.2.1, (x29.2.2.2.2.2.2.2.2.2.2.2.2.2.2.2.2.2.2.2.2.2.2.2.2.2.2.2.2.2.2.2.2.2.2.2.2.2.2.2.2.2.2.2.2.2.2.2.2.2.2.1, (x29.2.2.2.2.2.2.2.2.2.2.2.2.2.2.2.2.2.2.2.2.2.2.2.2.2.2.2.2.2.2.2.2.2.2.2.2.2.2.2.2.2.2.2.2.2.2.2.2.2.2.2.1, (x29.2.2.2.2.2.2.2.2.2.2.2.2.2.2.2.2.2.2.2.2.2.2.2.2.2.2.2.2.2.2.2.2.2.2.2.2.2.2.2.2.2.2.2.2.2.2.2.2.2.2.2.2.1, (x29.2.2.2.2.2.2.2.2.2.2.2.2.2.2.2.2.2.2.2.2.2.2.2.2.2.2.2.2.2.2.2.2.2.2.2.2.2.2.2.2.2.2.2.2.2.2.2.2.2.2.2.2.2.1, (x29.2.2.2.2.2.2.2.2.2.2.2.2.2.2.2.2.2.2.2.2.2.2.2.2.2.2.2.2.2.2.2.2.2.2.2.2.2.2.2.2.2.2.2.2.2.2.2.2.2.2.2.2.2.2.1, (x29.2.2.2.2.2.2.2.2.2.2.2.2.2.2.2.2.2.2.2.2.2.2.2.2.2.2.2.2.2.2.2.2.2.2.2.2.2.2.2.2.2.2.2.2.2.2.2.2.2.2.2.2.2.2.2.1, (x29.2.2.2.2.2.2.2.2.2.2.2.2.2.2.2.2.2.2.2.2.2.2.2.2.2.2.2.2.2.2.2.2.2.2.2.2.2.2.2.2.2.2.2.2.2.2.2.2.2.2.2.2.2.2.2.2.1, (x29.2.2.2.2.2.2.2.2.2.2.2.2.2.2.2.2.2.2.2.2.2.2.2.2.2.2.2.2.2.2.2.2.2.2.2.2.2.2.2.2.2.2.2.2.2.2.2.2.2.2.2.2.2.2.2.2.2.1, (x29.2.2.2.2.2.2.2.2.2.2.2.2.2.2.2.2.2.2.2.2.2.2.2.2.2.2.2.2.2.2.2.2.2.2.2.2.2.2.2.2.2.2.2.2.2.2.2.2.2.2.2.2.2.2.2.2.2.2.1, (x29.2.2.2.2.2.2.2.2.2.2.2.2.2.2.2.2.2.2.2.2.2.2.2.2.2.2.2.2.2.2.2.2.2.2.2.2.2.2.2.2.2.2.2.2.2.2.2.2.2.2.2.2.2.2.2.2.2.2.2.1, (x29.2.2.2.2.2.2.2.2.2.2.2.2.2.2.2.2.2.2.2.2.2.2.2.2.2.2.2.2.2.2.2.2.2.2.2.2.2.2.2.2.2.2.2.2.2.2.2.2.2.2.2.2.2.2.2.2.2.2.2.2.1, (x29.2.2.2.2.2.2.2.2.2.2.2.2.2.2.2.2.2.2.2.2.2.2.2.2.2.2.2.2.2.2.2.2.2.2.2.2.2.2.2.2.2.2.2.2.2.2.2.2.2.2.2.2.2.2.2.2.2.2.2.2.2.1, (x29.2.2.2.2.2.2.2.2.2.2.2.2.2.2.2.2.2.2.2.2.2.2.2.2.2.2.2.2.2.2.2.2.2.2.2.2.2.2.2.2.2.2.2.2.2.2.2.2.2.2.2.2.2.2.2.2.2.2.2.2.2.2.1, (x29.2.2.2.2.2.2.2.2.2.2.2.2.2.2.2.2.2.2.2.2.2.2.2.2.2.2.2.2.2.2.2.2.2.2.2.2.2.2.2.2.2.2.2.2.2.2.2.2.2.2.2.2.2.2.2.2.2.2.2.2.2.2.2, ())))))))))))))))))))))))))))))))))))))))))))))))))))))))))))))))), ())))).bind fun x30 =>
 (T.1 (List.drop 1 l) ((d.1.1, x30.2), (d.2.1, ((), ((), d.2.2.2.2))))))
 else none)
def Om (T : Jp) (l : List (List Int)) (d : Abf) : Option (T9) :=
 bif l.isEmpty then (
 (Jy ((), d.1.2)).bind fun x31 =>
 some ((), x31.2))
 else (
 let x32 := (gd (.sl (.int .u8)) l (0 : Int))
 bif decide ((64 : Int) <= x32.length) then (
 let x33 := ((gd (.int .u8) x32 (0 : Int)), ((gd (.int .u8) x32 (1 : Int)), ((gd (.int .u8) x32 (2 : Int)), ((gd (.int .u8) x32 (3 : Int)), ((gd (.int .u8) x32 (4 : Int)), ((gd (.int .u8) x32 (5 : Int)), ((gd (.int .u8) x32 (6 : Int)), ((gd (.int .u8) x32 (7 : Int)), ((gd (.int .u8) x32 (8 : Int)), ((gd (.int .u8) x32 (9 : Int)), ((gd (.int .u8) x32 (10 : Int)), ((gd (.int .u8) x32 (11 : Int)), ((gd (.int .u8) x32 (12 : Int)), ((gd (.int .u8) x32 (13 : Int)), ((gd (.int .u8) x32 (14 : Int)), ((gd (.int .u8) x32 (15 : Int)), ((gd (.int .u8) x32 (16 : Int)), ((gd (.int .u8) x32 (17 : Int)), ((gd (.int .u8) x32 (18 : Int)), ((gd (.int .u8) x32 (19 : Int)), ((gd (.int .u8) x32 (20 : Int)), ((gd (.int .u8) x32 (21 : Int)), ((gd (.int .u8) x32 (22 : Int)), ((gd (.int .u8) x32 (23 : Int)), ((gd (.int .u8) x32 (24 : Int)), ((gd (.int .u8) x32 (25 : Int)), ((gd (.int .u8) x32 (26 : Int)), ((gd (.int .u8) x32 (27 : Int)), ((gd (.int .u8) x32 (28 : Int)), ((gd (.int .u8) x32 (29 : Int)), ((gd (.int .u8) x32 (30 : Int)), ((gd (.int .u8) x32 (31 : Int)), ((gd (.int .u8) x32 (32 : Int)), ((gd (.int .u8) x32 (33 : Int)), ((gd (.int .u8) x32 (34 : Int)), ((gd (.int .u8) x32 (35 : Int)), ((gd (.int .u8) x32 (36 : Int)), ((gd (.int .u8) x32 (37 : Int)), ((gd (.int .u8) x32 (38 : Int)), ((gd (.int .u8) x32 (39 : Int)), ((gd (.int .u8) x32 (40 : Int)), ((gd (.int .u8) x32 (41 : Int)), ((gd (.int .u8) x32 (42 : Int)), ((gd (.int .u8) x32 (43 : Int)), ((gd (.int .u8) x32 (44 : Int)), ((gd (.int .u8) x32 (45 : Int)), ((gd (.int .u8) x32 (46 : Int)), ((gd (.int .u8) x32 (47 : Int)), ((gd (.int .u8) x32 (48 : Int)), ((gd (.int .u8) x32 (49 : Int)), ((gd (.int .u8) x32 (50 : Int)), ((gd (.int .u8) x32 (51 : Int)), ((gd (.int .u8) x32 (52 : Int)), ((gd (.int .u8) x32 (53 : Int)), ((gd (.int .u8) x32 (54 : Int)), ((gd (.int .u8) x32 (55 : Int)), ((gd (.int .u8) x32 (56 : Int)), ((gd (.int .u8) x32 (57 : Int)), ((gd (.int .u8) x32 (58 : Int)), ((gd (.int .u8) x32 (59 : Int)), ((gd (.int .u8) x32 (60 : Int)), ((gd (.int .u8) x32 (61 : Int)), ((gd (.int .u8) x32 (62 : Int)), (gd (.int .u8) x32 (63 : Int)))))))))))))))))))))))))))))))))))))))))))))))))))))))))))))))))
 (Lb ((), (d.1.2.1, ((x33.1, (x33.2.1, (x33.2.2.1, (x33.2.2.2.1, (x33.2.2.2.2.1, (x33.2.2.2.2.2.1, (x33.2.2.2.2.2.2.1, (x33.2.2.2.2.2.2.2.1, (x33.2.2.2.2.2.2.2.2.1, (x33.2.2.2.2.2.2.2.2.2.1, (x33.2.2.2.2.2.2.2.2.2.2.1, (x33.2.2.2.2.2.2.2.2.2.2.2.1, (x33.2.2.2.2.2.2.2.2.2.2.2.2.1, (x33.2.2.2.2.2.2.2.2.2.2.2.2.2.1, (x33.2.2.2.2.2.2.2.2.2.2.2.2.2.2.1, (x33.2.2.2.2.2.2.2.2.2.2.2.2.2.2.2.1, (x33.2.2.2.2.2.2.2.2.2.2.2.2.2.2.2.2.1, (x33.2.2.2.2.2.2.2.2.2.2.2.2.2.2.2.2.2.1, (x33.2.2.2.2.2.2.2.2.2.2.2.2.2.2.2.2.2.2.1, (x33.2.2.2.2.2.2.2.2.2.2.2.2.2.2.2.2.2.2.2.1, (x33.2.2.2.2.2.2.2.2.2.2.2.2.2.2.2.2.2.2.2.2.1, (x33.2.2.2.2.2.2.2.2.2.2.2.2.2.2.2.2.2.2.2.2.2.1, (x33.2.2.2.2.2.2.2.2.2.2.2.2.2.2.2.2.2.2.2.2.2.2.1, (x33.2.2.2.2.2.2.2.2.2.2.2.2.2.2.2.2.2.2.2.2.2.2.2.1, (x33.2.2.2.2.2.2.2.2.2.2.2.2.2.2.2.2.2.2.2.2.2.2.2.2.1, (x33.2.2.2.2.2.2.2.2.2.2.2.2.2.2.2.2.2.2.2.2.2.2.2.2.2.1, (x33.2.2.2.2.2.2.2.2.2.2.2.2.2.2.2.2.2.2.2.2.2.2.2.2.2.2.1, (x33.2.2.2.2.2.2.2.2.2.2.2.2.2.2.2.2.2.2.2.2.2.2.2.2.2.2.2.1, (x33.2.2.2.2.2.2.2.2.2.2.2.2.2.2.2.2.2.2.2.2.2.2.2.2.2.2.2.2.1, (x33.2.2.2.2.2.2.2.2.2.2.2.2.2.2.2.2.2.2.2.2.2.2.2.2.2.2.2.2.2.1, (x33.2.2.2.2.2.2.2.2.2.2.2.2.2.2.2.2.2.2.2.2.2.2.2.2.2.2.2.2.2.2.1, (x33.2.2.2.2.2.2.2.2.2.2.2.2.2.2.2.2.2.2.2.2.2.2.2.2.2.2.2.2.2.2.2.1, (x33.2.2.2.2.2.2.2.2.2.2.2.2.2.2.2.2.2.2.2.2.2.2.2.2.2.2.2.2.2.2.2.2.1, (x33.2.2.2.2.2.2.2.2.2.2.2.2.2.2.2.2.2.2.2.2.2.2.2.2.2.2.2.2.2.2.2.2.2.1, (x33.2.2.2.2.2.2.2.2.2.2.2.2.2.2.2.2.2.2.2.2.2.2.2.2.2.2.2.2.2.2.2.2.2.2.1, (x33.2.2.2.2.2.2.2.2.2.2.2.2.2.2.2.2.2.2.2.2.2.2.2.2.2.2.2.2.2.2.2.2.2.2.2.1, (x33.2.2.2.2.2.2.2.2.2.2.2.2.2.2.2.2.2.2.2.2.2.2.2.2.2.2.2.2.2.2.2.2.2.2.2.2.1, (x33.2.2.2.2.2.2.2.2.2.2.2.2.2.2.2.2.2.2.2.2.2.2.2.2.2.2.2.2.2.2.2.2.2.2.2.2.2.1, (x33.2.2.2.2.2.2.2.2.2.2.2.2.2.2.2.2.2.2.2.2.2.2.2.2.2.2.2.2.2.2.2.2.2.2.2.2.2.2.1, (x33.2.2.2.2.2.2.2.2.2.2.2.2.2.2.2.2.2.2.2.2.2.2.2.2.2.2.2.2.2.2.2.2.2.2.2.2.2.2.2.1, (x33.2.2.2.2.2.2.2.2.2.2.2.2.2.2.2.2.2.2.2.2.2.2.2.2.2.2.2.2.2.2.2.2.2.2.2.2.2.2.2.2.1, (x33.2.2.2.2.2.2.2.2.2.2.2.2.2.2.2.2.2.2.2.2.2.2.2.2.2.2.2.2.2.2.2.2.2.2.2.2.2.2.2.2.2.1, (x33.2.2.2.2.2.2.2.2.2.2.2.2.2.2.2.2.2.2.2.2.2.2.2.2.2.2.2.2.2.2.2.2.2.2.2.2.2.2.2.2.2.2.1, (x33.2.2.2.2.2.2.2.2.2.2.2.2.2.2.2.2.2.2.2.2.2.2.2.2.2.2.2.2.2.2.2.2.2.2.2.2.2.2.2.2.2.2.2.1, (x33.2.2.2.2.2.2.2.2.2.2.2.2.2.2.2.2.2.2.2.2.2.2.2.2.2.2.2.2.2.2.2.2.2.2.2.2.2.2.2.2.2.2.2.2.1, (x33.2.2.2.2.2.2.2.2.2.2.2.2.2.2.2.2.2.2.2.2.2.2.2.2.2.2.2.2.2.2.2.2.2.2.2.2.2.2.2.2.2.2.2.2.2.1, (x33.2.2.2.2.2.2.2.2.2.2.2.2.2.2.2.2.2.2.2.2.2.2.2.2.2.2.2.2.2.2.2.2.2.2.2.2.2.2.2.2.2.2.2.2.2.2.1, (x33.2.2.2.2.2.2.2.2.2.2.2.2.2.2.2.2.2.2.2.2.2.2.2.2.2.2.2.2.2.2.2.2.2.2.2.2.2.2.2.2.2.2.2.2.2.2.2.1, (x33.2.2.2.2.2.2.2.2.2.2.2.2.2.2.2.2.2.2.2.2.2.2.2.2.2.2.2.2.2.2.2.2.2.2.2.2.2.2.2.2.2.2.2.2.2.2.2.2.1, (x33.2.2.2.2.2.2.2.2.2.2.2.2.2.2.2.2.2.2.2.2.2.2.2.2.2.2.2.2.2.2.2.2.2.2.2.2.2.2.2.2.2.2.2.2.2.2.2.2.2.1, (x33.2.2.2.2.2.2.2.2.2.2.2.2.2.2.2.2.2.2.2.2.2.2.2.2.2.2.2.2.2.2.2.2.2.2.2.2.2.2.2.2.2.2.2.2.2.2.2.2.2.2.1, (x33.2.2.2.2.2.2.2.2.2.2.2.2.2.2.2.2.2.2.2.2.2.2.2.2.2.2.2.2.2.2.2.2.2.2.2.2.2.2.2.2.2.2.2.2.2.2.2.2.2.2.2.1, (x33.2.2.2.2.2.2.2.2.2.2.2.2.2.2.2.2.2.2.2.2.2.2.2.2.2.2.2.2.2.2.2.2.2.2.2.2.2.2.2.2.2.2.2.2.2.2.2.2.2.2.2.2.1, (x33.2.2.2.2.2.2.2.2.2.2.2.2.2.2.2.2.2.2.2.2.2.2.2.2.2.2.2.2.2.2.2.2.2.2.2.2.2.2.2.2.2.2.2.2.2.2.2.2.2.2.2.2.2.1, (x33.2.2.2.2.2.2.2.2.2.2.2.2.2.2.2.2.2.2.2.2.2.2.2.2.2.2.2.2.2.2.2.2.2.2.2.2.2.2.2.2.2.2.2.2.2.2.2.2.2.2.2.2.2.2.1, (x33.2.2.2.2.2.2.2.2.2.2.2.2.2.2.2.2.2.2.2.2.2.2.2.2.2.2.2.2.2.2.2.2.2.2.2.2.2.2.2.2.2.2.2.2.2.2.2.2.2.2.2.2.2.2.2.1, (x33.2.2.2.2.2.2.2.2.2.2.2.2.2.2.2.2.2.2.2.2.2.2.2.2.2.2.2.2.2.2.2.2.2.2.2.2.2.2.2.2.2.2.2.2.2.2.2.2.2.2.2.2.2.2.2.2.1, (x33.2.2.2.2.2.2.2.2.2.2.2.2.2.2.2.2.2.2.2.2.2.2.2.2.2.2.2.2.2.2.2.2.2.2.2.2.2.2.2.2.2.2.2.2.2.2.2.2.2.2.2.2.2.2.2.2.2.1, (x33.2.2.2.2.2.2.2.2.2.2.2.2.2.2.2.2.2.2.2.2.2.2.2.2.2.2.2.2.2.2.2.2.2.2.2.2.2.2.2.2.2.2.2.2.2.2.2.2.2.2.2.2.2.2.2.2.2.2.1, (x33.2.2.2.2.2.2.2.2.2.2.2.2.2.2.2.2.2.2.2.2.2.2.2.2.2.2.2.2.2.2.2.2.2.2.2.2.2.2.2.2.2.2.2.2.2.2.2.2.2.2.2.2.2.2.2.2.2.2.2.1, (x33.2.2.2.2.2.2.2.2.2.2.2.2.2.2.2.2.2.2.2.2.2.2.2.2.2.2.2.2.2.2.2.2.2.2.2.2.2.2.2.2.2.2.2.2.2.2.2.2.2.2.2.2.2.2.2.2.2.2.2.2.1, (x33.2.2.2.2.2.2.2.2.2.2.2.2.2.2.2.2.2.2.2.2.2.2.2.2.2.2.2.2.2.2.2.2.2.2.2.2.2.2.2.2.2.2.2.2.2.2.2.2.2.2.2.2.2.2.2.2.2.2.2.2.2.1, (x33.2.2.2.2.2.2.2.2.2.2.2.2.2.2.2.2.2.2.2.2.2.2.2.2.2.2.2.2.2.2.2.2.2.2.2.2.2.2.2.2.2.2.2.2.2.2.2.2.2.2.2.2.2.2.2.2.2.2.2.2.2.2.1, (x33.2.2.2.2.2.2.2.2.2.2.2.2.2.2.2.2.2.2.2.2.2.2.2.2.2.2.2.2.2.2.2.2.2.2.2.2.2.2.2.2.2.2.2.2.2.2.2.2.2.2.2.2.2.2.2.2.2.2.2.2.2.2.2, ())))))))))))))))))))))))))))))))))))))))))))))))))))))))))))))))), ())))).bind fun x34 =>
 (T.2.1 (List.drop 1 l) ((d.1.1, x34.2), ((), ((), ())))))
 else none)
def Ei : Nat -> Jp
 | 0 => (fun _ _ => none, (fun _ _ => none, ()))
 | k + 1 => (Qd (Ei k), (Om (Ei k), ()))
theorem Yq (k : Nat) : Ei (k + 1) = (Qd (Ei k), (Om (Ei k), ())) := rfl
def Xx (T : Jp) (d : Y6) : Option (T9) :=
 (Ww ((), ())).bind fun x1 =>
 let x2 := (d.2.1.1.length : Int)
 let x3 := (Pg .i64 x2 (64 : Int))
 let x4 := (Tx .i64 x3 64)
 bif decide ((0 : Int) <= (0 : Int)) && decide ((0 : Int) <= x4) && decide (x4 <= (d.2.1.1.length : Int)) then (
 let x5 := (List.drop (Int.toNat (0 : Int)) (List.take (Int.toNat x4) d.2.1.1))
 (Cf ((), ((x5, ()), ((64, ()), ())))).bind fun x6 =>
 (Dd (x6.1.1.1, (x6.1.2.1.1, ()))).bind fun x7 =>
 (T.1 x7 ((((0 : Int), ((0 : Int), ((0 : Int), ((0 : Int), ((0 : Int), ((0 : Int), ((0 : Int), ((0 : Int), ((0 : Int), ((0 : Int), ((0 : Int), ((0 : Int), ((0 : Int), ((0 : Int), ((0 : Int), ((0 : Int), ((0 : Int), ((0 : Int), ((0 : Int), (0, ())))))))))))))))))))), x1.2), (d.2.1, ((), ((), ((x4, ()), ())))))))
 else none
def Yo (d) := lim fun k => Xx (Ei k) d
theorem As4 : Gf Tryz.prog ET0 41 Aa5 Z5 Yo :=
 fnL (E := ((((((((E0.add 30 Aif).add 72 Ao9).add 73 T5).add 74 Asw).add 75 Am9).add 76 Agb).sq 97 Ea).fr [(51, [50])])) (pi := Aa5) (po := Z5) (Amf (A2i (Aa (Aa (Aa (Aa (Aa (Aa Bv (Ae Afr)) (Ae Anx)) (Ae Tl)) (Ae Apk)) (Ae Aj2)) (Ae Adb)) Qb)) (fn := Tryz.f41) Tryz.func41 (by kernel_rfl) (by kernel_rfl) [.cell 2 53] (by kernel_rfl) rfl rfl rfl [] (fun _ => []) (fun k => [(5, ⟨(An1, (.sl (.int .u8))), (Ei k).1⟩), (12, ⟨(Aj9, (.sl (.int .u8))), (Ei k).2.1⟩)])
 trivial (fun k => trivial) (.intro (fun _ _ => rfl) (.intro (fun _ _ => rfl) trivial)) (fun k => (.intro (fun l d => by kernel_rfl) (.intro (fun l d => by kernel_rfl) trivial))) (fun k d => Xx (Ei k) d) (fun k d => by kernel_rfl)
def Axl := Ak Aa5 Z5 Yo
abbrev Hk : PSh := ⟨[.var 91 [.osl 1, vE], .row 5 (.int .u8)], [.mk false [.ref 0 0], kI, kS]⟩
abbrev Eu : PSh := ⟨[.var 91 [.osl 1, vE], .row 5 (.int .u8)], [.mk false [.ref 0 0]]⟩
def Kh (T : Unit) (d : (((Option Int) × Unit) × ((List Int) × Unit)) × (Unit × ((Int × Unit) × ((ByteArray × Unit) × Unit)))) : Option (Y10) :=
 (J5 ((), (d.2.2.1, ((0, ()), ())))).bind fun x1 =>
 let x2 := (!x1.2.2.1.1.isNone)
 bif x2 then (
 bif decide (((d.1.2.1.length + (bytesOf x1.2.1.1).length) * 1 : Nat) <= 140737488355328) && decide (d.1.2.1.length + (bytesOf x1.2.1.1).length <= 9223372036854775807) then (
 let x3 := (d.1.2.1 ++ (bytesOf x1.2.1.1))
 bif decide (((x3.length + (bytesOf d.2.2.2.1.1).length) * 1 : Nat) <= 140737488355328) && decide (x3.length + (bytesOf d.2.2.2.1.1).length <= 9223372036854775807) then (
 let x4 := (x3 ++ (bytesOf d.2.2.2.1.1))
 some ((x1.2.2.1, (x4, ())), ((), ())))
 else none)
 else none)
 else (
 bif decide (((d.1.2.1.length + (bytesOf x1.2.1.1).length) * 1 : Nat) <= 140737488355328) && decide (d.1.2.1.length + (bytesOf x1.2.1.1).length <= 9223372036854775807) then (
 let x5 := (d.1.2.1 ++ (bytesOf x1.2.1.1))
 bif decide (((x5.length + (bytesOf d.2.2.2.1.1).length) * 1 : Nat) <= 140737488355328) && decide (x5.length + (bytesOf d.2.2.2.1.1).length <= 9223372036854775807) then (
 let x6 := (x5 ++ (bytesOf d.2.2.2.1.1))
 some ((d.1.1, (x6, ())), ((), ())))
 else none)
 else none)
def Aq := Kh ()
theorem Hi : Age Tryz.prog ET0 38 Hk Eu 0 [(0, 0, none)] Aq :=
 Ai6 (E := ((E0.add 69 An7).kp [0])) (pi := Hk) (po := Eu) (Hv (Aa Bv (Ae Aki))) (fn := Tryz.f38) Tryz.func38 (by kernel_rfl) (by kernel_rfl) [] [(0, none)] [(0, 0, none)] (by kernel_rfl) rfl rfl rfl rfl rfl [] fun d => by kernel_rfl
def H3 := Tg Hk Eu 0 [(0, 0, none)] Aq
abbrev Hj : PSh := ⟨[.var 91 [.osl 1, vE], .row 5 (.int .u8)], [.mk false [.ref 0 0], .mk true [vI, vI], kS, kS]⟩
abbrev Hn : PSh := Eu
def Kf (T : Unit) (d : (((Option Int) × Unit) × ((List Int) × Unit)) × (Unit × ((Int × (Int × Unit)) × ((ByteArray × Unit) × ((ByteArray × Unit) × Unit))))) : Option (Y10) :=
 (Rd ((), ((3, ()), ((d.2.2.1.1, ()), ())))).bind fun x1 =>
 let x2 := (!x1.2.2.1.1.isNone)
 bif x2 then (
 let x3 := (Tx .i64 x1.2.1.1 86400)
 (Aq ((x1.2.2.1, d.1.2), ((), ((x3, ()), (d.2.2.2.1, ()))))).bind fun x4 =>
 (Aq (x4.1, ((), (d.2.2.1.2, d.2.2.2.2)))).bind fun x5 =>
 some (x5.1, ((), ())))
 else (
 let x6 := (Tx .i64 x1.2.1.1 86400)
 (Aq (d.1, ((), ((x6, ()), (d.2.2.2.1, ()))))).bind fun x7 =>
 (Aq (x7.1, ((), (d.2.2.1.2, d.2.2.2.2)))).bind fun x8 =>
 some (x8.1, ((), ())))
def Cz := Kf ()
theorem Kt : Age Tryz.prog ET0 39 Hj Hn 0 [(0, 0, none)] Cz :=
 Ai6 (E := (((E0.add 38 H3).add 70 Ar7).kp [0])) (pi := Hj) (po := Hn) (Hv (Aa (Aa Bv (Ld Hi)) (Ae Aq1))) (fn := Tryz.f39) Tryz.func39 (by kernel_rfl) (by kernel_rfl) [] [(0, none)] [(0, 0, none)] (by kernel_rfl) rfl rfl rfl rfl rfl [] fun d => by kernel_rfl
def Lr := Tg Hj Hn 0 [(0, 0, none)] Cz
abbrev L7 : PSh := Ch
abbrev My : PSh := ⟨[], [.mk true [v8, v8, v8, v8, v8, v8, v8, v8, v8, v8, v8, v8, v8, v8, v8, v8, v8, v8, v8, v8], kE]⟩
abbrev Oa : Type := Unit × ((Int × (Int × (Int × (Int × (Int × (Int × (Int × (Int × (Int × (Int × (Int × (Int × (Int × (Int × (Int × (Int × (Int × (Int × (Int × (Int × Unit)))))))))))))))))))) × (((Option Int) × Unit) × Unit))
abbrev Lk : Type := ((Int × (Int × (Int × (Int × (Int × (Int × (Int × (Int × (Int × (Int × (Int × (Int × (Int × (Int × (Int × (Int × (Int × (Int × (Int × (Int × Unit)))))))))))))))))))) × (((Option Int) × Unit) × ((List Int) × ((List (Int × Int)) × Unit)))) × (Unit × (Unit × (Unit × ((Int × Unit) × ((Int × Unit) × Unit)))))
abbrev Jd : Type := (((Lk) -> Option (Oa)) × Unit)
abbrev Zl : PSh := ⟨[.var 53 [v8, v8, v8, v8, v8, v8, v8, v8, v8, v8, v8, v8, v8, v8, v8, v8, v8, v8, v8, v8], .var 91 [.osl 2, vE], .row 5 (.int .u8), .row 70 (.pair (.int .i64) (.int .i64))], [.any, .any, .mk false [.ref 0 0], .any, .mk false [.ref 1 0], .any, .any, .any, .any, .any, .any, .any, .any, .any, .any, .any, .any, .any, .mk false [.osl 3], kI, kI] ++ Ab1 15⟩
def Hw (T : Jd) (d : Lk) : Option (Oa) :=
 let x8 := (decide (d.2.2.2.2.2.1.1 < d.2.2.2.2.1.1))
 bif x8 then (
 bif decide ((0 : Int) <= d.2.2.2.2.2.1.1) && decide (d.2.2.2.2.2.1.1 < (d.1.2.2.2.1.length : Int)) then (
 let x9 := (Af d.1.2.2.2.1 d.2.2.2.2.2.1.1)
 (Cz ((d.1.2.1, (d.1.2.2.1, ())), ((), ((x9.1, (x9.2, ())), (((⟨#[]⟩ : ByteArray), ()), (((⟨#[]⟩ : ByteArray), ()), ())))))).bind fun x10 =>
 let x11 := (Cr .i64 d.2.2.2.2.2.1.1 1)
 (T.1 ((d.1.1, (x10.1.1, (x10.1.2.1, d.1.2.2.2))), ((), ((), ((), (d.2.2.2.2.1, ((x11, ()), ()))))))))
 else none)
 else (
 let x12 := (!d.1.2.1.1.isNone)
 bif x12 then (
 some ((), (((0 : Int), ((0 : Int), ((0 : Int), ((0 : Int), ((0 : Int), ((0 : Int), ((0 : Int), ((0 : Int), ((0 : Int), ((0 : Int), ((0 : Int), ((0 : Int), ((0 : Int), ((0 : Int), ((0 : Int), ((0 : Int), ((0 : Int), ((0 : Int), ((0 : Int), (0, ())))))))))))))))))))), (d.1.2.1, ()))))
 else (
 (Yo ((), ((d.1.2.2.1, ()), ()))).bind fun x13 =>
 some ((), (x13.2.1, (((none : Option Int), ()), ())))))
def Dy : Nat -> Jd
 | 0 => (fun _ => none, ())
 | k + 1 => (Hw (Dy k), ())
theorem Um (k : Nat) : Dy (k + 1) = (Hw (Dy k), ()) := rfl
def Lm (T : Jd) (d : Y2) : Option (Oa) :=
 bif d.2.1.1.isNone then (
 let x1 := (some (8 : Int))
 some ((), (((0 : Int), ((0 : Int), ((0 : Int), ((0 : Int), ((0 : Int), ((0 : Int), ((0 : Int), ((0 : Int), ((0 : Int), ((0 : Int), ((0 : Int), ((0 : Int), ((0 : Int), ((0 : Int), ((0 : Int), ((0 : Int), ((0 : Int), ((0 : Int), ((0 : Int), (0, ())))))))))))))))))))), ((x1, ()), ()))))
 else (
 (Dh ((), d.2)).bind fun x2 =>
 (Aq ((((none : Option Int), ()), (([] : List Int), ())), ((), (x2.2.1, (((⟨#[]⟩ : ByteArray), ()), ()))))).bind fun x3 =>
 (Dg ((), d.2)).bind fun x4 =>
 (Aq (x3.1, ((), (x4.2.1, (((⟨#[]⟩ : ByteArray), ()), ()))))).bind fun x5 =>
 (Es ((), d.2)).bind fun x6 =>
 let x7 := (x6.1.1.length : Int)
 (T.1 ((((0 : Int), ((0 : Int), ((0 : Int), ((0 : Int), ((0 : Int), ((0 : Int), ((0 : Int), ((0 : Int), ((0 : Int), ((0 : Int), ((0 : Int), ((0 : Int), ((0 : Int), ((0 : Int), ((0 : Int), ((0 : Int), ((0 : Int), ((0 : Int), ((0 : Int), (0, ())))))))))))))))))))), (x5.1.1, (x5.1.2.1, x6.1))), ((), ((), ((), ((x7, ()), ((0, ()), ()))))))))
def Fv (d) := lim fun k => Lm (Dy k) d
theorem Su : Gf Tryz.prog ET0 18 L7 My Fv :=
 fnL (E := ((((((E0.add 34 Tt).add 35 P9).add 36 P8).add 38 H3).add 39 Lr).add 41 Axl)) (pi := L7) (po := My) (Aa (Aa (Aa (Aa (Aa (Aa Bv (Ae Sf)) (Ae O6)) (Ae Pe)) (Ld Hi)) (Ld Kt)) (Ae As4)) (fn := Tryz.f18) Tryz.func18 (by kernel_rfl) (by kernel_rfl) [.cell 2 53, .tmp 3] (by kernel_rfl) rfl rfl rfl [] (fun k => [(9, ⟨Zl, (Dy k).1⟩)]) (fun _ => [])
 (.intro (fun _ => rfl) trivial) (fun k => (.intro (fun d => by kernel_rfl) trivial)) trivial (fun k => trivial) (fun k d => Lm (Dy k) d) (fun k d => by kernel_rfl)
def T4 := Ak L7 My Fv
abbrev Z6 : PSh := ⟨[], [kI]⟩
abbrev Aba : PSh := ⟨[], [kI, kI, kI, kE]⟩
def Xe (T : Unit) (d : Unit × ((Int × Unit) × Unit)) : Option (Unit × ((Int × Unit) × ((Int × Unit) × ((Int × Unit) × (((Option Int) × Unit) × Unit))))) :=
 (Ln ((), ())).bind fun x1 =>
 let x2 := (decide (d.2.1.1 < x1.2.1.1))
 bif x2 then (
 let x3 := (some (13 : Int))
 some ((), ((0, ()), ((0, ()), ((0, ()), ((x3, ()), ()))))))
 else (
 (Nz ((), ())).bind fun x4 =>
 let x5 := (decide (d.2.1.1 > x4.2.1.1))
 bif x5 then (
 let x6 := (some (13 : Int))
 some ((), ((0, ()), ((0, ()), ((0, ()), ((x6, ()), ()))))))
 else (
 let x7 := (Cr .i64 d.2.1.1 719468)
 (Li ((), ((x7, ()), ((146097, ()), ())))).bind fun x8 =>
 let x9 := (Cr .i64 d.2.1.1 719468)
 let x10 := (Tx .i64 x8.2.1.1 146097)
 let x11 := (Nj .i64 x9 x10)
 let x12 := (Pg .i64 x11 (1460 : Int))
 let x13 := (Nj .i64 x11 x12)
 let x14 := (Pg .i64 x11 (36524 : Int))
 let x15 := (Cr .i64 x13 x14)
 let x16 := (Pg .i64 x11 (146096 : Int))
 let x17 := (Nj .i64 x15 x16)
 let x18 := (Pg .i64 x17 (365 : Int))
 let x19 := (Tx .i64 (365 : Int) x18)
 let x20 := (Pg .i64 x18 (4 : Int))
 let x21 := (Cr .i64 x19 x20)
 let x22 := (Pg .i64 x18 (100 : Int))
 let x23 := (Nj .i64 x21 x22)
 let x24 := (Nj .i64 x11 x23)
 let x25 := (Tx .i64 (5 : Int) x24)
 let x26 := (Cr .i64 x25 2)
 let x27 := (Pg .i64 x26 (153 : Int))
 let x28 := (Tx .i64 (153 : Int) x27)
 let x29 := (Cr .i64 x28 2)
 let x30 := (Pg .i64 x29 (5 : Int))
 let x31 := (Nj .i64 x24 x30)
 let x32 := (Cr .i64 x31 1)
 let x33 := (Tx .i64 x8.2.1.1 400)
 let x34 := (Cr .i64 x18 x33)
 let x35 := (Cr .i64 x27 3)
 let x36 := (decide (x35 > (12 : Int)))
 bif x36 then (
 let x37 := (Nj .i64 x35 12)
 let x38 := (Cr .i64 x34 1)
 some ((), ((x38, ()), ((x37, ()), ((x32, ()), (((none : Option Int), ()), ()))))))
 else (
 some ((), ((x34, ()), ((x35, ()), ((x32, ()), (((none : Option Int), ()), ()))))))))
def Lw := Xe ()
theorem Ahs : Gf Tryz.prog ET0 81 Z6 Aba Lw :=
 fn0 (E := (((E0.add 105 Aay).add 106 Adt).add 107 Aio)) (pi := Z6) (po := Aba) (Aa (Aa (Aa Bv (Ae W8)) (Ae Aat)) (Ae Afm)) (fn := Tryz.f81) Tryz.func81 (by kernel_rfl) (by kernel_rfl) [.tmp 2, .tmp 3, .tmp 4, .tmp 5] (by kernel_rfl) rfl rfl rfl [] fun d => by kernel_rfl
def Alm := Ak Z6 Aba Lw
abbrev Og : PSh := ⟨[], [.mk true [vI, vI]]⟩
abbrev Np : PSh := ⟨[], [kB]⟩
def Sl (T : Unit) (d : Y11) : Option (Unit × ((Bool × Unit) × Unit)) :=
 (Lw ((), ((d.2.1.1, ()), ()))).bind fun x1 =>
 bif x1.2.2.2.2.1.1.isNone then (
 let x2 := (decide (x1.2.1.1 >= (1900 : Int)))
 some ((), ((x2, ()), ())))
 else (
 some ((), ((false, ()), ())))
def Is := Sl ()
theorem Aej : Gf Tryz.prog ET0 51 Og Np Is :=
 fn0 (E := (E0.add 81 Alm)) (pi := Og) (po := Np) (Aa Bv (Ae Ahs)) (fn := Tryz.f51) Tryz.func51 (by kernel_rfl) (by kernel_rfl) [.tmp 2] (by kernel_rfl) rfl rfl rfl [] fun d => by kernel_rfl
def Afy := Ak Og Np Is
abbrev U8 : PSh := ⟨[], [.mk true [vI, vI]]⟩
abbrev V0 : PSh := ⟨[], [kB]⟩
def S2 (T : Unit) (d : Y11) : Option (Unit × ((Bool × Unit) × Unit)) :=
 (Is ((), d.2)).bind fun x1 =>
 let x2 := (!x1.2.1.1)
 some ((), ((x2, ()), ()))
def Ou := S2 ()
theorem Amy : Gf Tryz.prog ET0 50 U8 V0 Ou :=
 fn0 (E := (E0.add 51 Afy)) (pi := U8) (po := V0) (Aa Bv (Ae Aej)) (fn := Tryz.f50) Tryz.func50 (by kernel_rfl) (by kernel_rfl) [.tmp 2] (by kernel_rfl) rfl rfl rfl [] fun d => by kernel_rfl
def Ap3 := Ak U8 V0 Ou
abbrev R0 : PSh := ⟨[], [.mk true [vI, vI]]⟩
abbrev Qt : PSh := ⟨[], [kB]⟩
def Wa (T : Unit) (d : Y11) : Option (Unit × ((Bool × Unit) × Unit)) :=
 (Lw ((), ((d.2.1.1, ()), ()))).bind fun x1 =>
 bif x1.2.2.2.2.1.1.isNone then (
 let x2 := (x1.2.2.2.1.1 == (1 : Int))
 bif x2 then (
 let x3 := (decide (d.2.1.2.1 >= (0 : Int)))
 bif x3 then (
 let x4 := (decide (d.2.1.2.1 <= (1000 : Int)))
 some ((), ((x4, ()), ())))
 else (
 some ((), ((false, ()), ()))))
 else (
 some ((), ((false, ()), ()))))
 else (
 some ((), ((false, ()), ())))
def Ky := Wa ()
theorem Aji : Gf Tryz.prog ET0 53 R0 Qt Ky :=
 fn0 (E := (E0.add 81 Alm)) (pi := R0) (po := Qt) (Aa Bv (Ae Ahs)) (fn := Tryz.f53) Tryz.func53 (by kernel_rfl) (by kernel_rfl) [.tmp 2] (by kernel_rfl) rfl rfl rfl [] fun d => by kernel_rfl
def Ajx := Ak R0 Qt Ky
abbrev Vr : PSh := ⟨[], [.mk true [vI, vI]]⟩
abbrev Vm : PSh := ⟨[], [kB]⟩
def Sz (T : Unit) (d : Y11) : Option (Unit × ((Bool × Unit) × Unit)) :=
 (Ky ((), d.2)).bind fun x1 =>
 let x2 := (!x1.2.1.1)
 some ((), ((x2, ()), ()))
def O3 := Sz ()
theorem Am1 : Gf Tryz.prog ET0 52 Vr Vm O3 :=
 fn0 (E := (E0.add 53 Ajx)) (pi := Vr) (po := Vm) (Aa Bv (Ae Aji)) (fn := Tryz.f52) Tryz.func52 (by kernel_rfl) (by kernel_rfl) [.tmp 2] (by kernel_rfl) rfl rfl rfl [] fun d => by kernel_rfl
def Aon := Ak Vr Vm O3
abbrev Xb : PSh := ⟨[], [kI]⟩
abbrev X5 : PSh := ⟨[], [kB]⟩
def Acs (T : Unit) (d : Unit × ((Int × Unit) × Unit)) : Option (Unit × ((Bool × Unit) × Unit)) :=
 let x1 := (decide (d.2.1.1 >= (0 : Int)))
 bif x1 then (
 let x2 := (decide (d.2.1.1 <= (1099511627776 : Int)))
 some ((), ((x2, ()), ())))
 else (
 some ((), ((false, ()), ())))
def N0 := Acs ()
theorem Aq6 : Gf Tryz.prog ET0 55 Xb X5 N0 :=
 fn0 (E := E0) (pi := Xb) (po := X5) Bv (fn := Tryz.f55) Tryz.func55 (by kernel_rfl) (by kernel_rfl) [.tmp 2] (by kernel_rfl) rfl rfl rfl [] fun d => by kernel_rfl
def Art := Ak Xb X5 N0
abbrev La : PSh := ⟨[], [.mk true [vI, vI], .mk true [vI, vI]]⟩
abbrev Lq : PSh := ⟨[], [kB]⟩
def P1 (T : Unit) (d : Unit × ((Int × (Int × Unit)) × ((Int × (Int × Unit)) × Unit))) : Option (Unit × ((Bool × Unit) × Unit)) :=
 let x1 := (Nj .i64 d.2.1.2.1 d.2.2.1.2.1)
 let x2 := (decide (d.2.1.1 > d.2.2.1.1))
 bif x2 then (
 let x3 := (x1 == (1 : Int))
 bif x3 then (
 some ((), ((true, ()), ())))
 else (
 let x4 := (x1 == (-1 : Int))
 some ((), ((x4, ()), ()))))
 else (
 some ((), ((false, ()), ())))
def G8 := P1 ()
theorem Z7 : Gf Tryz.prog ET0 83 La Lq G8 :=
 fn0 (E := E0) (pi := La) (po := Lq) Bv (fn := Tryz.f83) Tryz.func83 (by kernel_rfl) (by kernel_rfl) [.tmp 4] (by kernel_rfl) rfl rfl rfl [] fun d => by kernel_rfl
def Abi := Ak La Lq G8
abbrev Wp : PSh := B7
abbrev X8 : PSh := ⟨[], [kB]⟩
abbrev Abz : Type := Unit × (((List (Int × Int)) × Unit) × ((Int × Unit) × Unit))
abbrev X6 : Type := (((Abz) -> Option (Unit × ((Bool × Unit) × Unit))) × Unit)
abbrev Aj8 : PSh := ⟨[], [.mk false [.v (.sl (.pair (.int .i64) (.int .i64)))], .any, .any, kI] ++ Ab1 17⟩
def Kw (T : X6) (d : Abz) : Option (Unit × ((Bool × Unit) × Unit)) :=
 let x1 := (d.2.1.1.length : Int)
 let x2 := (decide (d.2.2.1.1 < x1))
 bif x2 then (
 bif decide ((0 : Int) <= d.2.2.1.1) && decide (d.2.2.1.1 < (d.2.1.1.length : Int)) then (
 let x3 := (Nj .i64 d.2.2.1.1 1)
 bif decide ((0 : Int) <= x3) && decide (x3 < (d.2.1.1.length : Int)) then (
 (G8 ((), (((Af d.2.1.1 d.2.2.1.1).1, ((Af d.2.1.1 d.2.2.1.1).2, ())), (((Af d.2.1.1 x3).1, ((Af d.2.1.1 x3).2, ())), ())))).bind fun x4 =>
 let x5 := (!x4.2.1.1)
 bif x5 then (
 some ((), ((false, ()), ())))
 else (
 let x6 := (Cr .i64 d.2.2.1.1 1)
 (T.1 ((), (d.2.1, ((x6, ()), ()))))))
 else none)
 else none)
 else (
 some ((), ((true, ()), ())))
def Ir : Nat -> X6
 | 0 => (fun _ => none, ())
 | k + 1 => (Kw (Ir k), ())
theorem Aa6 (k : Nat) : Ir (k + 1) = (Kw (Ir k), ()) := rfl
def V3 (T : X6) (d : Y0) : Option (Unit × ((Bool × Unit) × Unit)) :=
 (T.1 ((), (d.2.1, ((1, ()), ()))))
def Q0 (d) := lim fun k => V3 (Ir k) d
theorem Ap0 : Gf Tryz.prog ET0 56 Wp X8 Q0 :=
 fnL (E := (E0.add 83 Abi)) (pi := Wp) (po := X8) (Aa Bv (Ae Z7)) (fn := Tryz.f56) Tryz.func56 (by kernel_rfl) (by kernel_rfl) [.tmp 2] (by kernel_rfl) rfl rfl rfl [] (fun k => [(3, ⟨Aj8, (Ir k).1⟩)]) (fun _ => [])
 (.intro (fun _ => rfl) trivial) (fun k => (.intro (fun d => by kernel_rfl) trivial)) trivial (fun k => trivial) (fun k d => V3 (Ir k) d) (fun k d => by kernel_rfl)
def Ari := Ak Wp X8 Q0
abbrev Bb : PSh := ⟨[], [.mk false [.v (.sl (.pair (.int .i64) (.int .i64)))], .mk false [.fn 50 []]]⟩
abbrev B2 : PSh := ⟨[], [kI]⟩
abbrev By : Type := Unit × (((List (Int × Int)) × Unit) × (Unit × ((Int × Unit) × ((Int × Unit) × Unit))))
abbrev B5 : Type := (((By) -> Option (Unit × ((Int × Unit) × Unit))) × Unit)
abbrev Gg : PSh := ⟨[], [.mk false [.v (.sl (.pair (.int .i64) (.int .i64)))], .mk false [.fn 50 []], .any, .any, .any, .any, .any, kI, kI] ++ Ab1 10⟩
def Ax (T : B5) (d : By) : Option (Unit × ((Int × Unit) × Unit)) :=
 let x2 := (decide (d.2.2.2.2.1.1 < d.2.2.2.1.1))
 bif x2 then (
 bif decide ((0 : Int) <= d.2.2.2.2.1.1) && decide (d.2.2.2.2.1.1 < (d.2.1.1.length : Int)) then (
 (Ou ((), (((Af d.2.1.1 d.2.2.2.2.1.1).1, ((Af d.2.1.1 d.2.2.2.2.1.1).2, ())), ()))).bind fun x3 =>
 bif x3.2.1.1 then (
 some ((), d.2.2.2.2))
 else (
 let x4 := (Cr .i64 d.2.2.2.2.1.1 1)
 (T.1 ((), (d.2.1, ((), (d.2.2.2.1, ((x4, ()), ()))))))))
 else none)
 else (
 some ((), (((-1 : Int), ()), ())))
def Am : Nat -> B5
 | 0 => (fun _ => none, ())
 | k + 1 => (Ax (Am k), ())
theorem Ca (k : Nat) : Am (k + 1) = (Ax (Am k), ()) := rfl
def Bz (T : B5) (d : Y12) : Option (Unit × ((Int × Unit) × Unit)) :=
 let x1 := (d.2.1.1.length : Int)
 (T.1 ((), (d.2.1, ((), ((x1, ()), ((0, ()), ()))))))
def Bf (d) := lim fun k => Bz (Am k) d
theorem G9 : Gf Tryz.prog ET0 82 Bb B2 Bf :=
 fnL (E := (E0.add 50 Ap3)) (pi := Bb) (po := B2) (Aa Bv (Ae Amy)) (fn := Tryz.f82) Tryz.func82 (by kernel_rfl) (by kernel_rfl) [.tmp 4] (by kernel_rfl) rfl rfl rfl [] (fun k => [(3, ⟨Gg, (Am k).1⟩)]) (fun _ => [])
 (.intro (fun _ => rfl) trivial) (fun k => (.intro (fun d => by kernel_rfl) trivial)) trivial (fun k => trivial) (fun k d => Bz (Am k) d) (fun k d => by kernel_rfl)
def Hh := Ak Bb B2 Bf
abbrev A6 : PSh := Bb
abbrev Bs : PSh := ⟨[], [kB]⟩
def Cy (T : Unit) (d : Y12) : Option (Unit × ((Bool × Unit) × Unit)) :=
 (Bf ((), (d.2.1, ((), ())))).bind fun x1 =>
 let x2 := (decide (x1.2.1.1 >= (0 : Int)))
 some ((), ((x2, ()), ()))
def Aw := Cy ()
theorem F4 : Gf Tryz.prog ET0 54 A6 Bs Aw :=
 fn0 (E := (E0.add 82 Hh)) (pi := A6) (po := Bs) (Aa Bv (Ae G9)) (fn := Tryz.f54) Tryz.func54 (by kernel_rfl) (by kernel_rfl) [.tmp 4] (by kernel_rfl) rfl rfl rfl [] fun d => by kernel_rfl
def Gd := Ak A6 Bs Aw
abbrev Ba : PSh := ⟨[], [.mk false [.v (.sl (.pair (.int .i64) (.int .i64)))], .mk false [.fn 52 []]]⟩
abbrev B4 : PSh := ⟨[], [kI]⟩
abbrev Df : Type := By
abbrev B8 : Type := (((Df) -> Option (Unit × ((Int × Unit) × Unit))) × Unit)
abbrev Ge : PSh := ⟨[], [.mk false [.v (.sl (.pair (.int .i64) (.int .i64)))], .mk false [.fn 52 []], .any, .any, .any, .any, .any, kI, kI] ++ Ab1 10⟩
def Az (T : B8) (d : Df) : Option (Unit × ((Int × Unit) × Unit)) :=
 let x2 := (decide (d.2.2.2.2.1.1 < d.2.2.2.1.1))
 bif x2 then (
 bif decide ((0 : Int) <= d.2.2.2.2.1.1) && decide (d.2.2.2.2.1.1 < (d.2.1.1.length : Int)) then (
 (O3 ((), (((Af d.2.1.1 d.2.2.2.2.1.1).1, ((Af d.2.1.1 d.2.2.2.2.1.1).2, ())), ()))).bind fun x3 =>
 bif x3.2.1.1 then (
 some ((), d.2.2.2.2))
 else (
 let x4 := (Cr .i64 d.2.2.2.2.1.1 1)
 (T.1 ((), (d.2.1, ((), (d.2.2.2.1, ((x4, ()), ()))))))))
 else none)
 else (
 some ((), (((-1 : Int), ()), ())))
def An : Nat -> B8
 | 0 => (fun _ => none, ())
 | k + 1 => (Az (An k), ())
theorem B9 (k : Nat) : An (k + 1) = (Az (An k), ()) := rfl
def Bw (T : B8) (d : Y12) : Option (Unit × ((Int × Unit) × Unit)) :=
 let x1 := (d.2.1.1.length : Int)
 (T.1 ((), (d.2.1, ((), ((x1, ()), ((0, ()), ()))))))
def Bg (d) := lim fun k => Bw (An k) d
theorem G5 : Gf Tryz.prog ET0 82 Ba B4 Bg :=
 fnL (E := (E0.add 52 Aon)) (pi := Ba) (po := B4) (Aa Bv (Ae Am1)) (fn := Tryz.f82) Tryz.func82 (by kernel_rfl) (by kernel_rfl) [.tmp 4] (by kernel_rfl) rfl rfl rfl [] (fun k => [(3, ⟨Ge, (An k).1⟩)]) (fun _ => [])
 (.intro (fun _ => rfl) trivial) (fun k => (.intro (fun d => by kernel_rfl) trivial)) trivial (fun k => trivial) (fun k d => Bw (An k) d) (fun k d => by kernel_rfl)
def Hm := Ak Ba B4 Bg
abbrev Bq : PSh := Ba
abbrev Br : PSh := ⟨[], [kB]⟩
def C4 (T : Unit) (d : Y12) : Option (Unit × ((Bool × Unit) × Unit)) :=
 (Bg ((), (d.2.1, ((), ())))).bind fun x1 =>
 let x2 := (decide (x1.2.1.1 >= (0 : Int)))
 some ((), ((x2, ()), ()))
def Ay := C4 ()
theorem F3 : Gf Tryz.prog ET0 54 Bq Br Ay :=
 fn0 (E := (E0.add 82 Hm)) (pi := Bq) (po := Br) (Aa Bv (Ae G5)) (fn := Tryz.f54) Tryz.func54 (by kernel_rfl) (by kernel_rfl) [.tmp 4] (by kernel_rfl) rfl rfl rfl [] fun d => by kernel_rfl
def Gc := Ak Bq Br Ay
abbrev Aau : PSh := ⟨[], [.mk false [.v (.sl (.pair (.int .i64) (.int .i64)))], kI, kI]⟩
abbrev Vl : PSh := ⟨[], [.mk false [.v (.nptr (.pair (.sl (.pair (.int .i64) (.int .i64))) (.pair (.int .i64) (.int .i64))))], kE]⟩
def Ae3 (T : Unit) (d : Unit × (((List (Int × Int)) × Unit) × ((Int × Unit) × ((Int × Unit) × Unit)))) : Option (Y13) :=
 let x1 := (d.2.1.1.length : Int)
 let x2 := (x1 == (0 : Int))
 bif x2 then (
 let x3 := (some (8 : Int))
 some ((), (((none : Option ((List (Int × Int)) × (Int × Int))), ()), ((x3, ()), ()))))
 else (
 let x4 := (d.2.1.1.length : Int)
 let x5 := (decide (x4 > (256 : Int)))
 bif x5 then (
 let x6 := (some (3 : Int))
 some ((), (((none : Option ((List (Int × Int)) × (Int × Int))), ()), ((x6, ()), ()))))
 else (
 (Aw ((), (d.2.1, ((), ())))).bind fun x7 =>
 bif x7.2.1.1 then (
 let x8 := (some (13 : Int))
 some ((), (((none : Option ((List (Int × Int)) × (Int × Int))), ()), ((x8, ()), ()))))
 else (
 (Ay ((), (d.2.1, ((), ())))).bind fun x9 =>
 bif x9.2.1.1 then (
 let x10 := (some (1 : Int))
 some ((), (((none : Option ((List (Int × Int)) × (Int × Int))), ()), ((x10, ()), ()))))
 else (
 (N0 ((), (d.2.2.1, ()))).bind fun x11 =>
 let x12 := (!x11.2.1.1)
 bif x12 then (
 let x13 := (some (1 : Int))
 some ((), (((none : Option ((List (Int × Int)) × (Int × Int))), ()), ((x13, ()), ()))))
 else (
 (N0 ((), d.2.2.2)).bind fun x14 =>
 let x15 := (!x14.2.1.1)
 bif x15 then (
 let x16 := (some (1 : Int))
 some ((), (((none : Option ((List (Int × Int)) × (Int × Int))), ()), ((x16, ()), ()))))
 else (
 (Q0 ((), (d.2.1, ()))).bind fun x17 =>
 let x18 := (!x17.2.1.1)
 bif x18 then (
 let x19 := (some (6 : Int))
 some ((), (((none : Option ((List (Int × Int)) × (Int × Int))), ()), ((x19, ()), ()))))
 else (
 (Bm ((), (d.2.1, ()))).bind fun x20 =>
 some ((), (((some (x20.1.1, (d.2.2.1.1, d.2.2.2.1.1))), ()), (((none : Option Int), ()), ()))))))))))
def Nq := Ae3 ()
theorem Ahu : Gf Tryz.prog ET0 26 Aau Vl Nq :=
 fn0 (E := ((((E0.add 54 (A4f A6 (Gd) (Gc))).add 55 Art).add 56 Ari).add 57 Hs)) (pi := Aau) (po := Vl) (Aa (Aa (Aa (Aa Bv (A78 ((Ae F4)) ((Ae F3)))) (Ae Aq6)) (Ae Ap0)) (Ae G4)) (fn := Tryz.f26) Tryz.func26 (by kernel_rfl) (by kernel_rfl) [.tmp 6, .tmp 7] (by kernel_rfl) rfl rfl rfl [] fun d => by kernel_rfl
def Alf := Ak Aau Vl Nq
abbrev Ee : PSh := ⟨[], [kS, kS]⟩
abbrev Ef : PSh := ⟨[], [kB]⟩
def Gl (T : Unit) (d : Y14) : Option (Unit × ((Bool × Unit) × Unit)) :=
 let x1 := (d.2.1.1.size : Int)
 let x2 := (d.2.2.1.1.size : Int)
 let x3 := (decide (x1 >= x2))
 bif x3 then (
 let x4 := (d.2.1.1.size : Int)
 let x5 := (d.2.2.1.1.size : Int)
 let x6 := (Nj .i64 x4 x5)
 bif decide ((0 : Int) <= x6) && decide (x6 <= (d.2.1.1.size : Int)) && decide ((d.2.1.1.size : Int) <= (d.2.1.1.size : Int)) then (
 let x7 := (d.2.1.1.extract (Int.toNat x6) (Int.toNat (d.2.1.1.size : Int)))
 let x8 := (x7.toList == d.2.2.1.1.toList)
 some ((), ((x8, ()), ())))
 else none)
 else (
 some ((), ((false, ()), ())))
def Cc := Gl ()
theorem L9 : Gf Tryz.prog ET0 111 Ee Ef Cc :=
 fn0 (E := E0) (pi := Ee) (po := Ef) Bv (fn := Tryz.f111) Tryz.func111 (by kernel_rfl) (by kernel_rfl) [.tmp 4] (by kernel_rfl) rfl rfl rfl [] fun d => by kernel_rfl
def Nh := Ak Ee Ef Cc
abbrev D6 : PSh := ⟨[], [kS, kS]⟩
abbrev D5 : PSh := ⟨[], [kS]⟩
def Ga (T : Unit) (d : Y14) : Option (Y15) :=
 (Cc ((), d.2)).bind fun x1 =>
 bif x1.2.1.1 then (
 let x2 := (d.2.1.1.size : Int)
 let x3 := (d.2.2.1.1.size : Int)
 let x4 := (Nj .i64 x2 x3)
 bif decide ((0 : Int) <= (0 : Int)) && decide ((0 : Int) <= x4) && decide (x4 <= (d.2.1.1.size : Int)) then (
 let x5 := (d.2.1.1.extract (Int.toNat (0 : Int)) (Int.toNat x4))
 some ((), ((x5, ()), ())))
 else none)
 else (
 some ((), (d.2.1, ())))
def Cw := Ga ()
theorem Lz : Gf Tryz.prog ET0 85 D6 D5 Cw :=
 fn0 (E := (E0.add 111 Nh)) (pi := D6) (po := D5) (Aa Bv (Ae L9)) (fn := Tryz.f85) Tryz.func85 (by kernel_rfl) (by kernel_rfl) [.tmp 4] (by kernel_rfl) rfl rfl rfl [] fun d => by kernel_rfl
def M2 := Ak D6 D5 Cw
abbrev Jt : PSh := ⟨[], [kS, kS]⟩
abbrev Jk : PSh := ⟨[], [kS]⟩
def Nm (T : Unit) (d : Y14) : Option (Y15) :=
 (Cw ((), d.2)).bind fun x1 =>
 some ((), x1.2)
def Fj := Nm ()
theorem X9 : Gf Tryz.prog ET0 60 Jt Jk Fj :=
 fn0 (E := (E0.add 85 M2)) (pi := Jt) (po := Jk) (Aa Bv (Ae Lz)) (fn := Tryz.f60) Tryz.func60 (by kernel_rfl) (by kernel_rfl) [.tmp 4] (by kernel_rfl) rfl rfl rfl [] fun d => by kernel_rfl
def Zh := Ak Jt Jk Fj
abbrev Eg : PSh := ⟨[], [kS, kS]⟩
abbrev D8 : PSh := ⟨[], [kB]⟩
def Gm (T : Unit) (d : Y14) : Option (Unit × ((Bool × Unit) × Unit)) :=
 let x1 := (d.2.1.1.size : Int)
 let x2 := (d.2.2.1.1.size : Int)
 let x3 := (decide (x1 >= x2))
 bif x3 then (
 let x4 := (d.2.2.1.1.size : Int)
 bif decide ((0 : Int) <= (0 : Int)) && decide ((0 : Int) <= x4) && decide (x4 <= (d.2.1.1.size : Int)) then (
 let x5 := (d.2.1.1.extract (Int.toNat (0 : Int)) (Int.toNat x4))
 let x6 := (x5.toList == d.2.2.1.1.toList)
 some ((), ((x6, ()), ())))
 else none)
 else (
 some ((), ((false, ()), ())))
def Cd := Gm ()
theorem Mr : Gf Tryz.prog ET0 119 Eg D8 Cd :=
 fn0 (E := E0) (pi := Eg) (po := D8) Bv (fn := Tryz.f119) Tryz.func119 (by kernel_rfl) (by kernel_rfl) [.tmp 4] (by kernel_rfl) rfl rfl rfl [] fun d => by kernel_rfl
def Ni := Ak Eg D8 Cd
abbrev Kn : PSh := ⟨[], [kS, kS]⟩
abbrev Kp : PSh := ⟨[], [kB]⟩
def Pa (T : Unit) (d : Y14) : Option (Unit × ((Bool × Unit) × Unit)) :=
 (Cd ((), d.2)).bind fun x1 =>
 some ((), x1.2)
def Dx := Pa ()
theorem Zi : Gf Tryz.prog ET0 87 Kn Kp Dx :=
 fn0 (E := (E0.add 119 Ni)) (pi := Kn) (po := Kp) (Aa Bv (Ae Mr)) (fn := Tryz.f87) Tryz.func87 (by kernel_rfl) (by kernel_rfl) [.tmp 4] (by kernel_rfl) rfl rfl rfl [] fun d => by kernel_rfl
def Aa9 := Ak Kn Kp Dx
abbrev M5 : PSh := ⟨[], [kS]⟩
abbrev Cx : PSh := ⟨[.var 194 [vS, vI, vE]], [.mk false [.ref 0 0]]⟩
def Rh (T : Unit) (d : Y15) : Option (Y16) :=
 some (((d.2.1.1, ((0 : Int), ((none : Option Int), ()))), ()), ((), ()))
def Db := Rh ()
theorem M8 : Gf Tryz.prog ET0 120 M5 Cx Db :=
 fn0 (E := E0) (pi := M5) (po := Cx) Bv (fn := Tryz.f120) Tryz.func120 (by kernel_rfl) (by kernel_rfl) [.tmp 2] (by kernel_rfl) rfl rfl rfl [] fun d => by kernel_rfl
def Nx := Ak M5 Cx Db
abbrev Bh : PSh := ⟨[], [.mk false [.v (.nptr (.pair .str (.pair (.int .i64) .err)))]]⟩
abbrev F8 : PSh := ⟨[], [kS]⟩
def Fq (T : Unit) (d : Y17) : Option (Y15) :=
 bif d.2.1.1.isNone then (
 some ((), (((⟨#[]⟩ : ByteArray), ()), ())))
 else (
 d.2.1.1.bind fun x1 =>
 let x2 := (!x1.2.2.isNone)
 bif x2 then (
 some ((), (((⟨#[]⟩ : ByteArray), ()), ())))
 else (
 d.2.1.1.bind fun x3 =>
 d.2.1.1.bind fun x4 =>
 bif decide ((0 : Int) <= x4.2.1) && decide (x4.2.1 <= (x3.1.size : Int)) && decide ((x3.1.size : Int) <= (x3.1.size : Int)) then (
 let x5 := (x3.1.extract (Int.toNat x4.2.1) (Int.toNat (x3.1.size : Int)))
 some ((), ((x5, ()), ())))
 else none))
def A3 := Fq ()
theorem C7 : Gf Tryz.prog ET0 146 Bh F8 A3 :=
 fn0 (E := E0) (pi := Bh) (po := F8) Bv (fn := Tryz.f146) Tryz.func146 (by kernel_rfl) (by kernel_rfl) [.tmp 2] (by kernel_rfl) rfl rfl rfl [] fun d => by kernel_rfl
def Dc := Ak Bh F8 A3
abbrev Ps : PSh := ⟨[], [kS]⟩
abbrev Pl : PSh := ⟨[], [kS]⟩
def Uk (T : Unit) (d : Y15) : Option (Y15) :=
 (D3 ((), d.2)).bind fun x1 =>
 some ((), x1.2)
def H5 := Uk ()
theorem Af0 : Gf Tryz.prog ET0 164 Ps Pl H5 :=
 fn0 (E := (E0.add 181 Qj)) (pi := Ps) (po := Pl) (Aa Bv (Ae Pv)) (fn := Tryz.f164) Tryz.func164 (by kernel_rfl) (by kernel_rfl) [.tmp 2] (by kernel_rfl) rfl rfl rfl [] fun d => by kernel_rfl
def Ag6 := Ak Ps Pl H5
abbrev Ft : PSh := Bh
abbrev Fo : PSh := ⟨[], [kB]⟩
def Iy (T : Unit) (d : Y17) : Option (Unit × ((Bool × Unit) × Unit)) :=
 let x1 := (!d.2.1.1.isNone)
 bif x1 then (
 d.2.1.1.bind fun x2 =>
 some ((), ((x2.2.2.isNone, ()), ())))
 else (
 some ((), ((false, ()), ())))
def Bt := Iy ()
theorem Fp : Gf Tryz.prog ET0 144 Ft Fo Bt :=
 fn0 (E := E0) (pi := Ft) (po := Fo) Bv (fn := Tryz.f144) Tryz.func144 (by kernel_rfl) (by kernel_rfl) [.tmp 2] (by kernel_rfl) rfl rfl rfl [] fun d => by kernel_rfl
def Fy := Ak Ft Fo Bt
abbrev U1 : PSh := ⟨[], [k8]⟩
abbrev Vv : PSh := ⟨[], [kB]⟩
def Zt (T : Unit) (d : Unit × ((Int × Unit) × Unit)) : Option (Unit × ((Bool × Unit) × Unit)) :=
 let x1 := (decide (d.2.1.1 >= (48 : Int)))
 bif x1 then (
 let x2 := (decide (d.2.1.1 <= (57 : Int)))
 some ((), ((x2, ()), ())))
 else (
 some ((), ((false, ()), ())))
def O2 := Zt ()
theorem Amn : Gf Tryz.prog ET0 192 U1 Vv O2 :=
 fn0 (E := E0) (pi := U1) (po := Vv) Bv (fn := Tryz.f192) Tryz.func192 (by kernel_rfl) (by kernel_rfl) [.tmp 2] (by kernel_rfl) rfl rfl rfl [] fun d => by kernel_rfl
def Apb := Ak U1 Vv O2
abbrev Ti : PSh := ⟨[], [kS, kI]⟩
abbrev S4 : PSh := ⟨[], [kI]⟩
abbrev Xz : Type := Unit × ((ByteArray × Unit) × ((Int × Unit) × ((Int × Unit) × Unit)))
abbrev S9 : Type := (((Xz) -> Option (Unit × ((Int × Unit) × Unit))) × Unit)
abbrev Afw : PSh := ⟨[], [kS, kI, .any, .any, .any, kI] ++ Ab1 15⟩
def Iz (T : S9) (d : Xz) : Option (Unit × ((Int × Unit) × Unit)) :=
 let x1 := (d.2.1.1.size : Int)
 let x2 := (if d.2.2.1.1 < x1 then d.2.2.1.1 else x1)
 let x3 := (decide (d.2.2.2.1.1 < x2))
 bif x3 then (
 bif decide ((0 : Int) <= d.2.2.2.1.1) && decide (d.2.2.2.1.1 < ((d.2.1.1.size : Int) : Int)) then (
 let x4 := (bt d.2.1.1 d.2.2.2.1.1)
 (O2 ((), ((x4, ()), ()))).bind fun x5 =>
 bif x5.2.1.1 then (
 let x6 := (Cr .i64 d.2.2.2.1.1 1)
 (T.1 ((), (d.2.1, (d.2.2.1, ((x6, ()), ()))))))
 else (
 some ((), d.2.2.2)))
 else none)
 else (
 some ((), d.2.2.2))
def F2 : Nat -> S9
 | 0 => (fun _ => none, ())
 | k + 1 => (Iz (F2 k), ())
theorem Va (k : Nat) : F2 (k + 1) = (Iz (F2 k), ()) := rfl
def Rp (T : S9) (d : Y18) : Option (Unit × ((Int × Unit) × Unit)) :=
 (T.1 ((), (d.2.1, (d.2.2.1, ((0, ()), ())))))
def Qe (d) := lim fun k => Rp (F2 k) d
theorem Aj1 : Gf Tryz.prog ET0 179 Ti S4 Qe :=
 fnL (E := (E0.add 192 Apb)) (pi := Ti) (po := S4) (Aa Bv (Ae Amn)) (fn := Tryz.f179) Tryz.func179 (by kernel_rfl) (by kernel_rfl) [.tmp 4] (by kernel_rfl) rfl rfl rfl [] (fun k => [(3, ⟨Afw, (F2 k).1⟩)]) (fun _ => [])
 (.intro (fun _ => rfl) trivial) (fun k => (.intro (fun d => by kernel_rfl) trivial)) trivial (fun k => trivial) (fun k d => Rp (F2 k) d) (fun k d => by kernel_rfl)
def Am3 := Ak Ti S4 Qe
abbrev Pk : PSh := ⟨[], [kS, .mk false [.v (.int .u64)]]⟩
abbrev Pj : PSh := ⟨[], [.mk false [.v (.int .u64)], kE]⟩
abbrev Rj : Type := Y5
abbrev Ug : Type := Unit × ((ByteArray × Unit) × ((Int × Unit) × ((Int × Unit) × ((Int × Unit) × ((Int × Unit) × Unit)))))
abbrev Py : Type := (((Ug) -> Option (Rj)) × Unit)
abbrev Ab2 : PSh := ⟨[], [kS, .mk false [.v (.int .u64)], .any, .any, .any, .any, .mk false [.v (.int .u64)], .any, .any, .any, kI, kI] ++ Ab1 20⟩
def G6 (T : Py) (d : Ug) : Option (Rj) :=
 let x2 := (decide (d.2.2.2.2.2.1.1 < d.2.2.2.2.1.1))
 bif x2 then (
 bif decide ((0 : Int) <= d.2.2.2.2.2.1.1) && decide (d.2.2.2.2.2.1.1 < ((d.2.1.1.size : Int) : Int)) then (
 let x3 := (bt d.2.1.1 d.2.2.2.2.2.1.1)
 let x4 := (Nj .u8 x3 48)
 let x5 := (J4 .u64 x4)
 let x6 := (Nj .u64 d.2.2.1.1 x5)
 let x7 := (Pg .u64 x6 (10 : Int))
 let x8 := (decide (d.2.2.2.1.1 > x7))
 bif x8 then (
 let x9 := (some (5 : Int))
 some ((), ((0, ()), ((x9, ()), ()))))
 else (
 let x10 := (Tx .u64 d.2.2.2.1.1 10)
 let x11 := (Cr .u64 x10 x5)
 let x12 := (Cr .i64 d.2.2.2.2.2.1.1 1)
 (T.1 ((), (d.2.1, (d.2.2.1, ((x11, ()), (d.2.2.2.2.1, ((x12, ()), ())))))))))
 else none)
 else (
 some ((), (d.2.2.2.1, (((none : Option Int), ()), ()))))
def Er : Nat -> Py
 | 0 => (fun _ => none, ())
 | k + 1 => (G6 (Er k), ())
theorem Rk (k : Nat) : Er (k + 1) = (G6 (Er k), ()) := rfl
def N3 (T : Py) (d : Y18) : Option (Rj) :=
 let x1 := (d.2.1.1.size : Int)
 (T.1 ((), (d.2.1, (d.2.2.1, ((0, ()), ((x1, ()), ((0, ()), ())))))))
def Nc (d) := lim fun k => N3 (Er k) d
theorem Afx : Gf Tryz.prog ET0 180 Pk Pj Nc :=
 fnL (E := E0) (pi := Pk) (po := Pj) Bv (fn := Tryz.f180) Tryz.func180 (by kernel_rfl) (by kernel_rfl) [.tmp 4, .tmp 5] (by kernel_rfl) rfl rfl rfl [] (fun k => [(4, ⟨Ab2, (Er k).1⟩)]) (fun _ => [])
 (.intro (fun _ => rfl) trivial) (fun k => (.intro (fun d => by kernel_rfl) trivial)) trivial (fun k => trivial) (fun k d => N3 (Er k) d) (fun k d => by kernel_rfl)
def Ag8 := Ak Pk Pj Nc
abbrev Qz : PSh := ⟨[], [kS, kI, kI, .mk false [.v (.int .u64)]]⟩
abbrev Rw : PSh := ⟨[], [.mk false [.v (.int .u64)], kI, kE]⟩
def V9 (T : Unit) (d : Unit × ((ByteArray × Unit) × ((Int × Unit) × ((Int × Unit) × ((Int × Unit) × Unit))))) : Option (Y19) :=
 let x1 := (decide (d.2.2.1.1 < (1 : Int)))
 bif x1 then (
 let x2 := (some (1 : Int))
 some ((), ((0, ()), ((0, ()), ((x2, ()), ())))))
 else (
 let x3 := (decide (d.2.2.1.1 > d.2.2.2.1.1))
 bif x3 then (
 let x4 := (some (1 : Int))
 some ((), ((0, ()), ((0, ()), ((x4, ()), ())))))
 else (
 let x5 := (decide (d.2.2.2.1.1 > (20 : Int)))
 bif x5 then (
 let x6 := (some (1 : Int))
 some ((), ((0, ()), ((0, ()), ((x6, ()), ())))))
 else (
 (Qe ((), (d.2.1, (d.2.2.2.1, ())))).bind fun x7 =>
 let x8 := (decide (x7.2.1.1 < d.2.2.1.1))
 bif x8 then (
 let x9 := (some (2 : Int))
 some ((), ((0, ()), ((0, ()), ((x9, ()), ())))))
 else (
 bif decide ((0 : Int) <= (0 : Int)) && decide ((0 : Int) <= x7.2.1.1) && decide (x7.2.1.1 <= (d.2.1.1.size : Int)) then (
 let x10 := (d.2.1.1.extract (Int.toNat (0 : Int)) (Int.toNat x7.2.1.1))
 (Nc ((), ((x10, ()), d.2.2.2.2))).bind fun x11 =>
 let x12 := (!x11.2.2.1.1.isNone)
 bif x12 then (
 some ((), ((0, ()), ((0, ()), x11.2.2))))
 else (
 some ((), (x11.2.1, (x7.2.1, (((none : Option Int), ()), ()))))))
 else none))))
def Kr := V9 ()
theorem Ai1 : Gf Tryz.prog ET0 163 Qz Rw Kr :=
 fn0 (E := ((E0.add 179 Am3).add 180 Ag8)) (pi := Qz) (po := Rw) (Aa (Aa Bv (Ae Aj1)) (Ae Afx)) (fn := Tryz.f163) Tryz.func163 (by kernel_rfl) (by kernel_rfl) [.tmp 8, .tmp 9, .tmp 10] (by kernel_rfl) rfl rfl rfl [] fun d => by kernel_rfl
def Aka := Ak Qz Rw Kr
abbrev Rm : PSh := ⟨[], [kS, kI, kI]⟩
abbrev Qy : PSh := ⟨[], [kI, kI, kE]⟩
def V8 (T : Unit) (d : Unit × ((ByteArray × Unit) × ((Int × Unit) × ((Int × Unit) × Unit)))) : Option (Y19) :=
 (Kr ((), (d.2.1, (d.2.2.1, (d.2.2.2.1, ((9223372036854775807, ()), ())))))).bind fun x1 =>
 let x2 := (J4 .i64 x1.2.1.1)
 some ((), ((x2, ()), x1.2.2))
def K1 := V8 ()
theorem Aiz : Gf Tryz.prog ET0 145 Rm Qy K1 :=
 fn0 (E := (E0.add 163 Aka)) (pi := Rm) (po := Qy) (Aa Bv (Ae Ai1)) (fn := Tryz.f145) Tryz.func145 (by kernel_rfl) (by kernel_rfl) [.tmp 6, .tmp 7, .tmp 8] (by kernel_rfl) rfl rfl rfl [] fun d => by kernel_rfl
def Akm := Ak Rm Qy K1
abbrev F7 : PSh := Bh
abbrev F1 : PSh := ⟨[], [kI]⟩
def Jc (T : Unit) (d : Y17) : Option (Unit × ((Int × Unit) × Unit)) :=
 (A3 ((), d.2)).bind fun x1 =>
 let x2 := (x1.2.1.1.size : Int)
 some ((), ((x2, ()), ()))
def Bx := Jc ()
theorem F6 : Gf Tryz.prog ET0 130 F7 F1 Bx :=
 fn0 (E := (E0.add 146 Dc)) (pi := F7) (po := F1) (Aa Bv (Ae C7)) (fn := Tryz.f130) Tryz.func130 (by kernel_rfl) (by kernel_rfl) [.tmp 2] (by kernel_rfl) rfl rfl rfl [] fun d => by kernel_rfl
def Gr := Ak F7 F1 Bx
abbrev G1 : PSh := Bh
abbrev Gy : PSh := ⟨[], [kE]⟩
def J3 (T : Unit) (d : Y17) : Option (Y20) :=
 bif d.2.1.1.isNone then (
 let x1 := (some (8 : Int))
 some ((), ((x1, ()), ())))
 else (
 d.2.1.1.bind fun x2 =>
 some ((), ((x2.2.2, ()), ())))
def Dq := J3 ()
theorem R2 : Gf Tryz.prog ET0 151 G1 Gy Dq :=
 fn0 (E := E0) (pi := G1) (po := Gy) Bv (fn := Tryz.f151) Tryz.func151 (by kernel_rfl) (by kernel_rfl) [.tmp 2] (by kernel_rfl) rfl rfl rfl [] fun d => by kernel_rfl
def S3 := Ak G1 Gy Dq
abbrev Gs : PSh := Bh
abbrev Gw : PSh := ⟨[], [kE]⟩
def J0 (T : Unit) (d : Y17) : Option (Y20) :=
 (Dq ((), d.2)).bind fun x1 =>
 let x2 := (!x1.2.1.1.isNone)
 bif x2 then (
 some ((), x1.2))
 else (
 (Bx ((), d.2)).bind fun x3 =>
 let x4 := (decide (x3.2.1.1 > (0 : Int)))
 bif x4 then (
 let x5 := (some (2 : Int))
 some ((), ((x5, ()), ())))
 else (
 some ((), (((none : Option Int), ()), ()))))
def Be := J0 ()
theorem Kg : Gf Tryz.prog ET0 131 Gs Gw Be :=
 fn0 (E := ((E0.add 130 Gr).add 151 S3)) (pi := Gs) (po := Gw) (Aa (Aa Bv (Ae F6)) (Ae R2)) (fn := Tryz.f131) Tryz.func131 (by kernel_rfl) (by kernel_rfl) [.tmp 2] (by kernel_rfl) rfl rfl rfl [] fun d => by kernel_rfl
def Ks := Ak Gs Gw Be
abbrev Dm : PSh := ⟨[.var 194 [vS, vI, vE]], [.mk false [.ref 0 0], kI]⟩
abbrev Dl : PSh := ⟨[.var 194 [vS, vI, vE]], [kS, .mk false [.ref 0 0]]⟩
def H0 (T : Unit) (d : Y21) : Option (((ByteArray × (Int × ((Option Int) × Unit))) × Unit) × ((ByteArray × Unit) × (Unit × Unit))) :=
 (A3 ((), (((some (d.1.1.1, (d.1.1.2.1, d.1.1.2.2.1))), ()), ()))).bind fun x1 =>
 bif decide ((0 : Int) <= (0 : Int)) && decide ((0 : Int) <= d.2.2.1.1) && decide (d.2.2.1.1 <= (x1.2.1.1.size : Int)) then (
 let x2 := (x1.2.1.1.extract (Int.toNat (0 : Int)) (Int.toNat d.2.2.1.1))
 let x3 := (decide (d.2.2.1.1 > (0 : Int)))
 bif x3 then (
 let x4 := (Cr .i64 d.1.1.2.1 d.2.2.1.1)
 (H5 ((), ((x2, ()), ()))).bind fun x5 =>
 some (((d.1.1.1, (x4, d.1.1.2.2)), ()), (x5.2.1, ((), ()))))
 else (
 (H5 ((), ((x2, ()), ()))).bind fun x6 =>
 some (d.1, (x6.2.1, ((), ())))))
 else none
def A2 := H0 ()
theorem Dn : Age Tryz.prog ET0 147 Dm Dl 1 [(0, 0, none)] A2 :=
 Ai6 (E := (((E0.add 146 Dc).add 164 Ag6).kp [0])) (pi := Dm) (po := Dl) (Hv (Aa (Aa Bv (Ae C7)) (Ae Af0))) (fn := Tryz.f147) Tryz.func147 (by kernel_rfl) (by kernel_rfl) [.tmp 4] [(0, none)] [(0, 0, none)] (by kernel_rfl) rfl rfl rfl rfl rfl [] fun d => by kernel_rfl
def Dw := Tg Dm Dl 1 [(0, 0, none)] A2
abbrev Fg : PSh := ⟨[.var 194 [vS, vI, vE]], [.mk false [.ref 0 0], kS]⟩
abbrev Ff : PSh := Dl
abbrev Fm : Type := ((ByteArray × (Int × ((Option Int) × Unit))) × Unit) × ((ByteArray × Unit) × (Unit × Unit))
abbrev Ie : Type := ((ByteArray × (Int × ((Option Int) × Unit))) × Unit) × (Unit × ((ByteArray × Unit) × ((ByteArray × Unit) × ((Int × Unit) × Unit))))
abbrev Fi : Type := (((Ie) -> Option (Fm)) × Unit)
abbrev Nw : PSh := ⟨[.var 194 [vS, vI, vE]], [.mk false [.ref 0 0], kS, .any, .any, .any, kS, kI] ++ Ab1 19⟩
def C9 (T : Fi) (d : Ie) : Option (Fm) :=
 let x2 := (d.2.2.2.1.1.size : Int)
 let x3 := (decide (d.2.2.2.2.1.1 < x2))
 bif x3 then (
 bif decide ((0 : Int) <= d.2.2.2.2.1.1) && decide (d.2.2.2.2.1.1 < ((d.2.2.2.1.1.size : Int) : Int)) then (
 let x4 := (bt d.2.2.2.1.1 d.2.2.2.2.1.1)
 (Et ((), (d.2.2.1, ((x4, ()), ())))).bind fun x5 =>
 let x6 := (decide (x5.2.1.1 >= (0 : Int)))
 bif x6 then (
 let x7 := (Cr .i64 d.2.2.2.2.1.1 1)
 (T.1 (d.1, ((), (d.2.2.1, (d.2.2.2.1, ((x7, ()), ())))))))
 else (
 (A2 (d.1, ((), d.2.2.2.2))).bind fun x8 =>
 some (x8.1, (x8.2.1, ((), ())))))
 else none)
 else (
 (A2 (d.1, ((), d.2.2.2.2))).bind fun x9 =>
 some (x9.1, (x9.2.1, ((), ()))))
def A5 : Nat -> Fi
 | 0 => (fun _ => none, ())
 | k + 1 => (C9 (A5 k), ())
theorem Jb (k : Nat) : A5 (k + 1) = (C9 (A5 k), ()) := rfl
def E6 (T : Fi) (d : ((ByteArray × (Int × ((Option Int) × Unit))) × Unit) × (Unit × ((ByteArray × Unit) × Unit))) : Option (Fm) :=
 (A3 ((), (((some (d.1.1.1, (d.1.1.2.1, d.1.1.2.2.1))), ()), ()))).bind fun x1 =>
 (T.1 (d.1, ((), (d.2.2.1, (x1.2.1, ((0, ()), ()))))))
def Bc (d) := lim fun k => E6 (A5 k) d
theorem Dv : Age Tryz.prog ET0 127 Fg Ff 1 [(0, 0, none)] Bc :=
 Azq (E := ((((E0.add 146 Dc).add 147 Dw).add 149 Rr).kp [0])) (pi := Fg) (po := Ff) (Hv (Aa (Aa (Aa Bv (Ae C7)) (Ld Dn)) (Ae P3))) (fn := Tryz.f127) Tryz.func127 (by kernel_rfl) (by kernel_rfl) [.tmp 4] [(0, none)] [(0, 0, none)] (by kernel_rfl) rfl rfl rfl rfl rfl [] (fun k => [(4, ⟨Nw, (A5 k).1⟩)]) (fun _ => [])
 (.intro (fun _ => rfl) trivial) (fun k => (.intro (fun d => by kernel_rfl) trivial)) trivial (fun k => trivial) (fun k d => E6 (A5 k) d) (fun k d => by kernel_rfl)
def D4 := Tg Fg Ff 1 [(0, 0, none)] Bc
abbrev E2 : PSh := ⟨[.var 194 [vS, vI, vE]], [.mk false [.ref 0 0], kE]⟩
abbrev E8 : PSh := Cx
def H9 (T : Unit) (d : ((ByteArray × (Int × ((Option Int) × Unit))) × Unit) × (Unit × (((Option Int) × Unit) × Unit))) : Option (Y16) :=
 (Bt ((), (((some (d.1.1.1, (d.1.1.2.1, d.1.1.2.2.1))), ()), ()))).bind fun x1 =>
 bif x1.2.1.1 then (
 some (((d.1.1.1, (d.1.1.2.1, d.2.2.1)), ()), ((), ())))
 else (
 some (d.1, ((), ())))
def Bl := H9 ()
theorem Ig : Age Tryz.prog ET0 143 E2 E8 0 [(0, 0, none)] Bl :=
 Ai6 (E := ((E0.add 144 Fy).kp [0])) (pi := E2) (po := E8) (Hv (Aa Bv (Ae Fp))) (fn := Tryz.f143) Tryz.func143 (by kernel_rfl) (by kernel_rfl) [] [(0, none)] [(0, 0, none)] (by kernel_rfl) rfl rfl rfl rfl rfl [] fun d => by kernel_rfl
def It := Tg E2 E8 0 [(0, 0, none)] Bl
abbrev Ml : PSh := Cx
abbrev Mh : PSh := Cx
def Ri (T : Unit) (d : Y16) : Option (Y16) :=
 (Bc (d.1, ((), (((⟨#[32, 9]⟩ : ByteArray), ()), ())))).bind fun x1 =>
 let x2 := (x1.2.1.1.toList == (⟨#[]⟩ : ByteArray).toList)
 bif x2 then (
 let x3 := (some (2 : Int))
 (Bl (x1.1, ((), ((x3, ()), ())))).bind fun x4 =>
 some (x4.1, ((), ())))
 else (
 some (x1.1, ((), ())))
def Da := Ri ()
theorem Mv : Age Tryz.prog ET0 121 Ml Mh 0 [(0, 0, none)] Da :=
 Ai6 (E := (((E0.add 127 D4).add 143 It).kp [0])) (pi := Ml) (po := Mh) (Hv (Aa (Aa Bv (Ld Dv)) (Ld Ig))) (fn := Tryz.f121) Tryz.func121 (by kernel_rfl) (by kernel_rfl) [] [(0, none)] [(0, 0, none)] (by kernel_rfl) rfl rfl rfl rfl rfl [] fun d => by kernel_rfl
def Oe := Tg Ml Mh 0 [(0, 0, none)] Da
abbrev Lo : PSh := Cx
abbrev Lh : PSh := ⟨[.var 194 [vS, vI, vE]], [.mk false [.v (.int .u32)], .mk false [.ref 0 0]]⟩
abbrev M4 : Type := Y23
abbrev P4 : Type := ((ByteArray × (Int × ((Option Int) × Unit))) × Unit) × (Unit × ((ByteArray × Unit) × ((Int × Unit) × ((Int × Unit) × ((Int × Unit) × Unit)))))
abbrev Le : Type := (((P4) -> Option (M4)) × Unit)
abbrev Xy : PSh := ⟨[.var 194 [vS, vI, vE]], [.mk false [.ref 0 0], .any, .any, kS, .mk false [.v (.int .u32)], .any, .any, .any, .any, .any, .any, .any, .any, .any, .any, .any, .any, .any, .any, .any, kI, kI] ++ Ab1 12⟩
def G3 (T : Le) (d : P4) : Option (M4) :=
 let x11 := (decide (d.2.2.2.2.2.1.1 < d.2.2.2.2.1.1))
 bif x11 then (
 let x12 := (Axs .u32 d.2.2.2.1.1 (4 : Int))
 bif decide ((0 : Int) <= d.2.2.2.2.2.1.1) && decide (d.2.2.2.2.2.1.1 < ((d.2.2.1.1.size : Int) : Int)) then (
 let x13 := (bt d.2.2.1.1 d.2.2.2.2.2.1.1)
 (Et ((), (((⟨#[48, 49, 50, 51, 52, 53, 54, 55, 56, 57, 97, 98, 99, 100, 101, 102]⟩ : ByteArray), ()), ((x13, ()), ())))).bind fun x14 =>
 let x15 := (J4 .u32 x14.2.1.1)
 let x16 := (ior .u32 x12 x15)
 let x17 := (Cr .i64 d.2.2.2.2.2.1.1 1)
 (T.1 (d.1, ((), (d.2.2.1, ((x16, ()), (d.2.2.2.2.1, ((x17, ()), ()))))))))
 else none)
 else (
 some (d.1, (d.2.2.2.1, ((), ()))))
def Dk : Nat -> Le
 | 0 => (fun _ => none, ())
 | k + 1 => (G3 (Dk k), ())
theorem R8 (k : Nat) : Dk (k + 1) = (G3 (Dk k), ()) := rfl
def Fk (T : Le) (d : Y16) : Option (M4) :=
 (Bc (d.1, ((), (((⟨#[48, 49, 50, 51, 52, 53, 54, 55, 56, 57, 97, 98, 99, 100, 101, 102, 65, 66, 67, 68, 69, 70]⟩ : ByteArray), ()), ())))).bind fun x1 =>
 (J8 ((), (x1.2.1, ()))).bind fun x2 =>
 let x3 := (x2.2.1.1.toList == (⟨#[]⟩ : ByteArray).toList)
 bif x3 then (
 let x4 := (some (2 : Int))
 (Bl (x1.1, ((), ((x4, ()), ())))).bind fun x5 =>
 some (x5.1, ((0, ()), ((), ()))))
 else (
 let x6 := (x2.2.1.1.size : Int)
 let x7 := (decide (x6 > (8 : Int)))
 bif x7 then (
 let x8 := (some (2 : Int))
 (Bl (x1.1, ((), ((x8, ()), ())))).bind fun x9 =>
 some (x9.1, ((0, ()), ((), ()))))
 else (
 let x10 := (x2.2.1.1.size : Int)
 (T.1 (x1.1, ((), (x2.2.1, ((0, ()), ((x10, ()), ((0, ()), ())))))))))
def Jg (d) := lim fun k => Fk (Dk k) d
theorem Aaz : Age Tryz.prog ET0 125 Lo Lh 1 [(0, 0, none)] Jg :=
 Azq (E := (((((E0.add 127 D4).add 143 It).add 148 Aef).add 149 Rr).kp [0])) (pi := Lo) (po := Lh) (Hv (Aa (Aa (Aa (Aa Bv (Ld Dv)) (Ld Ig)) (Ae Ab8)) (Ae P3))) (fn := Tryz.f125) Tryz.func125 (by kernel_rfl) (by kernel_rfl) [.tmp 2] [(0, none)] [(0, 0, none)] (by kernel_rfl) rfl rfl rfl rfl rfl [] (fun k => [(9, ⟨Xy, (Dk k).1⟩)]) (fun _ => [])
 (.intro (fun _ => rfl) trivial) (fun k => (.intro (fun d => by kernel_rfl) trivial)) trivial (fun k => trivial) (fun k d => Fk (Dk k) d) (fun k d => by kernel_rfl)
def Ac0 := Tg Lo Lh 1 [(0, 0, none)] Jg
abbrev Mz : PSh := Cx
abbrev L4 : PSh := ⟨[.var 194 [vS, vI, vE]], [kE, .mk false [.ref 0 0]]⟩
def Rs (T : Unit) (d : Y16) : Option (Y22) :=
 (Bc (d.1, ((), (((⟨#[32, 9]⟩ : ByteArray), ()), ())))).bind fun x1 =>
 (Be ((), (((some (x1.1.1.1, (x1.1.1.2.1, x1.1.1.2.2.1))), ()), ()))).bind fun x2 =>
 some (x1.1, (x2.2.1, ((), ())))
def D1 := Rs ()
theorem Sj : Age Tryz.prog ET0 123 Mz L4 1 [(0, 0, none)] D1 :=
 Ai6 (E := (((E0.add 127 D4).add 131 Ks).kp [0])) (pi := Mz) (po := L4) (Hv (Aa (Aa Bv (Ld Dv)) (Ae Kg))) (fn := Tryz.f123) Tryz.func123 (by kernel_rfl) (by kernel_rfl) [.tmp 2] [(0, none)] [(0, 0, none)] (by kernel_rfl) rfl rfl rfl rfl rfl [] fun d => by kernel_rfl
def Ue := Tg Mz L4 1 [(0, 0, none)] D1
abbrev F9 : PSh := Bh
abbrev Fx : PSh := ⟨[], [k8, kB]⟩
def Jf (T : Unit) (d : Y17) : Option (Unit × ((Int × Unit) × ((Bool × Unit) × Unit))) :=
 (A3 ((), d.2)).bind fun x1 =>
 let x2 := (x1.2.1.1.toList == (⟨#[]⟩ : ByteArray).toList)
 bif x2 then (
 some ((), ((0, ()), ((false, ()), ()))))
 else (
 bif decide ((0 : Int) <= (0 : Int)) && decide ((0 : Int) < ((x1.2.1.1.size : Int) : Int)) then (
 let x3 := (bt x1.2.1.1 (0 : Int))
 some ((), ((x3, ()), ((true, ()), ()))))
 else none)
def De := Jf ()
theorem Qu : Gf Tryz.prog ET0 150 F9 Fx De :=
 fn0 (E := (E0.add 146 Dc)) (pi := F9) (po := Fx) (Aa Bv (Ae C7)) (fn := Tryz.f150) Tryz.func150 (by kernel_rfl) (by kernel_rfl) [.tmp 2, .tmp 3] (by kernel_rfl) rfl rfl rfl [] fun d => by kernel_rfl
def R1 := Ak F9 Fx De
abbrev Adg : PSh := ⟨[], [kI, kI]⟩
abbrev Aeg : PSh := ⟨[], [kI, kE]⟩
def Ajk (T : Unit) (d : Y4) : Option (Y5) :=
 (Qo ((), (d.2.1, ()))).bind fun x1 =>
 let x2 := (!x1.2.2.1.1.isNone)
 bif x2 then (
 some ((), ((0, ()), x1.2.2)))
 else (
 (Ln ((), ())).bind fun x3 =>
 let x4 := (Cr .i64 x3.2.1.1 x1.2.1.1)
 let x5 := (decide (d.2.2.1.1 < x4))
 bif x5 then (
 let x6 := (some (13 : Int))
 some ((), ((0, ()), ((x6, ()), ()))))
 else (
 (Nz ((), ())).bind fun x7 =>
 let x8 := (Cr .i64 x7.2.1.1 x1.2.1.1)
 let x9 := (decide (d.2.2.1.1 > x8))
 bif x9 then (
 let x10 := (some (13 : Int))
 some ((), ((0, ()), ((x10, ()), ()))))
 else (
 let x11 := (Nj .i64 d.2.2.1.1 x1.2.1.1)
 some ((), ((x11, ()), (((none : Option Int), ()), ()))))))
def Wh := Ajk ()
theorem Av6 : Gf Tryz.prog ET0 152 Adg Aeg Wh :=
 fn0 (E := (((E0.add 95 Alv).add 105 Aay).add 106 Adt)) (pi := Adg) (po := Aeg) (Aa (Aa (Aa Bv (Ae Agy)) (Ae W8)) (Ae Aat)) (fn := Tryz.f152) Tryz.func152 (by kernel_rfl) (by kernel_rfl) [.tmp 4, .tmp 5] (by kernel_rfl) rfl rfl rfl [] fun d => by kernel_rfl
def Ayj := Ak Adg Aeg Wh
abbrev N1 : PSh := ⟨[], [kI]⟩
abbrev Of : PSh := ⟨[], [kI, kE]⟩
def Se (T : Unit) (d : Unit × ((Int × Unit) × Unit)) : Option (Y5) :=
 let x1 := (Int.tmod d.2.1.1 (86400 : Int))
 let x2 := (x1 != (0 : Int))
 bif x2 then (
 let x3 := (some (1 : Int))
 some ((), ((0, ()), ((x3, ()), ()))))
 else (
 (Wh ((), ((3, ()), ((0, ()), ())))).bind fun x4 =>
 let x5 := (Pg .i64 d.2.1.1 (86400 : Int))
 let x6 := (Cr .i64 x4.2.1.1 x5)
 some ((), ((x6, ()), x4.2.2)))
def Fh := Se ()
theorem Adz : Gf Tryz.prog ET0 132 N1 Of Fh :=
 fn0 (E := (E0.add 152 Ayj)) (pi := N1) (po := Of) (Aa Bv (Ae Av6)) (fn := Tryz.f132) Tryz.func132 (by kernel_rfl) (by kernel_rfl) [.tmp 2, .tmp 3] (by kernel_rfl) rfl rfl rfl [] fun d => by kernel_rfl
def Af9 := Ak N1 Of Fh
abbrev D9 : PSh := ⟨[.var 194 [vS, vI, vE]], [.mk false [.ref 0 0], kI, kI]⟩
abbrev D7 : PSh := ⟨[.var 194 [vS, vI, vE]], [kI, .mk false [.ref 0 0]]⟩
def Gk (T : Unit) (d : ((ByteArray × (Int × ((Option Int) × Unit))) × Unit) × (Unit × ((Int × Unit) × ((Int × Unit) × Unit)))) : Option (Y23) :=
 (Bt ((), (((some (d.1.1.1, (d.1.1.2.1, d.1.1.2.2.1))), ()), ()))).bind fun x1 =>
 let x2 := (!x1.2.1.1)
 bif x2 then (
 some (d.1, ((0, ()), ((), ()))))
 else (
 (A3 ((), (((some (d.1.1.1, (d.1.1.2.1, d.1.1.2.2.1))), ()), ()))).bind fun x3 =>
 (K1 ((), (x3.2.1, d.2.2))).bind fun x4 =>
 let x5 := (!x4.2.2.2.1.1.isNone)
 bif x5 then (
 some (((d.1.1.1, (d.1.1.2.1, x4.2.2.2.1)), ()), ((0, ()), ((), ()))))
 else (
 (A2 (d.1, ((), (x4.2.2.1, ())))).bind fun x6 =>
 some (x6.1, (x4.2.1, ((), ())))))
def Av := Gk ()
theorem Ha : Age Tryz.prog ET0 122 D9 D7 1 [(0, 0, none)] Av :=
 Ai6 (E := (((((E0.add 144 Fy).add 145 Akm).add 146 Dc).add 147 Dw).kp [0])) (pi := D9) (po := D7) (Hv (Aa (Aa (Aa (Aa Bv (Ae Fp)) (Ae Aiz)) (Ae C7)) (Ld Dn))) (fn := Tryz.f122) Tryz.func122 (by kernel_rfl) (by kernel_rfl) [.tmp 6] [(0, none)] [(0, 0, none)] (by kernel_rfl) rfl rfl rfl rfl rfl [] fun d => by kernel_rfl
def Ht := Tg D9 D7 1 [(0, 0, none)] Av
abbrev E9 : PSh := ⟨[.var 194 [vS, vI, vE]], [.mk false [.ref 0 0], k8]⟩
abbrev E7 : PSh := ⟨[.var 194 [vS, vI, vE]], [kB, .mk false [.ref 0 0]]⟩
def Ib (T : Unit) (d : Y21) : Option (((ByteArray × (Int × ((Option Int) × Unit))) × Unit) × ((Bool × Unit) × (Unit × Unit))) :=
 (De ((), (((some (d.1.1.1, (d.1.1.2.1, d.1.1.2.2.1))), ()), ()))).bind fun x1 =>
 let x2 := (!x1.2.2.1.1)
 bif x2 then (
 some (d.1, ((false, ()), ((), ()))))
 else (
 let x3 := (x1.2.1.1 != d.2.2.1.1)
 bif x3 then (
 some (d.1, ((false, ()), ((), ()))))
 else (
 (A2 (d.1, ((), ((1, ()), ())))).bind fun x4 =>
 some (x4.1, ((true, ()), ((), ())))))
def Cm := Ib ()
theorem O9 : Age Tryz.prog ET0 128 E9 E7 1 [(0, 0, none)] Cm :=
 Ai6 (E := (((E0.add 147 Dw).add 150 R1).kp [0])) (pi := E9) (po := E7) (Hv (Aa (Aa Bv (Ld Dn)) (Ae Qu))) (fn := Tryz.f128) Tryz.func128 (by kernel_rfl) (by kernel_rfl) [.tmp 4] [(0, none)] [(0, 0, none)] (by kernel_rfl) rfl rfl rfl rfl rfl [] fun d => by kernel_rfl
def Po := Tg E9 E7 1 [(0, 0, none)] Cm
abbrev Ez : PSh := Dm
abbrev E4 : PSh := Cx
def H1 (T : Unit) (d : Y21) : Option (Y16) :=
 (Bt ((), (((some (d.1.1.1, (d.1.1.2.1, d.1.1.2.2.1))), ()), ()))).bind fun x1 =>
 let x2 := (!x1.2.1.1)
 bif x2 then (
 some (d.1, ((), ())))
 else (
 let x3 := (decide (d.2.2.1.1 < (0 : Int)))
 bif x3 then (
 let x4 := (some (1 : Int))
 some (((d.1.1.1, (d.1.1.2.1, (x4, ()))), ()), ((), ())))
 else (
 (Bx ((), (((some (d.1.1.1, (d.1.1.2.1, d.1.1.2.2.1))), ()), ()))).bind fun x5 =>
 let x6 := (decide (d.2.2.1.1 > x5.2.1.1))
 bif x6 then (
 let x7 := (some (4 : Int))
 some (((d.1.1.1, (d.1.1.2.1, (x7, ()))), ()), ((), ())))
 else (
 (A2 (d.1, ((), d.2.2))).bind fun x8 =>
 some (x8.1, ((), ())))))
def Cn := H1 ()
theorem Pd : Age Tryz.prog ET0 129 Ez E4 0 [(0, 0, none)] Cn :=
 Ai6 (E := ((((E0.add 130 Gr).add 144 Fy).add 147 Dw).kp [0])) (pi := Ez) (po := E4) (Hv (Aa (Aa (Aa Bv (Ae F6)) (Ae Fp)) (Ld Dn))) (fn := Tryz.f129) Tryz.func129 (by kernel_rfl) (by kernel_rfl) [] [(0, none)] [(0, 0, none)] (by kernel_rfl) rfl rfl rfl rfl rfl [] fun d => by kernel_rfl
def Px := Tg Ez E4 0 [(0, 0, none)] Cn
abbrev Cp : PSh := ⟨[.var 76 [.osl 1, .v (.nptr (.int .i64)), .v (.nptr (.int .i64)), .v (.nptr (.pair (.int .u32) (.pair (.int .u32) (.pair (.int .u32) (.pair (.int .u32) (.int .u32))))))], .row 70 (.pair (.int .i64) (.int .i64))], [.mk false [.ref 0 0], kS]⟩
abbrev Dr : PSh := ⟨[.var 76 [.osl 1, .v (.nptr (.int .i64)), .v (.nptr (.int .i64)), .v (.nptr (.pair (.int .u32) (.pair (.int .u32) (.pair (.int .u32) (.pair (.int .u32) (.int .u32))))))], .row 70 (.pair (.int .i64) (.int .i64))], [kE, .mk false [.ref 0 0]]⟩
abbrev H6 : Type := Y25
abbrev Km : Type := (((Option Int) × ((Option Int) × ((Option (Int × (Int × (Int × (Int × Int))))) × Unit))) × ((List (Int × Int)) × ((ByteArray × (Int × ((Option Int) × Unit))) × ((Int × (Int × (Int × (Int × (Int × Unit))))) × Unit)))) × (Unit × (Unit × (Unit × ((Int × Unit) × Unit))))
abbrev He : Type := (((Km) -> Option (H6)) × Unit)
abbrev Rq : PSh := ⟨[.var 76 [.osl 1, .v (.nptr (.int .i64)), .v (.nptr (.int .i64)), .v (.nptr (.pair (.int .u32) (.pair (.int .u32) (.pair (.int .u32) (.pair (.int .u32) (.int .u32))))))], .row 70 (.pair (.int .i64) (.int .i64)), .var 194 [vS, vI, vE], .var 36 [.v (.int .u32), .v (.int .u32), .v (.int .u32), .v (.int .u32), .v (.int .u32)]], [.mk false [.ref 0 0], .any, .any, .any, .any, .mk false [.ref 2 0], .mk false [.ref 3 0], .any, .any, .any, .any, kI] ++ Ab1 19⟩
def Bj (T : He) (d : Km) : Option (H6) :=
 let x2 := (decide (d.2.2.2.2.1.1 < (5 : Int)))
 bif x2 then (
 (Da ((d.1.2.2.1, ()), ((), ()))).bind fun x3 =>
 (Jg (x3.1, ((), ()))).bind fun x4 =>
 bif decide ((0 : Int) <= d.2.2.2.2.1.1) && decide (d.2.2.2.2.1.1 < (5 : Int)) then (
 bif decide (d.2.2.2.2.1.1 = (0 : Int)) then (
 let x9 := (Cr .i64 d.2.2.2.2.1.1 1)
 (T.1 ((d.1.1, (d.1.2.1, (x4.1.1, ((x4.2.1.1, d.1.2.2.2.1.2), ())))), ((), ((), ((), ((x9, ()), ())))))))
 else (
 bif decide (d.2.2.2.2.1.1 = (1 : Int)) then (
 let x8 := (Cr .i64 d.2.2.2.2.1.1 1)
 (T.1 ((d.1.1, (d.1.2.1, (x4.1.1, ((d.1.2.2.2.1.1, (x4.2.1.1, d.1.2.2.2.1.2.2)), ())))), ((), ((), ((), ((x8, ()), ())))))))
 else (
 bif decide (d.2.2.2.2.1.1 = (2 : Int)) then (
 let x7 := (Cr .i64 d.2.2.2.2.1.1 1)
 (T.1 ((d.1.1, (d.1.2.1, (x4.1.1, ((d.1.2.2.2.1.1, (d.1.2.2.2.1.2.1, (x4.2.1.1, d.1.2.2.2.1.2.2.2))), ())))), ((), ((), ((), ((x7, ()), ())))))))
 else (
 bif decide (d.2.2.2.2.1.1 = (3 : Int)) then (
 let x6 := (Cr .i64 d.2.2.2.2.1.1 1)
 (T.1 ((d.1.1, (d.1.2.1, (x4.1.1, ((d.1.2.2.2.1.1, (d.1.2.2.2.1.2.1, (d.1.2.2.2.1.2.2.1, (x4.2.1.1, d.1.2.2.2.1.2.2.2.2)))), ())))), ((), ((), ((), ((x6, ()), ())))))))
 else (
 bif decide (d.2.2.2.2.1.1 = (4 : Int)) then (
 let x5 := (Cr .i64 d.2.2.2.2.1.1 1)
 (T.1 ((d.1.1, (d.1.2.1, (x4.1.1, ((d.1.2.2.2.1.1, (d.1.2.2.2.1.2.1, (d.1.2.2.2.1.2.2.1, (d.1.2.2.2.1.2.2.2.1, x4.2.1)))), ())))), ((), ((), ((), ((x5, ()), ())))))))
 else (
 none))))))
 else none)
 else (
 (D1 ((d.1.2.2.1, ()), ((), ()))).bind fun x10 =>
 let x11 := (!x10.2.1.1.isNone)
 bif x11 then (
 some ((d.1.1, (d.1.2.1, ())), (x10.2.1, ((), ()))))
 else (
 let x12 := (!d.1.1.2.2.1.isNone)
 bif x12 then (
 let x13 := (some (2 : Int))
 some ((d.1.1, (d.1.2.1, ())), ((x13, ()), ((), ()))))
 else (
 some (((d.1.1.1, (d.1.1.2.1, ((some (d.1.2.2.2.1.1, (d.1.2.2.2.1.2.1, (d.1.2.2.2.1.2.2.1, (d.1.2.2.2.1.2.2.2.1, d.1.2.2.2.1.2.2.2.2.1))))), ()))), (d.1.2.1, ())), (((none : Option Int), ()), ((), ()))))))
def Au : Nat -> He
 | 0 => (fun _ => none, ())
 | k + 1 => (Bj (Au k), ())
theorem C3 (k : Nat) : Au (k + 1) = (Bj (Au k), ()) := rfl
def Gv (T : He) (d : Y24) : Option (H6) :=
 (Db ((), d.2.2)).bind fun x1 =>
 (T.1 ((d.1.1, (d.1.2.1, (x1.1.1, (((0 : Int), ((0 : Int), ((0 : Int), ((0 : Int), (0, ()))))), ())))), ((), ((), ((), ((0, ()), ()))))))
def Fb (d) := lim fun k => Gv (Au k) d
theorem Tc : Age Tryz.prog ET0 89 Cp Dr 1 [(0, 0, none)] Fb :=
 Azq (E := ((((((E0.add 120 Nx).add 121 Oe).add 123 Ue).add 125 Ac0).add 126 (At8 E0 (O8 Tryz.f126) 2 Tryz.f126.ntmps 16 [.tmp 4])).kp [0])) (pi := Cp) (po := Dr) (Hv (Aa (Aa (Aa (Aa (Aa Bv (Ae M8)) (Ld Mv)) (Ld Sj)) (Ld Aaz)) (A0y Bv (fn := Tryz.f126) Tryz.func126 (by kernel_rfl) (by kernel_rfl) (by kernel_rfl)))) (fn := Tryz.f89) Tryz.func89 (by kernel_rfl) (by kernel_rfl) [.tmp 4] [(0, none)] [(0, 0, none)] (by kernel_rfl) rfl rfl rfl rfl rfl [] (fun k => [(5, ⟨Rq, (Au k).1⟩)]) (fun _ => [])
 (.intro (fun _ => rfl) trivial) (fun k => (.intro (fun d => by kernel_rfl) trivial)) trivial (fun k => trivial) (fun k d => Gv (Au k) d) (fun k d => by kernel_rfl)
def Ts := Tg Cp Dr 1 [(0, 0, none)] Fb
abbrev Hp : PSh := Cp
abbrev Hg : PSh := Dr
def Kk (T : Unit) (d : Y24) : Option (Y25) :=
 (Db ((), d.2.2)).bind fun x1 =>
 (Bc (x1.1, ((), (((⟨#[32, 9]⟩ : ByteArray), ()), ())))).bind fun x2 =>
 (Av (x2.1, ((), ((1, ()), ((13, ()), ()))))).bind fun x3 =>
 (Da (x3.1, ((), ()))).bind fun x4 =>
 (Av (x4.1, ((), ((1, ()), ((4, ()), ()))))).bind fun x5 =>
 (Bc (x5.1, ((), (((⟨#[32, 9]⟩ : ByteArray), ()), ())))).bind fun x6 =>
 let x7 := (!(x6.2.1.1.toList == (⟨#[]⟩ : ByteArray).toList))
 bif x7 then (
 (Cm (x6.1, ((), ((35, ()), ())))).bind fun x8 =>
 bif x8.2.1.1 then (
 (Bx ((), (((some (x8.1.1.1, (x8.1.1.2.1, x8.1.1.2.2.1))), ()), ()))).bind fun x9 =>
 (Cn (x8.1, ((), x9.2))).bind fun x10 =>
 (Be ((), (((some (x10.1.1.1, (x10.1.1.2.1, x10.1.1.2.2.1))), ()), ()))).bind fun x11 =>
 let x12 := (!x11.2.1.1.isNone)
 bif x12 then (
 some (d.1, (x11.2.1, ((), ()))))
 else (
 (Fh ((), (x3.2.1, ()))).bind fun x13 =>
 let x14 := (!x13.2.2.1.1.isNone)
 bif x14 then (
 some (d.1, (x13.2.2.1, ((), ()))))
 else (
 let x15 := ([(x13.2.1.1, x5.2.1.1)] : List (Int × Int))
 bif decide (((d.1.2.1.length + x15.length) * 16 : Nat) <= 140737488355328) && decide (d.1.2.1.length + x15.length <= 9223372036854775807) then (
 let x16 := (d.1.2.1 ++ x15)
 some ((d.1.1, (x16, ())), (((none : Option Int), ()), ((), ()))))
 else none)))
 else (
 (Be ((), (((some (x8.1.1.1, (x8.1.1.2.1, x8.1.1.2.2.1))), ()), ()))).bind fun x17 =>
 let x18 := (!x17.2.1.1.isNone)
 bif x18 then (
 some (d.1, (x17.2.1, ((), ()))))
 else (
 (Fh ((), (x3.2.1, ()))).bind fun x19 =>
 let x20 := (!x19.2.2.1.1.isNone)
 bif x20 then (
 some (d.1, (x19.2.2.1, ((), ()))))
 else (
 let x21 := ([(x19.2.1.1, x5.2.1.1)] : List (Int × Int))
 bif decide (((d.1.2.1.length + x21.length) * 16 : Nat) <= 140737488355328) && decide (d.1.2.1.length + x21.length <= 9223372036854775807) then (
 let x22 := (d.1.2.1 ++ x21)
 some ((d.1.1, (x22, ())), (((none : Option Int), ()), ((), ()))))
 else none))))
 else (
 (Be ((), (((some (x6.1.1.1, (x6.1.1.2.1, x6.1.1.2.2.1))), ()), ()))).bind fun x23 =>
 let x24 := (!x23.2.1.1.isNone)
 bif x24 then (
 some (d.1, (x23.2.1, ((), ()))))
 else (
 (Fh ((), (x3.2.1, ()))).bind fun x25 =>
 let x26 := (!x25.2.2.1.1.isNone)
 bif x26 then (
 some (d.1, (x25.2.2.1, ((), ()))))
 else (
 let x27 := ([(x25.2.1.1, x5.2.1.1)] : List (Int × Int))
 bif decide (((d.1.2.1.length + x27.length) * 16 : Nat) <= 140737488355328) && decide (d.1.2.1.length + x27.length <= 9223372036854775807) then (
 let x28 := (d.1.2.1 ++ x27)
 some ((d.1.1, (x28, ())), (((none : Option Int), ()), ((), ()))))
 else none)))
def D2 := Kk ()
theorem Te : Age Tryz.prog ET0 90 Hp Hg 1 [(0, 0, none)] D2 :=
 Ai6 (E := ((((((((((E0.add 120 Nx).add 121 Oe).add 122 Ht).add 127 D4).add 128 Po).add 129 Px).add 130 Gr).add 131 Ks).add 132 Af9).kp [0])) (pi := Hp) (po := Hg) (Hv (Aa (Aa (Aa (Aa (Aa (Aa (Aa (Aa (Aa Bv (Ae M8)) (Ld Mv)) (Ld Ha)) (Ld Dv)) (Ld O9)) (Ld Pd)) (Ae F6)) (Ae Kg)) (Ae Adz))) (fn := Tryz.f90) Tryz.func90 (by kernel_rfl) (by kernel_rfl) [.tmp 4] [(0, none)] [(0, 0, none)] (by kernel_rfl) rfl rfl rfl rfl rfl [] fun d => by kernel_rfl
def T3 := Tg Hp Hg 1 [(0, 0, none)] D2
abbrev Gp : PSh := Cp
abbrev Gn : PSh := Dr
def Jn (T : Unit) (d : Y24) : Option (Y25) :=
 (Oq ((), (d.2.2.1, (((⟨#[32, 9]⟩ : ByteArray), ()), ())))).bind fun x1 =>
 let x2 := (x1.2.1.1.toList == (⟨#[]⟩ : ByteArray).toList)
 bif x2 then (
 some (d.1, (((none : Option Int), ()), ((), ()))))
 else (
 (Dx ((), (d.2.2.1, (((⟨#[35, 36]⟩ : ByteArray), ()), ())))).bind fun x3 =>
 bif x3.2.1.1 then (
 bif decide ((2 : Int) <= (d.2.2.1.1.size : Int)) && decide ((d.2.2.1.1.size : Int) <= (d.2.2.1.1.size : Int)) then (
 let x4 := (d.2.2.1.1.extract (Int.toNat (2 : Int)) (Int.toNat (d.2.2.1.1.size : Int)))
 (Db ((), ((x4, ()), ()))).bind fun x5 =>
 (Da (x5.1, ((), ()))).bind fun x6 =>
 (Av (x6.1, ((), ((1, ()), ((13, ()), ()))))).bind fun x7 =>
 (D1 (x7.1, ((), ()))).bind fun x8 =>
 let x9 := (!x8.2.1.1.isNone)
 bif x9 then (
 some (d.1, (x8.2.1, ((), ()))))
 else (
 let x10 := (!d.1.1.1.isNone)
 bif x10 then (
 let x11 := (some (2 : Int))
 some (d.1, ((x11, ()), ((), ()))))
 else (
 some ((((some x7.2.1.1), d.1.1.2), d.1.2), (((none : Option Int), ()), ((), ()))))))
 else none)
 else (
 (Dx ((), (d.2.2.1, (((⟨#[35, 64]⟩ : ByteArray), ()), ())))).bind fun x12 =>
 bif x12.2.1.1 then (
 bif decide ((2 : Int) <= (d.2.2.1.1.size : Int)) && decide ((d.2.2.1.1.size : Int) <= (d.2.2.1.1.size : Int)) then (
 let x13 := (d.2.2.1.1.extract (Int.toNat (2 : Int)) (Int.toNat (d.2.2.1.1.size : Int)))
 (Db ((), ((x13, ()), ()))).bind fun x14 =>
 (Da (x14.1, ((), ()))).bind fun x15 =>
 (Av (x15.1, ((), ((1, ()), ((13, ()), ()))))).bind fun x16 =>
 (D1 (x16.1, ((), ()))).bind fun x17 =>
 let x18 := (!x17.2.1.1.isNone)
 bif x18 then (
 some (d.1, (x17.2.1, ((), ()))))
 else (
 let x19 := (!d.1.1.2.1.isNone)
 bif x19 then (
 let x20 := (some (2 : Int))
 some (d.1, ((x20, ()), ((), ()))))
 else (
 some (((d.1.1.1, ((some x16.2.1.1), d.1.1.2.2)), d.1.2), (((none : Option Int), ()), ((), ()))))))
 else none)
 else (
 (Dx ((), (d.2.2.1, (((⟨#[35, 104]⟩ : ByteArray), ()), ())))).bind fun x21 =>
 bif x21.2.1.1 then (
 bif decide ((2 : Int) <= (d.2.2.1.1.size : Int)) && decide ((d.2.2.1.1.size : Int) <= (d.2.2.1.1.size : Int)) then (
 let x22 := (d.2.2.1.1.extract (Int.toNat (2 : Int)) (Int.toNat (d.2.2.1.1.size : Int)))
 (Fb (d.1, ((), ((x22, ()), ())))).bind fun x23 =>
 some (x23.1, (x23.2.1, ((), ()))))
 else none)
 else (
 bif decide ((0 : Int) <= (0 : Int)) && decide ((0 : Int) < ((d.2.2.1.1.size : Int) : Int)) then (
 let x24 := (bt d.2.2.1.1 (0 : Int))
 let x25 := (x24 == (35 : Int))
 bif x25 then (
 some (d.1, (((none : Option Int), ()), ((), ()))))
 else (
 (D2 (d.1, ((), d.2.2))).bind fun x26 =>
 some (x26.1, (x26.2.1, ((), ())))))
 else none))))
def Ds := Jn ()
theorem R3 : Age Tryz.prog ET0 61 Gp Gn 1 [(0, 0, none)] Ds :=
 Ai6 (E := ((((((E0.add 86 Akd).add 87 Aa9).add 89 Ts).add 90 T3).add 88 (At8 (((((E0.add 120 Nx).add 121 Oe).add 122 Ht).add 123 Ue).add 124 (At8 E0 (O8 Tryz.f124) 2 Tryz.f124.ntmps 16 [.tmp 4])) (O8 Tryz.f88) 2 Tryz.f88.ntmps 16 [.tmp 4])).kp [0])) (pi := Gp) (po := Gn) (Hv (Aa (Aa (Aa (Aa (Aa Bv (Ae Ahv)) (Ae Zi)) (Ld Tc)) (Ld Te)) (A0y (Aa (Aa (Aa (Aa (Aa Bv (Ae M8)) (Ld Mv)) (Ld Ha)) (Ld Sj)) (A0y Bv (fn := Tryz.f124) Tryz.func124 (by kernel_rfl) (by kernel_rfl) (by kernel_rfl))) (fn := Tryz.f88) Tryz.func88 (by kernel_rfl) (by kernel_rfl) (by kernel_rfl)))) (fn := Tryz.f61) Tryz.func61 (by kernel_rfl) (by kernel_rfl) [.tmp 4] [(0, none)] [(0, 0, none)] (by kernel_rfl) rfl rfl rfl rfl rfl [] fun d => by kernel_rfl
def S7 := Tg Gp Gn 1 [(0, 0, none)] Ds
abbrev Gu : PSh := Cp
abbrev Gz : PSh := ⟨[.var 76 [.osl 1, .v (.nptr (.int .i64)), .v (.nptr (.int .i64)), .v (.nptr (.pair (.int .u32) (.pair (.int .u32) (.pair (.int .u32) (.pair (.int .u32) (.int .u32))))))], .row 70 (.pair (.int .i64) (.int .i64))], [kI, kE, .mk false [.ref 0 0]]⟩
abbrev Ho : Type := (((Option Int) × ((Option Int) × ((Option (Int × (Int × (Int × (Int × Int))))) × Unit))) × ((List (Int × Int)) × Unit)) × ((Int × Unit) × (((Option Int) × Unit) × (Unit × Unit)))
abbrev Jz : Type := (((Option Int) × ((Option Int) × ((Option (Int × (Int × (Int × (Int × Int))))) × Unit))) × ((List (Int × Int)) × Unit)) × (Unit × (((List ByteArray) × Unit) × ((Int × Unit) × ((Int × Unit) × Unit))))
abbrev Gq : Type := (((Jz) -> Option (Ho)) × Unit)
abbrev Qf : PSh := ⟨[.var 76 [.osl 1, .v (.nptr (.int .i64)), .v (.nptr (.int .i64)), .v (.nptr (.pair (.int .u32) (.pair (.int .u32) (.pair (.int .u32) (.pair (.int .u32) (.int .u32))))))], .row 70 (.pair (.int .i64) (.int .i64))], [.mk false [.ref 0 0], .any, .any, .any, .any, .any, .any, .any, .any, .any, .any, .any, .any, .any, .any, .mk false [.v (.sl .str)], kI, kI] ++ Ab1 13⟩
def Cu (T : Gq) (d : Jz) : Option (Ho) :=
 let x7 := (decide (d.2.2.2.2.1.1 < d.2.2.2.1.1))
 bif x7 then (
 bif decide ((0 : Int) <= d.2.2.2.2.1.1) && decide (d.2.2.2.2.1.1 < (d.2.2.1.1.length : Int)) then (
 (Ds (d.1, ((), (((gd .str d.2.2.1.1 d.2.2.2.2.1.1), ()), ())))).bind fun x8 =>
 let x9 := (!x8.2.1.1.isNone)
 bif x9 then (
 let x10 := (Cr .i64 d.2.2.2.2.1.1 1)
 some (x8.1, ((x10, ()), (x8.2.1, ((), ())))))
 else (
 let x11 := (Cr .i64 d.2.2.2.2.1.1 1)
 (T.1 (x8.1, ((), (d.2.2.1, (d.2.2.2.1, ((x11, ()), ()))))))))
 else none)
 else (
 some (d.1, ((0, ()), (((none : Option Int), ()), ((), ())))))
def Bu : Nat -> Gq
 | 0 => (fun _ => none, ())
 | k + 1 => (Cu (Bu k), ())
theorem Hl (k : Nat) : Bu (k + 1) = (Cu (Bu k), ()) := rfl
def Ec (T : Gq) (d : Y24) : Option (Ho) :=
 let x1 := (d.2.2.1.1.size : Int)
 let x2 := (decide (x1 > (65535 : Int)))
 bif x2 then (
 let x3 := (some (3 : Int))
 some (d.1, ((0, ()), ((x3, ()), ((), ())))))
 else (
 (Fj ((), (d.2.2.1, (((⟨#[10]⟩ : ByteArray), ()), ())))).bind fun x4 =>
 (L6 ((), (x4.2.1, (((⟨#[10]⟩ : ByteArray), ()), ())))).bind fun x5 =>
 let x6 := (x5.2.1.1.length : Int)
 (T.1 (d.1, ((), (x5.2.1, ((x6, ()), ((0, ()), ())))))))
def Cq (d) := lim fun k => Ec (Bu k) d
theorem Kj : Age Tryz.prog ET0 29 Gu Gz 2 [(0, 0, none)] Cq :=
 Azq (E := ((((E0.add 59 Ah6).add 60 Zh).add 61 S7).kp [0])) (pi := Gu) (po := Gz) (Hv (Aa (Aa (Aa Bv (Ae Af2)) (Ae X9)) (Ld R3))) (fn := Tryz.f29) Tryz.func29 (by kernel_rfl) (by kernel_rfl) [.tmp 4, .tmp 5] [(0, none)] [(0, 0, none)] (by kernel_rfl) rfl rfl rfl rfl rfl [] (fun k => [(6, ⟨Qf, (Bu k).1⟩)]) (fun _ => [])
 (.intro (fun _ => rfl) trivial) (fun k => (.intro (fun d => by kernel_rfl) trivial)) trivial (fun k => trivial) (fun k d => Ec (Bu k) d) (fun k d => by kernel_rfl)
def Ku := Tg Gu Gz 2 [(0, 0, none)] Cq
abbrev N4 : PSh := ⟨[], [kS]⟩
abbrev Nr : PSh := Vl
def Mc (T : Unit) (d : Y15) : Option (Y13) :=
 (Cq ((((none : Option Int), ((none : Option Int), ((none : Option (Int × (Int × (Int × (Int × Int))))), ()))), (([] : List (Int × Int)), ())), ((), d.2))).bind fun x1 =>
 let x2 := (!x1.2.2.1.1.isNone)
 bif x2 then (
 some ((), (((none : Option ((List (Int × Int)) × (Int × Int))), ()), (x1.2.2.1, ()))))
 else (
 bif x1.1.1.1.isNone then (
 let x3 := (some (2 : Int))
 some ((), (((none : Option ((List (Int × Int)) × (Int × Int))), ()), ((x3, ()), ()))))
 else (
 bif x1.1.1.2.1.isNone then (
 let x4 := (some (2 : Int))
 some ((), (((none : Option ((List (Int × Int)) × (Int × Int))), ()), ((x4, ()), ()))))
 else (
 x1.1.1.1.bind fun x5 =>
 x1.1.1.2.1.bind fun x6 =>
 (Nq ((), (x1.1.2, ((x5, ()), ((x6, ()), ()))))).bind fun x7 =>
 let x8 := (!x7.2.2.1.1.isNone)
 bif x8 then (
 some ((), (((none : Option ((List (Int × Int)) × (Int × Int))), ()), x7.2.2)))
 else (
 (Fv ((), (x7.2.1, ()))).bind fun x9 =>
 let x10 := (!x9.2.2.1.1.isNone)
 bif x10 then (
 some ((), (((none : Option ((List (Int × Int)) × (Int × Int))), ()), x9.2.2)))
 else (
 let x11 := (!x1.1.1.2.2.1.isNone)
 bif x11 then (
 x1.1.1.2.2.1.bind fun x12 =>
 (Jy ((), ((x12.1, (x12.2.1, (x12.2.2.1, (x12.2.2.2.1, (x12.2.2.2.2, ()))))), ()))).bind fun x13 =>
 let x14 := (!((x13.2.1.1 == x9.2.1.1) && ((x13.2.1.2.1 == x9.2.1.2.1) && ((x13.2.1.2.2.1 == x9.2.1.2.2.1) && ((x13.2.1.2.2.2.1 == x9.2.1.2.2.2.1) && ((x13.2.1.2.2.2.2.1 == x9.2.1.2.2.2.2.1) && ((x13.2.1.2.2.2.2.2.1 == x9.2.1.2.2.2.2.2.1) && ((x13.2.1.2.2.2.2.2.2.1 == x9.2.1.2.2.2.2.2.2.1) && ((x13.2.1.2.2.2.2.2.2.2.1 == x9.2.1.2.2.2.2.2.2.2.1) && ((x13.2.1.2.2.2.2.2.2.2.2.1 == x9.2.1.2.2.2.2.2.2.2.2.1) && ((x13.2.1.2.2.2.2.2.2.2.2.2.1 == x9.2.1.2.2.2.2.2.2.2.2.2.1) && ((x13.2.1.2.2.2.2.2.2.2.2.2.2.1 == x9.2.1.2.2.2.2.2.2.2.2.2.2.1) && ((x13.2.1.2.2.2.2.2.2.2.2.2.2.2.1 == x9.2.1.2.2.2.2.2.2.2.2.2.2.2.1) && ((x13.2.1.2.2.2.2.2.2.2.2.2.2.2.2.1 == x9.2.1.2.2.2.2.2.2.2.2.2.2.2.2.1) && ((x13.2.1.2.2.2.2.2.2.2.2.2.2.2.2.2.1 == x9.2.1.2.2.2.2.2.2.2.2.2.2.2.2.2.1) && ((x13.2.1.2.2.2.2.2.2.2.2.2.2.2.2.2.2.1 == x9.2.1.2.2.2.2.2.2.2.2.2.2.2.2.2.2.1) && ((x13.2.1.2.2.2.2.2.2.2.2.2.2.2.2.2.2.2.1 == x9.2.1.2.2.2.2.2.2.2.2.2.2.2.2.2.2.2.1) && ((x13.2.1.2.2.2.2.2.2.2.2.2.2.2.2.2.2.2.2.1 == x9.2.1.2.2.2.2.2.2.2.2.2.2.2.2.2.2.2.2.1) && ((x13.2.1.2.2.2.2.2.2.2.2.2.2.2.2.2.2.2.2.2.1 == x9.2.1.2.2.2.2.2.2.2.2.2.2.2.2.2.2.2.2.2.1) && ((x13.2.1.2.2.2.2.2.2.2.2.2.2.2.2.2.2.2.2.2.2.1 == x9.2.1.2.2.2.2.2.2.2.2.2.2.2.2.2.2.2.2.2.2.1) && ((x13.2.1.2.2.2.2.2.2.2.2.2.2.2.2.2.2.2.2.2.2.2.1 == x9.2.1.2.2.2.2.2.2.2.2.2.2.2.2.2.2.2.2.2.2.2.1) && true)))))))))))))))))))))
 bif x14 then (
 let x15 := (some (7 : Int))
 some ((), (((none : Option ((List (Int × Int)) × (Int × Int))), ()), ((x15, ()), ()))))
 else (
 some ((), (x7.2.1, (((none : Option Int), ()), ())))))
 else (
 some ((), (x7.2.1, (((none : Option Int), ()), ())))))))))
def Fe := Mc ()
theorem N9 : Gf Tryz.prog ET0 8 N4 Nr Fe :=
 fn0 (E := (((((E0.add 18 T4).add 26 Alf).add 29 Ku).add 30 Aif).fr [(1000007, [1000004, 1000018, 1000022])])) (pi := N4) (po := Nr) (Amf (Aa (Aa (Aa (Aa Bv (Ae Su)) (Ae Ahu)) (Ld Kj)) (Ae Afr))) (fn := Tryz.f8) Tryz.func8 (by kernel_rfl) (by kernel_rfl) [.tmp 2, .tmp 3] (by kernel_rfl) rfl rfl rfl [] fun d => by kernel_rfl
def Pr := Ak N4 Nr Fe
abbrev Oc : PSh := Ch
abbrev Ob : PSh := ⟨[], [kI]⟩
def Ab0 (T : Unit) (d : Y2) : Option (Unit × ((Int × Unit) × Unit)) :=
 (H4 ((), d.2)).bind fun x1 =>
 let x2 := (x1.2.1.1.length : Int)
 some ((), ((x2, ()), ()))
def Pn := Ab0 ()
theorem Ade : Gf Tryz.prog ET0 58 Oc Ob Pn :=
 fn0 (E := (E0.add 68 T7)) (pi := Oc) (po := Ob) (Aa Bv (Ae Sk)) (fn := Tryz.f58) Tryz.func58 (by kernel_rfl) (by kernel_rfl) [.tmp 2] (by kernel_rfl) rfl rfl rfl [] fun d => by kernel_rfl
def Af6 := Ak Oc Ob Pn
abbrev Ok : PSh := ⟨[], [.mk false [.v (.nptr (.pair (.sl (.pair (.int .i64) (.int .i64))) (.pair (.int .i64) (.int .i64))))], kI]⟩
abbrev N6 : PSh := ⟨[], [.mk true [vI, vI], kB]⟩
def Abr (T : Unit) (d : Unit × (((Option ((List (Int × Int)) × (Int × Int))) × Unit) × ((Int × Unit) × Unit))) : Option (Unit × ((Int × (Int × Unit)) × ((Bool × Unit) × Unit))) :=
 let x1 := (decide (d.2.2.1.1 < (0 : Int)))
 bif x1 then (
 some ((), (((0 : Int), (0, ())), ((false, ()), ()))))
 else (
 (Pn ((), (d.2.1, ()))).bind fun x2 =>
 let x3 := (decide (d.2.2.1.1 >= x2.2.1.1))
 bif x3 then (
 some ((), (((0 : Int), (0, ())), ((false, ()), ()))))
 else (
 d.2.1.1.bind fun x4 =>
 bif decide ((0 : Int) <= d.2.2.1.1) && decide (d.2.2.1.1 < (x4.1.length : Int)) then (
 some ((), (((Af x4.1 d.2.2.1.1).1, ((Af x4.1 d.2.2.1.1).2, ())), ((true, ()), ()))))
 else none))
def K9 := Abr ()
theorem Aec : Gf Tryz.prog ET0 28 Ok N6 K9 :=
 fn0 (E := (E0.add 58 Af6)) (pi := Ok) (po := N6) (Aa Bv (Ae Ade)) (fn := Tryz.f28) Tryz.func28 (by kernel_rfl) (by kernel_rfl) [.cell 4 70, .tmp 5] (by kernel_rfl) rfl rfl rfl [] fun d => by kernel_rfl
def Agc := Ak Ok N6 K9
abbrev Td : PSh := ⟨[], []⟩
abbrev Tq : PSh := ⟨[], [kB]⟩
def Xd (T : Unit) (d : Unit × Unit) : Option (Unit × ((Bool × Unit) × Unit)) :=
 (Fe ((), (((⟨#[35, 36, 32, 53, 10, 35, 64, 32, 57, 10, 50, 50, 55, 50, 48, 54, 48, 56, 48, 48, 9, 49, 48, 10]⟩ : ByteArray), ()), ()))).bind fun x1 =>
 let x2 := (!x1.2.2.1.1.isNone)
 bif x2 then (
 some ((), ((false, ()), ())))
 else (
 bif x1.2.1.1.isNone then (
 some ((), ((false, ()), ())))
 else (
 (K9 ((), (x1.2.1, ((0, ()), ())))).bind fun x3 =>
 bif x3.2.2.1.1 then (
 let x4 := (x3.2.1.1 == (730 : Int))
 bif x4 then (
 let x5 := (x3.2.1.2.1 == (10 : Int))
 some ((), ((x5, ()), ())))
 else (
 some ((), ((false, ()), ()))))
 else (
 some ((), ((false, ()), ())))))
def Mw := Xd ()
theorem Aj3 : Gf Tryz.prog ET0 7 Td Tq Mw :=
 fn0 (E := ((E0.add 8 Pr).add 28 Agc)) (pi := Td) (po := Tq) (Aa (Aa Bv (Ae N9)) (Ae Aec)) (fn := Tryz.f7) Tryz.func7 (by kernel_rfl) (by kernel_rfl) [.tmp 0] (by kernel_rfl) rfl rfl rfl [] fun d => by kernel_rfl
def Anv := Ak Td Tq Mw
abbrev Vt : PSh := ⟨[], [.mk true [.v (.sl (.pair (.int .i64) (.int .i64))), vI, vI]]⟩
abbrev Vk : PSh := ⟨[], [kB]⟩
def Zy (T : Unit) (d : Unit × (((List (Int × Int)) × (Int × (Int × Unit))) × Unit)) : Option (Unit × ((Bool × Unit) × Unit)) :=
 let x1 := (d.2.1.1.length : Int)
 let x2 := (decide (x1 > (296 : Int)))
 some ((), ((x2, ()), ()))
def Sd := Zy ()
theorem Am8 : Gf Tryz.prog ET0 16 Vt Vk Sd :=
 fn0 (E := E0) (pi := Vt) (po := Vk) Bv (fn := Tryz.f16) Tryz.func16 (by kernel_rfl) (by kernel_rfl) [.tmp 2] (by kernel_rfl) rfl rfl rfl [] fun d => by kernel_rfl
def Apg := Ak Vt Vk Sd
abbrev Ns : PSh := ⟨[], [kS]⟩
abbrev Od : PSh := ⟨[], [kI]⟩
def R9 (T : Unit) (d : Y15) : Option (Unit × ((Int × Unit) × Unit)) :=
 (Cq ((((none : Option Int), ((none : Option Int), ((none : Option (Int × (Int × (Int × (Int × Int))))), ()))), (([] : List (Int × Int)), ())), ((), d.2))).bind fun x1 =>
 some ((), (x1.2.1, ()))
def I0 := R9 ()
theorem Adj : Gf Tryz.prog ET0 11 Ns Od I0 :=
 fn0 (E := (E0.add 29 Ku)) (pi := Ns) (po := Od) (Aa Bv (Ld Kj)) (fn := Tryz.f11) Tryz.func11 (by kernel_rfl) (by kernel_rfl) [.tmp 2] (by kernel_rfl) rfl rfl rfl [] fun d => by kernel_rfl
def Aga := Ak Ns Od I0
abbrev Ed : PSh := ⟨[], [.mk false [.v (.sl (.pair (.int .i64) (.int .i64)))], .mk false [.v (.sl (.pair (.int .i64) (.int .i64)))]]⟩
abbrev Eb : PSh := ⟨[], [kB]⟩
abbrev Gj : Type := Unit × (((List (Int × Int)) × Unit) × (((List (Int × Int)) × Unit) × ((Int × Unit) × ((Int × Unit) × Unit))))
abbrev Eh : Type := (((Gj) -> Option (Unit × ((Bool × Unit) × Unit))) × Unit)
abbrev Lf : PSh := ⟨[], [.mk false [.v (.sl (.pair (.int .i64) (.int .i64)))], .mk false [.v (.sl (.pair (.int .i64) (.int .i64)))], .any, .any, .any, .any, .any, .any, .any, .any, .any, .any, kI, kI] ++ Ab1 12⟩
def Bp (T : Eh) (d : Gj) : Option (Unit × ((Bool × Unit) × Unit)) :=
 let x5 := (decide (d.2.2.2.2.1.1 < d.2.2.2.1.1))
 bif x5 then (
 bif decide ((0 : Int) <= d.2.2.2.2.1.1) && decide (d.2.2.2.2.1.1 < (d.2.1.1.length : Int)) then (
 bif decide ((0 : Int) <= d.2.2.2.2.1.1) && decide (d.2.2.2.2.1.1 < (d.2.2.1.1.length : Int)) then (
 let x6 := (!(((Af d.2.1.1 d.2.2.2.2.1.1).1 == (Af d.2.2.1.1 d.2.2.2.2.1.1).1) && (((Af d.2.1.1 d.2.2.2.2.1.1).2 == (Af d.2.2.1.1 d.2.2.2.2.1.1).2) && true)))
 bif x6 then (
 some ((), ((false, ()), ())))
 else (
 let x7 := (Cr .i64 d.2.2.2.2.1.1 1)
 (T.1 ((), (d.2.1, (d.2.2.1, (d.2.2.2.1, ((x7, ()), ()))))))))
 else none)
 else none)
 else (
 some ((), ((true, ()), ())))
def A4 : Nat -> Eh
 | 0 => (fun _ => none, ())
 | k + 1 => (Bp (A4 k), ())
theorem Ek (k : Nat) : A4 (k + 1) = (Bp (A4 k), ()) := rfl
def Co (T : Eh) (d : Unit × (((List (Int × Int)) × Unit) × (((List (Int × Int)) × Unit) × Unit))) : Option (Unit × ((Bool × Unit) × Unit)) :=
 let x1 := (d.2.1.1.length : Int)
 let x2 := (d.2.2.1.1.length : Int)
 let x3 := (x1 != x2)
 bif x3 then (
 some ((), ((false, ()), ())))
 else (
 let x4 := (d.2.1.1.length : Int)
 (T.1 ((), (d.2.1, (d.2.2.1, ((x4, ()), ((0, ()), ())))))))
def C6 (d) := lim fun k => Co (A4 k) d
theorem L8 : Gf Tryz.prog ET0 37 Ed Eb C6 :=
 fnL (E := E0) (pi := Ed) (po := Eb) Bv (fn := Tryz.f37) Tryz.func37 (by kernel_rfl) (by kernel_rfl) [.tmp 4] (by kernel_rfl) rfl rfl rfl [] (fun k => [(6, ⟨Lf, (A4 k).1⟩)]) (fun _ => [])
 (.intro (fun _ => rfl) trivial) (fun k => (.intro (fun d => by kernel_rfl) trivial)) trivial (fun k => trivial) (fun k d => Co (A4 k) d) (fun k d => by kernel_rfl)
def Ng := Ak Ed Eb C6
abbrev W6 : PSh := ⟨[], [.mk false [.v (.nptr (.pair (.sl (.pair (.int .i64) (.int .i64))) (.pair (.int .i64) (.int .i64))))], .mk false [.v (.nptr (.pair (.sl (.pair (.int .i64) (.int .i64))) (.pair (.int .i64) (.int .i64))))]]⟩
abbrev Xj : PSh := ⟨[], [kB]⟩
def Acv (T : Unit) (d : Unit × (((Option ((List (Int × Int)) × (Int × Int))) × Unit) × (((Option ((List (Int × Int)) × (Int × Int))) × Unit) × Unit))) : Option (Unit × ((Bool × Unit) × Unit)) :=
 bif d.2.1.1.isNone then (
 bif d.2.1.1.isNone then (
 some ((), ((d.2.2.1.1.isNone, ()), ())))
 else (
 some ((), ((false, ()), ()))))
 else (
 bif d.2.2.1.1.isNone then (
 bif d.2.1.1.isNone then (
 some ((), ((d.2.2.1.1.isNone, ()), ())))
 else (
 some ((), ((false, ()), ()))))
 else (
 d.2.1.1.bind fun x1 =>
 d.2.2.1.1.bind fun x2 =>
 let x3 := (x1.2.1 == x2.2.1)
 bif x3 then (
 d.2.1.1.bind fun x4 =>
 d.2.2.1.1.bind fun x5 =>
 let x6 := (x4.2.2 == x5.2.2)
 bif x6 then (
 d.2.1.1.bind fun x7 =>
 d.2.2.1.1.bind fun x8 =>
 (C6 ((), ((x7.1, ()), ((x8.1, ()), ())))).bind fun x9 =>
 some ((), x9.2))
 else (
 some ((), ((false, ()), ()))))
 else (
 some ((), ((false, ()), ())))))
def Nv := Acv ()
theorem Aol : Gf Tryz.prog ET0 15 W6 Xj Nv :=
 fn0 (E := (E0.add 37 Ng)) (pi := W6) (po := Xj) (Aa Bv (Ae L8)) (fn := Tryz.f15) Tryz.func15 (by kernel_rfl) (by kernel_rfl) [.tmp 4] (by kernel_rfl) rfl rfl rfl [] fun d => by kernel_rfl
def Ath := Ak W6 Xj Nv
abbrev Wv : PSh := ⟨[], [k8]⟩
abbrev Xh : PSh := ⟨[], [k8]⟩
def Acm (T : Unit) (d : Unit × ((Int × Unit) × Unit)) : Option (Unit × ((Int × Unit) × Unit)) :=
 let x1 := (decide (d.2.1.1 < (10 : Int)))
 bif x1 then (
 let x2 := (Cr .u8 (48 : Int) d.2.1.1)
 some ((), ((x2, ()), ())))
 else (
 let x3 := (Cr .u8 (97 : Int) d.2.1.1)
 let x4 := (Nj .u8 x3 10)
 some ((), ((x4, ()), ())))
def Jm := Acm ()
theorem Aqn : Gf Tryz.prog ET0 71 Wv Xh Jm :=
 fn0 (E := E0) (pi := Wv) (po := Xh) Bv (fn := Tryz.f71) Tryz.func71 (by kernel_rfl) (by kernel_rfl) [.tmp 2] (by kernel_rfl) rfl rfl rfl [] fun d => by kernel_rfl
def Asg := Ak Wv Xh Jm
end
set_option maxRecDepth 100000
set_option maxHeartbeats 2000000
noncomputable section
abbrev Abe : PSh := O7
abbrev Abd : PSh := ⟨[], [kS]⟩
abbrev Aeh : Type := Y15
abbrev Ae8 : Type := ((List Int) × Unit) × (Unit × ((Int × (Int × (Int × (Int × (Int × (Int × (Int × (Int × (Int × (Int × (Int × (Int × (Int × (Int × (Int × (Int × (Int × (Int × (Int × (Int × Unit)))))))))))))))))))) × ((Int × Unit) × Unit)))
abbrev Vy : Type := (((Ae8) -> Option (Aeh)) × Unit)
abbrev Ani : PSh := ⟨[.row 5 (.int .u8)], [.any, .any, .any, .mk false [.osl 0], .any, .any, .mk true [v8, v8, v8, v8, v8, v8, v8, v8, v8, v8, v8, v8, v8, v8, v8, v8, v8, v8, v8, v8], kI] ++ Ab1 14⟩
def V1 (T : Vy) (d : Ae8) : Option (Aeh) :=
 let x1 := (decide (d.2.2.2.1.1 < (20 : Int)))
 bif x1 then (
 bif decide ((0 : Int) <= d.2.2.2.1.1) && decide (d.2.2.2.1.1 < (20 : Int)) then (
 let x2 := (Axt .u8 (gd (.int .u8) ([d.2.2.1.1, d.2.2.1.2.1, d.2.2.1.2.2.1, d.2.2.1.2.2.2.1, d.2.2.1.2.2.2.2.1, d.2.2.1.2.2.2.2.2.1, d.2.2.1.2.2.2.2.2.2.1, d.2.2.1.2.2.2.2.2.2.2.1, d.2.2.1.2.2.2.2.2.2.2.2.1, d.2.2.1.2.2.2.2.2.2.2.2.2.1, d.2.2.1.2.2.2.2.2.2.2.2.2.2.1, d.2.2.1.2.2.2.2.2.2.2.2.2.2.2.1, d.2.2.1.2.2.2.2.2.2.2.2.2.2.2.2.1, d.2.2.1.2.2.2.2.2.2.2.2.2.2.2.2.2.1, d.2.2.1.2.2.2.2.2.2.2.2.2.2.2.2.2.2.1, d.2.2.1.2.2.2.2.2.2.2.2.2.2.2.2.2.2.2.1, d.2.2.1.2.2.2.2.2.2.2.2.2.2.2.2.2.2.2.2.1, d.2.2.1.2.2.2.2.2.2.2.2.2.2.2.2.2.2.2.2.2.1, d.2.2.1.2.2.2.2.2.2.2.2.2.2.2.2.2.2.2.2.2.2.1, d.2.2.1.2.2.2.2.2.2.2.2.2.2.2.2.2.2.2.2.2.2.2.1] : List Int) d.2.2.2.1.1) (4 : Int))
 (Jm ((), ((x2, ()), ()))).bind fun x3 =>
 let x4 := (Axv .u8 (gd (.int .u8) ([d.2.2.1.1, d.2.2.1.2.1, d.2.2.1.2.2.1, d.2.2.1.2.2.2.1, d.2.2.1.2.2.2.2.1, d.2.2.1.2.2.2.2.2.1, d.2.2.1.2.2.2.2.2.2.1, d.2.2.1.2.2.2.2.2.2.2.1, d.2.2.1.2.2.2.2.2.2.2.2.1, d.2.2.1.2.2.2.2.2.2.2.2.2.1, d.2.2.1.2.2.2.2.2.2.2.2.2.2.1, d.2.2.1.2.2.2.2.2.2.2.2.2.2.2.1, d.2.2.1.2.2.2.2.2.2.2.2.2.2.2.2.1, d.2.2.1.2.2.2.2.2.2.2.2.2.2.2.2.2.1, d.2.2.1.2.2.2.2.2.2.2.2.2.2.2.2.2.2.1, d.2.2.1.2.2.2.2.2.2.2.2.2.2.2.2.2.2.2.1, d.2.2.1.2.2.2.2.2.2.2.2.2.2.2.2.2.2.2.2.1, d.2.2.1.2.2.2.2.2.2.2.2.2.2.2.2.2.2.2.2.2.1, d.2.2.1.2.2.2.2.2.2.2.2.2.2.2.2.2.2.2.2.2.2.1, d.2.2.1.2.2.2.2.2.2.2.2.2.2.2.2.2.2.2.2.2.2.2.1] : List Int) d.2.2.2.1.1) (15 : Int))
 (Jm ((), ((x4, ()), ()))).bind fun x5 =>
 let x6 := ([x3.2.1.1, x5.2.1.1] : List Int)
 bif decide (((d.1.1.length + x6.length) * 1 : Nat) <= 140737488355328) && decide (d.1.1.length + x6.length <= 9223372036854775807) then (
 let x7 := (d.1.1 ++ x6)
 let x8 := (Cr .i64 d.2.2.2.1.1 1)
 (T.1 ((x7, ()), ((), (d.2.2.1, ((x8, ()), ()))))))
 else none)
 else none)
 else (
 let x9 := (As d.1.1)
 some ((), ((x9, ()), ())))
def Jl : Nat -> Vy
 | 0 => (fun _ => none, ())
 | k + 1 => (V1 (Jl k), ())
theorem Alb (k : Nat) : Jl (k + 1) = (V1 (Jl k), ()) := rfl
def X3 (T : Vy) (d : Y9) : Option (Aeh) :=
 (T.1 ((([] : List Int), ()), ((), (d.2.1, ((0, ()), ())))))
def Yw (d) := lim fun k => X3 (Jl k) d
theorem Ard : Gf Tryz.prog ET0 40 Abe Abd Yw :=
 fnL (E := (E0.add 71 Asg)) (pi := Abe) (po := Abd) (Aa Bv (Ae Aqn)) (fn := Tryz.f40) Tryz.func40 (by kernel_rfl) (by kernel_rfl) [.tmp 2] (by kernel_rfl) rfl rfl rfl [] (fun k => [(4, ⟨Ani, (Jl k).1⟩)]) (fun _ => [])
 (.intro (fun _ => rfl) trivial) (fun k => (.intro (fun d => by kernel_rfl) trivial)) trivial (fun k => trivial) (fun k d => X3 (Jl k) d) (fun k d => by kernel_rfl)
def Awe := Ak Abe Abd Yw
abbrev Q7 : PSh := Ch
abbrev Q2 : PSh := ⟨[], [kS, kE]⟩
abbrev K2 : Type := Unit × ((ByteArray × Unit) × (((Option Int) × Unit) × Unit))
abbrev Uc : Type := Lk
abbrev Tv : Type := (((Option Int) × Unit) × ((List Int) × Unit)) × (Unit × ((ByteArray × Unit) × ((Int × Unit) × Unit)))
abbrev M9 : Type := (((Uc) -> Option (K2)) × (((Tv) -> Option (K2)) × Unit))
abbrev Abn : PSh := ⟨[.var 53 [v8, v8, v8, v8, v8, v8, v8, v8, v8, v8, v8, v8, v8, v8, v8, v8, v8, v8, v8, v8], .var 91 [.osl 2, vE], .row 5 (.int .u8), .row 70 (.pair (.int .i64) (.int .i64))], [.any, .any, .any, .any, .mk false [.ref 0 0], .any, .mk false [.ref 1 0], .any, .any, .any, .any, .any, .any, .any, .any, .any, .any, .any, .any, .any, .any, .any, .any, .any, .any, .any, .any, .any, .any, .any, .any, .any, .any, .any, .mk false [.osl 3], kI, kI] ++ Ab1 35⟩
abbrev Ab4 : PSh := ⟨[.var 91 [.osl 1, vE], .row 5 (.int .u8)], [.any, .any, .any, .any, .any, .any, .mk false [.ref 0 0], .any, .any, kS, .any, .any, .any, .any, .any, .any, .any, .any, .any, .any, .any, .any, .any, .any, .any, .any, .any, .any, .any, .any, .any, .any, .any, .any, .any, .any, .any, .any, .any, .any, .any, .any, .any, .any, .any, .any, .any, .any, .any, kI] ++ Ab1 22⟩
def Ja (T : M9) (d : Uc) : Option (K2) :=
 let x11 := (decide (d.2.2.2.2.2.1.1 < d.2.2.2.2.1.1))
 bif x11 then (
 bif decide ((0 : Int) <= d.2.2.2.2.2.1.1) && decide (d.2.2.2.2.2.1.1 < (d.1.2.2.2.1.length : Int)) then (
 let x12 := (Af d.1.2.2.2.1 d.2.2.2.2.2.1.1)
 (Cz ((d.1.2.1, (d.1.2.2.1, ())), ((), ((x12.1, (x12.2, ())), (((⟨#[9]⟩ : ByteArray), ()), (((⟨#[10]⟩ : ByteArray), ()), ())))))).bind fun x13 =>
 let x14 := (Cr .i64 d.2.2.2.2.2.1.1 1)
 (T.1 ((d.1.1, (x13.1.1, (x13.1.2.1, d.1.2.2.2))), ((), ((), ((), (d.2.2.2.2.1, ((x14, ()), ()))))))))
 else none)
 else (
 bif decide (((d.1.2.2.1.length + (bytesOf (⟨#[35, 104]⟩ : ByteArray)).length) * 1 : Nat) <= 140737488355328) && decide (d.1.2.2.1.length + (bytesOf (⟨#[35, 104]⟩ : ByteArray)).length <= 9223372036854775807) then (
 let x15 := (d.1.2.2.1 ++ (bytesOf (⟨#[35, 104]⟩ : ByteArray)))
 (Yw ((), (d.1.1, ()))).bind fun x16 =>
 (T.2.1 ((d.1.2.1, (x15, ())), ((), (x16.2.1, ((0, ()), ()))))))
 else none)
def Je (T : M9) (d : Tv) : Option (K2) :=
 let x17 := (decide (d.2.2.2.1.1 < (5 : Int)))
 bif x17 then (
 let x18 := ([(32 : Int)] : List Int)
 bif decide (((d.1.2.1.length + x18.length) * 1 : Nat) <= 140737488355328) && decide (d.1.2.1.length + x18.length <= 9223372036854775807) then (
 let x19 := (d.1.2.1 ++ x18)
 let x20 := (Tx .i64 d.2.2.2.1.1 8)
 let x21 := (Cr .i64 d.2.2.2.1.1 1)
 let x22 := (Tx .i64 x21 8)
 bif decide ((0 : Int) <= x20) && decide (x20 <= x22) && decide (x22 <= (d.2.2.1.1.size : Int)) then (
 let x23 := (d.2.2.1.1.extract (Int.toNat x20) (Int.toNat x22))
 bif decide (((x19.length + (bytesOf x23).length) * 1 : Nat) <= 140737488355328) && decide (x19.length + (bytesOf x23).length <= 9223372036854775807) then (
 let x24 := (x19 ++ (bytesOf x23))
 let x25 := (Cr .i64 d.2.2.2.1.1 1)
 (T.2.1 ((d.1.1, (x24, ())), ((), (d.2.2.1, ((x25, ()), ()))))))
 else none)
 else none)
 else none)
 else (
 let x26 := (As d.1.2.1)
 bif Apc x26 (⟨#[10]⟩ : ByteArray) then (
 let x27 := (x26 ++ (⟨#[10]⟩ : ByteArray))
 some ((), ((x27, ()), (d.1.1, ()))))
 else none)
def Ck : Nat -> M9
 | 0 => (fun _ => none, (fun _ => none, ()))
 | k + 1 => (Ja (Ck k), (Je (Ck k), ()))
theorem On (k : Nat) : Ck (k + 1) = (Ja (Ck k), (Je (Ck k), ())) := rfl
def Pm (T : M9) (d : Y2) : Option (K2) :=
 (Fv ((), d.2)).bind fun x1 =>
 let x2 := (!x1.2.2.1.1.isNone)
 bif x2 then (
 some ((), (((⟨#[]⟩ : ByteArray), ()), x1.2.2)))
 else (
 bif decide (((bytesOf (⟨#[35, 36, 9]⟩ : ByteArray)).length * 1 : Nat) <= 140737488355328) && decide ((bytesOf (⟨#[35, 36, 9]⟩ : ByteArray)).length <= 9223372036854775807) then (
 let x3 := (bytesOf (⟨#[35, 36, 9]⟩ : ByteArray))
 (Dh ((), d.2)).bind fun x4 =>
 (Aq ((((none : Option Int), ()), (x3, ())), ((), (x4.2.1, (((⟨#[10]⟩ : ByteArray), ()), ()))))).bind fun x5 =>
 bif decide (((x5.1.2.1.length + (bytesOf (⟨#[35, 64, 9]⟩ : ByteArray)).length) * 1 : Nat) <= 140737488355328) && decide (x5.1.2.1.length + (bytesOf (⟨#[35, 64, 9]⟩ : ByteArray)).length <= 9223372036854775807) then (
 let x6 := (x5.1.2.1 ++ (bytesOf (⟨#[35, 64, 9]⟩ : ByteArray)))
 (Dg ((), d.2)).bind fun x7 =>
 (Aq ((x5.1.1, (x6, ())), ((), (x7.2.1, (((⟨#[10]⟩ : ByteArray), ()), ()))))).bind fun x8 =>
 (Es ((), d.2)).bind fun x9 =>
 let x10 := (x9.1.1.length : Int)
 (T.1 ((x1.2.1, (x8.1.1, (x8.1.2.1, x9.1))), ((), ((), ((), ((x10, ()), ((0, ()), ()))))))))
 else none)
 else none)
def Ot (d) := lim fun k => Pm (Ck k) d
theorem Ahp : Gf Tryz.prog ET0 17 Q7 Q2 Ot :=
 fnL (E := (((((((E0.add 18 T4).add 34 Tt).add 35 P9).add 36 P8).add 38 H3).add 39 Lr).add 40 Awe)) (pi := Q7) (po := Q2) (Aa (Aa (Aa (Aa (Aa (Aa (Aa Bv (Ae Su)) (Ae Sf)) (Ae O6)) (Ae Pe)) (Ld Hi)) (Ld Kt)) (Ae Ard)) (fn := Tryz.f17) Tryz.func17 (by kernel_rfl) (by kernel_rfl) [.tmp 2, .tmp 3] (by kernel_rfl) rfl rfl rfl [] (fun k => [(12, ⟨Abn, (Ck k).1⟩), (21, ⟨Ab4, (Ck k).2.1⟩)]) (fun _ => [])
 (.intro (fun _ => rfl) (.intro (fun _ => rfl) trivial)) (fun k => (.intro (fun d => by kernel_rfl) (.intro (fun d => by kernel_rfl) trivial))) trivial (fun k => trivial) (fun k d => Pm (Ck k) d) (fun k d => by kernel_rfl)
def Ajv := Ak Q7 Q2 Ot
abbrev Vq : PSh := Ch
abbrev U3 : PSh := ⟨[], [kB]⟩
def Zs (T : Unit) (d : Y2) : Option (Unit × ((Bool × Unit) × Unit)) :=
 (Ot ((), d.2)).bind fun x1 =>
 (Fe ((), (x1.2.1, ()))).bind fun x2 =>
 bif x1.2.2.1.1.isNone then (
 bif x2.2.2.1.1.isNone then (
 (Nv ((), (d.2.1, (x2.2.1, ())))).bind fun x3 =>
 bif x3.2.1.1 then (
 (I0 ((), (x1.2.1, ()))).bind fun x4 =>
 let x5 := (x4.2.1.1 == (0 : Int))
 some ((), ((x5, ()), ())))
 else (
 some ((), ((false, ()), ()))))
 else (
 some ((), ((false, ()), ()))))
 else (
 some ((), ((false, ()), ())))
def If := Zs ()
theorem And : Gf Tryz.prog ET0 27 Vq U3 If :=
 fn0 (E := ((((E0.add 8 Pr).add 11 Aga).add 15 Ath).add 17 Ajv)) (pi := Vq) (po := U3) (Aa (Aa (Aa (Aa Bv (Ae N9)) (Ae Adj)) (Ae Aol)) (Ae Ahp)) (fn := Tryz.f27) Tryz.func27 (by kernel_rfl) (by kernel_rfl) [.tmp 2] (by kernel_rfl) rfl rfl rfl [] fun d => by kernel_rfl
def Aos := Ak Vq U3 If
abbrev Tu : PSh := ⟨[], [.mk true [.v (.sl (.pair (.int .i64) (.int .i64))), vI, vI], kS]⟩
abbrev Uq : PSh := ⟨[], [kB]⟩
def Sn (T : Unit) (d : Unit × (((List (Int × Int)) × (Int × (Int × Unit))) × ((ByteArray × Unit) × Unit))) : Option (Unit × ((Bool × Unit) × Unit)) :=
 (Mw ((), ())).bind fun x1 =>
 let x2 := (!x1.2.1.1)
 bif x2 then (
 some ((), ((false, ()), ())))
 else (
 (Sd ((), (d.2.1, ()))).bind fun x3 =>
 bif x3.2.1.1 then (
 some ((), ((true, ()), ())))
 else (
 let x4 := (d.2.2.1.1.size : Int)
 let x5 := (decide (x4 > (3000 : Int)))
 bif x5 then (
 some ((), ((true, ()), ())))
 else (
 (Nq ((), ((d.2.1.1, ()), ((d.2.1.2.1, ()), (d.2.1.2.2, ()))))).bind fun x6 =>
 bif x6.2.2.1.1.isNone then (
 (If ((), (x6.2.1, ()))).bind fun x7 =>
 let x8 := (!x7.2.1.1)
 bif x8 then (
 some ((), ((false, ()), ())))
 else (
 (Fe ((), d.2.2)).bind fun x9 =>
 let x10 := (!x9.2.2.1.1.isNone)
 bif x10 then (
 some ((), ((x9.2.1.1.isNone, ()), ())))
 else (
 (If ((), (x9.2.1, ()))).bind fun x11 =>
 some ((), x11.2))))
 else (
 (Fe ((), d.2.2)).bind fun x12 =>
 let x13 := (!x12.2.2.1.1.isNone)
 bif x13 then (
 some ((), ((x12.2.1.1.isNone, ()), ())))
 else (
 (If ((), (x12.2.1, ()))).bind fun x14 =>
 some ((), x14.2))))))
def Pt := Sn ()
theorem ok_law11_ListBack : Gf Tryz.prog ET0 6 Tu Uq Pt :=
 fn0 (E := (((((E0.add 7 Anv).add 8 Pr).add 16 Apg).add 26 Alf).add 27 Aos)) (pi := Tu) (po := Uq) (Aa (Aa (Aa (Aa (Aa Bv (Ae Aj3)) (Ae N9)) (Ae Am8)) (Ae Ahu)) (Ae And)) (fn := Tryz.f6) Tryz.func6 (by kernel_rfl) (by kernel_rfl) [.tmp 4] (by kernel_rfl) rfl rfl rfl [] fun d => by kernel_rfl
end
def vl : List Int -> Int
 | [] => 0
 | x :: l => x + 65536 * vl l
def dg (n : Nat) : List Int := if h : n = 0 then [] else ((n % 65536 : Nat) : Int) :: dg (n / 65536)
termination_by n
decreasing_by omega
def isF (x : Int) : Prop := 48 <= x /\ x <= 57
instance (x : Int) : Decidable (isF x) := by unfold isF; infer_instance
def Oo : List Int -> Nat
 | [] => 0
 | x :: l => if isF x then Oo l + 1 else 0
theorem Adp : ∀ l : List Int, Oo l <= l.length
 | [] => Nat.le_refl _
 | x :: l => by
  unfold Oo
  have := Adp l
  split <;> simp only [List.length_cons] <;> omega
theorem Ane : ∀ {l : List Int} {i : Nat}, i < Oo l -> isF (l.getD i 0)
 | [], i, h => by simp [Oo] at h
 | x :: l, i, h => by
  unfold Oo at h
  split at h
  ·rename_i c
   cases i with
   | zero => exact c
   | succ i => exact Ane (l := l) (by omega)
  ·omega
theorem Ape : ∀ {l : List Int}, Oo l < l.length -> ¬ isF (l.getD (Oo l) 0)
 | [], h => by simp [Oo] at h
 | x :: l, h => by
  unfold Oo at h ⊢
  split
  ·rename_i c
   rw [if_pos c] at h
   exact Ape (l := l) (by simp only [List.length_cons] at h; omega)
  ·rename_i c; exact c
theorem A38 (x : Int) : O2 ((), ((x, ()), ())) = some ((), ((decide (isF x), ()), ())) := by
 simp only [O2, Zt, Ag, Option.bind_some, Option.isNone_none, Option.isNone_some, Option.isSome_none, Option.isSome_some, Bool.not_true, Bool.not_false, cond_true, cond_false, Ac, Ap, Ar, Ao, ge_iff_le]
 unfold isF
 by_cases h : 48 <= x <;> simp [h]
theorem A7h (s : ByteArray) (hs : s.size <= 1000000) (most : Int) (hm : 0 <= most /\ most <= 1000000) : ∀ (k i : Nat), i + k = min s.size most.toNat -> (∀ j, j < i -> isF ((bytesOf s).getD j 0)) -> i <= Oo (bytesOf s) ->
  Evn (fun j => (F2 j).1 ((), ((s, ()), ((most, ()), (((i : Int), ()), ()))))) ((), ((((min (Oo (bytesOf s)) most.toNat : Nat) : Int), ()), ())) := by
 have hl := Adp (bytesOf s)
 rw [Ss] at hl
 intro k; induction k with
 | zero =>
  intro i h hp hi
  rw [show ((min (Oo (bytesOf s)) most.toNat : Nat) : Int) = (i : Int) by omega]
  refine Evn.some 1 fun j => ?_
  simp only [Va, Iz, Ag, Option.bind_some, Option.isNone_none, Option.isNone_some, Option.isSome_none, Option.isSome_some, Bool.not_true, Bool.not_false, cond_true, cond_false, Ac, Ap, Ar, Ao]
  rw [if_neg (by split <;> omega)]
 | succ k ih =>
  intro i h hp hi
  have hb := As9 s (i := (i : Int)) (by omega) (by omega)
  rw [Int.toNat_natCast] at hb
  by_cases c : isF ((bytesOf s).getD i 0)
  ·have hi' : i + 1 <= Oo (bytesOf s) := by
    by_cases q : i = Oo (bytesOf s)
    ·subst q
     exact absurd c (Ape (by rw [Ss]; omega))
    ·omega
   refine (ih (i + 1) (by omega) (fun j hj => ?_) hi').step fun j => ?_
   ·by_cases q : j = i
    ·subst q; exact c
    ·exact hp j (by omega)
   ·simp only [Va, Iz, Ag, Option.bind_some, Option.isNone_none, Option.isNone_some, Option.isSome_none, Option.isSome_some, Bool.not_true, Bool.not_false, cond_true, cond_false, Ac, Ap, Ar, Ao, Ci, hb, A38]
    rw [if_pos (by split <;> omega), if_pos (by omega), if_pos c, A9 (by omega)]; rfl
  ·have : Oo (bytesOf s) = i := by
    by_cases q : i < Oo (bytesOf s)
    ·exact absurd (Ane q) c
    ·omega
   rw [show ((min (Oo (bytesOf s)) most.toNat : Nat) : Int) = (i : Int) by omega]
   refine Evn.some 1 fun j => ?_
   simp only [Va, Iz, Ag, Option.bind_some, Option.isNone_none, Option.isNone_some, Option.isSome_none, Option.isSome_some, Bool.not_true, Bool.not_false, cond_true, cond_false, Ac, Ap, Ar, Ao, Ci, hb, A38]
   rw [if_pos (by split <;> omega), if_pos (by omega), if_neg c]
theorem A5k (s : ByteArray) (hs : s.size <= 1000000) (most : Int) (hm : 0 <= most /\ most <= 1000000) : Qe ((), ((s, ()), ((most, ()), ()))) = some ((), ((((min (Oo (bytesOf s)) most.toNat : Nat) : Int), ()), ())) := by
 refine ((A7h s hs most hm (min s.size most.toNat) 0 (by omega) (fun j hj => by omega) (Nat.zero_le _)).cast fun j => ?_).lim
 simp only [Rp]; rfl
def J2 (l : List Int) : Int := l.foldl (fun n x => n * 10 + (x - 48)) 0
theorem Qs (l : List Int) (x : Int) : J2 (l ++ [x]) = J2 l * 10 + (x - 48) := by simp [J2]
theorem Vu : ∀ (n : Nat) (l : List Int), l.length = n -> (∀ x ∈ l, isF x) -> 0 <= J2 l /\ J2 l < 10 ^ n
 | 0, [], _, _ => by simp [J2]
 | n + 1, l, hl, h => by
  obtain ⟨m, x, rfl⟩ : ∃ m x, l = m ++ [x] := ⟨l.dropLast, l.getLast (by intro e; rw [e] at hl; cases hl), (List.dropLast_concat_getLast _).symm⟩
  have := Vu n m (by simpa using hl) (fun y hy => h y (by simp [hy]))
  have hx := h x (by simp)
  unfold isF at hx
  rw [Qs, Int.pow_succ]; omega
theorem Aw6 (l : List Int) (h : ∀ x ∈ l, isF x) : ∀ (k i : Nat), i + k = l.length -> J2 (l.take i) <= J2 l := by
 intro k; induction k with
 | zero => intro i hi; rw [List.take_of_length_le (by omega)]; exact Int.le_refl _
 | succ k ih =>
  intro i hi
  have h1 := ih (i + 1) (by omega)
  rw [List.take_succ_eq_append_getElem (by omega), Qs] at h1
  have hx := h (l[i]'(by omega)) (List.getElem_mem _)
  unfold isF at hx
  have := (Vu _ (l.take i) rfl (fun y hy => h y (List.mem_of_mem_take hy))).1
  omega
theorem A2u (s : ByteArray) (limit : Int) (hs : s.size <= 1000) (hf : ∀ x ∈ bytesOf s, isF x) (hlm : 9 <= limit /\ limit <= 10000000000000000000) : ∀ (k i : Nat), i + k = s.size -> J2 ((bytesOf s).take i) <= limit ->
  Evn (fun j => (Er j).1 ((), ((s, ()), ((limit, ()), ((J2 ((bytesOf s).take i), ()), (((s.size : Int), ()), (((i : Int), ()), ()))))))) ((), ((if J2 (bytesOf s) <= limit then J2 (bytesOf s) else 0, ()), ((if J2 (bytesOf s) <= limit then none else some 5, ()), ()))) := by
 have hlen := Ss s
 intro k; induction k with
 | zero =>
  intro i h hv
  rw [List.take_of_length_le (by omega)] at hv ⊢
  rw [if_pos hv, if_pos hv]
  refine Evn.some 1 fun j => ?_
  simp only [Rk, G6, Ag, Option.bind_some, Option.isNone_none, Option.isNone_some, Option.isSome_none, Option.isSome_some, Bool.not_true, Bool.not_false, cond_true, cond_false, Ac, Ap, Ar, Ao]
  rw [if_neg (by omega)]
 | succ k ih =>
  intro i h hv
  have hi : i < (bytesOf s).length := by omega
  have hb := As9 s (i := (i : Int)) (by omega) (by omega)
  rw [Int.toNat_natCast] at hb
  have hg : (bytesOf s).getD i 0 = (bytesOf s)[i] := by rw [List.getD_eq_getElem?_getD, List.getElem?_eq_getElem hi]; rfl
  have hx := hf _ (List.getElem_mem hi)
  unfold isF at hx
  have h0 := (Vu _ ((bytesOf s).take i) rfl (fun y hy => hf y (List.mem_of_mem_take hy))).1
  have hmono := Aw6 (bytesOf s) hf k (i + 1) (by omega)
  rw [List.take_succ_eq_append_getElem hi, Qs] at hmono
  generalize hv0 : J2 ((bytesOf s).take i) = v at *
  generalize hx0 : (bytesOf s)[i] = x at *
  have e1 : Nj .u8 x 48 = x - 48 := by unfold Nj; rw [wrap_u8]; omega
  have e2 : J4 .u64 (x - 48) = x - 48 := by rw [Xq]; omega
  have e3 : Nj .u64 limit (x - 48) = limit - (x - 48) := by rw [A10]; omega
  have e4 : Pg .u64 (limit - (x - 48)) 10 = (limit - (x - 48)) / 10 := by
   unfold Pg
   rw [Int.tdiv_eq_ediv_of_nonneg (by omega), Yd]; omega
  by_cases c : (limit - (x - 48)) / 10 < v
  ·rw [if_neg (by omega), if_neg (by omega)]
   refine Evn.some 1 fun j => ?_
   simp only [Rk, G6, Ag, Option.bind_some, Option.isNone_none, Option.isNone_some, Option.isSome_none, Option.isSome_some, Bool.not_true, Bool.not_false, cond_true, cond_false, Ac, Ap, Ar, Ao, Ci, hb, hg, gt_iff_lt, e1, e2, e3, e4]
   rw [if_pos (by omega), if_pos (by omega), if_pos c]
  ·have := ih (i + 1) (by omega) (by rw [List.take_succ_eq_append_getElem hi, Qs, hx0, hv0]; omega)
   rw [List.take_succ_eq_append_getElem hi, Qs, hx0, hv0] at this
   refine this.step fun j => ?_
   simp only [Rk, G6, Ag, Option.bind_some, Option.isNone_none, Option.isNone_some, Option.isSome_none, Option.isSome_some, Bool.not_true, Bool.not_false, cond_true, cond_false, Ac, Ap, Ar, Ao, Ci, hb, hg, gt_iff_lt, e1, e2, e3, e4]
   rw [if_pos (by omega), if_pos (by omega), if_neg c, Avv, A3h, A9 (by omega), show (v * 10 % 18446744073709551616 + (x - 48)) % 18446744073709551616 = v * 10 + (x - 48) by omega]; rfl
theorem Azl (s : ByteArray) (limit : Int) (hs : s.size <= 1000) (hf : ∀ x ∈ bytesOf s, isF x) (hlm : 9 <= limit /\ limit <= 10000000000000000000) :
  Nc ((), ((s, ()), ((limit, ()), ()))) = some ((), ((if J2 (bytesOf s) <= limit then J2 (bytesOf s) else 0, ()), ((if J2 (bytesOf s) <= limit then none else some 5, ()), ()))) := by
 refine ((A2u s limit hs hf hlm s.size 0 (by omega) (by simp [J2]; omega)).cast fun j => ?_).lim
 simp only [N3]; rfl
def A4h (s : ByteArray) (k : Nat) : Int := J2 ((bytesOf s).take k)
theorem A1y {s : ByteArray} {k : Nat} (h : k <= Oo (bytesOf s)) : ∀ x ∈ (bytesOf s).take k, isF x := by
 intro x hx
 obtain ⟨i, hi, rfl⟩ := List.getElem_of_mem hx
 have hl := Adp (bytesOf s)
 rw [List.length_take] at hi
 have := Ane (l := bytesOf s) (i := i) (by omega)
 rw [List.getElem_take]
 rwa [List.getD_eq_getElem?_getD, List.getElem?_eq_getElem (by omega)] at this
def A0l (s : ByteArray) (least most limit : Int) : Int :=
 if least < 1 \/ most < least \/ 20 < most then 1 else if ((min (Oo (bytesOf s)) most.toNat : Nat) : Int) < least then 2 else if A4h s (min (Oo (bytesOf s)) most.toNat) <= limit then 0 else 5
def Awk (s : ByteArray) (most : Int) : Nat := min (Oo (bytesOf s)) most.toNat
theorem A2a (s : ByteArray) (hs : s.size <= 1000000) (least most limit : Int) (hlm : 9 <= limit /\ limit <= 10000000000000000000) : Kr ((), ((s, ()), ((least, ()), ((most, ()), ((limit, ()), ()))))) =
  some ((), ((if A0l s least most limit = 0 then A4h s (Awk s most) else 0, ()), ((if A0l s least most limit = 0 then (Awk s most : Int) else 0, ()), ((Anl (A0l s least most limit), ()), ())))) := by
 simp only [Kr, V9, Ag, Option.bind_some, Option.isNone_none, Option.isNone_some, Option.isSome_none, Option.isSome_some, Bool.not_true, Bool.not_false, cond_true, cond_false, Ac, Ap, Ar, Ao, gt_iff_lt]
 unfold A0l
 by_cases c : least < 1 \/ most < least \/ 20 < most
 ·rw [if_pos c]
  simp only [show ((1 : Int) = 0) = False by simp, if_false]
  by_cases c1 : least < 1
  ·rw [if_pos c1]; rfl
  ·rw [if_neg c1]
   by_cases c2 : most < least
   ·rw [if_pos c2]; rfl
   ·rw [if_neg c2, if_pos (by omega)]; rfl
 ·rw [if_neg c, if_neg (by omega), if_neg (by omega), if_neg (by omega), A5k s hs most (by omega)]
  simp only [Option.bind_some]
  have hl := Adp (bytesOf s)
  rw [Ss] at hl
  by_cases c1 : ((min (Oo (bytesOf s)) most.toNat : Nat) : Int) < least
  ·rw [if_pos c1, if_pos c1]
   simp only [show ((2 : Int) = 0) = False by simp, if_false]; rfl
  ·rw [if_neg c1, if_neg c1]
   have hcut : bytesOf (s.extract 0 (min (Oo (bytesOf s)) most.toNat)) = (bytesOf s).take (min (Oo (bytesOf s)) most.toNat) := by rw [Akz, List.drop_zero]
   have hv := Azl (s.extract 0 (min (Oo (bytesOf s)) most.toNat)) limit (by rw [<- Ss, hcut, List.length_take]; omega) (by rw [hcut]; exact A1y (Nat.min_le_left _ _)) hlm
   rw [hcut] at hv
   simp only [Ci, Ac, Int.toNat_natCast, show (0 : Int).toNat = 0 from rfl]
   rw [if_pos (by omega), hv]
   simp only [Ag, Option.bind_some, Option.isNone_none, Option.isNone_some, Option.isSome_none, Option.isSome_some, Bool.not_true, Bool.not_false, cond_true, cond_false, Ac, Ap, Ar, Ao]
   show _ = some ((), ((if (if A4h s (min (Oo (bytesOf s)) most.toNat) <= limit then (0 : Int) else 5) = 0 then A4h s (Awk s most) else 0, ()), ((if (if A4h s (min (Oo (bytesOf s)) most.toNat) <= limit then (0 : Int) else 5) = 0 then (Awk s most : Int) else 0, ()), ((Anl (if A4h s (min (Oo (bytesOf s)) most.toNat) <= limit then 0 else 5), ()), ()))))
   unfold A4h Awk
   by_cases c2 : J2 ((bytesOf s).take (min (Oo (bytesOf s)) most.toNat)) <= limit
   ·simp only [c2, if_true, Ag, Option.bind_some, Option.isNone_none, Option.isNone_some, Option.isSome_none, Option.isSome_some, Bool.not_true, Bool.not_false, cond_true, cond_false, Ac, Ap, Ar, Ao]; rfl
   ·simp only [c2, if_false, Ag, Option.bind_some, Option.isNone_none, Option.isNone_some, Option.isSome_none, Option.isSome_some, Bool.not_true, Bool.not_false, cond_true, cond_false, Ac, Ap, Ar, Ao]; rfl
inductive X
 | good (l : List Int)
 | bad (i : Nat) (c : Int)
def X.at (n : Nat) : X -> Int
 | .good l => ((n - l.length : Nat) : Int)
 | .bad i _ => (i : Int)
def X.er : X -> Option Int
 | .good _ => none
 | .bad _ c => some c
def X.rest : X -> List Int
 | .good l => l
 | .bad _ _ => []
def X.wf (s : ByteArray) : X -> Prop
 | .good l => ∃ p, bytesOf s = p ++ l
 | .bad i _ => i <= s.size
@[reducible] def X.t (s : ByteArray) (x : X) : (ByteArray × (Int × (Option Int × Unit))) × Unit := ((s, (x.at s.size, (x.er, ()))), ())
@[reducible] def X.p (s : ByteArray) (x : X) : Option (ByteArray × (Int × Option Int)) := some (s, (x.at s.size, x.er))
theorem X.wf_good {s : ByteArray} {l : List Int} (h : X.wf s (.good l)) : I6 l /\ l.length <= s.size /\ (bytesOf s).drop (s.size - l.length) = l := by
 obtain ⟨p, hp⟩ := h
 have hl := Ss s
 rw [hp, List.length_append] at hl
 refine ⟨fun x hx => A50 s x (by rw [hp]; exact List.mem_append_right _ hx), by omega, ?_⟩
 rw [hp, show s.size - l.length = p.length by omega, List.drop_left]
theorem X.at_range {s : ByteArray} {x : X} (h : x.wf s) : 0 <= x.at s.size /\ x.at s.size <= s.size := by
 cases x with
 | good l => simp only [X.at]; omega
 | bad i c => simp only [X.at, X.wf] at *; omega
theorem X.ok_rest {s : ByteArray} {x : X} (h : x.wf s) : I6 x.rest /\ x.rest.length <= s.size := by
 cases x with
 | good l => exact ⟨(X.wf_good h).1, (X.wf_good h).2.1⟩
 | bad i c => exact ⟨(fun x hx => by cases hx), Nat.zero_le _⟩
theorem X.wf_cut {s : ByteArray} {l : List Int} (h : X.wf s (.good l)) (k : Nat) : X.wf s (.good (l.drop k)) := by
 obtain ⟨p, hp⟩ := h
 exact ⟨p ++ l.take k, by rw [hp, List.append_assoc, List.take_append_drop]⟩
theorem Zo : (⟨#[]⟩ : ByteArray) = As [] := by kernel_rfl
theorem A2z (s : ByteArray) : Db ((), ((s, ()), ())) = some ((X.good (bytesOf s)).t s, ((), ())) := by
 simp only [Db, Rh, X.t, X.at, X.er, Ss, Nat.sub_self]; rfl
theorem Xs (s : ByteArray) (x : X) (h : x.wf s) : A3 ((), ((x.p s, ()), ())) = some ((), ((As x.rest, ()), ())) := by
 cases x with
 | good l =>
  obtain ⟨h1, h2, h3⟩ := X.wf_good h
  simp only [A3, Fq, X.p, X.at, X.er, X.rest, Ag, Option.bind_some, Option.isNone_none, Option.isNone_some, Option.isSome_none, Option.isSome_some, Bool.not_true, Bool.not_false, cond_true, cond_false, Ac, Ap, Ar, Ao, Ci, Int.toNat_natCast]
  rw [if_pos (by omega)]
  congr 4
  apply Ak5
  rw [Akz, Iu h1]
  rw [show s.size = (bytesOf s).length from (Ss s).symm, List.take_length, Ss s, h3]
 | bad i c =>
  simp only [A3, Fq, X.p, X.at, X.er, X.rest, Ag, Option.bind_some, Option.isNone_none, Option.isNone_some, Option.isSome_none, Option.isSome_some, Bool.not_true, Bool.not_false, cond_true, cond_false, Ac, Ap, Ar, Ao, Zo]
theorem Aea (l : List Int) : ((As l).toList == (As []).toList) = decide (l = []) := by
 cases l with
 | nil => simp
 | cons x l =>
  rw [Ax9]
  have : (bytesOf (As (x :: l))).length ≠ 0 := by rw [Ss, Ce]; simp
  rw [decide_eq_decide]
  constructor
  ·intro q; rw [q] at this; exact absurd rfl this
  ·intro q; cases q
theorem Azh (s : ByteArray) (x : X) (h : x.wf s) : De ((), ((x.p s, ()), ())) = some ((), ((x.rest.headD 0, ()), ((decide (x.rest ≠ []), ()), ()))) := by
 simp only [De, Jf, Xs s x h, Ag, Option.bind_some, Option.isNone_none, Option.isNone_some, Option.isSome_none, Option.isSome_some, Bool.not_true, Bool.not_false, cond_true, cond_false, Ac, Ap, Ar, Ao, Zo, Aea]
 have ho := (X.ok_rest h).1
 cases hr : x.rest with
 | nil => simp
 | cons a l =>
  rw [hr] at ho
  have hb := As9 (As (a :: l)) (i := 0) (by omega) (by rw [Ce]; simp)
  rw [Iu ho] at hb
  simp only [hb, Ce, Ci, Ag, Option.bind_some, Option.isNone_none, Option.isNone_some, Option.isSome_none, Option.isSome_some, Bool.not_true, Bool.not_false, cond_true, cond_false, Ac, Ap, Ar, Ao, List.length_cons]
  rw [if_neg (by simp), if_pos (by omega)]
  simp
theorem Adh (s : ByteArray) (x : X) : Bt ((), ((x.p s, ()), ())) = some ((), ((x.er.isNone, ()), ())) := by
 simp only [Bt, Iy, X.p, Ag, Option.bind_some, Option.isNone_none, Option.isNone_some, Option.isSome_none, Option.isSome_some, Bool.not_true, Bool.not_false, cond_true, cond_false, Ac, Ap, Ar, Ao]
theorem A15 (s : ByteArray) (x : X) : Dq ((), ((x.p s, ()), ())) = some ((), ((x.er, ()), ())) := by
 simp only [Dq, J3, X.p, Ag, Option.bind_some, Option.isNone_none, Option.isNone_some, Option.isSome_none, Option.isSome_some, Bool.not_true, Bool.not_false, cond_true, cond_false, Ac, Ap, Ar, Ao]
theorem Ajd (s : ByteArray) (x : X) (h : x.wf s) : Bx ((), ((x.p s, ()), ())) = some ((), (((x.rest.length : Int), ()), ())) := by
 simp only [Bx, Jc, Xs s x h, Ag, Option.bind_some, Option.isNone_none, Option.isNone_some, Option.isSome_none, Option.isSome_some, Bool.not_true, Bool.not_false, cond_true, cond_false, Ac, Ap, Ar, Ao, Ce]
def X.end : X -> Option Int
 | .good l => if l = [] then none else some 2
 | .bad _ c => some c
theorem Ac8 (s : ByteArray) (x : X) (h : x.wf s) : Be ((), ((x.p s, ()), ())) = some ((), ((x.end, ()), ())) := by
 simp only [Be, J0, A15, Ajd s x h, Ag, Option.bind_some, Option.isNone_none, Option.isNone_some, Option.isSome_none, Option.isSome_some, Bool.not_true, Bool.not_false, cond_true, cond_false, Ac, Ap, Ar, Ao]
 cases x with
 | good l =>
  cases l with
  | nil => simp [X.er, X.rest, X.end]
  | cons a l => simp [X.er, X.rest, X.end]
 | bad i c => simp [X.er, X.end]
theorem A3e (l : List Int) (h : l.length <= 1000000) : H5 ((), ((As l, ()), ())) = some ((), ((As l, ()), ())) := by
 have : D3 ((), ((As l, ()), ())) = some ((), ((As l, ()), ())) := by
  show Xr _ = _
  unfold Xr
  rw [if_pos (by simp only [Ce]; omega)]
 simp only [H5, Uk, this, Ag, Option.bind_some, Option.isNone_none, Option.isNone_some, Option.isSome_none, Option.isSome_some, Bool.not_true, Bool.not_false, cond_true, cond_false, Ac, Ap, Ar, Ao]
def El (k : Nat) : X -> X
 | .good l => .good (l.drop k)
 | .bad i c => .bad i c
theorem Sv {s : ByteArray} {x : X} (h : x.wf s) (k : Nat) : (El k x).wf s := by
 cases x with
 | good l => exact X.wf_cut h k
 | bad i c => exact h
theorem Ac2 (s : ByteArray) (x : X) (h : x.wf s) (hs : s.size <= 1000000) (k : Nat) (hk : k <= x.rest.length) : A2 (x.t s, ((), (((k : Int), ()), ()))) = some ((El k x).t s, ((As (x.rest.take k), ()), ((), ()))) := by
 have ho := X.ok_rest h
 have hr := X.at_range h
 have hc := A3e (x.rest.take k) (by rw [List.length_take]; omega)
 simp only [A2, H0, X.t, Xs s x h, Ag, Option.bind_some, Option.isNone_none, Option.isNone_some, Option.isSome_none, Option.isSome_some, Bool.not_true, Bool.not_false, cond_true, cond_false, Ac, Ap, Ar, Ao, Ce, Aid, List.drop_zero, Int.toNat_natCast, show (0 : Int).toNat = 0 from rfl, Ci, hc, gt_iff_lt]
 rw [if_pos (by omega)]
 by_cases c : k = 0
 ·subst c
  rw [if_neg (by omega)]
  cases x <;> simp only [El, List.drop_zero]
 ·rw [if_pos (by omega)]
  cases x with
  | good l =>
   simp only [El, X.at, X.er, X.rest, List.length_drop] at *
   rw [A9 (by omega)]
   congr 5
   omega
  | bad i q => simp only [X.rest, List.length_nil] at hk; omega
def A3z (c : Int) (x : X) : Bool := decide (x.rest.head? = some c)
theorem Azc (s : ByteArray) (x : X) (h : x.wf s) (hs : s.size <= 1000000) (c : Int) : Cm (x.t s, ((), ((c, ()), ()))) = some ((if A3z c x then El 1 x else x).t s, ((A3z c x, ()), ((), ()))) := by
 simp only [Cm, Ib, X.t, Azh s x h, Ag, Option.bind_some, Option.isNone_none, Option.isNone_some, Option.isSome_none, Option.isSome_some, Bool.not_true, Bool.not_false, cond_true, cond_false, Ac, Ap, Ar, Ao]
 unfold A3z
 cases hr : x.rest with
 | nil => simp
 | cons a l =>
  have ht := Ac2 s x h hs 1 (by rw [hr]; simp)
  simp only [X.t] at ht
  by_cases e : a = c
  ·subst e
   simp only [List.headD_cons, List.head?_cons, ne_eq, reduceCtorEq, not_false_eq_true, decide_true, not_true_eq_false, if_false, if_true]
   rw [show (1 : Int) = ((1 : Nat) : Int) from rfl, ht]
   simp only [Option.bind_some]
  ·have e2 : ¬ (some a = some c) := fun q => e (Option.some.inj q)
   simp only [List.headD_cons, List.head?_cons, ne_eq, reduceCtorEq, not_false_eq_true, decide_true, not_true_eq_false, if_false, e, if_true, e2, decide_false, Bool.false_eq_true]
def Av8 (n : Nat) (c : Int) : X -> X
 | .good l => .bad (n - l.length) c
 | .bad i q => .bad i q
theorem Atx {s : ByteArray} {x : X} (h : x.wf s) (c : Int) : (Av8 s.size c x).wf s := by
 cases x with
 | good l => exact Nat.sub_le _ _
 | bad i q => exact h
theorem Ap1 (s : ByteArray) (x : X) (c : Int) : Bl (x.t s, ((), ((some c, ()), ()))) = some ((Av8 s.size c x).t s, ((), ())) := by
 simp only [Bl, H9, X.t, Adh, Ag, Option.bind_some, Option.isNone_none, Option.isNone_some, Option.isSome_none, Option.isSome_some, Bool.not_true, Bool.not_false, cond_true, cond_false, Ac, Ap, Ar, Ao]
 cases x with
 | good l => simp [X.er, Av8, X.at]
 | bad i q => simp [X.er, Av8, X.at]
def U4 (n a b : Nat) : X -> X × Int
 | .good l => if a <= min (Oo l) b then (.good (l.drop (min (Oo l) b)), J2 (l.take (min (Oo l) b))) else (.bad (n - l.length) 2, 0)
 | .bad i c => (.bad i c, 0)
theorem Arm {s : ByteArray} {x : X} (h : x.wf s) (a b : Nat) : (U4 s.size a b x).1.wf s := by
 cases x with
 | good l =>
  simp only [U4]
  split
  ·exact X.wf_cut h _
  ·exact Nat.sub_le _ _
 | bad i q => exact h
theorem Ao0 {l : List Int} {k : Nat} (h : k <= Oo l) : ∀ x ∈ l.take k, isF x := by
 intro x hx
 obtain ⟨i, hi, rfl⟩ := List.getElem_of_mem hx
 have hl := Adp l
 rw [List.length_take] at hi
 have := Ane (l := l) (i := i) (by omega)
 rw [List.getElem_take]
 rwa [List.getD_eq_getElem?_getD, List.getElem?_eq_getElem (by omega)] at this
theorem Avx (n a b : Nat) (hb : b <= 18) (x : X) : 0 <= (U4 n a b x).2 /\ (U4 n a b x).2 < 10 ^ b := by
 have p1 : (0 : Int) < 10 ^ b := Int.pow_pos (by decide)
 cases x with
 | good l =>
  simp only [U4]
  split
  ·have := Vu _ (l.take (min (Oo l) b)) rfl (Ao0 (Nat.min_le_left _ _))
   refine ⟨this.1, Int.lt_of_lt_of_le this.2 ?_⟩
   have h2 : (l.take (min (Oo l) b)).length <= b := by rw [List.length_take]; omega
   have : 10 ^ (l.take (min (Oo l) b)).length <= 10 ^ b := Nat.pow_le_pow_right (by omega) h2
   exact_mod_cast this
  ·exact ⟨Int.le_refl _, p1⟩
 | bad i q => exact ⟨Int.le_refl _, p1⟩
theorem A5h (l : List Int) (ho : I6 l) (hs : l.length <= 1000000) (a b : Nat) (h : 1 <= a /\ a <= b /\ b <= 18) : K1 ((), ((As l, ()), (((a : Int), ()), (((b : Int), ()), ())))) =
  if a <= min (Oo l) b then some ((), ((J2 (l.take (min (Oo l) b)), ()), ((((min (Oo l) b : Nat) : Int), ()), ((none, ()), ())))) else some ((), ((0, ()), ((0, ()), ((some 2, ()), ())))) := by
 have hf := A2a (As l) (by rw [Ce]; exact hs) a b 9223372036854775807 (by omega)
 have hv := Avx 0 a b h.2.2 (.good l)
 have hp : (10 : Int) ^ b <= 10 ^ 18 := by
  have : 10 ^ b <= 10 ^ 18 := Nat.pow_le_pow_right (by omega) h.2.2
  exact_mod_cast this
 simp only [K1, V8, hf, Option.bind_some]
 unfold A0l Awk A4h
 simp only [Iu ho, Int.toNat_natCast]
 simp only [U4] at hv
 by_cases c : a <= min (Oo l) b
 ·rw [if_pos c] at hv
  simp only at hv
  rw [if_neg (show ¬((a : Int) < 1 \/ (b : Int) < a \/ 20 < (b : Int)) by omega), if_neg (show ¬(((min (Oo l) b : Nat) : Int) < a) by omega), if_pos (show J2 (l.take (min (Oo l) b)) <= 9223372036854775807 by omega), if_pos c, if_pos rfl, if_pos rfl, Ax7 (by omega)]; rfl
 ·rw [if_neg (show ¬((a : Int) < 1 \/ (b : Int) < a \/ 20 < (b : Int)) by omega), if_pos (show ((min (Oo l) b : Nat) : Int) < a by omega), if_neg c, if_neg (by decide), if_neg (by decide)]; rfl
theorem Wk (s : ByteArray) (x : X) (h : x.wf s) (hs : s.size <= 1000000) (a b : Nat) (hab : 1 <= a /\ a <= b /\ b <= 18) : Av (x.t s, ((), (((a : Int), ()), (((b : Int), ()), ())))) = some ((U4 s.size a b x).1.t s, (((U4 s.size a b x).2, ()), ((), ()))) := by
 simp only [Av, Gk, X.t, Adh, Xs s x h, Ag, Option.bind_some, Option.isNone_none, Option.isNone_some, Option.isSome_none, Option.isSome_some, Bool.not_true, Bool.not_false, cond_true, cond_false, Ac, Ap, Ar, Ao]
 cases x with
 | good l =>
  obtain ⟨h1, h2, h3⟩ := X.wf_good h
  have hf := A5h l h1 (by omega) a b hab
  have hll := Adp l
  simp only [X.er, X.rest, Option.isNone_none, Bool.not_true, cond_false, hf]
  by_cases c : a <= min (Oo l) b
  ·have ht := Ac2 s (.good l) h hs (min (Oo l) b) (by simp only [X.rest]; omega)
   simp only [X.t, X.er] at ht
   simp only [if_pos c, Option.bind_some, Option.isNone_none, Bool.not_true, cond_false, ht, U4, X.er]; simp [El, X.er]
  ·simp only [if_neg c, Option.bind_some, U4, X.er, X.at]; simp
 | bad i c => simp [X.er, U4, X.at]
theorem A67 : ∀ (l : List UInt8) (c : UInt8), (0 <= Lib.indexByte l c) ↔ c ∈ l := by
 intro l c
 induction l with
 | nil => simp [Lib.indexByte]
 | cons b l ih =>
  have hg := Lib.indexByte_ge l c
  simp only [Lib.indexByte, List.mem_cons]
  by_cases h : b = c
  ·subst h; simp
  ·have h' : ¬ c = b := fun q => h q.symm
   simp only [beq_iff_eq, h, if_false, h', false_or]
   rw [<- ih]
   by_cases q : Lib.indexByte l c = -1
   ·rw [if_pos q, q]
   ·rw [if_neg q]; omega
theorem Atu (S : List Int) (hS : I6 S) (c : Int) (hc : 0 <= c /\ c < 256) : ∃ v : Int, Et ((), ((As S, ()), ((c, ()), ()))) = some ((), ((v, ()), ())) /\ (0 <= v ↔ c ∈ S) := by
 refine ⟨_, rfl, ?_⟩
 rw [A67]
 have e : bytesOf (As S) = S := Iu hS
 constructor
 ·intro h
  rw [<- e]
  have : ((c.toNat.toUInt8.toNat : Nat) : Int) = c := by
   rw [show c.toNat.toUInt8.toNat = c.toNat % 256 from rfl]; omega
  rw [<- this]
  exact List.mem_map_of_mem (f := fun b : UInt8 => (b.toNat : Int)) h
 ·intro h
  rw [<- e] at h
  obtain ⟨b, hb, hbc⟩ := List.mem_map.1 h
  have : c.toNat.toUInt8 = b := by
   rw [<- hbc]; simp
  simp only [this]; exact hb
def Do (S : List Int) : List Int -> Nat
 | [] => 0
 | x :: l => if x ∈ S then Do S l + 1 else 0
theorem Adw (S : List Int) : ∀ l : List Int, Do S l <= l.length
 | [] => Nat.le_refl _
 | x :: l => by
  unfold Do
  have := Adw S l
  split <;> simp only [List.length_cons] <;> omega
theorem Ars {S : List Int} : ∀ {l : List Int} {i : Nat}, i < Do S l -> l.getD i 0 ∈ S
 | [], i, h => by simp [Do] at h
 | x :: l, i, h => by
  unfold Do at h
  split at h
  ·rename_i c
   cases i with
   | zero => exact c
   | succ i => exact Ars (l := l) (by omega)
  ·omega
theorem Aqg {S : List Int} : ∀ {l : List Int}, Do S l < l.length -> ¬ l.getD (Do S l) 0 ∈ S
 | [], h => by simp [Do] at h
 | x :: l, h => by
  unfold Do at h ⊢
  split
  ·rename_i c
   rw [if_pos c] at h
   exact Aqg (l := l) (by simp only [List.length_cons] at h; omega)
  ·rename_i c; exact c
theorem Ark (s : ByteArray) (x : X) (h : x.wf s) (hs : s.size <= 1000000) (S : List Int) (hS : I6 S) : ∀ (k i : Nat), i + k = x.rest.length -> i <= Do S x.rest ->
  Evn (fun f => (A5 f).1 (x.t s, ((), ((As S, ()), ((As x.rest, ()), (((i : Int), ()), ())))))) ((El (Do S x.rest) x).t s, ((As (x.rest.take (Do S x.rest)), ()), ((), ()))) := by
 have ho := X.ok_rest h
 have hl := Adw S x.rest
 have fin : ∀ i : Nat, i = Do S x.rest -> (i < x.rest.length -> ¬ x.rest.getD i 0 ∈ S) -> Evn (fun f => (A5 f).1 (x.t s, ((), ((As S, ()), ((As x.rest, ()), (((i : Int), ()), ())))))) ((El (Do S x.rest) x).t s, ((As (x.rest.take (Do S x.rest)), ()), ((), ()))) := by
  intro i hi hn
  subst hi
  have ht := Ac2 s x h hs _ hl
  simp only [X.t] at ht
  refine Evn.some 1 fun f => ?_
  simp only [Jb, C9, X.t, Ag, Option.bind_some, Option.isNone_none, Option.isNone_some, Option.isSome_none, Option.isSome_some, Bool.not_true, Bool.not_false, cond_true, cond_false, Ac, Ap, Ar, Ao, Ce, Ci]
  by_cases c : Do S x.rest < x.rest.length
  ·have hb := As9 (As x.rest) (i := ((Do S x.rest : Nat) : Int)) (by omega) (by rw [Ce]; omega)
   rw [Iu ho.1, Int.toNat_natCast] at hb
   have hc := Azb ho.1 (Do S x.rest)
   obtain ⟨v, hv1, hv2⟩ := Atu S hS (x.rest.getD (Do S x.rest) 0) hc
   rw [if_pos (by omega), if_pos (by omega), hb, hv1]
   simp only [Option.bind_some, Ac, ge_iff_le]
   rw [if_neg (fun q => hn c (hv2.1 q)), ht]; rfl
  ·rw [if_neg (by omega), ht]; rfl
 intro k; induction k with
 | zero =>
  intro i hi hr
  exact fin i (by omega) (fun q => by omega)
 | succ k ih =>
  intro i hi hr
  by_cases q : i = Do S x.rest
  ·exact fin i q (fun q2 => by rw [q]; exact Aqg (by omega))
  ·refine (ih (i + 1) (by omega) (by omega)).step fun f => ?_
   have hb := As9 (As x.rest) (i := (i : Int)) (by omega) (by rw [Ce]; omega)
   rw [Iu ho.1, Int.toNat_natCast] at hb
   have hc := Azb ho.1 i
   obtain ⟨v, hv1, hv2⟩ := Atu S hS (x.rest.getD i 0) hc
   simp only [Jb, C9, X.t, Ag, Option.bind_some, Option.isNone_none, Option.isNone_some, Option.isSome_none, Option.isSome_some, Bool.not_true, Bool.not_false, cond_true, cond_false, Ac, Ap, Ar, Ao, Ce, Ci]
   rw [if_pos (by omega), if_pos (by omega), hb, hv1]
   simp only [Option.bind_some, Ac, ge_iff_le]
   rw [if_pos (hv2.2 (Ars (by omega))), A9 (by omega)]; rfl
theorem Vp (s : ByteArray) (x : X) (h : x.wf s) (hs : s.size <= 1000000) (S : List Int) (hS : I6 S) : Bc (x.t s, ((), ((As S, ()), ()))) = some ((El (Do S x.rest) x).t s, ((As (x.rest.take (Do S x.rest)), ()), ((), ()))) := by
 refine ((Ark s x h hs S hS x.rest.length 0 (by omega) (Nat.zero_le _)).cast fun f => ?_).lim
 simp only [E6, X.t, Xs s x h, Option.bind_some]; rfl
@[reducible] def A6y : List Int := [48, 49, 50, 51, 52, 53, 54, 55, 56, 57]
theorem Auh : ∀ l : List Int, Do A6y l = Oo l
 | [] => rfl
 | x :: l => by
  have h : x ∈ A6y ↔ isF x := by
   unfold isF
   simp only [A6y, List.mem_cons, List.not_mem_nil, or_false]; omega
  unfold Do Oo
  rw [Auh l]
  by_cases c : isF x
  ·rw [if_pos c, if_pos (h.2 c)]
  ·rw [if_neg c, if_neg (fun q => c (h.1 q))]
def Ayn (l c : List Int) (i : Nat) : Prop := c.length = l.length /\ ∀ k : Nat, k < l.length -> c.getD k 0 = if k < i \/ l.length - i <= k then l.getD (l.length - 1 - k) 0 else l.getD k 0
theorem Avk (l : List Int) (i k : Nat) (x : Int) (hi : i < l.length) : (l.set i x).getD k 0 = if k = i then x else l.getD k 0 := by
 simp only [List.getD_eq_getElem?_getD, List.getElem?_set]
 by_cases h : i = k
 ·subst h; simp [hi]
 ·rw [if_neg h, if_neg (Ne.symm h)]
theorem Al3 {l c : List Int} {i : Nat} (h : Ayn l c i) (hi : l.length <= 2 * i + 1) : c = l.reverse := by
 refine List.ext_getElem (by rw [h.1, List.length_reverse]) fun k h1 h2 => ?_
 have hk : k < l.length := by rw [<- h.1]; exact h1
 have := h.2 k hk
 rw [List.getElem_reverse]
 simp only [List.getD_eq_getElem?_getD, List.getElem?_eq_getElem h1, Option.getD_some] at this
 rw [this]
 by_cases c1 : k < i \/ l.length - i <= k
 ·rw [if_pos c1, List.getElem?_eq_getElem (by omega)]; rfl
 ·rw [if_neg c1, List.getElem?_eq_getElem hk]
  simp only [Option.getD_some]
  congr 1
  omega
theorem Awr (l : List Int) (hl : l.length <= 1000000) : ∀ (m i : Nat) (c : List Int), l.length <= 2 * i + m -> Ayn l c i -> i <= l.length ->
  Evn (fun k => (Bd k).1 ((c, ()), ((), (((i : Int), ()), (((l.length : Int) - 1 - i, ()), ()))))) ((l.reverse, ()), ((), ())) := by
 intro m; induction m with
 | zero =>
  intro i c h ht hi
  rw [<- Al3 ht (by omega)]
  refine Evn.some 1 fun k => ?_
  simp only [Fd, Cb, Ag, Option.bind_some, Option.isNone_none, Option.isNone_some, Option.isSome_none, Option.isSome_some, Bool.not_true, Bool.not_false, cond_true, cond_false, Ac, Ap, Ar, Ao]
  rw [if_neg (by omega)]
 | succ m ih =>
  intro i c h ht hi
  by_cases e : l.length <= 2 * i + 1
  ·rw [<- Al3 ht e]
   refine Evn.some 1 fun k => ?_
   simp only [Fd, Cb, Ag, Option.bind_some, Option.isNone_none, Option.isNone_some, Option.isSome_none, Option.isSome_some, Bool.not_true, Bool.not_false, cond_true, cond_false, Ac, Ap, Ar, Ao]
   rw [if_neg (by omega)]
  ·obtain ⟨h1, h2⟩ := ht
   have e1 : (((l.length : Int) - 1 - i).toNat) = l.length - 1 - i := by omega
   have hT : Ayn l ((c.set i (c.getD (l.length - 1 - i) 0)).set (l.length - 1 - i) (c.getD i 0)) (i + 1) := by
    refine ⟨by simp [h1], fun k hk => ?_⟩
    have hki := h2 i (by omega)
    have hkj := h2 (l.length - 1 - i) (by omega)
    have hkk := h2 k hk
    rw [if_neg (by omega)] at hki
    rw [if_neg (by omega)] at hkj
    rw [Avk _ _ _ _ (by simp; omega), Avk _ _ _ _ (by omega), hki, hkj]
    by_cases k1 : k = l.length - 1 - i
    ·subst k1
     rw [if_pos rfl, if_pos (by omega)]
     congr 1
     omega
    ·rw [if_neg k1]
     by_cases k2 : k = i
     ·subst k2
      rw [if_pos rfl, if_pos (by omega)]
     ·rw [if_neg k2, hkk]
      by_cases k3 : k < i \/ l.length - i <= k
      ·rw [if_pos k3, if_pos (by omega)]
      ·rw [if_neg k3, if_neg (by omega)]
   have := ih (i + 1) _ (by omega) hT (by omega)
   refine this.step fun k => ?_
   simp only [Fd, Cb, Ag, Option.bind_some, Option.isNone_none, Option.isNone_some, Option.isSome_none, Option.isSome_some, Bool.not_true, Bool.not_false, cond_true, cond_false, Ac, Ap, Ar, Ao, Ci, A8g, e1, Int.toNat_natCast, List.length_set]
   rw [if_pos (by omega), if_pos (by omega), if_pos (by omega), if_pos (by omega), if_pos (by omega), A9 (by omega), C5 (by omega)]
   rw [show (l.length : Int) - 1 - ((i + 1 : Nat) : Int) = (l.length : Int) - 1 - i - 1 by omega]
   rfl
theorem Ayr (l : List Int) (hl : l.length <= 1000000) : Du ((l, ()), ((), ())) = some ((l.reverse, ()), ((), ())) := by
 have := Awr l hl l.length 0 l (by omega) ⟨rfl, fun k hk => by rw [if_neg (by omega)]⟩ (by omega)
 refine (this.cast fun k => ?_).lim
 simp only [Ep]
 rw [C5 (by omega)]
 simp only [Int.natCast_zero, Int.sub_zero]
def Ags (n : Nat) : List Int := if h : n = 0 then [] else (48 + (n % 10 : Nat) : Int) :: Ags (n / 10)
termination_by n
decreasing_by omega
theorem Kx : Ags 0 = [] := by rw [Ags]; rfl
theorem Yz {n : Nat} (h : n ≠ 0) : Ags n = (48 + (n % 10 : Nat) : Int) :: Ags (n / 10) := by rw [Ags, dif_neg h]
theorem Agm : ∀ (k n : Nat), n < 10 ^ k -> (Ags n).length <= k
 | 0, n, h => by
  have : n = 0 := by simpa using h
  subst this; rw [Kx]; exact Nat.le_refl _
 | k + 1, n, h => by
  by_cases c : n = 0
  ·subst c; rw [Kx]; exact Nat.zero_le _
  ·rw [Yz c, List.length_cons]
   have := Agm k (n / 10) (by rw [Nat.pow_succ] at h; omega)
   omega
theorem A6i (n : Nat) : ∀ x ∈ Ags n, 48 <= x /\ x <= 57 := by
 induction n using Nat.strongRecOn with
 | _ n ih =>
  intro x hx
  by_cases c : n = 0
  ·subst c; rw [Kx] at hx; cases hx
  ·rw [Yz c] at hx
   rcases List.mem_cons.1 hx with rfl | hx
   ·omega
   ·exact ih (n / 10) (by omega) x hx
def Aoh (n w : Nat) : List Int := List.replicate (max w 1 - (Ags n).length) 48 ++ (Ags n).reverse
theorem u64_in {x : Int} (h : 0 <= x /\ x <= 18446744073709551615) : IntKind.u64.wrap x = x := IntWalk.u64_in x h
theorem A8b {x : Int} (h : 0 <= x /\ x <= 255) : IntKind.u8.wrap x = x := by rw [wrap_u8]; omega
theorem A2e (n : Nat) : Cr .u8 48 (J4 .u8 (Int.tmod (n : Int) 10)) = 48 + ((n % 10 : Nat) : Int) := by
 rw [A56 (by omega)]
 unfold Cr J4
 rw [A8b (x := (n : Int) % 10) (by omega), A8b (by omega)]; omega
theorem A27 {a c : Int} (hc : 0 < c) (h : 0 <= a /\ a <= 18446744073709551615) : Pg .u64 a c = a / c := by
 unfold Pg
 rw [Int.tdiv_eq_ediv_of_nonneg h.1]
 exact u64_in ⟨Int.ediv_nonneg h.1 (by omega), Int.le_trans (Int.ediv_le_self _ h.1) h.2⟩
theorem A73 (w : Int) (hw : w <= 100) : ∀ (k : Nat) (n : Nat) (out : List Int), n < 18446744073709551616 -> (Ags n).length + (max w 1 - out.length - (Ags n).length).toNat <= k -> out.length + k <= 1000 ->
  Evn (fun j => (Gb j).1 ((out, ()), (((n : Int), ()), ((w, ()), ((), ()))))) ((), ((As (List.replicate (max w 1 - out.length - (Ags n).length).toNat 48 ++ (out ++ Ags n).reverse), ()), ())) := by
 intro k; induction k with
 | zero =>
  intro n out hn hk hl
  have hf : (Ags n).length = 0 := by omega
  have hn0 : n = 0 := by
   by_cases c : n = 0
   ·exact c
   ·rw [Yz c] at hf; simp at hf
  subst hn0
  rw [Kx, List.append_nil, show (max w 1 - out.length - ([] : List Int).length).toNat = 0 by rw [Kx] at hk; omega]
  refine Evn.some 1 fun j => ?_
  simp only [Ql, G2, Ayr out (by omega), Ag, Option.bind_some, Option.isNone_none, Option.isNone_some, Option.isSome_none, Option.isSome_some, Bool.not_true, Bool.not_false, cond_true, cond_false, Ac, Ap, Ar, Ao, gt_iff_lt]
  rw [if_neg (by omega), if_neg (by rw [Kx] at hk; simp only [List.length_nil] at hk; split <;> omega)]
  simp
 | succ k ih =>
  intro n out hn hk hl
  have hlen : (out ++ [48 + ((n % 10 : Nat) : Int)]).length = out.length + 1 := by simp
  by_cases c : n = 0
  ·subst c
   rw [Kx] at hk ⊢
   simp only [List.length_nil] at hk ⊢
   by_cases c2 : (out.length : Int) < max w 1
   ·have := ih 0 (out ++ [48]) (by omega) (by rw [Kx]; simp; omega) (by simp; omega)
    rw [Kx, List.append_nil] at this
    rw [List.append_nil]
    have e : List.replicate (max w 1 - out.length - 0).toNat (48 : Int) ++ out.reverse = List.replicate (max w 1 - (out ++ [48]).length - ([] : List Int).length).toNat 48 ++ (out ++ [48]).reverse := by
     rw [show (max w 1 - (out.length : Int) - 0).toNat = (max w 1 - ((out ++ [(48 : Int)]).length : Int) - (([] : List Int).length : Int)).toNat + 1 by simp; omega]
     rw [List.replicate_succ', List.append_assoc, List.reverse_append]
     rfl
    have e' : ((0 : Int)) = (([] : List Int).length : Int) := rfl
    rw [show (max w 1 - (out.length : Int) - ((0 : Nat) : Int)) = (max w 1 - (out.length : Int) - 0) from rfl, e]
    refine this.step fun j => ?_
    simp only [Ql, G2, Ag, Option.bind_some, Option.isNone_none, Option.isNone_some, Option.isSome_none, Option.isSome_some, Bool.not_true, Bool.not_false, cond_true, cond_false, Ac, Ap, Ar, Ao, gt_iff_lt, Ci, List.length_cons, List.length_nil]
    rw [if_neg (by omega), if_pos (by split <;> omega), if_pos (by omega)]
    rfl
   ·have e : (max w 1 - (out.length : Int) - ((0 : Nat) : Int)).toNat = 0 := by omega
    rw [e, List.append_nil]
    refine Evn.some 1 fun j => ?_
    simp only [Ql, G2, Ayr out (by omega), Ag, Option.bind_some, Option.isNone_none, Option.isNone_some, Option.isSome_none, Option.isSome_some, Bool.not_true, Bool.not_false, cond_true, cond_false, Ac, Ap, Ar, Ao, gt_iff_lt]
    rw [if_neg (by omega), if_neg (by split <;> omega)]
    simp
  ·have hfl : (Ags n).length = (Ags (n / 10)).length + 1 := by rw [Yz c]; rfl
   have := ih (n / 10) (out ++ [48 + ((n % 10 : Nat) : Int)]) (by omega) (by rw [hlen]; omega) (by rw [hlen]; omega)
   rw [hlen, show (max w 1 - ((out.length + 1 : Nat) : Int) - ((Ags (n / 10)).length : Int)).toNat = (max w 1 - (out.length : Int) - ((Ags n).length : Int)).toNat by omega,
    show (out ++ [48 + ((n % 10 : Nat) : Int)]) ++ Ags (n / 10) = out ++ Ags n by rw [Yz c]; simp] at this
   refine this.step fun j => ?_
   simp only [Ql, G2, Ag, Option.bind_some, Option.isNone_none, Option.isNone_some, Option.isSome_none, Option.isSome_some, Bool.not_true, Bool.not_false, cond_true, cond_false, Ac, Ap, Ar, Ao, gt_iff_lt, Ci, A2e, List.length_cons, List.length_nil]
   rw [if_pos (by omega), if_pos (by omega), A27 (by omega) (by omega)]
   rfl
theorem Ayf (n : Nat) (w : Int) (hn : n < 18446744073709551616) (hw : w <= 100) : L2 ((), (((n : Int), ()), ((w, ()), ()))) = some ((), ((As (Aoh n w.toNat), ()), ())) := by
 have hl := Agm 20 n (by omega)
 have := A73 w hw 200 n [] hn (by simp only [List.length_nil]; omega) (by simp)
 rw [List.nil_append] at this
 have e : List.replicate (max w 1 - (([] : List Int).length : Int) - ((Ags n).length : Int)).toNat (48 : Int) ++ (Ags n).reverse = Aoh n w.toNat := by
  unfold Aoh
  congr 2
  simp only [List.length_nil]; omega
 rw [e] at this
 refine (this.cast fun j => ?_).lim
 simp only [Q8]
def A6t (a : Int) : Prop := -9223372036854775808 <= a /\ a <= 9223372036854775807
theorem A3l (x : Int) (l : List Int) : As [x] ++ As l = As (x :: l) := by rw [A0e]; rfl
theorem A71 : (⟨#[45]⟩ : ByteArray) = As [45] := by kernel_rfl
theorem A5x : (⟨#[]⟩ : ByteArray) = As [] := by kernel_rfl
theorem At7 (n : Nat) (w : Nat) (hn : n < 18446744073709551616) (hw : w <= 20) : (Aoh n w).length <= 20 := by
 have hl := Agm 20 n (by omega)
 unfold Aoh
 simp only [List.length_append, List.length_replicate, List.length_reverse]
 omega
def A9a (v w : Int) : List Int := if v < 0 then 45 :: Aoh v.natAbs w.toNat else Aoh v.natAbs w.toNat
def A8w (w : Int) : Int := if w < 0 \/ 20 < w then 1 else 0
theorem A4w (v w : Int) (hv : A6t v) : J5 ((), ((v, ()), ((w, ()), ()))) = some ((), ((if A8w w = 0 then As (A9a v w) else As [], ()), ((Anl (A8w w), ()), ()))) := by
 unfold A6t at hv
 simp only [J5, Xw, Ag, Option.bind_some, Option.isNone_none, Option.isNone_some, Option.isSome_none, Option.isSome_some, Bool.not_true, Bool.not_false, cond_true, cond_false, Ac, Ap, Ar, Ao, gt_iff_lt, A5x]
 unfold A8w A9a
 by_cases c : w < 0 \/ 20 < w
 ·simp only [c, if_true, show ((1 : Int) = 0) = False by simp, if_false]
  by_cases c1 : w < 0
  ·rw [if_pos c1]; rfl
  ·rw [if_neg c1, if_pos (by omega)]; rfl
 ·simp only [c, if_false, if_true]
  rw [if_neg (by omega), if_neg (by omega)]
  by_cases c2 : v < 0
  ·have e : A9g .u64 (J4 .u64 v) = (v.natAbs : Int) := by
    unfold A9g; rw [Xq, Yd]; omega
   have hl := At7 v.natAbs w.toNat (by omega) (by omega)
   rw [if_pos c2, if_pos c2, e, Ayf _ _ (by omega) (by omega)]
   simp only [Ag, Option.bind_some, Option.isNone_none, Option.isNone_some, Option.isSome_none, Option.isSome_some, Bool.not_true, Bool.not_false, cond_true, cond_false, Ac, Ap, Ar, Ao, A71, Ce, A3l, List.length_cons, List.length_nil]
   rw [if_pos (by omega)]; rfl
  ·rw [if_neg c2, if_neg c2, Xq, show v % 18446744073709551616 = ((v.natAbs : Nat) : Int) by omega, Ayf _ _ (by omega) (by omega)]
   rfl
theorem Axb {l : List Int} (h : ∀ x ∈ l, isF x) : I6 l := fun x hx => by
 have := h x hx
 unfold isF at this; omega
theorem At1 (n w : Nat) : ∀ x ∈ Aoh n w, isF x := by
 intro x hx
 unfold Aoh at hx
 rcases List.mem_append.1 hx with h | h
 ·rw [(List.mem_replicate.1 h).2]; unfold isF; omega
 ·exact A6i n x (List.mem_reverse.1 h)
theorem A40 (n w : Nat) : I6 (Aoh n w) := Axb (At1 n w)
theorem Aw1 (v w : Int) (h : 0 <= v /\ v <= 9223372036854775807) (hw : 0 <= w /\ w <= 20) : J5 ((), ((v, ()), ((w, ()), ()))) = some ((), ((As (Aoh v.toNat w.toNat), ()), ((none, ()), ()))) := by
 have e : A8w w = 0 := if_neg (by omega)
 rw [A4w v w (by unfold A6t; omega), e, if_pos rfl]
 unfold A9a
 rw [if_neg (by omega), show v.natAbs = v.toNat by omega]; rfl
theorem A3i (l m : List Int) (h : l.length + m.length <= 1000000) : Apc (As l) (As m) = true := by
 rw [Ag, Ce, Ce]; exact decide_eq_true (by omega)
theorem Anr (l m : List Int) (hl : I6 l) (hm : I6 m) : ((As l).toList == (As m).toList) = decide (l = m) := by
 rw [Ax9, Iu hl, Iu hm]
theorem Agq : I6 [] := fun x h => by cases h
theorem Ao8 {x : Int} {l : List Int} (hx : 0 <= x /\ x < 256) (h : I6 l) : I6 (x :: l) := fun y hy => by
 rcases List.mem_cons.1 hy with rfl | q
 ·exact hx
 ·exact h y q
end Go.Proofs.YtcnngodgngmghaaGreatDoor.Ev
