/- Own texts, put together: see the row's text for what is proved. -/
import Derived.Test.YtcnngodgngmghaaGreatDoorPkListPuts2
namespace Go.Proofs.YtcnngodgngmghaaGreatDoor.Ev
open Go
open Go.RowKit
set_option linter.unusedVariables false
set_option linter.unusedSimpArgs false
set_option linter.unusedSectionVars false
noncomputable section
section
variable {R : Type}
def Bb6 (g : (St -> Option R) -> St -> Option R) : Nat -> St -> Option R
 | 0 => fun _ => none
 | n + 1 => g (Bb6 g n)
def evU (E : Env) (fuel : Nat) : Code -> Agf R -> St -> Option R
 | .skip, K, st => K.normal st
 | .region id ops draw, K, st => bif draw then Avt E ops.toList (Z5 E st (Ap3 E.frz (some (1000000 + id)))) K.normal else Axg E ops.toList ops.toList st K.normal
 | .seq a b, K, st => evU E fuel a { K with normal := evU E fuel b K } st
 | .cond c a b, K, st =>
  match c with
  | .tmp t => match Hf st.slots t with
   | .val .bool x => cond x (evU E fuel a K ⟨Xm st.slots t (.val .bool true), st.bs⟩) (evU E fuel b K ⟨Xm st.slots t (.val .bool false), st.bs⟩)
   | _ => none
  | .const (.bool x) => cond x (evU E fuel a K st) (evU E fuel b K st)
  | _ => none
 | .block i b, K, st => evU E fuel b { K with exits := (i, K.normal) :: K.exits } st
 | .loop b, K, st => Bb6 (fun k => evU E fuel b { K with normal := k }) fuel st
 | .exit i, K, st => Mi K.exits i st
 | .ret, K, st => K.ret st
 | .scope b, K, st => evU E fuel b K st
 | .label _, K, st => K.normal st
 | _, _, _ => none
def A0j : List AV -> Bool
 | [] => true
 | .tup _ :: _ => false
 | _ :: l => A0j l
def Ba6 (E : Env) (rs : List RV) (K : AV -> Ag -> Option R) (st : St) : Option R :=
 match Yj E st rs with
 | some l => bif A0j l then K (Aj1 l) st.bs else none
 | none => none
end
def A0p (E : Env) (body : Code) (np nt fuel : Nat) (rs : List RV) : O4 :=
 ⟨fun dd args bs R K => bif Nat.beq (Uf args) np && Nat.ble np nt then
  evU { E with base := Be dd, keep := [] } fuel body ⟨Ba6 E rs K, Ba6 E rs K, []⟩ ⟨A38 args (A8f (nt - np)), bs⟩ else none, none⟩
section
variable {P : Program} {E : Env} {R : Type} {Rl : A3u} {out : R}
theorem Lr {fuel : Nat} (hreg : A3n (R := R) P E Rl out) (hdr : Ari (R := R) P E Rl out) (hc : Ar4 Rl) : ∀ (c : Code) (K : Agf R) (Q : O8) (st : St) (a : Act) (w : World),
  Axw Rl out K Q -> Rl st a w -> evU E fuel c K st = some out -> c.wp P Q a w
 | .skip, K, Q, st, a, w, hg, hr, he => wp_skip (hg.normal _ _ _ hr he)
 | .region id ops draw, K, Q, st, a, w, hg, hr, he => by
  simp only [evU] at he
  cases draw with
  | true => have hd := hdr id ops st K.normal a w Q hr he (fun st' a' w' h1 _ h2 => hg.normal _ _ _ h1 h2); exact wp_region_any hd.1 hd.2
  | false => exact wp_region_list (by simpa using hreg ops.toList ops.toList st K.normal a w Q hr he (fun st' a' w' h1 h2 => hg.normal _ _ _ h1 h2))
 | .seq x y, K, Q, st, a, w, hg, hr, he => by
  refine wp_seq ?_
  exact Lr hreg hdr hc x _ _ st a w (Adg hg fun st' a' w' hr' hn => Lr hreg hdr hc y K Q st' a' w' hg hr' hn) hr he
 | .cond c x y, K, Q, st, a, w, hg, hr, he => by
  simp only [evU] at he
  cases c with
  | tmp t =>
   simp only at he
   split at he
   ·rename_i b hb
    refine wp_cond (t := b) (hc.yes _ _ _ _ _ hr hb) ?_
    have hs := hc.set _ _ _ _ _ hr hb
    cases b with
    | true => exact Lr hreg hdr hc x K Q _ a w hg hs he
    | false => exact Lr hreg hdr hc y K Q _ a w hg hs he
   ·cases he
  | const v =>
   cases v with
   | bool b =>
    refine wp_cond (t := b) rfl ?_
    cases b with
    | true => exact Lr hreg hdr hc x K Q st a w hg hr he
    | false => exact Lr hreg hdr hc y K Q st a w hg hr he
   | _ => cases he
  | _ => cases he
 | .block i b, K, Q, st, a, w, hg, hr, he => wp_block (Lr hreg hdr hc b _ _ st a w (Adu hg) hr he)
 | .loop b, K, Q, st, a, w, hg, hr, he => by
  have key : ∀ (n : Nat) (st : St) (a : Act) (w : World), Rl st a w -> Bb6 (fun k => evU E fuel b { K with normal := k }) n st = some out -> Code.rounds P b Q n a w := by
   intro n
   induction n with
   | zero => intro st a w _ h; cases h
   | succ n ih =>
    intro st a w hr h
    exact Lr hreg hdr hc b _ (Exit.then (Code.rounds P b Q n) Q) st a w (Adg hg fun st' a' w' hr' hn => ih st' a' w' hr' hn) hr h
  exact wp_loop_rounds fuel (key fuel st a w hr he)
 | .exit i, K, Q, st, a, w, hg, hr, he => wp_exit (hg.exits _ _ _ _ hr he)
 | .ret, K, Q, st, a, w, hg, hr, he => wp_ret (hg.ret _ _ _ hr he)
 | .rangeFunc f ps asn b, _, _, _, _, _, _, _, he => by simp [evU] at he
 | .scope b, K, Q, st, a, w, hg, hr, he => wp_scope_straight (Lr hreg hdr hc b _ _ st a w (Ajh hg) hr he)
 | .label _, K, Q, st, a, w, hg, hr, he => wp_label (hg.normal _ _ _ hr he)
 | .goto _, _, _, _, _, _, _, _, he => by simp [evU] at he
 | .refuse _, _, _, _, _, _, _, _, he => by simp [evU] at he
theorem Asi : ∀ {l : List AV}, A0j l = true -> ∀ x ∈ l, ∀ k, x ≠ .tup k
 | [], _, x, h, _ => by cases h
 | a :: l, hn, x, h, k => by
  cases a with
  | tup _ => cases hn
  | _ =>
   rcases List.mem_cons.1 h with rfl | h
   ·intro e; cases e
   ·exact Asi (l := l) hn x h k
theorem A5h (hE : C8 P E) {f : FuncId} {fn : Func} {c : Code} {rs : List RV} {np fuel : Nat} (hf : P.funcs[f]? = some fn) (hname : (fn.name == "runtime.NumGoroutine") = false) (hb : fn.body = some c)
  (hr : fn.results = (rs.map RV.toR).toArray) : Alc P E.ET f (A0p E c np fn.ntmps fuel rs) := by
 refine ⟨⟨fn, hf, hname, by rw [hb]; rfl⟩, fun dd args bs R K out h g w vals hG hv hbs => ?_, fun n h => by cases h⟩
 have h1 : (bif Nat.beq (Uf args) np && Nat.ble np fn.ntmps then
  evU { E with base := Be dd, keep := [] } fuel c ⟨Ba6 E rs K, Ba6 E rs K, []⟩ ⟨A38 args (A8f (fn.ntmps - np)), bs⟩ else none) = some out := h
 cases hc : (Nat.beq (Uf args) np && Nat.ble np fn.ntmps) with
 | false => rw [hc] at h1; cases h1
 | true =>
  rw [hc] at h1
  simp only [cond_true] at h1
  simp only [Bool.and_eq_true] at hc
  have hlen : ∀ l : List AV, Uf l = l.length := fun l => by
   induction l with
   | nil => rfl
   | cons _ _ ih => simp [Uf, ih]
  have hnp : args.length = np := by rw [<- hlen]; exact Nat.eq_of_beq_eq_true hc.1
  have hnt : np <= fn.ntmps := Nat.le_of_ble_eq_true hc.2
  have hvl : vals.length = args.length := hv.length.symm
  have hE' : C8 P { E with base := Be dd, keep := [] } := ⟨hE.rows, hE.calls, hE.mixed, hE.seqs⟩
  refine (callsIn_wide (n := 0)).1 (callsIn_of_wp_marks hf hb trivial (wpIn_wide.2 ?_))
  let RR : Ending -> World -> Prop := fun e w' => ∃ u v bs' g', e = .returned u /\ K v bs' = some out /\ B7 E.ET g' bs' w' v u /\ Ct E.ET g' bs' w' /\ Ext g bs w g' bs' w'
  let Q : O8 := bodyPostM Fence.wide 0 P fn RR
  show c.wp P Q _ _
  have hfin : ∀ (st : St) (a : Act) (w0 : World), Ak8 E.ET g bs w [] vals st a w0 -> Ba6 E rs K st = some out -> Q .ret a w0 /\ Q .normal a w0 := by
   intro st a w0 ⟨⟨g1, hr0⟩, _⟩ he
   have main : Q .ret a w0 := Azt (g := g1) (bs0 := bs) hr0 fun w' hr1 => ?main
   exact ⟨main, main⟩
   case main =>
   unfold Ba6 at he
   split at he
   ·rename_i l hl
    cases hn : A0j l with
    | false => rw [hn] at he; cases he
    | true =>
     rw [hn] at he
     obtain ⟨hll, vs, hvs, hrun⟩ := Aat hE hr1.slots hr1.boxes hl
     have hres := A7x (Asi hn) hvs
     have hrun := Apg hr hrun
     have hq : ∃ v, (results fn a.tmps).run P w' = .ok v w' /\ RR (.returned v) w' :=
      ⟨_, hrun, _, _, _, g1, rfl, he, hres, hr1.boxes, hr1.ext⟩
     exact hq
   ·cases he
  have hgood : Axw (Ak8 E.ET g bs w [] vals) out ⟨Ba6 E rs K, Ba6 E rs K, []⟩ Q :=
   ⟨fun st a w' h1 h2 => (hfin st a w' h1 h2).2, fun st a w' h1 h2 => (hfin st a w' h1 h2).1, fun i st a w' h1 h2 => by cases h2⟩
  refine Lr (E := { E with base := Be dd, keep := [] }) (Bb1 hE' g bs w vals) (A0c hE' g bs w vals) (A7p E.ET g bs w [] vals) c _ Q _ _ w hgood ⟨⟨g, hG, ?_, ?_, hbs, trivial, Ext.refl _ _ _⟩, fun i hi => by cases hi⟩ h1
  ·simp only [Acr, List.length_append, X7, Array.size_append, List.size_toArray, Array.size_replicate, hvl, hnp]
   exact Nat.le_refl _
  ·intro i
   simp only [Acr]
   by_cases hi : i < vals.length
   ·rw [Qh (by omega)]
    have e : (vals.toArray ++ Array.replicate (fn.ntmps - vals.toArray.size) undef).getD i undef = vals.getD i undef := by
     rw [Array.getD_eq_getD_getElem?, Array.getElem?_append_left (by simpa using hi), List.getElem?_toArray, List.getD_eq_getElem?_getD]
    rw [e]; exact Gg hv i
   ·rw [Qc (by omega)]
    have e : (vals.toArray ++ Array.replicate (fn.ntmps - vals.toArray.size) undef).getD i undef = undef := by
     rw [Array.getD_eq_getD_getElem?, Array.getElem?_append_right (by simpa using hi), Array.getElem?_replicate]
     split <;> rfl
    rw [e]
    rcases Ahj (fn.ntmps - np) (i - args.length) with h | h <;> rw [h]
    ·exact (rfl : undef = undef)
    ·trivial
end
end
set_option maxRecDepth 100000
set_option maxHeartbeats 2000000
noncomputable section
abbrev vI : LSh := .v (.int .i64)
abbrev kI : SSh := .mk false [vI]
abbrev vB : LSh := .v .bool
abbrev kB : SSh := .mk false [vB]
abbrev vS : LSh := .v .str
abbrev kS : SSh := .mk false [vS]
abbrev vE : LSh := .v .err
abbrev kE : SSh := .mk false [vE]
abbrev v8 : LSh := .v (.int .u8)
abbrev k8 : SSh := .mk false [v8]
def Bgt : List (TypeId × Row) := [
 (2, ⟨.int .i64, 1, 8, (.int .i64), [AV.val (.int .i64) (0 : Int)], none⟩),
 (3, ⟨.int .i64, 1, 8, (.int .i64), [AV.val (.int .i64) (0 : Int)], none⟩),
 (5, ⟨.int .u8, 1, 1, (.int .u8), [AV.val (.int .u8) (0 : Int)], none⟩),
 (9, ⟨.str, 1, 16, .str, [AV.val .str ByteArray.empty], none⟩),
 (23, ⟨.ptr, 1, 8, (.nptr (.pair (.sl (.pair (.int .i64) (.int .i64))) (.pair (.int .i64) (.int .i64)))), [AV.nilP], none⟩),
 (25, ⟨.iface, 1, 16, .err, [AV.val .err (none : Option Int)], none⟩),
 (28, ⟨.slice 96, 1, 24, (.sl (.pair (.int .i64) (.int .i64))), [AV.nilS], none⟩),
 (30, ⟨.struct [(0, 1, false), (1, 1, false), (2, 1, false)], 3, 40, (.pair (.sl (.pair (.int .i64) (.int .i64))) (.pair (.int .i64) (.int .i64))), [AV.nilS, AV.val (.int .i64) (0 : Int), AV.val (.int .i64) (0 : Int)], none⟩),
 (35, ⟨.int .u32, 1, 4, (.int .u32), [AV.val (.int .u32) (0 : Int)], none⟩),
 (36, ⟨.arr 5 35, 5, 20, (.pair (.int .u32) (.pair (.int .u32) (.pair (.int .u32) (.pair (.int .u32) (.int .u32))))), [AV.val (.int .u32) (0 : Int), AV.val (.int .u32) (0 : Int), AV.val (.int .u32) (0 : Int), AV.val (.int .u32) (0 : Int), AV.val (.int .u32) (0 : Int)], some [.int .u32, .int .u32, .int .u32, .int .u32, .int .u32]⟩),
 (42, ⟨.slice 9, 1, 24, (.sl .str), [AV.nilS], none⟩),
 (46, ⟨.slice 70, 1, 24, (.sl (.pair (.int .i64) (.int .i64))), [AV.nilS], none⟩),
 (48, ⟨.struct [(0, 1, false), (1, 1, false), (2, 1, false)], 3, 40, (.pair (.sl (.pair (.int .i64) (.int .i64))) (.pair (.int .i64) (.int .i64))), [AV.nilS, AV.val (.int .i64) (0 : Int), AV.val (.int .i64) (0 : Int)], none⟩),
 (52, ⟨.arr 20 5, 20, 20, (.pair (.int .u8) (.pair (.int .u8) (.pair (.int .u8) (.pair (.int .u8) (.pair (.int .u8) (.pair (.int .u8) (.pair (.int .u8) (.pair (.int .u8) (.pair (.int .u8) (.pair (.int .u8) (.pair (.int .u8) (.pair (.int .u8) (.pair (.int .u8) (.pair (.int .u8) (.pair (.int .u8) (.pair (.int .u8) (.pair (.int .u8) (.pair (.int .u8) (.pair (.int .u8) (.int .u8)))))))))))))))))))), [AV.val (.int .u8) (0 : Int), AV.val (.int .u8) (0 : Int), AV.val (.int .u8) (0 : Int), AV.val (.int .u8) (0 : Int), AV.val (.int .u8) (0 : Int), AV.val (.int .u8) (0 : Int), AV.val (.int .u8) (0 : Int), AV.val (.int .u8) (0 : Int), AV.val (.int .u8) (0 : Int), AV.val (.int .u8) (0 : Int), AV.val (.int .u8) (0 : Int), AV.val (.int .u8) (0 : Int), AV.val (.int .u8) (0 : Int), AV.val (.int .u8) (0 : Int), AV.val (.int .u8) (0 : Int), AV.val (.int .u8) (0 : Int), AV.val (.int .u8) (0 : Int), AV.val (.int .u8) (0 : Int), AV.val (.int .u8) (0 : Int), AV.val (.int .u8) (0 : Int)], some [.int .u8, .int .u8, .int .u8, .int .u8, .int .u8, .int .u8, .int .u8, .int .u8, .int .u8, .int .u8, .int .u8, .int .u8, .int .u8, .int .u8, .int .u8, .int .u8, .int .u8, .int .u8, .int .u8, .int .u8]⟩),
 (53, ⟨.arr 20 5, 20, 20, (.pair (.int .u8) (.pair (.int .u8) (.pair (.int .u8) (.pair (.int .u8) (.pair (.int .u8) (.pair (.int .u8) (.pair (.int .u8) (.pair (.int .u8) (.pair (.int .u8) (.pair (.int .u8) (.pair (.int .u8) (.pair (.int .u8) (.pair (.int .u8) (.pair (.int .u8) (.pair (.int .u8) (.pair (.int .u8) (.pair (.int .u8) (.pair (.int .u8) (.pair (.int .u8) (.int .u8)))))))))))))))))))), [AV.val (.int .u8) (0 : Int), AV.val (.int .u8) (0 : Int), AV.val (.int .u8) (0 : Int), AV.val (.int .u8) (0 : Int), AV.val (.int .u8) (0 : Int), AV.val (.int .u8) (0 : Int), AV.val (.int .u8) (0 : Int), AV.val (.int .u8) (0 : Int), AV.val (.int .u8) (0 : Int), AV.val (.int .u8) (0 : Int), AV.val (.int .u8) (0 : Int), AV.val (.int .u8) (0 : Int), AV.val (.int .u8) (0 : Int), AV.val (.int .u8) (0 : Int), AV.val (.int .u8) (0 : Int), AV.val (.int .u8) (0 : Int), AV.val (.int .u8) (0 : Int), AV.val (.int .u8) (0 : Int), AV.val (.int .u8) (0 : Int), AV.val (.int .u8) (0 : Int)], some [.int .u8, .int .u8, .int .u8, .int .u8, .int .u8, .int .u8, .int .u8, .int .u8, .int .u8, .int .u8, .int .u8, .int .u8, .int .u8, .int .u8, .int .u8, .int .u8, .int .u8, .int .u8, .int .u8, .int .u8]⟩),
 (57, ⟨.int .i64, 1, 8, (.int .i64), [AV.val (.int .i64) (0 : Int)], none⟩),
 (63, ⟨.slice 5, 1, 24, (.sl (.int .u8)), [AV.nilS], none⟩),
 (70, ⟨.struct [(0, 1, false), (1, 1, false)], 2, 16, (.pair (.int .i64) (.int .i64)), [AV.val (.int .i64) (0 : Int), AV.val (.int .i64) (0 : Int)], some [.int .i64, .int .i64]⟩),
 (73, ⟨.ptr, 1, 8, (.nptr (.int .i64)), [AV.nilP], none⟩),
 (74, ⟨.ptr, 1, 8, (.nptr (.pair (.int .u32) (.pair (.int .u32) (.pair (.int .u32) (.pair (.int .u32) (.int .u32)))))), [AV.nilP], none⟩),
 (76, ⟨.struct [(0, 1, false), (1, 1, false), (2, 1, false), (3, 1, false)], 4, 48, (.pair (.sl (.pair (.int .i64) (.int .i64))) (.pair (.nptr (.int .i64)) (.pair (.nptr (.int .i64)) (.nptr (.pair (.int .u32) (.pair (.int .u32) (.pair (.int .u32) (.pair (.int .u32) (.int .u32))))))))), [AV.nilS, AV.nilP, AV.nilP, AV.nilP], none⟩),
 (88, ⟨.struct [(0, 1, false), (1, 1, false), (2, 1, false)], 3, 40, (.pair (.sl (.pair (.int .i64) (.int .i64))) (.pair (.int .i64) (.int .i64))), [AV.nilS, AV.val (.int .i64) (0 : Int), AV.val (.int .i64) (0 : Int)], none⟩),
 (91, ⟨.struct [(0, 1, false), (1, 1, false)], 2, 40, (.pair (.sl (.int .u8)) .err), [AV.nilS, AV.val .err (none : Option Int)], none⟩),
 (96, ⟨.struct [(0, 1, false), (1, 1, false)], 2, 16, (.pair (.int .i64) (.int .i64)), [AV.val (.int .i64) (0 : Int), AV.val (.int .i64) (0 : Int)], some [.int .i64, .int .i64]⟩),
 (104, ⟨.int .u64, 1, 8, (.int .u64), [AV.val (.int .u64) (0 : Int)], none⟩),
 (117, ⟨.slice 35, 1, 24, (.sl (.int .u32)), [AV.nilS], none⟩),
 (129, ⟨.int .u64, 1, 8, (.int .u64), [AV.val (.int .u64) (0 : Int)], none⟩),
 (135, ⟨.arr 64 5, 64, 64, (.pair (.int .u8) (.pair (.int .u8) (.pair (.int .u8) (.pair (.int .u8) (.pair (.int .u8) (.pair (.int .u8) (.pair (.int .u8) (.pair (.int .u8) (.pair (.int .u8) (.pair (.int .u8) (.pair (.int .u8) (.pair (.int .u8) (.pair (.int .u8) (.pair (.int .u8) (.pair (.int .u8) (.pair (.int .u8) (.pair (.int .u8) (.pair (.int .u8) (.pair (.int .u8) (.pair (.int .u8) (.pair (.int .u8) (.pair (.int .u8) (.pair (.int .u8) (.pair (.int .u8) (.pair (.int .u8) (.pair (.int .u8) (.pair (.int .u8) (.pair (.int .u8) (.pair (.int .u8) (.pair (.int .u8) (.pair (.int .u8) (.pair (.int .u8) (.pair (.int .u8) (.pair (.int .u8) (.pair (.int .u8) (.pair (.int .u8) (.pair (.int .u8) (.pair (.int .u8) (.pair (.int .u8) (.pair (.int .u8) (.pair (.int .u8) (.pair (.int .u8) (.pair (.int .u8) (.pair (.int .u8) (.pair (.int .u8) (.pair (.int .u8) (.pair (.int .u8) (.pair (.int .u8) (.pair (.int .u8) (.pair (.int .u8) (.pair (.int .u8) (.pair (.int .u8) (.pair (.int .u8) (.pair (.int .u8) (.pair (.int .u8) (.pair (.int .u8) (.pair (.int .u8) (.pair (.int .u8) (.pair (.int .u8) (.pair (.int .u8) (.pair (.int .u8) (.pair (.int .u8) (.pair (.int .u8) (.int .u8)))))))))))))))))))))))))))))))))))))))))))))))))))))))))))))))), [AV.val (.int .u8) (0 : Int), AV.val (.int .u8) (0 : Int), AV.val (.int .u8) (0 : Int), AV.val (.int .u8) (0 : Int), AV.val (.int .u8) (0 : Int), AV.val (.int .u8) (0 : Int), AV.val (.int .u8) (0 : Int), AV.val (.int .u8) (0 : Int), AV.val (.int .u8) (0 : Int), AV.val (.int .u8) (0 : Int), AV.val (.int .u8) (0 : Int), AV.val (.int .u8) (0 : Int), AV.val (.int .u8) (0 : Int), AV.val (.int .u8) (0 : Int), AV.val (.int .u8) (0 : Int), AV.val (.int .u8) (0 : Int), AV.val (.int .u8) (0 : Int), AV.val (.int .u8) (0 : Int), AV.val (.int .u8) (0 : Int), AV.val (.int .u8) (0 : Int), AV.val (.int .u8) (0 : Int), AV.val (.int .u8) (0 : Int), AV.val (.int .u8) (0 : Int), AV.val (.int .u8) (0 : Int), AV.val (.int .u8) (0 : Int), AV.val (.int .u8) (0 : Int), AV.val (.int .u8) (0 : Int), AV.val (.int .u8) (0 : Int), AV.val (.int .u8) (0 : Int), AV.val (.int .u8) (0 : Int), AV.val (.int .u8) (0 : Int), AV.val (.int .u8) (0 : Int), AV.val (.int .u8) (0 : Int), AV.val (.int .u8) (0 : Int), AV.val (.int .u8) (0 : Int), AV.val (.int .u8) (0 : Int), AV.val (.int .u8) (0 : Int), AV.val (.int .u8) (0 : Int), AV.val (.int .u8) (0 : Int), AV.val (.int .u8) (0 : Int), AV.val (.int .u8) (0 : Int), AV.val (.int .u8) (0 : Int), AV.val (.int .u8) (0 : Int), AV.val (.int .u8) (0 : Int), AV.val (.int .u8) (0 : Int), AV.val (.int .u8) (0 : Int), AV.val (.int .u8) (0 : Int), AV.val (.int .u8) (0 : Int), AV.val (.int .u8) (0 : Int), AV.val (.int .u8) (0 : Int), AV.val (.int .u8) (0 : Int), AV.val (.int .u8) (0 : Int), AV.val (.int .u8) (0 : Int), AV.val (.int .u8) (0 : Int), AV.val (.int .u8) (0 : Int), AV.val (.int .u8) (0 : Int), AV.val (.int .u8) (0 : Int), AV.val (.int .u8) (0 : Int), AV.val (.int .u8) (0 : Int), AV.val (.int .u8) (0 : Int), AV.val (.int .u8) (0 : Int), AV.val (.int .u8) (0 : Int), AV.val (.int .u8) (0 : Int), AV.val (.int .u8) (0 : Int)], some [.int .u8, .int .u8, .int .u8, .int .u8, .int .u8, .int .u8, .int .u8, .int .u8, .int .u8, .int .u8, .int .u8, .int .u8, .int .u8, .int .u8, .int .u8, .int .u8, .int .u8, .int .u8, .int .u8, .int .u8, .int .u8, .int .u8, .int .u8, .int .u8, .int .u8, .int .u8, .int .u8, .int .u8, .int .u8, .int .u8, .int .u8, .int .u8, .int .u8, .int .u8, .int .u8, .int .u8, .int .u8, .int .u8, .int .u8, .int .u8, .int .u8, .int .u8, .int .u8, .int .u8, .int .u8, .int .u8, .int .u8, .int .u8, .int .u8, .int .u8, .int .u8, .int .u8, .int .u8, .int .u8, .int .u8, .int .u8, .int .u8, .int .u8, .int .u8, .int .u8, .int .u8, .int .u8, .int .u8, .int .u8]⟩),
 (152, ⟨.arr 80 35, 80, 320, .unit, [AV.val (.int .u32) (0 : Int), AV.val (.int .u32) (0 : Int), AV.val (.int .u32) (0 : Int), AV.val (.int .u32) (0 : Int), AV.val (.int .u32) (0 : Int), AV.val (.int .u32) (0 : Int), AV.val (.int .u32) (0 : Int), AV.val (.int .u32) (0 : Int), AV.val (.int .u32) (0 : Int), AV.val (.int .u32) (0 : Int), AV.val (.int .u32) (0 : Int), AV.val (.int .u32) (0 : Int), AV.val (.int .u32) (0 : Int), AV.val (.int .u32) (0 : Int), AV.val (.int .u32) (0 : Int), AV.val (.int .u32) (0 : Int), AV.val (.int .u32) (0 : Int), AV.val (.int .u32) (0 : Int), AV.val (.int .u32) (0 : Int), AV.val (.int .u32) (0 : Int), AV.val (.int .u32) (0 : Int), AV.val (.int .u32) (0 : Int), AV.val (.int .u32) (0 : Int), AV.val (.int .u32) (0 : Int), AV.val (.int .u32) (0 : Int), AV.val (.int .u32) (0 : Int), AV.val (.int .u32) (0 : Int), AV.val (.int .u32) (0 : Int), AV.val (.int .u32) (0 : Int), AV.val (.int .u32) (0 : Int), AV.val (.int .u32) (0 : Int), AV.val (.int .u32) (0 : Int), AV.val (.int .u32) (0 : Int), AV.val (.int .u32) (0 : Int), AV.val (.int .u32) (0 : Int), AV.val (.int .u32) (0 : Int), AV.val (.int .u32) (0 : Int), AV.val (.int .u32) (0 : Int), AV.val (.int .u32) (0 : Int), AV.val (.int .u32) (0 : Int), AV.val (.int .u32) (0 : Int), AV.val (.int .u32) (0 : Int), AV.val (.int .u32) (0 : Int), AV.val (.int .u32) (0 : Int), AV.val (.int .u32) (0 : Int), AV.val (.int .u32) (0 : Int), AV.val (.int .u32) (0 : Int), AV.val (.int .u32) (0 : Int), AV.val (.int .u32) (0 : Int), AV.val (.int .u32) (0 : Int), AV.val (.int .u32) (0 : Int), AV.val (.int .u32) (0 : Int), AV.val (.int .u32) (0 : Int), AV.val (.int .u32) (0 : Int), AV.val (.int .u32) (0 : Int), AV.val (.int .u32) (0 : Int), AV.val (.int .u32) (0 : Int), AV.val (.int .u32) (0 : Int), AV.val (.int .u32) (0 : Int), AV.val (.int .u32) (0 : Int), AV.val (.int .u32) (0 : Int), AV.val (.int .u32) (0 : Int), AV.val (.int .u32) (0 : Int), AV.val (.int .u32) (0 : Int), AV.val (.int .u32) (0 : Int), AV.val (.int .u32) (0 : Int), AV.val (.int .u32) (0 : Int), AV.val (.int .u32) (0 : Int), AV.val (.int .u32) (0 : Int), AV.val (.int .u32) (0 : Int), AV.val (.int .u32) (0 : Int), AV.val (.int .u32) (0 : Int), AV.val (.int .u32) (0 : Int), AV.val (.int .u32) (0 : Int), AV.val (.int .u32) (0 : Int), AV.val (.int .u32) (0 : Int), AV.val (.int .u32) (0 : Int), AV.val (.int .u32) (0 : Int), AV.val (.int .u32) (0 : Int), AV.val (.int .u32) (0 : Int)], some [.int .u32, .int .u32, .int .u32, .int .u32, .int .u32, .int .u32, .int .u32, .int .u32, .int .u32, .int .u32, .int .u32, .int .u32, .int .u32, .int .u32, .int .u32, .int .u32, .int .u32, .int .u32, .int .u32, .int .u32, .int .u32, .int .u32, .int .u32, .int .u32, .int .u32, .int .u32, .int .u32, .int .u32, .int .u32, .int .u32, .int .u32, .int .u32, .int .u32, .int .u32, .int .u32, .int .u32, .int .u32, .int .u32, .int .u32, .int .u32, .int .u32, .int .u32, .int .u32, .int .u32, .int .u32, .int .u32, .int .u32, .int .u32, .int .u32, .int .u32, .int .u32, .int .u32, .int .u32, .int .u32, .int .u32, .int .u32, .int .u32, .int .u32, .int .u32, .int .u32, .int .u32, .int .u32, .int .u32, .int .u32, .int .u32, .int .u32, .int .u32, .int .u32, .int .u32, .int .u32, .int .u32, .int .u32, .int .u32, .int .u32, .int .u32, .int .u32, .int .u32, .int .u32, .int .u32, .int .u32]⟩),
 (157, ⟨.slice 104, 1, 24, (.sl (.int .u64)), [AV.nilS], none⟩),
 (159, ⟨.slice 3, 1, 24, (.sl (.int .i64)), [AV.nilS], none⟩),
 (171, ⟨.ptr, 1, 8, (.nptr (.pair .str (.pair (.int .i64) .err))), [AV.nilP], none⟩),
 (194, ⟨.struct [(0, 1, false), (1, 1, false), (2, 1, false)], 3, 40, (.pair .str (.pair (.int .i64) .err)), [AV.val .str ByteArray.empty, AV.val (.int .i64) (0 : Int), AV.val .err (none : Option Int)], none⟩)]
def ET0 : TypeId := 57
def E0 : Env := ⟨Bgt, [], ET0, 0, [], [], []⟩
theorem Bc : C8 Tryz.prog E0 := A2s (by kernel_rfl) (by kernel_rfl) 0
def Ac (l : List (Int × Int)) (i : Int) : (Int × Int) := gd (.pair (.int .i64) (.int .i64)) l i
abbrev Z9 : PSh := Alh
abbrev Aak : PSh := Akt
def Nx := Abq
theorem Al8 : Em Tryz.prog ET0 59 Z9 Aak Nx := Avv ⟨Tryz.f59, Tryz.func59, by kernel_rfl, by kernel_rfl⟩ Tryz.strings_Split A3m
def An6 := Ah Z9 Aak Nx
abbrev Abt : PSh := Aoi
abbrev Aca : PSh := Aof
def Qb := Ag3
theorem Ao6 : Em Tryz.prog ET0 86 Abt Aca Qb := Ays ⟨Tryz.f86, Tryz.func86, by kernel_rfl, by kernel_rfl⟩ Tryz.strings_Trim_laid
def Ap1 := Ah Abt Aca Qb
abbrev Jn : PSh := Akr
abbrev Jp : PSh := Akq
def D5 := Abi
theorem Q8 : Em Tryz.prog ET0 181 Jn Jp D5 := Av4 ⟨Tryz.f181, Tryz.func181, by kernel_rfl, by kernel_rfl⟩ Tryz.stringslite_Clone
def Sc := Ah Jn Jp D5
abbrev Rv : PSh := Aai
abbrev Rx : PSh := Z7
def Eu := Zl
theorem Rz : Em Tryz.prog ET0 149 Rv Rx Eu := Alz ⟨Tryz.f149, Tryz.func149, by kernel_rfl, by kernel_rfl⟩ Tryz.strings_IndexByte
def Td := Ah Rv Rx Eu
abbrev Ve : PSh := Ae0
abbrev Us : PSh := Aee
def Kv := Ug
theorem Aho : Em Tryz.prog ET0 148 Ve Us Kv := Aqs ⟨Tryz.f148, Tryz.func148, by kernel_rfl, by kernel_rfl⟩ Tryz.strings_ToLower_ascii
def Ajb := Ah Ve Us Kv
abbrev Y0 : Type := Unit × (((List (Int × Int)) × Unit) × Unit)
abbrev Y1 : Type := ((List (Int × Int)) × Unit) × (Unit × Unit)
abbrev Y2 : Type := Unit × (((Option ((List (Int × Int)) × (Int × Int))) × Unit) × Unit)
abbrev Y3 : Type := ((List Int) × Unit) × (Unit × Unit)
abbrev Y4 : Type := Unit × ((Int × Unit) × ((Int × Unit) × Unit))
abbrev Y5 : Type := Unit × ((Int × Unit) × (((Option Int) × Unit) × Unit))
abbrev Y6 : Type := Unit × ((Int × Unit) × ((Int × Unit) × ((Int × Unit) × Unit)))
abbrev Y7 : Type := Unit × (((List Int) × Unit) × Unit)
abbrev Y8 : Type := Unit × (((List Int) × Unit) × (((List Int) × Unit) × Unit))
abbrev Y9 : Type := Unit × ((Int × (Int × (Int × (Int × (Int × Unit))))) × Unit)
abbrev Y10 : Type := Unit × ((Int × (Int × (Int × (Int × (Int × (Int × (Int × (Int × (Int × (Int × (Int × (Int × (Int × (Int × (Int × (Int × (Int × (Int × (Int × (Int × Unit)))))))))))))))))))) × Unit)
abbrev Y11 : Type := (((Option Int) × Unit) × ((List Int) × Unit)) × (Unit × Unit)
abbrev Y12 : Type := Unit × ((Int × (Int × Unit)) × Unit)
abbrev Y13 : Type := Unit × (((List (Int × Int)) × Unit) × (Unit × Unit))
abbrev Y14 : Type := Unit × (((Option ((List (Int × Int)) × (Int × Int))) × Unit) × (((Option Int) × Unit) × Unit))
abbrev Y15 : Type := Unit × ((ByteArray × Unit) × ((ByteArray × Unit) × Unit))
abbrev Y16 : Type := Unit × ((ByteArray × Unit) × Unit)
abbrev Y17 : Type := ((ByteArray × (Int × ((Option Int) × Unit))) × Unit) × (Unit × Unit)
abbrev Y18 : Type := Unit × (((Option (ByteArray × (Int × (Option Int)))) × Unit) × Unit)
abbrev Y19 : Type := Unit × ((ByteArray × Unit) × ((Int × Unit) × Unit))
abbrev Y20 : Type := Unit × ((Int × Unit) × ((Int × Unit) × (((Option Int) × Unit) × Unit)))
abbrev Y21 : Type := Unit × (((Option Int) × Unit) × Unit)
abbrev Y22 : Type := ((ByteArray × (Int × ((Option Int) × Unit))) × Unit) × (Unit × ((Int × Unit) × Unit))
abbrev Y23 : Type := ((ByteArray × (Int × ((Option Int) × Unit))) × Unit) × (((Option Int) × Unit) × (Unit × Unit))
abbrev Y24 : Type := ((ByteArray × (Int × ((Option Int) × Unit))) × Unit) × ((Int × Unit) × (Unit × Unit))
abbrev Y25 : Type := (((Option Int) × ((Option Int) × ((Option (Int × (Int × (Int × (Int × Int))))) × Unit))) × ((List (Int × Int)) × Unit)) × (Unit × ((ByteArray × Unit) × Unit))
abbrev Y26 : Type := (((Option Int) × ((Option Int) × ((Option (Int × (Int × (Int × (Int × Int))))) × Unit))) × ((List (Int × Int)) × Unit)) × (((Option Int) × Unit) × (Unit × Unit))
abbrev Y27 : Type := Unit × (((List (Int × Int)) × (Int × (Int × Unit))) × Unit)
abbrev Cc : PSh := ⟨[], [.mk false [.v (.sl (.pair (.int .i64) (.int .i64)))]]⟩
abbrev Cw : PSh := ⟨[.row 70 (.pair (.int .i64) (.int .i64))], [.mk false [.osl 0]]⟩
def Gx (T : Unit) (d : Y0) : Option (Y1) :=
 bif d.2.1.1.isEmpty then (
 Ayk (
 some ((([] : List (Int × Int)), ()), ((), ()))) (
 let x1 := ([] : List (Int × Int))
 bif decide (((x1.length + d.2.1.1.length) * 16 : Nat) <= 140737488355328) && decide (x1.length + d.2.1.1.length <= 9223372036854775807) then (
 let x2 := (x1 ++ d.2.1.1)
 some ((x2, ()), ((), ())))
 else none))
 else (
 let x3 := ([] : List (Int × Int))
 bif decide (((x3.length + d.2.1.1.length) * 16 : Nat) <= 140737488355328) && decide (x3.length + d.2.1.1.length <= 9223372036854775807) then (
 let x4 := (x3 ++ d.2.1.1)
 some ((x4, ()), ((), ())))
 else none)
def Bt := Gx ()
theorem Hi : Em Tryz.prog ET0 57 Cc Cw Bt :=
 fn0 (E := E0) (pi := Cc) (po := Cw) Bc (fn := Tryz.f57) Tryz.func57 (by kernel_rfl) (by kernel_rfl) [.tmp 2] (by kernel_rfl) rfl rfl rfl [] fun d => by kernel_rfl
def H9 := Ah Cc Cw Bt
abbrev Cv : PSh := ⟨[], [.mk false [.v (.nptr (.pair (.sl (.pair (.int .i64) (.int .i64))) (.pair (.int .i64) (.int .i64))))]]⟩
abbrev O3 : PSh := Cc
def S3 (T : Unit) (d : Y2) : Option (Y0) :=
 bif d.2.1.1.isNone then (
 some ((), ((([] : List (Int × Int)), ()), ())))
 else (
 d.2.1.1.bind fun x1 =>
 some ((), ((x1.1, ()), ())))
def In := S3 ()
theorem U2 : Em Tryz.prog ET0 68 Cv O3 In :=
 fn0 (E := E0) (pi := Cv) (po := O3) Bc (fn := Tryz.f68) Tryz.func68 (by kernel_rfl) (by kernel_rfl) [.tmp 2] (by kernel_rfl) rfl rfl rfl [] fun d => by kernel_rfl
def Wx := Ah Cv O3 In
abbrev Od : PSh := Cv
abbrev Oh : PSh := Cw
def Tx (T : Unit) (d : Y2) : Option (Y1) :=
 (In ((), d.2)).bind fun x1 =>
 (Bt ((), x1.2)).bind fun x2 =>
 some (x2.1, ((), ()))
def Er := Tx ()
theorem U6 : Em Tryz.prog ET0 34 Od Oh Er :=
 fn0 (E := ((E0.add 57 H9).add 68 Wx)) (pi := Od) (po := Oh) (Aa (Aa Bc (Af Hi)) (Af U2)) (fn := Tryz.f34) Tryz.func34 (by kernel_rfl) (by kernel_rfl) [.tmp 2] (by kernel_rfl) rfl rfl rfl [] fun d => by kernel_rfl
def Xp := Ah Od Oh Er
abbrev Kh : PSh := Cv
abbrev Kt : PSh := ⟨[], [kI]⟩
def Pe (T : Unit) (d : Y2) : Option (Unit × ((Int × Unit) × Unit)) :=
 bif d.2.1.1.isNone then (
 some ((), ((0, ()), ())))
 else (
 d.2.1.1.bind fun x1 =>
 some ((), ((x1.2.1, ()), ())))
def Dg := Pe ()
theorem Qt : Em Tryz.prog ET0 35 Kh Kt Dg :=
 fn0 (E := E0) (pi := Kh) (po := Kt) Bc (fn := Tryz.f35) Tryz.func35 (by kernel_rfl) (by kernel_rfl) [.tmp 2] (by kernel_rfl) rfl rfl rfl [] fun d => by kernel_rfl
def Ru := Ah Kh Kt Dg
abbrev Ka : PSh := Cv
abbrev Kq : PSh := ⟨[], [kI]⟩
def Pd (T : Unit) (d : Y2) : Option (Unit × ((Int × Unit) × Unit)) :=
 bif d.2.1.1.isNone then (
 some ((), ((0, ()), ())))
 else (
 d.2.1.1.bind fun x1 =>
 some ((), ((x1.2.2, ()), ())))
def Dh := Pd ()
theorem Qw : Em Tryz.prog ET0 36 Ka Kq Dh :=
 fn0 (E := E0) (pi := Ka) (po := Kq) Bc (fn := Tryz.f36) Tryz.func36 (by kernel_rfl) (by kernel_rfl) [.tmp 2] (by kernel_rfl) rfl rfl rfl [] fun d => by kernel_rfl
def R1 := Ah Ka Kq Dh
abbrev Aw : PSh := ⟨[.row 5 (.int .u8)], [.mk false [.osl 0]]⟩
abbrev Fd : PSh := Aw
abbrev Fj : Type := Y3
abbrev Iq : Type := ((List Int) × Unit) × (Unit × ((Int × Unit) × ((Int × Unit) × Unit)))
abbrev E6 : Type := (((Iq) -> Option (Fj)) × Unit)
abbrev O9 : PSh := ⟨[.row 5 (.int .u8)], [.mk false [.osl 0], .any, kI, kI] ++ Q6 24⟩
def Ck (T : E6) (d : Iq) : Option (Fj) :=
 let x3 := (decide (d.2.2.1.1 < d.2.2.2.1.1))
 bif x3 then (
 bif decide ((0 : Int) <= d.2.2.2.1.1) && decide (d.2.2.2.1.1 < (d.1.1.length : Int)) then (
 bif decide ((0 : Int) <= d.2.2.1.1) && decide (d.2.2.1.1 < (d.1.1.length : Int)) then (
 bif decide ((0 : Int) <= d.2.2.1.1) && decide (d.2.2.1.1 < (d.1.1.length : Int)) then (
 let x4 := (List.set d.1.1 (Int.toNat d.2.2.1.1) (gd (.int .u8) d.1.1 d.2.2.2.1.1))
 bif decide ((0 : Int) <= d.2.2.2.1.1) && decide (d.2.2.2.1.1 < (x4.length : Int)) then (
 let x5 := (List.set x4 (Int.toNat d.2.2.2.1.1) (gd (.int .u8) d.1.1 d.2.2.1.1))
 let x6 := (Bm .i64 d.2.2.1.1 1)
 let x7 := (H3 .i64 d.2.2.2.1.1 1)
 (T.1 ((x5, ()), ((), ((x6, ()), ((x7, ()), ()))))))
 else none)
 else none)
 else none)
 else none)
 else (
 some (d.1, ((), ())))
def Bi : Nat -> E6
 | 0 => (fun _ => none, ())
 | k + 1 => (Ck (Bi k), ())
theorem Fk (k : Nat) : Bi (k + 1) = (Ck (Bi k), ()) := rfl
def Ep (T : E6) (d : Y3) : Option (Fj) :=
 let x1 := (d.1.1.length : Int)
 let x2 := (H3 .i64 x1 1)
 (T.1 (d.1, ((), ((0, ()), ((x2, ()), ())))))
def Dx (d) := lim fun k => Ep (Bi k) d
theorem Qp : Amt Tryz.prog ET0 134 Aw Fd 0 [(0, 0, none)] Dx :=
 A42 (E := (E0.kp [0])) (pi := Aw) (po := Fd) (Ih Bc) (fn := Tryz.f134) Tryz.func134 (by kernel_rfl) (by kernel_rfl) [] [(0, none)] [(0, 0, none)] (by kernel_rfl) rfl rfl rfl rfl rfl [] (fun k => [(1, ⟨O9, (Bi k).1⟩)]) (fun _ => [])
 (.intro (fun _ => rfl) trivial) (fun k => (.intro (fun d => by kernel_rfl) trivial)) trivial (fun k => trivial) (fun k d => Ep (Bi k) d) (fun k d => by kernel_rfl)
def Ra := Vt Aw Fd 0 [(0, 0, none)] Dx
abbrev Qk : PSh := ⟨[], [.mk false [.v (.int .u64)], kI]⟩
abbrev Wq : PSh := ⟨[], [kS]⟩
abbrev Zn : Type := Y16
abbrev Aa7 : Type := ((List Int) × Unit) × ((Int × Unit) × ((Int × Unit) × (Unit × Unit)))
abbrev V6 : Type := (((Aa7) -> Option (Zn)) × Unit)
abbrev Alt : PSh := ⟨[.row 5 (.int .u8)], [.mk false [.v (.int .u64)], kI, .any, .any, .any, .mk false [.osl 0]] ++ Q6 22⟩
def Hg (T : V6) (d : Aa7) : Option (Zn) :=
 let x1 := (decide (d.2.1.1 > (0 : Int)))
 bif x1 then (
 let x2 := (Int.tmod d.2.1.1 (10 : Int))
 let x3 := (Ef .u8 x2)
 let x4 := (Bm .u8 (48 : Int) x3)
 let x5 := ([x4] : List Int)
 bif decide (((d.1.1.length + x5.length) * 1 : Nat) <= 140737488355328) && decide (d.1.1.length + x5.length <= 9223372036854775807) then (
 let x6 := (d.1.1 ++ x5)
 let x7 := (Nm .u64 d.2.1.1 (10 : Int))
 (T.1 ((x6, ()), ((x7, ()), (d.2.2.1, ((), ()))))))
 else none)
 else (
 let x8 := (d.1.1.length : Int)
 let x9 := (if (1 : Int) > d.2.2.1.1 then (1 : Int) else d.2.2.1.1)
 let x10 := (decide (x8 < x9))
 bif x10 then (
 let x11 := (Int.tmod d.2.1.1 (10 : Int))
 let x12 := (Ef .u8 x11)
 let x13 := (Bm .u8 (48 : Int) x12)
 let x14 := ([x13] : List Int)
 bif decide (((d.1.1.length + x14.length) * 1 : Nat) <= 140737488355328) && decide (d.1.1.length + x14.length <= 9223372036854775807) then (
 let x15 := (d.1.1 ++ x14)
 let x16 := (Nm .u64 d.2.1.1 (10 : Int))
 (T.1 ((x15, ()), ((x16, ()), (d.2.2.1, ((), ()))))))
 else none)
 else (
 (Dx (d.1, ((), ()))).bind fun x17 =>
 let x18 := (Ao x17.1.1)
 some ((), ((x18, ()), ()))))
def F9 : Nat -> V6
 | 0 => (fun _ => none, ())
 | k + 1 => (Hg (F9 k), ())
theorem R2 (k : Nat) : F9 (k + 1) = (Hg (F9 k), ()) := rfl
def Tl (T : V6) (d : Y4) : Option (Zn) :=
 (T.1 ((([] : List Int), ()), (d.2.1, (d.2.2.1, ((), ())))))
def Nt (d) := lim fun k => Tl (F9 k) d
theorem Ap6 : Em Tryz.prog ET0 94 Qk Wq Nt :=
 fnL (E := (E0.add 134 Ra)) (pi := Qk) (po := Wq) (Aa Bc (Nl Qp)) (fn := Tryz.f94) Tryz.func94 (by kernel_rfl) (by kernel_rfl) [.tmp 4] (by kernel_rfl) rfl rfl rfl [] (fun k => [(3, ⟨Alt, (F9 k).1⟩)]) (fun _ => [])
 (.intro (fun _ => rfl) trivial) (fun k => (.intro (fun d => by kernel_rfl) trivial)) trivial (fun k => trivial) (fun k d => Tl (F9 k) d) (fun k d => by kernel_rfl)
def Ath := Ah Qk Wq Nt
abbrev Wb : PSh := ⟨[], [kI, kI]⟩
abbrev Wn : PSh := ⟨[], [kS, kE]⟩
def Abe (T : Unit) (d : Y4) : Option (Unit × ((ByteArray × Unit) × (((Option Int) × Unit) × Unit))) :=
 let x1 := (decide (d.2.2.1.1 < (0 : Int)))
 bif x1 then (
 let x2 := (some (1 : Int))
 some ((), (((⟨#[]⟩ : ByteArray), ()), ((x2, ()), ()))))
 else (
 let x3 := (decide (d.2.2.1.1 > (20 : Int)))
 bif x3 then (
 let x4 := (some (1 : Int))
 some ((), (((⟨#[]⟩ : ByteArray), ()), ((x4, ()), ()))))
 else (
 let x5 := (decide (d.2.1.1 < (0 : Int)))
 bif x5 then (
 let x6 := (Ef .u64 d.2.1.1)
 let x7 := (Bgv .u64 x6)
 (Nt ((), ((x7, ()), d.2.2))).bind fun x8 =>
 bif Hb (⟨#[45]⟩ : ByteArray) x8.2.1.1 then (
 let x9 := ((⟨#[45]⟩ : ByteArray) ++ x8.2.1.1)
 some ((), ((x9, ()), (((none : Option Int), ()), ()))))
 else none)
 else (
 let x10 := (Ef .u64 d.2.1.1)
 (Nt ((), ((x10, ()), d.2.2))).bind fun x11 =>
 some ((), (x11.2.1, (((none : Option Int), ()), ()))))))
def K8 := Abe ()
theorem Aqd : Em Tryz.prog ET0 69 Wb Wn K8 :=
 fn0 (E := (E0.add 94 Ath)) (pi := Wb) (po := Wn) (Aa Bc (Af Ap6)) (fn := Tryz.f69) Tryz.func69 (by kernel_rfl) (by kernel_rfl) [.tmp 4, .tmp 5] (by kernel_rfl) rfl rfl rfl [] fun d => by kernel_rfl
def Auw := Ah Wb Wn K8
abbrev Afa : PSh := ⟨[], [kI]⟩
abbrev Ae5 : PSh := ⟨[], [kI, kE]⟩
def Awo (T : Unit) (d : Unit × ((Int × Unit) × Unit)) : Option (Y5) :=
 let x1 := (d.2.1.1 == (1 : Int))
 bif x1 then (
 some ((), ((40587, ()), (((none : Option Int), ()), ()))))
 else (
 let x2 := (d.2.1.1 == (2 : Int))
 bif x2 then (
 some ((), ((2440588, ()), (((none : Option Int), ()), ()))))
 else (
 let x3 := (d.2.1.1 == (3 : Int))
 bif x3 then (
 some ((), ((25567, ()), (((none : Option Int), ()), ()))))
 else (
 let x4 := (d.2.1.1 == (4 : Int))
 bif x4 then (
 some ((), (((-3657 : Int), ()), (((none : Option Int), ()), ()))))
 else (
 let x5 := (some (11 : Int))
 some ((), ((0, ()), ((x5, ()), ())))))))
def Sn := Awo ()
theorem An8 : Em Tryz.prog ET0 95 Afa Ae5 Sn :=
 fn0 (E := E0) (pi := Afa) (po := Ae5) Bc (fn := Tryz.f95) Tryz.func95 (by kernel_rfl) (by kernel_rfl) [.tmp 2, .tmp 3] (by kernel_rfl) rfl rfl rfl [] fun d => by kernel_rfl
def Ask := Ah Afa Ae5 Sn
abbrev Aa0 : PSh := ⟨[], [kI, kI]⟩
abbrev Aa2 : PSh := ⟨[], [kI]⟩
def Ah8 (T : Unit) (d : Y4) : Option (Unit × ((Int × Unit) × Unit)) :=
 bif (d.2.2.1.1 == 0) then (
 none)
 else (
 let x1 := (Nm .i64 d.2.1.1 d.2.2.1.1)
 bif (d.2.2.1.1 == 0) then (
 none)
 else (
 let x2 := (Int.tmod d.2.1.1 d.2.2.1.1)
 let x3 := (decide (x2 < (0 : Int)))
 bif x3 then (
 let x4 := (H3 .i64 x1 1)
 some ((), ((x4, ()), ())))
 else (
 some ((), ((x1, ()), ())))))
def Mz := Ah8 ()
theorem Akn : Em Tryz.prog ET0 107 Aa0 Aa2 Mz :=
 fn0 (E := E0) (pi := Aa0) (po := Aa2) Bc (fn := Tryz.f107) Tryz.func107 (by kernel_rfl) (by kernel_rfl) [.tmp 4] (by kernel_rfl) rfl rfl rfl [] fun d => by kernel_rfl
def Ao8 := Ah Aa0 Aa2 Mz
abbrev Zr : PSh := ⟨[], [kI, kI, kI]⟩
abbrev Zq : PSh := ⟨[], [kI]⟩
def Aet (T : Unit) (d : Y6) : Option (Unit × ((Int × Unit) × Unit)) :=
 let x1 := (decide (d.2.2.1.1 <= (2 : Int)))
 bif x1 then (
 let x2 := (H3 .i64 d.2.1.1 1)
 let x3 := (Bm .i64 d.2.2.1.1 12)
 (Mz ((), ((x2, ()), ((400, ()), ())))).bind fun x4 =>
 let x5 := (Qq .i64 x4.2.1.1 400)
 let x6 := (H3 .i64 x2 x5)
 let x7 := (H3 .i64 x3 3)
 let x8 := (Qq .i64 (153 : Int) x7)
 let x9 := (Bm .i64 x8 2)
 let x10 := (Nm .i64 x9 (5 : Int))
 let x11 := (Bm .i64 x10 d.2.2.2.1.1)
 let x12 := (H3 .i64 x11 1)
 let x13 := (Qq .i64 x4.2.1.1 146097)
 let x14 := (Qq .i64 x6 365)
 let x15 := (Bm .i64 x13 x14)
 let x16 := (Nm .i64 x6 (4 : Int))
 let x17 := (Bm .i64 x15 x16)
 let x18 := (Nm .i64 x6 (100 : Int))
 let x19 := (H3 .i64 x17 x18)
 let x20 := (Bm .i64 x19 x12)
 let x21 := (H3 .i64 x20 719468)
 some ((), ((x21, ()), ())))
 else (
 (Mz ((), (d.2.1, ((400, ()), ())))).bind fun x22 =>
 let x23 := (Qq .i64 x22.2.1.1 400)
 let x24 := (H3 .i64 d.2.1.1 x23)
 let x25 := (H3 .i64 d.2.2.1.1 3)
 let x26 := (Qq .i64 (153 : Int) x25)
 let x27 := (Bm .i64 x26 2)
 let x28 := (Nm .i64 x27 (5 : Int))
 let x29 := (Bm .i64 x28 d.2.2.2.1.1)
 let x30 := (H3 .i64 x29 1)
 let x31 := (Qq .i64 x22.2.1.1 146097)
 let x32 := (Qq .i64 x24 365)
 let x33 := (Bm .i64 x31 x32)
 let x34 := (Nm .i64 x24 (4 : Int))
 let x35 := (Bm .i64 x33 x34)
 let x36 := (Nm .i64 x24 (100 : Int))
 let x37 := (H3 .i64 x35 x36)
 let x38 := (Bm .i64 x37 x30)
 let x39 := (H3 .i64 x38 719468)
 some ((), ((x39, ()), ())))
def M7 := Aet ()
theorem Ag0 : Em Tryz.prog ET0 135 Zr Zq M7 :=
 fn0 (E := (E0.add 107 Ao8)) (pi := Zr) (po := Zq) (Aa Bc (Af Akn)) (fn := Tryz.f135) Tryz.func135 (by kernel_rfl) (by kernel_rfl) [.tmp 6] (by kernel_rfl) rfl rfl rfl [] fun d => by kernel_rfl
def Akm := Ah Zr Zq M7
abbrev Aa3 : PSh := ⟨[], []⟩
abbrev Abv : PSh := ⟨[], [kI]⟩
def Ahh (T : Unit) (d : Unit × Unit) : Option (Unit × ((Int × Unit) × Unit)) :=
 (M7 ((), (((-9999 : Int), ()), ((1, ()), ((1, ()), ()))))).bind fun x1 =>
 some ((), x1.2)
def M3 := Ahh ()
theorem Aay : Em Tryz.prog ET0 105 Aa3 Abv M3 :=
 fn0 (E := (E0.add 135 Akm)) (pi := Aa3) (po := Abv) (Aa Bc (Af Ag0)) (fn := Tryz.f105) Tryz.func105 (by kernel_rfl) (by kernel_rfl) [.tmp 0] (by kernel_rfl) rfl rfl rfl [] fun d => by kernel_rfl
def Afd := Ah Aa3 Abv M3
abbrev Agb : PSh := ⟨[], []⟩
abbrev Afw : PSh := ⟨[], [kI]⟩
def Akk (T : Unit) (d : Unit × Unit) : Option (Unit × ((Int × Unit) × Unit)) :=
 (M7 ((), ((9999, ()), ((12, ()), ((31, ()), ()))))).bind fun x1 =>
 some ((), x1.2)
def P8 := Akk ()
theorem Afc : Em Tryz.prog ET0 106 Agb Afw P8 :=
 fn0 (E := (E0.add 135 Akm)) (pi := Agb) (po := Afw) (Aa Bc (Af Ag0)) (fn := Tryz.f106) Tryz.func106 (by kernel_rfl) (by kernel_rfl) [.tmp 0] (by kernel_rfl) rfl rfl rfl [] fun d => by kernel_rfl
def Ajp := Ah Agb Afw P8
abbrev Acy : PSh := ⟨[], [kI]⟩
abbrev Abz : PSh := ⟨[], [kB]⟩
def Ahz (T : Unit) (d : Unit × ((Int × Unit) × Unit)) : Option (Unit × ((Bool × Unit) × Unit)) :=
 (M3 ((), ())).bind fun x1 =>
 let x2 := (decide (d.2.1.1 >= x1.2.1.1))
 bif x2 then (
 (P8 ((), ())).bind fun x3 =>
 let x4 := (decide (d.2.1.1 <= x3.2.1.1))
 some ((), ((x4, ()), ())))
 else (
 some ((), ((false, ()), ())))
def Tt := Ahz ()
theorem Awt : Em Tryz.prog ET0 96 Acy Abz Tt :=
 fn0 (E := ((E0.add 105 Afd).add 106 Ajp)) (pi := Acy) (po := Abz) (Aa (Aa Bc (Af Aay)) (Af Afc)) (fn := Tryz.f96) Tryz.func96 (by kernel_rfl) (by kernel_rfl) [.tmp 2] (by kernel_rfl) rfl rfl rfl [] fun d => by kernel_rfl
def Axz := Ah Acy Abz Tt
abbrev Abg : PSh := ⟨[], [kI, kI]⟩
abbrev Aa5 : PSh := ⟨[], [kI, kE]⟩
def Ah6 (T : Unit) (d : Y4) : Option (Y5) :=
 (Sn ((), (d.2.1, ()))).bind fun x1 =>
 let x2 := (!x1.2.2.1.1.isNone)
 bif x2 then (
 some ((), ((0, ()), x1.2.2)))
 else (
 (Tt ((), d.2.2)).bind fun x3 =>
 let x4 := (!x3.2.1.1)
 bif x4 then (
 let x5 := (some (13 : Int))
 some ((), ((0, ()), ((x5, ()), ()))))
 else (
 let x6 := (Bm .i64 d.2.2.1.1 x1.2.1.1)
 some ((), ((x6, ()), (((none : Option Int), ()), ())))))
def T7 := Ah6 ()
theorem Avj : Em Tryz.prog ET0 70 Abg Aa5 T7 :=
 fn0 (E := ((E0.add 95 Ask).add 96 Axz)) (pi := Abg) (po := Aa5) (Aa (Aa Bc (Af An8)) (Af Awt)) (fn := Tryz.f70) Tryz.func70 (by kernel_rfl) (by kernel_rfl) [.tmp 4, .tmp 5] (by kernel_rfl) rfl rfl rfl [] fun d => by kernel_rfl
def Ax3 := Ah Abg Aa5 T7
abbrev N1 : PSh := ⟨[], []⟩
abbrev Np : PSh := ⟨[], [kI]⟩
abbrev S0 : Type := Y4
abbrev Ok : Type := (((S0) -> Option (Unit × ((Int × Unit) × Unit))) × Unit)
abbrev Ady : PSh := ⟨[], [.any, kI, .mk false [.v (.int .u32)]] ++ Q6 11⟩
def Adz (T : Ok) (d : S0) : Option (Unit × ((Int × Unit) × Unit)) :=
 let x3 := (decide (d.2.2.1.1 > (0 : Int)))
 bif x3 then (
 let x4 := (Bm .i64 d.2.1.1 1)
 let x5 := (Ef .u64 d.2.2.1.1)
 let x6 := (A3g .u64 x5 (8 : Int))
 let x7 := (Ef .u32 x6)
 (T.1 ((), ((x4, ()), ((x7, ()), ())))))
 else (
 some ((), (d.2.1, ())))
def I5 : Nat -> Ok
 | 0 => (fun _ => none, ())
 | k + 1 => (Adz (I5 k), ())
def Tg (T : Ok) (d : Unit × Unit) : Option (Unit × ((Int × Unit) × Unit)) :=
 let x1 := (Ef .u32 (0 : Int))
 let x2 := (Be3 .u32 x1)
 (T.1 ((), ((0, ()), ((x2, ()), ()))))
def Ld (d) := lim fun k => Tg (I5 k) d
theorem Ags : Em Tryz.prog ET0 91 N1 Np Ld :=
 fnL (E := E0) (pi := N1) (po := Np) Bc (fn := Tryz.f91) Tryz.func91 (by kernel_rfl) (by kernel_rfl) [.tmp 0] (by kernel_rfl) rfl rfl rfl [] (fun k => [(4, ⟨Ady, (I5 k).1⟩)]) (fun _ => [])
 (.intro (fun _ => rfl) trivial) (fun k => (.intro (fun d => by kernel_rfl) trivial)) trivial (fun k => trivial) (fun k d => Tg (I5 k) d) (fun k d => by kernel_rfl)
def Ajd := Ah N1 Np Ld
abbrev Bu : PSh := ⟨[], [.mk false [.v (.sl (.int .u8))]]⟩
abbrev Hv : PSh := Aw
def Li (T : Unit) (d : Y7) : Option (Y3) :=
 bif d.2.1.1.isEmpty then (
 Ayk (
 some ((([] : List Int), ()), ((), ()))) (
 let x1 := ([] : List Int)
 bif decide (((x1.length + d.2.1.1.length) * 1 : Nat) <= 140737488355328) && decide (x1.length + d.2.1.1.length <= 9223372036854775807) then (
 let x2 := (x1 ++ d.2.1.1)
 some ((x2, ()), ((), ())))
 else none))
 else (
 let x3 := ([] : List Int)
 bif decide (((x3.length + d.2.1.1.length) * 1 : Nat) <= 140737488355328) && decide (x3.length + d.2.1.1.length <= 9223372036854775807) then (
 let x4 := (x3 ++ d.2.1.1)
 some ((x4, ()), ((), ())))
 else none)
def C5 := Li ()
theorem Lz : Em Tryz.prog ET0 92 Bu Hv C5 :=
 fn0 (E := E0) (pi := Bu) (po := Hv) Bc (fn := Tryz.f92) Tryz.func92 (by kernel_rfl) (by kernel_rfl) [.tmp 2] (by kernel_rfl) rfl rfl rfl [] fun d => by kernel_rfl
def Na := Ah Bu Hv C5
abbrev Pv : PSh := ⟨[], [.mk false [.v (.sl (.int .u8))], .mk false [.v (.sl (.int .u32))]]⟩
abbrev K9 : PSh := Aw
abbrev Ji : Type := Y3
abbrev N7 : Type := ((List Int) × Unit) × ((Int × Unit) × (Unit × (((List Int) × Unit) × ((Int × Unit) × ((Int × Unit) × Unit)))))
abbrev M4 : Type := ((List Int) × Unit) × ((Int × Unit) × (Unit × ((Int × Unit) × ((Int × Unit) × (((List Int) × Unit) × ((Int × Unit) × ((Int × Unit) × Unit)))))))
abbrev K3 : Type := (((N7) -> Option (Ji)) × (((M4) -> Option (Ji)) × Unit))
abbrev Af5 : PSh := ⟨[.row 5 (.int .u8)], [.any, .any, .any, .any, .any, kI, .mk false [.osl 0], .any, .any, .any, .any, .any, .any, .mk false [.v (.sl (.int .u32))], kI, kI] ++ Q6 20⟩
abbrev Ad4 : PSh := ⟨[.row 5 (.int .u8)], [.any, .any, .any, .any, .any, kI, .mk false [.osl 0], .any, .mk false [.v (.int .u32)], kI, .any, .any, .any, .mk false [.v (.sl (.int .u32))], kI, kI] ++ Q6 20⟩
def I8 (T : K3) (d : N7) : Option (Ji) :=
 let x4 := (decide (d.2.2.2.2.2.1.1 < d.2.2.2.2.1.1))
 bif x4 then (
 bif decide ((0 : Int) <= d.2.2.2.2.2.1.1) && decide (d.2.2.2.2.2.1.1 < (d.2.2.2.1.1.length : Int)) then (
 let x5 := (H3 .i64 d.2.1.1 1)
 (T.2.1 (d.1, (d.2.1, ((), (((gd (.int .u32) d.2.2.2.1.1 d.2.2.2.2.2.1.1), ()), ((x5, ()), d.2.2.2)))))))
 else none)
 else (
 some (d.1, ((), ())))
def If (T : K3) (d : M4) : Option (Ji) :=
 let x6 := (decide (d.2.2.2.2.1.1 >= (0 : Int)))
 bif x6 then (
 let x7 := (Ef .u64 d.2.2.2.1.1)
 let x8 := (Qq .i64 (8 : Int) d.2.2.2.2.1.1)
 bif decide (x8 < 0) then (
 none)
 else (
 let x9 := (A3g .u64 x7 x8)
 let x10 := (Ef .u8 x9)
 let x11 := ([x10] : List Int)
 bif decide (((d.1.1.length + x11.length) * 1 : Nat) <= 140737488355328) && decide (d.1.1.length + x11.length <= 9223372036854775807) then (
 let x12 := (d.1.1 ++ x11)
 let x13 := (H3 .i64 d.2.2.2.2.1.1 1)
 (T.2.1 ((x12, ()), (d.2.1, ((), (d.2.2.2.1, ((x13, ()), d.2.2.2.2.2)))))))
 else none))
 else (
 let x14 := (Bm .i64 d.2.2.2.2.2.2.2.1.1 1)
 (T.1 (d.1, (d.2.1, ((), (d.2.2.2.2.2.1, (d.2.2.2.2.2.2.1, ((x14, ()), ()))))))))
def Bw : Nat -> K3
 | 0 => (fun _ => none, (fun _ => none, ()))
 | k + 1 => (I8 (Bw k), (If (Bw k), ()))
theorem Ma (k : Nat) : Bw (k + 1) = (I8 (Bw k), (If (Bw k), ())) := rfl
def O5 (T : K3) (d : Y8) : Option (Ji) :=
 (Ld ((), ())).bind fun x1 =>
 (C5 ((), (d.2.1, ()))).bind fun x2 =>
 let x3 := (d.2.2.1.1.length : Int)
 (T.1 (x2.1, (x1.2.1, ((), (d.2.2.1, ((x3, ()), ((0, ()), ())))))))
def Jq (d) := lim fun k => O5 (Bw k) d
theorem Ain : Em Tryz.prog ET0 62 Pv K9 Jq :=
 fnL (E := ((E0.add 91 Ajd).add 92 Na)) (pi := Pv) (po := K9) (Aa (Aa Bc (Af Ags)) (Af Lz)) (fn := Tryz.f62) Tryz.func62 (by kernel_rfl) (by kernel_rfl) [.tmp 4] (by kernel_rfl) rfl rfl rfl [] (fun k => [(5, ⟨Af5, (Bw k).1⟩), (11, ⟨Ad4, (Bw k).2.1⟩)]) (fun _ => [])
 (.intro (fun _ => rfl) (.intro (fun _ => rfl) trivial)) (fun k => (.intro (fun d => by kernel_rfl) (.intro (fun d => by kernel_rfl) trivial))) trivial (fun k => trivial) (fun k d => O5 (Bw k) d) (fun k d => by kernel_rfl)
def Al5 := Ah Pv K9 Jq
abbrev Hm : PSh := ⟨[], [.mk true [.v (.int .u32), .v (.int .u32), .v (.int .u32), .v (.int .u32), .v (.int .u32)]]⟩
abbrev Qr : PSh := ⟨[], [.mk true [v8, v8, v8, v8, v8, v8, v8, v8, v8, v8, v8, v8, v8, v8, v8, v8, v8, v8, v8, v8]]⟩
def Atg (T : Unit) (d : Y9) : Option (Y10) :=
 let x1 := (d.2.1.1, (d.2.1.2.1, (d.2.1.2.2.1, (d.2.1.2.2.2.1, d.2.1.2.2.2.2.1))))
 let x2 := ([x1.1, x1.2.1, x1.2.2.1, x1.2.2.2.1, x1.2.2.2.2] : List Int)
 (Jq ((), ((([] : List Int), ()), ((x2, ()), ())))).bind fun x3 =>
 bif decide ((20 : Int) <= x3.1.1.length) then (
 let x4 := ((gd (.int .u8) x3.1.1 (0 : Int)), ((gd (.int .u8) x3.1.1 (1 : Int)), ((gd (.int .u8) x3.1.1 (2 : Int)), ((gd (.int .u8) x3.1.1 (3 : Int)), ((gd (.int .u8) x3.1.1 (4 : Int)), ((gd (.int .u8) x3.1.1 (5 : Int)), ((gd (.int .u8) x3.1.1 (6 : Int)), ((gd (.int .u8) x3.1.1 (7 : Int)), ((gd (.int .u8) x3.1.1 (8 : Int)), ((gd (.int .u8) x3.1.1 (9 : Int)), ((gd (.int .u8) x3.1.1 (10 : Int)), ((gd (.int .u8) x3.1.1 (11 : Int)), ((gd (.int .u8) x3.1.1 (12 : Int)), ((gd (.int .u8) x3.1.1 (13 : Int)), ((gd (.int .u8) x3.1.1 (14 : Int)), ((gd (.int .u8) x3.1.1 (15 : Int)), ((gd (.int .u8) x3.1.1 (16 : Int)), ((gd (.int .u8) x3.1.1 (17 : Int)), ((gd (.int .u8) x3.1.1 (18 : Int)), (gd (.int .u8) x3.1.1 (19 : Int)))))))))))))))))))))
 some ((), ((x4.1, (x4.2.1, (x4.2.2.1, (x4.2.2.2.1, (x4.2.2.2.2.1, (x4.2.2.2.2.2.1, (x4.2.2.2.2.2.2.1, (x4.2.2.2.2.2.2.2.1, (x4.2.2.2.2.2.2.2.2.1, (x4.2.2.2.2.2.2.2.2.2.1, (x4.2.2.2.2.2.2.2.2.2.2.1, (x4.2.2.2.2.2.2.2.2.2.2.2.1, (x4.2.2.2.2.2.2.2.2.2.2.2.2.1, (x4.2.2.2.2.2.2.2.2.2.2.2.2.2.1, (x4.2.2.2.2.2.2.2.2.2.2.2.2.2.2.1, (x4.2.2.2.2.2.2.2.2.2.2.2.2.2.2.2.1, (x4.2.2.2.2.2.2.2.2.2.2.2.2.2.2.2.2.1, (x4.2.2.2.2.2.2.2.2.2.2.2.2.2.2.2.2.2.1, (x4.2.2.2.2.2.2.2.2.2.2.2.2.2.2.2.2.2.2.1, (x4.2.2.2.2.2.2.2.2.2.2.2.2.2.2.2.2.2.2.2, ())))))))))))))))))))), ())))
 else none
def J6 := Atg ()
theorem Akf : Em Tryz.prog ET0 30 Hm Qr J6 :=
 fn0 (E := ((E0.add 62 Al5).fr [(3, [1]), (5, [4])])) (pi := Hm) (po := Qr) (Aht (Aa Bc (Af Ain))) (fn := Tryz.f30) Tryz.func30 (by kernel_rfl) (by kernel_rfl) [.cell 2 53] (by kernel_rfl) rfl rfl rfl [] fun d => by kernel_rfl
def Apa := Ah Hm Qr J6
abbrev Ye : PSh := ⟨[], []⟩
abbrev Z1 : PSh := Hm
def Ap2 (T : Unit) (d : Unit × Unit) : Option (Y9) :=
 some ((), (((1732584193 : Int), ((4023233417 : Int), ((2562383102 : Int), ((271733878 : Int), (3285377520, ()))))), ()))
def Ab7 := Ap2 ()
theorem At8 : Em Tryz.prog ET0 72 Ye Z1 Ab7 :=
 fn0 (E := E0) (pi := Ye) (po := Z1) Bc (fn := Tryz.f72) Tryz.func72 (by kernel_rfl) (by kernel_rfl) [.cell 0 36] (by kernel_rfl) rfl rfl rfl [] fun d => by kernel_rfl
def Aw2 := Ah Ye Z1 Ab7
abbrev H2 : PSh := ⟨[], [.mk false [.v (.sl (.int .u8))], kI]⟩
abbrev Hu : PSh := ⟨[.var 63 [.v (.sl (.int .u8))], .var 3 [vI]], [.mk false [.fn 97 [0, 1]]]⟩
def Lg (T : Unit) (d : Unit × (((List Int) × Unit) × ((Int × Unit) × Unit))) : Option ((((List Int) × Unit) × ((Int × Unit) × Unit)) × (Unit × Unit)) :=
 let x1 := (decide (d.2.2.1.1 < (1 : Int)))
 bif x1 then (
 none)
 else (
 some (d.2, ((), ())))
def Cm := Lg ()
theorem V3 : Em Tryz.prog ET0 73 H2 Hu Cm :=
 fn0 (E := E0) (pi := H2) (po := Hu) Bc (fn := Tryz.f73) Tryz.func73 (by kernel_rfl) (by kernel_rfl) [.tmp 4] (by kernel_rfl) rfl rfl rfl [] fun d => by kernel_rfl
def W9 := Ah H2 Hu Cm
abbrev Ez : PSh := ⟨[], [.mk false [.v (.int .u32)], kI]⟩
abbrev E3 : PSh := ⟨[], [.mk false [.v (.int .u32)]]⟩
def Um (T : Unit) (d : Y4) : Option (Unit × ((Int × Unit) × Unit)) :=
 let x1 := (Ef .u64 d.2.2.1.1)
 let x2 := (Ak7 .u64 x1 (31 : Int))
 bif decide (x2 < 0) then (
 none)
 else (
 let x3 := (Au0 .u32 d.2.1.1 x2)
 let x4 := (H3 .u64 (32 : Int) x2)
 bif decide (x4 < 0) then (
 none)
 else (
 let x5 := (A3g .u32 d.2.1.1 x4)
 let x6 := (ior .u32 x3 x5)
 some ((), ((x6, ()), ()))))
def Bd := Um ()
theorem Lu : Em Tryz.prog ET0 100 Ez E3 Bd :=
 fn0 (E := E0) (pi := Ez) (po := E3) Bc (fn := Tryz.f100) Tryz.func100 (by kernel_rfl) (by kernel_rfl) [.tmp 4] (by kernel_rfl) rfl rfl rfl [] fun d => by kernel_rfl
def Nj := Ah Ez E3 Bd
abbrev Rg : PSh := ⟨[], [.mk true [v8, v8, v8, v8, v8, v8, v8, v8, v8, v8, v8, v8, v8, v8, v8, v8, v8, v8, v8, v8, v8, v8, v8, v8, v8, v8, v8, v8, v8, v8, v8, v8, v8, v8, v8, v8, v8, v8, v8, v8, v8, v8, v8, v8, v8, v8, v8, v8, v8, v8, v8, v8, v8, v8, v8, v8, v8, v8, v8, v8, v8, v8, v8, v8]]⟩
abbrev Rf : PSh := ⟨[], [.mk true [.v (.int .u32), .v (.int .u32), .v (.int .u32), .v (.int .u32), .v (.int .u32), .v (.int .u32), .v (.int .u32), .v (.int .u32), .v (.int .u32), .v (.int .u32), .v (.int .u32), .v (.int .u32), .v (.int .u32), .v (.int .u32), .v (.int .u32), .v (.int .u32), .v (.int .u32), .v (.int .u32), .v (.int .u32), .v (.int .u32), .v (.int .u32), .v (.int .u32), .v (.int .u32), .v (.int .u32), .v (.int .u32), .v (.int .u32), .v (.int .u32), .v (.int .u32), .v (.int .u32), .v (.int .u32), .v (.int .u32), .v (.int .u32), .v (.int .u32), .v (.int .u32), .v (.int .u32), .v (.int .u32), .v (.int .u32), .v (.int .u32), .v (.int .u32), .v (.int .u32), .v (.int .u32), .v (.int .u32), .v (.int .u32), .v (.int .u32), .v (.int .u32), .v (.int .u32), .v (.int .u32), .v (.int .u32), .v (.int .u32), .v (.int .u32), .v (.int .u32), .v (.int .u32), .v (.int .u32), .v (.int .u32), .v (.int .u32), .v (.int .u32), .v (.int .u32), .v (.int .u32), .v (.int .u32), .v (.int .u32), .v (.int .u32), .v (.int .u32), .v (.int .u32), .v (.int .u32), .v (.int .u32), .v (.int .u32), .v (.int .u32), .v (.int .u32), .v (.int .u32), .v (.int .u32), .v (.int .u32), .v (.int .u32), .v (.int .u32), .v (.int .u32), .v (.int .u32), .v (.int .u32), .v (.int .u32), .v (.int .u32), .v (.int .u32), .v (.int .u32)]]⟩
abbrev S8 : Type := Unit × ((Int × (Int × (Int × (Int × (Int × (Int × (Int × (Int × (Int × (Int × (Int × (Int × (Int × (Int × (Int × (Int × (Int × (Int × (Int × (Int × (Int × (Int × (Int × (Int × (Int × (Int × (Int × (Int × (Int × (Int × (Int × (Int × (Int × (Int × (Int × (Int × (Int × (Int × (Int × (Int × (Int × (Int × (Int × (Int × (Int × (Int × (Int × (Int × (Int × (Int × (Int × (Int × (Int × (Int × (Int × (Int × (Int × (Int × (Int × (Int × (Int × (Int × (Int × (Int × (Int × (Int × (Int × (Int × (Int × (Int × (Int × (Int × (Int × (Int × (Int × (Int × (Int × (Int × (Int × (Int × Unit)))))))))))))))))))))))))))))))))))))))))))))))))))))))))))))))))))))))))))))))) × Unit)
abbrev Xt : Type := ((List Int) × ((List Int) × ((List Int) × Unit))) × (Unit × (Unit × (Unit × ((Int × Unit) × Unit))))
abbrev Jk : Type := (((Xt) -> Option (S8)) × Unit)
abbrev Aia : PSh := ⟨[.row 135 (.int .u8), .row 152 (.int .u32), .row 152 (.int .u32)], [.any, .mk false [.opt 0], .mk false [.opt 1], .mk false [.opt 2], .any, .any, kI] ++ Q6 57⟩
def J3 (T : Jk) (d : Xt) : Option (S8) :=
 let x4 := (decide (d.2.2.2.2.1.1 < (80 : Int)))
 bif x4 then (
 let x5 := (decide (d.2.2.2.2.1.1 < (16 : Int)))
 bif x5 then (
 let x6 := (Qq .i64 (4 : Int) d.2.2.2.2.1.1)
 bif decide ((0 : Int) <= x6) && decide (x6 < (64 : Int)) && decide (x6 < (d.1.1.length : Int)) then (
 let x7 := (Ef .u32 (gd (.int .u8) d.1.1 x6))
 let x8 := (Au0 .u32 x7 (24 : Int))
 let x9 := (Bm .i64 x6 1)
 bif decide ((0 : Int) <= x9) && decide (x9 < (64 : Int)) && decide (x9 < (d.1.1.length : Int)) then (
 let x10 := (Ef .u32 (gd (.int .u8) d.1.1 x9))
 let x11 := (Au0 .u32 x10 (16 : Int))
 let x12 := (ior .u32 x8 x11)
 let x13 := (Bm .i64 x6 2)
 bif decide ((0 : Int) <= x13) && decide (x13 < (64 : Int)) && decide (x13 < (d.1.1.length : Int)) then (
 let x14 := (Ef .u32 (gd (.int .u8) d.1.1 x13))
 let x15 := (Au0 .u32 x14 (8 : Int))
 let x16 := (ior .u32 x12 x15)
 let x17 := (Bm .i64 x6 3)
 bif decide ((0 : Int) <= x17) && decide (x17 < (64 : Int)) && decide (x17 < (d.1.1.length : Int)) then (
 let x18 := (Ef .u32 (gd (.int .u8) d.1.1 x17))
 let x19 := (ior .u32 x16 x18)
 bif decide ((0 : Int) <= d.2.2.2.2.1.1) && decide (d.2.2.2.2.1.1 < (80 : Int)) && decide (d.2.2.2.2.1.1 < (d.1.2.2.1.length : Int)) then (
 let x20 := (List.set d.1.2.2.1 (Int.toNat d.2.2.2.2.1.1) x19)
 let x21 := (Bm .i64 d.2.2.2.2.1.1 1)
 (T.1 ((d.1.1, (d.1.2.1, (x20, ()))), ((), ((), ((), ((x21, ()), ())))))))
 else none)
 else none)
 else none)
 else none)
 else none)
 else (
 let x22 := (H3 .i64 d.2.2.2.2.1.1 3)
 bif decide ((0 : Int) <= x22) && decide (x22 < (80 : Int)) && decide (x22 < (d.1.2.2.1.length : Int)) then (
 let x23 := (H3 .i64 d.2.2.2.2.1.1 8)
 bif decide ((0 : Int) <= x23) && decide (x23 < (80 : Int)) && decide (x23 < (d.1.2.2.1.length : Int)) then (
 let x24 := (Adt .u32 (gd (.int .u32) d.1.2.2.1 x22) (gd (.int .u32) d.1.2.2.1 x23))
 let x25 := (H3 .i64 d.2.2.2.2.1.1 14)
 bif decide ((0 : Int) <= x25) && decide (x25 < (80 : Int)) && decide (x25 < (d.1.2.2.1.length : Int)) then (
 let x26 := (Adt .u32 x24 (gd (.int .u32) d.1.2.2.1 x25))
 let x27 := (H3 .i64 d.2.2.2.2.1.1 16)
 bif decide ((0 : Int) <= x27) && decide (x27 < (80 : Int)) && decide (x27 < (d.1.2.2.1.length : Int)) then (
 let x28 := (Adt .u32 x26 (gd (.int .u32) d.1.2.2.1 x27))
 (Bd ((), ((x28, ()), ((1, ()), ())))).bind fun x29 =>
 bif decide ((0 : Int) <= d.2.2.2.2.1.1) && decide (d.2.2.2.2.1.1 < (80 : Int)) && decide (d.2.2.2.2.1.1 < (d.1.2.2.1.length : Int)) then (
 let x30 := (List.set d.1.2.2.1 (Int.toNat d.2.2.2.2.1.1) x29.2.1.1)
 let x31 := (Bm .i64 d.2.2.2.2.1.1 1)
 (T.1 ((d.1.1, (d.1.2.1, (x30, ()))), ((), ((), ((), ((x31, ()), ())))))))
 else none)
 else none)
 else none)
 else none)
 else none))
 else (
 bif decide ((80 : Int) <= (d.1.2.2.1.length : Int)) then (
 bif decide ((d.1.2.1.length : Int) = (80 : Int)) then (
 let x32 := ([(gd (.int .u32) d.1.2.2.1 (0 : Int)), (gd (.int .u32) d.1.2.2.1 (1 : Int)), (gd (.int .u32) d.1.2.2.1 (2 : Int)), (gd (.int .u32) d.1.2.2.1 (3 : Int)), (gd (.int .u32) d.1.2.2.1 (4 : Int)), (gd (.int .u32) d.1.2.2.1 (5 : Int)), (gd (.int .u32) d.1.2.2.1 (6 : Int)), (gd (.int .u32) d.1.2.2.1 (7 : Int)), (gd (.int .u32) d.1.2.2.1 (8 : Int)), (gd (.int .u32) d.1.2.2.1 (9 : Int)), (gd (.int .u32) d.1.2.2.1 (10 : Int)), (gd (.int .u32) d.1.2.2.1 (11 : Int)), (gd (.int .u32) d.1.2.2.1 (12 : Int)), (gd (.int .u32) d.1.2.2.1 (13 : Int)), (gd (.int .u32) d.1.2.2.1 (14 : Int)), (gd (.int .u32) d.1.2.2.1 (15 : Int)), (gd (.int .u32) d.1.2.2.1 (16 : Int)), (gd (.int .u32) d.1.2.2.1 (17 : Int)), (gd (.int .u32) d.1.2.2.1 (18 : Int)), (gd (.int .u32) d.1.2.2.1 (19 : Int)), (gd (.int .u32) d.1.2.2.1 (20 : Int)), (gd (.int .u32) d.1.2.2.1 (21 : Int)), (gd (.int .u32) d.1.2.2.1 (22 : Int)), (gd (.int .u32) d.1.2.2.1 (23 : Int)), (gd (.int .u32) d.1.2.2.1 (24 : Int)), (gd (.int .u32) d.1.2.2.1 (25 : Int)), (gd (.int .u32) d.1.2.2.1 (26 : Int)), (gd (.int .u32) d.1.2.2.1 (27 : Int)), (gd (.int .u32) d.1.2.2.1 (28 : Int)), (gd (.int .u32) d.1.2.2.1 (29 : Int)), (gd (.int .u32) d.1.2.2.1 (30 : Int)), (gd (.int .u32) d.1.2.2.1 (31 : Int)), (gd (.int .u32) d.1.2.2.1 (32 : Int)), (gd (.int .u32) d.1.2.2.1 (33 : Int)), (gd (.int .u32) d.1.2.2.1 (34 : Int)), (gd (.int .u32) d.1.2.2.1 (35 : Int)), (gd (.int .u32) d.1.2.2.1 (36 : Int)), (gd (.int .u32) d.1.2.2.1 (37 : Int)), (gd (.int .u32) d.1.2.2.1 (38 : Int)), (gd (.int .u32) d.1.2.2.1 (39 : Int)), (gd (.int .u32) d.1.2.2.1 (40 : Int)), (gd (.int .u32) d.1.2.2.1 (41 : Int)), (gd (.int .u32) d.1.2.2.1 (42 : Int)), (gd (.int .u32) d.1.2.2.1 (43 : Int)), (gd (.int .u32) d.1.2.2.1 (44 : Int)), (gd (.int .u32) d.1.2.2.1 (45 : Int)), (gd (.int .u32) d.1.2.2.1 (46 : Int)), (gd (.int .u32) d.1.2.2.1 (47 : Int)), (gd (.int .u32) d.1.2.2.1 (48 : Int)), (gd (.int .u32) d.1.2.2.1 (49 : Int)), (gd (.int .u32) d.1.2.2.1 (50 : Int)), (gd (.int .u32) d.1.2.2.1 (51 : Int)), (gd (.int .u32) d.1.2.2.1 (52 : Int)), (gd (.int .u32) d.1.2.2.1 (53 : Int)), (gd (.int .u32) d.1.2.2.1 (54 : Int)), (gd (.int .u32) d.1.2.2.1 (55 : Int)), (gd (.int .u32) d.1.2.2.1 (56 : Int)), (gd (.int .u32) d.1.2.2.1 (57 : Int)), (gd (.int .u32) d.1.2.2.1 (58 : Int)), (gd (.int .u32) d.1.2.2.1 (59 : Int)), (gd (.int .u32) d.1.2.2.1 (60 : Int)), (gd (.int .u32) d.1.2.2.1 (61 : Int)), (gd (.int .u32) d.1.2.2.1 (62 : Int)), (gd (.int .u32) d.1.2.2.1 (63 : Int)), (gd (.int .u32) d.1.2.2.1 (64 : Int)), (gd (.int .u32) d.1.2.2.1 (65 : Int)), (gd (.int .u32) d.1.2.2.1 (66 : Int)), (gd (.int .u32) d.1.2.2.1 (67 : Int)), (gd (.int .u32) d.1.2.2.1 (68 : Int)), (gd (.int .u32) d.1.2.2.1 (69 : Int)), (gd (.int .u32) d.1.2.2.1 (70 : Int)), (gd (.int .u32) d.1.2.2.1 (71 : Int)), (gd (.int .u32) d.1.2.2.1 (72 : Int)), (gd (.int .u32) d.1.2.2.1 (73 : Int)), (gd (.int .u32) d.1.2.2.1 (74 : Int)), (gd (.int .u32) d.1.2.2.1 (75 : Int)), (gd (.int .u32) d.1.2.2.1 (76 : Int)), (gd (.int .u32) d.1.2.2.1 (77 : Int)), (gd (.int .u32) d.1.2.2.1 (78 : Int)), (gd (.int .u32) d.1.2.2.1 (79 : Int))] : List Int)
 some ((), (((gd (.int .u32) x32 (0 : Int)), ((gd (.int .u32) x32 (1 : Int)), ((gd (.int .u32) x32 (2 : Int)), ((gd (.int .u32) x32 (3 : Int)), ((gd (.int .u32) x32 (4 : Int)), ((gd (.int .u32) x32 (5 : Int)), ((gd (.int .u32) x32 (6 : Int)), ((gd (.int .u32) x32 (7 : Int)), ((gd (.int .u32) x32 (8 : Int)), ((gd (.int .u32) x32 (9 : Int)), ((gd (.int .u32) x32 (10 : Int)), ((gd (.int .u32) x32 (11 : Int)), ((gd (.int .u32) x32 (12 : Int)), ((gd (.int .u32) x32 (13 : Int)), ((gd (.int .u32) x32 (14 : Int)), ((gd (.int .u32) x32 (15 : Int)), ((gd (.int .u32) x32 (16 : Int)), ((gd (.int .u32) x32 (17 : Int)), ((gd (.int .u32) x32 (18 : Int)), ((gd (.int .u32) x32 (19 : Int)), ((gd (.int .u32) x32 (20 : Int)), ((gd (.int .u32) x32 (21 : Int)), ((gd (.int .u32) x32 (22 : Int)), ((gd (.int .u32) x32 (23 : Int)), ((gd (.int .u32) x32 (24 : Int)), ((gd (.int .u32) x32 (25 : Int)), ((gd (.int .u32) x32 (26 : Int)), ((gd (.int .u32) x32 (27 : Int)), ((gd (.int .u32) x32 (28 : Int)), ((gd (.int .u32) x32 (29 : Int)), ((gd (.int .u32) x32 (30 : Int)), ((gd (.int .u32) x32 (31 : Int)), ((gd (.int .u32) x32 (32 : Int)), ((gd (.int .u32) x32 (33 : Int)), ((gd (.int .u32) x32 (34 : Int)), ((gd (.int .u32) x32 (35 : Int)), ((gd (.int .u32) x32 (36 : Int)), ((gd (.int .u32) x32 (37 : Int)), ((gd (.int .u32) x32 (38 : Int)), ((gd (.int .u32) x32 (39 : Int)), ((gd (.int .u32) x32 (40 : Int)), ((gd (.int .u32) x32 (41 : Int)), ((gd (.int .u32) x32 (42 : Int)), ((gd (.int .u32) x32 (43 : Int)), ((gd (.int .u32) x32 (44 : Int)), ((gd (.int .u32) x32 (45 : Int)), ((gd (.int .u32) x32 (46 : Int)), ((gd (.int .u32) x32 (47 : Int)), ((gd (.int .u32) x32 (48 : Int)), ((gd (.int .u32) x32 (49 : Int)), ((gd (.int .u32) x32 (50 : Int)), ((gd (.int .u32) x32 (51 : Int)), ((gd (.int .u32) x32 (52 : Int)), ((gd (.int .u32) x32 (53 : Int)), ((gd (.int .u32) x32 (54 : Int)), ((gd (.int .u32) x32 (55 : Int)), ((gd (.int .u32) x32 (56 : Int)), ((gd (.int .u32) x32 (57 : Int)), ((gd (.int .u32) x32 (58 : Int)), ((gd (.int .u32) x32 (59 : Int)), ((gd (.int .u32) x32 (60 : Int)), ((gd (.int .u32) x32 (61 : Int)), ((gd (.int .u32) x32 (62 : Int)), ((gd (.int .u32) x32 (63 : Int)), ((gd (.int .u32) x32 (64 : Int)), ((gd (.int .u32) x32 (65 : Int)), ((gd (.int .u32) x32 (66 : Int)), ((gd (.int .u32) x32 (67 : Int)), ((gd (.int .u32) x32 (68 : Int)), ((gd (.int .u32) x32 (69 : Int)), ((gd (.int .u32) x32 (70 : Int)), ((gd (.int .u32) x32 (71 : Int)), ((gd (.int .u32) x32 (72 : Int)), ((gd (.int .u32) x32 (73 : Int)), ((gd (.int .u32) x32 (74 : Int)), ((gd (.int .u32) x32 (75 : Int)), ((gd (.int .u32) x32 (76 : Int)), ((gd (.int .u32) x32 (77 : Int)), ((gd (.int .u32) x32 (78 : Int)), ((gd (.int .u32) x32 (79 : Int)), ())))))))))))))))))))))))))))))))))))))))))))))))))))))))))))))))))))))))))))))))), ())))
 else none)
 else none)
def Ew : Nat -> Jk
 | 0 => (fun _ => none, ())
 | k + 1 => (J3 (Ew k), ())
theorem Ac6 (k : Nat) : Ew (k + 1) = (J3 (Ew k), ()) := rfl
def P4 (T : Jk) (d : Unit × ((Int × (Int × (Int × (Int × (Int × (Int × (Int × (Int × (Int × (Int × (Int × (Int × (Int × (Int × (Int × (Int × (Int × (Int × (Int × (Int × (Int × (Int × (Int × (Int × (Int × (Int × (Int × (Int × (Int × (Int × (Int × (Int × (Int × (Int × (Int × (Int × (Int × (Int × (Int × (Int × (Int × (Int × (Int × (Int × (Int × (Int × (Int × (Int × (Int × (Int × (Int × (Int × (Int × (Int × (Int × (Int × (Int × (Int × (Int × (Int × (Int × (Int × (Int × (Int × Unit)))))))))))))))))))))))))))))))))))))))))))))))))))))))))))))))) × Unit)) : Option (S8) :=
 let x1 := ([d.2.1.1, d.2.1.2.1, d.2.1.2.2.1, d.2.1.2.2.2.1, d.2.1.2.2.2.2.1, d.2.1.2.2.2.2.2.1, d.2.1.2.2.2.2.2.2.1, d.2.1.2.2.2.2.2.2.2.1, d.2.1.2.2.2.2.2.2.2.2.1, d.2.1.2.2.2.2.2.2.2.2.2.1, d.2.1.2.2.2.2.2.2.2.2.2.2.1, d.2.1.2.2.2.2.2.2.2.2.2.2.2.1, d.2.1.2.2.2.2.2.2.2.2.2.2.2.2.1, d.2.1.2.2.2.2.2.2.2.2.2.2.2.2.2.1, d.2.1.2.2.2.2.2.2.2.2.2.2.2.2.2.2.1, d.2.1.2.2.2.2.2.2.2.2.2.2.2.2.2.2.2.1, d.2.1.2.2.2.2.2.2.2.2.2.2.2.2.2.2.2.2.1, d.2.1.2.2.2.2.2.2.2.2.2.2.2.2.2.2.2.2.2.1, d.2.1.2.2.2.2.2.2.2.2.2.2.2.2.2.2.2.2.2.2.1, d.2.1.2.2.2.2.2.2.2.2.2.2.2.2.2.2.2.2.2.2.2.1, d.2.1.2.2.2.2.2.2.2.2.2.2.2.2.2.2.2.2.2.2.2.2.1, d.2.1.2.2.2.2.2.2.2.2.2.2.2.2.2.2.2.2.2.2.2.2.2.1, d.2.1.2.2.2.2.2.2.2.2.2.2.2.2.2.2.2.2.2.2.2.2.2.2.1, d.2.1.2.2.2.2.2.2.2.2.2.2.2.2.2.2.2.2.2.2.2.2.2.2.2.1, d.2.1.2.2.2.2.2.2.2.2.2.2.2.2.2.2.2.2.2.2.2.2.2.2.2.2.1, d.2.1.2.2.2.2.2.2.2.2.2.2.2.2.2.2.2.2.2.2.2.2.2.2.2.2.2.1, d.2.1.2.2.2.2.2.2.2.2.2.2.2.2.2.2.2.2.2.2.2.2.2.2.2.2.2.2.1, d.2.1.2.2.2.2.2.2.2.2.2.2.2.2.2.2.2.2.2.2.2.2.2.2.2.2.2.2.2.1, d.2.1.2.2.2.2.2.2.2.2.2.2.2.2.2.2.2.2.2.2.2.2.2.2.2.2.2.2.2.2.1, d.2.1.2.2.2.2.2.2.2.2.2.2.2.2.2.2.2.2.2.2.2.2.2.2.2.2.2.2.2.2.2.1, d.2.1.2.2.2.2.2.2.2.2.2.2.2.2.2.2.2.2.2.2.2.2.2.2.2.2.2.2.2.2.2.2.1, d.2.1.2.2.2.2.2.2.2.2.2.2.2.2.2.2.2.2.2.2.2.2.2.2.2.2.2.2.2.2.2.2.2.1, d.2.1.2.2.2.2.2.2.2.2.2.2.2.2.2.2.2.2.2.2.2.2.2.2.2.2.2.2.2.2.2.2.2.2.1, d.2.1.2.2.2.2.2.2.2.2.2.2.2.2.2.2.2.2.2.2.2.2.2.2.2.2.2.2.2.2.2.2.2.2.2.1, d.2.1.2.2.2.2.2.2.2.2.2.2.2.2.2.2.2.2.2.2.2.2.2.2.2.2.2.2.2.2.2.2.2.2.2.2.1, d.2.1.2.2.2.2.2.2.2.2.2.2.2.2.2.2.2.2.2.2.2.2.2.2.2.2.2.2.2.2.2.2.2.2.2.2.2.1, d.2.1.2.2.2.2.2.2.2.2.2.2.2.2.2.2.2.2.2.2.2.2.2.2.2.2.2.2.2.2.2.2.2.2.2.2.2.2.1, d.2.1.2.2.2.2.2.2.2.2.2.2.2.2.2.2.2.2.2.2.2.2.2.2.2.2.2.2.2.2.2.2.2.2.2.2.2.2.2.1, d.2.1.2.2.2.2.2.2.2.2.2.2.2.2.2.2.2.2.2.2.2.2.2.2.2.2.2.2.2.2.2.2.2.2.2.2.2.2.2.2.1, d.2.1.2.2.2.2.2.2.2.2.2.2.2.2.2.2.2.2.2.2.2.2.2.2.2.2.2.2.2.2.2.2.2.2.2.2.2.2.2.2.2.1, d.2.1.2.2.2.2.2.2.2.2.2.2.2.2.2.2.2.2.2.2.2.2.2.2.2.2.2.2.2.2.2.2.2.2.2.2.2.2.2.2.2.2.1, d.2.1.2.2.2.2.2.2.2.2.2.2.2.2.2.2.2.2.2.2.2.2.2.2.2.2.2.2.2.2.2.2.2.2.2.2.2.2.2.2.2.2.2.1, d.2.1.2.2.2.2.2.2.2.2.2.2.2.2.2.2.2.2.2.2.2.2.2.2.2.2.2.2.2.2.2.2.2.2.2.2.2.2.2.2.2.2.2.2.1, d.2.1.2.2.2.2.2.2.2.2.2.2.2.2.2.2.2.2.2.2.2.2.2.2.2.2.2.2.2.2.2.2.2.2.2.2.2.2.2.2.2.2.2.2.2.1, d.2.1.2.2.2.2.2.2.2.2.2.2.2.2.2.2.2.2.2.2.2.2.2.2.2.2.2.2.2.2.2.2.2.2.2.2.2.2.2.2.2.2.2.2.2.2.1, d.2.1.2.2.2.2.2.2.2.2.2.2.2.2.2.2.2.2.2.2.2.2.2.2.2.2.2.2.2.2.2.2.2.2.2.2.2.2.2.2.2.2.2.2.2.2.2.1, d.2.1.2.2.2.2.2.2.2.2.2.2.2.2.2.2.2.2.2.2.2.2.2.2.2.2.2.2.2.2.2.2.2.2.2.2.2.2.2.2.2.2.2.2.2.2.2.2.1, d.2.1.2.2.2.2.2.2.2.2.2.2.2.2.2.2.2.2.2.2.2.2.2.2.2.2.2.2.2.2.2.2.2.2.2.2.2.2.2.2.2.2.2.2.2.2.2.2.2.1, d.2.1.2.2.2.2.2.2.2.2.2.2.2.2.2.2.2.2.2.2.2.2.2.2.2.2.2.2.2.2.2.2.2.2.2.2.2.2.2.2.2.2.2.2.2.2.2.2.2.2.1, d.2.1.2.2.2.2.2.2.2.2.2.2.2.2.2.2.2.2.2.2.2.2.2.2.2.2.2.2.2.2.2.2.2.2.2.2.2.2.2.2.2.2.2.2.2.2.2.2.2.2.2.1, d.2.1.2.2.2.2.2.2.2.2.2.2.2.2.2.2.2.2.2.2.2.2.2.2.2.2.2.2.2.2.2.2.2.2.2.2.2.2.2.2.2.2.2.2.2.2.2.2.2.2.2.2.1, d.2.1.2.2.2.2.2.2.2.2.2.2.2.2.2.2.2.2.2.2.2.2.2.2.2.2.2.2.2.2.2.2.2.2.2.2.2.2.2.2.2.2.2.2.2.2.2.2.2.2.2.2.2.1, d.2.1.2.2.2.2.2.2.2.2.2.2.2.2.2.2.2.2.2.2.2.2.2.2.2.2.2.2.2.2.2.2.2.2.2.2.2.2.2.2.2.2.2.2.2.2.2.2.2.2.2.2.2.2.1, d.2.1.2.2.2.2.2.2.2.2.2.2.2.2.2.2.2.2.2.2.2.2.2.2.2.2.2.2.2.2.2.2.2.2.2.2.2.2.2.2.2.2.2.2.2.2.2.2.2.2.2.2.2.2.2.1, d.2.1.2.2.2.2.2.2.2.2.2.2.2.2.2.2.2.2.2.2.2.2.2.2.2.2.2.2.2.2.2.2.2.2.2.2.2.2.2.2.2.2.2.2.2.2.2.2.2.2.2.2.2.2.2.2.1, d.2.1.2.2.2.2.2.2.2.2.2.2.2.2.2.2.2.2.2.2.2.2.2.2.2.2.2.2.2.2.2.2.2.2.2.2.2.2.2.2.2.2.2.2.2.2.2.2.2.2.2.2.2.2.2.2.2.1, d.2.1.2.2.2.2.2.2.2.2.2.2.2.2.2.2.2.2.2.2.2.2.2.2.2.2.2.2.2.2.2.2.2.2.2.2.2.2.2.2.2.2.2.2.2.2.2.2.2.2.2.2.2.2.2.2.2.2.1, d.2.1.2.2.2.2.2.2.2.2.2.2.2.2.2.2.2.2.2.2.2.2.2.2.2.2.2.2.2.2.2.2.2.2.2.2.2.2.2.2.2.2.2.2.2.2.2.2.2.2.2.2.2.2.2.2.2.2.2.1, d.2.1.2.2.2.2.2.2.2.2.2.2.2.2.2.2.2.2.2.2.2.2.2.2.2.2.2.2.2.2.2.2.2.2.2.2.2.2.2.2.2.2.2.2.2.2.2.2.2.2.2.2.2.2.2.2.2.2.2.2.1, d.2.1.2.2.2.2.2.2.2.2.2.2.2.2.2.2.2.2.2.2.2.2.2.2.2.2.2.2.2.2.2.2.2.2.2.2.2.2.2.2.2.2.2.2.2.2.2.2.2.2.2.2.2.2.2.2.2.2.2.2.2.1, d.2.1.2.2.2.2.2.2.2.2.2.2.2.2.2.2.2.2.2.2.2.2.2.2.2.2.2.2.2.2.2.2.2.2.2.2.2.2.2.2.2.2.2.2.2.2.2.2.2.2.2.2.2.2.2.2.2.2.2.2.2.2.1, d.2.1.2.2.2.2.2.2.2.2.2.2.2.2.2.2.2.2.2.2.2.2.2.2.2.2.2.2.2.2.2.2.2.2.2.2.2.2.2.2.2.2.2.2.2.2.2.2.2.2.2.2.2.2.2.2.2.2.2.2.2.2.2.1, d.2.1.2.2.2.2.2.2.2.2.2.2.2.2.2.2.2.2.2.2.2.2.2.2.2.2.2.2.2.2.2.2.2.2.2.2.2.2.2.2.2.2.2.2.2.2.2.2.2.2.2.2.2.2.2.2.2.2.2.2.2.2.2.2.1, d.2.1.2.2.2.2.2.2.2.2.2.2.2.2.2.2.2.2.2.2.2.2.2.2.2.2.2.2.2.2.2.2.2.2.2.2.2.2.2.2.2.2.2.2.2.2.2.2.2.2.2.2.2.2.2.2.2.2.2.2.2.2.2.2.2.1] : List Int)
 let x2 := (List.replicate 80 (0 : Int))
 let x3 := (List.replicate 80 (0 : Int))
 (T.1 ((x1, (x2, (x3, ()))), ((), ((), ((), ((0, ()), ()))))))
def Ki (d) := lim fun k => P4 (Ew k) d
theorem Amc : Em Tryz.prog ET0 98 Rg Rf Ki :=
 fnL (E := (E0.add 100 Nj)) (pi := Rg) (po := Rf) (Aa Bc (Af Lu)) (fn := Tryz.f98) Tryz.func98 (by kernel_rfl) (by kernel_rfl) [.cell 2 152] (by kernel_rfl) rfl rfl rfl [] (fun k => [(4, ⟨Aia, (Ew k).1⟩)]) (fun _ => [])
 (.intro (fun _ => rfl) trivial) (fun k => (.intro (fun d => by kernel_rfl) trivial)) trivial (fun k => trivial) (fun k d => P4 (Ew k) d) (fun k d => by kernel_rfl)
def Aop := Ah Rg Rf Ki
abbrev Afo : PSh := ⟨[], [kI, .mk false [.v (.int .u32)], .mk false [.v (.int .u32)], .mk false [.v (.int .u32)]]⟩
abbrev Af4 : PSh := ⟨[], [.mk false [.v (.int .u32)], .mk false [.v (.int .u32)]]⟩
def Alb (T : Unit) (d : Unit × ((Int × Unit) × ((Int × Unit) × ((Int × Unit) × ((Int × Unit) × Unit))))) : Option (Y4) :=
 let x1 := (Nm .i64 d.2.1.1 (20 : Int))
 let x2 := (x1 == (0 : Int))
 bif x2 then (
 let x3 := (Adt .u32 d.2.2.2.1.1 d.2.2.2.2.1.1)
 let x4 := (Ak7 .u32 d.2.2.1.1 x3)
 let x5 := (Adt .u32 d.2.2.2.2.1.1 x4)
 some ((), ((x5, ()), ((1518500249, ()), ()))))
 else (
 let x6 := (x1 == (1 : Int))
 bif x6 then (
 let x7 := (Adt .u32 d.2.2.1.1 d.2.2.2.1.1)
 let x8 := (Adt .u32 x7 d.2.2.2.2.1.1)
 some ((), ((x8, ()), ((1859775393, ()), ()))))
 else (
 let x9 := (x1 == (2 : Int))
 bif x9 then (
 let x10 := (Ak7 .u32 d.2.2.1.1 d.2.2.2.1.1)
 let x11 := (ior .u32 d.2.2.1.1 d.2.2.2.1.1)
 let x12 := (Ak7 .u32 d.2.2.2.2.1.1 x11)
 let x13 := (ior .u32 x10 x12)
 some ((), ((x13, ()), ((2400959708, ()), ()))))
 else (
 let x14 := (Adt .u32 d.2.2.1.1 d.2.2.2.1.1)
 let x15 := (Adt .u32 x14 d.2.2.2.2.1.1)
 some ((), ((x15, ()), ((3395469782, ()), ()))))))
def Sj := Alb ()
theorem Aym : Em Tryz.prog ET0 99 Afo Af4 Sj :=
 fn0 (E := E0) (pi := Afo) (po := Af4) Bc (fn := Tryz.f99) Tryz.func99 (by kernel_rfl) (by kernel_rfl) [.tmp 8, .tmp 9] (by kernel_rfl) rfl rfl rfl [] fun d => by kernel_rfl
def A21 := Ah Afo Af4 Sj
abbrev Aby : PSh := ⟨[], [.mk true [.v (.int .u32), .v (.int .u32), .v (.int .u32), .v (.int .u32), .v (.int .u32)], .mk true [v8, v8, v8, v8, v8, v8, v8, v8, v8, v8, v8, v8, v8, v8, v8, v8, v8, v8, v8, v8, v8, v8, v8, v8, v8, v8, v8, v8, v8, v8, v8, v8, v8, v8, v8, v8, v8, v8, v8, v8, v8, v8, v8, v8, v8, v8, v8, v8, v8, v8, v8, v8, v8, v8, v8, v8, v8, v8, v8, v8, v8, v8, v8, v8]]⟩
abbrev Ach : PSh := Hm
abbrev M2 : Type := Y9
abbrev Agq : Type := ((Int × (Int × (Int × (Int × (Int × Unit))))) × ((Int × (Int × (Int × (Int × (Int × Unit))))) × ((Int × (Int × (Int × (Int × (Int × Unit))))) × Unit))) × (Unit × (Unit × (Unit × ((Int × (Int × (Int × (Int × (Int × (Int × (Int × (Int × (Int × (Int × (Int × (Int × (Int × (Int × (Int × (Int × (Int × (Int × (Int × (Int × (Int × (Int × (Int × (Int × (Int × (Int × (Int × (Int × (Int × (Int × (Int × (Int × (Int × (Int × (Int × (Int × (Int × (Int × (Int × (Int × (Int × (Int × (Int × (Int × (Int × (Int × (Int × (Int × (Int × (Int × (Int × (Int × (Int × (Int × (Int × (Int × (Int × (Int × (Int × (Int × (Int × (Int × (Int × (Int × (Int × (Int × (Int × (Int × (Int × (Int × (Int × (Int × (Int × (Int × (Int × (Int × (Int × (Int × (Int × (Int × Unit)))))))))))))))))))))))))))))))))))))))))))))))))))))))))))))))))))))))))))))))) × ((Int × Unit) × Unit)))))
abbrev Vo : Type := ((Int × (Int × (Int × (Int × (Int × Unit))))) × ((Int × (Int × (Int × (Int × (Int × Unit))))) × ((Int × (Int × (Int × (Int × (Int × Unit))))) × Unit))) × (Unit × (Unit × (Unit × ((Int × Unit) × Unit))))
abbrev Aej : Type := Vo
abbrev D3 : Type := (((Agq) -> Option (M2)) × (((Vo) -> Option (M2)) × (((Aej) -> Option (M2)) × Unit)))
abbrev Aqv : PSh := ⟨[.var 36 [.v (.int .u32), .v (.int .u32), .v (.int .u32), .v (.int .u32), .v (.int .u32)], .var 36 [.v (.int .u32), .v (.int .u32), .v (.int .u32), .v (.int .u32), .v (.int .u32)], .var 36 [.v (.int .u32), .v (.int .u32), .v (.int .u32), .v (.int .u32), .v (.int .u32)]], [.any, .any, .mk false [.ref 0 0], .any, .mk false [.ref 1 0], .mk false [.ref 2 0], .any, .any, .any, .any, .any, .any, .any, .mk true [.v (.int .u32), .v (.int .u32), .v (.int .u32), .v (.int .u32), .v (.int .u32), .v (.int .u32), .v (.int .u32), .v (.int .u32), .v (.int .u32), .v (.int .u32), .v (.int .u32), .v (.int .u32), .v (.int .u32), .v (.int .u32), .v (.int .u32), .v (.int .u32), .v (.int .u32), .v (.int .u32), .v (.int .u32), .v (.int .u32), .v (.int .u32), .v (.int .u32), .v (.int .u32), .v (.int .u32), .v (.int .u32), .v (.int .u32), .v (.int .u32), .v (.int .u32), .v (.int .u32), .v (.int .u32), .v (.int .u32), .v (.int .u32), .v (.int .u32), .v (.int .u32), .v (.int .u32), .v (.int .u32), .v (.int .u32), .v (.int .u32), .v (.int .u32), .v (.int .u32), .v (.int .u32), .v (.int .u32), .v (.int .u32), .v (.int .u32), .v (.int .u32), .v (.int .u32), .v (.int .u32), .v (.int .u32), .v (.int .u32), .v (.int .u32), .v (.int .u32), .v (.int .u32), .v (.int .u32), .v (.int .u32), .v (.int .u32), .v (.int .u32), .v (.int .u32), .v (.int .u32), .v (.int .u32), .v (.int .u32), .v (.int .u32), .v (.int .u32), .v (.int .u32), .v (.int .u32), .v (.int .u32), .v (.int .u32), .v (.int .u32), .v (.int .u32), .v (.int .u32), .v (.int .u32), .v (.int .u32), .v (.int .u32), .v (.int .u32), .v (.int .u32), .v (.int .u32), .v (.int .u32), .v (.int .u32), .v (.int .u32), .v (.int .u32), .v (.int .u32)], kI] ++ Q6 50⟩
abbrev Ab2 : PSh := ⟨[.var 36 [.v (.int .u32), .v (.int .u32), .v (.int .u32), .v (.int .u32), .v (.int .u32)], .var 36 [.v (.int .u32), .v (.int .u32), .v (.int .u32), .v (.int .u32), .v (.int .u32)], .var 36 [.v (.int .u32), .v (.int .u32), .v (.int .u32), .v (.int .u32), .v (.int .u32)]], [.any, .any, .mk false [.ref 0 0], .any, .mk false [.ref 1 0], .mk false [.ref 2 0], .any, .any, .any, .any, .any, .any, .any, .any, .any, .any, .any, .any, .any, .any, .any, .any, .any, .any, .any, .any, .any, .any, .any, .any, .any, .any, .any, .any, .any, .any, .any, .any, .any, .any, .any, .any, .any, .any, .any, .any, .any, .any, .any, .any, .any, .any, kI] ++ Q6 12⟩
abbrev Ao9 : PSh := Ab2
def V4 (T : D3) (d : Agq) : Option (M2) :=
 let x3 := (decide (d.2.2.2.2.2.1.1 < (80 : Int)))
 bif x3 then (
 bif decide ((0 : Int) <= d.2.2.2.2.2.1.1) && decide (d.2.2.2.2.2.1.1 < (80 : Int)) then (
 (Sj ((), (d.2.2.2.2.2.1, ((d.1.2.2.1.2.1, ()), ((d.1.2.2.1.2.2.1, ()), ((d.1.2.2.1.2.2.2.1, ()), ())))))).bind fun x4 =>
 (Bd ((), ((d.1.2.2.1.1, ()), ((5, ()), ())))).bind fun x5 =>
 let x6 := (Bm .u32 x5.2.1.1 x4.2.1.1)
 let x7 := (Bm .u32 x6 d.1.2.2.1.2.2.2.2.1)
 let x8 := (Bm .u32 x7 x4.2.2.1.1)
 let x9 := (Bm .u32 x8 (gd (.int .u32) ([d.2.2.2.2.1.1, d.2.2.2.2.1.2.1, d.2.2.2.2.1.2.2.1, d.2.2.2.2.1.2.2.2.1, d.2.2.2.2.1.2.2.2.2.1, d.2.2.2.2.1.2.2.2.2.2.1, d.2.2.2.2.1.2.2.2.2.2.2.1, d.2.2.2.2.1.2.2.2.2.2.2.2.1, d.2.2.2.2.1.2.2.2.2.2.2.2.2.1, d.2.2.2.2.1.2.2.2.2.2.2.2.2.2.1, d.2.2.2.2.1.2.2.2.2.2.2.2.2.2.2.1, d.2.2.2.2.1.2.2.2.2.2.2.2.2.2.2.2.1, d.2.2.2.2.1.2.2.2.2.2.2.2.2.2.2.2.2.1, d.2.2.2.2.1.2.2.2.2.2.2.2.2.2.2.2.2.2.1, d.2.2.2.2.1.2.2.2.2.2.2.2.2.2.2.2.2.2.2.1, d.2.2.2.2.1.2.2.2.2.2.2.2.2.2.2.2.2.2.2.2.1, d.2.2.2.2.1.2.2.2.2.2.2.2.2.2.2.2.2.2.2.2.2.1, d.2.2.2.2.1.2.2.2.2.2.2.2.2.2.2.2.2.2.2.2.2.2.1, d.2.2.2.2.1.2.2.2.2.2.2.2.2.2.2.2.2.2.2.2.2.2.2.1, d.2.2.2.2.1.2.2.2.2.2.2.2.2.2.2.2.2.2.2.2.2.2.2.2.1, d.2.2.2.2.1.2.2.2.2.2.2.2.2.2.2.2.2.2.2.2.2.2.2.2.2.1, d.2.2.2.2.1.2.2.2.2.2.2.2.2.2.2.2.2.2.2.2.2.2.2.2.2.2.1, d.2.2.2.2.1.2.2.2.2.2.2.2.2.2.2.2.2.2.2.2.2.2.2.2.2.2.2.1, d.2.2.2.2.1.2.2.2.2.2.2.2.2.2.2.2.2.2.2.2.2.2.2.2.2.2.2.2.1, d.2.2.2.2.1.2.2.2.2.2.2.2.2.2.2.2.2.2.2.2.2.2.2.2.2.2.2.2.2.1, d.2.2.2.2.1.2.2.2.2.2.2.2.2.2.2.2.2.2.2.2.2.2.2.2.2.2.2.2.2.2.1, d.2.2.2.2.1.2.2.2.2.2.2.2.2.2.2.2.2.2.2.2.2.2.2.2.2.2.2.2.2.2.2.1, d.2.2.2.2.1.2.2.2.2.2.2.2.2.2.2.2.2.2.2.2.2.2.2.2.2.2.2.2.2.2.2.2.1, d.2.2.2.2.1.2.2.2.2.2.2.2.2.2.2.2.2.2.2.2.2.2.2.2.2.2.2.2.2.2.2.2.2.1, d.2.2.2.2.1.2.2.2.2.2.2.2.2.2.2.2.2.2.2.2.2.2.2.2.2.2.2.2.2.2.2.2.2.2.1, d.2.2.2.2.1.2.2.2.2.2.2.2.2.2.2.2.2.2.2.2.2.2.2.2.2.2.2.2.2.2.2.2.2.2.2.1, d.2.2.2.2.1.2.2.2.2.2.2.2.2.2.2.2.2.2.2.2.2.2.2.2.2.2.2.2.2.2.2.2.2.2.2.2.1, d.2.2.2.2.1.2.2.2.2.2.2.2.2.2.2.2.2.2.2.2.2.2.2.2.2.2.2.2.2.2.2.2.2.2.2.2.2.1, d.2.2.2.2.1.2.2.2.2.2.2.2.2.2.2.2.2.2.2.2.2.2.2.2.2.2.2.2.2.2.2.2.2.2.2.2.2.2.1, d.2.2.2.2.1.2.2.2.2.2.2.2.2.2.2.2.2.2.2.2.2.2.2.2.2.2.2.2.2.2.2.2.2.2.2.2.2.2.2.1, d.2.2.2.2.1.2.2.2.2.2.2.2.2.2.2.2.2.2.2.2.2.2.2.2.2.2.2.2.2.2.2.2.2.2.2.2.2.2.2.2.1, d.2.2.2.2.1.2.2.2.2.2.2.2.2.2.2.2.2.2.2.2.2.2.2.2.2.2.2.2.2.2.2.2.2.2.2.2.2.2.2.2.2.1, d.2.2.2.2.1.2.2.2.2.2.2.2.2.2.2.2.2.2.2.2.2.2.2.2.2.2.2.2.2.2.2.2.2.2.2.2.2.2.2.2.2.2.1, d.2.2.2.2.1.2.2.2.2.2.2.2.2.2.2.2.2.2.2.2.2.2.2.2.2.2.2.2.2.2.2.2.2.2.2.2.2.2.2.2.2.2.2.1, d.2.2.2.2.1.2.2.2.2.2.2.2.2.2.2.2.2.2.2.2.2.2.2.2.2.2.2.2.2.2.2.2.2.2.2.2.2.2.2.2.2.2.2.2.1, d.2.2.2.2.1.2.2.2.2.2.2.2.2.2.2.2.2.2.2.2.2.2.2.2.2.2.2.2.2.2.2.2.2.2.2.2.2.2.2.2.2.2.2.2.2.1, d.2.2.2.2.1.2.2.2.2.2.2.2.2.2.2.2.2.2.2.2.2.2.2.2.2.2.2.2.2.2.2.2.2.2.2.2.2.2.2.2.2.2.2.2.2.2.1, d.2.2.2.2.1.2.2.2.2.2.2.2.2.2.2.2.2.2.2.2.2.2.2.2.2.2.2.2.2.2.2.2.2.2.2.2.2.2.2.2.2.2.2.2.2.2.2.1, d.2.2.2.2.1.2.2.2.2.2.2.2.2.2.2.2.2.2.2.2.2.2.2.2.2.2.2.2.2.2.2.2.2.2.2.2.2.2.2.2.2.2.2.2.2.2.2.2.1, d.2.2.2.2.1.2.2.2.2.2.2.2.2.2.2.2.2.2.2.2.2.2.2.2.2.2.2.2.2.2.2.2.2.2.2.2.2.2.2.2.2.2.2.2.2.2.2.2.2.1, d.2.2.2.2.1.2.2.2.2.2.2.2.2.2.2.2.2.2.2.2.2.2.2.2.2.2.2.2.2.2.2.2.2.2.2.2.2.2.2.2.2.2.2.2.2.2.2.2.2.2.1, d.2.2.2.2.1.2.2.2.2.2.2.2.2.2.2.2.2.2.2.2.2.2.2.2.2.2.2.2.2.2.2.2.2.2.2.2.2.2.2.2.2.2.2.2.2.2.2.2.2.2.2.1, d.2.2.2.2.1.2.2.2.2.2.2.2.2.2.2.2.2.2.2.2.2.2.2.2.2.2.2.2.2.2.2.2.2.2.2.2.2.2.2.2.2.2.2.2.2.2.2.2.2.2.2.2.1, d.2.2.2.2.1.2.2.2.2.2.2.2.2.2.2.2.2.2.2.2.2.2.2.2.2.2.2.2.2.2.2.2.2.2.2.2.2.2.2.2.2.2.2.2.2.2.2.2.2.2.2.2.2.1, d.2.2.2.2.1.2.2.2.2.2.2.2.2.2.2.2.2.2.2.2.2.2.2.2.2.2.2.2.2.2.2.2.2.2.2.2.2.2.2.2.2.2.2.2.2.2.2.2.2.2.2.2.2.2.1, d.2.2.2.2.1.2.2.2.2.2.2.2.2.2.2.2.2.2.2.2.2.2.2.2.2.2.2.2.2.2.2.2.2.2.2.2.2.2.2.2.2.2.2.2.2.2.2.2.2.2.2.2.2.2.2.1, d.2.2.2.2.1.2.2.2.2.2.2.2.2.2.2.2.2.2.2.2.2.2.2.2.2.2.2.2.2.2.2.2.2.2.2.2.2.2.2.2.2.2.2.2.2.2.2.2.2.2.2.2.2.2.2.2.1, d.2.2.2.2.1.2.2.2.2.2.2.2.2.2.2.2.2.2.2.2.2.2.2.2.2.2.2.2.2.2.2.2.2.2.2.2.2.2.2.2.2.2.2.2.2.2.2.2.2.2.2.2.2.2.2.2.2.1, d.2.2.2.2.1.2.2.2.2.2.2.2.2.2.2.2.2.2.2.2.2.2.2.2.2.2.2.2.2.2.2.2.2.2.2.2.2.2.2.2.2.2.2.2.2.2.2.2.2.2.2.2.2.2.2.2.2.2.1, d.2.2.2.2.1.2.2.2.2.2.2.2.2.2.2.2.2.2.2.2.2.2.2.2.2.2.2.2.2.2.2.2.2.2.2.2.2.2.2.2.2.2.2.2.2.2.2.2.2.2.2.2.2.2.2.2.2.2.2.1, d.2.2.2.2.1.2.2.2.2.2.2.2.2.2.2.2.2.2.2.2.2.2.2.2.2.2.2.2.2.2.2.2.2.2.2.2.2.2.2.2.2.2.2.2.2.2.2.2.2.2.2.2.2.2.2.2.2.2.2.2.1, d.2.2.2.2.1.2.2.2.2.2.2.2.2.2.2.2.2.2.2.2.2.2.2.2.2.2.2.2.2.2.2.2.2.2.2.2.2.2.2.2.2.2.2.2.2.2.2.2.2.2.2.2.2.2.2.2.2.2.2.2.2.1, d.2.2.2.2.1.2.2.2.2.2.2.2.2.2.2.2.2.2.2.2.2.2.2.2.2.2.2.2.2.2.2.2.2.2.2.2.2.2.2.2.2.2.2.2.2.2.2.2.2.2.2.2.2.2.2.2.2.2.2.2.2.2.1, d.2.2.2.2.1.2.2.2.2.2.2.2.2.2.2.2.2.2.2.2.2.2.2.2.2.2.2.2.2.2.2.2.2.2.2.2.2.2.2.2.2.2.2.2.2.2.2.2.2.2.2.2.2.2.2.2.2.2.2.2.2.2.2.1, d.2.2.2.2.1.2.2.2.2.2.2.2.2.2.2.2.2.2.2.2.2.2.2.2.2.2.2.2.2.2.2.2.2.2.2.2.2.2.2.2.2.2.2.2.2.2.2.2.2.2.2.2.2.2.2.2.2.2.2.2.2.2.2.2.1, d.2.2.2.2.1.2.2.2.2.2.2.2.2.2.2.2.2.2.2.2.2.2.2.2.2.2.2.2.2.2.2.2.2.2.2.2.2.2.2.2.2.2.2.2.2.2.2.2.2.2.2.2.2.2.2.2.2.2.2.2.2.2.2.2.2.1, d.2.2.2.2.1.2.2.2.2.2.2.2.2.2.2.2.2.2.2.2.2.2.2.2.2.2.2.2.2.2.2.2.2.2.2.2.2.2.2.2.2.2.2.2.2.2.2.2.2.2.2.2.2.2.2.2.2.2.2.2.2.2.2.2.2.2.1, d.2.2.2.2.1.2.2.2.2.2.2.2.2.2.2.2.2.2.2.2.2.2.2.2.2.2.2.2.2.2.2.2.2.2.2.2.2.2.2.2.2.2.2.2.2.2.2.2.2.2.2.2.2.2.2.2.2.2.2.2.2.2.2.2.2.2.2.1, d.2.2.2.2.1.2.2.2.2.2.2.2.2.2.2.2.2.2.2.2.2.2.2.2.2.2.2.2.2.2.2.2.2.2.2.2.2.2.2.2.2.2.2.2.2.2.2.2.2.2.2.2.2.2.2.2.2.2.2.2.2.2.2.2.2.2.2.2.1, d.2.2.2.2.1.2.2.2.2.2.2.2.2.2.2.2.2.2.2.2.2.2.2.2.2.2.2.2.2.2.2.2.2.2.2.2.2.2.2.2.2.2.2.2.2.2.2.2.2.2.2.2.2.2.2.2.2.2.2.2.2.2.2.2.2.2.2.2.2.1, d.2.2.2.2.1.2.2.2.2.2.2.2.2.2.2.2.2.2.2.2.2.2.2.2.2.2.2.2.2.2.2.2.2.2.2.2.2.2.2.2.2.2.2.2.2.2.2.2.2.2.2.2.2.2.2.2.2.2.2.2.2.2.2.2.2.2.2.2.2.2.1, d.2.2.2.2.1.2.2.2.2.2.2.2.2.2.2.2.2.2.2.2.2.2.2.2.2.2.2.2.2.2.2.2.2.2.2.2.2.2.2.2.2.2.2.2.2.2.2.2.2.2.2.2.2.2.2.2.2.2.2.2.2.2.2.2.2.2.2.2.2.2.2.1, d.2.2.2.2.1.2.2.2.2.2.2.2.2.2.2.2.2.2.2.2.2.2.2.2.2.2.2.2.2.2.2.2.2.2.2.2.2.2.2.2.2.2.2.2.2.2.2.2.2.2.2.2.2.2.2.2.2.2.2.2.2.2.2.2.2.2.2.2.2.2.2.2.1, d.2.2.2.2.1.2.2.2.2.2.2.2.2.2.2.2.2.2.2.2.2.2.2.2.2.2.2.2.2.2.2.2.2.2.2.2.2.2.2.2.2.2.2.2.2.2.2.2.2.2.2.2.2.2.2.2.2.2.2.2.2.2.2.2.2.2.2.2.2.2.2.2.2.1, d.2.2.2.2.1.2.2.2.2.2.2.2.2.2.2.2.2.2.2.2.2.2.2.2.2.2.2.2.2.2.2.2.2.2.2.2.2.2.2.2.2.2.2.2.2.2.2.2.2.2.2.2.2.2.2.2.2.2.2.2.2.2.2.2.2.2.2.2.2.2.2.2.2.2.1, d.2.2.2.2.1.2.2.2.2.2.2.2.2.2.2.2.2.2.2.2.2.2.2.2.2.2.2.2.2.2.2.2.2.2.2.2.2.2.2.2.2.2.2.2.2.2.2.2.2.2.2.2.2.2.2.2.2.2.2.2.2.2.2.2.2.2.2.2.2.2.2.2.2.2.2.1, d.2.2.2.2.1.2.2.2.2.2.2.2.2.2.2.2.2.2.2.2.2.2.2.2.2.2.2.2.2.2.2.2.2.2.2.2.2.2.2.2.2.2.2.2.2.2.2.2.2.2.2.2.2.2.2.2.2.2.2.2.2.2.2.2.2.2.2.2.2.2.2.2.2.2.2.2.1, d.2.2.2.2.1.2.2.2.2.2.2.2.2.2.2.2.2.2.2.2.2.2.2.2.2.2.2.2.2.2.2.2.2.2.2.2.2.2.2.2.2.2.2.2.2.2.2.2.2.2.2.2.2.2.2.2.2.2.2.2.2.2.2.2.2.2.2.2.2.2.2.2.2.2.2.2.2.1, d.2.2.2.2.1.2.2.2.2.2.2.2.2.2.2.2.2.2.2.2.2.2.2.2.2.2.2.2.2.2.2.2.2.2.2.2.2.2.2.2.2.2.2.2.2.2.2.2.2.2.2.2.2.2.2.2.2.2.2.2.2.2.2.2.2.2.2.2.2.2.2.2.2.2.2.2.2.2.1, d.2.2.2.2.1.2.2.2.2.2.2.2.2.2.2.2.2.2.2.2.2.2.2.2.2.2.2.2.2.2.2.2.2.2.2.2.2.2.2.2.2.2.2.2.2.2.2.2.2.2.2.2.2.2.2.2.2.2.2.2.2.2.2.2.2.2.2.2.2.2.2.2.2.2.2.2.2.2.2.1, d.2.2.2.2.1.2.2.2.2.2.2.2.2.2.2.2.2.2.2.2.2.2.2.2.2.2.2.2.2.2.2.2.2.2.2.2.2.2.2.2.2.2.2.2.2.2.2.2.2.2.2.2.2.2.2.2.2.2.2.2.2.2.2.2.2.2.2.2.2.2.2.2.2.2.2.2.2.2.2.2.1, d.2.2.2.2.1.2.2.2.2.2.2.2.2.2.2.2.2.2.2.2.2.2.2.2.2.2.2.2.2.2.2.2.2.2.2.2.2.2.2.2.2.2.2.2.2.2.2.2.2.2.2.2.2.2.2.2.2.2.2.2.2.2.2.2.2.2.2.2.2.2.2.2.2.2.2.2.2.2.2.2.2.1, d.2.2.2.2.1.2.2.2.2.2.2.2.2.2.2.2.2.2.2.2.2.2.2.2.2.2.2.2.2.2.2.2.2.2.2.2.2.2.2.2.2.2.2.2.2.2.2.2.2.2.2.2.2.2.2.2.2.2.2.2.2.2.2.2.2.2.2.2.2.2.2.2.2.2.2.2.2.2.2.2.2.2.1, d.2.2.2.2.1.2.2.2.2.2.2.2.2.2.2.2.2.2.2.2.2.2.2.2.2.2.2.2.2.2.2.2.2.2.2.2.2.2.2.2.2.2.2.2.2.2.2.2.2.2.2.2.2.2.2.2.2.2.2.2.2.2.2.2.2.2.2.2.2.2.2.2.2.2.2.2.2.2.2.2.2.2.2.1, d.2.2.2.2.1.2.2.2.2.2.2.2.2.2.2.2.2.2.2.2.2.2.2.2.2.2.2.2.2.2.2.2.2.2.2.2.2.2.2.2.2.2.2.2.2.2.2.2.2.2.2.2.2.2.2.2.2.2.2.2.2.2.2.2.2.2.2.2.2.2.2.2.2.2.2.2.2.2.2.2.2.2.2.2.1] : List Int) d.2.2.2.2.2.1.1))
 (Bd ((), ((d.1.2.2.1.2.1, ()), ((30, ()), ())))).bind fun x10 =>
 let x11 := (Bm .i64 d.2.2.2.2.2.1.1 1)
 (T.1 ((d.1.1, (d.1.2.1, ((x9, (d.1.2.2.1.1, (x10.2.1.1, (d.1.2.2.1.2.2.1, (d.1.2.2.1.2.2.2.1, ()))))), ()))), ((), ((), ((), (d.2.2.2.2.1, ((x11, ()), ()))))))))
 else none)
 else (
 (T.2.1 (d.1, ((), ((), ((), ((0, ()), ())))))))
def E7 (T : D3) (d : Vo) : Option (M2) :=
 let x12 := (decide (d.2.2.2.2.1.1 < (5 : Int)))
 bif x12 then (
 bif decide ((0 : Int) <= d.2.2.2.2.1.1) && decide (d.2.2.2.2.1.1 < (5 : Int)) then (
 bif decide (d.2.2.2.2.1.1 = (0 : Int)) then (
 bif decide ((0 : Int) <= d.2.2.2.2.1.1) && decide (d.2.2.2.2.1.1 < (5 : Int)) then (
 bif decide (d.2.2.2.2.1.1 = (0 : Int)) then (
 let x37 := (Bm .u32 d.1.2.2.1.1 d.1.1.1)
 bif decide ((0 : Int) <= d.2.2.2.2.1.1) && decide (d.2.2.2.2.1.1 < (5 : Int)) then (
 bif decide (d.2.2.2.2.1.1 = (0 : Int)) then (
 (T.2.2.1 ((d.1.1, (d.1.2.1, ((x37, d.1.2.2.1.2), ()))), ((), ((), ((), d.2.2.2.2))))))
 else (
 bif decide (d.2.2.2.2.1.1 = (1 : Int)) then (
 (T.2.2.1 ((d.1.1, (d.1.2.1, ((d.1.2.2.1.1, (x37, d.1.2.2.1.2.2)), ()))), ((), ((), ((), d.2.2.2.2))))))
 else (
 bif decide (d.2.2.2.2.1.1 = (2 : Int)) then (
 (T.2.2.1 ((d.1.1, (d.1.2.1, ((d.1.2.2.1.1, (d.1.2.2.1.2.1, (x37, d.1.2.2.1.2.2.2))), ()))), ((), ((), ((), d.2.2.2.2))))))
 else (
 bif decide (d.2.2.2.2.1.1 = (3 : Int)) then (
 (T.2.2.1 ((d.1.1, (d.1.2.1, ((d.1.2.2.1.1, (d.1.2.2.1.2.1, (d.1.2.2.1.2.2.1, (x37, d.1.2.2.1.2.2.2.2)))), ()))), ((), ((), ((), d.2.2.2.2))))))
 else (
 bif decide (d.2.2.2.2.1.1 = (4 : Int)) then (
 (T.2.2.1 ((d.1.1, (d.1.2.1, ((d.1.2.2.1.1, (d.1.2.2.1.2.1, (d.1.2.2.1.2.2.1, (d.1.2.2.1.2.2.2.1, (x37, ()))))), ()))), ((), ((), ((), d.2.2.2.2))))))
 else (
 none))))))
 else none)
 else (
 bif decide (d.2.2.2.2.1.1 = (1 : Int)) then (
 let x36 := (Bm .u32 d.1.2.2.1.1 d.1.1.2.1)
 bif decide ((0 : Int) <= d.2.2.2.2.1.1) && decide (d.2.2.2.2.1.1 < (5 : Int)) then (
 bif decide (d.2.2.2.2.1.1 = (0 : Int)) then (
 (T.2.2.1 ((d.1.1, (d.1.2.1, ((x36, d.1.2.2.1.2), ()))), ((), ((), ((), d.2.2.2.2))))))
 else (
 bif decide (d.2.2.2.2.1.1 = (1 : Int)) then (
 (T.2.2.1 ((d.1.1, (d.1.2.1, ((d.1.2.2.1.1, (x36, d.1.2.2.1.2.2)), ()))), ((), ((), ((), d.2.2.2.2))))))
 else (
 bif decide (d.2.2.2.2.1.1 = (2 : Int)) then (
 (T.2.2.1 ((d.1.1, (d.1.2.1, ((d.1.2.2.1.1, (d.1.2.2.1.2.1, (x36, d.1.2.2.1.2.2.2))), ()))), ((), ((), ((), d.2.2.2.2))))))
 else (
 bif decide (d.2.2.2.2.1.1 = (3 : Int)) then (
 (T.2.2.1 ((d.1.1, (d.1.2.1, ((d.1.2.2.1.1, (d.1.2.2.1.2.1, (d.1.2.2.1.2.2.1, (x36, d.1.2.2.1.2.2.2.2)))), ()))), ((), ((), ((), d.2.2.2.2))))))
 else (
 bif decide (d.2.2.2.2.1.1 = (4 : Int)) then (
 (T.2.2.1 ((d.1.1, (d.1.2.1, ((d.1.2.2.1.1, (d.1.2.2.1.2.1, (d.1.2.2.1.2.2.1, (d.1.2.2.1.2.2.2.1, (x36, ()))))), ()))), ((), ((), ((), d.2.2.2.2))))))
 else (
 none))))))
 else none)
 else (
 bif decide (d.2.2.2.2.1.1 = (2 : Int)) then (
 let x35 := (Bm .u32 d.1.2.2.1.1 d.1.1.2.2.1)
 bif decide ((0 : Int) <= d.2.2.2.2.1.1) && decide (d.2.2.2.2.1.1 < (5 : Int)) then (
 bif decide (d.2.2.2.2.1.1 = (0 : Int)) then (
 (T.2.2.1 ((d.1.1, (d.1.2.1, ((x35, d.1.2.2.1.2), ()))), ((), ((), ((), d.2.2.2.2))))))
 else (
 bif decide (d.2.2.2.2.1.1 = (1 : Int)) then (
 (T.2.2.1 ((d.1.1, (d.1.2.1, ((d.1.2.2.1.1, (x35, d.1.2.2.1.2.2)), ()))), ((), ((), ((), d.2.2.2.2))))))
 else (
 bif decide (d.2.2.2.2.1.1 = (2 : Int)) then (
 (T.2.2.1 ((d.1.1, (d.1.2.1, ((d.1.2.2.1.1, (d.1.2.2.1.2.1, (x35, d.1.2.2.1.2.2.2))), ()))), ((), ((), ((), d.2.2.2.2))))))
 else (
 bif decide (d.2.2.2.2.1.1 = (3 : Int)) then (
 (T.2.2.1 ((d.1.1, (d.1.2.1, ((d.1.2.2.1.1, (d.1.2.2.1.2.1, (d.1.2.2.1.2.2.1, (x35, d.1.2.2.1.2.2.2.2)))), ()))), ((), ((), ((), d.2.2.2.2))))))
 else (
 bif decide (d.2.2.2.2.1.1 = (4 : Int)) then (
 (T.2.2.1 ((d.1.1, (d.1.2.1, ((d.1.2.2.1.1, (d.1.2.2.1.2.1, (d.1.2.2.1.2.2.1, (d.1.2.2.1.2.2.2.1, (x35, ()))))), ()))), ((), ((), ((), d.2.2.2.2))))))
 else (
 none))))))
 else none)
 else (
 bif decide (d.2.2.2.2.1.1 = (3 : Int)) then (
 let x34 := (Bm .u32 d.1.2.2.1.1 d.1.1.2.2.2.1)
 bif decide ((0 : Int) <= d.2.2.2.2.1.1) && decide (d.2.2.2.2.1.1 < (5 : Int)) then (
 bif decide (d.2.2.2.2.1.1 = (0 : Int)) then (
 (T.2.2.1 ((d.1.1, (d.1.2.1, ((x34, d.1.2.2.1.2), ()))), ((), ((), ((), d.2.2.2.2))))))
 else (
 bif decide (d.2.2.2.2.1.1 = (1 : Int)) then (
 (T.2.2.1 ((d.1.1, (d.1.2.1, ((d.1.2.2.1.1, (x34, d.1.2.2.1.2.2)), ()))), ((), ((), ((), d.2.2.2.2))))))
 else (
 bif decide (d.2.2.2.2.1.1 = (2 : Int)) then (
 (T.2.2.1 ((d.1.1, (d.1.2.1, ((d.1.2.2.1.1, (d.1.2.2.1.2.1, (x34, d.1.2.2.1.2.2.2))), ()))), ((), ((), ((), d.2.2.2.2))))))
 else (
 bif decide (d.2.2.2.2.1.1 = (3 : Int)) then (
 (T.2.2.1 ((d.1.1, (d.1.2.1, ((d.1.2.2.1.1, (d.1.2.2.1.2.1, (d.1.2.2.1.2.2.1, (x34, d.1.2.2.1.2.2.2.2)))), ()))), ((), ((), ((), d.2.2.2.2))))))
 else (
 bif decide (d.2.2.2.2.1.1 = (4 : Int)) then (
 (T.2.2.1 ((d.1.1, (d.1.2.1, ((d.1.2.2.1.1, (d.1.2.2.1.2.1, (d.1.2.2.1.2.2.1, (d.1.2.2.1.2.2.2.1, (x34, ()))))), ()))), ((), ((), ((), d.2.2.2.2))))))
 else (
 none))))))
 else none)
 else (
 bif decide (d.2.2.2.2.1.1 = (4 : Int)) then (
 let x33 := (Bm .u32 d.1.2.2.1.1 d.1.1.2.2.2.2.1)
 bif decide ((0 : Int) <= d.2.2.2.2.1.1) && decide (d.2.2.2.2.1.1 < (5 : Int)) then (
 bif decide (d.2.2.2.2.1.1 = (0 : Int)) then (
 (T.2.2.1 ((d.1.1, (d.1.2.1, ((x33, d.1.2.2.1.2), ()))), ((), ((), ((), d.2.2.2.2))))))
 else (
 bif decide (d.2.2.2.2.1.1 = (1 : Int)) then (
 (T.2.2.1 ((d.1.1, (d.1.2.1, ((d.1.2.2.1.1, (x33, d.1.2.2.1.2.2)), ()))), ((), ((), ((), d.2.2.2.2))))))
 else (
 bif decide (d.2.2.2.2.1.1 = (2 : Int)) then (
 (T.2.2.1 ((d.1.1, (d.1.2.1, ((d.1.2.2.1.1, (d.1.2.2.1.2.1, (x33, d.1.2.2.1.2.2.2))), ()))), ((), ((), ((), d.2.2.2.2))))))
 else (
 bif decide (d.2.2.2.2.1.1 = (3 : Int)) then (
 (T.2.2.1 ((d.1.1, (d.1.2.1, ((d.1.2.2.1.1, (d.1.2.2.1.2.1, (d.1.2.2.1.2.2.1, (x33, d.1.2.2.1.2.2.2.2)))), ()))), ((), ((), ((), d.2.2.2.2))))))
 else (
 bif decide (d.2.2.2.2.1.1 = (4 : Int)) then (
 (T.2.2.1 ((d.1.1, (d.1.2.1, ((d.1.2.2.1.1, (d.1.2.2.1.2.1, (d.1.2.2.1.2.2.1, (d.1.2.2.1.2.2.2.1, (x33, ()))))), ()))), ((), ((), ((), d.2.2.2.2))))))
 else (
 none))))))
 else none)
 else (
 none))))))
 else none)
 else (
 bif decide (d.2.2.2.2.1.1 = (1 : Int)) then (
 bif decide ((0 : Int) <= d.2.2.2.2.1.1) && decide (d.2.2.2.2.1.1 < (5 : Int)) then (
 bif decide (d.2.2.2.2.1.1 = (0 : Int)) then (
 let x32 := (Bm .u32 d.1.2.2.1.2.1 d.1.1.1)
 bif decide ((0 : Int) <= d.2.2.2.2.1.1) && decide (d.2.2.2.2.1.1 < (5 : Int)) then (
 bif decide (d.2.2.2.2.1.1 = (0 : Int)) then (
 (T.2.2.1 ((d.1.1, (d.1.2.1, ((x32, d.1.2.2.1.2), ()))), ((), ((), ((), d.2.2.2.2))))))
 else (
 bif decide (d.2.2.2.2.1.1 = (1 : Int)) then (
 (T.2.2.1 ((d.1.1, (d.1.2.1, ((d.1.2.2.1.1, (x32, d.1.2.2.1.2.2)), ()))), ((), ((), ((), d.2.2.2.2))))))
 else (
 bif decide (d.2.2.2.2.1.1 = (2 : Int)) then (
 (T.2.2.1 ((d.1.1, (d.1.2.1, ((d.1.2.2.1.1, (d.1.2.2.1.2.1, (x32, d.1.2.2.1.2.2.2))), ()))), ((), ((), ((), d.2.2.2.2))))))
 else (
 bif decide (d.2.2.2.2.1.1 = (3 : Int)) then (
 (T.2.2.1 ((d.1.1, (d.1.2.1, ((d.1.2.2.1.1, (d.1.2.2.1.2.1, (d.1.2.2.1.2.2.1, (x32, d.1.2.2.1.2.2.2.2)))), ()))), ((), ((), ((), d.2.2.2.2))))))
 else (
 bif decide (d.2.2.2.2.1.1 = (4 : Int)) then (
 (T.2.2.1 ((d.1.1, (d.1.2.1, ((d.1.2.2.1.1, (d.1.2.2.1.2.1, (d.1.2.2.1.2.2.1, (d.1.2.2.1.2.2.2.1, (x32, ()))))), ()))), ((), ((), ((), d.2.2.2.2))))))
 else (
 none))))))
 else none)
 else (
 bif decide (d.2.2.2.2.1.1 = (1 : Int)) then (
 let x31 := (Bm .u32 d.1.2.2.1.2.1 d.1.1.2.1)
 bif decide ((0 : Int) <= d.2.2.2.2.1.1) && decide (d.2.2.2.2.1.1 < (5 : Int)) then (
 bif decide (d.2.2.2.2.1.1 = (0 : Int)) then (
 (T.2.2.1 ((d.1.1, (d.1.2.1, ((x31, d.1.2.2.1.2), ()))), ((), ((), ((), d.2.2.2.2))))))
 else (
 bif decide (d.2.2.2.2.1.1 = (1 : Int)) then (
 (T.2.2.1 ((d.1.1, (d.1.2.1, ((d.1.2.2.1.1, (x31, d.1.2.2.1.2.2)), ()))), ((), ((), ((), d.2.2.2.2))))))
 else (
 bif decide (d.2.2.2.2.1.1 = (2 : Int)) then (
 (T.2.2.1 ((d.1.1, (d.1.2.1, ((d.1.2.2.1.1, (d.1.2.2.1.2.1, (x31, d.1.2.2.1.2.2.2))), ()))), ((), ((), ((), d.2.2.2.2))))))
 else (
 bif decide (d.2.2.2.2.1.1 = (3 : Int)) then (
 (T.2.2.1 ((d.1.1, (d.1.2.1, ((d.1.2.2.1.1, (d.1.2.2.1.2.1, (d.1.2.2.1.2.2.1, (x31, d.1.2.2.1.2.2.2.2)))), ()))), ((), ((), ((), d.2.2.2.2))))))
 else (
 bif decide (d.2.2.2.2.1.1 = (4 : Int)) then (
 (T.2.2.1 ((d.1.1, (d.1.2.1, ((d.1.2.2.1.1, (d.1.2.2.1.2.1, (d.1.2.2.1.2.2.1, (d.1.2.2.1.2.2.2.1, (x31, ()))))), ()))), ((), ((), ((), d.2.2.2.2))))))
 else (
 none))))))
 else none)
 else (
 bif decide (d.2.2.2.2.1.1 = (2 : Int)) then (
 let x30 := (Bm .u32 d.1.2.2.1.2.1 d.1.1.2.2.1)
 bif decide ((0 : Int) <= d.2.2.2.2.1.1) && decide (d.2.2.2.2.1.1 < (5 : Int)) then (
 bif decide (d.2.2.2.2.1.1 = (0 : Int)) then (
 (T.2.2.1 ((d.1.1, (d.1.2.1, ((x30, d.1.2.2.1.2), ()))), ((), ((), ((), d.2.2.2.2))))))
 else (
 bif decide (d.2.2.2.2.1.1 = (1 : Int)) then (
 (T.2.2.1 ((d.1.1, (d.1.2.1, ((d.1.2.2.1.1, (x30, d.1.2.2.1.2.2)), ()))), ((), ((), ((), d.2.2.2.2))))))
 else (
 bif decide (d.2.2.2.2.1.1 = (2 : Int)) then (
 (T.2.2.1 ((d.1.1, (d.1.2.1, ((d.1.2.2.1.1, (d.1.2.2.1.2.1, (x30, d.1.2.2.1.2.2.2))), ()))), ((), ((), ((), d.2.2.2.2))))))
 else (
 bif decide (d.2.2.2.2.1.1 = (3 : Int)) then (
 (T.2.2.1 ((d.1.1, (d.1.2.1, ((d.1.2.2.1.1, (d.1.2.2.1.2.1, (d.1.2.2.1.2.2.1, (x30, d.1.2.2.1.2.2.2.2)))), ()))), ((), ((), ((), d.2.2.2.2))))))
 else (
 bif decide (d.2.2.2.2.1.1 = (4 : Int)) then (
 (T.2.2.1 ((d.1.1, (d.1.2.1, ((d.1.2.2.1.1, (d.1.2.2.1.2.1, (d.1.2.2.1.2.2.1, (d.1.2.2.1.2.2.2.1, (x30, ()))))), ()))), ((), ((), ((), d.2.2.2.2))))))
 else (
 none))))))
 else none)
 else (
 bif decide (d.2.2.2.2.1.1 = (3 : Int)) then (
 let x29 := (Bm .u32 d.1.2.2.1.2.1 d.1.1.2.2.2.1)
 bif decide ((0 : Int) <= d.2.2.2.2.1.1) && decide (d.2.2.2.2.1.1 < (5 : Int)) then (
 bif decide (d.2.2.2.2.1.1 = (0 : Int)) then (
 (T.2.2.1 ((d.1.1, (d.1.2.1, ((x29, d.1.2.2.1.2), ()))), ((), ((), ((), d.2.2.2.2))))))
 else (
 bif decide (d.2.2.2.2.1.1 = (1 : Int)) then (
 (T.2.2.1 ((d.1.1, (d.1.2.1, ((d.1.2.2.1.1, (x29, d.1.2.2.1.2.2)), ()))), ((), ((), ((), d.2.2.2.2))))))
 else (
 bif decide (d.2.2.2.2.1.1 = (2 : Int)) then (
 (T.2.2.1 ((d.1.1, (d.1.2.1, ((d.1.2.2.1.1, (d.1.2.2.1.2.1, (x29, d.1.2.2.1.2.2.2))), ()))), ((), ((), ((), d.2.2.2.2))))))
 else (
 bif decide (d.2.2.2.2.1.1 = (3 : Int)) then (
 (T.2.2.1 ((d.1.1, (d.1.2.1, ((d.1.2.2.1.1, (d.1.2.2.1.2.1, (d.1.2.2.1.2.2.1, (x29, d.1.2.2.1.2.2.2.2)))), ()))), ((), ((), ((), d.2.2.2.2))))))
 else (
 bif decide (d.2.2.2.2.1.1 = (4 : Int)) then (
 (T.2.2.1 ((d.1.1, (d.1.2.1, ((d.1.2.2.1.1, (d.1.2.2.1.2.1, (d.1.2.2.1.2.2.1, (d.1.2.2.1.2.2.2.1, (x29, ()))))), ()))), ((), ((), ((), d.2.2.2.2))))))
 else (
 none))))))
 else none)
 else (
 bif decide (d.2.2.2.2.1.1 = (4 : Int)) then (
 let x28 := (Bm .u32 d.1.2.2.1.2.1 d.1.1.2.2.2.2.1)
 bif decide ((0 : Int) <= d.2.2.2.2.1.1) && decide (d.2.2.2.2.1.1 < (5 : Int)) then (
 bif decide (d.2.2.2.2.1.1 = (0 : Int)) then (
 (T.2.2.1 ((d.1.1, (d.1.2.1, ((x28, d.1.2.2.1.2), ()))), ((), ((), ((), d.2.2.2.2))))))
 else (
 bif decide (d.2.2.2.2.1.1 = (1 : Int)) then (
 (T.2.2.1 ((d.1.1, (d.1.2.1, ((d.1.2.2.1.1, (x28, d.1.2.2.1.2.2)), ()))), ((), ((), ((), d.2.2.2.2))))))
 else (
 bif decide (d.2.2.2.2.1.1 = (2 : Int)) then (
 (T.2.2.1 ((d.1.1, (d.1.2.1, ((d.1.2.2.1.1, (d.1.2.2.1.2.1, (x28, d.1.2.2.1.2.2.2))), ()))), ((), ((), ((), d.2.2.2.2))))))
 else (
 bif decide (d.2.2.2.2.1.1 = (3 : Int)) then (
 (T.2.2.1 ((d.1.1, (d.1.2.1, ((d.1.2.2.1.1, (d.1.2.2.1.2.1, (d.1.2.2.1.2.2.1, (x28, d.1.2.2.1.2.2.2.2)))), ()))), ((), ((), ((), d.2.2.2.2))))))
 else (
 bif decide (d.2.2.2.2.1.1 = (4 : Int)) then (
 (T.2.2.1 ((d.1.1, (d.1.2.1, ((d.1.2.2.1.1, (d.1.2.2.1.2.1, (d.1.2.2.1.2.2.1, (d.1.2.2.1.2.2.2.1, (x28, ()))))), ()))), ((), ((), ((), d.2.2.2.2))))))
 else (
 none))))))
 else none)
 else (
 none))))))
 else none)
 else (
 bif decide (d.2.2.2.2.1.1 = (2 : Int)) then (
 bif decide ((0 : Int) <= d.2.2.2.2.1.1) && decide (d.2.2.2.2.1.1 < (5 : Int)) then (
 bif decide (d.2.2.2.2.1.1 = (0 : Int)) then (
 let x27 := (Bm .u32 d.1.2.2.1.2.2.1 d.1.1.1)
 bif decide ((0 : Int) <= d.2.2.2.2.1.1) && decide (d.2.2.2.2.1.1 < (5 : Int)) then (
 bif decide (d.2.2.2.2.1.1 = (0 : Int)) then (
 (T.2.2.1 ((d.1.1, (d.1.2.1, ((x27, d.1.2.2.1.2), ()))), ((), ((), ((), d.2.2.2.2))))))
 else (
 bif decide (d.2.2.2.2.1.1 = (1 : Int)) then (
 (T.2.2.1 ((d.1.1, (d.1.2.1, ((d.1.2.2.1.1, (x27, d.1.2.2.1.2.2)), ()))), ((), ((), ((), d.2.2.2.2))))))
 else (
 bif decide (d.2.2.2.2.1.1 = (2 : Int)) then (
 (T.2.2.1 ((d.1.1, (d.1.2.1, ((d.1.2.2.1.1, (d.1.2.2.1.2.1, (x27, d.1.2.2.1.2.2.2))), ()))), ((), ((), ((), d.2.2.2.2))))))
 else (
 bif decide (d.2.2.2.2.1.1 = (3 : Int)) then (
 (T.2.2.1 ((d.1.1, (d.1.2.1, ((d.1.2.2.1.1, (d.1.2.2.1.2.1, (d.1.2.2.1.2.2.1, (x27, d.1.2.2.1.2.2.2.2)))), ()))), ((), ((), ((), d.2.2.2.2))))))
 else (
 bif decide (d.2.2.2.2.1.1 = (4 : Int)) then (
 (T.2.2.1 ((d.1.1, (d.1.2.1, ((d.1.2.2.1.1, (d.1.2.2.1.2.1, (d.1.2.2.1.2.2.1, (d.1.2.2.1.2.2.2.1, (x27, ()))))), ()))), ((), ((), ((), d.2.2.2.2))))))
 else (
 none))))))
 else none)
 else (
 bif decide (d.2.2.2.2.1.1 = (1 : Int)) then (
 let x26 := (Bm .u32 d.1.2.2.1.2.2.1 d.1.1.2.1)
 bif decide ((0 : Int) <= d.2.2.2.2.1.1) && decide (d.2.2.2.2.1.1 < (5 : Int)) then (
 bif decide (d.2.2.2.2.1.1 = (0 : Int)) then (
 (T.2.2.1 ((d.1.1, (d.1.2.1, ((x26, d.1.2.2.1.2), ()))), ((), ((), ((), d.2.2.2.2))))))
 else (
 bif decide (d.2.2.2.2.1.1 = (1 : Int)) then (
 (T.2.2.1 ((d.1.1, (d.1.2.1, ((d.1.2.2.1.1, (x26, d.1.2.2.1.2.2)), ()))), ((), ((), ((), d.2.2.2.2))))))
 else (
 bif decide (d.2.2.2.2.1.1 = (2 : Int)) then (
 (T.2.2.1 ((d.1.1, (d.1.2.1, ((d.1.2.2.1.1, (d.1.2.2.1.2.1, (x26, d.1.2.2.1.2.2.2))), ()))), ((), ((), ((), d.2.2.2.2))))))
 else (
 bif decide (d.2.2.2.2.1.1 = (3 : Int)) then (
 (T.2.2.1 ((d.1.1, (d.1.2.1, ((d.1.2.2.1.1, (d.1.2.2.1.2.1, (d.1.2.2.1.2.2.1, (x26, d.1.2.2.1.2.2.2.2)))), ()))), ((), ((), ((), d.2.2.2.2))))))
 else (
 bif decide (d.2.2.2.2.1.1 = (4 : Int)) then (
 (T.2.2.1 ((d.1.1, (d.1.2.1, ((d.1.2.2.1.1, (d.1.2.2.1.2.1, (d.1.2.2.1.2.2.1, (d.1.2.2.1.2.2.2.1, (x26, ()))))), ()))), ((), ((), ((), d.2.2.2.2))))))
 else (
 none))))))
 else none)
 else (
 bif decide (d.2.2.2.2.1.1 = (2 : Int)) then (
 let x25 := (Bm .u32 d.1.2.2.1.2.2.1 d.1.1.2.2.1)
 bif decide ((0 : Int) <= d.2.2.2.2.1.1) && decide (d.2.2.2.2.1.1 < (5 : Int)) then (
 bif decide (d.2.2.2.2.1.1 = (0 : Int)) then (
 (T.2.2.1 ((d.1.1, (d.1.2.1, ((x25, d.1.2.2.1.2), ()))), ((), ((), ((), d.2.2.2.2))))))
 else (
 bif decide (d.2.2.2.2.1.1 = (1 : Int)) then (
 (T.2.2.1 ((d.1.1, (d.1.2.1, ((d.1.2.2.1.1, (x25, d.1.2.2.1.2.2)), ()))), ((), ((), ((), d.2.2.2.2))))))
 else (
 bif decide (d.2.2.2.2.1.1 = (2 : Int)) then (
 (T.2.2.1 ((d.1.1, (d.1.2.1, ((d.1.2.2.1.1, (d.1.2.2.1.2.1, (x25, d.1.2.2.1.2.2.2))), ()))), ((), ((), ((), d.2.2.2.2))))))
 else (
 bif decide (d.2.2.2.2.1.1 = (3 : Int)) then (
 (T.2.2.1 ((d.1.1, (d.1.2.1, ((d.1.2.2.1.1, (d.1.2.2.1.2.1, (d.1.2.2.1.2.2.1, (x25, d.1.2.2.1.2.2.2.2)))), ()))), ((), ((), ((), d.2.2.2.2))))))
 else (
 bif decide (d.2.2.2.2.1.1 = (4 : Int)) then (
 (T.2.2.1 ((d.1.1, (d.1.2.1, ((d.1.2.2.1.1, (d.1.2.2.1.2.1, (d.1.2.2.1.2.2.1, (d.1.2.2.1.2.2.2.1, (x25, ()))))), ()))), ((), ((), ((), d.2.2.2.2))))))
 else (
 none))))))
 else none)
 else (
 bif decide (d.2.2.2.2.1.1 = (3 : Int)) then (
 let x24 := (Bm .u32 d.1.2.2.1.2.2.1 d.1.1.2.2.2.1)
 bif decide ((0 : Int) <= d.2.2.2.2.1.1) && decide (d.2.2.2.2.1.1 < (5 : Int)) then (
 bif decide (d.2.2.2.2.1.1 = (0 : Int)) then (
 (T.2.2.1 ((d.1.1, (d.1.2.1, ((x24, d.1.2.2.1.2), ()))), ((), ((), ((), d.2.2.2.2))))))
 else (
 bif decide (d.2.2.2.2.1.1 = (1 : Int)) then (
 (T.2.2.1 ((d.1.1, (d.1.2.1, ((d.1.2.2.1.1, (x24, d.1.2.2.1.2.2)), ()))), ((), ((), ((), d.2.2.2.2))))))
 else (
 bif decide (d.2.2.2.2.1.1 = (2 : Int)) then (
 (T.2.2.1 ((d.1.1, (d.1.2.1, ((d.1.2.2.1.1, (d.1.2.2.1.2.1, (x24, d.1.2.2.1.2.2.2))), ()))), ((), ((), ((), d.2.2.2.2))))))
 else (
 bif decide (d.2.2.2.2.1.1 = (3 : Int)) then (
 (T.2.2.1 ((d.1.1, (d.1.2.1, ((d.1.2.2.1.1, (d.1.2.2.1.2.1, (d.1.2.2.1.2.2.1, (x24, d.1.2.2.1.2.2.2.2)))), ()))), ((), ((), ((), d.2.2.2.2))))))
 else (
 bif decide (d.2.2.2.2.1.1 = (4 : Int)) then (
 (T.2.2.1 ((d.1.1, (d.1.2.1, ((d.1.2.2.1.1, (d.1.2.2.1.2.1, (d.1.2.2.1.2.2.1, (d.1.2.2.1.2.2.2.1, (x24, ()))))), ()))), ((), ((), ((), d.2.2.2.2))))))
 else (
 none))))))
 else none)
 else (
 bif decide (d.2.2.2.2.1.1 = (4 : Int)) then (
 let x23 := (Bm .u32 d.1.2.2.1.2.2.1 d.1.1.2.2.2.2.1)
 bif decide ((0 : Int) <= d.2.2.2.2.1.1) && decide (d.2.2.2.2.1.1 < (5 : Int)) then (
 bif decide (d.2.2.2.2.1.1 = (0 : Int)) then (
 (T.2.2.1 ((d.1.1, (d.1.2.1, ((x23, d.1.2.2.1.2), ()))), ((), ((), ((), d.2.2.2.2))))))
 else (
 bif decide (d.2.2.2.2.1.1 = (1 : Int)) then (
 (T.2.2.1 ((d.1.1, (d.1.2.1, ((d.1.2.2.1.1, (x23, d.1.2.2.1.2.2)), ()))), ((), ((), ((), d.2.2.2.2))))))
 else (
 bif decide (d.2.2.2.2.1.1 = (2 : Int)) then (
 (T.2.2.1 ((d.1.1, (d.1.2.1, ((d.1.2.2.1.1, (d.1.2.2.1.2.1, (x23, d.1.2.2.1.2.2.2))), ()))), ((), ((), ((), d.2.2.2.2))))))
 else (
 bif decide (d.2.2.2.2.1.1 = (3 : Int)) then (
 (T.2.2.1 ((d.1.1, (d.1.2.1, ((d.1.2.2.1.1, (d.1.2.2.1.2.1, (d.1.2.2.1.2.2.1, (x23, d.1.2.2.1.2.2.2.2)))), ()))), ((), ((), ((), d.2.2.2.2))))))
 else (
 bif decide (d.2.2.2.2.1.1 = (4 : Int)) then (
 (T.2.2.1 ((d.1.1, (d.1.2.1, ((d.1.2.2.1.1, (d.1.2.2.1.2.1, (d.1.2.2.1.2.2.1, (d.1.2.2.1.2.2.2.1, (x23, ()))))), ()))), ((), ((), ((), d.2.2.2.2))))))
 else (
 none))))))
 else none)
 else (
 none))))))
 else none)
 else (
 bif decide (d.2.2.2.2.1.1 = (3 : Int)) then (
 bif decide ((0 : Int) <= d.2.2.2.2.1.1) && decide (d.2.2.2.2.1.1 < (5 : Int)) then (
 bif decide (d.2.2.2.2.1.1 = (0 : Int)) then (
 let x22 := (Bm .u32 d.1.2.2.1.2.2.2.1 d.1.1.1)
 bif decide ((0 : Int) <= d.2.2.2.2.1.1) && decide (d.2.2.2.2.1.1 < (5 : Int)) then (
 bif decide (d.2.2.2.2.1.1 = (0 : Int)) then (
 (T.2.2.1 ((d.1.1, (d.1.2.1, ((x22, d.1.2.2.1.2), ()))), ((), ((), ((), d.2.2.2.2))))))
 else (
 bif decide (d.2.2.2.2.1.1 = (1 : Int)) then (
 (T.2.2.1 ((d.1.1, (d.1.2.1, ((d.1.2.2.1.1, (x22, d.1.2.2.1.2.2)), ()))), ((), ((), ((), d.2.2.2.2))))))
 else (
 bif decide (d.2.2.2.2.1.1 = (2 : Int)) then (
 (T.2.2.1 ((d.1.1, (d.1.2.1, ((d.1.2.2.1.1, (d.1.2.2.1.2.1, (x22, d.1.2.2.1.2.2.2))), ()))), ((), ((), ((), d.2.2.2.2))))))
 else (
 bif decide (d.2.2.2.2.1.1 = (3 : Int)) then (
 (T.2.2.1 ((d.1.1, (d.1.2.1, ((d.1.2.2.1.1, (d.1.2.2.1.2.1, (d.1.2.2.1.2.2.1, (x22, d.1.2.2.1.2.2.2.2)))), ()))), ((), ((), ((), d.2.2.2.2))))))
 else (
 bif decide (d.2.2.2.2.1.1 = (4 : Int)) then (
 (T.2.2.1 ((d.1.1, (d.1.2.1, ((d.1.2.2.1.1, (d.1.2.2.1.2.1, (d.1.2.2.1.2.2.1, (d.1.2.2.1.2.2.2.1, (x22, ()))))), ()))), ((), ((), ((), d.2.2.2.2))))))
 else (
 none))))))
 else none)
 else (
 bif decide (d.2.2.2.2.1.1 = (1 : Int)) then (
 let x21 := (Bm .u32 d.1.2.2.1.2.2.2.1 d.1.1.2.1)
 bif decide ((0 : Int) <= d.2.2.2.2.1.1) && decide (d.2.2.2.2.1.1 < (5 : Int)) then (
 bif decide (d.2.2.2.2.1.1 = (0 : Int)) then (
 (T.2.2.1 ((d.1.1, (d.1.2.1, ((x21, d.1.2.2.1.2), ()))), ((), ((), ((), d.2.2.2.2))))))
 else (
 bif decide (d.2.2.2.2.1.1 = (1 : Int)) then (
 (T.2.2.1 ((d.1.1, (d.1.2.1, ((d.1.2.2.1.1, (x21, d.1.2.2.1.2.2)), ()))), ((), ((), ((), d.2.2.2.2))))))
 else (
 bif decide (d.2.2.2.2.1.1 = (2 : Int)) then (
 (T.2.2.1 ((d.1.1, (d.1.2.1, ((d.1.2.2.1.1, (d.1.2.2.1.2.1, (x21, d.1.2.2.1.2.2.2))), ()))), ((), ((), ((), d.2.2.2.2))))))
 else (
 bif decide (d.2.2.2.2.1.1 = (3 : Int)) then (
 (T.2.2.1 ((d.1.1, (d.1.2.1, ((d.1.2.2.1.1, (d.1.2.2.1.2.1, (d.1.2.2.1.2.2.1, (x21, d.1.2.2.1.2.2.2.2)))), ()))), ((), ((), ((), d.2.2.2.2))))))
 else (
 bif decide (d.2.2.2.2.1.1 = (4 : Int)) then (
 (T.2.2.1 ((d.1.1, (d.1.2.1, ((d.1.2.2.1.1, (d.1.2.2.1.2.1, (d.1.2.2.1.2.2.1, (d.1.2.2.1.2.2.2.1, (x21, ()))))), ()))), ((), ((), ((), d.2.2.2.2))))))
 else (
 none))))))
 else none)
 else (
 bif decide (d.2.2.2.2.1.1 = (2 : Int)) then (
 let x20 := (Bm .u32 d.1.2.2.1.2.2.2.1 d.1.1.2.2.1)
 bif decide ((0 : Int) <= d.2.2.2.2.1.1) && decide (d.2.2.2.2.1.1 < (5 : Int)) then (
 bif decide (d.2.2.2.2.1.1 = (0 : Int)) then (
 (T.2.2.1 ((d.1.1, (d.1.2.1, ((x20, d.1.2.2.1.2), ()))), ((), ((), ((), d.2.2.2.2))))))
 else (
 bif decide (d.2.2.2.2.1.1 = (1 : Int)) then (
 (T.2.2.1 ((d.1.1, (d.1.2.1, ((d.1.2.2.1.1, (x20, d.1.2.2.1.2.2)), ()))), ((), ((), ((), d.2.2.2.2))))))
 else (
 bif decide (d.2.2.2.2.1.1 = (2 : Int)) then (
 (T.2.2.1 ((d.1.1, (d.1.2.1, ((d.1.2.2.1.1, (d.1.2.2.1.2.1, (x20, d.1.2.2.1.2.2.2))), ()))), ((), ((), ((), d.2.2.2.2))))))
 else (
 bif decide (d.2.2.2.2.1.1 = (3 : Int)) then (
 (T.2.2.1 ((d.1.1, (d.1.2.1, ((d.1.2.2.1.1, (d.1.2.2.1.2.1, (d.1.2.2.1.2.2.1, (x20, d.1.2.2.1.2.2.2.2)))), ()))), ((), ((), ((), d.2.2.2.2))))))
 else (
 bif decide (d.2.2.2.2.1.1 = (4 : Int)) then (
 (T.2.2.1 ((d.1.1, (d.1.2.1, ((d.1.2.2.1.1, (d.1.2.2.1.2.1, (d.1.2.2.1.2.2.1, (d.1.2.2.1.2.2.2.1, (x20, ()))))), ()))), ((), ((), ((), d.2.2.2.2))))))
 else (
 none))))))
 else none)
 else (
 bif decide (d.2.2.2.2.1.1 = (3 : Int)) then (
 let x19 := (Bm .u32 d.1.2.2.1.2.2.2.1 d.1.1.2.2.2.1)
 bif decide ((0 : Int) <= d.2.2.2.2.1.1) && decide (d.2.2.2.2.1.1 < (5 : Int)) then (
 bif decide (d.2.2.2.2.1.1 = (0 : Int)) then (
 (T.2.2.1 ((d.1.1, (d.1.2.1, ((x19, d.1.2.2.1.2), ()))), ((), ((), ((), d.2.2.2.2))))))
 else (
 bif decide (d.2.2.2.2.1.1 = (1 : Int)) then (
 (T.2.2.1 ((d.1.1, (d.1.2.1, ((d.1.2.2.1.1, (x19, d.1.2.2.1.2.2)), ()))), ((), ((), ((), d.2.2.2.2))))))
 else (
 bif decide (d.2.2.2.2.1.1 = (2 : Int)) then (
 (T.2.2.1 ((d.1.1, (d.1.2.1, ((d.1.2.2.1.1, (d.1.2.2.1.2.1, (x19, d.1.2.2.1.2.2.2))), ()))), ((), ((), ((), d.2.2.2.2))))))
 else (
 bif decide (d.2.2.2.2.1.1 = (3 : Int)) then (
 (T.2.2.1 ((d.1.1, (d.1.2.1, ((d.1.2.2.1.1, (d.1.2.2.1.2.1, (d.1.2.2.1.2.2.1, (x19, d.1.2.2.1.2.2.2.2)))), ()))), ((), ((), ((), d.2.2.2.2))))))
 else (
 bif decide (d.2.2.2.2.1.1 = (4 : Int)) then (
 (T.2.2.1 ((d.1.1, (d.1.2.1, ((d.1.2.2.1.1, (d.1.2.2.1.2.1, (d.1.2.2.1.2.2.1, (d.1.2.2.1.2.2.2.1, (x19, ()))))), ()))), ((), ((), ((), d.2.2.2.2))))))
 else (
 none))))))
 else none)
 else (
 bif decide (d.2.2.2.2.1.1 = (4 : Int)) then (
 let x18 := (Bm .u32 d.1.2.2.1.2.2.2.1 d.1.1.2.2.2.2.1)
 bif decide ((0 : Int) <= d.2.2.2.2.1.1) && decide (d.2.2.2.2.1.1 < (5 : Int)) then (
 bif decide (d.2.2.2.2.1.1 = (0 : Int)) then (
 (T.2.2.1 ((d.1.1, (d.1.2.1, ((x18, d.1.2.2.1.2), ()))), ((), ((), ((), d.2.2.2.2))))))
 else (
 bif decide (d.2.2.2.2.1.1 = (1 : Int)) then (
 (T.2.2.1 ((d.1.1, (d.1.2.1, ((d.1.2.2.1.1, (x18, d.1.2.2.1.2.2)), ()))), ((), ((), ((), d.2.2.2.2))))))
 else (
 bif decide (d.2.2.2.2.1.1 = (2 : Int)) then (
 (T.2.2.1 ((d.1.1, (d.1.2.1, ((d.1.2.2.1.1, (d.1.2.2.1.2.1, (x18, d.1.2.2.1.2.2.2))), ()))), ((), ((), ((), d.2.2.2.2))))))
 else (
 bif decide (d.2.2.2.2.1.1 = (3 : Int)) then (
 (T.2.2.1 ((d.1.1, (d.1.2.1, ((d.1.2.2.1.1, (d.1.2.2.1.2.1, (d.1.2.2.1.2.2.1, (x18, d.1.2.2.1.2.2.2.2)))), ()))), ((), ((), ((), d.2.2.2.2))))))
 else (
 bif decide (d.2.2.2.2.1.1 = (4 : Int)) then (
 (T.2.2.1 ((d.1.1, (d.1.2.1, ((d.1.2.2.1.1, (d.1.2.2.1.2.1, (d.1.2.2.1.2.2.1, (d.1.2.2.1.2.2.2.1, (x18, ()))))), ()))), ((), ((), ((), d.2.2.2.2))))))
 else (
 none))))))
 else none)
 else (
 none))))))
 else none)
 else (
 bif decide (d.2.2.2.2.1.1 = (4 : Int)) then (
 bif decide ((0 : Int) <= d.2.2.2.2.1.1) && decide (d.2.2.2.2.1.1 < (5 : Int)) then (
 bif decide (d.2.2.2.2.1.1 = (0 : Int)) then (
 let x17 := (Bm .u32 d.1.2.2.1.2.2.2.2.1 d.1.1.1)
 bif decide ((0 : Int) <= d.2.2.2.2.1.1) && decide (d.2.2.2.2.1.1 < (5 : Int)) then (
 bif decide (d.2.2.2.2.1.1 = (0 : Int)) then (
 (T.2.2.1 ((d.1.1, (d.1.2.1, ((x17, d.1.2.2.1.2), ()))), ((), ((), ((), d.2.2.2.2))))))
 else (
 bif decide (d.2.2.2.2.1.1 = (1 : Int)) then (
 (T.2.2.1 ((d.1.1, (d.1.2.1, ((d.1.2.2.1.1, (x17, d.1.2.2.1.2.2)), ()))), ((), ((), ((), d.2.2.2.2))))))
 else (
 bif decide (d.2.2.2.2.1.1 = (2 : Int)) then (
 (T.2.2.1 ((d.1.1, (d.1.2.1, ((d.1.2.2.1.1, (d.1.2.2.1.2.1, (x17, d.1.2.2.1.2.2.2))), ()))), ((), ((), ((), d.2.2.2.2))))))
 else (
 bif decide (d.2.2.2.2.1.1 = (3 : Int)) then (
 (T.2.2.1 ((d.1.1, (d.1.2.1, ((d.1.2.2.1.1, (d.1.2.2.1.2.1, (d.1.2.2.1.2.2.1, (x17, d.1.2.2.1.2.2.2.2)))), ()))), ((), ((), ((), d.2.2.2.2))))))
 else (
 bif decide (d.2.2.2.2.1.1 = (4 : Int)) then (
 (T.2.2.1 ((d.1.1, (d.1.2.1, ((d.1.2.2.1.1, (d.1.2.2.1.2.1, (d.1.2.2.1.2.2.1, (d.1.2.2.1.2.2.2.1, (x17, ()))))), ()))), ((), ((), ((), d.2.2.2.2))))))
 else (
 none))))))
 else none)
 else (
 bif decide (d.2.2.2.2.1.1 = (1 : Int)) then (
 let x16 := (Bm .u32 d.1.2.2.1.2.2.2.2.1 d.1.1.2.1)
 bif decide ((0 : Int) <= d.2.2.2.2.1.1) && decide (d.2.2.2.2.1.1 < (5 : Int)) then (
 bif decide (d.2.2.2.2.1.1 = (0 : Int)) then (
 (T.2.2.1 ((d.1.1, (d.1.2.1, ((x16, d.1.2.2.1.2), ()))), ((), ((), ((), d.2.2.2.2))))))
 else (
 bif decide (d.2.2.2.2.1.1 = (1 : Int)) then (
 (T.2.2.1 ((d.1.1, (d.1.2.1, ((d.1.2.2.1.1, (x16, d.1.2.2.1.2.2)), ()))), ((), ((), ((), d.2.2.2.2))))))
 else (
 bif decide (d.2.2.2.2.1.1 = (2 : Int)) then (
 (T.2.2.1 ((d.1.1, (d.1.2.1, ((d.1.2.2.1.1, (d.1.2.2.1.2.1, (x16, d.1.2.2.1.2.2.2))), ()))), ((), ((), ((), d.2.2.2.2))))))
 else (
 bif decide (d.2.2.2.2.1.1 = (3 : Int)) then (
 (T.2.2.1 ((d.1.1, (d.1.2.1, ((d.1.2.2.1.1, (d.1.2.2.1.2.1, (d.1.2.2.1.2.2.1, (x16, d.1.2.2.1.2.2.2.2)))), ()))), ((), ((), ((), d.2.2.2.2))))))
 else (
 bif decide (d.2.2.2.2.1.1 = (4 : Int)) then (
 (T.2.2.1 ((d.1.1, (d.1.2.1, ((d.1.2.2.1.1, (d.1.2.2.1.2.1, (d.1.2.2.1.2.2.1, (d.1.2.2.1.2.2.2.1, (x16, ()))))), ()))), ((), ((), ((), d.2.2.2.2))))))
 else (
 none))))))
 else none)
 else (
 bif decide (d.2.2.2.2.1.1 = (2 : Int)) then (
 let x15 := (Bm .u32 d.1.2.2.1.2.2.2.2.1 d.1.1.2.2.1)
 bif decide ((0 : Int) <= d.2.2.2.2.1.1) && decide (d.2.2.2.2.1.1 < (5 : Int)) then (
 bif decide (d.2.2.2.2.1.1 = (0 : Int)) then (
 (T.2.2.1 ((d.1.1, (d.1.2.1, ((x15, d.1.2.2.1.2), ()))), ((), ((), ((), d.2.2.2.2))))))
 else (
 bif decide (d.2.2.2.2.1.1 = (1 : Int)) then (
 (T.2.2.1 ((d.1.1, (d.1.2.1, ((d.1.2.2.1.1, (x15, d.1.2.2.1.2.2)), ()))), ((), ((), ((), d.2.2.2.2))))))
 else (
 bif decide (d.2.2.2.2.1.1 = (2 : Int)) then (
 (T.2.2.1 ((d.1.1, (d.1.2.1, ((d.1.2.2.1.1, (d.1.2.2.1.2.1, (x15, d.1.2.2.1.2.2.2))), ()))), ((), ((), ((), d.2.2.2.2))))))
 else (
 bif decide (d.2.2.2.2.1.1 = (3 : Int)) then (
 (T.2.2.1 ((d.1.1, (d.1.2.1, ((d.1.2.2.1.1, (d.1.2.2.1.2.1, (d.1.2.2.1.2.2.1, (x15, d.1.2.2.1.2.2.2.2)))), ()))), ((), ((), ((), d.2.2.2.2))))))
 else (
 bif decide (d.2.2.2.2.1.1 = (4 : Int)) then (
 (T.2.2.1 ((d.1.1, (d.1.2.1, ((d.1.2.2.1.1, (d.1.2.2.1.2.1, (d.1.2.2.1.2.2.1, (d.1.2.2.1.2.2.2.1, (x15, ()))))), ()))), ((), ((), ((), d.2.2.2.2))))))
 else (
 none))))))
 else none)
 else (
 bif decide (d.2.2.2.2.1.1 = (3 : Int)) then (
 let x14 := (Bm .u32 d.1.2.2.1.2.2.2.2.1 d.1.1.2.2.2.1)
 bif decide ((0 : Int) <= d.2.2.2.2.1.1) && decide (d.2.2.2.2.1.1 < (5 : Int)) then (
 bif decide (d.2.2.2.2.1.1 = (0 : Int)) then (
 (T.2.2.1 ((d.1.1, (d.1.2.1, ((x14, d.1.2.2.1.2), ()))), ((), ((), ((), d.2.2.2.2))))))
 else (
 bif decide (d.2.2.2.2.1.1 = (1 : Int)) then (
 (T.2.2.1 ((d.1.1, (d.1.2.1, ((d.1.2.2.1.1, (x14, d.1.2.2.1.2.2)), ()))), ((), ((), ((), d.2.2.2.2))))))
 else (
 bif decide (d.2.2.2.2.1.1 = (2 : Int)) then (
 (T.2.2.1 ((d.1.1, (d.1.2.1, ((d.1.2.2.1.1, (d.1.2.2.1.2.1, (x14, d.1.2.2.1.2.2.2))), ()))), ((), ((), ((), d.2.2.2.2))))))
 else (
 bif decide (d.2.2.2.2.1.1 = (3 : Int)) then (
 (T.2.2.1 ((d.1.1, (d.1.2.1, ((d.1.2.2.1.1, (d.1.2.2.1.2.1, (d.1.2.2.1.2.2.1, (x14, d.1.2.2.1.2.2.2.2)))), ()))), ((), ((), ((), d.2.2.2.2))))))
 else (
 bif decide (d.2.2.2.2.1.1 = (4 : Int)) then (
 (T.2.2.1 ((d.1.1, (d.1.2.1, ((d.1.2.2.1.1, (d.1.2.2.1.2.1, (d.1.2.2.1.2.2.1, (d.1.2.2.1.2.2.2.1, (x14, ()))))), ()))), ((), ((), ((), d.2.2.2.2))))))
 else (
 none))))))
 else none)
 else (
 bif decide (d.2.2.2.2.1.1 = (4 : Int)) then (
 let x13 := (Bm .u32 d.1.2.2.1.2.2.2.2.1 d.1.1.2.2.2.2.1)
 bif decide ((0 : Int) <= d.2.2.2.2.1.1) && decide (d.2.2.2.2.1.1 < (5 : Int)) then (
 bif decide (d.2.2.2.2.1.1 = (0 : Int)) then (
 (T.2.2.1 ((d.1.1, (d.1.2.1, ((x13, d.1.2.2.1.2), ()))), ((), ((), ((), d.2.2.2.2))))))
 else (
 bif decide (d.2.2.2.2.1.1 = (1 : Int)) then (
 (T.2.2.1 ((d.1.1, (d.1.2.1, ((d.1.2.2.1.1, (x13, d.1.2.2.1.2.2)), ()))), ((), ((), ((), d.2.2.2.2))))))
 else (
 bif decide (d.2.2.2.2.1.1 = (2 : Int)) then (
 (T.2.2.1 ((d.1.1, (d.1.2.1, ((d.1.2.2.1.1, (d.1.2.2.1.2.1, (x13, d.1.2.2.1.2.2.2))), ()))), ((), ((), ((), d.2.2.2.2))))))
 else (
 bif decide (d.2.2.2.2.1.1 = (3 : Int)) then (
 (T.2.2.1 ((d.1.1, (d.1.2.1, ((d.1.2.2.1.1, (d.1.2.2.1.2.1, (d.1.2.2.1.2.2.1, (x13, d.1.2.2.1.2.2.2.2)))), ()))), ((), ((), ((), d.2.2.2.2))))))
 else (
 bif decide (d.2.2.2.2.1.1 = (4 : Int)) then (
 (T.2.2.1 ((d.1.1, (d.1.2.1, ((d.1.2.2.1.1, (d.1.2.2.1.2.1, (d.1.2.2.1.2.2.1, (d.1.2.2.1.2.2.2.1, (x13, ()))))), ()))), ((), ((), ((), d.2.2.2.2))))))
 else (
 none))))))
 else none)
 else (
 none))))))
 else none)
 else (
 none))))))
 else none)
 else (
 some ((), d.1.2.2))
def T5 (T : D3) (d : Aej) : Option (M2) :=
 let x38 := (Bm .i64 d.2.2.2.2.1.1 1)
 (T.2.1 (d.1, ((), ((), ((), ((x38, ()), ()))))))
def Cu : Nat -> D3
 | 0 => (fun _ => none, (fun _ => none, (fun _ => none, ())))
 | k + 1 => (V4 (Cu k), (E7 (Cu k), (T5 (Cu k), ())))
theorem Agj (k : Nat) : Cu (k + 1) = (V4 (Cu k), (E7 (Cu k), (T5 (Cu k), ()))) := rfl
def Yn (T : D3) (d : Unit × ((Int × (Int × (Int × (Int × (Int × Unit))))) × ((Int × (Int × (Int × (Int × (Int × (Int × (Int × (Int × (Int × (Int × (Int × (Int × (Int × (Int × (Int × (Int × (Int × (Int × (Int × (Int × (Int × (Int × (Int × (Int × (Int × (Int × (Int × (Int × (Int × (Int × (Int × (Int × (Int × (Int × (Int × (Int × (Int × (Int × (Int × (Int × (Int × (Int × (Int × (Int × (Int × (Int × (Int × (Int × (Int × (Int × (Int × (Int × (Int × (Int × (Int × (Int × (Int × (Int × (Int × (Int × (Int × (Int × (Int × (Int × Unit)))))))))))))))))))))))))))))))))))))))))))))))))))))))))))))))) × Unit))) : Option (M2) :=
 let x1 := ([d.2.2.1.1, d.2.2.1.2.1, d.2.2.1.2.2.1, d.2.2.1.2.2.2.1, d.2.2.1.2.2.2.2.1, d.2.2.1.2.2.2.2.2.1, d.2.2.1.2.2.2.2.2.2.1, d.2.2.1.2.2.2.2.2.2.2.1, d.2.2.1.2.2.2.2.2.2.2.2.1, d.2.2.1.2.2.2.2.2.2.2.2.2.1, d.2.2.1.2.2.2.2.2.2.2.2.2.2.1, d.2.2.1.2.2.2.2.2.2.2.2.2.2.2.1, d.2.2.1.2.2.2.2.2.2.2.2.2.2.2.2.1, d.2.2.1.2.2.2.2.2.2.2.2.2.2.2.2.2.1, d.2.2.1.2.2.2.2.2.2.2.2.2.2.2.2.2.2.1, d.2.2.1.2.2.2.2.2.2.2.2.2.2.2.2.2.2.2.1, d.2.2.1.2.2.2.2.2.2.2.2.2.2.2.2.2.2.2.2.1, d.2.2.1.2.2.2.2.2.2.2.2.2.2.2.2.2.2.2.2.2.1, d.2.2.1.2.2.2.2.2.2.2.2.2.2.2.2.2.2.2.2.2.2.1, d.2.2.1.2.2.2.2.2.2.2.2.2.2.2.2.2.2.2.2.2.2.2.1, d.2.2.1.2.2.2.2.2.2.2.2.2.2.2.2.2.2.2.2.2.2.2.2.1, d.2.2.1.2.2.2.2.2.2.2.2.2.2.2.2.2.2.2.2.2.2.2.2.2.1, d.2.2.1.2.2.2.2.2.2.2.2.2.2.2.2.2.2.2.2.2.2.2.2.2.2.1, d.2.2.1.2.2.2.2.2.2.2.2.2.2.2.2.2.2.2.2.2.2.2.2.2.2.2.1, d.2.2.1.2.2.2.2.2.2.2.2.2.2.2.2.2.2.2.2.2.2.2.2.2.2.2.2.1, d.2.2.1.2.2.2.2.2.2.2.2.2.2.2.2.2.2.2.2.2.2.2.2.2.2.2.2.2.1, d.2.2.1.2.2.2.2.2.2.2.2.2.2.2.2.2.2.2.2.2.2.2.2.2.2.2.2.2.2.1, d.2.2.1.2.2.2.2.2.2.2.2.2.2.2.2.2.2.2.2.2.2.2.2.2.2.2.2.2.2.2.1, d.2.2.1.2.2.2.2.2.2.2.2.2.2.2.2.2.2.2.2.2.2.2.2.2.2.2.2.2.2.2.2.1, d.2.2.1.2.2.2.2.2.2.2.2.2.2.2.2.2.2.2.2.2.2.2.2.2.2.2.2.2.2.2.2.2.1, d.2.2.1.2.2.2.2.2.2.2.2.2.2.2.2.2.2.2.2.2.2.2.2.2.2.2.2.2.2.2.2.2.2.1, d.2.2.1.2.2.2.2.2.2.2.2.2.2.2.2.2.2.2.2.2.2.2.2.2.2.2.2.2.2.2.2.2.2.2.1, d.2.2.1.2.2.2.2.2.2.2.2.2.2.2.2.2.2.2.2.2.2.2.2.2.2.2.2.2.2.2.2.2.2.2.2.1, d.2.2.1.2.2.2.2.2.2.2.2.2.2.2.2.2.2.2.2.2.2.2.2.2.2.2.2.2.2.2.2.2.2.2.2.2.1, d.2.2.1.2.2.2.2.2.2.2.2.2.2.2.2.2.2.2.2.2.2.2.2.2.2.2.2.2.2.2.2.2.2.2.2.2.2.1, d.2.2.1.2.2.2.2.2.2.2.2.2.2.2.2.2.2.2.2.2.2.2.2.2.2.2.2.2.2.2.2.2.2.2.2.2.2.2.1, d.2.2.1.2.2.2.2.2.2.2.2.2.2.2.2.2.2.2.2.2.2.2.2.2.2.2.2.2.2.2.2.2.2.2.2.2.2.2.2.1, d.2.2.1.2.2.2.2.2.2.2.2.2.2.2.2.2.2.2.2.2.2.2.2.2.2.2.2.2.2.2.2.2.2.2.2.2.2.2.2.2.1, d.2.2.1.2.2.2.2.2.2.2.2.2.2.2.2.2.2.2.2.2.2.2.2.2.2.2.2.2.2.2.2.2.2.2.2.2.2.2.2.2.2.1, d.2.2.1.2.2.2.2.2.2.2.2.2.2.2.2.2.2.2.2.2.2.2.2.2.2.2.2.2.2.2.2.2.2.2.2.2.2.2.2.2.2.2.1, d.2.2.1.2.2.2.2.2.2.2.2.2.2.2.2.2.2.2.2.2.2.2.2.2.2.2.2.2.2.2.2.2.2.2.2.2.2.2.2.2.2.2.2.1, d.2.2.1.2.2.2.2.2.2.2.2.2.2.2.2.2.2.2.2.2.2.2.2.2.2.2.2.2.2.2.2.2.2.2.2.2.2.2.2.2.2.2.2.2.1, d.2.2.1.2.2.2.2.2.2.2.2.2.2.2.2.2.2.2.2.2.2.2.2.2.2.2.2.2.2.2.2.2.2.2.2.2.2.2.2.2.2.2.2.2.2.1, d.2.2.1.2.2.2.2.2.2.2.2.2.2.2.2.2.2.2.2.2.2.2.2.2.2.2.2.2.2.2.2.2.2.2.2.2.2.2.2.2.2.2.2.2.2.2.1, d.2.2.1.2.2.2.2.2.2.2.2.2.2.2.2.2.2.2.2.2.2.2.2.2.2.2.2.2.2.2.2.2.2.2.2.2.2.2.2.2.2.2.2.2.2.2.2.1, d.2.2.1.2.2.2.2.2.2.2.2.2.2.2.2.2.2.2.2.2.2.2.2.2.2.2.2.2.2.2.2.2.2.2.2.2.2.2.2.2.2.2.2.2.2.2.2.2.1, d.2.2.1.2.2.2.2.2.2.2.2.2.2.2.2.2.2.2.2.2.2.2.2.2.2.2.2.2.2.2.2.2.2.2.2.2.2.2.2.2.2.2.2.2.2.2.2.2.2.1, d.2.2.1.2.2.2.2.2.2.2.2.2.2.2.2.2.2.2.2.2.2.2.2.2.2.2.2.2.2.2.2.2.2.2.2.2.2.2.2.2.2.2.2.2.2.2.2.2.2.2.1, d.2.2.1.2.2.2.2.2.2.2.2.2.2.2.2.2.2.2.2.2.2.2.2.2.2.2.2.2.2.2.2.2.2.2.2.2.2.2.2.2.2.2.2.2.2.2.2.2.2.2.2.1, d.2.2.1.2.2.2.2.2.2.2.2.2.2.2.2.2.2.2.2.2.2.2.2.2.2.2.2.2.2.2.2.2.2.2.2.2.2.2.2.2.2.2.2.2.2.2.2.2.2.2.2.2.1, d.2.2.1.2.2.2.2.2.2.2.2.2.2.2.2.2.2.2.2.2.2.2.2.2.2.2.2.2.2.2.2.2.2.2.2.2.2.2.2.2.2.2.2.2.2.2.2.2.2.2.2.2.2.1, d.2.2.1.2.2.2.2.2.2.2.2.2.2.2.2.2.2.2.2.2.2.2.2.2.2.2.2.2.2.2.2.2.2.2.2.2.2.2.2.2.2.2.2.2.2.2.2.2.2.2.2.2.2.2.1, d.2.2.1.2.2.2.2.2.2.2.2.2.2.2.2.2.2.2.2.2.2.2.2.2.2.2.2.2.2.2.2.2.2.2.2.2.2.2.2.2.2.2.2.2.2.2.2.2.2.2.2.2.2.2.2.1, d.2.2.1.2.2.2.2.2.2.2.2.2.2.2.2.2.2.2.2.2.2.2.2.2.2.2.2.2.2.2.2.2.2.2.2.2.2.2.2.2.2.2.2.2.2.2.2.2.2.2.2.2.2.2.2.2.1, d.2.2.1.2.2.2.2.2.2.2.2.2.2.2.2.2.2.2.2.2.2.2.2.2.2.2.2.2.2.2.2.2.2.2.2.2.2.2.2.2.2.2.2.2.2.2.2.2.2.2.2.2.2.2.2.2.2.1, d.2.2.1.2.2.2.2.2.2.2.2.2.2.2.2.2.2.2.2.2.2.2.2.2.2.2.2.2.2.2.2.2.2.2.2.2.2.2.2.2.2.2.2.2.2.2.2.2.2.2.2.2.2.2.2.2.2.2.1, d.2.2.1.2.2.2.2.2.2.2.2.2.2.2.2.2.2.2.2.2.2.2.2.2.2.2.2.2.2.2.2.2.2.2.2.2.2.2.2.2.2.2.2.2.2.2.2.2.2.2.2.2.2.2.2.2.2.2.2.1, d.2.2.1.2.2.2.2.2.2.2.2.2.2.2.2.2.2.2.2.2.2.2.2.2.2.2.2.2.2.2.2.2.2.2.2.2.2.2.2.2.2.2.2.2.2.2.2.2.2.2.2.2.2.2.2.2.2.2.2.2.1, d.2.2.1.2.2.2.2.2.2.2.2.2.2.2.2.2.2.2.2.2.2.2.2.2.2.2.2.2.2.2.2.2.2.2.2.2.2.2.2.2.2.2.2.2.2.2.2.2.2.2.2.2.2.2.2.2.2.2.2.2.2.1, d.2.2.1.2.2.2.2.2.2.2.2.2.2.2.2.2.2.2.2.2.2.2.2.2.2.2.2.2.2.2.2.2.2.2.2.2.2.2.2.2.2.2.2.2.2.2.2.2.2.2.2.2.2.2.2.2.2.2.2.2.2.2.1, d.2.2.1.2.2.2.2.2.2.2.2.2.2.2.2.2.2.2.2.2.2.2.2.2.2.2.2.2.2.2.2.2.2.2.2.2.2.2.2.2.2.2.2.2.2.2.2.2.2.2.2.2.2.2.2.2.2.2.2.2.2.2.2.1, d.2.2.1.2.2.2.2.2.2.2.2.2.2.2.2.2.2.2.2.2.2.2.2.2.2.2.2.2.2.2.2.2.2.2.2.2.2.2.2.2.2.2.2.2.2.2.2.2.2.2.2.2.2.2.2.2.2.2.2.2.2.2.2.2.1, d.2.2.1.2.2.2.2.2.2.2.2.2.2.2.2.2.2.2.2.2.2.2.2.2.2.2.2.2.2.2.2.2.2.2.2.2.2.2.2.2.2.2.2.2.2.2.2.2.2.2.2.2.2.2.2.2.2.2.2.2.2.2.2.2.2.1, d.2.2.1.2.2.2.2.2.2.2.2.2.2.2.2.2.2.2.2.2.2.2.2.2.2.2.2.2.2.2.2.2.2.2.2.2.2.2.2.2.2.2.2.2.2.2.2.2.2.2.2.2.2.2.2.2.2.2.2.2.2.2.2.2.2.2.1] : List Int)
 bif decide ((64 : Int) <= (x1.length : Int)) then (
 (Ki ((), (((gd (.int .u8) x1 (0 : Int)), ((gd (.int .u8) x1 (1 : Int)), ((gd (.int .u8) x1 (2 : Int)), ((gd (.int .u8) x1 (3 : Int)), ((gd (.int .u8) x1 (4 : Int)), ((gd (.int .u8) x1 (5 : Int)), ((gd (.int .u8) x1 (6 : Int)), ((gd (.int .u8) x1 (7 : Int)), ((gd (.int .u8) x1 (8 : Int)), ((gd (.int .u8) x1 (9 : Int)), ((gd (.int .u8) x1 (10 : Int)), ((gd (.int .u8) x1 (11 : Int)), ((gd (.int .u8) x1 (12 : Int)), ((gd (.int .u8) x1 (13 : Int)), ((gd (.int .u8) x1 (14 : Int)), ((gd (.int .u8) x1 (15 : Int)), ((gd (.int .u8) x1 (16 : Int)), ((gd (.int .u8) x1 (17 : Int)), ((gd (.int .u8) x1 (18 : Int)), ((gd (.int .u8) x1 (19 : Int)), ((gd (.int .u8) x1 (20 : Int)), ((gd (.int .u8) x1 (21 : Int)), ((gd (.int .u8) x1 (22 : Int)), ((gd (.int .u8) x1 (23 : Int)), ((gd (.int .u8) x1 (24 : Int)), ((gd (.int .u8) x1 (25 : Int)), ((gd (.int .u8) x1 (26 : Int)), ((gd (.int .u8) x1 (27 : Int)), ((gd (.int .u8) x1 (28 : Int)), ((gd (.int .u8) x1 (29 : Int)), ((gd (.int .u8) x1 (30 : Int)), ((gd (.int .u8) x1 (31 : Int)), ((gd (.int .u8) x1 (32 : Int)), ((gd (.int .u8) x1 (33 : Int)), ((gd (.int .u8) x1 (34 : Int)), ((gd (.int .u8) x1 (35 : Int)), ((gd (.int .u8) x1 (36 : Int)), ((gd (.int .u8) x1 (37 : Int)), ((gd (.int .u8) x1 (38 : Int)), ((gd (.int .u8) x1 (39 : Int)), ((gd (.int .u8) x1 (40 : Int)), ((gd (.int .u8) x1 (41 : Int)), ((gd (.int .u8) x1 (42 : Int)), ((gd (.int .u8) x1 (43 : Int)), ((gd (.int .u8) x1 (44 : Int)), ((gd (.int .u8) x1 (45 : Int)), ((gd (.int .u8) x1 (46 : Int)), ((gd (.int .u8) x1 (47 : Int)), ((gd (.int .u8) x1 (48 : Int)), ((gd (.int .u8) x1 (49 : Int)), ((gd (.int .u8) x1 (50 : Int)), ((gd (.int .u8) x1 (51 : Int)), ((gd (.int .u8) x1 (52 : Int)), ((gd (.int .u8) x1 (53 : Int)), ((gd (.int .u8) x1 (54 : Int)), ((gd (.int .u8) x1 (55 : Int)), ((gd (.int .u8) x1 (56 : Int)), ((gd (.int .u8) x1 (57 : Int)), ((gd (.int .u8) x1 (58 : Int)), ((gd (.int .u8) x1 (59 : Int)), ((gd (.int .u8) x1 (60 : Int)), ((gd (.int .u8) x1 (61 : Int)), ((gd (.int .u8) x1 (62 : Int)), ((gd (.int .u8) x1 (63 : Int)), ())))))))))))))))))))))))))))))))))))))))))))))))))))))))))))))))), ()))).bind fun x2 =>
 (T.1 ((d.2.1, (((0 : Int), ((0 : Int), ((0 : Int), ((0 : Int), (0, ()))))), (d.2.1, ()))), ((), ((), ((), (x2.2.1, ((0, ()), ()))))))))
 else none
def Mu (d) := lim fun k => Yn (Cu k) d
theorem Awi : Em Tryz.prog ET0 74 Aby Ach Mu :=
 fnL (E := (((E0.add 98 Aop).add 99 A21).add 100 Nj)) (pi := Aby) (po := Ach) (Aa (Aa (Aa Bc (Af Amc)) (Af Aym)) (Af Lu)) (fn := Tryz.f74) Tryz.func74 (by kernel_rfl) (by kernel_rfl) [.cell 4 36] (by kernel_rfl) rfl rfl rfl [15] (fun k => [(4, ⟨Aqv, (Cu k).1⟩), (12, ⟨Ab2, (Cu k).2.1⟩), (15, ⟨Ao9, (Cu k).2.2.1⟩)]) (fun _ => [])
 (.intro (fun _ => rfl) (.intro (fun _ => rfl) (.intro (fun _ => rfl) trivial))) (fun k => (.intro (fun d => by kernel_rfl) (.intro (fun d => by kernel_rfl) (.intro (fun d => by kernel_rfl) trivial)))) trivial (fun k => trivial) (fun k d => Yn (Cu k) d) (fun k d => by kernel_rfl)
def Ayj := Ah Aby Ach Mu
abbrev Wh : PSh := ⟨[], [kI]⟩
abbrev Vx : PSh := ⟨[], [kI]⟩
def Ac1 (T : Unit) (d : Unit × ((Int × Unit) × Unit)) : Option (Unit × ((Int × Unit) × Unit)) :=
 let x1 := (decide (d.2.1.1 < (0 : Int)))
 bif x1 then (
 some ((), ((0, ()), ())))
 else (
 let x2 := (Nm .i64 d.2.1.1 (64 : Int))
 let x3 := (Int.tmod d.2.1.1 (64 : Int))
 let x4 := (Bm .i64 x3 1)
 let x5 := (Bm .i64 x4 8)
 let x6 := (decide (x5 > (64 : Int)))
 bif x6 then (
 let x7 := (Bm .i64 x2 1)
 let x8 := (Bm .i64 x7 1)
 some ((), ((x8, ()), ())))
 else (
 let x9 := (Bm .i64 x2 1)
 some ((), ((x9, ()), ()))))
def N5 := Ac1 ()
theorem Aqx : Em Tryz.prog ET0 75 Wh Vx N5 :=
 fn0 (E := E0) (pi := Wh) (po := Vx) Bc (fn := Tryz.f75) Tryz.func75 (by kernel_rfl) (by kernel_rfl) [.tmp 2] (by kernel_rfl) rfl rfl rfl [] fun d => by kernel_rfl
def Atq := Ah Wh Vx N5
abbrev Oe : PSh := ⟨[], []⟩
abbrev Nn : PSh := ⟨[], [kI]⟩
abbrev Tj : Type := Y4
abbrev N4 : Type := (((Tj) -> Option (Unit × ((Int × Unit) × Unit))) × Unit)
abbrev Adw : PSh := ⟨[], [.any, kI, .mk false [.v (.int .u64)]] ++ Q6 9⟩
def Adv (T : N4) (d : Tj) : Option (Unit × ((Int × Unit) × Unit)) :=
 let x3 := (decide (d.2.2.1.1 > (0 : Int)))
 bif x3 then (
 let x4 := (Bm .i64 d.2.1.1 1)
 let x5 := (A3g .u64 d.2.2.1.1 (8 : Int))
 (T.1 ((), ((x4, ()), ((x5, ()), ())))))
 else (
 some ((), (d.2.1, ())))
def Jf : Nat -> N4
 | 0 => (fun _ => none, ())
 | k + 1 => (Adv (Jf k), ())
def Ti (T : N4) (d : Unit × Unit) : Option (Unit × ((Int × Unit) × Unit)) :=
 let x1 := (Ef .u64 (0 : Int))
 let x2 := (Be3 .u64 x1)
 (T.1 ((), ((0, ()), ((x2, ()), ()))))
def K2 (d) := lim fun k => Ti (Jf k) d
theorem Aij : Em Tryz.prog ET0 101 Oe Nn K2 :=
 fnL (E := E0) (pi := Oe) (po := Nn) Bc (fn := Tryz.f101) Tryz.func101 (by kernel_rfl) (by kernel_rfl) [.tmp 0] (by kernel_rfl) rfl rfl rfl [] (fun k => [(4, ⟨Adw, (Jf k).1⟩)]) (fun _ => [])
 (.intro (fun _ => rfl) trivial) (fun k => (.intro (fun d => by kernel_rfl) trivial)) trivial (fun k => trivial) (fun k d => Ti (Jf k) d) (fun k d => by kernel_rfl)
def Ajl := Ah Oe Nn K2
abbrev Pq : PSh := ⟨[], [.mk false [.v (.sl (.int .u8))], .mk false [.v (.sl (.int .u64))]]⟩
abbrev K0 : PSh := Aw
abbrev Jr : Type := Y3
abbrev U7 : Type := N7
abbrev T6 : Type := M4
abbrev K1 : Type := (((U7) -> Option (Jr)) × (((T6) -> Option (Jr)) × Unit))
abbrev Afg : PSh := ⟨[.row 5 (.int .u8)], [.any, .any, .any, .any, .any, kI, .mk false [.osl 0], .any, .any, .any, .any, .any, .any, .mk false [.v (.sl (.int .u64))], kI, kI] ++ Q6 19⟩
abbrev Ad2 : PSh := ⟨[.row 5 (.int .u8)], [.any, .any, .any, .any, .any, kI, .mk false [.osl 0], .any, .mk false [.v (.int .u64)], kI, .any, .any, .any, .mk false [.v (.sl (.int .u64))], kI, kI] ++ Q6 19⟩
def I9 (T : K1) (d : U7) : Option (Jr) :=
 let x4 := (decide (d.2.2.2.2.2.1.1 < d.2.2.2.2.1.1))
 bif x4 then (
 bif decide ((0 : Int) <= d.2.2.2.2.2.1.1) && decide (d.2.2.2.2.2.1.1 < (d.2.2.2.1.1.length : Int)) then (
 let x5 := (H3 .i64 d.2.1.1 1)
 (T.2.1 (d.1, (d.2.1, ((), (((gd (.int .u64) d.2.2.2.1.1 d.2.2.2.2.2.1.1), ()), ((x5, ()), d.2.2.2)))))))
 else none)
 else (
 some (d.1, ((), ())))
def Ic (T : K1) (d : T6) : Option (Jr) :=
 let x6 := (decide (d.2.2.2.2.1.1 >= (0 : Int)))
 bif x6 then (
 let x7 := (Qq .i64 (8 : Int) d.2.2.2.2.1.1)
 bif decide (x7 < 0) then (
 none)
 else (
 let x8 := (A3g .u64 d.2.2.2.1.1 x7)
 let x9 := (Ef .u8 x8)
 let x10 := ([x9] : List Int)
 bif decide (((d.1.1.length + x10.length) * 1 : Nat) <= 140737488355328) && decide (d.1.1.length + x10.length <= 9223372036854775807) then (
 let x11 := (d.1.1 ++ x10)
 let x12 := (H3 .i64 d.2.2.2.2.1.1 1)
 (T.2.1 ((x11, ()), (d.2.1, ((), (d.2.2.2.1, ((x12, ()), d.2.2.2.2.2)))))))
 else none))
 else (
 let x13 := (Bm .i64 d.2.2.2.2.2.2.2.1.1 1)
 (T.1 (d.1, (d.2.1, ((), (d.2.2.2.2.2.1, (d.2.2.2.2.2.2.1, ((x13, ()), ()))))))))
def Bv : Nat -> K1
 | 0 => (fun _ => none, (fun _ => none, ()))
 | k + 1 => (I9 (Bv k), (Ic (Bv k), ()))
theorem Mj (k : Nat) : Bv (k + 1) = (I9 (Bv k), (Ic (Bv k), ())) := rfl
def Ox (T : K1) (d : Y8) : Option (Jr) :=
 (K2 ((), ())).bind fun x1 =>
 (C5 ((), (d.2.1, ()))).bind fun x2 =>
 let x3 := (d.2.2.1.1.length : Int)
 (T.1 (x2.1, (x1.2.1, ((), (d.2.2.1, ((x3, ()), ((0, ()), ())))))))
def Md (d) := lim fun k => Ox (Bv k) d
theorem Aji : Em Tryz.prog ET0 76 Pq K0 Md :=
 fnL (E := ((E0.add 92 Na).add 101 Ajl)) (pi := Pq) (po := K0) (Aa (Aa Bc (Af Lz)) (Af Aij)) (fn := Tryz.f76) Tryz.func76 (by kernel_rfl) (by kernel_rfl) [.tmp 4] (by kernel_rfl) rfl rfl rfl [] (fun k => [(5, ⟨Afg, (Bv k).1⟩), (11, ⟨Ad2, (Bv k).2.1⟩)]) (fun _ => [])
 (.intro (fun _ => rfl) (.intro (fun _ => rfl) trivial)) (fun k => (.intro (fun d => by kernel_rfl) (.intro (fun d => by kernel_rfl) trivial))) trivial (fun k => trivial) (fun k d => Ox (Bv k) d) (fun k d => by kernel_rfl)
def Alq := Ah Pq K0 Md
abbrev F8 : Type := (((Unit × (((Option (List Int)) × Unit) × (((Option Int) × Unit) × ((Int × Unit) × Unit)))) -> Option (List (List Int))) × Unit)
abbrev Jo : PSh := ⟨[], [.any, .mk false [.v (.nptr (.sl (.int .u8)))], .mk false [.v (.nptr (.int .i64))], .any, kI] ++ Q6 26⟩
def B9 (T : F8) (d : Unit × (((Option (List Int)) × Unit) × (((Option Int) × Unit) × ((Int × Unit) × Unit)))) : Option (List (List Int)) :=
 d.2.1.1.bind fun x1 =>
 let x2 := (x1.length : Int)
 let x3 := (decide (d.2.2.2.1.1 < x2))
 bif x3 then (
 d.2.2.1.1.bind fun x4 =>
 d.2.1.1.bind fun x5 =>
 bif decide ((0 : Int) <= d.2.2.2.1.1) && decide (d.2.2.2.1.1 <= (x5.length : Int)) && decide ((x5.length : Int) <= (x5.length : Int)) then (
 let x6 := (List.drop (Int.toNat d.2.2.2.1.1) (List.take (Int.toNat (x5.length : Int)) x5))
 let x7 := (x6.length : Int)
 let x8 := (if x7 < x4 then x7 else x4)
 d.2.1.1.bind fun x9 =>
 let x10 := (Bm .i64 d.2.2.2.1.1 x8)
 let x11 := (Bm .i64 d.2.2.2.1.1 x8)
 bif decide ((0 : Int) <= d.2.2.2.1.1) && decide (d.2.2.2.1.1 <= x10) && decide (x10 <= x11) && decide (x11 <= (x9.length : Int)) then (
 let x12 := (List.drop (Int.toNat d.2.2.2.1.1) (List.take (Int.toNat x10) x9))
 (some ([] : List (List Int))).bind fun (x13 : List (List Int)) =>
 bif x13.isEmpty then (
 (d.2.2.1.1.bind fun x15 =>
 let x16 := (Bm .i64 d.2.2.2.1.1 x15)
 (T.1 ((), ((d.2.1.1, ()), ((d.2.2.1.1, ()), ((x16, ()), ())))))).bind fun (x14 : List (List Int)) =>
 some (x12 :: x14))
 else none)
 else none)
 else none)
 else (
 some ([] : List (List Int)))
def A2 : Nat -> F8
 | 0 => (fun _ => none, ())
 | k + 1 => (B9 (A2 k), ())
def Jw (T : F8) (d : ((List Int) × (Int × Unit))) : Option (List (List Int)) :=
 (T.1 ((), (((some d.1), ()), (((some d.2.1), ()), ((0, ()), ())))))
def G3 (k : Nat) : Pts (List (List Int)) := [(1, ⟨Jo, (A2 k).1⟩)]
def De (d : ((List Int) × (Int × Unit))) : Option (List (List Int)) := lim fun k => Jw (A2 k) d
def Ee : Ah3 := ⟨[(63, (.sl (.int .u8))), (3, (.int .i64))], [false, false], (.sl (.int .u8)), De⟩
def G7 : Env := E0
theorem Se (k : Nat) (d : Unit × (((Option (List Int)) × Unit) × (((Option Int) × Unit) × ((Int × Unit) × Unit)))) : Aan G7 (.sl (.int .u8)) (A8c (G3 k)) 1 (Qo Tryz.f97) 0 Be9 (A1t Jo d) = B9 (A2 k) d := by kernel_rfl
theorem Sa (k : Nat) (d : ((List Int) × (Int × Unit))) : Ii G7 (.sl (.int .u8)) (A8c (G3 k)) (Qo Tryz.f97) 0 Be9 (A0x Ee.ts Ee.wr 31 d) = Jw (A2 k) d := by kernel_rfl
theorem Sf : A9j Tryz.prog ET0 97 Ee := by
 refine Ax6 (E := G7) Bc rfl rfl (fn := Tryz.f97) Tryz.func97 (by kernel_rfl) (by kernel_rfl) (by kernel_rfl) (by kernel_rfl) G3 ?_ ?_ ?_ (by intro d l h; obtain ⟨k, hk⟩ := As0 h; exact ⟨k, (Sa k d).trans hk⟩)
 ·intro x hx d
  rcases List.mem_cons.1 hx with rfl | hx
  ·rfl
  ·
   cases hx
 ·intro k x hx
  rcases List.mem_cons.1 hx with rfl | hx
  ·rfl
  ·
   cases hx
 ·intro k x hx d out h
  rcases List.mem_cons.1 hx with rfl | hx
  ·exact (Se k d).trans h
  ·
   cases hx
abbrev Afy : PSh := Bu
abbrev Age : PSh := Qr
abbrev Xd : Type := Y10
abbrev Ak6 : Type := ((Int × (Int × (Int × (Int × (Int × (Int × (Int × (Int × (Int × (Int × (Int × (Int × (Int × (Int × (Int × (Int × (Int × (Int × (Int × (Int × Unit)))))))))))))))))))) × ((Int × (Int × (Int × (Int × (Int × Unit))))) × Unit)) × (((List Int) × Unit) × (Unit × (Unit × ((Int × Unit) × Unit))))
abbrev Agw : Type := ((Int × (Int × (Int × (Int × (Int × (Int × (Int × (Int × (Int × (Int × (Int × (Int × (Int × (Int × (Int × (Int × (Int × (Int × (Int × (Int × Unit)))))))))))))))))))) × ((Int × (Int × (Int × (Int × (Int × Unit))))) × Unit)) × (Unit × (Unit × Unit))
abbrev Kg : Type := ((List (List Int) -> (Ak6) -> Option (Xd)) × ((List (List Int) -> (Agw) -> Option (Xd)) × Unit))
abbrev At5 : PSh := ⟨[.var 53 [v8, v8, v8, v8, v8, v8, v8, v8, v8, v8, v8, v8, v8, v8, v8, v8, v8, v8, v8, v8], .var 36 [.v (.int .u32), .v (.int .u32), .v (.int .u32), .v (.int .u32), .v (.int .u32)]], [.mk false [.v (.sl (.int .u8))], .any, .mk false [.ref 0 0], .mk false [.ref 1 0], kI] ++ Q6 55⟩
abbrev Aqp : PSh := ⟨[.var 53 [v8, v8, v8, v8, v8, v8, v8, v8, v8, v8, v8, v8, v8, v8, v8, v8, v8, v8, v8, v8], .var 36 [.v (.int .u32), .v (.int .u32), .v (.int .u32), .v (.int .u32), .v (.int .u32)]], [.any, .any, .mk false [.ref 0 0], .mk false [.ref 1 0]] ++ Q6 56⟩
def R5 (T : Kg) (l : List (List Int)) (d : Ak6) : Option (Xd) :=
 bif l.isEmpty then (
 let x8 := (d.2.1.1.length : Int)
 (N5 ((), ((x8, ()), ()))).bind fun x9 =>
 let x10 := (Nm .i64 d.2.2.2.2.1.1 (64 : Int))
 let x11 := (H3 .i64 x9.2.1.1 x10)
 let x12 := (Qq .i64 x11 64)
 let x13 := (H3 .i64 x12 8)
 bif decide ((0 : Int) <= x13) && decide (x13 <= x13) && decide (x13 * (1 : Int) <= 140737488355328) && decide (x13 <= 9223372036854775807) then (
 let x14 := (List.replicate (Int.toNat x13) (0 : Int))
 bif decide ((0 : Int) <= d.2.2.2.2.1.1) && decide (d.2.2.2.2.1.1 <= (d.2.1.1.length : Int)) && decide ((d.2.1.1.length : Int) <= (d.2.1.1.length : Int)) then (
 let x15 := (List.drop (Int.toNat d.2.2.2.2.1.1) (List.take (Int.toNat (d.2.1.1.length : Int)) d.2.1.1))
 bif decide ((0 : Int) < (x14.length : Int)) then (
 let x16 := (cpL x14 (Int.toNat (0 : Int)) x15)
 let x17 := ((min x15.length (x14.length - (Int.toNat (0 : Int))) : Nat) : Int)
 let x18 := (d.2.1.1.length : Int)
 let x19 := (H3 .i64 x18 d.2.2.2.2.1.1)
 bif decide ((0 : Int) <= x19) && decide (x19 < (x16.length : Int)) then (
 let x20 := (List.set x16 (Int.toNat x19) (128 : Int))
 let x21 := (d.2.1.1.length : Int)
 let x22 := (Ef .u64 x21)
 let x23 := (Qq .u64 x22 8)
 let x24 := ([x23] : List Int)
 (Md ((), ((x20, ()), ((x24, ()), ())))).bind fun x25 =>
 (Cm ((), (x25.1, ((64, ()), ())))).bind fun x26 =>
 (De (x26.1.1.1, (x26.1.2.1.1, ()))).bind fun x27 =>
 (T.2.1 x27 (d.1, ((), ((), ())))))
 else none)
 else none)
 else none)
 else none)
 else (
 let x28 := (gd (.sl (.int .u8)) l (0 : Int))
 bif decide ((64 : Int) <= x28.length) then (
 let x29 := ((gd (.int .u8) x28 (0 : Int)), ((gd (.int .u8) x28 (1 : Int)), ((gd (.int .u8) x28 (2 : Int)), ((gd (.int .u8) x28 (3 : Int)), ((gd (.int .u8) x28 (4 : Int)), ((gd (.int .u8) x28 (5 : Int)), ((gd (.int .u8) x28 (6 : Int)), ((gd (.int .u8) x28 (7 : Int)), ((gd (.int .u8) x28 (8 : Int)), ((gd (.int .u8) x28 (9 : Int)), ((gd (.int .u8) x28 (10 : Int)), ((gd (.int .u8) x28 (11 : Int)), ((gd (.int .u8) x28 (12 : Int)), ((gd (.int .u8) x28 (13 : Int)), ((gd (.int .u8) x28 (14 : Int)), ((gd (.int .u8) x28 (15 : Int)), ((gd (.int .u8) x28 (16 : Int)), ((gd (.int .u8) x28 (17 : Int)), ((gd (.int .u8) x28 (18 : Int)), ((gd (.int .u8) x28 (19 : Int)), ((gd (.int .u8) x28 (20 : Int)), ((gd (.int .u8) x28 (21 : Int)), ((gd (.int .u8) x28 (22 : Int)), ((gd (.int .u8) x28 (23 : Int)), ((gd (.int .u8) x28 (24 : Int)), ((gd (.int .u8) x28 (25 : Int)), ((gd (.int .u8) x28 (26 : Int)), ((gd (.int .u8) x28 (27 : Int)), ((gd (.int .u8) x28 (28 : Int)), ((gd (.int .u8) x28 (29 : Int)), ((gd (.int .u8) x28 (30 : Int)), ((gd (.int .u8) x28 (31 : Int)), ((gd (.int .u8) x28 (32 : Int)), ((gd (.int .u8) x28 (33 : Int)), ((gd (.int .u8) x28 (34 : Int)), ((gd (.int .u8) x28 (35 : Int)), ((gd (.int .u8) x28 (36 : Int)), ((gd (.int .u8) x28 (37 : Int)), ((gd (.int .u8) x28 (38 : Int)), ((gd (.int .u8) x28 (39 : Int)), ((gd (.int .u8) x28 (40 : Int)), ((gd (.int .u8) x28 (41 : Int)), ((gd (.int .u8) x28 (42 : Int)), ((gd (.int .u8) x28 (43 : Int)), ((gd (.int .u8) x28 (44 : Int)), ((gd (.int .u8) x28 (45 : Int)), ((gd (.int .u8) x28 (46 : Int)), ((gd (.int .u8) x28 (47 : Int)), ((gd (.int .u8) x28 (48 : Int)), ((gd (.int .u8) x28 (49 : Int)), ((gd (.int .u8) x28 (50 : Int)), ((gd (.int .u8) x28 (51 : Int)), ((gd (.int .u8) x28 (52 : Int)), ((gd (.int .u8) x28 (53 : Int)), ((gd (.int .u8) x28 (54 : Int)), ((gd (.int .u8) x28 (55 : Int)), ((gd (.int .u8) x28 (56 : Int)), ((gd (.int .u8) x28 (57 : Int)), ((gd (.int .u8) x28 (58 : Int)), ((gd (.int .u8) x28 (59 : Int)), ((gd (.int .u8) x28 (60 : Int)), ((gd (.int .u8) x28 (61 : Int)), ((gd (.int .u8) x28 (62 : Int)), (gd (.int .u8) x28 (63 : Int)))))))))))))))))))))))))))))))))))))))))))))))))))))))))))))))))
 (Mu ((), (d.1.2.1, ((x29.1, (x29.2.1, (x29.2.2.1, (x29.2.2.2.1, (x29.2.2.2.2.1, (x29.2.2.2.2.2.1, (x29.2.2.2.2.2.2.1, (x29.2.2.2.2.2.2.2.1, (x29.2.2.2.2.2.2.2.2.1, (x29.2.2.2.2.2.2.2.2.2.1, (x29.2.2.2.2.2.2.2.2.2.2.1, (x29.2.2.2.2.2.2.2.2.2.2.2.1, (x29.2.2.2.2.2.2.2.2.2.2.2.2.1, (x29.2.2.2.2.2.2.2.2.2.2.2.2.2.1, (x29.2.2.2.2.2.2.2.2.2.2.2.2.2.2.1, (x29.2.2.2.2.2.2.2.2.2.2.2.2.2.2.2.1, (x29.2.2.2.2.2.2.2.2.2.2.2.2.2.2.2.2.1, (x29.2.2.2.2.2.2.2.2.2.2.2.2.2.2.2.2.2.1, (x29.2.2.2.2.2.2.2.2.2.2.2.2.2.2.2.2.2.2.1, (x29.2.2.2.2.2.2.2.2.2.2.2.2.2.2.2.2.2.2.2.1, (x29.2.2.2.2.2.2.2.2.2.2.2.2.2.2.2.2.2.2.2.2.1, (x29.2.2.2.2.2.2.2.2.2.2.2.2.2.2.2.2.2.2.2.2.2.1, (x29.2.2.2.2.2.2.2.2.2.2.2.2.2.2.2.2.2.2.2.2.2.2.1, (x29.2.2.2.2.2.2.2.2.2.2.2.2.2.2.2.2.2.2.2.2.2.2.2.1, (x29.2.2.2.2.2.2.2.2.2.2.2.2.2.2.2.2.2.2.2.2.2.2.2.2.1, (x29.2.2.2.2.2.2.2.2.2.2.2.2.2.2.2.2.2.2.2.2.2.2.2.2.2.1, (x29.2.2.2.2.2.2.2.2.2.2.2.2.2.2.2.2.2.2.2.2.2.2.2.2.2.2.1, (x29.2.2.2.2.2.2.2.2.2.2.2.2.2.2.2.2.2.2.2.2.2.2.2.2.2.2.2.1, (x29.2.2.2.2.2.2.2.2.2.2.2.2.2.2.2.2.2.2.2.2.2.2.2.2.2.2.2.2.1, (x29.2.2.2.2.2.2.2.2.2.2.2.2.2.2.2.2.2.2.2.2.2.2.2.2.2.2.2.2.2.1, (x29.2.2.2.2.2.2.2.2.2.2.2.2.2.2.2.2.2.2.2.2.2.2.2.2.2.2.2.2.2.2.1, (x29.2.2.2.2.2.2.2.2.2.2.2.2.2.2.2.2.2.2.2.2.2.2.2.2.2.2.2.2.2.2.2.1, (x29.2.2.2.2.2.2.2.2.2.2.2.2.2.2.2.2.2.2.2.2.2.2.2.2.2.2.2.2.2.2.2.2.1, (x29.2.2.2.2.2.2.2.2.2.2.2.2.2.2.2.2.2.2.2.2.2.2.2.2.2.2.2.2.2.2.2.2.2.1, (x29.2.2.2.2.2.2.2.2.2.2.2.2.2.2.2.2.2.2.2.2.2.2.2.2.2.2.2.2.2.2.2.2.2.2.1, (x29.2.2.2.2.2.2.2.2.2.2.2.2.2.2.2.2.2.2.2.2.2.2.2.2.2.2.2.2.2.2.2.2.2.2.2.1, (x29.2.2.2.2.2.2.2.2.2.2.2.2.2.2.2.2.2.2.2.2.2.2.2.2.2.2.2.2.2.2.2.2.2.2.2.2.1, (x29.2.2.2.2.2.2.2.2.2.2.2.2.2.2.2.2.2.2.2.2.2.2.2.2.2.2.2.2.2.2.2.2.2.2.2.2.2.1, (x29.2.2.2.2.2.2.2.2.2.2.2.2.2.2.2.2.2.2.2.2.2.2.2.2.2.2.2.2.2.2.2.2.2.2.2.2.2.2.1, (x29.2.2.2.2.2.2.2.2.2.2.2.2.2.2.2.2.2.2.2.2.2.2.2.2.2.2.2.2.2.2.2.2.2.2.2.2.2.2.2.1, (x29.2.2.2.2.2.2.2.2.2.2.2.2.2.2.2.2.2.2.2.2.2.2.2.2.2.2.2.2.2.2.2.2.2.2.2.2.2.2.2.2.1, (x29.2.2.2.2.2.2.2.2.2.2.2.2.2.2.2.2.2.2.2.2.2.2.2.2.2.2.2.2.2.2.2.2.2.2.2.2.2.2.2.2.2.1, (x29.2.2.2.2.2.2.2.2.2.2.2.2.2.2.2.2.2.2.2.2.2.2.2.2.2.2.2.2.2.2.2.2.2.2.2.2.2.2.2.2.2.2.1, (x29.2.2.2.2.2.2.2.2.2.2.2.2.2.2.2.2.2.2.2.2.2.2.2.2.2.2.2.2.2.2.2.2.2.2.2.2.2.2.2.2.2.2.2.1, (x29.2.2.2.2.2.2.2.2.2.2.2.2.2.2.2.2.2.2.2.2.2.2.2.2.2.2.2.2.2.2.2.2.2.2.2.2.2.2.2.2.2.2.2.2.1, (x29.2.2.2.2.2.2.2.2.2.2.2.2.2.2.2.2.2.2.2.2.2.2.2.2.2.2.2.2.2.2.2.2.2.2.2.2.2.2.2.2.2.2.2.2.2.1, (x29.2.2.2.2.2.2.2.2.2.2.2.2.2.2.2.2.2.2.2.2.2.2.2.2.2.2.2.2.2.2.2.2.2.2.2.2.2.2.2.2.2.2.2.2.2.2.1, (x29.2.2.2.2.2.2.2.2.2.2.2.2.2.2.2.2.2.2.2.2.2.2.2.2.2.2.2.2.2.2.2.2.2.2.2.2.2.2.2.2.2.2.2.2.2.2.2.1, (x29.2.2.2.2.2.2.2.2.2.2.2.2.2.2.2.2.2.2.2.2.2.2.2.2.2.2.2.2.2.2.2.2.2.2.2.2.2.2.2.2.2.2.2.2.2.2.2.2.1, (x29.2.2.2.2.2.2.2.2.2.2.2.2.2.2.2.2.2.2.2.2.2.2.2.2.2.2.2.2.2.2.2.2.2.2.2.2.2.2.2.2.2.2.2.2.2.2.2.2.2.1, (x29.2.2.2.2.2.2.2.2.2.2.2.2.2.2.2.2.2.2.2.2.2.2.2.2.2.2.2.2.2.2.2.2.2.2.2.2.2.2.2.2.2.2.2.2.2.2.2.2.2.2.1, (x29.2.2.2.2.2.2.2.2.2.2.2.2.2.2.2.2.2.2.2.2.2.2.2.2.2.2.2.2.2.2.2.2.2.2.2.2.2.2.2.2.2.2.2.2.2.2.2.2.2.2.2.1, (x29.2.2.2.2.2.2.2.2.2.2.2.2.2.2.2.2.2.2.2.2.2.2.2.2.2.2.2.2.2.2.2.2.2.2.2.2.2.2.2.2.2.2.2.2.2.2.2.2.2.2.2.2.1, (x29.2.2.2.2.2.2.2.2.2.2.2.2.2.2.2.2.2.2.2.2.2.2.2.2.2.2.2.2.2.2.2.2.2.2.2.2.2.2.2.2.2.2.2.2.2.2.2.2.2.2.2.2.2.1, (x29.2.2.2.2.2.2.2.2.2.2.2.2.2.2.2.2.2.2.2.2.2.2.2.2.2.2.2.2.2.2.2.2.2.2.2.2.2.2.2.2.2.2.2.2.2.2.2.2.2.2.2.2.2.2.1, (x29.2.2.2.2.2.2.2.2.2.2.2.2.2.2.2.2.2.2.2.2.2.2.2.2.2.2.2.2.2.2.2.2.2.2.2.2.2.2.2.2.2.2.2.2.2.2.2.2.2.2.2.2.2.2.2.1, (x29.2.2.2.2.2.2.2.2.2.2.2.2.2.2.2.2.2.2.2.2.2.2.2.2.2.2.2.2.2.2.2.2.2.2.2.2.2.2.2.2.2.2.2.2.2.2.2.2.2.2.2.2.2.2.2.2.1, (x29.2.2.2.2.2.2.2.2.2.2.2.2.2.2.2.2.2.2.2.2.2.2.2.2.2.2.2.2.2.2.2.2.2.2.2.2.2.2.2.2.2.2.2.2.2.2.2.2.2.2.2.2.2.2.2.2.2.1, (x29.2.2.2.2.2.2.2.2.2.2.2.2.2.2.2.2.2.2.2.2.2.2.2.2.2.2.2.2.2.2.2.2.2.2.2.2.2.2.2.2.2.2.2.2.2.2.2.2.2.2.2.2.2.2.2.2.2.2.1, (x29.2.2.2.2.2.2.2.2.2.2.2.2.2.2.2.2.2.2.2.2.2.2.2.2.2.2.2.2.2.2.2.2.2.2.2.2.2.2.2.2.2.2.2.2.2.2.2.2.2.2.2.2.2.2.2.2.2.2.2.1, (x29.2.2.2.2.2.2.2.2.2.2.2.2.2.2.2.2.2.2.2.2.2.2.2.2.2.2.2.2.2.2.2.2.2.2.2.2.2.2.2.2.2.2.2.2.2.2.2.2.2.2.2.2.2.2.2.2.2.2.2.2.1, (x29.2.2.2.2.2.2.2.2.2.2.2.2.2.2.2.2.2.2.2.2.2.2.2.2.2.2.2.2.2.2.2.2.2.2.2.2.2.2.2.2.2.2.2.2.2.2.2.2.2.2.2.2.2.2.2.2.2.2.2.2.2.1, (x29.2.2.2.2.2.2.2.2.2.2.2.2.2.2.2.2.2.2.2.2.2.2.2.2.2.2.2.2.2.2.2.2.2.2.2.2.2.2.2.2.2.2.2.2.2.2.2.2.2.2.2.2.2.2.2.2.2.2.2.2.2.2.1, (x29.2.2.2.2.2.2.2.2.2.2.2.2.2.2.2.2.2.2.2.2.2.2.2.2.2.2.2.2.2.2.2.2.2.2.2.2.2.2.2.2.2.2.2.2.2.2.2.2.2.2.2.2.2.2.2.2.2.2.2.2.2.2.2, ())))))))))))))))))))))))))))))))))))))))))))))))))))))))))))))))), ())))).bind fun x30 =>
 (T.1 (List.drop 1 l) ((d.1.1, x30.2), (d.2.1, ((), ((), d.2.2.2.2))))))
 else none)
def Qa (T : Kg) (l : List (List Int)) (d : Agw) : Option (Xd) :=
 bif l.isEmpty then (
 (J6 ((), d.1.2)).bind fun x31 =>
 some ((), x31.2))
 else (
 let x32 := (gd (.sl (.int .u8)) l (0 : Int))
 bif decide ((64 : Int) <= x32.length) then (
 let x33 := ((gd (.int .u8) x32 (0 : Int)), ((gd (.int .u8) x32 (1 : Int)), ((gd (.int .u8) x32 (2 : Int)), ((gd (.int .u8) x32 (3 : Int)), ((gd (.int .u8) x32 (4 : Int)), ((gd (.int .u8) x32 (5 : Int)), ((gd (.int .u8) x32 (6 : Int)), ((gd (.int .u8) x32 (7 : Int)), ((gd (.int .u8) x32 (8 : Int)), ((gd (.int .u8) x32 (9 : Int)), ((gd (.int .u8) x32 (10 : Int)), ((gd (.int .u8) x32 (11 : Int)), ((gd (.int .u8) x32 (12 : Int)), ((gd (.int .u8) x32 (13 : Int)), ((gd (.int .u8) x32 (14 : Int)), ((gd (.int .u8) x32 (15 : Int)), ((gd (.int .u8) x32 (16 : Int)), ((gd (.int .u8) x32 (17 : Int)), ((gd (.int .u8) x32 (18 : Int)), ((gd (.int .u8) x32 (19 : Int)), ((gd (.int .u8) x32 (20 : Int)), ((gd (.int .u8) x32 (21 : Int)), ((gd (.int .u8) x32 (22 : Int)), ((gd (.int .u8) x32 (23 : Int)), ((gd (.int .u8) x32 (24 : Int)), ((gd (.int .u8) x32 (25 : Int)), ((gd (.int .u8) x32 (26 : Int)), ((gd (.int .u8) x32 (27 : Int)), ((gd (.int .u8) x32 (28 : Int)), ((gd (.int .u8) x32 (29 : Int)), ((gd (.int .u8) x32 (30 : Int)), ((gd (.int .u8) x32 (31 : Int)), ((gd (.int .u8) x32 (32 : Int)), ((gd (.int .u8) x32 (33 : Int)), ((gd (.int .u8) x32 (34 : Int)), ((gd (.int .u8) x32 (35 : Int)), ((gd (.int .u8) x32 (36 : Int)), ((gd (.int .u8) x32 (37 : Int)), ((gd (.int .u8) x32 (38 : Int)), ((gd (.int .u8) x32 (39 : Int)), ((gd (.int .u8) x32 (40 : Int)), ((gd (.int .u8) x32 (41 : Int)), ((gd (.int .u8) x32 (42 : Int)), ((gd (.int .u8) x32 (43 : Int)), ((gd (.int .u8) x32 (44 : Int)), ((gd (.int .u8) x32 (45 : Int)), ((gd (.int .u8) x32 (46 : Int)), ((gd (.int .u8) x32 (47 : Int)), ((gd (.int .u8) x32 (48 : Int)), ((gd (.int .u8) x32 (49 : Int)), ((gd (.int .u8) x32 (50 : Int)), ((gd (.int .u8) x32 (51 : Int)), ((gd (.int .u8) x32 (52 : Int)), ((gd (.int .u8) x32 (53 : Int)), ((gd (.int .u8) x32 (54 : Int)), ((gd (.int .u8) x32 (55 : Int)), ((gd (.int .u8) x32 (56 : Int)), ((gd (.int .u8) x32 (57 : Int)), ((gd (.int .u8) x32 (58 : Int)), ((gd (.int .u8) x32 (59 : Int)), ((gd (.int .u8) x32 (60 : Int)), ((gd (.int .u8) x32 (61 : Int)), ((gd (.int .u8) x32 (62 : Int)), (gd (.int .u8) x32 (63 : Int)))))))))))))))))))))))))))))))))))))))))))))))))))))))))))))))))
 (Mu ((), (d.1.2.1, ((x33.1, (x33.2.1, (x33.2.2.1, (x33.2.2.2.1, (x33.2.2.2.2.1, (x33.2.2.2.2.2.1, (x33.2.2.2.2.2.2.1, (x33.2.2.2.2.2.2.2.1, (x33.2.2.2.2.2.2.2.2.1, (x33.2.2.2.2.2.2.2.2.2.1, (x33.2.2.2.2.2.2.2.2.2.2.1, (x33.2.2.2.2.2.2.2.2.2.2.2.1, (x33.2.2.2.2.2.2.2.2.2.2.2.2.1, (x33.2.2.2.2.2.2.2.2.2.2.2.2.2.1, (x33.2.2.2.2.2.2.2.2.2.2.2.2.2.2.1, (x33.2.2.2.2.2.2.2.2.2.2.2.2.2.2.2.1, (x33.2.2.2.2.2.2.2.2.2.2.2.2.2.2.2.2.1, (x33.2.2.2.2.2.2.2.2.2.2.2.2.2.2.2.2.2.1, (x33.2.2.2.2.2.2.2.2.2.2.2.2.2.2.2.2.2.2.1, (x33.2.2.2.2.2.2.2.2.2.2.2.2.2.2.2.2.2.2.2.1, (x33.2.2.2.2.2.2.2.2.2.2.2.2.2.2.2.2.2.2.2.2.1, (x33.2.2.2.2.2.2.2.2.2.2.2.2.2.2.2.2.2.2.2.2.2.1, (x33.2.2.2.2.2.2.2.2.2.2.2.2.2.2.2.2.2.2.2.2.2.2.1, (x33.2.2.2.2.2.2.2.2.2.2.2.2.2.2.2.2.2.2.2.2.2.2.2.1, (x33.2.2.2.2.2.2.2.2.2.2.2.2.2.2.2.2.2.2.2.2.2.2.2.2.1, (x33.2.2.2.2.2.2.2.2.2.2.2.2.2.2.2.2.2.2.2.2.2.2.2.2.2.1, (x33.2.2.2.2.2.2.2.2.2.2.2.2.2.2.2.2.2.2.2.2.2.2.2.2.2.2.1, (x33.2.2.2.2.2.2.2.2.2.2.2.2.2.2.2.2.2.2.2.2.2.2.2.2.2.2.2.1, (x33.2.2.2.2.2.2.2.2.2.2.2.2.2.2.2.2.2.2.2.2.2.2.2.2.2.2.2.2.1, (x33.2.2.2.2.2.2.2.2.2.2.2.2.2.2.2.2.2.2.2.2.2.2.2.2.2.2.2.2.2.1, (x33.2.2.2.2.2.2.2.2.2.2.2.2.2.2.2.2.2.2.2.2.2.2.2.2.2.2.2.2.2.2.1, (x33.2.2.2.2.2.2.2.2.2.2.2.2.2.2.2.2.2.2.2.2.2.2.2.2.2.2.2.2.2.2.2.1, (x33.2.2.2.2.2.2.2.2.2.2.2.2.2.2.2.2.2.2.2.2.2.2.2.2.2.2.2.2.2.2.2.2.1, (x33.2.2.2.2.2.2.2.2.2.2.2.2.2.2.2.2.2.2.2.2.2.2.2.2.2.2.2.2.2.2.2.2.2.1, (x33.2.2.2.2.2.2.2.2.2.2.2.2.2.2.2.2.2.2.2.2.2.2.2.2.2.2.2.2.2.2.2.2.2.2.1, (x33.2.2.2.2.2.2.2.2.2.2.2.2.2.2.2.2.2.2.2.2.2.2.2.2.2.2.2.2.2.2.2.2.2.2.2.1, (x33.2.2.2.2.2.2.2.2.2.2.2.2.2.2.2.2.2.2.2.2.2.2.2.2.2.2.2.2.2.2.2.2.2.2.2.2.1, (x33.2.2.2.2.2.2.2.2.2.2.2.2.2.2.2.2.2.2.2.2.2.2.2.2.2.2.2.2.2.2.2.2.2.2.2.2.2.1, (x33.2.2.2.2.2.2.2.2.2.2.2.2.2.2.2.2.2.2.2.2.2.2.2.2.2.2.2.2.2.2.2.2.2.2.2.2.2.2.1, (x33.2.2.2.2.2.2.2.2.2.2.2.2.2.2.2.2.2.2.2.2.2.2.2.2.2.2.2.2.2.2.2.2.2.2.2.2.2.2.2.1, (x33.2.2.2.2.2.2.2.2.2.2.2.2.2.2.2.2.2.2.2.2.2.2.2.2.2.2.2.2.2.2.2.2.2.2.2.2.2.2.2.2.1, (x33.2.2.2.2.2.2.2.2.2.2.2.2.2.2.2.2.2.2.2.2.2.2.2.2.2.2.2.2.2.2.2.2.2.2.2.2.2.2.2.2.2.1, (x33.2.2.2.2.2.2.2.2.2.2.2.2.2.2.2.2.2.2.2.2.2.2.2.2.2.2.2.2.2.2.2.2.2.2.2.2.2.2.2.2.2.2.1, (x33.2.2.2.2.2.2.2.2.2.2.2.2.2.2.2.2.2.2.2.2.2.2.2.2.2.2.2.2.2.2.2.2.2.2.2.2.2.2.2.2.2.2.2.1, (x33.2.2.2.2.2.2.2.2.2.2.2.2.2.2.2.2.2.2.2.2.2.2.2.2.2.2.2.2.2.2.2.2.2.2.2.2.2.2.2.2.2.2.2.2.1, (x33.2.2.2.2.2.2.2.2.2.2.2.2.2.2.2.2.2.2.2.2.2.2.2.2.2.2.2.2.2.2.2.2.2.2.2.2.2.2.2.2.2.2.2.2.2.1, (x33.2.2.2.2.2.2.2.2.2.2.2.2.2.2.2.2.2.2.2.2.2.2.2.2.2.2.2.2.2.2.2.2.2.2.2.2.2.2.2.2.2.2.2.2.2.2.1, (x33.2.2.2.2.2.2.2.2.2.2.2.2.2.2.2.2.2.2.2.2.2.2.2.2.2.2.2.2.2.2.2.2.2.2.2.2.2.2.2.2.2.2.2.2.2.2.2.1, (x33.2.2.2.2.2.2.2.2.2.2.2.2.2.2.2.2.2.2.2.2.2.2.2.2.2.2.2.2.2.2.2.2.2.2.2.2.2.2.2.2.2.2.2.2.2.2.2.2.1, (x33.2.2.2.2.2.2.2.2.2.2.2.2.2.2.2.2.2.2.2.2.2.2.2.2.2.2.2.2.2.2.2.2.2.2.2.2.2.2.2.2.2.2.2.2.2.2.2.2.2.1, (x33.2.2.2.2.2.2.2.2.2.2.2.2.2.2.2.2.2.2.2.2.2.2.2.2.2.2.2.2.2.2.2.2.2.2.2.2.2.2.2.2.2.2.2.2.2.2.2.2.2.2.1, (x33.2.2.2.2.2.2.2.2.2.2.2.2.2.2.2.2.2.2.2.2.2.2.2.2.2.2.2.2.2.2.2.2.2.2.2.2.2.2.2.2.2.2.2.2.2.2.2.2.2.2.2.1, (x33.2.2.2.2.2.2.2.2.2.2.2.2.2.2.2.2.2.2.2.2.2.2.2.2.2.2.2.2.2.2.2.2.2.2.2.2.2.2.2.2.2.2.2.2.2.2.2.2.2.2.2.2.1, (x33.2.2.2.2.2.2.2.2.2.2.2.2.2.2.2.2.2.2.2.2.2.2.2.2.2.2.2.2.2.2.2.2.2.2.2.2.2.2.2.2.2.2.2.2.2.2.2.2.2.2.2.2.2.1, (x33.2.2.2.2.2.2.2.2.2.2.2.2.2.2.2.2.2.2.2.2.2.2.2.2.2.2.2.2.2.2.2.2.2.2.2.2.2.2.2.2.2.2.2.2.2.2.2.2.2.2.2.2.2.2.1, (x33.2.2.2.2.2.2.2.2.2.2.2.2.2.2.2.2.2.2.2.2.2.2.2.2.2.2.2.2.2.2.2.2.2.2.2.2.2.2.2.2.2.2.2.2.2.2.2.2.2.2.2.2.2.2.2.1, (x33.2.2.2.2.2.2.2.2.2.2.2.2.2.2.2.2.2.2.2.2.2.2.2.2.2.2.2.2.2.2.2.2.2.2.2.2.2.2.2.2.2.2.2.2.2.2.2.2.2.2.2.2.2.2.2.2.1, (x33.2.2.2.2.2.2.2.2.2.2.2.2.2.2.2.2.2.2.2.2.2.2.2.2.2.2.2.2.2.2.2.2.2.2.2.2.2.2.2.2.2.2.2.2.2.2.2.2.2.2.2.2.2.2.2.2.2.1, (x33.2.2.2.2.2.2.2.2.2.2.2.2.2.2.2.2.2.2.2.2.2.2.2.2.2.2.2.2.2.2.2.2.2.2.2.2.2.2.2.2.2.2.2.2.2.2.2.2.2.2.2.2.2.2.2.2.2.2.1, (x33.2.2.2.2.2.2.2.2.2.2.2.2.2.2.2.2.2.2.2.2.2.2.2.2.2.2.2.2.2.2.2.2.2.2.2.2.2.2.2.2.2.2.2.2.2.2.2.2.2.2.2.2.2.2.2.2.2.2.2.1, (x33.2.2.2.2.2.2.2.2.2.2.2.2.2.2.2.2.2.2.2.2.2.2.2.2.2.2.2.2.2.2.2.2.2.2.2.2.2.2.2.2.2.2.2.2.2.2.2.2.2.2.2.2.2.2.2.2.2.2.2.2.1, (x33.2.2.2.2.2.2.2.2.2.2.2.2.2.2.2.2.2.2.2.2.2.2.2.2.2.2.2.2.2.2.2.2.2.2.2.2.2.2.2.2.2.2.2.2.2.2.2.2.2.2.2.2.2.2.2.2.2.2.2.2.2.1, (x33.2.2.2.2.2.2.2.2.2.2.2.2.2.2.2.2.2.2.2.2.2.2.2.2.2.2.2.2.2.2.2.2.2.2.2.2.2.2.2.2.2.2.2.2.2.2.2.2.2.2.2.2.2.2.2.2.2.2.2.2.2.2.1, (x33.2.2.2.2.2.2.2.2.2.2.2.2.2.2.2.2.2.2.2.2.2.2.2.2.2.2.2.2.2.2.2.2.2.2.2.2.2.2.2.2.2.2.2.2.2.2.2.2.2.2.2.2.2.2.2.2.2.2.2.2.2.2.2, ())))))))))))))))))))))))))))))))))))))))))))))))))))))))))))))))), ())))).bind fun x34 =>
 (T.2.1 (List.drop 1 l) ((d.1.1, x34.2), ((), ((), ())))))
 else none)
def El : Nat -> Kg
 | 0 => (fun _ _ => none, (fun _ _ => none, ()))
 | k + 1 => (R5 (El k), (Qa (El k), ()))
theorem Ac9 (k : Nat) : El (k + 1) = (R5 (El k), (Qa (El k), ())) := rfl
def Abb (T : Kg) (d : Y7) : Option (Xd) :=
 (Ab7 ((), ())).bind fun x1 =>
 let x2 := (d.2.1.1.length : Int)
 let x3 := (Nm .i64 x2 (64 : Int))
 let x4 := (Qq .i64 x3 64)
 bif decide ((0 : Int) <= (0 : Int)) && decide ((0 : Int) <= x4) && decide (x4 <= (d.2.1.1.length : Int)) then (
 let x5 := (List.drop (Int.toNat (0 : Int)) (List.take (Int.toNat x4) d.2.1.1))
 (Cm ((), ((x5, ()), ((64, ()), ())))).bind fun x6 =>
 (De (x6.1.1.1, (x6.1.2.1.1, ()))).bind fun x7 =>
 (T.1 x7 ((((0 : Int), ((0 : Int), ((0 : Int), ((0 : Int), ((0 : Int), ((0 : Int), ((0 : Int), ((0 : Int), ((0 : Int), ((0 : Int), ((0 : Int), ((0 : Int), ((0 : Int), ((0 : Int), ((0 : Int), ((0 : Int), ((0 : Int), ((0 : Int), ((0 : Int), (0, ())))))))))))))))))))), x1.2), (d.2.1, ((), ((), ((x4, ()), ())))))))
 else none
def Ado (d) := lim fun k => Abb (El k) d
theorem Ax1 : Em Tryz.prog ET0 41 Afy Age Ado :=
 fnL (E := ((((((((E0.add 30 Apa).add 72 Aw2).add 73 W9).add 74 Ayj).add 75 Atq).add 76 Alq).sq 97 Ee).fr [(51, [50])])) (pi := Afy) (po := Age) (Aht (A8n (Aa (Aa (Aa (Aa (Aa (Aa Bc (Af Akf)) (Af At8)) (Af V3)) (Af Awi)) (Af Aqx)) (Af Aji)) Sf)) (fn := Tryz.f41) Tryz.func41 (by kernel_rfl) (by kernel_rfl) [.cell 2 53] (by kernel_rfl) rfl rfl rfl [] (fun _ => []) (fun k => [(5, ⟨(At5, (.sl (.int .u8))), (El k).1⟩), (12, ⟨(Aqp, (.sl (.int .u8))), (El k).2.1⟩)])
 trivial (fun k => trivial) (.intro (fun _ _ => rfl) (.intro (fun _ _ => rfl) trivial)) (fun k => (.intro (fun l d => by kernel_rfl) (.intro (fun l d => by kernel_rfl) trivial))) (fun k d => Abb (El k) d) (fun k d => by kernel_rfl)
def A30 := Ah Afy Age Ado
abbrev Hz : PSh := ⟨[.var 91 [.osl 1, vE], .row 5 (.int .u8)], [.mk false [.ref 0 0], kI, kS]⟩
abbrev E1 : PSh := ⟨[.var 91 [.osl 1, vE], .row 5 (.int .u8)], [.mk false [.ref 0 0]]⟩
def Lh (T : Unit) (d : (((Option Int) × Unit) × ((List Int) × Unit)) × (Unit × ((Int × Unit) × ((ByteArray × Unit) × Unit)))) : Option (Y11) :=
 (K8 ((), (d.2.2.1, ((0, ()), ())))).bind fun x1 =>
 let x2 := (!x1.2.2.1.1.isNone)
 bif x2 then (
 bif decide (((d.1.2.1.length + (bytesOf x1.2.1.1).length) * 1 : Nat) <= 140737488355328) && decide (d.1.2.1.length + (bytesOf x1.2.1.1).length <= 9223372036854775807) then (
 let x3 := (d.1.2.1 ++ (bytesOf x1.2.1.1))
 bif decide (((x3.length + (bytesOf d.2.2.2.1.1).length) * 1 : Nat) <= 140737488355328) && decide (x3.length + (bytesOf d.2.2.2.1.1).length <= 9223372036854775807) then (
 let x4 := (x3 ++ (bytesOf d.2.2.2.1.1))
 some ((x1.2.2.1, (x4, ())), ((), ())))
 else none)
 else none)
 else (
 bif decide (((d.1.2.1.length + (bytesOf x1.2.1.1).length) * 1 : Nat) <= 140737488355328) && decide (d.1.2.1.length + (bytesOf x1.2.1.1).length <= 9223372036854775807) then (
 let x5 := (d.1.2.1 ++ (bytesOf x1.2.1.1))
 bif decide (((x5.length + (bytesOf d.2.2.2.1.1).length) * 1 : Nat) <= 140737488355328) && decide (x5.length + (bytesOf d.2.2.2.1.1).length <= 9223372036854775807) then (
 let x6 := (x5 ++ (bytesOf d.2.2.2.1.1))
 some ((d.1.1, (x6, ())), ((), ())))
 else none)
 else none)
def At := Lh ()
theorem Hw : Amt Tryz.prog ET0 38 Hz E1 0 [(0, 0, none)] At :=
 Apk (E := ((E0.add 69 Auw).kp [0])) (pi := Hz) (po := E1) (Ih (Aa Bc (Af Aqd))) (fn := Tryz.f38) Tryz.func38 (by kernel_rfl) (by kernel_rfl) [] [(0, none)] [(0, 0, none)] (by kernel_rfl) rfl rfl rfl rfl rfl [] fun d => by kernel_rfl
def Ip := Vt Hz E1 0 [(0, 0, none)] At
abbrev H0 : PSh := ⟨[.var 91 [.osl 1, vE], .row 5 (.int .u8)], [.mk false [.ref 0 0], .mk true [vI, vI], kS, kS]⟩
abbrev H4 : PSh := E1
def Le (T : Unit) (d : (((Option Int) × Unit) × ((List Int) × Unit)) × (Unit × ((Int × (Int × Unit)) × ((ByteArray × Unit) × ((ByteArray × Unit) × Unit))))) : Option (Y11) :=
 (T7 ((), ((3, ()), ((d.2.2.1.1, ()), ())))).bind fun x1 =>
 let x2 := (!x1.2.2.1.1.isNone)
 bif x2 then (
 let x3 := (Qq .i64 x1.2.1.1 86400)
 (At ((x1.2.2.1, d.1.2), ((), ((x3, ()), (d.2.2.2.1, ()))))).bind fun x4 =>
 (At (x4.1, ((), (d.2.2.1.2, d.2.2.2.2)))).bind fun x5 =>
 some (x5.1, ((), ())))
 else (
 let x6 := (Qq .i64 x1.2.1.1 86400)
 (At (d.1, ((), ((x6, ()), (d.2.2.2.1, ()))))).bind fun x7 =>
 (At (x7.1, ((), (d.2.2.1.2, d.2.2.2.2)))).bind fun x8 =>
 some (x8.1, ((), ())))
def C1 := Le ()
theorem Ls : Amt Tryz.prog ET0 39 H0 H4 0 [(0, 0, none)] C1 :=
 Apk (E := (((E0.add 38 Ip).add 70 Ax3).kp [0])) (pi := H0) (po := H4) (Ih (Aa (Aa Bc (Nl Hw)) (Af Avj))) (fn := Tryz.f39) Tryz.func39 (by kernel_rfl) (by kernel_rfl) [] [(0, none)] [(0, 0, none)] (by kernel_rfl) rfl rfl rfl rfl rfl [] fun d => by kernel_rfl
def Nb := Vt H0 H4 0 [(0, 0, none)] C1
abbrev Oc : PSh := Cv
abbrev Om : PSh := ⟨[], [.mk true [v8, v8, v8, v8, v8, v8, v8, v8, v8, v8, v8, v8, v8, v8, v8, v8, v8, v8, v8, v8], kE]⟩
abbrev Pr : Type := Unit × ((Int × (Int × (Int × (Int × (Int × (Int × (Int × (Int × (Int × (Int × (Int × (Int × (Int × (Int × (Int × (Int × (Int × (Int × (Int × (Int × Unit)))))))))))))))))))) × (((Option Int) × Unit) × Unit))
abbrev M6 : Type := ((Int × (Int × (Int × (Int × (Int × (Int × (Int × (Int × (Int × (Int × (Int × (Int × (Int × (Int × (Int × (Int × (Int × (Int × (Int × (Int × Unit)))))))))))))))))))) × (((Option Int) × Unit) × ((List Int) × ((List (Int × Int)) × Unit)))) × (Unit × (Unit × (Unit × ((Int × Unit) × ((Int × Unit) × Unit)))))
abbrev J0 : Type := (((M6) -> Option (Pr)) × Unit)
abbrev Ad1 : PSh := ⟨[.var 53 [v8, v8, v8, v8, v8, v8, v8, v8, v8, v8, v8, v8, v8, v8, v8, v8, v8, v8, v8, v8], .var 91 [.osl 2, vE], .row 5 (.int .u8), .row 70 (.pair (.int .i64) (.int .i64))], [.any, .any, .mk false [.ref 0 0], .any, .mk false [.ref 1 0], .any, .any, .any, .any, .any, .any, .any, .any, .any, .any, .any, .any, .any, .mk false [.osl 3], kI, kI] ++ Q6 15⟩
def Ig (T : J0) (d : M6) : Option (Pr) :=
 let x8 := (decide (d.2.2.2.2.2.1.1 < d.2.2.2.2.1.1))
 bif x8 then (
 bif decide ((0 : Int) <= d.2.2.2.2.2.1.1) && decide (d.2.2.2.2.2.1.1 < (d.1.2.2.2.1.length : Int)) then (
 let x9 := (Ac d.1.2.2.2.1 d.2.2.2.2.2.1.1)
 (C1 ((d.1.2.1, (d.1.2.2.1, ())), ((), ((x9.1, (x9.2, ())), (((⟨#[]⟩ : ByteArray), ()), (((⟨#[]⟩ : ByteArray), ()), ())))))).bind fun x10 =>
 let x11 := (Bm .i64 d.2.2.2.2.2.1.1 1)
 (T.1 ((d.1.1, (x10.1.1, (x10.1.2.1, d.1.2.2.2))), ((), ((), ((), (d.2.2.2.2.1, ((x11, ()), ()))))))))
 else none)
 else (
 let x12 := (!d.1.2.1.1.isNone)
 bif x12 then (
 some ((), (((0 : Int), ((0 : Int), ((0 : Int), ((0 : Int), ((0 : Int), ((0 : Int), ((0 : Int), ((0 : Int), ((0 : Int), ((0 : Int), ((0 : Int), ((0 : Int), ((0 : Int), ((0 : Int), ((0 : Int), ((0 : Int), ((0 : Int), ((0 : Int), ((0 : Int), (0, ())))))))))))))))))))), (d.1.2.1, ()))))
 else (
 (Ado ((), ((d.1.2.2.1, ()), ()))).bind fun x13 =>
 some ((), (x13.2.1, (((none : Option Int), ()), ())))))
def Dz : Nat -> J0
 | 0 => (fun _ => none, ())
 | k + 1 => (Ig (Dz k), ())
theorem Xi (k : Nat) : Dz (k + 1) = (Ig (Dz k), ()) := rfl
def Ms (T : J0) (d : Y2) : Option (Pr) :=
 bif d.2.1.1.isNone then (
 let x1 := (some (8 : Int))
 some ((), (((0 : Int), ((0 : Int), ((0 : Int), ((0 : Int), ((0 : Int), ((0 : Int), ((0 : Int), ((0 : Int), ((0 : Int), ((0 : Int), ((0 : Int), ((0 : Int), ((0 : Int), ((0 : Int), ((0 : Int), ((0 : Int), ((0 : Int), ((0 : Int), ((0 : Int), (0, ())))))))))))))))))))), ((x1, ()), ()))))
 else (
 (Dg ((), d.2)).bind fun x2 =>
 (At ((((none : Option Int), ()), (([] : List Int), ())), ((), (x2.2.1, (((⟨#[]⟩ : ByteArray), ()), ()))))).bind fun x3 =>
 (Dh ((), d.2)).bind fun x4 =>
 (At (x3.1, ((), (x4.2.1, (((⟨#[]⟩ : ByteArray), ()), ()))))).bind fun x5 =>
 (Er ((), d.2)).bind fun x6 =>
 let x7 := (x6.1.1.length : Int)
 (T.1 ((((0 : Int), ((0 : Int), ((0 : Int), ((0 : Int), ((0 : Int), ((0 : Int), ((0 : Int), ((0 : Int), ((0 : Int), ((0 : Int), ((0 : Int), ((0 : Int), ((0 : Int), ((0 : Int), ((0 : Int), ((0 : Int), ((0 : Int), ((0 : Int), ((0 : Int), (0, ())))))))))))))))))))), (x5.1.1, (x5.1.2.1, x6.1))), ((), ((), ((), ((x7, ()), ((0, ()), ()))))))))
def B8 (d) := lim fun k => Ms (Dz k) d
theorem N6 : Em Tryz.prog ET0 18 Oc Om B8 :=
 fnL (E := ((((((E0.add 34 Xp).add 35 Ru).add 36 R1).add 38 Ip).add 39 Nb).add 41 A30)) (pi := Oc) (po := Om) (Aa (Aa (Aa (Aa (Aa (Aa Bc (Af U6)) (Af Qt)) (Af Qw)) (Nl Hw)) (Nl Ls)) (Af Ax1)) (fn := Tryz.f18) Tryz.func18 (by kernel_rfl) (by kernel_rfl) [.cell 2 53, .tmp 3] (by kernel_rfl) rfl rfl rfl [] (fun k => [(9, ⟨Ad1, (Dz k).1⟩)]) (fun _ => [])
 (.intro (fun _ => rfl) trivial) (fun k => (.intro (fun d => by kernel_rfl) trivial)) trivial (fun k => trivial) (fun k d => Ms (Dz k) d) (fun k d => by kernel_rfl)
def P1 := Ah Oc Om B8
abbrev Af8 : PSh := ⟨[], [kI]⟩
abbrev Agd : PSh := ⟨[], [kI, kI, kI, kE]⟩
def Ac0 (T : Unit) (d : Unit × ((Int × Unit) × Unit)) : Option (Unit × ((Int × Unit) × ((Int × Unit) × ((Int × Unit) × (((Option Int) × Unit) × Unit))))) :=
 (M3 ((), ())).bind fun x1 =>
 let x2 := (decide (d.2.1.1 < x1.2.1.1))
 bif x2 then (
 let x3 := (some (13 : Int))
 some ((), ((0, ()), ((0, ()), ((0, ()), ((x3, ()), ()))))))
 else (
 (P8 ((), ())).bind fun x4 =>
 let x5 := (decide (d.2.1.1 > x4.2.1.1))
 bif x5 then (
 let x6 := (some (13 : Int))
 some ((), ((0, ()), ((0, ()), ((0, ()), ((x6, ()), ()))))))
 else (
 let x7 := (Bm .i64 d.2.1.1 719468)
 (Mz ((), ((x7, ()), ((146097, ()), ())))).bind fun x8 =>
 let x9 := (Bm .i64 d.2.1.1 719468)
 let x10 := (Qq .i64 x8.2.1.1 146097)
 let x11 := (H3 .i64 x9 x10)
 let x12 := (Nm .i64 x11 (1460 : Int))
 let x13 := (H3 .i64 x11 x12)
 let x14 := (Nm .i64 x11 (36524 : Int))
 let x15 := (Bm .i64 x13 x14)
 let x16 := (Nm .i64 x11 (146096 : Int))
 let x17 := (H3 .i64 x15 x16)
 let x18 := (Nm .i64 x17 (365 : Int))
 let x19 := (Qq .i64 (365 : Int) x18)
 let x20 := (Nm .i64 x18 (4 : Int))
 let x21 := (Bm .i64 x19 x20)
 let x22 := (Nm .i64 x18 (100 : Int))
 let x23 := (H3 .i64 x21 x22)
 let x24 := (H3 .i64 x11 x23)
 let x25 := (Qq .i64 (5 : Int) x24)
 let x26 := (Bm .i64 x25 2)
 let x27 := (Nm .i64 x26 (153 : Int))
 let x28 := (Qq .i64 (153 : Int) x27)
 let x29 := (Bm .i64 x28 2)
 let x30 := (Nm .i64 x29 (5 : Int))
 let x31 := (H3 .i64 x24 x30)
 let x32 := (Bm .i64 x31 1)
 let x33 := (Qq .i64 x8.2.1.1 400)
 let x34 := (Bm .i64 x18 x33)
 let x35 := (Bm .i64 x27 3)
 let x36 := (decide (x35 > (12 : Int)))
 bif x36 then (
 let x37 := (H3 .i64 x35 12)
 let x38 := (Bm .i64 x34 1)
 some ((), ((x38, ()), ((x37, ()), ((x32, ()), (((none : Option Int), ()), ()))))))
 else (
 some ((), ((x34, ()), ((x35, ()), ((x32, ()), (((none : Option Int), ()), ()))))))))
def Nc := Ac0 ()
theorem Aoq : Em Tryz.prog ET0 81 Af8 Agd Nc :=
 fn0 (E := (((E0.add 105 Afd).add 106 Ajp).add 107 Ao8)) (pi := Af8) (po := Agd) (Aa (Aa (Aa Bc (Af Aay)) (Af Afc)) (Af Akn)) (fn := Tryz.f81) Tryz.func81 (by kernel_rfl) (by kernel_rfl) [.tmp 2, .tmp 3, .tmp 4, .tmp 5] (by kernel_rfl) rfl rfl rfl [] fun d => by kernel_rfl
def Asj := Ah Af8 Agd Nc
abbrev Pg : PSh := ⟨[], [.mk true [vI, vI]]⟩
abbrev Po : PSh := ⟨[], [kB]⟩
def Uy (T : Unit) (d : Y12) : Option (Unit × ((Bool × Unit) × Unit)) :=
 (Nc ((), ((d.2.1.1, ()), ()))).bind fun x1 =>
 bif x1.2.2.2.2.1.1.isNone then (
 let x2 := (decide (x1.2.1.1 >= (1900 : Int)))
 some ((), ((x2, ()), ())))
 else (
 some ((), ((false, ()), ())))
def Jm := Uy ()
theorem Akc : Em Tryz.prog ET0 51 Pg Po Jm :=
 fn0 (E := (E0.add 81 Asj)) (pi := Pg) (po := Po) (Aa Bc (Af Aoq)) (fn := Tryz.f51) Tryz.func51 (by kernel_rfl) (by kernel_rfl) [.tmp 2] (by kernel_rfl) rfl rfl rfl [] fun d => by kernel_rfl
def Al6 := Ah Pg Po Jm
abbrev Yo : PSh := ⟨[], [.mk true [vI, vI]]⟩
abbrev Yx : PSh := ⟨[], [kB]⟩
def Vz (T : Unit) (d : Y12) : Option (Unit × ((Bool × Unit) × Unit)) :=
 (Jm ((), d.2)).bind fun x1 =>
 let x2 := (!x1.2.1.1)
 some ((), ((x2, ()), ()))
def Q1 := Vz ()
theorem Atm : Em Tryz.prog ET0 50 Yo Yx Q1 :=
 fn0 (E := (E0.add 51 Al6)) (pi := Yo) (po := Yx) (Aa Bc (Af Akc)) (fn := Tryz.f50) Tryz.func50 (by kernel_rfl) (by kernel_rfl) [.tmp 2] (by kernel_rfl) rfl rfl rfl [] fun d => by kernel_rfl
def Awn := Ah Yo Yx Q1
abbrev Te : PSh := ⟨[], [.mk true [vI, vI]]⟩
abbrev S9 : PSh := ⟨[], [kB]⟩
def Aaj (T : Unit) (d : Y12) : Option (Unit × ((Bool × Unit) × Unit)) :=
 (Nc ((), ((d.2.1.1, ()), ()))).bind fun x1 =>
 bif x1.2.2.2.2.1.1.isNone then (
 let x2 := (x1.2.2.2.1.1 == (1 : Int))
 bif x2 then (
 let x3 := (decide (d.2.1.2.1 >= (0 : Int)))
 bif x3 then (
 let x4 := (decide (d.2.1.2.1 <= (1000 : Int)))
 some ((), ((x4, ()), ())))
 else (
 some ((), ((false, ()), ()))))
 else (
 some ((), ((false, ()), ()))))
 else (
 some ((), ((false, ()), ())))
def Lq := Aaj ()
theorem Amz : Em Tryz.prog ET0 53 Te S9 Lq :=
 fn0 (E := (E0.add 81 Asj)) (pi := Te) (po := S9) (Aa Bc (Af Aoq)) (fn := Tryz.f53) Tryz.func53 (by kernel_rfl) (by kernel_rfl) [.tmp 2] (by kernel_rfl) rfl rfl rfl [] fun d => by kernel_rfl
def Aqt := Ah Te S9 Lq
abbrev Yr : PSh := ⟨[], [.mk true [vI, vI]]⟩
abbrev Zs : PSh := ⟨[], [kB]⟩
def Vv (T : Unit) (d : Y12) : Option (Unit × ((Bool × Unit) × Unit)) :=
 (Lq ((), d.2)).bind fun x1 =>
 let x2 := (!x1.2.1.1)
 some ((), ((x2, ()), ()))
def Q4 := Vv ()
theorem Ass : Em Tryz.prog ET0 52 Yr Zs Q4 :=
 fn0 (E := (E0.add 53 Aqt)) (pi := Yr) (po := Zs) (Aa Bc (Af Amz)) (fn := Tryz.f52) Tryz.func52 (by kernel_rfl) (by kernel_rfl) [.tmp 2] (by kernel_rfl) rfl rfl rfl [] fun d => by kernel_rfl
def Awa := Ah Yr Zs Q4
abbrev Acq : PSh := ⟨[], [kI]⟩
abbrev Abc : PSh := ⟨[], [kB]⟩
def Ahv (T : Unit) (d : Unit × ((Int × Unit) × Unit)) : Option (Unit × ((Bool × Unit) × Unit)) :=
 let x1 := (decide (d.2.1.1 >= (0 : Int)))
 bif x1 then (
 let x2 := (decide (d.2.1.1 <= (1099511627776 : Int)))
 some ((), ((x2, ()), ())))
 else (
 some ((), ((false, ()), ())))
def P0 := Ahv ()
theorem Aw8 : Em Tryz.prog ET0 55 Acq Abc P0 :=
 fn0 (E := E0) (pi := Acq) (po := Abc) Bc (fn := Tryz.f55) Tryz.func55 (by kernel_rfl) (by kernel_rfl) [.tmp 2] (by kernel_rfl) rfl rfl rfl [] fun d => by kernel_rfl
def Axx := Ah Acq Abc P0
abbrev M5 : PSh := ⟨[], [.mk true [vI, vI], .mk true [vI, vI]]⟩
abbrev Mx : PSh := ⟨[], [kB]⟩
def Rt (T : Unit) (d : Unit × ((Int × (Int × Unit)) × ((Int × (Int × Unit)) × Unit))) : Option (Unit × ((Bool × Unit) × Unit)) :=
 let x1 := (H3 .i64 d.2.1.2.1 d.2.2.1.2.1)
 let x2 := (decide (d.2.1.1 > d.2.2.1.1))
 bif x2 then (
 let x3 := (x1 == (1 : Int))
 bif x3 then (
 some ((), ((true, ()), ())))
 else (
 let x4 := (x1 == (-1 : Int))
 some ((), ((x4, ()), ()))))
 else (
 some ((), ((false, ()), ())))
def Hl := Rt ()
theorem Af7 : Em Tryz.prog ET0 83 M5 Mx Hl :=
 fn0 (E := E0) (pi := M5) (po := Mx) Bc (fn := Tryz.f83) Tryz.func83 (by kernel_rfl) (by kernel_rfl) [.tmp 4] (by kernel_rfl) rfl rfl rfl [] fun d => by kernel_rfl
def Ahb := Ah M5 Mx Hl
abbrev Abj : PSh := Cc
abbrev Abm : PSh := ⟨[], [kB]⟩
abbrev Agz : Type := Unit × (((List (Int × Int)) × Unit) × ((Int × Unit) × Unit))
abbrev Aaz : Type := (((Agz) -> Option (Unit × ((Bool × Unit) × Unit))) × Unit)
abbrev Aqy : PSh := ⟨[], [.mk false [.v (.sl (.pair (.int .i64) (.int .i64)))], .any, .any, kI] ++ Q6 17⟩
def L1 (T : Aaz) (d : Agz) : Option (Unit × ((Bool × Unit) × Unit)) :=
 let x1 := (d.2.1.1.length : Int)
 let x2 := (decide (d.2.2.1.1 < x1))
 bif x2 then (
 bif decide ((0 : Int) <= d.2.2.1.1) && decide (d.2.2.1.1 < (d.2.1.1.length : Int)) then (
 let x3 := (H3 .i64 d.2.2.1.1 1)
 bif decide ((0 : Int) <= x3) && decide (x3 < (d.2.1.1.length : Int)) then (
 (Hl ((), (((Ac d.2.1.1 d.2.2.1.1).1, ((Ac d.2.1.1 d.2.2.1.1).2, ())), (((Ac d.2.1.1 x3).1, ((Ac d.2.1.1 x3).2, ())), ())))).bind fun x4 =>
 let x5 := (!x4.2.1.1)
 bif x5 then (
 some ((), ((false, ()), ())))
 else (
 let x6 := (Bm .i64 d.2.2.1.1 1)
 (T.1 ((), (d.2.1, ((x6, ()), ()))))))
 else none)
 else none)
 else (
 some ((), ((true, ()), ())))
def I6 : Nat -> Aaz
 | 0 => (fun _ => none, ())
 | k + 1 => (L1 (I6 k), ())
theorem Af2 (k : Nat) : I6 (k + 1) = (L1 (I6 k), ()) := rfl
def Ym (T : Aaz) (d : Y0) : Option (Unit × ((Bool × Unit) × Unit)) :=
 (T.1 ((), (d.2.1, ((1, ()), ()))))
def Tu (d) := lim fun k => Ym (I6 k) d
theorem Aw9 : Em Tryz.prog ET0 56 Abj Abm Tu :=
 fnL (E := (E0.add 83 Ahb)) (pi := Abj) (po := Abm) (Aa Bc (Af Af7)) (fn := Tryz.f56) Tryz.func56 (by kernel_rfl) (by kernel_rfl) [.tmp 2] (by kernel_rfl) rfl rfl rfl [] (fun k => [(3, ⟨Aqy, (I6 k).1⟩)]) (fun _ => [])
 (.intro (fun _ => rfl) trivial) (fun k => (.intro (fun d => by kernel_rfl) trivial)) trivial (fun k => trivial) (fun k d => Ym (I6 k) d) (fun k d => by kernel_rfl)
def Ayr := Ah Abj Abm Tu
abbrev Bh : PSh := ⟨[], [.mk false [.v (.sl (.pair (.int .i64) (.int .i64)))], .mk false [.fn 50 []]]⟩
abbrev Cf : PSh := ⟨[], [kI]⟩
abbrev B6 : Type := Unit × (((List (Int × Int)) × Unit) × (Unit × ((Int × Unit) × ((Int × Unit) × Unit))))
abbrev Cb : Type := (((B6) -> Option (Unit × ((Int × Unit) × Unit))) × Unit)
abbrev Gu : PSh := ⟨[], [.mk false [.v (.sl (.pair (.int .i64) (.int .i64)))], .mk false [.fn 50 []], .any, .any, .any, .any, .any, kI, kI] ++ Q6 10⟩
def Ay (T : Cb) (d : B6) : Option (Unit × ((Int × Unit) × Unit)) :=
 let x2 := (decide (d.2.2.2.2.1.1 < d.2.2.2.1.1))
 bif x2 then (
 bif decide ((0 : Int) <= d.2.2.2.2.1.1) && decide (d.2.2.2.2.1.1 < (d.2.1.1.length : Int)) then (
 (Q1 ((), (((Ac d.2.1.1 d.2.2.2.2.1.1).1, ((Ac d.2.1.1 d.2.2.2.2.1.1).2, ())), ()))).bind fun x3 =>
 bif x3.2.1.1 then (
 some ((), d.2.2.2.2))
 else (
 let x4 := (Bm .i64 d.2.2.2.2.1.1 1)
 (T.1 ((), (d.2.1, ((), (d.2.2.2.1, ((x4, ()), ()))))))))
 else none)
 else (
 some ((), (((-1 : Int), ()), ())))
def Ar : Nat -> Cb
 | 0 => (fun _ => none, ())
 | k + 1 => (Ay (Ar k), ())
theorem Ch (k : Nat) : Ar (k + 1) = (Ay (Ar k), ()) := rfl
def B3 (T : Cb) (d : Y13) : Option (Unit × ((Int × Unit) × Unit)) :=
 let x1 := (d.2.1.1.length : Int)
 (T.1 ((), (d.2.1, ((), ((x1, ()), ((0, ()), ()))))))
def Bj (d) := lim fun k => B3 (Ar k) d
theorem Hq : Em Tryz.prog ET0 82 Bh Cf Bj :=
 fnL (E := (E0.add 50 Awn)) (pi := Bh) (po := Cf) (Aa Bc (Af Atm)) (fn := Tryz.f82) Tryz.func82 (by kernel_rfl) (by kernel_rfl) [.tmp 4] (by kernel_rfl) rfl rfl rfl [] (fun k => [(3, ⟨Gu, (Ar k).1⟩)]) (fun _ => [])
 (.intro (fun _ => rfl) trivial) (fun k => (.intro (fun d => by kernel_rfl) trivial)) trivial (fun k => trivial) (fun k d => B3 (Ar k) d) (fun k d => by kernel_rfl)
def H5 := Ah Bh Cf Bj
abbrev Ba : PSh := Bh
abbrev Bx : PSh := ⟨[], [kB]⟩
def C2 (T : Unit) (d : Y13) : Option (Unit × ((Bool × Unit) × Unit)) :=
 (Bj ((), (d.2.1, ((), ())))).bind fun x1 =>
 let x2 := (decide (x1.2.1.1 >= (0 : Int)))
 some ((), ((x2, ()), ()))
def A1 := C2 ()
theorem F7 : Em Tryz.prog ET0 54 Ba Bx A1 :=
 fn0 (E := (E0.add 82 H5)) (pi := Ba) (po := Bx) (Aa Bc (Af Hq)) (fn := Tryz.f54) Tryz.func54 (by kernel_rfl) (by kernel_rfl) [.tmp 4] (by kernel_rfl) rfl rfl rfl [] fun d => by kernel_rfl
def Gv := Ah Ba Bx A1
abbrev Bg : PSh := ⟨[], [.mk false [.v (.sl (.pair (.int .i64) (.int .i64)))], .mk false [.fn 52 []]]⟩
abbrev Cd : PSh := ⟨[], [kI]⟩
abbrev Dd : Type := B6
abbrev Ce : Type := (((Dd) -> Option (Unit × ((Int × Unit) × Unit))) × Unit)
abbrev Gt : PSh := ⟨[], [.mk false [.v (.sl (.pair (.int .i64) (.int .i64)))], .mk false [.fn 52 []], .any, .any, .any, .any, .any, kI, kI] ++ Q6 10⟩
def A0 (T : Ce) (d : Dd) : Option (Unit × ((Int × Unit) × Unit)) :=
 let x2 := (decide (d.2.2.2.2.1.1 < d.2.2.2.1.1))
 bif x2 then (
 bif decide ((0 : Int) <= d.2.2.2.2.1.1) && decide (d.2.2.2.2.1.1 < (d.2.1.1.length : Int)) then (
 (Q4 ((), (((Ac d.2.1.1 d.2.2.2.2.1.1).1, ((Ac d.2.1.1 d.2.2.2.2.1.1).2, ())), ()))).bind fun x3 =>
 bif x3.2.1.1 then (
 some ((), d.2.2.2.2))
 else (
 let x4 := (Bm .i64 d.2.2.2.2.1.1 1)
 (T.1 ((), (d.2.1, ((), (d.2.2.2.1, ((x4, ()), ()))))))))
 else none)
 else (
 some ((), (((-1 : Int), ()), ())))
def As : Nat -> Ce
 | 0 => (fun _ => none, ())
 | k + 1 => (A0 (As k), ())
theorem Cg (k : Nat) : As (k + 1) = (A0 (As k), ()) := rfl
def B5 (T : Ce) (d : Y13) : Option (Unit × ((Int × Unit) × Unit)) :=
 let x1 := (d.2.1.1.length : Int)
 (T.1 ((), (d.2.1, ((), ((x1, ()), ((0, ()), ()))))))
def Bk (d) := lim fun k => B5 (As k) d
theorem Ho : Em Tryz.prog ET0 82 Bg Cd Bk :=
 fnL (E := (E0.add 52 Awa)) (pi := Bg) (po := Cd) (Aa Bc (Af Ass)) (fn := Tryz.f82) Tryz.func82 (by kernel_rfl) (by kernel_rfl) [.tmp 4] (by kernel_rfl) rfl rfl rfl [] (fun k => [(3, ⟨Gt, (As k).1⟩)]) (fun _ => [])
 (.intro (fun _ => rfl) trivial) (fun k => (.intro (fun d => by kernel_rfl) trivial)) trivial (fun k => trivial) (fun k d => B5 (As k) d) (fun k d => by kernel_rfl)
def H6 := Ah Bg Cd Bk
abbrev B1 : PSh := Bg
abbrev Bz : PSh := ⟨[], [kB]⟩
def C3 (T : Unit) (d : Y13) : Option (Unit × ((Bool × Unit) × Unit)) :=
 (Bk ((), (d.2.1, ((), ())))).bind fun x1 =>
 let x2 := (decide (x1.2.1.1 >= (0 : Int)))
 some ((), ((x2, ()), ()))
def Az := C3 ()
theorem Gb : Em Tryz.prog ET0 54 B1 Bz Az :=
 fn0 (E := (E0.add 82 H6)) (pi := B1) (po := Bz) (Aa Bc (Af Ho)) (fn := Tryz.f54) Tryz.func54 (by kernel_rfl) (by kernel_rfl) [.tmp 4] (by kernel_rfl) rfl rfl rfl [] fun d => by kernel_rfl
def Gw := Ah B1 Bz Az
abbrev Afu : PSh := ⟨[], [.mk false [.v (.sl (.pair (.int .i64) (.int .i64)))], kI, kI]⟩
abbrev X5 : PSh := ⟨[], [.mk false [.v (.nptr (.pair (.sl (.pair (.int .i64) (.int .i64))) (.pair (.int .i64) (.int .i64))))], kE]⟩
def Ak4 (T : Unit) (d : Unit × (((List (Int × Int)) × Unit) × ((Int × Unit) × ((Int × Unit) × Unit)))) : Option (Y14) :=
 let x1 := (d.2.1.1.length : Int)
 let x2 := (x1 == (0 : Int))
 bif x2 then (
 let x3 := (some (8 : Int))
 some ((), (((none : Option ((List (Int × Int)) × (Int × Int))), ()), ((x3, ()), ()))))
 else (
 let x4 := (d.2.1.1.length : Int)
 let x5 := (decide (x4 > (256 : Int)))
 bif x5 then (
 let x6 := (some (3 : Int))
 some ((), (((none : Option ((List (Int × Int)) × (Int × Int))), ()), ((x6, ()), ()))))
 else (
 (A1 ((), (d.2.1, ((), ())))).bind fun x7 =>
 bif x7.2.1.1 then (
 let x8 := (some (13 : Int))
 some ((), (((none : Option ((List (Int × Int)) × (Int × Int))), ()), ((x8, ()), ()))))
 else (
 (Az ((), (d.2.1, ((), ())))).bind fun x9 =>
 bif x9.2.1.1 then (
 let x10 := (some (1 : Int))
 some ((), (((none : Option ((List (Int × Int)) × (Int × Int))), ()), ((x10, ()), ()))))
 else (
 (P0 ((), (d.2.2.1, ()))).bind fun x11 =>
 let x12 := (!x11.2.1.1)
 bif x12 then (
 let x13 := (some (1 : Int))
 some ((), (((none : Option ((List (Int × Int)) × (Int × Int))), ()), ((x13, ()), ()))))
 else (
 (P0 ((), d.2.2.2)).bind fun x14 =>
 let x15 := (!x14.2.1.1)
 bif x15 then (
 let x16 := (some (1 : Int))
 some ((), (((none : Option ((List (Int × Int)) × (Int × Int))), ()), ((x16, ()), ()))))
 else (
 (Tu ((), (d.2.1, ()))).bind fun x17 =>
 let x18 := (!x17.2.1.1)
 bif x18 then (
 let x19 := (some (6 : Int))
 some ((), (((none : Option ((List (Int × Int)) × (Int × Int))), ()), ((x19, ()), ()))))
 else (
 (Bt ((), (d.2.1, ()))).bind fun x20 =>
 some ((), (((some (x20.1.1, (d.2.2.1.1, d.2.2.2.1.1))), ()), (((none : Option Int), ()), ()))))))))))
def Pz := Ak4 ()
theorem Anf : Em Tryz.prog ET0 26 Afu X5 Pz :=
 fn0 (E := ((((E0.add 54 (Bbh Ba (Gv) (Gw))).add 55 Axx).add 56 Ayr).add 57 H9)) (pi := Afu) (po := X5) (Aa (Aa (Aa (Aa Bc (Bfk ((Af F7)) ((Af Gb)))) (Af Aw8)) (Af Aw9)) (Af Hi)) (fn := Tryz.f26) Tryz.func26 (by kernel_rfl) (by kernel_rfl) [.tmp 6, .tmp 7] (by kernel_rfl) rfl rfl rfl [] fun d => by kernel_rfl
def Ar2 := Ah Afu X5 Pz
abbrev Ej : PSh := ⟨[], [kS, kS]⟩
abbrev Eh : PSh := ⟨[], [kB]⟩
def G0 (T : Unit) (d : Y15) : Option (Unit × ((Bool × Unit) × Unit)) :=
 let x1 := (d.2.1.1.size : Int)
 let x2 := (d.2.2.1.1.size : Int)
 let x3 := (decide (x1 >= x2))
 bif x3 then (
 let x4 := (d.2.1.1.size : Int)
 let x5 := (d.2.2.1.1.size : Int)
 let x6 := (H3 .i64 x4 x5)
 bif decide ((0 : Int) <= x6) && decide (x6 <= (d.2.1.1.size : Int)) && decide ((d.2.1.1.size : Int) <= (d.2.1.1.size : Int)) then (
 let x7 := (d.2.1.1.extract (Int.toNat x6) (Int.toNat (d.2.1.1.size : Int)))
 let x8 := (x7.toList == d.2.2.1.1.toList)
 some ((), ((x8, ()), ())))
 else none)
 else (
 some ((), ((false, ()), ())))
def Cj := G0 ()
theorem Oo : Em Tryz.prog ET0 111 Ej Eh Cj :=
 fn0 (E := E0) (pi := Ej) (po := Eh) Bc (fn := Tryz.f111) Tryz.func111 (by kernel_rfl) (by kernel_rfl) [.tmp 4] (by kernel_rfl) rfl rfl rfl [] fun d => by kernel_rfl
def Pa := Ah Ej Eh Cj
abbrev D6 : PSh := ⟨[], [kS, kS]⟩
abbrev D7 : PSh := ⟨[], [kS]⟩
def Gq (T : Unit) (d : Y15) : Option (Y16) :=
 (Cj ((), d.2)).bind fun x1 =>
 bif x1.2.1.1 then (
 let x2 := (d.2.1.1.size : Int)
 let x3 := (d.2.2.1.1.size : Int)
 let x4 := (H3 .i64 x2 x3)
 bif decide ((0 : Int) <= (0 : Int)) && decide ((0 : Int) <= x4) && decide (x4 <= (d.2.1.1.size : Int)) then (
 let x5 := (d.2.1.1.extract (Int.toNat (0 : Int)) (Int.toNat x4))
 some ((), ((x5, ()), ())))
 else none)
 else (
 some ((), (d.2.1, ())))
def Cx := Gq ()
theorem Nk : Em Tryz.prog ET0 85 D6 D7 Cx :=
 fn0 (E := (E0.add 111 Pa)) (pi := D6) (po := D7) (Aa Bc (Af Oo)) (fn := Tryz.f85) Tryz.func85 (by kernel_rfl) (by kernel_rfl) [.tmp 4] (by kernel_rfl) rfl rfl rfl [] fun d => by kernel_rfl
def N2 := Ah D6 D7 Cx
abbrev Ko : PSh := ⟨[], [kS, kS]⟩
abbrev Kc : PSh := ⟨[], [kS]⟩
def Pc (T : Unit) (d : Y15) : Option (Y16) :=
 (Cx ((), d.2)).bind fun x1 =>
 some ((), x1.2)
def Fs := Pc ()
theorem Aa6 : Em Tryz.prog ET0 60 Ko Kc Fs :=
 fn0 (E := (E0.add 85 N2)) (pi := Ko) (po := Kc) (Aa Bc (Af Nk)) (fn := Tryz.f60) Tryz.func60 (by kernel_rfl) (by kernel_rfl) [.tmp 4] (by kernel_rfl) rfl rfl rfl [] fun d => by kernel_rfl
def Ad0 := Ah Ko Kc Fs
abbrev Ec : PSh := ⟨[], [kS, kS]⟩
abbrev Ed : PSh := ⟨[], [kB]⟩
def Gy (T : Unit) (d : Y15) : Option (Unit × ((Bool × Unit) × Unit)) :=
 let x1 := (d.2.1.1.size : Int)
 let x2 := (d.2.2.1.1.size : Int)
 let x3 := (decide (x1 >= x2))
 bif x3 then (
 let x4 := (d.2.2.1.1.size : Int)
 bif decide ((0 : Int) <= (0 : Int)) && decide ((0 : Int) <= x4) && decide (x4 <= (d.2.1.1.size : Int)) then (
 let x5 := (d.2.1.1.extract (Int.toNat (0 : Int)) (Int.toNat x4))
 let x6 := (x5.toList == d.2.2.1.1.toList)
 some ((), ((x6, ()), ())))
 else none)
 else (
 some ((), ((false, ()), ())))
def Ci := Gy ()
theorem Ob : Em Tryz.prog ET0 119 Ec Ed Ci :=
 fn0 (E := E0) (pi := Ec) (po := Ed) Bc (fn := Tryz.f119) Tryz.func119 (by kernel_rfl) (by kernel_rfl) [.tmp 4] (by kernel_rfl) rfl rfl rfl [] fun d => by kernel_rfl
def Pb := Ah Ec Ed Ci
abbrev Ln : PSh := ⟨[], [kS, kS]⟩
abbrev Lm : PSh := ⟨[], [kB]⟩
def Qv (T : Unit) (d : Y15) : Option (Unit × ((Bool × Unit) × Unit)) :=
 (Ci ((), d.2)).bind fun x1 =>
 some ((), x1.2)
def Dy := Qv ()
theorem Adx : Em Tryz.prog ET0 87 Ln Lm Dy :=
 fn0 (E := (E0.add 119 Pb)) (pi := Ln) (po := Lm) (Aa Bc (Af Ob)) (fn := Tryz.f87) Tryz.func87 (by kernel_rfl) (by kernel_rfl) [.tmp 4] (by kernel_rfl) rfl rfl rfl [] fun d => by kernel_rfl
def Ae7 := Ah Ln Lm Dy
abbrev Nz : PSh := ⟨[], [kS]⟩
abbrev Cz : PSh := ⟨[.var 194 [vS, vI, vE]], [.mk false [.ref 0 0]]⟩
def Ud (T : Unit) (d : Y16) : Option (Y17) :=
 some (((d.2.1.1, ((0 : Int), ((none : Option Int), ()))), ()), ((), ()))
def C9 := Ud ()
theorem Ny : Em Tryz.prog ET0 120 Nz Cz C9 :=
 fn0 (E := E0) (pi := Nz) (po := Cz) Bc (fn := Tryz.f120) Tryz.func120 (by kernel_rfl) (by kernel_rfl) [.tmp 2] (by kernel_rfl) rfl rfl rfl [] fun d => by kernel_rfl
def P3 := Ah Nz Cz C9
abbrev Bn : PSh := ⟨[], [.mk false [.v (.nptr (.pair .str (.pair (.int .i64) .err)))]]⟩
abbrev Gp : PSh := ⟨[], [kS]⟩
def Fx (T : Unit) (d : Y18) : Option (Y16) :=
 bif d.2.1.1.isNone then (
 some ((), (((⟨#[]⟩ : ByteArray), ()), ())))
 else (
 d.2.1.1.bind fun x1 =>
 let x2 := (!x1.2.2.isNone)
 bif x2 then (
 some ((), (((⟨#[]⟩ : ByteArray), ()), ())))
 else (
 d.2.1.1.bind fun x3 =>
 d.2.1.1.bind fun x4 =>
 bif decide ((0 : Int) <= x4.2.1) && decide (x4.2.1 <= (x3.1.size : Int)) && decide ((x3.1.size : Int) <= (x3.1.size : Int)) then (
 let x5 := (x3.1.extract (Int.toNat x4.2.1) (Int.toNat (x3.1.size : Int)))
 some ((), ((x5, ()), ())))
 else none))
def A6 := Fx ()
theorem C7 : Em Tryz.prog ET0 146 Bn Gp A6 :=
 fn0 (E := E0) (pi := Bn) (po := Gp) Bc (fn := Tryz.f146) Tryz.func146 (by kernel_rfl) (by kernel_rfl) [.tmp 2] (by kernel_rfl) rfl rfl rfl [] fun d => by kernel_rfl
def Dc := Ah Bn Gp A6
abbrev Q7 : PSh := ⟨[], [kS]⟩
abbrev Rr : PSh := ⟨[], [kS]⟩
def Xa (T : Unit) (d : Y16) : Option (Y16) :=
 (D5 ((), d.2)).bind fun x1 =>
 some ((), x1.2)
def Ij := Xa ()
theorem Al7 : Em Tryz.prog ET0 164 Q7 Rr Ij :=
 fn0 (E := (E0.add 181 Sc)) (pi := Q7) (po := Rr) (Aa Bc (Af Q8)) (fn := Tryz.f164) Tryz.func164 (by kernel_rfl) (by kernel_rfl) [.tmp 2] (by kernel_rfl) rfl rfl rfl [] fun d => by kernel_rfl
def Apn := Ah Q7 Rr Ij
abbrev Fw : PSh := Bn
abbrev F1 : PSh := ⟨[], [kB]⟩
def Jg (T : Unit) (d : Y18) : Option (Unit × ((Bool × Unit) × Unit)) :=
 let x1 := (!d.2.1.1.isNone)
 bif x1 then (
 d.2.1.1.bind fun x2 =>
 some ((), ((x2.2.2.isNone, ()), ())))
 else (
 some ((), ((false, ()), ())))
def B2 := Jg ()
theorem Fy : Em Tryz.prog ET0 144 Fw F1 B2 :=
 fn0 (E := E0) (pi := Fw) (po := F1) Bc (fn := Tryz.f144) Tryz.func144 (by kernel_rfl) (by kernel_rfl) [.tmp 2] (by kernel_rfl) rfl rfl rfl [] fun d => by kernel_rfl
def Ge := Ah Fw F1 B2
abbrev Zh : PSh := ⟨[], [k8]⟩
abbrev Yu : PSh := ⟨[], [kB]⟩
def Aei (T : Unit) (d : Unit × ((Int × Unit) × Unit)) : Option (Unit × ((Bool × Unit) × Unit)) :=
 let x1 := (decide (d.2.1.1 >= (48 : Int)))
 bif x1 then (
 let x2 := (decide (d.2.1.1 <= (57 : Int)))
 some ((), ((x2, ()), ())))
 else (
 some ((), ((false, ()), ())))
def Qs := Aei ()
theorem As6 : Em Tryz.prog ET0 192 Zh Yu Qs :=
 fn0 (E := E0) (pi := Zh) (po := Yu) Bc (fn := Tryz.f192) Tryz.func192 (by kernel_rfl) (by kernel_rfl) [.tmp 2] (by kernel_rfl) rfl rfl rfl [] fun d => by kernel_rfl
def Aw0 := Ah Zh Yu Qs
abbrev Vy : PSh := ⟨[], [kS, kI]⟩
abbrev Wa : PSh := ⟨[], [kI]⟩
abbrev Acj : Type := Unit × ((ByteArray × Unit) × ((Int × Unit) × ((Int × Unit) × Unit)))
abbrev Wt : Type := (((Acj) -> Option (Unit × ((Int × Unit) × Unit))) × Unit)
abbrev Alk : PSh := ⟨[], [kS, kI, .any, .any, .any, kI] ++ Q6 15⟩
def Jj (T : Wt) (d : Acj) : Option (Unit × ((Int × Unit) × Unit)) :=
 let x1 := (d.2.1.1.size : Int)
 let x2 := (if d.2.2.1.1 < x1 then d.2.2.1.1 else x1)
 let x3 := (decide (d.2.2.2.1.1 < x2))
 bif x3 then (
 bif decide ((0 : Int) <= d.2.2.2.1.1) && decide (d.2.2.2.1.1 < ((d.2.1.1.size : Int) : Int)) then (
 let x4 := (bt d.2.1.1 d.2.2.2.1.1)
 (Qs ((), ((x4, ()), ()))).bind fun x5 =>
 bif x5.2.1.1 then (
 let x6 := (Bm .i64 d.2.2.2.1.1 1)
 (T.1 ((), (d.2.1, (d.2.2.1, ((x6, ()), ()))))))
 else (
 some ((), d.2.2.2)))
 else none)
 else (
 some ((), d.2.2.2))
def F5 : Nat -> Wt
 | 0 => (fun _ => none, ())
 | k + 1 => (Jj (F5 k), ())
theorem Yq (k : Nat) : F5 (k + 1) = (Jj (F5 k), ()) := rfl
def T3 (T : Wt) (d : Y19) : Option (Unit × ((Int × Unit) × Unit)) :=
 (T.1 ((), (d.2.1, (d.2.2.1, ((0, ()), ())))))
def R3 (d) := lim fun k => T3 (F5 k) d
theorem Aqk : Em Tryz.prog ET0 179 Vy Wa R3 :=
 fnL (E := (E0.add 192 Aw0)) (pi := Vy) (po := Wa) (Aa Bc (Af As6)) (fn := Tryz.f179) Tryz.func179 (by kernel_rfl) (by kernel_rfl) [.tmp 4] (by kernel_rfl) rfl rfl rfl [] (fun k => [(3, ⟨Alk, (F5 k).1⟩)]) (fun _ => [])
 (.intro (fun _ => rfl) trivial) (fun k => (.intro (fun d => by kernel_rfl) trivial)) trivial (fun k => trivial) (fun k d => T3 (F5 k) d) (fun k d => by kernel_rfl)
def Atf := Ah Vy Wa R3
abbrev Rn : PSh := ⟨[], [kS, .mk false [.v (.int .u64)]]⟩
abbrev Rm : PSh := ⟨[], [.mk false [.v (.int .u64)], kE]⟩
abbrev To : Type := Y5
abbrev Ww : Type := Unit × ((ByteArray × Unit) × ((Int × Unit) × ((Int × Unit) × ((Int × Unit) × ((Int × Unit) × Unit)))))
abbrev Ri : Type := (((Ww) -> Option (To)) × Unit)
abbrev Ag5 : PSh := ⟨[], [kS, .mk false [.v (.int .u64)], .any, .any, .any, .any, .mk false [.v (.int .u64)], .any, .any, .any, kI, kI] ++ Q6 20⟩
def Hr (T : Ri) (d : Ww) : Option (To) :=
 let x2 := (decide (d.2.2.2.2.2.1.1 < d.2.2.2.2.1.1))
 bif x2 then (
 bif decide ((0 : Int) <= d.2.2.2.2.2.1.1) && decide (d.2.2.2.2.2.1.1 < ((d.2.1.1.size : Int) : Int)) then (
 let x3 := (bt d.2.1.1 d.2.2.2.2.2.1.1)
 let x4 := (H3 .u8 x3 48)
 let x5 := (Ef .u64 x4)
 let x6 := (H3 .u64 d.2.2.1.1 x5)
 let x7 := (Nm .u64 x6 (10 : Int))
 let x8 := (decide (d.2.2.2.1.1 > x7))
 bif x8 then (
 let x9 := (some (5 : Int))
 some ((), ((0, ()), ((x9, ()), ()))))
 else (
 let x10 := (Qq .u64 d.2.2.2.1.1 10)
 let x11 := (Bm .u64 x10 x5)
 let x12 := (Bm .i64 d.2.2.2.2.2.1.1 1)
 (T.1 ((), (d.2.1, (d.2.2.1, ((x11, ()), (d.2.2.2.2.1, ((x12, ()), ())))))))))
 else none)
 else (
 some ((), (d.2.2.2.1, (((none : Option Int), ()), ()))))
def Et : Nat -> Ri
 | 0 => (fun _ => none, ())
 | k + 1 => (Hr (Et k), ())
theorem S7 (k : Nat) : Et (k + 1) = (Hr (Et k), ()) := rfl
def Pu (T : Ri) (d : Y19) : Option (To) :=
 let x1 := (d.2.1.1.size : Int)
 (T.1 ((), (d.2.1, (d.2.2.1, ((0, ()), ((x1, ()), ((0, ()), ())))))))
def Oj (d) := lim fun k => Pu (Et k) d
theorem Alv : Em Tryz.prog ET0 180 Rn Rm Oj :=
 fnL (E := E0) (pi := Rn) (po := Rm) Bc (fn := Tryz.f180) Tryz.func180 (by kernel_rfl) (by kernel_rfl) [.tmp 4, .tmp 5] (by kernel_rfl) rfl rfl rfl [] (fun k => [(4, ⟨Ag5, (Et k).1⟩)]) (fun _ => [])
 (.intro (fun _ => rfl) trivial) (fun k => (.intro (fun d => by kernel_rfl) trivial)) trivial (fun k => trivial) (fun k d => Pu (Et k) d) (fun k d => by kernel_rfl)
def Anm := Ah Rn Rm Oj
abbrev Tn : PSh := ⟨[], [kS, kI, kI, .mk false [.v (.int .u64)]]⟩
abbrev S2 : PSh := ⟨[], [.mk false [.v (.int .u64)], kI, kE]⟩
def Aaa (T : Unit) (d : Unit × ((ByteArray × Unit) × ((Int × Unit) × ((Int × Unit) × ((Int × Unit) × Unit))))) : Option (Y20) :=
 let x1 := (decide (d.2.2.1.1 < (1 : Int)))
 bif x1 then (
 let x2 := (some (1 : Int))
 some ((), ((0, ()), ((0, ()), ((x2, ()), ())))))
 else (
 let x3 := (decide (d.2.2.1.1 > d.2.2.2.1.1))
 bif x3 then (
 let x4 := (some (1 : Int))
 some ((), ((0, ()), ((0, ()), ((x4, ()), ())))))
 else (
 let x5 := (decide (d.2.2.2.1.1 > (20 : Int)))
 bif x5 then (
 let x6 := (some (1 : Int))
 some ((), ((0, ()), ((0, ()), ((x6, ()), ())))))
 else (
 (R3 ((), (d.2.1, (d.2.2.2.1, ())))).bind fun x7 =>
 let x8 := (decide (x7.2.1.1 < d.2.2.1.1))
 bif x8 then (
 let x9 := (some (2 : Int))
 some ((), ((0, ()), ((0, ()), ((x9, ()), ())))))
 else (
 bif decide ((0 : Int) <= (0 : Int)) && decide ((0 : Int) <= x7.2.1.1) && decide (x7.2.1.1 <= (d.2.1.1.size : Int)) then (
 let x10 := (d.2.1.1.extract (Int.toNat (0 : Int)) (Int.toNat x7.2.1.1))
 (Oj ((), ((x10, ()), d.2.2.2.2))).bind fun x11 =>
 let x12 := (!x11.2.2.1.1.isNone)
 bif x12 then (
 some ((), ((0, ()), ((0, ()), x11.2.2))))
 else (
 some ((), (x11.2.1, (x7.2.1, (((none : Option Int), ()), ()))))))
 else none))))
def Lv := Aaa ()
theorem Am5 : Em Tryz.prog ET0 163 Tn S2 Lv :=
 fn0 (E := ((E0.add 179 Atf).add 180 Anm)) (pi := Tn) (po := S2) (Aa (Aa Bc (Af Aqk)) (Af Alv)) (fn := Tryz.f163) Tryz.func163 (by kernel_rfl) (by kernel_rfl) [.tmp 8, .tmp 9, .tmp 10] (by kernel_rfl) rfl rfl rfl [] fun d => by kernel_rfl
def Aqu := Ah Tn S2 Lv
abbrev Tr : PSh := ⟨[], [kS, kI, kI]⟩
abbrev Tz : PSh := ⟨[], [kI, kI, kE]⟩
def Z8 (T : Unit) (d : Unit × ((ByteArray × Unit) × ((Int × Unit) × ((Int × Unit) × Unit)))) : Option (Y20) :=
 (Lv ((), (d.2.1, (d.2.2.1, (d.2.2.2.1, ((9223372036854775807, ()), ())))))).bind fun x1 =>
 let x2 := (Ef .i64 x1.2.1.1)
 some ((), ((x2, ()), x1.2.2))
def L2 := Z8 ()
theorem Aom : Em Tryz.prog ET0 145 Tr Tz L2 :=
 fn0 (E := (E0.add 163 Aqu)) (pi := Tr) (po := Tz) (Aa Bc (Af Am5)) (fn := Tryz.f145) Tryz.func145 (by kernel_rfl) (by kernel_rfl) [.tmp 6, .tmp 7, .tmp 8] (by kernel_rfl) rfl rfl rfl [] fun d => by kernel_rfl
def Aqf := Ah Tr Tz L2
abbrev Gi : PSh := Bn
abbrev Gn : PSh := ⟨[], [kI]⟩
def J2 (T : Unit) (d : Y18) : Option (Unit × ((Int × Unit) × Unit)) :=
 (A6 ((), d.2)).bind fun x1 =>
 let x2 := (x1.2.1.1.size : Int)
 some ((), ((x2, ()), ()))
def B4 := J2 ()
theorem Gk : Em Tryz.prog ET0 130 Gi Gn B4 :=
 fn0 (E := (E0.add 146 Dc)) (pi := Gi) (po := Gn) (Aa Bc (Af C7)) (fn := Tryz.f130) Tryz.func130 (by kernel_rfl) (by kernel_rfl) [.tmp 2] (by kernel_rfl) rfl rfl rfl [] fun d => by kernel_rfl
def G6 := Ah Gi Gn B4
abbrev G4 : PSh := Bn
abbrev G1 : PSh := ⟨[], [kE]⟩
def Kl (T : Unit) (d : Y18) : Option (Y21) :=
 bif d.2.1.1.isNone then (
 let x1 := (some (8 : Int))
 some ((), ((x1, ()), ())))
 else (
 d.2.1.1.bind fun x2 =>
 some ((), ((x2.2.2, ()), ())))
def Dq := Kl ()
theorem Uj : Em Tryz.prog ET0 151 G4 G1 Dq :=
 fn0 (E := E0) (pi := G4) (po := G1) Bc (fn := Tryz.f151) Tryz.func151 (by kernel_rfl) (by kernel_rfl) [.tmp 2] (by kernel_rfl) rfl rfl rfl [] fun d => by kernel_rfl
def V7 := Ah G4 G1 Dq
abbrev Hc : PSh := Bn
abbrev G9 : PSh := ⟨[], [kE]⟩
def J7 (T : Unit) (d : Y18) : Option (Y21) :=
 (Dq ((), d.2)).bind fun x1 =>
 let x2 := (!x1.2.1.1.isNone)
 bif x2 then (
 some ((), x1.2))
 else (
 (B4 ((), d.2)).bind fun x3 =>
 let x4 := (decide (x3.2.1.1 > (0 : Int)))
 bif x4 then (
 let x5 := (some (2 : Int))
 some ((), ((x5, ()), ())))
 else (
 some ((), (((none : Option Int), ()), ()))))
def Bl := J7 ()
theorem Ll : Em Tryz.prog ET0 131 Hc G9 Bl :=
 fn0 (E := ((E0.add 130 G6).add 151 V7)) (pi := Hc) (po := G9) (Aa (Aa Bc (Af Gk)) (Af Uj)) (fn := Tryz.f131) Tryz.func131 (by kernel_rfl) (by kernel_rfl) [.tmp 2] (by kernel_rfl) rfl rfl rfl [] fun d => by kernel_rfl
def Lw := Ah Hc G9 Bl
abbrev Dl : PSh := ⟨[.var 194 [vS, vI, vE]], [.mk false [.ref 0 0], kI]⟩
abbrev Dm : PSh := ⟨[.var 194 [vS, vI, vE]], [kS, .mk false [.ref 0 0]]⟩
def Io (T : Unit) (d : Y22) : Option (((ByteArray × (Int × ((Option Int) × Unit))) × Unit) × ((ByteArray × Unit) × (Unit × Unit))) :=
 (A6 ((), (((some (d.1.1.1, (d.1.1.2.1, d.1.1.2.2.1))), ()), ()))).bind fun x1 =>
 bif decide ((0 : Int) <= (0 : Int)) && decide ((0 : Int) <= d.2.2.1.1) && decide (d.2.2.1.1 <= (x1.2.1.1.size : Int)) then (
 let x2 := (x1.2.1.1.extract (Int.toNat (0 : Int)) (Int.toNat d.2.2.1.1))
 let x3 := (decide (d.2.2.1.1 > (0 : Int)))
 bif x3 then (
 let x4 := (Bm .i64 d.1.1.2.1 d.2.2.1.1)
 (Ij ((), ((x2, ()), ()))).bind fun x5 =>
 some (((d.1.1.1, (x4, d.1.1.2.2)), ()), (x5.2.1, ((), ()))))
 else (
 (Ij ((), ((x2, ()), ()))).bind fun x6 =>
 some (d.1, (x6.2.1, ((), ())))))
 else none
def A5 := Io ()
theorem Dn : Amt Tryz.prog ET0 147 Dl Dm 1 [(0, 0, none)] A5 :=
 Apk (E := (((E0.add 146 Dc).add 164 Apn).kp [0])) (pi := Dl) (po := Dm) (Ih (Aa (Aa Bc (Af C7)) (Af Al7))) (fn := Tryz.f147) Tryz.func147 (by kernel_rfl) (by kernel_rfl) [.tmp 4] [(0, none)] [(0, 0, none)] (by kernel_rfl) rfl rfl rfl rfl rfl [] fun d => by kernel_rfl
def Dt := Vt Dl Dm 1 [(0, 0, none)] A5
abbrev Fq : PSh := ⟨[.var 194 [vS, vI, vE]], [.mk false [.ref 0 0], kS]⟩
abbrev Fl : PSh := Dm
abbrev F2 : Type := ((ByteArray × (Int × ((Option Int) × Unit))) × Unit) × ((ByteArray × Unit) × (Unit × Unit))
abbrev I2 : Type := ((ByteArray × (Int × ((Option Int) × Unit))) × Unit) × (Unit × ((ByteArray × Unit) × ((ByteArray × Unit) × ((Int × Unit) × Unit))))
abbrev Fm : Type := (((I2) -> Option (F2)) × Unit)
abbrev Pi : PSh := ⟨[.var 194 [vS, vI, vE]], [.mk false [.ref 0 0], kS, .any, .any, .any, kS, kI] ++ Q6 19⟩
def Db (T : Fm) (d : I2) : Option (F2) :=
 let x2 := (d.2.2.2.1.1.size : Int)
 let x3 := (decide (d.2.2.2.2.1.1 < x2))
 bif x3 then (
 bif decide ((0 : Int) <= d.2.2.2.2.1.1) && decide (d.2.2.2.2.1.1 < ((d.2.2.2.1.1.size : Int) : Int)) then (
 let x4 := (bt d.2.2.2.1.1 d.2.2.2.2.1.1)
 (Eu ((), (d.2.2.1, ((x4, ()), ())))).bind fun x5 =>
 let x6 := (decide (x5.2.1.1 >= (0 : Int)))
 bif x6 then (
 let x7 := (Bm .i64 d.2.2.2.2.1.1 1)
 (T.1 (d.1, ((), (d.2.2.1, (d.2.2.2.1, ((x7, ()), ())))))))
 else (
 (A5 (d.1, ((), d.2.2.2.2))).bind fun x8 =>
 some (x8.1, (x8.2.1, ((), ())))))
 else none)
 else (
 (A5 (d.1, ((), d.2.2.2.2))).bind fun x9 =>
 some (x9.1, (x9.2.1, ((), ()))))
def A7 : Nat -> Fm
 | 0 => (fun _ => none, ())
 | k + 1 => (Db (A7 k), ())
theorem Jy (k : Nat) : A7 (k + 1) = (Db (A7 k), ()) := rfl
def E8 (T : Fm) (d : ((ByteArray × (Int × ((Option Int) × Unit))) × Unit) × (Unit × ((ByteArray × Unit) × Unit))) : Option (F2) :=
 (A6 ((), (((some (d.1.1.1, (d.1.1.2.1, d.1.1.2.2.1))), ()), ()))).bind fun x1 =>
 (T.1 (d.1, ((), (d.2.2.1, (x1.2.1, ((0, ()), ()))))))
def Bf (d) := lim fun k => E8 (A7 k) d
theorem Dv : Amt Tryz.prog ET0 127 Fq Fl 1 [(0, 0, none)] Bf :=
 A42 (E := ((((E0.add 146 Dc).add 147 Dt).add 149 Td).kp [0])) (pi := Fq) (po := Fl) (Ih (Aa (Aa (Aa Bc (Af C7)) (Nl Dn)) (Af Rz))) (fn := Tryz.f127) Tryz.func127 (by kernel_rfl) (by kernel_rfl) [.tmp 4] [(0, none)] [(0, 0, none)] (by kernel_rfl) rfl rfl rfl rfl rfl [] (fun k => [(4, ⟨Pi, (A7 k).1⟩)]) (fun _ => [])
 (.intro (fun _ => rfl) trivial) (fun k => (.intro (fun d => by kernel_rfl) trivial)) trivial (fun k => trivial) (fun k d => E8 (A7 k) d) (fun k d => by kernel_rfl)
def D4 := Vt Fq Fl 1 [(0, 0, none)] Bf
abbrev E5 : PSh := ⟨[.var 194 [vS, vI, vE]], [.mk false [.ref 0 0], kE]⟩
abbrev E9 : PSh := Cz
def Im (T : Unit) (d : ((ByteArray × (Int × ((Option Int) × Unit))) × Unit) × (Unit × (((Option Int) × Unit) × Unit))) : Option (Y17) :=
 (B2 ((), (((some (d.1.1.1, (d.1.1.2.1, d.1.1.2.2.1))), ()), ()))).bind fun x1 =>
 bif x1.2.1.1 then (
 some (((d.1.1.1, (d.1.1.2.1, d.2.2.1)), ()), ((), ())))
 else (
 some (d.1, ((), ())))
def Bs := Im ()
theorem I0 : Amt Tryz.prog ET0 143 E5 E9 0 [(0, 0, none)] Bs :=
 Apk (E := ((E0.add 144 Ge).kp [0])) (pi := E5) (po := E9) (Ih (Aa Bc (Af Fy))) (fn := Tryz.f143) Tryz.func143 (by kernel_rfl) (by kernel_rfl) [] [(0, none)] [(0, 0, none)] (by kernel_rfl) rfl rfl rfl rfl rfl [] fun d => by kernel_rfl
def Jh := Vt E5 E9 0 [(0, 0, none)] Bs
abbrev Ov : PSh := Cz
abbrev Oz : PSh := Cz
def Sz (T : Unit) (d : Y17) : Option (Y17) :=
 (Bf (d.1, ((), (((⟨#[32, 9]⟩ : ByteArray), ()), ())))).bind fun x1 =>
 let x2 := (x1.2.1.1.toList == (⟨#[]⟩ : ByteArray).toList)
 bif x2 then (
 let x3 := (some (2 : Int))
 (Bs (x1.1, ((), ((x3, ()), ())))).bind fun x4 =>
 some (x4.1, ((), ())))
 else (
 some (x1.1, ((), ())))
def Da := Sz ()
theorem Nq : Amt Tryz.prog ET0 121 Ov Oz 0 [(0, 0, none)] Da :=
 Apk (E := (((E0.add 127 D4).add 143 Jh).kp [0])) (pi := Ov) (po := Oz) (Ih (Aa (Aa Bc (Nl Dv)) (Nl I0))) (fn := Tryz.f121) Tryz.func121 (by kernel_rfl) (by kernel_rfl) [] [(0, none)] [(0, 0, none)] (by kernel_rfl) rfl rfl rfl rfl rfl [] fun d => by kernel_rfl
def Pw := Vt Ov Oz 0 [(0, 0, none)] Da
abbrev Mv : PSh := Cz
abbrev Mt : PSh := ⟨[.var 194 [vS, vI, vE]], [.mk false [.v (.int .u32)], .mk false [.ref 0 0]]⟩
abbrev Oa : Type := Y24
abbrev Rw : Type := ((ByteArray × (Int × ((Option Int) × Unit))) × Unit) × (Unit × ((ByteArray × Unit) × ((Int × Unit) × ((Int × Unit) × ((Int × Unit) × Unit)))))
abbrev My : Type := (((Rw) -> Option (Oa)) × Unit)
abbrev Ack : PSh := ⟨[.var 194 [vS, vI, vE]], [.mk false [.ref 0 0], .any, .any, kS, .mk false [.v (.int .u32)], .any, .any, .any, .any, .any, .any, .any, .any, .any, .any, .any, .any, .any, .any, .any, kI, kI] ++ Q6 12⟩
def Hk (T : My) (d : Rw) : Option (Oa) :=
 let x11 := (decide (d.2.2.2.2.2.1.1 < d.2.2.2.2.1.1))
 bif x11 then (
 let x12 := (Au0 .u32 d.2.2.2.1.1 (4 : Int))
 bif decide ((0 : Int) <= d.2.2.2.2.2.1.1) && decide (d.2.2.2.2.2.1.1 < ((d.2.2.1.1.size : Int) : Int)) then (
 let x13 := (bt d.2.2.1.1 d.2.2.2.2.2.1.1)
 (Eu ((), (((⟨#[48, 49, 50, 51, 52, 53, 54, 55, 56, 57, 97, 98, 99, 100, 101, 102]⟩ : ByteArray), ()), ((x13, ()), ())))).bind fun x14 =>
 let x15 := (Ef .u32 x14.2.1.1)
 let x16 := (ior .u32 x12 x15)
 let x17 := (Bm .i64 d.2.2.2.2.2.1.1 1)
 (T.1 (d.1, ((), (d.2.2.1, ((x16, ()), (d.2.2.2.2.1, ((x17, ()), ()))))))))
 else none)
 else (
 some (d.1, (d.2.2.2.1, ((), ()))))
def Dk : Nat -> My
 | 0 => (fun _ => none, ())
 | k + 1 => (Hk (Dk k), ())
theorem Uu (k : Nat) : Dk (k + 1) = (Hk (Dk k), ()) := rfl
def Ft (T : My) (d : Y17) : Option (Oa) :=
 (Bf (d.1, ((), (((⟨#[48, 49, 50, 51, 52, 53, 54, 55, 56, 57, 97, 98, 99, 100, 101, 102, 65, 66, 67, 68, 69, 70]⟩ : ByteArray), ()), ())))).bind fun x1 =>
 (Kv ((), (x1.2.1, ()))).bind fun x2 =>
 let x3 := (x2.2.1.1.toList == (⟨#[]⟩ : ByteArray).toList)
 bif x3 then (
 let x4 := (some (2 : Int))
 (Bs (x1.1, ((), ((x4, ()), ())))).bind fun x5 =>
 some (x5.1, ((0, ()), ((), ()))))
 else (
 let x6 := (x2.2.1.1.size : Int)
 let x7 := (decide (x6 > (8 : Int)))
 bif x7 then (
 let x8 := (some (2 : Int))
 (Bs (x1.1, ((), ((x8, ()), ())))).bind fun x9 =>
 some (x9.1, ((0, ()), ((), ()))))
 else (
 let x10 := (x2.2.1.1.size : Int)
 (T.1 (x1.1, ((), (x2.2.1, ((0, ()), ((x10, ()), ((0, ()), ())))))))))
def J4 (d) := lim fun k => Ft (Dk k) d
theorem Afx : Amt Tryz.prog ET0 125 Mv Mt 1 [(0, 0, none)] J4 :=
 A42 (E := (((((E0.add 127 D4).add 143 Jh).add 148 Ajb).add 149 Td).kp [0])) (pi := Mv) (po := Mt) (Ih (Aa (Aa (Aa (Aa Bc (Nl Dv)) (Nl I0)) (Af Aho)) (Af Rz))) (fn := Tryz.f125) Tryz.func125 (by kernel_rfl) (by kernel_rfl) [.tmp 2] [(0, none)] [(0, 0, none)] (by kernel_rfl) rfl rfl rfl rfl rfl [] (fun k => [(9, ⟨Ack, (Dk k).1⟩)]) (fun _ => [])
 (.intro (fun _ => rfl) trivial) (fun k => (.intro (fun d => by kernel_rfl) trivial)) trivial (fun k => trivial) (fun k d => Ft (Dk k) d) (fun k d => by kernel_rfl)
def Ahf := Vt Mv Mt 1 [(0, 0, none)] J4
abbrev On : PSh := Cz
abbrev N0 : PSh := ⟨[.var 194 [vS, vI, vE]], [kE, .mk false [.ref 0 0]]⟩
def Tv (T : Unit) (d : Y17) : Option (Y23) :=
 (Bf (d.1, ((), (((⟨#[32, 9]⟩ : ByteArray), ()), ())))).bind fun x1 =>
 (Bl ((), (((some (x1.1.1.1, (x1.1.1.2.1, x1.1.1.2.2.1))), ()), ()))).bind fun x2 =>
 some (x1.1, (x2.2.1, ((), ())))
def D1 := Tv ()
theorem Ur : Amt Tryz.prog ET0 123 On N0 1 [(0, 0, none)] D1 :=
 Apk (E := (((E0.add 127 D4).add 131 Lw).kp [0])) (pi := On) (po := N0) (Ih (Aa (Aa Bc (Nl Dv)) (Af Ll))) (fn := Tryz.f123) Tryz.func123 (by kernel_rfl) (by kernel_rfl) [.tmp 2] [(0, none)] [(0, 0, none)] (by kernel_rfl) rfl rfl rfl rfl rfl [] fun d => by kernel_rfl
def Xc := Vt On N0 1 [(0, 0, none)] D1
abbrev Gc : PSh := Bn
abbrev Gl : PSh := ⟨[], [k8, kB]⟩
def J5 (T : Unit) (d : Y18) : Option (Unit × ((Int × Unit) × ((Bool × Unit) × Unit))) :=
 (A6 ((), d.2)).bind fun x1 =>
 let x2 := (x1.2.1.1.toList == (⟨#[]⟩ : ByteArray).toList)
 bif x2 then (
 some ((), ((0, ()), ((false, ()), ()))))
 else (
 bif decide ((0 : Int) <= (0 : Int)) && decide ((0 : Int) < ((x1.2.1.1.size : Int) : Int)) then (
 let x3 := (bt x1.2.1.1 (0 : Int))
 some ((), ((x3, ()), ((true, ()), ()))))
 else none)
def Df := J5 ()
theorem Uc : Em Tryz.prog ET0 150 Gc Gl Df :=
 fn0 (E := (E0.add 146 Dc)) (pi := Gc) (po := Gl) (Aa Bc (Af C7)) (fn := Tryz.f150) Tryz.func150 (by kernel_rfl) (by kernel_rfl) [.tmp 2, .tmp 3] (by kernel_rfl) rfl rfl rfl [] fun d => by kernel_rfl
def Ul := Ah Gc Gl Df
abbrev Aj6 : PSh := ⟨[], [kI, kI]⟩
abbrev Aix : PSh := ⟨[], [kI, kE]⟩
def Ao1 (T : Unit) (d : Y4) : Option (Y5) :=
 (Sn ((), (d.2.1, ()))).bind fun x1 =>
 let x2 := (!x1.2.2.1.1.isNone)
 bif x2 then (
 some ((), ((0, ()), x1.2.2)))
 else (
 (M3 ((), ())).bind fun x3 =>
 let x4 := (Bm .i64 x3.2.1.1 x1.2.1.1)
 let x5 := (decide (d.2.2.1.1 < x4))
 bif x5 then (
 let x6 := (some (13 : Int))
 some ((), ((0, ()), ((x6, ()), ()))))
 else (
 (P8 ((), ())).bind fun x7 =>
 let x8 := (Bm .i64 x7.2.1.1 x1.2.1.1)
 let x9 := (decide (d.2.2.1.1 > x8))
 bif x9 then (
 let x10 := (some (13 : Int))
 some ((), ((0, ()), ((x10, ()), ()))))
 else (
 let x11 := (H3 .i64 d.2.2.1.1 x1.2.1.1)
 some ((), ((x11, ()), (((none : Option Int), ()), ()))))))
def Ac4 := Ao1 ()
theorem A4b : Em Tryz.prog ET0 152 Aj6 Aix Ac4 :=
 fn0 (E := (((E0.add 95 Ask).add 105 Afd).add 106 Ajp)) (pi := Aj6) (po := Aix) (Aa (Aa (Aa Bc (Af An8)) (Af Aay)) (Af Afc)) (fn := Tryz.f152) Tryz.func152 (by kernel_rfl) (by kernel_rfl) [.tmp 4, .tmp 5] (by kernel_rfl) rfl rfl rfl [] fun d => by kernel_rfl
def A69 := Ah Aj6 Aix Ac4
abbrev P6 : PSh := ⟨[], [kI]⟩
abbrev Pf : PSh := ⟨[], [kI, kE]⟩
def Vf (T : Unit) (d : Unit × ((Int × Unit) × Unit)) : Option (Y5) :=
 let x1 := (Int.tmod d.2.1.1 (86400 : Int))
 let x2 := (x1 != (0 : Int))
 bif x2 then (
 let x3 := (some (1 : Int))
 some ((), ((0, ()), ((x3, ()), ()))))
 else (
 (Ac4 ((), ((3, ()), ((0, ()), ())))).bind fun x4 =>
 let x5 := (Nm .i64 d.2.1.1 (86400 : Int))
 let x6 := (Bm .i64 x4.2.1.1 x5)
 some ((), ((x6, ()), x4.2.2)))
def Fo := Vf ()
theorem Ajw : Em Tryz.prog ET0 132 P6 Pf Fo :=
 fn0 (E := (E0.add 152 A69)) (pi := P6) (po := Pf) (Aa Bc (Af A4b)) (fn := Tryz.f132) Tryz.func132 (by kernel_rfl) (by kernel_rfl) [.tmp 2, .tmp 3] (by kernel_rfl) rfl rfl rfl [] fun d => by kernel_rfl
def Alm := Ah P6 Pf Fo
abbrev Eb : PSh := ⟨[.var 194 [vS, vI, vE]], [.mk false [.ref 0 0], kI, kI]⟩
abbrev Ea : PSh := ⟨[.var 194 [vS, vI, vE]], [kI, .mk false [.ref 0 0]]⟩
def Gz (T : Unit) (d : ((ByteArray × (Int × ((Option Int) × Unit))) × Unit) × (Unit × ((Int × Unit) × ((Int × Unit) × Unit)))) : Option (Y24) :=
 (B2 ((), (((some (d.1.1.1, (d.1.1.2.1, d.1.1.2.2.1))), ()), ()))).bind fun x1 =>
 let x2 := (!x1.2.1.1)
 bif x2 then (
 some (d.1, ((0, ()), ((), ()))))
 else (
 (A6 ((), (((some (d.1.1.1, (d.1.1.2.1, d.1.1.2.2.1))), ()), ()))).bind fun x3 =>
 (L2 ((), (x3.2.1, d.2.2))).bind fun x4 =>
 let x5 := (!x4.2.2.2.1.1.isNone)
 bif x5 then (
 some (((d.1.1.1, (d.1.1.2.1, x4.2.2.2.1)), ()), ((0, ()), ((), ()))))
 else (
 (A5 (d.1, ((), (x4.2.2.1, ())))).bind fun x6 =>
 some (x6.1, (x4.2.1, ((), ())))))
def Ax := Gz ()
theorem Hj : Amt Tryz.prog ET0 122 Eb Ea 1 [(0, 0, none)] Ax :=
 Apk (E := (((((E0.add 144 Ge).add 145 Aqf).add 146 Dc).add 147 Dt).kp [0])) (pi := Eb) (po := Ea) (Ih (Aa (Aa (Aa (Aa Bc (Af Fy)) (Af Aom)) (Af C7)) (Nl Dn))) (fn := Tryz.f122) Tryz.func122 (by kernel_rfl) (by kernel_rfl) [.tmp 6] [(0, none)] [(0, 0, none)] (by kernel_rfl) rfl rfl rfl rfl rfl [] fun d => by kernel_rfl
def Ib := Vt Eb Ea 1 [(0, 0, none)] Ax
abbrev Fa : PSh := ⟨[.var 194 [vS, vI, vE]], [.mk false [.ref 0 0], k8]⟩
abbrev Fb : PSh := ⟨[.var 194 [vS, vI, vE]], [kB, .mk false [.ref 0 0]]⟩
def Ir (T : Unit) (d : Y22) : Option (((ByteArray × (Int × ((Option Int) × Unit))) × Unit) × ((Bool × Unit) × (Unit × Unit))) :=
 (Df ((), (((some (d.1.1.1, (d.1.1.2.1, d.1.1.2.2.1))), ()), ()))).bind fun x1 =>
 let x2 := (!x1.2.2.1.1)
 bif x2 then (
 some (d.1, ((false, ()), ((), ()))))
 else (
 let x3 := (x1.2.1.1 != d.2.2.1.1)
 bif x3 then (
 some (d.1, ((false, ()), ((), ()))))
 else (
 (A5 (d.1, ((), ((1, ()), ())))).bind fun x4 =>
 some (x4.1, ((true, ()), ((), ())))))
def Cq := Ir ()
theorem Qz : Amt Tryz.prog ET0 128 Fa Fb 1 [(0, 0, none)] Cq :=
 Apk (E := (((E0.add 147 Dt).add 150 Ul).kp [0])) (pi := Fa) (po := Fb) (Ih (Aa (Aa Bc (Nl Dn)) (Af Uc))) (fn := Tryz.f128) Tryz.func128 (by kernel_rfl) (by kernel_rfl) [.tmp 4] [(0, none)] [(0, 0, none)] (by kernel_rfl) rfl rfl rfl rfl rfl [] fun d => by kernel_rfl
def Re := Vt Fa Fb 1 [(0, 0, none)] Cq
abbrev Fc : PSh := Dl
abbrev E4 : PSh := Cz
def Ik (T : Unit) (d : Y22) : Option (Y17) :=
 (B2 ((), (((some (d.1.1.1, (d.1.1.2.1, d.1.1.2.2.1))), ()), ()))).bind fun x1 =>
 let x2 := (!x1.2.1.1)
 bif x2 then (
 some (d.1, ((), ())))
 else (
 let x3 := (decide (d.2.2.1.1 < (0 : Int)))
 bif x3 then (
 let x4 := (some (1 : Int))
 some (((d.1.1.1, (d.1.1.2.1, (x4, ()))), ()), ((), ())))
 else (
 (B4 ((), (((some (d.1.1.1, (d.1.1.2.1, d.1.1.2.2.1))), ()), ()))).bind fun x5 =>
 let x6 := (decide (d.2.2.1.1 > x5.2.1.1))
 bif x6 then (
 let x7 := (some (4 : Int))
 some (((d.1.1.1, (d.1.1.2.1, (x7, ()))), ()), ((), ())))
 else (
 (A5 (d.1, ((), d.2.2))).bind fun x8 =>
 some (x8.1, ((), ())))))
def Cp := Ik ()
theorem Q0 : Amt Tryz.prog ET0 129 Fc E4 0 [(0, 0, none)] Cp :=
 Apk (E := ((((E0.add 130 G6).add 144 Ge).add 147 Dt).kp [0])) (pi := Fc) (po := E4) (Ih (Aa (Aa (Aa Bc (Af Gk)) (Af Fy)) (Nl Dn))) (fn := Tryz.f129) Tryz.func129 (by kernel_rfl) (by kernel_rfl) [] [(0, none)] [(0, 0, none)] (by kernel_rfl) rfl rfl rfl rfl rfl [] fun d => by kernel_rfl
def Rc := Vt Fc E4 0 [(0, 0, none)] Cp
abbrev Cs : PSh := ⟨[.var 76 [.osl 1, .v (.nptr (.int .i64)), .v (.nptr (.int .i64)), .v (.nptr (.pair (.int .u32) (.pair (.int .u32) (.pair (.int .u32) (.pair (.int .u32) (.int .u32))))))], .row 70 (.pair (.int .i64) (.int .i64))], [.mk false [.ref 0 0], kS]⟩
abbrev Dr : PSh := ⟨[.var 76 [.osl 1, .v (.nptr (.int .i64)), .v (.nptr (.int .i64)), .v (.nptr (.pair (.int .u32) (.pair (.int .u32) (.pair (.int .u32) (.pair (.int .u32) (.int .u32))))))], .row 70 (.pair (.int .i64) (.int .i64))], [kE, .mk false [.ref 0 0]]⟩
abbrev Il : Type := Y26
abbrev Lk : Type := (((Option Int) × ((Option Int) × ((Option (Int × (Int × (Int × (Int × Int))))) × Unit))) × ((List (Int × Int)) × ((ByteArray × (Int × ((Option Int) × Unit))) × ((Int × (Int × (Int × (Int × (Int × Unit))))) × Unit)))) × (Unit × (Unit × (Unit × ((Int × Unit) × Unit))))
abbrev H7 : Type := (((Lk) -> Option (Il)) × Unit)
abbrev Sx : PSh := ⟨[.var 76 [.osl 1, .v (.nptr (.int .i64)), .v (.nptr (.int .i64)), .v (.nptr (.pair (.int .u32) (.pair (.int .u32) (.pair (.int .u32) (.pair (.int .u32) (.int .u32))))))], .row 70 (.pair (.int .i64) (.int .i64)), .var 194 [vS, vI, vE], .var 36 [.v (.int .u32), .v (.int .u32), .v (.int .u32), .v (.int .u32), .v (.int .u32)]], [.mk false [.ref 0 0], .any, .any, .any, .any, .mk false [.ref 2 0], .mk false [.ref 3 0], .any, .any, .any, .any, kI] ++ Q6 19⟩
def Bo (T : H7) (d : Lk) : Option (Il) :=
 let x2 := (decide (d.2.2.2.2.1.1 < (5 : Int)))
 bif x2 then (
 (Da ((d.1.2.2.1, ()), ((), ()))).bind fun x3 =>
 (J4 (x3.1, ((), ()))).bind fun x4 =>
 bif decide ((0 : Int) <= d.2.2.2.2.1.1) && decide (d.2.2.2.2.1.1 < (5 : Int)) then (
 bif decide (d.2.2.2.2.1.1 = (0 : Int)) then (
 let x9 := (Bm .i64 d.2.2.2.2.1.1 1)
 (T.1 ((d.1.1, (d.1.2.1, (x4.1.1, ((x4.2.1.1, d.1.2.2.2.1.2), ())))), ((), ((), ((), ((x9, ()), ())))))))
 else (
 bif decide (d.2.2.2.2.1.1 = (1 : Int)) then (
 let x8 := (Bm .i64 d.2.2.2.2.1.1 1)
 (T.1 ((d.1.1, (d.1.2.1, (x4.1.1, ((d.1.2.2.2.1.1, (x4.2.1.1, d.1.2.2.2.1.2.2)), ())))), ((), ((), ((), ((x8, ()), ())))))))
 else (
 bif decide (d.2.2.2.2.1.1 = (2 : Int)) then (
 let x7 := (Bm .i64 d.2.2.2.2.1.1 1)
 (T.1 ((d.1.1, (d.1.2.1, (x4.1.1, ((d.1.2.2.2.1.1, (d.1.2.2.2.1.2.1, (x4.2.1.1, d.1.2.2.2.1.2.2.2))), ())))), ((), ((), ((), ((x7, ()), ())))))))
 else (
 bif decide (d.2.2.2.2.1.1 = (3 : Int)) then (
 let x6 := (Bm .i64 d.2.2.2.2.1.1 1)
 (T.1 ((d.1.1, (d.1.2.1, (x4.1.1, ((d.1.2.2.2.1.1, (d.1.2.2.2.1.2.1, (d.1.2.2.2.1.2.2.1, (x4.2.1.1, d.1.2.2.2.1.2.2.2.2)))), ())))), ((), ((), ((), ((x6, ()), ())))))))
 else (
 bif decide (d.2.2.2.2.1.1 = (4 : Int)) then (
 let x5 := (Bm .i64 d.2.2.2.2.1.1 1)
 (T.1 ((d.1.1, (d.1.2.1, (x4.1.1, ((d.1.2.2.2.1.1, (d.1.2.2.2.1.2.1, (d.1.2.2.2.1.2.2.1, (d.1.2.2.2.1.2.2.2.1, x4.2.1)))), ())))), ((), ((), ((), ((x5, ()), ())))))))
 else (
 none))))))
 else none)
 else (
 (D1 ((d.1.2.2.1, ()), ((), ()))).bind fun x10 =>
 let x11 := (!x10.2.1.1.isNone)
 bif x11 then (
 some ((d.1.1, (d.1.2.1, ())), (x10.2.1, ((), ()))))
 else (
 let x12 := (!d.1.1.2.2.1.isNone)
 bif x12 then (
 let x13 := (some (2 : Int))
 some ((d.1.1, (d.1.2.1, ())), ((x13, ()), ((), ()))))
 else (
 some (((d.1.1.1, (d.1.1.2.1, ((some (d.1.2.2.2.1.1, (d.1.2.2.2.1.2.1, (d.1.2.2.2.1.2.2.1, (d.1.2.2.2.1.2.2.2.1, d.1.2.2.2.1.2.2.2.2.1))))), ()))), (d.1.2.1, ())), (((none : Option Int), ()), ((), ()))))))
def Av : Nat -> H7
 | 0 => (fun _ => none, ())
 | k + 1 => (Bo (Av k), ())
theorem C6 (k : Nat) : Av (k + 1) = (Bo (Av k), ()) := rfl
def Hd (T : H7) (d : Y25) : Option (Il) :=
 (C9 ((), d.2.2)).bind fun x1 =>
 (T.1 ((d.1.1, (d.1.2.1, (x1.1.1, (((0 : Int), ((0 : Int), ((0 : Int), ((0 : Int), (0, ()))))), ())))), ((), ((), ((), ((0, ()), ()))))))
def Ff (d) := lim fun k => Hd (Av k) d
theorem We : Amt Tryz.prog ET0 89 Cs Dr 1 [(0, 0, none)] Ff :=
 A42 (E := ((((((E0.add 120 P3).add 121 Pw).add 123 Xc).add 125 Ahf).add 126 (A0p E0 (Qo Tryz.f126) 2 Tryz.f126.ntmps 16 [.tmp 4])).kp [0])) (pi := Cs) (po := Dr) (Ih (Aa (Aa (Aa (Aa (Aa Bc (Af Ny)) (Nl Nq)) (Nl Ur)) (Nl Afx)) (A5h Bc (fn := Tryz.f126) Tryz.func126 (by kernel_rfl) (by kernel_rfl) (by kernel_rfl)))) (fn := Tryz.f89) Tryz.func89 (by kernel_rfl) (by kernel_rfl) [.tmp 4] [(0, none)] [(0, 0, none)] (by kernel_rfl) rfl rfl rfl rfl rfl [] (fun k => [(5, ⟨Sx, (Av k).1⟩)]) (fun _ => [])
 (.intro (fun _ => rfl) trivial) (fun k => (.intro (fun d => by kernel_rfl) trivial)) trivial (fun k => trivial) (fun k d => Hd (Av k) d) (fun k d => by kernel_rfl)
def Xk := Vt Cs Dr 1 [(0, 0, none)] Ff
abbrev Hy : PSh := Cs
abbrev Hx : PSh := Dr
def Lf (T : Unit) (d : Y25) : Option (Y26) :=
 (C9 ((), d.2.2)).bind fun x1 =>
 (Bf (x1.1, ((), (((⟨#[32, 9]⟩ : ByteArray), ()), ())))).bind fun x2 =>
 (Ax (x2.1, ((), ((1, ()), ((13, ()), ()))))).bind fun x3 =>
 (Da (x3.1, ((), ()))).bind fun x4 =>
 (Ax (x4.1, ((), ((1, ()), ((4, ()), ()))))).bind fun x5 =>
 (Bf (x5.1, ((), (((⟨#[32, 9]⟩ : ByteArray), ()), ())))).bind fun x6 =>
 let x7 := (!(x6.2.1.1.toList == (⟨#[]⟩ : ByteArray).toList))
 bif x7 then (
 (Cq (x6.1, ((), ((35, ()), ())))).bind fun x8 =>
 bif x8.2.1.1 then (
 (B4 ((), (((some (x8.1.1.1, (x8.1.1.2.1, x8.1.1.2.2.1))), ()), ()))).bind fun x9 =>
 (Cp (x8.1, ((), x9.2))).bind fun x10 =>
 (Bl ((), (((some (x10.1.1.1, (x10.1.1.2.1, x10.1.1.2.2.1))), ()), ()))).bind fun x11 =>
 let x12 := (!x11.2.1.1.isNone)
 bif x12 then (
 some (d.1, (x11.2.1, ((), ()))))
 else (
 (Fo ((), (x3.2.1, ()))).bind fun x13 =>
 let x14 := (!x13.2.2.1.1.isNone)
 bif x14 then (
 some (d.1, (x13.2.2.1, ((), ()))))
 else (
 let x15 := ([(x13.2.1.1, x5.2.1.1)] : List (Int × Int))
 bif decide (((d.1.2.1.length + x15.length) * 16 : Nat) <= 140737488355328) && decide (d.1.2.1.length + x15.length <= 9223372036854775807) then (
 let x16 := (d.1.2.1 ++ x15)
 some ((d.1.1, (x16, ())), (((none : Option Int), ()), ((), ()))))
 else none)))
 else (
 (Bl ((), (((some (x8.1.1.1, (x8.1.1.2.1, x8.1.1.2.2.1))), ()), ()))).bind fun x17 =>
 let x18 := (!x17.2.1.1.isNone)
 bif x18 then (
 some (d.1, (x17.2.1, ((), ()))))
 else (
 (Fo ((), (x3.2.1, ()))).bind fun x19 =>
 let x20 := (!x19.2.2.1.1.isNone)
 bif x20 then (
 some (d.1, (x19.2.2.1, ((), ()))))
 else (
 let x21 := ([(x19.2.1.1, x5.2.1.1)] : List (Int × Int))
 bif decide (((d.1.2.1.length + x21.length) * 16 : Nat) <= 140737488355328) && decide (d.1.2.1.length + x21.length <= 9223372036854775807) then (
 let x22 := (d.1.2.1 ++ x21)
 some ((d.1.1, (x22, ())), (((none : Option Int), ()), ((), ()))))
 else none))))
 else (
 (Bl ((), (((some (x6.1.1.1, (x6.1.1.2.1, x6.1.1.2.2.1))), ()), ()))).bind fun x23 =>
 let x24 := (!x23.2.1.1.isNone)
 bif x24 then (
 some (d.1, (x23.2.1, ((), ()))))
 else (
 (Fo ((), (x3.2.1, ()))).bind fun x25 =>
 let x26 := (!x25.2.2.1.1.isNone)
 bif x26 then (
 some (d.1, (x25.2.2.1, ((), ()))))
 else (
 let x27 := ([(x25.2.1.1, x5.2.1.1)] : List (Int × Int))
 bif decide (((d.1.2.1.length + x27.length) * 16 : Nat) <= 140737488355328) && decide (d.1.2.1.length + x27.length <= 9223372036854775807) then (
 let x28 := (d.1.2.1 ++ x27)
 some ((d.1.1, (x28, ())), (((none : Option Int), ()), ((), ()))))
 else none)))
def D2 := Lf ()
theorem Wm : Amt Tryz.prog ET0 90 Hy Hx 1 [(0, 0, none)] D2 :=
 Apk (E := ((((((((((E0.add 120 P3).add 121 Pw).add 122 Ib).add 127 D4).add 128 Re).add 129 Rc).add 130 G6).add 131 Lw).add 132 Alm).kp [0])) (pi := Hy) (po := Hx) (Ih (Aa (Aa (Aa (Aa (Aa (Aa (Aa (Aa (Aa Bc (Af Ny)) (Nl Nq)) (Nl Hj)) (Nl Dv)) (Nl Qz)) (Nl Q0)) (Af Gk)) (Af Ll)) (Af Ajw))) (fn := Tryz.f90) Tryz.func90 (by kernel_rfl) (by kernel_rfl) [.tmp 4] [(0, none)] [(0, 0, none)] (by kernel_rfl) rfl rfl rfl rfl rfl [] fun d => by kernel_rfl
def Xb := Vt Hy Hx 1 [(0, 0, none)] D2
abbrev He : PSh := Cs
abbrev G2 : PSh := Dr
def Km (T : Unit) (d : Y25) : Option (Y26) :=
 (Qb ((), (d.2.2.1, (((⟨#[32, 9]⟩ : ByteArray), ()), ())))).bind fun x1 =>
 let x2 := (x1.2.1.1.toList == (⟨#[]⟩ : ByteArray).toList)
 bif x2 then (
 some (d.1, (((none : Option Int), ()), ((), ()))))
 else (
 (Dy ((), (d.2.2.1, (((⟨#[35, 36]⟩ : ByteArray), ()), ())))).bind fun x3 =>
 bif x3.2.1.1 then (
 bif decide ((2 : Int) <= (d.2.2.1.1.size : Int)) && decide ((d.2.2.1.1.size : Int) <= (d.2.2.1.1.size : Int)) then (
 let x4 := (d.2.2.1.1.extract (Int.toNat (2 : Int)) (Int.toNat (d.2.2.1.1.size : Int)))
 (C9 ((), ((x4, ()), ()))).bind fun x5 =>
 (Da (x5.1, ((), ()))).bind fun x6 =>
 (Ax (x6.1, ((), ((1, ()), ((13, ()), ()))))).bind fun x7 =>
 (D1 (x7.1, ((), ()))).bind fun x8 =>
 let x9 := (!x8.2.1.1.isNone)
 bif x9 then (
 some (d.1, (x8.2.1, ((), ()))))
 else (
 let x10 := (!d.1.1.1.isNone)
 bif x10 then (
 let x11 := (some (2 : Int))
 some (d.1, ((x11, ()), ((), ()))))
 else (
 some ((((some x7.2.1.1), d.1.1.2), d.1.2), (((none : Option Int), ()), ((), ()))))))
 else none)
 else (
 (Dy ((), (d.2.2.1, (((⟨#[35, 64]⟩ : ByteArray), ()), ())))).bind fun x12 =>
 bif x12.2.1.1 then (
 bif decide ((2 : Int) <= (d.2.2.1.1.size : Int)) && decide ((d.2.2.1.1.size : Int) <= (d.2.2.1.1.size : Int)) then (
 let x13 := (d.2.2.1.1.extract (Int.toNat (2 : Int)) (Int.toNat (d.2.2.1.1.size : Int)))
 (C9 ((), ((x13, ()), ()))).bind fun x14 =>
 (Da (x14.1, ((), ()))).bind fun x15 =>
 (Ax (x15.1, ((), ((1, ()), ((13, ()), ()))))).bind fun x16 =>
 (D1 (x16.1, ((), ()))).bind fun x17 =>
 let x18 := (!x17.2.1.1.isNone)
 bif x18 then (
 some (d.1, (x17.2.1, ((), ()))))
 else (
 let x19 := (!d.1.1.2.1.isNone)
 bif x19 then (
 let x20 := (some (2 : Int))
 some (d.1, ((x20, ()), ((), ()))))
 else (
 some (((d.1.1.1, ((some x16.2.1.1), d.1.1.2.2)), d.1.2), (((none : Option Int), ()), ((), ()))))))
 else none)
 else (
 (Dy ((), (d.2.2.1, (((⟨#[35, 104]⟩ : ByteArray), ()), ())))).bind fun x21 =>
 bif x21.2.1.1 then (
 bif decide ((2 : Int) <= (d.2.2.1.1.size : Int)) && decide ((d.2.2.1.1.size : Int) <= (d.2.2.1.1.size : Int)) then (
 let x22 := (d.2.2.1.1.extract (Int.toNat (2 : Int)) (Int.toNat (d.2.2.1.1.size : Int)))
 (Ff (d.1, ((), ((x22, ()), ())))).bind fun x23 =>
 some (x23.1, (x23.2.1, ((), ()))))
 else none)
 else (
 bif decide ((0 : Int) <= (0 : Int)) && decide ((0 : Int) < ((d.2.2.1.1.size : Int) : Int)) then (
 let x24 := (bt d.2.2.1.1 (0 : Int))
 let x25 := (x24 == (35 : Int))
 bif x25 then (
 some (d.1, (((none : Option Int), ()), ((), ()))))
 else (
 (D2 (d.1, ((), d.2.2))).bind fun x26 =>
 some (x26.1, (x26.2.1, ((), ())))))
 else none))))
def Do := Km ()
theorem Uk : Amt Tryz.prog ET0 61 He G2 1 [(0, 0, none)] Do :=
 Apk (E := ((((((E0.add 86 Ap1).add 87 Ae7).add 89 Xk).add 90 Xb).add 88 (A0p (((((E0.add 120 P3).add 121 Pw).add 122 Ib).add 123 Xc).add 124 (A0p E0 (Qo Tryz.f124) 2 Tryz.f124.ntmps 16 [.tmp 4])) (Qo Tryz.f88) 2 Tryz.f88.ntmps 16 [.tmp 4])).kp [0])) (pi := He) (po := G2) (Ih (Aa (Aa (Aa (Aa (Aa Bc (Af Ao6)) (Af Adx)) (Nl We)) (Nl Wm)) (A5h (Aa (Aa (Aa (Aa (Aa Bc (Af Ny)) (Nl Nq)) (Nl Hj)) (Nl Ur)) (A5h Bc (fn := Tryz.f124) Tryz.func124 (by kernel_rfl) (by kernel_rfl) (by kernel_rfl))) (fn := Tryz.f88) Tryz.func88 (by kernel_rfl) (by kernel_rfl) (by kernel_rfl)))) (fn := Tryz.f61) Tryz.func61 (by kernel_rfl) (by kernel_rfl) [.tmp 4] [(0, none)] [(0, 0, none)] (by kernel_rfl) rfl rfl rfl rfl rfl [] fun d => by kernel_rfl
def Vm := Vt He G2 1 [(0, 0, none)] Do
abbrev Ha : PSh := Cs
abbrev G8 : PSh := ⟨[.var 76 [.osl 1, .v (.nptr (.int .i64)), .v (.nptr (.int .i64)), .v (.nptr (.pair (.int .u32) (.pair (.int .u32) (.pair (.int .u32) (.pair (.int .u32) (.int .u32))))))], .row 70 (.pair (.int .i64) (.int .i64))], [kI, kE, .mk false [.ref 0 0]]⟩
abbrev H8 : Type := (((Option Int) × ((Option Int) × ((Option (Int × (Int × (Int × (Int × Int))))) × Unit))) × ((List (Int × Int)) × Unit)) × ((Int × Unit) × (((Option Int) × Unit) × (Unit × Unit)))
abbrev Kk : Type := (((Option Int) × ((Option Int) × ((Option (Int × (Int × (Int × (Int × Int))))) × Unit))) × ((List (Int × Int)) × Unit)) × (Unit × (((List ByteArray) × Unit) × ((Int × Unit) × ((Int × Unit) × Unit))))
abbrev G5 : Type := (((Kk) -> Option (H8)) × Unit)
abbrev R9 : PSh := ⟨[.var 76 [.osl 1, .v (.nptr (.int .i64)), .v (.nptr (.int .i64)), .v (.nptr (.pair (.int .u32) (.pair (.int .u32) (.pair (.int .u32) (.pair (.int .u32) (.int .u32))))))], .row 70 (.pair (.int .i64) (.int .i64))], [.mk false [.ref 0 0], .any, .any, .any, .any, .any, .any, .any, .any, .any, .any, .any, .any, .any, .any, .mk false [.v (.sl .str)], kI, kI] ++ Q6 13⟩
def Cy (T : G5) (d : Kk) : Option (H8) :=
 let x7 := (decide (d.2.2.2.2.1.1 < d.2.2.2.1.1))
 bif x7 then (
 bif decide ((0 : Int) <= d.2.2.2.2.1.1) && decide (d.2.2.2.2.1.1 < (d.2.2.1.1.length : Int)) then (
 (Do (d.1, ((), (((gd .str d.2.2.1.1 d.2.2.2.2.1.1), ()), ())))).bind fun x8 =>
 let x9 := (!x8.2.1.1.isNone)
 bif x9 then (
 let x10 := (Bm .i64 d.2.2.2.2.1.1 1)
 some (x8.1, ((x10, ()), (x8.2.1, ((), ())))))
 else (
 let x11 := (Bm .i64 d.2.2.2.2.1.1 1)
 (T.1 (x8.1, ((), (d.2.2.1, (d.2.2.2.1, ((x11, ()), ()))))))))
 else none)
 else (
 some (d.1, ((0, ()), (((none : Option Int), ()), ((), ())))))
def By : Nat -> G5
 | 0 => (fun _ => none, ())
 | k + 1 => (Cy (By k), ())
theorem H1 (k : Nat) : By (k + 1) = (Cy (By k), ()) := rfl
def Ei (T : G5) (d : Y25) : Option (H8) :=
 let x1 := (d.2.2.1.1.size : Int)
 let x2 := (decide (x1 > (65535 : Int)))
 bif x2 then (
 let x3 := (some (3 : Int))
 some (d.1, ((0, ()), ((x3, ()), ((), ())))))
 else (
 (Fs ((), (d.2.2.1, (((⟨#[10]⟩ : ByteArray), ()), ())))).bind fun x4 =>
 (Nx ((), (x4.2.1, (((⟨#[10]⟩ : ByteArray), ()), ())))).bind fun x5 =>
 let x6 := (x5.2.1.1.length : Int)
 (T.1 (d.1, ((), (x5.2.1, ((x6, ()), ((0, ()), ())))))))
def Dp (d) := lim fun k => Ei (By k) d
theorem Un : Amt Tryz.prog ET0 29 Ha G8 2 [(0, 0, none)] Dp :=
 A42 (E := ((((E0.add 59 An6).add 60 Ad0).add 61 Vm).kp [0])) (pi := Ha) (po := G8) (Ih (Aa (Aa (Aa Bc (Af Al8)) (Af Aa6)) (Nl Uk))) (fn := Tryz.f29) Tryz.func29 (by kernel_rfl) (by kernel_rfl) [.tmp 4, .tmp 5] [(0, none)] [(0, 0, none)] (by kernel_rfl) rfl rfl rfl rfl rfl [] (fun k => [(6, ⟨R9, (By k).1⟩)]) (fun _ => [])
 (.intro (fun _ => rfl) trivial) (fun k => (.intro (fun d => by kernel_rfl) trivial)) trivial (fun k => trivial) (fun k d => Ei (By k) d) (fun k d => by kernel_rfl)
def Wr := Vt Ha G8 2 [(0, 0, none)] Dp
abbrev Pm : PSh := ⟨[], [kS]⟩
abbrev P2 : PSh := X5
def Nv (T : Unit) (d : Y16) : Option (Y14) :=
 (Dp ((((none : Option Int), ((none : Option Int), ((none : Option (Int × (Int × (Int × (Int × Int))))), ()))), (([] : List (Int × Int)), ())), ((), d.2))).bind fun x1 =>
 let x2 := (!x1.2.2.1.1.isNone)
 bif x2 then (
 some ((), (((none : Option ((List (Int × Int)) × (Int × Int))), ()), (x1.2.2.1, ()))))
 else (
 bif x1.1.1.1.isNone then (
 let x3 := (some (2 : Int))
 some ((), (((none : Option ((List (Int × Int)) × (Int × Int))), ()), ((x3, ()), ()))))
 else (
 bif x1.1.1.2.1.isNone then (
 let x4 := (some (2 : Int))
 some ((), (((none : Option ((List (Int × Int)) × (Int × Int))), ()), ((x4, ()), ()))))
 else (
 x1.1.1.1.bind fun x5 =>
 x1.1.1.2.1.bind fun x6 =>
 (Pz ((), (x1.1.2, ((x5, ()), ((x6, ()), ()))))).bind fun x7 =>
 let x8 := (!x7.2.2.1.1.isNone)
 bif x8 then (
 some ((), (((none : Option ((List (Int × Int)) × (Int × Int))), ()), x7.2.2)))
 else (
 (B8 ((), (x7.2.1, ()))).bind fun x9 =>
 let x10 := (!x9.2.2.1.1.isNone)
 bif x10 then (
 some ((), (((none : Option ((List (Int × Int)) × (Int × Int))), ()), x9.2.2)))
 else (
 let x11 := (!x1.1.1.2.2.1.isNone)
 bif x11 then (
 x1.1.1.2.2.1.bind fun x12 =>
 (J6 ((), ((x12.1, (x12.2.1, (x12.2.2.1, (x12.2.2.2.1, (x12.2.2.2.2, ()))))), ()))).bind fun x13 =>
 let x14 := (!((x13.2.1.1 == x9.2.1.1) && ((x13.2.1.2.1 == x9.2.1.2.1) && ((x13.2.1.2.2.1 == x9.2.1.2.2.1) && ((x13.2.1.2.2.2.1 == x9.2.1.2.2.2.1) && ((x13.2.1.2.2.2.2.1 == x9.2.1.2.2.2.2.1) && ((x13.2.1.2.2.2.2.2.1 == x9.2.1.2.2.2.2.2.1) && ((x13.2.1.2.2.2.2.2.2.1 == x9.2.1.2.2.2.2.2.2.1) && ((x13.2.1.2.2.2.2.2.2.2.1 == x9.2.1.2.2.2.2.2.2.2.1) && ((x13.2.1.2.2.2.2.2.2.2.2.1 == x9.2.1.2.2.2.2.2.2.2.2.1) && ((x13.2.1.2.2.2.2.2.2.2.2.2.1 == x9.2.1.2.2.2.2.2.2.2.2.2.1) && ((x13.2.1.2.2.2.2.2.2.2.2.2.2.1 == x9.2.1.2.2.2.2.2.2.2.2.2.2.1) && ((x13.2.1.2.2.2.2.2.2.2.2.2.2.2.1 == x9.2.1.2.2.2.2.2.2.2.2.2.2.2.1) && ((x13.2.1.2.2.2.2.2.2.2.2.2.2.2.2.1 == x9.2.1.2.2.2.2.2.2.2.2.2.2.2.2.1) && ((x13.2.1.2.2.2.2.2.2.2.2.2.2.2.2.2.1 == x9.2.1.2.2.2.2.2.2.2.2.2.2.2.2.2.1) && ((x13.2.1.2.2.2.2.2.2.2.2.2.2.2.2.2.2.1 == x9.2.1.2.2.2.2.2.2.2.2.2.2.2.2.2.2.1) && ((x13.2.1.2.2.2.2.2.2.2.2.2.2.2.2.2.2.2.1 == x9.2.1.2.2.2.2.2.2.2.2.2.2.2.2.2.2.2.1) && ((x13.2.1.2.2.2.2.2.2.2.2.2.2.2.2.2.2.2.2.1 == x9.2.1.2.2.2.2.2.2.2.2.2.2.2.2.2.2.2.2.1) && ((x13.2.1.2.2.2.2.2.2.2.2.2.2.2.2.2.2.2.2.2.1 == x9.2.1.2.2.2.2.2.2.2.2.2.2.2.2.2.2.2.2.2.1) && ((x13.2.1.2.2.2.2.2.2.2.2.2.2.2.2.2.2.2.2.2.2.1 == x9.2.1.2.2.2.2.2.2.2.2.2.2.2.2.2.2.2.2.2.2.1) && ((x13.2.1.2.2.2.2.2.2.2.2.2.2.2.2.2.2.2.2.2.2.2.1 == x9.2.1.2.2.2.2.2.2.2.2.2.2.2.2.2.2.2.2.2.2.2.1) && true)))))))))))))))))))))
 bif x14 then (
 let x15 := (some (7 : Int))
 some ((), (((none : Option ((List (Int × Int)) × (Int × Int))), ()), ((x15, ()), ()))))
 else (
 some ((), (x7.2.1, (((none : Option Int), ()), ())))))
 else (
 some ((), (x7.2.1, (((none : Option Int), ()), ())))))))))
def L8 := Nv ()
theorem Ai6 : Em Tryz.prog ET0 8 Pm P2 L8 :=
 fn0 (E := (((((E0.add 18 P1).add 26 Ar2).add 29 Wr).add 30 Apa).fr [(1000007, [1000004, 1000018, 1000022])])) (pi := Pm) (po := P2) (Aht (Aa (Aa (Aa (Aa Bc (Af N6)) (Af Anf)) (Nl Un)) (Af Akf))) (fn := Tryz.f8) Tryz.func8 (by kernel_rfl) (by kernel_rfl) [.tmp 2, .tmp 3] (by kernel_rfl) rfl rfl rfl [] fun d => by kernel_rfl
def Amd := Ah Pm P2 L8
abbrev P7 : PSh := Cv
abbrev Pp : PSh := ⟨[], [kI]⟩
def Ahw (T : Unit) (d : Y2) : Option (Unit × ((Int × Unit) × Unit)) :=
 (In ((), d.2)).bind fun x1 =>
 let x2 := (x1.2.1.1.length : Int)
 some ((), ((x2, ()), ()))
def Rj := Ahw ()
theorem Aje : Em Tryz.prog ET0 58 P7 Pp Rj :=
 fn0 (E := (E0.add 68 Wx)) (pi := P7) (po := Pp) (Aa Bc (Af U2)) (fn := Tryz.f58) Tryz.func58 (by kernel_rfl) (by kernel_rfl) [.tmp 2] (by kernel_rfl) rfl rfl rfl [] fun d => by kernel_rfl
def Al0 := Ah P7 Pp Rj
abbrev Ps : PSh := ⟨[], [.mk false [.v (.nptr (.pair (.sl (.pair (.int .i64) (.int .i64))) (.pair (.int .i64) (.int .i64))))], kI]⟩
abbrev Pt : PSh := ⟨[], [.mk true [vI, vI], kB]⟩
def Aif (T : Unit) (d : Unit × (((Option ((List (Int × Int)) × (Int × Int))) × Unit) × ((Int × Unit) × Unit))) : Option (Unit × ((Int × (Int × Unit)) × ((Bool × Unit) × Unit))) :=
 let x1 := (decide (d.2.2.1.1 < (0 : Int)))
 bif x1 then (
 some ((), (((0 : Int), (0, ())), ((false, ()), ()))))
 else (
 (Rj ((), (d.2.1, ()))).bind fun x2 =>
 let x3 := (decide (d.2.2.1.1 >= x2.2.1.1))
 bif x3 then (
 some ((), (((0 : Int), (0, ())), ((false, ()), ()))))
 else (
 d.2.1.1.bind fun x4 =>
 bif decide ((0 : Int) <= d.2.2.1.1) && decide (d.2.2.1.1 < (x4.1.length : Int)) then (
 some ((), (((Ac x4.1 d.2.2.1.1).1, ((Ac x4.1 d.2.2.1.1).2, ())), ((true, ()), ()))))
 else none))
def Ml := Aif ()
theorem Ai3 : Em Tryz.prog ET0 28 Ps Pt Ml :=
 fn0 (E := (E0.add 58 Al0)) (pi := Ps) (po := Pt) (Aa Bc (Af Aje)) (fn := Tryz.f28) Tryz.func28 (by kernel_rfl) (by kernel_rfl) [.cell 4 70, .tmp 5] (by kernel_rfl) rfl rfl rfl [] fun d => by kernel_rfl
def Al2 := Ah Ps Pt Ml
abbrev Vl : PSh := ⟨[], []⟩
abbrev Ws : PSh := ⟨[], [kB]⟩
def Acz (T : Unit) (d : Unit × Unit) : Option (Unit × ((Bool × Unit) × Unit)) :=
 (L8 ((), (((⟨#[35, 36, 32, 53, 10, 35, 64, 32, 57, 10, 50, 50, 55, 50, 48, 54, 48, 56, 48, 48, 9, 49, 48, 10]⟩ : ByteArray), ()), ()))).bind fun x1 =>
 let x2 := (!x1.2.2.1.1.isNone)
 bif x2 then (
 some ((), ((false, ()), ())))
 else (
 bif x1.2.1.1.isNone then (
 some ((), ((false, ()), ())))
 else (
 (Ml ((), (x1.2.1, ((0, ()), ())))).bind fun x3 =>
 bif x3.2.2.1.1 then (
 let x4 := (x3.2.1.1 == (730 : Int))
 bif x4 then (
 let x5 := (x3.2.1.2.1 == (10 : Int))
 some ((), ((x5, ()), ())))
 else (
 some ((), ((false, ()), ()))))
 else (
 some ((), ((false, ()), ())))))
def K6 := Acz ()
theorem Aqo : Em Tryz.prog ET0 7 Vl Ws K6 :=
 fn0 (E := ((E0.add 8 Amd).add 28 Al2)) (pi := Vl) (po := Ws) (Aa (Aa Bc (Af Ai6)) (Af Ai3)) (fn := Tryz.f7) Tryz.func7 (by kernel_rfl) (by kernel_rfl) [.tmp 0] (by kernel_rfl) rfl rfl rfl [] fun d => by kernel_rfl
def Ato := Ah Vl Ws K6
abbrev F0 : PSh := ⟨[], [.mk true [.v (.sl (.pair (.int .i64) (.int .i64))), vI, vI]]⟩
abbrev Yv : PSh := ⟨[], [kB]⟩
def Aek (T : Unit) (d : Y27) : Option (Unit × ((Bool × Unit) × Unit)) :=
 let x1 := (d.2.1.1.length : Int)
 let x2 := (decide (x1 > (296 : Int)))
 some ((), ((x2, ()), ()))
def M9 := Aek ()
theorem Auu : Em Tryz.prog ET0 16 F0 Yv M9 :=
 fn0 (E := E0) (pi := F0) (po := Yv) Bc (fn := Tryz.f16) Tryz.func16 (by kernel_rfl) (by kernel_rfl) [.tmp 2] (by kernel_rfl) rfl rfl rfl [] fun d => by kernel_rfl
def Awv := Ah F0 Yv M9
abbrev Aax : PSh := ⟨[], [k8]⟩
abbrev Abr : PSh := ⟨[], [k8]⟩
def Ahq (T : Unit) (d : Unit × ((Int × Unit) × Unit)) : Option (Unit × ((Int × Unit) × Unit)) :=
 let x1 := (decide (d.2.1.1 < (10 : Int)))
 bif x1 then (
 let x2 := (Bm .u8 (48 : Int) d.2.1.1)
 some ((), ((x2, ()), ())))
 else (
 let x3 := (Bm .u8 (97 : Int) d.2.1.1)
 let x4 := (H3 .u8 x3 10)
 some ((), ((x4, ()), ())))
def Kb := Ahq ()
theorem Awm : Em Tryz.prog ET0 71 Aax Abr Kb :=
 fn0 (E := E0) (pi := Aax) (po := Abr) Bc (fn := Tryz.f71) Tryz.func71 (by kernel_rfl) (by kernel_rfl) [.tmp 2] (by kernel_rfl) rfl rfl rfl [] fun d => by kernel_rfl
def Ayz := Ah Aax Abr Kb
abbrev Afe : PSh := Qr
abbrev Af9 : PSh := ⟨[], [kS]⟩
abbrev Aj2 : Type := Y16
abbrev Ak9 : Type := ((List Int) × Unit) × (Unit × ((Int × (Int × (Int × (Int × (Int × (Int × (Int × (Int × (Int × (Int × (Int × (Int × (Int × (Int × (Int × (Int × (Int × (Int × (Int × (Int × Unit)))))))))))))))))))) × ((Int × Unit) × Unit)))
abbrev Zx : Type := (((Ak9) -> Option (Aj2)) × Unit)
abbrev At4 : PSh := ⟨[.row 5 (.int .u8)], [.any, .any, .any, .mk false [.osl 0], .any, .any, .mk true [v8, v8, v8, v8, v8, v8, v8, v8, v8, v8, v8, v8, v8, v8, v8, v8, v8, v8, v8, v8], kI] ++ Q6 14⟩
def Zv (T : Zx) (d : Ak9) : Option (Aj2) :=
 let x1 := (decide (d.2.2.2.1.1 < (20 : Int)))
 bif x1 then (
 bif decide ((0 : Int) <= d.2.2.2.1.1) && decide (d.2.2.2.1.1 < (20 : Int)) then (
 let x2 := (A3g .u8 (gd (.int .u8) ([d.2.2.1.1, d.2.2.1.2.1, d.2.2.1.2.2.1, d.2.2.1.2.2.2.1, d.2.2.1.2.2.2.2.1, d.2.2.1.2.2.2.2.2.1, d.2.2.1.2.2.2.2.2.2.1, d.2.2.1.2.2.2.2.2.2.2.1, d.2.2.1.2.2.2.2.2.2.2.2.1, d.2.2.1.2.2.2.2.2.2.2.2.2.1, d.2.2.1.2.2.2.2.2.2.2.2.2.2.1, d.2.2.1.2.2.2.2.2.2.2.2.2.2.2.1, d.2.2.1.2.2.2.2.2.2.2.2.2.2.2.2.1, d.2.2.1.2.2.2.2.2.2.2.2.2.2.2.2.2.1, d.2.2.1.2.2.2.2.2.2.2.2.2.2.2.2.2.2.1, d.2.2.1.2.2.2.2.2.2.2.2.2.2.2.2.2.2.2.1, d.2.2.1.2.2.2.2.2.2.2.2.2.2.2.2.2.2.2.2.1, d.2.2.1.2.2.2.2.2.2.2.2.2.2.2.2.2.2.2.2.2.1, d.2.2.1.2.2.2.2.2.2.2.2.2.2.2.2.2.2.2.2.2.2.1, d.2.2.1.2.2.2.2.2.2.2.2.2.2.2.2.2.2.2.2.2.2.2.1] : List Int) d.2.2.2.1.1) (4 : Int))
 (Kb ((), ((x2, ()), ()))).bind fun x3 =>
 let x4 := (Ak7 .u8 (gd (.int .u8) ([d.2.2.1.1, d.2.2.1.2.1, d.2.2.1.2.2.1, d.2.2.1.2.2.2.1, d.2.2.1.2.2.2.2.1, d.2.2.1.2.2.2.2.2.1, d.2.2.1.2.2.2.2.2.2.1, d.2.2.1.2.2.2.2.2.2.2.1, d.2.2.1.2.2.2.2.2.2.2.2.1, d.2.2.1.2.2.2.2.2.2.2.2.2.1, d.2.2.1.2.2.2.2.2.2.2.2.2.2.1, d.2.2.1.2.2.2.2.2.2.2.2.2.2.2.1, d.2.2.1.2.2.2.2.2.2.2.2.2.2.2.2.1, d.2.2.1.2.2.2.2.2.2.2.2.2.2.2.2.2.1, d.2.2.1.2.2.2.2.2.2.2.2.2.2.2.2.2.2.1, d.2.2.1.2.2.2.2.2.2.2.2.2.2.2.2.2.2.2.1, d.2.2.1.2.2.2.2.2.2.2.2.2.2.2.2.2.2.2.2.1, d.2.2.1.2.2.2.2.2.2.2.2.2.2.2.2.2.2.2.2.2.1, d.2.2.1.2.2.2.2.2.2.2.2.2.2.2.2.2.2.2.2.2.2.1, d.2.2.1.2.2.2.2.2.2.2.2.2.2.2.2.2.2.2.2.2.2.2.1] : List Int) d.2.2.2.1.1) (15 : Int))
 (Kb ((), ((x4, ()), ()))).bind fun x5 =>
 let x6 := ([x3.2.1.1, x5.2.1.1] : List Int)
 bif decide (((d.1.1.length + x6.length) * 1 : Nat) <= 140737488355328) && decide (d.1.1.length + x6.length <= 9223372036854775807) then (
 let x7 := (d.1.1 ++ x6)
 let x8 := (Bm .i64 d.2.2.2.1.1 1)
 (T.1 ((x7, ()), ((), (d.2.2.1, ((x8, ()), ()))))))
 else none)
 else none)
 else (
 let x9 := (Ao d.1.1)
 some ((), ((x9, ()), ())))
def Kr : Nat -> Zx
 | 0 => (fun _ => none, ())
 | k + 1 => (Zv (Kr k), ())
theorem Aq5 (k : Nat) : Kr (k + 1) = (Zv (Kr k), ()) := rfl
def Acm (T : Zx) (d : Y10) : Option (Aj2) :=
 (T.1 ((([] : List Int), ()), ((), (d.2.1, ((0, ()), ())))))
def Ade (d) := lim fun k => Acm (Kr k) d
theorem Ay7 : Em Tryz.prog ET0 40 Afe Af9 Ade :=
 fnL (E := (E0.add 71 Ayz)) (pi := Afe) (po := Af9) (Aa Bc (Af Awm)) (fn := Tryz.f40) Tryz.func40 (by kernel_rfl) (by kernel_rfl) [.tmp 2] (by kernel_rfl) rfl rfl rfl [] (fun k => [(4, ⟨At4, (Kr k).1⟩)]) (fun _ => [])
 (.intro (fun _ => rfl) trivial) (fun k => (.intro (fun d => by kernel_rfl) trivial)) trivial (fun k => trivial) (fun k d => Acm (Kr k) d) (fun k d => by kernel_rfl)
def A3x := Ah Afe Af9 Ade
end
end Go.Proofs.YtcnngodgngmghaaGreatDoor.Ev
