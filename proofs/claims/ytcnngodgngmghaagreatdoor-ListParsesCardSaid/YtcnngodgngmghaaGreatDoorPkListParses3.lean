/- Own texts, put together: see the row's text for what is proved. -/
import Derived.Test.YtcnngodgngmghaaGreatDoorPkListParses2
namespace Go.Proofs.YtcnngodgngmghaaGreatDoor.Ev
open Go
open Go.RowKit
set_option linter.unusedVariables false
set_option linter.unusedSimpArgs false
set_option linter.unusedSectionVars false
noncomputable section
section
variable {R : Type}
def Bk6 (g : (St -> Option R) -> St -> Option R) : Nat -> St -> Option R
 | 0 => fun _ => none
 | n + 1 => g (Bk6 g n)
def evU (E : Env) (fuel : Nat) : Code -> Akz R -> St -> Option R
 | .skip, K, st => K.normal st
 | .region id ops draw, K, st => bif draw then A3g E ops.toList (Acg E st (Awj E.frz (some (1000000 + id)))) K.normal else A4x E ops.toList ops.toList st K.normal
 | .seq a b, K, st => evU E fuel a { K with normal := evU E fuel b K } st
 | .cond c a b, K, st =>
  match c with
  | .tmp t => match He st.slots t with
   | .val .bool x => cond x (evU E fuel a K ⟨Aap st.slots t (.val .bool true), st.bs⟩) (evU E fuel b K ⟨Aap st.slots t (.val .bool false), st.bs⟩)
   | _ => none
  | .const (.bool x) => cond x (evU E fuel a K st) (evU E fuel b K st)
  | _ => none
 | .block i b, K, st => evU E fuel b { K with exits := (i, K.normal) :: K.exits } st
 | .loop b, K, st => Bk6 (fun k => evU E fuel b { K with normal := k }) fuel st
 | .exit i, K, st => M5 K.exits i st
 | .ret, K, st => K.ret st
 | .scope b, K, st => evU E fuel b K st
 | .label _, K, st => K.normal st
 | _, _, _ => none
def A9v : List AV -> Bool
 | [] => true
 | .tup _ :: _ => false
 | _ :: l => A9v l
def Bjw (E : Env) (rs : List RV) (K : AV -> Al -> Option R) (st : St) : Option R :=
 match Acw E st rs with
 | some l => bif A9v l then K (Aoo l) st.bs else none
 | none => none
end
def A8c (E : Env) (body : Code) (np nt fuel : Nat) (rs : List RV) : Pk :=
 ⟨fun dd args bs R K => bif Nat.beq (V1 args) np && Nat.ble np nt then
  evU { E with base := Bg dd, keep := [] } fuel body ⟨Bjw E rs K, Bjw E rs K, []⟩ ⟨Bbi args (Bg9 (nt - np)), bs⟩ else none, none⟩
section
variable {P : Program} {E : Env} {R : Type} {Rl : Bby} {out : R}
theorem Mm {fuel : Nat} (hreg : Bcd (R := R) P E Rl out) (hdr : Ay0 (R := R) P E Rl out) (hc : Ax8 Rl) : ∀ (c : Code) (K : Akz R) (Q : Qn) (st : St) (a : Act) (w : World),
  A5k Rl out K Q -> Rl st a w -> evU E fuel c K st = some out -> c.wp P Q a w
 | .skip, K, Q, st, a, w, hg, hr, he => wp_skip (hg.normal _ _ _ hr he)
 | .region id ops draw, K, Q, st, a, w, hg, hr, he => by
  simp only [evU] at he
  cases draw with
  | true => have hd := hdr id ops st K.normal a w Q hr he (fun st' a' w' h1 _ h2 => hg.normal _ _ _ h1 h2); exact wp_region_any hd.1 hd.2
  | false => exact wp_region_list (by simpa using hreg ops.toList ops.toList st K.normal a w Q hr he (fun st' a' w' h1 h2 => hg.normal _ _ _ h1 h2))
 | .seq x y, K, Q, st, a, w, hg, hr, he => by
  refine wp_seq ?_
  exact Mm hreg hdr hc x _ _ st a w (Ah1 hg fun st' a' w' hr' hn => Mm hreg hdr hc y K Q st' a' w' hg hr' hn) hr he
 | .cond c x y, K, Q, st, a, w, hg, hr, he => by
  simp only [evU] at he
  cases c with
  | tmp t =>
   simp only at he
   split at he
   ·rename_i b hb
    refine wp_cond (t := b) (hc.yes _ _ _ _ _ hr hb) ?_
    have hs := hc.set _ _ _ _ _ hr hb
    cases b with
    | true => exact Mm hreg hdr hc x K Q _ a w hg hs he
    | false => exact Mm hreg hdr hc y K Q _ a w hg hs he
   ·cases he
  | const v =>
   cases v with
   | bool b =>
    refine wp_cond (t := b) rfl ?_
    cases b with
    | true => exact Mm hreg hdr hc x K Q st a w hg hr he
    | false => exact Mm hreg hdr hc y K Q st a w hg hr he
   | _ => cases he
  | _ => cases he
 | .block i b, K, Q, st, a, w, hg, hr, he => wp_block (Mm hreg hdr hc b _ _ st a w (Ahn hg) hr he)
 | .loop b, K, Q, st, a, w, hg, hr, he => by
  have key : ∀ (n : Nat) (st : St) (a : Act) (w : World), Rl st a w -> Bk6 (fun k => evU E fuel b { K with normal := k }) n st = some out -> Code.rounds P b Q n a w := by
   intro n
   induction n with
   | zero => intro st a w _ h; cases h
   | succ n ih =>
    intro st a w hr h
    exact Mm hreg hdr hc b _ (Exit.then (Code.rounds P b Q n) Q) st a w (Ah1 hg fun st' a' w' hr' hn => ih st' a' w' hr' hn) hr h
  exact wp_loop_rounds fuel (key fuel st a w hr he)
 | .exit i, K, Q, st, a, w, hg, hr, he => wp_exit (hg.exits _ _ _ _ hr he)
 | .ret, K, Q, st, a, w, hg, hr, he => wp_ret (hg.ret _ _ _ hr he)
 | .rangeFunc f ps asn b, _, _, _, _, _, _, _, he => by simp [evU] at he
 | .scope b, K, Q, st, a, w, hg, hr, he => wp_scope_straight (Mm hreg hdr hc b _ _ st a w (Aps hg) hr he)
 | .label _, K, Q, st, a, w, hg, hr, he => wp_label (hg.normal _ _ _ hr he)
 | .goto _, _, _, _, _, _, _, _, he => by simp [evU] at he
 | .refuse _, _, _, _, _, _, _, _, he => by simp [evU] at he
theorem Ayw : ∀ {l : List AV}, A9v l = true -> ∀ x ∈ l, ∀ k, x ≠ .tup k
 | [], _, x, h, _ => by cases h
 | a :: l, hn, x, h, k => by
  cases a with
  | tup _ => cases hn
  | _ =>
   rcases List.mem_cons.1 h with rfl | h
   ·intro e; cases e
   ·exact Ayw (l := l) hn x h k
theorem Bdt (hE : Db P E) {f : FuncId} {fn : Func} {c : Code} {rs : List RV} {np fuel : Nat} (hf : P.funcs[f]? = some fn) (hname : (fn.name == "runtime.NumGoroutine") = false) (hb : fn.body = some c)
  (hr : fn.results = (rs.map RV.toR).toArray) : Aq0 P E.ET f (A8c E c np fn.ntmps fuel rs) := by
 refine ⟨⟨fn, hf, hname, by rw [hb]; rfl⟩, fun dd args bs R K out h g w vals hG hv hbs => ?_, fun n h => by cases h⟩
 have h1 : (bif Nat.beq (V1 args) np && Nat.ble np fn.ntmps then
  evU { E with base := Bg dd, keep := [] } fuel c ⟨Bjw E rs K, Bjw E rs K, []⟩ ⟨Bbi args (Bg9 (fn.ntmps - np)), bs⟩ else none) = some out := h
 cases hc : (Nat.beq (V1 args) np && Nat.ble np fn.ntmps) with
 | false => rw [hc] at h1; cases h1
 | true =>
  rw [hc] at h1
  simp only [cond_true] at h1
  simp only [Bool.and_eq_true] at hc
  have hlen : ∀ l : List AV, V1 l = l.length := fun l => by
   induction l with
   | nil => rfl
   | cons _ _ ih => simp [V1, ih]
  have hnp : args.length = np := by rw [<- hlen]; exact Nat.eq_of_beq_eq_true hc.1
  have hnt : np <= fn.ntmps := Nat.le_of_ble_eq_true hc.2
  have hvl : vals.length = args.length := hv.length.symm
  have hE' : Db P { E with base := Bg dd, keep := [] } := ⟨hE.rows, hE.calls, hE.mixed, hE.seqs⟩
  refine (callsIn_wide (n := 0)).1 (callsIn_of_wp_marks hf hb trivial (wpIn_wide.2 ?_))
  let RR : Ending -> World -> Prop := fun e w' => ∃ u v bs' g', e = .returned u /\ K v bs' = some out /\ Cb E.ET g' bs' w' v u /\ Cy E.ET g' bs' w' /\ Ext g bs w g' bs' w'
  let Q : Qn := bodyPostM Fence.wide 0 P fn RR
  show c.wp P Q _ _
  have hfin : ∀ (st : St) (a : Act) (w0 : World), Aqt E.ET g bs w [] vals st a w0 -> Bjw E rs K st = some out -> Q .ret a w0 /\ Q .normal a w0 := by
   intro st a w0 ⟨⟨g1, hr0⟩, _⟩ he
   have main : Q .ret a w0 := A5q (g := g1) (bs0 := bs) hr0 fun w' hr1 => ?main
   exact ⟨main, main⟩
   case main =>
   unfold Bjw at he
   split at he
   ·rename_i l hl
    cases hn : A9v l with
    | false => rw [hn] at he; cases he
    | true =>
     rw [hn] at he
     obtain ⟨hll, vs, hvs, hrun⟩ := Af5 hE hr1.slots hr1.boxes hl
     have hres := Bda (Ayw hn) hvs
     have hrun := Ate hr hrun
     have hq : ∃ v, (results fn a.tmps).run P w' = .ok v w' /\ RR (.returned v) w' :=
      ⟨_, hrun, _, _, _, g1, rfl, he, hres, hr1.boxes, hr1.ext⟩
     exact hq
   ·cases he
  have hgood : A5k (Aqt E.ET g bs w [] vals) out ⟨Bjw E rs K, Bjw E rs K, []⟩ Q :=
   ⟨fun st a w' h1 h2 => (hfin st a w' h1 h2).2, fun st a w' h1 h2 => (hfin st a w' h1 h2).1, fun i st a w' h1 h2 => by cases h2⟩
  refine Mm (E := { E with base := Bg dd, keep := [] }) (Bm2 hE' g bs w vals) (A8j hE' g bs w vals) (Bfj E.ET g bs w [] vals) c _ Q _ _ w hgood ⟨⟨g, hG, ?_, ?_, hbs, trivial, Ext.refl _ _ _⟩, fun i hi => by cases hi⟩ h1
  ·simp only [Aeh, List.length_append, Adk, Array.size_append, List.size_toArray, Array.size_replicate, hvl, hnp]
   exact Nat.le_refl _
  ·intro i
   simp only [Aeh]
   by_cases hi : i < vals.length
   ·rw [Sa (by omega)]
    have e : (vals.toArray ++ Array.replicate (fn.ntmps - vals.toArray.size) undef).getD i undef = vals.getD i undef := by
     rw [Array.getD_eq_getD_getElem?, Array.getElem?_append_left (by simpa using hi), List.getElem?_toArray, List.getD_eq_getElem?_getD]
    rw [e]; exact Gx hv i
   ·rw [Ry (by omega)]
    have e : (vals.toArray ++ Array.replicate (fn.ntmps - vals.toArray.size) undef).getD i undef = undef := by
     rw [Array.getD_eq_getD_getElem?, Array.getElem?_append_right (by simpa using hi), Array.getElem?_replicate]
     split <;> rfl
    rw [e]
    rcases Amm (fn.ntmps - np) (i - args.length) with h | h <;> rw [h]
    ·exact (rfl : undef = undef)
    ·trivial
end
end
set_option maxRecDepth 100000
set_option maxHeartbeats 2000000
noncomputable section
abbrev vI : LSh := .v (.int .i64)
abbrev kI : SSh := .mk false [vI]
abbrev vB : LSh := .v .bool
abbrev kB : SSh := .mk false [vB]
abbrev vS : LSh := .v .str
abbrev kS : SSh := .mk false [vS]
abbrev vE : LSh := .v .err
abbrev kE : SSh := .mk false [vE]
abbrev v8 : LSh := .v (.int .u8)
abbrev k8 : SSh := .mk false [v8]
def Bp6 : List (TypeId × Row) := [
 (2, ⟨.int .i64, 1, 8, (.int .i64), [AV.val (.int .i64) (0 : Int)], none⟩),
 (3, ⟨.int .i64, 1, 8, (.int .i64), [AV.val (.int .i64) (0 : Int)], none⟩),
 (4, ⟨.bool, 1, 1, .bool, [AV.val .bool false], none⟩),
 (5, ⟨.int .u8, 1, 1, (.int .u8), [AV.val (.int .u8) (0 : Int)], none⟩),
 (9, ⟨.str, 1, 16, .str, [AV.val .str ByteArray.empty], none⟩),
 (23, ⟨.ptr, 1, 8, (.nptr (.pair (.sl (.pair (.int .i64) (.int .i64))) (.pair (.int .i64) (.int .i64)))), [AV.nilP], none⟩),
 (25, ⟨.iface, 1, 16, .err, [AV.val .err (none : Option Int)], none⟩),
 (28, ⟨.slice 96, 1, 24, (.sl (.pair (.int .i64) (.int .i64))), [AV.nilS], none⟩),
 (30, ⟨.struct [(0, 1, false), (1, 1, false), (2, 1, false)], 3, 40, (.pair (.sl (.pair (.int .i64) (.int .i64))) (.pair (.int .i64) (.int .i64))), [AV.nilS, AV.val (.int .i64) (0 : Int), AV.val (.int .i64) (0 : Int)], none⟩),
 (35, ⟨.int .u32, 1, 4, (.int .u32), [AV.val (.int .u32) (0 : Int)], none⟩),
 (36, ⟨.arr 5 35, 5, 20, (.pair (.int .u32) (.pair (.int .u32) (.pair (.int .u32) (.pair (.int .u32) (.int .u32))))), [AV.val (.int .u32) (0 : Int), AV.val (.int .u32) (0 : Int), AV.val (.int .u32) (0 : Int), AV.val (.int .u32) (0 : Int), AV.val (.int .u32) (0 : Int)], some [.int .u32, .int .u32, .int .u32, .int .u32, .int .u32]⟩),
 (38, ⟨.struct [(0, 3, true), (3, 1, false), (4, 1, false), (5, 1, false), (6, 5, true), (11, 1, false), (12, 1, false)], 13, 104, (.pair (.pair (.sl (.pair (.int .i64) (.int .i64))) (.pair (.int .i64) (.int .i64))) (.pair (.int .i64) (.pair (.int .i64) (.pair (.int .i64) (.pair (.pair (.int .u32) (.pair (.int .u32) (.pair (.int .u32) (.pair (.int .u32) (.int .u32))))) (.pair (.int .i64) (.int .i64))))))), [AV.nilS, AV.val (.int .i64) (0 : Int), AV.val (.int .i64) (0 : Int), AV.val (.int .i64) (0 : Int), AV.val (.int .i64) (0 : Int), AV.val (.int .i64) (0 : Int), AV.val (.int .u32) (0 : Int), AV.val (.int .u32) (0 : Int), AV.val (.int .u32) (0 : Int), AV.val (.int .u32) (0 : Int), AV.val (.int .u32) (0 : Int), AV.val (.int .i64) (0 : Int), AV.val (.int .i64) (0 : Int)], none⟩),
 (42, ⟨.slice 9, 1, 24, (.sl .str), [AV.nilS], none⟩),
 (46, ⟨.slice 70, 1, 24, (.sl (.pair (.int .i64) (.int .i64))), [AV.nilS], none⟩),
 (48, ⟨.struct [(0, 1, false), (1, 1, false), (2, 1, false)], 3, 40, (.pair (.sl (.pair (.int .i64) (.int .i64))) (.pair (.int .i64) (.int .i64))), [AV.nilS, AV.val (.int .i64) (0 : Int), AV.val (.int .i64) (0 : Int)], none⟩),
 (53, ⟨.arr 20 5, 20, 20, (.pair (.int .u8) (.pair (.int .u8) (.pair (.int .u8) (.pair (.int .u8) (.pair (.int .u8) (.pair (.int .u8) (.pair (.int .u8) (.pair (.int .u8) (.pair (.int .u8) (.pair (.int .u8) (.pair (.int .u8) (.pair (.int .u8) (.pair (.int .u8) (.pair (.int .u8) (.pair (.int .u8) (.pair (.int .u8) (.pair (.int .u8) (.pair (.int .u8) (.pair (.int .u8) (.int .u8)))))))))))))))))))), [AV.val (.int .u8) (0 : Int), AV.val (.int .u8) (0 : Int), AV.val (.int .u8) (0 : Int), AV.val (.int .u8) (0 : Int), AV.val (.int .u8) (0 : Int), AV.val (.int .u8) (0 : Int), AV.val (.int .u8) (0 : Int), AV.val (.int .u8) (0 : Int), AV.val (.int .u8) (0 : Int), AV.val (.int .u8) (0 : Int), AV.val (.int .u8) (0 : Int), AV.val (.int .u8) (0 : Int), AV.val (.int .u8) (0 : Int), AV.val (.int .u8) (0 : Int), AV.val (.int .u8) (0 : Int), AV.val (.int .u8) (0 : Int), AV.val (.int .u8) (0 : Int), AV.val (.int .u8) (0 : Int), AV.val (.int .u8) (0 : Int), AV.val (.int .u8) (0 : Int)], some [.int .u8, .int .u8, .int .u8, .int .u8, .int .u8, .int .u8, .int .u8, .int .u8, .int .u8, .int .u8, .int .u8, .int .u8, .int .u8, .int .u8, .int .u8, .int .u8, .int .u8, .int .u8, .int .u8, .int .u8]⟩),
 (57, ⟨.int .i64, 1, 8, (.int .i64), [AV.val (.int .i64) (0 : Int)], none⟩),
 (63, ⟨.slice 5, 1, 24, (.sl (.int .u8)), [AV.nilS], none⟩),
 (70, ⟨.struct [(0, 1, false), (1, 1, false)], 2, 16, (.pair (.int .i64) (.int .i64)), [AV.val (.int .i64) (0 : Int), AV.val (.int .i64) (0 : Int)], some [.int .i64, .int .i64]⟩),
 (73, ⟨.ptr, 1, 8, (.nptr (.int .i64)), [AV.nilP], none⟩),
 (74, ⟨.ptr, 1, 8, (.nptr (.pair (.int .u32) (.pair (.int .u32) (.pair (.int .u32) (.pair (.int .u32) (.int .u32)))))), [AV.nilP], none⟩),
 (76, ⟨.struct [(0, 1, false), (1, 1, false), (2, 1, false), (3, 1, false)], 4, 48, (.pair (.sl (.pair (.int .i64) (.int .i64))) (.pair (.nptr (.int .i64)) (.pair (.nptr (.int .i64)) (.nptr (.pair (.int .u32) (.pair (.int .u32) (.pair (.int .u32) (.pair (.int .u32) (.int .u32))))))))), [AV.nilS, AV.nilP, AV.nilP, AV.nilP], none⟩),
 (88, ⟨.struct [(0, 1, false), (1, 1, false), (2, 1, false)], 3, 40, (.pair (.sl (.pair (.int .i64) (.int .i64))) (.pair (.int .i64) (.int .i64))), [AV.nilS, AV.val (.int .i64) (0 : Int), AV.val (.int .i64) (0 : Int)], none⟩),
 (91, ⟨.struct [(0, 1, false), (1, 1, false)], 2, 40, (.pair (.sl (.int .u8)) .err), [AV.nilS, AV.val .err (none : Option Int)], none⟩),
 (96, ⟨.struct [(0, 1, false), (1, 1, false)], 2, 16, (.pair (.int .i64) (.int .i64)), [AV.val (.int .i64) (0 : Int), AV.val (.int .i64) (0 : Int)], some [.int .i64, .int .i64]⟩),
 (104, ⟨.int .u64, 1, 8, (.int .u64), [AV.val (.int .u64) (0 : Int)], none⟩),
 (117, ⟨.slice 35, 1, 24, (.sl (.int .u32)), [AV.nilS], none⟩),
 (129, ⟨.int .u64, 1, 8, (.int .u64), [AV.val (.int .u64) (0 : Int)], none⟩),
 (135, ⟨.arr 64 5, 64, 64, (.pair (.int .u8) (.pair (.int .u8) (.pair (.int .u8) (.pair (.int .u8) (.pair (.int .u8) (.pair (.int .u8) (.pair (.int .u8) (.pair (.int .u8) (.pair (.int .u8) (.pair (.int .u8) (.pair (.int .u8) (.pair (.int .u8) (.pair (.int .u8) (.pair (.int .u8) (.pair (.int .u8) (.pair (.int .u8) (.pair (.int .u8) (.pair (.int .u8) (.pair (.int .u8) (.pair (.int .u8) (.pair (.int .u8) (.pair (.int .u8) (.pair (.int .u8) (.pair (.int .u8) (.pair (.int .u8) (.pair (.int .u8) (.pair (.int .u8) (.pair (.int .u8) (.pair (.int .u8) (.pair (.int .u8) (.pair (.int .u8) (.pair (.int .u8) (.pair (.int .u8) (.pair (.int .u8) (.pair (.int .u8) (.pair (.int .u8) (.pair (.int .u8) (.pair (.int .u8) (.pair (.int .u8) (.pair (.int .u8) (.pair (.int .u8) (.pair (.int .u8) (.pair (.int .u8) (.pair (.int .u8) (.pair (.int .u8) (.pair (.int .u8) (.pair (.int .u8) (.pair (.int .u8) (.pair (.int .u8) (.pair (.int .u8) (.pair (.int .u8) (.pair (.int .u8) (.pair (.int .u8) (.pair (.int .u8) (.pair (.int .u8) (.pair (.int .u8) (.pair (.int .u8) (.pair (.int .u8) (.pair (.int .u8) (.pair (.int .u8) (.pair (.int .u8) (.pair (.int .u8) (.pair (.int .u8) (.int .u8)))))))))))))))))))))))))))))))))))))))))))))))))))))))))))))))), [AV.val (.int .u8) (0 : Int), AV.val (.int .u8) (0 : Int), AV.val (.int .u8) (0 : Int), AV.val (.int .u8) (0 : Int), AV.val (.int .u8) (0 : Int), AV.val (.int .u8) (0 : Int), AV.val (.int .u8) (0 : Int), AV.val (.int .u8) (0 : Int), AV.val (.int .u8) (0 : Int), AV.val (.int .u8) (0 : Int), AV.val (.int .u8) (0 : Int), AV.val (.int .u8) (0 : Int), AV.val (.int .u8) (0 : Int), AV.val (.int .u8) (0 : Int), AV.val (.int .u8) (0 : Int), AV.val (.int .u8) (0 : Int), AV.val (.int .u8) (0 : Int), AV.val (.int .u8) (0 : Int), AV.val (.int .u8) (0 : Int), AV.val (.int .u8) (0 : Int), AV.val (.int .u8) (0 : Int), AV.val (.int .u8) (0 : Int), AV.val (.int .u8) (0 : Int), AV.val (.int .u8) (0 : Int), AV.val (.int .u8) (0 : Int), AV.val (.int .u8) (0 : Int), AV.val (.int .u8) (0 : Int), AV.val (.int .u8) (0 : Int), AV.val (.int .u8) (0 : Int), AV.val (.int .u8) (0 : Int), AV.val (.int .u8) (0 : Int), AV.val (.int .u8) (0 : Int), AV.val (.int .u8) (0 : Int), AV.val (.int .u8) (0 : Int), AV.val (.int .u8) (0 : Int), AV.val (.int .u8) (0 : Int), AV.val (.int .u8) (0 : Int), AV.val (.int .u8) (0 : Int), AV.val (.int .u8) (0 : Int), AV.val (.int .u8) (0 : Int), AV.val (.int .u8) (0 : Int), AV.val (.int .u8) (0 : Int), AV.val (.int .u8) (0 : Int), AV.val (.int .u8) (0 : Int), AV.val (.int .u8) (0 : Int), AV.val (.int .u8) (0 : Int), AV.val (.int .u8) (0 : Int), AV.val (.int .u8) (0 : Int), AV.val (.int .u8) (0 : Int), AV.val (.int .u8) (0 : Int), AV.val (.int .u8) (0 : Int), AV.val (.int .u8) (0 : Int), AV.val (.int .u8) (0 : Int), AV.val (.int .u8) (0 : Int), AV.val (.int .u8) (0 : Int), AV.val (.int .u8) (0 : Int), AV.val (.int .u8) (0 : Int), AV.val (.int .u8) (0 : Int), AV.val (.int .u8) (0 : Int), AV.val (.int .u8) (0 : Int), AV.val (.int .u8) (0 : Int), AV.val (.int .u8) (0 : Int), AV.val (.int .u8) (0 : Int), AV.val (.int .u8) (0 : Int)], some [.int .u8, .int .u8, .int .u8, .int .u8, .int .u8, .int .u8, .int .u8, .int .u8, .int .u8, .int .u8, .int .u8, .int .u8, .int .u8, .int .u8, .int .u8, .int .u8, .int .u8, .int .u8, .int .u8, .int .u8, .int .u8, .int .u8, .int .u8, .int .u8, .int .u8, .int .u8, .int .u8, .int .u8, .int .u8, .int .u8, .int .u8, .int .u8, .int .u8, .int .u8, .int .u8, .int .u8, .int .u8, .int .u8, .int .u8, .int .u8, .int .u8, .int .u8, .int .u8, .int .u8, .int .u8, .int .u8, .int .u8, .int .u8, .int .u8, .int .u8, .int .u8, .int .u8, .int .u8, .int .u8, .int .u8, .int .u8, .int .u8, .int .u8, .int .u8, .int .u8, .int .u8, .int .u8, .int .u8, .int .u8]⟩),
 (152, ⟨.arr 80 35, 80, 320, .unit, [AV.val (.int .u32) (0 : Int), AV.val (.int .u32) (0 : Int), AV.val (.int .u32) (0 : Int), AV.val (.int .u32) (0 : Int), AV.val (.int .u32) (0 : Int), AV.val (.int .u32) (0 : Int), AV.val (.int .u32) (0 : Int), AV.val (.int .u32) (0 : Int), AV.val (.int .u32) (0 : Int), AV.val (.int .u32) (0 : Int), AV.val (.int .u32) (0 : Int), AV.val (.int .u32) (0 : Int), AV.val (.int .u32) (0 : Int), AV.val (.int .u32) (0 : Int), AV.val (.int .u32) (0 : Int), AV.val (.int .u32) (0 : Int), AV.val (.int .u32) (0 : Int), AV.val (.int .u32) (0 : Int), AV.val (.int .u32) (0 : Int), AV.val (.int .u32) (0 : Int), AV.val (.int .u32) (0 : Int), AV.val (.int .u32) (0 : Int), AV.val (.int .u32) (0 : Int), AV.val (.int .u32) (0 : Int), AV.val (.int .u32) (0 : Int), AV.val (.int .u32) (0 : Int), AV.val (.int .u32) (0 : Int), AV.val (.int .u32) (0 : Int), AV.val (.int .u32) (0 : Int), AV.val (.int .u32) (0 : Int), AV.val (.int .u32) (0 : Int), AV.val (.int .u32) (0 : Int), AV.val (.int .u32) (0 : Int), AV.val (.int .u32) (0 : Int), AV.val (.int .u32) (0 : Int), AV.val (.int .u32) (0 : Int), AV.val (.int .u32) (0 : Int), AV.val (.int .u32) (0 : Int), AV.val (.int .u32) (0 : Int), AV.val (.int .u32) (0 : Int), AV.val (.int .u32) (0 : Int), AV.val (.int .u32) (0 : Int), AV.val (.int .u32) (0 : Int), AV.val (.int .u32) (0 : Int), AV.val (.int .u32) (0 : Int), AV.val (.int .u32) (0 : Int), AV.val (.int .u32) (0 : Int), AV.val (.int .u32) (0 : Int), AV.val (.int .u32) (0 : Int), AV.val (.int .u32) (0 : Int), AV.val (.int .u32) (0 : Int), AV.val (.int .u32) (0 : Int), AV.val (.int .u32) (0 : Int), AV.val (.int .u32) (0 : Int), AV.val (.int .u32) (0 : Int), AV.val (.int .u32) (0 : Int), AV.val (.int .u32) (0 : Int), AV.val (.int .u32) (0 : Int), AV.val (.int .u32) (0 : Int), AV.val (.int .u32) (0 : Int), AV.val (.int .u32) (0 : Int), AV.val (.int .u32) (0 : Int), AV.val (.int .u32) (0 : Int), AV.val (.int .u32) (0 : Int), AV.val (.int .u32) (0 : Int), AV.val (.int .u32) (0 : Int), AV.val (.int .u32) (0 : Int), AV.val (.int .u32) (0 : Int), AV.val (.int .u32) (0 : Int), AV.val (.int .u32) (0 : Int), AV.val (.int .u32) (0 : Int), AV.val (.int .u32) (0 : Int), AV.val (.int .u32) (0 : Int), AV.val (.int .u32) (0 : Int), AV.val (.int .u32) (0 : Int), AV.val (.int .u32) (0 : Int), AV.val (.int .u32) (0 : Int), AV.val (.int .u32) (0 : Int), AV.val (.int .u32) (0 : Int), AV.val (.int .u32) (0 : Int)], some [.int .u32, .int .u32, .int .u32, .int .u32, .int .u32, .int .u32, .int .u32, .int .u32, .int .u32, .int .u32, .int .u32, .int .u32, .int .u32, .int .u32, .int .u32, .int .u32, .int .u32, .int .u32, .int .u32, .int .u32, .int .u32, .int .u32, .int .u32, .int .u32, .int .u32, .int .u32, .int .u32, .int .u32, .int .u32, .int .u32, .int .u32, .int .u32, .int .u32, .int .u32, .int .u32, .int .u32, .int .u32, .int .u32, .int .u32, .int .u32, .int .u32, .int .u32, .int .u32, .int .u32, .int .u32, .int .u32, .int .u32, .int .u32, .int .u32, .int .u32, .int .u32, .int .u32, .int .u32, .int .u32, .int .u32, .int .u32, .int .u32, .int .u32, .int .u32, .int .u32, .int .u32, .int .u32, .int .u32, .int .u32, .int .u32, .int .u32, .int .u32, .int .u32, .int .u32, .int .u32, .int .u32, .int .u32, .int .u32, .int .u32, .int .u32, .int .u32, .int .u32, .int .u32, .int .u32, .int .u32]⟩),
 (157, ⟨.slice 104, 1, 24, (.sl (.int .u64)), [AV.nilS], none⟩),
 (159, ⟨.slice 3, 1, 24, (.sl (.int .i64)), [AV.nilS], none⟩),
 (171, ⟨.ptr, 1, 8, (.nptr (.pair .str (.pair (.int .i64) .err))), [AV.nilP], none⟩),
 (194, ⟨.struct [(0, 1, false), (1, 1, false), (2, 1, false)], 3, 40, (.pair .str (.pair (.int .i64) .err)), [AV.val .str ByteArray.empty, AV.val (.int .i64) (0 : Int), AV.val .err (none : Option Int)], none⟩),
 (204, ⟨.struct [(0, 1, false), (1, 1, false)], 2, 32, (.pair .bool (.sl (.int .u64))), [AV.val .bool false, AV.nilS], none⟩)]
def ET0 : TypeId := 57
def E0 : Env := ⟨Bp6, [], ET0, 0, [], [], []⟩
theorem A7 : Db Tryz.prog E0 := Bcl (by kernel_rfl) (by kernel_rfl) 0
def Ad (l : List (Int × Int)) (i : Int) : (Int × Int) := gd (.pair (.int .i64) (.int .i64)) l i
abbrev Adq : PSh := Ap2
abbrev Adv : PSh := Aq4
def Ph := Ael
theorem Ar2 : Dv Tryz.prog ET0 59 Adq Adv Ph := A2g ⟨Tryz.f59, Tryz.func59, by kernel_rfl, by kernel_rfl⟩ Tryz.strings_Split Bcp
def Atd := Ak Adq Adv Ph
abbrev Ag5 : PSh := Av4
abbrev Ahf : PSh := Au5
def R8 := Al2
theorem At8 : Dv Tryz.prog ET0 86 Ag5 Ahf R8 := A7r ⟨Tryz.f86, Tryz.func86, by kernel_rfl, by kernel_rfl⟩ Tryz.strings_Trim_laid
def Awq := Ak Ag5 Ahf R8
abbrev J0 : PSh := Aqj
abbrev Jw : PSh := Aq1
def Ec := Afs
theorem To : Dv Tryz.prog ET0 181 J0 Jw Ec := A28 ⟨Tryz.f181, Tryz.func181, by kernel_rfl, by kernel_rfl⟩ Tryz.stringslite_Clone
def Ui := Ak J0 Jw Ec
abbrev T1 : PSh := Ad3
abbrev Tq : PSh := Adt
def Ez := Abd
theorem Tr : Dv Tryz.prog ET0 149 T1 Tq Ez := Arq ⟨Tryz.f149, Tryz.func149, by kernel_rfl, by kernel_rfl⟩ Tryz.strings_IndexByte
def Wf := Ak T1 Tq Ez
abbrev W9 : PSh := Ait
abbrev Xq : PSh := Aje
def L5 := Vt
theorem Amq : Dv Tryz.prog ET0 148 W9 Xq L5 := Axi ⟨Tryz.f148, Tryz.func148, by kernel_rfl, by kernel_rfl⟩ Tryz.strings_ToLower_ascii
def Aon := Ak W9 Xq L5
abbrev Y0 : Type := Unit × (((List (Int × Int)) × Unit) × Unit)
abbrev Y1 : Type := ((List (Int × Int)) × Unit) × (Unit × Unit)
abbrev Y2 : Type := Unit × (((Option ((List (Int × Int)) × (Int × Int))) × Unit) × Unit)
abbrev Y3 : Type := ((List Int) × Unit) × (Unit × Unit)
abbrev Y4 : Type := Unit × ((Int × Unit) × ((Int × Unit) × Unit))
abbrev Y5 : Type := Unit × ((Int × Unit) × (((Option Int) × Unit) × Unit))
abbrev Y6 : Type := Unit × ((Int × Unit) × ((Int × Unit) × ((Int × Unit) × Unit)))
abbrev Y7 : Type := Unit × (((List Int) × Unit) × Unit)
abbrev Y8 : Type := Unit × (((List Int) × Unit) × (((List Int) × Unit) × Unit))
abbrev Y9 : Type := Unit × ((Int × (Int × (Int × (Int × (Int × Unit))))) × Unit)
abbrev Y10 : Type := Unit × (((List Int) × Unit) × ((Int × Unit) × Unit))
abbrev Y11 : Type := (((Option Int) × Unit) × ((List Int) × Unit)) × (Unit × Unit)
abbrev Y12 : Type := Unit × ((Int × (Int × Unit)) × Unit)
abbrev Y13 : Type := Unit × (((List (Int × Int)) × Unit) × (Unit × Unit))
abbrev Y14 : Type := Unit × (((Option ((List (Int × Int)) × (Int × Int))) × Unit) × (((Option Int) × Unit) × Unit))
abbrev Y15 : Type := Unit × ((ByteArray × Unit) × ((ByteArray × Unit) × Unit))
abbrev Y16 : Type := Unit × ((ByteArray × Unit) × Unit)
abbrev Y17 : Type := ((ByteArray × (Int × ((Option Int) × Unit))) × Unit) × (Unit × Unit)
abbrev Y18 : Type := Unit × (((Option (ByteArray × (Int × (Option Int)))) × Unit) × Unit)
abbrev Y19 : Type := Unit × ((ByteArray × Unit) × ((Int × Unit) × Unit))
abbrev Y20 : Type := Unit × ((Int × Unit) × ((Int × Unit) × (((Option Int) × Unit) × Unit)))
abbrev Y21 : Type := Unit × ((ByteArray × Unit) × ((Int × Unit) × ((Int × Unit) × Unit)))
abbrev Y22 : Type := Unit × (((Option Int) × Unit) × Unit)
abbrev Y23 : Type := ((ByteArray × (Int × ((Option Int) × Unit))) × Unit) × (Unit × ((Int × Unit) × Unit))
abbrev Y24 : Type := ((ByteArray × (Int × ((Option Int) × Unit))) × Unit) × (((Option Int) × Unit) × (Unit × Unit))
abbrev Y25 : Type := ((ByteArray × (Int × ((Option Int) × Unit))) × Unit) × ((Int × Unit) × (Unit × Unit))
abbrev Y26 : Type := (((Option Int) × ((Option Int) × ((Option (Int × (Int × (Int × (Int × Int))))) × Unit))) × ((List (Int × Int)) × Unit)) × (Unit × ((ByteArray × Unit) × Unit))
abbrev Y27 : Type := (((Option Int) × ((Option Int) × ((Option (Int × (Int × (Int × (Int × Int))))) × Unit))) × ((List (Int × Int)) × Unit)) × (((Option Int) × Unit) × (Unit × Unit))
abbrev Y28 : Type := Unit × ((Bool × ((List Int) × Unit)) × ((Bool × ((List Int) × Unit)) × Unit))
abbrev Y29 : Type := Unit × ((Bool × ((List Int) × Unit)) × Unit)
abbrev Y30 : Type := Unit × (((List (Int × Int)) × (Int × (Int × Unit))) × Unit)
abbrev Cd : PSh := ⟨[], [.mk false [.v (.sl (.pair (.int .i64) (.int .i64)))]]⟩
abbrev C1 : PSh := ⟨[.row 70 (.pair (.int .i64) (.int .i64))], [.mk false [.osl 0]]⟩
def G5 (T : Unit) (d : Y0) : Option (Y1) :=
 bif d.2.1.1.isEmpty then (
 A7e (
 some ((([] : List (Int × Int)), ()), ((), ()))) (
 let x1 := ([] : List (Int × Int))
 bif decide (((x1.length + d.2.1.1.length) * 16 : Nat) <= 140737488355328) && decide (x1.length + d.2.1.1.length <= 9223372036854775807) then (
 let x2 := (x1 ++ d.2.1.1)
 some ((x2, ()), ((), ())))
 else none))
 else (
 let x3 := ([] : List (Int × Int))
 bif decide (((x3.length + d.2.1.1.length) * 16 : Nat) <= 140737488355328) && decide (x3.length + d.2.1.1.length <= 9223372036854775807) then (
 let x4 := (x3 ++ d.2.1.1)
 some ((x4, ()), ((), ())))
 else none)
def Bv := G5 ()
theorem Hu : Dv Tryz.prog ET0 57 Cd C1 Bv :=
 fn0 (E := E0) (pi := Cd) (po := C1) A7 (fn := Tryz.f57) Tryz.func57 (by kernel_rfl) (by kernel_rfl) [.tmp 2] (by kernel_rfl) rfl rfl rfl [] fun d => by kernel_rfl
def Ij := Ak Cd C1 Bv
abbrev Dq : PSh := ⟨[], [.mk false [.v (.nptr (.pair (.sl (.pair (.int .i64) (.int .i64))) (.pair (.int .i64) (.int .i64))))]]⟩
abbrev P1 : PSh := Cd
def U9 (T : Unit) (d : Y2) : Option (Y0) :=
 bif d.2.1.1.isNone then (
 some ((), ((([] : List (Int × Int)), ()), ())))
 else (
 d.2.1.1.bind fun x1 =>
 some ((), ((x1.1, ()), ())))
def Ix := U9 ()
theorem Xc : Dv Tryz.prog ET0 68 Dq P1 Ix :=
 fn0 (E := E0) (pi := Dq) (po := P1) A7 (fn := Tryz.f68) Tryz.func68 (by kernel_rfl) (by kernel_rfl) [.tmp 2] (by kernel_rfl) rfl rfl rfl [] fun d => by kernel_rfl
def Aai := Ak Dq P1 Ix
abbrev Py : PSh := Dq
abbrev P5 : PSh := C1
def Vx (T : Unit) (d : Y2) : Option (Y1) :=
 (Ix ((), d.2)).bind fun x1 =>
 (Bv ((), x1.2)).bind fun x2 =>
 some (x2.1, ((), ()))
def Ey := Vx ()
theorem W6 : Dv Tryz.prog ET0 34 Py P5 Ey :=
 fn0 (E := ((E0.add 57 Ij).add 68 Aai)) (pi := Py) (po := P5) (Ab (Ab A7 (Ae Hu)) (Ae Xc)) (fn := Tryz.f34) Tryz.func34 (by kernel_rfl) (by kernel_rfl) [.tmp 2] (by kernel_rfl) rfl rfl rfl [] fun d => by kernel_rfl
def Aak := Ak Py P5 Ey
abbrev Ks : PSh := Dq
abbrev K7 : PSh := ⟨[], [kI]⟩
def Qv (T : Unit) (d : Y2) : Option (Unit × ((Int × Unit) × Unit)) :=
 bif d.2.1.1.isNone then (
 some ((), ((0, ()), ())))
 else (
 d.2.1.1.bind fun x1 =>
 some ((), ((x1.2.1, ()), ())))
def Dn := Qv ()
theorem Sc : Dv Tryz.prog ET0 35 Ks K7 Dn :=
 fn0 (E := E0) (pi := Ks) (po := K7) A7 (fn := Tryz.f35) Tryz.func35 (by kernel_rfl) (by kernel_rfl) [.tmp 2] (by kernel_rfl) rfl rfl rfl [] fun d => by kernel_rfl
def Tx := Ak Ks K7 Dn
abbrev La : PSh := Dq
abbrev K0 : PSh := ⟨[], [kI]⟩
def Qt (T : Unit) (d : Y2) : Option (Unit × ((Int × Unit) × Unit)) :=
 bif d.2.1.1.isNone then (
 some ((), ((0, ()), ())))
 else (
 d.2.1.1.bind fun x1 =>
 some ((), ((x1.2.2, ()), ())))
def Do := Qt ()
theorem Sy : Dv Tryz.prog ET0 36 La K0 Do :=
 fn0 (E := E0) (pi := La) (po := K0) A7 (fn := Tryz.f36) Tryz.func36 (by kernel_rfl) (by kernel_rfl) [.tmp 2] (by kernel_rfl) rfl rfl rfl [] fun d => by kernel_rfl
def Ts := Ak La K0 Do
abbrev A6 : PSh := ⟨[.row 5 (.int .u8)], [.mk false [.osl 0]]⟩
abbrev Ff : PSh := A6
abbrev Ft : Type := Y3
abbrev I5 : Type := ((List Int) × Unit) × (Unit × ((Int × Unit) × ((Int × Unit) × Unit)))
abbrev Fg : Type := (((I5) -> Option (Ft)) × Unit)
abbrev Qr : PSh := ⟨[.row 5 (.int .u8)], [.mk false [.osl 0], .any, kI, kI] ++ M3 24⟩
def Cp (T : Fg) (d : I5) : Option (Ft) :=
 let x3 := (decide (d.2.2.1.1 < d.2.2.2.1.1))
 bif x3 then (
 bif decide ((0 : Int) <= d.2.2.2.1.1) && decide (d.2.2.2.1.1 < (d.1.1.length : Int)) then (
 bif decide ((0 : Int) <= d.2.2.1.1) && decide (d.2.2.1.1 < (d.1.1.length : Int)) then (
 bif decide ((0 : Int) <= d.2.2.1.1) && decide (d.2.2.1.1 < (d.1.1.length : Int)) then (
 let x4 := (List.set d.1.1 (Int.toNat d.2.2.1.1) (gd (.int .u8) d.1.1 d.2.2.2.1.1))
 bif decide ((0 : Int) <= d.2.2.2.1.1) && decide (d.2.2.2.1.1 < (x4.length : Int)) then (
 let x5 := (List.set x4 (Int.toNat d.2.2.2.1.1) (gd (.int .u8) d.1.1 d.2.2.1.1))
 let x6 := (A4 .i64 d.2.2.1.1 1)
 let x7 := (Eh .i64 d.2.2.2.1.1 1)
 (T.1 ((x5, ()), ((), ((x6, ()), ((x7, ()), ()))))))
 else none)
 else none)
 else none)
 else none)
 else (
 some (d.1, ((), ())))
def Bk : Nat -> Fg
 | 0 => (fun _ => none, ())
 | k + 1 => (Cp (Bk k), ())
theorem Fm (k : Nat) : Bk (k + 1) = (Cp (Bk k), ()) := rfl
def E3 (T : Fg) (d : Y3) : Option (Ft) :=
 let x1 := (d.1.1.length : Int)
 let x2 := (Eh .i64 x1 1)
 (T.1 (d.1, ((), ((0, ()), ((x2, ()), ())))))
def Dz (d) := lim fun k => E3 (Bk k) d
theorem Sv : Ar4 Tryz.prog ET0 134 A6 Ff 0 [(0, 0, none)] Dz :=
 Bgg (E := (E0.kp [0])) (pi := A6) (po := Ff) (Im A7) (fn := Tryz.f134) Tryz.func134 (by kernel_rfl) (by kernel_rfl) [] [(0, none)] [(0, 0, none)] (by kernel_rfl) rfl rfl rfl rfl rfl [] (fun k => [(1, ⟨Qr, (Bk k).1⟩)]) (fun _ => [])
 (.intro (fun _ => rfl) trivial) (fun k => (.intro (fun d => by kernel_rfl) trivial)) trivial (fun k => trivial) (fun k d => E3 (Bk k) d) (fun k d => by kernel_rfl)
def Td := Yh A6 Ff 0 [(0, 0, none)] Dz
abbrev R6 : PSh := ⟨[], [.mk false [.v (.int .u64)], kI]⟩
abbrev Zs : PSh := ⟨[], [kS]⟩
abbrev Aby : Type := Y16
abbrev Ag7 : Type := ((List Int) × Unit) × ((Int × Unit) × ((Int × Unit) × (Unit × Unit)))
abbrev Zz : Type := (((Ag7) -> Option (Aby)) × Unit)
abbrev Ar3 : PSh := ⟨[.row 5 (.int .u8)], [.mk false [.v (.int .u64)], kI, .any, .any, .any, .mk false [.osl 0]] ++ M3 22⟩
def Hm (T : Zz) (d : Ag7) : Option (Aby) :=
 let x1 := (decide (d.2.1.1 > (0 : Int)))
 bif x1 then (
 let x2 := (Int.tmod d.2.1.1 (10 : Int))
 let x3 := (Da .u8 x2)
 let x4 := (A4 .u8 (48 : Int) x3)
 let x5 := ([x4] : List Int)
 bif decide (((d.1.1.length + x5.length) * 1 : Nat) <= 140737488355328) && decide (d.1.1.length + x5.length <= 9223372036854775807) then (
 let x6 := (d.1.1 ++ x5)
 let x7 := (Kc .u64 d.2.1.1 (10 : Int))
 (T.1 ((x6, ()), ((x7, ()), (d.2.2.1, ((), ()))))))
 else none)
 else (
 let x8 := (d.1.1.length : Int)
 let x9 := (if (1 : Int) > d.2.2.1.1 then (1 : Int) else d.2.2.1.1)
 let x10 := (decide (x8 < x9))
 bif x10 then (
 let x11 := (Int.tmod d.2.1.1 (10 : Int))
 let x12 := (Da .u8 x11)
 let x13 := (A4 .u8 (48 : Int) x12)
 let x14 := ([x13] : List Int)
 bif decide (((d.1.1.length + x14.length) * 1 : Nat) <= 140737488355328) && decide (d.1.1.length + x14.length <= 9223372036854775807) then (
 let x15 := (d.1.1 ++ x14)
 let x16 := (Kc .u64 d.2.1.1 (10 : Int))
 (T.1 ((x15, ()), ((x16, ()), (d.2.2.1, ((), ()))))))
 else none)
 else (
 (Dz (d.1, ((), ()))).bind fun x17 =>
 let x18 := (Am x17.1.1)
 some ((), ((x18, ()), ()))))
def Gc : Nat -> Zz
 | 0 => (fun _ => none, ())
 | k + 1 => (Hm (Gc k), ())
theorem Uj (k : Nat) : Gc (k + 1) = (Hm (Gc k), ()) := rfl
def U4 (T : Zz) (d : Y4) : Option (Aby) :=
 (T.1 ((([] : List Int), ()), (d.2.1, (d.2.2.1, ((), ())))))
def Qe (d) := lim fun k => U4 (Gc k) d
theorem Awx : Dv Tryz.prog ET0 94 R6 Zs Qe :=
 fnL (E := (E0.add 134 Td)) (pi := R6) (po := Zs) (Ab A7 (Pi Sv)) (fn := Tryz.f94) Tryz.func94 (by kernel_rfl) (by kernel_rfl) [.tmp 4] (by kernel_rfl) rfl rfl rfl [] (fun k => [(3, ⟨Ar3, (Gc k).1⟩)]) (fun _ => [])
 (.intro (fun _ => rfl) trivial) (fun k => (.intro (fun d => by kernel_rfl) trivial)) trivial (fun k => trivial) (fun k d => U4 (Gc k) d) (fun k d => by kernel_rfl)
def A1x := Ak R6 Zs Qe
abbrev Zt : PSh := ⟨[], [kI, kI]⟩
abbrev Ya : PSh := ⟨[], [kS, kE]⟩
def Aeu (T : Unit) (d : Y4) : Option (Unit × ((ByteArray × Unit) × (((Option Int) × Unit) × Unit))) :=
 let x1 := (decide (d.2.2.1.1 < (0 : Int)))
 bif x1 then (
 let x2 := (some (1 : Int))
 some ((), (((⟨#[]⟩ : ByteArray), ()), ((x2, ()), ()))))
 else (
 let x3 := (decide (d.2.2.1.1 > (20 : Int)))
 bif x3 then (
 let x4 := (some (1 : Int))
 some ((), (((⟨#[]⟩ : ByteArray), ()), ((x4, ()), ()))))
 else (
 let x5 := (decide (d.2.1.1 < (0 : Int)))
 bif x5 then (
 let x6 := (Da .u64 d.2.1.1)
 let x7 := (Bpj .u64 x6)
 (Qe ((), ((x7, ()), d.2.2))).bind fun x8 =>
 bif Agn (⟨#[45]⟩ : ByteArray) x8.2.1.1 then (
 let x9 := ((⟨#[45]⟩ : ByteArray) ++ x8.2.1.1)
 some ((), ((x9, ()), (((none : Option Int), ()), ()))))
 else none)
 else (
 let x10 := (Da .u64 d.2.1.1)
 (Qe ((), ((x10, ()), d.2.2))).bind fun x11 =>
 some ((), (x11.2.1, (((none : Option Int), ()), ()))))))
def Lv := Aeu ()
theorem Aw6 : Dv Tryz.prog ET0 69 Zt Ya Lv :=
 fn0 (E := (E0.add 94 A1x)) (pi := Zt) (po := Ya) (Ab A7 (Ae Awx)) (fn := Tryz.f69) Tryz.func69 (by kernel_rfl) (by kernel_rfl) [.tmp 4, .tmp 5] (by kernel_rfl) rfl rfl rfl [] fun d => by kernel_rfl
def Az5 := Ak Zt Ya Lv
abbrev Alb : PSh := ⟨[], [kI]⟩
abbrev Aj3 : PSh := ⟨[], [kI, kE]⟩
def A24 (T : Unit) (d : Unit × ((Int × Unit) × Unit)) : Option (Y5) :=
 let x1 := (d.2.1.1 == (1 : Int))
 bif x1 then (
 some ((), ((40587, ()), (((none : Option Int), ()), ()))))
 else (
 let x2 := (d.2.1.1 == (2 : Int))
 bif x2 then (
 some ((), ((2440588, ()), (((none : Option Int), ()), ()))))
 else (
 let x3 := (d.2.1.1 == (3 : Int))
 bif x3 then (
 some ((), ((25567, ()), (((none : Option Int), ()), ()))))
 else (
 let x4 := (d.2.1.1 == (4 : Int))
 bif x4 then (
 some ((), (((-3657 : Int), ()), (((none : Option Int), ()), ()))))
 else (
 let x5 := (some (11 : Int))
 some ((), ((0, ()), ((x5, ()), ())))))))
def Uz := A24 ()
theorem Avg : Dv Tryz.prog ET0 95 Alb Aj3 Uz :=
 fn0 (E := E0) (pi := Alb) (po := Aj3) A7 (fn := Tryz.f95) Tryz.func95 (by kernel_rfl) (by kernel_rfl) [.tmp 2, .tmp 3] (by kernel_rfl) rfl rfl rfl [] fun d => by kernel_rfl
def Ax3 := Ak Alb Aj3 Uz
abbrev Aex : PSh := ⟨[], [kI, kI]⟩
abbrev Af0 : PSh := ⟨[], [kI]⟩
def Am9 (T : Unit) (d : Y4) : Option (Unit × ((Int × Unit) × Unit)) :=
 bif (d.2.2.1.1 == 0) then (
 none)
 else (
 let x1 := (Kc .i64 d.2.1.1 d.2.2.1.1)
 bif (d.2.2.1.1 == 0) then (
 none)
 else (
 let x2 := (Int.tmod d.2.1.1 d.2.2.1.1)
 let x3 := (decide (x2 < (0 : Int)))
 bif x3 then (
 let x4 := (Eh .i64 x1 1)
 some ((), ((x4, ()), ())))
 else (
 some ((), ((x1, ()), ())))))
def Nx := Am9 ()
theorem Aqv : Dv Tryz.prog ET0 107 Aex Af0 Nx :=
 fn0 (E := E0) (pi := Aex) (po := Af0) A7 (fn := Tryz.f107) Tryz.func107 (by kernel_rfl) (by kernel_rfl) [.tmp 4] (by kernel_rfl) rfl rfl rfl [] fun d => by kernel_rfl
def Aup := Ak Aex Af0 Nx
abbrev Acf : PSh := ⟨[], [kI, kI, kI]⟩
abbrev Abn : PSh := ⟨[], [kI]⟩
def Ais (T : Unit) (d : Y6) : Option (Unit × ((Int × Unit) × Unit)) :=
 let x1 := (decide (d.2.2.1.1 <= (2 : Int)))
 bif x1 then (
 let x2 := (Eh .i64 d.2.1.1 1)
 let x3 := (A4 .i64 d.2.2.1.1 12)
 (Nx ((), ((x2, ()), ((400, ()), ())))).bind fun x4 =>
 let x5 := (Qi .i64 x4.2.1.1 400)
 let x6 := (Eh .i64 x2 x5)
 let x7 := (Eh .i64 x3 3)
 let x8 := (Qi .i64 (153 : Int) x7)
 let x9 := (A4 .i64 x8 2)
 let x10 := (Kc .i64 x9 (5 : Int))
 let x11 := (A4 .i64 x10 d.2.2.2.1.1)
 let x12 := (Eh .i64 x11 1)
 let x13 := (Qi .i64 x4.2.1.1 146097)
 let x14 := (Qi .i64 x6 365)
 let x15 := (A4 .i64 x13 x14)
 let x16 := (Kc .i64 x6 (4 : Int))
 let x17 := (A4 .i64 x15 x16)
 let x18 := (Kc .i64 x6 (100 : Int))
 let x19 := (Eh .i64 x17 x18)
 let x20 := (A4 .i64 x19 x12)
 let x21 := (Eh .i64 x20 719468)
 some ((), ((x21, ()), ())))
 else (
 (Nx ((), (d.2.1, ((400, ()), ())))).bind fun x22 =>
 let x23 := (Qi .i64 x22.2.1.1 400)
 let x24 := (Eh .i64 d.2.1.1 x23)
 let x25 := (Eh .i64 d.2.2.1.1 3)
 let x26 := (Qi .i64 (153 : Int) x25)
 let x27 := (A4 .i64 x26 2)
 let x28 := (Kc .i64 x27 (5 : Int))
 let x29 := (A4 .i64 x28 d.2.2.2.1.1)
 let x30 := (Eh .i64 x29 1)
 let x31 := (Qi .i64 x22.2.1.1 146097)
 let x32 := (Qi .i64 x24 365)
 let x33 := (A4 .i64 x31 x32)
 let x34 := (Kc .i64 x24 (4 : Int))
 let x35 := (A4 .i64 x33 x34)
 let x36 := (Kc .i64 x24 (100 : Int))
 let x37 := (Eh .i64 x35 x36)
 let x38 := (A4 .i64 x37 x30)
 let x39 := (Eh .i64 x38 719468)
 some ((), ((x39, ()), ())))
def Ob := Ais ()
theorem Ang : Dv Tryz.prog ET0 135 Acf Abn Ob :=
 fn0 (E := (E0.add 107 Aup)) (pi := Acf) (po := Abn) (Ab A7 (Ae Aqv)) (fn := Tryz.f135) Tryz.func135 (by kernel_rfl) (by kernel_rfl) [.tmp 6] (by kernel_rfl) rfl rfl rfl [] fun d => by kernel_rfl
def Aqy := Ak Acf Abn Ob
abbrev Afg : PSh := ⟨[], []⟩
abbrev Afv : PSh := ⟨[], [kI]⟩
def Al9 (T : Unit) (d : Unit × Unit) : Option (Unit × ((Int × Unit) × Unit)) :=
 (Ob ((), (((-9999 : Int), ()), ((1, ()), ((1, ()), ()))))).bind fun x1 =>
 some ((), x1.2)
def Nw := Al9 ()
theorem Ahi : Dv Tryz.prog ET0 105 Afg Afv Nw :=
 fn0 (E := (E0.add 135 Aqy)) (pi := Afg) (po := Afv) (Ab A7 (Ae Ang)) (fn := Tryz.f105) Tryz.func105 (by kernel_rfl) (by kernel_rfl) [.tmp 0] (by kernel_rfl) rfl rfl rfl [] fun d => by kernel_rfl
def Aks := Ak Afg Afv Nw
abbrev Ak7 : PSh := ⟨[], []⟩
abbrev Aky : PSh := ⟨[], [kI]⟩
def Aq5 (T : Unit) (d : Unit × Unit) : Option (Unit × ((Int × Unit) × Unit)) :=
 (Ob ((), ((9999, ()), ((12, ()), ((31, ()), ()))))).bind fun x1 =>
 some ((), x1.2)
def Rg := Aq5 ()
theorem Ak4 : Dv Tryz.prog ET0 106 Ak7 Aky Rg :=
 fn0 (E := (E0.add 135 Aqy)) (pi := Ak7) (po := Aky) (Ab A7 (Ae Ang)) (fn := Tryz.f106) Tryz.func106 (by kernel_rfl) (by kernel_rfl) [.tmp 0] (by kernel_rfl) rfl rfl rfl [] fun d => by kernel_rfl
def Ao0 := Ak Ak7 Aky Rg
abbrev Ag8 : PSh := ⟨[], [kI]⟩
abbrev Ae6 : PSh := ⟨[], [kB]⟩
def Anw (T : Unit) (d : Unit × ((Int × Unit) × Unit)) : Option (Unit × ((Bool × Unit) × Unit)) :=
 (Nw ((), ())).bind fun x1 =>
 let x2 := (decide (d.2.1.1 >= x1.2.1.1))
 bif x2 then (
 (Rg ((), ())).bind fun x3 =>
 let x4 := (decide (d.2.1.1 <= x3.2.1.1))
 some ((), ((x4, ()), ())))
 else (
 some ((), ((false, ()), ())))
def Vg := Anw ()
theorem A39 : Dv Tryz.prog ET0 96 Ag8 Ae6 Vg :=
 fn0 (E := ((E0.add 105 Aks).add 106 Ao0)) (pi := Ag8) (po := Ae6) (Ab (Ab A7 (Ae Ahi)) (Ae Ak4)) (fn := Tryz.f96) Tryz.func96 (by kernel_rfl) (by kernel_rfl) [.tmp 2] (by kernel_rfl) rfl rfl rfl [] fun d => by kernel_rfl
def A6y := Ak Ag8 Ae6 Vg
abbrev Agx : PSh := ⟨[], [kI, kI]⟩
abbrev Agm : PSh := ⟨[], [kI, kE]⟩
def Anx (T : Unit) (d : Y4) : Option (Y5) :=
 (Uz ((), (d.2.1, ()))).bind fun x1 =>
 let x2 := (!x1.2.2.1.1.isNone)
 bif x2 then (
 some ((), ((0, ()), x1.2.2)))
 else (
 (Vg ((), d.2.2)).bind fun x3 =>
 let x4 := (!x3.2.1.1)
 bif x4 then (
 let x5 := (some (13 : Int))
 some ((), ((0, ()), ((x5, ()), ()))))
 else (
 let x6 := (A4 .i64 d.2.2.1.1 x1.2.1.1)
 some ((), ((x6, ()), (((none : Option Int), ()), ())))))
def Vb := Anx ()
theorem A3h : Dv Tryz.prog ET0 70 Agx Agm Vb :=
 fn0 (E := ((E0.add 95 Ax3).add 96 A6y)) (pi := Agx) (po := Agm) (Ab (Ab A7 (Ae Avg)) (Ae A39)) (fn := Tryz.f70) Tryz.func70 (by kernel_rfl) (by kernel_rfl) [.tmp 4, .tmp 5] (by kernel_rfl) rfl rfl rfl [] fun d => by kernel_rfl
def A79 := Ak Agx Agm Vb
abbrev O5 : PSh := ⟨[], []⟩
abbrev O2 : PSh := ⟨[], [kI]⟩
abbrev V6 : Type := Y4
abbrev Oy : Type := (((V6) -> Option (Unit × ((Int × Unit) × Unit))) × Unit)
abbrev Ain : PSh := ⟨[], [.any, kI, .mk false [.v (.int .u32)]] ++ M3 11⟩
def Aih (T : Oy) (d : V6) : Option (Unit × ((Int × Unit) × Unit)) :=
 let x3 := (decide (d.2.2.1.1 > (0 : Int)))
 bif x3 then (
 let x4 := (A4 .i64 d.2.1.1 1)
 let x5 := (Da .u64 d.2.2.1.1)
 let x6 := (Bic .u64 x5 (8 : Int))
 let x7 := (Da .u32 x6)
 (T.1 ((), ((x4, ()), ((x7, ()), ())))))
 else (
 some ((), (d.2.1, ())))
def Jq : Nat -> Oy
 | 0 => (fun _ => none, ())
 | k + 1 => (Aih (Jq k), ())
def Wd (T : Oy) (d : Unit × Unit) : Option (Unit × ((Int × Unit) × Unit)) :=
 let x1 := (Da .u32 (0 : Int))
 let x2 := (Bos .u32 x1)
 (T.1 ((), ((0, ()), ((x2, ()), ()))))
def Lm (d) := lim fun k => Wd (Jq k) d
theorem Al3 : Dv Tryz.prog ET0 91 O5 O2 Lm :=
 fnL (E := E0) (pi := O5) (po := O2) A7 (fn := Tryz.f91) Tryz.func91 (by kernel_rfl) (by kernel_rfl) [.tmp 0] (by kernel_rfl) rfl rfl rfl [] (fun k => [(4, ⟨Ain, (Jq k).1⟩)]) (fun _ => [])
 (.intro (fun _ => rfl) trivial) (fun k => (.intro (fun d => by kernel_rfl) trivial)) trivial (fun k => trivial) (fun k d => Wd (Jq k) d) (fun k d => by kernel_rfl)
def Apj := Ak O5 O2 Lm
abbrev Cm : PSh := ⟨[], [.mk false [.v (.sl (.int .u8))]]⟩
abbrev Ie : PSh := A6
def L7 (T : Unit) (d : Y7) : Option (Y3) :=
 bif d.2.1.1.isEmpty then (
 A7e (
 some ((([] : List Int), ()), ((), ()))) (
 let x1 := ([] : List Int)
 bif decide (((x1.length + d.2.1.1.length) * 1 : Nat) <= 140737488355328) && decide (x1.length + d.2.1.1.length <= 9223372036854775807) then (
 let x2 := (x1 ++ d.2.1.1)
 some ((x2, ()), ((), ())))
 else none))
 else (
 let x3 := ([] : List Int)
 bif decide (((x3.length + d.2.1.1.length) * 1 : Nat) <= 140737488355328) && decide (x3.length + d.2.1.1.length <= 9223372036854775807) then (
 let x4 := (x3 ++ d.2.1.1)
 some ((x4, ()), ((), ())))
 else none)
def C7 := L7 ()
theorem Mw : Dv Tryz.prog ET0 92 Cm Ie C7 :=
 fn0 (E := E0) (pi := Cm) (po := Ie) A7 (fn := Tryz.f92) Tryz.func92 (by kernel_rfl) (by kernel_rfl) [.tmp 2] (by kernel_rfl) rfl rfl rfl [] fun d => by kernel_rfl
def Og := Ak Cm Ie C7
abbrev Re : PSh := ⟨[], [.mk false [.v (.sl (.int .u8))], .mk false [.v (.sl (.int .u32))]]⟩
abbrev Lx : PSh := A6
abbrev J3 : Type := Y3
abbrev Qm : Type := ((List Int) × Unit) × ((Int × Unit) × (Unit × (((List Int) × Unit) × ((Int × Unit) × ((Int × Unit) × Unit)))))
abbrev Np : Type := ((List Int) × Unit) × ((Int × Unit) × (Unit × ((Int × Unit) × ((Int × Unit) × (((List Int) × Unit) × ((Int × Unit) × ((Int × Unit) × Unit)))))))
abbrev L2 : Type := (((Qm) -> Option (J3)) × (((Np) -> Option (J3)) × Unit))
abbrev Alj : PSh := ⟨[.row 5 (.int .u8)], [.any, .any, .any, .any, .any, kI, .mk false [.osl 0], .any, .any, .any, .any, .any, .any, .mk false [.v (.sl (.int .u32))], kI, kI] ++ M3 20⟩
abbrev Aim : PSh := ⟨[.row 5 (.int .u8)], [.any, .any, .any, .any, .any, kI, .mk false [.osl 0], .any, .mk false [.v (.int .u32)], kI, .any, .any, .any, .mk false [.v (.sl (.int .u32))], kI, kI] ++ M3 20⟩
def Ju (T : L2) (d : Qm) : Option (J3) :=
 let x4 := (decide (d.2.2.2.2.2.1.1 < d.2.2.2.2.1.1))
 bif x4 then (
 bif decide ((0 : Int) <= d.2.2.2.2.2.1.1) && decide (d.2.2.2.2.2.1.1 < (d.2.2.2.1.1.length : Int)) then (
 let x5 := (Eh .i64 d.2.1.1 1)
 (T.2.1 (d.1, (d.2.1, ((), (((gd (.int .u32) d.2.2.2.1.1 d.2.2.2.2.2.1.1), ()), ((x5, ()), d.2.2.2)))))))
 else none)
 else (
 some (d.1, ((), ())))
def Iq (T : L2) (d : Np) : Option (J3) :=
 let x6 := (decide (d.2.2.2.2.1.1 >= (0 : Int)))
 bif x6 then (
 let x7 := (Da .u64 d.2.2.2.1.1)
 let x8 := (Qi .i64 (8 : Int) d.2.2.2.2.1.1)
 bif decide (x8 < 0) then (
 none)
 else (
 let x9 := (Bic .u64 x7 x8)
 let x10 := (Da .u8 x9)
 let x11 := ([x10] : List Int)
 bif decide (((d.1.1.length + x11.length) * 1 : Nat) <= 140737488355328) && decide (d.1.1.length + x11.length <= 9223372036854775807) then (
 let x12 := (d.1.1 ++ x11)
 let x13 := (Eh .i64 d.2.2.2.2.1.1 1)
 (T.2.1 ((x12, ()), (d.2.1, ((), (d.2.2.2.1, ((x13, ()), d.2.2.2.2.2)))))))
 else none))
 else (
 let x14 := (A4 .i64 d.2.2.2.2.2.2.2.1.1 1)
 (T.1 (d.1, (d.2.1, ((), (d.2.2.2.2.2.1, (d.2.2.2.2.2.2.1, ((x14, ()), ()))))))))
def Bw : Nat -> L2
 | 0 => (fun _ => none, (fun _ => none, ()))
 | k + 1 => (Ju (Bw k), (Iq (Bw k), ()))
theorem Nm (k : Nat) : Bw (k + 1) = (Ju (Bw k), (Iq (Bw k), ())) := rfl
def Pv (T : L2) (d : Y8) : Option (J3) :=
 (Lm ((), ())).bind fun x1 =>
 (C7 ((), (d.2.1, ()))).bind fun x2 =>
 let x3 := (d.2.2.1.1.length : Int)
 (T.1 (x2.1, (x1.2.1, ((), (d.2.2.1, ((x3, ()), ((0, ()), ())))))))
def J1 (d) := lim fun k => Pv (Bw k) d
theorem Ao7 : Dv Tryz.prog ET0 62 Re Lx J1 :=
 fnL (E := ((E0.add 91 Apj).add 92 Og)) (pi := Re) (po := Lx) (Ab (Ab A7 (Ae Al3)) (Ae Mw)) (fn := Tryz.f62) Tryz.func62 (by kernel_rfl) (by kernel_rfl) [.tmp 4] (by kernel_rfl) rfl rfl rfl [] (fun k => [(5, ⟨Alj, (Bw k).1⟩), (11, ⟨Aim, (Bw k).2.1⟩)]) (fun _ => [])
 (.intro (fun _ => rfl) (.intro (fun _ => rfl) trivial)) (fun k => (.intro (fun d => by kernel_rfl) (.intro (fun d => by kernel_rfl) trivial))) trivial (fun k => trivial) (fun k d => Pv (Bw k) d) (fun k d => by kernel_rfl)
def Arv := Ak Re Lx J1
abbrev Je : PSh := ⟨[], [.mk true [.v (.int .u32), .v (.int .u32), .v (.int .u32), .v (.int .u32), .v (.int .u32)]]⟩
abbrev Xu : PSh := ⟨[], [.mk true [v8, v8, v8, v8, v8, v8, v8, v8, v8, v8, v8, v8, v8, v8, v8, v8, v8, v8, v8, v8]]⟩
def Az9 (T : Unit) (d : Y9) : Option (Unit × ((Int × (Int × (Int × (Int × (Int × (Int × (Int × (Int × (Int × (Int × (Int × (Int × (Int × (Int × (Int × (Int × (Int × (Int × (Int × (Int × Unit)))))))))))))))))))) × Unit)) :=
 let x1 := (d.2.1.1, (d.2.1.2.1, (d.2.1.2.2.1, (d.2.1.2.2.2.1, d.2.1.2.2.2.2.1))))
 let x2 := ([x1.1, x1.2.1, x1.2.2.1, x1.2.2.2.1, x1.2.2.2.2] : List Int)
 (J1 ((), ((([] : List Int), ()), ((x2, ()), ())))).bind fun x3 =>
 bif decide ((20 : Int) <= x3.1.1.length) then (
 let x4 := ((gd (.int .u8) x3.1.1 (0 : Int)), ((gd (.int .u8) x3.1.1 (1 : Int)), ((gd (.int .u8) x3.1.1 (2 : Int)), ((gd (.int .u8) x3.1.1 (3 : Int)), ((gd (.int .u8) x3.1.1 (4 : Int)), ((gd (.int .u8) x3.1.1 (5 : Int)), ((gd (.int .u8) x3.1.1 (6 : Int)), ((gd (.int .u8) x3.1.1 (7 : Int)), ((gd (.int .u8) x3.1.1 (8 : Int)), ((gd (.int .u8) x3.1.1 (9 : Int)), ((gd (.int .u8) x3.1.1 (10 : Int)), ((gd (.int .u8) x3.1.1 (11 : Int)), ((gd (.int .u8) x3.1.1 (12 : Int)), ((gd (.int .u8) x3.1.1 (13 : Int)), ((gd (.int .u8) x3.1.1 (14 : Int)), ((gd (.int .u8) x3.1.1 (15 : Int)), ((gd (.int .u8) x3.1.1 (16 : Int)), ((gd (.int .u8) x3.1.1 (17 : Int)), ((gd (.int .u8) x3.1.1 (18 : Int)), (gd (.int .u8) x3.1.1 (19 : Int)))))))))))))))))))))
 some ((), ((x4.1, (x4.2.1, (x4.2.2.1, (x4.2.2.2.1, (x4.2.2.2.2.1, (x4.2.2.2.2.2.1, (x4.2.2.2.2.2.2.1, (x4.2.2.2.2.2.2.2.1, (x4.2.2.2.2.2.2.2.2.1, (x4.2.2.2.2.2.2.2.2.2.1, (x4.2.2.2.2.2.2.2.2.2.2.1, (x4.2.2.2.2.2.2.2.2.2.2.2.1, (x4.2.2.2.2.2.2.2.2.2.2.2.2.1, (x4.2.2.2.2.2.2.2.2.2.2.2.2.2.1, (x4.2.2.2.2.2.2.2.2.2.2.2.2.2.2.1, (x4.2.2.2.2.2.2.2.2.2.2.2.2.2.2.2.1, (x4.2.2.2.2.2.2.2.2.2.2.2.2.2.2.2.2.1, (x4.2.2.2.2.2.2.2.2.2.2.2.2.2.2.2.2.2.1, (x4.2.2.2.2.2.2.2.2.2.2.2.2.2.2.2.2.2.2.1, (x4.2.2.2.2.2.2.2.2.2.2.2.2.2.2.2.2.2.2.2, ())))))))))))))))))))), ())))
 else none
def K1 := Az9 ()
theorem Aql : Dv Tryz.prog ET0 30 Je Xu K1 :=
 fn0 (E := ((E0.add 62 Arv).fr [(3, [1]), (5, [4])])) (pi := Je) (po := Xu) (Wz (Ab A7 (Ae Ao7))) (fn := Tryz.f30) Tryz.func30 (by kernel_rfl) (by kernel_rfl) [.cell 2 53] (by kernel_rfl) rfl rfl rfl [] fun d => by kernel_rfl
def Aui := Ak Je Xu K1
abbrev Ach : PSh := ⟨[], []⟩
abbrev Ac4 : PSh := Je
def Awa (T : Unit) (d : Unit × Unit) : Option (Y9) :=
 some ((), (((1732584193 : Int), ((4023233417 : Int), ((2562383102 : Int), ((271733878 : Int), (3285377520, ()))))), ()))
def Afm := Awa ()
theorem A10 : Dv Tryz.prog ET0 72 Ach Ac4 Afm :=
 fn0 (E := E0) (pi := Ach) (po := Ac4) A7 (fn := Tryz.f72) Tryz.func72 (by kernel_rfl) (by kernel_rfl) [.cell 0 36] (by kernel_rfl) rfl rfl rfl [] fun d => by kernel_rfl
def A3z := Ak Ach Ac4 Afm
abbrev H8 : PSh := ⟨[], [.mk false [.v (.sl (.int .u8))], kI]⟩
abbrev H9 : PSh := ⟨[.var 63 [.v (.sl (.int .u8))], .var 3 [vI]], [.mk false [.fn 97 [0, 1]]]⟩
def L6 (T : Unit) (d : Y10) : Option ((((List Int) × Unit) × ((Int × Unit) × Unit)) × (Unit × Unit)) :=
 let x1 := (decide (d.2.2.1.1 < (1 : Int)))
 bif x1 then (
 none)
 else (
 some (d.2, ((), ())))
def Cq := L6 ()
theorem Zd : Dv Tryz.prog ET0 73 H8 H9 Cq :=
 fn0 (E := E0) (pi := H8) (po := H9) A7 (fn := Tryz.f73) Tryz.func73 (by kernel_rfl) (by kernel_rfl) [.tmp 4] (by kernel_rfl) rfl rfl rfl [] fun d => by kernel_rfl
def Aar := Ak H8 H9 Cq
abbrev E8 : PSh := ⟨[], [.mk false [.v (.int .u32)], kI]⟩
abbrev E4 : PSh := ⟨[], [.mk false [.v (.int .u32)]]⟩
def Ww (T : Unit) (d : Y4) : Option (Unit × ((Int × Unit) × Unit)) :=
 let x1 := (Da .u64 d.2.2.1.1)
 let x2 := (Aw7 .u64 x1 (31 : Int))
 bif decide (x2 < 0) then (
 none)
 else (
 let x3 := (A2b .u32 d.2.1.1 x2)
 let x4 := (Eh .u64 (32 : Int) x2)
 bif decide (x4 < 0) then (
 none)
 else (
 let x5 := (Bic .u32 d.2.1.1 x4)
 let x6 := (ior .u32 x3 x5)
 some ((), ((x6, ()), ()))))
def Bf := Ww ()
theorem Mk : Dv Tryz.prog ET0 100 E8 E4 Bf :=
 fn0 (E := E0) (pi := E8) (po := E4) A7 (fn := Tryz.f100) Tryz.func100 (by kernel_rfl) (by kernel_rfl) [.tmp 4] (by kernel_rfl) rfl rfl rfl [] fun d => by kernel_rfl
def Ok := Ak E8 E4 Bf
abbrev Ta : PSh := ⟨[], [.mk true [v8, v8, v8, v8, v8, v8, v8, v8, v8, v8, v8, v8, v8, v8, v8, v8, v8, v8, v8, v8, v8, v8, v8, v8, v8, v8, v8, v8, v8, v8, v8, v8, v8, v8, v8, v8, v8, v8, v8, v8, v8, v8, v8, v8, v8, v8, v8, v8, v8, v8, v8, v8, v8, v8, v8, v8, v8, v8, v8, v8, v8, v8, v8, v8]]⟩
abbrev S6 : PSh := ⟨[], [.mk true [.v (.int .u32), .v (.int .u32), .v (.int .u32), .v (.int .u32), .v (.int .u32), .v (.int .u32), .v (.int .u32), .v (.int .u32), .v (.int .u32), .v (.int .u32), .v (.int .u32), .v (.int .u32), .v (.int .u32), .v (.int .u32), .v (.int .u32), .v (.int .u32), .v (.int .u32), .v (.int .u32), .v (.int .u32), .v (.int .u32), .v (.int .u32), .v (.int .u32), .v (.int .u32), .v (.int .u32), .v (.int .u32), .v (.int .u32), .v (.int .u32), .v (.int .u32), .v (.int .u32), .v (.int .u32), .v (.int .u32), .v (.int .u32), .v (.int .u32), .v (.int .u32), .v (.int .u32), .v (.int .u32), .v (.int .u32), .v (.int .u32), .v (.int .u32), .v (.int .u32), .v (.int .u32), .v (.int .u32), .v (.int .u32), .v (.int .u32), .v (.int .u32), .v (.int .u32), .v (.int .u32), .v (.int .u32), .v (.int .u32), .v (.int .u32), .v (.int .u32), .v (.int .u32), .v (.int .u32), .v (.int .u32), .v (.int .u32), .v (.int .u32), .v (.int .u32), .v (.int .u32), .v (.int .u32), .v (.int .u32), .v (.int .u32), .v (.int .u32), .v (.int .u32), .v (.int .u32), .v (.int .u32), .v (.int .u32), .v (.int .u32), .v (.int .u32), .v (.int .u32), .v (.int .u32), .v (.int .u32), .v (.int .u32), .v (.int .u32), .v (.int .u32), .v (.int .u32), .v (.int .u32), .v (.int .u32), .v (.int .u32), .v (.int .u32), .v (.int .u32)]]⟩
abbrev Vi : Type := Unit × ((Int × (Int × (Int × (Int × (Int × (Int × (Int × (Int × (Int × (Int × (Int × (Int × (Int × (Int × (Int × (Int × (Int × (Int × (Int × (Int × (Int × (Int × (Int × (Int × (Int × (Int × (Int × (Int × (Int × (Int × (Int × (Int × (Int × (Int × (Int × (Int × (Int × (Int × (Int × (Int × (Int × (Int × (Int × (Int × (Int × (Int × (Int × (Int × (Int × (Int × (Int × (Int × (Int × (Int × (Int × (Int × (Int × (Int × (Int × (Int × (Int × (Int × (Int × (Int × (Int × (Int × (Int × (Int × (Int × (Int × (Int × (Int × (Int × (Int × (Int × (Int × (Int × (Int × (Int × (Int × Unit)))))))))))))))))))))))))))))))))))))))))))))))))))))))))))))))))))))))))))))))) × Unit)
abbrev Aae : Type := ((List Int) × ((List Int) × ((List Int) × Unit))) × (Unit × (Unit × (Unit × ((Int × Unit) × Unit))))
abbrev Ka : Type := (((Aae) -> Option (Vi)) × Unit)
abbrev Amj : PSh := ⟨[.row 135 (.int .u8), .row 152 (.int .u32), .row 152 (.int .u32)], [.any, .mk false [.opt 0], .mk false [.opt 1], .mk false [.opt 2], .any, .any, kI] ++ M3 57⟩
def Kn (T : Ka) (d : Aae) : Option (Vi) :=
 let x4 := (decide (d.2.2.2.2.1.1 < (80 : Int)))
 bif x4 then (
 let x5 := (decide (d.2.2.2.2.1.1 < (16 : Int)))
 bif x5 then (
 let x6 := (Qi .i64 (4 : Int) d.2.2.2.2.1.1)
 bif decide ((0 : Int) <= x6) && decide (x6 < (64 : Int)) && decide (x6 < (d.1.1.length : Int)) then (
 let x7 := (Da .u32 (gd (.int .u8) d.1.1 x6))
 let x8 := (A2b .u32 x7 (24 : Int))
 let x9 := (A4 .i64 x6 1)
 bif decide ((0 : Int) <= x9) && decide (x9 < (64 : Int)) && decide (x9 < (d.1.1.length : Int)) then (
 let x10 := (Da .u32 (gd (.int .u8) d.1.1 x9))
 let x11 := (A2b .u32 x10 (16 : Int))
 let x12 := (ior .u32 x8 x11)
 let x13 := (A4 .i64 x6 2)
 bif decide ((0 : Int) <= x13) && decide (x13 < (64 : Int)) && decide (x13 < (d.1.1.length : Int)) then (
 let x14 := (Da .u32 (gd (.int .u8) d.1.1 x13))
 let x15 := (A2b .u32 x14 (8 : Int))
 let x16 := (ior .u32 x12 x15)
 let x17 := (A4 .i64 x6 3)
 bif decide ((0 : Int) <= x17) && decide (x17 < (64 : Int)) && decide (x17 < (d.1.1.length : Int)) then (
 let x18 := (Da .u32 (gd (.int .u8) d.1.1 x17))
 let x19 := (ior .u32 x16 x18)
 bif decide ((0 : Int) <= d.2.2.2.2.1.1) && decide (d.2.2.2.2.1.1 < (80 : Int)) && decide (d.2.2.2.2.1.1 < (d.1.2.2.1.length : Int)) then (
 let x20 := (List.set d.1.2.2.1 (Int.toNat d.2.2.2.2.1.1) x19)
 let x21 := (A4 .i64 d.2.2.2.2.1.1 1)
 (T.1 ((d.1.1, (d.1.2.1, (x20, ()))), ((), ((), ((), ((x21, ()), ())))))))
 else none)
 else none)
 else none)
 else none)
 else none)
 else (
 let x22 := (Eh .i64 d.2.2.2.2.1.1 3)
 bif decide ((0 : Int) <= x22) && decide (x22 < (80 : Int)) && decide (x22 < (d.1.2.2.1.length : Int)) then (
 let x23 := (Eh .i64 d.2.2.2.2.1.1 8)
 bif decide ((0 : Int) <= x23) && decide (x23 < (80 : Int)) && decide (x23 < (d.1.2.2.1.length : Int)) then (
 let x24 := (Ahz .u32 (gd (.int .u32) d.1.2.2.1 x22) (gd (.int .u32) d.1.2.2.1 x23))
 let x25 := (Eh .i64 d.2.2.2.2.1.1 14)
 bif decide ((0 : Int) <= x25) && decide (x25 < (80 : Int)) && decide (x25 < (d.1.2.2.1.length : Int)) then (
 let x26 := (Ahz .u32 x24 (gd (.int .u32) d.1.2.2.1 x25))
 let x27 := (Eh .i64 d.2.2.2.2.1.1 16)
 bif decide ((0 : Int) <= x27) && decide (x27 < (80 : Int)) && decide (x27 < (d.1.2.2.1.length : Int)) then (
 let x28 := (Ahz .u32 x26 (gd (.int .u32) d.1.2.2.1 x27))
 (Bf ((), ((x28, ()), ((1, ()), ())))).bind fun x29 =>
 bif decide ((0 : Int) <= d.2.2.2.2.1.1) && decide (d.2.2.2.2.1.1 < (80 : Int)) && decide (d.2.2.2.2.1.1 < (d.1.2.2.1.length : Int)) then (
 let x30 := (List.set d.1.2.2.1 (Int.toNat d.2.2.2.2.1.1) x29.2.1.1)
 let x31 := (A4 .i64 d.2.2.2.2.1.1 1)
 (T.1 ((d.1.1, (d.1.2.1, (x30, ()))), ((), ((), ((), ((x31, ()), ())))))))
 else none)
 else none)
 else none)
 else none)
 else none))
 else (
 bif decide ((80 : Int) <= (d.1.2.2.1.length : Int)) then (
 bif decide ((d.1.2.1.length : Int) = (80 : Int)) then (
 let x32 := ([(gd (.int .u32) d.1.2.2.1 (0 : Int)), (gd (.int .u32) d.1.2.2.1 (1 : Int)), (gd (.int .u32) d.1.2.2.1 (2 : Int)), (gd (.int .u32) d.1.2.2.1 (3 : Int)), (gd (.int .u32) d.1.2.2.1 (4 : Int)), (gd (.int .u32) d.1.2.2.1 (5 : Int)), (gd (.int .u32) d.1.2.2.1 (6 : Int)), (gd (.int .u32) d.1.2.2.1 (7 : Int)), (gd (.int .u32) d.1.2.2.1 (8 : Int)), (gd (.int .u32) d.1.2.2.1 (9 : Int)), (gd (.int .u32) d.1.2.2.1 (10 : Int)), (gd (.int .u32) d.1.2.2.1 (11 : Int)), (gd (.int .u32) d.1.2.2.1 (12 : Int)), (gd (.int .u32) d.1.2.2.1 (13 : Int)), (gd (.int .u32) d.1.2.2.1 (14 : Int)), (gd (.int .u32) d.1.2.2.1 (15 : Int)), (gd (.int .u32) d.1.2.2.1 (16 : Int)), (gd (.int .u32) d.1.2.2.1 (17 : Int)), (gd (.int .u32) d.1.2.2.1 (18 : Int)), (gd (.int .u32) d.1.2.2.1 (19 : Int)), (gd (.int .u32) d.1.2.2.1 (20 : Int)), (gd (.int .u32) d.1.2.2.1 (21 : Int)), (gd (.int .u32) d.1.2.2.1 (22 : Int)), (gd (.int .u32) d.1.2.2.1 (23 : Int)), (gd (.int .u32) d.1.2.2.1 (24 : Int)), (gd (.int .u32) d.1.2.2.1 (25 : Int)), (gd (.int .u32) d.1.2.2.1 (26 : Int)), (gd (.int .u32) d.1.2.2.1 (27 : Int)), (gd (.int .u32) d.1.2.2.1 (28 : Int)), (gd (.int .u32) d.1.2.2.1 (29 : Int)), (gd (.int .u32) d.1.2.2.1 (30 : Int)), (gd (.int .u32) d.1.2.2.1 (31 : Int)), (gd (.int .u32) d.1.2.2.1 (32 : Int)), (gd (.int .u32) d.1.2.2.1 (33 : Int)), (gd (.int .u32) d.1.2.2.1 (34 : Int)), (gd (.int .u32) d.1.2.2.1 (35 : Int)), (gd (.int .u32) d.1.2.2.1 (36 : Int)), (gd (.int .u32) d.1.2.2.1 (37 : Int)), (gd (.int .u32) d.1.2.2.1 (38 : Int)), (gd (.int .u32) d.1.2.2.1 (39 : Int)), (gd (.int .u32) d.1.2.2.1 (40 : Int)), (gd (.int .u32) d.1.2.2.1 (41 : Int)), (gd (.int .u32) d.1.2.2.1 (42 : Int)), (gd (.int .u32) d.1.2.2.1 (43 : Int)), (gd (.int .u32) d.1.2.2.1 (44 : Int)), (gd (.int .u32) d.1.2.2.1 (45 : Int)), (gd (.int .u32) d.1.2.2.1 (46 : Int)), (gd (.int .u32) d.1.2.2.1 (47 : Int)), (gd (.int .u32) d.1.2.2.1 (48 : Int)), (gd (.int .u32) d.1.2.2.1 (49 : Int)), (gd (.int .u32) d.1.2.2.1 (50 : Int)), (gd (.int .u32) d.1.2.2.1 (51 : Int)), (gd (.int .u32) d.1.2.2.1 (52 : Int)), (gd (.int .u32) d.1.2.2.1 (53 : Int)), (gd (.int .u32) d.1.2.2.1 (54 : Int)), (gd (.int .u32) d.1.2.2.1 (55 : Int)), (gd (.int .u32) d.1.2.2.1 (56 : Int)), (gd (.int .u32) d.1.2.2.1 (57 : Int)), (gd (.int .u32) d.1.2.2.1 (58 : Int)), (gd (.int .u32) d.1.2.2.1 (59 : Int)), (gd (.int .u32) d.1.2.2.1 (60 : Int)), (gd (.int .u32) d.1.2.2.1 (61 : Int)), (gd (.int .u32) d.1.2.2.1 (62 : Int)), (gd (.int .u32) d.1.2.2.1 (63 : Int)), (gd (.int .u32) d.1.2.2.1 (64 : Int)), (gd (.int .u32) d.1.2.2.1 (65 : Int)), (gd (.int .u32) d.1.2.2.1 (66 : Int)), (gd (.int .u32) d.1.2.2.1 (67 : Int)), (gd (.int .u32) d.1.2.2.1 (68 : Int)), (gd (.int .u32) d.1.2.2.1 (69 : Int)), (gd (.int .u32) d.1.2.2.1 (70 : Int)), (gd (.int .u32) d.1.2.2.1 (71 : Int)), (gd (.int .u32) d.1.2.2.1 (72 : Int)), (gd (.int .u32) d.1.2.2.1 (73 : Int)), (gd (.int .u32) d.1.2.2.1 (74 : Int)), (gd (.int .u32) d.1.2.2.1 (75 : Int)), (gd (.int .u32) d.1.2.2.1 (76 : Int)), (gd (.int .u32) d.1.2.2.1 (77 : Int)), (gd (.int .u32) d.1.2.2.1 (78 : Int)), (gd (.int .u32) d.1.2.2.1 (79 : Int))] : List Int)
 some ((), (((gd (.int .u32) x32 (0 : Int)), ((gd (.int .u32) x32 (1 : Int)), ((gd (.int .u32) x32 (2 : Int)), ((gd (.int .u32) x32 (3 : Int)), ((gd (.int .u32) x32 (4 : Int)), ((gd (.int .u32) x32 (5 : Int)), ((gd (.int .u32) x32 (6 : Int)), ((gd (.int .u32) x32 (7 : Int)), ((gd (.int .u32) x32 (8 : Int)), ((gd (.int .u32) x32 (9 : Int)), ((gd (.int .u32) x32 (10 : Int)), ((gd (.int .u32) x32 (11 : Int)), ((gd (.int .u32) x32 (12 : Int)), ((gd (.int .u32) x32 (13 : Int)), ((gd (.int .u32) x32 (14 : Int)), ((gd (.int .u32) x32 (15 : Int)), ((gd (.int .u32) x32 (16 : Int)), ((gd (.int .u32) x32 (17 : Int)), ((gd (.int .u32) x32 (18 : Int)), ((gd (.int .u32) x32 (19 : Int)), ((gd (.int .u32) x32 (20 : Int)), ((gd (.int .u32) x32 (21 : Int)), ((gd (.int .u32) x32 (22 : Int)), ((gd (.int .u32) x32 (23 : Int)), ((gd (.int .u32) x32 (24 : Int)), ((gd (.int .u32) x32 (25 : Int)), ((gd (.int .u32) x32 (26 : Int)), ((gd (.int .u32) x32 (27 : Int)), ((gd (.int .u32) x32 (28 : Int)), ((gd (.int .u32) x32 (29 : Int)), ((gd (.int .u32) x32 (30 : Int)), ((gd (.int .u32) x32 (31 : Int)), ((gd (.int .u32) x32 (32 : Int)), ((gd (.int .u32) x32 (33 : Int)), ((gd (.int .u32) x32 (34 : Int)), ((gd (.int .u32) x32 (35 : Int)), ((gd (.int .u32) x32 (36 : Int)), ((gd (.int .u32) x32 (37 : Int)), ((gd (.int .u32) x32 (38 : Int)), ((gd (.int .u32) x32 (39 : Int)), ((gd (.int .u32) x32 (40 : Int)), ((gd (.int .u32) x32 (41 : Int)), ((gd (.int .u32) x32 (42 : Int)), ((gd (.int .u32) x32 (43 : Int)), ((gd (.int .u32) x32 (44 : Int)), ((gd (.int .u32) x32 (45 : Int)), ((gd (.int .u32) x32 (46 : Int)), ((gd (.int .u32) x32 (47 : Int)), ((gd (.int .u32) x32 (48 : Int)), ((gd (.int .u32) x32 (49 : Int)), ((gd (.int .u32) x32 (50 : Int)), ((gd (.int .u32) x32 (51 : Int)), ((gd (.int .u32) x32 (52 : Int)), ((gd (.int .u32) x32 (53 : Int)), ((gd (.int .u32) x32 (54 : Int)), ((gd (.int .u32) x32 (55 : Int)), ((gd (.int .u32) x32 (56 : Int)), ((gd (.int .u32) x32 (57 : Int)), ((gd (.int .u32) x32 (58 : Int)), ((gd (.int .u32) x32 (59 : Int)), ((gd (.int .u32) x32 (60 : Int)), ((gd (.int .u32) x32 (61 : Int)), ((gd (.int .u32) x32 (62 : Int)), ((gd (.int .u32) x32 (63 : Int)), ((gd (.int .u32) x32 (64 : Int)), ((gd (.int .u32) x32 (65 : Int)), ((gd (.int .u32) x32 (66 : Int)), ((gd (.int .u32) x32 (67 : Int)), ((gd (.int .u32) x32 (68 : Int)), ((gd (.int .u32) x32 (69 : Int)), ((gd (.int .u32) x32 (70 : Int)), ((gd (.int .u32) x32 (71 : Int)), ((gd (.int .u32) x32 (72 : Int)), ((gd (.int .u32) x32 (73 : Int)), ((gd (.int .u32) x32 (74 : Int)), ((gd (.int .u32) x32 (75 : Int)), ((gd (.int .u32) x32 (76 : Int)), ((gd (.int .u32) x32 (77 : Int)), ((gd (.int .u32) x32 (78 : Int)), ((gd (.int .u32) x32 (79 : Int)), ())))))))))))))))))))))))))))))))))))))))))))))))))))))))))))))))))))))))))))))))), ())))
 else none)
 else none)
def E1 : Nat -> Ka
 | 0 => (fun _ => none, ())
 | k + 1 => (Kn (E1 k), ())
theorem Afe (k : Nat) : E1 (k + 1) = (Kn (E1 k), ()) := rfl
def Ri (T : Ka) (d : Unit × ((Int × (Int × (Int × (Int × (Int × (Int × (Int × (Int × (Int × (Int × (Int × (Int × (Int × (Int × (Int × (Int × (Int × (Int × (Int × (Int × (Int × (Int × (Int × (Int × (Int × (Int × (Int × (Int × (Int × (Int × (Int × (Int × (Int × (Int × (Int × (Int × (Int × (Int × (Int × (Int × (Int × (Int × (Int × (Int × (Int × (Int × (Int × (Int × (Int × (Int × (Int × (Int × (Int × (Int × (Int × (Int × (Int × (Int × (Int × (Int × (Int × (Int × (Int × (Int × Unit)))))))))))))))))))))))))))))))))))))))))))))))))))))))))))))))) × Unit)) : Option (Vi) :=
 let x1 := ([d.2.1.1, d.2.1.2.1, d.2.1.2.2.1, d.2.1.2.2.2.1, d.2.1.2.2.2.2.1, d.2.1.2.2.2.2.2.1, d.2.1.2.2.2.2.2.2.1, d.2.1.2.2.2.2.2.2.2.1, d.2.1.2.2.2.2.2.2.2.2.1, d.2.1.2.2.2.2.2.2.2.2.2.1, d.2.1.2.2.2.2.2.2.2.2.2.2.1, d.2.1.2.2.2.2.2.2.2.2.2.2.2.1, d.2.1.2.2.2.2.2.2.2.2.2.2.2.2.1, d.2.1.2.2.2.2.2.2.2.2.2.2.2.2.2.1, d.2.1.2.2.2.2.2.2.2.2.2.2.2.2.2.2.1, d.2.1.2.2.2.2.2.2.2.2.2.2.2.2.2.2.2.1, d.2.1.2.2.2.2.2.2.2.2.2.2.2.2.2.2.2.2.1, d.2.1.2.2.2.2.2.2.2.2.2.2.2.2.2.2.2.2.2.1, d.2.1.2.2.2.2.2.2.2.2.2.2.2.2.2.2.2.2.2.2.1, d.2.1.2.2.2.2.2.2.2.2.2.2.2.2.2.2.2.2.2.2.2.1, d.2.1.2.2.2.2.2.2.2.2.2.2.2.2.2.2.2.2.2.2.2.2.1, d.2.1.2.2.2.2.2.2.2.2.2.2.2.2.2.2.2.2.2.2.2.2.2.1, d.2.1.2.2.2.2.2.2.2.2.2.2.2.2.2.2.2.2.2.2.2.2.2.2.1, d.2.1.2.2.2.2.2.2.2.2.2.2.2.2.2.2.2.2.2.2.2.2.2.2.2.1, d.2.1.2.2.2.2.2.2.2.2.2.2.2.2.2.2.2.2.2.2.2.2.2.2.2.2.1, d.2.1.2.2.2.2.2.2.2.2.2.2.2.2.2.2.2.2.2.2.2.2.2.2.2.2.2.1, d.2.1.2.2.2.2.2.2.2.2.2.2.2.2.2.2.2.2.2.2.2.2.2.2.2.2.2.2.1, d.2.1.2.2.2.2.2.2.2.2.2.2.2.2.2.2.2.2.2.2.2.2.2.2.2.2.2.2.2.1, d.2.1.2.2.2.2.2.2.2.2.2.2.2.2.2.2.2.2.2.2.2.2.2.2.2.2.2.2.2.2.1, d.2.1.2.2.2.2.2.2.2.2.2.2.2.2.2.2.2.2.2.2.2.2.2.2.2.2.2.2.2.2.2.1, d.2.1.2.2.2.2.2.2.2.2.2.2.2.2.2.2.2.2.2.2.2.2.2.2.2.2.2.2.2.2.2.2.1, d.2.1.2.2.2.2.2.2.2.2.2.2.2.2.2.2.2.2.2.2.2.2.2.2.2.2.2.2.2.2.2.2.2.1, d.2.1.2.2.2.2.2.2.2.2.2.2.2.2.2.2.2.2.2.2.2.2.2.2.2.2.2.2.2.2.2.2.2.2.1, d.2.1.2.2.2.2.2.2.2.2.2.2.2.2.2.2.2.2.2.2.2.2.2.2.2.2.2.2.2.2.2.2.2.2.2.1, d.2.1.2.2.2.2.2.2.2.2.2.2.2.2.2.2.2.2.2.2.2.2.2.2.2.2.2.2.2.2.2.2.2.2.2.2.1, d.2.1.2.2.2.2.2.2.2.2.2.2.2.2.2.2.2.2.2.2.2.2.2.2.2.2.2.2.2.2.2.2.2.2.2.2.2.1, d.2.1.2.2.2.2.2.2.2.2.2.2.2.2.2.2.2.2.2.2.2.2.2.2.2.2.2.2.2.2.2.2.2.2.2.2.2.2.1, d.2.1.2.2.2.2.2.2.2.2.2.2.2.2.2.2.2.2.2.2.2.2.2.2.2.2.2.2.2.2.2.2.2.2.2.2.2.2.2.1, d.2.1.2.2.2.2.2.2.2.2.2.2.2.2.2.2.2.2.2.2.2.2.2.2.2.2.2.2.2.2.2.2.2.2.2.2.2.2.2.2.1, d.2.1.2.2.2.2.2.2.2.2.2.2.2.2.2.2.2.2.2.2.2.2.2.2.2.2.2.2.2.2.2.2.2.2.2.2.2.2.2.2.2.1, d.2.1.2.2.2.2.2.2.2.2.2.2.2.2.2.2.2.2.2.2.2.2.2.2.2.2.2.2.2.2.2.2.2.2.2.2.2.2.2.2.2.2.1, d.2.1.2.2.2.2.2.2.2.2.2.2.2.2.2.2.2.2.2.2.2.2.2.2.2.2.2.2.2.2.2.2.2.2.2.2.2.2.2.2.2.2.2.1, d.2.1.2.2.2.2.2.2.2.2.2.2.2.2.2.2.2.2.2.2.2.2.2.2.2.2.2.2.2.2.2.2.2.2.2.2.2.2.2.2.2.2.2.2.1, d.2.1.2.2.2.2.2.2.2.2.2.2.2.2.2.2.2.2.2.2.2.2.2.2.2.2.2.2.2.2.2.2.2.2.2.2.2.2.2.2.2.2.2.2.2.1, d.2.1.2.2.2.2.2.2.2.2.2.2.2.2.2.2.2.2.2.2.2.2.2.2.2.2.2.2.2.2.2.2.2.2.2.2.2.2.2.2.2.2.2.2.2.2.1, d.2.1.2.2.2.2.2.2.2.2.2.2.2.2.2.2.2.2.2.2.2.2.2.2.2.2.2.2.2.2.2.2.2.2.2.2.2.2.2.2.2.2.2.2.2.2.2.1, d.2.1.2.2.2.2.2.2.2.2.2.2.2.2.2.2.2.2.2.2.2.2.2.2.2.2.2.2.2.2.2.2.2.2.2.2.2.2.2.2.2.2.2.2.2.2.2.2.1, d.2.1.2.2.2.2.2.2.2.2.2.2.2.2.2.2.2.2.2.2.2.2.2.2.2.2.2.2.2.2.2.2.2.2.2.2.2.2.2.2.2.2.2.2.2.2.2.2.2.1, d.2.1.2.2.2.2.2.2.2.2.2.2.2.2.2.2.2.2.2.2.2.2.2.2.2.2.2.2.2.2.2.2.2.2.2.2.2.2.2.2.2.2.2.2.2.2.2.2.2.2.1, d.2.1.2.2.2.2.2.2.2.2.2.2.2.2.2.2.2.2.2.2.2.2.2.2.2.2.2.2.2.2.2.2.2.2.2.2.2.2.2.2.2.2.2.2.2.2.2.2.2.2.2.1, d.2.1.2.2.2.2.2.2.2.2.2.2.2.2.2.2.2.2.2.2.2.2.2.2.2.2.2.2.2.2.2.2.2.2.2.2.2.2.2.2.2.2.2.2.2.2.2.2.2.2.2.2.1, d.2.1.2.2.2.2.2.2.2.2.2.2.2.2.2.2.2.2.2.2.2.2.2.2.2.2.2.2.2.2.2.2.2.2.2.2.2.2.2.2.2.2.2.2.2.2.2.2.2.2.2.2.2.1, d.2.1.2.2.2.2.2.2.2.2.2.2.2.2.2.2.2.2.2.2.2.2.2.2.2.2.2.2.2.2.2.2.2.2.2.2.2.2.2.2.2.2.2.2.2.2.2.2.2.2.2.2.2.2.1, d.2.1.2.2.2.2.2.2.2.2.2.2.2.2.2.2.2.2.2.2.2.2.2.2.2.2.2.2.2.2.2.2.2.2.2.2.2.2.2.2.2.2.2.2.2.2.2.2.2.2.2.2.2.2.2.1, d.2.1.2.2.2.2.2.2.2.2.2.2.2.2.2.2.2.2.2.2.2.2.2.2.2.2.2.2.2.2.2.2.2.2.2.2.2.2.2.2.2.2.2.2.2.2.2.2.2.2.2.2.2.2.2.2.1, d.2.1.2.2.2.2.2.2.2.2.2.2.2.2.2.2.2.2.2.2.2.2.2.2.2.2.2.2.2.2.2.2.2.2.2.2.2.2.2.2.2.2.2.2.2.2.2.2.2.2.2.2.2.2.2.2.2.1, d.2.1.2.2.2.2.2.2.2.2.2.2.2.2.2.2.2.2.2.2.2.2.2.2.2.2.2.2.2.2.2.2.2.2.2.2.2.2.2.2.2.2.2.2.2.2.2.2.2.2.2.2.2.2.2.2.2.2.1, d.2.1.2.2.2.2.2.2.2.2.2.2.2.2.2.2.2.2.2.2.2.2.2.2.2.2.2.2.2.2.2.2.2.2.2.2.2.2.2.2.2.2.2.2.2.2.2.2.2.2.2.2.2.2.2.2.2.2.2.1, d.2.1.2.2.2.2.2.2.2.2.2.2.2.2.2.2.2.2.2.2.2.2.2.2.2.2.2.2.2.2.2.2.2.2.2.2.2.2.2.2.2.2.2.2.2.2.2.2.2.2.2.2.2.2.2.2.2.2.2.2.1, d.2.1.2.2.2.2.2.2.2.2.2.2.2.2.2.2.2.2.2.2.2.2.2.2.2.2.2.2.2.2.2.2.2.2.2.2.2.2.2.2.2.2.2.2.2.2.2.2.2.2.2.2.2.2.2.2.2.2.2.2.2.1, d.2.1.2.2.2.2.2.2.2.2.2.2.2.2.2.2.2.2.2.2.2.2.2.2.2.2.2.2.2.2.2.2.2.2.2.2.2.2.2.2.2.2.2.2.2.2.2.2.2.2.2.2.2.2.2.2.2.2.2.2.2.2.1, d.2.1.2.2.2.2.2.2.2.2.2.2.2.2.2.2.2.2.2.2.2.2.2.2.2.2.2.2.2.2.2.2.2.2.2.2.2.2.2.2.2.2.2.2.2.2.2.2.2.2.2.2.2.2.2.2.2.2.2.2.2.2.2.1, d.2.1.2.2.2.2.2.2.2.2.2.2.2.2.2.2.2.2.2.2.2.2.2.2.2.2.2.2.2.2.2.2.2.2.2.2.2.2.2.2.2.2.2.2.2.2.2.2.2.2.2.2.2.2.2.2.2.2.2.2.2.2.2.2.1, d.2.1.2.2.2.2.2.2.2.2.2.2.2.2.2.2.2.2.2.2.2.2.2.2.2.2.2.2.2.2.2.2.2.2.2.2.2.2.2.2.2.2.2.2.2.2.2.2.2.2.2.2.2.2.2.2.2.2.2.2.2.2.2.2.2.1] : List Int)
 let x2 := (List.replicate 80 (0 : Int))
 let x3 := (List.replicate 80 (0 : Int))
 (T.1 ((x1, (x2, (x3, ()))), ((), ((), ((), ((0, ()), ()))))))
def K2 (d) := lim fun k => Ri (E1 k) d
theorem Aq8 : Dv Tryz.prog ET0 98 Ta S6 K2 :=
 fnL (E := (E0.add 100 Ok)) (pi := Ta) (po := S6) (Ab A7 (Ae Mk)) (fn := Tryz.f98) Tryz.func98 (by kernel_rfl) (by kernel_rfl) [.cell 2 152] (by kernel_rfl) rfl rfl rfl [] (fun k => [(4, ⟨Amj, (E1 k).1⟩)]) (fun _ => [])
 (.intro (fun _ => rfl) trivial) (fun k => (.intro (fun d => by kernel_rfl) trivial)) trivial (fun k => trivial) (fun k d => Ri (E1 k) d) (fun k d => by kernel_rfl)
def Avi := Ak Ta S6 K2
abbrev Ak2 : PSh := ⟨[], [kI, .mk false [.v (.int .u32)], .mk false [.v (.int .u32)], .mk false [.v (.int .u32)]]⟩
abbrev Ajx : PSh := ⟨[], [.mk false [.v (.int .u32)], .mk false [.v (.int .u32)]]⟩
def Aqn (T : Unit) (d : Unit × ((Int × Unit) × ((Int × Unit) × ((Int × Unit) × ((Int × Unit) × Unit))))) : Option (Y4) :=
 let x1 := (Kc .i64 d.2.1.1 (20 : Int))
 let x2 := (x1 == (0 : Int))
 bif x2 then (
 let x3 := (Ahz .u32 d.2.2.2.1.1 d.2.2.2.2.1.1)
 let x4 := (Aw7 .u32 d.2.2.1.1 x3)
 let x5 := (Ahz .u32 d.2.2.2.2.1.1 x4)
 some ((), ((x5, ()), ((1518500249, ()), ()))))
 else (
 let x6 := (x1 == (1 : Int))
 bif x6 then (
 let x7 := (Ahz .u32 d.2.2.1.1 d.2.2.2.1.1)
 let x8 := (Ahz .u32 x7 d.2.2.2.2.1.1)
 some ((), ((x8, ()), ((1859775393, ()), ()))))
 else (
 let x9 := (x1 == (2 : Int))
 bif x9 then (
 let x10 := (Aw7 .u32 d.2.2.1.1 d.2.2.2.1.1)
 let x11 := (ior .u32 d.2.2.1.1 d.2.2.2.1.1)
 let x12 := (Aw7 .u32 d.2.2.2.2.1.1 x11)
 let x13 := (ior .u32 x10 x12)
 some ((), ((x13, ()), ((2400959708, ()), ()))))
 else (
 let x14 := (Ahz .u32 d.2.2.1.1 d.2.2.2.1.1)
 let x15 := (Ahz .u32 x14 d.2.2.2.2.1.1)
 some ((), ((x15, ()), ((3395469782, ()), ()))))))
def Uu := Aqn ()
theorem A7y : Dv Tryz.prog ET0 99 Ak2 Ajx Uu :=
 fn0 (E := E0) (pi := Ak2) (po := Ajx) A7 (fn := Tryz.f99) Tryz.func99 (by kernel_rfl) (by kernel_rfl) [.tmp 8, .tmp 9] (by kernel_rfl) rfl rfl rfl [] fun d => by kernel_rfl
def Ba6 := Ak Ak2 Ajx Uu
abbrev Afh : PSh := ⟨[], [.mk true [.v (.int .u32), .v (.int .u32), .v (.int .u32), .v (.int .u32), .v (.int .u32)], .mk true [v8, v8, v8, v8, v8, v8, v8, v8, v8, v8, v8, v8, v8, v8, v8, v8, v8, v8, v8, v8, v8, v8, v8, v8, v8, v8, v8, v8, v8, v8, v8, v8, v8, v8, v8, v8, v8, v8, v8, v8, v8, v8, v8, v8, v8, v8, v8, v8, v8, v8, v8, v8, v8, v8, v8, v8, v8, v8, v8, v8, v8, v8, v8, v8]]⟩
abbrev Ahc : PSh := Je
abbrev Nu : Type := Y9
abbrev Ana : Type := ((Int × (Int × (Int × (Int × (Int × Unit))))) × ((Int × (Int × (Int × (Int × (Int × Unit))))) × ((Int × (Int × (Int × (Int × (Int × Unit))))) × Unit))) × (Unit × (Unit × (Unit × ((Int × (Int × (Int × (Int × (Int × (Int × (Int × (Int × (Int × (Int × (Int × (Int × (Int × (Int × (Int × (Int × (Int × (Int × (Int × (Int × (Int × (Int × (Int × (Int × (Int × (Int × (Int × (Int × (Int × (Int × (Int × (Int × (Int × (Int × (Int × (Int × (Int × (Int × (Int × (Int × (Int × (Int × (Int × (Int × (Int × (Int × (Int × (Int × (Int × (Int × (Int × (Int × (Int × (Int × (Int × (Int × (Int × (Int × (Int × (Int × (Int × (Int × (Int × (Int × (Int × (Int × (Int × (Int × (Int × (Int × (Int × (Int × (Int × (Int × (Int × (Int × (Int × (Int × (Int × (Int × Unit)))))))))))))))))))))))))))))))))))))))))))))))))))))))))))))))))))))))))))))))) × ((Int × Unit) × Unit)))))
abbrev Za : Type := ((Int × (Int × (Int × (Int × (Int × Unit))))) × ((Int × (Int × (Int × (Int × (Int × Unit))))) × ((Int × (Int × (Int × (Int × (Int × Unit))))) × Unit))) × (Unit × (Unit × (Unit × ((Int × Unit) × Unit))))
abbrev Ai1 : Type := Za
abbrev D9 : Type := (((Ana) -> Option (Nu)) × (((Za) -> Option (Nu)) × (((Ai1) -> Option (Nu)) × Unit)))
abbrev Axh : PSh := ⟨[.var 36 [.v (.int .u32), .v (.int .u32), .v (.int .u32), .v (.int .u32), .v (.int .u32)], .var 36 [.v (.int .u32), .v (.int .u32), .v (.int .u32), .v (.int .u32), .v (.int .u32)], .var 36 [.v (.int .u32), .v (.int .u32), .v (.int .u32), .v (.int .u32), .v (.int .u32)]], [.any, .any, .mk false [.ref 0 0], .any, .mk false [.ref 1 0], .mk false [.ref 2 0], .any, .any, .any, .any, .any, .any, .any, .mk true [.v (.int .u32), .v (.int .u32), .v (.int .u32), .v (.int .u32), .v (.int .u32), .v (.int .u32), .v (.int .u32), .v (.int .u32), .v (.int .u32), .v (.int .u32), .v (.int .u32), .v (.int .u32), .v (.int .u32), .v (.int .u32), .v (.int .u32), .v (.int .u32), .v (.int .u32), .v (.int .u32), .v (.int .u32), .v (.int .u32), .v (.int .u32), .v (.int .u32), .v (.int .u32), .v (.int .u32), .v (.int .u32), .v (.int .u32), .v (.int .u32), .v (.int .u32), .v (.int .u32), .v (.int .u32), .v (.int .u32), .v (.int .u32), .v (.int .u32), .v (.int .u32), .v (.int .u32), .v (.int .u32), .v (.int .u32), .v (.int .u32), .v (.int .u32), .v (.int .u32), .v (.int .u32), .v (.int .u32), .v (.int .u32), .v (.int .u32), .v (.int .u32), .v (.int .u32), .v (.int .u32), .v (.int .u32), .v (.int .u32), .v (.int .u32), .v (.int .u32), .v (.int .u32), .v (.int .u32), .v (.int .u32), .v (.int .u32), .v (.int .u32), .v (.int .u32), .v (.int .u32), .v (.int .u32), .v (.int .u32), .v (.int .u32), .v (.int .u32), .v (.int .u32), .v (.int .u32), .v (.int .u32), .v (.int .u32), .v (.int .u32), .v (.int .u32), .v (.int .u32), .v (.int .u32), .v (.int .u32), .v (.int .u32), .v (.int .u32), .v (.int .u32), .v (.int .u32), .v (.int .u32), .v (.int .u32), .v (.int .u32), .v (.int .u32), .v (.int .u32)], kI] ++ M3 50⟩
abbrev Afx : PSh := ⟨[.var 36 [.v (.int .u32), .v (.int .u32), .v (.int .u32), .v (.int .u32), .v (.int .u32)], .var 36 [.v (.int .u32), .v (.int .u32), .v (.int .u32), .v (.int .u32), .v (.int .u32)], .var 36 [.v (.int .u32), .v (.int .u32), .v (.int .u32), .v (.int .u32), .v (.int .u32)]], [.any, .any, .mk false [.ref 0 0], .any, .mk false [.ref 1 0], .mk false [.ref 2 0], .any, .any, .any, .any, .any, .any, .any, .any, .any, .any, .any, .any, .any, .any, .any, .any, .any, .any, .any, .any, .any, .any, .any, .any, .any, .any, .any, .any, .any, .any, .any, .any, .any, .any, .any, .any, .any, .any, .any, .any, .any, .any, .any, .any, .any, .any, kI] ++ M3 12⟩
abbrev As6 : PSh := Afx
def Yf (T : D9) (d : Ana) : Option (Nu) :=
 let x3 := (decide (d.2.2.2.2.2.1.1 < (80 : Int)))
 bif x3 then (
 bif decide ((0 : Int) <= d.2.2.2.2.2.1.1) && decide (d.2.2.2.2.2.1.1 < (80 : Int)) then (
 (Uu ((), (d.2.2.2.2.2.1, ((d.1.2.2.1.2.1, ()), ((d.1.2.2.1.2.2.1, ()), ((d.1.2.2.1.2.2.2.1, ()), ())))))).bind fun x4 =>
 (Bf ((), ((d.1.2.2.1.1, ()), ((5, ()), ())))).bind fun x5 =>
 let x6 := (A4 .u32 x5.2.1.1 x4.2.1.1)
 let x7 := (A4 .u32 x6 d.1.2.2.1.2.2.2.2.1)
 let x8 := (A4 .u32 x7 x4.2.2.1.1)
 let x9 := (A4 .u32 x8 (gd (.int .u32) ([d.2.2.2.2.1.1, d.2.2.2.2.1.2.1, d.2.2.2.2.1.2.2.1, d.2.2.2.2.1.2.2.2.1, d.2.2.2.2.1.2.2.2.2.1, d.2.2.2.2.1.2.2.2.2.2.1, d.2.2.2.2.1.2.2.2.2.2.2.1, d.2.2.2.2.1.2.2.2.2.2.2.2.1, d.2.2.2.2.1.2.2.2.2.2.2.2.2.1, d.2.2.2.2.1.2.2.2.2.2.2.2.2.2.1, d.2.2.2.2.1.2.2.2.2.2.2.2.2.2.2.1, d.2.2.2.2.1.2.2.2.2.2.2.2.2.2.2.2.1, d.2.2.2.2.1.2.2.2.2.2.2.2.2.2.2.2.2.1, d.2.2.2.2.1.2.2.2.2.2.2.2.2.2.2.2.2.2.1, d.2.2.2.2.1.2.2.2.2.2.2.2.2.2.2.2.2.2.2.1, d.2.2.2.2.1.2.2.2.2.2.2.2.2.2.2.2.2.2.2.2.1, d.2.2.2.2.1.2.2.2.2.2.2.2.2.2.2.2.2.2.2.2.2.1, d.2.2.2.2.1.2.2.2.2.2.2.2.2.2.2.2.2.2.2.2.2.2.1, d.2.2.2.2.1.2.2.2.2.2.2.2.2.2.2.2.2.2.2.2.2.2.2.1, d.2.2.2.2.1.2.2.2.2.2.2.2.2.2.2.2.2.2.2.2.2.2.2.2.1, d.2.2.2.2.1.2.2.2.2.2.2.2.2.2.2.2.2.2.2.2.2.2.2.2.2.1, d.2.2.2.2.1.2.2.2.2.2.2.2.2.2.2.2.2.2.2.2.2.2.2.2.2.2.1, d.2.2.2.2.1.2.2.2.2.2.2.2.2.2.2.2.2.2.2.2.2.2.2.2.2.2.2.1, d.2.2.2.2.1.2.2.2.2.2.2.2.2.2.2.2.2.2.2.2.2.2.2.2.2.2.2.2.1, d.2.2.2.2.1.2.2.2.2.2.2.2.2.2.2.2.2.2.2.2.2.2.2.2.2.2.2.2.2.1, d.2.2.2.2.1.2.2.2.2.2.2.2.2.2.2.2.2.2.2.2.2.2.2.2.2.2.2.2.2.2.1, d.2.2.2.2.1.2.2.2.2.2.2.2.2.2.2.2.2.2.2.2.2.2.2.2.2.2.2.2.2.2.2.1, d.2.2.2.2.1.2.2.2.2.2.2.2.2.2.2.2.2.2.2.2.2.2.2.2.2.2.2.2.2.2.2.2.1, d.2.2.2.2.1.2.2.2.2.2.2.2.2.2.2.2.2.2.2.2.2.2.2.2.2.2.2.2.2.2.2.2.2.1, d.2.2.2.2.1.2.2.2.2.2.2.2.2.2.2.2.2.2.2.2.2.2.2.2.2.2.2.2.2.2.2.2.2.2.1, d.2.2.2.2.1.2.2.2.2.2.2.2.2.2.2.2.2.2.2.2.2.2.2.2.2.2.2.2.2.2.2.2.2.2.2.1, d.2.2.2.2.1.2.2.2.2.2.2.2.2.2.2.2.2.2.2.2.2.2.2.2.2.2.2.2.2.2.2.2.2.2.2.2.1, d.2.2.2.2.1.2.2.2.2.2.2.2.2.2.2.2.2.2.2.2.2.2.2.2.2.2.2.2.2.2.2.2.2.2.2.2.2.1, d.2.2.2.2.1.2.2.2.2.2.2.2.2.2.2.2.2.2.2.2.2.2.2.2.2.2.2.2.2.2.2.2.2.2.2.2.2.2.1, d.2.2.2.2.1.2.2.2.2.2.2.2.2.2.2.2.2.2.2.2.2.2.2.2.2.2.2.2.2.2.2.2.2.2.2.2.2.2.2.1, d.2.2.2.2.1.2.2.2.2.2.2.2.2.2.2.2.2.2.2.2.2.2.2.2.2.2.2.2.2.2.2.2.2.2.2.2.2.2.2.2.1, d.2.2.2.2.1.2.2.2.2.2.2.2.2.2.2.2.2.2.2.2.2.2.2.2.2.2.2.2.2.2.2.2.2.2.2.2.2.2.2.2.2.1, d.2.2.2.2.1.2.2.2.2.2.2.2.2.2.2.2.2.2.2.2.2.2.2.2.2.2.2.2.2.2.2.2.2.2.2.2.2.2.2.2.2.2.1, d.2.2.2.2.1.2.2.2.2.2.2.2.2.2.2.2.2.2.2.2.2.2.2.2.2.2.2.2.2.2.2.2.2.2.2.2.2.2.2.2.2.2.2.1, d.2.2.2.2.1.2.2.2.2.2.2.2.2.2.2.2.2.2.2.2.2.2.2.2.2.2.2.2.2.2.2.2.2.2.2.2.2.2.2.2.2.2.2.2.1, d.2.2.2.2.1.2.2.2.2.2.2.2.2.2.2.2.2.2.2.2.2.2.2.2.2.2.2.2.2.2.2.2.2.2.2.2.2.2.2.2.2.2.2.2.2.1, d.2.2.2.2.1.2.2.2.2.2.2.2.2.2.2.2.2.2.2.2.2.2.2.2.2.2.2.2.2.2.2.2.2.2.2.2.2.2.2.2.2.2.2.2.2.2.1, d.2.2.2.2.1.2.2.2.2.2.2.2.2.2.2.2.2.2.2.2.2.2.2.2.2.2.2.2.2.2.2.2.2.2.2.2.2.2.2.2.2.2.2.2.2.2.2.1, d.2.2.2.2.1.2.2.2.2.2.2.2.2.2.2.2.2.2.2.2.2.2.2.2.2.2.2.2.2.2.2.2.2.2.2.2.2.2.2.2.2.2.2.2.2.2.2.2.1, d.2.2.2.2.1.2.2.2.2.2.2.2.2.2.2.2.2.2.2.2.2.2.2.2.2.2.2.2.2.2.2.2.2.2.2.2.2.2.2.2.2.2.2.2.2.2.2.2.2.1, d.2.2.2.2.1.2.2.2.2.2.2.2.2.2.2.2.2.2.2.2.2.2.2.2.2.2.2.2.2.2.2.2.2.2.2.2.2.2.2.2.2.2.2.2.2.2.2.2.2.2.1, d.2.2.2.2.1.2.2.2.2.2.2.2.2.2.2.2.2.2.2.2.2.2.2.2.2.2.2.2.2.2.2.2.2.2.2.2.2.2.2.2.2.2.2.2.2.2.2.2.2.2.2.1, d.2.2.2.2.1.2.2.2.2.2.2.2.2.2.2.2.2.2.2.2.2.2.2.2.2.2.2.2.2.2.2.2.2.2.2.2.2.2.2.2.2.2.2.2.2.2.2.2.2.2.2.2.1, d.2.2.2.2.1.2.2.2.2.2.2.2.2.2.2.2.2.2.2.2.2.2.2.2.2.2.2.2.2.2.2.2.2.2.2.2.2.2.2.2.2.2.2.2.2.2.2.2.2.2.2.2.2.1, d.2.2.2.2.1.2.2.2.2.2.2.2.2.2.2.2.2.2.2.2.2.2.2.2.2.2.2.2.2.2.2.2.2.2.2.2.2.2.2.2.2.2.2.2.2.2.2.2.2.2.2.2.2.2.1, d.2.2.2.2.1.2.2.2.2.2.2.2.2.2.2.2.2.2.2.2.2.2.2.2.2.2.2.2.2.2.2.2.2.2.2.2.2.2.2.2.2.2.2.2.2.2.2.2.2.2.2.2.2.2.2.1, d.2.2.2.2.1.2.2.2.2.2.2.2.2.2.2.2.2.2.2.2.2.2.2.2.2.2.2.2.2.2.2.2.2.2.2.2.2.2.2.2.2.2.2.2.2.2.2.2.2.2.2.2.2.2.2.2.1, d.2.2.2.2.1.2.2.2.2.2.2.2.2.2.2.2.2.2.2.2.2.2.2.2.2.2.2.2.2.2.2.2.2.2.2.2.2.2.2.2.2.2.2.2.2.2.2.2.2.2.2.2.2.2.2.2.2.1, d.2.2.2.2.1.2.2.2.2.2.2.2.2.2.2.2.2.2.2.2.2.2.2.2.2.2.2.2.2.2.2.2.2.2.2.2.2.2.2.2.2.2.2.2.2.2.2.2.2.2.2.2.2.2.2.2.2.2.1, d.2.2.2.2.1.2.2.2.2.2.2.2.2.2.2.2.2.2.2.2.2.2.2.2.2.2.2.2.2.2.2.2.2.2.2.2.2.2.2.2.2.2.2.2.2.2.2.2.2.2.2.2.2.2.2.2.2.2.2.1, d.2.2.2.2.1.2.2.2.2.2.2.2.2.2.2.2.2.2.2.2.2.2.2.2.2.2.2.2.2.2.2.2.2.2.2.2.2.2.2.2.2.2.2.2.2.2.2.2.2.2.2.2.2.2.2.2.2.2.2.2.1, d.2.2.2.2.1.2.2.2.2.2.2.2.2.2.2.2.2.2.2.2.2.2.2.2.2.2.2.2.2.2.2.2.2.2.2.2.2.2.2.2.2.2.2.2.2.2.2.2.2.2.2.2.2.2.2.2.2.2.2.2.2.1, d.2.2.2.2.1.2.2.2.2.2.2.2.2.2.2.2.2.2.2.2.2.2.2.2.2.2.2.2.2.2.2.2.2.2.2.2.2.2.2.2.2.2.2.2.2.2.2.2.2.2.2.2.2.2.2.2.2.2.2.2.2.2.1, d.2.2.2.2.1.2.2.2.2.2.2.2.2.2.2.2.2.2.2.2.2.2.2.2.2.2.2.2.2.2.2.2.2.2.2.2.2.2.2.2.2.2.2.2.2.2.2.2.2.2.2.2.2.2.2.2.2.2.2.2.2.2.2.1, d.2.2.2.2.1.2.2.2.2.2.2.2.2.2.2.2.2.2.2.2.2.2.2.2.2.2.2.2.2.2.2.2.2.2.2.2.2.2.2.2.2.2.2.2.2.2.2.2.2.2.2.2.2.2.2.2.2.2.2.2.2.2.2.2.1, d.2.2.2.2.1.2.2.2.2.2.2.2.2.2.2.2.2.2.2.2.2.2.2.2.2.2.2.2.2.2.2.2.2.2.2.2.2.2.2.2.2.2.2.2.2.2.2.2.2.2.2.2.2.2.2.2.2.2.2.2.2.2.2.2.2.1, d.2.2.2.2.1.2.2.2.2.2.2.2.2.2.2.2.2.2.2.2.2.2.2.2.2.2.2.2.2.2.2.2.2.2.2.2.2.2.2.2.2.2.2.2.2.2.2.2.2.2.2.2.2.2.2.2.2.2.2.2.2.2.2.2.2.2.1, d.2.2.2.2.1.2.2.2.2.2.2.2.2.2.2.2.2.2.2.2.2.2.2.2.2.2.2.2.2.2.2.2.2.2.2.2.2.2.2.2.2.2.2.2.2.2.2.2.2.2.2.2.2.2.2.2.2.2.2.2.2.2.2.2.2.2.2.1, d.2.2.2.2.1.2.2.2.2.2.2.2.2.2.2.2.2.2.2.2.2.2.2.2.2.2.2.2.2.2.2.2.2.2.2.2.2.2.2.2.2.2.2.2.2.2.2.2.2.2.2.2.2.2.2.2.2.2.2.2.2.2.2.2.2.2.2.2.1, d.2.2.2.2.1.2.2.2.2.2.2.2.2.2.2.2.2.2.2.2.2.2.2.2.2.2.2.2.2.2.2.2.2.2.2.2.2.2.2.2.2.2.2.2.2.2.2.2.2.2.2.2.2.2.2.2.2.2.2.2.2.2.2.2.2.2.2.2.2.1, d.2.2.2.2.1.2.2.2.2.2.2.2.2.2.2.2.2.2.2.2.2.2.2.2.2.2.2.2.2.2.2.2.2.2.2.2.2.2.2.2.2.2.2.2.2.2.2.2.2.2.2.2.2.2.2.2.2.2.2.2.2.2.2.2.2.2.2.2.2.2.1, d.2.2.2.2.1.2.2.2.2.2.2.2.2.2.2.2.2.2.2.2.2.2.2.2.2.2.2.2.2.2.2.2.2.2.2.2.2.2.2.2.2.2.2.2.2.2.2.2.2.2.2.2.2.2.2.2.2.2.2.2.2.2.2.2.2.2.2.2.2.2.2.1, d.2.2.2.2.1.2.2.2.2.2.2.2.2.2.2.2.2.2.2.2.2.2.2.2.2.2.2.2.2.2.2.2.2.2.2.2.2.2.2.2.2.2.2.2.2.2.2.2.2.2.2.2.2.2.2.2.2.2.2.2.2.2.2.2.2.2.2.2.2.2.2.2.1, d.2.2.2.2.1.2.2.2.2.2.2.2.2.2.2.2.2.2.2.2.2.2.2.2.2.2.2.2.2.2.2.2.2.2.2.2.2.2.2.2.2.2.2.2.2.2.2.2.2.2.2.2.2.2.2.2.2.2.2.2.2.2.2.2.2.2.2.2.2.2.2.2.2.1, d.2.2.2.2.1.2.2.2.2.2.2.2.2.2.2.2.2.2.2.2.2.2.2.2.2.2.2.2.2.2.2.2.2.2.2.2.2.2.2.2.2.2.2.2.2.2.2.2.2.2.2.2.2.2.2.2.2.2.2.2.2.2.2.2.2.2.2.2.2.2.2.2.2.2.1, d.2.2.2.2.1.2.2.2.2.2.2.2.2.2.2.2.2.2.2.2.2.2.2.2.2.2.2.2.2.2.2.2.2.2.2.2.2.2.2.2.2.2.2.2.2.2.2.2.2.2.2.2.2.2.2.2.2.2.2.2.2.2.2.2.2.2.2.2.2.2.2.2.2.2.2.1, d.2.2.2.2.1.2.2.2.2.2.2.2.2.2.2.2.2.2.2.2.2.2.2.2.2.2.2.2.2.2.2.2.2.2.2.2.2.2.2.2.2.2.2.2.2.2.2.2.2.2.2.2.2.2.2.2.2.2.2.2.2.2.2.2.2.2.2.2.2.2.2.2.2.2.2.2.1, d.2.2.2.2.1.2.2.2.2.2.2.2.2.2.2.2.2.2.2.2.2.2.2.2.2.2.2.2.2.2.2.2.2.2.2.2.2.2.2.2.2.2.2.2.2.2.2.2.2.2.2.2.2.2.2.2.2.2.2.2.2.2.2.2.2.2.2.2.2.2.2.2.2.2.2.2.2.1, d.2.2.2.2.1.2.2.2.2.2.2.2.2.2.2.2.2.2.2.2.2.2.2.2.2.2.2.2.2.2.2.2.2.2.2.2.2.2.2.2.2.2.2.2.2.2.2.2.2.2.2.2.2.2.2.2.2.2.2.2.2.2.2.2.2.2.2.2.2.2.2.2.2.2.2.2.2.2.1, d.2.2.2.2.1.2.2.2.2.2.2.2.2.2.2.2.2.2.2.2.2.2.2.2.2.2.2.2.2.2.2.2.2.2.2.2.2.2.2.2.2.2.2.2.2.2.2.2.2.2.2.2.2.2.2.2.2.2.2.2.2.2.2.2.2.2.2.2.2.2.2.2.2.2.2.2.2.2.2.1, d.2.2.2.2.1.2.2.2.2.2.2.2.2.2.2.2.2.2.2.2.2.2.2.2.2.2.2.2.2.2.2.2.2.2.2.2.2.2.2.2.2.2.2.2.2.2.2.2.2.2.2.2.2.2.2.2.2.2.2.2.2.2.2.2.2.2.2.2.2.2.2.2.2.2.2.2.2.2.2.2.1, d.2.2.2.2.1.2.2.2.2.2.2.2.2.2.2.2.2.2.2.2.2.2.2.2.2.2.2.2.2.2.2.2.2.2.2.2.2.2.2.2.2.2.2.2.2.2.2.2.2.2.2.2.2.2.2.2.2.2.2.2.2.2.2.2.2.2.2.2.2.2.2.2.2.2.2.2.2.2.2.2.2.1, d.2.2.2.2.1.2.2.2.2.2.2.2.2.2.2.2.2.2.2.2.2.2.2.2.2.2.2.2.2.2.2.2.2.2.2.2.2.2.2.2.2.2.2.2.2.2.2.2.2.2.2.2.2.2.2.2.2.2.2.2.2.2.2.2.2.2.2.2.2.2.2.2.2.2.2.2.2.2.2.2.2.2.1, d.2.2.2.2.1.2.2.2.2.2.2.2.2.2.2.2.2.2.2.2.2.2.2.2.2.2.2.2.2.2.2.2.2.2.2.2.2.2.2.2.2.2.2.2.2.2.2.2.2.2.2.2.2.2.2.2.2.2.2.2.2.2.2.2.2.2.2.2.2.2.2.2.2.2.2.2.2.2.2.2.2.2.2.1, d.2.2.2.2.1.2.2.2.2.2.2.2.2.2.2.2.2.2.2.2.2.2.2.2.2.2.2.2.2.2.2.2.2.2.2.2.2.2.2.2.2.2.2.2.2.2.2.2.2.2.2.2.2.2.2.2.2.2.2.2.2.2.2.2.2.2.2.2.2.2.2.2.2.2.2.2.2.2.2.2.2.2.2.2.1] : List Int) d.2.2.2.2.2.1.1))
 (Bf ((), ((d.1.2.2.1.2.1, ()), ((30, ()), ())))).bind fun x10 =>
 let x11 := (A4 .i64 d.2.2.2.2.2.1.1 1)
 (T.1 ((d.1.1, (d.1.2.1, ((x9, (d.1.2.2.1.1, (x10.2.1.1, (d.1.2.2.1.2.2.1, (d.1.2.2.1.2.2.2.1, ()))))), ()))), ((), ((), ((), (d.2.2.2.2.1, ((x11, ()), ()))))))))
 else none)
 else (
 (T.2.1 (d.1, ((), ((), ((), ((0, ()), ())))))))
def Fb (T : D9) (d : Za) : Option (Nu) :=
 let x12 := (decide (d.2.2.2.2.1.1 < (5 : Int)))
 bif x12 then (
 bif decide ((0 : Int) <= d.2.2.2.2.1.1) && decide (d.2.2.2.2.1.1 < (5 : Int)) then (
 bif decide (d.2.2.2.2.1.1 = (0 : Int)) then (
 bif decide ((0 : Int) <= d.2.2.2.2.1.1) && decide (d.2.2.2.2.1.1 < (5 : Int)) then (
 bif decide (d.2.2.2.2.1.1 = (0 : Int)) then (
 let x37 := (A4 .u32 d.1.2.2.1.1 d.1.1.1)
 bif decide ((0 : Int) <= d.2.2.2.2.1.1) && decide (d.2.2.2.2.1.1 < (5 : Int)) then (
 bif decide (d.2.2.2.2.1.1 = (0 : Int)) then (
 (T.2.2.1 ((d.1.1, (d.1.2.1, ((x37, d.1.2.2.1.2), ()))), ((), ((), ((), d.2.2.2.2))))))
 else (
 bif decide (d.2.2.2.2.1.1 = (1 : Int)) then (
 (T.2.2.1 ((d.1.1, (d.1.2.1, ((d.1.2.2.1.1, (x37, d.1.2.2.1.2.2)), ()))), ((), ((), ((), d.2.2.2.2))))))
 else (
 bif decide (d.2.2.2.2.1.1 = (2 : Int)) then (
 (T.2.2.1 ((d.1.1, (d.1.2.1, ((d.1.2.2.1.1, (d.1.2.2.1.2.1, (x37, d.1.2.2.1.2.2.2))), ()))), ((), ((), ((), d.2.2.2.2))))))
 else (
 bif decide (d.2.2.2.2.1.1 = (3 : Int)) then (
 (T.2.2.1 ((d.1.1, (d.1.2.1, ((d.1.2.2.1.1, (d.1.2.2.1.2.1, (d.1.2.2.1.2.2.1, (x37, d.1.2.2.1.2.2.2.2)))), ()))), ((), ((), ((), d.2.2.2.2))))))
 else (
 bif decide (d.2.2.2.2.1.1 = (4 : Int)) then (
 (T.2.2.1 ((d.1.1, (d.1.2.1, ((d.1.2.2.1.1, (d.1.2.2.1.2.1, (d.1.2.2.1.2.2.1, (d.1.2.2.1.2.2.2.1, (x37, ()))))), ()))), ((), ((), ((), d.2.2.2.2))))))
 else (
 none))))))
 else none)
 else (
 bif decide (d.2.2.2.2.1.1 = (1 : Int)) then (
 let x36 := (A4 .u32 d.1.2.2.1.1 d.1.1.2.1)
 bif decide ((0 : Int) <= d.2.2.2.2.1.1) && decide (d.2.2.2.2.1.1 < (5 : Int)) then (
 bif decide (d.2.2.2.2.1.1 = (0 : Int)) then (
 (T.2.2.1 ((d.1.1, (d.1.2.1, ((x36, d.1.2.2.1.2), ()))), ((), ((), ((), d.2.2.2.2))))))
 else (
 bif decide (d.2.2.2.2.1.1 = (1 : Int)) then (
 (T.2.2.1 ((d.1.1, (d.1.2.1, ((d.1.2.2.1.1, (x36, d.1.2.2.1.2.2)), ()))), ((), ((), ((), d.2.2.2.2))))))
 else (
 bif decide (d.2.2.2.2.1.1 = (2 : Int)) then (
 (T.2.2.1 ((d.1.1, (d.1.2.1, ((d.1.2.2.1.1, (d.1.2.2.1.2.1, (x36, d.1.2.2.1.2.2.2))), ()))), ((), ((), ((), d.2.2.2.2))))))
 else (
 bif decide (d.2.2.2.2.1.1 = (3 : Int)) then (
 (T.2.2.1 ((d.1.1, (d.1.2.1, ((d.1.2.2.1.1, (d.1.2.2.1.2.1, (d.1.2.2.1.2.2.1, (x36, d.1.2.2.1.2.2.2.2)))), ()))), ((), ((), ((), d.2.2.2.2))))))
 else (
 bif decide (d.2.2.2.2.1.1 = (4 : Int)) then (
 (T.2.2.1 ((d.1.1, (d.1.2.1, ((d.1.2.2.1.1, (d.1.2.2.1.2.1, (d.1.2.2.1.2.2.1, (d.1.2.2.1.2.2.2.1, (x36, ()))))), ()))), ((), ((), ((), d.2.2.2.2))))))
 else (
 none))))))
 else none)
 else (
 bif decide (d.2.2.2.2.1.1 = (2 : Int)) then (
 let x35 := (A4 .u32 d.1.2.2.1.1 d.1.1.2.2.1)
 bif decide ((0 : Int) <= d.2.2.2.2.1.1) && decide (d.2.2.2.2.1.1 < (5 : Int)) then (
 bif decide (d.2.2.2.2.1.1 = (0 : Int)) then (
 (T.2.2.1 ((d.1.1, (d.1.2.1, ((x35, d.1.2.2.1.2), ()))), ((), ((), ((), d.2.2.2.2))))))
 else (
 bif decide (d.2.2.2.2.1.1 = (1 : Int)) then (
 (T.2.2.1 ((d.1.1, (d.1.2.1, ((d.1.2.2.1.1, (x35, d.1.2.2.1.2.2)), ()))), ((), ((), ((), d.2.2.2.2))))))
 else (
 bif decide (d.2.2.2.2.1.1 = (2 : Int)) then (
 (T.2.2.1 ((d.1.1, (d.1.2.1, ((d.1.2.2.1.1, (d.1.2.2.1.2.1, (x35, d.1.2.2.1.2.2.2))), ()))), ((), ((), ((), d.2.2.2.2))))))
 else (
 bif decide (d.2.2.2.2.1.1 = (3 : Int)) then (
 (T.2.2.1 ((d.1.1, (d.1.2.1, ((d.1.2.2.1.1, (d.1.2.2.1.2.1, (d.1.2.2.1.2.2.1, (x35, d.1.2.2.1.2.2.2.2)))), ()))), ((), ((), ((), d.2.2.2.2))))))
 else (
 bif decide (d.2.2.2.2.1.1 = (4 : Int)) then (
 (T.2.2.1 ((d.1.1, (d.1.2.1, ((d.1.2.2.1.1, (d.1.2.2.1.2.1, (d.1.2.2.1.2.2.1, (d.1.2.2.1.2.2.2.1, (x35, ()))))), ()))), ((), ((), ((), d.2.2.2.2))))))
 else (
 none))))))
 else none)
 else (
 bif decide (d.2.2.2.2.1.1 = (3 : Int)) then (
 let x34 := (A4 .u32 d.1.2.2.1.1 d.1.1.2.2.2.1)
 bif decide ((0 : Int) <= d.2.2.2.2.1.1) && decide (d.2.2.2.2.1.1 < (5 : Int)) then (
 bif decide (d.2.2.2.2.1.1 = (0 : Int)) then (
 (T.2.2.1 ((d.1.1, (d.1.2.1, ((x34, d.1.2.2.1.2), ()))), ((), ((), ((), d.2.2.2.2))))))
 else (
 bif decide (d.2.2.2.2.1.1 = (1 : Int)) then (
 (T.2.2.1 ((d.1.1, (d.1.2.1, ((d.1.2.2.1.1, (x34, d.1.2.2.1.2.2)), ()))), ((), ((), ((), d.2.2.2.2))))))
 else (
 bif decide (d.2.2.2.2.1.1 = (2 : Int)) then (
 (T.2.2.1 ((d.1.1, (d.1.2.1, ((d.1.2.2.1.1, (d.1.2.2.1.2.1, (x34, d.1.2.2.1.2.2.2))), ()))), ((), ((), ((), d.2.2.2.2))))))
 else (
 bif decide (d.2.2.2.2.1.1 = (3 : Int)) then (
 (T.2.2.1 ((d.1.1, (d.1.2.1, ((d.1.2.2.1.1, (d.1.2.2.1.2.1, (d.1.2.2.1.2.2.1, (x34, d.1.2.2.1.2.2.2.2)))), ()))), ((), ((), ((), d.2.2.2.2))))))
 else (
 bif decide (d.2.2.2.2.1.1 = (4 : Int)) then (
 (T.2.2.1 ((d.1.1, (d.1.2.1, ((d.1.2.2.1.1, (d.1.2.2.1.2.1, (d.1.2.2.1.2.2.1, (d.1.2.2.1.2.2.2.1, (x34, ()))))), ()))), ((), ((), ((), d.2.2.2.2))))))
 else (
 none))))))
 else none)
 else (
 bif decide (d.2.2.2.2.1.1 = (4 : Int)) then (
 let x33 := (A4 .u32 d.1.2.2.1.1 d.1.1.2.2.2.2.1)
 bif decide ((0 : Int) <= d.2.2.2.2.1.1) && decide (d.2.2.2.2.1.1 < (5 : Int)) then (
 bif decide (d.2.2.2.2.1.1 = (0 : Int)) then (
 (T.2.2.1 ((d.1.1, (d.1.2.1, ((x33, d.1.2.2.1.2), ()))), ((), ((), ((), d.2.2.2.2))))))
 else (
 bif decide (d.2.2.2.2.1.1 = (1 : Int)) then (
 (T.2.2.1 ((d.1.1, (d.1.2.1, ((d.1.2.2.1.1, (x33, d.1.2.2.1.2.2)), ()))), ((), ((), ((), d.2.2.2.2))))))
 else (
 bif decide (d.2.2.2.2.1.1 = (2 : Int)) then (
 (T.2.2.1 ((d.1.1, (d.1.2.1, ((d.1.2.2.1.1, (d.1.2.2.1.2.1, (x33, d.1.2.2.1.2.2.2))), ()))), ((), ((), ((), d.2.2.2.2))))))
 else (
 bif decide (d.2.2.2.2.1.1 = (3 : Int)) then (
 (T.2.2.1 ((d.1.1, (d.1.2.1, ((d.1.2.2.1.1, (d.1.2.2.1.2.1, (d.1.2.2.1.2.2.1, (x33, d.1.2.2.1.2.2.2.2)))), ()))), ((), ((), ((), d.2.2.2.2))))))
 else (
 bif decide (d.2.2.2.2.1.1 = (4 : Int)) then (
 (T.2.2.1 ((d.1.1, (d.1.2.1, ((d.1.2.2.1.1, (d.1.2.2.1.2.1, (d.1.2.2.1.2.2.1, (d.1.2.2.1.2.2.2.1, (x33, ()))))), ()))), ((), ((), ((), d.2.2.2.2))))))
 else (
 none))))))
 else none)
 else (
 none))))))
 else none)
 else (
 bif decide (d.2.2.2.2.1.1 = (1 : Int)) then (
 bif decide ((0 : Int) <= d.2.2.2.2.1.1) && decide (d.2.2.2.2.1.1 < (5 : Int)) then (
 bif decide (d.2.2.2.2.1.1 = (0 : Int)) then (
 let x32 := (A4 .u32 d.1.2.2.1.2.1 d.1.1.1)
 bif decide ((0 : Int) <= d.2.2.2.2.1.1) && decide (d.2.2.2.2.1.1 < (5 : Int)) then (
 bif decide (d.2.2.2.2.1.1 = (0 : Int)) then (
 (T.2.2.1 ((d.1.1, (d.1.2.1, ((x32, d.1.2.2.1.2), ()))), ((), ((), ((), d.2.2.2.2))))))
 else (
 bif decide (d.2.2.2.2.1.1 = (1 : Int)) then (
 (T.2.2.1 ((d.1.1, (d.1.2.1, ((d.1.2.2.1.1, (x32, d.1.2.2.1.2.2)), ()))), ((), ((), ((), d.2.2.2.2))))))
 else (
 bif decide (d.2.2.2.2.1.1 = (2 : Int)) then (
 (T.2.2.1 ((d.1.1, (d.1.2.1, ((d.1.2.2.1.1, (d.1.2.2.1.2.1, (x32, d.1.2.2.1.2.2.2))), ()))), ((), ((), ((), d.2.2.2.2))))))
 else (
 bif decide (d.2.2.2.2.1.1 = (3 : Int)) then (
 (T.2.2.1 ((d.1.1, (d.1.2.1, ((d.1.2.2.1.1, (d.1.2.2.1.2.1, (d.1.2.2.1.2.2.1, (x32, d.1.2.2.1.2.2.2.2)))), ()))), ((), ((), ((), d.2.2.2.2))))))
 else (
 bif decide (d.2.2.2.2.1.1 = (4 : Int)) then (
 (T.2.2.1 ((d.1.1, (d.1.2.1, ((d.1.2.2.1.1, (d.1.2.2.1.2.1, (d.1.2.2.1.2.2.1, (d.1.2.2.1.2.2.2.1, (x32, ()))))), ()))), ((), ((), ((), d.2.2.2.2))))))
 else (
 none))))))
 else none)
 else (
 bif decide (d.2.2.2.2.1.1 = (1 : Int)) then (
 let x31 := (A4 .u32 d.1.2.2.1.2.1 d.1.1.2.1)
 bif decide ((0 : Int) <= d.2.2.2.2.1.1) && decide (d.2.2.2.2.1.1 < (5 : Int)) then (
 bif decide (d.2.2.2.2.1.1 = (0 : Int)) then (
 (T.2.2.1 ((d.1.1, (d.1.2.1, ((x31, d.1.2.2.1.2), ()))), ((), ((), ((), d.2.2.2.2))))))
 else (
 bif decide (d.2.2.2.2.1.1 = (1 : Int)) then (
 (T.2.2.1 ((d.1.1, (d.1.2.1, ((d.1.2.2.1.1, (x31, d.1.2.2.1.2.2)), ()))), ((), ((), ((), d.2.2.2.2))))))
 else (
 bif decide (d.2.2.2.2.1.1 = (2 : Int)) then (
 (T.2.2.1 ((d.1.1, (d.1.2.1, ((d.1.2.2.1.1, (d.1.2.2.1.2.1, (x31, d.1.2.2.1.2.2.2))), ()))), ((), ((), ((), d.2.2.2.2))))))
 else (
 bif decide (d.2.2.2.2.1.1 = (3 : Int)) then (
 (T.2.2.1 ((d.1.1, (d.1.2.1, ((d.1.2.2.1.1, (d.1.2.2.1.2.1, (d.1.2.2.1.2.2.1, (x31, d.1.2.2.1.2.2.2.2)))), ()))), ((), ((), ((), d.2.2.2.2))))))
 else (
 bif decide (d.2.2.2.2.1.1 = (4 : Int)) then (
 (T.2.2.1 ((d.1.1, (d.1.2.1, ((d.1.2.2.1.1, (d.1.2.2.1.2.1, (d.1.2.2.1.2.2.1, (d.1.2.2.1.2.2.2.1, (x31, ()))))), ()))), ((), ((), ((), d.2.2.2.2))))))
 else (
 none))))))
 else none)
 else (
 bif decide (d.2.2.2.2.1.1 = (2 : Int)) then (
 let x30 := (A4 .u32 d.1.2.2.1.2.1 d.1.1.2.2.1)
 bif decide ((0 : Int) <= d.2.2.2.2.1.1) && decide (d.2.2.2.2.1.1 < (5 : Int)) then (
 bif decide (d.2.2.2.2.1.1 = (0 : Int)) then (
 (T.2.2.1 ((d.1.1, (d.1.2.1, ((x30, d.1.2.2.1.2), ()))), ((), ((), ((), d.2.2.2.2))))))
 else (
 bif decide (d.2.2.2.2.1.1 = (1 : Int)) then (
 (T.2.2.1 ((d.1.1, (d.1.2.1, ((d.1.2.2.1.1, (x30, d.1.2.2.1.2.2)), ()))), ((), ((), ((), d.2.2.2.2))))))
 else (
 bif decide (d.2.2.2.2.1.1 = (2 : Int)) then (
 (T.2.2.1 ((d.1.1, (d.1.2.1, ((d.1.2.2.1.1, (d.1.2.2.1.2.1, (x30, d.1.2.2.1.2.2.2))), ()))), ((), ((), ((), d.2.2.2.2))))))
 else (
 bif decide (d.2.2.2.2.1.1 = (3 : Int)) then (
 (T.2.2.1 ((d.1.1, (d.1.2.1, ((d.1.2.2.1.1, (d.1.2.2.1.2.1, (d.1.2.2.1.2.2.1, (x30, d.1.2.2.1.2.2.2.2)))), ()))), ((), ((), ((), d.2.2.2.2))))))
 else (
 bif decide (d.2.2.2.2.1.1 = (4 : Int)) then (
 (T.2.2.1 ((d.1.1, (d.1.2.1, ((d.1.2.2.1.1, (d.1.2.2.1.2.1, (d.1.2.2.1.2.2.1, (d.1.2.2.1.2.2.2.1, (x30, ()))))), ()))), ((), ((), ((), d.2.2.2.2))))))
 else (
 none))))))
 else none)
 else (
 bif decide (d.2.2.2.2.1.1 = (3 : Int)) then (
 let x29 := (A4 .u32 d.1.2.2.1.2.1 d.1.1.2.2.2.1)
 bif decide ((0 : Int) <= d.2.2.2.2.1.1) && decide (d.2.2.2.2.1.1 < (5 : Int)) then (
 bif decide (d.2.2.2.2.1.1 = (0 : Int)) then (
 (T.2.2.1 ((d.1.1, (d.1.2.1, ((x29, d.1.2.2.1.2), ()))), ((), ((), ((), d.2.2.2.2))))))
 else (
 bif decide (d.2.2.2.2.1.1 = (1 : Int)) then (
 (T.2.2.1 ((d.1.1, (d.1.2.1, ((d.1.2.2.1.1, (x29, d.1.2.2.1.2.2)), ()))), ((), ((), ((), d.2.2.2.2))))))
 else (
 bif decide (d.2.2.2.2.1.1 = (2 : Int)) then (
 (T.2.2.1 ((d.1.1, (d.1.2.1, ((d.1.2.2.1.1, (d.1.2.2.1.2.1, (x29, d.1.2.2.1.2.2.2))), ()))), ((), ((), ((), d.2.2.2.2))))))
 else (
 bif decide (d.2.2.2.2.1.1 = (3 : Int)) then (
 (T.2.2.1 ((d.1.1, (d.1.2.1, ((d.1.2.2.1.1, (d.1.2.2.1.2.1, (d.1.2.2.1.2.2.1, (x29, d.1.2.2.1.2.2.2.2)))), ()))), ((), ((), ((), d.2.2.2.2))))))
 else (
 bif decide (d.2.2.2.2.1.1 = (4 : Int)) then (
 (T.2.2.1 ((d.1.1, (d.1.2.1, ((d.1.2.2.1.1, (d.1.2.2.1.2.1, (d.1.2.2.1.2.2.1, (d.1.2.2.1.2.2.2.1, (x29, ()))))), ()))), ((), ((), ((), d.2.2.2.2))))))
 else (
 none))))))
 else none)
 else (
 bif decide (d.2.2.2.2.1.1 = (4 : Int)) then (
 let x28 := (A4 .u32 d.1.2.2.1.2.1 d.1.1.2.2.2.2.1)
 bif decide ((0 : Int) <= d.2.2.2.2.1.1) && decide (d.2.2.2.2.1.1 < (5 : Int)) then (
 bif decide (d.2.2.2.2.1.1 = (0 : Int)) then (
 (T.2.2.1 ((d.1.1, (d.1.2.1, ((x28, d.1.2.2.1.2), ()))), ((), ((), ((), d.2.2.2.2))))))
 else (
 bif decide (d.2.2.2.2.1.1 = (1 : Int)) then (
 (T.2.2.1 ((d.1.1, (d.1.2.1, ((d.1.2.2.1.1, (x28, d.1.2.2.1.2.2)), ()))), ((), ((), ((), d.2.2.2.2))))))
 else (
 bif decide (d.2.2.2.2.1.1 = (2 : Int)) then (
 (T.2.2.1 ((d.1.1, (d.1.2.1, ((d.1.2.2.1.1, (d.1.2.2.1.2.1, (x28, d.1.2.2.1.2.2.2))), ()))), ((), ((), ((), d.2.2.2.2))))))
 else (
 bif decide (d.2.2.2.2.1.1 = (3 : Int)) then (
 (T.2.2.1 ((d.1.1, (d.1.2.1, ((d.1.2.2.1.1, (d.1.2.2.1.2.1, (d.1.2.2.1.2.2.1, (x28, d.1.2.2.1.2.2.2.2)))), ()))), ((), ((), ((), d.2.2.2.2))))))
 else (
 bif decide (d.2.2.2.2.1.1 = (4 : Int)) then (
 (T.2.2.1 ((d.1.1, (d.1.2.1, ((d.1.2.2.1.1, (d.1.2.2.1.2.1, (d.1.2.2.1.2.2.1, (d.1.2.2.1.2.2.2.1, (x28, ()))))), ()))), ((), ((), ((), d.2.2.2.2))))))
 else (
 none))))))
 else none)
 else (
 none))))))
 else none)
 else (
 bif decide (d.2.2.2.2.1.1 = (2 : Int)) then (
 bif decide ((0 : Int) <= d.2.2.2.2.1.1) && decide (d.2.2.2.2.1.1 < (5 : Int)) then (
 bif decide (d.2.2.2.2.1.1 = (0 : Int)) then (
 let x27 := (A4 .u32 d.1.2.2.1.2.2.1 d.1.1.1)
 bif decide ((0 : Int) <= d.2.2.2.2.1.1) && decide (d.2.2.2.2.1.1 < (5 : Int)) then (
 bif decide (d.2.2.2.2.1.1 = (0 : Int)) then (
 (T.2.2.1 ((d.1.1, (d.1.2.1, ((x27, d.1.2.2.1.2), ()))), ((), ((), ((), d.2.2.2.2))))))
 else (
 bif decide (d.2.2.2.2.1.1 = (1 : Int)) then (
 (T.2.2.1 ((d.1.1, (d.1.2.1, ((d.1.2.2.1.1, (x27, d.1.2.2.1.2.2)), ()))), ((), ((), ((), d.2.2.2.2))))))
 else (
 bif decide (d.2.2.2.2.1.1 = (2 : Int)) then (
 (T.2.2.1 ((d.1.1, (d.1.2.1, ((d.1.2.2.1.1, (d.1.2.2.1.2.1, (x27, d.1.2.2.1.2.2.2))), ()))), ((), ((), ((), d.2.2.2.2))))))
 else (
 bif decide (d.2.2.2.2.1.1 = (3 : Int)) then (
 (T.2.2.1 ((d.1.1, (d.1.2.1, ((d.1.2.2.1.1, (d.1.2.2.1.2.1, (d.1.2.2.1.2.2.1, (x27, d.1.2.2.1.2.2.2.2)))), ()))), ((), ((), ((), d.2.2.2.2))))))
 else (
 bif decide (d.2.2.2.2.1.1 = (4 : Int)) then (
 (T.2.2.1 ((d.1.1, (d.1.2.1, ((d.1.2.2.1.1, (d.1.2.2.1.2.1, (d.1.2.2.1.2.2.1, (d.1.2.2.1.2.2.2.1, (x27, ()))))), ()))), ((), ((), ((), d.2.2.2.2))))))
 else (
 none))))))
 else none)
 else (
 bif decide (d.2.2.2.2.1.1 = (1 : Int)) then (
 let x26 := (A4 .u32 d.1.2.2.1.2.2.1 d.1.1.2.1)
 bif decide ((0 : Int) <= d.2.2.2.2.1.1) && decide (d.2.2.2.2.1.1 < (5 : Int)) then (
 bif decide (d.2.2.2.2.1.1 = (0 : Int)) then (
 (T.2.2.1 ((d.1.1, (d.1.2.1, ((x26, d.1.2.2.1.2), ()))), ((), ((), ((), d.2.2.2.2))))))
 else (
 bif decide (d.2.2.2.2.1.1 = (1 : Int)) then (
 (T.2.2.1 ((d.1.1, (d.1.2.1, ((d.1.2.2.1.1, (x26, d.1.2.2.1.2.2)), ()))), ((), ((), ((), d.2.2.2.2))))))
 else (
 bif decide (d.2.2.2.2.1.1 = (2 : Int)) then (
 (T.2.2.1 ((d.1.1, (d.1.2.1, ((d.1.2.2.1.1, (d.1.2.2.1.2.1, (x26, d.1.2.2.1.2.2.2))), ()))), ((), ((), ((), d.2.2.2.2))))))
 else (
 bif decide (d.2.2.2.2.1.1 = (3 : Int)) then (
 (T.2.2.1 ((d.1.1, (d.1.2.1, ((d.1.2.2.1.1, (d.1.2.2.1.2.1, (d.1.2.2.1.2.2.1, (x26, d.1.2.2.1.2.2.2.2)))), ()))), ((), ((), ((), d.2.2.2.2))))))
 else (
 bif decide (d.2.2.2.2.1.1 = (4 : Int)) then (
 (T.2.2.1 ((d.1.1, (d.1.2.1, ((d.1.2.2.1.1, (d.1.2.2.1.2.1, (d.1.2.2.1.2.2.1, (d.1.2.2.1.2.2.2.1, (x26, ()))))), ()))), ((), ((), ((), d.2.2.2.2))))))
 else (
 none))))))
 else none)
 else (
 bif decide (d.2.2.2.2.1.1 = (2 : Int)) then (
 let x25 := (A4 .u32 d.1.2.2.1.2.2.1 d.1.1.2.2.1)
 bif decide ((0 : Int) <= d.2.2.2.2.1.1) && decide (d.2.2.2.2.1.1 < (5 : Int)) then (
 bif decide (d.2.2.2.2.1.1 = (0 : Int)) then (
 (T.2.2.1 ((d.1.1, (d.1.2.1, ((x25, d.1.2.2.1.2), ()))), ((), ((), ((), d.2.2.2.2))))))
 else (
 bif decide (d.2.2.2.2.1.1 = (1 : Int)) then (
 (T.2.2.1 ((d.1.1, (d.1.2.1, ((d.1.2.2.1.1, (x25, d.1.2.2.1.2.2)), ()))), ((), ((), ((), d.2.2.2.2))))))
 else (
 bif decide (d.2.2.2.2.1.1 = (2 : Int)) then (
 (T.2.2.1 ((d.1.1, (d.1.2.1, ((d.1.2.2.1.1, (d.1.2.2.1.2.1, (x25, d.1.2.2.1.2.2.2))), ()))), ((), ((), ((), d.2.2.2.2))))))
 else (
 bif decide (d.2.2.2.2.1.1 = (3 : Int)) then (
 (T.2.2.1 ((d.1.1, (d.1.2.1, ((d.1.2.2.1.1, (d.1.2.2.1.2.1, (d.1.2.2.1.2.2.1, (x25, d.1.2.2.1.2.2.2.2)))), ()))), ((), ((), ((), d.2.2.2.2))))))
 else (
 bif decide (d.2.2.2.2.1.1 = (4 : Int)) then (
 (T.2.2.1 ((d.1.1, (d.1.2.1, ((d.1.2.2.1.1, (d.1.2.2.1.2.1, (d.1.2.2.1.2.2.1, (d.1.2.2.1.2.2.2.1, (x25, ()))))), ()))), ((), ((), ((), d.2.2.2.2))))))
 else (
 none))))))
 else none)
 else (
 bif decide (d.2.2.2.2.1.1 = (3 : Int)) then (
 let x24 := (A4 .u32 d.1.2.2.1.2.2.1 d.1.1.2.2.2.1)
 bif decide ((0 : Int) <= d.2.2.2.2.1.1) && decide (d.2.2.2.2.1.1 < (5 : Int)) then (
 bif decide (d.2.2.2.2.1.1 = (0 : Int)) then (
 (T.2.2.1 ((d.1.1, (d.1.2.1, ((x24, d.1.2.2.1.2), ()))), ((), ((), ((), d.2.2.2.2))))))
 else (
 bif decide (d.2.2.2.2.1.1 = (1 : Int)) then (
 (T.2.2.1 ((d.1.1, (d.1.2.1, ((d.1.2.2.1.1, (x24, d.1.2.2.1.2.2)), ()))), ((), ((), ((), d.2.2.2.2))))))
 else (
 bif decide (d.2.2.2.2.1.1 = (2 : Int)) then (
 (T.2.2.1 ((d.1.1, (d.1.2.1, ((d.1.2.2.1.1, (d.1.2.2.1.2.1, (x24, d.1.2.2.1.2.2.2))), ()))), ((), ((), ((), d.2.2.2.2))))))
 else (
 bif decide (d.2.2.2.2.1.1 = (3 : Int)) then (
 (T.2.2.1 ((d.1.1, (d.1.2.1, ((d.1.2.2.1.1, (d.1.2.2.1.2.1, (d.1.2.2.1.2.2.1, (x24, d.1.2.2.1.2.2.2.2)))), ()))), ((), ((), ((), d.2.2.2.2))))))
 else (
 bif decide (d.2.2.2.2.1.1 = (4 : Int)) then (
 (T.2.2.1 ((d.1.1, (d.1.2.1, ((d.1.2.2.1.1, (d.1.2.2.1.2.1, (d.1.2.2.1.2.2.1, (d.1.2.2.1.2.2.2.1, (x24, ()))))), ()))), ((), ((), ((), d.2.2.2.2))))))
 else (
 none))))))
 else none)
 else (
 bif decide (d.2.2.2.2.1.1 = (4 : Int)) then (
 let x23 := (A4 .u32 d.1.2.2.1.2.2.1 d.1.1.2.2.2.2.1)
 bif decide ((0 : Int) <= d.2.2.2.2.1.1) && decide (d.2.2.2.2.1.1 < (5 : Int)) then (
 bif decide (d.2.2.2.2.1.1 = (0 : Int)) then (
 (T.2.2.1 ((d.1.1, (d.1.2.1, ((x23, d.1.2.2.1.2), ()))), ((), ((), ((), d.2.2.2.2))))))
 else (
 bif decide (d.2.2.2.2.1.1 = (1 : Int)) then (
 (T.2.2.1 ((d.1.1, (d.1.2.1, ((d.1.2.2.1.1, (x23, d.1.2.2.1.2.2)), ()))), ((), ((), ((), d.2.2.2.2))))))
 else (
 bif decide (d.2.2.2.2.1.1 = (2 : Int)) then (
 (T.2.2.1 ((d.1.1, (d.1.2.1, ((d.1.2.2.1.1, (d.1.2.2.1.2.1, (x23, d.1.2.2.1.2.2.2))), ()))), ((), ((), ((), d.2.2.2.2))))))
 else (
 bif decide (d.2.2.2.2.1.1 = (3 : Int)) then (
 (T.2.2.1 ((d.1.1, (d.1.2.1, ((d.1.2.2.1.1, (d.1.2.2.1.2.1, (d.1.2.2.1.2.2.1, (x23, d.1.2.2.1.2.2.2.2)))), ()))), ((), ((), ((), d.2.2.2.2))))))
 else (
 bif decide (d.2.2.2.2.1.1 = (4 : Int)) then (
 (T.2.2.1 ((d.1.1, (d.1.2.1, ((d.1.2.2.1.1, (d.1.2.2.1.2.1, (d.1.2.2.1.2.2.1, (d.1.2.2.1.2.2.2.1, (x23, ()))))), ()))), ((), ((), ((), d.2.2.2.2))))))
 else (
 none))))))
 else none)
 else (
 none))))))
 else none)
 else (
 bif decide (d.2.2.2.2.1.1 = (3 : Int)) then (
 bif decide ((0 : Int) <= d.2.2.2.2.1.1) && decide (d.2.2.2.2.1.1 < (5 : Int)) then (
 bif decide (d.2.2.2.2.1.1 = (0 : Int)) then (
 let x22 := (A4 .u32 d.1.2.2.1.2.2.2.1 d.1.1.1)
 bif decide ((0 : Int) <= d.2.2.2.2.1.1) && decide (d.2.2.2.2.1.1 < (5 : Int)) then (
 bif decide (d.2.2.2.2.1.1 = (0 : Int)) then (
 (T.2.2.1 ((d.1.1, (d.1.2.1, ((x22, d.1.2.2.1.2), ()))), ((), ((), ((), d.2.2.2.2))))))
 else (
 bif decide (d.2.2.2.2.1.1 = (1 : Int)) then (
 (T.2.2.1 ((d.1.1, (d.1.2.1, ((d.1.2.2.1.1, (x22, d.1.2.2.1.2.2)), ()))), ((), ((), ((), d.2.2.2.2))))))
 else (
 bif decide (d.2.2.2.2.1.1 = (2 : Int)) then (
 (T.2.2.1 ((d.1.1, (d.1.2.1, ((d.1.2.2.1.1, (d.1.2.2.1.2.1, (x22, d.1.2.2.1.2.2.2))), ()))), ((), ((), ((), d.2.2.2.2))))))
 else (
 bif decide (d.2.2.2.2.1.1 = (3 : Int)) then (
 (T.2.2.1 ((d.1.1, (d.1.2.1, ((d.1.2.2.1.1, (d.1.2.2.1.2.1, (d.1.2.2.1.2.2.1, (x22, d.1.2.2.1.2.2.2.2)))), ()))), ((), ((), ((), d.2.2.2.2))))))
 else (
 bif decide (d.2.2.2.2.1.1 = (4 : Int)) then (
 (T.2.2.1 ((d.1.1, (d.1.2.1, ((d.1.2.2.1.1, (d.1.2.2.1.2.1, (d.1.2.2.1.2.2.1, (d.1.2.2.1.2.2.2.1, (x22, ()))))), ()))), ((), ((), ((), d.2.2.2.2))))))
 else (
 none))))))
 else none)
 else (
 bif decide (d.2.2.2.2.1.1 = (1 : Int)) then (
 let x21 := (A4 .u32 d.1.2.2.1.2.2.2.1 d.1.1.2.1)
 bif decide ((0 : Int) <= d.2.2.2.2.1.1) && decide (d.2.2.2.2.1.1 < (5 : Int)) then (
 bif decide (d.2.2.2.2.1.1 = (0 : Int)) then (
 (T.2.2.1 ((d.1.1, (d.1.2.1, ((x21, d.1.2.2.1.2), ()))), ((), ((), ((), d.2.2.2.2))))))
 else (
 bif decide (d.2.2.2.2.1.1 = (1 : Int)) then (
 (T.2.2.1 ((d.1.1, (d.1.2.1, ((d.1.2.2.1.1, (x21, d.1.2.2.1.2.2)), ()))), ((), ((), ((), d.2.2.2.2))))))
 else (
 bif decide (d.2.2.2.2.1.1 = (2 : Int)) then (
 (T.2.2.1 ((d.1.1, (d.1.2.1, ((d.1.2.2.1.1, (d.1.2.2.1.2.1, (x21, d.1.2.2.1.2.2.2))), ()))), ((), ((), ((), d.2.2.2.2))))))
 else (
 bif decide (d.2.2.2.2.1.1 = (3 : Int)) then (
 (T.2.2.1 ((d.1.1, (d.1.2.1, ((d.1.2.2.1.1, (d.1.2.2.1.2.1, (d.1.2.2.1.2.2.1, (x21, d.1.2.2.1.2.2.2.2)))), ()))), ((), ((), ((), d.2.2.2.2))))))
 else (
 bif decide (d.2.2.2.2.1.1 = (4 : Int)) then (
 (T.2.2.1 ((d.1.1, (d.1.2.1, ((d.1.2.2.1.1, (d.1.2.2.1.2.1, (d.1.2.2.1.2.2.1, (d.1.2.2.1.2.2.2.1, (x21, ()))))), ()))), ((), ((), ((), d.2.2.2.2))))))
 else (
 none))))))
 else none)
 else (
 bif decide (d.2.2.2.2.1.1 = (2 : Int)) then (
 let x20 := (A4 .u32 d.1.2.2.1.2.2.2.1 d.1.1.2.2.1)
 bif decide ((0 : Int) <= d.2.2.2.2.1.1) && decide (d.2.2.2.2.1.1 < (5 : Int)) then (
 bif decide (d.2.2.2.2.1.1 = (0 : Int)) then (
 (T.2.2.1 ((d.1.1, (d.1.2.1, ((x20, d.1.2.2.1.2), ()))), ((), ((), ((), d.2.2.2.2))))))
 else (
 bif decide (d.2.2.2.2.1.1 = (1 : Int)) then (
 (T.2.2.1 ((d.1.1, (d.1.2.1, ((d.1.2.2.1.1, (x20, d.1.2.2.1.2.2)), ()))), ((), ((), ((), d.2.2.2.2))))))
 else (
 bif decide (d.2.2.2.2.1.1 = (2 : Int)) then (
 (T.2.2.1 ((d.1.1, (d.1.2.1, ((d.1.2.2.1.1, (d.1.2.2.1.2.1, (x20, d.1.2.2.1.2.2.2))), ()))), ((), ((), ((), d.2.2.2.2))))))
 else (
 bif decide (d.2.2.2.2.1.1 = (3 : Int)) then (
 (T.2.2.1 ((d.1.1, (d.1.2.1, ((d.1.2.2.1.1, (d.1.2.2.1.2.1, (d.1.2.2.1.2.2.1, (x20, d.1.2.2.1.2.2.2.2)))), ()))), ((), ((), ((), d.2.2.2.2))))))
 else (
 bif decide (d.2.2.2.2.1.1 = (4 : Int)) then (
 (T.2.2.1 ((d.1.1, (d.1.2.1, ((d.1.2.2.1.1, (d.1.2.2.1.2.1, (d.1.2.2.1.2.2.1, (d.1.2.2.1.2.2.2.1, (x20, ()))))), ()))), ((), ((), ((), d.2.2.2.2))))))
 else (
 none))))))
 else none)
 else (
 bif decide (d.2.2.2.2.1.1 = (3 : Int)) then (
 let x19 := (A4 .u32 d.1.2.2.1.2.2.2.1 d.1.1.2.2.2.1)
 bif decide ((0 : Int) <= d.2.2.2.2.1.1) && decide (d.2.2.2.2.1.1 < (5 : Int)) then (
 bif decide (d.2.2.2.2.1.1 = (0 : Int)) then (
 (T.2.2.1 ((d.1.1, (d.1.2.1, ((x19, d.1.2.2.1.2), ()))), ((), ((), ((), d.2.2.2.2))))))
 else (
 bif decide (d.2.2.2.2.1.1 = (1 : Int)) then (
 (T.2.2.1 ((d.1.1, (d.1.2.1, ((d.1.2.2.1.1, (x19, d.1.2.2.1.2.2)), ()))), ((), ((), ((), d.2.2.2.2))))))
 else (
 bif decide (d.2.2.2.2.1.1 = (2 : Int)) then (
 (T.2.2.1 ((d.1.1, (d.1.2.1, ((d.1.2.2.1.1, (d.1.2.2.1.2.1, (x19, d.1.2.2.1.2.2.2))), ()))), ((), ((), ((), d.2.2.2.2))))))
 else (
 bif decide (d.2.2.2.2.1.1 = (3 : Int)) then (
 (T.2.2.1 ((d.1.1, (d.1.2.1, ((d.1.2.2.1.1, (d.1.2.2.1.2.1, (d.1.2.2.1.2.2.1, (x19, d.1.2.2.1.2.2.2.2)))), ()))), ((), ((), ((), d.2.2.2.2))))))
 else (
 bif decide (d.2.2.2.2.1.1 = (4 : Int)) then (
 (T.2.2.1 ((d.1.1, (d.1.2.1, ((d.1.2.2.1.1, (d.1.2.2.1.2.1, (d.1.2.2.1.2.2.1, (d.1.2.2.1.2.2.2.1, (x19, ()))))), ()))), ((), ((), ((), d.2.2.2.2))))))
 else (
 none))))))
 else none)
 else (
 bif decide (d.2.2.2.2.1.1 = (4 : Int)) then (
 let x18 := (A4 .u32 d.1.2.2.1.2.2.2.1 d.1.1.2.2.2.2.1)
 bif decide ((0 : Int) <= d.2.2.2.2.1.1) && decide (d.2.2.2.2.1.1 < (5 : Int)) then (
 bif decide (d.2.2.2.2.1.1 = (0 : Int)) then (
 (T.2.2.1 ((d.1.1, (d.1.2.1, ((x18, d.1.2.2.1.2), ()))), ((), ((), ((), d.2.2.2.2))))))
 else (
 bif decide (d.2.2.2.2.1.1 = (1 : Int)) then (
 (T.2.2.1 ((d.1.1, (d.1.2.1, ((d.1.2.2.1.1, (x18, d.1.2.2.1.2.2)), ()))), ((), ((), ((), d.2.2.2.2))))))
 else (
 bif decide (d.2.2.2.2.1.1 = (2 : Int)) then (
 (T.2.2.1 ((d.1.1, (d.1.2.1, ((d.1.2.2.1.1, (d.1.2.2.1.2.1, (x18, d.1.2.2.1.2.2.2))), ()))), ((), ((), ((), d.2.2.2.2))))))
 else (
 bif decide (d.2.2.2.2.1.1 = (3 : Int)) then (
 (T.2.2.1 ((d.1.1, (d.1.2.1, ((d.1.2.2.1.1, (d.1.2.2.1.2.1, (d.1.2.2.1.2.2.1, (x18, d.1.2.2.1.2.2.2.2)))), ()))), ((), ((), ((), d.2.2.2.2))))))
 else (
 bif decide (d.2.2.2.2.1.1 = (4 : Int)) then (
 (T.2.2.1 ((d.1.1, (d.1.2.1, ((d.1.2.2.1.1, (d.1.2.2.1.2.1, (d.1.2.2.1.2.2.1, (d.1.2.2.1.2.2.2.1, (x18, ()))))), ()))), ((), ((), ((), d.2.2.2.2))))))
 else (
 none))))))
 else none)
 else (
 none))))))
 else none)
 else (
 bif decide (d.2.2.2.2.1.1 = (4 : Int)) then (
 bif decide ((0 : Int) <= d.2.2.2.2.1.1) && decide (d.2.2.2.2.1.1 < (5 : Int)) then (
 bif decide (d.2.2.2.2.1.1 = (0 : Int)) then (
 let x17 := (A4 .u32 d.1.2.2.1.2.2.2.2.1 d.1.1.1)
 bif decide ((0 : Int) <= d.2.2.2.2.1.1) && decide (d.2.2.2.2.1.1 < (5 : Int)) then (
 bif decide (d.2.2.2.2.1.1 = (0 : Int)) then (
 (T.2.2.1 ((d.1.1, (d.1.2.1, ((x17, d.1.2.2.1.2), ()))), ((), ((), ((), d.2.2.2.2))))))
 else (
 bif decide (d.2.2.2.2.1.1 = (1 : Int)) then (
 (T.2.2.1 ((d.1.1, (d.1.2.1, ((d.1.2.2.1.1, (x17, d.1.2.2.1.2.2)), ()))), ((), ((), ((), d.2.2.2.2))))))
 else (
 bif decide (d.2.2.2.2.1.1 = (2 : Int)) then (
 (T.2.2.1 ((d.1.1, (d.1.2.1, ((d.1.2.2.1.1, (d.1.2.2.1.2.1, (x17, d.1.2.2.1.2.2.2))), ()))), ((), ((), ((), d.2.2.2.2))))))
 else (
 bif decide (d.2.2.2.2.1.1 = (3 : Int)) then (
 (T.2.2.1 ((d.1.1, (d.1.2.1, ((d.1.2.2.1.1, (d.1.2.2.1.2.1, (d.1.2.2.1.2.2.1, (x17, d.1.2.2.1.2.2.2.2)))), ()))), ((), ((), ((), d.2.2.2.2))))))
 else (
 bif decide (d.2.2.2.2.1.1 = (4 : Int)) then (
 (T.2.2.1 ((d.1.1, (d.1.2.1, ((d.1.2.2.1.1, (d.1.2.2.1.2.1, (d.1.2.2.1.2.2.1, (d.1.2.2.1.2.2.2.1, (x17, ()))))), ()))), ((), ((), ((), d.2.2.2.2))))))
 else (
 none))))))
 else none)
 else (
 bif decide (d.2.2.2.2.1.1 = (1 : Int)) then (
 let x16 := (A4 .u32 d.1.2.2.1.2.2.2.2.1 d.1.1.2.1)
 bif decide ((0 : Int) <= d.2.2.2.2.1.1) && decide (d.2.2.2.2.1.1 < (5 : Int)) then (
 bif decide (d.2.2.2.2.1.1 = (0 : Int)) then (
 (T.2.2.1 ((d.1.1, (d.1.2.1, ((x16, d.1.2.2.1.2), ()))), ((), ((), ((), d.2.2.2.2))))))
 else (
 bif decide (d.2.2.2.2.1.1 = (1 : Int)) then (
 (T.2.2.1 ((d.1.1, (d.1.2.1, ((d.1.2.2.1.1, (x16, d.1.2.2.1.2.2)), ()))), ((), ((), ((), d.2.2.2.2))))))
 else (
 bif decide (d.2.2.2.2.1.1 = (2 : Int)) then (
 (T.2.2.1 ((d.1.1, (d.1.2.1, ((d.1.2.2.1.1, (d.1.2.2.1.2.1, (x16, d.1.2.2.1.2.2.2))), ()))), ((), ((), ((), d.2.2.2.2))))))
 else (
 bif decide (d.2.2.2.2.1.1 = (3 : Int)) then (
 (T.2.2.1 ((d.1.1, (d.1.2.1, ((d.1.2.2.1.1, (d.1.2.2.1.2.1, (d.1.2.2.1.2.2.1, (x16, d.1.2.2.1.2.2.2.2)))), ()))), ((), ((), ((), d.2.2.2.2))))))
 else (
 bif decide (d.2.2.2.2.1.1 = (4 : Int)) then (
 (T.2.2.1 ((d.1.1, (d.1.2.1, ((d.1.2.2.1.1, (d.1.2.2.1.2.1, (d.1.2.2.1.2.2.1, (d.1.2.2.1.2.2.2.1, (x16, ()))))), ()))), ((), ((), ((), d.2.2.2.2))))))
 else (
 none))))))
 else none)
 else (
 bif decide (d.2.2.2.2.1.1 = (2 : Int)) then (
 let x15 := (A4 .u32 d.1.2.2.1.2.2.2.2.1 d.1.1.2.2.1)
 bif decide ((0 : Int) <= d.2.2.2.2.1.1) && decide (d.2.2.2.2.1.1 < (5 : Int)) then (
 bif decide (d.2.2.2.2.1.1 = (0 : Int)) then (
 (T.2.2.1 ((d.1.1, (d.1.2.1, ((x15, d.1.2.2.1.2), ()))), ((), ((), ((), d.2.2.2.2))))))
 else (
 bif decide (d.2.2.2.2.1.1 = (1 : Int)) then (
 (T.2.2.1 ((d.1.1, (d.1.2.1, ((d.1.2.2.1.1, (x15, d.1.2.2.1.2.2)), ()))), ((), ((), ((), d.2.2.2.2))))))
 else (
 bif decide (d.2.2.2.2.1.1 = (2 : Int)) then (
 (T.2.2.1 ((d.1.1, (d.1.2.1, ((d.1.2.2.1.1, (d.1.2.2.1.2.1, (x15, d.1.2.2.1.2.2.2))), ()))), ((), ((), ((), d.2.2.2.2))))))
 else (
 bif decide (d.2.2.2.2.1.1 = (3 : Int)) then (
 (T.2.2.1 ((d.1.1, (d.1.2.1, ((d.1.2.2.1.1, (d.1.2.2.1.2.1, (d.1.2.2.1.2.2.1, (x15, d.1.2.2.1.2.2.2.2)))), ()))), ((), ((), ((), d.2.2.2.2))))))
 else (
 bif decide (d.2.2.2.2.1.1 = (4 : Int)) then (
 (T.2.2.1 ((d.1.1, (d.1.2.1, ((d.1.2.2.1.1, (d.1.2.2.1.2.1, (d.1.2.2.1.2.2.1, (d.1.2.2.1.2.2.2.1, (x15, ()))))), ()))), ((), ((), ((), d.2.2.2.2))))))
 else (
 none))))))
 else none)
 else (
 bif decide (d.2.2.2.2.1.1 = (3 : Int)) then (
 let x14 := (A4 .u32 d.1.2.2.1.2.2.2.2.1 d.1.1.2.2.2.1)
 bif decide ((0 : Int) <= d.2.2.2.2.1.1) && decide (d.2.2.2.2.1.1 < (5 : Int)) then (
 bif decide (d.2.2.2.2.1.1 = (0 : Int)) then (
 (T.2.2.1 ((d.1.1, (d.1.2.1, ((x14, d.1.2.2.1.2), ()))), ((), ((), ((), d.2.2.2.2))))))
 else (
 bif decide (d.2.2.2.2.1.1 = (1 : Int)) then (
 (T.2.2.1 ((d.1.1, (d.1.2.1, ((d.1.2.2.1.1, (x14, d.1.2.2.1.2.2)), ()))), ((), ((), ((), d.2.2.2.2))))))
 else (
 bif decide (d.2.2.2.2.1.1 = (2 : Int)) then (
 (T.2.2.1 ((d.1.1, (d.1.2.1, ((d.1.2.2.1.1, (d.1.2.2.1.2.1, (x14, d.1.2.2.1.2.2.2))), ()))), ((), ((), ((), d.2.2.2.2))))))
 else (
 bif decide (d.2.2.2.2.1.1 = (3 : Int)) then (
 (T.2.2.1 ((d.1.1, (d.1.2.1, ((d.1.2.2.1.1, (d.1.2.2.1.2.1, (d.1.2.2.1.2.2.1, (x14, d.1.2.2.1.2.2.2.2)))), ()))), ((), ((), ((), d.2.2.2.2))))))
 else (
 bif decide (d.2.2.2.2.1.1 = (4 : Int)) then (
 (T.2.2.1 ((d.1.1, (d.1.2.1, ((d.1.2.2.1.1, (d.1.2.2.1.2.1, (d.1.2.2.1.2.2.1, (d.1.2.2.1.2.2.2.1, (x14, ()))))), ()))), ((), ((), ((), d.2.2.2.2))))))
 else (
 none))))))
 else none)
 else (
 bif decide (d.2.2.2.2.1.1 = (4 : Int)) then (
 let x13 := (A4 .u32 d.1.2.2.1.2.2.2.2.1 d.1.1.2.2.2.2.1)
 bif decide ((0 : Int) <= d.2.2.2.2.1.1) && decide (d.2.2.2.2.1.1 < (5 : Int)) then (
 bif decide (d.2.2.2.2.1.1 = (0 : Int)) then (
 (T.2.2.1 ((d.1.1, (d.1.2.1, ((x13, d.1.2.2.1.2), ()))), ((), ((), ((), d.2.2.2.2))))))
 else (
 bif decide (d.2.2.2.2.1.1 = (1 : Int)) then (
 (T.2.2.1 ((d.1.1, (d.1.2.1, ((d.1.2.2.1.1, (x13, d.1.2.2.1.2.2)), ()))), ((), ((), ((), d.2.2.2.2))))))
 else (
 bif decide (d.2.2.2.2.1.1 = (2 : Int)) then (
 (T.2.2.1 ((d.1.1, (d.1.2.1, ((d.1.2.2.1.1, (d.1.2.2.1.2.1, (x13, d.1.2.2.1.2.2.2))), ()))), ((), ((), ((), d.2.2.2.2))))))
 else (
 bif decide (d.2.2.2.2.1.1 = (3 : Int)) then (
 (T.2.2.1 ((d.1.1, (d.1.2.1, ((d.1.2.2.1.1, (d.1.2.2.1.2.1, (d.1.2.2.1.2.2.1, (x13, d.1.2.2.1.2.2.2.2)))), ()))), ((), ((), ((), d.2.2.2.2))))))
 else (
 bif decide (d.2.2.2.2.1.1 = (4 : Int)) then (
 (T.2.2.1 ((d.1.1, (d.1.2.1, ((d.1.2.2.1.1, (d.1.2.2.1.2.1, (d.1.2.2.1.2.2.1, (d.1.2.2.1.2.2.2.1, (x13, ()))))), ()))), ((), ((), ((), d.2.2.2.2))))))
 else (
 none))))))
 else none)
 else (
 none))))))
 else none)
 else (
 none))))))
 else none)
 else (
 some ((), d.1.2.2))
def Vh (T : D9) (d : Ai1) : Option (Nu) :=
 let x38 := (A4 .i64 d.2.2.2.2.1.1 1)
 (T.2.1 (d.1, ((), ((), ((), ((x38, ()), ()))))))
def Cz : Nat -> D9
 | 0 => (fun _ => none, (fun _ => none, (fun _ => none, ())))
 | k + 1 => (Yf (Cz k), (Fb (Cz k), (Vh (Cz k), ())))
theorem Ajt (k : Nat) : Cz (k + 1) = (Yf (Cz k), (Fb (Cz k), (Vh (Cz k), ()))) := rfl
def Abz (T : D9) (d : Unit × ((Int × (Int × (Int × (Int × (Int × Unit))))) × ((Int × (Int × (Int × (Int × (Int × (Int × (Int × (Int × (Int × (Int × (Int × (Int × (Int × (Int × (Int × (Int × (Int × (Int × (Int × (Int × (Int × (Int × (Int × (Int × (Int × (Int × (Int × (Int × (Int × (Int × (Int × (Int × (Int × (Int × (Int × (Int × (Int × (Int × (Int × (Int × (Int × (Int × (Int × (Int × (Int × (Int × (Int × (Int × (Int × (Int × (Int × (Int × (Int × (Int × (Int × (Int × (Int × (Int × (Int × (Int × (Int × (Int × (Int × (Int × Unit)))))))))))))))))))))))))))))))))))))))))))))))))))))))))))))))) × Unit))) : Option (Nu) :=
 let x1 := ([d.2.2.1.1, d.2.2.1.2.1, d.2.2.1.2.2.1, d.2.2.1.2.2.2.1, d.2.2.1.2.2.2.2.1, d.2.2.1.2.2.2.2.2.1, d.2.2.1.2.2.2.2.2.2.1, d.2.2.1.2.2.2.2.2.2.2.1, d.2.2.1.2.2.2.2.2.2.2.2.1, d.2.2.1.2.2.2.2.2.2.2.2.2.1, d.2.2.1.2.2.2.2.2.2.2.2.2.2.1, d.2.2.1.2.2.2.2.2.2.2.2.2.2.2.1, d.2.2.1.2.2.2.2.2.2.2.2.2.2.2.2.1, d.2.2.1.2.2.2.2.2.2.2.2.2.2.2.2.2.1, d.2.2.1.2.2.2.2.2.2.2.2.2.2.2.2.2.2.1, d.2.2.1.2.2.2.2.2.2.2.2.2.2.2.2.2.2.2.1, d.2.2.1.2.2.2.2.2.2.2.2.2.2.2.2.2.2.2.2.1, d.2.2.1.2.2.2.2.2.2.2.2.2.2.2.2.2.2.2.2.2.1, d.2.2.1.2.2.2.2.2.2.2.2.2.2.2.2.2.2.2.2.2.2.1, d.2.2.1.2.2.2.2.2.2.2.2.2.2.2.2.2.2.2.2.2.2.2.1, d.2.2.1.2.2.2.2.2.2.2.2.2.2.2.2.2.2.2.2.2.2.2.2.1, d.2.2.1.2.2.2.2.2.2.2.2.2.2.2.2.2.2.2.2.2.2.2.2.2.1, d.2.2.1.2.2.2.2.2.2.2.2.2.2.2.2.2.2.2.2.2.2.2.2.2.2.1, d.2.2.1.2.2.2.2.2.2.2.2.2.2.2.2.2.2.2.2.2.2.2.2.2.2.2.1, d.2.2.1.2.2.2.2.2.2.2.2.2.2.2.2.2.2.2.2.2.2.2.2.2.2.2.2.1, d.2.2.1.2.2.2.2.2.2.2.2.2.2.2.2.2.2.2.2.2.2.2.2.2.2.2.2.2.1, d.2.2.1.2.2.2.2.2.2.2.2.2.2.2.2.2.2.2.2.2.2.2.2.2.2.2.2.2.2.1, d.2.2.1.2.2.2.2.2.2.2.2.2.2.2.2.2.2.2.2.2.2.2.2.2.2.2.2.2.2.2.1, d.2.2.1.2.2.2.2.2.2.2.2.2.2.2.2.2.2.2.2.2.2.2.2.2.2.2.2.2.2.2.2.1, d.2.2.1.2.2.2.2.2.2.2.2.2.2.2.2.2.2.2.2.2.2.2.2.2.2.2.2.2.2.2.2.2.1, d.2.2.1.2.2.2.2.2.2.2.2.2.2.2.2.2.2.2.2.2.2.2.2.2.2.2.2.2.2.2.2.2.2.1, d.2.2.1.2.2.2.2.2.2.2.2.2.2.2.2.2.2.2.2.2.2.2.2.2.2.2.2.2.2.2.2.2.2.2.1, d.2.2.1.2.2.2.2.2.2.2.2.2.2.2.2.2.2.2.2.2.2.2.2.2.2.2.2.2.2.2.2.2.2.2.2.1, d.2.2.1.2.2.2.2.2.2.2.2.2.2.2.2.2.2.2.2.2.2.2.2.2.2.2.2.2.2.2.2.2.2.2.2.2.1, d.2.2.1.2.2.2.2.2.2.2.2.2.2.2.2.2.2.2.2.2.2.2.2.2.2.2.2.2.2.2.2.2.2.2.2.2.2.1, d.2.2.1.2.2.2.2.2.2.2.2.2.2.2.2.2.2.2.2.2.2.2.2.2.2.2.2.2.2.2.2.2.2.2.2.2.2.2.1, d.2.2.1.2.2.2.2.2.2.2.2.2.2.2.2.2.2.2.2.2.2.2.2.2.2.2.2.2.2.2.2.2.2.2.2.2.2.2.2.1, d.2.2.1.2.2.2.2.2.2.2.2.2.2.2.2.2.2.2.2.2.2.2.2.2.2.2.2.2.2.2.2.2.2.2.2.2.2.2.2.2.1, d.2.2.1.2.2.2.2.2.2.2.2.2.2.2.2.2.2.2.2.2.2.2.2.2.2.2.2.2.2.2.2.2.2.2.2.2.2.2.2.2.2.1, d.2.2.1.2.2.2.2.2.2.2.2.2.2.2.2.2.2.2.2.2.2.2.2.2.2.2.2.2.2.2.2.2.2.2.2.2.2.2.2.2.2.2.1, d.2.2.1.2.2.2.2.2.2.2.2.2.2.2.2.2.2.2.2.2.2.2.2.2.2.2.2.2.2.2.2.2.2.2.2.2.2.2.2.2.2.2.2.1, d.2.2.1.2.2.2.2.2.2.2.2.2.2.2.2.2.2.2.2.2.2.2.2.2.2.2.2.2.2.2.2.2.2.2.2.2.2.2.2.2.2.2.2.2.1, d.2.2.1.2.2.2.2.2.2.2.2.2.2.2.2.2.2.2.2.2.2.2.2.2.2.2.2.2.2.2.2.2.2.2.2.2.2.2.2.2.2.2.2.2.2.1, d.2.2.1.2.2.2.2.2.2.2.2.2.2.2.2.2.2.2.2.2.2.2.2.2.2.2.2.2.2.2.2.2.2.2.2.2.2.2.2.2.2.2.2.2.2.2.1, d.2.2.1.2.2.2.2.2.2.2.2.2.2.2.2.2.2.2.2.2.2.2.2.2.2.2.2.2.2.2.2.2.2.2.2.2.2.2.2.2.2.2.2.2.2.2.2.1, d.2.2.1.2.2.2.2.2.2.2.2.2.2.2.2.2.2.2.2.2.2.2.2.2.2.2.2.2.2.2.2.2.2.2.2.2.2.2.2.2.2.2.2.2.2.2.2.2.1, d.2.2.1.2.2.2.2.2.2.2.2.2.2.2.2.2.2.2.2.2.2.2.2.2.2.2.2.2.2.2.2.2.2.2.2.2.2.2.2.2.2.2.2.2.2.2.2.2.2.1, d.2.2.1.2.2.2.2.2.2.2.2.2.2.2.2.2.2.2.2.2.2.2.2.2.2.2.2.2.2.2.2.2.2.2.2.2.2.2.2.2.2.2.2.2.2.2.2.2.2.2.1, d.2.2.1.2.2.2.2.2.2.2.2.2.2.2.2.2.2.2.2.2.2.2.2.2.2.2.2.2.2.2.2.2.2.2.2.2.2.2.2.2.2.2.2.2.2.2.2.2.2.2.2.1, d.2.2.1.2.2.2.2.2.2.2.2.2.2.2.2.2.2.2.2.2.2.2.2.2.2.2.2.2.2.2.2.2.2.2.2.2.2.2.2.2.2.2.2.2.2.2.2.2.2.2.2.2.1, d.2.2.1.2.2.2.2.2.2.2.2.2.2.2.2.2.2.2.2.2.2.2.2.2.2.2.2.2.2.2.2.2.2.2.2.2.2.2.2.2.2.2.2.2.2.2.2.2.2.2.2.2.2.1, d.2.2.1.2.2.2.2.2.2.2.2.2.2.2.2.2.2.2.2.2.2.2.2.2.2.2.2.2.2.2.2.2.2.2.2.2.2.2.2.2.2.2.2.2.2.2.2.2.2.2.2.2.2.2.1, d.2.2.1.2.2.2.2.2.2.2.2.2.2.2.2.2.2.2.2.2.2.2.2.2.2.2.2.2.2.2.2.2.2.2.2.2.2.2.2.2.2.2.2.2.2.2.2.2.2.2.2.2.2.2.2.1, d.2.2.1.2.2.2.2.2.2.2.2.2.2.2.2.2.2.2.2.2.2.2.2.2.2.2.2.2.2.2.2.2.2.2.2.2.2.2.2.2.2.2.2.2.2.2.2.2.2.2.2.2.2.2.2.2.1, d.2.2.1.2.2.2.2.2.2.2.2.2.2.2.2.2.2.2.2.2.2.2.2.2.2.2.2.2.2.2.2.2.2.2.2.2.2.2.2.2.2.2.2.2.2.2.2.2.2.2.2.2.2.2.2.2.2.1, d.2.2.1.2.2.2.2.2.2.2.2.2.2.2.2.2.2.2.2.2.2.2.2.2.2.2.2.2.2.2.2.2.2.2.2.2.2.2.2.2.2.2.2.2.2.2.2.2.2.2.2.2.2.2.2.2.2.2.1, d.2.2.1.2.2.2.2.2.2.2.2.2.2.2.2.2.2.2.2.2.2.2.2.2.2.2.2.2.2.2.2.2.2.2.2.2.2.2.2.2.2.2.2.2.2.2.2.2.2.2.2.2.2.2.2.2.2.2.2.1, d.2.2.1.2.2.2.2.2.2.2.2.2.2.2.2.2.2.2.2.2.2.2.2.2.2.2.2.2.2.2.2.2.2.2.2.2.2.2.2.2.2.2.2.2.2.2.2.2.2.2.2.2.2.2.2.2.2.2.2.2.1, d.2.2.1.2.2.2.2.2.2.2.2.2.2.2.2.2.2.2.2.2.2.2.2.2.2.2.2.2.2.2.2.2.2.2.2.2.2.2.2.2.2.2.2.2.2.2.2.2.2.2.2.2.2.2.2.2.2.2.2.2.2.1, d.2.2.1.2.2.2.2.2.2.2.2.2.2.2.2.2.2.2.2.2.2.2.2.2.2.2.2.2.2.2.2.2.2.2.2.2.2.2.2.2.2.2.2.2.2.2.2.2.2.2.2.2.2.2.2.2.2.2.2.2.2.2.1, d.2.2.1.2.2.2.2.2.2.2.2.2.2.2.2.2.2.2.2.2.2.2.2.2.2.2.2.2.2.2.2.2.2.2.2.2.2.2.2.2.2.2.2.2.2.2.2.2.2.2.2.2.2.2.2.2.2.2.2.2.2.2.2.1, d.2.2.1.2.2.2.2.2.2.2.2.2.2.2.2.2.2.2.2.2.2.2.2.2.2.2.2.2.2.2.2.2.2.2.2.2.2.2.2.2.2.2.2.2.2.2.2.2.2.2.2.2.2.2.2.2.2.2.2.2.2.2.2.2.1, d.2.2.1.2.2.2.2.2.2.2.2.2.2.2.2.2.2.2.2.2.2.2.2.2.2.2.2.2.2.2.2.2.2.2.2.2.2.2.2.2.2.2.2.2.2.2.2.2.2.2.2.2.2.2.2.2.2.2.2.2.2.2.2.2.2.1, d.2.2.1.2.2.2.2.2.2.2.2.2.2.2.2.2.2.2.2.2.2.2.2.2.2.2.2.2.2.2.2.2.2.2.2.2.2.2.2.2.2.2.2.2.2.2.2.2.2.2.2.2.2.2.2.2.2.2.2.2.2.2.2.2.2.2.1] : List Int)
 bif decide ((64 : Int) <= (x1.length : Int)) then (
 (K2 ((), (((gd (.int .u8) x1 (0 : Int)), ((gd (.int .u8) x1 (1 : Int)), ((gd (.int .u8) x1 (2 : Int)), ((gd (.int .u8) x1 (3 : Int)), ((gd (.int .u8) x1 (4 : Int)), ((gd (.int .u8) x1 (5 : Int)), ((gd (.int .u8) x1 (6 : Int)), ((gd (.int .u8) x1 (7 : Int)), ((gd (.int .u8) x1 (8 : Int)), ((gd (.int .u8) x1 (9 : Int)), ((gd (.int .u8) x1 (10 : Int)), ((gd (.int .u8) x1 (11 : Int)), ((gd (.int .u8) x1 (12 : Int)), ((gd (.int .u8) x1 (13 : Int)), ((gd (.int .u8) x1 (14 : Int)), ((gd (.int .u8) x1 (15 : Int)), ((gd (.int .u8) x1 (16 : Int)), ((gd (.int .u8) x1 (17 : Int)), ((gd (.int .u8) x1 (18 : Int)), ((gd (.int .u8) x1 (19 : Int)), ((gd (.int .u8) x1 (20 : Int)), ((gd (.int .u8) x1 (21 : Int)), ((gd (.int .u8) x1 (22 : Int)), ((gd (.int .u8) x1 (23 : Int)), ((gd (.int .u8) x1 (24 : Int)), ((gd (.int .u8) x1 (25 : Int)), ((gd (.int .u8) x1 (26 : Int)), ((gd (.int .u8) x1 (27 : Int)), ((gd (.int .u8) x1 (28 : Int)), ((gd (.int .u8) x1 (29 : Int)), ((gd (.int .u8) x1 (30 : Int)), ((gd (.int .u8) x1 (31 : Int)), ((gd (.int .u8) x1 (32 : Int)), ((gd (.int .u8) x1 (33 : Int)), ((gd (.int .u8) x1 (34 : Int)), ((gd (.int .u8) x1 (35 : Int)), ((gd (.int .u8) x1 (36 : Int)), ((gd (.int .u8) x1 (37 : Int)), ((gd (.int .u8) x1 (38 : Int)), ((gd (.int .u8) x1 (39 : Int)), ((gd (.int .u8) x1 (40 : Int)), ((gd (.int .u8) x1 (41 : Int)), ((gd (.int .u8) x1 (42 : Int)), ((gd (.int .u8) x1 (43 : Int)), ((gd (.int .u8) x1 (44 : Int)), ((gd (.int .u8) x1 (45 : Int)), ((gd (.int .u8) x1 (46 : Int)), ((gd (.int .u8) x1 (47 : Int)), ((gd (.int .u8) x1 (48 : Int)), ((gd (.int .u8) x1 (49 : Int)), ((gd (.int .u8) x1 (50 : Int)), ((gd (.int .u8) x1 (51 : Int)), ((gd (.int .u8) x1 (52 : Int)), ((gd (.int .u8) x1 (53 : Int)), ((gd (.int .u8) x1 (54 : Int)), ((gd (.int .u8) x1 (55 : Int)), ((gd (.int .u8) x1 (56 : Int)), ((gd (.int .u8) x1 (57 : Int)), ((gd (.int .u8) x1 (58 : Int)), ((gd (.int .u8) x1 (59 : Int)), ((gd (.int .u8) x1 (60 : Int)), ((gd (.int .u8) x1 (61 : Int)), ((gd (.int .u8) x1 (62 : Int)), ((gd (.int .u8) x1 (63 : Int)), ())))))))))))))))))))))))))))))))))))))))))))))))))))))))))))))))), ()))).bind fun x2 =>
 (T.1 ((d.2.1, (((0 : Int), ((0 : Int), ((0 : Int), ((0 : Int), (0, ()))))), (d.2.1, ()))), ((), ((), ((), (x2.2.1, ((0, ()), ()))))))))
 else none
def N1 (d) := lim fun k => Abz (Cz k) d
theorem A4d : Dv Tryz.prog ET0 74 Afh Ahc N1 :=
 fnL (E := (((E0.add 98 Avi).add 99 Ba6).add 100 Ok)) (pi := Afh) (po := Ahc) (Ab (Ab (Ab A7 (Ae Aq8)) (Ae A7y)) (Ae Mk)) (fn := Tryz.f74) Tryz.func74 (by kernel_rfl) (by kernel_rfl) [.cell 4 36] (by kernel_rfl) rfl rfl rfl [15] (fun k => [(4, ⟨Axh, (Cz k).1⟩), (12, ⟨Afx, (Cz k).2.1⟩), (15, ⟨As6, (Cz k).2.2.1⟩)]) (fun _ => [])
 (.intro (fun _ => rfl) (.intro (fun _ => rfl) (.intro (fun _ => rfl) trivial))) (fun k => (.intro (fun d => by kernel_rfl) (.intro (fun d => by kernel_rfl) (.intro (fun d => by kernel_rfl) trivial)))) trivial (fun k => trivial) (fun k d => Abz (Cz k) d) (fun k d => by kernel_rfl)
def A65 := Ak Afh Ahc N1
abbrev Xz : PSh := ⟨[], [kI]⟩
abbrev Zl : PSh := ⟨[], [kI]⟩
def Age (T : Unit) (d : Unit × ((Int × Unit) × Unit)) : Option (Unit × ((Int × Unit) × Unit)) :=
 let x1 := (decide (d.2.1.1 < (0 : Int)))
 bif x1 then (
 some ((), ((0, ()), ())))
 else (
 let x2 := (Kc .i64 d.2.1.1 (64 : Int))
 let x3 := (Int.tmod d.2.1.1 (64 : Int))
 let x4 := (A4 .i64 x3 1)
 let x5 := (A4 .i64 x4 8)
 let x6 := (decide (x5 > (64 : Int)))
 bif x6 then (
 let x7 := (A4 .i64 x2 1)
 let x8 := (A4 .i64 x7 1)
 some ((), ((x8, ()), ())))
 else (
 let x9 := (A4 .i64 x2 1)
 some ((), ((x9, ()), ()))))
def Pn := Age ()
theorem Awe : Dv Tryz.prog ET0 75 Xz Zl Pn :=
 fn0 (E := E0) (pi := Xz) (po := Zl) A7 (fn := Tryz.f75) Tryz.func75 (by kernel_rfl) (by kernel_rfl) [.tmp 2] (by kernel_rfl) rfl rfl rfl [] fun d => by kernel_rfl
def Azq := Ak Xz Zl Pn
abbrev Ox : PSh := ⟨[], []⟩
abbrev Pm : PSh := ⟨[], [kI]⟩
abbrev Wh : Type := Y4
abbrev Pw : Type := (((Wh) -> Option (Unit × ((Int × Unit) × Unit))) × Unit)
abbrev Aii : PSh := ⟨[], [.any, kI, .mk false [.v (.int .u64)]] ++ M3 9⟩
def Aik (T : Pw) (d : Wh) : Option (Unit × ((Int × Unit) × Unit)) :=
 let x3 := (decide (d.2.2.1.1 > (0 : Int)))
 bif x3 then (
 let x4 := (A4 .i64 d.2.1.1 1)
 let x5 := (Bic .u64 d.2.2.1.1 (8 : Int))
 (T.1 ((), ((x4, ()), ((x5, ()), ())))))
 else (
 some ((), (d.2.1, ())))
def Jn : Nat -> Pw
 | 0 => (fun _ => none, ())
 | k + 1 => (Aik (Jn k), ())
def U1 (T : Pw) (d : Unit × Unit) : Option (Unit × ((Int × Unit) × Unit)) :=
 let x1 := (Da .u64 (0 : Int))
 let x2 := (Bos .u64 x1)
 (T.1 ((), ((0, ()), ((x2, ()), ()))))
def L1 (d) := lim fun k => U1 (Jn k) d
theorem Amp : Dv Tryz.prog ET0 101 Ox Pm L1 :=
 fnL (E := E0) (pi := Ox) (po := Pm) A7 (fn := Tryz.f101) Tryz.func101 (by kernel_rfl) (by kernel_rfl) [.tmp 0] (by kernel_rfl) rfl rfl rfl [] (fun k => [(4, ⟨Aii, (Jn k).1⟩)]) (fun _ => [])
 (.intro (fun _ => rfl) trivial) (fun k => (.intro (fun d => by kernel_rfl) trivial)) trivial (fun k => trivial) (fun k d => U1 (Jn k) d) (fun k d => by kernel_rfl)
def Aoq := Ak Ox Pm L1
abbrev Rk : PSh := ⟨[], [.mk false [.v (.sl (.int .u8))], .mk false [.v (.sl (.int .u64))]]⟩
abbrev Lr : PSh := A6
abbrev J8 : Type := Y3
abbrev Xb : Type := Qm
abbrev V0 : Type := Np
abbrev L4 : Type := (((Xb) -> Option (J8)) × (((V0) -> Option (J8)) × Unit))
abbrev Ak9 : PSh := ⟨[.row 5 (.int .u8)], [.any, .any, .any, .any, .any, kI, .mk false [.osl 0], .any, .any, .any, .any, .any, .any, .mk false [.v (.sl (.int .u64))], kI, kI] ++ M3 19⟩
abbrev Aij : PSh := ⟨[.row 5 (.int .u8)], [.any, .any, .any, .any, .any, kI, .mk false [.osl 0], .any, .mk false [.v (.int .u64)], kI, .any, .any, .any, .mk false [.v (.sl (.int .u64))], kI, kI] ++ M3 19⟩
def Jm (T : L4) (d : Xb) : Option (J8) :=
 let x4 := (decide (d.2.2.2.2.2.1.1 < d.2.2.2.2.1.1))
 bif x4 then (
 bif decide ((0 : Int) <= d.2.2.2.2.2.1.1) && decide (d.2.2.2.2.2.1.1 < (d.2.2.2.1.1.length : Int)) then (
 let x5 := (Eh .i64 d.2.1.1 1)
 (T.2.1 (d.1, (d.2.1, ((), (((gd (.int .u64) d.2.2.2.1.1 d.2.2.2.2.2.1.1), ()), ((x5, ()), d.2.2.2)))))))
 else none)
 else (
 some (d.1, ((), ())))
def Io (T : L4) (d : V0) : Option (J8) :=
 let x6 := (decide (d.2.2.2.2.1.1 >= (0 : Int)))
 bif x6 then (
 let x7 := (Qi .i64 (8 : Int) d.2.2.2.2.1.1)
 bif decide (x7 < 0) then (
 none)
 else (
 let x8 := (Bic .u64 d.2.2.2.1.1 x7)
 let x9 := (Da .u8 x8)
 let x10 := ([x9] : List Int)
 bif decide (((d.1.1.length + x10.length) * 1 : Nat) <= 140737488355328) && decide (d.1.1.length + x10.length <= 9223372036854775807) then (
 let x11 := (d.1.1 ++ x10)
 let x12 := (Eh .i64 d.2.2.2.2.1.1 1)
 (T.2.1 ((x11, ()), (d.2.1, ((), (d.2.2.2.1, ((x12, ()), d.2.2.2.2.2)))))))
 else none))
 else (
 let x13 := (A4 .i64 d.2.2.2.2.2.2.2.1.1 1)
 (T.1 (d.1, (d.2.1, ((), (d.2.2.2.2.2.1, (d.2.2.2.2.2.2.1, ((x13, ()), ()))))))))
def Bx : Nat -> L4
 | 0 => (fun _ => none, (fun _ => none, ()))
 | k + 1 => (Jm (Bx k), (Io (Bx k), ()))
theorem Nc (k : Nat) : Bx (k + 1) = (Jm (Bx k), (Io (Bx k), ())) := rfl
def Oq (T : L4) (d : Y8) : Option (J8) :=
 (L1 ((), ())).bind fun x1 =>
 (C7 ((), (d.2.1, ()))).bind fun x2 =>
 let x3 := (d.2.2.1.1.length : Int)
 (T.1 (x2.1, (x1.2.1, ((), (d.2.2.1, ((x3, ()), ((0, ()), ())))))))
def M8 (d) := lim fun k => Oq (Bx k) d
theorem An9 : Dv Tryz.prog ET0 76 Rk Lr M8 :=
 fnL (E := ((E0.add 92 Og).add 101 Aoq)) (pi := Rk) (po := Lr) (Ab (Ab A7 (Ae Mw)) (Ae Amp)) (fn := Tryz.f76) Tryz.func76 (by kernel_rfl) (by kernel_rfl) [.tmp 4] (by kernel_rfl) rfl rfl rfl [] (fun k => [(5, ⟨Ak9, (Bx k).1⟩), (11, ⟨Aij, (Bx k).2.1⟩)]) (fun _ => [])
 (.intro (fun _ => rfl) (.intro (fun _ => rfl) trivial)) (fun k => (.intro (fun d => by kernel_rfl) (.intro (fun d => by kernel_rfl) trivial))) trivial (fun k => trivial) (fun k d => Oq (Bx k) d) (fun k d => by kernel_rfl)
def Arh := Ak Rk Lr M8
abbrev Gd : Type := (((Unit × (((Option (List Int)) × Unit) × (((Option Int) × Unit) × ((Int × Unit) × Unit)))) -> Option (List (List Int))) × Unit)
abbrev J6 : PSh := ⟨[], [.any, .mk false [.v (.nptr (.sl (.int .u8)))], .mk false [.v (.nptr (.int .i64))], .any, kI] ++ M3 26⟩
def Cc (T : Gd) (d : Unit × (((Option (List Int)) × Unit) × (((Option Int) × Unit) × ((Int × Unit) × Unit)))) : Option (List (List Int)) :=
 d.2.1.1.bind fun x1 =>
 let x2 := (x1.length : Int)
 let x3 := (decide (d.2.2.2.1.1 < x2))
 bif x3 then (
 d.2.2.1.1.bind fun x4 =>
 d.2.1.1.bind fun x5 =>
 bif decide ((0 : Int) <= d.2.2.2.1.1) && decide (d.2.2.2.1.1 <= (x5.length : Int)) && decide ((x5.length : Int) <= (x5.length : Int)) then (
 let x6 := (List.drop (Int.toNat d.2.2.2.1.1) (List.take (Int.toNat (x5.length : Int)) x5))
 let x7 := (x6.length : Int)
 let x8 := (if x7 < x4 then x7 else x4)
 d.2.1.1.bind fun x9 =>
 let x10 := (A4 .i64 d.2.2.2.1.1 x8)
 let x11 := (A4 .i64 d.2.2.2.1.1 x8)
 bif decide ((0 : Int) <= d.2.2.2.1.1) && decide (d.2.2.2.1.1 <= x10) && decide (x10 <= x11) && decide (x11 <= (x9.length : Int)) then (
 let x12 := (List.drop (Int.toNat d.2.2.2.1.1) (List.take (Int.toNat x10) x9))
 (some ([] : List (List Int))).bind fun (x13 : List (List Int)) =>
 bif x13.isEmpty then (
 (d.2.2.1.1.bind fun x15 =>
 let x16 := (A4 .i64 d.2.2.2.1.1 x15)
 (T.1 ((), ((d.2.1.1, ()), ((d.2.2.1.1, ()), ((x16, ()), ())))))).bind fun (x14 : List (List Int)) =>
 some (x12 :: x14))
 else none)
 else none)
 else none)
 else (
 some ([] : List (List Int)))
def A2 : Nat -> Gd
 | 0 => (fun _ => none, ())
 | k + 1 => (Cc (A2 k), ())
def Kq (T : Gd) (d : ((List Int) × (Int × Unit))) : Option (List (List Int)) :=
 (T.1 ((), (((some d.1), ()), (((some d.2.1), ()), ((0, ()), ())))))
def Hc (k : Nat) : Pts (List (List Int)) := [(1, ⟨J6, (A2 k).1⟩)]
def Dg (d : ((List Int) × (Int × Unit))) : Option (List (List Int)) := lim fun k => Kq (A2 k) d
def Ei : Aly := ⟨[(63, (.sl (.int .u8))), (3, (.int .i64))], [false, false], (.sl (.int .u8)), Dg⟩
def Hf : Env := E0
theorem Uh (k : Nat) (d : Unit × (((Option (List Int)) × Unit) × (((Option Int) × Unit) × ((Int × Unit) × Unit)))) : Ad9 Hf (.sl (.int .u8)) (Bhb (Hc k)) 1 (Sw Tryz.f97) 0 Bnj (A9h J6 d) = Cc (A2 k) d := by kernel_rfl
theorem Ug (k : Nat) (d : ((List Int) × (Int × Unit))) : I8 Hf (.sl (.int .u8)) (Bhb (Hc k)) (Sw Tryz.f97) 0 Bnj (Bab Ei.ts Ei.wr 31 d) = Kq (A2 k) d := by kernel_rfl
theorem Ul : Bjc Tryz.prog ET0 97 Ei := by
 refine A5t (E := Hf) A7 rfl rfl (fn := Tryz.f97) Tryz.func97 (by kernel_rfl) (by kernel_rfl) (by kernel_rfl) (by kernel_rfl) Hc ?_ ?_ ?_ (by intro d l h; obtain ⟨k, hk⟩ := A15 h; exact ⟨k, (Ug k d).trans hk⟩)
 ·intro x hx d
  rcases List.mem_cons.1 hx with rfl | hx
  ·rfl
  ·
   cases hx
 ·intro k x hx
  rcases List.mem_cons.1 hx with rfl | hx
  ·rfl
  ·
   cases hx
 ·intro k x hx d out h
  rcases List.mem_cons.1 hx with rfl | hx
  ·exact (Uh k d).trans h
  ·
   cases hx
abbrev Alm : PSh := Cm
abbrev Aj4 : PSh := Xu
abbrev Aas : Type := Unit × ((Int × (Int × (Int × (Int × (Int × (Int × (Int × (Int × (Int × (Int × (Int × (Int × (Int × (Int × (Int × (Int × (Int × (Int × (Int × (Int × Unit)))))))))))))))))))) × Unit)
abbrev Aqq : Type := ((Int × (Int × (Int × (Int × (Int × (Int × (Int × (Int × (Int × (Int × (Int × (Int × (Int × (Int × (Int × (Int × (Int × (Int × (Int × (Int × Unit)))))))))))))))))))) × ((Int × (Int × (Int × (Int × (Int × Unit))))) × Unit)) × (((List Int) × Unit) × (Unit × (Unit × ((Int × Unit) × Unit))))
abbrev Amb : Type := ((Int × (Int × (Int × (Int × (Int × (Int × (Int × (Int × (Int × (Int × (Int × (Int × (Int × (Int × (Int × (Int × (Int × (Int × (Int × (Int × Unit)))))))))))))))))))) × ((Int × (Int × (Int × (Int × (Int × Unit))))) × Unit)) × (Unit × (Unit × Unit))
abbrev Kt : Type := ((List (List Int) -> (Aqq) -> Option (Aas)) × ((List (List Int) -> (Amb) -> Option (Aas)) × Unit))
abbrev Azn : PSh := ⟨[.var 53 [v8, v8, v8, v8, v8, v8, v8, v8, v8, v8, v8, v8, v8, v8, v8, v8, v8, v8, v8, v8], .var 36 [.v (.int .u32), .v (.int .u32), .v (.int .u32), .v (.int .u32), .v (.int .u32)]], [.mk false [.v (.sl (.int .u8))], .any, .mk false [.ref 0 0], .mk false [.ref 1 0], kI] ++ M3 55⟩
abbrev Awz : PSh := ⟨[.var 53 [v8, v8, v8, v8, v8, v8, v8, v8, v8, v8, v8, v8, v8, v8, v8, v8, v8, v8, v8, v8], .var 36 [.v (.int .u32), .v (.int .u32), .v (.int .u32), .v (.int .u32), .v (.int .u32)]], [.any, .any, .mk false [.ref 0 0], .mk false [.ref 1 0]] ++ M3 56⟩
def T5 (T : Kt) (l : List (List Int)) (d : Aqq) : Option (Aas) :=
 bif l.isEmpty then (
 let x8 := (d.2.1.1.length : Int)
 (Pn ((), ((x8, ()), ()))).bind fun x9 =>
 let x10 := (Kc .i64 d.2.2.2.2.1.1 (64 : Int))
 let x11 := (Eh .i64 x9.2.1.1 x10)
 let x12 := (Qi .i64 x11 64)
 let x13 := (Eh .i64 x12 8)
 bif decide ((0 : Int) <= x13) && decide (x13 <= x13) && decide (x13 * (1 : Int) <= 140737488355328) && decide (x13 <= 9223372036854775807) then (
 let x14 := (List.replicate (Int.toNat x13) (0 : Int))
 bif decide ((0 : Int) <= d.2.2.2.2.1.1) && decide (d.2.2.2.2.1.1 <= (d.2.1.1.length : Int)) && decide ((d.2.1.1.length : Int) <= (d.2.1.1.length : Int)) then (
 let x15 := (List.drop (Int.toNat d.2.2.2.2.1.1) (List.take (Int.toNat (d.2.1.1.length : Int)) d.2.1.1))
 bif decide ((0 : Int) < (x14.length : Int)) then (
 let x16 := (cpL x14 (Int.toNat (0 : Int)) x15)
 let x17 := ((min x15.length (x14.length - (Int.toNat (0 : Int))) : Nat) : Int)
 let x18 := (d.2.1.1.length : Int)
 let x19 := (Eh .i64 x18 d.2.2.2.2.1.1)
 bif decide ((0 : Int) <= x19) && decide (x19 < (x16.length : Int)) then (
 let x20 := (List.set x16 (Int.toNat x19) (128 : Int))
 let x21 := (d.2.1.1.length : Int)
 let x22 := (Da .u64 x21)
 let x23 := (Qi .u64 x22 8)
 let x24 := ([x23] : List Int)
 (M8 ((), ((x20, ()), ((x24, ()), ())))).bind fun x25 =>
 (Cq ((), (x25.1, ((64, ()), ())))).bind fun x26 =>
 (Dg (x26.1.1.1, (x26.1.2.1.1, ()))).bind fun x27 =>
 (T.2.1 x27 (d.1, ((), ((), ())))))
 else none)
 else none)
 else none)
 else none)
 else (
 let x28 := (gd (.sl (.int .u8)) l (0 : Int))
 bif decide ((64 : Int) <= x28.length) then (
 let x29 := ((gd (.int .u8) x28 (0 : Int)), ((gd (.int .u8) x28 (1 : Int)), ((gd (.int .u8) x28 (2 : Int)), ((gd (.int .u8) x28 (3 : Int)), ((gd (.int .u8) x28 (4 : Int)), ((gd (.int .u8) x28 (5 : Int)), ((gd (.int .u8) x28 (6 : Int)), ((gd (.int .u8) x28 (7 : Int)), ((gd (.int .u8) x28 (8 : Int)), ((gd (.int .u8) x28 (9 : Int)), ((gd (.int .u8) x28 (10 : Int)), ((gd (.int .u8) x28 (11 : Int)), ((gd (.int .u8) x28 (12 : Int)), ((gd (.int .u8) x28 (13 : Int)), ((gd (.int .u8) x28 (14 : Int)), ((gd (.int .u8) x28 (15 : Int)), ((gd (.int .u8) x28 (16 : Int)), ((gd (.int .u8) x28 (17 : Int)), ((gd (.int .u8) x28 (18 : Int)), ((gd (.int .u8) x28 (19 : Int)), ((gd (.int .u8) x28 (20 : Int)), ((gd (.int .u8) x28 (21 : Int)), ((gd (.int .u8) x28 (22 : Int)), ((gd (.int .u8) x28 (23 : Int)), ((gd (.int .u8) x28 (24 : Int)), ((gd (.int .u8) x28 (25 : Int)), ((gd (.int .u8) x28 (26 : Int)), ((gd (.int .u8) x28 (27 : Int)), ((gd (.int .u8) x28 (28 : Int)), ((gd (.int .u8) x28 (29 : Int)), ((gd (.int .u8) x28 (30 : Int)), ((gd (.int .u8) x28 (31 : Int)), ((gd (.int .u8) x28 (32 : Int)), ((gd (.int .u8) x28 (33 : Int)), ((gd (.int .u8) x28 (34 : Int)), ((gd (.int .u8) x28 (35 : Int)), ((gd (.int .u8) x28 (36 : Int)), ((gd (.int .u8) x28 (37 : Int)), ((gd (.int .u8) x28 (38 : Int)), ((gd (.int .u8) x28 (39 : Int)), ((gd (.int .u8) x28 (40 : Int)), ((gd (.int .u8) x28 (41 : Int)), ((gd (.int .u8) x28 (42 : Int)), ((gd (.int .u8) x28 (43 : Int)), ((gd (.int .u8) x28 (44 : Int)), ((gd (.int .u8) x28 (45 : Int)), ((gd (.int .u8) x28 (46 : Int)), ((gd (.int .u8) x28 (47 : Int)), ((gd (.int .u8) x28 (48 : Int)), ((gd (.int .u8) x28 (49 : Int)), ((gd (.int .u8) x28 (50 : Int)), ((gd (.int .u8) x28 (51 : Int)), ((gd (.int .u8) x28 (52 : Int)), ((gd (.int .u8) x28 (53 : Int)), ((gd (.int .u8) x28 (54 : Int)), ((gd (.int .u8) x28 (55 : Int)), ((gd (.int .u8) x28 (56 : Int)), ((gd (.int .u8) x28 (57 : Int)), ((gd (.int .u8) x28 (58 : Int)), ((gd (.int .u8) x28 (59 : Int)), ((gd (.int .u8) x28 (60 : Int)), ((gd (.int .u8) x28 (61 : Int)), ((gd (.int .u8) x28 (62 : Int)), (gd (.int .u8) x28 (63 : Int)))))))))))))))))))))))))))))))))))))))))))))))))))))))))))))))))
 (N1 ((), (d.1.2.1, ((x29.1, (x29.2.1, (x29.2.2.1, (x29.2.2.2.1, (x29.2.2.2.2.1, (x29.2.2.2.2.2.1, (x29.2.2.2.2.2.2.1, (x29.2.2.2.2.2.2.2.1, (x29.2.2.2.2.2.2.2.2.1, (x29.2.2.2.2.2.2.2.2.2.1, (x29.2.2.2.2.2.2.2.2.2.2.1, (x29.2.2.2.2.2.2.2.2.2.2.2.1, (x29.2.2.2.2.2.2.2.2.2.2.2.2.1, (x29.2.2.2.2.2.2.2.2.2.2.2.2.2.1, (x29.2.2.2.2.2.2.2.2.2.2.2.2.2.2.1, (x29.2.2.2.2.2.2.2.2.2.2.2.2.2.2.2.1, (x29.2.2.2.2.2.2.2.2.2.2.2.2.2.2.2.2.1, (x29.2.2.2.2.2.2.2.2.2.2.2.2.2.2.2.2.2.1, (x29.2.2.2.2.2.2.2.2.2.2.2.2.2.2.2.2.2.2.1, (x29.2.2.2.2.2.2.2.2.2.2.2.2.2.2.2.2.2.2.2.1, (x29.2.2.2.2.2.2.2.2.2.2.2.2.2.2.2.2.2.2.2.2.1, (x29.2.2.2.2.2.2.2.2.2.2.2.2.2.2.2.2.2.2.2.2.2.1, (x29.2.2.2.2.2.2.2.2.2.2.2.2.2.2.2.2.2.2.2.2.2.2.1, (x29.2.2.2.2.2.2.2.2.2.2.2.2.2.2.2.2.2.2.2.2.2.2.2.1, (x29.2.2.2.2.2.2.2.2.2.2.2.2.2.2.2.2.2.2.2.2.2.2.2.2.1, (x29.2.2.2.2.2.2.2.2.2.2.2.2.2.2.2.2.2.2.2.2.2.2.2.2.2.1, (x29.2.2.2.2.2.2.2.2.2.2.2.2.2.2.2.2.2.2.2.2.2.2.2.2.2.2.1, (x29.2.2.2.2.2.2.2.2.2.2.2.2.2.2.2.2.2.2.2.2.2.2.2.2.2.2.2.1, (x29.2.2.2.2.2.2.2.2.2.2.2.2.2.2.2.2.2.2.2.2.2.2.2.2.2.2.2.2.1, (x29.2.2.2.2.2.2.2.2.2.2.2.2.2.2.2.2.2.2.2.2.2.2.2.2.2.2.2.2.2.1, (x29.2.2.2.2.2.2.2.2.2.2.2.2.2.2.2.2.2.2.2.2.2.2.2.2.2.2.2.2.2.2.1, (x29.2.2.2.2.2.2.2.2.2.2.2.2.2.2.2.2.2.2.2.2.2.2.2.2.2.2.2.2.2.2.2.1, (x29.2.2.2.2.2.2.2.2.2.2.2.2.2.2.2.2.2.2.2.2.2.2.2.2.2.2.2.2.2.2.2.2.1, (x29.2.2.2.2.2.2.2.2.2.2.2.2.2.2.2.2.2.2.2.2.2.2.2.2.2.2.2.2.2.2.2.2.2.1, (x29.2.2.2.2.2.2.2.2.2.2.2.2.2.2.2.2.2.2.2.2.2.2.2.2.2.2.2.2.2.2.2.2.2.2.1, (x29.2.2.2.2.2.2.2.2.2.2.2.2.2.2.2.2.2.2.2.2.2.2.2.2.2.2.2.2.2.2.2.2.2.2.2.1, (x29.2.2.2.2.2.2.2.2.2.2.2.2.2.2.2.2.2.2.2.2.2.2.2.2.2.2.2.2.2.2.2.2.2.2.2.2.1, (x29.2.2.2.2.2.2.2.2.2.2.2.2.2.2.2.2.2.2.2.2.2.2.2.2.2.2.2.2.2.2.2.2.2.2.2.2.2.1, (x29.2.2.2.2.2.2.2.2.2.2.2.2.2.2.2.2.2.2.2.2.2.2.2.2.2.2.2.2.2.2.2.2.2.2.2.2.2.2.1, (x29.2.2.2.2.2.2.2.2.2.2.2.2.2.2.2.2.2.2.2.2.2.2.2.2.2.2.2.2.2.2.2.2.2.2.2.2.2.2.2.1, (x29.2.2.2.2.2.2.2.2.2.2.2.2.2.2.2.2.2.2.2.2.2.2.2.2.2.2.2.2.2.2.2.2.2.2.2.2.2.2.2.2.1, (x29.2.2.2.2.2.2.2.2.2.2.2.2.2.2.2.2.2.2.2.2.2.2.2.2.2.2.2.2.2.2.2.2.2.2.2.2.2.2.2.2.2.1, (x29.2.2.2.2.2.2.2.2.2.2.2.2.2.2.2.2.2.2.2.2.2.2.2.2.2.2.2.2.2.2.2.2.2.2.2.2.2.2.2.2.2.2.1, (x29.2.2.2.2.2.2.2.2.2.2.2.2.2.2.2.2.2.2.2.2.2.2.2.2.2.2.2.2.2.2.2.2.2.2.2.2.2.2.2.2.2.2.2.1, (x29.2.2.2.2.2.2.2.2.2.2.2.2.2.2.2.2.2.2.2.2.2.2.2.2.2.2.2.2.2.2.2.2.2.2.2.2.2.2.2.2.2.2.2.2.1, (x29.2.2.2.2.2.2.2.2.2.2.2.2.2.2.2.2.2.2.2.2.2.2.2.2.2.2.2.2.2.2.2.2.2.2.2.2.2.2.2.2.2.2.2.2.2.1, (x29.2.2.2.2.2.2.2.2.2.2.2.2.2.2.2.2.2.2.2.2.2.2.2.2.2.2.2.2.2.2.2.2.2.2.2.2.2.2.2.2.2.2.2.2.2.2.1, (x29.2.2.2.2.2.2.2.2.2.2.2.2.2.2.2.2.2.2.2.2.2.2.2.2.2.2.2.2.2.2.2.2.2.2.2.2.2.2.2.2.2.2.2.2.2.2.2.1, (x29.2.2.2.2.2.2.2.2.2.2.2.2.2.2.2.2.2.2.2.2.2.2.2.2.2.2.2.2.2.2.2.2.2.2.2.2.2.2.2.2.2.2.2.2.2.2.2.2.1, (x29.2.2.2.2.2.2.2.2.2.2.2.2.2.2.2.2.2.2.2.2.2.2.2.2.2.2.2.2.2.2.2.2.2.2.2.2.2.2.2.2.2.2.2.2.2.2.2.2.2.1, (x29.2.2.2.2.2.2.2.2.2.2.2.2.2.2.2.2.2.2.2.2.2.2.2.2.2.2.2.2.2.2.2.2.2.2.2.2.2.2.2.2.2.2.2.2.2.2.2.2.2.2.1, (x29.2.2.2.2.2.2.2.2.2.2.2.2.2.2.2.2.2.2.2.2.2.2.2.2.2.2.2.2.2.2.2.2.2.2.2.2.2.2.2.2.2.2.2.2.2.2.2.2.2.2.2.1, (x29.2.2.2.2.2.2.2.2.2.2.2.2.2.2.2.2.2.2.2.2.2.2.2.2.2.2.2.2.2.2.2.2.2.2.2.2.2.2.2.2.2.2.2.2.2.2.2.2.2.2.2.2.1, (x29.2.2.2.2.2.2.2.2.2.2.2.2.2.2.2.2.2.2.2.2.2.2.2.2.2.2.2.2.2.2.2.2.2.2.2.2.2.2.2.2.2.2.2.2.2.2.2.2.2.2.2.2.2.1, (x29.2.2.2.2.2.2.2.2.2.2.2.2.2.2.2.2.2.2.2.2.2.2.2.2.2.2.2.2.2.2.2.2.2.2.2.2.2.2.2.2.2.2.2.2.2.2.2.2.2.2.2.2.2.2.1, (x29.2.2.2.2.2.2.2.2.2.2.2.2.2.2.2.2.2.2.2.2.2.2.2.2.2.2.2.2.2.2.2.2.2.2.2.2.2.2.2.2.2.2.2.2.2.2.2.2.2.2.2.2.2.2.2.1, (x29.2.2.2.2.2.2.2.2.2.2.2.2.2.2.2.2.2.2.2.2.2.2.2.2.2.2.2.2.2.2.2.2.2.2.2.2.2.2.2.2.2.2.2.2.2.2.2.2.2.2.2.2.2.2.2.2.1, (x29.2.2.2.2.2.2.2.2.2.2.2.2.2.2.2.2.2.2.2.2.2.2.2.2.2.2.2.2.2.2.2.2.2.2.2.2.2.2.2.2.2.2.2.2.2.2.2.2.2.2.2.2.2.2.2.2.2.1, (x29.2.2.2.2.2.2.2.2.2.2.2.2.2.2.2.2.2.2.2.2.2.2.2.2.2.2.2.2.2.2.2.2.2.2.2.2.2.2.2.2.2.2.2.2.2.2.2.2.2.2.2.2.2.2.2.2.2.2.1, (x29.2.2.2.2.2.2.2.2.2.2.2.2.2.2.2.2.2.2.2.2.2.2.2.2.2.2.2.2.2.2.2.2.2.2.2.2.2.2.2.2.2.2.2.2.2.2.2.2.2.2.2.2.2.2.2.2.2.2.2.1, (x29.2.2.2.2.2.2.2.2.2.2.2.2.2.2.2.2.2.2.2.2.2.2.2.2.2.2.2.2.2.2.2.2.2.2.2.2.2.2.2.2.2.2.2.2.2.2.2.2.2.2.2.2.2.2.2.2.2.2.2.2.1, (x29.2.2.2.2.2.2.2.2.2.2.2.2.2.2.2.2.2.2.2.2.2.2.2.2.2.2.2.2.2.2.2.2.2.2.2.2.2.2.2.2.2.2.2.2.2.2.2.2.2.2.2.2.2.2.2.2.2.2.2.2.2.1, (x29.2.2.2.2.2.2.2.2.2.2.2.2.2.2.2.2.2.2.2.2.2.2.2.2.2.2.2.2.2.2.2.2.2.2.2.2.2.2.2.2.2.2.2.2.2.2.2.2.2.2.2.2.2.2.2.2.2.2.2.2.2.2.1, (x29.2.2.2.2.2.2.2.2.2.2.2.2.2.2.2.2.2.2.2.2.2.2.2.2.2.2.2.2.2.2.2.2.2.2.2.2.2.2.2.2.2.2.2.2.2.2.2.2.2.2.2.2.2.2.2.2.2.2.2.2.2.2.2, ())))))))))))))))))))))))))))))))))))))))))))))))))))))))))))))))), ())))).bind fun x30 =>
 (T.1 (List.drop 1 l) ((d.1.1, x30.2), (d.2.1, ((), ((), d.2.2.2.2))))))
 else none)
def R5 (T : Kt) (l : List (List Int)) (d : Amb) : Option (Aas) :=
 bif l.isEmpty then (
 (K1 ((), d.1.2)).bind fun x31 =>
 some ((), x31.2))
 else (
 let x32 := (gd (.sl (.int .u8)) l (0 : Int))
 bif decide ((64 : Int) <= x32.length) then (
 let x33 := ((gd (.int .u8) x32 (0 : Int)), ((gd (.int .u8) x32 (1 : Int)), ((gd (.int .u8) x32 (2 : Int)), ((gd (.int .u8) x32 (3 : Int)), ((gd (.int .u8) x32 (4 : Int)), ((gd (.int .u8) x32 (5 : Int)), ((gd (.int .u8) x32 (6 : Int)), ((gd (.int .u8) x32 (7 : Int)), ((gd (.int .u8) x32 (8 : Int)), ((gd (.int .u8) x32 (9 : Int)), ((gd (.int .u8) x32 (10 : Int)), ((gd (.int .u8) x32 (11 : Int)), ((gd (.int .u8) x32 (12 : Int)), ((gd (.int .u8) x32 (13 : Int)), ((gd (.int .u8) x32 (14 : Int)), ((gd (.int .u8) x32 (15 : Int)), ((gd (.int .u8) x32 (16 : Int)), ((gd (.int .u8) x32 (17 : Int)), ((gd (.int .u8) x32 (18 : Int)), ((gd (.int .u8) x32 (19 : Int)), ((gd (.int .u8) x32 (20 : Int)), ((gd (.int .u8) x32 (21 : Int)), ((gd (.int .u8) x32 (22 : Int)), ((gd (.int .u8) x32 (23 : Int)), ((gd (.int .u8) x32 (24 : Int)), ((gd (.int .u8) x32 (25 : Int)), ((gd (.int .u8) x32 (26 : Int)), ((gd (.int .u8) x32 (27 : Int)), ((gd (.int .u8) x32 (28 : Int)), ((gd (.int .u8) x32 (29 : Int)), ((gd (.int .u8) x32 (30 : Int)), ((gd (.int .u8) x32 (31 : Int)), ((gd (.int .u8) x32 (32 : Int)), ((gd (.int .u8) x32 (33 : Int)), ((gd (.int .u8) x32 (34 : Int)), ((gd (.int .u8) x32 (35 : Int)), ((gd (.int .u8) x32 (36 : Int)), ((gd (.int .u8) x32 (37 : Int)), ((gd (.int .u8) x32 (38 : Int)), ((gd (.int .u8) x32 (39 : Int)), ((gd (.int .u8) x32 (40 : Int)), ((gd (.int .u8) x32 (41 : Int)), ((gd (.int .u8) x32 (42 : Int)), ((gd (.int .u8) x32 (43 : Int)), ((gd (.int .u8) x32 (44 : Int)), ((gd (.int .u8) x32 (45 : Int)), ((gd (.int .u8) x32 (46 : Int)), ((gd (.int .u8) x32 (47 : Int)), ((gd (.int .u8) x32 (48 : Int)), ((gd (.int .u8) x32 (49 : Int)), ((gd (.int .u8) x32 (50 : Int)), ((gd (.int .u8) x32 (51 : Int)), ((gd (.int .u8) x32 (52 : Int)), ((gd (.int .u8) x32 (53 : Int)), ((gd (.int .u8) x32 (54 : Int)), ((gd (.int .u8) x32 (55 : Int)), ((gd (.int .u8) x32 (56 : Int)), ((gd (.int .u8) x32 (57 : Int)), ((gd (.int .u8) x32 (58 : Int)), ((gd (.int .u8) x32 (59 : Int)), ((gd (.int .u8) x32 (60 : Int)), ((gd (.int .u8) x32 (61 : Int)), ((gd (.int .u8) x32 (62 : Int)), (gd (.int .u8) x32 (63 : Int)))))))))))))))))))))))))))))))))))))))))))))))))))))))))))))))))
 (N1 ((), (d.1.2.1, ((x33.1, (x33.2.1, (x33.2.2.1, (x33.2.2.2.1, (x33.2.2.2.2.1, (x33.2.2.2.2.2.1, (x33.2.2.2.2.2.2.1, (x33.2.2.2.2.2.2.2.1, (x33.2.2.2.2.2.2.2.2.1, (x33.2.2.2.2.2.2.2.2.2.1, (x33.2.2.2.2.2.2.2.2.2.2.1, (x33.2.2.2.2.2.2.2.2.2.2.2.1, (x33.2.2.2.2.2.2.2.2.2.2.2.2.1, (x33.2.2.2.2.2.2.2.2.2.2.2.2.2.1, (x33.2.2.2.2.2.2.2.2.2.2.2.2.2.2.1, (x33.2.2.2.2.2.2.2.2.2.2.2.2.2.2.2.1, (x33.2.2.2.2.2.2.2.2.2.2.2.2.2.2.2.2.1, (x33.2.2.2.2.2.2.2.2.2.2.2.2.2.2.2.2.2.1, (x33.2.2.2.2.2.2.2.2.2.2.2.2.2.2.2.2.2.2.1, (x33.2.2.2.2.2.2.2.2.2.2.2.2.2.2.2.2.2.2.2.1, (x33.2.2.2.2.2.2.2.2.2.2.2.2.2.2.2.2.2.2.2.2.1, (x33.2.2.2.2.2.2.2.2.2.2.2.2.2.2.2.2.2.2.2.2.2.1, (x33.2.2.2.2.2.2.2.2.2.2.2.2.2.2.2.2.2.2.2.2.2.2.1, (x33.2.2.2.2.2.2.2.2.2.2.2.2.2.2.2.2.2.2.2.2.2.2.2.1, (x33.2.2.2.2.2.2.2.2.2.2.2.2.2.2.2.2.2.2.2.2.2.2.2.2.1, (x33.2.2.2.2.2.2.2.2.2.2.2.2.2.2.2.2.2.2.2.2.2.2.2.2.2.1, (x33.2.2.2.2.2.2.2.2.2.2.2.2.2.2.2.2.2.2.2.2.2.2.2.2.2.2.1, (x33.2.2.2.2.2.2.2.2.2.2.2.2.2.2.2.2.2.2.2.2.2.2.2.2.2.2.2.1, (x33.2.2.2.2.2.2.2.2.2.2.2.2.2.2.2.2.2.2.2.2.2.2.2.2.2.2.2.2.1, (x33.2.2.2.2.2.2.2.2.2.2.2.2.2.2.2.2.2.2.2.2.2.2.2.2.2.2.2.2.2.1, (x33.2.2.2.2.2.2.2.2.2.2.2.2.2.2.2.2.2.2.2.2.2.2.2.2.2.2.2.2.2.2.1, (x33.2.2.2.2.2.2.2.2.2.2.2.2.2.2.2.2.2.2.2.2.2.2.2.2.2.2.2.2.2.2.2.1, (x33.2.2.2.2.2.2.2.2.2.2.2.2.2.2.2.2.2.2.2.2.2.2.2.2.2.2.2.2.2.2.2.2.1, (x33.2.2.2.2.2.2.2.2.2.2.2.2.2.2.2.2.2.2.2.2.2.2.2.2.2.2.2.2.2.2.2.2.2.1, (x33.2.2.2.2.2.2.2.2.2.2.2.2.2.2.2.2.2.2.2.2.2.2.2.2.2.2.2.2.2.2.2.2.2.2.1, (x33.2.2.2.2.2.2.2.2.2.2.2.2.2.2.2.2.2.2.2.2.2.2.2.2.2.2.2.2.2.2.2.2.2.2.2.1, (x33.2.2.2.2.2.2.2.2.2.2.2.2.2.2.2.2.2.2.2.2.2.2.2.2.2.2.2.2.2.2.2.2.2.2.2.2.1, (x33.2.2.2.2.2.2.2.2.2.2.2.2.2.2.2.2.2.2.2.2.2.2.2.2.2.2.2.2.2.2.2.2.2.2.2.2.2.1, (x33.2.2.2.2.2.2.2.2.2.2.2.2.2.2.2.2.2.2.2.2.2.2.2.2.2.2.2.2.2.2.2.2.2.2.2.2.2.2.1, (x33.2.2.2.2.2.2.2.2.2.2.2.2.2.2.2.2.2.2.2.2.2.2.2.2.2.2.2.2.2.2.2.2.2.2.2.2.2.2.2.1, (x33.2.2.2.2.2.2.2.2.2.2.2.2.2.2.2.2.2.2.2.2.2.2.2.2.2.2.2.2.2.2.2.2.2.2.2.2.2.2.2.2.1, (x33.2.2.2.2.2.2.2.2.2.2.2.2.2.2.2.2.2.2.2.2.2.2.2.2.2.2.2.2.2.2.2.2.2.2.2.2.2.2.2.2.2.1, (x33.2.2.2.2.2.2.2.2.2.2.2.2.2.2.2.2.2.2.2.2.2.2.2.2.2.2.2.2.2.2.2.2.2.2.2.2.2.2.2.2.2.2.1, (x33.2.2.2.2.2.2.2.2.2.2.2.2.2.2.2.2.2.2.2.2.2.2.2.2.2.2.2.2.2.2.2.2.2.2.2.2.2.2.2.2.2.2.2.1, (x33.2.2.2.2.2.2.2.2.2.2.2.2.2.2.2.2.2.2.2.2.2.2.2.2.2.2.2.2.2.2.2.2.2.2.2.2.2.2.2.2.2.2.2.2.1, (x33.2.2.2.2.2.2.2.2.2.2.2.2.2.2.2.2.2.2.2.2.2.2.2.2.2.2.2.2.2.2.2.2.2.2.2.2.2.2.2.2.2.2.2.2.2.1, (x33.2.2.2.2.2.2.2.2.2.2.2.2.2.2.2.2.2.2.2.2.2.2.2.2.2.2.2.2.2.2.2.2.2.2.2.2.2.2.2.2.2.2.2.2.2.2.1, (x33.2.2.2.2.2.2.2.2.2.2.2.2.2.2.2.2.2.2.2.2.2.2.2.2.2.2.2.2.2.2.2.2.2.2.2.2.2.2.2.2.2.2.2.2.2.2.2.1, (x33.2.2.2.2.2.2.2.2.2.2.2.2.2.2.2.2.2.2.2.2.2.2.2.2.2.2.2.2.2.2.2.2.2.2.2.2.2.2.2.2.2.2.2.2.2.2.2.2.1, (x33.2.2.2.2.2.2.2.2.2.2.2.2.2.2.2.2.2.2.2.2.2.2.2.2.2.2.2.2.2.2.2.2.2.2.2.2.2.2.2.2.2.2.2.2.2.2.2.2.2.1, (x33.2.2.2.2.2.2.2.2.2.2.2.2.2.2.2.2.2.2.2.2.2.2.2.2.2.2.2.2.2.2.2.2.2.2.2.2.2.2.2.2.2.2.2.2.2.2.2.2.2.2.1, (x33.2.2.2.2.2.2.2.2.2.2.2.2.2.2.2.2.2.2.2.2.2.2.2.2.2.2.2.2.2.2.2.2.2.2.2.2.2.2.2.2.2.2.2.2.2.2.2.2.2.2.2.1, (x33.2.2.2.2.2.2.2.2.2.2.2.2.2.2.2.2.2.2.2.2.2.2.2.2.2.2.2.2.2.2.2.2.2.2.2.2.2.2.2.2.2.2.2.2.2.2.2.2.2.2.2.2.1, (x33.2.2.2.2.2.2.2.2.2.2.2.2.2.2.2.2.2.2.2.2.2.2.2.2.2.2.2.2.2.2.2.2.2.2.2.2.2.2.2.2.2.2.2.2.2.2.2.2.2.2.2.2.2.1, (x33.2.2.2.2.2.2.2.2.2.2.2.2.2.2.2.2.2.2.2.2.2.2.2.2.2.2.2.2.2.2.2.2.2.2.2.2.2.2.2.2.2.2.2.2.2.2.2.2.2.2.2.2.2.2.1, (x33.2.2.2.2.2.2.2.2.2.2.2.2.2.2.2.2.2.2.2.2.2.2.2.2.2.2.2.2.2.2.2.2.2.2.2.2.2.2.2.2.2.2.2.2.2.2.2.2.2.2.2.2.2.2.2.1, (x33.2.2.2.2.2.2.2.2.2.2.2.2.2.2.2.2.2.2.2.2.2.2.2.2.2.2.2.2.2.2.2.2.2.2.2.2.2.2.2.2.2.2.2.2.2.2.2.2.2.2.2.2.2.2.2.2.1, (x33.2.2.2.2.2.2.2.2.2.2.2.2.2.2.2.2.2.2.2.2.2.2.2.2.2.2.2.2.2.2.2.2.2.2.2.2.2.2.2.2.2.2.2.2.2.2.2.2.2.2.2.2.2.2.2.2.2.1, (x33.2.2.2.2.2.2.2.2.2.2.2.2.2.2.2.2.2.2.2.2.2.2.2.2.2.2.2.2.2.2.2.2.2.2.2.2.2.2.2.2.2.2.2.2.2.2.2.2.2.2.2.2.2.2.2.2.2.2.1, (x33.2.2.2.2.2.2.2.2.2.2.2.2.2.2.2.2.2.2.2.2.2.2.2.2.2.2.2.2.2.2.2.2.2.2.2.2.2.2.2.2.2.2.2.2.2.2.2.2.2.2.2.2.2.2.2.2.2.2.2.1, (x33.2.2.2.2.2.2.2.2.2.2.2.2.2.2.2.2.2.2.2.2.2.2.2.2.2.2.2.2.2.2.2.2.2.2.2.2.2.2.2.2.2.2.2.2.2.2.2.2.2.2.2.2.2.2.2.2.2.2.2.2.1, (x33.2.2.2.2.2.2.2.2.2.2.2.2.2.2.2.2.2.2.2.2.2.2.2.2.2.2.2.2.2.2.2.2.2.2.2.2.2.2.2.2.2.2.2.2.2.2.2.2.2.2.2.2.2.2.2.2.2.2.2.2.2.1, (x33.2.2.2.2.2.2.2.2.2.2.2.2.2.2.2.2.2.2.2.2.2.2.2.2.2.2.2.2.2.2.2.2.2.2.2.2.2.2.2.2.2.2.2.2.2.2.2.2.2.2.2.2.2.2.2.2.2.2.2.2.2.2.1, (x33.2.2.2.2.2.2.2.2.2.2.2.2.2.2.2.2.2.2.2.2.2.2.2.2.2.2.2.2.2.2.2.2.2.2.2.2.2.2.2.2.2.2.2.2.2.2.2.2.2.2.2.2.2.2.2.2.2.2.2.2.2.2.2, ())))))))))))))))))))))))))))))))))))))))))))))))))))))))))))))))), ())))).bind fun x34 =>
 (T.2.1 (List.drop 1 l) ((d.1.1, x34.2), ((), ((), ())))))
 else none)
def Et : Nat -> Kt
 | 0 => (fun _ _ => none, (fun _ _ => none, ()))
 | k + 1 => (T5 (Et k), (R5 (Et k), ()))
theorem Ah3 (k : Nat) : Et (k + 1) = (T5 (Et k), (R5 (Et k), ())) := rfl
def Ag0 (T : Kt) (d : Y7) : Option (Aas) :=
 (Afm ((), ())).bind fun x1 =>
 let x2 := (d.2.1.1.length : Int)
 let x3 := (Kc .i64 x2 (64 : Int))
 let x4 := (Qi .i64 x3 64)
 bif decide ((0 : Int) <= (0 : Int)) && decide ((0 : Int) <= x4) && decide (x4 <= (d.2.1.1.length : Int)) then (
 let x5 := (List.drop (Int.toNat (0 : Int)) (List.take (Int.toNat x4) d.2.1.1))
 (Cq ((), ((x5, ()), ((64, ()), ())))).bind fun x6 =>
 (Dg (x6.1.1.1, (x6.1.2.1.1, ()))).bind fun x7 =>
 (T.1 x7 ((((0 : Int), ((0 : Int), ((0 : Int), ((0 : Int), ((0 : Int), ((0 : Int), ((0 : Int), ((0 : Int), ((0 : Int), ((0 : Int), ((0 : Int), ((0 : Int), ((0 : Int), ((0 : Int), ((0 : Int), ((0 : Int), ((0 : Int), ((0 : Int), ((0 : Int), (0, ())))))))))))))))))))), x1.2), (d.2.1, ((), ((), ((x4, ()), ())))))))
 else none
def Ah5 (d) := lim fun k => Ag0 (Et k) d
theorem A5x : Dv Tryz.prog ET0 41 Alm Aj4 Ah5 :=
 fnL (E := ((((((((E0.add 30 Aui).add 72 A3z).add 73 Aar).add 74 A65).add 75 Azq).add 76 Arh).sq 97 Ei).fr [(51, [50])])) (pi := Alm) (po := Aj4) (Wz (Biq (Ab (Ab (Ab (Ab (Ab (Ab A7 (Ae Aql)) (Ae A10)) (Ae Zd)) (Ae A4d)) (Ae Awe)) (Ae An9)) Ul)) (fn := Tryz.f41) Tryz.func41 (by kernel_rfl) (by kernel_rfl) [.cell 2 53] (by kernel_rfl) rfl rfl rfl [] (fun _ => []) (fun k => [(5, ⟨(Azn, (.sl (.int .u8))), (Et k).1⟩), (12, ⟨(Awz, (.sl (.int .u8))), (Et k).2.1⟩)])
 trivial (fun k => trivial) (.intro (fun _ _ => rfl) (.intro (fun _ _ => rfl) trivial)) (fun k => (.intro (fun l d => by kernel_rfl) (.intro (fun l d => by kernel_rfl) trivial))) (fun k d => Ag0 (Et k) d) (fun k d => by kernel_rfl)
def Bbg := Ak Alm Aj4 Ah5
abbrev H6 : PSh := ⟨[.var 91 [.osl 1, vE], .row 5 (.int .u8)], [.mk false [.ref 0 0], kI, kS]⟩
abbrev E5 : PSh := ⟨[.var 91 [.osl 1, vE], .row 5 (.int .u8)], [.mk false [.ref 0 0]]⟩
def Mb (T : Unit) (d : (((Option Int) × Unit) × ((List Int) × Unit)) × (Unit × ((Int × Unit) × ((ByteArray × Unit) × Unit)))) : Option (Y11) :=
 (Lv ((), (d.2.2.1, ((0, ()), ())))).bind fun x1 =>
 let x2 := (!x1.2.2.1.1.isNone)
 bif x2 then (
 bif decide (((d.1.2.1.length + (bytesOf x1.2.1.1).length) * 1 : Nat) <= 140737488355328) && decide (d.1.2.1.length + (bytesOf x1.2.1.1).length <= 9223372036854775807) then (
 let x3 := (d.1.2.1 ++ (bytesOf x1.2.1.1))
 bif decide (((x3.length + (bytesOf d.2.2.2.1.1).length) * 1 : Nat) <= 140737488355328) && decide (x3.length + (bytesOf d.2.2.2.1.1).length <= 9223372036854775807) then (
 let x4 := (x3 ++ (bytesOf d.2.2.2.1.1))
 some ((x1.2.2.1, (x4, ())), ((), ())))
 else none)
 else none)
 else (
 bif decide (((d.1.2.1.length + (bytesOf x1.2.1.1).length) * 1 : Nat) <= 140737488355328) && decide (d.1.2.1.length + (bytesOf x1.2.1.1).length <= 9223372036854775807) then (
 let x5 := (d.1.2.1 ++ (bytesOf x1.2.1.1))
 bif decide (((x5.length + (bytesOf d.2.2.2.1.1).length) * 1 : Nat) <= 140737488355328) && decide (x5.length + (bytesOf d.2.2.2.1.1).length <= 9223372036854775807) then (
 let x6 := (x5 ++ (bytesOf d.2.2.2.1.1))
 some ((d.1.1, (x6, ())), ((), ())))
 else none)
 else none)
def A5 := Mb ()
theorem Mx : Ar4 Tryz.prog ET0 38 H6 E5 0 [(0, 0, none)] A5 :=
 Auj (E := ((E0.add 69 Az5).kp [0])) (pi := H6) (po := E5) (Im (Ab A7 (Ae Aw6))) (fn := Tryz.f38) Tryz.func38 (by kernel_rfl) (by kernel_rfl) [] [(0, none)] [(0, 0, none)] (by kernel_rfl) rfl rfl rfl rfl rfl [] fun d => by kernel_rfl
def N8 := Yh H6 E5 0 [(0, 0, none)] A5
abbrev Ih : PSh := ⟨[.var 91 [.osl 1, vE], .row 5 (.int .u8)], [.mk false [.ref 0 0], .mk true [vI, vI], kS, kS]⟩
abbrev Id : PSh := E5
def L9 (T : Unit) (d : (((Option Int) × Unit) × ((List Int) × Unit)) × (Unit × ((Int × (Int × Unit)) × ((ByteArray × Unit) × ((ByteArray × Unit) × Unit))))) : Option (Y11) :=
 (Vb ((), ((3, ()), ((d.2.2.1.1, ()), ())))).bind fun x1 =>
 let x2 := (!x1.2.2.1.1.isNone)
 bif x2 then (
 let x3 := (Qi .i64 x1.2.1.1 86400)
 (A5 ((x1.2.2.1, d.1.2), ((), ((x3, ()), (d.2.2.2.1, ()))))).bind fun x4 =>
 (A5 (x4.1, ((), (d.2.2.1.2, d.2.2.2.2)))).bind fun x5 =>
 some (x5.1, ((), ())))
 else (
 let x6 := (Qi .i64 x1.2.1.1 86400)
 (A5 (d.1, ((), ((x6, ()), (d.2.2.2.1, ()))))).bind fun x7 =>
 (A5 (x7.1, ((), (d.2.2.1.2, d.2.2.2.2)))).bind fun x8 =>
 some (x8.1, ((), ())))
def Eb := L9 ()
theorem Yy : Ar4 Tryz.prog ET0 39 Ih Id 0 [(0, 0, none)] Eb :=
 Auj (E := (((E0.add 38 N8).add 70 A79).kp [0])) (pi := Ih) (po := Id) (Im (Ab (Ab A7 (Pi Mx)) (Ae A3h))) (fn := Tryz.f39) Tryz.func39 (by kernel_rfl) (by kernel_rfl) [] [(0, none)] [(0, 0, none)] (by kernel_rfl) rfl rfl rfl rfl rfl [] fun d => by kernel_rfl
def Aa2 := Yh Ih Id 0 [(0, 0, none)] Eb
abbrev O1 : PSh := Dq
abbrev Pe : PSh := ⟨[], [.mk true [v8, v8, v8, v8, v8, v8, v8, v8, v8, v8, v8, v8, v8, v8, v8, v8, v8, v8, v8, v8], kE]⟩
abbrev Rq : Type := Unit × ((Int × (Int × (Int × (Int × (Int × (Int × (Int × (Int × (Int × (Int × (Int × (Int × (Int × (Int × (Int × (Int × (Int × (Int × (Int × (Int × Unit)))))))))))))))))))) × (((Option Int) × Unit) × Unit))
abbrev Wo : Type := ((Int × (Int × (Int × (Int × (Int × (Int × (Int × (Int × (Int × (Int × (Int × (Int × (Int × (Int × (Int × (Int × (Int × (Int × (Int × (Int × Unit)))))))))))))))))))) × (((Option Int) × Unit) × ((List Int) × ((List (Int × Int)) × Unit)))) × (Unit × (Unit × (Unit × ((Int × Unit) × ((Int × Unit) × Unit)))))
abbrev Kk : Type := (((Wo) -> Option (Rq)) × Unit)
abbrev Aig : PSh := ⟨[.var 53 [v8, v8, v8, v8, v8, v8, v8, v8, v8, v8, v8, v8, v8, v8, v8, v8, v8, v8, v8, v8], .var 91 [.osl 2, vE], .row 5 (.int .u8), .row 70 (.pair (.int .i64) (.int .i64))], [.any, .any, .mk false [.ref 0 0], .any, .mk false [.ref 1 0], .any, .any, .any, .any, .any, .any, .any, .any, .any, .any, .any, .any, .any, .mk false [.osl 3], kI, kI] ++ M3 15⟩
def Ir (T : Kk) (d : Wo) : Option (Rq) :=
 let x8 := (decide (d.2.2.2.2.2.1.1 < d.2.2.2.2.1.1))
 bif x8 then (
 bif decide ((0 : Int) <= d.2.2.2.2.2.1.1) && decide (d.2.2.2.2.2.1.1 < (d.1.2.2.2.1.length : Int)) then (
 let x9 := (Ad d.1.2.2.2.1 d.2.2.2.2.2.1.1)
 (Eb ((d.1.2.1, (d.1.2.2.1, ())), ((), ((x9.1, (x9.2, ())), (((⟨#[]⟩ : ByteArray), ()), (((⟨#[]⟩ : ByteArray), ()), ())))))).bind fun x10 =>
 let x11 := (A4 .i64 d.2.2.2.2.2.1.1 1)
 (T.1 ((d.1.1, (x10.1.1, (x10.1.2.1, d.1.2.2.2))), ((), ((), ((), (d.2.2.2.2.1, ((x11, ()), ()))))))))
 else none)
 else (
 let x12 := (!d.1.2.1.1.isNone)
 bif x12 then (
 some ((), (((0 : Int), ((0 : Int), ((0 : Int), ((0 : Int), ((0 : Int), ((0 : Int), ((0 : Int), ((0 : Int), ((0 : Int), ((0 : Int), ((0 : Int), ((0 : Int), ((0 : Int), ((0 : Int), ((0 : Int), ((0 : Int), ((0 : Int), ((0 : Int), ((0 : Int), (0, ())))))))))))))))))))), (d.1.2.1, ()))))
 else (
 (Ah5 ((), ((d.1.2.2.1, ()), ()))).bind fun x13 =>
 some ((), (x13.2.1, (((none : Option Int), ()), ())))))
def D6 : Nat -> Kk
 | 0 => (fun _ => none, ())
 | k + 1 => (Ir (D6 k), ())
theorem Z9 (k : Nat) : D6 (k + 1) = (Ir (D6 k), ()) := rfl
def N2 (T : Kk) (d : Y2) : Option (Rq) :=
 bif d.2.1.1.isNone then (
 let x1 := (some (8 : Int))
 some ((), (((0 : Int), ((0 : Int), ((0 : Int), ((0 : Int), ((0 : Int), ((0 : Int), ((0 : Int), ((0 : Int), ((0 : Int), ((0 : Int), ((0 : Int), ((0 : Int), ((0 : Int), ((0 : Int), ((0 : Int), ((0 : Int), ((0 : Int), ((0 : Int), ((0 : Int), (0, ())))))))))))))))))))), ((x1, ()), ()))))
 else (
 (Dn ((), d.2)).bind fun x2 =>
 (A5 ((((none : Option Int), ()), (([] : List Int), ())), ((), (x2.2.1, (((⟨#[]⟩ : ByteArray), ()), ()))))).bind fun x3 =>
 (Do ((), d.2)).bind fun x4 =>
 (A5 (x3.1, ((), (x4.2.1, (((⟨#[]⟩ : ByteArray), ()), ()))))).bind fun x5 =>
 (Ey ((), d.2)).bind fun x6 =>
 let x7 := (x6.1.1.length : Int)
 (T.1 ((((0 : Int), ((0 : Int), ((0 : Int), ((0 : Int), ((0 : Int), ((0 : Int), ((0 : Int), ((0 : Int), ((0 : Int), ((0 : Int), ((0 : Int), ((0 : Int), ((0 : Int), ((0 : Int), ((0 : Int), ((0 : Int), ((0 : Int), ((0 : Int), ((0 : Int), (0, ())))))))))))))))))))), (x5.1.1, (x5.1.2.1, x6.1))), ((), ((), ((), ((x7, ()), ((0, ()), ()))))))))
def I7 (d) := lim fun k => N2 (D6 k) d
theorem Ano : Dv Tryz.prog ET0 18 O1 Pe I7 :=
 fnL (E := ((((((E0.add 34 Aak).add 35 Tx).add 36 Ts).add 38 N8).add 39 Aa2).add 41 Bbg)) (pi := O1) (po := Pe) (Ab (Ab (Ab (Ab (Ab (Ab A7 (Ae W6)) (Ae Sc)) (Ae Sy)) (Pi Mx)) (Pi Yy)) (Ae A5x)) (fn := Tryz.f18) Tryz.func18 (by kernel_rfl) (by kernel_rfl) [.cell 2 53, .tmp 3] (by kernel_rfl) rfl rfl rfl [] (fun k => [(9, ⟨Aig, (D6 k).1⟩)]) (fun _ => [])
 (.intro (fun _ => rfl) trivial) (fun k => (.intro (fun d => by kernel_rfl) trivial)) trivial (fun k => trivial) (fun k d => N2 (D6 k) d) (fun k d => by kernel_rfl)
def An3 := Ak O1 Pe I7
abbrev Aj8 : PSh := ⟨[], [kI]⟩
abbrev Ajs : PSh := ⟨[], [kI, kI, kI, kE]⟩
def Af9 (T : Unit) (d : Unit × ((Int × Unit) × Unit)) : Option (Unit × ((Int × Unit) × ((Int × Unit) × ((Int × Unit) × (((Option Int) × Unit) × Unit))))) :=
 (Nw ((), ())).bind fun x1 =>
 let x2 := (decide (d.2.1.1 < x1.2.1.1))
 bif x2 then (
 let x3 := (some (13 : Int))
 some ((), ((0, ()), ((0, ()), ((0, ()), ((x3, ()), ()))))))
 else (
 (Rg ((), ())).bind fun x4 =>
 let x5 := (decide (d.2.1.1 > x4.2.1.1))
 bif x5 then (
 let x6 := (some (13 : Int))
 some ((), ((0, ()), ((0, ()), ((0, ()), ((x6, ()), ()))))))
 else (
 let x7 := (A4 .i64 d.2.1.1 719468)
 (Nx ((), ((x7, ()), ((146097, ()), ())))).bind fun x8 =>
 let x9 := (A4 .i64 d.2.1.1 719468)
 let x10 := (Qi .i64 x8.2.1.1 146097)
 let x11 := (Eh .i64 x9 x10)
 let x12 := (Kc .i64 x11 (1460 : Int))
 let x13 := (Eh .i64 x11 x12)
 let x14 := (Kc .i64 x11 (36524 : Int))
 let x15 := (A4 .i64 x13 x14)
 let x16 := (Kc .i64 x11 (146096 : Int))
 let x17 := (Eh .i64 x15 x16)
 let x18 := (Kc .i64 x17 (365 : Int))
 let x19 := (Qi .i64 (365 : Int) x18)
 let x20 := (Kc .i64 x18 (4 : Int))
 let x21 := (A4 .i64 x19 x20)
 let x22 := (Kc .i64 x18 (100 : Int))
 let x23 := (Eh .i64 x21 x22)
 let x24 := (Eh .i64 x11 x23)
 let x25 := (Qi .i64 (5 : Int) x24)
 let x26 := (A4 .i64 x25 2)
 let x27 := (Kc .i64 x26 (153 : Int))
 let x28 := (Qi .i64 (153 : Int) x27)
 let x29 := (A4 .i64 x28 2)
 let x30 := (Kc .i64 x29 (5 : Int))
 let x31 := (Eh .i64 x24 x30)
 let x32 := (A4 .i64 x31 1)
 let x33 := (Qi .i64 x8.2.1.1 400)
 let x34 := (A4 .i64 x18 x33)
 let x35 := (A4 .i64 x27 3)
 let x36 := (decide (x35 > (12 : Int)))
 bif x36 then (
 let x37 := (Eh .i64 x35 12)
 let x38 := (A4 .i64 x34 1)
 some ((), ((x38, ()), ((x37, ()), ((x32, ()), (((none : Option Int), ()), ()))))))
 else (
 some ((), ((x34, ()), ((x35, ()), ((x32, ()), (((none : Option Int), ()), ()))))))))
def Oj := Af9 ()
theorem As4 : Dv Tryz.prog ET0 81 Aj8 Ajs Oj :=
 fn0 (E := (((E0.add 105 Aks).add 106 Ao0).add 107 Aup)) (pi := Aj8) (po := Ajs) (Ab (Ab (Ab A7 (Ae Ahi)) (Ae Ak4)) (Ae Aqv)) (fn := Tryz.f81) Tryz.func81 (by kernel_rfl) (by kernel_rfl) [.tmp 2, .tmp 3, .tmp 4, .tmp 5] (by kernel_rfl) rfl rfl rfl [] fun d => by kernel_rfl
def Ayq := Ak Aj8 Ajs Oj
abbrev Rp : PSh := ⟨[], [.mk true [vI, vI]]⟩
abbrev Rh : PSh := ⟨[], [kB]⟩
def W0 (T : Unit) (d : Y12) : Option (Unit × ((Bool × Unit) × Unit)) :=
 (Oj ((), ((d.2.1.1, ()), ()))).bind fun x1 =>
 bif x1.2.2.2.2.1.1.isNone then (
 let x2 := (decide (x1.2.1.1 >= (1900 : Int)))
 some ((), ((x2, ()), ())))
 else (
 some ((), ((false, ()), ())))
def J4 := W0 ()
theorem Apw : Dv Tryz.prog ET0 51 Rp Rh J4 :=
 fn0 (E := (E0.add 81 Ayq)) (pi := Rp) (po := Rh) (Ab A7 (Ae As4)) (fn := Tryz.f51) Tryz.func51 (by kernel_rfl) (by kernel_rfl) [.tmp 2] (by kernel_rfl) rfl rfl rfl [] fun d => by kernel_rfl
def Arc := Ak Rp Rh J4
abbrev Abf : PSh := ⟨[], [.mk true [vI, vI]]⟩
abbrev Adf : PSh := ⟨[], [kB]⟩
def X5 (T : Unit) (d : Y12) : Option (Unit × ((Bool × Unit) × Unit)) :=
 (J4 ((), d.2)).bind fun x1 =>
 let x2 := (!x1.2.1.1)
 some ((), ((x2, ()), ()))
def Sr := X5 ()
theorem A17 : Dv Tryz.prog ET0 50 Abf Adf Sr :=
 fn0 (E := (E0.add 51 Arc)) (pi := Abf) (po := Adf) (Ab A7 (Ae Apw)) (fn := Tryz.f50) Tryz.func50 (by kernel_rfl) (by kernel_rfl) [.tmp 2] (by kernel_rfl) rfl rfl rfl [] fun d => by kernel_rfl
def A49 := Ak Abf Adf Sr
abbrev We : PSh := ⟨[], [.mk true [vI, vI]]⟩
abbrev Wa : PSh := ⟨[], [kB]⟩
def Adr (T : Unit) (d : Y12) : Option (Unit × ((Bool × Unit) × Unit)) :=
 (Oj ((), ((d.2.1.1, ()), ()))).bind fun x1 =>
 bif x1.2.2.2.2.1.1.isNone then (
 let x2 := (x1.2.2.2.1.1 == (1 : Int))
 bif x2 then (
 let x3 := (decide (d.2.1.2.1 >= (0 : Int)))
 bif x3 then (
 let x4 := (decide (d.2.1.2.1 <= (1000 : Int)))
 some ((), ((x4, ()), ())))
 else (
 some ((), ((false, ()), ()))))
 else (
 some ((), ((false, ()), ()))))
 else (
 some ((), ((false, ()), ())))
def Mj := Adr ()
theorem Au4 : Dv Tryz.prog ET0 53 We Wa Mj :=
 fn0 (E := (E0.add 81 Ayq)) (pi := We) (po := Wa) (Ab A7 (Ae As4)) (fn := Tryz.f53) Tryz.func53 (by kernel_rfl) (by kernel_rfl) [.tmp 2] (by kernel_rfl) rfl rfl rfl [] fun d => by kernel_rfl
def Awv := Ak We Wa Mj
abbrev Acb : PSh := ⟨[], [.mk true [vI, vI]]⟩
abbrev Abi : PSh := ⟨[], [kB]⟩
def Yo (T : Unit) (d : Y12) : Option (Unit × ((Bool × Unit) × Unit)) :=
 (Mj ((), d.2)).bind fun x1 =>
 let x2 := (!x1.2.1.1)
 some ((), ((x2, ()), ()))
def Sq := Yo ()
theorem A0i : Dv Tryz.prog ET0 52 Acb Abi Sq :=
 fn0 (E := (E0.add 53 Awv)) (pi := Acb) (po := Abi) (Ab A7 (Ae Au4)) (fn := Tryz.f52) Tryz.func52 (by kernel_rfl) (by kernel_rfl) [.tmp 2] (by kernel_rfl) rfl rfl rfl [] fun d => by kernel_rfl
def A34 := Ak Acb Abi Sq
abbrev Agq : PSh := ⟨[], [kI]⟩
abbrev Aew : PSh := ⟨[], [kB]⟩
def Anv (T : Unit) (d : Unit × ((Int × Unit) × Unit)) : Option (Unit × ((Bool × Unit) × Unit)) :=
 let x1 := (decide (d.2.1.1 >= (0 : Int)))
 bif x1 then (
 let x2 := (decide (d.2.1.1 <= (1099511627776 : Int)))
 some ((), ((x2, ()), ())))
 else (
 some ((), ((false, ()), ())))
def Rr := Anv ()
theorem A43 : Dv Tryz.prog ET0 55 Agq Aew Rr :=
 fn0 (E := E0) (pi := Agq) (po := Aew) A7 (fn := Tryz.f55) Tryz.func55 (by kernel_rfl) (by kernel_rfl) [.tmp 2] (by kernel_rfl) rfl rfl rfl [] fun d => by kernel_rfl
def A5s := Ak Agq Aew Rr
abbrev Nr : PSh := ⟨[], [.mk true [vI, vI], .mk true [vI, vI]]⟩
abbrev Nq : PSh := ⟨[], [kB]⟩
def Tu (T : Unit) (d : Unit × ((Int × (Int × Unit)) × ((Int × (Int × Unit)) × Unit))) : Option (Unit × ((Bool × Unit) × Unit)) :=
 let x1 := (Eh .i64 d.2.1.2.1 d.2.2.1.2.1)
 let x2 := (decide (d.2.1.1 > d.2.2.1.1))
 bif x2 then (
 let x3 := (x1 == (1 : Int))
 bif x3 then (
 some ((), ((true, ()), ())))
 else (
 let x4 := (x1 == (-1 : Int))
 some ((), ((x4, ()), ()))))
 else (
 some ((), ((false, ()), ())))
def Hr := Tu ()
theorem Ak8 : Dv Tryz.prog ET0 83 Nr Nq Hr :=
 fn0 (E := E0) (pi := Nr) (po := Nq) A7 (fn := Tryz.f83) Tryz.func83 (by kernel_rfl) (by kernel_rfl) [.tmp 4] (by kernel_rfl) rfl rfl rfl [] fun d => by kernel_rfl
def Ank := Ak Nr Nq Hr
abbrev Afq : PSh := Cd
abbrev Aes : PSh := ⟨[], [kB]⟩
abbrev Ams : Type := Unit × (((List (Int × Int)) × Unit) × ((Int × Unit) × Unit))
abbrev Ag1 : Type := (((Ams) -> Option (Unit × ((Bool × Unit) × Unit))) × Unit)
abbrev Axd : PSh := ⟨[], [.mk false [.v (.sl (.pair (.int .i64) (.int .i64)))], .any, .any, kI] ++ M3 17⟩
def Mq (T : Ag1) (d : Ams) : Option (Unit × ((Bool × Unit) × Unit)) :=
 let x1 := (d.2.1.1.length : Int)
 let x2 := (decide (d.2.2.1.1 < x1))
 bif x2 then (
 bif decide ((0 : Int) <= d.2.2.1.1) && decide (d.2.2.1.1 < (d.2.1.1.length : Int)) then (
 let x3 := (Eh .i64 d.2.2.1.1 1)
 bif decide ((0 : Int) <= x3) && decide (x3 < (d.2.1.1.length : Int)) then (
 (Hr ((), (((Ad d.2.1.1 d.2.2.1.1).1, ((Ad d.2.1.1 d.2.2.1.1).2, ())), (((Ad d.2.1.1 x3).1, ((Ad d.2.1.1 x3).2, ())), ())))).bind fun x4 =>
 let x5 := (!x4.2.1.1)
 bif x5 then (
 some ((), ((false, ()), ())))
 else (
 let x6 := (A4 .i64 d.2.2.1.1 1)
 (T.1 ((), (d.2.1, ((x6, ()), ()))))))
 else none)
 else none)
 else (
 some ((), ((true, ()), ())))
def Jo : Nat -> Ag1
 | 0 => (fun _ => none, ())
 | k + 1 => (Mq (Jo k), ())
theorem Aki (k : Nat) : Jo (k + 1) = (Mq (Jo k), ()) := rfl
def Ac7 (T : Ag1) (d : Y0) : Option (Unit × ((Bool × Unit) × Unit)) :=
 (T.1 ((), (d.2.1, ((1, ()), ()))))
def Vy (d) := lim fun k => Ac7 (Jo k) d
theorem A3i : Dv Tryz.prog ET0 56 Afq Aes Vy :=
 fnL (E := (E0.add 83 Ank)) (pi := Afq) (po := Aes) (Ab A7 (Ae Ak8)) (fn := Tryz.f56) Tryz.func56 (by kernel_rfl) (by kernel_rfl) [.tmp 2] (by kernel_rfl) rfl rfl rfl [] (fun k => [(3, ⟨Axd, (Jo k).1⟩)]) (fun _ => [])
 (.intro (fun _ => rfl) trivial) (fun k => (.intro (fun d => by kernel_rfl) trivial)) trivial (fun k => trivial) (fun k d => Ac7 (Jo k) d) (fun k d => by kernel_rfl)
def A69 := Ak Afq Aes Vy
abbrev Bj : PSh := ⟨[], [.mk false [.v (.sl (.pair (.int .i64) (.int .i64)))], .mk false [.fn 50 []]]⟩
abbrev Ci : PSh := ⟨[], [kI]⟩
abbrev B9 : Type := Unit × (((List (Int × Int)) × Unit) × (Unit × ((Int × Unit) × ((Int × Unit) × Unit))))
abbrev Ch : Type := (((B9) -> Option (Unit × ((Int × Unit) × Unit))) × Unit)
abbrev G2 : PSh := ⟨[], [.mk false [.v (.sl (.pair (.int .i64) (.int .i64)))], .mk false [.fn 50 []], .any, .any, .any, .any, .any, kI, kI] ++ M3 10⟩
def Ay (T : Ch) (d : B9) : Option (Unit × ((Int × Unit) × Unit)) :=
 let x2 := (decide (d.2.2.2.2.1.1 < d.2.2.2.1.1))
 bif x2 then (
 bif decide ((0 : Int) <= d.2.2.2.2.1.1) && decide (d.2.2.2.2.1.1 < (d.2.1.1.length : Int)) then (
 (Sr ((), (((Ad d.2.1.1 d.2.2.2.2.1.1).1, ((Ad d.2.1.1 d.2.2.2.2.1.1).2, ())), ()))).bind fun x3 =>
 bif x3.2.1.1 then (
 some ((), d.2.2.2.2))
 else (
 let x4 := (A4 .i64 d.2.2.2.2.1.1 1)
 (T.1 ((), (d.2.1, ((), (d.2.2.2.1, ((x4, ()), ()))))))))
 else none)
 else (
 some ((), (((-1 : Int), ()), ())))
def Au : Nat -> Ch
 | 0 => (fun _ => none, ())
 | k + 1 => (Ay (Au k), ())
theorem Cj (k : Nat) : Au (k + 1) = (Ay (Au k), ()) := rfl
def B8 (T : Ch) (d : Y13) : Option (Unit × ((Int × Unit) × Unit)) :=
 let x1 := (d.2.1.1.length : Int)
 (T.1 ((), (d.2.1, ((), ((x1, ()), ((0, ()), ()))))))
def Bn (d) := lim fun k => B8 (Au k) d
theorem Hv : Dv Tryz.prog ET0 82 Bj Ci Bn :=
 fnL (E := (E0.add 50 A49)) (pi := Bj) (po := Ci) (Ab A7 (Ae A17)) (fn := Tryz.f82) Tryz.func82 (by kernel_rfl) (by kernel_rfl) [.tmp 4] (by kernel_rfl) rfl rfl rfl [] (fun k => [(3, ⟨G2, (Au k).1⟩)]) (fun _ => [])
 (.intro (fun _ => rfl) trivial) (fun k => (.intro (fun d => by kernel_rfl) trivial)) trivial (fun k => trivial) (fun k d => B8 (Au k) d) (fun k d => by kernel_rfl)
def H7 := Ak Bj Ci Bn
abbrev Be : PSh := Bj
abbrev B4 : PSh := ⟨[], [kB]⟩
def C6 (T : Unit) (d : Y13) : Option (Unit × ((Bool × Unit) × Unit)) :=
 (Bn ((), (d.2.1, ((), ())))).bind fun x1 =>
 let x2 := (decide (x1.2.1.1 >= (0 : Int)))
 some ((), ((x2, ()), ()))
def Az := C6 ()
theorem Gu : Dv Tryz.prog ET0 54 Be B4 Az :=
 fn0 (E := (E0.add 82 H7)) (pi := Be) (po := B4) (Ab A7 (Ae Hv)) (fn := Tryz.f54) Tryz.func54 (by kernel_rfl) (by kernel_rfl) [.tmp 4] (by kernel_rfl) rfl rfl rfl [] fun d => by kernel_rfl
def Gz := Ak Be B4 Az
abbrev Bi : PSh := ⟨[], [.mk false [.v (.sl (.pair (.int .i64) (.int .i64)))], .mk false [.fn 52 []]]⟩
abbrev Cf : PSh := ⟨[], [kI]⟩
abbrev Dh : Type := B9
abbrev Ce : Type := (((Dh) -> Option (Unit × ((Int × Unit) × Unit))) × Unit)
abbrev G1 : PSh := ⟨[], [.mk false [.v (.sl (.pair (.int .i64) (.int .i64)))], .mk false [.fn 52 []], .any, .any, .any, .any, .any, kI, kI] ++ M3 10⟩
def A0 (T : Ce) (d : Dh) : Option (Unit × ((Int × Unit) × Unit)) :=
 let x2 := (decide (d.2.2.2.2.1.1 < d.2.2.2.1.1))
 bif x2 then (
 bif decide ((0 : Int) <= d.2.2.2.2.1.1) && decide (d.2.2.2.2.1.1 < (d.2.1.1.length : Int)) then (
 (Sq ((), (((Ad d.2.1.1 d.2.2.2.2.1.1).1, ((Ad d.2.1.1 d.2.2.2.2.1.1).2, ())), ()))).bind fun x3 =>
 bif x3.2.1.1 then (
 some ((), d.2.2.2.2))
 else (
 let x4 := (A4 .i64 d.2.2.2.2.1.1 1)
 (T.1 ((), (d.2.1, ((), (d.2.2.2.1, ((x4, ()), ()))))))))
 else none)
 else (
 some ((), (((-1 : Int), ()), ())))
def At : Nat -> Ce
 | 0 => (fun _ => none, ())
 | k + 1 => (A0 (At k), ())
theorem Ck (k : Nat) : At (k + 1) = (A0 (At k), ()) := rfl
def B7 (T : Ce) (d : Y13) : Option (Unit × ((Int × Unit) × Unit)) :=
 let x1 := (d.2.1.1.length : Int)
 (T.1 ((), (d.2.1, ((), ((x1, ()), ((0, ()), ()))))))
def Bm (d) := lim fun k => B7 (At k) d
theorem Ht : Dv Tryz.prog ET0 82 Bi Cf Bm :=
 fnL (E := (E0.add 52 A34)) (pi := Bi) (po := Cf) (Ab A7 (Ae A0i)) (fn := Tryz.f82) Tryz.func82 (by kernel_rfl) (by kernel_rfl) [.tmp 4] (by kernel_rfl) rfl rfl rfl [] (fun k => [(3, ⟨G1, (At k).1⟩)]) (fun _ => [])
 (.intro (fun _ => rfl) trivial) (fun k => (.intro (fun d => by kernel_rfl) trivial)) trivial (fun k => trivial) (fun k d => B7 (At k) d) (fun k d => by kernel_rfl)
def Ic := Ak Bi Cf Bm
abbrev Bz : PSh := Bi
abbrev B0 : PSh := ⟨[], [kB]⟩
def C9 (T : Unit) (d : Y13) : Option (Unit × ((Bool × Unit) × Unit)) :=
 (Bm ((), (d.2.1, ((), ())))).bind fun x1 =>
 let x2 := (decide (x1.2.1.1 >= (0 : Int)))
 some ((), ((x2, ()), ()))
def A1 := C9 ()
theorem Gt : Dv Tryz.prog ET0 54 Bz B0 A1 :=
 fn0 (E := (E0.add 82 Ic)) (pi := Bz) (po := B0) (Ab A7 (Ae Ht)) (fn := Tryz.f54) Tryz.func54 (by kernel_rfl) (by kernel_rfl) [.tmp 4] (by kernel_rfl) rfl rfl rfl [] fun d => by kernel_rfl
def G0 := Ak Bz B0 A1
abbrev Aka : PSh := ⟨[], [.mk false [.v (.sl (.pair (.int .i64) (.int .i64)))], kI, kI]⟩
abbrev Acc : PSh := ⟨[], [.mk false [.v (.nptr (.pair (.sl (.pair (.int .i64) (.int .i64))) (.pair (.int .i64) (.int .i64))))], kE]⟩
def Aq3 (T : Unit) (d : Unit × (((List (Int × Int)) × Unit) × ((Int × Unit) × ((Int × Unit) × Unit)))) : Option (Y14) :=
 let x1 := (d.2.1.1.length : Int)
 let x2 := (x1 == (0 : Int))
 bif x2 then (
 let x3 := (some (8 : Int))
 some ((), (((none : Option ((List (Int × Int)) × (Int × Int))), ()), ((x3, ()), ()))))
 else (
 let x4 := (d.2.1.1.length : Int)
 let x5 := (decide (x4 > (256 : Int)))
 bif x5 then (
 let x6 := (some (3 : Int))
 some ((), (((none : Option ((List (Int × Int)) × (Int × Int))), ()), ((x6, ()), ()))))
 else (
 (Az ((), (d.2.1, ((), ())))).bind fun x7 =>
 bif x7.2.1.1 then (
 let x8 := (some (13 : Int))
 some ((), (((none : Option ((List (Int × Int)) × (Int × Int))), ()), ((x8, ()), ()))))
 else (
 (A1 ((), (d.2.1, ((), ())))).bind fun x9 =>
 bif x9.2.1.1 then (
 let x10 := (some (1 : Int))
 some ((), (((none : Option ((List (Int × Int)) × (Int × Int))), ()), ((x10, ()), ()))))
 else (
 (Rr ((), (d.2.2.1, ()))).bind fun x11 =>
 let x12 := (!x11.2.1.1)
 bif x12 then (
 let x13 := (some (1 : Int))
 some ((), (((none : Option ((List (Int × Int)) × (Int × Int))), ()), ((x13, ()), ()))))
 else (
 (Rr ((), d.2.2.2)).bind fun x14 =>
 let x15 := (!x14.2.1.1)
 bif x15 then (
 let x16 := (some (1 : Int))
 some ((), (((none : Option ((List (Int × Int)) × (Int × Int))), ()), ((x16, ()), ()))))
 else (
 (Vy ((), (d.2.1, ()))).bind fun x17 =>
 let x18 := (!x17.2.1.1)
 bif x18 then (
 let x19 := (some (6 : Int))
 some ((), (((none : Option ((List (Int × Int)) × (Int × Int))), ()), ((x19, ()), ()))))
 else (
 (Bv ((), (d.2.1, ()))).bind fun x20 =>
 some ((), (((some (x20.1.1, (d.2.2.1.1, d.2.2.2.1.1))), ()), (((none : Option Int), ()), ()))))))))))
def Ut := Aq3 ()
theorem A7c : Dv Tryz.prog ET0 26 Aka Acc Ut :=
 fn0 (E := ((((E0.add 54 (Bkm Be (Gz) (G0))).add 55 A5s).add 56 A69).add 57 Ij)) (pi := Aka) (po := Acc) (Ab (Ab (Ab (Ab A7 (Bot ((Ae Gu)) ((Ae Gt)))) (Ae A43)) (Ae A3i)) (Ae Hu)) (fn := Tryz.f26) Tryz.func26 (by kernel_rfl) (by kernel_rfl) [.tmp 6, .tmp 7] (by kernel_rfl) rfl rfl rfl [] fun d => by kernel_rfl
def Bb9 := Ak Aka Acc Ut
abbrev Em : PSh := ⟨[], [kS, kS]⟩
abbrev Ek : PSh := ⟨[], [kB]⟩
def G6 (T : Unit) (d : Y15) : Option (Unit × ((Bool × Unit) × Unit)) :=
 let x1 := (d.2.1.1.size : Int)
 let x2 := (d.2.2.1.1.size : Int)
 let x3 := (decide (x1 >= x2))
 bif x3 then (
 let x4 := (d.2.1.1.size : Int)
 let x5 := (d.2.2.1.1.size : Int)
 let x6 := (Eh .i64 x4 x5)
 bif decide ((0 : Int) <= x6) && decide (x6 <= (d.2.1.1.size : Int)) && decide ((d.2.1.1.size : Int) <= (d.2.1.1.size : Int)) then (
 let x7 := (d.2.1.1.extract (Int.toNat x6) (Int.toNat (d.2.1.1.size : Int)))
 let x8 := (x7.toList == d.2.2.1.1.toList)
 some ((), ((x8, ()), ())))
 else none)
 else (
 some ((), ((false, ()), ())))
def Co := G6 ()
theorem Qh : Dv Tryz.prog ET0 111 Em Ek Co :=
 fn0 (E := E0) (pi := Em) (po := Ek) A7 (fn := Tryz.f111) Tryz.func111 (by kernel_rfl) (by kernel_rfl) [.tmp 4] (by kernel_rfl) rfl rfl rfl [] fun d => by kernel_rfl
def Qp := Ak Em Ek Co
abbrev Ef : PSh := ⟨[], [kS, kS]⟩
abbrev Ee : PSh := ⟨[], [kS]⟩
def Gw (T : Unit) (d : Y15) : Option (Y16) :=
 (Co ((), d.2)).bind fun x1 =>
 bif x1.2.1.1 then (
 let x2 := (d.2.1.1.size : Int)
 let x3 := (d.2.2.1.1.size : Int)
 let x4 := (Eh .i64 x2 x3)
 bif decide ((0 : Int) <= (0 : Int)) && decide ((0 : Int) <= x4) && decide (x4 <= (d.2.1.1.size : Int)) then (
 let x5 := (d.2.1.1.extract (Int.toNat (0 : Int)) (Int.toNat x4))
 some ((), ((x5, ()), ())))
 else none)
 else (
 some ((), (d.2.1, ())))
def C2 := Gw ()
theorem On : Dv Tryz.prog ET0 85 Ef Ee C2 :=
 fn0 (E := (E0.add 111 Qp)) (pi := Ef) (po := Ee) (Ab A7 (Ae Qh)) (fn := Tryz.f85) Tryz.func85 (by kernel_rfl) (by kernel_rfl) [.tmp 4] (by kernel_rfl) rfl rfl rfl [] fun d => by kernel_rfl
def P8 := Ak Ef Ee C2
abbrev K9 : PSh := ⟨[], [kS, kS]⟩
abbrev K6 : PSh := ⟨[], [kS]⟩
def Qu (T : Unit) (d : Y15) : Option (Y16) :=
 (C2 ((), d.2)).bind fun x1 =>
 some ((), x1.2)
def Fy := Qu ()
theorem Ag6 : Dv Tryz.prog ET0 60 K9 K6 Fy :=
 fn0 (E := (E0.add 85 P8)) (pi := K9) (po := K6) (Ab A7 (Ae On)) (fn := Tryz.f60) Tryz.func60 (by kernel_rfl) (by kernel_rfl) [.tmp 4] (by kernel_rfl) rfl rfl rfl [] fun d => by kernel_rfl
def Aif := Ak K9 K6 Fy
abbrev Ep : PSh := ⟨[], [kS, kS]⟩
abbrev En : PSh := ⟨[], [kB]⟩
def G4 (T : Unit) (d : Y15) : Option (Unit × ((Bool × Unit) × Unit)) :=
 let x1 := (d.2.1.1.size : Int)
 let x2 := (d.2.2.1.1.size : Int)
 let x3 := (decide (x1 >= x2))
 bif x3 then (
 let x4 := (d.2.2.1.1.size : Int)
 bif decide ((0 : Int) <= (0 : Int)) && decide ((0 : Int) <= x4) && decide (x4 <= (d.2.1.1.size : Int)) then (
 let x5 := (d.2.1.1.extract (Int.toNat (0 : Int)) (Int.toNat x4))
 let x6 := (x5.toList == d.2.2.1.1.toList)
 some ((), ((x6, ()), ())))
 else none)
 else (
 some ((), ((false, ()), ())))
def Cn := G4 ()
theorem Oo : Dv Tryz.prog ET0 119 Ep En Cn :=
 fn0 (E := E0) (pi := Ep) (po := En) A7 (fn := Tryz.f119) Tryz.func119 (by kernel_rfl) (by kernel_rfl) [.tmp 4] (by kernel_rfl) rfl rfl rfl [] fun d => by kernel_rfl
def Qq := Ak Ep En Cn
abbrev Mg : PSh := ⟨[], [kS, kS]⟩
abbrev Mh : PSh := ⟨[], [kB]⟩
def Sz (T : Unit) (d : Y15) : Option (Unit × ((Bool × Unit) × Unit)) :=
 (Cn ((), d.2)).bind fun x1 =>
 some ((), x1.2)
def D7 := Sz ()
theorem Ail : Dv Tryz.prog ET0 87 Mg Mh D7 :=
 fn0 (E := (E0.add 119 Qq)) (pi := Mg) (po := Mh) (Ab A7 (Ae Oo)) (fn := Tryz.f87) Tryz.func87 (by kernel_rfl) (by kernel_rfl) [.tmp 4] (by kernel_rfl) rfl rfl rfl [] fun d => by kernel_rfl
def Akm := Ak Mg Mh D7
abbrev Pa : PSh := ⟨[], [kS]⟩
abbrev C3 : PSh := ⟨[.var 194 [vS, vI, vE]], [.mk false [.ref 0 0]]⟩
def U3 (T : Unit) (d : Y16) : Option (Y17) :=
 some (((d.2.1.1, ((0 : Int), ((none : Option Int), ()))), ()), ((), ()))
def Df := U3 ()
theorem Qf : Dv Tryz.prog ET0 120 Pa C3 Df :=
 fn0 (E := E0) (pi := Pa) (po := C3) A7 (fn := Tryz.f120) Tryz.func120 (by kernel_rfl) (by kernel_rfl) [.tmp 2] (by kernel_rfl) rfl rfl rfl [] fun d => by kernel_rfl
def Q0 := Ak Pa C3 Df
abbrev Bo : PSh := ⟨[], [.mk false [.v (.nptr (.pair .str (.pair (.int .i64) .err)))]]⟩
abbrev Gn : PSh := ⟨[], [kS]⟩
def F7 (T : Unit) (d : Y18) : Option (Y16) :=
 bif d.2.1.1.isNone then (
 some ((), (((⟨#[]⟩ : ByteArray), ()), ())))
 else (
 d.2.1.1.bind fun x1 =>
 let x2 := (!x1.2.2.isNone)
 bif x2 then (
 some ((), (((⟨#[]⟩ : ByteArray), ()), ())))
 else (
 d.2.1.1.bind fun x3 =>
 d.2.1.1.bind fun x4 =>
 bif decide ((0 : Int) <= x4.2.1) && decide (x4.2.1 <= (x3.1.size : Int)) && decide ((x3.1.size : Int) <= (x3.1.size : Int)) then (
 let x5 := (x3.1.extract (Int.toNat x4.2.1) (Int.toNat (x3.1.size : Int)))
 some ((), ((x5, ()), ())))
 else none))
def Ba := F7 ()
theorem Dc : Dv Tryz.prog ET0 146 Bo Gn Ba :=
 fn0 (E := E0) (pi := Bo) (po := Gn) A7 (fn := Tryz.f146) Tryz.func146 (by kernel_rfl) (by kernel_rfl) [.tmp 2] (by kernel_rfl) rfl rfl rfl [] fun d => by kernel_rfl
def Dl := Ak Bo Gn Ba
abbrev Ti : PSh := ⟨[], [kS]⟩
abbrev S2 : PSh := ⟨[], [kS]⟩
def Aa1 (T : Unit) (d : Y16) : Option (Y16) :=
 (Ec ((), d.2)).bind fun x1 =>
 some ((), x1.2)
def Is := Aa1 ()
theorem Aro : Dv Tryz.prog ET0 164 Ti S2 Is :=
 fn0 (E := (E0.add 181 Ui)) (pi := Ti) (po := S2) (Ab A7 (Ae To)) (fn := Tryz.f164) Tryz.func164 (by kernel_rfl) (by kernel_rfl) [.tmp 2] (by kernel_rfl) rfl rfl rfl [] fun d => by kernel_rfl
def As2 := Ak Ti S2 Is
abbrev F4 : PSh := Bo
abbrev F2 : PSh := ⟨[], [kB]⟩
def Jy (T : Unit) (d : Y18) : Option (Unit × ((Bool × Unit) × Unit)) :=
 let x1 := (!d.2.1.1.isNone)
 bif x1 then (
 d.2.1.1.bind fun x2 =>
 some ((), ((x2.2.2.isNone, ()), ())))
 else (
 some ((), ((false, ()), ())))
def B3 := Jy ()
theorem F5 : Dv Tryz.prog ET0 144 F4 F2 B3 :=
 fn0 (E := E0) (pi := F4) (po := F2) A7 (fn := Tryz.f144) Tryz.func144 (by kernel_rfl) (by kernel_rfl) [.tmp 2] (by kernel_rfl) rfl rfl rfl [] fun d => by kernel_rfl
def Gg := Ak F4 F2 B3
abbrev Ac9 : PSh := ⟨[], [k8]⟩
abbrev Acu : PSh := ⟨[], [kB]⟩
def Ajh (T : Unit) (d : Unit × ((Int × Unit) × Unit)) : Option (Unit × ((Bool × Unit) × Unit)) :=
 let x1 := (decide (d.2.1.1 >= (48 : Int)))
 bif x1 then (
 let x2 := (decide (d.2.1.1 <= (57 : Int)))
 some ((), ((x2, ()), ())))
 else (
 some ((), ((false, ()), ())))
def Sg := Ajh ()
theorem A14 : Dv Tryz.prog ET0 192 Ac9 Acu Sg :=
 fn0 (E := E0) (pi := Ac9) (po := Acu) A7 (fn := Tryz.f192) Tryz.func192 (by kernel_rfl) (by kernel_rfl) [.tmp 2] (by kernel_rfl) rfl rfl rfl [] fun d => by kernel_rfl
def A48 := Ak Ac9 Acu Sg
abbrev Ys : PSh := ⟨[], [kS, kI]⟩
abbrev Yu : PSh := ⟨[], [kI]⟩
abbrev Afk : Type := Y21
abbrev Zv : Type := (((Afk) -> Option (Unit × ((Int × Unit) × Unit))) × Unit)
abbrev Aq7 : PSh := ⟨[], [kS, kI, .any, .any, .any, kI] ++ M3 15⟩
def J9 (T : Zv) (d : Afk) : Option (Unit × ((Int × Unit) × Unit)) :=
 let x1 := (d.2.1.1.size : Int)
 let x2 := (if d.2.2.1.1 < x1 then d.2.2.1.1 else x1)
 let x3 := (decide (d.2.2.2.1.1 < x2))
 bif x3 then (
 bif decide ((0 : Int) <= d.2.2.2.1.1) && decide (d.2.2.2.1.1 < ((d.2.1.1.size : Int) : Int)) then (
 let x4 := (bt d.2.1.1 d.2.2.2.1.1)
 (Sg ((), ((x4, ()), ()))).bind fun x5 =>
 bif x5.2.1.1 then (
 let x6 := (A4 .i64 d.2.2.2.1.1 1)
 (T.1 ((), (d.2.1, (d.2.2.1, ((x6, ()), ()))))))
 else (
 some ((), d.2.2.2)))
 else none)
 else (
 some ((), d.2.2.2))
def Gs : Nat -> Zv
 | 0 => (fun _ => none, ())
 | k + 1 => (J9 (Gs k), ())
theorem Ab6 (k : Nat) : Gs (k + 1) = (J9 (Gs k), ()) := rfl
def Vz (T : Zv) (d : Y19) : Option (Unit × ((Int × Unit) × Unit)) :=
 (T.1 ((), (d.2.1, (d.2.2.1, ((0, ()), ())))))
def Uo (d) := lim fun k => Vz (Gs k) d
theorem Axk : Dv Tryz.prog ET0 179 Ys Yu Uo :=
 fnL (E := (E0.add 192 A48)) (pi := Ys) (po := Yu) (Ab A7 (Ae A14)) (fn := Tryz.f179) Tryz.func179 (by kernel_rfl) (by kernel_rfl) [.tmp 4] (by kernel_rfl) rfl rfl rfl [] (fun k => [(3, ⟨Aq7, (Gs k).1⟩)]) (fun _ => [])
 (.intro (fun _ => rfl) trivial) (fun k => (.intro (fun d => by kernel_rfl) trivial)) trivial (fun k => trivial) (fun k d => Vz (Gs k) d) (fun k d => by kernel_rfl)
def A1e := Ak Ys Yu Uo
abbrev Tn : PSh := ⟨[], [kS, .mk false [.v (.int .u64)]]⟩
abbrev S3 : PSh := ⟨[], [.mk false [.v (.int .u64)], kE]⟩
abbrev Wi : Type := Y5
abbrev Aaz : Type := Unit × ((ByteArray × Unit) × ((Int × Unit) × ((Int × Unit) × ((Int × Unit) × ((Int × Unit) × Unit)))))
abbrev Tl : Type := (((Aaz) -> Option (Wi)) × Unit)
abbrev Anp : PSh := ⟨[], [kS, .mk false [.v (.int .u64)], .any, .any, .any, .any, .mk false [.v (.int .u64)], .any, .any, .any, kI, kI] ++ M3 20⟩
def Hq (T : Tl) (d : Aaz) : Option (Wi) :=
 let x2 := (decide (d.2.2.2.2.2.1.1 < d.2.2.2.2.1.1))
 bif x2 then (
 bif decide ((0 : Int) <= d.2.2.2.2.2.1.1) && decide (d.2.2.2.2.2.1.1 < ((d.2.1.1.size : Int) : Int)) then (
 let x3 := (bt d.2.1.1 d.2.2.2.2.2.1.1)
 let x4 := (Eh .u8 x3 48)
 let x5 := (Da .u64 x4)
 let x6 := (Eh .u64 d.2.2.1.1 x5)
 let x7 := (Kc .u64 x6 (10 : Int))
 let x8 := (decide (d.2.2.2.1.1 > x7))
 bif x8 then (
 let x9 := (some (5 : Int))
 some ((), ((0, ()), ((x9, ()), ()))))
 else (
 let x10 := (Qi .u64 d.2.2.2.1.1 10)
 let x11 := (A4 .u64 x10 x5)
 let x12 := (A4 .i64 d.2.2.2.2.2.1.1 1)
 (T.1 ((), (d.2.1, (d.2.2.1, ((x11, ()), (d.2.2.2.2.1, ((x12, ()), ())))))))))
 else none)
 else (
 some ((), (d.2.2.2.1, (((none : Option Int), ()), ()))))
def E2 : Nat -> Tl
 | 0 => (fun _ => none, ())
 | k + 1 => (Hq (E2 k), ())
theorem Wg (k : Nat) : E2 (k + 1) = (Hq (E2 k), ()) := rfl
def Rf (T : Tl) (d : Y19) : Option (Wi) :=
 let x1 := (d.2.1.1.size : Int)
 (T.1 ((), (d.2.1, (d.2.2.1, ((0, ()), ((x1, ()), ((0, ()), ())))))))
def P6 (d) := lim fun k => Rf (E2 k) d
theorem Ara : Dv Tryz.prog ET0 180 Tn S3 P6 :=
 fnL (E := E0) (pi := Tn) (po := S3) A7 (fn := Tryz.f180) Tryz.func180 (by kernel_rfl) (by kernel_rfl) [.tmp 4, .tmp 5] (by kernel_rfl) rfl rfl rfl [] (fun k => [(4, ⟨Anp, (E2 k).1⟩)]) (fun _ => [])
 (.intro (fun _ => rfl) trivial) (fun k => (.intro (fun d => by kernel_rfl) trivial)) trivial (fun k => trivial) (fun k d => Rf (E2 k) d) (fun k d => by kernel_rfl)
def Av1 := Ak Tn S3 P6
abbrev Wk : PSh := ⟨[], [kS, kI, kI, .mk false [.v (.int .u64)]]⟩
abbrev V4 : PSh := ⟨[], [.mk false [.v (.int .u64)], kI, kE]⟩
def Adx (T : Unit) (d : Unit × ((ByteArray × Unit) × ((Int × Unit) × ((Int × Unit) × ((Int × Unit) × Unit))))) : Option (Y20) :=
 let x1 := (decide (d.2.2.1.1 < (1 : Int)))
 bif x1 then (
 let x2 := (some (1 : Int))
 some ((), ((0, ()), ((0, ()), ((x2, ()), ())))))
 else (
 let x3 := (decide (d.2.2.1.1 > d.2.2.2.1.1))
 bif x3 then (
 let x4 := (some (1 : Int))
 some ((), ((0, ()), ((0, ()), ((x4, ()), ())))))
 else (
 let x5 := (decide (d.2.2.2.1.1 > (20 : Int)))
 bif x5 then (
 let x6 := (some (1 : Int))
 some ((), ((0, ()), ((0, ()), ((x6, ()), ())))))
 else (
 (Uo ((), (d.2.1, (d.2.2.2.1, ())))).bind fun x7 =>
 let x8 := (decide (x7.2.1.1 < d.2.2.1.1))
 bif x8 then (
 let x9 := (some (2 : Int))
 some ((), ((0, ()), ((0, ()), ((x9, ()), ())))))
 else (
 bif decide ((0 : Int) <= (0 : Int)) && decide ((0 : Int) <= x7.2.1.1) && decide (x7.2.1.1 <= (d.2.1.1.size : Int)) then (
 let x10 := (d.2.1.1.extract (Int.toNat (0 : Int)) (Int.toNat x7.2.1.1))
 (P6 ((), ((x10, ()), d.2.2.2.2))).bind fun x11 =>
 let x12 := (!x11.2.2.1.1.isNone)
 bif x12 then (
 some ((), ((0, ()), ((0, ()), x11.2.2))))
 else (
 some ((), (x11.2.1, (x7.2.1, (((none : Option Int), ()), ()))))))
 else none))))
def Mn := Adx ()
theorem As5 : Dv Tryz.prog ET0 163 Wk V4 Mn :=
 fn0 (E := ((E0.add 179 A1e).add 180 Av1)) (pi := Wk) (po := V4) (Ab (Ab A7 (Ae Axk)) (Ae Ara)) (fn := Tryz.f163) Tryz.func163 (by kernel_rfl) (by kernel_rfl) [.tmp 8, .tmp 9, .tmp 10] (by kernel_rfl) rfl rfl rfl [] fun d => by kernel_rfl
def Axf := Ak Wk V4 Mn
abbrev Wp : PSh := ⟨[], [kS, kI, kI]⟩
abbrev V5 : PSh := ⟨[], [kI, kI, kE]⟩
def Adu (T : Unit) (d : Y21) : Option (Y20) :=
 (Mn ((), (d.2.1, (d.2.2.1, (d.2.2.2.1, ((9223372036854775807, ()), ())))))).bind fun x1 =>
 let x2 := (Da .i64 x1.2.1.1)
 some ((), ((x2, ()), x1.2.2))
def M2 := Adu ()
theorem As0 : Dv Tryz.prog ET0 145 Wp V5 M2 :=
 fn0 (E := (E0.add 163 Axf)) (pi := Wp) (po := V5) (Ab A7 (Ae As5)) (fn := Tryz.f145) Tryz.func145 (by kernel_rfl) (by kernel_rfl) [.tmp 6, .tmp 7, .tmp 8] (by kernel_rfl) rfl rfl rfl [] fun d => by kernel_rfl
def Awn := Ak Wp V5 M2
abbrev Gr : PSh := Bo
abbrev Gp : PSh := ⟨[], [kI]⟩
def Kj (T : Unit) (d : Y18) : Option (Unit × ((Int × Unit) × Unit)) :=
 (Ba ((), d.2)).bind fun x1 =>
 let x2 := (x1.2.1.1.size : Int)
 some ((), ((x2, ()), ()))
def Ca := Kj ()
theorem Gq : Dv Tryz.prog ET0 130 Gr Gp Ca :=
 fn0 (E := (E0.add 146 Dl)) (pi := Gr) (po := Gp) (Ab A7 (Ae Dc)) (fn := Tryz.f130) Tryz.func130 (by kernel_rfl) (by kernel_rfl) [.tmp 2] (by kernel_rfl) rfl rfl rfl [] fun d => by kernel_rfl
def Hb := Ak Gr Gp Ca
abbrev G9 : PSh := Bo
abbrev Hk : PSh := ⟨[], [kE]⟩
def Ky (T : Unit) (d : Y18) : Option (Y22) :=
 bif d.2.1.1.isNone then (
 let x1 := (some (8 : Int))
 some ((), ((x1, ()), ())))
 else (
 d.2.1.1.bind fun x2 =>
 some ((), ((x2.2.2, ()), ())))
def Dy := Ky ()
theorem Wy : Dv Tryz.prog ET0 151 G9 Hk Dy :=
 fn0 (E := E0) (pi := G9) (po := Hk) A7 (fn := Tryz.f151) Tryz.func151 (by kernel_rfl) (by kernel_rfl) [.tmp 2] (by kernel_rfl) rfl rfl rfl [] fun d => by kernel_rfl
def Yj := Ak G9 Hk Dy
abbrev Hg : PSh := Bo
abbrev Hh : PSh := ⟨[], [kE]⟩
def Kr (T : Unit) (d : Y18) : Option (Y22) :=
 (Dy ((), d.2)).bind fun x1 =>
 let x2 := (!x1.2.1.1.isNone)
 bif x2 then (
 some ((), x1.2))
 else (
 (Ca ((), d.2)).bind fun x3 =>
 let x4 := (decide (x3.2.1.1 > (0 : Int)))
 bif x4 then (
 let x5 := (some (2 : Int))
 some ((), ((x5, ()), ())))
 else (
 some ((), (((none : Option Int), ()), ()))))
def Bl := Kr ()
theorem Mc : Dv Tryz.prog ET0 131 Hg Hh Bl :=
 fn0 (E := ((E0.add 130 Hb).add 151 Yj)) (pi := Hg) (po := Hh) (Ab (Ab A7 (Ae Gq)) (Ae Wy)) (fn := Tryz.f131) Tryz.func131 (by kernel_rfl) (by kernel_rfl) [.tmp 2] (by kernel_rfl) rfl rfl rfl [] fun d => by kernel_rfl
def M1 := Ak Hg Hh Bl
abbrev Dr : PSh := ⟨[.var 194 [vS, vI, vE]], [.mk false [.ref 0 0], kI]⟩
abbrev Dt : PSh := ⟨[.var 194 [vS, vI, vE]], [kS, .mk false [.ref 0 0]]⟩
def I1 (T : Unit) (d : Y23) : Option (((ByteArray × (Int × ((Option Int) × Unit))) × Unit) × ((ByteArray × Unit) × (Unit × Unit))) :=
 (Ba ((), (((some (d.1.1.1, (d.1.1.2.1, d.1.1.2.2.1))), ()), ()))).bind fun x1 =>
 bif decide ((0 : Int) <= (0 : Int)) && decide ((0 : Int) <= d.2.2.1.1) && decide (d.2.2.1.1 <= (x1.2.1.1.size : Int)) then (
 let x2 := (x1.2.1.1.extract (Int.toNat (0 : Int)) (Int.toNat d.2.2.1.1))
 let x3 := (decide (d.2.2.1.1 > (0 : Int)))
 bif x3 then (
 let x4 := (A4 .i64 d.1.1.2.1 d.2.2.1.1)
 (Is ((), ((x2, ()), ()))).bind fun x5 =>
 some (((d.1.1.1, (x4, d.1.1.2.2)), ()), (x5.2.1, ((), ()))))
 else (
 (Is ((), ((x2, ()), ()))).bind fun x6 =>
 some (d.1, (x6.2.1, ((), ())))))
 else none
def A9 := I1 ()
theorem Ds : Ar4 Tryz.prog ET0 147 Dr Dt 1 [(0, 0, none)] A9 :=
 Auj (E := (((E0.add 146 Dl).add 164 As2).kp [0])) (pi := Dr) (po := Dt) (Im (Ab (Ab A7 (Ae Dc)) (Ae Aro))) (fn := Tryz.f147) Tryz.func147 (by kernel_rfl) (by kernel_rfl) [.tmp 4] [(0, none)] [(0, 0, none)] (by kernel_rfl) rfl rfl rfl rfl rfl [] fun d => by kernel_rfl
def D3 := Yh Dr Dt 1 [(0, 0, none)] A9
abbrev Fv : PSh := ⟨[.var 194 [vS, vI, vE]], [.mk false [.ref 0 0], kS]⟩
abbrev Fu : PSh := Dt
abbrev F1 : Type := ((ByteArray × (Int × ((Option Int) × Unit))) × Unit) × ((ByteArray × Unit) × (Unit × Unit))
abbrev Jc : Type := ((ByteArray × (Int × ((Option Int) × Unit))) × Unit) × (Unit × ((ByteArray × Unit) × ((ByteArray × Unit) × ((Int × Unit) × Unit))))
abbrev Fp : Type := (((Jc) -> Option (F1)) × Unit)
abbrev Rm : PSh := ⟨[.var 194 [vS, vI, vE]], [.mk false [.ref 0 0], kS, .any, .any, .any, kS, kI] ++ M3 19⟩
def Dd (T : Fp) (d : Jc) : Option (F1) :=
 let x2 := (d.2.2.2.1.1.size : Int)
 let x3 := (decide (d.2.2.2.2.1.1 < x2))
 bif x3 then (
 bif decide ((0 : Int) <= d.2.2.2.2.1.1) && decide (d.2.2.2.2.1.1 < ((d.2.2.2.1.1.size : Int) : Int)) then (
 let x4 := (bt d.2.2.2.1.1 d.2.2.2.2.1.1)
 (Ez ((), (d.2.2.1, ((x4, ()), ())))).bind fun x5 =>
 let x6 := (decide (x5.2.1.1 >= (0 : Int)))
 bif x6 then (
 let x7 := (A4 .i64 d.2.2.2.2.1.1 1)
 (T.1 (d.1, ((), (d.2.2.1, (d.2.2.2.1, ((x7, ()), ())))))))
 else (
 (A9 (d.1, ((), d.2.2.2.2))).bind fun x8 =>
 some (x8.1, (x8.2.1, ((), ())))))
 else none)
 else (
 (A9 (d.1, ((), d.2.2.2.2))).bind fun x9 =>
 some (x9.1, (x9.2.1, ((), ()))))
def Bb : Nat -> Fp
 | 0 => (fun _ => none, ())
 | k + 1 => (Dd (Bb k), ())
theorem Kl (k : Nat) : Bb (k + 1) = (Dd (Bb k), ()) := rfl
def Fa (T : Fp) (d : ((ByteArray × (Int × ((Option Int) × Unit))) × Unit) × (Unit × ((ByteArray × Unit) × Unit))) : Option (F1) :=
 (Ba ((), (((some (d.1.1.1, (d.1.1.2.1, d.1.1.2.2.1))), ()), ()))).bind fun x1 =>
 (T.1 (d.1, ((), (d.2.2.1, (x1.2.1, ((0, ()), ()))))))
def Bh (d) := lim fun k => Fa (Bb k) d
theorem D5 : Ar4 Tryz.prog ET0 127 Fv Fu 1 [(0, 0, none)] Bh :=
 Bgg (E := ((((E0.add 146 Dl).add 147 D3).add 149 Wf).kp [0])) (pi := Fv) (po := Fu) (Im (Ab (Ab (Ab A7 (Ae Dc)) (Pi Ds)) (Ae Tr))) (fn := Tryz.f127) Tryz.func127 (by kernel_rfl) (by kernel_rfl) [.tmp 4] [(0, none)] [(0, 0, none)] (by kernel_rfl) rfl rfl rfl rfl rfl [] (fun k => [(4, ⟨Rm, (Bb k).1⟩)]) (fun _ => [])
 (.intro (fun _ => rfl) trivial) (fun k => (.intro (fun d => by kernel_rfl) trivial)) trivial (fun k => trivial) (fun k d => Fa (Bb k) d) (fun k d => by kernel_rfl)
def Ed := Yh Fv Fu 1 [(0, 0, none)] Bh
abbrev Fd : PSh := ⟨[.var 194 [vS, vI, vE]], [.mk false [.ref 0 0], kE]⟩
abbrev Fi : PSh := C3
def I6 (T : Unit) (d : ((ByteArray × (Int × ((Option Int) × Unit))) × Unit) × (Unit × (((Option Int) × Unit) × Unit))) : Option (Y17) :=
 (B3 ((), (((some (d.1.1.1, (d.1.1.2.1, d.1.1.2.2.1))), ()), ()))).bind fun x1 =>
 bif x1.2.1.1 then (
 some (((d.1.1.1, (d.1.1.2.1, d.2.2.1)), ()), ((), ())))
 else (
 some (d.1, ((), ())))
def Bu := I6 ()
theorem Jd : Ar4 Tryz.prog ET0 143 Fd Fi 0 [(0, 0, none)] Bu :=
 Auj (E := ((E0.add 144 Gg).kp [0])) (pi := Fd) (po := Fi) (Im (Ab A7 (Ae F5))) (fn := Tryz.f143) Tryz.func143 (by kernel_rfl) (by kernel_rfl) [] [(0, none)] [(0, 0, none)] (by kernel_rfl) rfl rfl rfl rfl rfl [] fun d => by kernel_rfl
def J7 := Yh Fd Fi 0 [(0, 0, none)] Bu
abbrev Ow : PSh := C3
abbrev Pl : PSh := C3
def Vc (T : Unit) (d : Y17) : Option (Y17) :=
 (Bh (d.1, ((), (((⟨#[32, 9]⟩ : ByteArray), ()), ())))).bind fun x1 =>
 let x2 := (x1.2.1.1.toList == (⟨#[]⟩ : ByteArray).toList)
 bif x2 then (
 let x3 := (some (2 : Int))
 (Bu (x1.1, ((), ((x3, ()), ())))).bind fun x4 =>
 some (x4.1, ((), ())))
 else (
 some (x1.1, ((), ())))
def De := Vc ()
theorem P9 : Ar4 Tryz.prog ET0 121 Ow Pl 0 [(0, 0, none)] De :=
 Auj (E := (((E0.add 127 Ed).add 143 J7).kp [0])) (pi := Ow) (po := Pl) (Im (Ab (Ab A7 (Pi D5)) (Pi Jd))) (fn := Tryz.f121) Tryz.func121 (by kernel_rfl) (by kernel_rfl) [] [(0, none)] [(0, 0, none)] (by kernel_rfl) rfl rfl rfl rfl rfl [] fun d => by kernel_rfl
def Qx := Yh Ow Pl 0 [(0, 0, none)] De
abbrev Nv : PSh := C3
abbrev Nz : PSh := ⟨[.var 194 [vS, vI, vE]], [.mk false [.v (.int .u32)], .mk false [.ref 0 0]]⟩
abbrev Pu : Type := Y25
abbrev Tw : Type := ((ByteArray × (Int × ((Option Int) × Unit))) × Unit) × (Unit × ((ByteArray × Unit) × ((Int × Unit) × ((Int × Unit) × ((Int × Unit) × Unit)))))
abbrev No : Type := (((Tw) -> Option (Pu)) × Unit)
abbrev Ahh : PSh := ⟨[.var 194 [vS, vI, vE]], [.mk false [.ref 0 0], .any, .any, kS, .mk false [.v (.int .u32)], .any, .any, .any, .any, .any, .any, .any, .any, .any, .any, .any, .any, .any, .any, .any, kI, kI] ++ M3 12⟩
def Hs (T : No) (d : Tw) : Option (Pu) :=
 let x11 := (decide (d.2.2.2.2.2.1.1 < d.2.2.2.2.1.1))
 bif x11 then (
 let x12 := (A2b .u32 d.2.2.2.1.1 (4 : Int))
 bif decide ((0 : Int) <= d.2.2.2.2.2.1.1) && decide (d.2.2.2.2.2.1.1 < ((d.2.2.1.1.size : Int) : Int)) then (
 let x13 := (bt d.2.2.1.1 d.2.2.2.2.2.1.1)
 (Ez ((), (((⟨#[48, 49, 50, 51, 52, 53, 54, 55, 56, 57, 97, 98, 99, 100, 101, 102]⟩ : ByteArray), ()), ((x13, ()), ())))).bind fun x14 =>
 let x15 := (Da .u32 x14.2.1.1)
 let x16 := (ior .u32 x12 x15)
 let x17 := (A4 .i64 d.2.2.2.2.2.1.1 1)
 (T.1 (d.1, ((), (d.2.2.1, ((x16, ()), (d.2.2.2.2.1, ((x17, ()), ()))))))))
 else none)
 else (
 some (d.1, (d.2.2.2.1, ((), ()))))
def Dm : Nat -> No
 | 0 => (fun _ => none, ())
 | k + 1 => (Hs (Dm k), ())
theorem Xx (k : Nat) : Dm (k + 1) = (Hs (Dm k), ()) := rfl
def Fx (T : No) (d : Y17) : Option (Pu) :=
 (Bh (d.1, ((), (((⟨#[48, 49, 50, 51, 52, 53, 54, 55, 56, 57, 97, 98, 99, 100, 101, 102, 65, 66, 67, 68, 69, 70]⟩ : ByteArray), ()), ())))).bind fun x1 =>
 (L5 ((), (x1.2.1, ()))).bind fun x2 =>
 let x3 := (x2.2.1.1.toList == (⟨#[]⟩ : ByteArray).toList)
 bif x3 then (
 let x4 := (some (2 : Int))
 (Bu (x1.1, ((), ((x4, ()), ())))).bind fun x5 =>
 some (x5.1, ((0, ()), ((), ()))))
 else (
 let x6 := (x2.2.1.1.size : Int)
 let x7 := (decide (x6 > (8 : Int)))
 bif x7 then (
 let x8 := (some (2 : Int))
 (Bu (x1.1, ((), ((x8, ()), ())))).bind fun x9 =>
 some (x9.1, ((0, ()), ((), ()))))
 else (
 let x10 := (x2.2.1.1.size : Int)
 (T.1 (x1.1, ((), (x2.2.1, ((0, ()), ((x10, ()), ((0, ()), ())))))))))
def Km (d) := lim fun k => Fx (Dm k) d
theorem Ak1 : Ar4 Tryz.prog ET0 125 Nv Nz 1 [(0, 0, none)] Km :=
 Bgg (E := (((((E0.add 127 Ed).add 143 J7).add 148 Aon).add 149 Wf).kp [0])) (pi := Nv) (po := Nz) (Im (Ab (Ab (Ab (Ab A7 (Pi D5)) (Pi Jd)) (Ae Amq)) (Ae Tr))) (fn := Tryz.f125) Tryz.func125 (by kernel_rfl) (by kernel_rfl) [.tmp 2] [(0, none)] [(0, 0, none)] (by kernel_rfl) rfl rfl rfl rfl rfl [] (fun k => [(9, ⟨Ahh, (Dm k).1⟩)]) (fun _ => [])
 (.intro (fun _ => rfl) trivial) (fun k => (.intro (fun d => by kernel_rfl) trivial)) trivial (fun k => trivial) (fun k d => Fx (Dm k) d) (fun k d => by kernel_rfl)
def Al4 := Yh Nv Nz 1 [(0, 0, none)] Km
abbrev Pf : PSh := C3
abbrev Pq : PSh := ⟨[.var 194 [vS, vI, vE]], [kE, .mk false [.ref 0 0]]⟩
def Vw (T : Unit) (d : Y17) : Option (Y24) :=
 (Bh (d.1, ((), (((⟨#[32, 9]⟩ : ByteArray), ()), ())))).bind fun x1 =>
 (Bl ((), (((some (x1.1.1.1, (x1.1.1.2.1, x1.1.1.2.2.1))), ()), ()))).bind fun x2 =>
 some (x1.1, (x2.2.1, ((), ())))
def D8 := Vw ()
theorem Xy : Ar4 Tryz.prog ET0 123 Pf Pq 1 [(0, 0, none)] D8 :=
 Auj (E := (((E0.add 127 Ed).add 131 M1).kp [0])) (pi := Pf) (po := Pq) (Im (Ab (Ab A7 (Pi D5)) (Ae Mc))) (fn := Tryz.f123) Tryz.func123 (by kernel_rfl) (by kernel_rfl) [.tmp 2] [(0, none)] [(0, 0, none)] (by kernel_rfl) rfl rfl rfl rfl rfl [] fun d => by kernel_rfl
def Aac := Yh Pf Pq 1 [(0, 0, none)] D8
abbrev Gv : PSh := Bo
abbrev Gi : PSh := ⟨[], [k8, kB]⟩
def Ko (T : Unit) (d : Y18) : Option (Unit × ((Int × Unit) × ((Bool × Unit) × Unit))) :=
 (Ba ((), d.2)).bind fun x1 =>
 let x2 := (x1.2.1.1.toList == (⟨#[]⟩ : ByteArray).toList)
 bif x2 then (
 some ((), ((0, ()), ((false, ()), ()))))
 else (
 bif decide ((0 : Int) <= (0 : Int)) && decide ((0 : Int) < ((x1.2.1.1.size : Int) : Int)) then (
 let x3 := (bt x1.2.1.1 (0 : Int))
 some ((), ((x3, ()), ((true, ()), ()))))
 else none)
def Dk := Ko ()
theorem V7 : Dv Tryz.prog ET0 150 Gv Gi Dk :=
 fn0 (E := (E0.add 146 Dl)) (pi := Gv) (po := Gi) (Ab A7 (Ae Dc)) (fn := Tryz.f150) Tryz.func150 (by kernel_rfl) (by kernel_rfl) [.tmp 2, .tmp 3] (by kernel_rfl) rfl rfl rfl [] fun d => by kernel_rfl
def Wx := Ak Gv Gi Dk
abbrev An5 : PSh := ⟨[], [kI, kI]⟩
abbrev Ao6 : PSh := ⟨[], [kI, kE]⟩
def Avw (T : Unit) (d : Y4) : Option (Y5) :=
 (Uz ((), (d.2.1, ()))).bind fun x1 =>
 let x2 := (!x1.2.2.1.1.isNone)
 bif x2 then (
 some ((), ((0, ()), x1.2.2)))
 else (
 (Nw ((), ())).bind fun x3 =>
 let x4 := (A4 .i64 x3.2.1.1 x1.2.1.1)
 let x5 := (decide (d.2.2.1.1 < x4))
 bif x5 then (
 let x6 := (some (13 : Int))
 some ((), ((0, ()), ((x6, ()), ()))))
 else (
 (Rg ((), ())).bind fun x7 =>
 let x8 := (A4 .i64 x7.2.1.1 x1.2.1.1)
 let x9 := (decide (d.2.2.1.1 > x8))
 bif x9 then (
 let x10 := (some (13 : Int))
 some ((), ((0, ()), ((x10, ()), ()))))
 else (
 let x11 := (Eh .i64 d.2.2.1.1 x1.2.1.1)
 some ((), ((x11, ()), (((none : Option Int), ()), ()))))))
def Agk := Avw ()
theorem Bcw : Dv Tryz.prog ET0 152 An5 Ao6 Agk :=
 fn0 (E := (((E0.add 95 Ax3).add 105 Aks).add 106 Ao0)) (pi := An5) (po := Ao6) (Ab (Ab (Ab A7 (Ae Avg)) (Ae Ahi)) (Ae Ak4)) (fn := Tryz.f152) Tryz.func152 (by kernel_rfl) (by kernel_rfl) [.tmp 4, .tmp 5] (by kernel_rfl) rfl rfl rfl [] fun d => by kernel_rfl
def Bec := Ak An5 Ao6 Agk
abbrev Qy : PSh := ⟨[], [kI]⟩
abbrev Q4 : PSh := ⟨[], [kI, kE]⟩
def Xg (T : Unit) (d : Unit × ((Int × Unit) × Unit)) : Option (Y5) :=
 let x1 := (Int.tmod d.2.1.1 (86400 : Int))
 let x2 := (x1 != (0 : Int))
 bif x2 then (
 let x3 := (some (1 : Int))
 some ((), ((0, ()), ((x3, ()), ()))))
 else (
 (Agk ((), ((3, ()), ((0, ()), ())))).bind fun x4 =>
 let x5 := (Kc .i64 d.2.1.1 (86400 : Int))
 let x6 := (A4 .i64 x4.2.1.1 x5)
 some ((), ((x6, ()), x4.2.2)))
def Fs := Xg ()
theorem Apu : Dv Tryz.prog ET0 132 Qy Q4 Fs :=
 fn0 (E := (E0.add 152 Bec)) (pi := Qy) (po := Q4) (Ab A7 (Ae Bcw)) (fn := Tryz.f132) Tryz.func132 (by kernel_rfl) (by kernel_rfl) [.tmp 2, .tmp 3] (by kernel_rfl) rfl rfl rfl [] fun d => by kernel_rfl
def Arf := Ak Qy Q4 Fs
abbrev Eo : PSh := ⟨[.var 194 [vS, vI, vE]], [.mk false [.ref 0 0], kI, kI]⟩
abbrev Er : PSh := ⟨[.var 194 [vS, vI, vE]], [kI, .mk false [.ref 0 0]]⟩
def G3 (T : Unit) (d : ((ByteArray × (Int × ((Option Int) × Unit))) × Unit) × (Unit × ((Int × Unit) × ((Int × Unit) × Unit)))) : Option (Y25) :=
 (B3 ((), (((some (d.1.1.1, (d.1.1.2.1, d.1.1.2.2.1))), ()), ()))).bind fun x1 =>
 let x2 := (!x1.2.1.1)
 bif x2 then (
 some (d.1, ((0, ()), ((), ()))))
 else (
 (Ba ((), (((some (d.1.1.1, (d.1.1.2.1, d.1.1.2.2.1))), ()), ()))).bind fun x3 =>
 (M2 ((), (x3.2.1, d.2.2))).bind fun x4 =>
 let x5 := (!x4.2.2.2.1.1.isNone)
 bif x5 then (
 some (((d.1.1.1, (d.1.1.2.1, x4.2.2.2.1)), ()), ((0, ()), ((), ()))))
 else (
 (A9 (d.1, ((), (x4.2.2.1, ())))).bind fun x6 =>
 some (x6.1, (x4.2.1, ((), ())))))
def Ax := G3 ()
theorem Hz : Ar4 Tryz.prog ET0 122 Eo Er 1 [(0, 0, none)] Ax :=
 Auj (E := (((((E0.add 144 Gg).add 145 Awn).add 146 Dl).add 147 D3).kp [0])) (pi := Eo) (po := Er) (Im (Ab (Ab (Ab (Ab A7 (Ae F5)) (Ae As0)) (Ae Dc)) (Pi Ds))) (fn := Tryz.f122) Tryz.func122 (by kernel_rfl) (by kernel_rfl) [.tmp 6] [(0, none)] [(0, 0, none)] (by kernel_rfl) rfl rfl rfl rfl rfl [] fun d => by kernel_rfl
def Ik := Yh Eo Er 1 [(0, 0, none)] Ax
abbrev Fj : PSh := ⟨[.var 194 [vS, vI, vE]], [.mk false [.ref 0 0], k8]⟩
abbrev Fe : PSh := ⟨[.var 194 [vS, vI, vE]], [kB, .mk false [.ref 0 0]]⟩
def Iy (T : Unit) (d : Y23) : Option (((ByteArray × (Int × ((Option Int) × Unit))) × Unit) × ((Bool × Unit) × (Unit × Unit))) :=
 (Dk ((), (((some (d.1.1.1, (d.1.1.2.1, d.1.1.2.2.1))), ()), ()))).bind fun x1 =>
 let x2 := (!x1.2.2.1.1)
 bif x2 then (
 some (d.1, ((false, ()), ((), ()))))
 else (
 let x3 := (x1.2.1.1 != d.2.2.1.1)
 bif x3 then (
 some (d.1, ((false, ()), ((), ()))))
 else (
 (A9 (d.1, ((), ((1, ()), ())))).bind fun x4 =>
 some (x4.1, ((true, ()), ((), ())))))
def Ct := Iy ()
theorem Su : Ar4 Tryz.prog ET0 128 Fj Fe 1 [(0, 0, none)] Ct :=
 Auj (E := (((E0.add 147 D3).add 150 Wx).kp [0])) (pi := Fj) (po := Fe) (Im (Ab (Ab A7 (Pi Ds)) (Ae V7))) (fn := Tryz.f128) Tryz.func128 (by kernel_rfl) (by kernel_rfl) [.tmp 4] [(0, none)] [(0, 0, none)] (by kernel_rfl) rfl rfl rfl rfl rfl [] fun d => by kernel_rfl
def Te := Yh Fj Fe 1 [(0, 0, none)] Ct
abbrev Fc : PSh := Dr
abbrev Fh : PSh := C3
def I0 (T : Unit) (d : Y23) : Option (Y17) :=
 (B3 ((), (((some (d.1.1.1, (d.1.1.2.1, d.1.1.2.2.1))), ()), ()))).bind fun x1 =>
 let x2 := (!x1.2.1.1)
 bif x2 then (
 some (d.1, ((), ())))
 else (
 let x3 := (decide (d.2.2.1.1 < (0 : Int)))
 bif x3 then (
 let x4 := (some (1 : Int))
 some (((d.1.1.1, (d.1.1.2.1, (x4, ()))), ()), ((), ())))
 else (
 (Ca ((), (((some (d.1.1.1, (d.1.1.2.1, d.1.1.2.2.1))), ()), ()))).bind fun x5 =>
 let x6 := (decide (d.2.2.1.1 > x5.2.1.1))
 bif x6 then (
 let x7 := (some (4 : Int))
 some (((d.1.1.1, (d.1.1.2.1, (x7, ()))), ()), ((), ())))
 else (
 (A9 (d.1, ((), d.2.2))).bind fun x8 =>
 some (x8.1, ((), ())))))
def Cu := I0 ()
theorem Sn : Ar4 Tryz.prog ET0 129 Fc Fh 0 [(0, 0, none)] Cu :=
 Auj (E := ((((E0.add 130 Hb).add 144 Gg).add 147 D3).kp [0])) (pi := Fc) (po := Fh) (Im (Ab (Ab (Ab A7 (Ae Gq)) (Ae F5)) (Pi Ds))) (fn := Tryz.f129) Tryz.func129 (by kernel_rfl) (by kernel_rfl) [] [(0, none)] [(0, 0, none)] (by kernel_rfl) rfl rfl rfl rfl rfl [] fun d => by kernel_rfl
def Tg := Yh Fc Fh 0 [(0, 0, none)] Cu
abbrev Cv : PSh := ⟨[.var 76 [.osl 1, .v (.nptr (.int .i64)), .v (.nptr (.int .i64)), .v (.nptr (.pair (.int .u32) (.pair (.int .u32) (.pair (.int .u32) (.pair (.int .u32) (.int .u32))))))], .row 70 (.pair (.int .i64) (.int .i64))], [.mk false [.ref 0 0], kS]⟩
abbrev Dw : PSh := ⟨[.var 76 [.osl 1, .v (.nptr (.int .i64)), .v (.nptr (.int .i64)), .v (.nptr (.pair (.int .u32) (.pair (.int .u32) (.pair (.int .u32) (.pair (.int .u32) (.int .u32))))))], .row 70 (.pair (.int .i64) (.int .i64))], [kE, .mk false [.ref 0 0]]⟩
abbrev Iz : Type := Y27
abbrev Md : Type := (((Option Int) × ((Option Int) × ((Option (Int × (Int × (Int × (Int × Int))))) × Unit))) × ((List (Int × Int)) × ((ByteArray × (Int × ((Option Int) × Unit))) × ((Int × (Int × (Int × (Int × (Int × Unit))))) × Unit)))) × (Unit × (Unit × (Unit × ((Int × Unit) × Unit))))
abbrev Ig : Type := (((Md) -> Option (Iz)) × Unit)
abbrev Vv : PSh := ⟨[.var 76 [.osl 1, .v (.nptr (.int .i64)), .v (.nptr (.int .i64)), .v (.nptr (.pair (.int .u32) (.pair (.int .u32) (.pair (.int .u32) (.pair (.int .u32) (.int .u32))))))], .row 70 (.pair (.int .i64) (.int .i64)), .var 194 [vS, vI, vE], .var 36 [.v (.int .u32), .v (.int .u32), .v (.int .u32), .v (.int .u32), .v (.int .u32)]], [.mk false [.ref 0 0], .any, .any, .any, .any, .mk false [.ref 2 0], .mk false [.ref 3 0], .any, .any, .any, .any, kI] ++ M3 19⟩
def Bp (T : Ig) (d : Md) : Option (Iz) :=
 let x2 := (decide (d.2.2.2.2.1.1 < (5 : Int)))
 bif x2 then (
 (De ((d.1.2.2.1, ()), ((), ()))).bind fun x3 =>
 (Km (x3.1, ((), ()))).bind fun x4 =>
 bif decide ((0 : Int) <= d.2.2.2.2.1.1) && decide (d.2.2.2.2.1.1 < (5 : Int)) then (
 bif decide (d.2.2.2.2.1.1 = (0 : Int)) then (
 let x9 := (A4 .i64 d.2.2.2.2.1.1 1)
 (T.1 ((d.1.1, (d.1.2.1, (x4.1.1, ((x4.2.1.1, d.1.2.2.2.1.2), ())))), ((), ((), ((), ((x9, ()), ())))))))
 else (
 bif decide (d.2.2.2.2.1.1 = (1 : Int)) then (
 let x8 := (A4 .i64 d.2.2.2.2.1.1 1)
 (T.1 ((d.1.1, (d.1.2.1, (x4.1.1, ((d.1.2.2.2.1.1, (x4.2.1.1, d.1.2.2.2.1.2.2)), ())))), ((), ((), ((), ((x8, ()), ())))))))
 else (
 bif decide (d.2.2.2.2.1.1 = (2 : Int)) then (
 let x7 := (A4 .i64 d.2.2.2.2.1.1 1)
 (T.1 ((d.1.1, (d.1.2.1, (x4.1.1, ((d.1.2.2.2.1.1, (d.1.2.2.2.1.2.1, (x4.2.1.1, d.1.2.2.2.1.2.2.2))), ())))), ((), ((), ((), ((x7, ()), ())))))))
 else (
 bif decide (d.2.2.2.2.1.1 = (3 : Int)) then (
 let x6 := (A4 .i64 d.2.2.2.2.1.1 1)
 (T.1 ((d.1.1, (d.1.2.1, (x4.1.1, ((d.1.2.2.2.1.1, (d.1.2.2.2.1.2.1, (d.1.2.2.2.1.2.2.1, (x4.2.1.1, d.1.2.2.2.1.2.2.2.2)))), ())))), ((), ((), ((), ((x6, ()), ())))))))
 else (
 bif decide (d.2.2.2.2.1.1 = (4 : Int)) then (
 let x5 := (A4 .i64 d.2.2.2.2.1.1 1)
 (T.1 ((d.1.1, (d.1.2.1, (x4.1.1, ((d.1.2.2.2.1.1, (d.1.2.2.2.1.2.1, (d.1.2.2.2.1.2.2.1, (d.1.2.2.2.1.2.2.2.1, x4.2.1)))), ())))), ((), ((), ((), ((x5, ()), ())))))))
 else (
 none))))))
 else none)
 else (
 (D8 ((d.1.2.2.1, ()), ((), ()))).bind fun x10 =>
 let x11 := (!x10.2.1.1.isNone)
 bif x11 then (
 some ((d.1.1, (d.1.2.1, ())), (x10.2.1, ((), ()))))
 else (
 let x12 := (!d.1.1.2.2.1.isNone)
 bif x12 then (
 let x13 := (some (2 : Int))
 some ((d.1.1, (d.1.2.1, ())), ((x13, ()), ((), ()))))
 else (
 some (((d.1.1.1, (d.1.1.2.1, ((some (d.1.2.2.2.1.1, (d.1.2.2.2.1.2.1, (d.1.2.2.2.1.2.2.1, (d.1.2.2.2.1.2.2.2.1, d.1.2.2.2.1.2.2.2.2.1))))), ()))), (d.1.2.1, ())), (((none : Option Int), ()), ((), ()))))))
def Aw : Nat -> Ig
 | 0 => (fun _ => none, ())
 | k + 1 => (Bp (Aw k), ())
theorem C8 (k : Nat) : Aw (k + 1) = (Bp (Aw k), ()) := rfl
def Hd (T : Ig) (d : Y26) : Option (Iz) :=
 (Df ((), d.2.2)).bind fun x1 =>
 (T.1 ((d.1.1, (d.1.2.1, (x1.1.1, (((0 : Int), ((0 : Int), ((0 : Int), ((0 : Int), (0, ()))))), ())))), ((), ((), ((), ((0, ()), ()))))))
def Fl (d) := lim fun k => Hd (Aw k) d
theorem Yk : Ar4 Tryz.prog ET0 89 Cv Dw 1 [(0, 0, none)] Fl :=
 Bgg (E := ((((((E0.add 120 Q0).add 121 Qx).add 123 Aac).add 125 Al4).add 126 (A8c E0 (Sw Tryz.f126) 2 Tryz.f126.ntmps 16 [.tmp 4])).kp [0])) (pi := Cv) (po := Dw) (Im (Ab (Ab (Ab (Ab (Ab A7 (Ae Qf)) (Pi P9)) (Pi Xy)) (Pi Ak1)) (Bdt A7 (fn := Tryz.f126) Tryz.func126 (by kernel_rfl) (by kernel_rfl) (by kernel_rfl)))) (fn := Tryz.f89) Tryz.func89 (by kernel_rfl) (by kernel_rfl) [.tmp 4] [(0, none)] [(0, 0, none)] (by kernel_rfl) rfl rfl rfl rfl rfl [] (fun k => [(5, ⟨Vv, (Aw k).1⟩)]) (fun _ => [])
 (.intro (fun _ => rfl) trivial) (fun k => (.intro (fun d => by kernel_rfl) trivial)) trivial (fun k => trivial) (fun k d => Hd (Aw k) d) (fun k d => by kernel_rfl)
def Aaa := Yh Cv Dw 1 [(0, 0, none)] Fl
abbrev H3 : PSh := Cv
abbrev If : PSh := Dw
def Ma (T : Unit) (d : Y26) : Option (Y27) :=
 (Df ((), d.2.2)).bind fun x1 =>
 (Bh (x1.1, ((), (((⟨#[32, 9]⟩ : ByteArray), ()), ())))).bind fun x2 =>
 (Ax (x2.1, ((), ((1, ()), ((13, ()), ()))))).bind fun x3 =>
 (De (x3.1, ((), ()))).bind fun x4 =>
 (Ax (x4.1, ((), ((1, ()), ((4, ()), ()))))).bind fun x5 =>
 (Bh (x5.1, ((), (((⟨#[32, 9]⟩ : ByteArray), ()), ())))).bind fun x6 =>
 let x7 := (!(x6.2.1.1.toList == (⟨#[]⟩ : ByteArray).toList))
 bif x7 then (
 (Ct (x6.1, ((), ((35, ()), ())))).bind fun x8 =>
 bif x8.2.1.1 then (
 (Ca ((), (((some (x8.1.1.1, (x8.1.1.2.1, x8.1.1.2.2.1))), ()), ()))).bind fun x9 =>
 (Cu (x8.1, ((), x9.2))).bind fun x10 =>
 (Bl ((), (((some (x10.1.1.1, (x10.1.1.2.1, x10.1.1.2.2.1))), ()), ()))).bind fun x11 =>
 let x12 := (!x11.2.1.1.isNone)
 bif x12 then (
 some (d.1, (x11.2.1, ((), ()))))
 else (
 (Fs ((), (x3.2.1, ()))).bind fun x13 =>
 let x14 := (!x13.2.2.1.1.isNone)
 bif x14 then (
 some (d.1, (x13.2.2.1, ((), ()))))
 else (
 let x15 := ([(x13.2.1.1, x5.2.1.1)] : List (Int × Int))
 bif decide (((d.1.2.1.length + x15.length) * 16 : Nat) <= 140737488355328) && decide (d.1.2.1.length + x15.length <= 9223372036854775807) then (
 let x16 := (d.1.2.1 ++ x15)
 some ((d.1.1, (x16, ())), (((none : Option Int), ()), ((), ()))))
 else none)))
 else (
 (Bl ((), (((some (x8.1.1.1, (x8.1.1.2.1, x8.1.1.2.2.1))), ()), ()))).bind fun x17 =>
 let x18 := (!x17.2.1.1.isNone)
 bif x18 then (
 some (d.1, (x17.2.1, ((), ()))))
 else (
 (Fs ((), (x3.2.1, ()))).bind fun x19 =>
 let x20 := (!x19.2.2.1.1.isNone)
 bif x20 then (
 some (d.1, (x19.2.2.1, ((), ()))))
 else (
 let x21 := ([(x19.2.1.1, x5.2.1.1)] : List (Int × Int))
 bif decide (((d.1.2.1.length + x21.length) * 16 : Nat) <= 140737488355328) && decide (d.1.2.1.length + x21.length <= 9223372036854775807) then (
 let x22 := (d.1.2.1 ++ x21)
 some ((d.1.1, (x22, ())), (((none : Option Int), ()), ((), ()))))
 else none))))
 else (
 (Bl ((), (((some (x6.1.1.1, (x6.1.1.2.1, x6.1.1.2.2.1))), ()), ()))).bind fun x23 =>
 let x24 := (!x23.2.1.1.isNone)
 bif x24 then (
 some (d.1, (x23.2.1, ((), ()))))
 else (
 (Fs ((), (x3.2.1, ()))).bind fun x25 =>
 let x26 := (!x25.2.2.1.1.isNone)
 bif x26 then (
 some (d.1, (x25.2.2.1, ((), ()))))
 else (
 let x27 := ([(x25.2.1.1, x5.2.1.1)] : List (Int × Int))
 bif decide (((d.1.2.1.length + x27.length) * 16 : Nat) <= 140737488355328) && decide (d.1.2.1.length + x27.length <= 9223372036854775807) then (
 let x28 := (d.1.2.1 ++ x27)
 some ((d.1.1, (x28, ())), (((none : Option Int), ()), ((), ()))))
 else none)))
def Ea := Ma ()
theorem Zo : Ar4 Tryz.prog ET0 90 H3 If 1 [(0, 0, none)] Ea :=
 Auj (E := ((((((((((E0.add 120 Q0).add 121 Qx).add 122 Ik).add 127 Ed).add 128 Te).add 129 Tg).add 130 Hb).add 131 M1).add 132 Arf).kp [0])) (pi := H3) (po := If) (Im (Ab (Ab (Ab (Ab (Ab (Ab (Ab (Ab (Ab A7 (Ae Qf)) (Pi P9)) (Pi Hz)) (Pi D5)) (Pi Su)) (Pi Sn)) (Ae Gq)) (Ae Mc)) (Ae Apu))) (fn := Tryz.f90) Tryz.func90 (by kernel_rfl) (by kernel_rfl) [.tmp 4] [(0, none)] [(0, 0, none)] (by kernel_rfl) rfl rfl rfl rfl rfl [] fun d => by kernel_rfl
def Aaq := Yh H3 If 1 [(0, 0, none)] Ea
abbrev G8 : PSh := Cv
abbrev G7 : PSh := Dw
def K8 (T : Unit) (d : Y26) : Option (Y27) :=
 (R8 ((), (d.2.2.1, (((⟨#[32, 9]⟩ : ByteArray), ()), ())))).bind fun x1 =>
 let x2 := (x1.2.1.1.toList == (⟨#[]⟩ : ByteArray).toList)
 bif x2 then (
 some (d.1, (((none : Option Int), ()), ((), ()))))
 else (
 (D7 ((), (d.2.2.1, (((⟨#[35, 36]⟩ : ByteArray), ()), ())))).bind fun x3 =>
 bif x3.2.1.1 then (
 bif decide ((2 : Int) <= (d.2.2.1.1.size : Int)) && decide ((d.2.2.1.1.size : Int) <= (d.2.2.1.1.size : Int)) then (
 let x4 := (d.2.2.1.1.extract (Int.toNat (2 : Int)) (Int.toNat (d.2.2.1.1.size : Int)))
 (Df ((), ((x4, ()), ()))).bind fun x5 =>
 (De (x5.1, ((), ()))).bind fun x6 =>
 (Ax (x6.1, ((), ((1, ()), ((13, ()), ()))))).bind fun x7 =>
 (D8 (x7.1, ((), ()))).bind fun x8 =>
 let x9 := (!x8.2.1.1.isNone)
 bif x9 then (
 some (d.1, (x8.2.1, ((), ()))))
 else (
 let x10 := (!d.1.1.1.isNone)
 bif x10 then (
 let x11 := (some (2 : Int))
 some (d.1, ((x11, ()), ((), ()))))
 else (
 some ((((some x7.2.1.1), d.1.1.2), d.1.2), (((none : Option Int), ()), ((), ()))))))
 else none)
 else (
 (D7 ((), (d.2.2.1, (((⟨#[35, 64]⟩ : ByteArray), ()), ())))).bind fun x12 =>
 bif x12.2.1.1 then (
 bif decide ((2 : Int) <= (d.2.2.1.1.size : Int)) && decide ((d.2.2.1.1.size : Int) <= (d.2.2.1.1.size : Int)) then (
 let x13 := (d.2.2.1.1.extract (Int.toNat (2 : Int)) (Int.toNat (d.2.2.1.1.size : Int)))
 (Df ((), ((x13, ()), ()))).bind fun x14 =>
 (De (x14.1, ((), ()))).bind fun x15 =>
 (Ax (x15.1, ((), ((1, ()), ((13, ()), ()))))).bind fun x16 =>
 (D8 (x16.1, ((), ()))).bind fun x17 =>
 let x18 := (!x17.2.1.1.isNone)
 bif x18 then (
 some (d.1, (x17.2.1, ((), ()))))
 else (
 let x19 := (!d.1.1.2.1.isNone)
 bif x19 then (
 let x20 := (some (2 : Int))
 some (d.1, ((x20, ()), ((), ()))))
 else (
 some (((d.1.1.1, ((some x16.2.1.1), d.1.1.2.2)), d.1.2), (((none : Option Int), ()), ((), ()))))))
 else none)
 else (
 (D7 ((), (d.2.2.1, (((⟨#[35, 104]⟩ : ByteArray), ()), ())))).bind fun x21 =>
 bif x21.2.1.1 then (
 bif decide ((2 : Int) <= (d.2.2.1.1.size : Int)) && decide ((d.2.2.1.1.size : Int) <= (d.2.2.1.1.size : Int)) then (
 let x22 := (d.2.2.1.1.extract (Int.toNat (2 : Int)) (Int.toNat (d.2.2.1.1.size : Int)))
 (Fl (d.1, ((), ((x22, ()), ())))).bind fun x23 =>
 some (x23.1, (x23.2.1, ((), ()))))
 else none)
 else (
 bif decide ((0 : Int) <= (0 : Int)) && decide ((0 : Int) < ((d.2.2.1.1.size : Int) : Int)) then (
 let x24 := (bt d.2.2.1.1 (0 : Int))
 let x25 := (x24 == (35 : Int))
 bif x25 then (
 some (d.1, (((none : Option Int), ()), ((), ()))))
 else (
 (Ea (d.1, ((), d.2.2))).bind fun x26 =>
 some (x26.1, (x26.2.1, ((), ())))))
 else none))))
def Du := K8 ()
theorem Wu : Ar4 Tryz.prog ET0 61 G8 G7 1 [(0, 0, none)] Du :=
 Auj (E := ((((((E0.add 86 Awq).add 87 Akm).add 89 Aaa).add 90 Aaq).add 88 (A8c (((((E0.add 120 Q0).add 121 Qx).add 122 Ik).add 123 Aac).add 124 (A8c E0 (Sw Tryz.f124) 2 Tryz.f124.ntmps 16 [.tmp 4])) (Sw Tryz.f88) 2 Tryz.f88.ntmps 16 [.tmp 4])).kp [0])) (pi := G8) (po := G7) (Im (Ab (Ab (Ab (Ab (Ab A7 (Ae At8)) (Ae Ail)) (Pi Yk)) (Pi Zo)) (Bdt (Ab (Ab (Ab (Ab (Ab A7 (Ae Qf)) (Pi P9)) (Pi Hz)) (Pi Xy)) (Bdt A7 (fn := Tryz.f124) Tryz.func124 (by kernel_rfl) (by kernel_rfl) (by kernel_rfl))) (fn := Tryz.f88) Tryz.func88 (by kernel_rfl) (by kernel_rfl) (by kernel_rfl)))) (fn := Tryz.f61) Tryz.func61 (by kernel_rfl) (by kernel_rfl) [.tmp 4] [(0, none)] [(0, 0, none)] (by kernel_rfl) rfl rfl rfl rfl rfl [] fun d => by kernel_rfl
def Zf := Yh G8 G7 1 [(0, 0, none)] Du
abbrev Ha : PSh := Cv
abbrev Hj : PSh := ⟨[.var 76 [.osl 1, .v (.nptr (.int .i64)), .v (.nptr (.int .i64)), .v (.nptr (.pair (.int .u32) (.pair (.int .u32) (.pair (.int .u32) (.pair (.int .u32) (.int .u32))))))], .row 70 (.pair (.int .i64) (.int .i64))], [kI, kE, .mk false [.ref 0 0]]⟩
abbrev H5 : Type := (((Option Int) × ((Option Int) × ((Option (Int × (Int × (Int × (Int × Int))))) × Unit))) × ((List (Int × Int)) × Unit)) × ((Int × Unit) × (((Option Int) × Unit) × (Unit × Unit)))
abbrev Kz : Type := (((Option Int) × ((Option Int) × ((Option (Int × (Int × (Int × (Int × Int))))) × Unit))) × ((List (Int × Int)) × Unit)) × (Unit × (((List ByteArray) × Unit) × ((Int × Unit) × ((Int × Unit) × Unit))))
abbrev Hi : Type := (((Kz) -> Option (H5)) × Unit)
abbrev Ua : PSh := ⟨[.var 76 [.osl 1, .v (.nptr (.int .i64)), .v (.nptr (.int .i64)), .v (.nptr (.pair (.int .u32) (.pair (.int .u32) (.pair (.int .u32) (.pair (.int .u32) (.int .u32))))))], .row 70 (.pair (.int .i64) (.int .i64))], [.mk false [.ref 0 0], .any, .any, .any, .any, .any, .any, .any, .any, .any, .any, .any, .any, .any, .any, .mk false [.v (.sl .str)], kI, kI] ++ M3 13⟩
def C4 (T : Hi) (d : Kz) : Option (H5) :=
 let x7 := (decide (d.2.2.2.2.1.1 < d.2.2.2.1.1))
 bif x7 then (
 bif decide ((0 : Int) <= d.2.2.2.2.1.1) && decide (d.2.2.2.2.1.1 < (d.2.2.1.1.length : Int)) then (
 (Du (d.1, ((), (((gd .str d.2.2.1.1 d.2.2.2.2.1.1), ()), ())))).bind fun x8 =>
 let x9 := (!x8.2.1.1.isNone)
 bif x9 then (
 let x10 := (A4 .i64 d.2.2.2.2.1.1 1)
 some (x8.1, ((x10, ()), (x8.2.1, ((), ())))))
 else (
 let x11 := (A4 .i64 d.2.2.2.2.1.1 1)
 (T.1 (x8.1, ((), (d.2.2.1, (d.2.2.2.1, ((x11, ()), ()))))))))
 else none)
 else (
 some (d.1, ((0, ()), (((none : Option Int), ()), ((), ())))))
def B2 : Nat -> Hi
 | 0 => (fun _ => none, ())
 | k + 1 => (C4 (B2 k), ())
theorem H2 (k : Nat) : B2 (k + 1) = (C4 (B2 k), ()) := rfl
def El (T : Hi) (d : Y26) : Option (H5) :=
 let x1 := (d.2.2.1.1.size : Int)
 let x2 := (decide (x1 > (65535 : Int)))
 bif x2 then (
 let x3 := (some (3 : Int))
 some (d.1, ((0, ()), ((x3, ()), ((), ())))))
 else (
 (Fy ((), (d.2.2.1, (((⟨#[10]⟩ : ByteArray), ()), ())))).bind fun x4 =>
 (Ph ((), (x4.2.1, (((⟨#[10]⟩ : ByteArray), ()), ())))).bind fun x5 =>
 let x6 := (x5.2.1.1.length : Int)
 (T.1 (d.1, ((), (x5.2.1, ((x6, ()), ((0, ()), ())))))))
def Cw (d) := lim fun k => El (B2 k) d
theorem Me : Ar4 Tryz.prog ET0 29 Ha Hj 2 [(0, 0, none)] Cw :=
 Bgg (E := ((((E0.add 59 Atd).add 60 Aif).add 61 Zf).kp [0])) (pi := Ha) (po := Hj) (Im (Ab (Ab (Ab A7 (Ae Ar2)) (Ae Ag6)) (Pi Wu))) (fn := Tryz.f29) Tryz.func29 (by kernel_rfl) (by kernel_rfl) [.tmp 4, .tmp 5] [(0, none)] [(0, 0, none)] (by kernel_rfl) rfl rfl rfl rfl rfl [] (fun k => [(6, ⟨Ua, (B2 k).1⟩)]) (fun _ => [])
 (.intro (fun _ => rfl) trivial) (fun k => (.intro (fun d => by kernel_rfl) trivial)) trivial (fun k => trivial) (fun k d => El (B2 k) d) (fun k d => by kernel_rfl)
def Mt := Yh Ha Hj 2 [(0, 0, none)] Cw
abbrev Q6 : PSh := ⟨[], [kS]⟩
abbrev Q5 : PSh := Acc
def Qj (T : Unit) (d : Y16) : Option (Y14) :=
 (Cw ((((none : Option Int), ((none : Option Int), ((none : Option (Int × (Int × (Int × (Int × Int))))), ()))), (([] : List (Int × Int)), ())), ((), d.2))).bind fun x1 =>
 let x2 := (!x1.2.2.1.1.isNone)
 bif x2 then (
 some ((), (((none : Option ((List (Int × Int)) × (Int × Int))), ()), (x1.2.2.1, ()))))
 else (
 bif x1.1.1.1.isNone then (
 let x3 := (some (2 : Int))
 some ((), (((none : Option ((List (Int × Int)) × (Int × Int))), ()), ((x3, ()), ()))))
 else (
 bif x1.1.1.2.1.isNone then (
 let x4 := (some (2 : Int))
 some ((), (((none : Option ((List (Int × Int)) × (Int × Int))), ()), ((x4, ()), ()))))
 else (
 x1.1.1.1.bind fun x5 =>
 x1.1.1.2.1.bind fun x6 =>
 (Ut ((), (x1.1.2, ((x5, ()), ((x6, ()), ()))))).bind fun x7 =>
 let x8 := (!x7.2.2.1.1.isNone)
 bif x8 then (
 some ((), (((none : Option ((List (Int × Int)) × (Int × Int))), ()), x7.2.2)))
 else (
 (I7 ((), (x7.2.1, ()))).bind fun x9 =>
 let x10 := (!x9.2.2.1.1.isNone)
 bif x10 then (
 some ((), (((none : Option ((List (Int × Int)) × (Int × Int))), ()), x9.2.2)))
 else (
 let x11 := (!x1.1.1.2.2.1.isNone)
 bif x11 then (
 x1.1.1.2.2.1.bind fun x12 =>
 (K1 ((), ((x12.1, (x12.2.1, (x12.2.2.1, (x12.2.2.2.1, (x12.2.2.2.2, ()))))), ()))).bind fun x13 =>
 let x14 := (!((x13.2.1.1 == x9.2.1.1) && ((x13.2.1.2.1 == x9.2.1.2.1) && ((x13.2.1.2.2.1 == x9.2.1.2.2.1) && ((x13.2.1.2.2.2.1 == x9.2.1.2.2.2.1) && ((x13.2.1.2.2.2.2.1 == x9.2.1.2.2.2.2.1) && ((x13.2.1.2.2.2.2.2.1 == x9.2.1.2.2.2.2.2.1) && ((x13.2.1.2.2.2.2.2.2.1 == x9.2.1.2.2.2.2.2.2.1) && ((x13.2.1.2.2.2.2.2.2.2.1 == x9.2.1.2.2.2.2.2.2.2.1) && ((x13.2.1.2.2.2.2.2.2.2.2.1 == x9.2.1.2.2.2.2.2.2.2.2.1) && ((x13.2.1.2.2.2.2.2.2.2.2.2.1 == x9.2.1.2.2.2.2.2.2.2.2.2.1) && ((x13.2.1.2.2.2.2.2.2.2.2.2.2.1 == x9.2.1.2.2.2.2.2.2.2.2.2.2.1) && ((x13.2.1.2.2.2.2.2.2.2.2.2.2.2.1 == x9.2.1.2.2.2.2.2.2.2.2.2.2.2.1) && ((x13.2.1.2.2.2.2.2.2.2.2.2.2.2.2.1 == x9.2.1.2.2.2.2.2.2.2.2.2.2.2.2.1) && ((x13.2.1.2.2.2.2.2.2.2.2.2.2.2.2.2.1 == x9.2.1.2.2.2.2.2.2.2.2.2.2.2.2.2.1) && ((x13.2.1.2.2.2.2.2.2.2.2.2.2.2.2.2.2.1 == x9.2.1.2.2.2.2.2.2.2.2.2.2.2.2.2.2.1) && ((x13.2.1.2.2.2.2.2.2.2.2.2.2.2.2.2.2.2.1 == x9.2.1.2.2.2.2.2.2.2.2.2.2.2.2.2.2.2.1) && ((x13.2.1.2.2.2.2.2.2.2.2.2.2.2.2.2.2.2.2.1 == x9.2.1.2.2.2.2.2.2.2.2.2.2.2.2.2.2.2.2.1) && ((x13.2.1.2.2.2.2.2.2.2.2.2.2.2.2.2.2.2.2.2.1 == x9.2.1.2.2.2.2.2.2.2.2.2.2.2.2.2.2.2.2.2.1) && ((x13.2.1.2.2.2.2.2.2.2.2.2.2.2.2.2.2.2.2.2.2.1 == x9.2.1.2.2.2.2.2.2.2.2.2.2.2.2.2.2.2.2.2.2.1) && ((x13.2.1.2.2.2.2.2.2.2.2.2.2.2.2.2.2.2.2.2.2.2.1 == x9.2.1.2.2.2.2.2.2.2.2.2.2.2.2.2.2.2.2.2.2.2.1) && true)))))))))))))))))))))
 bif x14 then (
 let x15 := (some (7 : Int))
 some ((), (((none : Option ((List (Int × Int)) × (Int × Int))), ()), ((x15, ()), ()))))
 else (
 some ((), (x7.2.1, (((none : Option Int), ()), ())))))
 else (
 some ((), (x7.2.1, (((none : Option Int), ()), ())))))))))
def Hp := Qj ()
theorem Aal : Dv Tryz.prog ET0 8 Q6 Q5 Hp :=
 fn0 (E := (((((E0.add 18 An3).add 26 Bb9).add 29 Mt).add 30 Aui).fr [(1000007, [1000004, 1000018, 1000022])])) (pi := Q6) (po := Q5) (Wz (Ab (Ab (Ab (Ab A7 (Ae Ano)) (Ae A7c)) (Pi Me)) (Ae Aql))) (fn := Tryz.f8) Tryz.func8 (by kernel_rfl) (by kernel_rfl) [.tmp 2, .tmp 3] (by kernel_rfl) rfl rfl rfl [] fun d => by kernel_rfl
def Ad2 := Ak Q6 Q5 Hp
abbrev Rn : PSh := Dq
abbrev Q1 : PSh := ⟨[], [kI]⟩
def Al5 (T : Unit) (d : Y2) : Option (Unit × ((Int × Unit) × Unit)) :=
 (Ix ((), d.2)).bind fun x1 =>
 let x2 := (x1.2.1.1.length : Int)
 some ((), ((x2, ()), ()))
def S4 := Al5 ()
theorem Aoc : Dv Tryz.prog ET0 58 Rn Q1 S4 :=
 fn0 (E := (E0.add 68 Aai)) (pi := Rn) (po := Q1) (Ab A7 (Ae Xc)) (fn := Tryz.f58) Tryz.func58 (by kernel_rfl) (by kernel_rfl) [.tmp 2] (by kernel_rfl) rfl rfl rfl [] fun d => by kernel_rfl
def Arl := Ak Rn Q1 S4
abbrev Rj : PSh := ⟨[], [.mk false [.v (.nptr (.pair (.sl (.pair (.int .i64) (.int .i64))) (.pair (.int .i64) (.int .i64))))], kI]⟩
abbrev Rb : PSh := ⟨[], [.mk true [vI, vI], kB]⟩
def Al1 (T : Unit) (d : Unit × (((Option ((List (Int × Int)) × (Int × Int))) × Unit) × ((Int × Unit) × Unit))) : Option (Unit × ((Int × (Int × Unit)) × ((Bool × Unit) × Unit))) :=
 let x1 := (decide (d.2.2.1.1 < (0 : Int)))
 bif x1 then (
 some ((), (((0 : Int), (0, ())), ((false, ()), ()))))
 else (
 (S4 ((), (d.2.1, ()))).bind fun x2 =>
 let x3 := (decide (d.2.2.1.1 >= x2.2.1.1))
 bif x3 then (
 some ((), (((0 : Int), (0, ())), ((false, ()), ()))))
 else (
 d.2.1.1.bind fun x4 =>
 bif decide ((0 : Int) <= d.2.2.1.1) && decide (d.2.2.1.1 < (x4.1.length : Int)) then (
 some ((), (((Ad x4.1 d.2.2.1.1).1, ((Ad x4.1 d.2.2.1.1).2, ())), ((true, ()), ()))))
 else none))
def Nf := Al1 ()
theorem Apk : Dv Tryz.prog ET0 28 Rj Rb Nf :=
 fn0 (E := (E0.add 58 Arl)) (pi := Rj) (po := Rb) (Ab A7 (Ae Aoc)) (fn := Tryz.f28) Tryz.func28 (by kernel_rfl) (by kernel_rfl) [.cell 4 70, .tmp 5] (by kernel_rfl) rfl rfl rfl [] fun d => by kernel_rfl
def Arx := Ak Rj Rb Nf
abbrev Z2 : PSh := ⟨[], []⟩
abbrev Z4 : PSh := ⟨[], [kB]⟩
def Ae7 (T : Unit) (d : Unit × Unit) : Option (Unit × ((Bool × Unit) × Unit)) :=
 (Hp ((), (((⟨#[35, 36, 32, 53, 10, 35, 64, 32, 57, 10, 50, 50, 55, 50, 48, 54, 48, 56, 48, 48, 9, 49, 48, 10]⟩ : ByteArray), ()), ()))).bind fun x1 =>
 let x2 := (!x1.2.2.1.1.isNone)
 bif x2 then (
 some ((), ((false, ()), ())))
 else (
 bif x1.2.1.1.isNone then (
 some ((), ((false, ()), ())))
 else (
 (Nf ((), (x1.2.1, ((0, ()), ())))).bind fun x3 =>
 bif x3.2.2.1.1 then (
 let x4 := (x3.2.1.1 == (730 : Int))
 bif x4 then (
 let x5 := (x3.2.1.2.1 == (10 : Int))
 some ((), ((x5, ()), ())))
 else (
 some ((), ((false, ()), ()))))
 else (
 some ((), ((false, ()), ())))))
def Pg := Ae7 ()
theorem Aw8 : Dv Tryz.prog ET0 7 Z2 Z4 Pg :=
 fn0 (E := ((E0.add 8 Ad2).add 28 Arx)) (pi := Z2) (po := Z4) (Ab (Ab A7 (Ae Aal)) (Ae Apk)) (fn := Tryz.f7) Tryz.func7 (by kernel_rfl) (by kernel_rfl) [.tmp 0] (by kernel_rfl) rfl rfl rfl [] fun d => by kernel_rfl
def A1b := Ak Z2 Z4 Pg
abbrev Zn : PSh := ⟨[], [kS]⟩
abbrev R3 : PSh := ⟨[.row 9 .str], [.mk false [.osl 0]]⟩
abbrev T8 : Type := ((List ByteArray) × Unit) × (Unit × Unit)
abbrev Agi : Type := ((List ByteArray) × Unit) × ((ByteArray × Unit) × (Unit × ((Int × Unit) × ((Int × Unit) × Unit))))
abbrev Z1 : Type := (((Agi) -> Option (T8)) × Unit)
abbrev Arm : PSh := ⟨[.row 9 .str], [kS, .any, .any, .mk false [.osl 0], kI, kI] ++ M3 31⟩
def Jz (T : Z1) (d : Agi) : Option (T8) :=
 let x2 := (d.2.1.1.size : Int)
 let x3 := (decide (d.2.2.2.2.1.1 < x2))
 bif x3 then (
 bif decide ((0 : Int) <= d.2.2.2.2.1.1) && decide (d.2.2.2.2.1.1 < ((d.2.1.1.size : Int) : Int)) then (
 let x4 := (bt d.2.1.1 d.2.2.2.2.1.1)
 let x5 := (x4 == (10 : Int))
 bif x5 then (
 bif decide ((0 : Int) <= d.2.2.2.1.1) && decide (d.2.2.2.1.1 <= d.2.2.2.2.1.1) && decide (d.2.2.2.2.1.1 <= (d.2.1.1.size : Int)) then (
 let x6 := (d.2.1.1.extract (Int.toNat d.2.2.2.1.1) (Int.toNat d.2.2.2.2.1.1))
 let x7 := ([x6] : List ByteArray)
 bif decide (((d.1.1.length + x7.length) * 16 : Nat) <= 140737488355328) && decide (d.1.1.length + x7.length <= 9223372036854775807) then (
 let x8 := (d.1.1 ++ x7)
 let x9 := (A4 .i64 d.2.2.2.2.1.1 1)
 let x10 := (A4 .i64 d.2.2.2.2.1.1 1)
 (T.1 ((x8, ()), (d.2.1, ((), ((x9, ()), ((x10, ()), ())))))))
 else none)
 else none)
 else (
 let x11 := (A4 .i64 d.2.2.2.2.1.1 1)
 (T.1 (d.1, (d.2.1, ((), (d.2.2.2.1, ((x11, ()), ()))))))))
 else none)
 else (
 let x12 := (d.2.1.1.size : Int)
 let x13 := (decide (d.2.2.2.1.1 < x12))
 bif x13 then (
 bif decide ((0 : Int) <= d.2.2.2.1.1) && decide (d.2.2.2.1.1 <= (d.2.1.1.size : Int)) && decide ((d.2.1.1.size : Int) <= (d.2.1.1.size : Int)) then (
 let x14 := (d.2.1.1.extract (Int.toNat d.2.2.2.1.1) (Int.toNat (d.2.1.1.size : Int)))
 let x15 := ([x14] : List ByteArray)
 bif decide (((d.1.1.length + x15.length) * 16 : Nat) <= 140737488355328) && decide (d.1.1.length + x15.length <= 9223372036854775807) then (
 let x16 := (d.1.1 ++ x15)
 some ((x16, ()), ((), ())))
 else none)
 else none)
 else (
 some (d.1, ((), ()))))
def Gl : Nat -> Z1
 | 0 => (fun _ => none, ())
 | k + 1 => (Jz (Gl k), ())
theorem Abt (k : Nat) : Gl (k + 1) = (Jz (Gl k), ()) := rfl
def Vj (T : Z1) (d : Y16) : Option (T8) :=
 let x1 := ([] : List ByteArray)
 (T.1 ((x1, ()), (d.2.1, ((), ((0, ()), ((0, ()), ()))))))
def Us (d) := lim fun k => Vj (Gl k) d
theorem Aw5 : Dv Tryz.prog ET0 14 Zn R3 Us :=
 fnL (E := E0) (pi := Zn) (po := R3) A7 (fn := Tryz.f14) Tryz.func14 (by kernel_rfl) (by kernel_rfl) [.tmp 2] (by kernel_rfl) rfl rfl rfl [] (fun k => [(5, ⟨Arm, (Gl k).1⟩)]) (fun _ => [])
 (.intro (fun _ => rfl) trivial) (fun k => (.intro (fun d => by kernel_rfl) trivial)) trivial (fun k => trivial) (fun k d => Vj (Gl k) d) (fun k d => by kernel_rfl)
def A03 := Ak Zn R3 Us
abbrev Acn : PSh := ⟨[], [kI]⟩
abbrev Abg : PSh := ⟨[], [kB]⟩
def Ai4 (T : Unit) (d : Unit × ((Int × Unit) × Unit)) : Option (Unit × ((Bool × Unit) × Unit)) :=
 let x1 := (Int.tmod d.2.1.1 (400 : Int))
 let x2 := (x1 == (0 : Int))
 bif x2 then (
 some ((), ((true, ()), ())))
 else (
 let x3 := (Int.tmod d.2.1.1 (4 : Int))
 let x4 := (x3 == (0 : Int))
 bif x4 then (
 let x5 := (Int.tmod d.2.1.1 (100 : Int))
 let x6 := (x5 != (0 : Int))
 some ((), ((x6, ()), ())))
 else (
 some ((), ((false, ()), ()))))
def N9 := Ai4 ()
theorem Amk : Dv Tryz.prog ET0 102 Acn Abg N9 :=
 fn0 (E := E0) (pi := Acn) (po := Abg) A7 (fn := Tryz.f102) Tryz.func102 (by kernel_rfl) (by kernel_rfl) [.tmp 2] (by kernel_rfl) rfl rfl rfl [] fun d => by kernel_rfl
def Aqp := Ak Acn Abg N9
abbrev Aco : PSh := ⟨[], [kI]⟩
abbrev Aa5 : PSh := ⟨[], [kI]⟩
def Aja (T : Unit) (d : Unit × ((Int × Unit) × Unit)) : Option (Unit × ((Int × Unit) × Unit)) :=
 (N9 ((), d.2)).bind fun x1 =>
 bif x1.2.1.1 then (
 some ((), ((366, ()), ())))
 else (
 some ((), ((365, ()), ())))
def Lh := Aja ()
theorem Amo : Dv Tryz.prog ET0 77 Aco Aa5 Lh :=
 fn0 (E := (E0.add 102 Aqp)) (pi := Aco) (po := Aa5) (Ab A7 (Ae Amk)) (fn := Tryz.f77) Tryz.func77 (by kernel_rfl) (by kernel_rfl) [.tmp 2] (by kernel_rfl) rfl rfl rfl [] fun d => by kernel_rfl
def Ap6 := Ak Aco Aa5 Lh
abbrev X3 : PSh := ⟨[], [kI]⟩
abbrev X8 : PSh := ⟨[], [kI]⟩
abbrev Agh : Type := Y4
abbrev Aep : Type := Y4
abbrev Ad8 : Type := Y6
abbrev Mz : Type := (((Agh) -> Option (Unit × ((Int × Unit) × Unit))) × (((Aep) -> Option (Unit × ((Int × Unit) × Unit))) × (((Ad8) -> Option (Unit × ((Int × Unit) × Unit))) × Unit)))
abbrev Ad6 : PSh := ⟨[], [kI, .any, .any, kI] ++ M3 23⟩
abbrev Arp : PSh := Ad6
abbrev Ao3 : PSh := ⟨[], [kI, .any, .any, kI, kI] ++ M3 22⟩
def Nl (T : Mz) (d : Agh) : Option (Unit × ((Int × Unit) × Unit)) :=
 let x1 := (decide (d.2.1.1 < (1970 : Int)))
 bif x1 then (
 let x2 := (A4 .i64 d.2.1.1 400)
 let x3 := (Eh .i64 d.2.2.1.1 146097)
 (T.1 ((), ((x2, ()), ((x3, ()), ())))))
 else (
 (T.2.1 ((), d.2)))
def Na (T : Mz) (d : Aep) : Option (Unit × ((Int × Unit) × Unit)) :=
 let x4 := (decide (d.2.1.1 >= (2370 : Int)))
 bif x4 then (
 let x5 := (Eh .i64 d.2.1.1 400)
 let x6 := (A4 .i64 d.2.2.1.1 146097)
 (T.2.1 ((), ((x5, ()), ((x6, ()), ())))))
 else (
 (T.2.2.1 ((), (d.2.1, (d.2.2.1, ((1970, ()), ()))))))
def Lz (T : Mz) (d : Ad8) : Option (Unit × ((Int × Unit) × Unit)) :=
 let x7 := (decide (d.2.2.2.1.1 < d.2.1.1))
 bif x7 then (
 (Lh ((), d.2.2.2)).bind fun x8 =>
 let x9 := (A4 .i64 d.2.2.1.1 x8.2.1.1)
 let x10 := (A4 .i64 d.2.2.2.1.1 1)
 (T.2.2.1 ((), (d.2.1, ((x9, ()), ((x10, ()), ()))))))
 else (
 some ((), (d.2.2.1, ())))
def Bq : Nat -> Mz
 | 0 => (fun _ => none, (fun _ => none, (fun _ => none, ())))
 | k + 1 => (Nl (Bq k), (Na (Bq k), (Lz (Bq k), ())))
theorem Ln (k : Nat) : Bq (k + 1) = (Nl (Bq k), (Na (Bq k), (Lz (Bq k), ()))) := rfl
def Ae2 (T : Mz) (d : Unit × ((Int × Unit) × Unit)) : Option (Unit × ((Int × Unit) × Unit)) :=
 (T.1 ((), (d.2.1, ((0, ()), ()))))
def Lu (d) := lim fun k => Ae2 (Bq k) d
theorem Zw : Dv Tryz.prog ET0 42 X3 X8 Lu :=
 fnL (E := (E0.add 77 Ap6)) (pi := X3) (po := X8) (Ab A7 (Ae Amo)) (fn := Tryz.f42) Tryz.func42 (by kernel_rfl) (by kernel_rfl) [.tmp 2] (by kernel_rfl) rfl rfl rfl [] (fun k => [(3, ⟨Ad6, (Bq k).1⟩), (8, ⟨Arp, (Bq k).2.1⟩), (14, ⟨Ao3, (Bq k).2.2.1⟩)]) (fun _ => [])
 (.intro (fun _ => rfl) (.intro (fun _ => rfl) (.intro (fun _ => rfl) trivial))) (fun k => (.intro (fun d => by kernel_rfl) (.intro (fun d => by kernel_rfl) (.intro (fun d => by kernel_rfl) trivial)))) trivial (fun k => trivial) (fun k d => Ae2 (Bq k) d) (fun k d => by kernel_rfl)
def Aci := Ak X3 X8 Lu
end
end Go.Proofs.YtcnngodgngmghaaGreatDoor.Ev
