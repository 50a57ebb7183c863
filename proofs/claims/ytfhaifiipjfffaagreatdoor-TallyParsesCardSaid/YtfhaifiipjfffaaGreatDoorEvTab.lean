/- The Tally seats: what a row's condition and the world's shape tell of the package's variables (behind EvE and the shelf; Tryz: the seat's alias, 116, 175: the variables' types, 5, 122: their elements). -/
import Derived.Test.YtfhaifiipjfffaaGreatDoorEvE
import Derived.Test.YtfhaifiipjfffaaGreatDoorRows
import Derived.Test.YtfhaifiipjfffaaGreatDoorShelf
import Derived.Handed
namespace Go.Proofs.YtfhaifiipjfffaaGreatDoor.Ev
open Go Go.Proofs
theorem tab_block {s : String} {b : Nat} {k : IntKind} {l : List Int} {w : World} (hb : Tryz.prog.globalNamed s = some b) (t : Lib.TabIs Tryz.prog w s k l) : b < w.heap.size ∧ ∀ o : Obj, w.heap[b]? = some o → o.isCells = true := by
  unfold Lib.TabIs World.var? at t
  rw [hb] at t
  simp only [Option.bind_some] at t
  split at t
  · rename_i cs x y h
    refine ⟨(Array.getElem?_eq_some_iff.1 h).1, fun o ho => ?_⟩
    rw [h] at ho
    cases ho; rfl
  · cases t
theorem cell_block {b : Nat} {w : World} {v : Value} (t : w.cell? ⟨b, 0, none⟩ = some v) : b < w.heap.size ∧ ∀ o : Obj, w.heap[b]? = some o → o.isCells = true := by
  unfold World.cell? at t
  split at t
  · rename_i cs x y h
    refine ⟨(Array.getElem?_eq_some_iff.1 h).1, fun o ho => ?_⟩
    rw [show w.heap[b]? = _ from h] at ho
    cases ho; rfl
  · cases t
theorem tab_start {l : List (String × DataW Unit)} {W : World} (h : laidMetH Tryz.prog l W) (s : String) (k : IntKind) (zs : List Int) (e : ((l.filter fun x => x.1 == s).filter fun x => x.2.handleName?.isNone) = [(s, Lib.tabData k zs)]) : laidMet Tryz.prog [(s, Lib.tabData k zs)] W := by
  have h1 := laidMetH.filter (fun x => x.1 == s) h
  have h2 := (laidMetH_iff.1 h1).1
  rw [e] at h2; exact h2
theorem glb_start {l : List (String × DataW Unit)} {W : World} (h : laidMetH Tryz.prog l W) (hsh : W.ShapedOpen Tryz.prog)
    (e1 : ((l.filter fun x => x.1 == "strings.asciiSpace").filter fun x => x.2.handleName?.isNone) = [("strings.asciiSpace", Lib.tabData .u8 Lib.asciiSpaceTab)] := by kernel_rfl)
    (e2 : ((l.filter fun x => x.1 == "internal/strconv.uint64pow10").filter fun x => x.2.handleName?.isNone) = [("internal/strconv.uint64pow10", Lib.tabData .u64 Lib.pow10Tab)] := by kernel_rfl) : Glb g0 W := by
  have t1 : Lib.TabIs Tryz.prog W "strings.asciiSpace" .u8 Lib.asciiSpaceTab := Lib.tabIs_of_head (t := 116) (e := 5) (n := 256) space_named (by kernel_rfl) (by kernel_rfl) (by kernel_rfl) (by kernel_rfl) (by kernel_rfl) (tab_start h _ _ _ e1)
  have t2 : Lib.TabIs Tryz.prog W "internal/strconv.uint64pow10" .u64 Lib.pow10Tab := Lib.tabIs_of_head (t := 175) (e := 122) (n := 20) tab_named (by kernel_rfl) (by kernel_rfl) (by kernel_rfl) (by kernel_rfl) (by kernel_rfl) (tab_start h _ _ _ e2)
  have t3 : ∃ m, W.cell? ⟨3, 0, none⟩ = some (.int .i64 m) := Tryz.laysM146.s1_3 W hsh
  refine ⟨fun b hb => ?_, t1, t2, t3⟩
  have hb' : b = 0 ∨ b = 2 ∨ b = 3 := by simpa [globs] using hb
  rcases hb' with rfl | rfl | rfl
  · exact ⟨rfl, (tab_block space_named t1).1, (tab_block space_named t1).2⟩
  · exact ⟨rfl, (tab_block tab_named t2).1, (tab_block tab_named t2).2⟩
  · obtain ⟨m, hm⟩ := t3
    exact ⟨rfl, (cell_block hm).1, (cell_block hm).2⟩
/-- The kit's wrap for rows with a condition of their own, the world's shape kept. -/
theorem andShaped {H : Type} {enc : TypeId × Value → H} {a : Assume} {C : Checked} {os : Os} {f : FuncId} {fn : Func} {s : ChangeSpec} {conds : List PathCond} {apart fresh handsOn again : Bool} {X : World → Array Value → Prop}
    (hX : ∀ (w w' : World) (args : Array Value), w.heap = w'.heap → X w args → X w' args)
    (own : ownKnob C.prog.godebug = none) (started : os.Started) (noInit : C.prog.inits.idxOf? f = none) (hfn : C.prog.funcs[f]? = some fn)
    (witness : ∃ (w : World) (tape : Tape) (i : Input), w.os = os ∧ (w.forCall tape i).Shaped C.prog ∧ i.vars = [] ∧ Input.okWide C.prog (w.forCall tape i) .any w.heap.size f i ∧
      ((s.pre enc C.prog fn conds apart (w.forCall tape i).memory i.args ∧ X (w.forCall tape i).memory i.args) ∧ sizedMet enc C.prog fn (OpenSpec.ofChange s) apart (w.forCall tape i).memory i.args) ∧ a.holds C.prog (lone (Frame.enter C.prog f i.args .normal) [] (w.forCall tape i)))
    (contract : ∀ (W : World) (base : Nat) (args : Array Value) (ds gs : List (DataW H)) (before : List MemPlace),
      (∀ (j : Nat) t v, fn.params[j]? = some t → args[j]? = some v → Value.okWide C.prog W .any base t v) →
      DataW.Whole enc C.prog fn.params.toList s.vars apart W args.toList ds gs before →
      conds.all (PathCond.test C.prog ⟨fn.params.toList, ds, s.plain.varTypes C.prog, gs⟩) = true →
      (DataW.weightsEach C.prog (fn.params.toList ++ s.plain.varTypes C.prog) (ds ++ gs)).all (· ≤ reachBytes) = true → X W args → W.ShapedOpen C.prog →
      a.holds C.prog (lone (Frame.enter C.prog f args .normal) [] W) →
      Calls C.prog f args W fun e W' => ∃ v, e = .returned v ∧ s.post enc C.prog fn apart fresh handsOn again W args v W') :
    ReturnsInHanded a C os f .any (fun w args => (s.pre enc C.prog fn conds apart w args ∧ X w args) ∧ sizedMet enc C.prog fn (OpenSpec.ofChange s) apart w args) (s.post enc C.prog fn apart fresh handsOn again) := by
  refine returnsInHanded_of_calls own started noInit witness ?_
  intro w tape i _ hsh _ hok hpre hholds
  obtain ⟨_, _, _, fn', hfn', _, _, _, _, hval⟩ := hok
  have e : fn' = fn := Option.some.inj (hfn'.symm.trans hfn)
  subst e
  obtain ⟨⟨⟨ds, gs, before, hw, hc⟩, hx⟩, hz⟩ := hpre
  have hw' := DataW.Whole.of_heap (w' := w.forCall tape i) (by rfl) hw
  refine (contract (w.forCall tape i) w.heap.size i.args ds gs before hval hw' hc (hz.weights hw) (hX _ _ _ (by rfl) hx) hsh hholds).mono fun e W' ⟨v, he, hp⟩ => ?_
  subst he
  exact ChangeSpec.post_blind hp
end Go.Proofs.YtfhaifiipjfffaaGreatDoor.Ev
