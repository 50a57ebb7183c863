/- The Refid seat: what a row's condition tells of the package's variables (behind EvE; Tryd: the seat's alias, 1: the variable's number). -/
import Derived.Test.YtodnllhjikeafaaDoorEvE
import Derived.Test.YtodnllhjikeafaaDoorRows
namespace Go.Proofs.YtodnllhjikeafaaDoor.Ev
open Go Go.Proofs
/-- The variable's block. -/
theorem tab_block {w : World} (t : Tabs w) : 1 < w.heap.size ∧ ∀ o : Obj, w.heap[1]? = some o → o.isCells = true := by
  unfold Tabs Lib.TabIs World.var? at t
  rw [tab_named] at t
  simp only [Option.bind_some] at t
  split at t
  · rename_i cs x y h
    refine ⟨(Array.getElem?_eq_some_iff.1 h).1, fun o ho => ?_⟩
    rw [h] at ho
    cases ho; rfl
  · cases t
theorem glb_start {l : List (String × DataW Unit)} {W : World} (h : laidMetH Tryd.prog l W) (e : ((l.filter fun x => x.1 == "internal/strconv.uint64pow10").filter fun x => x.2.handleName?.isNone) = [("internal/strconv.uint64pow10", Lib.tabData .u64 Lib.pow10Tab)] := by kernel_rfl) : Glb g0 W := by
  have h1 := laidMetH.filter (fun x => x.1 == "internal/strconv.uint64pow10") h
  have h2 := (laidMetH_iff.1 h1).1
  have h3 : laidMet Tryd.prog [("internal/strconv.uint64pow10", Lib.tabData .u64 Lib.pow10Tab)] W := by
    rw [e] at h2; exact h2
  have t : Tabs W := Lib.tabIs_of_head (t := 117) (e := 41) (n := 20) tab_named (by kernel_rfl) (by kernel_rfl) (by kernel_rfl) (by kernel_rfl) (by kernel_rfl) h3
  refine ⟨fun b hb => ?_, t⟩
  rw [List.mem_singleton.1 hb]
  exact ⟨rfl, (tab_block t).1, (tab_block t).2⟩
end Go.Proofs.YtodnllhjikeafaaDoor.Ev
