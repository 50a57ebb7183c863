/- A law's function, by what it tells: true, and nothing that stood before is touched. -/
import Derived.Test.YtecilflgjakhcaaEv17
import Derived.Below
import Derived.DataShut
namespace Go.Proofs.Ytecilflgjakhcaa.Ev
open Go
open Go.RowKit
set_option linter.unusedVariables false
def g0 : Gh := ⟨fun _ => none, fun _ => undef⟩
theorem law_calls {P : Program} {ET : TypeId} {f : FuncId} {pi : PSh} {F : pi.den → Option (PSh.den ⟨[], [.mk false [.v .bool]]⟩)} (h : FnOk P ET f pi ⟨[], [.mk false [.v .bool]]⟩ F) {d : pi.den}
    (hd : F d = some ((), ((true, ()), ()))) (W : World) (vals : List Value) (hlen : vals.length = pi.slots.length) (hbx : pi.decB C0 d = []) (hv : All2 (VRel ET g0 [] W) (pi.decS C0 d) vals) :
    Calls P f vals.toArray W fun e W' => e = .returned (.bool true) ∧ Below W.heap.size W W' := by
  have hb : BsRel ET g0 (pi.decB C0 d) W := by
    rw [hbx]; intro b ver c hl; cases hl
  have hv' : ∀ i, VRel ET g0 (pi.decB C0 d) W (getS (pi.decS C0 d) i) (vals.getD i undef) := by
    rw [hbx]; exact get_of_all2 (E := { rows := [], calls := [], ET := ET }) hv
  refine Calls.mono (h.run d _ hd g0 W vals hlen hv' hb C0) ?_
  rintro e w' ⟨u, g', rfl, h1, h2, h3⟩
  refine ⟨?_, h3.os, h3.tape, h3.output, h3.size, fun k hk => (h3.ro k rfl hk).2⟩
  have : u = .bool true := rel_bool (E := { rows := [], calls := [], ET := ET }) h1
  rw [this]
theorem int_range {k : IntKind} {n : Int} (w : (Lit.int k n).wf = true) : k.min ≤ n ∧ n ≤ k.max := (Lit.wf_int_iff k n).1 w
end Go.Proofs.Ytecilflgjakhcaa.Ev
