/- More functions of Go's library, by contracts of the kit's shelf: small letters. -/
import Derived.Test.YtcnngodgngmghaaGreatDoorEv32
import Derived.Lib.Case
namespace Go.Proofs.YtcnngodgngmghaaGreatDoor.Ev
open Go
open Go.RowKit
set_option linter.unusedVariables false
set_option linter.unusedSimpArgs false
section
variable {P : Program} {ET : TypeId} {f : FuncId} {g : Gh} {w w' : World} {bs : Boxes}
/-! ### strings.ToLower of ASCII -/
@[reducible] def pi_lib_toLower : PSh := ⟨[], [.mk false [.v .str]]⟩
@[reducible] def po_lib_toLower : PSh := ⟨[], [.mk false [.v .str]]⟩
def lib_toLower (d : Unit × ((ByteArray × Unit) × Unit)) : Option (Unit × ((ByteArray × Unit) × Unit)) :=
  if d.2.1.1.size ≤ 140737488355328 ∧ (d.2.1.1.data.toList.all fun b => decide (b.toNat < 128)) = true then some ((), ((⟨(Lib.toLowerA d.2.1.1.data.toList).toArray⟩, ()), ())) else none
theorem lib_toLower_ok (hfn : ∃ fn, P.funcs[f]? = some fn ∧ (fn.name == "runtime.NumGoroutine") = false ∧ fn.body.isNone = false)
    (h : ∀ (s : ByteArray) (w : World), s.size ≤ 140737488355328 → (∀ (j : Nat) (b : UInt8), s.data.toList[j]? = some b → b.toNat < 128) →
      Calls P f #[.string s] w fun e w' => e = .returned (.string ⟨(Lib.toLowerA s.data.toList).toArray⟩) ∧ Below w.heap.size w w') : FnOk P ET f pi_lib_toLower po_lib_toLower lib_toLower := by
  refine ⟨hfn, fun d out hF g w vals hG hl hv hb c => ?_⟩
  obtain ⟨_, ⟨s, _⟩, _⟩ := d
  match vals, hl with
  | [v0], _ =>
    have h0 : v0 = .string s := str_of (hv 0)
    subst h0
    unfold lib_toLower at hF
    split at hF
    · rename_i hc
      simp only [Option.some.injEq] at hF
      subst hF
      refine Calls.mono (h s w hc.1 fun j b hj => ?_) ?_
      · have := List.all_eq_true.1 hc.2 b (List.mem_of_getElem? hj)
        simpa using this
      rintro e w' ⟨rfl, hB⟩
      refine ⟨_, g, rfl, ?_, bs_nil, fr_below hB⟩
      show Rep ET (okB g w') w' .str _ [_]
      simp [Rep]
    · cases hF
end
end Go.Proofs.YtcnngodgngmghaaGreatDoor.Ev
