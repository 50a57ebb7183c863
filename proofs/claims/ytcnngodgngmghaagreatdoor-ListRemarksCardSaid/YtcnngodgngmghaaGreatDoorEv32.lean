/- Functions of Go's library, by contracts of the kit's shelf: as told functions. -/
import Derived.Test.YtcnngodgngmghaaGreatDoorEvD
import Derived.Lib.Repeat
import Derived.Lib.Bytealg
import Derived.Below
namespace Go.Proofs.YtcnngodgngmghaaGreatDoor.Ev
open Go
open Go.RowKit
set_option linter.unusedVariables false
set_option linter.unusedSimpArgs false
section
variable {P : Program} {ET : TypeId} {f : FuncId} {g : Gh} {w w' : World} {bs : Boxes}
theorem fr_below (h : Below w.heap.size w w') : Fr g w g w' :=
  ⟨h.os, h.tape, h.output, h.size, fun b hb hs => ⟨hb, h.block b hs⟩, fun b hb hs => ⟨hb, h.block b hs⟩⟩
theorem bs_nil : BsRel ET g [] w := fun b ver c hl => by cases hl
theorem str_of {s : ByteArray} {v : Value} (h : VRel ET g bs w (.val .str s) v) : v = .string s := by
  have : Rep ET (okB g w) w .str s [v] := h
  simpa [Rep] using this
theorem int_of {k : IntKind} {n : Int} {v : Value} (h : VRel ET g bs w (.val (.int k) n) v) : v = .int k n := by
  have : Rep ET (okB g w) w (.int k) n [v] := h
  simpa [Rep] using this
/-! ### strings.Repeat -/
@[reducible] def pi_lib_repeat : PSh := ⟨[], [.mk false [.v .str], .mk false [.v (.int .i64)]]⟩
@[reducible] def po_lib_repeat : PSh := ⟨[], [.mk false [.v .str]]⟩
def lib_repeat (d : Unit × ((ByteArray × Unit) × ((Int × Unit) × Unit))) : Option (Unit × ((ByteArray × Unit) × Unit)) :=
  if 0 ≤ d.2.2.1.1 ∧ d.2.2.1.1 ≤ 9223372036854775807 ∧ d.2.1.1.size * d.2.2.1.1.toNat ≤ 140737488355328 then some ((), ((⟨(Lib.repeatL d.2.1.1.data.toList d.2.2.1.1.toNat).toArray⟩, ()), ())) else none
theorem lib_repeat_ok (hfn : ∃ fn, P.funcs[f]? = some fn ∧ (fn.name == "runtime.NumGoroutine") = false ∧ fn.body.isNone = false)
    (h : ∀ (s : ByteArray) (c : Nat) (w : World), c ≤ 9223372036854775807 → s.size * c ≤ 140737488355328 →
      Calls P f #[.string s, .int .i64 c] w fun e w' => e = .returned (.string ⟨(Lib.repeatL s.data.toList c).toArray⟩) ∧ Below w.heap.size w w') : FnOk P ET f pi_lib_repeat po_lib_repeat lib_repeat := by
  refine ⟨hfn, fun d out hF g w vals hG hl hv hb c => ?_⟩
  obtain ⟨_, ⟨s, _⟩, ⟨n, _⟩, _⟩ := d
  match vals, hl with
  | [v0, v1], _ =>
    have h0 : v0 = .string s := str_of (hv 0)
    have h1 : v1 = .int .i64 n := int_of (hv 1)
    subst h0; subst h1
    unfold lib_repeat at hF
    split at hF
    · rename_i hc
      simp only [Option.some.injEq] at hF
      subst hF
      obtain ⟨n, rfl⟩ := Int.eq_ofNat_of_zero_le hc.1
      refine Calls.mono (h s n w (by have := hc.2.1; simp only at this; omega) (by simpa using hc.2.2)) ?_
      rintro e w' ⟨rfl, hB⟩
      refine ⟨_, g, rfl, ?_, bs_nil, fr_below hB⟩
      show Rep ET (okB g w') w' .str _ [_]
      simp [Rep]
    · cases hF
/-! ### strings.IndexByte -/
@[reducible] def pi_lib_indexByte : PSh := ⟨[], [.mk false [.v .str], .mk false [.v (.int .u8)]]⟩
@[reducible] def po_lib_indexByte : PSh := ⟨[], [.mk false [.v (.int .i64)]]⟩
def lib_indexByte (d : Unit × ((ByteArray × Unit) × ((Int × Unit) × Unit))) : Option (Unit × ((Int × Unit) × Unit)) :=
  some ((), ((Lib.indexByte d.2.1.1.data.toList d.2.2.1.1.toNat.toUInt8, ()), ()))
theorem lib_indexByte_ok (hfn : ∃ fn, P.funcs[f]? = some fn ∧ (fn.name == "runtime.NumGoroutine") = false ∧ fn.body.isNone = false)
    (h : ∀ (s : ByteArray) (c : Int) (w : World), Calls P f #[.string s, .int .u8 c] w fun e w' => e = .returned (.int .i64 (Lib.indexByte s.data.toList c.toNat.toUInt8)) ∧ w' = w) : FnOk P ET f pi_lib_indexByte po_lib_indexByte lib_indexByte := by
  refine ⟨hfn, fun d out hF g w vals hG hl hv hb c => ?_⟩
  obtain ⟨_, ⟨s, _⟩, ⟨n, _⟩, _⟩ := d
  match vals, hl with
  | [v0, v1], _ =>
    have h0 : v0 = .string s := str_of (hv 0)
    have h1 : v1 = .int .u8 n := int_of (hv 1)
    subst h0; subst h1
    unfold lib_indexByte at hF
    simp only [Option.some.injEq] at hF
    subst hF
    refine Calls.mono (h s n w) ?_
    rintro e w' ⟨rfl, rfl⟩
    refine ⟨_, g, rfl, ?_, bs_nil, Fr.refl g _⟩
    show Rep ET (okB g w') w' (.int .i64) _ [_]
    simp [Rep]
/-! ### strings.Clone -/
@[reducible] def pi_lib_clone : PSh := ⟨[], [.mk false [.v .str]]⟩
@[reducible] def po_lib_clone : PSh := ⟨[], [.mk false [.v .str]]⟩
def lib_clone (d : Unit × ((ByteArray × Unit) × Unit)) : Option (Unit × ((ByteArray × Unit) × Unit)) :=
  if d.2.1.1.size ≤ 281474976710656 then some ((), ((d.2.1.1, ()), ())) else none
theorem lib_clone_ok (hfn : ∃ fn, P.funcs[f]? = some fn ∧ (fn.name == "runtime.NumGoroutine") = false ∧ fn.body.isNone = false)
    (h : ∀ (s : ByteArray) (w : World), s.size ≤ 281474976710656 → Calls P f #[.string s] w fun e w' => e = .returned (.string s) ∧ Below w.heap.size w w') : FnOk P ET f pi_lib_clone po_lib_clone lib_clone := by
  refine ⟨hfn, fun d out hF g w vals hG hl hv hb c => ?_⟩
  obtain ⟨_, ⟨s, _⟩, _⟩ := d
  match vals, hl with
  | [v0], _ =>
    have h0 : v0 = .string s := str_of (hv 0)
    subst h0
    unfold lib_clone at hF
    split at hF
    · rename_i hc
      simp only [Option.some.injEq] at hF
      subst hF
      refine Calls.mono (h s w hc) ?_
      rintro e w' ⟨rfl, hB⟩
      refine ⟨_, g, rfl, ?_, bs_nil, fr_below hB⟩
      show Rep ET (okB g w') w' .str _ [_]
      simp [Rep]
    · cases hF
end
end Go.Proofs.YtcnngodgngmghaaGreatDoor.Ev
