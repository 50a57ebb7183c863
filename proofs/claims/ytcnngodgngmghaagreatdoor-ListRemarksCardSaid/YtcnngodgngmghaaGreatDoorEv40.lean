/- More functions of Go's library, by contracts of the kit's shelf. -/
import Derived.Test.YtcnngodgngmghaaGreatDoorEv32
import Derived.Lib.LaidTab
import Derived.Lib.ItoaNum
import Derived.Sort.Grow
import Derived.Shelf.Strings.OnBuilder
import Derived.Shelf.Strings.Trim
namespace Go.Proofs.YtcnngodgngmghaaGreatDoor.Ev
open Go
open Go.RowKit Go.Sort
set_option linter.unusedVariables false
set_option linter.unusedSimpArgs false
section
variable {P : Program} {ET : TypeId} {f : FuncId} {g : Gh} {w w' : World} {bs : Boxes}
theorem below_drew (w : World) (k : Nat) (os : Array Obj) : Below w.heap.size w (grow (w.drewN k) os) := by
  refine ⟨rfl, rfl, rfl, ?_, fun i hi => ?_⟩
  · show w.heap.size ≤ ((w.drewN k).heap ++ os).size
    rw [Array.size_append]; exact Nat.le_add_right _ _
  · show ((w.drewN k).heap ++ os)[i]? = _
    rw [Array.getElem?_append_left (by exact hi)]; rfl
/-! ### strconv.Itoa -/
@[reducible] def pi_lib_itoa : PSh := ⟨[], [.mk false [.v (.int .i64)]]⟩
@[reducible] def po_lib_itoa : PSh := ⟨[], [.mk false [.v .str]]⟩
def lib_itoa (d : Unit × ((Int × Unit) × Unit)) : Option (Unit × ((ByteArray × Unit) × Unit)) :=
  if -9223372036854775808 ≤ d.2.1.1 ∧ d.2.1.1 ≤ 9223372036854775807 then some ((), ((⟨(Lib.itoa d.2.1.1).toArray⟩, ()), ())) else none
theorem lib_itoa_ok (hfn : ∃ fn, P.funcs[f]? = some fn ∧ (fn.name == "runtime.NumGoroutine") = false ∧ fn.body.isNone = false)
    (h : ∀ (n : Int), -9223372036854775808 ≤ n → n ≤ 9223372036854775807 → ∀ w : World, Lib.TabIs P w "internal/strconv.uint64pow10" .u64 Lib.pow10Tab →
      Calls P f #[.int .i64 n] w fun e w' => e = .returned (.string ⟨(Lib.itoa n).toArray⟩) ∧ ∃ k os, w' = grow (w.drewN k) os)
    (ht : ∀ w, Tabs w → Lib.TabIs P w "internal/strconv.uint64pow10" .u64 Lib.pow10Tab) : FnOk P ET f pi_lib_itoa po_lib_itoa lib_itoa := by
  refine ⟨hfn, fun d out hF g w vals hG hl hv hb c => ?_⟩
  obtain ⟨_, ⟨n, _⟩, _⟩ := d
  match vals, hl with
  | [v0], _ =>
    have h0 : v0 = .int .i64 n := int_of (hv 0)
    subst h0
    unfold lib_itoa at hF
    split at hF
    · rename_i hc
      simp only [Option.some.injEq] at hF
      subst hF
      refine Calls.mono (h n hc.1 hc.2 w (ht w hG.tab)) ?_
      rintro e w' ⟨rfl, k, os, hw⟩
      have hB : Below w.heap.size w w' := hw ▸ below_drew w k os
      refine ⟨_, g, rfl, ?_, bs_nil, fr_below hB⟩
      show Rep ET (okB g w') w' .str _ [_]
      simp [Rep]
    · cases hF
/-! ### strings.TrimRight by one byte -/
@[reducible] def pi_lib_trimRight : PSh := ⟨[], [.mk false [.v .str], .mk false [.v .str]]⟩
@[reducible] def po_lib_trimRight : PSh := ⟨[], [.mk false [.v .str]]⟩
def lib_trimRight (d : Unit × ((ByteArray × Unit) × ((ByteArray × Unit) × Unit))) : Option (Unit × ((ByteArray × Unit) × Unit)) :=
  match d.2.2.1.1.data.toList with
  | [c] => if c.toNat < 128 ∧ d.2.1.1.size ≤ 9223372036854775807 then some ((), ((⟨(Lib.trimRightB d.2.1.1.data.toList c).toArray⟩, ()), ())) else none
  | _ => none
theorem one_byte {s : ByteArray} {c : UInt8} (h : s.data.toList = [c]) : s = ⟨#[c]⟩ := by
  have : s.data = #[c] := by rw [← Array.toArray_toList (xs := s.data), h]
  cases s; simp only at this; subst this; rfl
theorem lib_trimRight_ok (hfn : ∃ fn, P.funcs[f]? = some fn ∧ (fn.name == "runtime.NumGoroutine") = false ∧ fn.body.isNone = false)
    (h : ∀ (s : ByteArray) (c : UInt8), c.toNat < 128 → ∀ w : World, s.size ≤ 9223372036854775807 →
      Calls P f #[.string s, .string ⟨#[c]⟩] w fun e w' => e = .returned (.string ⟨(Lib.trimRightB s.data.toList c).toArray⟩) ∧ w' = w) : FnOk P ET f pi_lib_trimRight po_lib_trimRight lib_trimRight := by
  refine ⟨hfn, fun d out hF g w vals hG hl hv hb c => ?_⟩
  obtain ⟨_, ⟨s, _⟩, ⟨q, _⟩, _⟩ := d
  match vals, hl with
  | [v0, v1], _ =>
    have h0 : v0 = .string s := str_of (hv 0)
    have h1 : v1 = .string q := str_of (hv 1)
    subst h0; subst h1
    unfold lib_trimRight at hF
    split at hF
    · rename_i c hq
      simp only at hq
      split at hF
      · rename_i hc
        simp only [Option.some.injEq] at hF
        subst hF
        rw [one_byte hq]
        refine Calls.mono (h s c hc.1 w hc.2) ?_
        rintro e w' ⟨rfl, rfl⟩
        refine ⟨_, g, rfl, ?_, bs_nil, Fr.refl g _⟩
        show Rep ET (okB g w') w' .str _ [_]
        simp [Rep]
      · cases hF
    · cases hF
/-! ### strings.Index of one byte -/
@[reducible] def pi_lib_index : PSh := ⟨[], [.mk false [.v .str], .mk false [.v .str]]⟩
@[reducible] def po_lib_index : PSh := ⟨[], [.mk false [.v (.int .i64)]]⟩
def lib_index (d : Unit × ((ByteArray × Unit) × ((ByteArray × Unit) × Unit))) : Option (Unit × ((Int × Unit) × Unit)) :=
  match d.2.2.1.1.data.toList with
  | [c] => some ((), ((Lib.indexByte d.2.1.1.data.toList c, ()), ()))
  | _ => none
theorem lib_index_ok (hfn : ∃ fn, P.funcs[f]? = some fn ∧ (fn.name == "runtime.NumGoroutine") = false ∧ fn.body.isNone = false)
    (h : ∀ (s : ByteArray) (c : UInt8) (w : World), Calls P f #[.string s, .string ⟨#[c]⟩] w fun e w' => e = .returned (.int .i64 (Lib.indexByte s.data.toList c)) ∧ w' = w) : FnOk P ET f pi_lib_index po_lib_index lib_index := by
  refine ⟨hfn, fun d out hF g w vals hG hl hv hb c => ?_⟩
  obtain ⟨_, ⟨s, _⟩, ⟨q, _⟩, _⟩ := d
  match vals, hl with
  | [v0, v1], _ =>
    have h0 : v0 = .string s := str_of (hv 0)
    have h1 : v1 = .string q := str_of (hv 1)
    subst h0; subst h1
    unfold lib_index at hF
    split at hF
    · rename_i c hq
      simp only at hq
      simp only [Option.some.injEq] at hF
      subst hF
      rw [one_byte hq]
      refine Calls.mono (h s c w) ?_
      rintro e w' ⟨rfl, rfl⟩
      refine ⟨_, g, rfl, ?_, bs_nil, Fr.refl g _⟩
      show Rep ET (okB g w') w' (.int .i64) _ [_]
      simp [Rep]
    · cases hF
/-! ### strings.Join -/
@[reducible] def pi_lib_join : PSh := ⟨[], [.mk false [.v (.sl .str)], .mk false [.v .str]]⟩
@[reducible] def po_lib_join : PSh := ⟨[], [.mk false [.v .str]]⟩
def lib_join (d : Unit × ((List ByteArray × Unit) × ((ByteArray × Unit) × Unit))) : Option (Unit × ((ByteArray × Unit) × Unit)) :=
  if d.2.1.1.length ≤ 140737488355328 ∧ (Lib.join (d.2.1.1.map (·.data.toList)) d.2.2.1.1.data.toList).length ≤ 140737488355328 then
    some ((), ((⟨(Lib.join (d.2.1.1.map (·.data.toList)) d.2.2.1.1.data.toList).toArray⟩, ()), ())) else none
theorem reps_str {ok : Nat → Prop} : ∀ {l : List ByteArray} {cs : List Value}, Reps (fun x c => Rep ET ok w .str x c) l cs → ∀ (j : Nat) x, l[j]? = some x → cs[j]? = some (.string x)
  | [], _, _, j, x, h => by simp at h
  | s :: l, _, ⟨c1, c2, e, h1, h2⟩, j, x, h => by
    have e1 : c1 = [.string s] := h1
    subst e1; subst e
    cases j with
    | zero => simp at h; subst h; rfl
    | succ j =>
      simp only [List.getElem?_cons_succ] at h
      exact reps_str h2 j x h
theorem lib_join_ok (hfn : ∃ fn, P.funcs[f]? = some fn ∧ (fn.name == "runtime.NumGoroutine") = false ∧ fn.body.isNone = false)
    (h0 : ∀ (a : Option Addr) (c : Nat) (sep : ByteArray) (w : World), Calls P f #[.slice a 0 c, .string sep] w fun e w' => e = .returned (.string ⟨#[]⟩) ∧ w' = w)
    (h : ∀ (bk o c : Nat) (xs : List ByteArray) (sep : ByteArray) (w : World), (∀ (j : Nat) x, xs[j]? = some x → w.cell? ⟨bk, o + j, none⟩ = some (.string x)) → bk < w.heap.size → xs.length ≤ 140737488355328 → xs.length ≤ c →
      (Lib.join (xs.map (·.data.toList)) sep.data.toList).length ≤ 140737488355328 →
      Calls P f #[.slice (some ⟨bk, o, none⟩) xs.length c, .string sep] w fun e w' => e = .returned (.string ⟨(Lib.join (xs.map (·.data.toList)) sep.data.toList).toArray⟩) ∧ Below w.heap.size w w') : FnOk P ET f pi_lib_join po_lib_join lib_join := by
  refine ⟨hfn, fun d out hF g w vals hG hl hv hb c => ?_⟩
  obtain ⟨_, ⟨xs, _⟩, ⟨sep, _⟩, _⟩ := d
  match vals, hl with
  | [v0, v1], _ =>
    have hx : Rep ET (okB g w) w (.sl .str) xs [v0] := hv 0
    have h1 : v1 = .string sep := str_of (hv 1)
    subst h1
    unfold lib_join at hF
    split at hF
    · rename_i hc
      simp only at hc
      simp only [Option.some.injEq] at hF
      subst hF
      obtain ⟨A, cc, cs, e1, q1, q2, q3⟩ := hx
      simp only [List.cons.injEq, and_true] at e1
      subst e1
      have nil : xs = [] → Calls P f (List.toArray [.slice A xs.length cc, .string sep]) w fun e w' => e = .returned (.string ⟨(Lib.join (xs.map (·.data.toList)) sep.data.toList).toArray⟩) ∧ Below w.heap.size w w' := by
        rintro rfl
        refine Calls.mono (h0 A cc sep w) ?_
        rintro e w' ⟨rfl, rfl⟩
        exact ⟨rfl, Below.refl _ _⟩
      have hrun : Calls P f (List.toArray [.slice A xs.length cc, .string sep]) w fun e w' => e = .returned (.string ⟨(Lib.join (xs.map (·.data.toList)) sep.data.toList).toArray⟩) ∧ Below w.heap.size w w' := by
        rcases q3 with rfl | ⟨b, o, rfl, k1, k2⟩
        · refine nil ?_
          have := Reps.length (fun x c hc => Rep.length hc) q2
          simp only [List.length_nil, Ty.sz, Nat.mul_one] at this
          exact List.eq_nil_of_length_eq_zero this.symm
        · exact h b o cc xs sep w (fun j x hj => k2 j _ (reps_str q2 j x hj)) k1.2.1 hc.1 q1 hc.2
      refine Calls.mono hrun ?_
      rintro e w' ⟨rfl, hB⟩
      refine ⟨_, g, rfl, ?_, bs_nil, fr_below hB⟩
      show Rep ET (okB g w') w' .str _ [_]
      simp [Rep]
    · cases hF
end
end Go.Proofs.YtcnngodgngmghaaGreatDoor.Ev
