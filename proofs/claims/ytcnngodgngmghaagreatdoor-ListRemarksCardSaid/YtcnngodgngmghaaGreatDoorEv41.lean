/- More functions of Go's library, by contracts of the kit's shelf: rows of strings, trimming by a set. -/
import Derived.Test.YtcnngodgngmghaaGreatDoorEv40
import Derived.Lib.Split
import Derived.Lib.SplitLaws
import Derived.Lib.Fields
import Derived.Lib.SlTrimSet
namespace Go.Proofs.YtcnngodgngmghaaGreatDoor.Ev
open Go
open Go.RowKit Go.Sort
set_option linter.unusedVariables false
set_option linter.unusedSimpArgs false
section
variable {P : Program} {ET : TypeId} {f : FuncId} {g : Gh} {w w' : World} {bs : Boxes}
/-! ### a new row of strings -/
theorem reps_strs {ok : Nat → Prop} : ∀ l : List ByteArray, Reps (fun x c => Rep ET ok w .str x c) l (l.map Value.string)
  | [] => rfl
  | s :: l => ⟨[.string s], l.map Value.string, rfl, rfl, reps_strs l⟩
/-- What is told of a row in a new block. -/
theorem new_row (g : Gh) (w : World) (l : List ByteArray) (t : TypeId) (n : Nat) (hn : l.length = n) : ∃ g', Rep ET (okB g' (w.alloc (.cells (l.map Value.string).toArray t))) (w.alloc (.cells (l.map Value.string).toArray t)) (.sl .str) l [.slice (some ⟨w.heap.size, 0, none⟩) n n] ∧ Fr g w g' (w.alloc (.cells (l.map Value.string).toArray t)) := by
  refine ⟨⟨fun b => if b = w.heap.size then none else g.O b, g.hd⟩, ?_, ?_⟩
  · subst hn
    refine ⟨_, _, l.map Value.string, rfl, Nat.le_refl _, reps_strs l, .inr ⟨w.heap.size, 0, rfl, ⟨if_pos rfl, ?_, ?_⟩, ?_⟩⟩
    · show w.heap.size < (w.heap.push _).size
      rw [Array.size_push]; omega
    · intro o ho
      have : (w.heap.push (.cells (l.map Value.string).toArray t))[w.heap.size]? = some o := ho
      rw [Array.getElem?_push_size] at this
      cases this; rfl
    · intro j u hu
      unfold World.cell?
      have : (w.alloc (.cells (l.map Value.string).toArray t)).heap[w.heap.size]? = some (.cells (l.map Value.string).toArray t) := Array.getElem?_push_size
      simp only [this, Nat.zero_add]
      simpa using hu
  · have hB : ∀ b, b < w.heap.size → (w.alloc (.cells (l.map Value.string).toArray t)).heap[b]? = w.heap[b]? := fun b hb => by
      show (w.heap.push _)[b]? = _
      rw [Array.getElem?_push_lt hb, Array.getElem?_eq_getElem hb]
    refine ⟨rfl, rfl, rfl, ?_, fun b h hb => ⟨?_, hB b hb⟩, fun b h hb => ⟨?_, hB b hb⟩⟩
    · show w.heap.size ≤ (w.heap.push _).size
      rw [Array.size_push]; omega
    · show (if b = w.heap.size then none else g.O b) = none
      rw [h]; split <;> rfl
    · show (if b = w.heap.size then none else g.O b) = some 0
      rw [if_neg (by omega), h]
/-! ### strings.Split -/
@[reducible] def pi_lib_split : PSh := ⟨[], [.mk false [.v .str], .mk false [.v .str]]⟩
@[reducible] def po_lib_split : PSh := ⟨[], [.mk false [.v (.sl .str)]]⟩
def lib_split (d : Unit × ((ByteArray × Unit) × ((ByteArray × Unit) × Unit))) : Option (Unit × ((List ByteArray × Unit) × Unit)) :=
  if d.2.1.1.size < 4294967281 ∧ 1 ≤ d.2.2.1.1.size then some ((), ((Lib.splitB d.2.2.1.1 0 (Lib.countB d.2.1.1 d.2.2.1.1) d.2.1.1, ()), ())) else none
theorem lib_split_ok {G : Nat} {T : TypeId} (hfn : ∃ fn, P.funcs[f]? = some fn ∧ (fn.name == "runtime.NumGoroutine") = false ∧ fn.body.isNone = false)
    (h : ∀ (s sep : ByteArray) (m : Int) (w : World), s.size < 4294967281 → w.cell? ⟨G, 0, none⟩ = some (.int .i64 m) → 1 ≤ sep.size →
      Calls P f #[.string s, .string sep] w fun e w' => e = .returned (.slice (some ⟨w.heap.size, 0, none⟩) (Lib.countB s sep + 1) (Lib.countB s sep + 1)) ∧ w' = w.alloc (.cells ((Lib.splitB sep 0 (Lib.countB s sep) s).map Value.string).toArray T))
    (ht : ∀ w, Tabs w → ∃ m, w.cell? ⟨G, 0, none⟩ = some (.int .i64 m)) : FnOk P ET f pi_lib_split po_lib_split lib_split := by
  refine ⟨hfn, fun d out hF g w vals hG hl hv hb c => ?_⟩
  obtain ⟨_, ⟨s, _⟩, ⟨q, _⟩, _⟩ := d
  match vals, hl with
  | [v0, v1], _ =>
    have h0 : v0 = .string s := str_of (hv 0)
    have h1 : v1 = .string q := str_of (hv 1)
    subst h0; subst h1
    unfold lib_split at hF
    split at hF
    · rename_i hc
      simp only [Option.some.injEq] at hF
      subst hF
      obtain ⟨m, hm⟩ := ht w hG.tab
      refine Calls.mono (h s q m w hc.1 hm hc.2) ?_
      rintro e w' ⟨rfl, rfl⟩
      obtain ⟨g', h2, h3⟩ := new_row (ET := ET) g w (Lib.splitB q 0 (Lib.countB s q) s) T (Lib.countB s q + 1) (Lib.splitB_all q hc.2 0 _ s rfl)
      exact ⟨_, g', rfl, h2, bs_nil, h3⟩
    · cases hF
/-! ### strings.Fields -/
@[reducible] def pi_lib_fields : PSh := ⟨[], [.mk false [.v .str]]⟩
@[reducible] def po_lib_fields : PSh := ⟨[], [.mk false [.v (.sl .str)]]⟩
def lib_fields (d : Unit × ((ByteArray × Unit) × Unit)) : Option (Unit × ((List ByteArray × Unit) × Unit)) :=
  if d.2.1.1.size < 4294967281 ∧ (d.2.1.1.data.toList.all fun b => decide (b.toNat < 128)) = true then some ((), (((Lib.fields d.2.1.1.data.toList).map (fun l => (⟨l.toArray⟩ : ByteArray)), ()), ())) else none
theorem lib_fields_ok {T : TypeId} (hfn : ∃ fn, P.funcs[f]? = some fn ∧ (fn.name == "runtime.NumGoroutine") = false ∧ fn.body.isNone = false)
    (h : ∀ (s : ByteArray) (w : World), s.size < 4294967281 → (∀ (j : Nat) b, s.data.toList[j]? = some b → b.toNat < 128) → Lib.TabIs P w "strings.asciiSpace" .u8 Lib.asciiSpaceTab →
      Calls P f #[.string s] w fun e w' => e = .returned (.slice (some ⟨w.heap.size, 0, none⟩) (Lib.fields s.data.toList).length (Lib.fields s.data.toList).length) ∧ w' = w.alloc (.cells ((Lib.fields s.data.toList).map fun l => Value.string ⟨l.toArray⟩).toArray T))
    (ht : ∀ w, Tabs w → Lib.TabIs P w "strings.asciiSpace" .u8 Lib.asciiSpaceTab) : FnOk P ET f pi_lib_fields po_lib_fields lib_fields := by
  refine ⟨hfn, fun d out hF g w vals hG hl hv hb c => ?_⟩
  obtain ⟨_, ⟨s, _⟩, _⟩ := d
  match vals, hl with
  | [v0], _ =>
    have h0 : v0 = .string s := str_of (hv 0)
    subst h0
    unfold lib_fields at hF
    split at hF
    · rename_i hc
      simp only [Option.some.injEq] at hF
      subst hF
      refine Calls.mono (h s w hc.1 (fun j b hj => of_decide_eq_true (List.all_eq_true.1 hc.2 b (List.mem_of_getElem? hj))) (ht w hG.tab)) ?_
      rintro e w' ⟨rfl, rfl⟩
      have e1 : ((Lib.fields s.data.toList).map fun l => Value.string ⟨l.toArray⟩) = (((Lib.fields s.data.toList).map (fun l => (⟨l.toArray⟩ : ByteArray))).map Value.string) := by rw [List.map_map]; rfl
      obtain ⟨g', h2, h3⟩ := new_row (ET := ET) g w ((Lib.fields s.data.toList).map (fun l => (⟨l.toArray⟩ : ByteArray))) T (Lib.fields s.data.toList).length (by rw [List.length_map])
      rw [← e1] at h2 h3
      exact ⟨_, g', rfl, h2, bs_nil, h3⟩
    · cases hF
/-! ### strconv.FormatInt at base 10 -/
@[reducible] def pi_lib_formatInt : PSh := ⟨[], [.mk false [.v (.int .i64)], .mk false [.v (.int .i64)]]⟩
@[reducible] def po_lib_formatInt : PSh := ⟨[], [.mk false [.v .str]]⟩
def lib_formatInt (d : Unit × ((Int × Unit) × ((Int × Unit) × Unit))) : Option (Unit × ((ByteArray × Unit) × Unit)) :=
  if (-9223372036854775808 ≤ d.2.1.1 ∧ d.2.1.1 ≤ 9223372036854775807) ∧ d.2.2.1.1 = 10 then some ((), ((⟨(Lib.itoa d.2.1.1).toArray⟩, ()), ())) else none
theorem lib_formatInt_ok (hfn : ∃ fn, P.funcs[f]? = some fn ∧ (fn.name == "runtime.NumGoroutine") = false ∧ fn.body.isNone = false)
    (h : ∀ (n : Int), -9223372036854775808 ≤ n → n ≤ 9223372036854775807 → ∀ w : World, Lib.TabIs P w "internal/strconv.uint64pow10" .u64 Lib.pow10Tab →
      Calls P f #[.int .i64 n, .int .i64 10] w fun e w' => e = .returned (.string ⟨(Lib.itoa n).toArray⟩) ∧ ∃ k os, w' = grow (w.drewN k) os)
    (ht : ∀ w, Tabs w → Lib.TabIs P w "internal/strconv.uint64pow10" .u64 Lib.pow10Tab) : FnOk P ET f pi_lib_formatInt po_lib_formatInt lib_formatInt := by
  refine ⟨hfn, fun d out hF g w vals hG hl hv hb c => ?_⟩
  obtain ⟨_, ⟨n, _⟩, ⟨b, _⟩, _⟩ := d
  match vals, hl with
  | [v0, v1], _ =>
    have h0 : v0 = .int .i64 n := int_of (hv 0)
    have h1 : v1 = .int .i64 b := int_of (hv 1)
    subst h0; subst h1
    unfold lib_formatInt at hF
    split at hF
    · rename_i hc
      have hb10 : b = 10 := hc.2
      subst hb10
      simp only [Option.some.injEq] at hF
      subst hF
      refine Calls.mono (h n hc.1.1 hc.1.2 w (ht w hG.tab)) ?_
      rintro e w' ⟨rfl, k, os, hw⟩
      have hB : Below w.heap.size w w' := hw ▸ below_drew w k os
      refine ⟨_, g, rfl, ?_, bs_nil, fr_below hB⟩
      show Rep ET (okB g w') w' .str _ [_]
      simp [Rep]
    · cases hF
/-! ### strings.Trim by a set of signs -/
@[reducible] def pi_lib_trim : PSh := ⟨[], [.mk false [.v .str], .mk false [.v .str]]⟩
@[reducible] def po_lib_trim : PSh := ⟨[], [.mk false [.v .str]]⟩
def lib_trim (d : Unit × ((ByteArray × Unit) × ((ByteArray × Unit) × Unit))) : Option (Unit × ((ByteArray × Unit) × Unit)) :=
  if d.2.1.1.size ≤ 9223372036854775807 ∧ d.2.2.1.1.size < 4294967281 ∧ (d.2.2.1.1.data.toList.all fun b => decide (b.toNat < 128)) = true then
    some ((), ((⟨(Lib.trimS d.2.1.1.data.toList d.2.2.1.1.data.toList).toArray⟩, ()), ())) else none
theorem lib_trim_ok (hfn : ∃ fn, P.funcs[f]? = some fn ∧ (fn.name == "runtime.NumGoroutine") = false ∧ fn.body.isNone = false)
    (h : ∀ (s q : ByteArray) (w : World), s.size ≤ 9223372036854775807 → q.size < 4294967281 → (∀ (j : Nat) b, q.data.toList[j]? = some b → b.toNat < 128) →
      Calls P f #[.string s, .string q] w fun e w' => e = .returned (.string ⟨(Lib.trimS s.data.toList q.data.toList).toArray⟩) ∧ Below w.heap.size w w') : FnOk P ET f pi_lib_trim po_lib_trim lib_trim := by
  refine ⟨hfn, fun d out hF g w vals hG hl hv hb c => ?_⟩
  obtain ⟨_, ⟨s, _⟩, ⟨q, _⟩, _⟩ := d
  match vals, hl with
  | [v0, v1], _ =>
    have h0 : v0 = .string s := str_of (hv 0)
    have h1 : v1 = .string q := str_of (hv 1)
    subst h0; subst h1
    unfold lib_trim at hF
    split at hF
    · rename_i hc
      simp only [Option.some.injEq] at hF
      subst hF
      refine Calls.mono (h s q w hc.1 hc.2.1 (fun j b hj => of_decide_eq_true (List.all_eq_true.1 hc.2.2 b (List.mem_of_getElem? hj)))) ?_
      rintro e w' ⟨rfl, hB⟩
      refine ⟨_, g, rfl, ?_, bs_nil, fr_below hB⟩
      show Rep ET (okB g w') w' .str _ [_]
      simp [Rep]
    · cases hF
end
end Go.Proofs.YtcnngodgngmghaaGreatDoor.Ev
