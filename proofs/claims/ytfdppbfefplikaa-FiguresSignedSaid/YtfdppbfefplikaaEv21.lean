/- A law's function, by what it tells: true, and nothing that stood before is touched. -/
import Derived.Test.YtfdppbfefplikaaEv17
import Derived.Below
namespace Go.Proofs.Ytfdppbfefplikaa.Ev
open Go
open Go.RowKit
set_option linter.unusedVariables false
def g0 : Gh := ⟨fun _ => none, fun _ => undef⟩
theorem law_calls {P : Program} {ET : TypeId} {f : FuncId} {pi : PSh} {F : pi.den → Option (PSh.den ⟨[], [.mk false [.v .bool]]⟩)} (h : FnOk P ET f pi ⟨[], [.mk false [.v .bool]]⟩ F) {d : pi.den}
    (hd : F d = some ((), ((true, ()), ()))) (W : World) (vals : List Value) (hlen : vals.length = pi.slots.length) (hbx : pi.decB C0 d = []) (hv : All2 (VRel ET g0 [] W) (pi.decS C0 d) vals) :
    Calls P f vals.toArray W fun e W' => e = .returned (.bool true) ∧ Below W.heap.size W W' := by
  have hb : BsRel ET g0 (pi.decB C0 d) W := by
    rw [hbx]; intro b ver c hl; cases hl
  have hv' : ∀ i, VRel ET g0 (pi.decB C0 d) W (getS (pi.decS C0 d) i) (vals.getD i undef) := by
    rw [hbx]; exact get_of_all2 (E := { rows := [], calls := [], ET := ET }) hv
  refine Calls.mono (h.run d _ hd g0 W vals hlen hv' hb C0) ?_
  rintro e w' ⟨u, g', rfl, h1, h2, h3⟩
  refine ⟨?_, h3.os, h3.tape, h3.output, h3.size, fun k hk => (h3.ro k rfl hk).2⟩
  have : u = .bool true := rel_bool (E := { rows := [], calls := [], ET := ET }) h1
  rw [this]
theorem int_range {k : IntKind} {n : Int} (w : (Lit.int k n).wf = true) : k.min ≤ n ∧ n ≤ k.max := by simpa [Lit.wf] using w
/-- A slice of whole numbers, as the rows' own words have it. -/
def IsRow (k : IntKind) (w : World) (a : Option Addr) (len cap : Nat) (zs : List Int) : Prop :=
  (a = none ∧ len = 0 ∧ cap = 0 ∧ zs = []) ∨
  ∃ x, a = some x ∧ len ≤ cap ∧ cap ≤ maxLen ∧ zs.length = cap ∧ (∀ i, i < zs.length → w.cell? (x.add i) = some (.int k (zs.getD i 0))) ∧ ∀ n ∈ zs, (Lit.int k n).wf = true
theorem reps_ints {ET : TypeId} {ok : Nat → Prop} {w : World} {k : IntKind} : ∀ (l : List Int), Reps (fun (x : Int) c => Rep ET ok w (.int k) x c) l (l.map (Value.int k))
  | [] => rfl
  | x :: l => ⟨[.int k x], l.map (Value.int k), rfl, rfl, reps_ints l⟩
theorem sl_rel {ET : TypeId} {k : IntKind} {W : World} {a : Option Addr} {len cap : Nat} {zs : List Int} (h : IsRow k W a len cap zs) :
    VRel ET g0 [] W (.val (.sl (.int k)) (zs.take len)) (.slice a len cap) ∧ (∀ n ∈ zs.take len, k.min ≤ n ∧ n ≤ k.max) ∧ (zs.take len).length = len := by
  rcases h with ⟨rfl, rfl, rfl, rfl⟩ | ⟨x, rfl, hl, hm, hz, hc, hw⟩
  · exact ⟨⟨none, 0, [], rfl, Nat.le_refl _, rfl, .inl rfl⟩, fun n hn => (by simp at hn), rfl⟩
  · have hlen : (zs.take len).length = len := by rw [List.length_take, hz, Nat.min_eq_left hl]
    refine ⟨?_, fun n hn => int_range (hw n (List.mem_of_mem_take hn)), hlen⟩
    refine ⟨some x, cap, (zs.take len).map (Value.int k), by rw [hlen], by rw [hlen]; exact hl, reps_ints _, ?_⟩
    by_cases h0 : len = 0
    · left; subst h0; simp
    · right
      have hc0 := hc 0 (by omega)
      have hx : x.spot = none ∧ x.block < W.heap.size := by
        simp only [Addr.add, if_true] at hc0
        unfold World.cell? at hc0
        split at hc0
        · rename_i c e f hb
          refine ⟨?_, (Array.getElem?_eq_some_iff.1 hb).1⟩
          cases hs : x.spot with
          | none => rfl
          | some s => rw [hs] at hc0; simp at hc0
        · cases hc0
      obtain ⟨bl, off, spot⟩ := x
      obtain ⟨rfl, hlt⟩ := hx
      refine ⟨bl, off, rfl, ⟨rfl, hlt⟩, fun j u hj => ?_⟩
      have hjl : j < len := by
        have := (List.getElem?_eq_some_iff.1 hj).1
        rw [List.length_map, hlen] at this; exact this
      have := hc j (by omega)
      rw [Addr.add_lit] at this
      rw [this]
      rw [List.getElem?_map, List.getElem?_take_of_lt hjl] at hj
      rw [List.getD_eq_getElem?_getD]
      cases hz' : zs[j]? with
      | none => rw [hz'] at hj; cases hj
      | some y => rw [hz'] at hj; simpa using hj
end Go.Proofs.Ytfdppbfefplikaa.Ev
