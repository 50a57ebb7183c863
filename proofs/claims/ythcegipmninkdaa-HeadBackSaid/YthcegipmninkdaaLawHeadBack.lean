/- HeadBack: for every input it is true, and nothing that stood before the call is touched. No condition. -/
import Derived.Test.YthcegipmninkdaaRows
import Derived.Test.YthcegipmninkdaaPureHeadBack
import Derived.Test.YthcegipmninkdaaEvE
import Derived.WalkKit
import Derived.ProofKit
import Derived.OpenShut
import Derived.ShutString
import Derived.ChangeOld
import Derived.Below
import Derived.SizedLaws
namespace Go.Proofs.Ythcegipmninkdaa.headBack
open Go.ChangeShapes Go.WideShapes Go.ChangeAt Go.RowKit
set_option linter.unusedVariables false
theorem own : ownKnob Try.prog.godebug = none := by kernel_rfl
theorem laidOut : laidOutB Try.prog = true := by kernel_rfl
set_option maxRecDepth 100000 in
set_option maxHeartbeats 2000000 in
theorem lifted (os : Os) (started : os.Started) (H : Type) (enc : TypeId × Value → H) :
    ReturnsInHanded {} Try.checked os 9 .any (Rows.headBackSpec.pre6 enc Try.prog Try.f9 Rows.headBackRow.domain false) (Rows.headBackSpec.post enc Try.prog Try.f9 false true false false) := by
  refine returnsInHanded_of_change_sized (C := Try.checked) own started (by kernel_rfl) Try.func9
    (ChangeSpec.witness6 (enc := enc) (C := Try.checked) false ⟨#[], #[.agg #[.int .i64 0, .int .i64 0, .int .i64 0, .int .u8 0, .int .i8 0, .int .i8 0, .int .u16 0, .int .u16 0, .int .u16 0, .int .u16 0, .int .u8 0, .int .u8 0, .int .u8 0, .int .u8 0, .int .u32 0, .int .u32 0, .int .u32 0, .int .u32 0, .int .u32 0, .int .u32 0, .int .u32 0, .int .u32 0], .slice none 0 0, .agg #[.int .i32 0, .int .i32 0, .int .i32 0]], []⟩ 8 (by kernel_rfl) (by kernel_rfl) (by kernel_rfl) (by kernel_rfl)) ?_
  intro W base args ds gs before hval0 hW hcnd hsz0 _
  have hsz : (DataW.weightsEach Try.prog (Try.f9.params.toList ++ Rows.headBackSpec.plain.varTypes Try.prog) (ds ++ gs)).all (· ≤ reachBytes) = true := hsz0
  have hval : ∀ (j : Nat) t v, Try.f9.params[j]? = some t → args[j]? = some v → Value.okWide Try.prog W .any base t v := hval0
  have hW' := hW
  obtain ⟨p, q, hA0, hV, rfl, hfz, hnd⟩ := hW
  have hA : DataW.TrodAll enc Try.prog W 0 (fun _ => true) true Try.f9.params.toList args.toList ds p := hA0
  rw [Try.params9] at hA hval hsz
  obtain ⟨v0, vs0, d0, ds0, p0, q0, hargs, rfl, rfl, h0, r0⟩ := trodAll_cons hA
  obtain ⟨v1, vs1, d1, ds1, p1, q1, rfl, rfl, rfl, h1, r1⟩ := trodAll_cons r0
  obtain ⟨v2, vs2, d2, ds2, p2, q2, rfl, rfl, rfl, h2, r2⟩ := trodAll_cons r1
  obtain ⟨rfl, rfl, rfl⟩ := trodAll_nil r2
  obtain rfl : args = #[v0, v1, v2] := by cases args; simp_all
  obtain ⟨rfl, rfl⟩ := trodVars_none hV
  have lt0 : ∀ x ∈ p0, x.block < W.heap.size := by obtain ⟨m, hm⟩ := h0; exact DataW.trod_lt m _ _ _ hm
  obtain ⟨z0, a0, m0⟩ := Ev.open_slot (ET := Ev.ET0) (B := reachBytes) (ty := (.pair (.int .i64) (.pair (.int .i64) (.pair (.int .i64) (.pair (.int .u8) (.pair (.int .i8) (.pair (.int .i8) (.pair (.pair (.int .u16) (.int .u16)) (.pair (.pair (.int .u16) (.int .u16)) (.pair (.pair (.int .u8) (.pair (.int .u8) (.pair (.int .u8) (.int .u8)))) (.pair (.pair (.int .u32) (.int .u32)) (.pair (.pair (.int .u32) (.int .u32)) (.pair (.pair (.int .u32) (.int .u32)) (.pair (.int .u32) (.int .u32))))))))))))))) 8 (by kernel_rfl) h0 (fun m hm => of_decide_eq_true (List.all_eq_true.1 hsz m (Ev.mem_weightsEach (i := 0) (t := 31) rfl rfl hm)))
  obtain ⟨cs0, e0⟩ := Ev.is_agg Try.underlying31 (hval 0 31 v0 rfl rfl)
  have lt1 : ∀ x ∈ p1, x.block < W.heap.size := by obtain ⟨m, hm⟩ := h1; exact DataW.trod_lt m _ _ _ hm
  obtain ⟨z1, a1, m1⟩ := Ev.open_slot (ET := Ev.ET0) (B := reachBytes) (ty := (.sl (.int .u8))) 8 (by kernel_rfl) h1 (fun m hm => of_decide_eq_true (List.all_eq_true.1 hsz m (Ev.mem_weightsEach (i := 1) (t := 33) rfl rfl hm)))
  have lt2 : ∀ x ∈ p2, x.block < W.heap.size := by obtain ⟨m, hm⟩ := h2; exact DataW.trod_lt m _ _ _ hm
  obtain ⟨z2, a2, m2⟩ := Ev.open_slot (ET := Ev.ET0) (B := reachBytes) (ty := (.pair (.int .i32) (.pair (.int .i32) (.int .i32)))) 8 (by kernel_rfl) h2 (fun m hm => of_decide_eq_true (List.all_eq_true.1 hsz m (Ev.mem_weightsEach (i := 2) (t := 94) rfl rfl hm)))
  obtain ⟨cs2, e2⟩ := Ev.is_aggA Try.underlying94 (hval 2 94 v2 rfl rfl)
  clear hA0 hval0 hsz0
  refine (Ev.law_calls Ev.ok_law28_HeadBack (d := ((), (((z0.1, (z0.2.1, (z0.2.2.1, (z0.2.2.2.1, (z0.2.2.2.2.1, (z0.2.2.2.2.2.1, (z0.2.2.2.2.2.2.1.1, (z0.2.2.2.2.2.2.1.2, (z0.2.2.2.2.2.2.2.1.1, (z0.2.2.2.2.2.2.2.1.2, (z0.2.2.2.2.2.2.2.2.1.1, (z0.2.2.2.2.2.2.2.2.1.2.1, (z0.2.2.2.2.2.2.2.2.1.2.2.1, (z0.2.2.2.2.2.2.2.2.1.2.2.2, (z0.2.2.2.2.2.2.2.2.2.1.1, (z0.2.2.2.2.2.2.2.2.2.1.2, (z0.2.2.2.2.2.2.2.2.2.2.1.1, (z0.2.2.2.2.2.2.2.2.2.2.1.2, (z0.2.2.2.2.2.2.2.2.2.2.2.1.1, (z0.2.2.2.2.2.2.2.2.2.2.2.1.2, (z0.2.2.2.2.2.2.2.2.2.2.2.2.1, (z0.2.2.2.2.2.2.2.2.2.2.2.2.2, ()))))))))))))))))))))))), (((z1, ())), (((z2.1, (z2.2.1, (z2.2.2, ())))), ()))))) (Ev.head_back_all z0.1 z0.2.1 z0.2.2.1 z0.2.2.2.1 z0.2.2.2.2.1 z0.2.2.2.2.2.1 z0.2.2.2.2.2.2.1.1 z0.2.2.2.2.2.2.1.2 z0.2.2.2.2.2.2.2.1.1 z0.2.2.2.2.2.2.2.1.2 z0.2.2.2.2.2.2.2.2.1.1 z0.2.2.2.2.2.2.2.2.1.2.1 z0.2.2.2.2.2.2.2.2.1.2.2.1 z0.2.2.2.2.2.2.2.2.1.2.2.2 z0.2.2.2.2.2.2.2.2.2.1.1 z0.2.2.2.2.2.2.2.2.2.1.2 z0.2.2.2.2.2.2.2.2.2.2.1.1 z0.2.2.2.2.2.2.2.2.2.2.1.2 z0.2.2.2.2.2.2.2.2.2.2.2.1.1 z0.2.2.2.2.2.2.2.2.2.2.2.1.2 z0.2.2.2.2.2.2.2.2.2.2.2.2.1 z0.2.2.2.2.2.2.2.2.2.2.2.2.2 z1 z2.1 z2.2.1 z2.2.2 ((Ev.pok m0).1) ((Ev.pok (Ev.pok m0).2).1) ((Ev.pok (Ev.pok (Ev.pok m0).2).2).1) ((Ev.pok (Ev.pok (Ev.pok (Ev.pok m0).2).2).2).1) ((Ev.pok (Ev.pok (Ev.pok (Ev.pok (Ev.pok m0).2).2).2).2).1) ((Ev.pok (Ev.pok (Ev.pok (Ev.pok (Ev.pok (Ev.pok m0).2).2).2).2).2).1) ((Ev.pok (Ev.pok (Ev.pok (Ev.pok (Ev.pok (Ev.pok (Ev.pok (Ev.pok m0).2).2).2).2).2).2).1).1) ((Ev.pok (Ev.pok (Ev.pok (Ev.pok (Ev.pok (Ev.pok (Ev.pok (Ev.pok m0).2).2).2).2).2).2).1).2) ((Ev.pok (Ev.pok (Ev.pok (Ev.pok (Ev.pok (Ev.pok (Ev.pok (Ev.pok (Ev.pok m0).2).2).2).2).2).2).2).1).1) ((Ev.pok (Ev.pok (Ev.pok (Ev.pok (Ev.pok (Ev.pok (Ev.pok (Ev.pok (Ev.pok m0).2).2).2).2).2).2).2).1).2) ((Ev.pok (Ev.pok (Ev.pok (Ev.pok (Ev.pok (Ev.pok (Ev.pok (Ev.pok (Ev.pok (Ev.pok m0).2).2).2).2).2).2).2).2).1).1) ((Ev.pok (Ev.pok (Ev.pok (Ev.pok (Ev.pok (Ev.pok (Ev.pok (Ev.pok (Ev.pok (Ev.pok (Ev.pok m0).2).2).2).2).2).2).2).2).1).2).1) ((Ev.pok (Ev.pok (Ev.pok (Ev.pok (Ev.pok (Ev.pok (Ev.pok (Ev.pok (Ev.pok (Ev.pok (Ev.pok (Ev.pok m0).2).2).2).2).2).2).2).2).1).2).2).1) ((Ev.pok (Ev.pok (Ev.pok (Ev.pok (Ev.pok (Ev.pok (Ev.pok (Ev.pok (Ev.pok (Ev.pok (Ev.pok (Ev.pok m0).2).2).2).2).2).2).2).2).1).2).2).2) ((Ev.pok (Ev.pok (Ev.pok (Ev.pok (Ev.pok (Ev.pok (Ev.pok (Ev.pok (Ev.pok (Ev.pok (Ev.pok m0).2).2).2).2).2).2).2).2).2).1).1) ((Ev.pok (Ev.pok (Ev.pok (Ev.pok (Ev.pok (Ev.pok (Ev.pok (Ev.pok (Ev.pok (Ev.pok (Ev.pok m0).2).2).2).2).2).2).2).2).2).1).2) ((Ev.pok (Ev.pok (Ev.pok (Ev.pok (Ev.pok (Ev.pok (Ev.pok (Ev.pok (Ev.pok (Ev.pok (Ev.pok (Ev.pok m0).2).2).2).2).2).2).2).2).2).2).1).1) ((Ev.pok (Ev.pok (Ev.pok (Ev.pok (Ev.pok (Ev.pok (Ev.pok (Ev.pok (Ev.pok (Ev.pok (Ev.pok (Ev.pok m0).2).2).2).2).2).2).2).2).2).2).1).2) ((Ev.pok (Ev.pok (Ev.pok (Ev.pok (Ev.pok (Ev.pok (Ev.pok (Ev.pok (Ev.pok (Ev.pok (Ev.pok (Ev.pok (Ev.pok m0).2).2).2).2).2).2).2).2).2).2).2).1).1) ((Ev.pok (Ev.pok (Ev.pok (Ev.pok (Ev.pok (Ev.pok (Ev.pok (Ev.pok (Ev.pok (Ev.pok (Ev.pok (Ev.pok (Ev.pok m0).2).2).2).2).2).2).2).2).2).2).2).1).2) ((Ev.pok (Ev.pok (Ev.pok (Ev.pok (Ev.pok (Ev.pok (Ev.pok (Ev.pok (Ev.pok (Ev.pok (Ev.pok (Ev.pok (Ev.pok m0).2).2).2).2).2).2).2).2).2).2).2).2).1) ((Ev.pok (Ev.pok (Ev.pok (Ev.pok (Ev.pok (Ev.pok (Ev.pok (Ev.pok (Ev.pok (Ev.pok (Ev.pok (Ev.pok (Ev.pok m0).2).2).2).2).2).2).2).2).2).2).2).2).2) (m1) ((Ev.pok m2).1) ((Ev.pok (Ev.pok m2).2).1) ((Ev.pok (Ev.pok m2).2).2)) W [v0, v1, v2] rfl rfl ⟨Ev.slot_agg e0 a0, ⟨Ev.slot_val (Ev.cells_slice Try.underlying33 (hval 1 33 v1 rfl rfl)) a1, ⟨Ev.slot_agg e2 a2, trivial⟩⟩⟩).mono fun e W' ⟨he, bel⟩ => ?_
  subst he
  exact ⟨_, rfl, _, _, _, [], _, [], hW', trodAll_mk1 (shut_bool Try.underlying4 _), (trodAll_cons_mk (Below.trod laidOut (by kernel_rfl) (of_decide_eq_true (by kernel_rfl)) h0 bel lt0) (trodAll_cons_mk (Below.trod laidOut (by kernel_rfl) (of_decide_eq_true (by kernel_rfl)) h1 bel lt1) (trodAll_cons_mk (Below.trod laidOut (by kernel_rfl) (of_decide_eq_true (by kernel_rfl)) h2 bel lt2) trodAll_mk0))), rfl, bel.frame _, fun h => by cases h⟩
theorem over : Rows.headBackRow.holds Try.pinned (OpenSpec.ofChange Rows.headBackSpec) :=
  OpenClaim.holds_of_wide 9 Try.f9 rfl rfl rfl rfl rfl rfl rfl ⟨rfl, rfl, rfl, rfl, rfl⟩ rfl rfl rfl rfl rfl (by kernel_rfl) Try.func9 (by kernel_rfl)
    (of_decide_eq_true (by kernel_rfl)) (by unfold Func.isWrapper; first | (rw [if_pos (by decide +kernel)]; kernel_rfl) | (rw [if_neg (by decide +kernel)]; exact ⟨rfl, rfl⟩))
    (fun os started H enc _ => lifted os started H enc)
theorem proved : Rows.HeadBackSaid := over
#print axioms proved
end Go.Proofs.Ythcegipmninkdaa.headBack
namespace Go.Proofs.Ythcegipmninkdaa
/-- The row, under a short name, for the claim. -/
theorem headBack_holds : Rows.HeadBackSaid := headBack.proved
end Go.Proofs.Ythcegipmninkdaa
