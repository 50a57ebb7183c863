/- RefidBack: for every input it is true, and nothing that stood before the call is touched. No condition. -/
import Derived.Test.YtodnllhjikeafaaDoorTie
import Derived.Test.YtodnllhjikeafaaDoorCards
import Derived.Test.YtodnllhjikeafaaDoorPureRefidBack
import Derived.Test.YtodnllhjikeafaaDoorEvE
import Derived.Test.YtodnllhjikeafaaDoorEvTab
import Derived.WalkKit
import Derived.ProofKit
import Derived.OpenShut
import Derived.ShutString
import Derived.ChangeOld
import Derived.Below
import Derived.SizedLaws
import Derived.LaidMore
import Derived.Lay
import Derived.SevenTiedAt
import Derived.Stop.Joined
namespace Go.Proofs.YtodnllhjikeafaaDoor.refidBack
open Go.ChangeShapes Go.WideShapes Go.ChangeAt Go.RowKit
set_option linter.unusedVariables false
theorem own : ownKnob Tryd.prog.godebug = none := by kernel_rfl
theorem laidOut : laidOutB Tryd.prog = true := by kernel_rfl
set_option maxRecDepth 100000 in
set_option maxHeartbeats 2000000 in
theorem lifted (os : Os) (started : os.Started) (H : Type) (enc : TypeId × Value → H) :
    ReturnsInHanded {} Tryd.checked os 4 .any (fun w args => (Rows.refidBackSpec.pre enc Tryd.prog Tryd.f4 Rows.refidBackRow.domain false w args ∧ laidMetH Tryd.prog Rows.refidBackRow.laid w) ∧ sizedMet enc Tryd.prog Tryd.f4 (OpenSpec.ofChange Rows.refidBackSpec) false w args) (Rows.refidBackSpec.post enc Tryd.prog Tryd.f4 false true false false) := by
  refine returnsInHanded_of_change_and (C := Tryd.checked) (X := fun w _ => laidMetH Tryd.prog Rows.refidBackRow.laid w) (fun _ _ _ hh h => h.of_heap hh) own started (by kernel_rfl) Tryd.func4
    (ChangeSpec.witness_shaped (enc := enc) (C := Tryd.checked) (os := os) (X := fun w _ => laidMetH Tryd.prog Rows.refidBackRow.laid w) false (World.laidAll Tryd.prog os Rows.refidBackRow.laid) #[.agg #[.int .u8 0, .int .u8 0, .int .u8 0, .int .u8 0], .string ByteArray.empty, .int .u32 0] 8 (World.laidAll_os _ _ _)
      (World.shaped_of_ZipB (by kernel_rfl) (by kernel_rfl)) (by kernel_rfl) (by kernel_rfl) (by kernel_rfl)
      (by rw [MakeChecks.laidMetH_plain _ _ _ (by kernel_rfl)]; exact laidMet_laidAll _ (by kernel_rfl) (by kernel_rfl))) ?_
  intro W base args ds gs before hval0 hW hcnd hsz0 hlaid _
  have hsz : (DataW.weightsEach Tryd.prog (Tryd.f4.params.toList ++ Rows.refidBackSpec.plain.varTypes Tryd.prog) (ds ++ gs)).all (· ≤ reachBytes) = true := hsz0
  have hval : ∀ (j : Nat) t v, Tryd.f4.params[j]? = some t → args[j]? = some v → Value.okWide Tryd.prog W .any base t v := hval0
  have hW' := hW
  obtain ⟨p, q, hA0, hV, rfl, hfz, hnd⟩ := hW
  have hA : DataW.TrodAll enc Tryd.prog W 0 (fun _ => true) true Tryd.f4.params.toList args.toList ds p := hA0
  rw [Tryd.params4] at hA hval hsz
  obtain ⟨v0, vs0, d0, ds0, p0, q0, hargs, rfl, rfl, h0, r0⟩ := trodAll_cons hA
  obtain ⟨v1, vs1, d1, ds1, p1, q1, rfl, rfl, rfl, h1, r1⟩ := trodAll_cons r0
  obtain ⟨v2, vs2, d2, ds2, p2, q2, rfl, rfl, rfl, h2, r2⟩ := trodAll_cons r1
  obtain ⟨rfl, rfl, rfl⟩ := trodAll_nil r2
  obtain rfl : args = #[v0, v1, v2] := by cases args; simp_all
  obtain ⟨rfl, rfl⟩ := trodVars_none hV
  have lt0 : ∀ x ∈ p0, x.block < W.heap.size := by obtain ⟨m, hm⟩ := h0; exact DataW.trod_lt m _ _ _ hm
  obtain ⟨z0, a0, m0⟩ := Ev.open_slot (ET := Ev.ET0) (B := reachBytes) (ty := (.pair (.int .u8) (.pair (.int .u8) (.pair (.int .u8) (.int .u8))))) 8 (by kernel_rfl) h0 (fun m hm => of_decide_eq_true (List.all_eq_true.1 hsz m (Ev.mem_weightsEach (i := 0) (t := 23) rfl rfl hm)))
  obtain ⟨cs0, e0⟩ := Ev.is_aggA Tryd.underlying23 (hval 0 23 v0 rfl rfl)
  have lt1 : ∀ x ∈ p1, x.block < W.heap.size := by obtain ⟨m, hm⟩ := h1; exact DataW.trod_lt m _ _ _ hm
  obtain ⟨z1, a1, m1⟩ := Ev.open_slot (ET := Ev.ET0) (B := reachBytes) (ty := .str) 8 (by kernel_rfl) h1 (fun m hm => of_decide_eq_true (List.all_eq_true.1 hsz m (Ev.mem_weightsEach (i := 1) (t := 9) rfl rfl hm)))
  have lt2 : ∀ x ∈ p2, x.block < W.heap.size := by obtain ⟨m, hm⟩ := h2; exact DataW.trod_lt m _ _ _ hm
  obtain ⟨z2, a2, m2⟩ := Ev.open_slot (ET := Ev.ET0) (B := reachBytes) (ty := (.int .u32)) 8 (by kernel_rfl) h2 (fun m hm => of_decide_eq_true (List.all_eq_true.1 hsz m (Ev.mem_weightsEach (i := 2) (t := 32) rfl rfl hm)))
  clear hA0 hval0 hsz0
  refine (Ev.law_calls Ev.ok_law30_RefidBack (d := ((), (((z0.1, (z0.2.1, (z0.2.2.1, (z0.2.2.2, ()))))), (((z1, ())), (((z2, ())), ()))))) (Ev.refid_back_all z0.1 z0.2.1 z0.2.2.1 z0.2.2.2 z1 z2 ((Ev.pok m0).1) ((Ev.pok (Ev.pok m0).2).1) ((Ev.pok (Ev.pok (Ev.pok m0).2).2).1) ((Ev.pok (Ev.pok (Ev.pok m0).2).2).2) (m2)) W (Ev.glb_start hlaid) [v0, v1, v2] rfl rfl ⟨Ev.slot_agg e0 a0, ⟨Ev.slot_val (Ev.cells_string Tryd.underlying9 (hval 1 9 v1 rfl rfl)) a1, ⟨Ev.slot_val (Ev.cells_int Tryd.underlying32 (hval 2 32 v2 rfl rfl)) a2, trivial⟩⟩⟩).mono fun e W' ⟨he, bel⟩ => ?_
  subst he
  exact ⟨_, rfl, _, _, _, [], _, [], hW', trodAll_mk1 (shut_bool Tryd.underlying4 _), (trodAll_cons_mk (Below.trod laidOut (by kernel_rfl) (of_decide_eq_true (by kernel_rfl)) h0 bel lt0) (trodAll_cons_mk (Below.trod laidOut (by kernel_rfl) (of_decide_eq_true (by kernel_rfl)) h1 bel lt1) (trodAll_cons_mk (Below.trod laidOut (by kernel_rfl) (of_decide_eq_true (by kernel_rfl)) h2 bel lt2) trodAll_mk0))), rfl, bel.frame _, fun h => by cases h⟩
theorem over : Rows.refidBackRow.holds Tryd.pinned (OpenSpec.ofChange Rows.refidBackSpec) :=
  OpenClaim.holds_of_wide 4 Tryd.f4 rfl rfl rfl rfl rfl rfl rfl ⟨rfl, rfl, rfl, rfl, rfl⟩ rfl rfl rfl rfl rfl (by kernel_rfl) Tryd.func4 (by kernel_rfl)
    (of_decide_eq_true (by kernel_rfl)) (by unfold Func.isWrapper; first | (rw [if_pos (by decide +kernel)]; kernel_rfl) | (rw [if_neg (by decide +kernel)]; exact ⟨rfl, rfl⟩))
    (fun os started H enc _ => lifted os started H enc)
theorem card : Rows.RefidBackCardSaid :=
  Claim7.holds_tied_plain_at .later [] [.data, .data, .data, .data, .pinned] true (true, "355ad5965483f80569b5205d4ae418054eed61ae34710d4b8baa2ee982486b18") true over (fun _ h => by cases h) (by kernel_rfl) (fun _ h => by cases h) refidBack_row_tie rfl ⟨rfl, rfl⟩ (by kernel_rfl) rfl
    (fun f fn hf hfn => by
      obtain rfl : f = 4 := Option.some.inj ((show Tryd.prog.funcNamed "horologe/horologelaw30.RefidBack" = some 4 by kernel_rfl).symm.trans hf) |>.symm
      obtain rfl : fn = Tryd.f4 := (Option.some.inj (Tryd.func4.symm.trans hfn)).symm
      exact ⟨by kernel_rfl, fun j t ht => by
        rw [Tryd.params4] at ht
        have hm : t ∈ [23, 9, 32] := by simpa using Array.mem_of_getElem? ht
        have hall : ([23, 9, 32].all fun u => !Tryd.prog.wantsStandIn u) = true := by kernel_rfl
        exact (show Tryd.prog.wantsStandIn t = false by simpa using List.all_eq_true.1 hall t hm)⟩)
    (by kernel_rfl)
#print axioms card
end Go.Proofs.YtodnllhjikeafaaDoor.refidBack
namespace Go.Proofs.YtodnllhjikeafaaDoor
/-- The card, under a short name, for the claim. -/
theorem refidBack_holds : Rows.RefidBackCardSaid := refidBack.card
end Go.Proofs.YtodnllhjikeafaaDoor
