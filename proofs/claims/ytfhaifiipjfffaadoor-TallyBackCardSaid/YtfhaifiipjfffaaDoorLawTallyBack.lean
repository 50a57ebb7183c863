/- TallyBack: for every input it is true, and nothing that stood before the call is touched. No condition. -/
import Derived.Test.YtfhaifiipjfffaaDoorTie
import Derived.Test.YtfhaifiipjfffaaDoorCards
import Derived.Test.YtfhaifiipjfffaaDoorPureTallyBack
import Derived.Test.YtfhaifiipjfffaaDoorEvE
import Derived.Test.YtfhaifiipjfffaaDoorEvTab
import Derived.WalkKit
import Derived.ProofKit
import Derived.OpenShut
import Derived.ShutString
import Derived.ChangeOld
import Derived.Below
import Derived.SizedLaws
import Derived.LaidMore
import Derived.Lay
import Derived.SevenTiedAt
import Derived.Stop.Joined
namespace Go.Proofs.YtfhaifiipjfffaaDoor.tallyBack
open Go.ChangeShapes Go.WideShapes Go.ChangeAt Go.RowKit
set_option linter.unusedVariables false
theorem own : ownKnob Tryd.prog.godebug = none := by kernel_rfl
theorem laidOut : laidOutB Tryd.prog = true := by kernel_rfl
set_option maxRecDepth 100000 in
set_option maxHeartbeats 2000000 in
theorem lifted (os : Os) (started : os.Started) (H : Type) (enc : TypeId × Value → H) :
    ReturnsInHanded {} Tryd.checked os 4 .any (fun w args => (Rows.tallyBackSpec.pre enc Tryd.prog Tryd.f4 Rows.tallyBackRow.domain false w args ∧ laidMetH Tryd.prog Rows.tallyBackRow.laid w) ∧ sizedMet enc Tryd.prog Tryd.f4 (OpenSpec.ofChange Rows.tallyBackSpec) false w args) (Rows.tallyBackSpec.post enc Tryd.prog Tryd.f4 false true false false) := by
  refine Ev.andShaped (C := Tryd.checked) (X := fun w _ => laidMetH Tryd.prog Rows.tallyBackRow.laid w) (fun _ _ _ hh h => h.of_heap hh) own started (by kernel_rfl) Tryd.func4
    (ChangeSpec.witness_shaped (enc := enc) (C := Tryd.checked) (os := os) (X := fun w _ => laidMetH Tryd.prog Rows.tallyBackRow.laid w) false (World.laidAll Tryd.prog os Rows.tallyBackRow.laid) #[.slice none 0 0, .string ByteArray.empty] 8 (World.laidAll_os _ _ _)
      (World.shaped_of_ZipB (by kernel_rfl) (by kernel_rfl)) (by kernel_rfl) (by kernel_rfl) (by kernel_rfl)
      (by rw [MakeChecks.laidMetH_plain _ _ _ (by kernel_rfl)]; exact laidMet_laidAll _ (by kernel_rfl) (by kernel_rfl))) ?_
  intro W base args ds gs before hval0 hW hcnd hsz0 hlaid hsh _
  have hsz : (DataW.weightsEach Tryd.prog (Tryd.f4.params.toList ++ Rows.tallyBackSpec.plain.varTypes Tryd.prog) (ds ++ gs)).all (· ≤ reachBytes) = true := hsz0
  have hval : ∀ (j : Nat) t v, Tryd.f4.params[j]? = some t → args[j]? = some v → Value.okWide Tryd.prog W .any base t v := hval0
  have hW' := hW
  obtain ⟨p, q, hA0, hV, rfl, hfz, hnd⟩ := hW
  have hA : DataW.TrodAll enc Tryd.prog W 0 (fun _ => true) true Tryd.f4.params.toList args.toList ds p := hA0
  rw [Tryd.params4] at hA hval hsz
  obtain ⟨v0, vs0, d0, ds0, p0, q0, hargs, rfl, rfl, h0, r0⟩ := trodAll_cons hA
  obtain ⟨v1, vs1, d1, ds1, p1, q1, rfl, rfl, rfl, h1, r1⟩ := trodAll_cons r0
  obtain ⟨rfl, rfl, rfl⟩ := trodAll_nil r1
  obtain rfl : args = #[v0, v1] := by cases args; simp_all
  obtain ⟨rfl, rfl⟩ := trodVars_none hV
  have lt0 : ∀ x ∈ p0, x.block < W.heap.size := by obtain ⟨m, hm⟩ := h0; exact DataW.trod_lt m _ _ _ hm
  obtain ⟨z0, a0, m0⟩ := Ev.open_slot (ET := Ev.ET0) (B := reachBytes) (ty := (.sl (.pair (.int .i64) (.int .i64)))) 8 (by kernel_rfl) h0 (fun m hm => of_decide_eq_true (List.all_eq_true.1 hsz m (Ev.mem_weightsEach (i := 0) (t := 22) rfl rfl hm)))
  have lt1 : ∀ x ∈ p1, x.block < W.heap.size := by obtain ⟨m, hm⟩ := h1; exact DataW.trod_lt m _ _ _ hm
  obtain ⟨z1, a1, m1⟩ := Ev.open_slot (ET := Ev.ET0) (B := reachBytes) (ty := .str) 8 (by kernel_rfl) h1 (fun m hm => of_decide_eq_true (List.all_eq_true.1 hsz m (Ev.mem_weightsEach (i := 1) (t := 9) rfl rfl hm)))
  clear hA0 hval0 hsz0
  refine (Ev.law_calls Ev.ok_law32_TallyBack (d := ((), (((z0, ())), (((z1, ())), ())))) (Ev.tally_back z0 z1 (Ev.arg_acts m0)) W (Ev.glb_start hlaid hsh) [v0, v1] rfl rfl ⟨Ev.slot_val (Ev.cells_slice Tryd.underlying22 (hval 0 22 v0 rfl rfl)) a0, ⟨Ev.slot_val (Ev.cells_string Tryd.underlying9 (hval 1 9 v1 rfl rfl)) a1, trivial⟩⟩).mono fun e W' ⟨he, bel⟩ => ?_
  subst he
  exact ⟨_, rfl, _, _, _, [], _, [], hW', trodAll_mk1 (shut_bool Tryd.underlying4 _), (trodAll_cons_mk (Below.trod laidOut (by kernel_rfl) (of_decide_eq_true (by kernel_rfl)) h0 bel lt0) (trodAll_cons_mk (Below.trod laidOut (by kernel_rfl) (of_decide_eq_true (by kernel_rfl)) h1 bel lt1) trodAll_mk0)), rfl, bel.frame _, fun h => by cases h⟩
theorem over : Rows.tallyBackRow.holds Tryd.pinned (OpenSpec.ofChange Rows.tallyBackSpec) :=
  OpenClaim.holds_of_wide 4 Tryd.f4 rfl rfl rfl rfl rfl rfl rfl ⟨rfl, rfl, rfl, rfl, rfl⟩ rfl rfl rfl rfl rfl (by kernel_rfl) Tryd.func4 (by kernel_rfl)
    (of_decide_eq_true (by kernel_rfl)) (by unfold Func.isWrapper; first | (rw [if_pos (by decide +kernel)]; kernel_rfl) | (rw [if_neg (by decide +kernel)]; exact ⟨rfl, rfl⟩))
    (fun os started H enc _ => lifted os started H enc)
theorem card : Rows.TallyBackCardSaid :=
  Claim7.holds_tied_plain_at .later [] [.data, .data, .data, .data, .listed, .data, .pinned] true (true, "eaf70aa73c58a10fa513b79c059ffa39b57d187e4599c06d029608692b4e3cd5") true over (fun _ h => by cases h) (by kernel_rfl) (fun _ h => by cases h) tallyBack_row_tie rfl ⟨rfl, rfl⟩ (by kernel_rfl) rfl
    (fun f fn hf hfn => by
      obtain rfl : f = 4 := Option.some.inj ((show Tryd.prog.funcNamed "horologe/horologelaw32.TallyBack" = some 4 by kernel_rfl).symm.trans hf) |>.symm
      obtain rfl : fn = Tryd.f4 := (Option.some.inj (Tryd.func4.symm.trans hfn)).symm
      exact ⟨by kernel_rfl, fun j t ht => by
        rw [Tryd.params4] at ht
        have hm : t ∈ [22, 9] := by simpa using Array.mem_of_getElem? ht
        have hall : ([22, 9].all fun u => !Tryd.prog.wantsStandIn u) = true := by kernel_rfl
        exact (show Tryd.prog.wantsStandIn t = false by simpa using List.all_eq_true.1 hall t hm)⟩)
    (by kernel_rfl)
#print axioms card
end Go.Proofs.YtfhaifiipjfffaaDoor.tallyBack
namespace Go.Proofs.YtfhaifiipjfffaaDoor
/-- The card, under a short name, for the claim. -/
theorem tallyBack_holds : Rows.TallyBackCardSaid := tallyBack.card
end Go.Proofs.YtfhaifiipjfffaaDoor
