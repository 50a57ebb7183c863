-- PRINTED BY print.sh 35421559b90ae4d0a3588c463048766b98c2df88dd9212a6774a882060cdf62d: not written by this session
import Derived.Test.YtecilflgjakhcaaPStampFractionsx0
import Derived.Test.YtecilflgjakhcaaPStampFractionsx1
import Derived.Test.YtecilflgjakhcaaPStampFractionsx2
namespace Go.Proofs.Ytecilflgjakhcaa.PStampFractions
open Go.RowKit Go.Proofs.YtecilflgjakhcaaW.PrintWords Go.Proofs.YtecilflgjakhcaaW.PrintLast Go.Proofs.YtecilflgjakhcaaW.PrintMore
attribute [local go_sem] max2_int min2_int max_two min_two max_three min_three max_four min_four   -- for this text's walks alone
set_option linter.unusedVariables false
set_option linter.unusedSimpArgs false

attribute [local go_sem high] eqA32
/-! ### horologelaw15_StampFractions: function 3 -/
mutual
def horologelaw15_StampFractions.j0 : Nat → Int → Int → Int → Bool → Option (Bool)
  | 0, _, _, _, _ => none
  | k + 1, x0, x1, x2, x27 => if x27 = true then (some false) else ((stamp_Span.f (IntKind.u16.wrap (x2 / 65536)) (IntKind.u16.wrap (x2))).bind fun bt114 => (if bt114.1 = (wrap64 (x2 / 65536)) then (if bt114.2 < 0 then (horologelaw15_StampFractions.j1 k x0 x1 true) else ((horologeref15_Whole.f (IntKind.u64.wrap (bt114.2)) (IntKind.u64.wrap (Int.tmod x2 65536)) 65536).bind fun t116 => (horologelaw15_StampFractions.j1 k x0 x1 (!t116)))) else (horologelaw15_StampFractions.j1 k x0 x1 true)))
def horologelaw15_StampFractions.j1 : Nat → Int → Int → Bool → Option (Bool)
  | 0, _, _, _ => none
  | k + 1, x0, x1, x55 => if x55 = true then (some false) else ((stamp_Fraction.f x0).bind fun bt117 => ((stamp_ShortOf.f x1 x0).bind fun bt119 => (if x0 < 0 then (horologelaw15_StampFractions.j2 k x0 x1 bt117.1 bt117.2 bt119.2.2 true bt119.1 bt119.2.1) else (horologelaw15_StampFractions.j2 k x0 x1 bt117.1 bt117.2 bt119.2.2 (decide (x0 > 999999999)) bt119.1 bt119.2.1))))
def horologelaw15_StampFractions.j2 : Nat → Int → Int → Int → Option Int → Option Int → Bool → Int → Int → Option (Bool)
  | 0, _, _, _, _, _, _, _, _ => none
  | k + 1, x0, x1, x10, x11, x13, x72, x123000, x123001 => if x72 = true then (if x10 = 0 then (if (x123000 == 0 && (x123001 == 0)) = true then ((horologenum_Is.f x11 1).bind fun t123 => (if t123 = true then ((horologenum_Is.f x13 1).bind fun t124 => (some t124)) else (some false))) else (some false)) else (some false)) else (if x11.isNone = true then ((horologeref15_Least.f (IntKind.u64.wrap (x10)) 4294967296 (IntKind.u64.wrap (x0))).bind fun t126 => (horologelaw15_StampFractions.j3 k x0 x1 x13 (!t126) x123000 x123001)) else (horologelaw15_StampFractions.j3 k x0 x1 x13 true x123000 x123001))
def horologelaw15_StampFractions.j3 : Nat → Int → Int → Option Int → Bool → Int → Int → Option (Bool)
  | 0, _, _, _, _, _, _ => none
  | k + 1, x0, x1, x13, x97, x123000, x123001 => if x97 = true then (some false) else (if x1 < 0 then (horologelaw15_StampFractions.j4 k x0 x1 x13 true x123000 x123001) else (horologelaw15_StampFractions.j4 k x0 x1 x13 (decide (x1 > 65535)) x123000 x123001))
def horologelaw15_StampFractions.j4 : Nat → Int → Int → Option Int → Bool → Int → Int → Option (Bool)
  | 0, _, _, _, _, _, _ => none
  | k + 1, x0, x1, x13, x103, x123000, x123001 => if x103 = true then (if (x123000 == 0 && (x123001 == 0)) = true then ((horologenum_Is.f x13 1).bind fun t127 => (some t127)) else (some false)) else (if x13.isNone = true then (if (wrap64 (x123000)) = x1 then ((horologeref15_Within.f (IntKind.u64.wrap (x123001)) 65536 (IntKind.u64.wrap (x0))).bind fun t129 => (some t129)) else (some false)) else (some false))
end
def horologelaw15_StampFractions.f (k : Nat) (a0 : Int) (a1 : Int) (a2 : Int) : Option (Bool) := (horologelaw15_alive.f).bind fun t111 => (if t111 = true then ((stamp_Nano.f a2).bind fun t112 => (if t112 < 0 then (horologelaw15_StampFractions.j0 k a0 a1 a2 true) else ((horologeref15_Whole.f (IntKind.u64.wrap (t112)) (IntKind.u64.wrap (a2)) 4294967296).bind fun t113 => (horologelaw15_StampFractions.j0 k a0 a1 a2 (!t113))))) else (some false))
theorem horologelaw15_StampFractions.mono_l : ∀ k, (∀ y0 y1 y2 y3, LeO (horologelaw15_StampFractions.j0 k y0 y1 y2 y3) (horologelaw15_StampFractions.j0 (k + 1) y0 y1 y2 y3)) ∧ (∀ y0 y1 y2, LeO (horologelaw15_StampFractions.j1 k y0 y1 y2) (horologelaw15_StampFractions.j1 (k + 1) y0 y1 y2)) ∧ (∀ y0 y1 y2 y3 y4 y5 y6 y7, LeO (horologelaw15_StampFractions.j2 k y0 y1 y2 y3 y4 y5 y6 y7) (horologelaw15_StampFractions.j2 (k + 1) y0 y1 y2 y3 y4 y5 y6 y7)) ∧ (∀ y0 y1 y2 y3 y4 y5, LeO (horologelaw15_StampFractions.j3 k y0 y1 y2 y3 y4 y5) (horologelaw15_StampFractions.j3 (k + 1) y0 y1 y2 y3 y4 y5)) ∧ (∀ y0 y1 y2 y3 y4 y5, LeO (horologelaw15_StampFractions.j4 k y0 y1 y2 y3 y4 y5) (horologelaw15_StampFractions.j4 (k + 1) y0 y1 y2 y3 y4 y5))
  | 0 => ⟨fun _ _ _ _ r h => by simp [horologelaw15_StampFractions.j0] at h, fun _ _ _ r h => by simp [horologelaw15_StampFractions.j1] at h, fun _ _ _ _ _ _ _ _ r h => by simp [horologelaw15_StampFractions.j2] at h, fun _ _ _ _ _ _ r h => by simp [horologelaw15_StampFractions.j3] at h, fun _ _ _ _ _ _ r h => by simp [horologelaw15_StampFractions.j4] at h⟩
  | k + 1 => by
    obtain ⟨ih0, ih1, ih2, ih3, ih4⟩ := horologelaw15_StampFractions.mono_l k
    refine ⟨?_, ?_, ?_, ?_, ?_⟩
    · intro y0 y1 y2 y3
      unfold horologelaw15_StampFractions.j0
      repeat' first
      | (with_reducible exact ih0 _ _ _ _)
      | (with_reducible exact ih1 _ _ _)
      | (with_reducible exact ih2 _ _ _ _ _ _ _ _)
      | (with_reducible exact ih3 _ _ _ _ _ _)
      | (with_reducible exact ih4 _ _ _ _ _ _)
      | (with_reducible exact LeO.refl _)
      | (with_reducible exact LeO.none _)
      | (with_reducible refine LeO.ite ?_ ?_)
      | (with_reducible refine LeO.bind ?_ (fun _ => ?_))
      | exact ih0 _ _ _ _
      | exact ih1 _ _ _
      | exact ih2 _ _ _ _ _ _ _ _
      | exact ih3 _ _ _ _ _ _
      | exact ih4 _ _ _ _ _ _
      | exact LeO.none _
      | refine LeO.ite ?_ ?_
      | refine LeO.bind ?_ (fun _ => ?_)
    · intro y0 y1 y2
      unfold horologelaw15_StampFractions.j1
      repeat' first
      | (with_reducible exact ih0 _ _ _ _)
      | (with_reducible exact ih1 _ _ _)
      | (with_reducible exact ih2 _ _ _ _ _ _ _ _)
      | (with_reducible exact ih3 _ _ _ _ _ _)
      | (with_reducible exact ih4 _ _ _ _ _ _)
      | (with_reducible exact LeO.refl _)
      | (with_reducible exact LeO.none _)
      | (with_reducible refine LeO.ite ?_ ?_)
      | (with_reducible refine LeO.bind ?_ (fun _ => ?_))
      | exact ih0 _ _ _ _
      | exact ih1 _ _ _
      | exact ih2 _ _ _ _ _ _ _ _
      | exact ih3 _ _ _ _ _ _
      | exact ih4 _ _ _ _ _ _
      | exact LeO.none _
      | refine LeO.ite ?_ ?_
      | refine LeO.bind ?_ (fun _ => ?_)
    · intro y0 y1 y2 y3 y4 y5 y6 y7
      unfold horologelaw15_StampFractions.j2
      repeat' first
      | (with_reducible exact ih0 _ _ _ _)
      | (with_reducible exact ih1 _ _ _)
      | (with_reducible exact ih2 _ _ _ _ _ _ _ _)
      | (with_reducible exact ih3 _ _ _ _ _ _)
      | (with_reducible exact ih4 _ _ _ _ _ _)
      | (with_reducible exact LeO.refl _)
      | (with_reducible exact LeO.none _)
      | (with_reducible refine LeO.ite ?_ ?_)
      | (with_reducible refine LeO.bind ?_ (fun _ => ?_))
      | exact ih0 _ _ _ _
      | exact ih1 _ _ _
      | exact ih2 _ _ _ _ _ _ _ _
      | exact ih3 _ _ _ _ _ _
      | exact ih4 _ _ _ _ _ _
      | exact LeO.none _
      | refine LeO.ite ?_ ?_
      | refine LeO.bind ?_ (fun _ => ?_)
    · intro y0 y1 y2 y3 y4 y5
      unfold horologelaw15_StampFractions.j3
      repeat' first
      | (with_reducible exact ih0 _ _ _ _)
      | (with_reducible exact ih1 _ _ _)
      | (with_reducible exact ih2 _ _ _ _ _ _ _ _)
      | (with_reducible exact ih3 _ _ _ _ _ _)
      | (with_reducible exact ih4 _ _ _ _ _ _)
      | (with_reducible exact LeO.refl _)
      | (with_reducible exact LeO.none _)
      | (with_reducible refine LeO.ite ?_ ?_)
      | (with_reducible refine LeO.bind ?_ (fun _ => ?_))
      | exact ih0 _ _ _ _
      | exact ih1 _ _ _
      | exact ih2 _ _ _ _ _ _ _ _
      | exact ih3 _ _ _ _ _ _
      | exact ih4 _ _ _ _ _ _
      | exact LeO.none _
      | refine LeO.ite ?_ ?_
      | refine LeO.bind ?_ (fun _ => ?_)
    · intro y0 y1 y2 y3 y4 y5
      unfold horologelaw15_StampFractions.j4
      repeat' first
      | (with_reducible exact ih0 _ _ _ _)
      | (with_reducible exact ih1 _ _ _)
      | (with_reducible exact ih2 _ _ _ _ _ _ _ _)
      | (with_reducible exact ih3 _ _ _ _ _ _)
      | (with_reducible exact ih4 _ _ _ _ _ _)
      | (with_reducible exact LeO.refl _)
      | (with_reducible exact LeO.none _)
      | (with_reducible refine LeO.ite ?_ ?_)
      | (with_reducible refine LeO.bind ?_ (fun _ => ?_))
      | exact ih0 _ _ _ _
      | exact ih1 _ _ _
      | exact ih2 _ _ _ _ _ _ _ _
      | exact ih3 _ _ _ _ _ _
      | exact ih4 _ _ _ _ _ _
      | exact LeO.none _
      | refine LeO.ite ?_ ?_
      | refine LeO.bind ?_ (fun _ => ?_)
theorem horologelaw15_StampFractions.mono : ∀ a0 a1 a2 k, LeO (horologelaw15_StampFractions.f k a0 a1 a2) (horologelaw15_StampFractions.f (k + 1) a0 a1 a2) := by
  intro a0 a1 a2 k
  obtain ⟨ih0, ih1, ih2, ih3, ih4⟩ := horologelaw15_StampFractions.mono_l k
  unfold horologelaw15_StampFractions.f
  repeat' first
      | (with_reducible exact ih0 _ _ _ _)
      | (with_reducible exact ih1 _ _ _)
      | (with_reducible exact ih2 _ _ _ _ _ _ _ _)
      | (with_reducible exact ih3 _ _ _ _ _ _)
      | (with_reducible exact ih4 _ _ _ _ _ _)
      | (with_reducible exact LeO.refl _)
      | (with_reducible exact LeO.none _)
      | (with_reducible refine LeO.ite ?_ ?_)
      | (with_reducible refine LeO.bind ?_ (fun _ => ?_))
      | exact ih0 _ _ _ _
      | exact ih1 _ _ _
      | exact ih2 _ _ _ _ _ _ _ _
      | exact ih3 _ _ _ _ _ _
      | exact ih4 _ _ _ _ _ _
      | exact LeO.none _
      | refine LeO.ite ?_ ?_
      | refine LeO.bind ?_ (fun _ => ?_)
set_option maxHeartbeats 8000000 in
set_option maxRecDepth 100000 in
theorem horologelaw15_StampFractions.calls (k : Nat) (a0 : Int) (a1 : Int) (a2 : Int) (r : Bool) (w : World) (h : horologelaw15_StampFractions.f k a0 a1 a2 = some r) :
    Calls Try.prog 3 #[.int .i64 a0, .int .i64 a1, .int .u32 a2] w fun e w' => e = .returned (.bool r) ∧ Below w.heap.size w w' := by
  have hu32 := Try.underlying32
  have hu34 := Try.underlying34
  have hu40 := Try.underlying40
  have HB := Aside0.mk (Below.refl w.heap.size w)
  have H : ((horologelaw15_alive.f).bind fun t111 => (if t111 = true then ((stamp_Nano.f a2).bind fun t112 => (if t112 < 0 then (horologelaw15_StampFractions.j0 k a0 a1 a2 true) else ((horologeref15_Whole.f (IntKind.u64.wrap (t112)) (IntKind.u64.wrap (a2)) 4294967296).bind fun t113 => (horologelaw15_StampFractions.j0 k a0 a1 a2 (!t113))))) else (some false))) = some r := h
  clear h
  replace H := Option.bind_eq_some_iff.mp H
  obtain ⟨t111, A40, H⟩ := H
  replace H : (if t111 = true then ((stamp_Nano.f a2).bind fun t112 => (if t112 < 0 then (horologelaw15_StampFractions.j0 k a0 a1 a2 true) else ((horologeref15_Whole.f (IntKind.u64.wrap (t112)) (IntKind.u64.wrap (a2)) 4294967296).bind fun t113 => (horologelaw15_StampFractions.j0 k a0 a1 a2 (!t113))))) else (some false)) = some r := H
  have A4 := Aside0.mk A40
  clear A40
  by_cases c5 : t111 = true
  · subst c5
    have H1 : ((stamp_Nano.f a2).bind fun t112 => (if t112 < 0 then (horologelaw15_StampFractions.j0 k a0 a1 a2 true) else ((horologeref15_Whole.f (IntKind.u64.wrap (t112)) (IntKind.u64.wrap (a2)) 4294967296).bind fun t113 => (horologelaw15_StampFractions.j0 k a0 a1 a2 (!t113))))) = some r := by rw [if_pos rfl] at H; exact H
    clear H
    have H := H1
    clear H1
    replace H := Option.bind_eq_some_iff.mp H
    obtain ⟨t112, A60, H⟩ := H
    replace H : (if t112 < 0 then (horologelaw15_StampFractions.j0 k a0 a1 a2 true) else ((horologeref15_Whole.f (IntKind.u64.wrap (t112)) (IntKind.u64.wrap (a2)) 4294967296).bind fun t113 => (horologelaw15_StampFractions.j0 k a0 a1 a2 (!t113)))) = some r := H
    have A6 := Aside0.mk A60
    clear A60
    have HC7 := Aside0.mk H
    clear H
    go_enter Try.func3, Try.ntmps3
    go_upto_region 4 with (first | ((with_reducible refine gate_callee (f := 15) rfl ?_); refine goesL_ (some 14) rfl rfl Try.func15 (by kernel_rfl) rfl #[] rfl (by (try simp only [List.map_toArray, List.map_cons, List.map_nil]); first | done | rfl | (simp only [List.length_drop, List.length_take]; rfl)) ?_; (with_reducible refine (horologelaw15_alive.calls  true _ A4.out).mono ?_); rintro e w' ⟨rfl, ⟨nd, rfl⟩⟩; refine ⟨_, rfl, ?_⟩) | ((with_reducible refine gate_callee (f := 16) rfl ?_); refine goesL_ (some 17) rfl rfl Try.func16 (by kernel_rfl) rfl #[.int .u32 a2] rfl (by (try simp only [List.map_toArray, List.map_cons, List.map_nil]); first | done | rfl | (simp only [List.length_drop, List.length_take]; rfl)) ?_; (with_reducible refine (stamp_Nano.calls a2 t112 _ A6.out).mono ?_); rintro e w' ⟨rfl, ⟨nd, rfl⟩⟩; refine ⟨_, rfl, ?_⟩))
    (try simp only [Act.put, List.setIfInBounds_toArray, List.set_cons_zero, List.set_cons_succ])
    go_cut [27] (fun v27 wc => ∃ (kq : Nat) (x27_6 : Bool), v27 = .bool x27_6 ∧ Aside0 (horologelaw15_StampFractions.j0 kq a0 a1 a2 x27_6 = some r) ∧ Aside0 (kq ≤ k) ∧ Aside0 (Below w.heap.size w wc))
    case first =>
      have H := HC7.out
      clear HC7
      by_cases c8 : t112 < 0
      · rw [if_pos c8] at H
        have c8b0 : decide (t112 < 0) = true := decide_eq_true c8
        clear c8
        (first | rw [c8b0] | (simp only [i64_w, i32_w]; rw [c8b0]) | skip)
        have H' := Aside0.mk H
        clear H
        go_wp2
        go_meet
        case rel => exact ⟨_, (true), (by first | rfl | (simp; done) | (simp [*]; done)), H', ⟨by first | omega | exact Nat.le_refl _⟩, ⟨by repeat (first | (with_reducible first | exact HB.out | apply below_alloc | apply pw_below_drewN | apply below_drew1) | exact HB.out)⟩⟩
      · rw [if_neg c8] at H
        have c8b0 : decide (t112 < 0) = false := decide_eq_false c8
        clear c8
        (first | rw [c8b0] | (simp only [i64_w, i32_w]; rw [c8b0]) | skip)
        replace H := Option.bind_eq_some_iff.mp H
        obtain ⟨t113, A90, H⟩ := H
        replace H : (horologelaw15_StampFractions.j0 k a0 a1 a2 (!t113)) = some r := H
        have A9 := Aside0.mk A90
        clear A90
        have H' := Aside0.mk H
        clear H
        go_wp2_with (first | (go_at_call 17; (with_reducible refine (horologeref15_Whole.calls (IntKind.u64.wrap (t112)) (IntKind.u64.wrap (a2)) 4294967296 t113 _ A9.out).mono ?_); rintro e w' ⟨rfl, ⟨nd, rfl⟩⟩))
        go_meet
        case rel => exact ⟨_, (!t113), (by first | rfl | (simp; done) | (simp [*]; done)), H', ⟨by first | omega | exact Nat.le_refl _⟩, ⟨by repeat (first | (with_reducible first | exact HB.out | apply below_alloc | apply pw_below_drewN | apply below_drew1) | exact HB.out)⟩⟩
    case rest =>
      clear HC7
      try clear c1
      try clear p2
      try clear c3
      try clear c5
      try clear c8
      try clear c8b0
      obtain ⟨kq, x27_6, rfl, HA, HJ6, HB⟩ := hcut
      cases kq with
      | zero => exact absurd HA.out (by simp [horologelaw15_StampFractions.j0])
      | succ kj6 =>
        have H := HA.out
        clear HA
        simp only [horologelaw15_StampFractions.j0] at H
        by_cases c10 : x27_6 = true
        · subst c10
          have H1 : (some false) = some r := by rw [if_pos rfl] at H; exact H
          clear H
          have H := H1
          clear H1
          obtain rfl := Option.some.inj H
          go_wp2
          go_ret
          exact ⟨by first | rfl | (simp [errW_none, errW_some] <;> rfl) | (simp [*, errW_none, errW_some] <;> rfl), by repeat (first | (with_reducible first | exact HB.out | apply below_alloc | apply pw_below_drewN | apply below_drew1) | exact HB.out)⟩
        · replace c10 := Bool.eq_false_iff.mpr c10
          subst c10
          have H1 : ((stamp_Span.f (IntKind.u16.wrap (a2 / 65536)) (IntKind.u16.wrap (a2))).bind fun bt114 => (if bt114.1 = (wrap64 (a2 / 65536)) then (if bt114.2 < 0 then (horologelaw15_StampFractions.j1 kj6 a0 a1 true) else ((horologeref15_Whole.f (IntKind.u64.wrap (bt114.2)) (IntKind.u64.wrap (Int.tmod a2 65536)) 65536).bind fun t116 => (horologelaw15_StampFractions.j1 kj6 a0 a1 (!t116)))) else (horologelaw15_StampFractions.j1 kj6 a0 a1 true))) = some r := by rw [if_neg (show ¬ (false = true) by decide)] at H; exact H
          clear H
          have H := H1
          clear H1
          replace H := Option.bind_eq_some_iff.mp H
          obtain ⟨⟨t114, t115⟩, A110, H⟩ := H
          replace H : (if t114 = (wrap64 (a2 / 65536)) then (if t115 < 0 then (horologelaw15_StampFractions.j1 kj6 a0 a1 true) else ((horologeref15_Whole.f (IntKind.u64.wrap (t115)) (IntKind.u64.wrap (Int.tmod a2 65536)) 65536).bind fun t116 => (horologelaw15_StampFractions.j1 kj6 a0 a1 (!t116)))) else (horologelaw15_StampFractions.j1 kj6 a0 a1 true)) = some r := H
          have A11 := Aside0.mk A110
          clear A110
          have HC12 := Aside0.mk H
          clear H
          go_upto_region 7 with (first | ((with_reducible refine gate_callee (f := 18) rfl ?_); refine goesL_ (some 35) rfl rfl Try.func18 (by kernel_rfl) rfl #[.agg #[.int .u16 (IntKind.u16.wrap (a2 / 65536)), .int .u16 (IntKind.u16.wrap (a2))]] rfl (by (try simp only [List.map_toArray, List.map_cons, List.map_nil]); first | done | rfl | (simp only [List.length_drop, List.length_take]; rfl)) ?_; (with_reducible refine (stamp_Span.calls (IntKind.u16.wrap (a2 / 65536)) (IntKind.u16.wrap (a2)) t114 t115 _ A11.out).mono ?_); rintro e w13 ⟨rfl, hb⟩; refine ⟨_, rfl, ?_⟩; have n0_ := Aside0.mk (below_step (by repeat (first | (with_reducible first | exact HB.out | apply below_alloc | apply pw_below_drewN | apply below_drew1) | exact HB.out)) hb); clear HB; have HB := n0_; clear n0_; (try clear hb); (try clear hb2); (try clear hk); (try clear hi)))
          (try simp only [Act.put, List.setIfInBounds_toArray, List.set_cons_zero, List.set_cons_succ])
          go_cut [55] (fun v55 wc => ∃ (kq : Nat) (x55_11 : Bool), v55 = .bool x55_11 ∧ Aside0 (horologelaw15_StampFractions.j1 kq a0 a1 x55_11 = some r) ∧ Aside0 (kq ≤ kj6) ∧ Aside0 (Below w.heap.size w wc))
          case first =>
            have H := HC12.out
            clear HC12
            by_cases c14 : t114 = (wrap64 (a2 / 65536))
            · rw [if_pos c14] at H
              have c14b0 : (t114 == (wrap64 (a2 / 65536))) = true := beq_iff_eq.mpr c14
              have c14b1 : (t114 != (wrap64 (a2 / 65536))) = false := bne_eq_false_iff_eq.mpr c14
              clear c14
              (first | rw [c14b0] | (simp only [i64_w, i32_w]; rw [c14b0]) | skip)
              by_cases c15 : t115 < 0
              · rw [if_pos c15] at H
                have c15b0 : decide (t115 < 0) = true := decide_eq_true c15
                clear c15
                have H' := Aside0.mk H
                clear H
                go_wp2
                go_meet
                case rel => exact ⟨_, (true), (by first | rfl | (simp; done) | (simp [*]; done)), H', ⟨by have := HJ6.out; first | omega | exact Nat.le_refl _⟩, ⟨by repeat (first | (with_reducible first | exact HB.out | apply below_alloc | apply pw_below_drewN | apply below_drew1) | exact HB.out)⟩⟩
              · rw [if_neg c15] at H
                have c15b0 : decide (t115 < 0) = false := decide_eq_false c15
                clear c15
                replace H := Option.bind_eq_some_iff.mp H
                obtain ⟨t116, A160, H⟩ := H
                replace H : (horologelaw15_StampFractions.j1 kj6 a0 a1 (!t116)) = some r := H
                have A16 := Aside0.mk A160
                clear A160
                have H' := Aside0.mk H
                clear H
                go_wp2_with (first | (go_at_call 17; (with_reducible refine (horologeref15_Whole.calls (IntKind.u64.wrap (t115)) (IntKind.u64.wrap (Int.tmod a2 65536)) 65536 t116 _ A16.out).mono ?_); rintro e w' ⟨rfl, ⟨nd, rfl⟩⟩))
                go_meet
                case rel => exact ⟨_, (!t116), (by first | rfl | (simp; done) | (simp [*]; done)), H', ⟨by have := HJ6.out; first | omega | exact Nat.le_refl _⟩, ⟨by repeat (first | (with_reducible first | exact HB.out | apply below_alloc | apply pw_below_drewN | apply below_drew1) | exact HB.out)⟩⟩
            · rw [if_neg c14] at H
              have c14b0 : (t114 == (wrap64 (a2 / 65536))) = false := beq_eq_false_iff_ne.mpr c14
              have c14b1 : (t114 != (wrap64 (a2 / 65536))) = true := bne_iff_ne.mpr c14
              (first | rw [c14b0] | (simp only [i64_w, i32_w]; rw [c14b0]) | skip)
              have H' := Aside0.mk H
              clear H
              go_wp2
              go_meet
              case rel => exact ⟨_, (true), (by first | rfl | (simp; done) | (simp [*]; done)), H', ⟨by have := HJ6.out; first | omega | exact Nat.le_refl _⟩, ⟨by repeat (first | (with_reducible first | exact HB.out | apply below_alloc | apply pw_below_drewN | apply below_drew1) | exact HB.out)⟩⟩
          case rest =>
            clear HC12
            try clear c1
            try clear p2
            try clear c3
            try clear c5
            try clear p6
            try clear c8
            try clear c8b0
            try clear c10
            try clear c14
            try clear c14b0
            try clear c14b1
            try clear c15
            try clear c15b0
            try clear c16
            try clear p2
            obtain ⟨kq, x55_11, rfl, HA, HJ11, HB⟩ := hcut
            cases kq with
            | zero => exact absurd HA.out (by simp [horologelaw15_StampFractions.j1])
            | succ kj11 =>
              have H := HA.out
              clear HA
              simp only [horologelaw15_StampFractions.j1] at H
              by_cases c17 : x55_11 = true
              · subst c17
                have H1 : (some false) = some r := by rw [if_pos rfl] at H; exact H
                clear H
                have H := H1
                clear H1
                obtain rfl := Option.some.inj H
                go_wp2
                go_ret
                exact ⟨by first | rfl | (simp [errW_none, errW_some] <;> rfl) | (simp [*, errW_none, errW_some] <;> rfl), by repeat (first | (with_reducible first | exact HB.out | apply below_alloc | apply pw_below_drewN | apply below_drew1) | exact HB.out)⟩
              · replace c17 := Bool.eq_false_iff.mpr c17
                subst c17
                have H1 : ((stamp_Fraction.f a0).bind fun bt117 => ((stamp_ShortOf.f a1 a0).bind fun bt119 => (if a0 < 0 then (horologelaw15_StampFractions.j2 kj11 a0 a1 bt117.1 bt117.2 bt119.2.2 true bt119.1 bt119.2.1) else (horologelaw15_StampFractions.j2 kj11 a0 a1 bt117.1 bt117.2 bt119.2.2 (decide (a0 > 999999999)) bt119.1 bt119.2.1)))) = some r := by rw [if_neg (show ¬ (false = true) by decide)] at H; exact H
                clear H
                have H := H1
                clear H1
                replace H := Option.bind_eq_some_iff.mp H
                obtain ⟨⟨t117, t118⟩, A180, H⟩ := H
                replace H : ((stamp_ShortOf.f a1 a0).bind fun bt119 => (if a0 < 0 then (horologelaw15_StampFractions.j2 kj11 a0 a1 t117 t118 bt119.2.2 true bt119.1 bt119.2.1) else (horologelaw15_StampFractions.j2 kj11 a0 a1 t117 t118 bt119.2.2 (decide (a0 > 999999999)) bt119.1 bt119.2.1))) = some r := H
                have A18 := Aside0.mk A180
                clear A180
                replace H := Option.bind_eq_some_iff.mp H
                obtain ⟨⟨t119, t120, t121⟩, A190, H⟩ := H
                replace H : (if a0 < 0 then (horologelaw15_StampFractions.j2 kj11 a0 a1 t117 t118 t121 true t119 t120) else (horologelaw15_StampFractions.j2 kj11 a0 a1 t117 t118 t121 (decide (a0 > 999999999)) t119 t120)) = some r := H
                have A19 := Aside0.mk A190
                clear A190
                have HC20 := Aside0.mk H
                clear H
                go_upto_region 11 with (first | ((with_reducible refine gate_callee (f := 19) rfl ?_); refine goesL_ (some 58) rfl rfl Try.func19 (by kernel_rfl) rfl #[.int .i64 a0] rfl (by (try simp only [List.map_toArray, List.map_cons, List.map_nil]); first | done | rfl | (simp only [List.length_drop, List.length_take]; rfl)) ?_; (with_reducible refine (stamp_Fraction.calls a0 t117 t118 _ A18.out).mono ?_); rintro e w' ⟨rfl, ⟨nd, rfl⟩⟩; refine ⟨_, rfl, ?_⟩; (try simp only [errW_none, errW_some]); (try (rw [drewN_self wc]; generalize hq_ : World.drewN wc _ = wc; have n0_ : Aside0 (Below w.heap.size w wc) := ⟨by rw [← hq_]; exact (by repeat (first | (with_reducible first | exact HB.out | apply below_alloc | apply pw_below_drewN | apply below_drew1) | exact HB.out))⟩; clear HB hq_; have HB := n0_; clear n0_))) | ((with_reducible refine gate_callee (f := 20) rfl ?_); refine goesL_ (some 64) rfl rfl Try.func20 (by kernel_rfl) rfl #[.int .i64 a1, .int .i64 a0] rfl (by (try simp only [List.map_toArray, List.map_cons, List.map_nil]); first | done | rfl | (simp only [List.length_drop, List.length_take]; rfl)) ?_; (with_reducible refine (stamp_ShortOf.calls a1 a0 t119 t120 t121 _ A19.out).mono ?_); rintro e w21 ⟨rfl, hb⟩; refine ⟨_, rfl, ?_⟩; have n0_ := Aside0.mk (below_step (by repeat (first | (with_reducible first | exact HB.out | apply below_alloc | apply pw_below_drewN | apply below_drew1) | exact HB.out)) hb); clear HB; have HB := n0_; clear n0_; (try clear hb); (try clear hb2); (try clear hk); (try clear hi); (try simp only [errW_none, errW_some])) | ((with_reducible refine gate_dst (N := 12) rfl ?_); refine box_event ?hg (N := 12) ?hd (cs := #[.int .u16 0, .int .u16 0]) (t := 32) ?hr ?_; (case hd => rfl); (case hg => rfl); (case hr => first | (go_simp; done) | (go_simp; rfl)); intro gb122 hg w22 hbox hb; have n0_ := Aside0.mk (below_step (by repeat (first | (with_reducible first | exact HB.out | apply below_alloc | apply pw_below_drewN | apply below_drew1) | exact HB.out)) hb); have n1_ := Aside0.mk (hbox); have n2_ := Aside0.mk ((by rw [hg]; exact (below_size (by repeat (first | (with_reducible first | exact HB.out | apply below_alloc | apply pw_below_drewN | apply below_drew1) | exact HB.out))) : w.heap.size ≤ gb122)); have n3_ := Aside0.mk ((by rw [hg]; exact (below_size (by repeat (first | (with_reducible first | exact HB.out | apply below_alloc | apply pw_below_drewN | apply below_drew1) | exact HB.out))) : w.heap.size ≤ gb122)); clear HB; have HB := n0_; have BK122 := n1_; have GW122 := n2_; have GE122 := n3_; clear n0_ n1_ n2_ n3_; clear hb hbox hg; have hcz23_0 : w22.cell? ⟨gb122, 0, none⟩ = some (.int .u16 0) := (blk_cell BK122.out 0).trans rfl; have hcz23_1 : w22.cell? ⟨gb122, 1, none⟩ = some (.int .u16 0) := (blk_cell BK122.out 1).trans rfl; have hfz23_0 := blk_frozen BK122.out 0; have hfz23_1 := blk_frozen BK122.out 1))
                (try simp only [Act.put, List.setIfInBounds_toArray, List.set_cons_zero, List.set_cons_succ])
                go_cut [72] (fun v72 wc => ∃ (kq : Nat) (x72_19 : Bool), v72 = .bool x72_19 ∧ Aside0 (horologelaw15_StampFractions.j2 kq a0 a1 t117 t118 t121 x72_19 t119 t120 = some r) ∧ Aside0 (kq ≤ kj11) ∧ Aside0 (wc.heap[gb122]? = some (.cells #[.int .u16 t119, .int .u16 t120] 32 (0, 0))) ∧ Aside0 (Below w.heap.size w wc))
                case first =>
                  have H := HC20.out
                  clear HC20
                  by_cases c24 : a0 < 0
                  · rw [if_pos c24] at H
                    have c24b0 : decide (a0 < 0) = true := decide_eq_true c24
                    clear c24
                    (first | rw [c24b0] | (simp only [i64_w, i32_w]; rw [c24b0]) | skip)
                    have H' := Aside0.mk H
                    clear H
                    go_wp2
                    go_meet
                    case rel => exact ⟨_, (true), (by first | rfl | (simp; done) | (simp [*]; done)), H', ⟨by have := HJ6.out; have := HJ11.out; first | omega | exact Nat.le_refl _⟩, ⟨by (with_reducible repeat (first | refine blk_drewN ?_ _ | refine blk_drew ?_ | refine blk_alloc ?_ _)); refine blk_put (cs := #[.int .u16 t119, .int .u16 0]) ?_ 1 _ rfl; (with_reducible repeat (first | refine blk_drewN ?_ _ | refine blk_drew ?_ | refine blk_alloc ?_ _)); refine blk_put (cs := #[.int .u16 0, .int .u16 0]) ?_ 0 _ rfl; (with_reducible repeat (first | refine blk_drewN ?_ _ | refine blk_drew ?_ | refine blk_alloc ?_ _)); exact BK122.out⟩, ⟨by repeat (first | (with_reducible first | exact HB.out | apply below_alloc | apply pw_below_drewN | apply below_drew1 | refine below_set ?_ GE122.out) | exact HB.out)⟩⟩
                  · rw [if_neg c24] at H
                    have c24b0 : decide (a0 < 0) = false := decide_eq_false c24
                    clear c24
                    (first | rw [c24b0] | (simp only [i64_w, i32_w]; rw [c24b0]) | skip)
                    have H' := Aside0.mk H
                    clear H
                    go_wp2
                    go_meet
                    case rel => exact ⟨_, (decide (a0 > 999999999)), (by first | rfl | (simp; done) | (simp [*]; done)), H', ⟨by have := HJ6.out; have := HJ11.out; first | omega | exact Nat.le_refl _⟩, ⟨by (with_reducible repeat (first | refine blk_drewN ?_ _ | refine blk_drew ?_ | refine blk_alloc ?_ _)); refine blk_put (cs := #[.int .u16 t119, .int .u16 0]) ?_ 1 _ rfl; (with_reducible repeat (first | refine blk_drewN ?_ _ | refine blk_drew ?_ | refine blk_alloc ?_ _)); refine blk_put (cs := #[.int .u16 0, .int .u16 0]) ?_ 0 _ rfl; (with_reducible repeat (first | refine blk_drewN ?_ _ | refine blk_drew ?_ | refine blk_alloc ?_ _)); exact BK122.out⟩, ⟨by repeat (first | (with_reducible first | exact HB.out | apply below_alloc | apply pw_below_drewN | apply below_drew1 | refine below_set ?_ GE122.out) | exact HB.out)⟩⟩
                case rest =>
                  clear HC20
                  try clear c1
                  try clear c2
                  try clear p2
                  try clear c3
                  try clear c5
                  try clear p6
                  try clear c8
                  try clear c8b0
                  try clear c10
                  try clear c14
                  try clear c14b0
                  try clear c14b1
                  try clear c15
                  try clear c15b0
                  try clear c16
                  try clear c17
                  try clear c18
                  try clear c19
                  try clear c20
                  try clear c24
                  try clear c24b0
                  try clear hcz23_0
                  try clear hcz23_1
                  try clear hfz23_0
                  try clear hfz23_1
                  try clear p2
                  try clear p6
                  obtain ⟨kq, x72_19, rfl, HA, HJ19, BK122, HB⟩ := hcut
                  cases kq with
                  | zero => exact absurd HA.out (by simp [horologelaw15_StampFractions.j2])
                  | succ kj19 =>
                    have H := HA.out
                    clear HA
                    simp only [horologelaw15_StampFractions.j2] at H
                    by_cases c25 : x72_19 = true
                    · subst c25
                      have H1 : (if t117 = 0 then (if (t119 == 0 && (t120 == 0)) = true then ((horologenum_Is.f t118 1).bind fun t123 => (if t123 = true then ((horologenum_Is.f t121 1).bind fun t124 => (some t124)) else (some false))) else (some false)) else (some false)) = some r := by rw [if_pos rfl] at H; exact H
                      clear H
                      have H := H1
                      clear H1
                      by_cases c26 : t117 = 0
                      · rw [if_pos c26] at H
                        have c26b0 : (t117 == 0) = true := beq_iff_eq.mpr c26
                        have c26b1 : (t117 != 0) = false := bne_eq_false_iff_eq.mpr c26
                        clear c26
                        by_cases c27 : (t119 == 0 && (t120 == 0)) = true
                        · rw [if_pos c27] at H
                          have c27b0 : (t119 == 0 && (t120 == 0)) = true := c27
                          (try (have c27b1 : decide (t119 = 0 && (t120 == 0)) = true := by simpa using c27))
                          (try (have c27b2 : (t119 == 0 && (t120 == 0)) = true := by simpa using c27))
                          clear c27
                          replace H := Option.bind_eq_some_iff.mp H
                          obtain ⟨t123, A280, H⟩ := H
                          replace H : (if t123 = true then ((horologenum_Is.f t121 1).bind fun t124 => (some t124)) else (some false)) = some r := H
                          have A28 := Aside0.mk A280
                          clear A280
                          by_cases c29 : t123 = true
                          · subst c29
                            have H1 : ((horologenum_Is.f t121 1).bind fun t124 => (some t124)) = some r := by rw [if_pos rfl] at H; exact H
                            clear H
                            have H := H1
                            clear H1
                            replace H := Option.bind_eq_some_iff.mp H
                            obtain ⟨t124, A300, H⟩ := H
                            replace H : (some t124) = some r := H
                            have A30 := Aside0.mk A300
                            clear A300
                            obtain rfl := Option.some.inj H
                            have hcz31_0 : wc.cell? ⟨gb122, 0, none⟩ = some (.int .u16 t119) := (blk_cell BK122.out 0).trans rfl
                            have hcz31_1 : wc.cell? ⟨gb122, 1, none⟩ = some (.int .u16 t120) := (blk_cell BK122.out 1).trans rfl
                            have hfz31_0 := blk_frozen BK122.out 0
                            have hfz31_1 := blk_frozen BK122.out 1
                            have CA28 := fun W => horologenum_Is.calls t118 1 true W A28.out
                            try simp only [errW_none, errW_some] at CA28
                            go_wp2_with (first | (go_at_call 21; (with_reducible refine (CA28 _).mono ?_); rintro e w' ⟨rfl, ⟨nd, rfl⟩⟩; have CA30 := fun W => horologenum_Is.calls t121 1 t124 W A30.out; try simp only [errW_none, errW_some] at CA30) | (go_at_call 21; (with_reducible refine (CA30 _).mono ?_); rintro e w' ⟨rfl, ⟨nd, rfl⟩⟩))
                            go_ret
                            exact ⟨by first | rfl | (simp [errW_none, errW_some] <;> rfl) | (simp [*, errW_none, errW_some] <;> rfl), by repeat (first | (with_reducible first | exact HB.out | apply below_alloc | apply pw_below_drewN | apply below_drew1 | refine below_set ?_ GE122.out) | exact HB.out)⟩
                          · replace c29 := Bool.eq_false_iff.mpr c29
                            subst c29
                            have H1 : (some false) = some r := by rw [if_neg (show ¬ (false = true) by decide)] at H; exact H
                            clear H
                            have H := H1
                            clear H1
                            obtain rfl := Option.some.inj H
                            have hcz32_0 : wc.cell? ⟨gb122, 0, none⟩ = some (.int .u16 t119) := (blk_cell BK122.out 0).trans rfl
                            have hcz32_1 : wc.cell? ⟨gb122, 1, none⟩ = some (.int .u16 t120) := (blk_cell BK122.out 1).trans rfl
                            have hfz32_0 := blk_frozen BK122.out 0
                            have hfz32_1 := blk_frozen BK122.out 1
                            have CA28 := fun W => horologenum_Is.calls t118 1 false W A28.out
                            try simp only [errW_none, errW_some] at CA28
                            go_wp2_with (first | (go_at_call 21; (with_reducible refine (CA28 _).mono ?_); rintro e w' ⟨rfl, ⟨nd, rfl⟩⟩))
                            go_ret
                            exact ⟨by first | rfl | (simp [errW_none, errW_some] <;> rfl) | (simp [*, errW_none, errW_some] <;> rfl), by repeat (first | (with_reducible first | exact HB.out | apply below_alloc | apply pw_below_drewN | apply below_drew1 | refine below_set ?_ GE122.out) | exact HB.out)⟩
                        · rw [if_neg c27] at H
                          have c27b0 : (t119 == 0 && (t120 == 0)) = false := by simpa using c27
                          (try (have c27b1 : decide (t119 = 0 && (t120 == 0)) = false := by simpa using c27))
                          (try (have c27b2 : (t119 == 0 && (t120 == 0)) = false := by simpa using c27))
                          (try (have c27b3 : ¬ (t119 = 0 && (t120 == 0)) := by simpa using c27))
                          clear c27
                          obtain rfl := Option.some.inj H
                          have hcz33_0 : wc.cell? ⟨gb122, 0, none⟩ = some (.int .u16 t119) := (blk_cell BK122.out 0).trans rfl
                          have hcz33_1 : wc.cell? ⟨gb122, 1, none⟩ = some (.int .u16 t120) := (blk_cell BK122.out 1).trans rfl
                          have hfz33_0 := blk_frozen BK122.out 0
                          have hfz33_1 := blk_frozen BK122.out 1
                          go_wp2
                          go_ret
                          exact ⟨by first | rfl | (simp [errW_none, errW_some] <;> rfl) | (simp [*, errW_none, errW_some] <;> rfl), by repeat (first | (with_reducible first | exact HB.out | apply below_alloc | apply pw_below_drewN | apply below_drew1 | refine below_set ?_ GE122.out) | exact HB.out)⟩
                      · rw [if_neg c26] at H
                        have c26b0 : (t117 == 0) = false := beq_eq_false_iff_ne.mpr c26
                        have c26b1 : (t117 != 0) = true := bne_iff_ne.mpr c26
                        obtain rfl := Option.some.inj H
                        go_wp2
                        go_ret
                        exact ⟨by first | rfl | (simp [errW_none, errW_some] <;> rfl) | (simp [*, errW_none, errW_some] <;> rfl), by repeat (first | (with_reducible first | exact HB.out | apply below_alloc | apply pw_below_drewN | apply below_drew1 | refine below_set ?_ GE122.out) | exact HB.out)⟩
                    · replace c25 := Bool.eq_false_iff.mpr c25
                      subst c25
                      have H1 : (if t118.isNone = true then ((horologeref15_Least.f (IntKind.u64.wrap (t117)) 4294967296 (IntKind.u64.wrap (a0))).bind fun t126 => (horologelaw15_StampFractions.j3 kj19 a0 a1 t121 (!t126) t119 t120)) else (horologelaw15_StampFractions.j3 kj19 a0 a1 t121 true t119 t120)) = some r := by rw [if_neg (show ¬ (false = true) by decide)] at H; exact H
                      clear H
                      have H := H1
                      clear H1
                      have HC34 := Aside0.mk H
                      clear H
                      go_upto_region 13 with (fail)
                      go_cut [97] (fun v97 wc => ∃ (kq : Nat) (x97_33 : Bool), v97 = .bool x97_33 ∧ Aside0 (horologelaw15_StampFractions.j3 kq a0 a1 t121 x97_33 t119 t120 = some r) ∧ Aside0 (kq ≤ kj19) ∧ Aside0 (wc.heap[gb122]? = some (.cells #[.int .u16 t119, .int .u16 t120] 32 (0, 0))) ∧ Aside0 (Below w.heap.size w wc))
                      case first =>
                        have H := HC34.out
                        clear HC34
                        rcases t118 with _ | q125
                        · have H1 : ((horologeref15_Least.f (IntKind.u64.wrap (t117)) 4294967296 (IntKind.u64.wrap (a0))).bind fun t126 => (horologelaw15_StampFractions.j3 kj19 a0 a1 t121 (!t126) t119 t120)) = some r := by rw [if_pos (show (none : Option Int).isNone = true by rfl)] at H; exact H
                          clear H
                          have H := H1
                          clear H1
                          try simp only [errW_none, errW_some]
                          replace H := Option.bind_eq_some_iff.mp H
                          obtain ⟨t126, A350, H⟩ := H
                          replace H : (horologelaw15_StampFractions.j3 kj19 a0 a1 t121 (!t126) t119 t120) = some r := H
                          have A35 := Aside0.mk A350
                          clear A350
                          have H' := Aside0.mk H
                          clear H
                          go_wp2_with (first | (go_at_call 22; (with_reducible refine (horologeref15_Least.calls (IntKind.u64.wrap (t117)) 4294967296 (IntKind.u64.wrap (a0)) t126 _ A35.out).mono ?_); rintro e w' ⟨rfl, ⟨nd, rfl⟩⟩))
                          go_meet
                          case rel => exact ⟨_, (!t126), (by first | rfl | (simp; done) | (simp [*]; done)), H', ⟨by have := HJ6.out; have := HJ11.out; have := HJ19.out; first | omega | exact Nat.le_refl _⟩, ⟨by (with_reducible repeat (first | refine blk_drewN ?_ _ | refine blk_drew ?_ | refine blk_alloc ?_ _)); exact BK122.out⟩, ⟨by repeat (first | (with_reducible first | exact HB.out | apply below_alloc | apply pw_below_drewN | apply below_drew1 | refine below_set ?_ GE122.out) | exact HB.out)⟩⟩
                        · have H1 : (horologelaw15_StampFractions.j3 kj19 a0 a1 t121 true t119 t120) = some r := by rw [if_neg (show ¬ (some q125).isNone = true by simp)] at H; exact H
                          clear H
                          have H := H1
                          clear H1
                          try simp only [errW_none, errW_some]
                          have H' := Aside0.mk H
                          clear H
                          go_wp2
                          go_meet
                          case rel => exact ⟨_, (true), (by first | rfl | (simp; done) | (simp [*]; done)), H', ⟨by have := HJ6.out; have := HJ11.out; have := HJ19.out; first | omega | exact Nat.le_refl _⟩, ⟨by (with_reducible repeat (first | refine blk_drewN ?_ _ | refine blk_drew ?_ | refine blk_alloc ?_ _)); exact BK122.out⟩, ⟨by repeat (first | (with_reducible first | exact HB.out | apply below_alloc | apply pw_below_drewN | apply below_drew1 | refine below_set ?_ GE122.out) | exact HB.out)⟩⟩
                      case rest =>
                        clear HC34
                        try clear c1
                        try clear q1
                        try clear c2
                        try clear p2
                        try clear c3
                        try clear c5
                        try clear p6
                        try clear c8
                        try clear c8b0
                        try clear c10
                        try clear q12
                        try clear c14
                        try clear c14b0
                        try clear c14b1
                        try clear c15
                        try clear c15b0
                        try clear c16
                        try clear c17
                        try clear c18
                        try clear c19
                        try clear c20
                        try clear c24
                        try clear c24b0
                        try clear c25
                        try clear c26
                        try clear c26b0
                        try clear c26b1
                        try clear c27
                        try clear c27b0
                        try clear c27b1
                        try clear c27b2
                        try clear c29
                        try clear hcz23_0
                        try clear hcz23_1
                        try clear hcz31_0
                        try clear hcz31_1
                        try clear hcz32_0
                        try clear hcz32_1
                        try clear hcz33_0
                        try clear hcz33_1
                        try clear hfz23_0
                        try clear hfz23_1
                        try clear hfz31_0
                        try clear hfz31_1
                        try clear hfz32_0
                        try clear hfz32_1
                        try clear hfz33_0
                        try clear hfz33_1
                        try clear p2
                        try clear p6
                        try clear q125
                        obtain ⟨kq, x97_33, rfl, HA, HJ33, BK122, HB⟩ := hcut
                        cases kq with
                        | zero => exact absurd HA.out (by simp [horologelaw15_StampFractions.j3])
                        | succ kj33 =>
                          have H := HA.out
                          clear HA
                          simp only [horologelaw15_StampFractions.j3] at H
                          by_cases c36 : x97_33 = true
                          · subst c36
                            have H1 : (some false) = some r := by rw [if_pos rfl] at H; exact H
                            clear H
                            have H := H1
                            clear H1
                            obtain rfl := Option.some.inj H
                            go_wp2
                            go_ret
                            exact ⟨by first | rfl | (simp [errW_none, errW_some] <;> rfl) | (simp [*, errW_none, errW_some] <;> rfl), by repeat (first | (with_reducible first | exact HB.out | apply below_alloc | apply pw_below_drewN | apply below_drew1 | refine below_set ?_ GE122.out) | exact HB.out)⟩
                          · replace c36 := Bool.eq_false_iff.mpr c36
                            subst c36
                            have H1 : (if a1 < 0 then (horologelaw15_StampFractions.j4 kj33 a0 a1 t121 true t119 t120) else (horologelaw15_StampFractions.j4 kj33 a0 a1 t121 (decide (a1 > 65535)) t119 t120)) = some r := by rw [if_neg (show ¬ (false = true) by decide)] at H; exact H
                            clear H
                            have H := H1
                            clear H1
                            have HC37 := Aside0.mk H
                            clear H
                            go_upto_region 15 with (fail)
                            go_cut [103] (fun v103 wc => ∃ (kq : Nat) (x103_36 : Bool), v103 = .bool x103_36 ∧ Aside0 (horologelaw15_StampFractions.j4 kq a0 a1 t121 x103_36 t119 t120 = some r) ∧ Aside0 (kq ≤ kj33) ∧ Aside0 (wc.heap[gb122]? = some (.cells #[.int .u16 t119, .int .u16 t120] 32 (0, 0))) ∧ Aside0 (Below w.heap.size w wc))
                            case first =>
                              have H := HC37.out
                              clear HC37
                              by_cases c38 : a1 < 0
                              · rw [if_pos c38] at H
                                have c38b0 : decide (a1 < 0) = true := decide_eq_true c38
                                clear c38
                                (first | rw [c38b0] | (simp only [i64_w, i32_w]; rw [c38b0]) | skip)
                                have H' := Aside0.mk H
                                clear H
                                go_wp2
                                go_meet
                                case rel => exact ⟨_, (true), (by first | rfl | (simp; done) | (simp [*]; done)), H', ⟨by have := HJ6.out; have := HJ11.out; have := HJ19.out; have := HJ33.out; first | omega | exact Nat.le_refl _⟩, ⟨by (with_reducible repeat (first | refine blk_drewN ?_ _ | refine blk_drew ?_ | refine blk_alloc ?_ _)); exact BK122.out⟩, ⟨by repeat (first | (with_reducible first | exact HB.out | apply below_alloc | apply pw_below_drewN | apply below_drew1 | refine below_set ?_ GE122.out) | exact HB.out)⟩⟩
                              · rw [if_neg c38] at H
                                have c38b0 : decide (a1 < 0) = false := decide_eq_false c38
                                clear c38
                                (first | rw [c38b0] | (simp only [i64_w, i32_w]; rw [c38b0]) | skip)
                                have H' := Aside0.mk H
                                clear H
                                go_wp2
                                go_meet
                                case rel => exact ⟨_, (decide (a1 > 65535)), (by first | rfl | (simp; done) | (simp [*]; done)), H', ⟨by have := HJ6.out; have := HJ11.out; have := HJ19.out; have := HJ33.out; first | omega | exact Nat.le_refl _⟩, ⟨by (with_reducible repeat (first | refine blk_drewN ?_ _ | refine blk_drew ?_ | refine blk_alloc ?_ _)); exact BK122.out⟩, ⟨by repeat (first | (with_reducible first | exact HB.out | apply below_alloc | apply pw_below_drewN | apply below_drew1 | refine below_set ?_ GE122.out) | exact HB.out)⟩⟩
                            case rest =>
                              clear HC37
                              try clear c1
                              try clear q1
                              try clear c2
                              try clear p2
                              try clear c3
                              try clear c5
                              try clear p6
                              try clear c8
                              try clear c8b0
                              try clear c10
                              try clear q12
                              try clear c14
                              try clear c14b0
                              try clear c14b1
                              try clear c15
                              try clear c15b0
                              try clear c16
                              try clear c17
                              try clear c18
                              try clear c19
                              try clear c20
                              try clear c24
                              try clear c24b0
                              try clear c25
                              try clear c26
                              try clear c26b0
                              try clear c26b1
                              try clear c27
                              try clear c27b0
                              try clear c27b1
                              try clear c27b2
                              try clear c29
                              try clear c36
                              try clear c38
                              try clear c38b0
                              try clear hcz23_0
                              try clear hcz23_1
                              try clear hcz31_0
                              try clear hcz31_1
                              try clear hcz32_0
                              try clear hcz32_1
                              try clear hcz33_0
                              try clear hcz33_1
                              try clear hfz23_0
                              try clear hfz23_1
                              try clear hfz31_0
                              try clear hfz31_1
                              try clear hfz32_0
                              try clear hfz32_1
                              try clear hfz33_0
                              try clear hfz33_1
                              try clear p2
                              try clear p6
                              try clear q1
                              try clear q12
                              try clear q125
                              obtain ⟨kq, x103_36, rfl, HA, HJ36, BK122, HB⟩ := hcut
                              cases kq with
                              | zero => exact absurd HA.out (by simp [horologelaw15_StampFractions.j4])
                              | succ kj36 =>
                                have H := HA.out
                                clear HA
                                simp only [horologelaw15_StampFractions.j4] at H
                                by_cases c39 : x103_36 = true
                                · subst c39
                                  have H1 : (if (t119 == 0 && (t120 == 0)) = true then ((horologenum_Is.f t121 1).bind fun t127 => (some t127)) else (some false)) = some r := by rw [if_pos rfl] at H; exact H
                                  clear H
                                  have H := H1
                                  clear H1
                                  by_cases c40 : (t119 == 0 && (t120 == 0)) = true
                                  · rw [if_pos c40] at H
                                    have c40b0 : (t119 == 0 && (t120 == 0)) = true := c40
                                    (try (have c40b1 : decide (t119 = 0 && (t120 == 0)) = true := by simpa using c40))
                                    (try (have c40b2 : (t119 == 0 && (t120 == 0)) = true := by simpa using c40))
                                    clear c40
                                    replace H := Option.bind_eq_some_iff.mp H
                                    obtain ⟨t127, A410, H⟩ := H
                                    replace H : (some t127) = some r := H
                                    have A41 := Aside0.mk A410
                                    clear A410
                                    obtain rfl := Option.some.inj H
                                    have hcz42_0 : wc.cell? ⟨gb122, 0, none⟩ = some (.int .u16 t119) := (blk_cell BK122.out 0).trans rfl
                                    have hcz42_1 : wc.cell? ⟨gb122, 1, none⟩ = some (.int .u16 t120) := (blk_cell BK122.out 1).trans rfl
                                    have hfz42_0 := blk_frozen BK122.out 0
                                    have hfz42_1 := blk_frozen BK122.out 1
                                    have CA41 := fun W => horologenum_Is.calls t121 1 t127 W A41.out
                                    try simp only [errW_none, errW_some] at CA41
                                    go_wp2_with (first | (go_at_call 21; (with_reducible refine (CA41 _).mono ?_); rintro e w' ⟨rfl, ⟨nd, rfl⟩⟩))
                                    go_ret
                                    exact ⟨by first | rfl | (simp [errW_none, errW_some] <;> rfl) | (simp [*, errW_none, errW_some] <;> rfl), by repeat (first | (with_reducible first | exact HB.out | apply below_alloc | apply pw_below_drewN | apply below_drew1 | refine below_set ?_ GE122.out) | exact HB.out)⟩
                                  · rw [if_neg c40] at H
                                    have c40b0 : (t119 == 0 && (t120 == 0)) = false := by simpa using c40
                                    (try (have c40b1 : decide (t119 = 0 && (t120 == 0)) = false := by simpa using c40))
                                    (try (have c40b2 : (t119 == 0 && (t120 == 0)) = false := by simpa using c40))
                                    (try (have c40b3 : ¬ (t119 = 0 && (t120 == 0)) := by simpa using c40))
                                    clear c40
                                    obtain rfl := Option.some.inj H
                                    have hcz43_0 : wc.cell? ⟨gb122, 0, none⟩ = some (.int .u16 t119) := (blk_cell BK122.out 0).trans rfl
                                    have hcz43_1 : wc.cell? ⟨gb122, 1, none⟩ = some (.int .u16 t120) := (blk_cell BK122.out 1).trans rfl
                                    have hfz43_0 := blk_frozen BK122.out 0
                                    have hfz43_1 := blk_frozen BK122.out 1
                                    go_wp2
                                    go_ret
                                    exact ⟨by first | rfl | (simp [errW_none, errW_some] <;> rfl) | (simp [*, errW_none, errW_some] <;> rfl), by repeat (first | (with_reducible first | exact HB.out | apply below_alloc | apply pw_below_drewN | apply below_drew1 | refine below_set ?_ GE122.out) | exact HB.out)⟩
                                · replace c39 := Bool.eq_false_iff.mpr c39
                                  subst c39
                                  have H1 : (if t121.isNone = true then (if (wrap64 (t119)) = a1 then ((horologeref15_Within.f (IntKind.u64.wrap (t120)) 65536 (IntKind.u64.wrap (a0))).bind fun t129 => (some t129)) else (some false)) else (some false)) = some r := by rw [if_neg (show ¬ (false = true) by decide)] at H; exact H
                                  clear H
                                  have H := H1
                                  clear H1
                                  rcases t121 with _ | q128
                                  · have H1 : (if (wrap64 (t119)) = a1 then ((horologeref15_Within.f (IntKind.u64.wrap (t120)) 65536 (IntKind.u64.wrap (a0))).bind fun t129 => (some t129)) else (some false)) = some r := by rw [if_pos (show (none : Option Int).isNone = true by rfl)] at H; exact H
                                    clear H
                                    have H := H1
                                    clear H1
                                    try simp only [errW_none, errW_some]
                                    by_cases c44 : (wrap64 (t119)) = a1
                                    · rw [if_pos c44] at H
                                      have c44b0 : ((wrap64 (t119)) == a1) = true := beq_iff_eq.mpr c44
                                      have c44b1 : ((wrap64 (t119)) != a1) = false := bne_eq_false_iff_eq.mpr c44
                                      clear c44
                                      replace H := Option.bind_eq_some_iff.mp H
                                      obtain ⟨t129, A450, H⟩ := H
                                      replace H : (some t129) = some r := H
                                      have A45 := Aside0.mk A450
                                      clear A450
                                      obtain rfl := Option.some.inj H
                                      have hcz46_0 : wc.cell? ⟨gb122, 0, none⟩ = some (.int .u16 t119) := (blk_cell BK122.out 0).trans rfl
                                      have hcz46_1 : wc.cell? ⟨gb122, 1, none⟩ = some (.int .u16 t120) := (blk_cell BK122.out 1).trans rfl
                                      have hfz46_0 := blk_frozen BK122.out 0
                                      have hfz46_1 := blk_frozen BK122.out 1
                                      go_wp2_with (first | (go_at_call 23; (with_reducible refine (horologeref15_Within.calls (IntKind.u64.wrap (t120)) 65536 (IntKind.u64.wrap (a0)) t129 _ A45.out).mono ?_); rintro e w' ⟨rfl, ⟨nd, rfl⟩⟩))
                                      go_ret
                                      exact ⟨by first | rfl | (simp [errW_none, errW_some] <;> rfl) | (simp [*, errW_none, errW_some] <;> rfl), by repeat (first | (with_reducible first | exact HB.out | apply below_alloc | apply pw_below_drewN | apply below_drew1 | refine below_set ?_ GE122.out) | exact HB.out)⟩
                                    · rw [if_neg c44] at H
                                      have c44b0 : ((wrap64 (t119)) == a1) = false := beq_eq_false_iff_ne.mpr c44
                                      have c44b1 : ((wrap64 (t119)) != a1) = true := bne_iff_ne.mpr c44
                                      obtain rfl := Option.some.inj H
                                      have hcz47_0 : wc.cell? ⟨gb122, 0, none⟩ = some (.int .u16 t119) := (blk_cell BK122.out 0).trans rfl
                                      have hcz47_1 : wc.cell? ⟨gb122, 1, none⟩ = some (.int .u16 t120) := (blk_cell BK122.out 1).trans rfl
                                      have hfz47_0 := blk_frozen BK122.out 0
                                      have hfz47_1 := blk_frozen BK122.out 1
                                      go_wp2
                                      go_ret
                                      exact ⟨by first | rfl | (simp [errW_none, errW_some] <;> rfl) | (simp [*, errW_none, errW_some] <;> rfl), by repeat (first | (with_reducible first | exact HB.out | apply below_alloc | apply pw_below_drewN | apply below_drew1 | refine below_set ?_ GE122.out) | exact HB.out)⟩
                                  · have H1 : (some false) = some r := by rw [if_neg (show ¬ (some q128).isNone = true by simp)] at H; exact H
                                    clear H
                                    have H := H1
                                    clear H1
                                    try simp only [errW_none, errW_some]
                                    obtain rfl := Option.some.inj H
                                    go_wp2
                                    go_ret
                                    exact ⟨by first | rfl | (simp [errW_none, errW_some] <;> rfl) | (simp [*, errW_none, errW_some] <;> rfl), by repeat (first | (with_reducible first | exact HB.out | apply below_alloc | apply pw_below_drewN | apply below_drew1 | refine below_set ?_ GE122.out) | exact HB.out)⟩
  · replace c5 := Bool.eq_false_iff.mpr c5
    subst c5
    have H1 : (some false) = some r := by rw [if_neg (show ¬ (false = true) by decide)] at H; exact H
    clear H
    have H := H1
    clear H1
    obtain rfl := Option.some.inj H
    go_enter Try.func3, Try.ntmps3
    go_wp2_with (first | ((with_reducible refine gate_callee (f := 15) rfl ?_); refine goesL_ (some 14) rfl rfl Try.func15 (by kernel_rfl) rfl #[] rfl (by (try simp only [List.map_toArray, List.map_cons, List.map_nil]); first | done | rfl | (simp only [List.length_drop, List.length_take]; rfl)) ?_; (with_reducible refine (horologelaw15_alive.calls  false _ A4.out).mono ?_); rintro e w' ⟨rfl, ⟨nd, rfl⟩⟩; refine ⟨_, rfl, ?_⟩))
    go_ret
    exact ⟨by first | rfl | (simp [errW_none, errW_some] <;> rfl) | (simp [*, errW_none, errW_some] <;> rfl), by repeat (first | (with_reducible first | exact HB.out | apply below_alloc | apply pw_below_drewN | apply below_drew1) | exact HB.out)⟩

/-- THE ONE PURE STATEMENT of horologelaw15_StampFractions: yours. -/
def horologelaw15_StampFractions.Pure : Prop := ∀ (a0 : Int) (a1 : Int) (a2 : Int), (Lit.int .i64 a0).wf = true → (Lit.int .i64 a1).wf = true → (Lit.int .u32 a2).wf = true → ∃ k, horologelaw15_StampFractions.f k a0 a1 a2 = some true
theorem horologelaw15_StampFractions.walk (P : horologelaw15_StampFractions.Pure) (a0 : Int) (a1 : Int) (a2 : Int) (w : World) (w0 : (Lit.int .i64 a0).wf = true) (w1 : (Lit.int .i64 a1).wf = true) (w2 : (Lit.int .u32 a2).wf = true) :
    Calls Try.prog 3 #[.int .i64 a0, .int .i64 a1, .int .u32 a2] w fun e w' => e = .returned (.bool true) ∧ Below w.heap.size w w' := by
  obtain ⟨k, h⟩ := P a0 a1 a2 w0 w1 w2
  refine (horologelaw15_StampFractions.calls k a0 a1 a2 true w h).mono ?_
  rintro e w' ⟨rfl, hd⟩
  exact ⟨rfl, hd⟩

end Go.Proofs.Ytecilflgjakhcaa.PStampFractions
