/- Printed by wip/tools/evgen.py. -/
import Derived.Test.YtnielkimpieofaaEv19
import Derived.Test.YtnielkimpieofaaProg
import Derived.KernelRfl
set_option maxRecDepth 100000
set_option maxHeartbeats 2000000
set_option linter.unusedVariables false
namespace Go.Proofs.Ytnielkimpieofaa.Ev
open Go
noncomputable section
def rows0 : List (TypeId × Row) := [
  (2, ⟨.int .i64, 1, 8, (.int .i64), [AV.val (.int .i64) (0 : Int)], none⟩),
  (3, ⟨.int .i64, 1, 8, (.int .i64), [AV.val (.int .i64) (0 : Int)], none⟩),
  (4, ⟨.bool, 1, 1, .bool, [AV.val .bool false], none⟩),
  (5, ⟨.int .u8, 1, 1, (.int .u8), [AV.val (.int .u8) (0 : Int)], none⟩),
  (9, ⟨.str, 1, 16, .str, [AV.val .str ByteArray.empty], none⟩),
  (26, ⟨.struct [(0, 1, false), (1, 1, false), (2, 1, false), (3, 1, false), (4, 1, false), (5, 1, false), (6, 1, false), (7, 1, false)], 8, 64, (.pair (.int .i64) (.pair (.int .i64) (.pair (.int .i64) (.pair (.int .i64) (.pair (.int .i64) (.pair (.int .i64) (.pair (.int .i64) (.int .i64)))))))), [AV.val (.int .i64) (0 : Int), AV.val (.int .i64) (0 : Int), AV.val (.int .i64) (0 : Int), AV.val (.int .i64) (0 : Int), AV.val (.int .i64) (0 : Int), AV.val (.int .i64) (0 : Int), AV.val (.int .i64) (0 : Int), AV.val (.int .i64) (0 : Int)], some [.int .i64, .int .i64, .int .i64, .int .i64, .int .i64, .int .i64, .int .i64, .int .i64]⟩),
  (30, ⟨.iface, 1, 16, .err, [AV.val .err (none : Option Int)], none⟩),
  (35, ⟨.struct [(0, 1, false), (1, 1, false), (2, 1, false), (3, 1, false), (4, 1, false), (5, 1, false), (6, 1, false), (7, 1, false)], 8, 64, (.pair (.int .i64) (.pair (.int .i64) (.pair (.int .i64) (.pair (.int .i64) (.pair (.int .i64) (.pair (.int .i64) (.pair (.int .i64) (.int .i64)))))))), [AV.val (.int .i64) (0 : Int), AV.val (.int .i64) (0 : Int), AV.val (.int .i64) (0 : Int), AV.val (.int .i64) (0 : Int), AV.val (.int .i64) (0 : Int), AV.val (.int .i64) (0 : Int), AV.val (.int .i64) (0 : Int), AV.val (.int .i64) (0 : Int)], some [.int .i64, .int .i64, .int .i64, .int .i64, .int .i64, .int .i64, .int .i64, .int .i64]⟩),
  (75, ⟨.slice 5, 1, 24, (.sl (.int .u8)), [AV.nilS], none⟩),
  (83, ⟨.int .u32, 1, 4, (.int .u32), [AV.val (.int .u32) (0 : Int)], none⟩),
  (87, ⟨.int .i64, 1, 8, (.int .i64), [AV.val (.int .i64) (0 : Int)], none⟩),
  (88, ⟨.int .u64, 1, 8, (.int .u64), [AV.val (.int .u64) (0 : Int)], none⟩),
  (196, ⟨.slice 3, 1, 24, (.sl (.int .i64)), [AV.nilS], none⟩),
  (198, ⟨.slice 83, 1, 24, (.sl (.int .u32)), [AV.nilS], none⟩),
  (201, ⟨.slice 88, 1, 24, (.sl (.int .u64)), [AV.nilS], none⟩),
  (203, ⟨.struct [(0, 1, false), (1, 1, false)], 2, 32, (.pair .bool (.sl (.int .u64))), [AV.val .bool false, AV.nilS], none⟩)]
def ET0 : TypeId := 87
def E0 : Env := ⟨rows0, [], ET0, 0⟩
theorem e0_ok : EnvOk Try.prog E0 := envOk_rows (by kernel_rfl) (by kernel_rfl) 0

/- horologe/horologeref05.Leap -/
@[reducible] def pi_ref05_Leap : PSh := ⟨[], [.mk false [.v (.int .i64)]]⟩
@[reducible] def po_ref05_Leap : PSh := ⟨[], [.mk false [.v .bool]]⟩
def f_ref05_Leap_m (T : Unit) (d : Unit × ((Int × Unit) × Unit)) : Option (Unit × ((Bool × Unit) × Unit)) :=
  let x1 : Int := (Int.tmod d.2.1.1 (400 : Int))
  let x2 : Bool := (x1 == (0 : Int))
  bif x2 then (
  some ((), ((true, ()), ())))
  else (
  let x3 : Int := (Int.tmod d.2.1.1 (4 : Int))
  let x4 : Bool := (x3 == (0 : Int))
  bif x4 then (
  let x5 : Int := (Int.tmod d.2.1.1 (100 : Int))
  let x6 : Bool := (x5 != (0 : Int))
  some ((), ((x6, ()), ())))
  else (
  some ((), ((false, ()), ()))))
def c_ref05_Leap : List Nat := []
def L_ref05_Leap (_ : Nat) : Pts po_ref05_Leap.den := []
def E_ref05_Leap : Env := E0
theorem q_ref05_Leap_m (k : Nat) (d : Unit × ((Int × Unit) × Unit)) : evCode E_ref05_Leap (tab (L_ref05_Leap k)) c_ref05_Leap (bodyOf Try.f168) 0 (finK E_ref05_Leap po_ref05_Leap [.tmp 2]) (startSt pi_ref05_Leap 14 d) = f_ref05_Leap_m () d := by kernel_rfl
def g_ref05_Leap (d : Unit × ((Int × Unit) × Unit)) : Option (Unit × ((Bool × Unit) × Unit)) := f_ref05_Leap_m () d
theorem ok_ref05_Leap : FnOk Try.prog ET0 168 pi_ref05_Leap po_ref05_Leap g_ref05_Leap :=
  fn_of_body (E := E_ref05_Leap) e0_ok (fn := Try.f168) Try.func168 (by kernel_rfl) (by kernel_rfl) [.tmp 2] (by kernel_rfl) (by kernel_rfl) (by decide) c_ref05_Leap L_ref05_Leap
    (by intro x hx; cases hx) (by intro k x hx; cases hx) (fun d out h => ⟨0, (q_ref05_Leap_m 0 d).trans h⟩)

/- horologe/horologeref05.Days -/
@[reducible] def pi_ref05_Days : PSh := ⟨[], [.mk false [.v (.int .i64)]]⟩
@[reducible] def po_ref05_Days : PSh := ⟨[], [.mk false [.v (.int .i64)]]⟩
def f_ref05_Days_m (T : Unit) (d : Unit × ((Int × Unit) × Unit)) : Option (Unit × ((Int × Unit) × Unit)) :=
  (g_ref05_Leap ((), ((d.2.1.1, ()), ()))).bind fun x1 =>
  bif x1.2.1.1 then (
  some ((), (((366 : Int), ()), ())))
  else (
  some ((), (((365 : Int), ()), ())))
def c_ref05_Days : List Nat := []
def L_ref05_Days (_ : Nat) : Pts po_ref05_Days.den := []
def E_ref05_Days : Env := (E0.add 168 (typedSem pi_ref05_Leap po_ref05_Leap g_ref05_Leap))
theorem q_ref05_Days_m (k : Nat) (d : Unit × ((Int × Unit) × Unit)) : evCode E_ref05_Days (tab (L_ref05_Days k)) c_ref05_Days (bodyOf Try.f109) 0 (finK E_ref05_Days po_ref05_Days [.tmp 2]) (startSt pi_ref05_Days 5 d) = f_ref05_Days_m () d := by kernel_rfl
def g_ref05_Days (d : Unit × ((Int × Unit) × Unit)) : Option (Unit × ((Int × Unit) × Unit)) := f_ref05_Days_m () d
theorem ok_ref05_Days : FnOk Try.prog ET0 109 pi_ref05_Days po_ref05_Days g_ref05_Days :=
  fn_of_body (E := E_ref05_Days) (envOk_add e0_ok (typed_ok ok_ref05_Leap)) (fn := Try.f109) Try.func109 (by kernel_rfl) (by kernel_rfl) [.tmp 2] (by kernel_rfl) (by kernel_rfl) (by decide) c_ref05_Days L_ref05_Days
    (by intro x hx; cases hx) (by intro k x hx; cases hx) (fun d out h => ⟨0, (q_ref05_Days_m 0 d).trans h⟩)

/- horologe/horologeref05.Start -/
@[reducible] def pi_ref05_Start : PSh := ⟨[], [.mk false [.v (.int .i64)]]⟩
@[reducible] def po_ref05_Start : PSh := ⟨[], [.mk false [.v (.int .i64)]]⟩
@[reducible] def sh_ref05_Start_3 : PSh := ⟨[], [.mk false [.v (.int .i64)], .any, .any, .mk false [.v (.int .i64)], .any, .any, .any, .any, .any, .any, .any, .any, .any, .any, .any, .any, .any, .any, .any, .any, .any, .any, .any, .any, .any, .any, .any]⟩
@[reducible] def sh_ref05_Start_8 : PSh := ⟨[], [.mk false [.v (.int .i64)], .any, .any, .mk false [.v (.int .i64)], .any, .any, .any, .any, .any, .any, .any, .any, .any, .any, .any, .any, .any, .any, .any, .any, .any, .any, .any, .any, .any, .any, .any]⟩
@[reducible] def sh_ref05_Start_14 : PSh := ⟨[], [.mk false [.v (.int .i64)], .any, .any, .mk false [.v (.int .i64)], .mk false [.v (.int .i64)], .any, .any, .any, .any, .any, .any, .any, .any, .any, .any, .any, .any, .any, .any, .any, .any, .any, .any, .any, .any, .any, .any]⟩
def f_ref05_Start_p3 (T : (((Unit × ((Int × Unit) × ((Int × Unit) × Unit))) → Option (Unit × ((Int × Unit) × Unit))) × (((Unit × ((Int × Unit) × ((Int × Unit) × Unit))) → Option (Unit × ((Int × Unit) × Unit))) × (((Unit × ((Int × Unit) × ((Int × Unit) × ((Int × Unit) × Unit)))) → Option (Unit × ((Int × Unit) × Unit))) × Unit)))) (d : Unit × ((Int × Unit) × ((Int × Unit) × Unit))) : Option (Unit × ((Int × Unit) × Unit)) :=
  let x1 : Bool := (decide (d.2.1.1 < (1970 : Int)))
  bif x1 then (
  let x2 : Int := (iadd .i64 d.2.1.1 (400 : Int))
  let x3 : Int := (isub .i64 d.2.2.1.1 (146097 : Int))
  (T.1 ((), ((x2, ()), ((x3, ()), ())))))
  else (
  (T.2.1 ((), ((d.2.1.1, ()), ((d.2.2.1.1, ()), ())))))
def f_ref05_Start_p8 (T : (((Unit × ((Int × Unit) × ((Int × Unit) × Unit))) → Option (Unit × ((Int × Unit) × Unit))) × (((Unit × ((Int × Unit) × ((Int × Unit) × Unit))) → Option (Unit × ((Int × Unit) × Unit))) × (((Unit × ((Int × Unit) × ((Int × Unit) × ((Int × Unit) × Unit)))) → Option (Unit × ((Int × Unit) × Unit))) × Unit)))) (d : Unit × ((Int × Unit) × ((Int × Unit) × Unit))) : Option (Unit × ((Int × Unit) × Unit)) :=
  let x4 : Bool := (decide (d.2.1.1 ≥ (2370 : Int)))
  bif x4 then (
  let x5 : Int := (isub .i64 d.2.1.1 (400 : Int))
  let x6 : Int := (iadd .i64 d.2.2.1.1 (146097 : Int))
  (T.2.1 ((), ((x5, ()), ((x6, ()), ())))))
  else (
  (T.2.2.1 ((), ((d.2.1.1, ()), ((d.2.2.1.1, ()), (((1970 : Int), ()), ()))))))
def f_ref05_Start_p14 (T : (((Unit × ((Int × Unit) × ((Int × Unit) × Unit))) → Option (Unit × ((Int × Unit) × Unit))) × (((Unit × ((Int × Unit) × ((Int × Unit) × Unit))) → Option (Unit × ((Int × Unit) × Unit))) × (((Unit × ((Int × Unit) × ((Int × Unit) × ((Int × Unit) × Unit)))) → Option (Unit × ((Int × Unit) × Unit))) × Unit)))) (d : Unit × ((Int × Unit) × ((Int × Unit) × ((Int × Unit) × Unit)))) : Option (Unit × ((Int × Unit) × Unit)) :=
  let x7 : Bool := (decide (d.2.2.2.1.1 < d.2.1.1))
  bif x7 then (
  (g_ref05_Days ((), ((d.2.2.2.1.1, ()), ()))).bind fun x8 =>
  let x9 : Int := (iadd .i64 d.2.2.1.1 x8.2.1.1)
  let x10 : Int := (iadd .i64 d.2.2.2.1.1 (1 : Int))
  (T.2.2.1 ((), ((d.2.1.1, ()), ((x9, ()), ((x10, ()), ()))))))
  else (
  some ((), ((d.2.2.1.1, ()), ())))
def f_ref05_Start_t : Nat → (((Unit × ((Int × Unit) × ((Int × Unit) × Unit))) → Option (Unit × ((Int × Unit) × Unit))) × (((Unit × ((Int × Unit) × ((Int × Unit) × Unit))) → Option (Unit × ((Int × Unit) × Unit))) × (((Unit × ((Int × Unit) × ((Int × Unit) × ((Int × Unit) × Unit)))) → Option (Unit × ((Int × Unit) × Unit))) × Unit)))
  | 0 => (fun _ => none, (fun _ => none, (fun _ => none, ())))
  | k + 1 => (f_ref05_Start_p3 (f_ref05_Start_t k), (f_ref05_Start_p8 (f_ref05_Start_t k), (f_ref05_Start_p14 (f_ref05_Start_t k), ())))
theorem t_ref05_Start (k : Nat) : f_ref05_Start_t (k + 1) = (f_ref05_Start_p3 (f_ref05_Start_t k), (f_ref05_Start_p8 (f_ref05_Start_t k), (f_ref05_Start_p14 (f_ref05_Start_t k), ()))) := rfl
def f_ref05_Start_m (T : (((Unit × ((Int × Unit) × ((Int × Unit) × Unit))) → Option (Unit × ((Int × Unit) × Unit))) × (((Unit × ((Int × Unit) × ((Int × Unit) × Unit))) → Option (Unit × ((Int × Unit) × Unit))) × (((Unit × ((Int × Unit) × ((Int × Unit) × ((Int × Unit) × Unit)))) → Option (Unit × ((Int × Unit) × Unit))) × Unit)))) (d : Unit × ((Int × Unit) × Unit)) : Option (Unit × ((Int × Unit) × Unit)) :=
  (T.1 ((), ((d.2.1.1, ()), (((0 : Int), ()), ()))))
def c_ref05_Start : List Nat := []
def L_ref05_Start (k : Nat) : Pts po_ref05_Start.den := [(3, ⟨sh_ref05_Start_3, (f_ref05_Start_t k).1⟩), (8, ⟨sh_ref05_Start_8, (f_ref05_Start_t k).2.1⟩), (14, ⟨sh_ref05_Start_14, (f_ref05_Start_t k).2.2.1⟩)]
def E_ref05_Start : Env := (E0.add 109 (typedSem pi_ref05_Days po_ref05_Days g_ref05_Days))
theorem q_ref05_Start_3 (k : Nat) (d : Unit × ((Int × Unit) × ((Int × Unit) × Unit))) : evAt E_ref05_Start (tab (L_ref05_Start k)) c_ref05_Start 3 (bodyOf Try.f61) 0 (finK E_ref05_Start po_ref05_Start [.tmp 2]) (ptSt sh_ref05_Start_3 d) = f_ref05_Start_p3 (f_ref05_Start_t k) d := by kernel_rfl
theorem q_ref05_Start_8 (k : Nat) (d : Unit × ((Int × Unit) × ((Int × Unit) × Unit))) : evAt E_ref05_Start (tab (L_ref05_Start k)) c_ref05_Start 8 (bodyOf Try.f61) 0 (finK E_ref05_Start po_ref05_Start [.tmp 2]) (ptSt sh_ref05_Start_8 d) = f_ref05_Start_p8 (f_ref05_Start_t k) d := by kernel_rfl
theorem q_ref05_Start_14 (k : Nat) (d : Unit × ((Int × Unit) × ((Int × Unit) × ((Int × Unit) × Unit)))) : evAt E_ref05_Start (tab (L_ref05_Start k)) c_ref05_Start 14 (bodyOf Try.f61) 0 (finK E_ref05_Start po_ref05_Start [.tmp 2]) (ptSt sh_ref05_Start_14 d) = f_ref05_Start_p14 (f_ref05_Start_t k) d := by kernel_rfl
theorem q_ref05_Start_m (k : Nat) (d : Unit × ((Int × Unit) × Unit)) : evCode E_ref05_Start (tab (L_ref05_Start k)) c_ref05_Start (bodyOf Try.f61) 0 (finK E_ref05_Start po_ref05_Start [.tmp 2]) (startSt pi_ref05_Start 27 d) = f_ref05_Start_m (f_ref05_Start_t k) d := by kernel_rfl
theorem go_ref05_Start (G : pi_ref05_Start.den → Option po_ref05_Start.den) (hG : ∀ d out, G d = some out → ∃ k, f_ref05_Start_m (f_ref05_Start_t k) d = some out) : FnOk Try.prog ET0 61 pi_ref05_Start po_ref05_Start G :=
  fn_of_body (E := E_ref05_Start) (envOk_add e0_ok (typed_ok ok_ref05_Days)) (fn := Try.f61) Try.func61 (by kernel_rfl) (by kernel_rfl) [.tmp 2] (by kernel_rfl) (by kernel_rfl) (by decide) c_ref05_Start L_ref05_Start
    (by intro x hx d; simp only [L_ref05_Start, List.mem_cons, List.not_mem_nil, or_false] at hx; rcases hx with rfl | rfl | rfl; rfl; rfl; rfl)
    (by intro k x hx d out h; simp only [L_ref05_Start, List.mem_cons, List.not_mem_nil, or_false] at hx; rcases hx with rfl | rfl | rfl; exact (q_ref05_Start_3 k d).trans h; exact (q_ref05_Start_8 k d).trans h; exact (q_ref05_Start_14 k d).trans h)
    (by intro d out h; obtain ⟨k, hk⟩ := hG d out h; exact ⟨k, (q_ref05_Start_m k d).trans hk⟩)
def g_ref05_Start (d : Unit × ((Int × Unit) × Unit)) : Option (Unit × ((Int × Unit) × Unit)) := lim fun k => f_ref05_Start_m (f_ref05_Start_t k) d
theorem ok_ref05_Start : FnOk Try.prog ET0 61 pi_ref05_Start po_ref05_Start g_ref05_Start := go_ref05_Start g_ref05_Start fun d out h => lim_some h

/- horologe/horologeref05.Month -/
@[reducible] def pi_ref05_Month : PSh := ⟨[], [.mk false [.v (.int .i64)], .mk false [.v (.int .i64)]]⟩
@[reducible] def po_ref05_Month : PSh := ⟨[], [.mk false [.v (.int .i64)]]⟩
def f_ref05_Month_m (T : Unit) (d : Unit × ((Int × Unit) × ((Int × Unit) × Unit))) : Option (Unit × ((Int × Unit) × Unit)) :=
  let x1 : (List Int) := ([(31 : Int), (28 : Int), (31 : Int), (30 : Int), (31 : Int), (30 : Int), (31 : Int), (31 : Int), (30 : Int), (31 : Int), (30 : Int), (31 : Int)] : List Int)
  let x2 : Bool := (d.2.2.1.1 == (2 : Int))
  bif x2 then (
  (g_ref05_Leap ((), ((d.2.1.1, ()), ()))).bind fun x3 =>
  bif x3.2.1.1 then (
  some ((), (((29 : Int), ()), ())))
  else (
  let x4 : Int := (isub .i64 d.2.2.1.1 (1 : Int))
  bif decide ((0 : Int) ≤ x4) && decide (x4 < (x1.length : Int)) then (
  some ((), (((gd (.int .i64) x1 x4), ()), ())))
  else none))
  else (
  let x5 : Int := (isub .i64 d.2.2.1.1 (1 : Int))
  bif decide ((0 : Int) ≤ x5) && decide (x5 < (x1.length : Int)) then (
  some ((), (((gd (.int .i64) x1 x5), ()), ())))
  else none)
def c_ref05_Month : List Nat := []
def L_ref05_Month (_ : Nat) : Pts po_ref05_Month.den := []
def E_ref05_Month : Env := (E0.add 168 (typedSem pi_ref05_Leap po_ref05_Leap g_ref05_Leap))
theorem q_ref05_Month_m (k : Nat) (d : Unit × ((Int × Unit) × ((Int × Unit) × Unit))) : evCode E_ref05_Month (tab (L_ref05_Month k)) c_ref05_Month (bodyOf Try.f110) 0 (finK E_ref05_Month po_ref05_Month [.tmp 4]) (startSt pi_ref05_Month 18 d) = f_ref05_Month_m () d := by kernel_rfl
def g_ref05_Month (d : Unit × ((Int × Unit) × ((Int × Unit) × Unit))) : Option (Unit × ((Int × Unit) × Unit)) := f_ref05_Month_m () d
theorem ok_ref05_Month : FnOk Try.prog ET0 110 pi_ref05_Month po_ref05_Month g_ref05_Month :=
  fn_of_body (E := E_ref05_Month) (envOk_add e0_ok (typed_ok ok_ref05_Leap)) (fn := Try.f110) Try.func110 (by kernel_rfl) (by kernel_rfl) [.tmp 4] (by kernel_rfl) (by kernel_rfl) (by decide) c_ref05_Month L_ref05_Month
    (by intro x hx; cases hx) (by intro k x hx; cases hx) (fun d out h => ⟨0, (q_ref05_Month_m 0 d).trans h⟩)

/- horologe/horologeref05.Of -/
@[reducible] def pi_ref05_Of : PSh := ⟨[], [.mk false [.v (.int .i64)], .mk false [.v (.int .i64)], .mk false [.v (.int .i64)]]⟩
@[reducible] def po_ref05_Of : PSh := ⟨[], [.mk false [.v (.int .i64)]]⟩
@[reducible] def sh_ref05_Of_4 : PSh := ⟨[], [.mk false [.v (.int .i64)], .mk false [.v (.int .i64)], .any, .any, .any, .any, .any, .mk false [.v (.int .i64)], .mk false [.v (.int .i64)], .any, .any, .any, .any, .any, .any, .any, .any, .any, .any, .any, .any, .any, .any, .any, .any]⟩
def f_ref05_Of_p4 (T : (((Unit × ((Int × Unit) × ((Int × Unit) × ((Int × Unit) × ((Int × Unit) × Unit))))) → Option (Unit × ((Int × Unit) × Unit))) × Unit)) (d : Unit × ((Int × Unit) × ((Int × Unit) × ((Int × Unit) × ((Int × Unit) × Unit))))) : Option (Unit × ((Int × Unit) × Unit)) :=
  let x4 : Bool := (decide (d.2.2.2.2.1.1 < d.2.2.1.1))
  bif x4 then (
  (g_ref05_Month ((), ((d.2.1.1, ()), ((d.2.2.2.2.1.1, ()), ())))).bind fun x5 =>
  let x6 : Int := (iadd .i64 d.2.2.2.1.1 x5.2.1.1)
  let x7 : Int := (iadd .i64 d.2.2.2.2.1.1 (1 : Int))
  (T.1 ((), ((d.2.1.1, ()), ((d.2.2.1.1, ()), ((x6, ()), ((x7, ()), ())))))))
  else (
  some ((), ((d.2.2.2.1.1, ()), ())))
def f_ref05_Of_t : Nat → (((Unit × ((Int × Unit) × ((Int × Unit) × ((Int × Unit) × ((Int × Unit) × Unit))))) → Option (Unit × ((Int × Unit) × Unit))) × Unit)
  | 0 => (fun _ => none, ())
  | k + 1 => (f_ref05_Of_p4 (f_ref05_Of_t k), ())
theorem t_ref05_Of (k : Nat) : f_ref05_Of_t (k + 1) = (f_ref05_Of_p4 (f_ref05_Of_t k), ()) := rfl
def f_ref05_Of_m (T : (((Unit × ((Int × Unit) × ((Int × Unit) × ((Int × Unit) × ((Int × Unit) × Unit))))) → Option (Unit × ((Int × Unit) × Unit))) × Unit)) (d : Unit × ((Int × Unit) × ((Int × Unit) × ((Int × Unit) × Unit)))) : Option (Unit × ((Int × Unit) × Unit)) :=
  (g_ref05_Start ((), ((d.2.1.1, ()), ()))).bind fun x1 =>
  let x2 : Int := (iadd .i64 x1.2.1.1 d.2.2.2.1.1)
  let x3 : Int := (isub .i64 x2 (1 : Int))
  (T.1 ((), ((d.2.1.1, ()), ((d.2.2.1.1, ()), ((x3, ()), (((1 : Int), ()), ()))))))
def c_ref05_Of : List Nat := []
def L_ref05_Of (k : Nat) : Pts po_ref05_Of.den := [(4, ⟨sh_ref05_Of_4, (f_ref05_Of_t k).1⟩)]
def E_ref05_Of : Env := ((E0.add 61 (typedSem pi_ref05_Start po_ref05_Start g_ref05_Start)).add 110 (typedSem pi_ref05_Month po_ref05_Month g_ref05_Month))
theorem q_ref05_Of_4 (k : Nat) (d : Unit × ((Int × Unit) × ((Int × Unit) × ((Int × Unit) × ((Int × Unit) × Unit))))) : evAt E_ref05_Of (tab (L_ref05_Of k)) c_ref05_Of 4 (bodyOf Try.f113) 0 (finK E_ref05_Of po_ref05_Of [.tmp 6]) (ptSt sh_ref05_Of_4 d) = f_ref05_Of_p4 (f_ref05_Of_t k) d := by kernel_rfl
theorem q_ref05_Of_m (k : Nat) (d : Unit × ((Int × Unit) × ((Int × Unit) × ((Int × Unit) × Unit)))) : evCode E_ref05_Of (tab (L_ref05_Of k)) c_ref05_Of (bodyOf Try.f113) 0 (finK E_ref05_Of po_ref05_Of [.tmp 6]) (startSt pi_ref05_Of 25 d) = f_ref05_Of_m (f_ref05_Of_t k) d := by kernel_rfl
theorem go_ref05_Of (G : pi_ref05_Of.den → Option po_ref05_Of.den) (hG : ∀ d out, G d = some out → ∃ k, f_ref05_Of_m (f_ref05_Of_t k) d = some out) : FnOk Try.prog ET0 113 pi_ref05_Of po_ref05_Of G :=
  fn_of_body (E := E_ref05_Of) (envOk_add (envOk_add e0_ok (typed_ok ok_ref05_Start)) (typed_ok ok_ref05_Month)) (fn := Try.f113) Try.func113 (by kernel_rfl) (by kernel_rfl) [.tmp 6] (by kernel_rfl) (by kernel_rfl) (by decide) c_ref05_Of L_ref05_Of
    (by intro x hx d; simp only [L_ref05_Of, List.mem_cons, List.not_mem_nil, or_false] at hx; subst hx; rfl)
    (by intro k x hx d out h; simp only [L_ref05_Of, List.mem_cons, List.not_mem_nil, or_false] at hx; subst hx; exact (q_ref05_Of_4 k d).trans h)
    (by intro d out h; obtain ⟨k, hk⟩ := hG d out h; exact ⟨k, (q_ref05_Of_m k d).trans hk⟩)
def g_ref05_Of (d : Unit × ((Int × Unit) × ((Int × Unit) × ((Int × Unit) × Unit)))) : Option (Unit × ((Int × Unit) × Unit)) := lim fun k => f_ref05_Of_m (f_ref05_Of_t k) d
theorem ok_ref05_Of : FnOk Try.prog ET0 113 pi_ref05_Of po_ref05_Of g_ref05_Of := go_ref05_Of g_ref05_Of fun d out h => lim_some h

/- horologe/horologeref08.Moment -/
@[reducible] def pi_ref08_Moment : PSh := ⟨[], [.mk true [.v (.int .i64), .v (.int .i64), .v (.int .i64), .v (.int .i64), .v (.int .i64), .v (.int .i64), .v (.int .i64), .v (.int .i64)]]⟩
@[reducible] def po_ref08_Moment : PSh := ⟨[], [.mk false [.v (.int .i64)], .mk false [.v (.int .i64)]]⟩
@[reducible] def sh_ref08_Moment_4 : PSh := ⟨[], [.any, .any, .any, .any, .mk false [.v (.int .i64)], .mk false [.v (.int .i64)], .any, .any, .any, .any, .any, .any, .any, .any, .any, .any, .any, .any, .any, .any, .any, .any, .any, .any, .any, .any, .any, .any, .any, .any, .any, .any, .any, .any, .any, .any]⟩
@[reducible] def sh_ref08_Moment_9 : PSh := ⟨[], [.any, .any, .any, .any, .mk false [.v (.int .i64)], .mk false [.v (.int .i64)], .any, .any, .any, .any, .any, .any, .any, .any, .any, .any, .any, .any, .any, .any, .any, .any, .any, .any, .any, .any, .any, .any, .any, .any, .any, .any, .any, .any, .any, .any]⟩
def f_ref08_Moment_p4 (T : (((Unit × ((Int × Unit) × ((Int × Unit) × Unit))) → Option (Unit × ((Int × Unit) × ((Int × Unit) × Unit)))) × (((Unit × ((Int × Unit) × ((Int × Unit) × Unit))) → Option (Unit × ((Int × Unit) × ((Int × Unit) × Unit)))) × Unit))) (d : Unit × ((Int × Unit) × ((Int × Unit) × Unit))) : Option (Unit × ((Int × Unit) × ((Int × Unit) × Unit))) :=
  let x5 : Bool := (decide (d.2.2.1.1 < (0 : Int)))
  bif x5 then (
  let x6 : Int := (iadd .i64 d.2.2.1.1 (1440 : Int))
  let x7 : Int := (isub .i64 d.2.1.1 (1 : Int))
  (T.1 ((), ((x7, ()), ((x6, ()), ())))))
  else (
  (T.2.1 ((), ((d.2.1.1, ()), ((d.2.2.1.1, ()), ())))))
def f_ref08_Moment_p9 (T : (((Unit × ((Int × Unit) × ((Int × Unit) × Unit))) → Option (Unit × ((Int × Unit) × ((Int × Unit) × Unit)))) × (((Unit × ((Int × Unit) × ((Int × Unit) × Unit))) → Option (Unit × ((Int × Unit) × ((Int × Unit) × Unit)))) × Unit))) (d : Unit × ((Int × Unit) × ((Int × Unit) × Unit))) : Option (Unit × ((Int × Unit) × ((Int × Unit) × Unit))) :=
  let x8 : Bool := (decide (d.2.2.1.1 ≥ (1440 : Int)))
  bif x8 then (
  let x9 : Int := (isub .i64 d.2.2.1.1 (1440 : Int))
  let x10 : Int := (iadd .i64 d.2.1.1 (1 : Int))
  (T.2.1 ((), ((x10, ()), ((x9, ()), ())))))
  else (
  some ((), ((d.2.1.1, ()), ((d.2.2.1.1, ()), ()))))
def f_ref08_Moment_t : Nat → (((Unit × ((Int × Unit) × ((Int × Unit) × Unit))) → Option (Unit × ((Int × Unit) × ((Int × Unit) × Unit)))) × (((Unit × ((Int × Unit) × ((Int × Unit) × Unit))) → Option (Unit × ((Int × Unit) × ((Int × Unit) × Unit)))) × Unit))
  | 0 => (fun _ => none, (fun _ => none, ()))
  | k + 1 => (f_ref08_Moment_p4 (f_ref08_Moment_t k), (f_ref08_Moment_p9 (f_ref08_Moment_t k), ()))
theorem t_ref08_Moment (k : Nat) : f_ref08_Moment_t (k + 1) = (f_ref08_Moment_p4 (f_ref08_Moment_t k), (f_ref08_Moment_p9 (f_ref08_Moment_t k), ())) := rfl
def f_ref08_Moment_m (T : (((Unit × ((Int × Unit) × ((Int × Unit) × Unit))) → Option (Unit × ((Int × Unit) × ((Int × Unit) × Unit)))) × (((Unit × ((Int × Unit) × ((Int × Unit) × Unit))) → Option (Unit × ((Int × Unit) × ((Int × Unit) × Unit)))) × Unit))) (d : Unit × ((Int × (Int × (Int × (Int × (Int × (Int × (Int × (Int × Unit)))))))) × Unit)) : Option (Unit × ((Int × Unit) × ((Int × Unit) × Unit))) :=
  (g_ref05_Of ((), ((d.2.1.1, ()), ((d.2.1.2.1, ()), ((d.2.1.2.2.1, ()), ()))))).bind fun x1 =>
  let x2 : Int := (imul .i64 d.2.1.2.2.2.1 (60 : Int))
  let x3 : Int := (iadd .i64 x2 d.2.1.2.2.2.2.1)
  let x4 : Int := (isub .i64 x3 d.2.1.2.2.2.2.2.2.2.1)
  (T.1 ((), ((x1.2.1.1, ()), ((x4, ()), ()))))
def c_ref08_Moment : List Nat := []
def L_ref08_Moment (k : Nat) : Pts po_ref08_Moment.den := [(4, ⟨sh_ref08_Moment_4, (f_ref08_Moment_t k).1⟩), (9, ⟨sh_ref08_Moment_9, (f_ref08_Moment_t k).2.1⟩)]
def E_ref08_Moment : Env := (E0.add 113 (typedSem pi_ref05_Of po_ref05_Of g_ref05_Of))
theorem q_ref08_Moment_4 (k : Nat) (d : Unit × ((Int × Unit) × ((Int × Unit) × Unit))) : evAt E_ref08_Moment (tab (L_ref08_Moment k)) c_ref08_Moment 4 (bodyOf Try.f65) 0 (finK E_ref08_Moment po_ref08_Moment [.tmp 2, .tmp 3]) (ptSt sh_ref08_Moment_4 d) = f_ref08_Moment_p4 (f_ref08_Moment_t k) d := by kernel_rfl
theorem q_ref08_Moment_9 (k : Nat) (d : Unit × ((Int × Unit) × ((Int × Unit) × Unit))) : evAt E_ref08_Moment (tab (L_ref08_Moment k)) c_ref08_Moment 9 (bodyOf Try.f65) 0 (finK E_ref08_Moment po_ref08_Moment [.tmp 2, .tmp 3]) (ptSt sh_ref08_Moment_9 d) = f_ref08_Moment_p9 (f_ref08_Moment_t k) d := by kernel_rfl
theorem q_ref08_Moment_m (k : Nat) (d : Unit × ((Int × (Int × (Int × (Int × (Int × (Int × (Int × (Int × Unit)))))))) × Unit)) : evCode E_ref08_Moment (tab (L_ref08_Moment k)) c_ref08_Moment (bodyOf Try.f65) 0 (finK E_ref08_Moment po_ref08_Moment [.tmp 2, .tmp 3]) (startSt pi_ref08_Moment 36 d) = f_ref08_Moment_m (f_ref08_Moment_t k) d := by kernel_rfl
theorem go_ref08_Moment (G : pi_ref08_Moment.den → Option po_ref08_Moment.den) (hG : ∀ d out, G d = some out → ∃ k, f_ref08_Moment_m (f_ref08_Moment_t k) d = some out) : FnOk Try.prog ET0 65 pi_ref08_Moment po_ref08_Moment G :=
  fn_of_body (E := E_ref08_Moment) (envOk_add e0_ok (typed_ok ok_ref05_Of)) (fn := Try.f65) Try.func65 (by kernel_rfl) (by kernel_rfl) [.tmp 2, .tmp 3] (by kernel_rfl) (by kernel_rfl) (by decide) c_ref08_Moment L_ref08_Moment
    (by intro x hx d; simp only [L_ref08_Moment, List.mem_cons, List.not_mem_nil, or_false] at hx; rcases hx with rfl | rfl; rfl; rfl)
    (by intro k x hx d out h; simp only [L_ref08_Moment, List.mem_cons, List.not_mem_nil, or_false] at hx; rcases hx with rfl | rfl; exact (q_ref08_Moment_4 k d).trans h; exact (q_ref08_Moment_9 k d).trans h)
    (by intro d out h; obtain ⟨k, hk⟩ := hG d out h; exact ⟨k, (q_ref08_Moment_m k d).trans hk⟩)
def g_ref08_Moment (d : Unit × ((Int × (Int × (Int × (Int × (Int × (Int × (Int × (Int × Unit)))))))) × Unit)) : Option (Unit × ((Int × Unit) × ((Int × Unit) × Unit))) := lim fun k => f_ref08_Moment_m (f_ref08_Moment_t k) d
theorem ok_ref08_Moment : FnOk Try.prog ET0 65 pi_ref08_Moment po_ref08_Moment g_ref08_Moment := go_ref08_Moment g_ref08_Moment fun d out h => lim_some h

/- horologe/horologeref05.Year -/
@[reducible] def pi_ref05_Year : PSh := ⟨[], [.mk false [.v (.int .i64)]]⟩
@[reducible] def po_ref05_Year : PSh := ⟨[], [.mk false [.v .bool]]⟩
def f_ref05_Year_m (T : Unit) (d : Unit × ((Int × Unit) × Unit)) : Option (Unit × ((Bool × Unit) × Unit)) :=
  let x1 : Bool := (decide (d.2.1.1 ≥ (-9999 : Int)))
  bif x1 then (
  let x2 : Bool := (decide (d.2.1.1 ≤ (9999 : Int)))
  some ((), ((x2, ()), ())))
  else (
  some ((), ((false, ()), ())))
def c_ref05_Year : List Nat := []
def L_ref05_Year (_ : Nat) : Pts po_ref05_Year.den := []
def E_ref05_Year : Env := E0
theorem q_ref05_Year_m (k : Nat) (d : Unit × ((Int × Unit) × Unit)) : evCode E_ref05_Year (tab (L_ref05_Year k)) c_ref05_Year (bodyOf Try.f169) 0 (finK E_ref05_Year po_ref05_Year [.tmp 2]) (startSt pi_ref05_Year 9 d) = f_ref05_Year_m () d := by kernel_rfl
def g_ref05_Year (d : Unit × ((Int × Unit) × Unit)) : Option (Unit × ((Bool × Unit) × Unit)) := f_ref05_Year_m () d
theorem ok_ref05_Year : FnOk Try.prog ET0 169 pi_ref05_Year po_ref05_Year g_ref05_Year :=
  fn_of_body (E := E_ref05_Year) e0_ok (fn := Try.f169) Try.func169 (by kernel_rfl) (by kernel_rfl) [.tmp 2] (by kernel_rfl) (by kernel_rfl) (by decide) c_ref05_Year L_ref05_Year
    (by intro x hx; cases hx) (by intro k x hx; cases hx) (fun d out h => ⟨0, (q_ref05_Year_m 0 d).trans h⟩)

/- horologe/horologeref05.Check -/
@[reducible] def pi_ref05_Check : PSh := ⟨[], [.mk false [.v (.int .i64)], .mk false [.v (.int .i64)], .mk false [.v (.int .i64)]]⟩
@[reducible] def po_ref05_Check : PSh := ⟨[], [.mk false [.v (.int .i64)]]⟩
def f_ref05_Check_m (T : Unit) (d : Unit × ((Int × Unit) × ((Int × Unit) × ((Int × Unit) × Unit)))) : Option (Unit × ((Int × Unit) × Unit)) :=
  (g_ref05_Year ((), ((d.2.1.1, ()), ()))).bind fun x1 =>
  let x2 : Bool := (!x1.2.1.1)
  bif x2 then (
  some ((), (((13 : Int), ()), ())))
  else (
  let x3 : Bool := (decide (d.2.2.1.1 < (1 : Int)))
  bif x3 then (
  some ((), (((1 : Int), ()), ())))
  else (
  let x4 : Bool := (decide (d.2.2.1.1 > (12 : Int)))
  bif x4 then (
  some ((), (((1 : Int), ()), ())))
  else (
  let x5 : Bool := (decide (d.2.2.2.1.1 < (1 : Int)))
  bif x5 then (
  some ((), (((1 : Int), ()), ())))
  else (
  (g_ref05_Month ((), ((d.2.1.1, ()), ((d.2.2.1.1, ()), ())))).bind fun x6 =>
  let x7 : Bool := (decide (d.2.2.2.1.1 > x6.2.1.1))
  bif x7 then (
  some ((), (((1 : Int), ()), ())))
  else (
  some ((), (((0 : Int), ()), ())))))))
def c_ref05_Check : List Nat := []
def L_ref05_Check (_ : Nat) : Pts po_ref05_Check.den := []
def E_ref05_Check : Env := ((E0.add 110 (typedSem pi_ref05_Month po_ref05_Month g_ref05_Month)).add 169 (typedSem pi_ref05_Year po_ref05_Year g_ref05_Year))
theorem q_ref05_Check_m (k : Nat) (d : Unit × ((Int × Unit) × ((Int × Unit) × ((Int × Unit) × Unit)))) : evCode E_ref05_Check (tab (L_ref05_Check k)) c_ref05_Check (bodyOf Try.f111) 0 (finK E_ref05_Check po_ref05_Check [.tmp 6]) (startSt pi_ref05_Check 25 d) = f_ref05_Check_m () d := by kernel_rfl
def g_ref05_Check (d : Unit × ((Int × Unit) × ((Int × Unit) × ((Int × Unit) × Unit)))) : Option (Unit × ((Int × Unit) × Unit)) := f_ref05_Check_m () d
theorem ok_ref05_Check : FnOk Try.prog ET0 111 pi_ref05_Check po_ref05_Check g_ref05_Check :=
  fn_of_body (E := E_ref05_Check) (envOk_add (envOk_add e0_ok (typed_ok ok_ref05_Month)) (typed_ok ok_ref05_Year)) (fn := Try.f111) Try.func111 (by kernel_rfl) (by kernel_rfl) [.tmp 6] (by kernel_rfl) (by kernel_rfl) (by decide) c_ref05_Check L_ref05_Check
    (by intro x hx; cases hx) (by intro k x hx; cases hx) (fun d out h => ⟨0, (q_ref05_Check_m 0 d).trans h⟩)

/- horologe/horologeref05.Last -/
@[reducible] def pi_ref05_Last : PSh := ⟨[], []⟩
@[reducible] def po_ref05_Last : PSh := ⟨[], [.mk false [.v (.int .i64)]]⟩
def f_ref05_Last_m (T : Unit) (d : Unit × Unit) : Option (Unit × ((Int × Unit) × Unit)) :=
  (g_ref05_Start ((), (((10000 : Int), ()), ()))).bind fun x1 =>
  let x2 : Int := (isub .i64 x1.2.1.1 (1 : Int))
  some ((), ((x2, ()), ()))
def c_ref05_Last : List Nat := []
def L_ref05_Last (_ : Nat) : Pts po_ref05_Last.den := []
def E_ref05_Last : Env := (E0.add 61 (typedSem pi_ref05_Start po_ref05_Start g_ref05_Start))
theorem q_ref05_Last_m (k : Nat) (d : Unit × Unit) : evCode E_ref05_Last (tab (L_ref05_Last k)) c_ref05_Last (bodyOf Try.f62) 0 (finK E_ref05_Last po_ref05_Last [.tmp 0]) (startSt pi_ref05_Last 3 d) = f_ref05_Last_m () d := by kernel_rfl
def g_ref05_Last (d : Unit × Unit) : Option (Unit × ((Int × Unit) × Unit)) := f_ref05_Last_m () d
theorem ok_ref05_Last : FnOk Try.prog ET0 62 pi_ref05_Last po_ref05_Last g_ref05_Last :=
  fn_of_body (E := E_ref05_Last) (envOk_add e0_ok (typed_ok ok_ref05_Start)) (fn := Try.f62) Try.func62 (by kernel_rfl) (by kernel_rfl) [.tmp 0] (by kernel_rfl) (by kernel_rfl) (by decide) c_ref05_Last L_ref05_Last
    (by intro x hx; cases hx) (by intro k x hx; cases hx) (fun d out h => ⟨0, (q_ref05_Last_m 0 d).trans h⟩)

/- horologe/horologeref05.First -/
@[reducible] def pi_ref05_First : PSh := ⟨[], []⟩
@[reducible] def po_ref05_First : PSh := ⟨[], [.mk false [.v (.int .i64)]]⟩
def f_ref05_First_m (T : Unit) (d : Unit × Unit) : Option (Unit × ((Int × Unit) × Unit)) :=
  (g_ref05_Start ((), (((-9999 : Int), ()), ()))).bind fun x1 =>
  some ((), ((x1.2.1.1, ()), ()))
def c_ref05_First : List Nat := []
def L_ref05_First (_ : Nat) : Pts po_ref05_First.den := []
def E_ref05_First : Env := (E0.add 61 (typedSem pi_ref05_Start po_ref05_Start g_ref05_Start))
theorem q_ref05_First_m (k : Nat) (d : Unit × Unit) : evCode E_ref05_First (tab (L_ref05_First k)) c_ref05_First (bodyOf Try.f170) 0 (finK E_ref05_First po_ref05_First [.tmp 0]) (startSt pi_ref05_First 2 d) = f_ref05_First_m () d := by kernel_rfl
def g_ref05_First (d : Unit × Unit) : Option (Unit × ((Int × Unit) × Unit)) := f_ref05_First_m () d
theorem ok_ref05_First : FnOk Try.prog ET0 170 pi_ref05_First po_ref05_First g_ref05_First :=
  fn_of_body (E := E_ref05_First) (envOk_add e0_ok (typed_ok ok_ref05_Start)) (fn := Try.f170) Try.func170 (by kernel_rfl) (by kernel_rfl) [.tmp 0] (by kernel_rfl) (by kernel_rfl) (by decide) c_ref05_First L_ref05_First
    (by intro x hx; cases hx) (by intro k x hx; cases hx) (fun d out h => ⟨0, (q_ref05_First_m 0 d).trans h⟩)

/- horologe/horologeref08.There -/
@[reducible] def pi_ref08_There : PSh := ⟨[], [.mk false [.v (.int .i64)]]⟩
@[reducible] def po_ref08_There : PSh := ⟨[], [.mk false [.v .bool]]⟩
def f_ref08_There_m (T : Unit) (d : Unit × ((Int × Unit) × Unit)) : Option (Unit × ((Bool × Unit) × Unit)) :=
  (g_ref05_First ((), ())).bind fun x1 =>
  let x2 : Bool := (decide (d.2.1.1 ≥ x1.2.1.1))
  bif x2 then (
  (g_ref05_Last ((), ())).bind fun x3 =>
  let x4 : Bool := (decide (d.2.1.1 ≤ x3.2.1.1))
  some ((), ((x4, ()), ())))
  else (
  some ((), ((false, ()), ())))
def c_ref08_There : List Nat := []
def L_ref08_There (_ : Nat) : Pts po_ref08_There.den := []
def E_ref08_There : Env := ((E0.add 62 (typedSem pi_ref05_Last po_ref05_Last g_ref05_Last)).add 170 (typedSem pi_ref05_First po_ref05_First g_ref05_First))
theorem q_ref08_There_m (k : Nat) (d : Unit × ((Int × Unit) × Unit)) : evCode E_ref08_There (tab (L_ref08_There k)) c_ref08_There (bodyOf Try.f112) 0 (finK E_ref08_There po_ref08_There [.tmp 2]) (startSt pi_ref08_There 11 d) = f_ref08_There_m () d := by kernel_rfl
def g_ref08_There (d : Unit × ((Int × Unit) × Unit)) : Option (Unit × ((Bool × Unit) × Unit)) := f_ref08_There_m () d
theorem ok_ref08_There : FnOk Try.prog ET0 112 pi_ref08_There po_ref08_There g_ref08_There :=
  fn_of_body (E := E_ref08_There) (envOk_add (envOk_add e0_ok (typed_ok ok_ref05_Last)) (typed_ok ok_ref05_First)) (fn := Try.f112) Try.func112 (by kernel_rfl) (by kernel_rfl) [.tmp 2] (by kernel_rfl) (by kernel_rfl) (by decide) c_ref08_There L_ref08_There
    (by intro x hx; cases hx) (by intro k x hx; cases hx) (fun d out h => ⟨0, (q_ref08_There_m 0 d).trans h⟩)

/- horologe/horologeref08.Check -/
@[reducible] def pi_ref08_Check : PSh := ⟨[], [.mk true [.v (.int .i64), .v (.int .i64), .v (.int .i64), .v (.int .i64), .v (.int .i64), .v (.int .i64), .v (.int .i64), .v (.int .i64)]]⟩
@[reducible] def po_ref08_Check : PSh := ⟨[], [.mk false [.v (.int .i64)]]⟩
def f_ref08_Check_m (T : Unit) (d : Unit × ((Int × (Int × (Int × (Int × (Int × (Int × (Int × (Int × Unit)))))))) × Unit)) : Option (Unit × ((Int × Unit) × Unit)) :=
  (g_ref05_Check ((), ((d.2.1.1, ()), ((d.2.1.2.1, ()), ((d.2.1.2.2.1, ()), ()))))).bind fun x1 =>
  let x2 : Bool := (x1.2.1.1 != (0 : Int))
  bif x2 then (
  some ((), ((x1.2.1.1, ()), ())))
  else (
  let x3 : Bool := (decide (d.2.1.2.2.2.1 < (0 : Int)))
  bif x3 then (
  some ((), (((1 : Int), ()), ())))
  else (
  let x4 : Bool := (decide (d.2.1.2.2.2.1 > (23 : Int)))
  bif x4 then (
  some ((), (((1 : Int), ()), ())))
  else (
  let x5 : Bool := (decide (d.2.1.2.2.2.2.1 < (0 : Int)))
  bif x5 then (
  some ((), (((1 : Int), ()), ())))
  else (
  let x6 : Bool := (decide (d.2.1.2.2.2.2.1 > (59 : Int)))
  bif x6 then (
  some ((), (((1 : Int), ()), ())))
  else (
  let x7 : Bool := (decide (d.2.1.2.2.2.2.2.1 < (0 : Int)))
  bif x7 then (
  some ((), (((1 : Int), ()), ())))
  else (
  let x8 : Bool := (decide (d.2.1.2.2.2.2.2.1 > (60 : Int)))
  bif x8 then (
  some ((), (((1 : Int), ()), ())))
  else (
  let x9 : Bool := (decide (d.2.1.2.2.2.2.2.2.1 < (0 : Int)))
  bif x9 then (
  some ((), (((1 : Int), ()), ())))
  else (
  let x10 : Bool := (decide (d.2.1.2.2.2.2.2.2.1 > (999999999 : Int)))
  bif x10 then (
  some ((), (((1 : Int), ()), ())))
  else (
  let x11 : Bool := (decide (d.2.1.2.2.2.2.2.2.2.1 < (-1439 : Int)))
  bif x11 then (
  some ((), (((1 : Int), ()), ())))
  else (
  let x12 : Bool := (decide (d.2.1.2.2.2.2.2.2.2.1 > (1439 : Int)))
  bif x12 then (
  some ((), (((1 : Int), ()), ())))
  else (
  (g_ref08_Moment ((), ((d.2.1.1, (d.2.1.2.1, (d.2.1.2.2.1, (d.2.1.2.2.2.1, (d.2.1.2.2.2.2.1, (d.2.1.2.2.2.2.2.1, (d.2.1.2.2.2.2.2.2.1, (d.2.1.2.2.2.2.2.2.2.1, ())))))))), ()))).bind fun x13 =>
  (g_ref08_There ((), ((x13.2.1.1, ()), ()))).bind fun x14 =>
  let x15 : Bool := (!x14.2.1.1)
  bif x15 then (
  some ((), (((13 : Int), ()), ())))
  else (
  let x16 : Bool := (d.2.1.2.2.2.2.2.1 == (60 : Int))
  bif x16 then (
  let x17 : Bool := (x13.2.2.1.1 != (1439 : Int))
  bif x17 then (
  some ((), (((12 : Int), ()), ())))
  else (
  some ((), (((0 : Int), ()), ()))))
  else (
  some ((), (((0 : Int), ()), ())))))))))))))))
def c_ref08_Check : List Nat := []
def L_ref08_Check (_ : Nat) : Pts po_ref08_Check.den := []
def E_ref08_Check : Env := (((E0.add 65 (typedSem pi_ref08_Moment po_ref08_Moment g_ref08_Moment)).add 111 (typedSem pi_ref05_Check po_ref05_Check g_ref05_Check)).add 112 (typedSem pi_ref08_There po_ref08_There g_ref08_There))
theorem q_ref08_Check_m (k : Nat) (d : Unit × ((Int × (Int × (Int × (Int × (Int × (Int × (Int × (Int × Unit)))))))) × Unit)) : evCode E_ref08_Check (tab (L_ref08_Check k)) c_ref08_Check (bodyOf Try.f64) 0 (finK E_ref08_Check po_ref08_Check [.tmp 2]) (startSt pi_ref08_Check 77 d) = f_ref08_Check_m () d := by kernel_rfl
def g_ref08_Check (d : Unit × ((Int × (Int × (Int × (Int × (Int × (Int × (Int × (Int × Unit)))))))) × Unit)) : Option (Unit × ((Int × Unit) × Unit)) := f_ref08_Check_m () d
theorem ok_ref08_Check : FnOk Try.prog ET0 64 pi_ref08_Check po_ref08_Check g_ref08_Check :=
  fn_of_body (E := E_ref08_Check) (envOk_add (envOk_add (envOk_add e0_ok (typed_ok ok_ref08_Moment)) (typed_ok ok_ref05_Check)) (typed_ok ok_ref08_There)) (fn := Try.f64) Try.func64 (by kernel_rfl) (by kernel_rfl) [.tmp 2] (by kernel_rfl) (by kernel_rfl) (by decide) c_ref08_Check L_ref08_Check
    (by intro x hx; cases hx) (by intro k x hx; cases hx) (fun d out h => ⟨0, (q_ref08_Check_m 0 d).trans h⟩)

/- horologe/horologeref08.Split -/
@[reducible] def pi_ref08_Split : PSh := ⟨[], [.mk true [.v (.int .i64), .v (.int .i64), .v (.int .i64), .v (.int .i64), .v (.int .i64), .v (.int .i64), .v (.int .i64), .v (.int .i64)]]⟩
@[reducible] def po_ref08_Split : PSh := ⟨[], [.mk false [.v (.int .i64)], .mk false [.v (.int .i64)], .mk false [.v (.int .i64)]]⟩
def f_ref08_Split_m (T : Unit) (d : Unit × ((Int × (Int × (Int × (Int × (Int × (Int × (Int × (Int × Unit)))))))) × Unit)) : Option (Unit × ((Int × Unit) × ((Int × Unit) × ((Int × Unit) × Unit)))) :=
  (g_ref08_Check ((), ((d.2.1.1, (d.2.1.2.1, (d.2.1.2.2.1, (d.2.1.2.2.2.1, (d.2.1.2.2.2.2.1, (d.2.1.2.2.2.2.2.1, (d.2.1.2.2.2.2.2.2.1, (d.2.1.2.2.2.2.2.2.2.1, ())))))))), ()))).bind fun x1 =>
  let x2 : Bool := (x1.2.1.1 != (0 : Int))
  bif x2 then (
  some ((), (((0 : Int), ()), (((0 : Int), ()), ((x1.2.1.1, ()), ())))))
  else (
  (g_ref08_Moment ((), ((d.2.1.1, (d.2.1.2.1, (d.2.1.2.2.1, (d.2.1.2.2.2.1, (d.2.1.2.2.2.2.1, (d.2.1.2.2.2.2.2.1, (d.2.1.2.2.2.2.2.2.1, (d.2.1.2.2.2.2.2.2.2.1, ())))))))), ()))).bind fun x3 =>
  let x4 : Int := (imul .i64 x3.2.2.1.1 (60 : Int))
  let x5 : Int := (iadd .i64 x4 d.2.1.2.2.2.2.2.1)
  some ((), ((x3.2.1.1, ()), ((x5, ()), (((0 : Int), ()), ())))))
def c_ref08_Split : List Nat := []
def L_ref08_Split (_ : Nat) : Pts po_ref08_Split.den := []
def E_ref08_Split : Env := ((E0.add 64 (typedSem pi_ref08_Check po_ref08_Check g_ref08_Check)).add 65 (typedSem pi_ref08_Moment po_ref08_Moment g_ref08_Moment))
theorem q_ref08_Split_m (k : Nat) (d : Unit × ((Int × (Int × (Int × (Int × (Int × (Int × (Int × (Int × Unit)))))))) × Unit)) : evCode E_ref08_Split (tab (L_ref08_Split k)) c_ref08_Split (bodyOf Try.f19) 0 (finK E_ref08_Split po_ref08_Split [.tmp 2, .tmp 3, .tmp 4]) (startSt pi_ref08_Split 24 d) = f_ref08_Split_m () d := by kernel_rfl
def g_ref08_Split (d : Unit × ((Int × (Int × (Int × (Int × (Int × (Int × (Int × (Int × Unit)))))))) × Unit)) : Option (Unit × ((Int × Unit) × ((Int × Unit) × ((Int × Unit) × Unit)))) := f_ref08_Split_m () d
theorem ok_ref08_Split : FnOk Try.prog ET0 19 pi_ref08_Split po_ref08_Split g_ref08_Split :=
  fn_of_body (E := E_ref08_Split) (envOk_add (envOk_add e0_ok (typed_ok ok_ref08_Check)) (typed_ok ok_ref08_Moment)) (fn := Try.f19) Try.func19 (by kernel_rfl) (by kernel_rfl) [.tmp 2, .tmp 3, .tmp 4] (by kernel_rfl) (by kernel_rfl) (by decide) c_ref08_Split L_ref08_Split
    (by intro x hx; cases hx) (by intro k x hx; cases hx) (fun d out h => ⟨0, (q_ref08_Split_m 0 d).trans h⟩)

/- horologe/horologeref12.Posix -/
@[reducible] def pi_ref12_Posix : PSh := ⟨[], [.mk true [.v (.int .i64), .v (.int .i64), .v (.int .i64), .v (.int .i64), .v (.int .i64), .v (.int .i64), .v (.int .i64), .v (.int .i64)]]⟩
@[reducible] def po_ref12_Posix : PSh := ⟨[], [.mk false [.v (.int .i64)], .mk false [.v (.int .i64)]]⟩
def f_ref12_Posix_m (T : Unit) (d : Unit × ((Int × (Int × (Int × (Int × (Int × (Int × (Int × (Int × Unit)))))))) × Unit)) : Option (Unit × ((Int × Unit) × ((Int × Unit) × Unit))) :=
  (g_ref08_Split ((), ((d.2.1.1, (d.2.1.2.1, (d.2.1.2.2.1, (d.2.1.2.2.2.1, (d.2.1.2.2.2.2.1, (d.2.1.2.2.2.2.2.1, (d.2.1.2.2.2.2.2.2.1, (d.2.1.2.2.2.2.2.2.2.1, ())))))))), ()))).bind fun x1 =>
  let x2 : Bool := (x1.2.2.2.1.1 != (0 : Int))
  bif x2 then (
  some ((), (((0 : Int), ()), ((x1.2.2.2.1.1, ()), ()))))
  else (
  let x3 : Int := (imul .i64 x1.2.1.1 (86400 : Int))
  let x4 : Int := (iadd .i64 x3 x1.2.2.1.1)
  some ((), ((x4, ()), (((0 : Int), ()), ()))))
def c_ref12_Posix : List Nat := []
def L_ref12_Posix (_ : Nat) : Pts po_ref12_Posix.den := []
def E_ref12_Posix : Env := (E0.add 19 (typedSem pi_ref08_Split po_ref08_Split g_ref08_Split))
theorem q_ref12_Posix_m (k : Nat) (d : Unit × ((Int × (Int × (Int × (Int × (Int × (Int × (Int × (Int × Unit)))))))) × Unit)) : evCode E_ref12_Posix (tab (L_ref12_Posix k)) c_ref12_Posix (bodyOf Try.f14) 0 (finK E_ref12_Posix po_ref12_Posix [.tmp 2, .tmp 3]) (startSt pi_ref12_Posix 20 d) = f_ref12_Posix_m () d := by kernel_rfl
def g_ref12_Posix (d : Unit × ((Int × (Int × (Int × (Int × (Int × (Int × (Int × (Int × Unit)))))))) × Unit)) : Option (Unit × ((Int × Unit) × ((Int × Unit) × Unit))) := f_ref12_Posix_m () d
theorem ok_ref12_Posix : FnOk Try.prog ET0 14 pi_ref12_Posix po_ref12_Posix g_ref12_Posix :=
  fn_of_body (E := E_ref12_Posix) (envOk_add e0_ok (typed_ok ok_ref08_Split)) (fn := Try.f14) Try.func14 (by kernel_rfl) (by kernel_rfl) [.tmp 2, .tmp 3] (by kernel_rfl) (by kernel_rfl) (by decide) c_ref12_Posix L_ref12_Posix
    (by intro x hx; cases hx) (by intro k x hx; cases hx) (fun d out h => ⟨0, (q_ref12_Posix_m 0 d).trans h⟩)

/- horologe/horologelaw08.Document -/
@[reducible] def pi_law08_Document : PSh := ⟨[], [.mk true [.v (.int .i64), .v (.int .i64), .v (.int .i64), .v (.int .i64), .v (.int .i64), .v (.int .i64), .v (.int .i64), .v (.int .i64)]]⟩
@[reducible] def po_law08_Document : PSh := ⟨[], [.mk true [.v (.int .i64), .v (.int .i64), .v (.int .i64), .v (.int .i64), .v (.int .i64), .v (.int .i64), .v (.int .i64), .v (.int .i64)]]⟩
def f_law08_Document_m (T : Unit) (d : Unit × ((Int × (Int × (Int × (Int × (Int × (Int × (Int × (Int × Unit)))))))) × Unit)) : Option (Unit × ((Int × (Int × (Int × (Int × (Int × (Int × (Int × (Int × Unit)))))))) × Unit)) :=
  some ((), ((d.2.1.1, (d.2.1.2.1, (d.2.1.2.2.1, (d.2.1.2.2.2.1, (d.2.1.2.2.2.2.1, (d.2.1.2.2.2.2.2.1, (d.2.1.2.2.2.2.2.2.1, (d.2.1.2.2.2.2.2.2.2.1, ())))))))), ()))
def c_law08_Document : List Nat := []
def L_law08_Document (_ : Nat) : Pts po_law08_Document.den := []
def E_law08_Document : Env := E0
theorem q_law08_Document_m (k : Nat) (d : Unit × ((Int × (Int × (Int × (Int × (Int × (Int × (Int × (Int × Unit)))))))) × Unit)) : evCode E_law08_Document (tab (L_law08_Document k)) c_law08_Document (bodyOf Try.f15) 0 (finK E_law08_Document po_law08_Document [.cell 2 35]) (startSt pi_law08_Document 20 d) = f_law08_Document_m () d := by kernel_rfl
def g_law08_Document (d : Unit × ((Int × (Int × (Int × (Int × (Int × (Int × (Int × (Int × Unit)))))))) × Unit)) : Option (Unit × ((Int × (Int × (Int × (Int × (Int × (Int × (Int × (Int × Unit)))))))) × Unit)) := f_law08_Document_m () d
theorem ok_law08_Document : FnOk Try.prog ET0 15 pi_law08_Document po_law08_Document g_law08_Document :=
  fn_of_body (E := E_law08_Document) e0_ok (fn := Try.f15) Try.func15 (by kernel_rfl) (by kernel_rfl) [.cell 2 35] (by kernel_rfl) (by kernel_rfl) (by decide) c_law08_Document L_law08_Document
    (by intro x hx; cases hx) (by intro k x hx; cases hx) (fun d out h => ⟨0, (q_law08_Document_m 0 d).trans h⟩)

/- horologe/horologenum.Num -/
@[reducible] def pi_hnum_Num : PSh := ⟨[], [.mk false [.v .err]]⟩
@[reducible] def po_hnum_Num : PSh := ⟨[], [.mk false [.v (.int .i64)]]⟩
def f_hnum_Num_m (T : Unit) (d : Unit × (((Option Int) × Unit) × Unit)) : Option (Unit × ((Int × Unit) × Unit)) :=
  bif d.2.1.1.isNone then (
  some ((), (((0 : Int), ()), ())))
  else (
  bif d.2.1.1.isSome then (
  let x1 : Bool := ((d.2.1.1.getD 0) != (0 : Int))
  bif x1 then (
  some ((), (((d.2.1.1.getD 0), ()), ())))
  else (
  some ((), (((-1 : Int), ()), ()))))
  else (
  some ((), (((-1 : Int), ()), ()))))
def c_hnum_Num : List Nat := []
def L_hnum_Num (_ : Nat) : Pts po_hnum_Num.den := []
def E_hnum_Num : Env := E0
theorem q_hnum_Num_m (k : Nat) (d : Unit × (((Option Int) × Unit) × Unit)) : evCode E_hnum_Num (tab (L_hnum_Num k)) c_hnum_Num (bodyOf Try.f16) 0 (finK E_hnum_Num po_hnum_Num [.tmp 2]) (startSt pi_hnum_Num 18 d) = f_hnum_Num_m () d := by kernel_rfl
def g_hnum_Num (d : Unit × (((Option Int) × Unit) × Unit)) : Option (Unit × ((Int × Unit) × Unit)) := f_hnum_Num_m () d
theorem ok_hnum_Num : FnOk Try.prog ET0 16 pi_hnum_Num po_hnum_Num g_hnum_Num :=
  fn_of_body (E := E_hnum_Num) e0_ok (fn := Try.f16) Try.func16 (by kernel_rfl) (by kernel_rfl) [.tmp 2] (by kernel_rfl) (by kernel_rfl) (by decide) c_hnum_Num L_hnum_Num
    (by intro x hx; cases hx) (by intro k x hx; cases hx) (fun d out h => ⟨0, (q_hnum_Num_m 0 d).trans h⟩)

/- horologe/num.Add -/
@[reducible] def pi_num_Add : PSh := ⟨[], [.mk false [.v (.int .i64)], .mk false [.v (.int .i64)]]⟩
@[reducible] def po_num_Add : PSh := ⟨[], [.mk false [.v (.int .i64)], .mk false [.v .err]]⟩
def f_num_Add_m (T : Unit) (d : Unit × ((Int × Unit) × ((Int × Unit) × Unit))) : Option (Unit × ((Int × Unit) × (((Option Int) × Unit) × Unit))) :=
  let x1 : Int := (iadd .i64 d.2.1.1 d.2.2.1.1)
  let x2 : Bool := (decide (d.2.2.1.1 > (0 : Int)))
  bif x2 then (
  let x3 : Bool := (decide (x1 < d.2.1.1))
  bif x3 then (
  let x4 : (Option Int) := (some (5 : Int))
  some ((), (((0 : Int), ()), ((x4, ()), ()))))
  else (
  let x5 : Bool := (decide (d.2.2.1.1 < (0 : Int)))
  bif x5 then (
  let x6 : Bool := (decide (x1 > d.2.1.1))
  bif x6 then (
  let x7 : (Option Int) := (some (5 : Int))
  some ((), (((0 : Int), ()), ((x7, ()), ()))))
  else (
  some ((), ((x1, ()), (((none : Option Int), ()), ())))))
  else (
  some ((), ((x1, ()), (((none : Option Int), ()), ()))))))
  else (
  let x8 : Bool := (decide (d.2.2.1.1 < (0 : Int)))
  bif x8 then (
  let x9 : Bool := (decide (x1 > d.2.1.1))
  bif x9 then (
  let x10 : (Option Int) := (some (5 : Int))
  some ((), (((0 : Int), ()), ((x10, ()), ()))))
  else (
  some ((), ((x1, ()), (((none : Option Int), ()), ())))))
  else (
  some ((), ((x1, ()), (((none : Option Int), ()), ())))))
def c_num_Add : List Nat := []
def L_num_Add (_ : Nat) : Pts po_num_Add.den := []
def E_num_Add : Env := E0
theorem q_num_Add_m (k : Nat) (d : Unit × ((Int × Unit) × ((Int × Unit) × Unit))) : evCode E_num_Add (tab (L_num_Add k)) c_num_Add (bodyOf Try.f134) 0 (finK E_num_Add po_num_Add [.tmp 4, .tmp 5]) (startSt pi_num_Add 28 d) = f_num_Add_m () d := by kernel_rfl
def g_num_Add (d : Unit × ((Int × Unit) × ((Int × Unit) × Unit))) : Option (Unit × ((Int × Unit) × (((Option Int) × Unit) × Unit))) := f_num_Add_m () d
theorem ok_num_Add : FnOk Try.prog ET0 134 pi_num_Add po_num_Add g_num_Add :=
  fn_of_body (E := E_num_Add) e0_ok (fn := Try.f134) Try.func134 (by kernel_rfl) (by kernel_rfl) [.tmp 4, .tmp 5] (by kernel_rfl) (by kernel_rfl) (by decide) c_num_Add L_num_Add
    (by intro x hx; cases hx) (by intro k x hx; cases hx) (fun d out h => ⟨0, (q_num_Add_m 0 d).trans h⟩)

/- horologe/stamp.FromPosix -/
@[reducible] def pi_stamp_FromPosix : PSh := ⟨[], [.mk false [.v (.int .i64)]]⟩
@[reducible] def po_stamp_FromPosix : PSh := ⟨[], [.mk false [.v (.int .i64)], .mk false [.v .err]]⟩
def f_stamp_FromPosix_m (T : Unit) (d : Unit × ((Int × Unit) × Unit)) : Option (Unit × ((Int × Unit) × (((Option Int) × Unit) × Unit))) :=
  (g_num_Add ((), ((d.2.1.1, ()), (((2208988800 : Int), ()), ())))).bind fun x1 =>
  some ((), ((x1.2.1.1, ()), ((x1.2.2.1.1, ()), ())))
def c_stamp_FromPosix : List Nat := []
def L_stamp_FromPosix (_ : Nat) : Pts po_stamp_FromPosix.den := []
def E_stamp_FromPosix : Env := (E0.add 134 (typedSem pi_num_Add po_num_Add g_num_Add))
theorem q_stamp_FromPosix_m (k : Nat) (d : Unit × ((Int × Unit) × Unit)) : evCode E_stamp_FromPosix (tab (L_stamp_FromPosix k)) c_stamp_FromPosix (bodyOf Try.f86) 0 (finK E_stamp_FromPosix po_stamp_FromPosix [.tmp 2, .tmp 3]) (startSt pi_stamp_FromPosix 8 d) = f_stamp_FromPosix_m () d := by kernel_rfl
def g_stamp_FromPosix (d : Unit × ((Int × Unit) × Unit)) : Option (Unit × ((Int × Unit) × (((Option Int) × Unit) × Unit))) := f_stamp_FromPosix_m () d
theorem ok_stamp_FromPosix : FnOk Try.prog ET0 86 pi_stamp_FromPosix po_stamp_FromPosix g_stamp_FromPosix :=
  fn_of_body (E := E_stamp_FromPosix) (envOk_add e0_ok (typed_ok ok_num_Add)) (fn := Try.f86) Try.func86 (by kernel_rfl) (by kernel_rfl) [.tmp 2, .tmp 3] (by kernel_rfl) (by kernel_rfl) (by decide) c_stamp_FromPosix L_stamp_FromPosix
    (by intro x hx; cases hx) (by intro k x hx; cases hx) (fun d out h => ⟨0, (q_stamp_FromPosix_m 0 d).trans h⟩)

/- horologe/octets.Size[uint32] -/
@[reducible] def pi_octets_Size_u32 : PSh := ⟨[], []⟩
@[reducible] def po_octets_Size_u32 : PSh := ⟨[], [.mk false [.v (.int .i64)]]⟩
@[reducible] def sh_octets_Size_u32_4 : PSh := ⟨[], [.any, .mk false [.v (.int .i64)], .mk false [.v (.int .u32)], .any, .any, .any, .any, .any, .any, .any, .any, .any, .any, .any]⟩
def f_octets_Size_u32_p4 (T : (((Unit × ((Int × Unit) × ((Int × Unit) × Unit))) → Option (Unit × ((Int × Unit) × Unit))) × Unit)) (d : Unit × ((Int × Unit) × ((Int × Unit) × Unit))) : Option (Unit × ((Int × Unit) × Unit)) :=
  let x3 : Bool := (decide (d.2.2.1.1 > (0 : Int)))
  bif x3 then (
  let x4 : Int := (iadd .i64 d.2.1.1 (1 : Int))
  let x5 : Int := (iconv .u64 d.2.2.1.1)
  let x6 : Int := (ishr .u64 x5 (8 : Int))
  let x7 : Int := (iconv .u32 x6)
  (T.1 ((), ((x4, ()), ((x7, ()), ())))))
  else (
  some ((), ((d.2.1.1, ()), ())))
def f_octets_Size_u32_t : Nat → (((Unit × ((Int × Unit) × ((Int × Unit) × Unit))) → Option (Unit × ((Int × Unit) × Unit))) × Unit)
  | 0 => (fun _ => none, ())
  | k + 1 => (f_octets_Size_u32_p4 (f_octets_Size_u32_t k), ())
theorem t_octets_Size_u32 (k : Nat) : f_octets_Size_u32_t (k + 1) = (f_octets_Size_u32_p4 (f_octets_Size_u32_t k), ()) := rfl
def f_octets_Size_u32_m (T : (((Unit × ((Int × Unit) × ((Int × Unit) × Unit))) → Option (Unit × ((Int × Unit) × Unit))) × Unit)) (d : Unit × Unit) : Option (Unit × ((Int × Unit) × Unit)) :=
  let x1 : Int := (iconv .u32 (0 : Int))
  let x2 : Int := (inot .u32 x1)
  (T.1 ((), (((0 : Int), ()), ((x2, ()), ()))))
def c_octets_Size_u32 : List Nat := []
def L_octets_Size_u32 (k : Nat) : Pts po_octets_Size_u32.den := [(4, ⟨sh_octets_Size_u32_4, (f_octets_Size_u32_t k).1⟩)]
def E_octets_Size_u32 : Env := E0
theorem q_octets_Size_u32_4 (k : Nat) (d : Unit × ((Int × Unit) × ((Int × Unit) × Unit))) : evAt E_octets_Size_u32 (tab (L_octets_Size_u32 k)) c_octets_Size_u32 4 (bodyOf Try.f93) 0 (finK E_octets_Size_u32 po_octets_Size_u32 [.tmp 0]) (ptSt sh_octets_Size_u32_4 d) = f_octets_Size_u32_p4 (f_octets_Size_u32_t k) d := by kernel_rfl
theorem q_octets_Size_u32_m (k : Nat) (d : Unit × Unit) : evCode E_octets_Size_u32 (tab (L_octets_Size_u32 k)) c_octets_Size_u32 (bodyOf Try.f93) 0 (finK E_octets_Size_u32 po_octets_Size_u32 [.tmp 0]) (startSt pi_octets_Size_u32 14 d) = f_octets_Size_u32_m (f_octets_Size_u32_t k) d := by kernel_rfl
theorem go_octets_Size_u32 (G : pi_octets_Size_u32.den → Option po_octets_Size_u32.den) (hG : ∀ d out, G d = some out → ∃ k, f_octets_Size_u32_m (f_octets_Size_u32_t k) d = some out) : FnOk Try.prog ET0 93 pi_octets_Size_u32 po_octets_Size_u32 G :=
  fn_of_body (E := E_octets_Size_u32) e0_ok (fn := Try.f93) Try.func93 (by kernel_rfl) (by kernel_rfl) [.tmp 0] (by kernel_rfl) (by kernel_rfl) (by decide) c_octets_Size_u32 L_octets_Size_u32
    (by intro x hx d; simp only [L_octets_Size_u32, List.mem_cons, List.not_mem_nil, or_false] at hx; subst hx; rfl)
    (by intro k x hx d out h; simp only [L_octets_Size_u32, List.mem_cons, List.not_mem_nil, or_false] at hx; subst hx; exact (q_octets_Size_u32_4 k d).trans h)
    (by intro d out h; obtain ⟨k, hk⟩ := hG d out h; exact ⟨k, (q_octets_Size_u32_m k d).trans hk⟩)
def g_octets_Size_u32 (d : Unit × Unit) : Option (Unit × ((Int × Unit) × Unit)) := lim fun k => f_octets_Size_u32_m (f_octets_Size_u32_t k) d
theorem ok_octets_Size_u32 : FnOk Try.prog ET0 93 pi_octets_Size_u32 po_octets_Size_u32 g_octets_Size_u32 := go_octets_Size_u32 g_octets_Size_u32 fun d out h => lim_some h

/- slices.Clone[[]byte,byte] -/
@[reducible] def pi_slices_Clone_byte_byte : PSh := ⟨[], [.mk false [.v (.sl (.int .u8))]]⟩
@[reducible] def po_slices_Clone_byte_byte : PSh := ⟨[.row 5 (.int .u8)], [.mk false [.osl 0]]⟩
def f_slices_Clone_byte_byte_m (T : Unit) (d : Unit × (((List Int) × Unit) × Unit)) : Option (((List Int) × Unit) × (Unit × Unit)) :=
  bif d.2.1.1.isEmpty then (
  agree (
  some ((([] : List Int), ()), ((), ()))) (
  let x1 : (List Int) := ([] : List Int)
  bif decide (((x1.length + d.2.1.1.length) * 1 : Nat) ≤ 140737488355328) && decide (x1.length + d.2.1.1.length ≤ 9223372036854775807) then (
  let x2 : (List Int) := (x1 ++ d.2.1.1)
  some ((x2, ()), ((), ())))
  else none))
  else (
  let x3 : (List Int) := ([] : List Int)
  bif decide (((x3.length + d.2.1.1.length) * 1 : Nat) ≤ 140737488355328) && decide (x3.length + d.2.1.1.length ≤ 9223372036854775807) then (
  let x4 : (List Int) := (x3 ++ d.2.1.1)
  some ((x4, ()), ((), ())))
  else none)
def c_slices_Clone_byte_byte : List Nat := []
def L_slices_Clone_byte_byte (_ : Nat) : Pts po_slices_Clone_byte_byte.den := []
def E_slices_Clone_byte_byte : Env := E0
theorem q_slices_Clone_byte_byte_m (k : Nat) (d : Unit × (((List Int) × Unit) × Unit)) : evCode E_slices_Clone_byte_byte (tab (L_slices_Clone_byte_byte k)) c_slices_Clone_byte_byte (bodyOf Try.f135) 0 (finK E_slices_Clone_byte_byte po_slices_Clone_byte_byte [.tmp 2]) (startSt pi_slices_Clone_byte_byte 8 d) = f_slices_Clone_byte_byte_m () d := by kernel_rfl
def g_slices_Clone_byte_byte (d : Unit × (((List Int) × Unit) × Unit)) : Option (((List Int) × Unit) × (Unit × Unit)) := f_slices_Clone_byte_byte_m () d
theorem ok_slices_Clone_byte_byte : FnOk Try.prog ET0 135 pi_slices_Clone_byte_byte po_slices_Clone_byte_byte g_slices_Clone_byte_byte :=
  fn_of_body (E := E_slices_Clone_byte_byte) e0_ok (fn := Try.f135) Try.func135 (by kernel_rfl) (by kernel_rfl) [.tmp 2] (by kernel_rfl) (by kernel_rfl) (by decide) c_slices_Clone_byte_byte L_slices_Clone_byte_byte
    (by intro x hx; cases hx) (by intro k x hx; cases hx) (fun d out h => ⟨0, (q_slices_Clone_byte_byte_m 0 d).trans h⟩)

/- horologe/octets.Put[uint32] -/
@[reducible] def pi_octets_Put_u32 : PSh := ⟨[], [.mk false [.v (.sl (.int .u8))], .mk false [.v (.sl (.int .u32))]]⟩
@[reducible] def po_octets_Put_u32 : PSh := ⟨[.row 5 (.int .u8)], [.mk false [.osl 0]]⟩
@[reducible] def sh_octets_Put_u32_5 : PSh := ⟨[.row 5 (.int .u8)], [.any, .any, .any, .any, .any, .mk false [.v (.int .i64)], .mk false [.osl 0], .any, .any, .any, .any, .any, .any, .mk false [.v (.sl (.int .u32))], .mk false [.v (.int .i64)], .mk false [.v (.int .i64)], .any, .any, .any, .any, .any, .any, .any, .any, .any, .any, .any, .any, .any, .any, .any, .any, .any, .any, .any, .any]⟩
@[reducible] def sh_octets_Put_u32_11 : PSh := ⟨[.row 5 (.int .u8)], [.any, .any, .any, .any, .any, .mk false [.v (.int .i64)], .mk false [.osl 0], .any, .mk false [.v (.int .u32)], .mk false [.v (.int .i64)], .any, .any, .any, .mk false [.v (.sl (.int .u32))], .mk false [.v (.int .i64)], .mk false [.v (.int .i64)], .any, .any, .any, .any, .any, .any, .any, .any, .any, .any, .any, .any, .any, .any, .any, .any, .any, .any, .any, .any]⟩
def f_octets_Put_u32_p5 (T : (((((List Int) × Unit) × ((Int × Unit) × (Unit × (((List Int) × Unit) × ((Int × Unit) × ((Int × Unit) × Unit)))))) → Option (((List Int) × Unit) × (Unit × Unit))) × (((((List Int) × Unit) × ((Int × Unit) × (Unit × ((Int × Unit) × ((Int × Unit) × (((List Int) × Unit) × ((Int × Unit) × ((Int × Unit) × Unit)))))))) → Option (((List Int) × Unit) × (Unit × Unit))) × Unit))) (d : ((List Int) × Unit) × ((Int × Unit) × (Unit × (((List Int) × Unit) × ((Int × Unit) × ((Int × Unit) × Unit)))))) : Option (((List Int) × Unit) × (Unit × Unit)) :=
  let x4 : Bool := (decide (d.2.2.2.2.2.1.1 < d.2.2.2.2.1.1))
  bif x4 then (
  bif decide ((0 : Int) ≤ d.2.2.2.2.2.1.1) && decide (d.2.2.2.2.2.1.1 < (d.2.2.2.1.1.length : Int)) then (
  let x5 : Int := (isub .i64 d.2.1.1 (1 : Int))
  (T.2.1 ((d.1.1, ()), ((d.2.1.1, ()), ((), (((gd (.int .u32) d.2.2.2.1.1 d.2.2.2.2.2.1.1), ()), ((x5, ()), ((d.2.2.2.1.1, ()), ((d.2.2.2.2.1.1, ()), ((d.2.2.2.2.2.1.1, ()), ()))))))))))
  else none)
  else (
  some ((d.1.1, ()), ((), ())))
def f_octets_Put_u32_p11 (T : (((((List Int) × Unit) × ((Int × Unit) × (Unit × (((List Int) × Unit) × ((Int × Unit) × ((Int × Unit) × Unit)))))) → Option (((List Int) × Unit) × (Unit × Unit))) × (((((List Int) × Unit) × ((Int × Unit) × (Unit × ((Int × Unit) × ((Int × Unit) × (((List Int) × Unit) × ((Int × Unit) × ((Int × Unit) × Unit)))))))) → Option (((List Int) × Unit) × (Unit × Unit))) × Unit))) (d : ((List Int) × Unit) × ((Int × Unit) × (Unit × ((Int × Unit) × ((Int × Unit) × (((List Int) × Unit) × ((Int × Unit) × ((Int × Unit) × Unit)))))))) : Option (((List Int) × Unit) × (Unit × Unit)) :=
  let x6 : Bool := (decide (d.2.2.2.2.1.1 ≥ (0 : Int)))
  bif x6 then (
  let x7 : Int := (iconv .u64 d.2.2.2.1.1)
  let x8 : Int := (imul .i64 (8 : Int) d.2.2.2.2.1.1)
  bif decide (x8 < 0) then (
  none)
  else (
  let x9 : Int := (ishr .u64 x7 x8)
  let x10 : Int := (iconv .u8 x9)
  let x11 : (List Int) := ([x10] : List Int)
  bif decide (((d.1.1.length + x11.length) * 1 : Nat) ≤ 140737488355328) && decide (d.1.1.length + x11.length ≤ 9223372036854775807) then (
  let x12 : (List Int) := (d.1.1 ++ x11)
  let x13 : Int := (isub .i64 d.2.2.2.2.1.1 (1 : Int))
  (T.2.1 ((x12, ()), ((d.2.1.1, ()), ((), ((d.2.2.2.1.1, ()), ((x13, ()), ((d.2.2.2.2.2.1.1, ()), ((d.2.2.2.2.2.2.1.1, ()), ((d.2.2.2.2.2.2.2.1.1, ()), ()))))))))))
  else none))
  else (
  let x14 : Int := (iadd .i64 d.2.2.2.2.2.2.2.1.1 (1 : Int))
  (T.1 ((d.1.1, ()), ((d.2.1.1, ()), ((), ((d.2.2.2.2.2.1.1, ()), ((d.2.2.2.2.2.2.1.1, ()), ((x14, ()), ()))))))))
def f_octets_Put_u32_t : Nat → (((((List Int) × Unit) × ((Int × Unit) × (Unit × (((List Int) × Unit) × ((Int × Unit) × ((Int × Unit) × Unit)))))) → Option (((List Int) × Unit) × (Unit × Unit))) × (((((List Int) × Unit) × ((Int × Unit) × (Unit × ((Int × Unit) × ((Int × Unit) × (((List Int) × Unit) × ((Int × Unit) × ((Int × Unit) × Unit)))))))) → Option (((List Int) × Unit) × (Unit × Unit))) × Unit))
  | 0 => (fun _ => none, (fun _ => none, ()))
  | k + 1 => (f_octets_Put_u32_p5 (f_octets_Put_u32_t k), (f_octets_Put_u32_p11 (f_octets_Put_u32_t k), ()))
theorem t_octets_Put_u32 (k : Nat) : f_octets_Put_u32_t (k + 1) = (f_octets_Put_u32_p5 (f_octets_Put_u32_t k), (f_octets_Put_u32_p11 (f_octets_Put_u32_t k), ())) := rfl
def f_octets_Put_u32_m (T : (((((List Int) × Unit) × ((Int × Unit) × (Unit × (((List Int) × Unit) × ((Int × Unit) × ((Int × Unit) × Unit)))))) → Option (((List Int) × Unit) × (Unit × Unit))) × (((((List Int) × Unit) × ((Int × Unit) × (Unit × ((Int × Unit) × ((Int × Unit) × (((List Int) × Unit) × ((Int × Unit) × ((Int × Unit) × Unit)))))))) → Option (((List Int) × Unit) × (Unit × Unit))) × Unit))) (d : Unit × (((List Int) × Unit) × (((List Int) × Unit) × Unit))) : Option (((List Int) × Unit) × (Unit × Unit)) :=
  (g_octets_Size_u32 ((), ())).bind fun x1 =>
  (g_slices_Clone_byte_byte ((), ((d.2.1.1, ()), ()))).bind fun x2 =>
  let x3 : Int := (d.2.2.1.1.length : Int)
  (T.1 ((x2.1.1, ()), ((x1.2.1.1, ()), ((), ((d.2.2.1.1, ()), ((x3, ()), (((0 : Int), ()), ())))))))
def c_octets_Put_u32 : List Nat := []
def L_octets_Put_u32 (k : Nat) : Pts po_octets_Put_u32.den := [(5, ⟨sh_octets_Put_u32_5, (f_octets_Put_u32_t k).1⟩), (11, ⟨sh_octets_Put_u32_11, (f_octets_Put_u32_t k).2.1⟩)]
def E_octets_Put_u32 : Env := ((E0.add 93 (typedSem pi_octets_Size_u32 po_octets_Size_u32 g_octets_Size_u32)).add 135 (typedSem pi_slices_Clone_byte_byte po_slices_Clone_byte_byte g_slices_Clone_byte_byte))
theorem q_octets_Put_u32_5 (k : Nat) (d : ((List Int) × Unit) × ((Int × Unit) × (Unit × (((List Int) × Unit) × ((Int × Unit) × ((Int × Unit) × Unit)))))) : evAt E_octets_Put_u32 (tab (L_octets_Put_u32 k)) c_octets_Put_u32 5 (bodyOf Try.f87) 0 (finK E_octets_Put_u32 po_octets_Put_u32 [.tmp 4]) (ptSt sh_octets_Put_u32_5 d) = f_octets_Put_u32_p5 (f_octets_Put_u32_t k) d := by kernel_rfl
theorem q_octets_Put_u32_11 (k : Nat) (d : ((List Int) × Unit) × ((Int × Unit) × (Unit × ((Int × Unit) × ((Int × Unit) × (((List Int) × Unit) × ((Int × Unit) × ((Int × Unit) × Unit)))))))) : evAt E_octets_Put_u32 (tab (L_octets_Put_u32 k)) c_octets_Put_u32 11 (bodyOf Try.f87) 0 (finK E_octets_Put_u32 po_octets_Put_u32 [.tmp 4]) (ptSt sh_octets_Put_u32_11 d) = f_octets_Put_u32_p11 (f_octets_Put_u32_t k) d := by kernel_rfl
theorem q_octets_Put_u32_m (k : Nat) (d : Unit × (((List Int) × Unit) × (((List Int) × Unit) × Unit))) : evCode E_octets_Put_u32 (tab (L_octets_Put_u32 k)) c_octets_Put_u32 (bodyOf Try.f87) 0 (finK E_octets_Put_u32 po_octets_Put_u32 [.tmp 4]) (startSt pi_octets_Put_u32 36 d) = f_octets_Put_u32_m (f_octets_Put_u32_t k) d := by kernel_rfl
theorem go_octets_Put_u32 (G : pi_octets_Put_u32.den → Option po_octets_Put_u32.den) (hG : ∀ d out, G d = some out → ∃ k, f_octets_Put_u32_m (f_octets_Put_u32_t k) d = some out) : FnOk Try.prog ET0 87 pi_octets_Put_u32 po_octets_Put_u32 G :=
  fn_of_body (E := E_octets_Put_u32) (envOk_add (envOk_add e0_ok (typed_ok ok_octets_Size_u32)) (typed_ok ok_slices_Clone_byte_byte)) (fn := Try.f87) Try.func87 (by kernel_rfl) (by kernel_rfl) [.tmp 4] (by kernel_rfl) (by kernel_rfl) (by decide) c_octets_Put_u32 L_octets_Put_u32
    (by intro x hx d; simp only [L_octets_Put_u32, List.mem_cons, List.not_mem_nil, or_false] at hx; rcases hx with rfl | rfl; rfl; rfl)
    (by intro k x hx d out h; simp only [L_octets_Put_u32, List.mem_cons, List.not_mem_nil, or_false] at hx; rcases hx with rfl | rfl; exact (q_octets_Put_u32_5 k d).trans h; exact (q_octets_Put_u32_11 k d).trans h)
    (by intro d out h; obtain ⟨k, hk⟩ := hG d out h; exact ⟨k, (q_octets_Put_u32_m k d).trans hk⟩)
def g_octets_Put_u32 (d : Unit × (((List Int) × Unit) × (((List Int) × Unit) × Unit))) : Option (((List Int) × Unit) × (Unit × Unit)) := lim fun k => f_octets_Put_u32_m (f_octets_Put_u32_t k) d
theorem ok_octets_Put_u32 : FnOk Try.prog ET0 87 pi_octets_Put_u32 po_octets_Put_u32 g_octets_Put_u32 := go_octets_Put_u32 g_octets_Put_u32 fun d out h => lim_some h

/- horologe/era.Fold[uint32] -/
@[reducible] def pi_era_Fold_u32 : PSh := ⟨[], [.mk false [.v (.int .i64)]]⟩
@[reducible] def po_era_Fold_u32 : PSh := ⟨[], [.mk false [.v (.int .u32)]]⟩
def f_era_Fold_u32_m (T : Unit) (d : Unit × ((Int × Unit) × Unit)) : Option (Unit × ((Int × Unit) × Unit)) :=
  let x1 : Int := (iconv .u32 d.2.1.1)
  some ((), ((x1, ()), ()))
def c_era_Fold_u32 : List Nat := []
def L_era_Fold_u32 (_ : Nat) : Pts po_era_Fold_u32.den := []
def E_era_Fold_u32 : Env := E0
theorem q_era_Fold_u32_m (k : Nat) (d : Unit × ((Int × Unit) × Unit)) : evCode E_era_Fold_u32 (tab (L_era_Fold_u32 k)) c_era_Fold_u32 (bodyOf Try.f88) 0 (finK E_era_Fold_u32 po_era_Fold_u32 [.tmp 2]) (startSt pi_era_Fold_u32 5 d) = f_era_Fold_u32_m () d := by kernel_rfl
def g_era_Fold_u32 (d : Unit × ((Int × Unit) × Unit)) : Option (Unit × ((Int × Unit) × Unit)) := f_era_Fold_u32_m () d
theorem ok_era_Fold_u32 : FnOk Try.prog ET0 88 pi_era_Fold_u32 po_era_Fold_u32 g_era_Fold_u32 :=
  fn_of_body (E := E_era_Fold_u32) e0_ok (fn := Try.f88) Try.func88 (by kernel_rfl) (by kernel_rfl) [.tmp 2] (by kernel_rfl) (by kernel_rfl) (by decide) c_era_Fold_u32 L_era_Fold_u32
    (by intro x hx; cases hx) (by intro k x hx; cases hx) (fun d out h => ⟨0, (q_era_Fold_u32_m 0 d).trans h⟩)

/- horologe/word.Put -/
@[reducible] def pi_word_Put : PSh := ⟨[], [.mk false [.v (.int .i64)]]⟩
@[reducible] def po_word_Put : PSh := ⟨[.row 5 (.int .u8)], [.mk false [.osl 0], .mk false [.v .err]]⟩
def f_word_Put_m (T : Unit) (d : Unit × ((Int × Unit) × Unit)) : Option (((List Int) × Unit) × (Unit × (((Option Int) × Unit) × Unit))) :=
  (g_stamp_FromPosix ((), ((d.2.1.1, ()), ()))).bind fun x1 =>
  let x2 : Bool := (!x1.2.2.1.1.isNone)
  bif x2 then (
  some ((([] : List Int), ()), ((), ((x1.2.2.1.1, ()), ()))))
  else (
  (g_era_Fold_u32 ((), ((x1.2.1.1, ()), ()))).bind fun x3 =>
  let x4 : (List Int) := ([x3.2.1.1] : List Int)
  (g_octets_Put_u32 ((), ((([] : List Int), ()), ((x4, ()), ())))).bind fun x5 =>
  some ((x5.1.1, ()), ((), (((none : Option Int), ()), ()))))
def c_word_Put : List Nat := []
def L_word_Put (_ : Nat) : Pts po_word_Put.den := []
def E_word_Put : Env := (((E0.add 86 (typedSem pi_stamp_FromPosix po_stamp_FromPosix g_stamp_FromPosix)).add 87 (typedSem pi_octets_Put_u32 po_octets_Put_u32 g_octets_Put_u32)).add 88 (typedSem pi_era_Fold_u32 po_era_Fold_u32 g_era_Fold_u32))
theorem q_word_Put_m (k : Nat) (d : Unit × ((Int × Unit) × Unit)) : evCode E_word_Put (tab (L_word_Put k)) c_word_Put (bodyOf Try.f38) 0 (finK E_word_Put po_word_Put [.tmp 2, .tmp 3]) (startSt pi_word_Put 18 d) = f_word_Put_m () d := by kernel_rfl
def g_word_Put (d : Unit × ((Int × Unit) × Unit)) : Option (((List Int) × Unit) × (Unit × (((Option Int) × Unit) × Unit))) := f_word_Put_m () d
theorem ok_word_Put : FnOk Try.prog ET0 38 pi_word_Put po_word_Put g_word_Put :=
  fn_of_body (E := E_word_Put) (envOk_add (envOk_add (envOk_add e0_ok (typed_ok ok_stamp_FromPosix)) (typed_ok ok_octets_Put_u32)) (typed_ok ok_era_Fold_u32)) (fn := Try.f38) Try.func38 (by kernel_rfl) (by kernel_rfl) [.tmp 2, .tmp 3] (by kernel_rfl) (by kernel_rfl) (by decide) c_word_Put L_word_Put
    (by intro x hx; cases hx) (by intro k x hx; cases hx) (fun d out h => ⟨0, (q_word_Put_m 0 d).trans h⟩)

/- horologe/horologelaw27.alive -/
@[reducible] def pi_law27_alive : PSh := ⟨[], []⟩
@[reducible] def po_law27_alive : PSh := ⟨[], [.mk false [.v .bool]]⟩
def f_law27_alive_m (T : Unit) (d : Unit × Unit) : Option (Unit × ((Bool × Unit) × Unit)) :=
  (g_word_Put ((), (((0 : Int), ()), ()))).bind fun x1 =>
  bif x1.2.2.1.1.isNone then (
  let x2 : Int := (x1.1.1.length : Int)
  let x3 : Bool := (x2 == (4 : Int))
  bif x3 then (
  bif decide ((0 : Int) ≤ (0 : Int)) && decide ((0 : Int) < (x1.1.1.length : Int)) then (
  let x4 : Bool := ((gd (.int .u8) x1.1.1 (0 : Int)) == (131 : Int))
  bif x4 then (
  bif decide ((0 : Int) ≤ (1 : Int)) && decide ((1 : Int) < (x1.1.1.length : Int)) then (
  let x5 : Bool := ((gd (.int .u8) x1.1.1 (1 : Int)) == (170 : Int))
  bif x5 then (
  bif decide ((0 : Int) ≤ (2 : Int)) && decide ((2 : Int) < (x1.1.1.length : Int)) then (
  let x6 : Bool := ((gd (.int .u8) x1.1.1 (2 : Int)) == (126 : Int))
  bif x6 then (
  bif decide ((0 : Int) ≤ (3 : Int)) && decide ((3 : Int) < (x1.1.1.length : Int)) then (
  let x7 : Bool := ((gd (.int .u8) x1.1.1 (3 : Int)) == (128 : Int))
  some ((), ((x7, ()), ())))
  else none)
  else (
  some ((), ((false, ()), ()))))
  else none)
  else (
  some ((), ((false, ()), ()))))
  else none)
  else (
  some ((), ((false, ()), ()))))
  else none)
  else (
  some ((), ((false, ()), ()))))
  else (
  some ((), ((false, ()), ())))
def c_law27_alive : List Nat := []
def L_law27_alive (_ : Nat) : Pts po_law27_alive.den := []
def E_law27_alive : Env := (E0.add 38 (typedSem pi_word_Put po_word_Put g_word_Put))
theorem q_law27_alive_m (k : Nat) (d : Unit × Unit) : evCode E_law27_alive (tab (L_law27_alive k)) c_law27_alive (bodyOf Try.f37) 0 (finK E_law27_alive po_law27_alive [.tmp 0]) (startSt pi_law27_alive 38 d) = f_law27_alive_m () d := by kernel_rfl
def g_law27_alive (d : Unit × Unit) : Option (Unit × ((Bool × Unit) × Unit)) := f_law27_alive_m () d
theorem ok_law27_alive : FnOk Try.prog ET0 37 pi_law27_alive po_law27_alive g_law27_alive :=
  fn_of_body (E := E_law27_alive) (envOk_add e0_ok (typed_ok ok_word_Put)) (fn := Try.f37) Try.func37 (by kernel_rfl) (by kernel_rfl) [.tmp 0] (by kernel_rfl) (by kernel_rfl) (by decide) c_law27_alive L_law27_alive
    (by intro x hx; cases hx) (by intro k x hx; cases hx) (fun d out h => ⟨0, (q_law27_alive_m 0 d).trans h⟩)

/- horologe/horologeref01.Of -/
@[reducible] def pi_ref01_Of : PSh := ⟨[], [.mk false [.v (.int .i64)]]⟩
@[reducible] def po_ref01_Of : PSh := ⟨[.row 88 (.int .u64)], [.mk true [.v .bool, .osl 0]]⟩
@[reducible] def sh_ref01_Of_4 : PSh := ⟨[.var 203 [.v .bool, .osl 1], .row 88 (.int .u64), .row 88 (.int .u64)], [.mk false [.v (.int .i64)], .any, .mk false [.ref 0 0], .mk false [.osl 2], .mk false [.v .bool], .any, .any, .any, .any, .any, .any, .any, .any, .any, .any, .any, .any, .any, .any, .any, .any, .any, .any, .any, .any, .any]⟩
def f_ref01_Of_p4 (T : (((((Bool × Unit) × ((List Int) × ((List Int) × Unit))) × ((Int × Unit) × (Unit × (Unit × ((Bool × Unit) × Unit))))) → Option (((List Int) × Unit) × ((Bool × Unit) × Unit))) × Unit)) (d : ((Bool × Unit) × ((List Int) × ((List Int) × Unit))) × ((Int × Unit) × (Unit × (Unit × ((Bool × Unit) × Unit))))) : Option (((List Int) × Unit) × ((Bool × Unit) × Unit)) :=
  let x2 : Bool := (d.2.1.1 != (0 : Int))
  bif x2 then (
  let x3 : Int := (Int.tmod d.2.1.1 (65536 : Int))
  let x4 : Bool := (decide (x3 < (0 : Int)))
  bif x4 then (
  let x5 : Int := (isub .i64 (0 : Int) x3)
  let x6 : Int := (iconv .u64 x5)
  let x7 : (List Int) := ([x6] : List Int)
  bif decide (((d.1.2.2.1.length + x7.length) * 8 : Nat) ≤ 140737488355328) && decide (d.1.2.2.1.length + x7.length ≤ 9223372036854775807) then (
  let x8 : (List Int) := (d.1.2.2.1 ++ x7)
  let x9 : Int := (iquo .i64 d.2.1.1 (65536 : Int))
  (T.1 (((d.1.1.1, ()), (d.1.2.1, (x8, ()))), ((x9, ()), ((), ((), ((d.2.2.2.2.1.1, ()), ())))))))
  else none)
  else (
  let x10 : Int := (iconv .u64 x3)
  let x11 : (List Int) := ([x10] : List Int)
  bif decide (((d.1.2.2.1.length + x11.length) * 8 : Nat) ≤ 140737488355328) && decide (d.1.2.2.1.length + x11.length ≤ 9223372036854775807) then (
  let x12 : (List Int) := (d.1.2.2.1 ++ x11)
  let x13 : Int := (iquo .i64 d.2.1.1 (65536 : Int))
  (T.1 (((d.1.1.1, ()), (d.1.2.1, (x12, ()))), ((x13, ()), ((), ((), ((d.2.2.2.2.1.1, ()), ())))))))
  else none))
  else (
  some ((d.1.2.2.1, ()), ((d.2.2.2.2.1.1, ()), ())))
def f_ref01_Of_t : Nat → (((((Bool × Unit) × ((List Int) × ((List Int) × Unit))) × ((Int × Unit) × (Unit × (Unit × ((Bool × Unit) × Unit))))) → Option (((List Int) × Unit) × ((Bool × Unit) × Unit))) × Unit)
  | 0 => (fun _ => none, ())
  | k + 1 => (f_ref01_Of_p4 (f_ref01_Of_t k), ())
theorem t_ref01_Of (k : Nat) : f_ref01_Of_t (k + 1) = (f_ref01_Of_p4 (f_ref01_Of_t k), ()) := rfl
def f_ref01_Of_m (T : (((((Bool × Unit) × ((List Int) × ((List Int) × Unit))) × ((Int × Unit) × (Unit × (Unit × ((Bool × Unit) × Unit))))) → Option (((List Int) × Unit) × ((Bool × Unit) × Unit))) × Unit)) (d : Unit × ((Int × Unit) × Unit)) : Option (((List Int) × Unit) × ((Bool × Unit) × Unit)) :=
  let x1 : Bool := (decide (d.2.1.1 < (0 : Int)))
  (T.1 (((false, ()), (([] : List Int), (([] : List Int), ()))), ((d.2.1.1, ()), ((), ((), ((x1, ()), ()))))))
def c_ref01_Of : List Nat := []
def L_ref01_Of (k : Nat) : Pts po_ref01_Of.den := [(4, ⟨sh_ref01_Of_4, (f_ref01_Of_t k).1⟩)]
def E_ref01_Of : Env := E0
theorem q_ref01_Of_4 (k : Nat) (d : ((Bool × Unit) × ((List Int) × ((List Int) × Unit))) × ((Int × Unit) × (Unit × (Unit × ((Bool × Unit) × Unit))))) : evAt E_ref01_Of (tab (L_ref01_Of k)) c_ref01_Of 4 (bodyOf Try.f138) 0 (finK E_ref01_Of po_ref01_Of [.cell 2 203]) (ptSt sh_ref01_Of_4 d) = f_ref01_Of_p4 (f_ref01_Of_t k) d := by kernel_rfl
theorem q_ref01_Of_m (k : Nat) (d : Unit × ((Int × Unit) × Unit)) : evCode E_ref01_Of (tab (L_ref01_Of k)) c_ref01_Of (bodyOf Try.f138) 0 (finK E_ref01_Of po_ref01_Of [.cell 2 203]) (startSt pi_ref01_Of 26 d) = f_ref01_Of_m (f_ref01_Of_t k) d := by kernel_rfl
theorem go_ref01_Of (G : pi_ref01_Of.den → Option po_ref01_Of.den) (hG : ∀ d out, G d = some out → ∃ k, f_ref01_Of_m (f_ref01_Of_t k) d = some out) : FnOk Try.prog ET0 138 pi_ref01_Of po_ref01_Of G :=
  fn_of_body (E := E_ref01_Of) e0_ok (fn := Try.f138) Try.func138 (by kernel_rfl) (by kernel_rfl) [.cell 2 203] (by kernel_rfl) (by kernel_rfl) (by decide) c_ref01_Of L_ref01_Of
    (by intro x hx d; simp only [L_ref01_Of, List.mem_cons, List.not_mem_nil, or_false] at hx; subst hx; rfl)
    (by intro k x hx d out h; simp only [L_ref01_Of, List.mem_cons, List.not_mem_nil, or_false] at hx; subst hx; exact (q_ref01_Of_4 k d).trans h)
    (by intro d out h; obtain ⟨k, hk⟩ := hG d out h; exact ⟨k, (q_ref01_Of_m k d).trans hk⟩)
def g_ref01_Of (d : Unit × ((Int × Unit) × Unit)) : Option (((List Int) × Unit) × ((Bool × Unit) × Unit)) := lim fun k => f_ref01_Of_m (f_ref01_Of_t k) d
theorem ok_ref01_Of : FnOk Try.prog ET0 138 pi_ref01_Of po_ref01_Of g_ref01_Of := go_ref01_Of g_ref01_Of fun d out h => lim_some h

/- horologe/horologeref01.digit -/
@[reducible] def pi_ref01_digit : PSh := ⟨[], [.mk false [.v (.sl (.int .u64))], .mk false [.v (.int .i64)]]⟩
@[reducible] def po_ref01_digit : PSh := ⟨[], [.mk false [.v (.int .u64)]]⟩
def f_ref01_digit_m (T : Unit) (d : Unit × (((List Int) × Unit) × ((Int × Unit) × Unit))) : Option (Unit × ((Int × Unit) × Unit)) :=
  let x1 : Int := (d.2.1.1.length : Int)
  let x2 : Bool := (decide (d.2.2.1.1 < x1))
  bif x2 then (
  bif decide ((0 : Int) ≤ d.2.2.1.1) && decide (d.2.2.1.1 < (d.2.1.1.length : Int)) then (
  some ((), (((gd (.int .u64) d.2.1.1 d.2.2.1.1), ()), ())))
  else none)
  else (
  some ((), (((0 : Int), ()), ())))
def c_ref01_digit : List Nat := []
def L_ref01_digit (_ : Nat) : Pts po_ref01_digit.den := []
def E_ref01_digit : Env := E0
theorem q_ref01_digit_m (k : Nat) (d : Unit × (((List Int) × Unit) × ((Int × Unit) × Unit))) : evCode E_ref01_digit (tab (L_ref01_digit k)) c_ref01_digit (bodyOf Try.f205) 0 (finK E_ref01_digit po_ref01_digit [.tmp 4]) (startSt pi_ref01_digit 13 d) = f_ref01_digit_m () d := by kernel_rfl
def g_ref01_digit (d : Unit × (((List Int) × Unit) × ((Int × Unit) × Unit))) : Option (Unit × ((Int × Unit) × Unit)) := f_ref01_digit_m () d
theorem ok_ref01_digit : FnOk Try.prog ET0 205 pi_ref01_digit po_ref01_digit g_ref01_digit :=
  fn_of_body (E := E_ref01_digit) e0_ok (fn := Try.f205) Try.func205 (by kernel_rfl) (by kernel_rfl) [.tmp 4] (by kernel_rfl) (by kernel_rfl) (by decide) c_ref01_digit L_ref01_digit
    (by intro x hx; cases hx) (by intro k x hx; cases hx) (fun d out h => ⟨0, (q_ref01_digit_m 0 d).trans h⟩)

/- horologe/horologeref01.less -/
@[reducible] def pi_ref01_less : PSh := ⟨[], [.mk false [.v (.sl (.int .u64))], .mk false [.v (.sl (.int .u64))]]⟩
@[reducible] def po_ref01_less : PSh := ⟨[], [.mk false [.v .bool]]⟩
@[reducible] def sh_ref01_less_3 : PSh := ⟨[], [.mk false [.v (.sl (.int .u64))], .mk false [.v (.sl (.int .u64))], .any, .any, .any, .mk false [.v (.int .i64)], .any, .any, .any, .any, .any, .any, .any, .any, .any, .any, .any, .any, .any, .any, .any, .any, .any, .any, .any, .any, .any, .any, .any, .any]⟩
def f_ref01_less_p3 (T : (((Unit × (((List Int) × Unit) × (((List Int) × Unit) × ((Int × Unit) × Unit)))) → Option (Unit × ((Bool × Unit) × Unit))) × Unit)) (d : Unit × (((List Int) × Unit) × (((List Int) × Unit) × ((Int × Unit) × Unit)))) : Option (Unit × ((Bool × Unit) × Unit)) :=
  let x5 : Bool := (decide (d.2.2.2.1.1 ≥ (0 : Int)))
  bif x5 then (
  (g_ref01_digit ((), ((d.2.1.1, ()), ((d.2.2.2.1.1, ()), ())))).bind fun x6 =>
  (g_ref01_digit ((), ((d.2.2.1.1, ()), ((d.2.2.2.1.1, ()), ())))).bind fun x7 =>
  let x8 : Bool := (x6.2.1.1 != x7.2.1.1)
  bif x8 then (
  (g_ref01_digit ((), ((d.2.1.1, ()), ((d.2.2.2.1.1, ()), ())))).bind fun x9 =>
  (g_ref01_digit ((), ((d.2.2.1.1, ()), ((d.2.2.2.1.1, ()), ())))).bind fun x10 =>
  let x11 : Bool := (decide (x9.2.1.1 < x10.2.1.1))
  some ((), ((x11, ()), ())))
  else (
  let x12 : Int := (isub .i64 d.2.2.2.1.1 (1 : Int))
  (T.1 ((), ((d.2.1.1, ()), ((d.2.2.1.1, ()), ((x12, ()), ())))))))
  else (
  some ((), ((false, ()), ())))
def f_ref01_less_t : Nat → (((Unit × (((List Int) × Unit) × (((List Int) × Unit) × ((Int × Unit) × Unit)))) → Option (Unit × ((Bool × Unit) × Unit))) × Unit)
  | 0 => (fun _ => none, ())
  | k + 1 => (f_ref01_less_p3 (f_ref01_less_t k), ())
theorem t_ref01_less (k : Nat) : f_ref01_less_t (k + 1) = (f_ref01_less_p3 (f_ref01_less_t k), ()) := rfl
def f_ref01_less_m (T : (((Unit × (((List Int) × Unit) × (((List Int) × Unit) × ((Int × Unit) × Unit)))) → Option (Unit × ((Bool × Unit) × Unit))) × Unit)) (d : Unit × (((List Int) × Unit) × (((List Int) × Unit) × Unit))) : Option (Unit × ((Bool × Unit) × Unit)) :=
  let x1 : Int := (d.2.1.1.length : Int)
  let x2 : Int := (d.2.2.1.1.length : Int)
  let x3 : Int := (if x2 > x1 then x2 else x1)
  let x4 : Int := (isub .i64 x3 (1 : Int))
  (T.1 ((), ((d.2.1.1, ()), ((d.2.2.1.1, ()), ((x4, ()), ())))))
def c_ref01_less : List Nat := []
def L_ref01_less (k : Nat) : Pts po_ref01_less.den := [(3, ⟨sh_ref01_less_3, (f_ref01_less_t k).1⟩)]
def E_ref01_less : Env := (E0.add 205 (typedSem pi_ref01_digit po_ref01_digit g_ref01_digit))
theorem q_ref01_less_3 (k : Nat) (d : Unit × (((List Int) × Unit) × (((List Int) × Unit) × ((Int × Unit) × Unit)))) : evAt E_ref01_less (tab (L_ref01_less k)) c_ref01_less 3 (bodyOf Try.f181) 0 (finK E_ref01_less po_ref01_less [.tmp 4]) (ptSt sh_ref01_less_3 d) = f_ref01_less_p3 (f_ref01_less_t k) d := by kernel_rfl
theorem q_ref01_less_m (k : Nat) (d : Unit × (((List Int) × Unit) × (((List Int) × Unit) × Unit))) : evCode E_ref01_less (tab (L_ref01_less k)) c_ref01_less (bodyOf Try.f181) 0 (finK E_ref01_less po_ref01_less [.tmp 4]) (startSt pi_ref01_less 30 d) = f_ref01_less_m (f_ref01_less_t k) d := by kernel_rfl
theorem go_ref01_less (G : pi_ref01_less.den → Option po_ref01_less.den) (hG : ∀ d out, G d = some out → ∃ k, f_ref01_less_m (f_ref01_less_t k) d = some out) : FnOk Try.prog ET0 181 pi_ref01_less po_ref01_less G :=
  fn_of_body (E := E_ref01_less) (envOk_add e0_ok (typed_ok ok_ref01_digit)) (fn := Try.f181) Try.func181 (by kernel_rfl) (by kernel_rfl) [.tmp 4] (by kernel_rfl) (by kernel_rfl) (by decide) c_ref01_less L_ref01_less
    (by intro x hx d; simp only [L_ref01_less, List.mem_cons, List.not_mem_nil, or_false] at hx; subst hx; rfl)
    (by intro k x hx d out h; simp only [L_ref01_less, List.mem_cons, List.not_mem_nil, or_false] at hx; subst hx; exact (q_ref01_less_3 k d).trans h)
    (by intro d out h; obtain ⟨k, hk⟩ := hG d out h; exact ⟨k, (q_ref01_less_m k d).trans hk⟩)
def g_ref01_less (d : Unit × (((List Int) × Unit) × (((List Int) × Unit) × Unit))) : Option (Unit × ((Bool × Unit) × Unit)) := lim fun k => f_ref01_less_m (f_ref01_less_t k) d
theorem ok_ref01_less : FnOk Try.prog ET0 181 pi_ref01_less po_ref01_less g_ref01_less := go_ref01_less g_ref01_less fun d out h => lim_some h

/- horologe/horologeref01.Less -/
@[reducible] def pi_ref01_Less : PSh := ⟨[], [.mk true [.v .bool, .v (.sl (.int .u64))], .mk true [.v .bool, .v (.sl (.int .u64))]]⟩
@[reducible] def po_ref01_Less : PSh := ⟨[], [.mk false [.v .bool]]⟩
def f_ref01_Less_m (T : Unit) (d : Unit × ((Bool × ((List Int) × Unit)) × ((Bool × ((List Int) × Unit)) × Unit))) : Option (Unit × ((Bool × Unit) × Unit)) :=
  let x1 : Bool := (!(d.2.1.1 == d.2.2.1.1))
  bif x1 then (
  some ((), ((d.2.1.1, ()), ())))
  else (
  bif d.2.1.1 then (
  (g_ref01_less ((), ((d.2.2.1.2.1, ()), ((d.2.1.2.1, ()), ())))).bind fun x2 =>
  some ((), ((x2.2.1.1, ()), ())))
  else (
  (g_ref01_less ((), ((d.2.1.2.1, ()), ((d.2.2.1.2.1, ()), ())))).bind fun x3 =>
  some ((), ((x3.2.1.1, ()), ()))))
def c_ref01_Less : List Nat := []
def L_ref01_Less (_ : Nat) : Pts po_ref01_Less.den := []
def E_ref01_Less : Env := (E0.add 181 (typedSem pi_ref01_less po_ref01_less g_ref01_less))
theorem q_ref01_Less_m (k : Nat) (d : Unit × ((Bool × ((List Int) × Unit)) × ((Bool × ((List Int) × Unit)) × Unit))) : evCode E_ref01_Less (tab (L_ref01_Less k)) c_ref01_Less (bodyOf Try.f179) 0 (finK E_ref01_Less po_ref01_Less [.tmp 4]) (startSt pi_ref01_Less 24 d) = f_ref01_Less_m () d := by kernel_rfl
def g_ref01_Less (d : Unit × ((Bool × ((List Int) × Unit)) × ((Bool × ((List Int) × Unit)) × Unit))) : Option (Unit × ((Bool × Unit) × Unit)) := f_ref01_Less_m () d
theorem ok_ref01_Less : FnOk Try.prog ET0 179 pi_ref01_Less po_ref01_Less g_ref01_Less :=
  fn_of_body (E := E_ref01_Less) (envOk_add e0_ok (typed_ok ok_ref01_less)) (fn := Try.f179) Try.func179 (by kernel_rfl) (by kernel_rfl) [.tmp 4] (by kernel_rfl) (by kernel_rfl) (by decide) c_ref01_Less L_ref01_Less
    (by intro x hx; cases hx) (by intro k x hx; cases hx) (fun d out h => ⟨0, (q_ref01_Less_m 0 d).trans h⟩)

/- horologe/horologeref01.Small -/
@[reducible] def pi_ref01_Small : PSh := ⟨[], [.mk true [.v .bool, .v (.sl (.int .u64))]]⟩
@[reducible] def po_ref01_Small : PSh := ⟨[], [.mk false [.v (.int .i64)], .mk false [.v (.int .i64)]]⟩
@[reducible] def sh_ref01_Small_8 : PSh := ⟨[.var 203 [.v .bool, .v (.sl (.int .u64))]], [.any, .mk false [.ref 0 0], .any, .any, .any, .any, .mk false [.v (.int .i64)], .mk false [.v (.int .i64)], .any, .any, .any, .any, .any, .any, .any, .any, .any, .any, .any, .any, .any, .any, .any, .any, .any, .any, .any, .any, .any, .any, .any, .any, .any, .any, .any, .any, .any, .any, .any, .any, .any, .any, .any, .any, .any, .any, .any]⟩
def f_ref01_Small_p8 (T : (((((Bool × ((List Int) × Unit)) × Unit) × (Unit × ((Int × Unit) × ((Int × Unit) × Unit)))) → Option (Unit × ((Int × Unit) × ((Int × Unit) × Unit)))) × Unit)) (d : ((Bool × ((List Int) × Unit)) × Unit) × (Unit × ((Int × Unit) × ((Int × Unit) × Unit)))) : Option (Unit × ((Int × Unit) × ((Int × Unit) × Unit))) :=
  let x7 : Bool := (decide (d.2.2.2.1.1 ≥ (0 : Int)))
  bif x7 then (
  let x8 : Int := (imul .i64 d.2.2.1.1 (65536 : Int))
  bif d.1.1.1 then (
  bif decide ((0 : Int) ≤ d.2.2.2.1.1) && decide (d.2.2.2.1.1 < (d.1.1.2.1.length : Int)) then (
  let x9 : Int := (iconv .i64 (gd (.int .u64) d.1.1.2.1 d.2.2.2.1.1))
  let x10 : Int := (isub .i64 x8 x9)
  let x11 : Int := (isub .i64 d.2.2.2.1.1 (1 : Int))
  (T.1 (((d.1.1.1, (d.1.1.2.1, ())), ()), ((), ((x10, ()), ((x11, ()), ()))))))
  else none)
  else (
  bif decide ((0 : Int) ≤ d.2.2.2.1.1) && decide (d.2.2.2.1.1 < (d.1.1.2.1.length : Int)) then (
  let x12 : Int := (iconv .i64 (gd (.int .u64) d.1.1.2.1 d.2.2.2.1.1))
  let x13 : Int := (iadd .i64 x8 x12)
  let x14 : Int := (isub .i64 d.2.2.2.1.1 (1 : Int))
  (T.1 (((d.1.1.1, (d.1.1.2.1, ())), ()), ((), ((x13, ()), ((x14, ()), ()))))))
  else none))
  else (
  some ((), ((d.2.2.1.1, ()), (((0 : Int), ()), ()))))
def f_ref01_Small_t : Nat → (((((Bool × ((List Int) × Unit)) × Unit) × (Unit × ((Int × Unit) × ((Int × Unit) × Unit)))) → Option (Unit × ((Int × Unit) × ((Int × Unit) × Unit)))) × Unit)
  | 0 => (fun _ => none, ())
  | k + 1 => (f_ref01_Small_p8 (f_ref01_Small_t k), ())
theorem t_ref01_Small (k : Nat) : f_ref01_Small_t (k + 1) = (f_ref01_Small_p8 (f_ref01_Small_t k), ()) := rfl
def f_ref01_Small_m (T : (((((Bool × ((List Int) × Unit)) × Unit) × (Unit × ((Int × Unit) × ((Int × Unit) × Unit)))) → Option (Unit × ((Int × Unit) × ((Int × Unit) × Unit)))) × Unit)) (d : Unit × ((Bool × ((List Int) × Unit)) × Unit)) : Option (Unit × ((Int × Unit) × ((Int × Unit) × Unit))) :=
  (g_ref01_Of ((), (((-9223372036854775808 : Int), ()), ()))).bind fun x1 =>
  (g_ref01_Of ((), (((9223372036854775807 : Int), ()), ()))).bind fun x2 =>
  (g_ref01_Less ((), ((d.2.1.1, (d.2.1.2.1, ())), ((x1.2.1.1, (x1.1.1, ())), ())))).bind fun x3 =>
  bif x3.2.1.1 then (
  some ((), (((0 : Int), ()), (((5 : Int), ()), ()))))
  else (
  (g_ref01_Less ((), ((x2.2.1.1, (x2.1.1, ())), ((d.2.1.1, (d.2.1.2.1, ())), ())))).bind fun x4 =>
  bif x4.2.1.1 then (
  some ((), (((0 : Int), ()), (((5 : Int), ()), ()))))
  else (
  let x5 : Int := (d.2.1.2.1.length : Int)
  let x6 : Int := (isub .i64 x5 (1 : Int))
  (T.1 (((d.2.1.1, (d.2.1.2.1, ())), ()), ((), (((0 : Int), ()), ((x6, ()), ())))))))
def c_ref01_Small : List Nat := []
def L_ref01_Small (k : Nat) : Pts po_ref01_Small.den := [(8, ⟨sh_ref01_Small_8, (f_ref01_Small_t k).1⟩)]
def E_ref01_Small : Env := ((E0.add 138 (typedSem pi_ref01_Of po_ref01_Of g_ref01_Of)).add 179 (typedSem pi_ref01_Less po_ref01_Less g_ref01_Less))
theorem q_ref01_Small_8 (k : Nat) (d : ((Bool × ((List Int) × Unit)) × Unit) × (Unit × ((Int × Unit) × ((Int × Unit) × Unit)))) : evAt E_ref01_Small (tab (L_ref01_Small k)) c_ref01_Small 8 (bodyOf Try.f136) 0 (finK E_ref01_Small po_ref01_Small [.tmp 2, .tmp 3]) (ptSt sh_ref01_Small_8 d) = f_ref01_Small_p8 (f_ref01_Small_t k) d := by kernel_rfl
theorem q_ref01_Small_m (k : Nat) (d : Unit × ((Bool × ((List Int) × Unit)) × Unit)) : evCode E_ref01_Small (tab (L_ref01_Small k)) c_ref01_Small (bodyOf Try.f136) 0 (finK E_ref01_Small po_ref01_Small [.tmp 2, .tmp 3]) (startSt pi_ref01_Small 47 d) = f_ref01_Small_m (f_ref01_Small_t k) d := by kernel_rfl
theorem go_ref01_Small (G : pi_ref01_Small.den → Option po_ref01_Small.den) (hG : ∀ d out, G d = some out → ∃ k, f_ref01_Small_m (f_ref01_Small_t k) d = some out) : FnOk Try.prog ET0 136 pi_ref01_Small po_ref01_Small G :=
  fn_of_body (E := E_ref01_Small) (envOk_add (envOk_add e0_ok (typed_ok ok_ref01_Of)) (typed_ok ok_ref01_Less)) (fn := Try.f136) Try.func136 (by kernel_rfl) (by kernel_rfl) [.tmp 2, .tmp 3] (by kernel_rfl) (by kernel_rfl) (by decide) c_ref01_Small L_ref01_Small
    (by intro x hx d; simp only [L_ref01_Small, List.mem_cons, List.not_mem_nil, or_false] at hx; subst hx; rfl)
    (by intro k x hx d out h; simp only [L_ref01_Small, List.mem_cons, List.not_mem_nil, or_false] at hx; subst hx; exact (q_ref01_Small_8 k d).trans h)
    (by intro d out h; obtain ⟨k, hk⟩ := hG d out h; exact ⟨k, (q_ref01_Small_m k d).trans hk⟩)
def g_ref01_Small (d : Unit × ((Bool × ((List Int) × Unit)) × Unit)) : Option (Unit × ((Int × Unit) × ((Int × Unit) × Unit))) := lim fun k => f_ref01_Small_m (f_ref01_Small_t k) d
theorem ok_ref01_Small : FnOk Try.prog ET0 136 pi_ref01_Small po_ref01_Small g_ref01_Small := go_ref01_Small g_ref01_Small fun d out h => lim_some h

/- horologe/horologeref01.plus -/
@[reducible] def pi_ref01_plus : PSh := ⟨[], [.mk false [.v (.sl (.int .u64))], .mk false [.v (.sl (.int .u64))]]⟩
@[reducible] def po_ref01_plus : PSh := ⟨[.row 88 (.int .u64)], [.mk false [.osl 0]]⟩
@[reducible] def sh_ref01_plus_5 : PSh := ⟨[.row 88 (.int .u64)], [.mk false [.v (.sl (.int .u64))], .mk false [.v (.sl (.int .u64))], .any, .any, .any, .mk false [.osl 0], .mk false [.v (.int .u64)], .mk false [.v (.int .i64)], .any, .any, .any, .any, .any, .any, .any, .any, .any, .any, .any, .any, .any, .any, .any, .any, .any, .any, .any, .any, .any, .any, .any, .any, .any, .any, .any, .any, .any, .any, .any, .any, .any, .any]⟩
def f_ref01_plus_p5 (T : (((((List Int) × Unit) × (((List Int) × Unit) × (((List Int) × Unit) × (Unit × ((Int × Unit) × ((Int × Unit) × Unit)))))) → Option (((List Int) × Unit) × (Unit × Unit))) × Unit)) (d : ((List Int) × Unit) × (((List Int) × Unit) × (((List Int) × Unit) × (Unit × ((Int × Unit) × ((Int × Unit) × Unit)))))) : Option (((List Int) × Unit) × (Unit × Unit)) :=
  let x1 : Int := (d.2.1.1.length : Int)
  let x2 : Bool := (decide (d.2.2.2.2.2.1.1 < x1))
  bif x2 then (
  (g_ref01_digit ((), ((d.2.1.1, ()), ((d.2.2.2.2.2.1.1, ()), ())))).bind fun x3 =>
  (g_ref01_digit ((), ((d.2.2.1.1, ()), ((d.2.2.2.2.2.1.1, ()), ())))).bind fun x4 =>
  let x5 : Int := (iadd .u64 x3.2.1.1 x4.2.1.1)
  let x6 : Int := (iadd .u64 x5 d.2.2.2.2.1.1)
  let x7 : Int := (Int.tmod x6 (65536 : Int))
  let x8 : (List Int) := ([x7] : List Int)
  bif decide (((d.1.1.length + x8.length) * 8 : Nat) ≤ 140737488355328) && decide (d.1.1.length + x8.length ≤ 9223372036854775807) then (
  let x9 : (List Int) := (d.1.1 ++ x8)
  let x10 : Int := (iquo .u64 x6 (65536 : Int))
  let x11 : Int := (iadd .i64 d.2.2.2.2.2.1.1 (1 : Int))
  (T.1 ((x9, ()), ((d.2.1.1, ()), ((d.2.2.1.1, ()), ((), ((x10, ()), ((x11, ()), ()))))))))
  else none)
  else (
  let x12 : Int := (d.2.2.1.1.length : Int)
  let x13 : Bool := (decide (d.2.2.2.2.2.1.1 < x12))
  bif x13 then (
  (g_ref01_digit ((), ((d.2.1.1, ()), ((d.2.2.2.2.2.1.1, ()), ())))).bind fun x14 =>
  (g_ref01_digit ((), ((d.2.2.1.1, ()), ((d.2.2.2.2.2.1.1, ()), ())))).bind fun x15 =>
  let x16 : Int := (iadd .u64 x14.2.1.1 x15.2.1.1)
  let x17 : Int := (iadd .u64 x16 d.2.2.2.2.1.1)
  let x18 : Int := (Int.tmod x17 (65536 : Int))
  let x19 : (List Int) := ([x18] : List Int)
  bif decide (((d.1.1.length + x19.length) * 8 : Nat) ≤ 140737488355328) && decide (d.1.1.length + x19.length ≤ 9223372036854775807) then (
  let x20 : (List Int) := (d.1.1 ++ x19)
  let x21 : Int := (iquo .u64 x17 (65536 : Int))
  let x22 : Int := (iadd .i64 d.2.2.2.2.2.1.1 (1 : Int))
  (T.1 ((x20, ()), ((d.2.1.1, ()), ((d.2.2.1.1, ()), ((), ((x21, ()), ((x22, ()), ()))))))))
  else none)
  else (
  let x23 : Bool := (decide (d.2.2.2.2.1.1 > (0 : Int)))
  bif x23 then (
  (g_ref01_digit ((), ((d.2.1.1, ()), ((d.2.2.2.2.2.1.1, ()), ())))).bind fun x24 =>
  (g_ref01_digit ((), ((d.2.2.1.1, ()), ((d.2.2.2.2.2.1.1, ()), ())))).bind fun x25 =>
  let x26 : Int := (iadd .u64 x24.2.1.1 x25.2.1.1)
  let x27 : Int := (iadd .u64 x26 d.2.2.2.2.1.1)
  let x28 : Int := (Int.tmod x27 (65536 : Int))
  let x29 : (List Int) := ([x28] : List Int)
  bif decide (((d.1.1.length + x29.length) * 8 : Nat) ≤ 140737488355328) && decide (d.1.1.length + x29.length ≤ 9223372036854775807) then (
  let x30 : (List Int) := (d.1.1 ++ x29)
  let x31 : Int := (iquo .u64 x27 (65536 : Int))
  let x32 : Int := (iadd .i64 d.2.2.2.2.2.1.1 (1 : Int))
  (T.1 ((x30, ()), ((d.2.1.1, ()), ((d.2.2.1.1, ()), ((), ((x31, ()), ((x32, ()), ()))))))))
  else none)
  else (
  some ((d.1.1, ()), ((), ())))))
def f_ref01_plus_t : Nat → (((((List Int) × Unit) × (((List Int) × Unit) × (((List Int) × Unit) × (Unit × ((Int × Unit) × ((Int × Unit) × Unit)))))) → Option (((List Int) × Unit) × (Unit × Unit))) × Unit)
  | 0 => (fun _ => none, ())
  | k + 1 => (f_ref01_plus_p5 (f_ref01_plus_t k), ())
theorem t_ref01_plus (k : Nat) : f_ref01_plus_t (k + 1) = (f_ref01_plus_p5 (f_ref01_plus_t k), ()) := rfl
def f_ref01_plus_m (T : (((((List Int) × Unit) × (((List Int) × Unit) × (((List Int) × Unit) × (Unit × ((Int × Unit) × ((Int × Unit) × Unit)))))) → Option (((List Int) × Unit) × (Unit × Unit))) × Unit)) (d : Unit × (((List Int) × Unit) × (((List Int) × Unit) × Unit))) : Option (((List Int) × Unit) × (Unit × Unit)) :=
  (T.1 ((([] : List Int), ()), ((d.2.1.1, ()), ((d.2.2.1.1, ()), ((), (((0 : Int), ()), (((0 : Int), ()), ())))))))
def c_ref01_plus : List Nat := []
def L_ref01_plus (k : Nat) : Pts po_ref01_plus.den := [(5, ⟨sh_ref01_plus_5, (f_ref01_plus_t k).1⟩)]
def E_ref01_plus : Env := (E0.add 205 (typedSem pi_ref01_digit po_ref01_digit g_ref01_digit))
theorem q_ref01_plus_5 (k : Nat) (d : ((List Int) × Unit) × (((List Int) × Unit) × (((List Int) × Unit) × (Unit × ((Int × Unit) × ((Int × Unit) × Unit)))))) : evAt E_ref01_plus (tab (L_ref01_plus k)) c_ref01_plus 5 (bodyOf Try.f180) 0 (finK E_ref01_plus po_ref01_plus [.tmp 4]) (ptSt sh_ref01_plus_5 d) = f_ref01_plus_p5 (f_ref01_plus_t k) d := by kernel_rfl
theorem q_ref01_plus_m (k : Nat) (d : Unit × (((List Int) × Unit) × (((List Int) × Unit) × Unit))) : evCode E_ref01_plus (tab (L_ref01_plus k)) c_ref01_plus (bodyOf Try.f180) 0 (finK E_ref01_plus po_ref01_plus [.tmp 4]) (startSt pi_ref01_plus 42 d) = f_ref01_plus_m (f_ref01_plus_t k) d := by kernel_rfl
theorem go_ref01_plus (G : pi_ref01_plus.den → Option po_ref01_plus.den) (hG : ∀ d out, G d = some out → ∃ k, f_ref01_plus_m (f_ref01_plus_t k) d = some out) : FnOk Try.prog ET0 180 pi_ref01_plus po_ref01_plus G :=
  fn_of_body (E := E_ref01_plus) (envOk_add e0_ok (typed_ok ok_ref01_digit)) (fn := Try.f180) Try.func180 (by kernel_rfl) (by kernel_rfl) [.tmp 4] (by kernel_rfl) (by kernel_rfl) (by decide) c_ref01_plus L_ref01_plus
    (by intro x hx d; simp only [L_ref01_plus, List.mem_cons, List.not_mem_nil, or_false] at hx; subst hx; rfl)
    (by intro k x hx d out h; simp only [L_ref01_plus, List.mem_cons, List.not_mem_nil, or_false] at hx; subst hx; exact (q_ref01_plus_5 k d).trans h)
    (by intro d out h; obtain ⟨k, hk⟩ := hG d out h; exact ⟨k, (q_ref01_plus_m k d).trans hk⟩)
def g_ref01_plus (d : Unit × (((List Int) × Unit) × (((List Int) × Unit) × Unit))) : Option (((List Int) × Unit) × (Unit × Unit)) := lim fun k => f_ref01_plus_m (f_ref01_plus_t k) d
theorem ok_ref01_plus : FnOk Try.prog ET0 180 pi_ref01_plus po_ref01_plus g_ref01_plus := go_ref01_plus g_ref01_plus fun d out h => lim_some h

/- horologe/horologeref01.cut -/
@[reducible] def pi_ref01_cut : PSh := ⟨[], [.mk false [.v (.sl (.int .u64))]]⟩
@[reducible] def po_ref01_cut : PSh := ⟨[], [.mk false [.v (.sl (.int .u64))]]⟩
@[reducible] def sh_ref01_cut_2 : PSh := ⟨[], [.mk false [.v (.sl (.int .u64))], .any, .any, .any, .any, .any, .any, .any, .any, .any, .any, .any, .any, .any, .any, .any, .any, .any, .any, .any, .any]⟩
def f_ref01_cut_p2 (T : (((Unit × (((List Int) × Unit) × Unit)) → Option (Unit × (((List Int) × Unit) × Unit))) × Unit)) (d : Unit × (((List Int) × Unit) × Unit)) : Option (Unit × (((List Int) × Unit) × Unit)) :=
  let x1 : Int := (d.2.1.1.length : Int)
  let x2 : Bool := (decide (x1 > (0 : Int)))
  bif x2 then (
  let x3 : Int := (d.2.1.1.length : Int)
  let x4 : Int := (isub .i64 x3 (1 : Int))
  bif decide ((0 : Int) ≤ x4) && decide (x4 < (d.2.1.1.length : Int)) then (
  let x5 : Bool := ((gd (.int .u64) d.2.1.1 x4) == (0 : Int))
  bif x5 then (
  let x6 : Int := (d.2.1.1.length : Int)
  let x7 : Int := (isub .i64 x6 (1 : Int))
  bif decide ((0 : Int) ≤ (0 : Int)) && decide ((0 : Int) ≤ x7) && decide (x7 ≤ (d.2.1.1.length : Int)) then (
  let x8 : (List Int) := (List.drop (Int.toNat (0 : Int)) (List.take (Int.toNat x7) d.2.1.1))
  (T.1 ((), ((x8, ()), ()))))
  else none)
  else (
  some ((), ((d.2.1.1, ()), ()))))
  else none)
  else (
  some ((), ((d.2.1.1, ()), ())))
def f_ref01_cut_t : Nat → (((Unit × (((List Int) × Unit) × Unit)) → Option (Unit × (((List Int) × Unit) × Unit))) × Unit)
  | 0 => (fun _ => none, ())
  | k + 1 => (f_ref01_cut_p2 (f_ref01_cut_t k), ())
theorem t_ref01_cut (k : Nat) : f_ref01_cut_t (k + 1) = (f_ref01_cut_p2 (f_ref01_cut_t k), ()) := rfl
def f_ref01_cut_m (T : (((Unit × (((List Int) × Unit) × Unit)) → Option (Unit × (((List Int) × Unit) × Unit))) × Unit)) (d : Unit × (((List Int) × Unit) × Unit)) : Option (Unit × (((List Int) × Unit) × Unit)) :=
  (T.1 ((), ((d.2.1.1, ()), ())))
def c_ref01_cut : List Nat := []
def L_ref01_cut (k : Nat) : Pts po_ref01_cut.den := [(2, ⟨sh_ref01_cut_2, (f_ref01_cut_t k).1⟩)]
def E_ref01_cut : Env := E0
theorem q_ref01_cut_2 (k : Nat) (d : Unit × (((List Int) × Unit) × Unit)) : evAt E_ref01_cut (tab (L_ref01_cut k)) c_ref01_cut 2 (bodyOf Try.f206) 0 (finK E_ref01_cut po_ref01_cut [.tmp 2]) (ptSt sh_ref01_cut_2 d) = f_ref01_cut_p2 (f_ref01_cut_t k) d := by kernel_rfl
theorem q_ref01_cut_m (k : Nat) (d : Unit × (((List Int) × Unit) × Unit)) : evCode E_ref01_cut (tab (L_ref01_cut k)) c_ref01_cut (bodyOf Try.f206) 0 (finK E_ref01_cut po_ref01_cut [.tmp 2]) (startSt pi_ref01_cut 21 d) = f_ref01_cut_m (f_ref01_cut_t k) d := by kernel_rfl
theorem go_ref01_cut (G : pi_ref01_cut.den → Option po_ref01_cut.den) (hG : ∀ d out, G d = some out → ∃ k, f_ref01_cut_m (f_ref01_cut_t k) d = some out) : FnOk Try.prog ET0 206 pi_ref01_cut po_ref01_cut G :=
  fn_of_body (E := E_ref01_cut) e0_ok (fn := Try.f206) Try.func206 (by kernel_rfl) (by kernel_rfl) [.tmp 2] (by kernel_rfl) (by kernel_rfl) (by decide) c_ref01_cut L_ref01_cut
    (by intro x hx d; simp only [L_ref01_cut, List.mem_cons, List.not_mem_nil, or_false] at hx; subst hx; rfl)
    (by intro k x hx d out h; simp only [L_ref01_cut, List.mem_cons, List.not_mem_nil, or_false] at hx; subst hx; exact (q_ref01_cut_2 k d).trans h)
    (by intro d out h; obtain ⟨k, hk⟩ := hG d out h; exact ⟨k, (q_ref01_cut_m k d).trans hk⟩)
def g_ref01_cut (d : Unit × (((List Int) × Unit) × Unit)) : Option (Unit × (((List Int) × Unit) × Unit)) := lim fun k => f_ref01_cut_m (f_ref01_cut_t k) d
theorem ok_ref01_cut : FnOk Try.prog ET0 206 pi_ref01_cut po_ref01_cut g_ref01_cut := go_ref01_cut g_ref01_cut fun d out h => lim_some h

/- horologe/horologeref01.minus -/
@[reducible] def pi_ref01_minus : PSh := ⟨[], [.mk false [.v (.sl (.int .u64))], .mk false [.v (.sl (.int .u64))]]⟩
@[reducible] def po_ref01_minus : PSh := ⟨[], [.mk false [.v (.sl (.int .u64))]]⟩
@[reducible] def sh_ref01_minus_5 : PSh := ⟨[.row 88 (.int .u64)], [.mk false [.v (.sl (.int .u64))], .mk false [.v (.sl (.int .u64))], .any, .any, .any, .mk false [.osl 0], .mk false [.v (.int .u64)], .mk false [.v (.int .i64)], .any, .any, .any, .any, .any, .any, .any, .any, .any, .any, .any, .any, .any, .any, .any, .any, .any, .any, .any, .any, .any, .any, .any, .any, .any, .any, .any]⟩
def f_ref01_minus_p5 (T : (((((List Int) × Unit) × (((List Int) × Unit) × (((List Int) × Unit) × (Unit × ((Int × Unit) × ((Int × Unit) × Unit)))))) → Option (Unit × (((List Int) × Unit) × Unit))) × Unit)) (d : ((List Int) × Unit) × (((List Int) × Unit) × (((List Int) × Unit) × (Unit × ((Int × Unit) × ((Int × Unit) × Unit)))))) : Option (Unit × (((List Int) × Unit) × Unit)) :=
  let x1 : Int := (d.2.1.1.length : Int)
  let x2 : Bool := (decide (d.2.2.2.2.2.1.1 < x1))
  bif x2 then (
  (g_ref01_digit ((), ((d.2.1.1, ()), ((d.2.2.2.2.2.1.1, ()), ())))).bind fun x3 =>
  let x4 : Int := (iadd .u64 (65536 : Int) x3.2.1.1)
  (g_ref01_digit ((), ((d.2.2.1.1, ()), ((d.2.2.2.2.2.1.1, ()), ())))).bind fun x5 =>
  let x6 : Int := (isub .u64 x4 x5.2.1.1)
  let x7 : Int := (isub .u64 x6 d.2.2.2.2.1.1)
  let x8 : Int := (Int.tmod x7 (65536 : Int))
  let x9 : (List Int) := ([x8] : List Int)
  bif decide (((d.1.1.length + x9.length) * 8 : Nat) ≤ 140737488355328) && decide (d.1.1.length + x9.length ≤ 9223372036854775807) then (
  let x10 : (List Int) := (d.1.1 ++ x9)
  let x11 : Int := (iquo .u64 x7 (65536 : Int))
  let x12 : Int := (isub .u64 (1 : Int) x11)
  let x13 : Int := (iadd .i64 d.2.2.2.2.2.1.1 (1 : Int))
  (T.1 ((x10, ()), ((d.2.1.1, ()), ((d.2.2.1.1, ()), ((), ((x12, ()), ((x13, ()), ()))))))))
  else none)
  else (
  (g_ref01_cut ((), ((d.1.1, ()), ()))).bind fun x14 =>
  some ((), ((x14.2.1.1, ()), ())))
def f_ref01_minus_t : Nat → (((((List Int) × Unit) × (((List Int) × Unit) × (((List Int) × Unit) × (Unit × ((Int × Unit) × ((Int × Unit) × Unit)))))) → Option (Unit × (((List Int) × Unit) × Unit))) × Unit)
  | 0 => (fun _ => none, ())
  | k + 1 => (f_ref01_minus_p5 (f_ref01_minus_t k), ())
theorem t_ref01_minus (k : Nat) : f_ref01_minus_t (k + 1) = (f_ref01_minus_p5 (f_ref01_minus_t k), ()) := rfl
def f_ref01_minus_m (T : (((((List Int) × Unit) × (((List Int) × Unit) × (((List Int) × Unit) × (Unit × ((Int × Unit) × ((Int × Unit) × Unit)))))) → Option (Unit × (((List Int) × Unit) × Unit))) × Unit)) (d : Unit × (((List Int) × Unit) × (((List Int) × Unit) × Unit))) : Option (Unit × (((List Int) × Unit) × Unit)) :=
  (T.1 ((([] : List Int), ()), ((d.2.1.1, ()), ((d.2.2.1.1, ()), ((), (((0 : Int), ()), (((0 : Int), ()), ())))))))
def c_ref01_minus : List Nat := []
def L_ref01_minus (k : Nat) : Pts po_ref01_minus.den := [(5, ⟨sh_ref01_minus_5, (f_ref01_minus_t k).1⟩)]
def E_ref01_minus : Env := ((E0.add 205 (typedSem pi_ref01_digit po_ref01_digit g_ref01_digit)).add 206 (typedSem pi_ref01_cut po_ref01_cut g_ref01_cut))
theorem q_ref01_minus_5 (k : Nat) (d : ((List Int) × Unit) × (((List Int) × Unit) × (((List Int) × Unit) × (Unit × ((Int × Unit) × ((Int × Unit) × Unit)))))) : evAt E_ref01_minus (tab (L_ref01_minus k)) c_ref01_minus 5 (bodyOf Try.f182) 0 (finK E_ref01_minus po_ref01_minus [.tmp 4]) (ptSt sh_ref01_minus_5 d) = f_ref01_minus_p5 (f_ref01_minus_t k) d := by kernel_rfl
theorem q_ref01_minus_m (k : Nat) (d : Unit × (((List Int) × Unit) × (((List Int) × Unit) × Unit))) : evCode E_ref01_minus (tab (L_ref01_minus k)) c_ref01_minus (bodyOf Try.f182) 0 (finK E_ref01_minus po_ref01_minus [.tmp 4]) (startSt pi_ref01_minus 35 d) = f_ref01_minus_m (f_ref01_minus_t k) d := by kernel_rfl
theorem go_ref01_minus (G : pi_ref01_minus.den → Option po_ref01_minus.den) (hG : ∀ d out, G d = some out → ∃ k, f_ref01_minus_m (f_ref01_minus_t k) d = some out) : FnOk Try.prog ET0 182 pi_ref01_minus po_ref01_minus G :=
  fn_of_body (E := E_ref01_minus) (envOk_add (envOk_add e0_ok (typed_ok ok_ref01_digit)) (typed_ok ok_ref01_cut)) (fn := Try.f182) Try.func182 (by kernel_rfl) (by kernel_rfl) [.tmp 4] (by kernel_rfl) (by kernel_rfl) (by decide) c_ref01_minus L_ref01_minus
    (by intro x hx d; simp only [L_ref01_minus, List.mem_cons, List.not_mem_nil, or_false] at hx; subst hx; rfl)
    (by intro k x hx d out h; simp only [L_ref01_minus, List.mem_cons, List.not_mem_nil, or_false] at hx; subst hx; exact (q_ref01_minus_5 k d).trans h)
    (by intro d out h; obtain ⟨k, hk⟩ := hG d out h; exact ⟨k, (q_ref01_minus_m k d).trans hk⟩)
def g_ref01_minus (d : Unit × (((List Int) × Unit) × (((List Int) × Unit) × Unit))) : Option (Unit × (((List Int) × Unit) × Unit)) := lim fun k => f_ref01_minus_m (f_ref01_minus_t k) d
theorem ok_ref01_minus : FnOk Try.prog ET0 182 pi_ref01_minus po_ref01_minus g_ref01_minus := go_ref01_minus g_ref01_minus fun d out h => lim_some h

/- horologe/horologeref01.Plus -/
@[reducible] def pi_ref01_Plus : PSh := ⟨[], [.mk true [.v .bool, .v (.sl (.int .u64))], .mk true [.v .bool, .v (.sl (.int .u64))]]⟩
@[reducible] def po_ref01_Plus : PSh := ⟨[], [.mk true [.v .bool, .v (.sl (.int .u64))]]⟩
def f_ref01_Plus_m (T : Unit) (d : Unit × ((Bool × ((List Int) × Unit)) × ((Bool × ((List Int) × Unit)) × Unit))) : Option (Unit × ((Bool × ((List Int) × Unit)) × Unit)) :=
  let x1 : Bool := (d.2.1.1 == d.2.2.1.1)
  bif x1 then (
  (g_ref01_plus ((), ((d.2.1.2.1, ()), ((d.2.2.1.2.1, ()), ())))).bind fun x2 =>
  some ((), ((d.2.1.1, (x2.1.1, ())), ())))
  else (
  (g_ref01_less ((), ((d.2.1.2.1, ()), ((d.2.2.1.2.1, ()), ())))).bind fun x3 =>
  bif x3.2.1.1 then (
  (g_ref01_minus ((), ((d.2.2.1.2.1, ()), ((d.2.1.2.1, ()), ())))).bind fun x4 =>
  some ((), ((d.2.2.1.1, (x4.2.1.1, ())), ())))
  else (
  (g_ref01_minus ((), ((d.2.1.2.1, ()), ((d.2.2.1.2.1, ()), ())))).bind fun x5 =>
  bif d.2.1.1 then (
  let x6 : Int := (x5.2.1.1.length : Int)
  let x7 : Bool := (decide (x6 > (0 : Int)))
  some ((), ((x7, (x5.2.1.1, ())), ())))
  else (
  some ((), ((false, (x5.2.1.1, ())), ())))))
def c_ref01_Plus : List Nat := []
def L_ref01_Plus (_ : Nat) : Pts po_ref01_Plus.den := []
def E_ref01_Plus : Env := (((E0.add 180 (typedSem pi_ref01_plus po_ref01_plus g_ref01_plus)).add 181 (typedSem pi_ref01_less po_ref01_less g_ref01_less)).add 182 (typedSem pi_ref01_minus po_ref01_minus g_ref01_minus))
theorem q_ref01_Plus_m (k : Nat) (d : Unit × ((Bool × ((List Int) × Unit)) × ((Bool × ((List Int) × Unit)) × Unit))) : evCode E_ref01_Plus (tab (L_ref01_Plus k)) c_ref01_Plus (bodyOf Try.f137) 0 (finK E_ref01_Plus po_ref01_Plus [.cell 4 203]) (startSt pi_ref01_Plus 46 d) = f_ref01_Plus_m () d := by kernel_rfl
def g_ref01_Plus (d : Unit × ((Bool × ((List Int) × Unit)) × ((Bool × ((List Int) × Unit)) × Unit))) : Option (Unit × ((Bool × ((List Int) × Unit)) × Unit)) := f_ref01_Plus_m () d
theorem ok_ref01_Plus : FnOk Try.prog ET0 137 pi_ref01_Plus po_ref01_Plus g_ref01_Plus :=
  fn_of_body (E := E_ref01_Plus) (envOk_add (envOk_add (envOk_add e0_ok (typed_ok ok_ref01_plus)) (typed_ok ok_ref01_less)) (typed_ok ok_ref01_minus)) (fn := Try.f137) Try.func137 (by kernel_rfl) (by kernel_rfl) [.cell 4 203] (by kernel_rfl) (by kernel_rfl) (by decide) c_ref01_Plus L_ref01_Plus
    (by intro x hx; cases hx) (by intro k x hx; cases hx) (fun d out h => ⟨0, (q_ref01_Plus_m 0 d).trans h⟩)

/- horologe/horologeref15.Begin -/
@[reducible] def pi_ref15_Begin : PSh := ⟨[], []⟩
@[reducible] def po_ref15_Begin : PSh := ⟨[], [.mk false [.v (.int .i64)]]⟩
def f_ref15_Begin_m (T : Unit) (d : Unit × Unit) : Option (Unit × ((Int × Unit) × Unit)) :=
  (g_ref05_Of ((), (((1900 : Int), ()), (((1 : Int), ()), (((1 : Int), ()), ()))))).bind fun x1 =>
  let x2 : Int := (ineg .i64 x1.2.1.1)
  let x3 : Int := (imul .i64 x2 (86400 : Int))
  some ((), ((x3, ()), ()))
def c_ref15_Begin : List Nat := []
def L_ref15_Begin (_ : Nat) : Pts po_ref15_Begin.den := []
def E_ref15_Begin : Env := (E0.add 113 (typedSem pi_ref05_Of po_ref05_Of g_ref05_Of))
theorem q_ref15_Begin_m (k : Nat) (d : Unit × Unit) : evCode E_ref15_Begin (tab (L_ref15_Begin k)) c_ref15_Begin (bodyOf Try.f139) 0 (finK E_ref15_Begin po_ref15_Begin [.tmp 0]) (startSt pi_ref15_Begin 4 d) = f_ref15_Begin_m () d := by kernel_rfl
def g_ref15_Begin (d : Unit × Unit) : Option (Unit × ((Int × Unit) × Unit)) := f_ref15_Begin_m () d
theorem ok_ref15_Begin : FnOk Try.prog ET0 139 pi_ref15_Begin po_ref15_Begin g_ref15_Begin :=
  fn_of_body (E := E_ref15_Begin) (envOk_add e0_ok (typed_ok ok_ref05_Of)) (fn := Try.f139) Try.func139 (by kernel_rfl) (by kernel_rfl) [.tmp 0] (by kernel_rfl) (by kernel_rfl) (by decide) c_ref15_Begin L_ref15_Begin
    (by intro x hx; cases hx) (by intro k x hx; cases hx) (fun d out h => ⟨0, (q_ref15_Begin_m 0 d).trans h⟩)

/- horologe/horologeref15.Ahead -/
@[reducible] def pi_ref15_Ahead : PSh := ⟨[], [.mk false [.v (.int .i64)]]⟩
@[reducible] def po_ref15_Ahead : PSh := ⟨[], [.mk false [.v (.int .i64)], .mk false [.v (.int .i64)]]⟩
def f_ref15_Ahead_m (T : Unit) (d : Unit × ((Int × Unit) × Unit)) : Option (Unit × ((Int × Unit) × ((Int × Unit) × Unit))) :=
  (g_ref01_Of ((), ((d.2.1.1, ()), ()))).bind fun x1 =>
  (g_ref15_Begin ((), ())).bind fun x2 =>
  (g_ref01_Of ((), ((x2.2.1.1, ()), ()))).bind fun x3 =>
  (g_ref01_Plus ((), ((x1.2.1.1, (x1.1.1, ())), ((x3.2.1.1, (x3.1.1, ())), ())))).bind fun x4 =>
  (g_ref01_Small ((), ((x4.2.1.1, (x4.2.1.2.1, ())), ()))).bind fun x5 =>
  some ((), ((x5.2.1.1, ()), ((x5.2.2.1.1, ()), ())))
def c_ref15_Ahead : List Nat := []
def L_ref15_Ahead (_ : Nat) : Pts po_ref15_Ahead.den := []
def E_ref15_Ahead : Env := ((((E0.add 136 (typedSem pi_ref01_Small po_ref01_Small g_ref01_Small)).add 137 (typedSem pi_ref01_Plus po_ref01_Plus g_ref01_Plus)).add 138 (typedSem pi_ref01_Of po_ref01_Of g_ref01_Of)).add 139 (typedSem pi_ref15_Begin po_ref15_Begin g_ref15_Begin))
theorem q_ref15_Ahead_m (k : Nat) (d : Unit × ((Int × Unit) × Unit)) : evCode E_ref15_Ahead (tab (L_ref15_Ahead k)) c_ref15_Ahead (bodyOf Try.f89) 0 (finK E_ref15_Ahead po_ref15_Ahead [.tmp 2, .tmp 3]) (startSt pi_ref15_Ahead 12 d) = f_ref15_Ahead_m () d := by kernel_rfl
def g_ref15_Ahead (d : Unit × ((Int × Unit) × Unit)) : Option (Unit × ((Int × Unit) × ((Int × Unit) × Unit))) := f_ref15_Ahead_m () d
theorem ok_ref15_Ahead : FnOk Try.prog ET0 89 pi_ref15_Ahead po_ref15_Ahead g_ref15_Ahead :=
  fn_of_body (E := E_ref15_Ahead) (envOk_add (envOk_add (envOk_add (envOk_add e0_ok (typed_ok ok_ref01_Small)) (typed_ok ok_ref01_Plus)) (typed_ok ok_ref01_Of)) (typed_ok ok_ref15_Begin)) (fn := Try.f89) Try.func89 (by kernel_rfl) (by kernel_rfl) [.tmp 2, .tmp 3] (by kernel_rfl) (by kernel_rfl) (by decide) c_ref15_Ahead L_ref15_Ahead
    (by intro x hx; cases hx) (by intro k x hx; cases hx) (fun d out h => ⟨0, (q_ref15_Ahead_m 0 d).trans h⟩)

/- horologe/horologeref03.Number -/
@[reducible] def pi_ref03_Number : PSh := ⟨[], [.mk false [.v (.int .u64)], .mk false [.v (.int .i64)]]⟩
@[reducible] def po_ref03_Number : PSh := ⟨[.row 5 (.int .u8)], [.mk false [.osl 0]]⟩
@[reducible] def sh_ref03_Number_4 : PSh := ⟨[.row 5 (.int .u8)], [.mk false [.v (.int .u64)], .any, .any, .any, .any, .mk false [.osl 0], .mk false [.v (.int .i64)], .any, .any, .any, .any, .any, .any, .any, .any, .any, .any, .any, .any, .any, .any, .any, .any, .any]⟩
def f_ref03_Number_p4 (T : (((((List Int) × Unit) × ((Int × Unit) × (Unit × ((Int × Unit) × Unit)))) → Option (((List Int) × Unit) × (Unit × Unit))) × Unit)) (d : ((List Int) × Unit) × ((Int × Unit) × (Unit × ((Int × Unit) × Unit)))) : Option (((List Int) × Unit) × (Unit × Unit)) :=
  let x3 : Bool := (decide (d.2.2.2.1.1 ≥ (0 : Int)))
  bif x3 then (
  let x4 : Int := (Int.tmod d.2.1.1 (256 : Int))
  let x5 : Int := (iconv .u8 x4)
  bif decide ((0 : Int) ≤ d.2.2.2.1.1) && decide (d.2.2.2.1.1 < (d.1.1.length : Int)) then (
  let x6 : (List Int) := (List.set d.1.1 (Int.toNat d.2.2.2.1.1) x5)
  let x7 : Int := (iquo .u64 d.2.1.1 (256 : Int))
  let x8 : Int := (isub .i64 d.2.2.2.1.1 (1 : Int))
  (T.1 ((x6, ()), ((x7, ()), ((), ((x8, ()), ()))))))
  else none)
  else (
  some ((d.1.1, ()), ((), ())))
def f_ref03_Number_t : Nat → (((((List Int) × Unit) × ((Int × Unit) × (Unit × ((Int × Unit) × Unit)))) → Option (((List Int) × Unit) × (Unit × Unit))) × Unit)
  | 0 => (fun _ => none, ())
  | k + 1 => (f_ref03_Number_p4 (f_ref03_Number_t k), ())
theorem t_ref03_Number (k : Nat) : f_ref03_Number_t (k + 1) = (f_ref03_Number_p4 (f_ref03_Number_t k), ()) := rfl
def f_ref03_Number_m (T : (((((List Int) × Unit) × ((Int × Unit) × (Unit × ((Int × Unit) × Unit)))) → Option (((List Int) × Unit) × (Unit × Unit))) × Unit)) (d : Unit × ((Int × Unit) × ((Int × Unit) × Unit))) : Option (((List Int) × Unit) × (Unit × Unit)) :=
  bif decide ((0 : Int) ≤ d.2.2.1.1) && decide (d.2.2.1.1 ≤ d.2.2.1.1) && decide (d.2.2.1.1 * (1 : Int) ≤ 140737488355328) && decide (d.2.2.1.1 ≤ 9223372036854775807) then (
  let x1 : (List Int) := (List.replicate (Int.toNat d.2.2.1.1) (0 : Int))
  let x2 : Int := (isub .i64 d.2.2.1.1 (1 : Int))
  (T.1 ((x1, ()), ((d.2.1.1, ()), ((), ((x2, ()), ()))))))
  else none
def c_ref03_Number : List Nat := []
def L_ref03_Number (k : Nat) : Pts po_ref03_Number.den := [(4, ⟨sh_ref03_Number_4, (f_ref03_Number_t k).1⟩)]
def E_ref03_Number : Env := E0
theorem q_ref03_Number_4 (k : Nat) (d : ((List Int) × Unit) × ((Int × Unit) × (Unit × ((Int × Unit) × Unit)))) : evAt E_ref03_Number (tab (L_ref03_Number k)) c_ref03_Number 4 (bodyOf Try.f90) 0 (finK E_ref03_Number po_ref03_Number [.tmp 4]) (ptSt sh_ref03_Number_4 d) = f_ref03_Number_p4 (f_ref03_Number_t k) d := by kernel_rfl
theorem q_ref03_Number_m (k : Nat) (d : Unit × ((Int × Unit) × ((Int × Unit) × Unit))) : evCode E_ref03_Number (tab (L_ref03_Number k)) c_ref03_Number (bodyOf Try.f90) 0 (finK E_ref03_Number po_ref03_Number [.tmp 4]) (startSt pi_ref03_Number 24 d) = f_ref03_Number_m (f_ref03_Number_t k) d := by kernel_rfl
theorem go_ref03_Number (G : pi_ref03_Number.den → Option po_ref03_Number.den) (hG : ∀ d out, G d = some out → ∃ k, f_ref03_Number_m (f_ref03_Number_t k) d = some out) : FnOk Try.prog ET0 90 pi_ref03_Number po_ref03_Number G :=
  fn_of_body (E := E_ref03_Number) e0_ok (fn := Try.f90) Try.func90 (by kernel_rfl) (by kernel_rfl) [.tmp 4] (by kernel_rfl) (by kernel_rfl) (by decide) c_ref03_Number L_ref03_Number
    (by intro x hx d; simp only [L_ref03_Number, List.mem_cons, List.not_mem_nil, or_false] at hx; subst hx; rfl)
    (by intro k x hx d out h; simp only [L_ref03_Number, List.mem_cons, List.not_mem_nil, or_false] at hx; subst hx; exact (q_ref03_Number_4 k d).trans h)
    (by intro d out h; obtain ⟨k, hk⟩ := hG d out h; exact ⟨k, (q_ref03_Number_m k d).trans hk⟩)
def g_ref03_Number (d : Unit × ((Int × Unit) × ((Int × Unit) × Unit))) : Option (((List Int) × Unit) × (Unit × Unit)) := lim fun k => f_ref03_Number_m (f_ref03_Number_t k) d
theorem ok_ref03_Number : FnOk Try.prog ET0 90 pi_ref03_Number po_ref03_Number g_ref03_Number := go_ref03_Number g_ref03_Number fun d out h => lim_some h

/- horologe/horologeref13.Fold -/
@[reducible] def pi_ref13_Fold : PSh := ⟨[], [.mk false [.v (.int .i64)], .mk false [.v (.int .i64)]]⟩
@[reducible] def po_ref13_Fold : PSh := ⟨[], [.mk false [.v (.int .i64)]]⟩
@[reducible] def sh_ref13_Fold_4 : PSh := ⟨[], [.mk false [.v (.int .i64)], .mk false [.v (.int .i64)], .any, .any, .any, .mk false [.v (.int .i64)], .mk false [.v (.int .i64)], .any, .any, .any, .any, .any, .any, .any, .any, .any, .any, .any, .any, .any, .any, .any, .any, .any]⟩
def f_ref13_Fold_p4 (T : (((Unit × ((Int × Unit) × ((Int × Unit) × ((Int × Unit) × ((Int × Unit) × Unit))))) → Option (Unit × ((Int × Unit) × Unit))) × Unit)) (d : Unit × ((Int × Unit) × ((Int × Unit) × ((Int × Unit) × ((Int × Unit) × Unit))))) : Option (Unit × ((Int × Unit) × Unit)) :=
  let x1 : Bool := (decide (d.2.2.2.2.1.1 < d.2.2.1.1))
  bif x1 then (
  let x2 : Int := (imul .i64 d.2.2.2.1.1 (2 : Int))
  let x3 : Int := (iadd .i64 d.2.2.2.2.1.1 (1 : Int))
  (T.1 ((), ((d.2.1.1, ()), ((d.2.2.1.1, ()), ((x2, ()), ((x3, ()), ())))))))
  else (
  bif (d.2.2.2.1.1 == 0) then (
  none)
  else (
  let x4 : Int := (Int.tmod d.2.1.1 d.2.2.2.1.1)
  let x5 : Bool := (decide (x4 < (0 : Int)))
  bif x5 then (
  let x6 : Int := (iadd .i64 x4 d.2.2.2.1.1)
  some ((), ((x6, ()), ())))
  else (
  some ((), ((x4, ()), ())))))
def f_ref13_Fold_t : Nat → (((Unit × ((Int × Unit) × ((Int × Unit) × ((Int × Unit) × ((Int × Unit) × Unit))))) → Option (Unit × ((Int × Unit) × Unit))) × Unit)
  | 0 => (fun _ => none, ())
  | k + 1 => (f_ref13_Fold_p4 (f_ref13_Fold_t k), ())
theorem t_ref13_Fold (k : Nat) : f_ref13_Fold_t (k + 1) = (f_ref13_Fold_p4 (f_ref13_Fold_t k), ()) := rfl
def f_ref13_Fold_m (T : (((Unit × ((Int × Unit) × ((Int × Unit) × ((Int × Unit) × ((Int × Unit) × Unit))))) → Option (Unit × ((Int × Unit) × Unit))) × Unit)) (d : Unit × ((Int × Unit) × ((Int × Unit) × Unit))) : Option (Unit × ((Int × Unit) × Unit)) :=
  (T.1 ((), ((d.2.1.1, ()), ((d.2.2.1.1, ()), (((1 : Int), ()), (((0 : Int), ()), ()))))))
def c_ref13_Fold : List Nat := []
def L_ref13_Fold (k : Nat) : Pts po_ref13_Fold.den := [(4, ⟨sh_ref13_Fold_4, (f_ref13_Fold_t k).1⟩)]
def E_ref13_Fold : Env := E0
theorem q_ref13_Fold_4 (k : Nat) (d : Unit × ((Int × Unit) × ((Int × Unit) × ((Int × Unit) × ((Int × Unit) × Unit))))) : evAt E_ref13_Fold (tab (L_ref13_Fold k)) c_ref13_Fold 4 (bodyOf Try.f91) 0 (finK E_ref13_Fold po_ref13_Fold [.tmp 4]) (ptSt sh_ref13_Fold_4 d) = f_ref13_Fold_p4 (f_ref13_Fold_t k) d := by kernel_rfl
theorem q_ref13_Fold_m (k : Nat) (d : Unit × ((Int × Unit) × ((Int × Unit) × Unit))) : evCode E_ref13_Fold (tab (L_ref13_Fold k)) c_ref13_Fold (bodyOf Try.f91) 0 (finK E_ref13_Fold po_ref13_Fold [.tmp 4]) (startSt pi_ref13_Fold 24 d) = f_ref13_Fold_m (f_ref13_Fold_t k) d := by kernel_rfl
theorem go_ref13_Fold (G : pi_ref13_Fold.den → Option po_ref13_Fold.den) (hG : ∀ d out, G d = some out → ∃ k, f_ref13_Fold_m (f_ref13_Fold_t k) d = some out) : FnOk Try.prog ET0 91 pi_ref13_Fold po_ref13_Fold G :=
  fn_of_body (E := E_ref13_Fold) e0_ok (fn := Try.f91) Try.func91 (by kernel_rfl) (by kernel_rfl) [.tmp 4] (by kernel_rfl) (by kernel_rfl) (by decide) c_ref13_Fold L_ref13_Fold
    (by intro x hx d; simp only [L_ref13_Fold, List.mem_cons, List.not_mem_nil, or_false] at hx; subst hx; rfl)
    (by intro k x hx d out h; simp only [L_ref13_Fold, List.mem_cons, List.not_mem_nil, or_false] at hx; subst hx; exact (q_ref13_Fold_4 k d).trans h)
    (by intro d out h; obtain ⟨k, hk⟩ := hG d out h; exact ⟨k, (q_ref13_Fold_m k d).trans hk⟩)
def g_ref13_Fold (d : Unit × ((Int × Unit) × ((Int × Unit) × Unit))) : Option (Unit × ((Int × Unit) × Unit)) := lim fun k => f_ref13_Fold_m (f_ref13_Fold_t k) d
theorem ok_ref13_Fold : FnOk Try.prog ET0 91 pi_ref13_Fold po_ref13_Fold g_ref13_Fold := go_ref13_Fold g_ref13_Fold fun d out h => lim_some h

/- horologe/horologeref27.Put -/
@[reducible] def pi_ref27_Put : PSh := ⟨[], [.mk false [.v (.int .i64)]]⟩
@[reducible] def po_ref27_Put : PSh := ⟨[.row 5 (.int .u8)], [.mk false [.osl 0], .mk false [.v (.int .i64)]]⟩
def f_ref27_Put_m (T : Unit) (d : Unit × ((Int × Unit) × Unit)) : Option (((List Int) × Unit) × (Unit × ((Int × Unit) × Unit))) :=
  (g_ref15_Ahead ((), ((d.2.1.1, ()), ()))).bind fun x1 =>
  let x2 : Bool := (x1.2.2.1.1 != (0 : Int))
  bif x2 then (
  some ((([] : List Int), ()), ((), ((x1.2.2.1.1, ()), ()))))
  else (
  (g_ref13_Fold ((), ((x1.2.1.1, ()), (((32 : Int), ()), ())))).bind fun x3 =>
  let x4 : Int := (iconv .u64 x3.2.1.1)
  (g_ref03_Number ((), ((x4, ()), (((4 : Int), ()), ())))).bind fun x5 =>
  some ((x5.1.1, ()), ((), (((0 : Int), ()), ()))))
def c_ref27_Put : List Nat := []
def L_ref27_Put (_ : Nat) : Pts po_ref27_Put.den := []
def E_ref27_Put : Env := (((E0.add 89 (typedSem pi_ref15_Ahead po_ref15_Ahead g_ref15_Ahead)).add 90 (typedSem pi_ref03_Number po_ref03_Number g_ref03_Number)).add 91 (typedSem pi_ref13_Fold po_ref13_Fold g_ref13_Fold))
theorem q_ref27_Put_m (k : Nat) (d : Unit × ((Int × Unit) × Unit)) : evCode E_ref27_Put (tab (L_ref27_Put k)) c_ref27_Put (bodyOf Try.f39) 0 (finK E_ref27_Put po_ref27_Put [.tmp 2, .tmp 3]) (startSt pi_ref27_Put 18 d) = f_ref27_Put_m () d := by kernel_rfl
def g_ref27_Put (d : Unit × ((Int × Unit) × Unit)) : Option (((List Int) × Unit) × (Unit × ((Int × Unit) × Unit))) := f_ref27_Put_m () d
theorem ok_ref27_Put : FnOk Try.prog ET0 39 pi_ref27_Put po_ref27_Put g_ref27_Put :=
  fn_of_body (E := E_ref27_Put) (envOk_add (envOk_add (envOk_add e0_ok (typed_ok ok_ref15_Ahead)) (typed_ok ok_ref03_Number)) (typed_ok ok_ref13_Fold)) (fn := Try.f39) Try.func39 (by kernel_rfl) (by kernel_rfl) [.tmp 2, .tmp 3] (by kernel_rfl) (by kernel_rfl) (by decide) c_ref27_Put L_ref27_Put
    (by intro x hx; cases hx) (by intro k x hx; cases hx) (fun d out h => ⟨0, (q_ref27_Put_m 0 d).trans h⟩)

/- horologe/horologenum.Bytes -/
@[reducible] def pi_hnum_Bytes : PSh := ⟨[], [.mk false [.v (.sl (.int .u8))], .mk false [.v (.sl (.int .u8))]]⟩
@[reducible] def po_hnum_Bytes : PSh := ⟨[], [.mk false [.v .bool]]⟩
def f_hnum_Bytes_m (T : Unit) (d : Unit × (((List Int) × Unit) × (((List Int) × Unit) × Unit))) : Option (Unit × ((Bool × Unit) × Unit)) :=
  let x1 : ByteArray := (strOf d.2.1.1)
  let x2 : ByteArray := (strOf d.2.2.1.1)
  let x3 : Bool := (x1.toList == x2.toList)
  some ((), ((x3, ()), ()))
def c_hnum_Bytes : List Nat := []
def L_hnum_Bytes (_ : Nat) : Pts po_hnum_Bytes.den := []
def E_hnum_Bytes : Env := E0
theorem q_hnum_Bytes_m (k : Nat) (d : Unit × (((List Int) × Unit) × (((List Int) × Unit) × Unit))) : evCode E_hnum_Bytes (tab (L_hnum_Bytes k)) c_hnum_Bytes (bodyOf Try.f40) 0 (finK E_hnum_Bytes po_hnum_Bytes [.tmp 4]) (startSt pi_hnum_Bytes 10 d) = f_hnum_Bytes_m () d := by kernel_rfl
def g_hnum_Bytes (d : Unit × (((List Int) × Unit) × (((List Int) × Unit) × Unit))) : Option (Unit × ((Bool × Unit) × Unit)) := f_hnum_Bytes_m () d
theorem ok_hnum_Bytes : FnOk Try.prog ET0 40 pi_hnum_Bytes po_hnum_Bytes g_hnum_Bytes :=
  fn_of_body (E := E_hnum_Bytes) e0_ok (fn := Try.f40) Try.func40 (by kernel_rfl) (by kernel_rfl) [.tmp 4] (by kernel_rfl) (by kernel_rfl) (by decide) c_hnum_Bytes L_hnum_Bytes
    (by intro x hx; cases hx) (by intro k x hx; cases hx) (fun d out h => ⟨0, (q_hnum_Bytes_m 0 d).trans h⟩)

/- horologe/num.Div -/
@[reducible] def pi_num_Div : PSh := ⟨[], [.mk false [.v (.int .i64)], .mk false [.v (.int .i64)]]⟩
@[reducible] def po_num_Div : PSh := ⟨[], [.mk false [.v (.int .i64)], .mk false [.v .err]]⟩
def f_num_Div_m (T : Unit) (d : Unit × ((Int × Unit) × ((Int × Unit) × Unit))) : Option (Unit × ((Int × Unit) × (((Option Int) × Unit) × Unit))) :=
  let x1 : Bool := (d.2.2.1.1 == (0 : Int))
  bif x1 then (
  let x2 : (Option Int) := (some (1 : Int))
  some ((), (((0 : Int), ()), ((x2, ()), ()))))
  else (
  let x3 : Bool := (d.2.1.1 == (-9223372036854775808 : Int))
  bif x3 then (
  let x4 : Bool := (d.2.2.1.1 == (-1 : Int))
  bif x4 then (
  let x5 : (Option Int) := (some (5 : Int))
  some ((), (((0 : Int), ()), ((x5, ()), ()))))
  else (
  bif (d.2.2.1.1 == 0) then (
  none)
  else (
  let x6 : Int := (iquo .i64 d.2.1.1 d.2.2.1.1)
  bif (d.2.2.1.1 == 0) then (
  none)
  else (
  let x7 : Int := (Int.tmod d.2.1.1 d.2.2.1.1)
  let x8 : Bool := (x7 != (0 : Int))
  bif x8 then (
  let x9 : Bool := (decide (d.2.1.1 < (0 : Int)))
  let x10 : Bool := (decide (d.2.2.1.1 < (0 : Int)))
  let x11 : Bool := (!(x9 == x10))
  bif x11 then (
  let x12 : Int := (isub .i64 x6 (1 : Int))
  some ((), ((x12, ()), (((none : Option Int), ()), ()))))
  else (
  some ((), ((x6, ()), (((none : Option Int), ()), ())))))
  else (
  some ((), ((x6, ()), (((none : Option Int), ()), ()))))))))
  else (
  bif (d.2.2.1.1 == 0) then (
  none)
  else (
  let x13 : Int := (iquo .i64 d.2.1.1 d.2.2.1.1)
  bif (d.2.2.1.1 == 0) then (
  none)
  else (
  let x14 : Int := (Int.tmod d.2.1.1 d.2.2.1.1)
  let x15 : Bool := (x14 != (0 : Int))
  bif x15 then (
  let x16 : Bool := (decide (d.2.1.1 < (0 : Int)))
  let x17 : Bool := (decide (d.2.2.1.1 < (0 : Int)))
  let x18 : Bool := (!(x16 == x17))
  bif x18 then (
  let x19 : Int := (isub .i64 x13 (1 : Int))
  some ((), ((x19, ()), (((none : Option Int), ()), ()))))
  else (
  some ((), ((x13, ()), (((none : Option Int), ()), ())))))
  else (
  some ((), ((x13, ()), (((none : Option Int), ()), ()))))))))
def c_num_Div : List Nat := []
def L_num_Div (_ : Nat) : Pts po_num_Div.den := []
def E_num_Div : Env := E0
theorem q_num_Div_m (k : Nat) (d : Unit × ((Int × Unit) × ((Int × Unit) × Unit))) : evCode E_num_Div (tab (L_num_Div k)) c_num_Div (bodyOf Try.f117) 0 (finK E_num_Div po_num_Div [.tmp 4, .tmp 5]) (startSt pi_num_Div 36 d) = f_num_Div_m () d := by kernel_rfl
def g_num_Div (d : Unit × ((Int × Unit) × ((Int × Unit) × Unit))) : Option (Unit × ((Int × Unit) × (((Option Int) × Unit) × Unit))) := f_num_Div_m () d
theorem ok_num_Div : FnOk Try.prog ET0 117 pi_num_Div po_num_Div g_num_Div :=
  fn_of_body (E := E_num_Div) e0_ok (fn := Try.f117) Try.func117 (by kernel_rfl) (by kernel_rfl) [.tmp 4, .tmp 5] (by kernel_rfl) (by kernel_rfl) (by decide) c_num_Div L_num_Div
    (by intro x hx; cases hx) (by intro k x hx; cases hx) (fun d out h => ⟨0, (q_num_Div_m 0 d).trans h⟩)

/- horologe/num.Mod -/
@[reducible] def pi_num_Mod : PSh := ⟨[], [.mk false [.v (.int .i64)], .mk false [.v (.int .i64)]]⟩
@[reducible] def po_num_Mod : PSh := ⟨[], [.mk false [.v (.int .i64)], .mk false [.v .err]]⟩
def f_num_Mod_m (T : Unit) (d : Unit × ((Int × Unit) × ((Int × Unit) × Unit))) : Option (Unit × ((Int × Unit) × (((Option Int) × Unit) × Unit))) :=
  let x1 : Bool := (d.2.2.1.1 == (0 : Int))
  bif x1 then (
  let x2 : (Option Int) := (some (1 : Int))
  some ((), (((0 : Int), ()), ((x2, ()), ()))))
  else (
  let x3 : Bool := (d.2.2.1.1 == (-1 : Int))
  bif x3 then (
  some ((), (((0 : Int), ()), (((none : Option Int), ()), ()))))
  else (
  bif (d.2.2.1.1 == 0) then (
  none)
  else (
  let x4 : Int := (Int.tmod d.2.1.1 d.2.2.1.1)
  let x5 : Bool := (x4 != (0 : Int))
  bif x5 then (
  let x6 : Bool := (decide (x4 < (0 : Int)))
  let x7 : Bool := (decide (d.2.2.1.1 < (0 : Int)))
  let x8 : Bool := (!(x6 == x7))
  bif x8 then (
  let x9 : Int := (iadd .i64 x4 d.2.2.1.1)
  some ((), ((x9, ()), (((none : Option Int), ()), ()))))
  else (
  some ((), ((x4, ()), (((none : Option Int), ()), ())))))
  else (
  some ((), ((x4, ()), (((none : Option Int), ()), ())))))))
def c_num_Mod : List Nat := []
def L_num_Mod (_ : Nat) : Pts po_num_Mod.den := []
def E_num_Mod : Env := E0
theorem q_num_Mod_m (k : Nat) (d : Unit × ((Int × Unit) × ((Int × Unit) × Unit))) : evCode E_num_Mod (tab (L_num_Mod k)) c_num_Mod (bodyOf Try.f118) 0 (finK E_num_Mod po_num_Mod [.tmp 4, .tmp 5]) (startSt pi_num_Mod 29 d) = f_num_Mod_m () d := by kernel_rfl
def g_num_Mod (d : Unit × ((Int × Unit) × ((Int × Unit) × Unit))) : Option (Unit × ((Int × Unit) × (((Option Int) × Unit) × Unit))) := f_num_Mod_m () d
theorem ok_num_Mod : FnOk Try.prog ET0 118 pi_num_Mod po_num_Mod g_num_Mod :=
  fn_of_body (E := E_num_Mod) e0_ok (fn := Try.f118) Try.func118 (by kernel_rfl) (by kernel_rfl) [.tmp 4, .tmp 5] (by kernel_rfl) (by kernel_rfl) (by decide) c_num_Mod L_num_Mod
    (by intro x hx; cases hx) (by intro k x hx; cases hx) (fun d out h => ⟨0, (q_num_Mod_m 0 d).trans h⟩)

/- horologe/num.Split -/
@[reducible] def pi_num_Split : PSh := ⟨[], [.mk false [.v (.int .i64)], .mk false [.v (.int .i64)]]⟩
@[reducible] def po_num_Split : PSh := ⟨[], [.mk false [.v (.int .i64)], .mk false [.v (.int .i64)], .mk false [.v .err]]⟩
def f_num_Split_m (T : Unit) (d : Unit × ((Int × Unit) × ((Int × Unit) × Unit))) : Option (Unit × ((Int × Unit) × ((Int × Unit) × (((Option Int) × Unit) × Unit)))) :=
  let x1 : Bool := (decide (d.2.2.1.1 < (1 : Int)))
  bif x1 then (
  let x2 : (Option Int) := (some (1 : Int))
  some ((), (((0 : Int), ()), (((0 : Int), ()), ((x2, ()), ())))))
  else (
  (g_num_Div ((), ((d.2.1.1, ()), ((d.2.2.1.1, ()), ())))).bind fun x3 =>
  let x4 : Bool := (!x3.2.2.1.1.isNone)
  bif x4 then (
  some ((), (((0 : Int), ()), (((0 : Int), ()), ((x3.2.2.1.1, ()), ())))))
  else (
  (g_num_Mod ((), ((d.2.1.1, ()), ((d.2.2.1.1, ()), ())))).bind fun x5 =>
  let x6 : Bool := (!x5.2.2.1.1.isNone)
  bif x6 then (
  some ((), (((0 : Int), ()), (((0 : Int), ()), ((x5.2.2.1.1, ()), ())))))
  else (
  some ((), ((x3.2.1.1, ()), ((x5.2.1.1, ()), (((none : Option Int), ()), ())))))))
def c_num_Split : List Nat := []
def L_num_Split (_ : Nat) : Pts po_num_Split.den := []
def E_num_Split : Env := ((E0.add 117 (typedSem pi_num_Div po_num_Div g_num_Div)).add 118 (typedSem pi_num_Mod po_num_Mod g_num_Mod))
theorem q_num_Split_m (k : Nat) (d : Unit × ((Int × Unit) × ((Int × Unit) × Unit))) : evCode E_num_Split (tab (L_num_Split k)) c_num_Split (bodyOf Try.f70) 0 (finK E_num_Split po_num_Split [.tmp 4, .tmp 5, .tmp 6]) (startSt pi_num_Split 33 d) = f_num_Split_m () d := by kernel_rfl
def g_num_Split (d : Unit × ((Int × Unit) × ((Int × Unit) × Unit))) : Option (Unit × ((Int × Unit) × ((Int × Unit) × (((Option Int) × Unit) × Unit)))) := f_num_Split_m () d
theorem ok_num_Split : FnOk Try.prog ET0 70 pi_num_Split po_num_Split g_num_Split :=
  fn_of_body (E := E_num_Split) (envOk_add (envOk_add e0_ok (typed_ok ok_num_Div)) (typed_ok ok_num_Mod)) (fn := Try.f70) Try.func70 (by kernel_rfl) (by kernel_rfl) [.tmp 4, .tmp 5, .tmp 6] (by kernel_rfl) (by kernel_rfl) (by decide) c_num_Split L_num_Split
    (by intro x hx; cases hx) (by intro k x hx; cases hx) (fun d out h => ⟨0, (q_num_Split_m 0 d).trans h⟩)

/- horologe/day.floor -/
@[reducible] def pi_day_floor : PSh := ⟨[], [.mk false [.v (.int .i64)], .mk false [.v (.int .i64)]]⟩
@[reducible] def po_day_floor : PSh := ⟨[], [.mk false [.v (.int .i64)]]⟩
def f_day_floor_m (T : Unit) (d : Unit × ((Int × Unit) × ((Int × Unit) × Unit))) : Option (Unit × ((Int × Unit) × Unit)) :=
  bif (d.2.2.1.1 == 0) then (
  none)
  else (
  let x1 : Int := (iquo .i64 d.2.1.1 d.2.2.1.1)
  bif (d.2.2.1.1 == 0) then (
  none)
  else (
  let x2 : Int := (Int.tmod d.2.1.1 d.2.2.1.1)
  let x3 : Bool := (decide (x2 < (0 : Int)))
  bif x3 then (
  let x4 : Int := (isub .i64 x1 (1 : Int))
  some ((), ((x4, ()), ())))
  else (
  some ((), ((x1, ()), ())))))
def c_day_floor : List Nat := []
def L_day_floor (_ : Nat) : Pts po_day_floor.den := []
def E_day_floor : Env := E0
theorem q_day_floor_m (k : Nat) (d : Unit × ((Int × Unit) × ((Int × Unit) × Unit))) : evCode E_day_floor (tab (L_day_floor k)) c_day_floor (bodyOf Try.f177) 0 (finK E_day_floor po_day_floor [.tmp 4]) (startSt pi_day_floor 16 d) = f_day_floor_m () d := by kernel_rfl
def g_day_floor (d : Unit × ((Int × Unit) × ((Int × Unit) × Unit))) : Option (Unit × ((Int × Unit) × Unit)) := f_day_floor_m () d
theorem ok_day_floor : FnOk Try.prog ET0 177 pi_day_floor po_day_floor g_day_floor :=
  fn_of_body (E := E_day_floor) e0_ok (fn := Try.f177) Try.func177 (by kernel_rfl) (by kernel_rfl) [.tmp 4] (by kernel_rfl) (by kernel_rfl) (by decide) c_day_floor L_day_floor
    (by intro x hx; cases hx) (by intro k x hx; cases hx) (fun d out h => ⟨0, (q_day_floor_m 0 d).trans h⟩)

/- horologe/day.number -/
@[reducible] def pi_day_number : PSh := ⟨[], [.mk false [.v (.int .i64)], .mk false [.v (.int .i64)], .mk false [.v (.int .i64)]]⟩
@[reducible] def po_day_number : PSh := ⟨[], [.mk false [.v (.int .i64)]]⟩
def f_day_number_m (T : Unit) (d : Unit × ((Int × Unit) × ((Int × Unit) × ((Int × Unit) × Unit)))) : Option (Unit × ((Int × Unit) × Unit)) :=
  let x1 : Bool := (decide (d.2.2.1.1 ≤ (2 : Int)))
  bif x1 then (
  let x2 : Int := (isub .i64 d.2.1.1 (1 : Int))
  let x3 : Int := (iadd .i64 d.2.2.1.1 (12 : Int))
  (g_day_floor ((), ((x2, ()), (((400 : Int), ()), ())))).bind fun x4 =>
  let x5 : Int := (imul .i64 x4.2.1.1 (400 : Int))
  let x6 : Int := (isub .i64 x2 x5)
  let x7 : Int := (isub .i64 x3 (3 : Int))
  let x8 : Int := (imul .i64 (153 : Int) x7)
  let x9 : Int := (iadd .i64 x8 (2 : Int))
  let x10 : Int := (iquo .i64 x9 (5 : Int))
  let x11 : Int := (iadd .i64 x10 d.2.2.2.1.1)
  let x12 : Int := (isub .i64 x11 (1 : Int))
  let x13 : Int := (imul .i64 x4.2.1.1 (146097 : Int))
  let x14 : Int := (imul .i64 x6 (365 : Int))
  let x15 : Int := (iadd .i64 x13 x14)
  let x16 : Int := (iquo .i64 x6 (4 : Int))
  let x17 : Int := (iadd .i64 x15 x16)
  let x18 : Int := (iquo .i64 x6 (100 : Int))
  let x19 : Int := (isub .i64 x17 x18)
  let x20 : Int := (iadd .i64 x19 x12)
  let x21 : Int := (isub .i64 x20 (719468 : Int))
  some ((), ((x21, ()), ())))
  else (
  (g_day_floor ((), ((d.2.1.1, ()), (((400 : Int), ()), ())))).bind fun x22 =>
  let x23 : Int := (imul .i64 x22.2.1.1 (400 : Int))
  let x24 : Int := (isub .i64 d.2.1.1 x23)
  let x25 : Int := (isub .i64 d.2.2.1.1 (3 : Int))
  let x26 : Int := (imul .i64 (153 : Int) x25)
  let x27 : Int := (iadd .i64 x26 (2 : Int))
  let x28 : Int := (iquo .i64 x27 (5 : Int))
  let x29 : Int := (iadd .i64 x28 d.2.2.2.1.1)
  let x30 : Int := (isub .i64 x29 (1 : Int))
  let x31 : Int := (imul .i64 x22.2.1.1 (146097 : Int))
  let x32 : Int := (imul .i64 x24 (365 : Int))
  let x33 : Int := (iadd .i64 x31 x32)
  let x34 : Int := (iquo .i64 x24 (4 : Int))
  let x35 : Int := (iadd .i64 x33 x34)
  let x36 : Int := (iquo .i64 x24 (100 : Int))
  let x37 : Int := (isub .i64 x35 x36)
  let x38 : Int := (iadd .i64 x37 x30)
  let x39 : Int := (isub .i64 x38 (719468 : Int))
  some ((), ((x39, ()), ())))
def c_day_number : List Nat := []
def L_day_number (_ : Nat) : Pts po_day_number.den := []
def E_day_number : Env := (E0.add 177 (typedSem pi_day_floor po_day_floor g_day_floor))
theorem q_day_number_m (k : Nat) (d : Unit × ((Int × Unit) × ((Int × Unit) × ((Int × Unit) × Unit)))) : evCode E_day_number (tab (L_day_number k)) c_day_number (bodyOf Try.f178) 0 (finK E_day_number po_day_number [.tmp 6]) (startSt pi_day_number 44 d) = f_day_number_m () d := by kernel_rfl
def g_day_number (d : Unit × ((Int × Unit) × ((Int × Unit) × ((Int × Unit) × Unit)))) : Option (Unit × ((Int × Unit) × Unit)) := f_day_number_m () d
theorem ok_day_number : FnOk Try.prog ET0 178 pi_day_number po_day_number g_day_number :=
  fn_of_body (E := E_day_number) (envOk_add e0_ok (typed_ok ok_day_floor)) (fn := Try.f178) Try.func178 (by kernel_rfl) (by kernel_rfl) [.tmp 6] (by kernel_rfl) (by kernel_rfl) (by decide) c_day_number L_day_number
    (by intro x hx; cases hx) (by intro k x hx; cases hx) (fun d out h => ⟨0, (q_day_number_m 0 d).trans h⟩)

/- horologe/day.right -/
@[reducible] def pi_day_right : PSh := ⟨[], [.mk false [.v (.int .i64)]]⟩
@[reducible] def po_day_right : PSh := ⟨[], [.mk false [.v .bool]]⟩
def f_day_right_m (T : Unit) (d : Unit × ((Int × Unit) × Unit)) : Option (Unit × ((Bool × Unit) × Unit)) :=
  let x1 : Bool := (decide (d.2.1.1 ≥ (-9999 : Int)))
  bif x1 then (
  let x2 : Bool := (decide (d.2.1.1 ≤ (9999 : Int)))
  some ((), ((x2, ()), ())))
  else (
  some ((), ((false, ()), ())))
def c_day_right : List Nat := []
def L_day_right (_ : Nat) : Pts po_day_right.den := []
def E_day_right : Env := E0
theorem q_day_right_m (k : Nat) (d : Unit × ((Int × Unit) × Unit)) : evCode E_day_right (tab (L_day_right k)) c_day_right (bodyOf Try.f222) 0 (finK E_day_right po_day_right [.tmp 2]) (startSt pi_day_right 9 d) = f_day_right_m () d := by kernel_rfl
def g_day_right (d : Unit × ((Int × Unit) × Unit)) : Option (Unit × ((Bool × Unit) × Unit)) := f_day_right_m () d
theorem ok_day_right : FnOk Try.prog ET0 222 pi_day_right po_day_right g_day_right :=
  fn_of_body (E := E_day_right) e0_ok (fn := Try.f222) Try.func222 (by kernel_rfl) (by kernel_rfl) [.tmp 2] (by kernel_rfl) (by kernel_rfl) (by decide) c_day_right L_day_right
    (by intro x hx; cases hx) (by intro k x hx; cases hx) (fun d out h => ⟨0, (q_day_right_m 0 d).trans h⟩)

/- horologe/day.Leap -/
@[reducible] def pi_day_Leap : PSh := ⟨[], [.mk false [.v (.int .i64)]]⟩
@[reducible] def po_day_Leap : PSh := ⟨[], [.mk false [.v .bool]]⟩
def f_day_Leap_m (T : Unit) (d : Unit × ((Int × Unit) × Unit)) : Option (Unit × ((Bool × Unit) × Unit)) :=
  let x1 : Int := (Int.tmod d.2.1.1 (4 : Int))
  let x2 : Bool := (x1 == (0 : Int))
  bif x2 then (
  let x3 : Int := (Int.tmod d.2.1.1 (100 : Int))
  let x4 : Bool := (x3 != (0 : Int))
  bif x4 then (
  some ((), ((true, ()), ())))
  else (
  let x5 : Int := (Int.tmod d.2.1.1 (400 : Int))
  let x6 : Bool := (x5 == (0 : Int))
  some ((), ((x6, ()), ()))))
  else (
  some ((), ((false, ()), ())))
def c_day_Leap : List Nat := []
def L_day_Leap (_ : Nat) : Pts po_day_Leap.den := []
def E_day_Leap : Env := E0
theorem q_day_Leap_m (k : Nat) (d : Unit × ((Int × Unit) × Unit)) : evCode E_day_Leap (tab (L_day_Leap k)) c_day_Leap (bodyOf Try.f223) 0 (finK E_day_Leap po_day_Leap [.tmp 2]) (startSt pi_day_Leap 16 d) = f_day_Leap_m () d := by kernel_rfl
def g_day_Leap (d : Unit × ((Int × Unit) × Unit)) : Option (Unit × ((Bool × Unit) × Unit)) := f_day_Leap_m () d
theorem ok_day_Leap : FnOk Try.prog ET0 223 pi_day_Leap po_day_Leap g_day_Leap :=
  fn_of_body (E := E_day_Leap) e0_ok (fn := Try.f223) Try.func223 (by kernel_rfl) (by kernel_rfl) [.tmp 2] (by kernel_rfl) (by kernel_rfl) (by decide) c_day_Leap L_day_Leap
    (by intro x hx; cases hx) (by intro k x hx; cases hx) (fun d out h => ⟨0, (q_day_Leap_m 0 d).trans h⟩)

/- horologe/day.Month -/
@[reducible] def pi_day_Month : PSh := ⟨[], [.mk false [.v (.int .i64)], .mk false [.v (.int .i64)]]⟩
@[reducible] def po_day_Month : PSh := ⟨[], [.mk false [.v (.int .i64)], .mk false [.v .err]]⟩
def f_day_Month_m (T : Unit) (d : Unit × ((Int × Unit) × ((Int × Unit) × Unit))) : Option (Unit × ((Int × Unit) × (((Option Int) × Unit) × Unit))) :=
  (g_day_right ((), ((d.2.1.1, ()), ()))).bind fun x1 =>
  let x2 : Bool := (!x1.2.1.1)
  bif x2 then (
  let x3 : (Option Int) := (some (13 : Int))
  some ((), (((0 : Int), ()), ((x3, ()), ()))))
  else (
  let x4 : Bool := (decide (d.2.2.1.1 < (1 : Int)))
  bif x4 then (
  let x5 : (Option Int) := (some (1 : Int))
  some ((), (((0 : Int), ()), ((x5, ()), ()))))
  else (
  let x6 : Bool := (decide (d.2.2.1.1 > (12 : Int)))
  bif x6 then (
  let x7 : (Option Int) := (some (1 : Int))
  some ((), (((0 : Int), ()), ((x7, ()), ()))))
  else (
  let x8 : Bool := (d.2.2.1.1 == (2 : Int))
  bif x8 then (
  (g_day_Leap ((), ((d.2.1.1, ()), ()))).bind fun x9 =>
  bif x9.2.1.1 then (
  some ((), (((29 : Int), ()), (((none : Option Int), ()), ()))))
  else (
  let x10 : Bool := (d.2.2.1.1 == (2 : Int))
  bif x10 then (
  some ((), (((28 : Int), ()), (((none : Option Int), ()), ()))))
  else (
  let x11 : Int := (iquo .i64 d.2.2.1.1 (8 : Int))
  let x12 : Int := (iadd .i64 d.2.2.1.1 x11)
  let x13 : Int := (Int.tmod x12 (2 : Int))
  let x14 : Int := (iadd .i64 (30 : Int) x13)
  some ((), ((x14, ()), (((none : Option Int), ()), ()))))))
  else (
  let x15 : Bool := (d.2.2.1.1 == (2 : Int))
  bif x15 then (
  some ((), (((28 : Int), ()), (((none : Option Int), ()), ()))))
  else (
  let x16 : Int := (iquo .i64 d.2.2.1.1 (8 : Int))
  let x17 : Int := (iadd .i64 d.2.2.1.1 x16)
  let x18 : Int := (Int.tmod x17 (2 : Int))
  let x19 : Int := (iadd .i64 (30 : Int) x18)
  some ((), ((x19, ()), (((none : Option Int), ()), ()))))))))
def c_day_Month : List Nat := []
def L_day_Month (_ : Nat) : Pts po_day_Month.den := []
def E_day_Month : Env := ((E0.add 222 (typedSem pi_day_right po_day_right g_day_right)).add 223 (typedSem pi_day_Leap po_day_Leap g_day_Leap))
theorem q_day_Month_m (k : Nat) (d : Unit × ((Int × Unit) × ((Int × Unit) × Unit))) : evCode E_day_Month (tab (L_day_Month k)) c_day_Month (bodyOf Try.f219) 0 (finK E_day_Month po_day_Month [.tmp 4, .tmp 5]) (startSt pi_day_Month 35 d) = f_day_Month_m () d := by kernel_rfl
def g_day_Month (d : Unit × ((Int × Unit) × ((Int × Unit) × Unit))) : Option (Unit × ((Int × Unit) × (((Option Int) × Unit) × Unit))) := f_day_Month_m () d
theorem ok_day_Month : FnOk Try.prog ET0 219 pi_day_Month po_day_Month g_day_Month :=
  fn_of_body (E := E_day_Month) (envOk_add (envOk_add e0_ok (typed_ok ok_day_right)) (typed_ok ok_day_Leap)) (fn := Try.f219) Try.func219 (by kernel_rfl) (by kernel_rfl) [.tmp 4, .tmp 5] (by kernel_rfl) (by kernel_rfl) (by decide) c_day_Month L_day_Month
    (by intro x hx; cases hx) (by intro k x hx; cases hx) (fun d out h => ⟨0, (q_day_Month_m 0 d).trans h⟩)

/- horologe/day.check -/
@[reducible] def pi_day_check : PSh := ⟨[], [.mk false [.v (.int .i64)], .mk false [.v (.int .i64)], .mk false [.v (.int .i64)]]⟩
@[reducible] def po_day_check : PSh := ⟨[], [.mk false [.v .err]]⟩
def f_day_check_m (T : Unit) (d : Unit × ((Int × Unit) × ((Int × Unit) × ((Int × Unit) × Unit)))) : Option (Unit × (((Option Int) × Unit) × Unit)) :=
  (g_day_Month ((), ((d.2.1.1, ()), ((d.2.2.1.1, ()), ())))).bind fun x1 =>
  let x2 : Bool := (!x1.2.2.1.1.isNone)
  bif x2 then (
  some ((), ((x1.2.2.1.1, ()), ())))
  else (
  let x3 : Bool := (decide (d.2.2.2.1.1 < (1 : Int)))
  bif x3 then (
  let x4 : (Option Int) := (some (1 : Int))
  some ((), ((x4, ()), ())))
  else (
  let x5 : Bool := (decide (d.2.2.2.1.1 > x1.2.1.1))
  bif x5 then (
  let x6 : (Option Int) := (some (1 : Int))
  some ((), ((x6, ()), ())))
  else (
  some ((), (((none : Option Int), ()), ())))))
def c_day_check : List Nat := []
def L_day_check (_ : Nat) : Pts po_day_check.den := []
def E_day_check : Env := (E0.add 219 (typedSem pi_day_Month po_day_Month g_day_Month))
theorem q_day_check_m (k : Nat) (d : Unit × ((Int × Unit) × ((Int × Unit) × ((Int × Unit) × Unit)))) : evCode E_day_check (tab (L_day_check k)) c_day_check (bodyOf Try.f203) 0 (finK E_day_check po_day_check [.tmp 6]) (startSt pi_day_check 28 d) = f_day_check_m () d := by kernel_rfl
def g_day_check (d : Unit × ((Int × Unit) × ((Int × Unit) × ((Int × Unit) × Unit)))) : Option (Unit × (((Option Int) × Unit) × Unit)) := f_day_check_m () d
theorem ok_day_check : FnOk Try.prog ET0 203 pi_day_check po_day_check g_day_check :=
  fn_of_body (E := E_day_check) (envOk_add e0_ok (typed_ok ok_day_Month)) (fn := Try.f203) Try.func203 (by kernel_rfl) (by kernel_rfl) [.tmp 6] (by kernel_rfl) (by kernel_rfl) (by decide) c_day_check L_day_check
    (by intro x hx; cases hx) (by intro k x hx; cases hx) (fun d out h => ⟨0, (q_day_check_m 0 d).trans h⟩)

/- horologe/day.Of -/
@[reducible] def pi_day_Of : PSh := ⟨[], [.mk false [.v (.int .i64)], .mk false [.v (.int .i64)], .mk false [.v (.int .i64)]]⟩
@[reducible] def po_day_Of : PSh := ⟨[], [.mk false [.v (.int .i64)], .mk false [.v .err]]⟩
def f_day_Of_m (T : Unit) (d : Unit × ((Int × Unit) × ((Int × Unit) × ((Int × Unit) × Unit)))) : Option (Unit × ((Int × Unit) × (((Option Int) × Unit) × Unit))) :=
  (g_day_check ((), ((d.2.1.1, ()), ((d.2.2.1.1, ()), ((d.2.2.2.1.1, ()), ()))))).bind fun x1 =>
  let x2 : Bool := (!x1.2.1.1.isNone)
  bif x2 then (
  some ((), (((0 : Int), ()), ((x1.2.1.1, ()), ()))))
  else (
  (g_day_number ((), ((d.2.1.1, ()), ((d.2.2.1.1, ()), ((d.2.2.2.1.1, ()), ()))))).bind fun x3 =>
  some ((), ((x3.2.1.1, ()), (((none : Option Int), ()), ()))))
def c_day_Of : List Nat := []
def L_day_Of (_ : Nat) : Pts po_day_Of.den := []
def E_day_Of : Env := ((E0.add 178 (typedSem pi_day_number po_day_number g_day_number)).add 203 (typedSem pi_day_check po_day_check g_day_check))
theorem q_day_Of_m (k : Nat) (d : Unit × ((Int × Unit) × ((Int × Unit) × ((Int × Unit) × Unit)))) : evCode E_day_Of (tab (L_day_Of k)) c_day_Of (bodyOf Try.f167) 0 (finK E_day_Of po_day_Of [.tmp 6, .tmp 7]) (startSt pi_day_Of 20 d) = f_day_Of_m () d := by kernel_rfl
def g_day_Of (d : Unit × ((Int × Unit) × ((Int × Unit) × ((Int × Unit) × Unit)))) : Option (Unit × ((Int × Unit) × (((Option Int) × Unit) × Unit))) := f_day_Of_m () d
theorem ok_day_Of : FnOk Try.prog ET0 167 pi_day_Of po_day_Of g_day_Of :=
  fn_of_body (E := E_day_Of) (envOk_add (envOk_add e0_ok (typed_ok ok_day_number)) (typed_ok ok_day_check)) (fn := Try.f167) Try.func167 (by kernel_rfl) (by kernel_rfl) [.tmp 6, .tmp 7] (by kernel_rfl) (by kernel_rfl) (by decide) c_day_Of L_day_Of
    (by intro x hx; cases hx) (by intro k x hx; cases hx) (fun d out h => ⟨0, (q_day_Of_m 0 d).trans h⟩)

/- (horologe/label.Label).place -/
@[reducible] def pi_label_Label_place : PSh := ⟨[], [.mk true [.v (.int .i64), .v (.int .i64), .v (.int .i64), .v (.int .i64), .v (.int .i64), .v (.int .i64), .v (.int .i64), .v (.int .i64)]]⟩
@[reducible] def po_label_Label_place : PSh := ⟨[], [.mk false [.v (.int .i64)], .mk false [.v (.int .i64)], .mk false [.v .err]]⟩
def f_label_Label_place_m (T : Unit) (d : Unit × ((Int × (Int × (Int × (Int × (Int × (Int × (Int × (Int × Unit)))))))) × Unit)) : Option (Unit × ((Int × Unit) × ((Int × Unit) × (((Option Int) × Unit) × Unit)))) :=
  (g_day_Of ((), ((d.2.1.1, ()), ((d.2.1.2.1, ()), ((d.2.1.2.2.1, ()), ()))))).bind fun x1 =>
  let x2 : Bool := (!x1.2.2.1.1.isNone)
  bif x2 then (
  some ((), (((0 : Int), ()), (((0 : Int), ()), ((x1.2.2.1.1, ()), ())))))
  else (
  let x3 : Int := (imul .i64 d.2.1.2.2.2.1 (60 : Int))
  let x4 : Int := (iadd .i64 x3 d.2.1.2.2.2.2.1)
  let x5 : Int := (isub .i64 x4 d.2.1.2.2.2.2.2.2.2.1)
  (g_num_Split ((), ((x5, ()), (((1440 : Int), ()), ())))).bind fun x6 =>
  let x7 : Bool := (!x6.2.2.2.1.1.isNone)
  bif x7 then (
  some ((), (((0 : Int), ()), (((0 : Int), ()), ((x6.2.2.2.1.1, ()), ())))))
  else (
  let x8 : Int := (iadd .i64 x1.2.1.1 x6.2.1.1)
  some ((), ((x8, ()), ((x6.2.2.1.1, ()), (((none : Option Int), ()), ()))))))
def c_label_Label_place : List Nat := []
def L_label_Label_place (_ : Nat) : Pts po_label_Label_place.den := []
def E_label_Label_place : Env := ((E0.add 70 (typedSem pi_num_Split po_num_Split g_num_Split)).add 167 (typedSem pi_day_Of po_day_Of g_day_Of))
theorem q_label_Label_place_m (k : Nat) (d : Unit × ((Int × (Int × (Int × (Int × (Int × (Int × (Int × (Int × Unit)))))))) × Unit)) : evCode E_label_Label_place (tab (L_label_Label_place k)) c_label_Label_place (bodyOf Try.f108) 0 (finK E_label_Label_place po_label_Label_place [.tmp 2, .tmp 3, .tmp 4]) (startSt pi_label_Label_place 43 d) = f_label_Label_place_m () d := by kernel_rfl
def g_label_Label_place (d : Unit × ((Int × (Int × (Int × (Int × (Int × (Int × (Int × (Int × Unit)))))))) × Unit)) : Option (Unit × ((Int × Unit) × ((Int × Unit) × (((Option Int) × Unit) × Unit)))) := f_label_Label_place_m () d
theorem ok_label_Label_place : FnOk Try.prog ET0 108 pi_label_Label_place po_label_Label_place g_label_Label_place :=
  fn_of_body (E := E_label_Label_place) (envOk_add (envOk_add e0_ok (typed_ok ok_num_Split)) (typed_ok ok_day_Of)) (fn := Try.f108) Try.func108 (by kernel_rfl) (by kernel_rfl) [.tmp 2, .tmp 3, .tmp 4] (by kernel_rfl) (by kernel_rfl) (by decide) c_label_Label_place L_label_Label_place
    (by intro x hx; cases hx) (by intro k x hx; cases hx) (fun d out h => ⟨0, (q_label_Label_place_m 0 d).trans h⟩)

/- horologe/day.Last -/
@[reducible] def pi_day_Last : PSh := ⟨[], []⟩
@[reducible] def po_day_Last : PSh := ⟨[], [.mk false [.v (.int .i64)]]⟩
def f_day_Last_m (T : Unit) (d : Unit × Unit) : Option (Unit × ((Int × Unit) × Unit)) :=
  (g_day_number ((), (((9999 : Int), ()), (((12 : Int), ()), (((31 : Int), ()), ()))))).bind fun x1 =>
  some ((), ((x1.2.1.1, ()), ()))
def c_day_Last : List Nat := []
def L_day_Last (_ : Nat) : Pts po_day_Last.den := []
def E_day_Last : Env := (E0.add 178 (typedSem pi_day_number po_day_number g_day_number))
theorem q_day_Last_m (k : Nat) (d : Unit × Unit) : evCode E_day_Last (tab (L_day_Last k)) c_day_Last (bodyOf Try.f128) 0 (finK E_day_Last po_day_Last [.tmp 0]) (startSt pi_day_Last 2 d) = f_day_Last_m () d := by kernel_rfl
def g_day_Last (d : Unit × Unit) : Option (Unit × ((Int × Unit) × Unit)) := f_day_Last_m () d
theorem ok_day_Last : FnOk Try.prog ET0 128 pi_day_Last po_day_Last g_day_Last :=
  fn_of_body (E := E_day_Last) (envOk_add e0_ok (typed_ok ok_day_number)) (fn := Try.f128) Try.func128 (by kernel_rfl) (by kernel_rfl) [.tmp 0] (by kernel_rfl) (by kernel_rfl) (by decide) c_day_Last L_day_Last
    (by intro x hx; cases hx) (by intro k x hx; cases hx) (fun d out h => ⟨0, (q_day_Last_m 0 d).trans h⟩)

/- horologe/day.First -/
@[reducible] def pi_day_First : PSh := ⟨[], []⟩
@[reducible] def po_day_First : PSh := ⟨[], [.mk false [.v (.int .i64)]]⟩
def f_day_First_m (T : Unit) (d : Unit × Unit) : Option (Unit × ((Int × Unit) × Unit)) :=
  (g_day_number ((), (((-9999 : Int), ()), (((1 : Int), ()), (((1 : Int), ()), ()))))).bind fun x1 =>
  some ((), ((x1.2.1.1, ()), ()))
def c_day_First : List Nat := []
def L_day_First (_ : Nat) : Pts po_day_First.den := []
def E_day_First : Env := (E0.add 178 (typedSem pi_day_number po_day_number g_day_number))
theorem q_day_First_m (k : Nat) (d : Unit × Unit) : evCode E_day_First (tab (L_day_First k)) c_day_First (bodyOf Try.f176) 0 (finK E_day_First po_day_First [.tmp 0]) (startSt pi_day_First 2 d) = f_day_First_m () d := by kernel_rfl
def g_day_First (d : Unit × Unit) : Option (Unit × ((Int × Unit) × Unit)) := f_day_First_m () d
theorem ok_day_First : FnOk Try.prog ET0 176 pi_day_First po_day_First g_day_First :=
  fn_of_body (E := E_day_First) (envOk_add e0_ok (typed_ok ok_day_number)) (fn := Try.f176) Try.func176 (by kernel_rfl) (by kernel_rfl) [.tmp 0] (by kernel_rfl) (by kernel_rfl) (by decide) c_day_First L_day_First
    (by intro x hx; cases hx) (by intro k x hx; cases hx) (fun d out h => ⟨0, (q_day_First_m 0 d).trans h⟩)

/- horologe/label.there -/
@[reducible] def pi_label_there : PSh := ⟨[], [.mk false [.v (.int .i64)]]⟩
@[reducible] def po_label_there : PSh := ⟨[], [.mk false [.v .bool]]⟩
def f_label_there_m (T : Unit) (d : Unit × ((Int × Unit) × Unit)) : Option (Unit × ((Bool × Unit) × Unit)) :=
  (g_day_First ((), ())).bind fun x1 =>
  let x2 : Bool := (decide (d.2.1.1 ≥ x1.2.1.1))
  bif x2 then (
  (g_day_Last ((), ())).bind fun x3 =>
  let x4 : Bool := (decide (d.2.1.1 ≤ x3.2.1.1))
  some ((), ((x4, ()), ())))
  else (
  some ((), ((false, ()), ())))
def c_label_there : List Nat := []
def L_label_there (_ : Nat) : Pts po_label_there.den := []
def E_label_there : Env := ((E0.add 128 (typedSem pi_day_Last po_day_Last g_day_Last)).add 176 (typedSem pi_day_First po_day_First g_day_First))
theorem q_label_there_m (k : Nat) (d : Unit × ((Int × Unit) × Unit)) : evCode E_label_there (tab (L_label_there k)) c_label_there (bodyOf Try.f119) 0 (finK E_label_there po_label_there [.tmp 2]) (startSt pi_label_there 11 d) = f_label_there_m () d := by kernel_rfl
def g_label_there (d : Unit × ((Int × Unit) × Unit)) : Option (Unit × ((Bool × Unit) × Unit)) := f_label_there_m () d
theorem ok_label_there : FnOk Try.prog ET0 119 pi_label_there po_label_there g_label_there :=
  fn_of_body (E := E_label_there) (envOk_add (envOk_add e0_ok (typed_ok ok_day_Last)) (typed_ok ok_day_First)) (fn := Try.f119) Try.func119 (by kernel_rfl) (by kernel_rfl) [.tmp 2] (by kernel_rfl) (by kernel_rfl) (by decide) c_label_there L_label_there
    (by intro x hx; cases hx) (by intro k x hx; cases hx) (fun d out h => ⟨0, (q_label_there_m 0 d).trans h⟩)

/- horologe/label.in -/
@[reducible] def pi_label_in : PSh := ⟨[], [.mk false [.v (.int .i64)], .mk false [.v (.int .i64)]]⟩
@[reducible] def po_label_in : PSh := ⟨[], [.mk false [.v .bool]]⟩
def f_label_in_m (T : Unit) (d : Unit × ((Int × Unit) × ((Int × Unit) × Unit))) : Option (Unit × ((Bool × Unit) × Unit)) :=
  let x1 : Bool := (decide (d.2.1.1 ≥ (0 : Int)))
  bif x1 then (
  let x2 : Bool := (decide (d.2.1.1 < d.2.2.1.1))
  some ((), ((x2, ()), ())))
  else (
  some ((), ((false, ()), ())))
def c_label_in : List Nat := []
def L_label_in (_ : Nat) : Pts po_label_in.den := []
def E_label_in : Env := E0
theorem q_label_in_m (k : Nat) (d : Unit × ((Int × Unit) × ((Int × Unit) × Unit))) : evCode E_label_in (tab (L_label_in k)) c_label_in (bodyOf Try.f120) 0 (finK E_label_in po_label_in [.tmp 4]) (startSt pi_label_in 12 d) = f_label_in_m () d := by kernel_rfl
def g_label_in (d : Unit × ((Int × Unit) × ((Int × Unit) × Unit))) : Option (Unit × ((Bool × Unit) × Unit)) := f_label_in_m () d
theorem ok_label_in : FnOk Try.prog ET0 120 pi_label_in po_label_in g_label_in :=
  fn_of_body (E := E_label_in) e0_ok (fn := Try.f120) Try.func120 (by kernel_rfl) (by kernel_rfl) [.tmp 4] (by kernel_rfl) (by kernel_rfl) (by decide) c_label_in L_label_in
    (by intro x hx; cases hx) (by intro k x hx; cases hx) (fun d out h => ⟨0, (q_label_in_m 0 d).trans h⟩)

/- horologe/label.shifts -/
@[reducible] def pi_label_shifts : PSh := ⟨[], [.mk false [.v (.int .i64)]]⟩
@[reducible] def po_label_shifts : PSh := ⟨[], [.mk false [.v .bool]]⟩
def f_label_shifts_m (T : Unit) (d : Unit × ((Int × Unit) × Unit)) : Option (Unit × ((Bool × Unit) × Unit)) :=
  let x1 : Bool := (decide (d.2.1.1 > (-1440 : Int)))
  bif x1 then (
  let x2 : Bool := (decide (d.2.1.1 < (1440 : Int)))
  some ((), ((x2, ()), ())))
  else (
  some ((), ((false, ()), ())))
def c_label_shifts : List Nat := []
def L_label_shifts (_ : Nat) : Pts po_label_shifts.den := []
def E_label_shifts : Env := E0
theorem q_label_shifts_m (k : Nat) (d : Unit × ((Int × Unit) × Unit)) : evCode E_label_shifts (tab (L_label_shifts k)) c_label_shifts (bodyOf Try.f121) 0 (finK E_label_shifts po_label_shifts [.tmp 2]) (startSt pi_label_shifts 9 d) = f_label_shifts_m () d := by kernel_rfl
def g_label_shifts (d : Unit × ((Int × Unit) × Unit)) : Option (Unit × ((Bool × Unit) × Unit)) := f_label_shifts_m () d
theorem ok_label_shifts : FnOk Try.prog ET0 121 pi_label_shifts po_label_shifts g_label_shifts :=
  fn_of_body (E := E_label_shifts) e0_ok (fn := Try.f121) Try.func121 (by kernel_rfl) (by kernel_rfl) [.tmp 2] (by kernel_rfl) (by kernel_rfl) (by decide) c_label_shifts L_label_shifts
    (by intro x hx; cases hx) (by intro k x hx; cases hx) (fun d out h => ⟨0, (q_label_shifts_m 0 d).trans h⟩)

/- (horologe/label.Label).fields -/
@[reducible] def pi_label_Label_fields : PSh := ⟨[], [.mk true [.v (.int .i64), .v (.int .i64), .v (.int .i64), .v (.int .i64), .v (.int .i64), .v (.int .i64), .v (.int .i64), .v (.int .i64)]]⟩
@[reducible] def po_label_Label_fields : PSh := ⟨[], [.mk false [.v .err]]⟩
def f_label_Label_fields_m (T : Unit) (d : Unit × ((Int × (Int × (Int × (Int × (Int × (Int × (Int × (Int × Unit)))))))) × Unit)) : Option (Unit × (((Option Int) × Unit) × Unit)) :=
  (g_day_Of ((), ((d.2.1.1, ()), ((d.2.1.2.1, ()), ((d.2.1.2.2.1, ()), ()))))).bind fun x1 =>
  let x2 : Bool := (!x1.2.2.1.1.isNone)
  bif x2 then (
  some ((), ((x1.2.2.1.1, ()), ())))
  else (
  (g_label_in ((), ((d.2.1.2.2.2.1, ()), (((24 : Int), ()), ())))).bind fun x3 =>
  let x4 : Bool := (!x3.2.1.1)
  bif x4 then (
  let x5 : (Option Int) := (some (1 : Int))
  some ((), ((x5, ()), ())))
  else (
  (g_label_in ((), ((d.2.1.2.2.2.2.1, ()), (((60 : Int), ()), ())))).bind fun x6 =>
  let x7 : Bool := (!x6.2.1.1)
  bif x7 then (
  let x8 : (Option Int) := (some (1 : Int))
  some ((), ((x8, ()), ())))
  else (
  (g_label_in ((), ((d.2.1.2.2.2.2.2.1, ()), (((61 : Int), ()), ())))).bind fun x9 =>
  let x10 : Bool := (!x9.2.1.1)
  bif x10 then (
  let x11 : (Option Int) := (some (1 : Int))
  some ((), ((x11, ()), ())))
  else (
  (g_label_in ((), ((d.2.1.2.2.2.2.2.2.1, ()), (((1000000000 : Int), ()), ())))).bind fun x12 =>
  let x13 : Bool := (!x12.2.1.1)
  bif x13 then (
  let x14 : (Option Int) := (some (1 : Int))
  some ((), ((x14, ()), ())))
  else (
  (g_label_shifts ((), ((d.2.1.2.2.2.2.2.2.2.1, ()), ()))).bind fun x15 =>
  let x16 : Bool := (!x15.2.1.1)
  bif x16 then (
  let x17 : (Option Int) := (some (1 : Int))
  some ((), ((x17, ()), ())))
  else (
  some ((), (((none : Option Int), ()), ()))))))))
def c_label_Label_fields : List Nat := []
def L_label_Label_fields (_ : Nat) : Pts po_label_Label_fields.den := []
def E_label_Label_fields : Env := (((E0.add 120 (typedSem pi_label_in po_label_in g_label_in)).add 121 (typedSem pi_label_shifts po_label_shifts g_label_shifts)).add 167 (typedSem pi_day_Of po_day_Of g_day_Of))
theorem q_label_Label_fields_m (k : Nat) (d : Unit × ((Int × (Int × (Int × (Int × (Int × (Int × (Int × (Int × Unit)))))))) × Unit)) : evCode E_label_Label_fields (tab (L_label_Label_fields k)) c_label_Label_fields (bodyOf Try.f133) 0 (finK E_label_Label_fields po_label_Label_fields [.tmp 2]) (startSt pi_label_Label_fields 47 d) = f_label_Label_fields_m () d := by kernel_rfl
def g_label_Label_fields (d : Unit × ((Int × (Int × (Int × (Int × (Int × (Int × (Int × (Int × Unit)))))))) × Unit)) : Option (Unit × (((Option Int) × Unit) × Unit)) := f_label_Label_fields_m () d
theorem ok_label_Label_fields : FnOk Try.prog ET0 133 pi_label_Label_fields po_label_Label_fields g_label_Label_fields :=
  fn_of_body (E := E_label_Label_fields) (envOk_add (envOk_add (envOk_add e0_ok (typed_ok ok_label_in)) (typed_ok ok_label_shifts)) (typed_ok ok_day_Of)) (fn := Try.f133) Try.func133 (by kernel_rfl) (by kernel_rfl) [.tmp 2] (by kernel_rfl) (by kernel_rfl) (by decide) c_label_Label_fields L_label_Label_fields
    (by intro x hx; cases hx) (by intro k x hx; cases hx) (fun d out h => ⟨0, (q_label_Label_fields_m 0 d).trans h⟩)

/- horologe/label.Check -/
@[reducible] def pi_label_Check : PSh := ⟨[], [.mk true [.v (.int .i64), .v (.int .i64), .v (.int .i64), .v (.int .i64), .v (.int .i64), .v (.int .i64), .v (.int .i64), .v (.int .i64)]]⟩
@[reducible] def po_label_Check : PSh := ⟨[], [.mk false [.v .err]]⟩
def f_label_Check_m (T : Unit) (d : Unit × ((Int × (Int × (Int × (Int × (Int × (Int × (Int × (Int × Unit)))))))) × Unit)) : Option (Unit × (((Option Int) × Unit) × Unit)) :=
  (g_label_Label_fields ((), ((d.2.1.1, (d.2.1.2.1, (d.2.1.2.2.1, (d.2.1.2.2.2.1, (d.2.1.2.2.2.2.1, (d.2.1.2.2.2.2.2.1, (d.2.1.2.2.2.2.2.2.1, (d.2.1.2.2.2.2.2.2.2.1, ())))))))), ()))).bind fun x1 =>
  let x2 : Bool := (!x1.2.1.1.isNone)
  bif x2 then (
  some ((), ((x1.2.1.1, ()), ())))
  else (
  (g_label_Label_place ((), ((d.2.1.1, (d.2.1.2.1, (d.2.1.2.2.1, (d.2.1.2.2.2.1, (d.2.1.2.2.2.2.1, (d.2.1.2.2.2.2.2.1, (d.2.1.2.2.2.2.2.2.1, (d.2.1.2.2.2.2.2.2.2.1, ())))))))), ()))).bind fun x3 =>
  let x4 : Bool := (!x3.2.2.2.1.1.isNone)
  bif x4 then (
  some ((), ((x3.2.2.2.1.1, ()), ())))
  else (
  (g_label_there ((), ((x3.2.1.1, ()), ()))).bind fun x5 =>
  let x6 : Bool := (!x5.2.1.1)
  bif x6 then (
  let x7 : (Option Int) := (some (13 : Int))
  some ((), ((x7, ()), ())))
  else (
  let x8 : Bool := (d.2.1.2.2.2.2.2.1 == (60 : Int))
  bif x8 then (
  let x9 : Bool := (x3.2.2.1.1 != (1439 : Int))
  bif x9 then (
  let x10 : (Option Int) := (some (12 : Int))
  some ((), ((x10, ()), ())))
  else (
  some ((), (((none : Option Int), ()), ()))))
  else (
  some ((), (((none : Option Int), ()), ()))))))
def c_label_Check : List Nat := []
def L_label_Check (_ : Nat) : Pts po_label_Check.den := []
def E_label_Check : Env := (((E0.add 108 (typedSem pi_label_Label_place po_label_Label_place g_label_Label_place)).add 119 (typedSem pi_label_there po_label_there g_label_there)).add 133 (typedSem pi_label_Label_fields po_label_Label_fields g_label_Label_fields))
theorem q_label_Check_m (k : Nat) (d : Unit × ((Int × (Int × (Int × (Int × (Int × (Int × (Int × (Int × Unit)))))))) × Unit)) : evCode E_label_Check (tab (L_label_Check k)) c_label_Check (bodyOf Try.f85) 0 (finK E_label_Check po_label_Check [.tmp 2]) (startSt pi_label_Check 36 d) = f_label_Check_m () d := by kernel_rfl
def g_label_Check (d : Unit × ((Int × (Int × (Int × (Int × (Int × (Int × (Int × (Int × Unit)))))))) × Unit)) : Option (Unit × (((Option Int) × Unit) × Unit)) := f_label_Check_m () d
theorem ok_label_Check : FnOk Try.prog ET0 85 pi_label_Check po_label_Check g_label_Check :=
  fn_of_body (E := E_label_Check) (envOk_add (envOk_add (envOk_add e0_ok (typed_ok ok_label_Label_place)) (typed_ok ok_label_there)) (typed_ok ok_label_Label_fields)) (fn := Try.f85) Try.func85 (by kernel_rfl) (by kernel_rfl) [.tmp 2] (by kernel_rfl) (by kernel_rfl) (by decide) c_label_Check L_label_Check
    (by intro x hx; cases hx) (by intro k x hx; cases hx) (fun d out h => ⟨0, (q_label_Check_m 0 d).trans h⟩)

/- horologe/label.Split -/
@[reducible] def pi_label_Split : PSh := ⟨[], [.mk true [.v (.int .i64), .v (.int .i64), .v (.int .i64), .v (.int .i64), .v (.int .i64), .v (.int .i64), .v (.int .i64), .v (.int .i64)]]⟩
@[reducible] def po_label_Split : PSh := ⟨[], [.mk false [.v (.int .i64)], .mk false [.v (.int .i64)], .mk false [.v .err]]⟩
def f_label_Split_m (T : Unit) (d : Unit × ((Int × (Int × (Int × (Int × (Int × (Int × (Int × (Int × Unit)))))))) × Unit)) : Option (Unit × ((Int × Unit) × ((Int × Unit) × (((Option Int) × Unit) × Unit)))) :=
  (g_label_Check ((), ((d.2.1.1, (d.2.1.2.1, (d.2.1.2.2.1, (d.2.1.2.2.2.1, (d.2.1.2.2.2.2.1, (d.2.1.2.2.2.2.2.1, (d.2.1.2.2.2.2.2.2.1, (d.2.1.2.2.2.2.2.2.2.1, ())))))))), ()))).bind fun x1 =>
  let x2 : Bool := (!x1.2.1.1.isNone)
  bif x2 then (
  some ((), (((0 : Int), ()), (((0 : Int), ()), ((x1.2.1.1, ()), ())))))
  else (
  (g_label_Label_place ((), ((d.2.1.1, (d.2.1.2.1, (d.2.1.2.2.1, (d.2.1.2.2.2.1, (d.2.1.2.2.2.2.1, (d.2.1.2.2.2.2.2.1, (d.2.1.2.2.2.2.2.2.1, (d.2.1.2.2.2.2.2.2.2.1, ())))))))), ()))).bind fun x3 =>
  let x4 : Bool := (!x3.2.2.2.1.1.isNone)
  bif x4 then (
  some ((), (((0 : Int), ()), (((0 : Int), ()), ((x3.2.2.2.1.1, ()), ())))))
  else (
  let x5 : Int := (imul .i64 x3.2.2.1.1 (60 : Int))
  let x6 : Int := (iadd .i64 x5 d.2.1.2.2.2.2.2.1)
  some ((), ((x3.2.1.1, ()), ((x6, ()), (((none : Option Int), ()), ()))))))
def c_label_Split : List Nat := []
def L_label_Split (_ : Nat) : Pts po_label_Split.den := []
def E_label_Split : Env := ((E0.add 85 (typedSem pi_label_Check po_label_Check g_label_Check)).add 108 (typedSem pi_label_Label_place po_label_Label_place g_label_Label_place))
theorem q_label_Split_m (k : Nat) (d : Unit × ((Int × (Int × (Int × (Int × (Int × (Int × (Int × (Int × Unit)))))))) × Unit)) : evCode E_label_Split (tab (L_label_Split k)) c_label_Split (bodyOf Try.f59) 0 (finK E_label_Split po_label_Split [.tmp 2, .tmp 3, .tmp 4]) (startSt pi_label_Split 27 d) = f_label_Split_m () d := by kernel_rfl
def g_label_Split (d : Unit × ((Int × (Int × (Int × (Int × (Int × (Int × (Int × (Int × Unit)))))))) × Unit)) : Option (Unit × ((Int × Unit) × ((Int × Unit) × (((Option Int) × Unit) × Unit)))) := f_label_Split_m () d
theorem ok_label_Split : FnOk Try.prog ET0 59 pi_label_Split po_label_Split g_label_Split :=
  fn_of_body (E := E_label_Split) (envOk_add (envOk_add e0_ok (typed_ok ok_label_Check)) (typed_ok ok_label_Label_place)) (fn := Try.f59) Try.func59 (by kernel_rfl) (by kernel_rfl) [.tmp 2, .tmp 3, .tmp 4] (by kernel_rfl) (by kernel_rfl) (by decide) c_label_Split L_label_Split
    (by intro x hx; cases hx) (by intro k x hx; cases hx) (fun d out h => ⟨0, (q_label_Split_m 0 d).trans h⟩)

/- horologe/scale.Posix -/
@[reducible] def pi_scale_Posix : PSh := ⟨[], [.mk true [.v (.int .i64), .v (.int .i64), .v (.int .i64), .v (.int .i64), .v (.int .i64), .v (.int .i64), .v (.int .i64), .v (.int .i64)]]⟩
@[reducible] def po_scale_Posix : PSh := ⟨[], [.mk false [.v (.int .i64)], .mk false [.v .err]]⟩
def f_scale_Posix_m (T : Unit) (d : Unit × ((Int × (Int × (Int × (Int × (Int × (Int × (Int × (Int × Unit)))))))) × Unit)) : Option (Unit × ((Int × Unit) × (((Option Int) × Unit) × Unit))) :=
  (g_label_Split ((), ((d.2.1.1, (d.2.1.2.1, (d.2.1.2.2.1, (d.2.1.2.2.2.1, (d.2.1.2.2.2.2.1, (d.2.1.2.2.2.2.2.1, (d.2.1.2.2.2.2.2.2.1, (d.2.1.2.2.2.2.2.2.2.1, ())))))))), ()))).bind fun x1 =>
  let x2 : Bool := (!x1.2.2.2.1.1.isNone)
  bif x2 then (
  some ((), (((0 : Int), ()), ((x1.2.2.2.1.1, ()), ()))))
  else (
  let x3 : Int := (imul .i64 x1.2.1.1 (86400 : Int))
  let x4 : Int := (iadd .i64 x3 x1.2.2.1.1)
  some ((), ((x4, ()), (((none : Option Int), ()), ()))))
def c_scale_Posix : List Nat := []
def L_scale_Posix (_ : Nat) : Pts po_scale_Posix.den := []
def E_scale_Posix : Env := (E0.add 59 (typedSem pi_label_Split po_label_Split g_label_Split))
theorem q_scale_Posix_m (k : Nat) (d : Unit × ((Int × (Int × (Int × (Int × (Int × (Int × (Int × (Int × Unit)))))))) × Unit)) : evCode E_scale_Posix (tab (L_scale_Posix k)) c_scale_Posix (bodyOf Try.f13) 0 (finK E_scale_Posix po_scale_Posix [.tmp 2, .tmp 3]) (startSt pi_scale_Posix 20 d) = f_scale_Posix_m () d := by kernel_rfl
def g_scale_Posix (d : Unit × ((Int × (Int × (Int × (Int × (Int × (Int × (Int × (Int × Unit)))))))) × Unit)) : Option (Unit × ((Int × Unit) × (((Option Int) × Unit) × Unit))) := f_scale_Posix_m () d
theorem ok_scale_Posix : FnOk Try.prog ET0 13 pi_scale_Posix po_scale_Posix g_scale_Posix :=
  fn_of_body (E := E_scale_Posix) (envOk_add e0_ok (typed_ok ok_label_Split)) (fn := Try.f13) Try.func13 (by kernel_rfl) (by kernel_rfl) [.tmp 2, .tmp 3] (by kernel_rfl) (by kernel_rfl) (by decide) c_scale_Posix L_scale_Posix
    (by intro x hx; cases hx) (by intro k x hx; cases hx) (fun d out h => ⟨0, (q_scale_Posix_m 0 d).trans h⟩)

/- horologe/word.Of -/
@[reducible] def pi_word_Of : PSh := ⟨[], [.mk true [.v (.int .i64), .v (.int .i64), .v (.int .i64), .v (.int .i64), .v (.int .i64), .v (.int .i64), .v (.int .i64), .v (.int .i64)]]⟩
@[reducible] def po_word_Of : PSh := ⟨[.row 5 (.int .u8)], [.mk false [.osl 0], .mk false [.v .err]]⟩
def f_word_Of_m (T : Unit) (d : Unit × ((Int × (Int × (Int × (Int × (Int × (Int × (Int × (Int × Unit)))))))) × Unit)) : Option (((List Int) × Unit) × (Unit × (((Option Int) × Unit) × Unit))) :=
  (g_scale_Posix ((), ((d.2.1.1, (d.2.1.2.1, (d.2.1.2.2.1, (d.2.1.2.2.2.1, (d.2.1.2.2.2.2.1, (d.2.1.2.2.2.2.2.1, (d.2.1.2.2.2.2.2.2.1, (d.2.1.2.2.2.2.2.2.2.1, ())))))))), ()))).bind fun x1 =>
  let x2 : Bool := (!x1.2.2.1.1.isNone)
  bif x2 then (
  some ((([] : List Int), ()), ((), ((x1.2.2.1.1, ()), ()))))
  else (
  (g_word_Put ((), ((x1.2.1.1, ()), ()))).bind fun x3 =>
  some ((x3.1.1, ()), ((), ((x3.2.2.1.1, ()), ()))))
def c_word_Of : List Nat := []
def L_word_Of (_ : Nat) : Pts po_word_Of.den := []
def E_word_Of : Env := ((E0.add 13 (typedSem pi_scale_Posix po_scale_Posix g_scale_Posix)).add 38 (typedSem pi_word_Put po_word_Put g_word_Put))
theorem q_word_Of_m (k : Nat) (d : Unit × ((Int × (Int × (Int × (Int × (Int × (Int × (Int × (Int × Unit)))))))) × Unit)) : evCode E_word_Of (tab (L_word_Of k)) c_word_Of (bodyOf Try.f41) 0 (finK E_word_Of po_word_Of [.tmp 2, .tmp 3]) (startSt pi_word_Of 18 d) = f_word_Of_m () d := by kernel_rfl
def g_word_Of (d : Unit × ((Int × (Int × (Int × (Int × (Int × (Int × (Int × (Int × Unit)))))))) × Unit)) : Option (((List Int) × Unit) × (Unit × (((Option Int) × Unit) × Unit))) := f_word_Of_m () d
theorem ok_word_Of : FnOk Try.prog ET0 41 pi_word_Of po_word_Of g_word_Of :=
  fn_of_body (E := E_word_Of) (envOk_add (envOk_add e0_ok (typed_ok ok_scale_Posix)) (typed_ok ok_word_Put)) (fn := Try.f41) Try.func41 (by kernel_rfl) (by kernel_rfl) [.tmp 2, .tmp 3] (by kernel_rfl) (by kernel_rfl) (by decide) c_word_Of L_word_Of
    (by intro x hx; cases hx) (by intro k x hx; cases hx) (fun d out h => ⟨0, (q_word_Of_m 0 d).trans h⟩)

/- horologe/horologelaw27.WordPuts -/
@[reducible] def pi_law27_WordPuts : PSh := ⟨[], [.mk false [.v (.int .i64)], .mk true [.v (.int .i64), .v (.int .i64), .v (.int .i64), .v (.int .i64), .v (.int .i64), .v (.int .i64), .v (.int .i64), .v (.int .i64)]]⟩
@[reducible] def po_law27_WordPuts : PSh := ⟨[], [.mk false [.v .bool]]⟩
def f_law27_WordPuts_m (T : Unit) (d : Unit × ((Int × Unit) × ((Int × (Int × (Int × (Int × (Int × (Int × (Int × (Int × Unit)))))))) × Unit))) : Option (Unit × ((Bool × Unit) × Unit)) :=
  (g_law27_alive ((), ())).bind fun x1 =>
  let x2 : Bool := (!x1.2.1.1)
  bif x2 then (
  some ((), ((false, ()), ())))
  else (
  (g_word_Put ((), ((d.2.1.1, ()), ()))).bind fun x3 =>
  (g_ref27_Put ((), ((d.2.1.1, ()), ()))).bind fun x4 =>
  (g_hnum_Bytes ((), ((x3.1.1, ()), ((x4.1.1, ()), ())))).bind fun x5 =>
  let x6 : Bool := (!x5.2.1.1)
  bif x6 then (
  some ((), ((false, ()), ())))
  else (
  (g_hnum_Num ((), ((x3.2.2.1.1, ()), ()))).bind fun x7 =>
  let x8 : Bool := (x7.2.1.1 != x4.2.2.1.1)
  bif x8 then (
  some ((), ((false, ()), ())))
  else (
  (g_word_Of ((), ((d.2.2.1.1, (d.2.2.1.2.1, (d.2.2.1.2.2.1, (d.2.2.1.2.2.2.1, (d.2.2.1.2.2.2.2.1, (d.2.2.1.2.2.2.2.2.1, (d.2.2.1.2.2.2.2.2.2.1, (d.2.2.1.2.2.2.2.2.2.2.1, ())))))))), ()))).bind fun x9 =>
  (g_law08_Document ((), ((d.2.2.1.1, (d.2.2.1.2.1, (d.2.2.1.2.2.1, (d.2.2.1.2.2.2.1, (d.2.2.1.2.2.2.2.1, (d.2.2.1.2.2.2.2.2.1, (d.2.2.1.2.2.2.2.2.2.1, (d.2.2.1.2.2.2.2.2.2.2.1, ())))))))), ()))).bind fun x10 =>
  (g_ref12_Posix ((), ((x10.2.1.1, (x10.2.1.2.1, (x10.2.1.2.2.1, (x10.2.1.2.2.2.1, (x10.2.1.2.2.2.2.1, (x10.2.1.2.2.2.2.2.1, (x10.2.1.2.2.2.2.2.2.1, (x10.2.1.2.2.2.2.2.2.2.1, ())))))))), ()))).bind fun x11 =>
  let x12 : Bool := (x11.2.2.1.1 == (0 : Int))
  bif x12 then (
  (g_ref27_Put ((), ((x11.2.1.1, ()), ()))).bind fun x13 =>
  (g_hnum_Bytes ((), ((x9.1.1, ()), ((x13.1.1, ()), ())))).bind fun x14 =>
  bif x14.2.1.1 then (
  (g_hnum_Num ((), ((x9.2.2.1.1, ()), ()))).bind fun x15 =>
  let x16 : Bool := (x15.2.1.1 == x13.2.2.1.1)
  some ((), ((x16, ()), ())))
  else (
  some ((), ((false, ()), ()))))
  else (
  (g_hnum_Bytes ((), ((x9.1.1, ()), ((([] : List Int), ()), ())))).bind fun x17 =>
  bif x17.2.1.1 then (
  (g_hnum_Num ((), ((x9.2.2.1.1, ()), ()))).bind fun x18 =>
  let x19 : Bool := (x18.2.1.1 == x11.2.2.1.1)
  some ((), ((x19, ()), ())))
  else (
  some ((), ((false, ()), ())))))))
def c_law27_WordPuts : List Nat := []
def L_law27_WordPuts (_ : Nat) : Pts po_law27_WordPuts.den := []
def E_law27_WordPuts : Env := ((((((((E0.add 14 (typedSem pi_ref12_Posix po_ref12_Posix g_ref12_Posix)).add 15 (typedSem pi_law08_Document po_law08_Document g_law08_Document)).add 16 (typedSem pi_hnum_Num po_hnum_Num g_hnum_Num)).add 37 (typedSem pi_law27_alive po_law27_alive g_law27_alive)).add 38 (typedSem pi_word_Put po_word_Put g_word_Put)).add 39 (typedSem pi_ref27_Put po_ref27_Put g_ref27_Put)).add 40 (typedSem pi_hnum_Bytes po_hnum_Bytes g_hnum_Bytes)).add 41 (typedSem pi_word_Of po_word_Of g_word_Of))
theorem q_law27_WordPuts_m (k : Nat) (d : Unit × ((Int × Unit) × ((Int × (Int × (Int × (Int × (Int × (Int × (Int × (Int × Unit)))))))) × Unit))) : evCode E_law27_WordPuts (tab (L_law27_WordPuts k)) c_law27_WordPuts (bodyOf Try.f8) 0 (finK E_law27_WordPuts po_law27_WordPuts [.tmp 4]) (startSt pi_law27_WordPuts 60 d) = f_law27_WordPuts_m () d := by kernel_rfl
def g_law27_WordPuts (d : Unit × ((Int × Unit) × ((Int × (Int × (Int × (Int × (Int × (Int × (Int × (Int × Unit)))))))) × Unit))) : Option (Unit × ((Bool × Unit) × Unit)) := f_law27_WordPuts_m () d
theorem ok_law27_WordPuts : FnOk Try.prog ET0 8 pi_law27_WordPuts po_law27_WordPuts g_law27_WordPuts :=
  fn_of_body (E := E_law27_WordPuts) (envOk_add (envOk_add (envOk_add (envOk_add (envOk_add (envOk_add (envOk_add (envOk_add e0_ok (typed_ok ok_ref12_Posix)) (typed_ok ok_law08_Document)) (typed_ok ok_hnum_Num)) (typed_ok ok_law27_alive)) (typed_ok ok_word_Put)) (typed_ok ok_ref27_Put)) (typed_ok ok_hnum_Bytes)) (typed_ok ok_word_Of)) (fn := Try.f8) Try.func8 (by kernel_rfl) (by kernel_rfl) [.tmp 4] (by kernel_rfl) (by kernel_rfl) (by decide) c_law27_WordPuts L_law27_WordPuts
    (by intro x hx; cases hx) (by intro k x hx; cases hx) (fun d out h => ⟨0, (q_law27_WordPuts_m 0 d).trans h⟩)

/- horologe/day.Date -/
@[reducible] def pi_day_Date : PSh := ⟨[], [.mk false [.v (.int .i64)]]⟩
@[reducible] def po_day_Date : PSh := ⟨[], [.mk false [.v (.int .i64)], .mk false [.v (.int .i64)], .mk false [.v (.int .i64)], .mk false [.v .err]]⟩
def f_day_Date_m (T : Unit) (d : Unit × ((Int × Unit) × Unit)) : Option (Unit × ((Int × Unit) × ((Int × Unit) × ((Int × Unit) × (((Option Int) × Unit) × Unit))))) :=
  (g_day_First ((), ())).bind fun x1 =>
  let x2 : Bool := (decide (d.2.1.1 < x1.2.1.1))
  bif x2 then (
  let x3 : (Option Int) := (some (13 : Int))
  some ((), (((0 : Int), ()), (((0 : Int), ()), (((0 : Int), ()), ((x3, ()), ()))))))
  else (
  (g_day_Last ((), ())).bind fun x4 =>
  let x5 : Bool := (decide (d.2.1.1 > x4.2.1.1))
  bif x5 then (
  let x6 : (Option Int) := (some (13 : Int))
  some ((), (((0 : Int), ()), (((0 : Int), ()), (((0 : Int), ()), ((x6, ()), ()))))))
  else (
  let x7 : Int := (iadd .i64 d.2.1.1 (719468 : Int))
  (g_day_floor ((), ((x7, ()), (((146097 : Int), ()), ())))).bind fun x8 =>
  let x9 : Int := (iadd .i64 d.2.1.1 (719468 : Int))
  let x10 : Int := (imul .i64 x8.2.1.1 (146097 : Int))
  let x11 : Int := (isub .i64 x9 x10)
  let x12 : Int := (iquo .i64 x11 (1460 : Int))
  let x13 : Int := (isub .i64 x11 x12)
  let x14 : Int := (iquo .i64 x11 (36524 : Int))
  let x15 : Int := (iadd .i64 x13 x14)
  let x16 : Int := (iquo .i64 x11 (146096 : Int))
  let x17 : Int := (isub .i64 x15 x16)
  let x18 : Int := (iquo .i64 x17 (365 : Int))
  let x19 : Int := (imul .i64 (365 : Int) x18)
  let x20 : Int := (iquo .i64 x18 (4 : Int))
  let x21 : Int := (iadd .i64 x19 x20)
  let x22 : Int := (iquo .i64 x18 (100 : Int))
  let x23 : Int := (isub .i64 x21 x22)
  let x24 : Int := (isub .i64 x11 x23)
  let x25 : Int := (imul .i64 (5 : Int) x24)
  let x26 : Int := (iadd .i64 x25 (2 : Int))
  let x27 : Int := (iquo .i64 x26 (153 : Int))
  let x28 : Int := (imul .i64 (153 : Int) x27)
  let x29 : Int := (iadd .i64 x28 (2 : Int))
  let x30 : Int := (iquo .i64 x29 (5 : Int))
  let x31 : Int := (isub .i64 x24 x30)
  let x32 : Int := (iadd .i64 x31 (1 : Int))
  let x33 : Int := (imul .i64 x8.2.1.1 (400 : Int))
  let x34 : Int := (iadd .i64 x18 x33)
  let x35 : Int := (iadd .i64 x27 (3 : Int))
  let x36 : Bool := (decide (x35 > (12 : Int)))
  bif x36 then (
  let x37 : Int := (isub .i64 x35 (12 : Int))
  let x38 : Int := (iadd .i64 x34 (1 : Int))
  some ((), ((x38, ()), ((x37, ()), ((x32, ()), (((none : Option Int), ()), ()))))))
  else (
  some ((), ((x34, ()), ((x35, ()), ((x32, ()), (((none : Option Int), ()), ()))))))))
def c_day_Date : List Nat := []
def L_day_Date (_ : Nat) : Pts po_day_Date.den := []
def E_day_Date : Env := (((E0.add 128 (typedSem pi_day_Last po_day_Last g_day_Last)).add 176 (typedSem pi_day_First po_day_First g_day_First)).add 177 (typedSem pi_day_floor po_day_floor g_day_floor))
theorem q_day_Date_m (k : Nat) (d : Unit × ((Int × Unit) × Unit)) : evCode E_day_Date (tab (L_day_Date k)) c_day_Date (bodyOf Try.f123) 0 (finK E_day_Date po_day_Date [.tmp 2, .tmp 3, .tmp 4, .tmp 5]) (startSt pi_day_Date 77 d) = f_day_Date_m () d := by kernel_rfl
def g_day_Date (d : Unit × ((Int × Unit) × Unit)) : Option (Unit × ((Int × Unit) × ((Int × Unit) × ((Int × Unit) × (((Option Int) × Unit) × Unit))))) := f_day_Date_m () d
theorem ok_day_Date : FnOk Try.prog ET0 123 pi_day_Date po_day_Date g_day_Date :=
  fn_of_body (E := E_day_Date) (envOk_add (envOk_add (envOk_add e0_ok (typed_ok ok_day_Last)) (typed_ok ok_day_First)) (typed_ok ok_day_floor)) (fn := Try.f123) Try.func123 (by kernel_rfl) (by kernel_rfl) [.tmp 2, .tmp 3, .tmp 4, .tmp 5] (by kernel_rfl) (by kernel_rfl) (by decide) c_day_Date L_day_Date
    (by intro x hx; cases hx) (by intro k x hx; cases hx) (fun d out h => ⟨0, (q_day_Date_m 0 d).trans h⟩)

/- horologe/horologeref05.Date -/
@[reducible] def pi_ref05_Date : PSh := ⟨[], [.mk false [.v (.int .i64)]]⟩
@[reducible] def po_ref05_Date : PSh := ⟨[], [.mk false [.v (.int .i64)], .mk false [.v (.int .i64)], .mk false [.v (.int .i64)]]⟩
@[reducible] def sh_ref05_Date_3 : PSh := ⟨[], [.mk false [.v (.int .i64)], .any, .any, .any, .any, .mk false [.v (.int .i64)], .any, .any, .any, .any, .any, .any, .any, .any, .any, .any, .any, .any, .any, .any, .any, .any, .any, .any, .any, .any, .any, .any, .any, .any, .any, .any, .any, .any, .any, .any, .any, .any, .any, .any, .any, .any, .any, .any, .any]⟩
@[reducible] def sh_ref05_Date_8 : PSh := ⟨[], [.mk false [.v (.int .i64)], .any, .any, .any, .any, .mk false [.v (.int .i64)], .any, .any, .any, .any, .any, .any, .any, .any, .any, .any, .any, .any, .any, .any, .any, .any, .any, .any, .any, .any, .any, .any, .any, .any, .any, .any, .any, .any, .any, .any, .any, .any, .any, .any, .any, .any, .any, .any, .any]⟩
@[reducible] def sh_ref05_Date_13 : PSh := ⟨[], [.mk false [.v (.int .i64)], .any, .any, .any, .any, .mk false [.v (.int .i64)], .any, .any, .any, .any, .any, .any, .any, .any, .any, .any, .any, .any, .any, .any, .any, .any, .any, .any, .any, .any, .any, .any, .any, .any, .any, .any, .any, .any, .any, .any, .any, .any, .any, .any, .any, .any, .any, .any, .any]⟩
@[reducible] def sh_ref05_Date_19 : PSh := ⟨[], [.mk false [.v (.int .i64)], .any, .any, .any, .any, .mk false [.v (.int .i64)], .mk false [.v (.int .i64)], .any, .any, .any, .any, .any, .any, .any, .any, .any, .any, .any, .any, .any, .any, .any, .any, .any, .any, .any, .any, .any, .any, .any, .any, .any, .any, .any, .any, .any, .any, .any, .any, .any, .any, .any, .any, .any, .any]⟩
def f_ref05_Date_p3 (T : (((Unit × ((Int × Unit) × ((Int × Unit) × Unit))) → Option (Unit × ((Int × Unit) × ((Int × Unit) × ((Int × Unit) × Unit))))) × (((Unit × ((Int × Unit) × ((Int × Unit) × Unit))) → Option (Unit × ((Int × Unit) × ((Int × Unit) × ((Int × Unit) × Unit))))) × (((Unit × ((Int × Unit) × ((Int × Unit) × Unit))) → Option (Unit × ((Int × Unit) × ((Int × Unit) × ((Int × Unit) × Unit))))) × (((Unit × ((Int × Unit) × ((Int × Unit) × ((Int × Unit) × Unit)))) → Option (Unit × ((Int × Unit) × ((Int × Unit) × ((Int × Unit) × Unit))))) × Unit))))) (d : Unit × ((Int × Unit) × ((Int × Unit) × Unit))) : Option (Unit × ((Int × Unit) × ((Int × Unit) × ((Int × Unit) × Unit)))) :=
  let x1 : Bool := (decide (d.2.1.1 < (0 : Int)))
  bif x1 then (
  let x2 : Int := (iadd .i64 d.2.1.1 (146097 : Int))
  let x3 : Int := (isub .i64 d.2.2.1.1 (400 : Int))
  (T.1 ((), ((x2, ()), ((x3, ()), ())))))
  else (
  (T.2.1 ((), ((d.2.1.1, ()), ((d.2.2.1.1, ()), ())))))
def f_ref05_Date_p8 (T : (((Unit × ((Int × Unit) × ((Int × Unit) × Unit))) → Option (Unit × ((Int × Unit) × ((Int × Unit) × ((Int × Unit) × Unit))))) × (((Unit × ((Int × Unit) × ((Int × Unit) × Unit))) → Option (Unit × ((Int × Unit) × ((Int × Unit) × ((Int × Unit) × Unit))))) × (((Unit × ((Int × Unit) × ((Int × Unit) × Unit))) → Option (Unit × ((Int × Unit) × ((Int × Unit) × ((Int × Unit) × Unit))))) × (((Unit × ((Int × Unit) × ((Int × Unit) × ((Int × Unit) × Unit)))) → Option (Unit × ((Int × Unit) × ((Int × Unit) × ((Int × Unit) × Unit))))) × Unit))))) (d : Unit × ((Int × Unit) × ((Int × Unit) × Unit))) : Option (Unit × ((Int × Unit) × ((Int × Unit) × ((Int × Unit) × Unit)))) :=
  let x4 : Bool := (decide (d.2.1.1 ≥ (146097 : Int)))
  bif x4 then (
  let x5 : Int := (isub .i64 d.2.1.1 (146097 : Int))
  let x6 : Int := (iadd .i64 d.2.2.1.1 (400 : Int))
  (T.2.1 ((), ((x5, ()), ((x6, ()), ())))))
  else (
  (T.2.2.1 ((), ((d.2.1.1, ()), ((d.2.2.1.1, ()), ())))))
def f_ref05_Date_p13 (T : (((Unit × ((Int × Unit) × ((Int × Unit) × Unit))) → Option (Unit × ((Int × Unit) × ((Int × Unit) × ((Int × Unit) × Unit))))) × (((Unit × ((Int × Unit) × ((Int × Unit) × Unit))) → Option (Unit × ((Int × Unit) × ((Int × Unit) × ((Int × Unit) × Unit))))) × (((Unit × ((Int × Unit) × ((Int × Unit) × Unit))) → Option (Unit × ((Int × Unit) × ((Int × Unit) × ((Int × Unit) × Unit))))) × (((Unit × ((Int × Unit) × ((Int × Unit) × ((Int × Unit) × Unit)))) → Option (Unit × ((Int × Unit) × ((Int × Unit) × ((Int × Unit) × Unit))))) × Unit))))) (d : Unit × ((Int × Unit) × ((Int × Unit) × Unit))) : Option (Unit × ((Int × Unit) × ((Int × Unit) × ((Int × Unit) × Unit)))) :=
  (g_ref05_Days ((), ((d.2.2.1.1, ()), ()))).bind fun x7 =>
  let x8 : Bool := (decide (d.2.1.1 ≥ x7.2.1.1))
  bif x8 then (
  (g_ref05_Days ((), ((d.2.2.1.1, ()), ()))).bind fun x9 =>
  let x10 : Int := (isub .i64 d.2.1.1 x9.2.1.1)
  let x11 : Int := (iadd .i64 d.2.2.1.1 (1 : Int))
  (T.2.2.1 ((), ((x10, ()), ((x11, ()), ())))))
  else (
  (T.2.2.2.1 ((), ((d.2.1.1, ()), ((d.2.2.1.1, ()), (((1 : Int), ()), ()))))))
def f_ref05_Date_p19 (T : (((Unit × ((Int × Unit) × ((Int × Unit) × Unit))) → Option (Unit × ((Int × Unit) × ((Int × Unit) × ((Int × Unit) × Unit))))) × (((Unit × ((Int × Unit) × ((Int × Unit) × Unit))) → Option (Unit × ((Int × Unit) × ((Int × Unit) × ((Int × Unit) × Unit))))) × (((Unit × ((Int × Unit) × ((Int × Unit) × Unit))) → Option (Unit × ((Int × Unit) × ((Int × Unit) × ((Int × Unit) × Unit))))) × (((Unit × ((Int × Unit) × ((Int × Unit) × ((Int × Unit) × Unit)))) → Option (Unit × ((Int × Unit) × ((Int × Unit) × ((Int × Unit) × Unit))))) × Unit))))) (d : Unit × ((Int × Unit) × ((Int × Unit) × ((Int × Unit) × Unit)))) : Option (Unit × ((Int × Unit) × ((Int × Unit) × ((Int × Unit) × Unit)))) :=
  (g_ref05_Month ((), ((d.2.2.1.1, ()), ((d.2.2.2.1.1, ()), ())))).bind fun x12 =>
  let x13 : Bool := (decide (d.2.1.1 ≥ x12.2.1.1))
  bif x13 then (
  (g_ref05_Month ((), ((d.2.2.1.1, ()), ((d.2.2.2.1.1, ()), ())))).bind fun x14 =>
  let x15 : Int := (isub .i64 d.2.1.1 x14.2.1.1)
  let x16 : Int := (iadd .i64 d.2.2.2.1.1 (1 : Int))
  (T.2.2.2.1 ((), ((x15, ()), ((d.2.2.1.1, ()), ((x16, ()), ()))))))
  else (
  let x17 : Int := (iadd .i64 d.2.1.1 (1 : Int))
  some ((), ((d.2.2.1.1, ()), ((d.2.2.2.1.1, ()), ((x17, ()), ())))))
def f_ref05_Date_t : Nat → (((Unit × ((Int × Unit) × ((Int × Unit) × Unit))) → Option (Unit × ((Int × Unit) × ((Int × Unit) × ((Int × Unit) × Unit))))) × (((Unit × ((Int × Unit) × ((Int × Unit) × Unit))) → Option (Unit × ((Int × Unit) × ((Int × Unit) × ((Int × Unit) × Unit))))) × (((Unit × ((Int × Unit) × ((Int × Unit) × Unit))) → Option (Unit × ((Int × Unit) × ((Int × Unit) × ((Int × Unit) × Unit))))) × (((Unit × ((Int × Unit) × ((Int × Unit) × ((Int × Unit) × Unit)))) → Option (Unit × ((Int × Unit) × ((Int × Unit) × ((Int × Unit) × Unit))))) × Unit))))
  | 0 => (fun _ => none, (fun _ => none, (fun _ => none, (fun _ => none, ()))))
  | k + 1 => (f_ref05_Date_p3 (f_ref05_Date_t k), (f_ref05_Date_p8 (f_ref05_Date_t k), (f_ref05_Date_p13 (f_ref05_Date_t k), (f_ref05_Date_p19 (f_ref05_Date_t k), ()))))
theorem t_ref05_Date (k : Nat) : f_ref05_Date_t (k + 1) = (f_ref05_Date_p3 (f_ref05_Date_t k), (f_ref05_Date_p8 (f_ref05_Date_t k), (f_ref05_Date_p13 (f_ref05_Date_t k), (f_ref05_Date_p19 (f_ref05_Date_t k), ())))) := rfl
def f_ref05_Date_m (T : (((Unit × ((Int × Unit) × ((Int × Unit) × Unit))) → Option (Unit × ((Int × Unit) × ((Int × Unit) × ((Int × Unit) × Unit))))) × (((Unit × ((Int × Unit) × ((Int × Unit) × Unit))) → Option (Unit × ((Int × Unit) × ((Int × Unit) × ((Int × Unit) × Unit))))) × (((Unit × ((Int × Unit) × ((Int × Unit) × Unit))) → Option (Unit × ((Int × Unit) × ((Int × Unit) × ((Int × Unit) × Unit))))) × (((Unit × ((Int × Unit) × ((Int × Unit) × ((Int × Unit) × Unit)))) → Option (Unit × ((Int × Unit) × ((Int × Unit) × ((Int × Unit) × Unit))))) × Unit))))) (d : Unit × ((Int × Unit) × Unit)) : Option (Unit × ((Int × Unit) × ((Int × Unit) × ((Int × Unit) × Unit)))) :=
  (T.1 ((), ((d.2.1.1, ()), (((1970 : Int), ()), ()))))
def c_ref05_Date : List Nat := []
def L_ref05_Date (k : Nat) : Pts po_ref05_Date.den := [(3, ⟨sh_ref05_Date_3, (f_ref05_Date_t k).1⟩), (8, ⟨sh_ref05_Date_8, (f_ref05_Date_t k).2.1⟩), (13, ⟨sh_ref05_Date_13, (f_ref05_Date_t k).2.2.1⟩), (19, ⟨sh_ref05_Date_19, (f_ref05_Date_t k).2.2.2.1⟩)]
def E_ref05_Date : Env := ((E0.add 109 (typedSem pi_ref05_Days po_ref05_Days g_ref05_Days)).add 110 (typedSem pi_ref05_Month po_ref05_Month g_ref05_Month))
theorem q_ref05_Date_3 (k : Nat) (d : Unit × ((Int × Unit) × ((Int × Unit) × Unit))) : evAt E_ref05_Date (tab (L_ref05_Date k)) c_ref05_Date 3 (bodyOf Try.f63) 0 (finK E_ref05_Date po_ref05_Date [.tmp 2, .tmp 3, .tmp 4]) (ptSt sh_ref05_Date_3 d) = f_ref05_Date_p3 (f_ref05_Date_t k) d := by kernel_rfl
theorem q_ref05_Date_8 (k : Nat) (d : Unit × ((Int × Unit) × ((Int × Unit) × Unit))) : evAt E_ref05_Date (tab (L_ref05_Date k)) c_ref05_Date 8 (bodyOf Try.f63) 0 (finK E_ref05_Date po_ref05_Date [.tmp 2, .tmp 3, .tmp 4]) (ptSt sh_ref05_Date_8 d) = f_ref05_Date_p8 (f_ref05_Date_t k) d := by kernel_rfl
theorem q_ref05_Date_13 (k : Nat) (d : Unit × ((Int × Unit) × ((Int × Unit) × Unit))) : evAt E_ref05_Date (tab (L_ref05_Date k)) c_ref05_Date 13 (bodyOf Try.f63) 0 (finK E_ref05_Date po_ref05_Date [.tmp 2, .tmp 3, .tmp 4]) (ptSt sh_ref05_Date_13 d) = f_ref05_Date_p13 (f_ref05_Date_t k) d := by kernel_rfl
theorem q_ref05_Date_19 (k : Nat) (d : Unit × ((Int × Unit) × ((Int × Unit) × ((Int × Unit) × Unit)))) : evAt E_ref05_Date (tab (L_ref05_Date k)) c_ref05_Date 19 (bodyOf Try.f63) 0 (finK E_ref05_Date po_ref05_Date [.tmp 2, .tmp 3, .tmp 4]) (ptSt sh_ref05_Date_19 d) = f_ref05_Date_p19 (f_ref05_Date_t k) d := by kernel_rfl
theorem q_ref05_Date_m (k : Nat) (d : Unit × ((Int × Unit) × Unit)) : evCode E_ref05_Date (tab (L_ref05_Date k)) c_ref05_Date (bodyOf Try.f63) 0 (finK E_ref05_Date po_ref05_Date [.tmp 2, .tmp 3, .tmp 4]) (startSt pi_ref05_Date 45 d) = f_ref05_Date_m (f_ref05_Date_t k) d := by kernel_rfl
theorem go_ref05_Date (G : pi_ref05_Date.den → Option po_ref05_Date.den) (hG : ∀ d out, G d = some out → ∃ k, f_ref05_Date_m (f_ref05_Date_t k) d = some out) : FnOk Try.prog ET0 63 pi_ref05_Date po_ref05_Date G :=
  fn_of_body (E := E_ref05_Date) (envOk_add (envOk_add e0_ok (typed_ok ok_ref05_Days)) (typed_ok ok_ref05_Month)) (fn := Try.f63) Try.func63 (by kernel_rfl) (by kernel_rfl) [.tmp 2, .tmp 3, .tmp 4] (by kernel_rfl) (by kernel_rfl) (by decide) c_ref05_Date L_ref05_Date
    (by intro x hx d; simp only [L_ref05_Date, List.mem_cons, List.not_mem_nil, or_false] at hx; rcases hx with rfl | rfl | rfl | rfl; rfl; rfl; rfl; rfl)
    (by intro k x hx d out h; simp only [L_ref05_Date, List.mem_cons, List.not_mem_nil, or_false] at hx; rcases hx with rfl | rfl | rfl | rfl; exact (q_ref05_Date_3 k d).trans h; exact (q_ref05_Date_8 k d).trans h; exact (q_ref05_Date_13 k d).trans h; exact (q_ref05_Date_19 k d).trans h)
    (by intro d out h; obtain ⟨k, hk⟩ := hG d out h; exact ⟨k, (q_ref05_Date_m k d).trans hk⟩)
def g_ref05_Date (d : Unit × ((Int × Unit) × Unit)) : Option (Unit × ((Int × Unit) × ((Int × Unit) × ((Int × Unit) × Unit)))) := lim fun k => f_ref05_Date_m (f_ref05_Date_t k) d
theorem ok_ref05_Date : FnOk Try.prog ET0 63 pi_ref05_Date po_ref05_Date g_ref05_Date := go_ref05_Date g_ref05_Date fun d out h => lim_some h
end
end Go.Proofs.Ytnielkimpieofaa.Ev
