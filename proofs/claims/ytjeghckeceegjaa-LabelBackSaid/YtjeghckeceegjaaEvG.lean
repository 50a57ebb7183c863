/- Printed by wip/tools/evgen.py. -/
import Derived.Test.YtjeghckeceegjaaEv19
import Derived.Test.YtjeghckeceegjaaProg
import Derived.KernelRfl
set_option maxRecDepth 100000
set_option maxHeartbeats 2000000
set_option linter.unusedVariables false
namespace Go.Proofs.Ytjeghckeceegjaa.Ev
open Go
noncomputable section
def rows0 : List (TypeId × Row) := [
  (2, ⟨.int .i64, 1, 8, (.int .i64), [AV.val (.int .i64) (0 : Int)], none⟩),
  (3, ⟨.int .i64, 1, 8, (.int .i64), [AV.val (.int .i64) (0 : Int)], none⟩),
  (4, ⟨.bool, 1, 1, .bool, [AV.val .bool false], none⟩),
  (23, ⟨.struct [(0, 1, false), (1, 1, false), (2, 1, false), (3, 1, false), (4, 1, false), (5, 1, false), (6, 1, false), (7, 1, false)], 8, 64, (.pair (.int .i64) (.pair (.int .i64) (.pair (.int .i64) (.pair (.int .i64) (.pair (.int .i64) (.pair (.int .i64) (.pair (.int .i64) (.int .i64)))))))), [AV.val (.int .i64) (0 : Int), AV.val (.int .i64) (0 : Int), AV.val (.int .i64) (0 : Int), AV.val (.int .i64) (0 : Int), AV.val (.int .i64) (0 : Int), AV.val (.int .i64) (0 : Int), AV.val (.int .i64) (0 : Int), AV.val (.int .i64) (0 : Int)], some [.int .i64, .int .i64, .int .i64, .int .i64, .int .i64, .int .i64, .int .i64, .int .i64]⟩),
  (26, ⟨.iface, 1, 16, .err, [AV.val .err (none : Option Int)], none⟩),
  (31, ⟨.struct [(0, 1, false), (1, 1, false), (2, 1, false), (3, 1, false), (4, 1, false), (5, 1, false), (6, 1, false), (7, 1, false)], 8, 64, (.pair (.int .i64) (.pair (.int .i64) (.pair (.int .i64) (.pair (.int .i64) (.pair (.int .i64) (.pair (.int .i64) (.pair (.int .i64) (.int .i64)))))))), [AV.val (.int .i64) (0 : Int), AV.val (.int .i64) (0 : Int), AV.val (.int .i64) (0 : Int), AV.val (.int .i64) (0 : Int), AV.val (.int .i64) (0 : Int), AV.val (.int .i64) (0 : Int), AV.val (.int .i64) (0 : Int), AV.val (.int .i64) (0 : Int)], some [.int .i64, .int .i64, .int .i64, .int .i64, .int .i64, .int .i64, .int .i64, .int .i64]⟩),
  (41, ⟨.arr 2 3, 2, 16, (.pair (.int .i64) (.int .i64)), [AV.val (.int .i64) (0 : Int), AV.val (.int .i64) (0 : Int)], none⟩),
  (49, ⟨.int .i64, 1, 8, (.int .i64), [AV.val (.int .i64) (0 : Int)], none⟩),
  (55, ⟨.slice 73, 1, 24, (.sl (.pair (.int .i64) (.int .i64))), [AV.nilS], none⟩),
  (58, ⟨.ptr, 1, 8, (.nptr (.pair (.sl (.pair (.int .i64) (.int .i64))) (.pair (.int .i64) (.int .i64)))), [AV.nilP], none⟩),
  (66, ⟨.slice 77, 1, 24, (.sl (.pair (.int .i64) (.int .i64))), [AV.nilS], none⟩),
  (68, ⟨.struct [(0, 1, false), (1, 1, false), (2, 1, false)], 3, 40, (.pair (.sl (.pair (.int .i64) (.int .i64))) (.pair (.int .i64) (.int .i64))), [AV.nilS, AV.val (.int .i64) (0 : Int), AV.val (.int .i64) (0 : Int)], none⟩),
  (73, ⟨.struct [(0, 1, false), (1, 1, false)], 2, 16, (.pair (.int .i64) (.int .i64)), [AV.val (.int .i64) (0 : Int), AV.val (.int .i64) (0 : Int)], some [.int .i64, .int .i64]⟩),
  (77, ⟨.struct [(0, 1, false), (1, 1, false)], 2, 16, (.pair (.int .i64) (.int .i64)), [AV.val (.int .i64) (0 : Int), AV.val (.int .i64) (0 : Int)], some [.int .i64, .int .i64]⟩),
  (115, ⟨.struct [(0, 1, false), (1, 1, false), (2, 1, false)], 3, 40, (.pair (.sl (.pair (.int .i64) (.int .i64))) (.pair (.int .i64) (.int .i64))), [AV.nilS, AV.val (.int .i64) (0 : Int), AV.val (.int .i64) (0 : Int)], none⟩),
  (123, ⟨.slice 3, 1, 24, (.sl (.int .i64)), [AV.nilS], none⟩)]
def ET0 : TypeId := 49
def E0 : Env := ⟨rows0, [], ET0, 0⟩
theorem e0_ok : EnvOk Try.prog E0 := envOk_rows (by kernel_rfl) (by kernel_rfl) 0

/- horologe/num.Div -/
@[reducible] def pi_num_Div : PSh := ⟨[], [.mk false [.v (.int .i64)], .mk false [.v (.int .i64)]]⟩
@[reducible] def po_num_Div : PSh := ⟨[], [.mk false [.v (.int .i64)], .mk false [.v .err]]⟩
def f_num_Div_m (T : Unit) (d : Unit × ((Int × Unit) × ((Int × Unit) × Unit))) : Option (Unit × ((Int × Unit) × (((Option Int) × Unit) × Unit))) :=
  let x1 : Bool := (d.2.2.1.1 == (0 : Int))
  bif x1 then (
  let x2 : (Option Int) := (some (1 : Int))
  some ((), (((0 : Int), ()), ((x2, ()), ()))))
  else (
  let x3 : Bool := (d.2.1.1 == (-9223372036854775808 : Int))
  bif x3 then (
  let x4 : Bool := (d.2.2.1.1 == (-1 : Int))
  bif x4 then (
  let x5 : (Option Int) := (some (5 : Int))
  some ((), (((0 : Int), ()), ((x5, ()), ()))))
  else (
  bif (d.2.2.1.1 == 0) then (
  none)
  else (
  let x6 : Int := (iquo .i64 d.2.1.1 d.2.2.1.1)
  bif (d.2.2.1.1 == 0) then (
  none)
  else (
  let x7 : Int := (Int.tmod d.2.1.1 d.2.2.1.1)
  let x8 : Bool := (x7 != (0 : Int))
  bif x8 then (
  let x9 : Bool := (decide (d.2.1.1 < (0 : Int)))
  let x10 : Bool := (decide (d.2.2.1.1 < (0 : Int)))
  let x11 : Bool := (!(x9 == x10))
  bif x11 then (
  let x12 : Int := (isub .i64 x6 (1 : Int))
  some ((), ((x12, ()), (((none : Option Int), ()), ()))))
  else (
  some ((), ((x6, ()), (((none : Option Int), ()), ())))))
  else (
  some ((), ((x6, ()), (((none : Option Int), ()), ()))))))))
  else (
  bif (d.2.2.1.1 == 0) then (
  none)
  else (
  let x13 : Int := (iquo .i64 d.2.1.1 d.2.2.1.1)
  bif (d.2.2.1.1 == 0) then (
  none)
  else (
  let x14 : Int := (Int.tmod d.2.1.1 d.2.2.1.1)
  let x15 : Bool := (x14 != (0 : Int))
  bif x15 then (
  let x16 : Bool := (decide (d.2.1.1 < (0 : Int)))
  let x17 : Bool := (decide (d.2.2.1.1 < (0 : Int)))
  let x18 : Bool := (!(x16 == x17))
  bif x18 then (
  let x19 : Int := (isub .i64 x13 (1 : Int))
  some ((), ((x19, ()), (((none : Option Int), ()), ()))))
  else (
  some ((), ((x13, ()), (((none : Option Int), ()), ())))))
  else (
  some ((), ((x13, ()), (((none : Option Int), ()), ()))))))))
def c_num_Div : List Nat := []
def L_num_Div (_ : Nat) : Pts po_num_Div.den := []
def E_num_Div : Env := E0
theorem q_num_Div_m (k : Nat) (d : Unit × ((Int × Unit) × ((Int × Unit) × Unit))) : evCode E_num_Div (tab (L_num_Div k)) c_num_Div (bodyOf Try.f86) 0 (finK E_num_Div po_num_Div [.tmp 4, .tmp 5]) (startSt pi_num_Div 36 d) = f_num_Div_m () d := by kernel_rfl
def g_num_Div (d : Unit × ((Int × Unit) × ((Int × Unit) × Unit))) : Option (Unit × ((Int × Unit) × (((Option Int) × Unit) × Unit))) := f_num_Div_m () d
theorem ok_num_Div : FnOk Try.prog ET0 86 pi_num_Div po_num_Div g_num_Div :=
  fn_of_body (E := E_num_Div) e0_ok (fn := Try.f86) Try.func86 (by kernel_rfl) (by kernel_rfl) [.tmp 4, .tmp 5] (by kernel_rfl) (by kernel_rfl) (by decide) c_num_Div L_num_Div
    (by intro x hx; cases hx) (by intro k x hx; cases hx) (fun d out h => ⟨0, (q_num_Div_m 0 d).trans h⟩)

/- horologe/num.Mod -/
@[reducible] def pi_num_Mod : PSh := ⟨[], [.mk false [.v (.int .i64)], .mk false [.v (.int .i64)]]⟩
@[reducible] def po_num_Mod : PSh := ⟨[], [.mk false [.v (.int .i64)], .mk false [.v .err]]⟩
def f_num_Mod_m (T : Unit) (d : Unit × ((Int × Unit) × ((Int × Unit) × Unit))) : Option (Unit × ((Int × Unit) × (((Option Int) × Unit) × Unit))) :=
  let x1 : Bool := (d.2.2.1.1 == (0 : Int))
  bif x1 then (
  let x2 : (Option Int) := (some (1 : Int))
  some ((), (((0 : Int), ()), ((x2, ()), ()))))
  else (
  let x3 : Bool := (d.2.2.1.1 == (-1 : Int))
  bif x3 then (
  some ((), (((0 : Int), ()), (((none : Option Int), ()), ()))))
  else (
  bif (d.2.2.1.1 == 0) then (
  none)
  else (
  let x4 : Int := (Int.tmod d.2.1.1 d.2.2.1.1)
  let x5 : Bool := (x4 != (0 : Int))
  bif x5 then (
  let x6 : Bool := (decide (x4 < (0 : Int)))
  let x7 : Bool := (decide (d.2.2.1.1 < (0 : Int)))
  let x8 : Bool := (!(x6 == x7))
  bif x8 then (
  let x9 : Int := (iadd .i64 x4 d.2.2.1.1)
  some ((), ((x9, ()), (((none : Option Int), ()), ()))))
  else (
  some ((), ((x4, ()), (((none : Option Int), ()), ())))))
  else (
  some ((), ((x4, ()), (((none : Option Int), ()), ())))))))
def c_num_Mod : List Nat := []
def L_num_Mod (_ : Nat) : Pts po_num_Mod.den := []
def E_num_Mod : Env := E0
theorem q_num_Mod_m (k : Nat) (d : Unit × ((Int × Unit) × ((Int × Unit) × Unit))) : evCode E_num_Mod (tab (L_num_Mod k)) c_num_Mod (bodyOf Try.f87) 0 (finK E_num_Mod po_num_Mod [.tmp 4, .tmp 5]) (startSt pi_num_Mod 29 d) = f_num_Mod_m () d := by kernel_rfl
def g_num_Mod (d : Unit × ((Int × Unit) × ((Int × Unit) × Unit))) : Option (Unit × ((Int × Unit) × (((Option Int) × Unit) × Unit))) := f_num_Mod_m () d
theorem ok_num_Mod : FnOk Try.prog ET0 87 pi_num_Mod po_num_Mod g_num_Mod :=
  fn_of_body (E := E_num_Mod) e0_ok (fn := Try.f87) Try.func87 (by kernel_rfl) (by kernel_rfl) [.tmp 4, .tmp 5] (by kernel_rfl) (by kernel_rfl) (by decide) c_num_Mod L_num_Mod
    (by intro x hx; cases hx) (by intro k x hx; cases hx) (fun d out h => ⟨0, (q_num_Mod_m 0 d).trans h⟩)

/- horologe/num.Split -/
@[reducible] def pi_num_Split : PSh := ⟨[], [.mk false [.v (.int .i64)], .mk false [.v (.int .i64)]]⟩
@[reducible] def po_num_Split : PSh := ⟨[], [.mk false [.v (.int .i64)], .mk false [.v (.int .i64)], .mk false [.v .err]]⟩
def f_num_Split_m (T : Unit) (d : Unit × ((Int × Unit) × ((Int × Unit) × Unit))) : Option (Unit × ((Int × Unit) × ((Int × Unit) × (((Option Int) × Unit) × Unit)))) :=
  let x1 : Bool := (decide (d.2.2.1.1 < (1 : Int)))
  bif x1 then (
  let x2 : (Option Int) := (some (1 : Int))
  some ((), (((0 : Int), ()), (((0 : Int), ()), ((x2, ()), ())))))
  else (
  (g_num_Div ((), ((d.2.1.1, ()), ((d.2.2.1.1, ()), ())))).bind fun x3 =>
  let x4 : Bool := (!x3.2.2.1.1.isNone)
  bif x4 then (
  some ((), (((0 : Int), ()), (((0 : Int), ()), ((x3.2.2.1.1, ()), ())))))
  else (
  (g_num_Mod ((), ((d.2.1.1, ()), ((d.2.2.1.1, ()), ())))).bind fun x5 =>
  let x6 : Bool := (!x5.2.2.1.1.isNone)
  bif x6 then (
  some ((), (((0 : Int), ()), (((0 : Int), ()), ((x5.2.2.1.1, ()), ())))))
  else (
  some ((), ((x3.2.1.1, ()), ((x5.2.1.1, ()), (((none : Option Int), ()), ())))))))
def c_num_Split : List Nat := []
def L_num_Split (_ : Nat) : Pts po_num_Split.den := []
def E_num_Split : Env := ((E0.add 86 (typedSem pi_num_Div po_num_Div g_num_Div)).add 87 (typedSem pi_num_Mod po_num_Mod g_num_Mod))
theorem q_num_Split_m (k : Nat) (d : Unit × ((Int × Unit) × ((Int × Unit) × Unit))) : evCode E_num_Split (tab (L_num_Split k)) c_num_Split (bodyOf Try.f61) 0 (finK E_num_Split po_num_Split [.tmp 4, .tmp 5, .tmp 6]) (startSt pi_num_Split 33 d) = f_num_Split_m () d := by kernel_rfl
def g_num_Split (d : Unit × ((Int × Unit) × ((Int × Unit) × Unit))) : Option (Unit × ((Int × Unit) × ((Int × Unit) × (((Option Int) × Unit) × Unit)))) := f_num_Split_m () d
theorem ok_num_Split : FnOk Try.prog ET0 61 pi_num_Split po_num_Split g_num_Split :=
  fn_of_body (E := E_num_Split) (envOk_add (envOk_add e0_ok (typed_ok ok_num_Div)) (typed_ok ok_num_Mod)) (fn := Try.f61) Try.func61 (by kernel_rfl) (by kernel_rfl) [.tmp 4, .tmp 5, .tmp 6] (by kernel_rfl) (by kernel_rfl) (by decide) c_num_Split L_num_Split
    (by intro x hx; cases hx) (by intro k x hx; cases hx) (fun d out h => ⟨0, (q_num_Split_m 0 d).trans h⟩)

/- horologe/day.right -/
@[reducible] def pi_day_right : PSh := ⟨[], [.mk false [.v (.int .i64)]]⟩
@[reducible] def po_day_right : PSh := ⟨[], [.mk false [.v .bool]]⟩
def f_day_right_m (T : Unit) (d : Unit × ((Int × Unit) × Unit)) : Option (Unit × ((Bool × Unit) × Unit)) :=
  let x1 : Bool := (decide (d.2.1.1 ≥ (-9999 : Int)))
  bif x1 then (
  let x2 : Bool := (decide (d.2.1.1 ≤ (9999 : Int)))
  some ((), ((x2, ()), ())))
  else (
  some ((), ((false, ()), ())))
def c_day_right : List Nat := []
def L_day_right (_ : Nat) : Pts po_day_right.den := []
def E_day_right : Env := E0
theorem q_day_right_m (k : Nat) (d : Unit × ((Int × Unit) × Unit)) : evCode E_day_right (tab (L_day_right k)) c_day_right (bodyOf Try.f101) 0 (finK E_day_right po_day_right [.tmp 2]) (startSt pi_day_right 9 d) = f_day_right_m () d := by kernel_rfl
def g_day_right (d : Unit × ((Int × Unit) × Unit)) : Option (Unit × ((Bool × Unit) × Unit)) := f_day_right_m () d
theorem ok_day_right : FnOk Try.prog ET0 101 pi_day_right po_day_right g_day_right :=
  fn_of_body (E := E_day_right) e0_ok (fn := Try.f101) Try.func101 (by kernel_rfl) (by kernel_rfl) [.tmp 2] (by kernel_rfl) (by kernel_rfl) (by decide) c_day_right L_day_right
    (by intro x hx; cases hx) (by intro k x hx; cases hx) (fun d out h => ⟨0, (q_day_right_m 0 d).trans h⟩)

/- horologe/day.Leap -/
@[reducible] def pi_day_Leap : PSh := ⟨[], [.mk false [.v (.int .i64)]]⟩
@[reducible] def po_day_Leap : PSh := ⟨[], [.mk false [.v .bool]]⟩
def f_day_Leap_m (T : Unit) (d : Unit × ((Int × Unit) × Unit)) : Option (Unit × ((Bool × Unit) × Unit)) :=
  let x1 : Int := (Int.tmod d.2.1.1 (4 : Int))
  let x2 : Bool := (x1 == (0 : Int))
  bif x2 then (
  let x3 : Int := (Int.tmod d.2.1.1 (100 : Int))
  let x4 : Bool := (x3 != (0 : Int))
  bif x4 then (
  some ((), ((true, ()), ())))
  else (
  let x5 : Int := (Int.tmod d.2.1.1 (400 : Int))
  let x6 : Bool := (x5 == (0 : Int))
  some ((), ((x6, ()), ()))))
  else (
  some ((), ((false, ()), ())))
def c_day_Leap : List Nat := []
def L_day_Leap (_ : Nat) : Pts po_day_Leap.den := []
def E_day_Leap : Env := E0
theorem q_day_Leap_m (k : Nat) (d : Unit × ((Int × Unit) × Unit)) : evCode E_day_Leap (tab (L_day_Leap k)) c_day_Leap (bodyOf Try.f102) 0 (finK E_day_Leap po_day_Leap [.tmp 2]) (startSt pi_day_Leap 16 d) = f_day_Leap_m () d := by kernel_rfl
def g_day_Leap (d : Unit × ((Int × Unit) × Unit)) : Option (Unit × ((Bool × Unit) × Unit)) := f_day_Leap_m () d
theorem ok_day_Leap : FnOk Try.prog ET0 102 pi_day_Leap po_day_Leap g_day_Leap :=
  fn_of_body (E := E_day_Leap) e0_ok (fn := Try.f102) Try.func102 (by kernel_rfl) (by kernel_rfl) [.tmp 2] (by kernel_rfl) (by kernel_rfl) (by decide) c_day_Leap L_day_Leap
    (by intro x hx; cases hx) (by intro k x hx; cases hx) (fun d out h => ⟨0, (q_day_Leap_m 0 d).trans h⟩)

/- horologe/day.Month -/
@[reducible] def pi_day_Month : PSh := ⟨[], [.mk false [.v (.int .i64)], .mk false [.v (.int .i64)]]⟩
@[reducible] def po_day_Month : PSh := ⟨[], [.mk false [.v (.int .i64)], .mk false [.v .err]]⟩
def f_day_Month_m (T : Unit) (d : Unit × ((Int × Unit) × ((Int × Unit) × Unit))) : Option (Unit × ((Int × Unit) × (((Option Int) × Unit) × Unit))) :=
  (g_day_right ((), ((d.2.1.1, ()), ()))).bind fun x1 =>
  let x2 : Bool := (!x1.2.1.1)
  bif x2 then (
  let x3 : (Option Int) := (some (13 : Int))
  some ((), (((0 : Int), ()), ((x3, ()), ()))))
  else (
  let x4 : Bool := (decide (d.2.2.1.1 < (1 : Int)))
  bif x4 then (
  let x5 : (Option Int) := (some (1 : Int))
  some ((), (((0 : Int), ()), ((x5, ()), ()))))
  else (
  let x6 : Bool := (decide (d.2.2.1.1 > (12 : Int)))
  bif x6 then (
  let x7 : (Option Int) := (some (1 : Int))
  some ((), (((0 : Int), ()), ((x7, ()), ()))))
  else (
  let x8 : Bool := (d.2.2.1.1 == (2 : Int))
  bif x8 then (
  (g_day_Leap ((), ((d.2.1.1, ()), ()))).bind fun x9 =>
  bif x9.2.1.1 then (
  some ((), (((29 : Int), ()), (((none : Option Int), ()), ()))))
  else (
  let x10 : Bool := (d.2.2.1.1 == (2 : Int))
  bif x10 then (
  some ((), (((28 : Int), ()), (((none : Option Int), ()), ()))))
  else (
  let x11 : Int := (iquo .i64 d.2.2.1.1 (8 : Int))
  let x12 : Int := (iadd .i64 d.2.2.1.1 x11)
  let x13 : Int := (Int.tmod x12 (2 : Int))
  let x14 : Int := (iadd .i64 (30 : Int) x13)
  some ((), ((x14, ()), (((none : Option Int), ()), ()))))))
  else (
  let x15 : Bool := (d.2.2.1.1 == (2 : Int))
  bif x15 then (
  some ((), (((28 : Int), ()), (((none : Option Int), ()), ()))))
  else (
  let x16 : Int := (iquo .i64 d.2.2.1.1 (8 : Int))
  let x17 : Int := (iadd .i64 d.2.2.1.1 x16)
  let x18 : Int := (Int.tmod x17 (2 : Int))
  let x19 : Int := (iadd .i64 (30 : Int) x18)
  some ((), ((x19, ()), (((none : Option Int), ()), ()))))))))
def c_day_Month : List Nat := []
def L_day_Month (_ : Nat) : Pts po_day_Month.den := []
def E_day_Month : Env := ((E0.add 101 (typedSem pi_day_right po_day_right g_day_right)).add 102 (typedSem pi_day_Leap po_day_Leap g_day_Leap))
theorem q_day_Month_m (k : Nat) (d : Unit × ((Int × Unit) × ((Int × Unit) × Unit))) : evCode E_day_Month (tab (L_day_Month k)) c_day_Month (bodyOf Try.f100) 0 (finK E_day_Month po_day_Month [.tmp 4, .tmp 5]) (startSt pi_day_Month 35 d) = f_day_Month_m () d := by kernel_rfl
def g_day_Month (d : Unit × ((Int × Unit) × ((Int × Unit) × Unit))) : Option (Unit × ((Int × Unit) × (((Option Int) × Unit) × Unit))) := f_day_Month_m () d
theorem ok_day_Month : FnOk Try.prog ET0 100 pi_day_Month po_day_Month g_day_Month :=
  fn_of_body (E := E_day_Month) (envOk_add (envOk_add e0_ok (typed_ok ok_day_right)) (typed_ok ok_day_Leap)) (fn := Try.f100) Try.func100 (by kernel_rfl) (by kernel_rfl) [.tmp 4, .tmp 5] (by kernel_rfl) (by kernel_rfl) (by decide) c_day_Month L_day_Month
    (by intro x hx; cases hx) (by intro k x hx; cases hx) (fun d out h => ⟨0, (q_day_Month_m 0 d).trans h⟩)

/- horologe/day.check -/
@[reducible] def pi_day_check : PSh := ⟨[], [.mk false [.v (.int .i64)], .mk false [.v (.int .i64)], .mk false [.v (.int .i64)]]⟩
@[reducible] def po_day_check : PSh := ⟨[], [.mk false [.v .err]]⟩
def f_day_check_m (T : Unit) (d : Unit × ((Int × Unit) × ((Int × Unit) × ((Int × Unit) × Unit)))) : Option (Unit × (((Option Int) × Unit) × Unit)) :=
  (g_day_Month ((), ((d.2.1.1, ()), ((d.2.2.1.1, ()), ())))).bind fun x1 =>
  let x2 : Bool := (!x1.2.2.1.1.isNone)
  bif x2 then (
  some ((), ((x1.2.2.1.1, ()), ())))
  else (
  let x3 : Bool := (decide (d.2.2.2.1.1 < (1 : Int)))
  bif x3 then (
  let x4 : (Option Int) := (some (1 : Int))
  some ((), ((x4, ()), ())))
  else (
  let x5 : Bool := (decide (d.2.2.2.1.1 > x1.2.1.1))
  bif x5 then (
  let x6 : (Option Int) := (some (1 : Int))
  some ((), ((x6, ()), ())))
  else (
  some ((), (((none : Option Int), ()), ())))))
def c_day_check : List Nat := []
def L_day_check (_ : Nat) : Pts po_day_check.den := []
def E_day_check : Env := (E0.add 100 (typedSem pi_day_Month po_day_Month g_day_Month))
theorem q_day_check_m (k : Nat) (d : Unit × ((Int × Unit) × ((Int × Unit) × ((Int × Unit) × Unit)))) : evCode E_day_check (tab (L_day_check k)) c_day_check (bodyOf Try.f96) 0 (finK E_day_check po_day_check [.tmp 6]) (startSt pi_day_check 28 d) = f_day_check_m () d := by kernel_rfl
def g_day_check (d : Unit × ((Int × Unit) × ((Int × Unit) × ((Int × Unit) × Unit)))) : Option (Unit × (((Option Int) × Unit) × Unit)) := f_day_check_m () d
theorem ok_day_check : FnOk Try.prog ET0 96 pi_day_check po_day_check g_day_check :=
  fn_of_body (E := E_day_check) (envOk_add e0_ok (typed_ok ok_day_Month)) (fn := Try.f96) Try.func96 (by kernel_rfl) (by kernel_rfl) [.tmp 6] (by kernel_rfl) (by kernel_rfl) (by decide) c_day_check L_day_check
    (by intro x hx; cases hx) (by intro k x hx; cases hx) (fun d out h => ⟨0, (q_day_check_m 0 d).trans h⟩)

/- horologe/day.floor -/
@[reducible] def pi_day_floor : PSh := ⟨[], [.mk false [.v (.int .i64)], .mk false [.v (.int .i64)]]⟩
@[reducible] def po_day_floor : PSh := ⟨[], [.mk false [.v (.int .i64)]]⟩
def f_day_floor_m (T : Unit) (d : Unit × ((Int × Unit) × ((Int × Unit) × Unit))) : Option (Unit × ((Int × Unit) × Unit)) :=
  bif (d.2.2.1.1 == 0) then (
  none)
  else (
  let x1 : Int := (iquo .i64 d.2.1.1 d.2.2.1.1)
  bif (d.2.2.1.1 == 0) then (
  none)
  else (
  let x2 : Int := (Int.tmod d.2.1.1 d.2.2.1.1)
  let x3 : Bool := (decide (x2 < (0 : Int)))
  bif x3 then (
  let x4 : Int := (isub .i64 x1 (1 : Int))
  some ((), ((x4, ()), ())))
  else (
  some ((), ((x1, ()), ())))))
def c_day_floor : List Nat := []
def L_day_floor (_ : Nat) : Pts po_day_floor.den := []
def E_day_floor : Env := E0
theorem q_day_floor_m (k : Nat) (d : Unit × ((Int × Unit) × ((Int × Unit) × Unit))) : evCode E_day_floor (tab (L_day_floor k)) c_day_floor (bodyOf Try.f88) 0 (finK E_day_floor po_day_floor [.tmp 4]) (startSt pi_day_floor 16 d) = f_day_floor_m () d := by kernel_rfl
def g_day_floor (d : Unit × ((Int × Unit) × ((Int × Unit) × Unit))) : Option (Unit × ((Int × Unit) × Unit)) := f_day_floor_m () d
theorem ok_day_floor : FnOk Try.prog ET0 88 pi_day_floor po_day_floor g_day_floor :=
  fn_of_body (E := E_day_floor) e0_ok (fn := Try.f88) Try.func88 (by kernel_rfl) (by kernel_rfl) [.tmp 4] (by kernel_rfl) (by kernel_rfl) (by decide) c_day_floor L_day_floor
    (by intro x hx; cases hx) (by intro k x hx; cases hx) (fun d out h => ⟨0, (q_day_floor_m 0 d).trans h⟩)

/- horologe/day.number -/
@[reducible] def pi_day_number : PSh := ⟨[], [.mk false [.v (.int .i64)], .mk false [.v (.int .i64)], .mk false [.v (.int .i64)]]⟩
@[reducible] def po_day_number : PSh := ⟨[], [.mk false [.v (.int .i64)]]⟩
def f_day_number_m (T : Unit) (d : Unit × ((Int × Unit) × ((Int × Unit) × ((Int × Unit) × Unit)))) : Option (Unit × ((Int × Unit) × Unit)) :=
  let x1 : Bool := (decide (d.2.2.1.1 ≤ (2 : Int)))
  bif x1 then (
  let x2 : Int := (isub .i64 d.2.1.1 (1 : Int))
  let x3 : Int := (iadd .i64 d.2.2.1.1 (12 : Int))
  (g_day_floor ((), ((x2, ()), (((400 : Int), ()), ())))).bind fun x4 =>
  let x5 : Int := (imul .i64 x4.2.1.1 (400 : Int))
  let x6 : Int := (isub .i64 x2 x5)
  let x7 : Int := (isub .i64 x3 (3 : Int))
  let x8 : Int := (imul .i64 (153 : Int) x7)
  let x9 : Int := (iadd .i64 x8 (2 : Int))
  let x10 : Int := (iquo .i64 x9 (5 : Int))
  let x11 : Int := (iadd .i64 x10 d.2.2.2.1.1)
  let x12 : Int := (isub .i64 x11 (1 : Int))
  let x13 : Int := (imul .i64 x4.2.1.1 (146097 : Int))
  let x14 : Int := (imul .i64 x6 (365 : Int))
  let x15 : Int := (iadd .i64 x13 x14)
  let x16 : Int := (iquo .i64 x6 (4 : Int))
  let x17 : Int := (iadd .i64 x15 x16)
  let x18 : Int := (iquo .i64 x6 (100 : Int))
  let x19 : Int := (isub .i64 x17 x18)
  let x20 : Int := (iadd .i64 x19 x12)
  let x21 : Int := (isub .i64 x20 (719468 : Int))
  some ((), ((x21, ()), ())))
  else (
  (g_day_floor ((), ((d.2.1.1, ()), (((400 : Int), ()), ())))).bind fun x22 =>
  let x23 : Int := (imul .i64 x22.2.1.1 (400 : Int))
  let x24 : Int := (isub .i64 d.2.1.1 x23)
  let x25 : Int := (isub .i64 d.2.2.1.1 (3 : Int))
  let x26 : Int := (imul .i64 (153 : Int) x25)
  let x27 : Int := (iadd .i64 x26 (2 : Int))
  let x28 : Int := (iquo .i64 x27 (5 : Int))
  let x29 : Int := (iadd .i64 x28 d.2.2.2.1.1)
  let x30 : Int := (isub .i64 x29 (1 : Int))
  let x31 : Int := (imul .i64 x22.2.1.1 (146097 : Int))
  let x32 : Int := (imul .i64 x24 (365 : Int))
  let x33 : Int := (iadd .i64 x31 x32)
  let x34 : Int := (iquo .i64 x24 (4 : Int))
  let x35 : Int := (iadd .i64 x33 x34)
  let x36 : Int := (iquo .i64 x24 (100 : Int))
  let x37 : Int := (isub .i64 x35 x36)
  let x38 : Int := (iadd .i64 x37 x30)
  let x39 : Int := (isub .i64 x38 (719468 : Int))
  some ((), ((x39, ()), ())))
def c_day_number : List Nat := []
def L_day_number (_ : Nat) : Pts po_day_number.den := []
def E_day_number : Env := (E0.add 88 (typedSem pi_day_floor po_day_floor g_day_floor))
theorem q_day_number_m (k : Nat) (d : Unit × ((Int × Unit) × ((Int × Unit) × ((Int × Unit) × Unit)))) : evCode E_day_number (tab (L_day_number k)) c_day_number (bodyOf Try.f97) 0 (finK E_day_number po_day_number [.tmp 6]) (startSt pi_day_number 44 d) = f_day_number_m () d := by kernel_rfl
def g_day_number (d : Unit × ((Int × Unit) × ((Int × Unit) × ((Int × Unit) × Unit)))) : Option (Unit × ((Int × Unit) × Unit)) := f_day_number_m () d
theorem ok_day_number : FnOk Try.prog ET0 97 pi_day_number po_day_number g_day_number :=
  fn_of_body (E := E_day_number) (envOk_add e0_ok (typed_ok ok_day_floor)) (fn := Try.f97) Try.func97 (by kernel_rfl) (by kernel_rfl) [.tmp 6] (by kernel_rfl) (by kernel_rfl) (by decide) c_day_number L_day_number
    (by intro x hx; cases hx) (by intro k x hx; cases hx) (fun d out h => ⟨0, (q_day_number_m 0 d).trans h⟩)

/- horologe/day.Of -/
@[reducible] def pi_day_Of : PSh := ⟨[], [.mk false [.v (.int .i64)], .mk false [.v (.int .i64)], .mk false [.v (.int .i64)]]⟩
@[reducible] def po_day_Of : PSh := ⟨[], [.mk false [.v (.int .i64)], .mk false [.v .err]]⟩
def f_day_Of_m (T : Unit) (d : Unit × ((Int × Unit) × ((Int × Unit) × ((Int × Unit) × Unit)))) : Option (Unit × ((Int × Unit) × (((Option Int) × Unit) × Unit))) :=
  (g_day_check ((), ((d.2.1.1, ()), ((d.2.2.1.1, ()), ((d.2.2.2.1.1, ()), ()))))).bind fun x1 =>
  let x2 : Bool := (!x1.2.1.1.isNone)
  bif x2 then (
  some ((), (((0 : Int), ()), ((x1.2.1.1, ()), ()))))
  else (
  (g_day_number ((), ((d.2.1.1, ()), ((d.2.2.1.1, ()), ((d.2.2.2.1.1, ()), ()))))).bind fun x3 =>
  some ((), ((x3.2.1.1, ()), (((none : Option Int), ()), ()))))
def c_day_Of : List Nat := []
def L_day_Of (_ : Nat) : Pts po_day_Of.den := []
def E_day_Of : Env := ((E0.add 96 (typedSem pi_day_check po_day_check g_day_check)).add 97 (typedSem pi_day_number po_day_number g_day_number))
theorem q_day_Of_m (k : Nat) (d : Unit × ((Int × Unit) × ((Int × Unit) × ((Int × Unit) × Unit)))) : evCode E_day_Of (tab (L_day_Of k)) c_day_Of (bodyOf Try.f79) 0 (finK E_day_Of po_day_Of [.tmp 6, .tmp 7]) (startSt pi_day_Of 20 d) = f_day_Of_m () d := by kernel_rfl
def g_day_Of (d : Unit × ((Int × Unit) × ((Int × Unit) × ((Int × Unit) × Unit)))) : Option (Unit × ((Int × Unit) × (((Option Int) × Unit) × Unit))) := f_day_Of_m () d
theorem ok_day_Of : FnOk Try.prog ET0 79 pi_day_Of po_day_Of g_day_Of :=
  fn_of_body (E := E_day_Of) (envOk_add (envOk_add e0_ok (typed_ok ok_day_check)) (typed_ok ok_day_number)) (fn := Try.f79) Try.func79 (by kernel_rfl) (by kernel_rfl) [.tmp 6, .tmp 7] (by kernel_rfl) (by kernel_rfl) (by decide) c_day_Of L_day_Of
    (by intro x hx; cases hx) (by intro k x hx; cases hx) (fun d out h => ⟨0, (q_day_Of_m 0 d).trans h⟩)

/- (horologe/label.Label).place -/
@[reducible] def pi_label_Label_place : PSh := ⟨[], [.mk true [.v (.int .i64), .v (.int .i64), .v (.int .i64), .v (.int .i64), .v (.int .i64), .v (.int .i64), .v (.int .i64), .v (.int .i64)]]⟩
@[reducible] def po_label_Label_place : PSh := ⟨[], [.mk false [.v (.int .i64)], .mk false [.v (.int .i64)], .mk false [.v .err]]⟩
def f_label_Label_place_m (T : Unit) (d : Unit × ((Int × (Int × (Int × (Int × (Int × (Int × (Int × (Int × Unit)))))))) × Unit)) : Option (Unit × ((Int × Unit) × ((Int × Unit) × (((Option Int) × Unit) × Unit)))) :=
  (g_day_Of ((), ((d.2.1.1, ()), ((d.2.1.2.1, ()), ((d.2.1.2.2.1, ()), ()))))).bind fun x1 =>
  let x2 : Bool := (!x1.2.2.1.1.isNone)
  bif x2 then (
  some ((), (((0 : Int), ()), (((0 : Int), ()), ((x1.2.2.1.1, ()), ())))))
  else (
  let x3 : Int := (imul .i64 d.2.1.2.2.2.1 (60 : Int))
  let x4 : Int := (iadd .i64 x3 d.2.1.2.2.2.2.1)
  let x5 : Int := (isub .i64 x4 d.2.1.2.2.2.2.2.2.2.1)
  (g_num_Split ((), ((x5, ()), (((1440 : Int), ()), ())))).bind fun x6 =>
  let x7 : Bool := (!x6.2.2.2.1.1.isNone)
  bif x7 then (
  some ((), (((0 : Int), ()), (((0 : Int), ()), ((x6.2.2.2.1.1, ()), ())))))
  else (
  let x8 : Int := (iadd .i64 x1.2.1.1 x6.2.1.1)
  some ((), ((x8, ()), ((x6.2.2.1.1, ()), (((none : Option Int), ()), ()))))))
def c_label_Label_place : List Nat := []
def L_label_Label_place (_ : Nat) : Pts po_label_Label_place.den := []
def E_label_Label_place : Env := ((E0.add 61 (typedSem pi_num_Split po_num_Split g_num_Split)).add 79 (typedSem pi_day_Of po_day_Of g_day_Of))
theorem q_label_Label_place_m (k : Nat) (d : Unit × ((Int × (Int × (Int × (Int × (Int × (Int × (Int × (Int × Unit)))))))) × Unit)) : evCode E_label_Label_place (tab (L_label_Label_place k)) c_label_Label_place (bodyOf Try.f50) 0 (finK E_label_Label_place po_label_Label_place [.tmp 2, .tmp 3, .tmp 4]) (startSt pi_label_Label_place 43 d) = f_label_Label_place_m () d := by kernel_rfl
def g_label_Label_place (d : Unit × ((Int × (Int × (Int × (Int × (Int × (Int × (Int × (Int × Unit)))))))) × Unit)) : Option (Unit × ((Int × Unit) × ((Int × Unit) × (((Option Int) × Unit) × Unit)))) := f_label_Label_place_m () d
theorem ok_label_Label_place : FnOk Try.prog ET0 50 pi_label_Label_place po_label_Label_place g_label_Label_place :=
  fn_of_body (E := E_label_Label_place) (envOk_add (envOk_add e0_ok (typed_ok ok_num_Split)) (typed_ok ok_day_Of)) (fn := Try.f50) Try.func50 (by kernel_rfl) (by kernel_rfl) [.tmp 2, .tmp 3, .tmp 4] (by kernel_rfl) (by kernel_rfl) (by decide) c_label_Label_place L_label_Label_place
    (by intro x hx; cases hx) (by intro k x hx; cases hx) (fun d out h => ⟨0, (q_label_Label_place_m 0 d).trans h⟩)

/- horologe/label.in -/
@[reducible] def pi_label_in : PSh := ⟨[], [.mk false [.v (.int .i64)], .mk false [.v (.int .i64)]]⟩
@[reducible] def po_label_in : PSh := ⟨[], [.mk false [.v .bool]]⟩
def f_label_in_m (T : Unit) (d : Unit × ((Int × Unit) × ((Int × Unit) × Unit))) : Option (Unit × ((Bool × Unit) × Unit)) :=
  let x1 : Bool := (decide (d.2.1.1 ≥ (0 : Int)))
  bif x1 then (
  let x2 : Bool := (decide (d.2.1.1 < d.2.2.1.1))
  some ((), ((x2, ()), ())))
  else (
  some ((), ((false, ()), ())))
def c_label_in : List Nat := []
def L_label_in (_ : Nat) : Pts po_label_in.den := []
def E_label_in : Env := E0
theorem q_label_in_m (k : Nat) (d : Unit × ((Int × Unit) × ((Int × Unit) × Unit))) : evCode E_label_in (tab (L_label_in k)) c_label_in (bodyOf Try.f58) 0 (finK E_label_in po_label_in [.tmp 4]) (startSt pi_label_in 12 d) = f_label_in_m () d := by kernel_rfl
def g_label_in (d : Unit × ((Int × Unit) × ((Int × Unit) × Unit))) : Option (Unit × ((Bool × Unit) × Unit)) := f_label_in_m () d
theorem ok_label_in : FnOk Try.prog ET0 58 pi_label_in po_label_in g_label_in :=
  fn_of_body (E := E_label_in) e0_ok (fn := Try.f58) Try.func58 (by kernel_rfl) (by kernel_rfl) [.tmp 4] (by kernel_rfl) (by kernel_rfl) (by decide) c_label_in L_label_in
    (by intro x hx; cases hx) (by intro k x hx; cases hx) (fun d out h => ⟨0, (q_label_in_m 0 d).trans h⟩)

/- horologe/label.shifts -/
@[reducible] def pi_label_shifts : PSh := ⟨[], [.mk false [.v (.int .i64)]]⟩
@[reducible] def po_label_shifts : PSh := ⟨[], [.mk false [.v .bool]]⟩
def f_label_shifts_m (T : Unit) (d : Unit × ((Int × Unit) × Unit)) : Option (Unit × ((Bool × Unit) × Unit)) :=
  let x1 : Bool := (decide (d.2.1.1 > (-1440 : Int)))
  bif x1 then (
  let x2 : Bool := (decide (d.2.1.1 < (1440 : Int)))
  some ((), ((x2, ()), ())))
  else (
  some ((), ((false, ()), ())))
def c_label_shifts : List Nat := []
def L_label_shifts (_ : Nat) : Pts po_label_shifts.den := []
def E_label_shifts : Env := E0
theorem q_label_shifts_m (k : Nat) (d : Unit × ((Int × Unit) × Unit)) : evCode E_label_shifts (tab (L_label_shifts k)) c_label_shifts (bodyOf Try.f59) 0 (finK E_label_shifts po_label_shifts [.tmp 2]) (startSt pi_label_shifts 9 d) = f_label_shifts_m () d := by kernel_rfl
def g_label_shifts (d : Unit × ((Int × Unit) × Unit)) : Option (Unit × ((Bool × Unit) × Unit)) := f_label_shifts_m () d
theorem ok_label_shifts : FnOk Try.prog ET0 59 pi_label_shifts po_label_shifts g_label_shifts :=
  fn_of_body (E := E_label_shifts) e0_ok (fn := Try.f59) Try.func59 (by kernel_rfl) (by kernel_rfl) [.tmp 2] (by kernel_rfl) (by kernel_rfl) (by decide) c_label_shifts L_label_shifts
    (by intro x hx; cases hx) (by intro k x hx; cases hx) (fun d out h => ⟨0, (q_label_shifts_m 0 d).trans h⟩)

/- (horologe/label.Label).fields -/
@[reducible] def pi_label_Label_fields : PSh := ⟨[], [.mk true [.v (.int .i64), .v (.int .i64), .v (.int .i64), .v (.int .i64), .v (.int .i64), .v (.int .i64), .v (.int .i64), .v (.int .i64)]]⟩
@[reducible] def po_label_Label_fields : PSh := ⟨[], [.mk false [.v .err]]⟩
def f_label_Label_fields_m (T : Unit) (d : Unit × ((Int × (Int × (Int × (Int × (Int × (Int × (Int × (Int × Unit)))))))) × Unit)) : Option (Unit × (((Option Int) × Unit) × Unit)) :=
  (g_day_Of ((), ((d.2.1.1, ()), ((d.2.1.2.1, ()), ((d.2.1.2.2.1, ()), ()))))).bind fun x1 =>
  let x2 : Bool := (!x1.2.2.1.1.isNone)
  bif x2 then (
  some ((), ((x1.2.2.1.1, ()), ())))
  else (
  (g_label_in ((), ((d.2.1.2.2.2.1, ()), (((24 : Int), ()), ())))).bind fun x3 =>
  let x4 : Bool := (!x3.2.1.1)
  bif x4 then (
  let x5 : (Option Int) := (some (1 : Int))
  some ((), ((x5, ()), ())))
  else (
  (g_label_in ((), ((d.2.1.2.2.2.2.1, ()), (((60 : Int), ()), ())))).bind fun x6 =>
  let x7 : Bool := (!x6.2.1.1)
  bif x7 then (
  let x8 : (Option Int) := (some (1 : Int))
  some ((), ((x8, ()), ())))
  else (
  (g_label_in ((), ((d.2.1.2.2.2.2.2.1, ()), (((61 : Int), ()), ())))).bind fun x9 =>
  let x10 : Bool := (!x9.2.1.1)
  bif x10 then (
  let x11 : (Option Int) := (some (1 : Int))
  some ((), ((x11, ()), ())))
  else (
  (g_label_in ((), ((d.2.1.2.2.2.2.2.2.1, ()), (((1000000000 : Int), ()), ())))).bind fun x12 =>
  let x13 : Bool := (!x12.2.1.1)
  bif x13 then (
  let x14 : (Option Int) := (some (1 : Int))
  some ((), ((x14, ()), ())))
  else (
  (g_label_shifts ((), ((d.2.1.2.2.2.2.2.2.2.1, ()), ()))).bind fun x15 =>
  let x16 : Bool := (!x15.2.1.1)
  bif x16 then (
  let x17 : (Option Int) := (some (1 : Int))
  some ((), ((x17, ()), ())))
  else (
  some ((), (((none : Option Int), ()), ()))))))))
def c_label_Label_fields : List Nat := []
def L_label_Label_fields (_ : Nat) : Pts po_label_Label_fields.den := []
def E_label_Label_fields : Env := (((E0.add 58 (typedSem pi_label_in po_label_in g_label_in)).add 59 (typedSem pi_label_shifts po_label_shifts g_label_shifts)).add 79 (typedSem pi_day_Of po_day_Of g_day_Of))
theorem q_label_Label_fields_m (k : Nat) (d : Unit × ((Int × (Int × (Int × (Int × (Int × (Int × (Int × (Int × Unit)))))))) × Unit)) : evCode E_label_Label_fields (tab (L_label_Label_fields k)) c_label_Label_fields (bodyOf Try.f53) 0 (finK E_label_Label_fields po_label_Label_fields [.tmp 2]) (startSt pi_label_Label_fields 47 d) = f_label_Label_fields_m () d := by kernel_rfl
def g_label_Label_fields (d : Unit × ((Int × (Int × (Int × (Int × (Int × (Int × (Int × (Int × Unit)))))))) × Unit)) : Option (Unit × (((Option Int) × Unit) × Unit)) := f_label_Label_fields_m () d
theorem ok_label_Label_fields : FnOk Try.prog ET0 53 pi_label_Label_fields po_label_Label_fields g_label_Label_fields :=
  fn_of_body (E := E_label_Label_fields) (envOk_add (envOk_add (envOk_add e0_ok (typed_ok ok_label_in)) (typed_ok ok_label_shifts)) (typed_ok ok_day_Of)) (fn := Try.f53) Try.func53 (by kernel_rfl) (by kernel_rfl) [.tmp 2] (by kernel_rfl) (by kernel_rfl) (by decide) c_label_Label_fields L_label_Label_fields
    (by intro x hx; cases hx) (by intro k x hx; cases hx) (fun d out h => ⟨0, (q_label_Label_fields_m 0 d).trans h⟩)

/- horologe/day.First -/
@[reducible] def pi_day_First : PSh := ⟨[], []⟩
@[reducible] def po_day_First : PSh := ⟨[], [.mk false [.v (.int .i64)]]⟩
def f_day_First_m (T : Unit) (d : Unit × Unit) : Option (Unit × ((Int × Unit) × Unit)) :=
  (g_day_number ((), (((-9999 : Int), ()), (((1 : Int), ()), (((1 : Int), ()), ()))))).bind fun x1 =>
  some ((), ((x1.2.1.1, ()), ()))
def c_day_First : List Nat := []
def L_day_First (_ : Nat) : Pts po_day_First.den := []
def E_day_First : Env := (E0.add 97 (typedSem pi_day_number po_day_number g_day_number))
theorem q_day_First_m (k : Nat) (d : Unit × Unit) : evCode E_day_First (tab (L_day_First k)) c_day_First (bodyOf Try.f82) 0 (finK E_day_First po_day_First [.tmp 0]) (startSt pi_day_First 2 d) = f_day_First_m () d := by kernel_rfl
def g_day_First (d : Unit × Unit) : Option (Unit × ((Int × Unit) × Unit)) := f_day_First_m () d
theorem ok_day_First : FnOk Try.prog ET0 82 pi_day_First po_day_First g_day_First :=
  fn_of_body (E := E_day_First) (envOk_add e0_ok (typed_ok ok_day_number)) (fn := Try.f82) Try.func82 (by kernel_rfl) (by kernel_rfl) [.tmp 0] (by kernel_rfl) (by kernel_rfl) (by decide) c_day_First L_day_First
    (by intro x hx; cases hx) (by intro k x hx; cases hx) (fun d out h => ⟨0, (q_day_First_m 0 d).trans h⟩)

/- horologe/day.Last -/
@[reducible] def pi_day_Last : PSh := ⟨[], []⟩
@[reducible] def po_day_Last : PSh := ⟨[], [.mk false [.v (.int .i64)]]⟩
def f_day_Last_m (T : Unit) (d : Unit × Unit) : Option (Unit × ((Int × Unit) × Unit)) :=
  (g_day_number ((), (((9999 : Int), ()), (((12 : Int), ()), (((31 : Int), ()), ()))))).bind fun x1 =>
  some ((), ((x1.2.1.1, ()), ()))
def c_day_Last : List Nat := []
def L_day_Last (_ : Nat) : Pts po_day_Last.den := []
def E_day_Last : Env := (E0.add 97 (typedSem pi_day_number po_day_number g_day_number))
theorem q_day_Last_m (k : Nat) (d : Unit × Unit) : evCode E_day_Last (tab (L_day_Last k)) c_day_Last (bodyOf Try.f83) 0 (finK E_day_Last po_day_Last [.tmp 0]) (startSt pi_day_Last 2 d) = f_day_Last_m () d := by kernel_rfl
def g_day_Last (d : Unit × Unit) : Option (Unit × ((Int × Unit) × Unit)) := f_day_Last_m () d
theorem ok_day_Last : FnOk Try.prog ET0 83 pi_day_Last po_day_Last g_day_Last :=
  fn_of_body (E := E_day_Last) (envOk_add e0_ok (typed_ok ok_day_number)) (fn := Try.f83) Try.func83 (by kernel_rfl) (by kernel_rfl) [.tmp 0] (by kernel_rfl) (by kernel_rfl) (by decide) c_day_Last L_day_Last
    (by intro x hx; cases hx) (by intro k x hx; cases hx) (fun d out h => ⟨0, (q_day_Last_m 0 d).trans h⟩)

/- horologe/label.there -/
@[reducible] def pi_label_there : PSh := ⟨[], [.mk false [.v (.int .i64)]]⟩
@[reducible] def po_label_there : PSh := ⟨[], [.mk false [.v .bool]]⟩
def f_label_there_m (T : Unit) (d : Unit × ((Int × Unit) × Unit)) : Option (Unit × ((Bool × Unit) × Unit)) :=
  (g_day_First ((), ())).bind fun x1 =>
  let x2 : Bool := (decide (d.2.1.1 ≥ x1.2.1.1))
  bif x2 then (
  (g_day_Last ((), ())).bind fun x3 =>
  let x4 : Bool := (decide (d.2.1.1 ≤ x3.2.1.1))
  some ((), ((x4, ()), ())))
  else (
  some ((), ((false, ()), ())))
def c_label_there : List Nat := []
def L_label_there (_ : Nat) : Pts po_label_there.den := []
def E_label_there : Env := ((E0.add 82 (typedSem pi_day_First po_day_First g_day_First)).add 83 (typedSem pi_day_Last po_day_Last g_day_Last))
theorem q_label_there_m (k : Nat) (d : Unit × ((Int × Unit) × Unit)) : evCode E_label_there (tab (L_label_there k)) c_label_there (bodyOf Try.f54) 0 (finK E_label_there po_label_there [.tmp 2]) (startSt pi_label_there 11 d) = f_label_there_m () d := by kernel_rfl
def g_label_there (d : Unit × ((Int × Unit) × Unit)) : Option (Unit × ((Bool × Unit) × Unit)) := f_label_there_m () d
theorem ok_label_there : FnOk Try.prog ET0 54 pi_label_there po_label_there g_label_there :=
  fn_of_body (E := E_label_there) (envOk_add (envOk_add e0_ok (typed_ok ok_day_First)) (typed_ok ok_day_Last)) (fn := Try.f54) Try.func54 (by kernel_rfl) (by kernel_rfl) [.tmp 2] (by kernel_rfl) (by kernel_rfl) (by decide) c_label_there L_label_there
    (by intro x hx; cases hx) (by intro k x hx; cases hx) (fun d out h => ⟨0, (q_label_there_m 0 d).trans h⟩)

/- horologe/label.Check -/
@[reducible] def pi_label_Check : PSh := ⟨[], [.mk true [.v (.int .i64), .v (.int .i64), .v (.int .i64), .v (.int .i64), .v (.int .i64), .v (.int .i64), .v (.int .i64), .v (.int .i64)]]⟩
@[reducible] def po_label_Check : PSh := ⟨[], [.mk false [.v .err]]⟩
def f_label_Check_m (T : Unit) (d : Unit × ((Int × (Int × (Int × (Int × (Int × (Int × (Int × (Int × Unit)))))))) × Unit)) : Option (Unit × (((Option Int) × Unit) × Unit)) :=
  (g_label_Label_fields ((), ((d.2.1.1, (d.2.1.2.1, (d.2.1.2.2.1, (d.2.1.2.2.2.1, (d.2.1.2.2.2.2.1, (d.2.1.2.2.2.2.2.1, (d.2.1.2.2.2.2.2.2.1, (d.2.1.2.2.2.2.2.2.2.1, ())))))))), ()))).bind fun x1 =>
  let x2 : Bool := (!x1.2.1.1.isNone)
  bif x2 then (
  some ((), ((x1.2.1.1, ()), ())))
  else (
  (g_label_Label_place ((), ((d.2.1.1, (d.2.1.2.1, (d.2.1.2.2.1, (d.2.1.2.2.2.1, (d.2.1.2.2.2.2.1, (d.2.1.2.2.2.2.2.1, (d.2.1.2.2.2.2.2.2.1, (d.2.1.2.2.2.2.2.2.2.1, ())))))))), ()))).bind fun x3 =>
  let x4 : Bool := (!x3.2.2.2.1.1.isNone)
  bif x4 then (
  some ((), ((x3.2.2.2.1.1, ()), ())))
  else (
  (g_label_there ((), ((x3.2.1.1, ()), ()))).bind fun x5 =>
  let x6 : Bool := (!x5.2.1.1)
  bif x6 then (
  let x7 : (Option Int) := (some (13 : Int))
  some ((), ((x7, ()), ())))
  else (
  let x8 : Bool := (d.2.1.2.2.2.2.2.1 == (60 : Int))
  bif x8 then (
  let x9 : Bool := (x3.2.2.1.1 != (1439 : Int))
  bif x9 then (
  let x10 : (Option Int) := (some (12 : Int))
  some ((), ((x10, ()), ())))
  else (
  some ((), (((none : Option Int), ()), ()))))
  else (
  some ((), (((none : Option Int), ()), ()))))))
def c_label_Check : List Nat := []
def L_label_Check (_ : Nat) : Pts po_label_Check.den := []
def E_label_Check : Env := (((E0.add 50 (typedSem pi_label_Label_place po_label_Label_place g_label_Label_place)).add 53 (typedSem pi_label_Label_fields po_label_Label_fields g_label_Label_fields)).add 54 (typedSem pi_label_there po_label_there g_label_there))
theorem q_label_Check_m (k : Nat) (d : Unit × ((Int × (Int × (Int × (Int × (Int × (Int × (Int × (Int × Unit)))))))) × Unit)) : evCode E_label_Check (tab (L_label_Check k)) c_label_Check (bodyOf Try.f17) 0 (finK E_label_Check po_label_Check [.tmp 2]) (startSt pi_label_Check 36 d) = f_label_Check_m () d := by kernel_rfl
def g_label_Check (d : Unit × ((Int × (Int × (Int × (Int × (Int × (Int × (Int × (Int × Unit)))))))) × Unit)) : Option (Unit × (((Option Int) × Unit) × Unit)) := f_label_Check_m () d
theorem ok_label_Check : FnOk Try.prog ET0 17 pi_label_Check po_label_Check g_label_Check :=
  fn_of_body (E := E_label_Check) (envOk_add (envOk_add (envOk_add e0_ok (typed_ok ok_label_Label_place)) (typed_ok ok_label_Label_fields)) (typed_ok ok_label_there)) (fn := Try.f17) Try.func17 (by kernel_rfl) (by kernel_rfl) [.tmp 2] (by kernel_rfl) (by kernel_rfl) (by decide) c_label_Check L_label_Check
    (by intro x hx; cases hx) (by intro k x hx; cases hx) (fun d out h => ⟨0, (q_label_Check_m 0 d).trans h⟩)

/- horologe/label.Split -/
@[reducible] def pi_label_Split : PSh := ⟨[], [.mk true [.v (.int .i64), .v (.int .i64), .v (.int .i64), .v (.int .i64), .v (.int .i64), .v (.int .i64), .v (.int .i64), .v (.int .i64)]]⟩
@[reducible] def po_label_Split : PSh := ⟨[], [.mk false [.v (.int .i64)], .mk false [.v (.int .i64)], .mk false [.v .err]]⟩
def f_label_Split_m (T : Unit) (d : Unit × ((Int × (Int × (Int × (Int × (Int × (Int × (Int × (Int × Unit)))))))) × Unit)) : Option (Unit × ((Int × Unit) × ((Int × Unit) × (((Option Int) × Unit) × Unit)))) :=
  (g_label_Check ((), ((d.2.1.1, (d.2.1.2.1, (d.2.1.2.2.1, (d.2.1.2.2.2.1, (d.2.1.2.2.2.2.1, (d.2.1.2.2.2.2.2.1, (d.2.1.2.2.2.2.2.2.1, (d.2.1.2.2.2.2.2.2.2.1, ())))))))), ()))).bind fun x1 =>
  let x2 : Bool := (!x1.2.1.1.isNone)
  bif x2 then (
  some ((), (((0 : Int), ()), (((0 : Int), ()), ((x1.2.1.1, ()), ())))))
  else (
  (g_label_Label_place ((), ((d.2.1.1, (d.2.1.2.1, (d.2.1.2.2.1, (d.2.1.2.2.2.1, (d.2.1.2.2.2.2.1, (d.2.1.2.2.2.2.2.1, (d.2.1.2.2.2.2.2.2.1, (d.2.1.2.2.2.2.2.2.2.1, ())))))))), ()))).bind fun x3 =>
  let x4 : Bool := (!x3.2.2.2.1.1.isNone)
  bif x4 then (
  some ((), (((0 : Int), ()), (((0 : Int), ()), ((x3.2.2.2.1.1, ()), ())))))
  else (
  let x5 : Int := (imul .i64 x3.2.2.1.1 (60 : Int))
  let x6 : Int := (iadd .i64 x5 d.2.1.2.2.2.2.2.1)
  some ((), ((x3.2.1.1, ()), ((x6, ()), (((none : Option Int), ()), ()))))))
def c_label_Split : List Nat := []
def L_label_Split (_ : Nat) : Pts po_label_Split.den := []
def E_label_Split : Env := ((E0.add 17 (typedSem pi_label_Check po_label_Check g_label_Check)).add 50 (typedSem pi_label_Label_place po_label_Label_place g_label_Label_place))
theorem q_label_Split_m (k : Nat) (d : Unit × ((Int × (Int × (Int × (Int × (Int × (Int × (Int × (Int × Unit)))))))) × Unit)) : evCode E_label_Split (tab (L_label_Split k)) c_label_Split (bodyOf Try.f13) 0 (finK E_label_Split po_label_Split [.tmp 2, .tmp 3, .tmp 4]) (startSt pi_label_Split 27 d) = f_label_Split_m () d := by kernel_rfl
def g_label_Split (d : Unit × ((Int × (Int × (Int × (Int × (Int × (Int × (Int × (Int × Unit)))))))) × Unit)) : Option (Unit × ((Int × Unit) × ((Int × Unit) × (((Option Int) × Unit) × Unit)))) := f_label_Split_m () d
theorem ok_label_Split : FnOk Try.prog ET0 13 pi_label_Split po_label_Split g_label_Split :=
  fn_of_body (E := E_label_Split) (envOk_add (envOk_add e0_ok (typed_ok ok_label_Check)) (typed_ok ok_label_Label_place)) (fn := Try.f13) Try.func13 (by kernel_rfl) (by kernel_rfl) [.tmp 2, .tmp 3, .tmp 4] (by kernel_rfl) (by kernel_rfl) (by decide) c_label_Split L_label_Split
    (by intro x hx; cases hx) (by intro k x hx; cases hx) (fun d out h => ⟨0, (q_label_Split_m 0 d).trans h⟩)

/- horologe/horologelaw08.alive -/
@[reducible] def pi_law08_alive : PSh := ⟨[], []⟩
@[reducible] def po_law08_alive : PSh := ⟨[], [.mk false [.v .bool]]⟩
def f_law08_alive_m (T : Unit) (d : Unit × Unit) : Option (Unit × ((Bool × Unit) × Unit)) :=
  (g_label_Split ((), (((2016 : Int), ((12 : Int), ((31 : Int), ((15 : Int), ((59 : Int), ((60 : Int), ((0 : Int), ((-480 : Int), ())))))))), ()))).bind fun x1 =>
  bif x1.2.2.2.1.1.isNone then (
  let x2 : Bool := (x1.2.1.1 == (17166 : Int))
  bif x2 then (
  let x3 : Bool := (x1.2.2.1.1 == (86400 : Int))
  some ((), ((x3, ()), ())))
  else (
  some ((), ((false, ()), ()))))
  else (
  some ((), ((false, ()), ())))
def c_law08_alive : List Nat := []
def L_law08_alive (_ : Nat) : Pts po_law08_alive.den := []
def E_law08_alive : Env := (E0.add 13 (typedSem pi_label_Split po_label_Split g_label_Split))
theorem q_law08_alive_m (k : Nat) (d : Unit × Unit) : evCode E_law08_alive (tab (L_law08_alive k)) c_law08_alive (bodyOf Try.f12) 0 (finK E_law08_alive po_law08_alive [.tmp 0]) (startSt pi_law08_alive 20 d) = f_law08_alive_m () d := by kernel_rfl
def g_law08_alive (d : Unit × Unit) : Option (Unit × ((Bool × Unit) × Unit)) := f_law08_alive_m () d
theorem ok_law08_alive : FnOk Try.prog ET0 12 pi_law08_alive po_law08_alive g_law08_alive :=
  fn_of_body (E := E_law08_alive) (envOk_add e0_ok (typed_ok ok_label_Split)) (fn := Try.f12) Try.func12 (by kernel_rfl) (by kernel_rfl) [.tmp 0] (by kernel_rfl) (by kernel_rfl) (by decide) c_law08_alive L_law08_alive
    (by intro x hx; cases hx) (by intro k x hx; cases hx) (fun d out h => ⟨0, (q_law08_alive_m 0 d).trans h⟩)

/- horologe/horologeref05.Leap -/
@[reducible] def pi_ref05_Leap : PSh := ⟨[], [.mk false [.v (.int .i64)]]⟩
@[reducible] def po_ref05_Leap : PSh := ⟨[], [.mk false [.v .bool]]⟩
def f_ref05_Leap_m (T : Unit) (d : Unit × ((Int × Unit) × Unit)) : Option (Unit × ((Bool × Unit) × Unit)) :=
  let x1 : Int := (Int.tmod d.2.1.1 (400 : Int))
  let x2 : Bool := (x1 == (0 : Int))
  bif x2 then (
  some ((), ((true, ()), ())))
  else (
  let x3 : Int := (Int.tmod d.2.1.1 (4 : Int))
  let x4 : Bool := (x3 == (0 : Int))
  bif x4 then (
  let x5 : Int := (Int.tmod d.2.1.1 (100 : Int))
  let x6 : Bool := (x5 != (0 : Int))
  some ((), ((x6, ()), ())))
  else (
  some ((), ((false, ()), ()))))
def c_ref05_Leap : List Nat := []
def L_ref05_Leap (_ : Nat) : Pts po_ref05_Leap.den := []
def E_ref05_Leap : Env := E0
theorem q_ref05_Leap_m (k : Nat) (d : Unit × ((Int × Unit) × Unit)) : evCode E_ref05_Leap (tab (L_ref05_Leap k)) c_ref05_Leap (bodyOf Try.f99) 0 (finK E_ref05_Leap po_ref05_Leap [.tmp 2]) (startSt pi_ref05_Leap 14 d) = f_ref05_Leap_m () d := by kernel_rfl
def g_ref05_Leap (d : Unit × ((Int × Unit) × Unit)) : Option (Unit × ((Bool × Unit) × Unit)) := f_ref05_Leap_m () d
theorem ok_ref05_Leap : FnOk Try.prog ET0 99 pi_ref05_Leap po_ref05_Leap g_ref05_Leap :=
  fn_of_body (E := E_ref05_Leap) e0_ok (fn := Try.f99) Try.func99 (by kernel_rfl) (by kernel_rfl) [.tmp 2] (by kernel_rfl) (by kernel_rfl) (by decide) c_ref05_Leap L_ref05_Leap
    (by intro x hx; cases hx) (by intro k x hx; cases hx) (fun d out h => ⟨0, (q_ref05_Leap_m 0 d).trans h⟩)

/- horologe/horologeref05.Days -/
@[reducible] def pi_ref05_Days : PSh := ⟨[], [.mk false [.v (.int .i64)]]⟩
@[reducible] def po_ref05_Days : PSh := ⟨[], [.mk false [.v (.int .i64)]]⟩
def f_ref05_Days_m (T : Unit) (d : Unit × ((Int × Unit) × Unit)) : Option (Unit × ((Int × Unit) × Unit)) :=
  (g_ref05_Leap ((), ((d.2.1.1, ()), ()))).bind fun x1 =>
  bif x1.2.1.1 then (
  some ((), (((366 : Int), ()), ())))
  else (
  some ((), (((365 : Int), ()), ())))
def c_ref05_Days : List Nat := []
def L_ref05_Days (_ : Nat) : Pts po_ref05_Days.den := []
def E_ref05_Days : Env := (E0.add 99 (typedSem pi_ref05_Leap po_ref05_Leap g_ref05_Leap))
theorem q_ref05_Days_m (k : Nat) (d : Unit × ((Int × Unit) × Unit)) : evCode E_ref05_Days (tab (L_ref05_Days k)) c_ref05_Days (bodyOf Try.f90) 0 (finK E_ref05_Days po_ref05_Days [.tmp 2]) (startSt pi_ref05_Days 5 d) = f_ref05_Days_m () d := by kernel_rfl
def g_ref05_Days (d : Unit × ((Int × Unit) × Unit)) : Option (Unit × ((Int × Unit) × Unit)) := f_ref05_Days_m () d
theorem ok_ref05_Days : FnOk Try.prog ET0 90 pi_ref05_Days po_ref05_Days g_ref05_Days :=
  fn_of_body (E := E_ref05_Days) (envOk_add e0_ok (typed_ok ok_ref05_Leap)) (fn := Try.f90) Try.func90 (by kernel_rfl) (by kernel_rfl) [.tmp 2] (by kernel_rfl) (by kernel_rfl) (by decide) c_ref05_Days L_ref05_Days
    (by intro x hx; cases hx) (by intro k x hx; cases hx) (fun d out h => ⟨0, (q_ref05_Days_m 0 d).trans h⟩)

/- horologe/horologeref05.Start -/
@[reducible] def pi_ref05_Start : PSh := ⟨[], [.mk false [.v (.int .i64)]]⟩
@[reducible] def po_ref05_Start : PSh := ⟨[], [.mk false [.v (.int .i64)]]⟩
@[reducible] def sh_ref05_Start_3 : PSh := ⟨[], [.mk false [.v (.int .i64)], .any, .any, .mk false [.v (.int .i64)], .any, .any, .any, .any, .any, .any, .any, .any, .any, .any, .any, .any, .any, .any, .any, .any, .any, .any, .any, .any, .any, .any, .any]⟩
@[reducible] def sh_ref05_Start_8 : PSh := ⟨[], [.mk false [.v (.int .i64)], .any, .any, .mk false [.v (.int .i64)], .any, .any, .any, .any, .any, .any, .any, .any, .any, .any, .any, .any, .any, .any, .any, .any, .any, .any, .any, .any, .any, .any, .any]⟩
@[reducible] def sh_ref05_Start_14 : PSh := ⟨[], [.mk false [.v (.int .i64)], .any, .any, .mk false [.v (.int .i64)], .mk false [.v (.int .i64)], .any, .any, .any, .any, .any, .any, .any, .any, .any, .any, .any, .any, .any, .any, .any, .any, .any, .any, .any, .any, .any, .any]⟩
def f_ref05_Start_p3 (T : (((Unit × ((Int × Unit) × ((Int × Unit) × Unit))) → Option (Unit × ((Int × Unit) × Unit))) × (((Unit × ((Int × Unit) × ((Int × Unit) × Unit))) → Option (Unit × ((Int × Unit) × Unit))) × (((Unit × ((Int × Unit) × ((Int × Unit) × ((Int × Unit) × Unit)))) → Option (Unit × ((Int × Unit) × Unit))) × Unit)))) (d : Unit × ((Int × Unit) × ((Int × Unit) × Unit))) : Option (Unit × ((Int × Unit) × Unit)) :=
  let x1 : Bool := (decide (d.2.1.1 < (1970 : Int)))
  bif x1 then (
  let x2 : Int := (iadd .i64 d.2.1.1 (400 : Int))
  let x3 : Int := (isub .i64 d.2.2.1.1 (146097 : Int))
  (T.1 ((), ((x2, ()), ((x3, ()), ())))))
  else (
  (T.2.1 ((), ((d.2.1.1, ()), ((d.2.2.1.1, ()), ())))))
def f_ref05_Start_p8 (T : (((Unit × ((Int × Unit) × ((Int × Unit) × Unit))) → Option (Unit × ((Int × Unit) × Unit))) × (((Unit × ((Int × Unit) × ((Int × Unit) × Unit))) → Option (Unit × ((Int × Unit) × Unit))) × (((Unit × ((Int × Unit) × ((Int × Unit) × ((Int × Unit) × Unit)))) → Option (Unit × ((Int × Unit) × Unit))) × Unit)))) (d : Unit × ((Int × Unit) × ((Int × Unit) × Unit))) : Option (Unit × ((Int × Unit) × Unit)) :=
  let x4 : Bool := (decide (d.2.1.1 ≥ (2370 : Int)))
  bif x4 then (
  let x5 : Int := (isub .i64 d.2.1.1 (400 : Int))
  let x6 : Int := (iadd .i64 d.2.2.1.1 (146097 : Int))
  (T.2.1 ((), ((x5, ()), ((x6, ()), ())))))
  else (
  (T.2.2.1 ((), ((d.2.1.1, ()), ((d.2.2.1.1, ()), (((1970 : Int), ()), ()))))))
def f_ref05_Start_p14 (T : (((Unit × ((Int × Unit) × ((Int × Unit) × Unit))) → Option (Unit × ((Int × Unit) × Unit))) × (((Unit × ((Int × Unit) × ((Int × Unit) × Unit))) → Option (Unit × ((Int × Unit) × Unit))) × (((Unit × ((Int × Unit) × ((Int × Unit) × ((Int × Unit) × Unit)))) → Option (Unit × ((Int × Unit) × Unit))) × Unit)))) (d : Unit × ((Int × Unit) × ((Int × Unit) × ((Int × Unit) × Unit)))) : Option (Unit × ((Int × Unit) × Unit)) :=
  let x7 : Bool := (decide (d.2.2.2.1.1 < d.2.1.1))
  bif x7 then (
  (g_ref05_Days ((), ((d.2.2.2.1.1, ()), ()))).bind fun x8 =>
  let x9 : Int := (iadd .i64 d.2.2.1.1 x8.2.1.1)
  let x10 : Int := (iadd .i64 d.2.2.2.1.1 (1 : Int))
  (T.2.2.1 ((), ((d.2.1.1, ()), ((x9, ()), ((x10, ()), ()))))))
  else (
  some ((), ((d.2.2.1.1, ()), ())))
def f_ref05_Start_t : Nat → (((Unit × ((Int × Unit) × ((Int × Unit) × Unit))) → Option (Unit × ((Int × Unit) × Unit))) × (((Unit × ((Int × Unit) × ((Int × Unit) × Unit))) → Option (Unit × ((Int × Unit) × Unit))) × (((Unit × ((Int × Unit) × ((Int × Unit) × ((Int × Unit) × Unit)))) → Option (Unit × ((Int × Unit) × Unit))) × Unit)))
  | 0 => (fun _ => none, (fun _ => none, (fun _ => none, ())))
  | k + 1 => (f_ref05_Start_p3 (f_ref05_Start_t k), (f_ref05_Start_p8 (f_ref05_Start_t k), (f_ref05_Start_p14 (f_ref05_Start_t k), ())))
theorem t_ref05_Start (k : Nat) : f_ref05_Start_t (k + 1) = (f_ref05_Start_p3 (f_ref05_Start_t k), (f_ref05_Start_p8 (f_ref05_Start_t k), (f_ref05_Start_p14 (f_ref05_Start_t k), ()))) := rfl
def f_ref05_Start_m (T : (((Unit × ((Int × Unit) × ((Int × Unit) × Unit))) → Option (Unit × ((Int × Unit) × Unit))) × (((Unit × ((Int × Unit) × ((Int × Unit) × Unit))) → Option (Unit × ((Int × Unit) × Unit))) × (((Unit × ((Int × Unit) × ((Int × Unit) × ((Int × Unit) × Unit)))) → Option (Unit × ((Int × Unit) × Unit))) × Unit)))) (d : Unit × ((Int × Unit) × Unit)) : Option (Unit × ((Int × Unit) × Unit)) :=
  (T.1 ((), ((d.2.1.1, ()), (((0 : Int), ()), ()))))
def c_ref05_Start : List Nat := []
def L_ref05_Start (k : Nat) : Pts po_ref05_Start.den := [(3, ⟨sh_ref05_Start_3, (f_ref05_Start_t k).1⟩), (8, ⟨sh_ref05_Start_8, (f_ref05_Start_t k).2.1⟩), (14, ⟨sh_ref05_Start_14, (f_ref05_Start_t k).2.2.1⟩)]
def E_ref05_Start : Env := (E0.add 90 (typedSem pi_ref05_Days po_ref05_Days g_ref05_Days))
theorem q_ref05_Start_3 (k : Nat) (d : Unit × ((Int × Unit) × ((Int × Unit) × Unit))) : evAt E_ref05_Start (tab (L_ref05_Start k)) c_ref05_Start 3 (bodyOf Try.f76) 0 (finK E_ref05_Start po_ref05_Start [.tmp 2]) (ptSt sh_ref05_Start_3 d) = f_ref05_Start_p3 (f_ref05_Start_t k) d := by kernel_rfl
theorem q_ref05_Start_8 (k : Nat) (d : Unit × ((Int × Unit) × ((Int × Unit) × Unit))) : evAt E_ref05_Start (tab (L_ref05_Start k)) c_ref05_Start 8 (bodyOf Try.f76) 0 (finK E_ref05_Start po_ref05_Start [.tmp 2]) (ptSt sh_ref05_Start_8 d) = f_ref05_Start_p8 (f_ref05_Start_t k) d := by kernel_rfl
theorem q_ref05_Start_14 (k : Nat) (d : Unit × ((Int × Unit) × ((Int × Unit) × ((Int × Unit) × Unit)))) : evAt E_ref05_Start (tab (L_ref05_Start k)) c_ref05_Start 14 (bodyOf Try.f76) 0 (finK E_ref05_Start po_ref05_Start [.tmp 2]) (ptSt sh_ref05_Start_14 d) = f_ref05_Start_p14 (f_ref05_Start_t k) d := by kernel_rfl
theorem q_ref05_Start_m (k : Nat) (d : Unit × ((Int × Unit) × Unit)) : evCode E_ref05_Start (tab (L_ref05_Start k)) c_ref05_Start (bodyOf Try.f76) 0 (finK E_ref05_Start po_ref05_Start [.tmp 2]) (startSt pi_ref05_Start 27 d) = f_ref05_Start_m (f_ref05_Start_t k) d := by kernel_rfl
theorem go_ref05_Start (G : pi_ref05_Start.den → Option po_ref05_Start.den) (hG : ∀ d out, G d = some out → ∃ k, f_ref05_Start_m (f_ref05_Start_t k) d = some out) : FnOk Try.prog ET0 76 pi_ref05_Start po_ref05_Start G :=
  fn_of_body (E := E_ref05_Start) (envOk_add e0_ok (typed_ok ok_ref05_Days)) (fn := Try.f76) Try.func76 (by kernel_rfl) (by kernel_rfl) [.tmp 2] (by kernel_rfl) (by kernel_rfl) (by decide) c_ref05_Start L_ref05_Start
    (by intro x hx d; simp only [L_ref05_Start, List.mem_cons, List.not_mem_nil, or_false] at hx; rcases hx with rfl | rfl | rfl; rfl; rfl; rfl)
    (by intro k x hx d out h; simp only [L_ref05_Start, List.mem_cons, List.not_mem_nil, or_false] at hx; rcases hx with rfl | rfl | rfl; exact (q_ref05_Start_3 k d).trans h; exact (q_ref05_Start_8 k d).trans h; exact (q_ref05_Start_14 k d).trans h)
    (by intro d out h; obtain ⟨k, hk⟩ := hG d out h; exact ⟨k, (q_ref05_Start_m k d).trans hk⟩)
def g_ref05_Start (d : Unit × ((Int × Unit) × Unit)) : Option (Unit × ((Int × Unit) × Unit)) := lim fun k => f_ref05_Start_m (f_ref05_Start_t k) d
theorem ok_ref05_Start : FnOk Try.prog ET0 76 pi_ref05_Start po_ref05_Start g_ref05_Start := go_ref05_Start g_ref05_Start fun d out h => lim_some h

/- horologe/horologeref05.Month -/
@[reducible] def pi_ref05_Month : PSh := ⟨[], [.mk false [.v (.int .i64)], .mk false [.v (.int .i64)]]⟩
@[reducible] def po_ref05_Month : PSh := ⟨[], [.mk false [.v (.int .i64)]]⟩
def f_ref05_Month_m (T : Unit) (d : Unit × ((Int × Unit) × ((Int × Unit) × Unit))) : Option (Unit × ((Int × Unit) × Unit)) :=
  let x1 : (List Int) := ([(31 : Int), (28 : Int), (31 : Int), (30 : Int), (31 : Int), (30 : Int), (31 : Int), (31 : Int), (30 : Int), (31 : Int), (30 : Int), (31 : Int)] : List Int)
  let x2 : Bool := (d.2.2.1.1 == (2 : Int))
  bif x2 then (
  (g_ref05_Leap ((), ((d.2.1.1, ()), ()))).bind fun x3 =>
  bif x3.2.1.1 then (
  some ((), (((29 : Int), ()), ())))
  else (
  let x4 : Int := (isub .i64 d.2.2.1.1 (1 : Int))
  bif decide ((0 : Int) ≤ x4) && decide (x4 < (x1.length : Int)) then (
  some ((), (((gd (.int .i64) x1 x4), ()), ())))
  else none))
  else (
  let x5 : Int := (isub .i64 d.2.2.1.1 (1 : Int))
  bif decide ((0 : Int) ≤ x5) && decide (x5 < (x1.length : Int)) then (
  some ((), (((gd (.int .i64) x1 x5), ()), ())))
  else none)
def c_ref05_Month : List Nat := []
def L_ref05_Month (_ : Nat) : Pts po_ref05_Month.den := []
def E_ref05_Month : Env := (E0.add 99 (typedSem pi_ref05_Leap po_ref05_Leap g_ref05_Leap))
theorem q_ref05_Month_m (k : Nat) (d : Unit × ((Int × Unit) × ((Int × Unit) × Unit))) : evCode E_ref05_Month (tab (L_ref05_Month k)) c_ref05_Month (bodyOf Try.f91) 0 (finK E_ref05_Month po_ref05_Month [.tmp 4]) (startSt pi_ref05_Month 18 d) = f_ref05_Month_m () d := by kernel_rfl
def g_ref05_Month (d : Unit × ((Int × Unit) × ((Int × Unit) × Unit))) : Option (Unit × ((Int × Unit) × Unit)) := f_ref05_Month_m () d
theorem ok_ref05_Month : FnOk Try.prog ET0 91 pi_ref05_Month po_ref05_Month g_ref05_Month :=
  fn_of_body (E := E_ref05_Month) (envOk_add e0_ok (typed_ok ok_ref05_Leap)) (fn := Try.f91) Try.func91 (by kernel_rfl) (by kernel_rfl) [.tmp 4] (by kernel_rfl) (by kernel_rfl) (by decide) c_ref05_Month L_ref05_Month
    (by intro x hx; cases hx) (by intro k x hx; cases hx) (fun d out h => ⟨0, (q_ref05_Month_m 0 d).trans h⟩)

/- horologe/horologeref05.Of -/
@[reducible] def pi_ref05_Of : PSh := ⟨[], [.mk false [.v (.int .i64)], .mk false [.v (.int .i64)], .mk false [.v (.int .i64)]]⟩
@[reducible] def po_ref05_Of : PSh := ⟨[], [.mk false [.v (.int .i64)]]⟩
@[reducible] def sh_ref05_Of_4 : PSh := ⟨[], [.mk false [.v (.int .i64)], .mk false [.v (.int .i64)], .any, .any, .any, .any, .any, .mk false [.v (.int .i64)], .mk false [.v (.int .i64)], .any, .any, .any, .any, .any, .any, .any, .any, .any, .any, .any, .any, .any, .any, .any, .any]⟩
def f_ref05_Of_p4 (T : (((Unit × ((Int × Unit) × ((Int × Unit) × ((Int × Unit) × ((Int × Unit) × Unit))))) → Option (Unit × ((Int × Unit) × Unit))) × Unit)) (d : Unit × ((Int × Unit) × ((Int × Unit) × ((Int × Unit) × ((Int × Unit) × Unit))))) : Option (Unit × ((Int × Unit) × Unit)) :=
  let x4 : Bool := (decide (d.2.2.2.2.1.1 < d.2.2.1.1))
  bif x4 then (
  (g_ref05_Month ((), ((d.2.1.1, ()), ((d.2.2.2.2.1.1, ()), ())))).bind fun x5 =>
  let x6 : Int := (iadd .i64 d.2.2.2.1.1 x5.2.1.1)
  let x7 : Int := (iadd .i64 d.2.2.2.2.1.1 (1 : Int))
  (T.1 ((), ((d.2.1.1, ()), ((d.2.2.1.1, ()), ((x6, ()), ((x7, ()), ())))))))
  else (
  some ((), ((d.2.2.2.1.1, ()), ())))
def f_ref05_Of_t : Nat → (((Unit × ((Int × Unit) × ((Int × Unit) × ((Int × Unit) × ((Int × Unit) × Unit))))) → Option (Unit × ((Int × Unit) × Unit))) × Unit)
  | 0 => (fun _ => none, ())
  | k + 1 => (f_ref05_Of_p4 (f_ref05_Of_t k), ())
theorem t_ref05_Of (k : Nat) : f_ref05_Of_t (k + 1) = (f_ref05_Of_p4 (f_ref05_Of_t k), ()) := rfl
def f_ref05_Of_m (T : (((Unit × ((Int × Unit) × ((Int × Unit) × ((Int × Unit) × ((Int × Unit) × Unit))))) → Option (Unit × ((Int × Unit) × Unit))) × Unit)) (d : Unit × ((Int × Unit) × ((Int × Unit) × ((Int × Unit) × Unit)))) : Option (Unit × ((Int × Unit) × Unit)) :=
  (g_ref05_Start ((), ((d.2.1.1, ()), ()))).bind fun x1 =>
  let x2 : Int := (iadd .i64 x1.2.1.1 d.2.2.2.1.1)
  let x3 : Int := (isub .i64 x2 (1 : Int))
  (T.1 ((), ((d.2.1.1, ()), ((d.2.2.1.1, ()), ((x3, ()), (((1 : Int), ()), ()))))))
def c_ref05_Of : List Nat := []
def L_ref05_Of (k : Nat) : Pts po_ref05_Of.den := [(4, ⟨sh_ref05_Of_4, (f_ref05_Of_t k).1⟩)]
def E_ref05_Of : Env := ((E0.add 76 (typedSem pi_ref05_Start po_ref05_Start g_ref05_Start)).add 91 (typedSem pi_ref05_Month po_ref05_Month g_ref05_Month))
theorem q_ref05_Of_4 (k : Nat) (d : Unit × ((Int × Unit) × ((Int × Unit) × ((Int × Unit) × ((Int × Unit) × Unit))))) : evAt E_ref05_Of (tab (L_ref05_Of k)) c_ref05_Of 4 (bodyOf Try.f81) 0 (finK E_ref05_Of po_ref05_Of [.tmp 6]) (ptSt sh_ref05_Of_4 d) = f_ref05_Of_p4 (f_ref05_Of_t k) d := by kernel_rfl
theorem q_ref05_Of_m (k : Nat) (d : Unit × ((Int × Unit) × ((Int × Unit) × ((Int × Unit) × Unit)))) : evCode E_ref05_Of (tab (L_ref05_Of k)) c_ref05_Of (bodyOf Try.f81) 0 (finK E_ref05_Of po_ref05_Of [.tmp 6]) (startSt pi_ref05_Of 25 d) = f_ref05_Of_m (f_ref05_Of_t k) d := by kernel_rfl
theorem go_ref05_Of (G : pi_ref05_Of.den → Option po_ref05_Of.den) (hG : ∀ d out, G d = some out → ∃ k, f_ref05_Of_m (f_ref05_Of_t k) d = some out) : FnOk Try.prog ET0 81 pi_ref05_Of po_ref05_Of G :=
  fn_of_body (E := E_ref05_Of) (envOk_add (envOk_add e0_ok (typed_ok ok_ref05_Start)) (typed_ok ok_ref05_Month)) (fn := Try.f81) Try.func81 (by kernel_rfl) (by kernel_rfl) [.tmp 6] (by kernel_rfl) (by kernel_rfl) (by decide) c_ref05_Of L_ref05_Of
    (by intro x hx d; simp only [L_ref05_Of, List.mem_cons, List.not_mem_nil, or_false] at hx; subst hx; rfl)
    (by intro k x hx d out h; simp only [L_ref05_Of, List.mem_cons, List.not_mem_nil, or_false] at hx; subst hx; exact (q_ref05_Of_4 k d).trans h)
    (by intro d out h; obtain ⟨k, hk⟩ := hG d out h; exact ⟨k, (q_ref05_Of_m k d).trans hk⟩)
def g_ref05_Of (d : Unit × ((Int × Unit) × ((Int × Unit) × ((Int × Unit) × Unit)))) : Option (Unit × ((Int × Unit) × Unit)) := lim fun k => f_ref05_Of_m (f_ref05_Of_t k) d
theorem ok_ref05_Of : FnOk Try.prog ET0 81 pi_ref05_Of po_ref05_Of g_ref05_Of := go_ref05_Of g_ref05_Of fun d out h => lim_some h

/- horologe/horologeref08.Moment -/
@[reducible] def pi_ref08_Moment : PSh := ⟨[], [.mk true [.v (.int .i64), .v (.int .i64), .v (.int .i64), .v (.int .i64), .v (.int .i64), .v (.int .i64), .v (.int .i64), .v (.int .i64)]]⟩
@[reducible] def po_ref08_Moment : PSh := ⟨[], [.mk false [.v (.int .i64)], .mk false [.v (.int .i64)]]⟩
@[reducible] def sh_ref08_Moment_4 : PSh := ⟨[], [.any, .any, .any, .any, .mk false [.v (.int .i64)], .mk false [.v (.int .i64)], .any, .any, .any, .any, .any, .any, .any, .any, .any, .any, .any, .any, .any, .any, .any, .any, .any, .any, .any, .any, .any, .any, .any, .any, .any, .any, .any, .any, .any, .any]⟩
@[reducible] def sh_ref08_Moment_9 : PSh := ⟨[], [.any, .any, .any, .any, .mk false [.v (.int .i64)], .mk false [.v (.int .i64)], .any, .any, .any, .any, .any, .any, .any, .any, .any, .any, .any, .any, .any, .any, .any, .any, .any, .any, .any, .any, .any, .any, .any, .any, .any, .any, .any, .any, .any, .any]⟩
def f_ref08_Moment_p4 (T : (((Unit × ((Int × Unit) × ((Int × Unit) × Unit))) → Option (Unit × ((Int × Unit) × ((Int × Unit) × Unit)))) × (((Unit × ((Int × Unit) × ((Int × Unit) × Unit))) → Option (Unit × ((Int × Unit) × ((Int × Unit) × Unit)))) × Unit))) (d : Unit × ((Int × Unit) × ((Int × Unit) × Unit))) : Option (Unit × ((Int × Unit) × ((Int × Unit) × Unit))) :=
  let x5 : Bool := (decide (d.2.2.1.1 < (0 : Int)))
  bif x5 then (
  let x6 : Int := (iadd .i64 d.2.2.1.1 (1440 : Int))
  let x7 : Int := (isub .i64 d.2.1.1 (1 : Int))
  (T.1 ((), ((x7, ()), ((x6, ()), ())))))
  else (
  (T.2.1 ((), ((d.2.1.1, ()), ((d.2.2.1.1, ()), ())))))
def f_ref08_Moment_p9 (T : (((Unit × ((Int × Unit) × ((Int × Unit) × Unit))) → Option (Unit × ((Int × Unit) × ((Int × Unit) × Unit)))) × (((Unit × ((Int × Unit) × ((Int × Unit) × Unit))) → Option (Unit × ((Int × Unit) × ((Int × Unit) × Unit)))) × Unit))) (d : Unit × ((Int × Unit) × ((Int × Unit) × Unit))) : Option (Unit × ((Int × Unit) × ((Int × Unit) × Unit))) :=
  let x8 : Bool := (decide (d.2.2.1.1 ≥ (1440 : Int)))
  bif x8 then (
  let x9 : Int := (isub .i64 d.2.2.1.1 (1440 : Int))
  let x10 : Int := (iadd .i64 d.2.1.1 (1 : Int))
  (T.2.1 ((), ((x10, ()), ((x9, ()), ())))))
  else (
  some ((), ((d.2.1.1, ()), ((d.2.2.1.1, ()), ()))))
def f_ref08_Moment_t : Nat → (((Unit × ((Int × Unit) × ((Int × Unit) × Unit))) → Option (Unit × ((Int × Unit) × ((Int × Unit) × Unit)))) × (((Unit × ((Int × Unit) × ((Int × Unit) × Unit))) → Option (Unit × ((Int × Unit) × ((Int × Unit) × Unit)))) × Unit))
  | 0 => (fun _ => none, (fun _ => none, ()))
  | k + 1 => (f_ref08_Moment_p4 (f_ref08_Moment_t k), (f_ref08_Moment_p9 (f_ref08_Moment_t k), ()))
theorem t_ref08_Moment (k : Nat) : f_ref08_Moment_t (k + 1) = (f_ref08_Moment_p4 (f_ref08_Moment_t k), (f_ref08_Moment_p9 (f_ref08_Moment_t k), ())) := rfl
def f_ref08_Moment_m (T : (((Unit × ((Int × Unit) × ((Int × Unit) × Unit))) → Option (Unit × ((Int × Unit) × ((Int × Unit) × Unit)))) × (((Unit × ((Int × Unit) × ((Int × Unit) × Unit))) → Option (Unit × ((Int × Unit) × ((Int × Unit) × Unit)))) × Unit))) (d : Unit × ((Int × (Int × (Int × (Int × (Int × (Int × (Int × (Int × Unit)))))))) × Unit)) : Option (Unit × ((Int × Unit) × ((Int × Unit) × Unit))) :=
  (g_ref05_Of ((), ((d.2.1.1, ()), ((d.2.1.2.1, ()), ((d.2.1.2.2.1, ()), ()))))).bind fun x1 =>
  let x2 : Int := (imul .i64 d.2.1.2.2.2.1 (60 : Int))
  let x3 : Int := (iadd .i64 x2 d.2.1.2.2.2.2.1)
  let x4 : Int := (isub .i64 x3 d.2.1.2.2.2.2.2.2.2.1)
  (T.1 ((), ((x1.2.1.1, ()), ((x4, ()), ()))))
def c_ref08_Moment : List Nat := []
def L_ref08_Moment (k : Nat) : Pts po_ref08_Moment.den := [(4, ⟨sh_ref08_Moment_4, (f_ref08_Moment_t k).1⟩), (9, ⟨sh_ref08_Moment_9, (f_ref08_Moment_t k).2.1⟩)]
def E_ref08_Moment : Env := (E0.add 81 (typedSem pi_ref05_Of po_ref05_Of g_ref05_Of))
theorem q_ref08_Moment_4 (k : Nat) (d : Unit × ((Int × Unit) × ((Int × Unit) × Unit))) : evAt E_ref08_Moment (tab (L_ref08_Moment k)) c_ref08_Moment 4 (bodyOf Try.f52) 0 (finK E_ref08_Moment po_ref08_Moment [.tmp 2, .tmp 3]) (ptSt sh_ref08_Moment_4 d) = f_ref08_Moment_p4 (f_ref08_Moment_t k) d := by kernel_rfl
theorem q_ref08_Moment_9 (k : Nat) (d : Unit × ((Int × Unit) × ((Int × Unit) × Unit))) : evAt E_ref08_Moment (tab (L_ref08_Moment k)) c_ref08_Moment 9 (bodyOf Try.f52) 0 (finK E_ref08_Moment po_ref08_Moment [.tmp 2, .tmp 3]) (ptSt sh_ref08_Moment_9 d) = f_ref08_Moment_p9 (f_ref08_Moment_t k) d := by kernel_rfl
theorem q_ref08_Moment_m (k : Nat) (d : Unit × ((Int × (Int × (Int × (Int × (Int × (Int × (Int × (Int × Unit)))))))) × Unit)) : evCode E_ref08_Moment (tab (L_ref08_Moment k)) c_ref08_Moment (bodyOf Try.f52) 0 (finK E_ref08_Moment po_ref08_Moment [.tmp 2, .tmp 3]) (startSt pi_ref08_Moment 36 d) = f_ref08_Moment_m (f_ref08_Moment_t k) d := by kernel_rfl
theorem go_ref08_Moment (G : pi_ref08_Moment.den → Option po_ref08_Moment.den) (hG : ∀ d out, G d = some out → ∃ k, f_ref08_Moment_m (f_ref08_Moment_t k) d = some out) : FnOk Try.prog ET0 52 pi_ref08_Moment po_ref08_Moment G :=
  fn_of_body (E := E_ref08_Moment) (envOk_add e0_ok (typed_ok ok_ref05_Of)) (fn := Try.f52) Try.func52 (by kernel_rfl) (by kernel_rfl) [.tmp 2, .tmp 3] (by kernel_rfl) (by kernel_rfl) (by decide) c_ref08_Moment L_ref08_Moment
    (by intro x hx d; simp only [L_ref08_Moment, List.mem_cons, List.not_mem_nil, or_false] at hx; rcases hx with rfl | rfl; rfl; rfl)
    (by intro k x hx d out h; simp only [L_ref08_Moment, List.mem_cons, List.not_mem_nil, or_false] at hx; rcases hx with rfl | rfl; exact (q_ref08_Moment_4 k d).trans h; exact (q_ref08_Moment_9 k d).trans h)
    (by intro d out h; obtain ⟨k, hk⟩ := hG d out h; exact ⟨k, (q_ref08_Moment_m k d).trans hk⟩)
def g_ref08_Moment (d : Unit × ((Int × (Int × (Int × (Int × (Int × (Int × (Int × (Int × Unit)))))))) × Unit)) : Option (Unit × ((Int × Unit) × ((Int × Unit) × Unit))) := lim fun k => f_ref08_Moment_m (f_ref08_Moment_t k) d
theorem ok_ref08_Moment : FnOk Try.prog ET0 52 pi_ref08_Moment po_ref08_Moment g_ref08_Moment := go_ref08_Moment g_ref08_Moment fun d out h => lim_some h

/- horologe/horologeref05.Last -/
@[reducible] def pi_ref05_Last : PSh := ⟨[], []⟩
@[reducible] def po_ref05_Last : PSh := ⟨[], [.mk false [.v (.int .i64)]]⟩
def f_ref05_Last_m (T : Unit) (d : Unit × Unit) : Option (Unit × ((Int × Unit) × Unit)) :=
  (g_ref05_Start ((), (((10000 : Int), ()), ()))).bind fun x1 =>
  let x2 : Int := (isub .i64 x1.2.1.1 (1 : Int))
  some ((), ((x2, ()), ()))
def c_ref05_Last : List Nat := []
def L_ref05_Last (_ : Nat) : Pts po_ref05_Last.den := []
def E_ref05_Last : Env := (E0.add 76 (typedSem pi_ref05_Start po_ref05_Start g_ref05_Start))
theorem q_ref05_Last_m (k : Nat) (d : Unit × Unit) : evCode E_ref05_Last (tab (L_ref05_Last k)) c_ref05_Last (bodyOf Try.f77) 0 (finK E_ref05_Last po_ref05_Last [.tmp 0]) (startSt pi_ref05_Last 3 d) = f_ref05_Last_m () d := by kernel_rfl
def g_ref05_Last (d : Unit × Unit) : Option (Unit × ((Int × Unit) × Unit)) := f_ref05_Last_m () d
theorem ok_ref05_Last : FnOk Try.prog ET0 77 pi_ref05_Last po_ref05_Last g_ref05_Last :=
  fn_of_body (E := E_ref05_Last) (envOk_add e0_ok (typed_ok ok_ref05_Start)) (fn := Try.f77) Try.func77 (by kernel_rfl) (by kernel_rfl) [.tmp 0] (by kernel_rfl) (by kernel_rfl) (by decide) c_ref05_Last L_ref05_Last
    (by intro x hx; cases hx) (by intro k x hx; cases hx) (fun d out h => ⟨0, (q_ref05_Last_m 0 d).trans h⟩)

/- horologe/horologeref05.First -/
@[reducible] def pi_ref05_First : PSh := ⟨[], []⟩
@[reducible] def po_ref05_First : PSh := ⟨[], [.mk false [.v (.int .i64)]]⟩
def f_ref05_First_m (T : Unit) (d : Unit × Unit) : Option (Unit × ((Int × Unit) × Unit)) :=
  (g_ref05_Start ((), (((-9999 : Int), ()), ()))).bind fun x1 =>
  some ((), ((x1.2.1.1, ()), ()))
def c_ref05_First : List Nat := []
def L_ref05_First (_ : Nat) : Pts po_ref05_First.den := []
def E_ref05_First : Env := (E0.add 76 (typedSem pi_ref05_Start po_ref05_Start g_ref05_Start))
theorem q_ref05_First_m (k : Nat) (d : Unit × Unit) : evCode E_ref05_First (tab (L_ref05_First k)) c_ref05_First (bodyOf Try.f89) 0 (finK E_ref05_First po_ref05_First [.tmp 0]) (startSt pi_ref05_First 2 d) = f_ref05_First_m () d := by kernel_rfl
def g_ref05_First (d : Unit × Unit) : Option (Unit × ((Int × Unit) × Unit)) := f_ref05_First_m () d
theorem ok_ref05_First : FnOk Try.prog ET0 89 pi_ref05_First po_ref05_First g_ref05_First :=
  fn_of_body (E := E_ref05_First) (envOk_add e0_ok (typed_ok ok_ref05_Start)) (fn := Try.f89) Try.func89 (by kernel_rfl) (by kernel_rfl) [.tmp 0] (by kernel_rfl) (by kernel_rfl) (by decide) c_ref05_First L_ref05_First
    (by intro x hx; cases hx) (by intro k x hx; cases hx) (fun d out h => ⟨0, (q_ref05_First_m 0 d).trans h⟩)

/- horologe/horologeref08.There -/
@[reducible] def pi_ref08_There : PSh := ⟨[], [.mk false [.v (.int .i64)]]⟩
@[reducible] def po_ref08_There : PSh := ⟨[], [.mk false [.v .bool]]⟩
def f_ref08_There_m (T : Unit) (d : Unit × ((Int × Unit) × Unit)) : Option (Unit × ((Bool × Unit) × Unit)) :=
  (g_ref05_First ((), ())).bind fun x1 =>
  let x2 : Bool := (decide (d.2.1.1 ≥ x1.2.1.1))
  bif x2 then (
  (g_ref05_Last ((), ())).bind fun x3 =>
  let x4 : Bool := (decide (d.2.1.1 ≤ x3.2.1.1))
  some ((), ((x4, ()), ())))
  else (
  some ((), ((false, ()), ())))
def c_ref08_There : List Nat := []
def L_ref08_There (_ : Nat) : Pts po_ref08_There.den := []
def E_ref08_There : Env := ((E0.add 77 (typedSem pi_ref05_Last po_ref05_Last g_ref05_Last)).add 89 (typedSem pi_ref05_First po_ref05_First g_ref05_First))
theorem q_ref08_There_m (k : Nat) (d : Unit × ((Int × Unit) × Unit)) : evCode E_ref08_There (tab (L_ref08_There k)) c_ref08_There (bodyOf Try.f63) 0 (finK E_ref08_There po_ref08_There [.tmp 2]) (startSt pi_ref08_There 11 d) = f_ref08_There_m () d := by kernel_rfl
def g_ref08_There (d : Unit × ((Int × Unit) × Unit)) : Option (Unit × ((Bool × Unit) × Unit)) := f_ref08_There_m () d
theorem ok_ref08_There : FnOk Try.prog ET0 63 pi_ref08_There po_ref08_There g_ref08_There :=
  fn_of_body (E := E_ref08_There) (envOk_add (envOk_add e0_ok (typed_ok ok_ref05_Last)) (typed_ok ok_ref05_First)) (fn := Try.f63) Try.func63 (by kernel_rfl) (by kernel_rfl) [.tmp 2] (by kernel_rfl) (by kernel_rfl) (by decide) c_ref08_There L_ref08_There
    (by intro x hx; cases hx) (by intro k x hx; cases hx) (fun d out h => ⟨0, (q_ref08_There_m 0 d).trans h⟩)

/- horologe/horologeref05.Year -/
@[reducible] def pi_ref05_Year : PSh := ⟨[], [.mk false [.v (.int .i64)]]⟩
@[reducible] def po_ref05_Year : PSh := ⟨[], [.mk false [.v .bool]]⟩
def f_ref05_Year_m (T : Unit) (d : Unit × ((Int × Unit) × Unit)) : Option (Unit × ((Bool × Unit) × Unit)) :=
  let x1 : Bool := (decide (d.2.1.1 ≥ (-9999 : Int)))
  bif x1 then (
  let x2 : Bool := (decide (d.2.1.1 ≤ (9999 : Int)))
  some ((), ((x2, ()), ())))
  else (
  some ((), ((false, ()), ())))
def c_ref05_Year : List Nat := []
def L_ref05_Year (_ : Nat) : Pts po_ref05_Year.den := []
def E_ref05_Year : Env := E0
theorem q_ref05_Year_m (k : Nat) (d : Unit × ((Int × Unit) × Unit)) : evCode E_ref05_Year (tab (L_ref05_Year k)) c_ref05_Year (bodyOf Try.f98) 0 (finK E_ref05_Year po_ref05_Year [.tmp 2]) (startSt pi_ref05_Year 9 d) = f_ref05_Year_m () d := by kernel_rfl
def g_ref05_Year (d : Unit × ((Int × Unit) × Unit)) : Option (Unit × ((Bool × Unit) × Unit)) := f_ref05_Year_m () d
theorem ok_ref05_Year : FnOk Try.prog ET0 98 pi_ref05_Year po_ref05_Year g_ref05_Year :=
  fn_of_body (E := E_ref05_Year) e0_ok (fn := Try.f98) Try.func98 (by kernel_rfl) (by kernel_rfl) [.tmp 2] (by kernel_rfl) (by kernel_rfl) (by decide) c_ref05_Year L_ref05_Year
    (by intro x hx; cases hx) (by intro k x hx; cases hx) (fun d out h => ⟨0, (q_ref05_Year_m 0 d).trans h⟩)

/- horologe/horologeref05.Check -/
@[reducible] def pi_ref05_Check : PSh := ⟨[], [.mk false [.v (.int .i64)], .mk false [.v (.int .i64)], .mk false [.v (.int .i64)]]⟩
@[reducible] def po_ref05_Check : PSh := ⟨[], [.mk false [.v (.int .i64)]]⟩
def f_ref05_Check_m (T : Unit) (d : Unit × ((Int × Unit) × ((Int × Unit) × ((Int × Unit) × Unit)))) : Option (Unit × ((Int × Unit) × Unit)) :=
  (g_ref05_Year ((), ((d.2.1.1, ()), ()))).bind fun x1 =>
  let x2 : Bool := (!x1.2.1.1)
  bif x2 then (
  some ((), (((13 : Int), ()), ())))
  else (
  let x3 : Bool := (decide (d.2.2.1.1 < (1 : Int)))
  bif x3 then (
  some ((), (((1 : Int), ()), ())))
  else (
  let x4 : Bool := (decide (d.2.2.1.1 > (12 : Int)))
  bif x4 then (
  some ((), (((1 : Int), ()), ())))
  else (
  let x5 : Bool := (decide (d.2.2.2.1.1 < (1 : Int)))
  bif x5 then (
  some ((), (((1 : Int), ()), ())))
  else (
  (g_ref05_Month ((), ((d.2.1.1, ()), ((d.2.2.1.1, ()), ())))).bind fun x6 =>
  let x7 : Bool := (decide (d.2.2.2.1.1 > x6.2.1.1))
  bif x7 then (
  some ((), (((1 : Int), ()), ())))
  else (
  some ((), (((0 : Int), ()), ())))))))
def c_ref05_Check : List Nat := []
def L_ref05_Check (_ : Nat) : Pts po_ref05_Check.den := []
def E_ref05_Check : Env := ((E0.add 91 (typedSem pi_ref05_Month po_ref05_Month g_ref05_Month)).add 98 (typedSem pi_ref05_Year po_ref05_Year g_ref05_Year))
theorem q_ref05_Check_m (k : Nat) (d : Unit × ((Int × Unit) × ((Int × Unit) × ((Int × Unit) × Unit)))) : evCode E_ref05_Check (tab (L_ref05_Check k)) c_ref05_Check (bodyOf Try.f80) 0 (finK E_ref05_Check po_ref05_Check [.tmp 6]) (startSt pi_ref05_Check 25 d) = f_ref05_Check_m () d := by kernel_rfl
def g_ref05_Check (d : Unit × ((Int × Unit) × ((Int × Unit) × ((Int × Unit) × Unit)))) : Option (Unit × ((Int × Unit) × Unit)) := f_ref05_Check_m () d
theorem ok_ref05_Check : FnOk Try.prog ET0 80 pi_ref05_Check po_ref05_Check g_ref05_Check :=
  fn_of_body (E := E_ref05_Check) (envOk_add (envOk_add e0_ok (typed_ok ok_ref05_Month)) (typed_ok ok_ref05_Year)) (fn := Try.f80) Try.func80 (by kernel_rfl) (by kernel_rfl) [.tmp 6] (by kernel_rfl) (by kernel_rfl) (by decide) c_ref05_Check L_ref05_Check
    (by intro x hx; cases hx) (by intro k x hx; cases hx) (fun d out h => ⟨0, (q_ref05_Check_m 0 d).trans h⟩)

/- horologe/horologeref08.Check -/
@[reducible] def pi_ref08_Check : PSh := ⟨[], [.mk true [.v (.int .i64), .v (.int .i64), .v (.int .i64), .v (.int .i64), .v (.int .i64), .v (.int .i64), .v (.int .i64), .v (.int .i64)]]⟩
@[reducible] def po_ref08_Check : PSh := ⟨[], [.mk false [.v (.int .i64)]]⟩
def f_ref08_Check_m (T : Unit) (d : Unit × ((Int × (Int × (Int × (Int × (Int × (Int × (Int × (Int × Unit)))))))) × Unit)) : Option (Unit × ((Int × Unit) × Unit)) :=
  (g_ref05_Check ((), ((d.2.1.1, ()), ((d.2.1.2.1, ()), ((d.2.1.2.2.1, ()), ()))))).bind fun x1 =>
  let x2 : Bool := (x1.2.1.1 != (0 : Int))
  bif x2 then (
  some ((), ((x1.2.1.1, ()), ())))
  else (
  let x3 : Bool := (decide (d.2.1.2.2.2.1 < (0 : Int)))
  bif x3 then (
  some ((), (((1 : Int), ()), ())))
  else (
  let x4 : Bool := (decide (d.2.1.2.2.2.1 > (23 : Int)))
  bif x4 then (
  some ((), (((1 : Int), ()), ())))
  else (
  let x5 : Bool := (decide (d.2.1.2.2.2.2.1 < (0 : Int)))
  bif x5 then (
  some ((), (((1 : Int), ()), ())))
  else (
  let x6 : Bool := (decide (d.2.1.2.2.2.2.1 > (59 : Int)))
  bif x6 then (
  some ((), (((1 : Int), ()), ())))
  else (
  let x7 : Bool := (decide (d.2.1.2.2.2.2.2.1 < (0 : Int)))
  bif x7 then (
  some ((), (((1 : Int), ()), ())))
  else (
  let x8 : Bool := (decide (d.2.1.2.2.2.2.2.1 > (60 : Int)))
  bif x8 then (
  some ((), (((1 : Int), ()), ())))
  else (
  let x9 : Bool := (decide (d.2.1.2.2.2.2.2.2.1 < (0 : Int)))
  bif x9 then (
  some ((), (((1 : Int), ()), ())))
  else (
  let x10 : Bool := (decide (d.2.1.2.2.2.2.2.2.1 > (999999999 : Int)))
  bif x10 then (
  some ((), (((1 : Int), ()), ())))
  else (
  let x11 : Bool := (decide (d.2.1.2.2.2.2.2.2.2.1 < (-1439 : Int)))
  bif x11 then (
  some ((), (((1 : Int), ()), ())))
  else (
  let x12 : Bool := (decide (d.2.1.2.2.2.2.2.2.2.1 > (1439 : Int)))
  bif x12 then (
  some ((), (((1 : Int), ()), ())))
  else (
  (g_ref08_Moment ((), ((d.2.1.1, (d.2.1.2.1, (d.2.1.2.2.1, (d.2.1.2.2.2.1, (d.2.1.2.2.2.2.1, (d.2.1.2.2.2.2.2.1, (d.2.1.2.2.2.2.2.2.1, (d.2.1.2.2.2.2.2.2.2.1, ())))))))), ()))).bind fun x13 =>
  (g_ref08_There ((), ((x13.2.1.1, ()), ()))).bind fun x14 =>
  let x15 : Bool := (!x14.2.1.1)
  bif x15 then (
  some ((), (((13 : Int), ()), ())))
  else (
  let x16 : Bool := (d.2.1.2.2.2.2.2.1 == (60 : Int))
  bif x16 then (
  let x17 : Bool := (x13.2.2.1.1 != (1439 : Int))
  bif x17 then (
  some ((), (((12 : Int), ()), ())))
  else (
  some ((), (((0 : Int), ()), ()))))
  else (
  some ((), (((0 : Int), ()), ())))))))))))))))
def c_ref08_Check : List Nat := []
def L_ref08_Check (_ : Nat) : Pts po_ref08_Check.den := []
def E_ref08_Check : Env := (((E0.add 52 (typedSem pi_ref08_Moment po_ref08_Moment g_ref08_Moment)).add 63 (typedSem pi_ref08_There po_ref08_There g_ref08_There)).add 80 (typedSem pi_ref05_Check po_ref05_Check g_ref05_Check))
theorem q_ref08_Check_m (k : Nat) (d : Unit × ((Int × (Int × (Int × (Int × (Int × (Int × (Int × (Int × Unit)))))))) × Unit)) : evCode E_ref08_Check (tab (L_ref08_Check k)) c_ref08_Check (bodyOf Try.f51) 0 (finK E_ref08_Check po_ref08_Check [.tmp 2]) (startSt pi_ref08_Check 77 d) = f_ref08_Check_m () d := by kernel_rfl
def g_ref08_Check (d : Unit × ((Int × (Int × (Int × (Int × (Int × (Int × (Int × (Int × Unit)))))))) × Unit)) : Option (Unit × ((Int × Unit) × Unit)) := f_ref08_Check_m () d
theorem ok_ref08_Check : FnOk Try.prog ET0 51 pi_ref08_Check po_ref08_Check g_ref08_Check :=
  fn_of_body (E := E_ref08_Check) (envOk_add (envOk_add (envOk_add e0_ok (typed_ok ok_ref08_Moment)) (typed_ok ok_ref08_There)) (typed_ok ok_ref05_Check)) (fn := Try.f51) Try.func51 (by kernel_rfl) (by kernel_rfl) [.tmp 2] (by kernel_rfl) (by kernel_rfl) (by decide) c_ref08_Check L_ref08_Check
    (by intro x hx; cases hx) (by intro k x hx; cases hx) (fun d out h => ⟨0, (q_ref08_Check_m 0 d).trans h⟩)

/- horologe/horologeref08.Split -/
@[reducible] def pi_ref08_Split : PSh := ⟨[], [.mk true [.v (.int .i64), .v (.int .i64), .v (.int .i64), .v (.int .i64), .v (.int .i64), .v (.int .i64), .v (.int .i64), .v (.int .i64)]]⟩
@[reducible] def po_ref08_Split : PSh := ⟨[], [.mk false [.v (.int .i64)], .mk false [.v (.int .i64)], .mk false [.v (.int .i64)]]⟩
def f_ref08_Split_m (T : Unit) (d : Unit × ((Int × (Int × (Int × (Int × (Int × (Int × (Int × (Int × Unit)))))))) × Unit)) : Option (Unit × ((Int × Unit) × ((Int × Unit) × ((Int × Unit) × Unit)))) :=
  (g_ref08_Check ((), ((d.2.1.1, (d.2.1.2.1, (d.2.1.2.2.1, (d.2.1.2.2.2.1, (d.2.1.2.2.2.2.1, (d.2.1.2.2.2.2.2.1, (d.2.1.2.2.2.2.2.2.1, (d.2.1.2.2.2.2.2.2.2.1, ())))))))), ()))).bind fun x1 =>
  let x2 : Bool := (x1.2.1.1 != (0 : Int))
  bif x2 then (
  some ((), (((0 : Int), ()), (((0 : Int), ()), ((x1.2.1.1, ()), ())))))
  else (
  (g_ref08_Moment ((), ((d.2.1.1, (d.2.1.2.1, (d.2.1.2.2.1, (d.2.1.2.2.2.1, (d.2.1.2.2.2.2.1, (d.2.1.2.2.2.2.2.1, (d.2.1.2.2.2.2.2.2.1, (d.2.1.2.2.2.2.2.2.2.1, ())))))))), ()))).bind fun x3 =>
  let x4 : Int := (imul .i64 x3.2.2.1.1 (60 : Int))
  let x5 : Int := (iadd .i64 x4 d.2.1.2.2.2.2.2.1)
  some ((), ((x3.2.1.1, ()), ((x5, ()), (((0 : Int), ()), ())))))
def c_ref08_Split : List Nat := []
def L_ref08_Split (_ : Nat) : Pts po_ref08_Split.den := []
def E_ref08_Split : Env := ((E0.add 51 (typedSem pi_ref08_Check po_ref08_Check g_ref08_Check)).add 52 (typedSem pi_ref08_Moment po_ref08_Moment g_ref08_Moment))
theorem q_ref08_Split_m (k : Nat) (d : Unit × ((Int × (Int × (Int × (Int × (Int × (Int × (Int × (Int × Unit)))))))) × Unit)) : evCode E_ref08_Split (tab (L_ref08_Split k)) c_ref08_Split (bodyOf Try.f14) 0 (finK E_ref08_Split po_ref08_Split [.tmp 2, .tmp 3, .tmp 4]) (startSt pi_ref08_Split 24 d) = f_ref08_Split_m () d := by kernel_rfl
def g_ref08_Split (d : Unit × ((Int × (Int × (Int × (Int × (Int × (Int × (Int × (Int × Unit)))))))) × Unit)) : Option (Unit × ((Int × Unit) × ((Int × Unit) × ((Int × Unit) × Unit)))) := f_ref08_Split_m () d
theorem ok_ref08_Split : FnOk Try.prog ET0 14 pi_ref08_Split po_ref08_Split g_ref08_Split :=
  fn_of_body (E := E_ref08_Split) (envOk_add (envOk_add e0_ok (typed_ok ok_ref08_Check)) (typed_ok ok_ref08_Moment)) (fn := Try.f14) Try.func14 (by kernel_rfl) (by kernel_rfl) [.tmp 2, .tmp 3, .tmp 4] (by kernel_rfl) (by kernel_rfl) (by decide) c_ref08_Split L_ref08_Split
    (by intro x hx; cases hx) (by intro k x hx; cases hx) (fun d out h => ⟨0, (q_ref08_Split_m 0 d).trans h⟩)

/- horologe/horologelaw08.Document -/
@[reducible] def pi_law08_Document : PSh := ⟨[], [.mk true [.v (.int .i64), .v (.int .i64), .v (.int .i64), .v (.int .i64), .v (.int .i64), .v (.int .i64), .v (.int .i64), .v (.int .i64)]]⟩
@[reducible] def po_law08_Document : PSh := ⟨[], [.mk true [.v (.int .i64), .v (.int .i64), .v (.int .i64), .v (.int .i64), .v (.int .i64), .v (.int .i64), .v (.int .i64), .v (.int .i64)]]⟩
def f_law08_Document_m (T : Unit) (d : Unit × ((Int × (Int × (Int × (Int × (Int × (Int × (Int × (Int × Unit)))))))) × Unit)) : Option (Unit × ((Int × (Int × (Int × (Int × (Int × (Int × (Int × (Int × Unit)))))))) × Unit)) :=
  some ((), ((d.2.1.1, (d.2.1.2.1, (d.2.1.2.2.1, (d.2.1.2.2.2.1, (d.2.1.2.2.2.2.1, (d.2.1.2.2.2.2.2.1, (d.2.1.2.2.2.2.2.2.1, (d.2.1.2.2.2.2.2.2.2.1, ())))))))), ()))
def c_law08_Document : List Nat := []
def L_law08_Document (_ : Nat) : Pts po_law08_Document.den := []
def E_law08_Document : Env := E0
theorem q_law08_Document_m (k : Nat) (d : Unit × ((Int × (Int × (Int × (Int × (Int × (Int × (Int × (Int × Unit)))))))) × Unit)) : evCode E_law08_Document (tab (L_law08_Document k)) c_law08_Document (bodyOf Try.f15) 0 (finK E_law08_Document po_law08_Document [.cell 2 31]) (startSt pi_law08_Document 20 d) = f_law08_Document_m () d := by kernel_rfl
def g_law08_Document (d : Unit × ((Int × (Int × (Int × (Int × (Int × (Int × (Int × (Int × Unit)))))))) × Unit)) : Option (Unit × ((Int × (Int × (Int × (Int × (Int × (Int × (Int × (Int × Unit)))))))) × Unit)) := f_law08_Document_m () d
theorem ok_law08_Document : FnOk Try.prog ET0 15 pi_law08_Document po_law08_Document g_law08_Document :=
  fn_of_body (E := E_law08_Document) e0_ok (fn := Try.f15) Try.func15 (by kernel_rfl) (by kernel_rfl) [.cell 2 31] (by kernel_rfl) (by kernel_rfl) (by decide) c_law08_Document L_law08_Document
    (by intro x hx; cases hx) (by intro k x hx; cases hx) (fun d out h => ⟨0, (q_law08_Document_m 0 d).trans h⟩)

/- horologe/horologenum.Num -/
@[reducible] def pi_hnum_Num : PSh := ⟨[], [.mk false [.v .err]]⟩
@[reducible] def po_hnum_Num : PSh := ⟨[], [.mk false [.v (.int .i64)]]⟩
def f_hnum_Num_m (T : Unit) (d : Unit × (((Option Int) × Unit) × Unit)) : Option (Unit × ((Int × Unit) × Unit)) :=
  bif d.2.1.1.isNone then (
  some ((), (((0 : Int), ()), ())))
  else (
  bif d.2.1.1.isSome then (
  let x1 : Bool := ((d.2.1.1.getD 0) != (0 : Int))
  bif x1 then (
  some ((), (((d.2.1.1.getD 0), ()), ())))
  else (
  some ((), (((-1 : Int), ()), ()))))
  else (
  some ((), (((-1 : Int), ()), ()))))
def c_hnum_Num : List Nat := []
def L_hnum_Num (_ : Nat) : Pts po_hnum_Num.den := []
def E_hnum_Num : Env := E0
theorem q_hnum_Num_m (k : Nat) (d : Unit × (((Option Int) × Unit) × Unit)) : evCode E_hnum_Num (tab (L_hnum_Num k)) c_hnum_Num (bodyOf Try.f16) 0 (finK E_hnum_Num po_hnum_Num [.tmp 2]) (startSt pi_hnum_Num 18 d) = f_hnum_Num_m () d := by kernel_rfl
def g_hnum_Num (d : Unit × (((Option Int) × Unit) × Unit)) : Option (Unit × ((Int × Unit) × Unit)) := f_hnum_Num_m () d
theorem ok_hnum_Num : FnOk Try.prog ET0 16 pi_hnum_Num po_hnum_Num g_hnum_Num :=
  fn_of_body (E := E_hnum_Num) e0_ok (fn := Try.f16) Try.func16 (by kernel_rfl) (by kernel_rfl) [.tmp 2] (by kernel_rfl) (by kernel_rfl) (by decide) c_hnum_Num L_hnum_Num
    (by intro x hx; cases hx) (by intro k x hx; cases hx) (fun d out h => ⟨0, (q_hnum_Num_m 0 d).trans h⟩)

/- horologe/label.Leap -/
@[reducible] def pi_label_Leap : PSh := ⟨[], [.mk true [.v (.int .i64), .v (.int .i64), .v (.int .i64), .v (.int .i64), .v (.int .i64), .v (.int .i64), .v (.int .i64), .v (.int .i64)]]⟩
@[reducible] def po_label_Leap : PSh := ⟨[], [.mk false [.v .bool]]⟩
def f_label_Leap_m (T : Unit) (d : Unit × ((Int × (Int × (Int × (Int × (Int × (Int × (Int × (Int × Unit)))))))) × Unit)) : Option (Unit × ((Bool × Unit) × Unit)) :=
  let x1 : Bool := (d.2.1.2.2.2.2.2.1 == (60 : Int))
  bif x1 then (
  (g_label_Check ((), ((d.2.1.1, (d.2.1.2.1, (d.2.1.2.2.1, (d.2.1.2.2.2.1, (d.2.1.2.2.2.2.1, (d.2.1.2.2.2.2.2.1, (d.2.1.2.2.2.2.2.2.1, (d.2.1.2.2.2.2.2.2.2.1, ())))))))), ()))).bind fun x2 =>
  some ((), ((x2.2.1.1.isNone, ()), ())))
  else (
  some ((), ((false, ()), ())))
def c_label_Leap : List Nat := []
def L_label_Leap (_ : Nat) : Pts po_label_Leap.den := []
def E_label_Leap : Env := (E0.add 17 (typedSem pi_label_Check po_label_Check g_label_Check))
theorem q_label_Leap_m (k : Nat) (d : Unit × ((Int × (Int × (Int × (Int × (Int × (Int × (Int × (Int × Unit)))))))) × Unit)) : evCode E_label_Leap (tab (L_label_Leap k)) c_label_Leap (bodyOf Try.f18) 0 (finK E_label_Leap po_label_Leap [.tmp 2]) (startSt pi_label_Leap 11 d) = f_label_Leap_m () d := by kernel_rfl
def g_label_Leap (d : Unit × ((Int × (Int × (Int × (Int × (Int × (Int × (Int × (Int × Unit)))))))) × Unit)) : Option (Unit × ((Bool × Unit) × Unit)) := f_label_Leap_m () d
theorem ok_label_Leap : FnOk Try.prog ET0 18 pi_label_Leap po_label_Leap g_label_Leap :=
  fn_of_body (E := E_label_Leap) (envOk_add e0_ok (typed_ok ok_label_Check)) (fn := Try.f18) Try.func18 (by kernel_rfl) (by kernel_rfl) [.tmp 2] (by kernel_rfl) (by kernel_rfl) (by decide) c_label_Leap L_label_Leap
    (by intro x hx; cases hx) (by intro k x hx; cases hx) (fun d out h => ⟨0, (q_label_Leap_m 0 d).trans h⟩)

/- horologe/horologelaw08.LabelChecks -/
@[reducible] def pi_law08_LabelChecks : PSh := ⟨[], [.mk true [.v (.int .i64), .v (.int .i64), .v (.int .i64), .v (.int .i64), .v (.int .i64), .v (.int .i64), .v (.int .i64), .v (.int .i64)]]⟩
@[reducible] def po_law08_LabelChecks : PSh := ⟨[], [.mk false [.v .bool]]⟩
def f_law08_LabelChecks_m (T : Unit) (d : Unit × ((Int × (Int × (Int × (Int × (Int × (Int × (Int × (Int × Unit)))))))) × Unit)) : Option (Unit × ((Bool × Unit) × Unit)) :=
  (g_law08_alive ((), ())).bind fun x1 =>
  let x2 : Bool := (!x1.2.1.1)
  bif x2 then (
  some ((), ((false, ()), ())))
  else (
  (g_label_Split ((), ((d.2.1.1, (d.2.1.2.1, (d.2.1.2.2.1, (d.2.1.2.2.2.1, (d.2.1.2.2.2.2.1, (d.2.1.2.2.2.2.2.1, (d.2.1.2.2.2.2.2.2.1, (d.2.1.2.2.2.2.2.2.2.1, ())))))))), ()))).bind fun x3 =>
  (g_law08_Document ((), ((d.2.1.1, (d.2.1.2.1, (d.2.1.2.2.1, (d.2.1.2.2.2.1, (d.2.1.2.2.2.2.1, (d.2.1.2.2.2.2.2.1, (d.2.1.2.2.2.2.2.2.1, (d.2.1.2.2.2.2.2.2.2.1, ())))))))), ()))).bind fun x4 =>
  (g_ref08_Split ((), ((x4.2.1.1, (x4.2.1.2.1, (x4.2.1.2.2.1, (x4.2.1.2.2.2.1, (x4.2.1.2.2.2.2.1, (x4.2.1.2.2.2.2.2.1, (x4.2.1.2.2.2.2.2.2.1, (x4.2.1.2.2.2.2.2.2.2.1, ())))))))), ()))).bind fun x5 =>
  let x6 : Bool := (x3.2.1.1 == x5.2.1.1)
  bif x6 then (
  let x7 : Bool := (x3.2.2.1.1 == x5.2.2.1.1)
  bif x7 then (
  (g_hnum_Num ((), ((x3.2.2.2.1.1, ()), ()))).bind fun x8 =>
  let x9 : Bool := (x8.2.1.1 == x5.2.2.2.1.1)
  bif x9 then (
  (g_label_Check ((), ((d.2.1.1, (d.2.1.2.1, (d.2.1.2.2.1, (d.2.1.2.2.2.1, (d.2.1.2.2.2.2.1, (d.2.1.2.2.2.2.2.1, (d.2.1.2.2.2.2.2.2.1, (d.2.1.2.2.2.2.2.2.2.1, ())))))))), ()))).bind fun x10 =>
  (g_hnum_Num ((), ((x10.2.1.1, ()), ()))).bind fun x11 =>
  let x12 : Bool := (x11.2.1.1 == x5.2.2.2.1.1)
  bif x12 then (
  (g_label_Leap ((), ((d.2.1.1, (d.2.1.2.1, (d.2.1.2.2.1, (d.2.1.2.2.2.1, (d.2.1.2.2.2.2.1, (d.2.1.2.2.2.2.2.1, (d.2.1.2.2.2.2.2.2.1, (d.2.1.2.2.2.2.2.2.2.1, ())))))))), ()))).bind fun x13 =>
  let x14 : Bool := (x5.2.2.2.1.1 == (0 : Int))
  bif x14 then (
  let x15 : Bool := (d.2.1.2.2.2.2.2.1 == (60 : Int))
  let x16 : Bool := (x13.2.1.1 == x15)
  some ((), ((x16, ()), ())))
  else (
  let x17 : Bool := (x13.2.1.1 == false)
  some ((), ((x17, ()), ()))))
  else (
  some ((), ((false, ()), ()))))
  else (
  some ((), ((false, ()), ()))))
  else (
  some ((), ((false, ()), ()))))
  else (
  some ((), ((false, ()), ()))))
def c_law08_LabelChecks : List Nat := []
def L_law08_LabelChecks (_ : Nat) : Pts po_law08_LabelChecks.den := []
def E_law08_LabelChecks : Env := (((((((E0.add 12 (typedSem pi_law08_alive po_law08_alive g_law08_alive)).add 13 (typedSem pi_label_Split po_label_Split g_label_Split)).add 14 (typedSem pi_ref08_Split po_ref08_Split g_ref08_Split)).add 15 (typedSem pi_law08_Document po_law08_Document g_law08_Document)).add 16 (typedSem pi_hnum_Num po_hnum_Num g_hnum_Num)).add 17 (typedSem pi_label_Check po_label_Check g_label_Check)).add 18 (typedSem pi_label_Leap po_label_Leap g_label_Leap))
theorem q_law08_LabelChecks_m (k : Nat) (d : Unit × ((Int × (Int × (Int × (Int × (Int × (Int × (Int × (Int × Unit)))))))) × Unit)) : evCode E_law08_LabelChecks (tab (L_law08_LabelChecks k)) c_law08_LabelChecks (bodyOf Try.f3) 0 (finK E_law08_LabelChecks po_law08_LabelChecks [.tmp 2]) (startSt pi_law08_LabelChecks 57 d) = f_law08_LabelChecks_m () d := by kernel_rfl
def g_law08_LabelChecks (d : Unit × ((Int × (Int × (Int × (Int × (Int × (Int × (Int × (Int × Unit)))))))) × Unit)) : Option (Unit × ((Bool × Unit) × Unit)) := f_law08_LabelChecks_m () d
theorem ok_law08_LabelChecks : FnOk Try.prog ET0 3 pi_law08_LabelChecks po_law08_LabelChecks g_law08_LabelChecks :=
  fn_of_body (E := E_law08_LabelChecks) (envOk_add (envOk_add (envOk_add (envOk_add (envOk_add (envOk_add (envOk_add e0_ok (typed_ok ok_law08_alive)) (typed_ok ok_label_Split)) (typed_ok ok_ref08_Split)) (typed_ok ok_law08_Document)) (typed_ok ok_hnum_Num)) (typed_ok ok_label_Check)) (typed_ok ok_label_Leap)) (fn := Try.f3) Try.func3 (by kernel_rfl) (by kernel_rfl) [.tmp 2] (by kernel_rfl) (by kernel_rfl) (by decide) c_law08_LabelChecks L_law08_LabelChecks
    (by intro x hx; cases hx) (by intro k x hx; cases hx) (fun d out h => ⟨0, (q_law08_LabelChecks_m 0 d).trans h⟩)

/- cmp.Or[int] -/
@[reducible] def pi_cmp_Or_int : PSh := ⟨[], [.mk false [.v (.sl (.int .i64))]]⟩
@[reducible] def po_cmp_Or_int : PSh := ⟨[], [.mk false [.v (.int .i64)]]⟩
@[reducible] def sh_cmp_Or_int_4 : PSh := ⟨[], [.any, .any, .any, .mk false [.v (.int .i64)], .any, .any, .mk false [.v (.sl (.int .i64))], .mk false [.v (.int .i64)], .mk false [.v (.int .i64)], .any, .any, .any, .any, .any, .any, .any, .any, .any]⟩
def f_cmp_Or_int_p4 (T : (((Unit × ((Int × Unit) × (((List Int) × Unit) × ((Int × Unit) × ((Int × Unit) × Unit))))) → Option (Unit × ((Int × Unit) × Unit))) × Unit)) (d : Unit × ((Int × Unit) × (((List Int) × Unit) × ((Int × Unit) × ((Int × Unit) × Unit))))) : Option (Unit × ((Int × Unit) × Unit)) :=
  let x2 : Bool := (decide (d.2.2.2.2.1.1 < d.2.2.2.1.1))
  bif x2 then (
  bif decide ((0 : Int) ≤ d.2.2.2.2.1.1) && decide (d.2.2.2.2.1.1 < (d.2.2.1.1.length : Int)) then (
  let x3 : Bool := ((gd (.int .i64) d.2.2.1.1 d.2.2.2.2.1.1) != d.2.1.1)
  bif x3 then (
  some ((), (((gd (.int .i64) d.2.2.1.1 d.2.2.2.2.1.1), ()), ())))
  else (
  let x4 : Int := (iadd .i64 d.2.2.2.2.1.1 (1 : Int))
  (T.1 ((), ((d.2.1.1, ()), ((d.2.2.1.1, ()), ((d.2.2.2.1.1, ()), ((x4, ()), ()))))))))
  else none)
  else (
  some ((), ((d.2.1.1, ()), ())))
def f_cmp_Or_int_t : Nat → (((Unit × ((Int × Unit) × (((List Int) × Unit) × ((Int × Unit) × ((Int × Unit) × Unit))))) → Option (Unit × ((Int × Unit) × Unit))) × Unit)
  | 0 => (fun _ => none, ())
  | k + 1 => (f_cmp_Or_int_p4 (f_cmp_Or_int_t k), ())
theorem t_cmp_Or_int (k : Nat) : f_cmp_Or_int_t (k + 1) = (f_cmp_Or_int_p4 (f_cmp_Or_int_t k), ()) := rfl
def f_cmp_Or_int_m (T : (((Unit × ((Int × Unit) × (((List Int) × Unit) × ((Int × Unit) × ((Int × Unit) × Unit))))) → Option (Unit × ((Int × Unit) × Unit))) × Unit)) (d : Unit × (((List Int) × Unit) × Unit)) : Option (Unit × ((Int × Unit) × Unit)) :=
  let x1 : Int := (d.2.1.1.length : Int)
  (T.1 ((), (((0 : Int), ()), ((d.2.1.1, ()), ((x1, ()), (((0 : Int), ()), ()))))))
def c_cmp_Or_int : List Nat := []
def L_cmp_Or_int (k : Nat) : Pts po_cmp_Or_int.den := [(4, ⟨sh_cmp_Or_int_4, (f_cmp_Or_int_t k).1⟩)]
def E_cmp_Or_int : Env := E0
theorem q_cmp_Or_int_4 (k : Nat) (d : Unit × ((Int × Unit) × (((List Int) × Unit) × ((Int × Unit) × ((Int × Unit) × Unit))))) : evAt E_cmp_Or_int (tab (L_cmp_Or_int k)) c_cmp_Or_int 4 (bodyOf Try.f55) 0 (finK E_cmp_Or_int po_cmp_Or_int [.tmp 2]) (ptSt sh_cmp_Or_int_4 d) = f_cmp_Or_int_p4 (f_cmp_Or_int_t k) d := by kernel_rfl
theorem q_cmp_Or_int_m (k : Nat) (d : Unit × (((List Int) × Unit) × Unit)) : evCode E_cmp_Or_int (tab (L_cmp_Or_int k)) c_cmp_Or_int (bodyOf Try.f55) 0 (finK E_cmp_Or_int po_cmp_Or_int [.tmp 2]) (startSt pi_cmp_Or_int 18 d) = f_cmp_Or_int_m (f_cmp_Or_int_t k) d := by kernel_rfl
theorem go_cmp_Or_int (G : pi_cmp_Or_int.den → Option po_cmp_Or_int.den) (hG : ∀ d out, G d = some out → ∃ k, f_cmp_Or_int_m (f_cmp_Or_int_t k) d = some out) : FnOk Try.prog ET0 55 pi_cmp_Or_int po_cmp_Or_int G :=
  fn_of_body (E := E_cmp_Or_int) e0_ok (fn := Try.f55) Try.func55 (by kernel_rfl) (by kernel_rfl) [.tmp 2] (by kernel_rfl) (by kernel_rfl) (by decide) c_cmp_Or_int L_cmp_Or_int
    (by intro x hx d; simp only [L_cmp_Or_int, List.mem_cons, List.not_mem_nil, or_false] at hx; subst hx; rfl)
    (by intro k x hx d out h; simp only [L_cmp_Or_int, List.mem_cons, List.not_mem_nil, or_false] at hx; subst hx; exact (q_cmp_Or_int_4 k d).trans h)
    (by intro d out h; obtain ⟨k, hk⟩ := hG d out h; exact ⟨k, (q_cmp_Or_int_m k d).trans hk⟩)
def g_cmp_Or_int (d : Unit × (((List Int) × Unit) × Unit)) : Option (Unit × ((Int × Unit) × Unit)) := lim fun k => f_cmp_Or_int_m (f_cmp_Or_int_t k) d
theorem ok_cmp_Or_int : FnOk Try.prog ET0 55 pi_cmp_Or_int po_cmp_Or_int g_cmp_Or_int := go_cmp_Or_int g_cmp_Or_int fun d out h => lim_some h

/- cmp.isNaN[int64] -/
@[reducible] def pi_cmp_isNaN_i64 : PSh := ⟨[], [.mk false [.v (.int .i64)]]⟩
@[reducible] def po_cmp_isNaN_i64 : PSh := ⟨[], [.mk false [.v .bool]]⟩
def f_cmp_isNaN_i64_m (T : Unit) (d : Unit × ((Int × Unit) × Unit)) : Option (Unit × ((Bool × Unit) × Unit)) :=
  let x1 : Bool := (d.2.1.1 != d.2.1.1)
  some ((), ((x1, ()), ()))
def c_cmp_isNaN_i64 : List Nat := []
def L_cmp_isNaN_i64 (_ : Nat) : Pts po_cmp_isNaN_i64.den := []
def E_cmp_isNaN_i64 : Env := E0
theorem q_cmp_isNaN_i64_m (k : Nat) (d : Unit × ((Int × Unit) × Unit)) : evCode E_cmp_isNaN_i64 (tab (L_cmp_isNaN_i64 k)) c_cmp_isNaN_i64 (bodyOf Try.f84) 0 (finK E_cmp_isNaN_i64 po_cmp_isNaN_i64 [.tmp 2]) (startSt pi_cmp_isNaN_i64 6 d) = f_cmp_isNaN_i64_m () d := by kernel_rfl
def g_cmp_isNaN_i64 (d : Unit × ((Int × Unit) × Unit)) : Option (Unit × ((Bool × Unit) × Unit)) := f_cmp_isNaN_i64_m () d
theorem ok_cmp_isNaN_i64 : FnOk Try.prog ET0 84 pi_cmp_isNaN_i64 po_cmp_isNaN_i64 g_cmp_isNaN_i64 :=
  fn_of_body (E := E_cmp_isNaN_i64) e0_ok (fn := Try.f84) Try.func84 (by kernel_rfl) (by kernel_rfl) [.tmp 2] (by kernel_rfl) (by kernel_rfl) (by decide) c_cmp_isNaN_i64 L_cmp_isNaN_i64
    (by intro x hx; cases hx) (by intro k x hx; cases hx) (fun d out h => ⟨0, (q_cmp_isNaN_i64_m 0 d).trans h⟩)

/- cmp.Compare[int64] -/
@[reducible] def pi_cmp_Compare_i64 : PSh := ⟨[], [.mk false [.v (.int .i64)], .mk false [.v (.int .i64)]]⟩
@[reducible] def po_cmp_Compare_i64 : PSh := ⟨[], [.mk false [.v (.int .i64)]]⟩
def f_cmp_Compare_i64_m (T : Unit) (d : Unit × ((Int × Unit) × ((Int × Unit) × Unit))) : Option (Unit × ((Int × Unit) × Unit)) :=
  (g_cmp_isNaN_i64 ((), ((d.2.1.1, ()), ()))).bind fun x1 =>
  (g_cmp_isNaN_i64 ((), ((d.2.2.1.1, ()), ()))).bind fun x2 =>
  bif x1.2.1.1 then (
  bif x2.2.1.1 then (
  some ((), (((0 : Int), ()), ())))
  else (
  some ((), (((-1 : Int), ()), ()))))
  else (
  bif x2.2.1.1 then (
  some ((), (((1 : Int), ()), ())))
  else (
  let x3 : Bool := (decide (d.2.1.1 < d.2.2.1.1))
  bif x3 then (
  some ((), (((-1 : Int), ()), ())))
  else (
  let x4 : Bool := (decide (d.2.1.1 > d.2.2.1.1))
  bif x4 then (
  some ((), (((1 : Int), ()), ())))
  else (
  some ((), (((0 : Int), ()), ()))))))
def c_cmp_Compare_i64 : List Nat := []
def L_cmp_Compare_i64 (_ : Nat) : Pts po_cmp_Compare_i64.den := []
def E_cmp_Compare_i64 : Env := (E0.add 84 (typedSem pi_cmp_isNaN_i64 po_cmp_isNaN_i64 g_cmp_isNaN_i64))
theorem q_cmp_Compare_i64_m (k : Nat) (d : Unit × ((Int × Unit) × ((Int × Unit) × Unit))) : evCode E_cmp_Compare_i64 (tab (L_cmp_Compare_i64 k)) c_cmp_Compare_i64 (bodyOf Try.f56) 0 (finK E_cmp_Compare_i64 po_cmp_Compare_i64 [.tmp 4]) (startSt pi_cmp_Compare_i64 20 d) = f_cmp_Compare_i64_m () d := by kernel_rfl
def g_cmp_Compare_i64 (d : Unit × ((Int × Unit) × ((Int × Unit) × Unit))) : Option (Unit × ((Int × Unit) × Unit)) := f_cmp_Compare_i64_m () d
theorem ok_cmp_Compare_i64 : FnOk Try.prog ET0 56 pi_cmp_Compare_i64 po_cmp_Compare_i64 g_cmp_Compare_i64 :=
  fn_of_body (E := E_cmp_Compare_i64) (envOk_add e0_ok (typed_ok ok_cmp_isNaN_i64)) (fn := Try.f56) Try.func56 (by kernel_rfl) (by kernel_rfl) [.tmp 4] (by kernel_rfl) (by kernel_rfl) (by decide) c_cmp_Compare_i64 L_cmp_Compare_i64
    (by intro x hx; cases hx) (by intro k x hx; cases hx) (fun d out h => ⟨0, (q_cmp_Compare_i64_m 0 d).trans h⟩)

/- cmp.isNaN[int] -/
@[reducible] def pi_cmp_isNaN_int : PSh := ⟨[], [.mk false [.v (.int .i64)]]⟩
@[reducible] def po_cmp_isNaN_int : PSh := ⟨[], [.mk false [.v .bool]]⟩
def f_cmp_isNaN_int_m (T : Unit) (d : Unit × ((Int × Unit) × Unit)) : Option (Unit × ((Bool × Unit) × Unit)) :=
  let x1 : Bool := (d.2.1.1 != d.2.1.1)
  some ((), ((x1, ()), ()))
def c_cmp_isNaN_int : List Nat := []
def L_cmp_isNaN_int (_ : Nat) : Pts po_cmp_isNaN_int.den := []
def E_cmp_isNaN_int : Env := E0
theorem q_cmp_isNaN_int_m (k : Nat) (d : Unit × ((Int × Unit) × Unit)) : evCode E_cmp_isNaN_int (tab (L_cmp_isNaN_int k)) c_cmp_isNaN_int (bodyOf Try.f85) 0 (finK E_cmp_isNaN_int po_cmp_isNaN_int [.tmp 2]) (startSt pi_cmp_isNaN_int 6 d) = f_cmp_isNaN_int_m () d := by kernel_rfl
def g_cmp_isNaN_int (d : Unit × ((Int × Unit) × Unit)) : Option (Unit × ((Bool × Unit) × Unit)) := f_cmp_isNaN_int_m () d
theorem ok_cmp_isNaN_int : FnOk Try.prog ET0 85 pi_cmp_isNaN_int po_cmp_isNaN_int g_cmp_isNaN_int :=
  fn_of_body (E := E_cmp_isNaN_int) e0_ok (fn := Try.f85) Try.func85 (by kernel_rfl) (by kernel_rfl) [.tmp 2] (by kernel_rfl) (by kernel_rfl) (by decide) c_cmp_isNaN_int L_cmp_isNaN_int
    (by intro x hx; cases hx) (by intro k x hx; cases hx) (fun d out h => ⟨0, (q_cmp_isNaN_int_m 0 d).trans h⟩)

/- cmp.Compare[int] -/
@[reducible] def pi_cmp_Compare_int : PSh := ⟨[], [.mk false [.v (.int .i64)], .mk false [.v (.int .i64)]]⟩
@[reducible] def po_cmp_Compare_int : PSh := ⟨[], [.mk false [.v (.int .i64)]]⟩
def f_cmp_Compare_int_m (T : Unit) (d : Unit × ((Int × Unit) × ((Int × Unit) × Unit))) : Option (Unit × ((Int × Unit) × Unit)) :=
  (g_cmp_isNaN_int ((), ((d.2.1.1, ()), ()))).bind fun x1 =>
  (g_cmp_isNaN_int ((), ((d.2.2.1.1, ()), ()))).bind fun x2 =>
  bif x1.2.1.1 then (
  bif x2.2.1.1 then (
  some ((), (((0 : Int), ()), ())))
  else (
  some ((), (((-1 : Int), ()), ()))))
  else (
  bif x2.2.1.1 then (
  some ((), (((1 : Int), ()), ())))
  else (
  let x3 : Bool := (decide (d.2.1.1 < d.2.2.1.1))
  bif x3 then (
  some ((), (((-1 : Int), ()), ())))
  else (
  let x4 : Bool := (decide (d.2.1.1 > d.2.2.1.1))
  bif x4 then (
  some ((), (((1 : Int), ()), ())))
  else (
  some ((), (((0 : Int), ()), ()))))))
def c_cmp_Compare_int : List Nat := []
def L_cmp_Compare_int (_ : Nat) : Pts po_cmp_Compare_int.den := []
def E_cmp_Compare_int : Env := (E0.add 85 (typedSem pi_cmp_isNaN_int po_cmp_isNaN_int g_cmp_isNaN_int))
theorem q_cmp_Compare_int_m (k : Nat) (d : Unit × ((Int × Unit) × ((Int × Unit) × Unit))) : evCode E_cmp_Compare_int (tab (L_cmp_Compare_int k)) c_cmp_Compare_int (bodyOf Try.f57) 0 (finK E_cmp_Compare_int po_cmp_Compare_int [.tmp 4]) (startSt pi_cmp_Compare_int 20 d) = f_cmp_Compare_int_m () d := by kernel_rfl
def g_cmp_Compare_int (d : Unit × ((Int × Unit) × ((Int × Unit) × Unit))) : Option (Unit × ((Int × Unit) × Unit)) := f_cmp_Compare_int_m () d
theorem ok_cmp_Compare_int : FnOk Try.prog ET0 57 pi_cmp_Compare_int po_cmp_Compare_int g_cmp_Compare_int :=
  fn_of_body (E := E_cmp_Compare_int) (envOk_add e0_ok (typed_ok ok_cmp_isNaN_int)) (fn := Try.f57) Try.func57 (by kernel_rfl) (by kernel_rfl) [.tmp 4] (by kernel_rfl) (by kernel_rfl) (by decide) c_cmp_Compare_int L_cmp_Compare_int
    (by intro x hx; cases hx) (by intro k x hx; cases hx) (fun d out h => ⟨0, (q_cmp_Compare_int_m 0 d).trans h⟩)

/- horologe/label.Compare -/
@[reducible] def pi_label_Compare : PSh := ⟨[], [.mk true [.v (.int .i64), .v (.int .i64), .v (.int .i64), .v (.int .i64), .v (.int .i64), .v (.int .i64), .v (.int .i64), .v (.int .i64)], .mk true [.v (.int .i64), .v (.int .i64), .v (.int .i64), .v (.int .i64), .v (.int .i64), .v (.int .i64), .v (.int .i64), .v (.int .i64)]]⟩
@[reducible] def po_label_Compare : PSh := ⟨[], [.mk false [.v (.int .i64)], .mk false [.v .err]]⟩
def f_label_Compare_m (T : Unit) (d : Unit × ((Int × (Int × (Int × (Int × (Int × (Int × (Int × (Int × Unit)))))))) × ((Int × (Int × (Int × (Int × (Int × (Int × (Int × (Int × Unit)))))))) × Unit))) : Option (Unit × ((Int × Unit) × (((Option Int) × Unit) × Unit))) :=
  (g_label_Split ((), ((d.2.1.1, (d.2.1.2.1, (d.2.1.2.2.1, (d.2.1.2.2.2.1, (d.2.1.2.2.2.2.1, (d.2.1.2.2.2.2.2.1, (d.2.1.2.2.2.2.2.2.1, (d.2.1.2.2.2.2.2.2.2.1, ())))))))), ()))).bind fun x1 =>
  let x2 : Bool := (!x1.2.2.2.1.1.isNone)
  bif x2 then (
  some ((), (((0 : Int), ()), ((x1.2.2.2.1.1, ()), ()))))
  else (
  (g_label_Split ((), ((d.2.2.1.1, (d.2.2.1.2.1, (d.2.2.1.2.2.1, (d.2.2.1.2.2.2.1, (d.2.2.1.2.2.2.2.1, (d.2.2.1.2.2.2.2.2.1, (d.2.2.1.2.2.2.2.2.2.1, (d.2.2.1.2.2.2.2.2.2.2.1, ())))))))), ()))).bind fun x3 =>
  let x4 : Bool := (!x3.2.2.2.1.1.isNone)
  bif x4 then (
  some ((), (((0 : Int), ()), ((x3.2.2.2.1.1, ()), ()))))
  else (
  (g_cmp_Compare_i64 ((), ((x1.2.1.1, ()), ((x3.2.1.1, ()), ())))).bind fun x5 =>
  (g_cmp_Compare_int ((), ((x1.2.2.1.1, ()), ((x3.2.2.1.1, ()), ())))).bind fun x6 =>
  (g_cmp_Compare_int ((), ((d.2.1.2.2.2.2.2.2.1, ()), ((d.2.2.1.2.2.2.2.2.2.1, ()), ())))).bind fun x7 =>
  let x8 : (List Int) := ([x5.2.1.1, x6.2.1.1, x7.2.1.1] : List Int)
  (g_cmp_Or_int ((), ((x8, ()), ()))).bind fun x9 =>
  some ((), ((x9.2.1.1, ()), (((none : Option Int), ()), ())))))
def c_label_Compare : List Nat := []
def L_label_Compare (_ : Nat) : Pts po_label_Compare.den := []
def E_label_Compare : Env := ((((E0.add 13 (typedSem pi_label_Split po_label_Split g_label_Split)).add 55 (typedSem pi_cmp_Or_int po_cmp_Or_int g_cmp_Or_int)).add 56 (typedSem pi_cmp_Compare_i64 po_cmp_Compare_i64 g_cmp_Compare_i64)).add 57 (typedSem pi_cmp_Compare_int po_cmp_Compare_int g_cmp_Compare_int))
theorem q_label_Compare_m (k : Nat) (d : Unit × ((Int × (Int × (Int × (Int × (Int × (Int × (Int × (Int × Unit)))))))) × ((Int × (Int × (Int × (Int × (Int × (Int × (Int × (Int × Unit)))))))) × Unit))) : evCode E_label_Compare (tab (L_label_Compare k)) c_label_Compare (bodyOf Try.f19) 0 (finK E_label_Compare po_label_Compare [.tmp 4, .tmp 5]) (startSt pi_label_Compare 42 d) = f_label_Compare_m () d := by kernel_rfl
def g_label_Compare (d : Unit × ((Int × (Int × (Int × (Int × (Int × (Int × (Int × (Int × Unit)))))))) × ((Int × (Int × (Int × (Int × (Int × (Int × (Int × (Int × Unit)))))))) × Unit))) : Option (Unit × ((Int × Unit) × (((Option Int) × Unit) × Unit))) := f_label_Compare_m () d
theorem ok_label_Compare : FnOk Try.prog ET0 19 pi_label_Compare po_label_Compare g_label_Compare :=
  fn_of_body (E := E_label_Compare) (envOk_add (envOk_add (envOk_add (envOk_add e0_ok (typed_ok ok_label_Split)) (typed_ok ok_cmp_Or_int)) (typed_ok ok_cmp_Compare_i64)) (typed_ok ok_cmp_Compare_int)) (fn := Try.f19) Try.func19 (by kernel_rfl) (by kernel_rfl) [.tmp 4, .tmp 5] (by kernel_rfl) (by kernel_rfl) (by decide) c_label_Compare L_label_Compare
    (by intro x hx; cases hx) (by intro k x hx; cases hx) (fun d out h => ⟨0, (q_label_Compare_m 0 d).trans h⟩)

/- horologe/horologeref08.Compare -/
@[reducible] def pi_ref08_Compare : PSh := ⟨[], [.mk true [.v (.int .i64), .v (.int .i64), .v (.int .i64), .v (.int .i64), .v (.int .i64), .v (.int .i64), .v (.int .i64), .v (.int .i64)], .mk true [.v (.int .i64), .v (.int .i64), .v (.int .i64), .v (.int .i64), .v (.int .i64), .v (.int .i64), .v (.int .i64), .v (.int .i64)]]⟩
@[reducible] def po_ref08_Compare : PSh := ⟨[], [.mk false [.v (.int .i64)], .mk false [.v (.int .i64)]]⟩
def f_ref08_Compare_m (T : Unit) (d : Unit × ((Int × (Int × (Int × (Int × (Int × (Int × (Int × (Int × Unit)))))))) × ((Int × (Int × (Int × (Int × (Int × (Int × (Int × (Int × Unit)))))))) × Unit))) : Option (Unit × ((Int × Unit) × ((Int × Unit) × Unit))) :=
  (g_ref08_Split ((), ((d.2.1.1, (d.2.1.2.1, (d.2.1.2.2.1, (d.2.1.2.2.2.1, (d.2.1.2.2.2.2.1, (d.2.1.2.2.2.2.2.1, (d.2.1.2.2.2.2.2.2.1, (d.2.1.2.2.2.2.2.2.2.1, ())))))))), ()))).bind fun x1 =>
  let x2 : Bool := (x1.2.2.2.1.1 != (0 : Int))
  bif x2 then (
  some ((), (((0 : Int), ()), ((x1.2.2.2.1.1, ()), ()))))
  else (
  (g_ref08_Split ((), ((d.2.2.1.1, (d.2.2.1.2.1, (d.2.2.1.2.2.1, (d.2.2.1.2.2.2.1, (d.2.2.1.2.2.2.2.1, (d.2.2.1.2.2.2.2.2.1, (d.2.2.1.2.2.2.2.2.2.1, (d.2.2.1.2.2.2.2.2.2.2.1, ())))))))), ()))).bind fun x3 =>
  let x4 : Bool := (x3.2.2.2.1.1 != (0 : Int))
  bif x4 then (
  some ((), (((0 : Int), ()), ((x3.2.2.2.1.1, ()), ()))))
  else (
  let x5 : Bool := (decide (x1.2.1.1 < x3.2.1.1))
  bif x5 then (
  some ((), (((-1 : Int), ()), (((0 : Int), ()), ()))))
  else (
  let x6 : Bool := (x1.2.1.1 == x3.2.1.1)
  bif x6 then (
  let x7 : Bool := (decide (x1.2.2.1.1 < x3.2.2.1.1))
  bif x7 then (
  some ((), (((-1 : Int), ()), (((0 : Int), ()), ()))))
  else (
  let x8 : Bool := (x1.2.2.1.1 == x3.2.2.1.1)
  bif x8 then (
  let x9 : Bool := (decide (d.2.1.2.2.2.2.2.2.1 < d.2.2.1.2.2.2.2.2.2.1))
  bif x9 then (
  some ((), (((-1 : Int), ()), (((0 : Int), ()), ()))))
  else (
  let x10 : Bool := (x1.2.1.1 == x3.2.1.1)
  bif x10 then (
  let x11 : Bool := (x1.2.2.1.1 == x3.2.2.1.1)
  bif x11 then (
  let x12 : Bool := (d.2.1.2.2.2.2.2.2.1 == d.2.2.1.2.2.2.2.2.2.1)
  bif x12 then (
  some ((), (((0 : Int), ()), (((0 : Int), ()), ()))))
  else (
  some ((), (((1 : Int), ()), (((0 : Int), ()), ())))))
  else (
  some ((), (((1 : Int), ()), (((0 : Int), ()), ())))))
  else (
  some ((), (((1 : Int), ()), (((0 : Int), ()), ()))))))
  else (
  let x13 : Bool := (x1.2.1.1 == x3.2.1.1)
  bif x13 then (
  let x14 : Bool := (x1.2.2.1.1 == x3.2.2.1.1)
  bif x14 then (
  let x15 : Bool := (d.2.1.2.2.2.2.2.2.1 == d.2.2.1.2.2.2.2.2.2.1)
  bif x15 then (
  some ((), (((0 : Int), ()), (((0 : Int), ()), ()))))
  else (
  some ((), (((1 : Int), ()), (((0 : Int), ()), ())))))
  else (
  some ((), (((1 : Int), ()), (((0 : Int), ()), ())))))
  else (
  some ((), (((1 : Int), ()), (((0 : Int), ()), ())))))))
  else (
  let x16 : Bool := (x1.2.1.1 == x3.2.1.1)
  bif x16 then (
  let x17 : Bool := (x1.2.2.1.1 == x3.2.2.1.1)
  bif x17 then (
  let x18 : Bool := (d.2.1.2.2.2.2.2.2.1 == d.2.2.1.2.2.2.2.2.2.1)
  bif x18 then (
  some ((), (((0 : Int), ()), (((0 : Int), ()), ()))))
  else (
  some ((), (((1 : Int), ()), (((0 : Int), ()), ())))))
  else (
  some ((), (((1 : Int), ()), (((0 : Int), ()), ())))))
  else (
  some ((), (((1 : Int), ()), (((0 : Int), ()), ()))))))))
def c_ref08_Compare : List Nat := []
def L_ref08_Compare (_ : Nat) : Pts po_ref08_Compare.den := []
def E_ref08_Compare : Env := (E0.add 14 (typedSem pi_ref08_Split po_ref08_Split g_ref08_Split))
theorem q_ref08_Compare_m (k : Nat) (d : Unit × ((Int × (Int × (Int × (Int × (Int × (Int × (Int × (Int × Unit)))))))) × ((Int × (Int × (Int × (Int × (Int × (Int × (Int × (Int × Unit)))))))) × Unit))) : evCode E_ref08_Compare (tab (L_ref08_Compare k)) c_ref08_Compare (bodyOf Try.f20) 0 (finK E_ref08_Compare po_ref08_Compare [.tmp 4, .tmp 5]) (startSt pi_ref08_Compare 69 d) = f_ref08_Compare_m () d := by kernel_rfl
def g_ref08_Compare (d : Unit × ((Int × (Int × (Int × (Int × (Int × (Int × (Int × (Int × Unit)))))))) × ((Int × (Int × (Int × (Int × (Int × (Int × (Int × (Int × Unit)))))))) × Unit))) : Option (Unit × ((Int × Unit) × ((Int × Unit) × Unit))) := f_ref08_Compare_m () d
theorem ok_ref08_Compare : FnOk Try.prog ET0 20 pi_ref08_Compare po_ref08_Compare g_ref08_Compare :=
  fn_of_body (E := E_ref08_Compare) (envOk_add e0_ok (typed_ok ok_ref08_Split)) (fn := Try.f20) Try.func20 (by kernel_rfl) (by kernel_rfl) [.tmp 4, .tmp 5] (by kernel_rfl) (by kernel_rfl) (by decide) c_ref08_Compare L_ref08_Compare
    (by intro x hx; cases hx) (by intro k x hx; cases hx) (fun d out h => ⟨0, (q_ref08_Compare_m 0 d).trans h⟩)

/- horologe/horologelaw08.LabelOrders -/
@[reducible] def pi_law08_LabelOrders : PSh := ⟨[], [.mk true [.v (.int .i64), .v (.int .i64), .v (.int .i64), .v (.int .i64), .v (.int .i64), .v (.int .i64), .v (.int .i64), .v (.int .i64)], .mk true [.v (.int .i64), .v (.int .i64), .v (.int .i64), .v (.int .i64), .v (.int .i64), .v (.int .i64), .v (.int .i64), .v (.int .i64)], .mk true [.v (.int .i64), .v (.int .i64), .v (.int .i64), .v (.int .i64), .v (.int .i64), .v (.int .i64), .v (.int .i64), .v (.int .i64)]]⟩
@[reducible] def po_law08_LabelOrders : PSh := ⟨[], [.mk false [.v .bool]]⟩
def f_law08_LabelOrders_m (T : Unit) (d : Unit × ((Int × (Int × (Int × (Int × (Int × (Int × (Int × (Int × Unit)))))))) × ((Int × (Int × (Int × (Int × (Int × (Int × (Int × (Int × Unit)))))))) × ((Int × (Int × (Int × (Int × (Int × (Int × (Int × (Int × Unit)))))))) × Unit)))) : Option (Unit × ((Bool × Unit) × Unit)) :=
  (g_law08_alive ((), ())).bind fun x1 =>
  let x2 : Bool := (!x1.2.1.1)
  bif x2 then (
  some ((), ((false, ()), ())))
  else (
  (g_label_Compare ((), ((d.2.1.1, (d.2.1.2.1, (d.2.1.2.2.1, (d.2.1.2.2.2.1, (d.2.1.2.2.2.2.1, (d.2.1.2.2.2.2.2.1, (d.2.1.2.2.2.2.2.2.1, (d.2.1.2.2.2.2.2.2.2.1, ())))))))), ((d.2.2.1.1, (d.2.2.1.2.1, (d.2.2.1.2.2.1, (d.2.2.1.2.2.2.1, (d.2.2.1.2.2.2.2.1, (d.2.2.1.2.2.2.2.2.1, (d.2.2.1.2.2.2.2.2.2.1, (d.2.2.1.2.2.2.2.2.2.2.1, ())))))))), ())))).bind fun x3 =>
  (g_law08_Document ((), ((d.2.1.1, (d.2.1.2.1, (d.2.1.2.2.1, (d.2.1.2.2.2.1, (d.2.1.2.2.2.2.1, (d.2.1.2.2.2.2.2.1, (d.2.1.2.2.2.2.2.2.1, (d.2.1.2.2.2.2.2.2.2.1, ())))))))), ()))).bind fun x4 =>
  (g_law08_Document ((), ((d.2.2.1.1, (d.2.2.1.2.1, (d.2.2.1.2.2.1, (d.2.2.1.2.2.2.1, (d.2.2.1.2.2.2.2.1, (d.2.2.1.2.2.2.2.2.1, (d.2.2.1.2.2.2.2.2.2.1, (d.2.2.1.2.2.2.2.2.2.2.1, ())))))))), ()))).bind fun x5 =>
  (g_ref08_Compare ((), ((x4.2.1.1, (x4.2.1.2.1, (x4.2.1.2.2.1, (x4.2.1.2.2.2.1, (x4.2.1.2.2.2.2.1, (x4.2.1.2.2.2.2.2.1, (x4.2.1.2.2.2.2.2.2.1, (x4.2.1.2.2.2.2.2.2.2.1, ())))))))), ((x5.2.1.1, (x5.2.1.2.1, (x5.2.1.2.2.1, (x5.2.1.2.2.2.1, (x5.2.1.2.2.2.2.1, (x5.2.1.2.2.2.2.2.1, (x5.2.1.2.2.2.2.2.2.1, (x5.2.1.2.2.2.2.2.2.2.1, ())))))))), ())))).bind fun x6 =>
  let x7 : Bool := (x3.2.1.1 != x6.2.1.1)
  bif x7 then (
  some ((), ((false, ()), ())))
  else (
  (g_hnum_Num ((), ((x3.2.2.1.1, ()), ()))).bind fun x8 =>
  let x9 : Bool := (x8.2.1.1 != x6.2.2.1.1)
  bif x9 then (
  some ((), ((false, ()), ())))
  else (
  (g_label_Compare ((), ((d.2.2.1.1, (d.2.2.1.2.1, (d.2.2.1.2.2.1, (d.2.2.1.2.2.2.1, (d.2.2.1.2.2.2.2.1, (d.2.2.1.2.2.2.2.2.1, (d.2.2.1.2.2.2.2.2.2.1, (d.2.2.1.2.2.2.2.2.2.2.1, ())))))))), ((d.2.1.1, (d.2.1.2.1, (d.2.1.2.2.1, (d.2.1.2.2.2.1, (d.2.1.2.2.2.2.1, (d.2.1.2.2.2.2.2.1, (d.2.1.2.2.2.2.2.2.1, (d.2.1.2.2.2.2.2.2.2.1, ())))))))), ())))).bind fun x10 =>
  (g_label_Compare ((), ((d.2.2.1.1, (d.2.2.1.2.1, (d.2.2.1.2.2.1, (d.2.2.1.2.2.2.1, (d.2.2.1.2.2.2.2.1, (d.2.2.1.2.2.2.2.2.1, (d.2.2.1.2.2.2.2.2.2.1, (d.2.2.1.2.2.2.2.2.2.2.1, ())))))))), ((d.2.2.2.1.1, (d.2.2.2.1.2.1, (d.2.2.2.1.2.2.1, (d.2.2.2.1.2.2.2.1, (d.2.2.2.1.2.2.2.2.1, (d.2.2.2.1.2.2.2.2.2.1, (d.2.2.2.1.2.2.2.2.2.2.1, (d.2.2.2.1.2.2.2.2.2.2.2.1, ())))))))), ())))).bind fun x11 =>
  (g_label_Compare ((), ((d.2.1.1, (d.2.1.2.1, (d.2.1.2.2.1, (d.2.1.2.2.2.1, (d.2.1.2.2.2.2.1, (d.2.1.2.2.2.2.2.1, (d.2.1.2.2.2.2.2.2.1, (d.2.1.2.2.2.2.2.2.2.1, ())))))))), ((d.2.2.2.1.1, (d.2.2.2.1.2.1, (d.2.2.2.1.2.2.1, (d.2.2.2.1.2.2.2.1, (d.2.2.2.1.2.2.2.2.1, (d.2.2.2.1.2.2.2.2.2.1, (d.2.2.2.1.2.2.2.2.2.2.1, (d.2.2.2.1.2.2.2.2.2.2.2.1, ())))))))), ())))).bind fun x12 =>
  let x13 : Bool := (!x3.2.2.1.1.isNone)
  bif x13 then (
  some ((), ((true, ()), ())))
  else (
  let x14 : Bool := (!x10.2.2.1.1.isNone)
  bif x14 then (
  some ((), ((true, ()), ())))
  else (
  let x15 : Bool := (!x11.2.2.1.1.isNone)
  bif x15 then (
  some ((), ((true, ()), ())))
  else (
  let x16 : Bool := (!x12.2.2.1.1.isNone)
  bif x16 then (
  some ((), ((true, ()), ())))
  else (
  let x17 : Int := (ineg .i64 x10.2.1.1)
  let x18 : Bool := (x3.2.1.1 == x17)
  bif x18 then (
  let x19 : Bool := (decide (x3.2.1.1 > (0 : Int)))
  bif x19 then (
  let x20 : Bool := (decide (x3.2.1.1 ≥ (0 : Int)))
  bif x20 then (
  some ((), ((true, ()), ())))
  else (
  let x21 : Bool := (decide (x11.2.1.1 > (0 : Int)))
  bif x21 then (
  some ((), ((true, ()), ())))
  else (
  let x22 : Bool := (decide (x12.2.1.1 < (0 : Int)))
  some ((), ((x22, ()), ())))))
  else (
  let x23 : Bool := (decide (x11.2.1.1 > (0 : Int)))
  bif x23 then (
  let x24 : Bool := (decide (x3.2.1.1 ≥ (0 : Int)))
  bif x24 then (
  some ((), ((true, ()), ())))
  else (
  let x25 : Bool := (decide (x11.2.1.1 > (0 : Int)))
  bif x25 then (
  some ((), ((true, ()), ())))
  else (
  let x26 : Bool := (decide (x12.2.1.1 < (0 : Int)))
  some ((), ((x26, ()), ())))))
  else (
  let x27 : Bool := (decide (x12.2.1.1 ≤ (0 : Int)))
  bif x27 then (
  let x28 : Bool := (decide (x3.2.1.1 ≥ (0 : Int)))
  bif x28 then (
  some ((), ((true, ()), ())))
  else (
  let x29 : Bool := (decide (x11.2.1.1 > (0 : Int)))
  bif x29 then (
  some ((), ((true, ()), ())))
  else (
  let x30 : Bool := (decide (x12.2.1.1 < (0 : Int)))
  some ((), ((x30, ()), ())))))
  else (
  some ((), ((false, ()), ()))))))
  else (
  some ((), ((false, ()), ()))))))))))
def c_law08_LabelOrders : List Nat := []
def L_law08_LabelOrders (_ : Nat) : Pts po_law08_LabelOrders.den := []
def E_law08_LabelOrders : Env := (((((E0.add 12 (typedSem pi_law08_alive po_law08_alive g_law08_alive)).add 15 (typedSem pi_law08_Document po_law08_Document g_law08_Document)).add 16 (typedSem pi_hnum_Num po_hnum_Num g_hnum_Num)).add 19 (typedSem pi_label_Compare po_label_Compare g_label_Compare)).add 20 (typedSem pi_ref08_Compare po_ref08_Compare g_ref08_Compare))
theorem q_law08_LabelOrders_m (k : Nat) (d : Unit × ((Int × (Int × (Int × (Int × (Int × (Int × (Int × (Int × Unit)))))))) × ((Int × (Int × (Int × (Int × (Int × (Int × (Int × (Int × Unit)))))))) × ((Int × (Int × (Int × (Int × (Int × (Int × (Int × (Int × Unit)))))))) × Unit)))) : evCode E_law08_LabelOrders (tab (L_law08_LabelOrders k)) c_law08_LabelOrders (bodyOf Try.f4) 0 (finK E_law08_LabelOrders po_law08_LabelOrders [.tmp 6]) (startSt pi_law08_LabelOrders 102 d) = f_law08_LabelOrders_m () d := by kernel_rfl
def g_law08_LabelOrders (d : Unit × ((Int × (Int × (Int × (Int × (Int × (Int × (Int × (Int × Unit)))))))) × ((Int × (Int × (Int × (Int × (Int × (Int × (Int × (Int × Unit)))))))) × ((Int × (Int × (Int × (Int × (Int × (Int × (Int × (Int × Unit)))))))) × Unit)))) : Option (Unit × ((Bool × Unit) × Unit)) := f_law08_LabelOrders_m () d
theorem ok_law08_LabelOrders : FnOk Try.prog ET0 4 pi_law08_LabelOrders po_law08_LabelOrders g_law08_LabelOrders :=
  fn_of_body (E := E_law08_LabelOrders) (envOk_add (envOk_add (envOk_add (envOk_add (envOk_add e0_ok (typed_ok ok_law08_alive)) (typed_ok ok_law08_Document)) (typed_ok ok_hnum_Num)) (typed_ok ok_label_Compare)) (typed_ok ok_ref08_Compare)) (fn := Try.f4) Try.func4 (by kernel_rfl) (by kernel_rfl) [.tmp 6] (by kernel_rfl) (by kernel_rfl) (by decide) c_law08_LabelOrders L_law08_LabelOrders
    (by intro x hx; cases hx) (by intro k x hx; cases hx) (fun d out h => ⟨0, (q_law08_LabelOrders_m 0 d).trans h⟩)

/- horologe/label.clock -/
@[reducible] def pi_label_clock : PSh := ⟨[], [.mk false [.v (.int .i64)]]⟩
@[reducible] def po_label_clock : PSh := ⟨[], [.mk false [.v (.int .i64)], .mk false [.v (.int .i64)]]⟩
def f_label_clock_m (T : Unit) (d : Unit × ((Int × Unit) × Unit)) : Option (Unit × ((Int × Unit) × ((Int × Unit) × Unit))) :=
  let x1 : Bool := (d.2.1.1 == (86400 : Int))
  bif x1 then (
  some ((), (((1439 : Int), ()), (((60 : Int), ()), ()))))
  else (
  let x2 : Int := (iquo .i64 d.2.1.1 (60 : Int))
  let x3 : Int := (Int.tmod d.2.1.1 (60 : Int))
  some ((), ((x2, ()), ((x3, ()), ()))))
def c_label_clock : List Nat := []
def L_label_clock (_ : Nat) : Pts po_label_clock.den := []
def E_label_clock : Env := E0
theorem q_label_clock_m (k : Nat) (d : Unit × ((Int × Unit) × Unit)) : evCode E_label_clock (tab (L_label_clock k)) c_label_clock (bodyOf Try.f60) 0 (finK E_label_clock po_label_clock [.tmp 2, .tmp 3]) (startSt pi_label_clock 10 d) = f_label_clock_m () d := by kernel_rfl
def g_label_clock (d : Unit × ((Int × Unit) × Unit)) : Option (Unit × ((Int × Unit) × ((Int × Unit) × Unit))) := f_label_clock_m () d
theorem ok_label_clock : FnOk Try.prog ET0 60 pi_label_clock po_label_clock g_label_clock :=
  fn_of_body (E := E_label_clock) e0_ok (fn := Try.f60) Try.func60 (by kernel_rfl) (by kernel_rfl) [.tmp 2, .tmp 3] (by kernel_rfl) (by kernel_rfl) (by decide) c_label_clock L_label_clock
    (by intro x hx; cases hx) (by intro k x hx; cases hx) (fun d out h => ⟨0, (q_label_clock_m 0 d).trans h⟩)

/- horologe/day.Date -/
@[reducible] def pi_day_Date : PSh := ⟨[], [.mk false [.v (.int .i64)]]⟩
@[reducible] def po_day_Date : PSh := ⟨[], [.mk false [.v (.int .i64)], .mk false [.v (.int .i64)], .mk false [.v (.int .i64)], .mk false [.v .err]]⟩
def f_day_Date_m (T : Unit) (d : Unit × ((Int × Unit) × Unit)) : Option (Unit × ((Int × Unit) × ((Int × Unit) × ((Int × Unit) × (((Option Int) × Unit) × Unit))))) :=
  (g_day_First ((), ())).bind fun x1 =>
  let x2 : Bool := (decide (d.2.1.1 < x1.2.1.1))
  bif x2 then (
  let x3 : (Option Int) := (some (13 : Int))
  some ((), (((0 : Int), ()), (((0 : Int), ()), (((0 : Int), ()), ((x3, ()), ()))))))
  else (
  (g_day_Last ((), ())).bind fun x4 =>
  let x5 : Bool := (decide (d.2.1.1 > x4.2.1.1))
  bif x5 then (
  let x6 : (Option Int) := (some (13 : Int))
  some ((), (((0 : Int), ()), (((0 : Int), ()), (((0 : Int), ()), ((x6, ()), ()))))))
  else (
  let x7 : Int := (iadd .i64 d.2.1.1 (719468 : Int))
  (g_day_floor ((), ((x7, ()), (((146097 : Int), ()), ())))).bind fun x8 =>
  let x9 : Int := (iadd .i64 d.2.1.1 (719468 : Int))
  let x10 : Int := (imul .i64 x8.2.1.1 (146097 : Int))
  let x11 : Int := (isub .i64 x9 x10)
  let x12 : Int := (iquo .i64 x11 (1460 : Int))
  let x13 : Int := (isub .i64 x11 x12)
  let x14 : Int := (iquo .i64 x11 (36524 : Int))
  let x15 : Int := (iadd .i64 x13 x14)
  let x16 : Int := (iquo .i64 x11 (146096 : Int))
  let x17 : Int := (isub .i64 x15 x16)
  let x18 : Int := (iquo .i64 x17 (365 : Int))
  let x19 : Int := (imul .i64 (365 : Int) x18)
  let x20 : Int := (iquo .i64 x18 (4 : Int))
  let x21 : Int := (iadd .i64 x19 x20)
  let x22 : Int := (iquo .i64 x18 (100 : Int))
  let x23 : Int := (isub .i64 x21 x22)
  let x24 : Int := (isub .i64 x11 x23)
  let x25 : Int := (imul .i64 (5 : Int) x24)
  let x26 : Int := (iadd .i64 x25 (2 : Int))
  let x27 : Int := (iquo .i64 x26 (153 : Int))
  let x28 : Int := (imul .i64 (153 : Int) x27)
  let x29 : Int := (iadd .i64 x28 (2 : Int))
  let x30 : Int := (iquo .i64 x29 (5 : Int))
  let x31 : Int := (isub .i64 x24 x30)
  let x32 : Int := (iadd .i64 x31 (1 : Int))
  let x33 : Int := (imul .i64 x8.2.1.1 (400 : Int))
  let x34 : Int := (iadd .i64 x18 x33)
  let x35 : Int := (iadd .i64 x27 (3 : Int))
  let x36 : Bool := (decide (x35 > (12 : Int)))
  bif x36 then (
  let x37 : Int := (isub .i64 x35 (12 : Int))
  let x38 : Int := (iadd .i64 x34 (1 : Int))
  some ((), ((x38, ()), ((x37, ()), ((x32, ()), (((none : Option Int), ()), ()))))))
  else (
  some ((), ((x34, ()), ((x35, ()), ((x32, ()), (((none : Option Int), ()), ()))))))))
def c_day_Date : List Nat := []
def L_day_Date (_ : Nat) : Pts po_day_Date.den := []
def E_day_Date : Env := (((E0.add 82 (typedSem pi_day_First po_day_First g_day_First)).add 83 (typedSem pi_day_Last po_day_Last g_day_Last)).add 88 (typedSem pi_day_floor po_day_floor g_day_floor))
theorem q_day_Date_m (k : Nat) (d : Unit × ((Int × Unit) × Unit)) : evCode E_day_Date (tab (L_day_Date k)) c_day_Date (bodyOf Try.f62) 0 (finK E_day_Date po_day_Date [.tmp 2, .tmp 3, .tmp 4, .tmp 5]) (startSt pi_day_Date 77 d) = f_day_Date_m () d := by kernel_rfl
def g_day_Date (d : Unit × ((Int × Unit) × Unit)) : Option (Unit × ((Int × Unit) × ((Int × Unit) × ((Int × Unit) × (((Option Int) × Unit) × Unit))))) := f_day_Date_m () d
theorem ok_day_Date : FnOk Try.prog ET0 62 pi_day_Date po_day_Date g_day_Date :=
  fn_of_body (E := E_day_Date) (envOk_add (envOk_add (envOk_add e0_ok (typed_ok ok_day_First)) (typed_ok ok_day_Last)) (typed_ok ok_day_floor)) (fn := Try.f62) Try.func62 (by kernel_rfl) (by kernel_rfl) [.tmp 2, .tmp 3, .tmp 4, .tmp 5] (by kernel_rfl) (by kernel_rfl) (by decide) c_day_Date L_day_Date
    (by intro x hx; cases hx) (by intro k x hx; cases hx) (fun d out h => ⟨0, (q_day_Date_m 0 d).trans h⟩)

/- horologe/label.Of -/
@[reducible] def pi_label_Of : PSh := ⟨[], [.mk false [.v (.int .i64)], .mk false [.v (.int .i64)], .mk false [.v (.int .i64)], .mk false [.v (.int .i64)]]⟩
@[reducible] def po_label_Of : PSh := ⟨[], [.mk true [.v (.int .i64), .v (.int .i64), .v (.int .i64), .v (.int .i64), .v (.int .i64), .v (.int .i64), .v (.int .i64), .v (.int .i64)], .mk false [.v .err]]⟩
def f_label_Of_m (T : Unit) (d : Unit × ((Int × Unit) × ((Int × Unit) × ((Int × Unit) × ((Int × Unit) × Unit))))) : Option (Unit × ((Int × (Int × (Int × (Int × (Int × (Int × (Int × (Int × Unit)))))))) × (((Option Int) × Unit) × Unit))) :=
  (g_label_there ((), ((d.2.1.1, ()), ()))).bind fun x1 =>
  let x2 : Bool := (!x1.2.1.1)
  bif x2 then (
  let x3 : (Option Int) := (some (13 : Int))
  some ((), (((0 : Int), ((0 : Int), ((0 : Int), ((0 : Int), ((0 : Int), ((0 : Int), ((0 : Int), ((0 : Int), ())))))))), ((x3, ()), ()))))
  else (
  (g_label_in ((), ((d.2.2.1.1, ()), (((86401 : Int), ()), ())))).bind fun x4 =>
  let x5 : Bool := (!x4.2.1.1)
  bif x5 then (
  let x6 : (Option Int) := (some (1 : Int))
  some ((), (((0 : Int), ((0 : Int), ((0 : Int), ((0 : Int), ((0 : Int), ((0 : Int), ((0 : Int), ((0 : Int), ())))))))), ((x6, ()), ()))))
  else (
  (g_label_in ((), ((d.2.2.2.1.1, ()), (((1000000000 : Int), ()), ())))).bind fun x7 =>
  let x8 : Bool := (!x7.2.1.1)
  bif x8 then (
  let x9 : (Option Int) := (some (1 : Int))
  some ((), (((0 : Int), ((0 : Int), ((0 : Int), ((0 : Int), ((0 : Int), ((0 : Int), ((0 : Int), ((0 : Int), ())))))))), ((x9, ()), ()))))
  else (
  (g_label_shifts ((), ((d.2.2.2.2.1.1, ()), ()))).bind fun x10 =>
  let x11 : Bool := (!x10.2.1.1)
  bif x11 then (
  let x12 : (Option Int) := (some (1 : Int))
  some ((), (((0 : Int), ((0 : Int), ((0 : Int), ((0 : Int), ((0 : Int), ((0 : Int), ((0 : Int), ((0 : Int), ())))))))), ((x12, ()), ()))))
  else (
  (g_label_clock ((), ((d.2.2.1.1, ()), ()))).bind fun x13 =>
  let x14 : Int := (iadd .i64 x13.2.1.1 d.2.2.2.2.1.1)
  (g_num_Split ((), ((x14, ()), (((1440 : Int), ()), ())))).bind fun x15 =>
  let x16 : Bool := (!x15.2.2.2.1.1.isNone)
  bif x16 then (
  some ((), (((0 : Int), ((0 : Int), ((0 : Int), ((0 : Int), ((0 : Int), ((0 : Int), ((0 : Int), ((0 : Int), ())))))))), ((x15.2.2.2.1.1, ()), ()))))
  else (
  let x17 : Int := (iquo .i64 x15.2.2.1.1 (60 : Int))
  let x18 : Int := (Int.tmod x15.2.2.1.1 (60 : Int))
  let x19 : Int := (iadd .i64 d.2.1.1 x15.2.1.1)
  (g_day_Date ((), ((x19, ()), ()))).bind fun x20 =>
  let x21 : Bool := (!x20.2.2.2.2.1.1.isNone)
  bif x21 then (
  some ((), (((0 : Int), ((0 : Int), ((0 : Int), ((0 : Int), ((0 : Int), ((0 : Int), ((0 : Int), ((0 : Int), ())))))))), ((x20.2.2.2.2.1.1, ()), ()))))
  else (
  some ((), ((x20.2.1.1, (x20.2.2.1.1, (x20.2.2.2.1.1, (x17, (x18, (x13.2.2.1.1, (d.2.2.2.1.1, (d.2.2.2.2.1.1, ())))))))), (((none : Option Int), ()), ())))))))))
def c_label_Of : List Nat := []
def L_label_Of (_ : Nat) : Pts po_label_Of.den := []
def E_label_Of : Env := ((((((E0.add 54 (typedSem pi_label_there po_label_there g_label_there)).add 58 (typedSem pi_label_in po_label_in g_label_in)).add 59 (typedSem pi_label_shifts po_label_shifts g_label_shifts)).add 60 (typedSem pi_label_clock po_label_clock g_label_clock)).add 61 (typedSem pi_num_Split po_num_Split g_num_Split)).add 62 (typedSem pi_day_Date po_day_Date g_day_Date))
theorem q_label_Of_m (k : Nat) (d : Unit × ((Int × Unit) × ((Int × Unit) × ((Int × Unit) × ((Int × Unit) × Unit))))) : evCode E_label_Of (tab (L_label_Of k)) c_label_Of (bodyOf Try.f21) 0 (finK E_label_Of po_label_Of [.cell 8 23, .tmp 9]) (startSt pi_label_Of 80 d) = f_label_Of_m () d := by kernel_rfl
def g_label_Of (d : Unit × ((Int × Unit) × ((Int × Unit) × ((Int × Unit) × ((Int × Unit) × Unit))))) : Option (Unit × ((Int × (Int × (Int × (Int × (Int × (Int × (Int × (Int × Unit)))))))) × (((Option Int) × Unit) × Unit))) := f_label_Of_m () d
theorem ok_label_Of : FnOk Try.prog ET0 21 pi_label_Of po_label_Of g_label_Of :=
  fn_of_body (E := E_label_Of) (envOk_add (envOk_add (envOk_add (envOk_add (envOk_add (envOk_add e0_ok (typed_ok ok_label_there)) (typed_ok ok_label_in)) (typed_ok ok_label_shifts)) (typed_ok ok_label_clock)) (typed_ok ok_num_Split)) (typed_ok ok_day_Date)) (fn := Try.f21) Try.func21 (by kernel_rfl) (by kernel_rfl) [.cell 8 23, .tmp 9] (by kernel_rfl) (by kernel_rfl) (by decide) c_label_Of L_label_Of
    (by intro x hx; cases hx) (by intro k x hx; cases hx) (fun d out h => ⟨0, (q_label_Of_m 0 d).trans h⟩)

/- horologe/horologeref05.Date -/
@[reducible] def pi_ref05_Date : PSh := ⟨[], [.mk false [.v (.int .i64)]]⟩
@[reducible] def po_ref05_Date : PSh := ⟨[], [.mk false [.v (.int .i64)], .mk false [.v (.int .i64)], .mk false [.v (.int .i64)]]⟩
@[reducible] def sh_ref05_Date_3 : PSh := ⟨[], [.mk false [.v (.int .i64)], .any, .any, .any, .any, .mk false [.v (.int .i64)], .any, .any, .any, .any, .any, .any, .any, .any, .any, .any, .any, .any, .any, .any, .any, .any, .any, .any, .any, .any, .any, .any, .any, .any, .any, .any, .any, .any, .any, .any, .any, .any, .any, .any, .any, .any, .any, .any, .any]⟩
@[reducible] def sh_ref05_Date_8 : PSh := ⟨[], [.mk false [.v (.int .i64)], .any, .any, .any, .any, .mk false [.v (.int .i64)], .any, .any, .any, .any, .any, .any, .any, .any, .any, .any, .any, .any, .any, .any, .any, .any, .any, .any, .any, .any, .any, .any, .any, .any, .any, .any, .any, .any, .any, .any, .any, .any, .any, .any, .any, .any, .any, .any, .any]⟩
@[reducible] def sh_ref05_Date_13 : PSh := ⟨[], [.mk false [.v (.int .i64)], .any, .any, .any, .any, .mk false [.v (.int .i64)], .any, .any, .any, .any, .any, .any, .any, .any, .any, .any, .any, .any, .any, .any, .any, .any, .any, .any, .any, .any, .any, .any, .any, .any, .any, .any, .any, .any, .any, .any, .any, .any, .any, .any, .any, .any, .any, .any, .any]⟩
@[reducible] def sh_ref05_Date_19 : PSh := ⟨[], [.mk false [.v (.int .i64)], .any, .any, .any, .any, .mk false [.v (.int .i64)], .mk false [.v (.int .i64)], .any, .any, .any, .any, .any, .any, .any, .any, .any, .any, .any, .any, .any, .any, .any, .any, .any, .any, .any, .any, .any, .any, .any, .any, .any, .any, .any, .any, .any, .any, .any, .any, .any, .any, .any, .any, .any, .any]⟩
def f_ref05_Date_p3 (T : (((Unit × ((Int × Unit) × ((Int × Unit) × Unit))) → Option (Unit × ((Int × Unit) × ((Int × Unit) × ((Int × Unit) × Unit))))) × (((Unit × ((Int × Unit) × ((Int × Unit) × Unit))) → Option (Unit × ((Int × Unit) × ((Int × Unit) × ((Int × Unit) × Unit))))) × (((Unit × ((Int × Unit) × ((Int × Unit) × Unit))) → Option (Unit × ((Int × Unit) × ((Int × Unit) × ((Int × Unit) × Unit))))) × (((Unit × ((Int × Unit) × ((Int × Unit) × ((Int × Unit) × Unit)))) → Option (Unit × ((Int × Unit) × ((Int × Unit) × ((Int × Unit) × Unit))))) × Unit))))) (d : Unit × ((Int × Unit) × ((Int × Unit) × Unit))) : Option (Unit × ((Int × Unit) × ((Int × Unit) × ((Int × Unit) × Unit)))) :=
  let x1 : Bool := (decide (d.2.1.1 < (0 : Int)))
  bif x1 then (
  let x2 : Int := (iadd .i64 d.2.1.1 (146097 : Int))
  let x3 : Int := (isub .i64 d.2.2.1.1 (400 : Int))
  (T.1 ((), ((x2, ()), ((x3, ()), ())))))
  else (
  (T.2.1 ((), ((d.2.1.1, ()), ((d.2.2.1.1, ()), ())))))
def f_ref05_Date_p8 (T : (((Unit × ((Int × Unit) × ((Int × Unit) × Unit))) → Option (Unit × ((Int × Unit) × ((Int × Unit) × ((Int × Unit) × Unit))))) × (((Unit × ((Int × Unit) × ((Int × Unit) × Unit))) → Option (Unit × ((Int × Unit) × ((Int × Unit) × ((Int × Unit) × Unit))))) × (((Unit × ((Int × Unit) × ((Int × Unit) × Unit))) → Option (Unit × ((Int × Unit) × ((Int × Unit) × ((Int × Unit) × Unit))))) × (((Unit × ((Int × Unit) × ((Int × Unit) × ((Int × Unit) × Unit)))) → Option (Unit × ((Int × Unit) × ((Int × Unit) × ((Int × Unit) × Unit))))) × Unit))))) (d : Unit × ((Int × Unit) × ((Int × Unit) × Unit))) : Option (Unit × ((Int × Unit) × ((Int × Unit) × ((Int × Unit) × Unit)))) :=
  let x4 : Bool := (decide (d.2.1.1 ≥ (146097 : Int)))
  bif x4 then (
  let x5 : Int := (isub .i64 d.2.1.1 (146097 : Int))
  let x6 : Int := (iadd .i64 d.2.2.1.1 (400 : Int))
  (T.2.1 ((), ((x5, ()), ((x6, ()), ())))))
  else (
  (T.2.2.1 ((), ((d.2.1.1, ()), ((d.2.2.1.1, ()), ())))))
def f_ref05_Date_p13 (T : (((Unit × ((Int × Unit) × ((Int × Unit) × Unit))) → Option (Unit × ((Int × Unit) × ((Int × Unit) × ((Int × Unit) × Unit))))) × (((Unit × ((Int × Unit) × ((Int × Unit) × Unit))) → Option (Unit × ((Int × Unit) × ((Int × Unit) × ((Int × Unit) × Unit))))) × (((Unit × ((Int × Unit) × ((Int × Unit) × Unit))) → Option (Unit × ((Int × Unit) × ((Int × Unit) × ((Int × Unit) × Unit))))) × (((Unit × ((Int × Unit) × ((Int × Unit) × ((Int × Unit) × Unit)))) → Option (Unit × ((Int × Unit) × ((Int × Unit) × ((Int × Unit) × Unit))))) × Unit))))) (d : Unit × ((Int × Unit) × ((Int × Unit) × Unit))) : Option (Unit × ((Int × Unit) × ((Int × Unit) × ((Int × Unit) × Unit)))) :=
  (g_ref05_Days ((), ((d.2.2.1.1, ()), ()))).bind fun x7 =>
  let x8 : Bool := (decide (d.2.1.1 ≥ x7.2.1.1))
  bif x8 then (
  (g_ref05_Days ((), ((d.2.2.1.1, ()), ()))).bind fun x9 =>
  let x10 : Int := (isub .i64 d.2.1.1 x9.2.1.1)
  let x11 : Int := (iadd .i64 d.2.2.1.1 (1 : Int))
  (T.2.2.1 ((), ((x10, ()), ((x11, ()), ())))))
  else (
  (T.2.2.2.1 ((), ((d.2.1.1, ()), ((d.2.2.1.1, ()), (((1 : Int), ()), ()))))))
def f_ref05_Date_p19 (T : (((Unit × ((Int × Unit) × ((Int × Unit) × Unit))) → Option (Unit × ((Int × Unit) × ((Int × Unit) × ((Int × Unit) × Unit))))) × (((Unit × ((Int × Unit) × ((Int × Unit) × Unit))) → Option (Unit × ((Int × Unit) × ((Int × Unit) × ((Int × Unit) × Unit))))) × (((Unit × ((Int × Unit) × ((Int × Unit) × Unit))) → Option (Unit × ((Int × Unit) × ((Int × Unit) × ((Int × Unit) × Unit))))) × (((Unit × ((Int × Unit) × ((Int × Unit) × ((Int × Unit) × Unit)))) → Option (Unit × ((Int × Unit) × ((Int × Unit) × ((Int × Unit) × Unit))))) × Unit))))) (d : Unit × ((Int × Unit) × ((Int × Unit) × ((Int × Unit) × Unit)))) : Option (Unit × ((Int × Unit) × ((Int × Unit) × ((Int × Unit) × Unit)))) :=
  (g_ref05_Month ((), ((d.2.2.1.1, ()), ((d.2.2.2.1.1, ()), ())))).bind fun x12 =>
  let x13 : Bool := (decide (d.2.1.1 ≥ x12.2.1.1))
  bif x13 then (
  (g_ref05_Month ((), ((d.2.2.1.1, ()), ((d.2.2.2.1.1, ()), ())))).bind fun x14 =>
  let x15 : Int := (isub .i64 d.2.1.1 x14.2.1.1)
  let x16 : Int := (iadd .i64 d.2.2.2.1.1 (1 : Int))
  (T.2.2.2.1 ((), ((x15, ()), ((d.2.2.1.1, ()), ((x16, ()), ()))))))
  else (
  let x17 : Int := (iadd .i64 d.2.1.1 (1 : Int))
  some ((), ((d.2.2.1.1, ()), ((d.2.2.2.1.1, ()), ((x17, ()), ())))))
def f_ref05_Date_t : Nat → (((Unit × ((Int × Unit) × ((Int × Unit) × Unit))) → Option (Unit × ((Int × Unit) × ((Int × Unit) × ((Int × Unit) × Unit))))) × (((Unit × ((Int × Unit) × ((Int × Unit) × Unit))) → Option (Unit × ((Int × Unit) × ((Int × Unit) × ((Int × Unit) × Unit))))) × (((Unit × ((Int × Unit) × ((Int × Unit) × Unit))) → Option (Unit × ((Int × Unit) × ((Int × Unit) × ((Int × Unit) × Unit))))) × (((Unit × ((Int × Unit) × ((Int × Unit) × ((Int × Unit) × Unit)))) → Option (Unit × ((Int × Unit) × ((Int × Unit) × ((Int × Unit) × Unit))))) × Unit))))
  | 0 => (fun _ => none, (fun _ => none, (fun _ => none, (fun _ => none, ()))))
  | k + 1 => (f_ref05_Date_p3 (f_ref05_Date_t k), (f_ref05_Date_p8 (f_ref05_Date_t k), (f_ref05_Date_p13 (f_ref05_Date_t k), (f_ref05_Date_p19 (f_ref05_Date_t k), ()))))
theorem t_ref05_Date (k : Nat) : f_ref05_Date_t (k + 1) = (f_ref05_Date_p3 (f_ref05_Date_t k), (f_ref05_Date_p8 (f_ref05_Date_t k), (f_ref05_Date_p13 (f_ref05_Date_t k), (f_ref05_Date_p19 (f_ref05_Date_t k), ())))) := rfl
def f_ref05_Date_m (T : (((Unit × ((Int × Unit) × ((Int × Unit) × Unit))) → Option (Unit × ((Int × Unit) × ((Int × Unit) × ((Int × Unit) × Unit))))) × (((Unit × ((Int × Unit) × ((Int × Unit) × Unit))) → Option (Unit × ((Int × Unit) × ((Int × Unit) × ((Int × Unit) × Unit))))) × (((Unit × ((Int × Unit) × ((Int × Unit) × Unit))) → Option (Unit × ((Int × Unit) × ((Int × Unit) × ((Int × Unit) × Unit))))) × (((Unit × ((Int × Unit) × ((Int × Unit) × ((Int × Unit) × Unit)))) → Option (Unit × ((Int × Unit) × ((Int × Unit) × ((Int × Unit) × Unit))))) × Unit))))) (d : Unit × ((Int × Unit) × Unit)) : Option (Unit × ((Int × Unit) × ((Int × Unit) × ((Int × Unit) × Unit)))) :=
  (T.1 ((), ((d.2.1.1, ()), (((1970 : Int), ()), ()))))
def c_ref05_Date : List Nat := []
def L_ref05_Date (k : Nat) : Pts po_ref05_Date.den := [(3, ⟨sh_ref05_Date_3, (f_ref05_Date_t k).1⟩), (8, ⟨sh_ref05_Date_8, (f_ref05_Date_t k).2.1⟩), (13, ⟨sh_ref05_Date_13, (f_ref05_Date_t k).2.2.1⟩), (19, ⟨sh_ref05_Date_19, (f_ref05_Date_t k).2.2.2.1⟩)]
def E_ref05_Date : Env := ((E0.add 90 (typedSem pi_ref05_Days po_ref05_Days g_ref05_Days)).add 91 (typedSem pi_ref05_Month po_ref05_Month g_ref05_Month))
theorem q_ref05_Date_3 (k : Nat) (d : Unit × ((Int × Unit) × ((Int × Unit) × Unit))) : evAt E_ref05_Date (tab (L_ref05_Date k)) c_ref05_Date 3 (bodyOf Try.f64) 0 (finK E_ref05_Date po_ref05_Date [.tmp 2, .tmp 3, .tmp 4]) (ptSt sh_ref05_Date_3 d) = f_ref05_Date_p3 (f_ref05_Date_t k) d := by kernel_rfl
theorem q_ref05_Date_8 (k : Nat) (d : Unit × ((Int × Unit) × ((Int × Unit) × Unit))) : evAt E_ref05_Date (tab (L_ref05_Date k)) c_ref05_Date 8 (bodyOf Try.f64) 0 (finK E_ref05_Date po_ref05_Date [.tmp 2, .tmp 3, .tmp 4]) (ptSt sh_ref05_Date_8 d) = f_ref05_Date_p8 (f_ref05_Date_t k) d := by kernel_rfl
theorem q_ref05_Date_13 (k : Nat) (d : Unit × ((Int × Unit) × ((Int × Unit) × Unit))) : evAt E_ref05_Date (tab (L_ref05_Date k)) c_ref05_Date 13 (bodyOf Try.f64) 0 (finK E_ref05_Date po_ref05_Date [.tmp 2, .tmp 3, .tmp 4]) (ptSt sh_ref05_Date_13 d) = f_ref05_Date_p13 (f_ref05_Date_t k) d := by kernel_rfl
theorem q_ref05_Date_19 (k : Nat) (d : Unit × ((Int × Unit) × ((Int × Unit) × ((Int × Unit) × Unit)))) : evAt E_ref05_Date (tab (L_ref05_Date k)) c_ref05_Date 19 (bodyOf Try.f64) 0 (finK E_ref05_Date po_ref05_Date [.tmp 2, .tmp 3, .tmp 4]) (ptSt sh_ref05_Date_19 d) = f_ref05_Date_p19 (f_ref05_Date_t k) d := by kernel_rfl
theorem q_ref05_Date_m (k : Nat) (d : Unit × ((Int × Unit) × Unit)) : evCode E_ref05_Date (tab (L_ref05_Date k)) c_ref05_Date (bodyOf Try.f64) 0 (finK E_ref05_Date po_ref05_Date [.tmp 2, .tmp 3, .tmp 4]) (startSt pi_ref05_Date 45 d) = f_ref05_Date_m (f_ref05_Date_t k) d := by kernel_rfl
theorem go_ref05_Date (G : pi_ref05_Date.den → Option po_ref05_Date.den) (hG : ∀ d out, G d = some out → ∃ k, f_ref05_Date_m (f_ref05_Date_t k) d = some out) : FnOk Try.prog ET0 64 pi_ref05_Date po_ref05_Date G :=
  fn_of_body (E := E_ref05_Date) (envOk_add (envOk_add e0_ok (typed_ok ok_ref05_Days)) (typed_ok ok_ref05_Month)) (fn := Try.f64) Try.func64 (by kernel_rfl) (by kernel_rfl) [.tmp 2, .tmp 3, .tmp 4] (by kernel_rfl) (by kernel_rfl) (by decide) c_ref05_Date L_ref05_Date
    (by intro x hx d; simp only [L_ref05_Date, List.mem_cons, List.not_mem_nil, or_false] at hx; rcases hx with rfl | rfl | rfl | rfl; rfl; rfl; rfl; rfl)
    (by intro k x hx d out h; simp only [L_ref05_Date, List.mem_cons, List.not_mem_nil, or_false] at hx; rcases hx with rfl | rfl | rfl | rfl; exact (q_ref05_Date_3 k d).trans h; exact (q_ref05_Date_8 k d).trans h; exact (q_ref05_Date_13 k d).trans h; exact (q_ref05_Date_19 k d).trans h)
    (by intro d out h; obtain ⟨k, hk⟩ := hG d out h; exact ⟨k, (q_ref05_Date_m k d).trans hk⟩)
def g_ref05_Date (d : Unit × ((Int × Unit) × Unit)) : Option (Unit × ((Int × Unit) × ((Int × Unit) × ((Int × Unit) × Unit)))) := lim fun k => f_ref05_Date_m (f_ref05_Date_t k) d
theorem ok_ref05_Date : FnOk Try.prog ET0 64 pi_ref05_Date po_ref05_Date g_ref05_Date := go_ref05_Date g_ref05_Date fun d out h => lim_some h

/- horologe/horologeref08.Of -/
@[reducible] def pi_ref08_Of : PSh := ⟨[], [.mk false [.v (.int .i64)], .mk false [.v (.int .i64)], .mk false [.v (.int .i64)], .mk false [.v (.int .i64)]]⟩
@[reducible] def po_ref08_Of : PSh := ⟨[], [.mk true [.v (.int .i64), .v (.int .i64), .v (.int .i64), .v (.int .i64), .v (.int .i64), .v (.int .i64), .v (.int .i64), .v (.int .i64)], .mk false [.v (.int .i64)]]⟩
@[reducible] def sh_ref08_Of_16 : PSh := ⟨[.var 31 [.v (.int .i64), .v (.int .i64), .v (.int .i64), .v (.int .i64), .v (.int .i64), .v (.int .i64), .v (.int .i64), .v (.int .i64)], .var 31 [.v (.int .i64), .v (.int .i64), .v (.int .i64), .v (.int .i64), .v (.int .i64), .v (.int .i64), .v (.int .i64), .v (.int .i64)]], [.mk false [.v (.int .i64)], .any, .any, .any, .any, .any, .any, .any, .mk false [.ref 0 0], .any, .mk false [.ref 1 0], .mk false [.v (.int .i64)], .any, .any, .any, .any, .any, .any, .any, .any, .any, .any, .any, .any, .any, .any, .any, .any, .any, .any, .any, .any, .any, .any, .any, .any, .any, .any, .any, .any, .any, .any, .any, .any, .any, .any, .any, .any, .any, .any, .any, .any, .any, .any, .any, .any, .any, .any, .any, .any, .any, .any, .any, .any, .any, .any, .any, .any, .any, .any, .any, .any, .any, .any, .any, .any, .any, .any, .any, .any, .any, .any, .any, .any]⟩
def f_ref08_Of_p16 (T : (((((Int × (Int × (Int × (Int × (Int × (Int × (Int × (Int × Unit)))))))) × ((Int × (Int × (Int × (Int × (Int × (Int × (Int × (Int × Unit)))))))) × Unit)) × ((Int × Unit) × (Unit × (Unit × ((Int × Unit) × Unit))))) → Option (Unit × ((Int × (Int × (Int × (Int × (Int × (Int × (Int × (Int × Unit)))))))) × ((Int × Unit) × Unit)))) × Unit)) (d : ((Int × (Int × (Int × (Int × (Int × (Int × (Int × (Int × Unit)))))))) × ((Int × (Int × (Int × (Int × (Int × (Int × (Int × (Int × Unit)))))))) × Unit)) × ((Int × Unit) × (Unit × (Unit × ((Int × Unit) × Unit))))) : Option (Unit × ((Int × (Int × (Int × (Int × (Int × (Int × (Int × (Int × Unit)))))))) × ((Int × Unit) × Unit))) :=
  (g_ref08_There ((), ((d.2.1.1, ()), ()))).bind fun x32 =>
  let x33 : Bool := (!x32.2.1.1)
  bif x33 then (
  some ((), (((0 : Int), ((0 : Int), ((0 : Int), ((0 : Int), ((0 : Int), ((0 : Int), ((0 : Int), ((0 : Int), ())))))))), (((13 : Int), ()), ()))))
  else (
  (g_ref05_Date ((), ((d.2.1.1, ()), ()))).bind fun x34 =>
  let x35 : Int := (iquo .i64 d.2.2.2.2.1.1 (60 : Int))
  let x36 : Int := (Int.tmod d.2.2.2.2.1.1 (60 : Int))
  some ((), ((x34.2.1.1, (x34.2.2.1.1, (x34.2.2.2.1.1, (x35, (x36, (d.1.2.1.2.2.2.2.2.1, (d.1.2.1.2.2.2.2.2.2.1, (d.1.2.1.2.2.2.2.2.2.2.1, ())))))))), (((0 : Int), ()), ()))))
def f_ref08_Of_t : Nat → (((((Int × (Int × (Int × (Int × (Int × (Int × (Int × (Int × Unit)))))))) × ((Int × (Int × (Int × (Int × (Int × (Int × (Int × (Int × Unit)))))))) × Unit)) × ((Int × Unit) × (Unit × (Unit × ((Int × Unit) × Unit))))) → Option (Unit × ((Int × (Int × (Int × (Int × (Int × (Int × (Int × (Int × Unit)))))))) × ((Int × Unit) × Unit)))) × Unit)
  | 0 => (fun _ => none, ())
  | k + 1 => (f_ref08_Of_p16 (f_ref08_Of_t k), ())
theorem t_ref08_Of (k : Nat) : f_ref08_Of_t (k + 1) = (f_ref08_Of_p16 (f_ref08_Of_t k), ()) := rfl
def f_ref08_Of_m (T : (((((Int × (Int × (Int × (Int × (Int × (Int × (Int × (Int × Unit)))))))) × ((Int × (Int × (Int × (Int × (Int × (Int × (Int × (Int × Unit)))))))) × Unit)) × ((Int × Unit) × (Unit × (Unit × ((Int × Unit) × Unit))))) → Option (Unit × ((Int × (Int × (Int × (Int × (Int × (Int × (Int × (Int × Unit)))))))) × ((Int × Unit) × Unit)))) × Unit)) (d : Unit × ((Int × Unit) × ((Int × Unit) × ((Int × Unit) × ((Int × Unit) × Unit))))) : Option (Unit × ((Int × (Int × (Int × (Int × (Int × (Int × (Int × (Int × Unit)))))))) × ((Int × Unit) × Unit))) :=
  (g_ref08_There ((), ((d.2.1.1, ()), ()))).bind fun x1 =>
  let x2 : Bool := (!x1.2.1.1)
  bif x2 then (
  some ((), (((0 : Int), ((0 : Int), ((0 : Int), ((0 : Int), ((0 : Int), ((0 : Int), ((0 : Int), ((0 : Int), ())))))))), (((13 : Int), ()), ()))))
  else (
  let x3 : Bool := (decide (d.2.2.1.1 < (0 : Int)))
  bif x3 then (
  some ((), (((0 : Int), ((0 : Int), ((0 : Int), ((0 : Int), ((0 : Int), ((0 : Int), ((0 : Int), ((0 : Int), ())))))))), (((1 : Int), ()), ()))))
  else (
  let x4 : Bool := (decide (d.2.2.1.1 > (86400 : Int)))
  bif x4 then (
  some ((), (((0 : Int), ((0 : Int), ((0 : Int), ((0 : Int), ((0 : Int), ((0 : Int), ((0 : Int), ((0 : Int), ())))))))), (((1 : Int), ()), ()))))
  else (
  let x5 : Bool := (decide (d.2.2.2.1.1 < (0 : Int)))
  bif x5 then (
  some ((), (((0 : Int), ((0 : Int), ((0 : Int), ((0 : Int), ((0 : Int), ((0 : Int), ((0 : Int), ((0 : Int), ())))))))), (((1 : Int), ()), ()))))
  else (
  let x6 : Bool := (decide (d.2.2.2.1.1 > (999999999 : Int)))
  bif x6 then (
  some ((), (((0 : Int), ((0 : Int), ((0 : Int), ((0 : Int), ((0 : Int), ((0 : Int), ((0 : Int), ((0 : Int), ())))))))), (((1 : Int), ()), ()))))
  else (
  let x7 : Bool := (decide (d.2.2.2.2.1.1 < (-1439 : Int)))
  bif x7 then (
  some ((), (((0 : Int), ((0 : Int), ((0 : Int), ((0 : Int), ((0 : Int), ((0 : Int), ((0 : Int), ((0 : Int), ())))))))), (((1 : Int), ()), ()))))
  else (
  let x8 : Bool := (decide (d.2.2.2.2.1.1 > (1439 : Int)))
  bif x8 then (
  some ((), (((0 : Int), ((0 : Int), ((0 : Int), ((0 : Int), ((0 : Int), ((0 : Int), ((0 : Int), ((0 : Int), ())))))))), (((1 : Int), ()), ()))))
  else (
  let x9 : Int := (Int.tmod d.2.2.1.1 (60 : Int))
  let x10 : Int := (iquo .i64 d.2.2.1.1 (60 : Int))
  let x11 : Bool := (d.2.2.1.1 == (86400 : Int))
  bif x11 then (
  let x12 : Int := (iadd .i64 (1439 : Int) d.2.2.2.2.1.1)
  let x13 : Bool := (decide (x12 < (0 : Int)))
  bif x13 then (
  let x14 : Int := (iadd .i64 x12 (1440 : Int))
  let x15 : Int := (isub .i64 d.2.1.1 (1 : Int))
  let x16 : Bool := (decide (x14 ≥ (1440 : Int)))
  bif x16 then (
  let x17 : Int := (isub .i64 x14 (1440 : Int))
  let x18 : Int := (iadd .i64 x15 (1 : Int))
  (T.1 ((((0 : Int), ((0 : Int), ((0 : Int), ((0 : Int), ((0 : Int), ((0 : Int), ((0 : Int), ((0 : Int), ())))))))), (((0 : Int), ((0 : Int), ((0 : Int), ((0 : Int), ((0 : Int), ((60 : Int), (d.2.2.2.1.1, (d.2.2.2.2.1.1, ())))))))), ())), ((x18, ()), ((), ((), ((x17, ()), ())))))))
  else (
  (T.1 ((((0 : Int), ((0 : Int), ((0 : Int), ((0 : Int), ((0 : Int), ((0 : Int), ((0 : Int), ((0 : Int), ())))))))), (((0 : Int), ((0 : Int), ((0 : Int), ((0 : Int), ((0 : Int), ((60 : Int), (d.2.2.2.1.1, (d.2.2.2.2.1.1, ())))))))), ())), ((x15, ()), ((), ((), ((x14, ()), ()))))))))
  else (
  let x19 : Bool := (decide (x12 ≥ (1440 : Int)))
  bif x19 then (
  let x20 : Int := (isub .i64 x12 (1440 : Int))
  let x21 : Int := (iadd .i64 d.2.1.1 (1 : Int))
  (T.1 ((((0 : Int), ((0 : Int), ((0 : Int), ((0 : Int), ((0 : Int), ((0 : Int), ((0 : Int), ((0 : Int), ())))))))), (((0 : Int), ((0 : Int), ((0 : Int), ((0 : Int), ((0 : Int), ((60 : Int), (d.2.2.2.1.1, (d.2.2.2.2.1.1, ())))))))), ())), ((x21, ()), ((), ((), ((x20, ()), ())))))))
  else (
  (T.1 ((((0 : Int), ((0 : Int), ((0 : Int), ((0 : Int), ((0 : Int), ((0 : Int), ((0 : Int), ((0 : Int), ())))))))), (((0 : Int), ((0 : Int), ((0 : Int), ((0 : Int), ((0 : Int), ((60 : Int), (d.2.2.2.1.1, (d.2.2.2.2.1.1, ())))))))), ())), ((d.2.1.1, ()), ((), ((), ((x12, ()), ())))))))))
  else (
  let x22 : Int := (iadd .i64 x10 d.2.2.2.2.1.1)
  let x23 : Bool := (decide (x22 < (0 : Int)))
  bif x23 then (
  let x24 : Int := (iadd .i64 x22 (1440 : Int))
  let x25 : Int := (isub .i64 d.2.1.1 (1 : Int))
  let x26 : Bool := (decide (x24 ≥ (1440 : Int)))
  bif x26 then (
  let x27 : Int := (isub .i64 x24 (1440 : Int))
  let x28 : Int := (iadd .i64 x25 (1 : Int))
  (T.1 ((((0 : Int), ((0 : Int), ((0 : Int), ((0 : Int), ((0 : Int), ((0 : Int), ((0 : Int), ((0 : Int), ())))))))), (((0 : Int), ((0 : Int), ((0 : Int), ((0 : Int), ((0 : Int), (x9, (d.2.2.2.1.1, (d.2.2.2.2.1.1, ())))))))), ())), ((x28, ()), ((), ((), ((x27, ()), ())))))))
  else (
  (T.1 ((((0 : Int), ((0 : Int), ((0 : Int), ((0 : Int), ((0 : Int), ((0 : Int), ((0 : Int), ((0 : Int), ())))))))), (((0 : Int), ((0 : Int), ((0 : Int), ((0 : Int), ((0 : Int), (x9, (d.2.2.2.1.1, (d.2.2.2.2.1.1, ())))))))), ())), ((x25, ()), ((), ((), ((x24, ()), ()))))))))
  else (
  let x29 : Bool := (decide (x22 ≥ (1440 : Int)))
  bif x29 then (
  let x30 : Int := (isub .i64 x22 (1440 : Int))
  let x31 : Int := (iadd .i64 d.2.1.1 (1 : Int))
  (T.1 ((((0 : Int), ((0 : Int), ((0 : Int), ((0 : Int), ((0 : Int), ((0 : Int), ((0 : Int), ((0 : Int), ())))))))), (((0 : Int), ((0 : Int), ((0 : Int), ((0 : Int), ((0 : Int), (x9, (d.2.2.2.1.1, (d.2.2.2.2.1.1, ())))))))), ())), ((x31, ()), ((), ((), ((x30, ()), ())))))))
  else (
  (T.1 ((((0 : Int), ((0 : Int), ((0 : Int), ((0 : Int), ((0 : Int), ((0 : Int), ((0 : Int), ((0 : Int), ())))))))), (((0 : Int), ((0 : Int), ((0 : Int), ((0 : Int), ((0 : Int), (x9, (d.2.2.2.1.1, (d.2.2.2.2.1.1, ())))))))), ())), ((d.2.1.1, ()), ((), ((), ((x22, ()), ()))))))))))))))))
def c_ref08_Of : List Nat := [16]
def L_ref08_Of (k : Nat) : Pts po_ref08_Of.den := [(16, ⟨sh_ref08_Of_16, (f_ref08_Of_t k).1⟩)]
def E_ref08_Of : Env := ((E0.add 63 (typedSem pi_ref08_There po_ref08_There g_ref08_There)).add 64 (typedSem pi_ref05_Date po_ref05_Date g_ref05_Date))
theorem q_ref08_Of_16 (k : Nat) (d : ((Int × (Int × (Int × (Int × (Int × (Int × (Int × (Int × Unit)))))))) × ((Int × (Int × (Int × (Int × (Int × (Int × (Int × (Int × Unit)))))))) × Unit)) × ((Int × Unit) × (Unit × (Unit × ((Int × Unit) × Unit))))) : evAt E_ref08_Of (tab (L_ref08_Of k)) c_ref08_Of 16 (bodyOf Try.f22) 0 (finK E_ref08_Of po_ref08_Of [.cell 8 31, .tmp 9]) (ptSt sh_ref08_Of_16 d) = f_ref08_Of_p16 (f_ref08_Of_t k) d := by kernel_rfl
theorem q_ref08_Of_m (k : Nat) (d : Unit × ((Int × Unit) × ((Int × Unit) × ((Int × Unit) × ((Int × Unit) × Unit))))) : evCode E_ref08_Of (tab (L_ref08_Of k)) c_ref08_Of (bodyOf Try.f22) 0 (finK E_ref08_Of po_ref08_Of [.cell 8 31, .tmp 9]) (startSt pi_ref08_Of 84 d) = f_ref08_Of_m (f_ref08_Of_t k) d := by kernel_rfl
theorem go_ref08_Of (G : pi_ref08_Of.den → Option po_ref08_Of.den) (hG : ∀ d out, G d = some out → ∃ k, f_ref08_Of_m (f_ref08_Of_t k) d = some out) : FnOk Try.prog ET0 22 pi_ref08_Of po_ref08_Of G :=
  fn_of_body (E := E_ref08_Of) (envOk_add (envOk_add e0_ok (typed_ok ok_ref08_There)) (typed_ok ok_ref05_Date)) (fn := Try.f22) Try.func22 (by kernel_rfl) (by kernel_rfl) [.cell 8 31, .tmp 9] (by kernel_rfl) (by kernel_rfl) (by decide) c_ref08_Of L_ref08_Of
    (by intro x hx d; simp only [L_ref08_Of, List.mem_cons, List.not_mem_nil, or_false] at hx; subst hx; rfl)
    (by intro k x hx d out h; simp only [L_ref08_Of, List.mem_cons, List.not_mem_nil, or_false] at hx; subst hx; exact (q_ref08_Of_16 k d).trans h)
    (by intro d out h; obtain ⟨k, hk⟩ := hG d out h; exact ⟨k, (q_ref08_Of_m k d).trans hk⟩)
def g_ref08_Of (d : Unit × ((Int × Unit) × ((Int × Unit) × ((Int × Unit) × ((Int × Unit) × Unit))))) : Option (Unit × ((Int × (Int × (Int × (Int × (Int × (Int × (Int × (Int × Unit)))))))) × ((Int × Unit) × Unit))) := lim fun k => f_ref08_Of_m (f_ref08_Of_t k) d
theorem ok_ref08_Of : FnOk Try.prog ET0 22 pi_ref08_Of po_ref08_Of g_ref08_Of := go_ref08_Of g_ref08_Of fun d out h => lim_some h

/- horologe/label.Clock -/
@[reducible] def pi_label_Clock : PSh := ⟨[], [.mk false [.v (.int .i64)]]⟩
@[reducible] def po_label_Clock : PSh := ⟨[], [.mk false [.v (.int .i64)], .mk false [.v (.int .i64)], .mk false [.v (.int .i64)], .mk false [.v .err]]⟩
def f_label_Clock_m (T : Unit) (d : Unit × ((Int × Unit) × Unit)) : Option (Unit × ((Int × Unit) × ((Int × Unit) × ((Int × Unit) × (((Option Int) × Unit) × Unit))))) :=
  (g_label_in ((), ((d.2.1.1, ()), (((86401 : Int), ()), ())))).bind fun x1 =>
  let x2 : Bool := (!x1.2.1.1)
  bif x2 then (
  let x3 : (Option Int) := (some (1 : Int))
  some ((), (((0 : Int), ()), (((0 : Int), ()), (((0 : Int), ()), ((x3, ()), ()))))))
  else (
  (g_label_clock ((), ((d.2.1.1, ()), ()))).bind fun x4 =>
  let x5 : Int := (iquo .i64 x4.2.1.1 (60 : Int))
  let x6 : Int := (Int.tmod x4.2.1.1 (60 : Int))
  some ((), ((x5, ()), ((x6, ()), ((x4.2.2.1.1, ()), (((none : Option Int), ()), ()))))))
def c_label_Clock : List Nat := []
def L_label_Clock (_ : Nat) : Pts po_label_Clock.den := []
def E_label_Clock : Env := ((E0.add 58 (typedSem pi_label_in po_label_in g_label_in)).add 60 (typedSem pi_label_clock po_label_clock g_label_clock))
theorem q_label_Clock_m (k : Nat) (d : Unit × ((Int × Unit) × Unit)) : evCode E_label_Clock (tab (L_label_Clock k)) c_label_Clock (bodyOf Try.f23) 0 (finK E_label_Clock po_label_Clock [.tmp 2, .tmp 3, .tmp 4, .tmp 5]) (startSt pi_label_Clock 20 d) = f_label_Clock_m () d := by kernel_rfl
def g_label_Clock (d : Unit × ((Int × Unit) × Unit)) : Option (Unit × ((Int × Unit) × ((Int × Unit) × ((Int × Unit) × (((Option Int) × Unit) × Unit))))) := f_label_Clock_m () d
theorem ok_label_Clock : FnOk Try.prog ET0 23 pi_label_Clock po_label_Clock g_label_Clock :=
  fn_of_body (E := E_label_Clock) (envOk_add (envOk_add e0_ok (typed_ok ok_label_in)) (typed_ok ok_label_clock)) (fn := Try.f23) Try.func23 (by kernel_rfl) (by kernel_rfl) [.tmp 2, .tmp 3, .tmp 4, .tmp 5] (by kernel_rfl) (by kernel_rfl) (by decide) c_label_Clock L_label_Clock
    (by intro x hx; cases hx) (by intro k x hx; cases hx) (fun d out h => ⟨0, (q_label_Clock_m 0 d).trans h⟩)

/- horologe/horologenum.Is -/
@[reducible] def pi_hnum_Is : PSh := ⟨[], [.mk false [.v .err], .mk false [.v (.int .i64)]]⟩
@[reducible] def po_hnum_Is : PSh := ⟨[], [.mk false [.v .bool]]⟩
def f_hnum_Is_m (T : Unit) (d : Unit × (((Option Int) × Unit) × ((Int × Unit) × Unit))) : Option (Unit × ((Bool × Unit) × Unit)) :=
  (g_hnum_Num ((), ((d.2.1.1, ()), ()))).bind fun x1 =>
  let x2 : Bool := (x1.2.1.1 == d.2.2.1.1)
  some ((), ((x2, ()), ()))
def c_hnum_Is : List Nat := []
def L_hnum_Is (_ : Nat) : Pts po_hnum_Is.den := []
def E_hnum_Is : Env := (E0.add 16 (typedSem pi_hnum_Num po_hnum_Num g_hnum_Num))
theorem q_hnum_Is_m (k : Nat) (d : Unit × (((Option Int) × Unit) × ((Int × Unit) × Unit))) : evCode E_hnum_Is (tab (L_hnum_Is k)) c_hnum_Is (bodyOf Try.f24) 0 (finK E_hnum_Is po_hnum_Is [.tmp 4]) (startSt pi_hnum_Is 9 d) = f_hnum_Is_m () d := by kernel_rfl
def g_hnum_Is (d : Unit × (((Option Int) × Unit) × ((Int × Unit) × Unit))) : Option (Unit × ((Bool × Unit) × Unit)) := f_hnum_Is_m () d
theorem ok_hnum_Is : FnOk Try.prog ET0 24 pi_hnum_Is po_hnum_Is g_hnum_Is :=
  fn_of_body (E := E_hnum_Is) (envOk_add e0_ok (typed_ok ok_hnum_Num)) (fn := Try.f24) Try.func24 (by kernel_rfl) (by kernel_rfl) [.tmp 4] (by kernel_rfl) (by kernel_rfl) (by decide) c_hnum_Is L_hnum_Is
    (by intro x hx; cases hx) (by intro k x hx; cases hx) (fun d out h => ⟨0, (q_hnum_Is_m 0 d).trans h⟩)

/- horologe/horologelaw08.LabelMakes -/
@[reducible] def pi_law08_LabelMakes : PSh := ⟨[], [.mk false [.v (.int .i64)], .mk false [.v (.int .i64)], .mk true [.v (.int .i64), .v (.int .i64)]]⟩
@[reducible] def po_law08_LabelMakes : PSh := ⟨[], [.mk false [.v .bool]]⟩
def f_law08_LabelMakes_m (T : Unit) (d : Unit × ((Int × Unit) × ((Int × Unit) × ((Int × (Int × Unit)) × Unit)))) : Option (Unit × ((Bool × Unit) × Unit)) :=
  (g_law08_alive ((), ())).bind fun x1 =>
  let x2 : Bool := (!x1.2.1.1)
  bif x2 then (
  some ((), ((false, ()), ())))
  else (
  (g_label_Of ((), ((d.2.1.1, ()), ((d.2.2.1.1, ()), ((d.2.2.2.1.1, ()), ((d.2.2.2.1.2.1, ()), ())))))).bind fun x3 =>
  (g_ref08_Of ((), ((d.2.1.1, ()), ((d.2.2.1.1, ()), ((d.2.2.2.1.1, ()), ((d.2.2.2.1.2.1, ()), ())))))).bind fun x4 =>
  (g_law08_Document ((), ((x3.2.1.1, (x3.2.1.2.1, (x3.2.1.2.2.1, (x3.2.1.2.2.2.1, (x3.2.1.2.2.2.2.1, (x3.2.1.2.2.2.2.2.1, (x3.2.1.2.2.2.2.2.2.1, (x3.2.1.2.2.2.2.2.2.2.1, ())))))))), ()))).bind fun x5 =>
  let x6 : Bool := (!((x5.2.1.1 == x4.2.1.1) && ((x5.2.1.2.1 == x4.2.1.2.1) && ((x5.2.1.2.2.1 == x4.2.1.2.2.1) && ((x5.2.1.2.2.2.1 == x4.2.1.2.2.2.1) && ((x5.2.1.2.2.2.2.1 == x4.2.1.2.2.2.2.1) && ((x5.2.1.2.2.2.2.2.1 == x4.2.1.2.2.2.2.2.1) && ((x5.2.1.2.2.2.2.2.2.1 == x4.2.1.2.2.2.2.2.2.1) && ((x5.2.1.2.2.2.2.2.2.2.1 == x4.2.1.2.2.2.2.2.2.2.1) && true)))))))))
  bif x6 then (
  some ((), ((false, ()), ())))
  else (
  (g_hnum_Num ((), ((x3.2.2.1.1, ()), ()))).bind fun x7 =>
  let x8 : Bool := (x7.2.1.1 != x4.2.2.1.1)
  bif x8 then (
  some ((), ((false, ()), ())))
  else (
  (g_label_Clock ((), ((d.2.2.1.1, ()), ()))).bind fun x9 =>
  let x10 : Bool := (decide (d.2.2.1.1 < (0 : Int)))
  bif x10 then (
  let x11 : Bool := (x9.2.1.1 == (0 : Int))
  bif x11 then (
  let x12 : Bool := (x9.2.2.1.1 == (0 : Int))
  bif x12 then (
  let x13 : Bool := (x9.2.2.2.1.1 == (0 : Int))
  bif x13 then (
  (g_hnum_Is ((), ((x9.2.2.2.2.1.1, ()), (((1 : Int), ()), ())))).bind fun x14 =>
  some ((), ((x14.2.1.1, ()), ())))
  else (
  some ((), ((false, ()), ()))))
  else (
  some ((), ((false, ()), ()))))
  else (
  some ((), ((false, ()), ()))))
  else (
  let x15 : Bool := (decide (d.2.2.1.1 > (86400 : Int)))
  bif x15 then (
  let x16 : Bool := (x9.2.1.1 == (0 : Int))
  bif x16 then (
  let x17 : Bool := (x9.2.2.1.1 == (0 : Int))
  bif x17 then (
  let x18 : Bool := (x9.2.2.2.1.1 == (0 : Int))
  bif x18 then (
  (g_hnum_Is ((), ((x9.2.2.2.2.1.1, ()), (((1 : Int), ()), ())))).bind fun x19 =>
  some ((), ((x19.2.1.1, ()), ())))
  else (
  some ((), ((false, ()), ()))))
  else (
  some ((), ((false, ()), ()))))
  else (
  some ((), ((false, ()), ()))))
  else (
  let x20 : Bool := (d.2.2.1.1 == (86400 : Int))
  bif x20 then (
  bif x9.2.2.2.2.1.1.isNone then (
  let x21 : Bool := (x9.2.1.1 == (23 : Int))
  bif x21 then (
  let x22 : Bool := (x9.2.2.1.1 == (59 : Int))
  bif x22 then (
  let x23 : Bool := (x9.2.2.2.1.1 == (60 : Int))
  some ((), ((x23, ()), ())))
  else (
  some ((), ((false, ()), ()))))
  else (
  some ((), ((false, ()), ()))))
  else (
  some ((), ((false, ()), ()))))
  else (
  bif x9.2.2.2.2.1.1.isNone then (
  let x24 : Int := (iquo .i64 d.2.2.1.1 (3600 : Int))
  let x25 : Bool := (x9.2.1.1 == x24)
  bif x25 then (
  let x26 : Int := (iquo .i64 d.2.2.1.1 (60 : Int))
  let x27 : Int := (Int.tmod x26 (60 : Int))
  let x28 : Bool := (x9.2.2.1.1 == x27)
  bif x28 then (
  let x29 : Int := (Int.tmod d.2.2.1.1 (60 : Int))
  let x30 : Bool := (x9.2.2.2.1.1 == x29)
  some ((), ((x30, ()), ())))
  else (
  some ((), ((false, ()), ()))))
  else (
  some ((), ((false, ()), ()))))
  else (
  some ((), ((false, ()), ())))))))))
def c_law08_LabelMakes : List Nat := []
def L_law08_LabelMakes (_ : Nat) : Pts po_law08_LabelMakes.den := []
def E_law08_LabelMakes : Env := (((((((E0.add 12 (typedSem pi_law08_alive po_law08_alive g_law08_alive)).add 15 (typedSem pi_law08_Document po_law08_Document g_law08_Document)).add 16 (typedSem pi_hnum_Num po_hnum_Num g_hnum_Num)).add 21 (typedSem pi_label_Of po_label_Of g_label_Of)).add 22 (typedSem pi_ref08_Of po_ref08_Of g_ref08_Of)).add 23 (typedSem pi_label_Clock po_label_Clock g_label_Clock)).add 24 (typedSem pi_hnum_Is po_hnum_Is g_hnum_Is))
theorem q_law08_LabelMakes_m (k : Nat) (d : Unit × ((Int × Unit) × ((Int × Unit) × ((Int × (Int × Unit)) × Unit)))) : evCode E_law08_LabelMakes (tab (L_law08_LabelMakes k)) c_law08_LabelMakes (bodyOf Try.f5) 0 (finK E_law08_LabelMakes po_law08_LabelMakes [.tmp 6]) (startSt pi_law08_LabelMakes 110 d) = f_law08_LabelMakes_m () d := by kernel_rfl
def g_law08_LabelMakes (d : Unit × ((Int × Unit) × ((Int × Unit) × ((Int × (Int × Unit)) × Unit)))) : Option (Unit × ((Bool × Unit) × Unit)) := f_law08_LabelMakes_m () d
theorem ok_law08_LabelMakes : FnOk Try.prog ET0 5 pi_law08_LabelMakes po_law08_LabelMakes g_law08_LabelMakes :=
  fn_of_body (E := E_law08_LabelMakes) (envOk_add (envOk_add (envOk_add (envOk_add (envOk_add (envOk_add (envOk_add e0_ok (typed_ok ok_law08_alive)) (typed_ok ok_law08_Document)) (typed_ok ok_hnum_Num)) (typed_ok ok_label_Of)) (typed_ok ok_ref08_Of)) (typed_ok ok_label_Clock)) (typed_ok ok_hnum_Is)) (fn := Try.f5) Try.func5 (by kernel_rfl) (by kernel_rfl) [.tmp 6] (by kernel_rfl) (by kernel_rfl) (by decide) c_law08_LabelMakes L_law08_LabelMakes
    (by intro x hx; cases hx) (by intro k x hx; cases hx) (fun d out h => ⟨0, (q_law08_LabelMakes_m 0 d).trans h⟩)

/- horologe/label.At -/
@[reducible] def pi_label_At : PSh := ⟨[], [.mk true [.v (.int .i64), .v (.int .i64), .v (.int .i64), .v (.int .i64), .v (.int .i64), .v (.int .i64), .v (.int .i64), .v (.int .i64)], .mk false [.v (.int .i64)]]⟩
@[reducible] def po_label_At : PSh := ⟨[], [.mk true [.v (.int .i64), .v (.int .i64), .v (.int .i64), .v (.int .i64), .v (.int .i64), .v (.int .i64), .v (.int .i64), .v (.int .i64)], .mk false [.v .err]]⟩
def f_label_At_m (T : Unit) (d : Unit × ((Int × (Int × (Int × (Int × (Int × (Int × (Int × (Int × Unit)))))))) × ((Int × Unit) × Unit))) : Option (Unit × ((Int × (Int × (Int × (Int × (Int × (Int × (Int × (Int × Unit)))))))) × (((Option Int) × Unit) × Unit))) :=
  (g_label_Split ((), ((d.2.1.1, (d.2.1.2.1, (d.2.1.2.2.1, (d.2.1.2.2.2.1, (d.2.1.2.2.2.2.1, (d.2.1.2.2.2.2.2.1, (d.2.1.2.2.2.2.2.2.1, (d.2.1.2.2.2.2.2.2.2.1, ())))))))), ()))).bind fun x1 =>
  let x2 : Bool := (!x1.2.2.2.1.1.isNone)
  bif x2 then (
  some ((), (((0 : Int), ((0 : Int), ((0 : Int), ((0 : Int), ((0 : Int), ((0 : Int), ((0 : Int), ((0 : Int), ())))))))), ((x1.2.2.2.1.1, ()), ()))))
  else (
  (g_label_Of ((), ((x1.2.1.1, ()), ((x1.2.2.1.1, ()), ((d.2.1.2.2.2.2.2.2.1, ()), ((d.2.2.1.1, ()), ())))))).bind fun x3 =>
  some ((), ((x3.2.1.1, (x3.2.1.2.1, (x3.2.1.2.2.1, (x3.2.1.2.2.2.1, (x3.2.1.2.2.2.2.1, (x3.2.1.2.2.2.2.2.1, (x3.2.1.2.2.2.2.2.2.1, (x3.2.1.2.2.2.2.2.2.2.1, ())))))))), ((x3.2.2.1.1, ()), ()))))
def c_label_At : List Nat := []
def L_label_At (_ : Nat) : Pts po_label_At.den := []
def E_label_At : Env := ((E0.add 13 (typedSem pi_label_Split po_label_Split g_label_Split)).add 21 (typedSem pi_label_Of po_label_Of g_label_Of))
theorem q_label_At_m (k : Nat) (d : Unit × ((Int × (Int × (Int × (Int × (Int × (Int × (Int × (Int × Unit)))))))) × ((Int × Unit) × Unit))) : evCode E_label_At (tab (L_label_At k)) c_label_At (bodyOf Try.f25) 0 (finK E_label_At po_label_At [.cell 4 23, .tmp 5]) (startSt pi_label_At 27 d) = f_label_At_m () d := by kernel_rfl
def g_label_At (d : Unit × ((Int × (Int × (Int × (Int × (Int × (Int × (Int × (Int × Unit)))))))) × ((Int × Unit) × Unit))) : Option (Unit × ((Int × (Int × (Int × (Int × (Int × (Int × (Int × (Int × Unit)))))))) × (((Option Int) × Unit) × Unit))) := f_label_At_m () d
theorem ok_label_At : FnOk Try.prog ET0 25 pi_label_At po_label_At g_label_At :=
  fn_of_body (E := E_label_At) (envOk_add (envOk_add e0_ok (typed_ok ok_label_Split)) (typed_ok ok_label_Of)) (fn := Try.f25) Try.func25 (by kernel_rfl) (by kernel_rfl) [.cell 4 23, .tmp 5] (by kernel_rfl) (by kernel_rfl) (by decide) c_label_At L_label_At
    (by intro x hx; cases hx) (by intro k x hx; cases hx) (fun d out h => ⟨0, (q_label_At_m 0 d).trans h⟩)

/- horologe/label.UTC -/
@[reducible] def pi_label_UTC : PSh := ⟨[], [.mk true [.v (.int .i64), .v (.int .i64), .v (.int .i64), .v (.int .i64), .v (.int .i64), .v (.int .i64), .v (.int .i64), .v (.int .i64)]]⟩
@[reducible] def po_label_UTC : PSh := ⟨[], [.mk true [.v (.int .i64), .v (.int .i64), .v (.int .i64), .v (.int .i64), .v (.int .i64), .v (.int .i64), .v (.int .i64), .v (.int .i64)], .mk false [.v .err]]⟩
def f_label_UTC_m (T : Unit) (d : Unit × ((Int × (Int × (Int × (Int × (Int × (Int × (Int × (Int × Unit)))))))) × Unit)) : Option (Unit × ((Int × (Int × (Int × (Int × (Int × (Int × (Int × (Int × Unit)))))))) × (((Option Int) × Unit) × Unit))) :=
  (g_label_At ((), ((d.2.1.1, (d.2.1.2.1, (d.2.1.2.2.1, (d.2.1.2.2.2.1, (d.2.1.2.2.2.2.1, (d.2.1.2.2.2.2.2.1, (d.2.1.2.2.2.2.2.2.1, (d.2.1.2.2.2.2.2.2.2.1, ())))))))), (((0 : Int), ()), ())))).bind fun x1 =>
  some ((), ((x1.2.1.1, (x1.2.1.2.1, (x1.2.1.2.2.1, (x1.2.1.2.2.2.1, (x1.2.1.2.2.2.2.1, (x1.2.1.2.2.2.2.2.1, (x1.2.1.2.2.2.2.2.2.1, (x1.2.1.2.2.2.2.2.2.2.1, ())))))))), ((x1.2.2.1.1, ()), ())))
def c_label_UTC : List Nat := []
def L_label_UTC (_ : Nat) : Pts po_label_UTC.den := []
def E_label_UTC : Env := (E0.add 25 (typedSem pi_label_At po_label_At g_label_At))
theorem q_label_UTC_m (k : Nat) (d : Unit × ((Int × (Int × (Int × (Int × (Int × (Int × (Int × (Int × Unit)))))))) × Unit)) : evCode E_label_UTC (tab (L_label_UTC k)) c_label_UTC (bodyOf Try.f26) 0 (finK E_label_UTC po_label_UTC [.cell 2 23, .tmp 3]) (startSt pi_label_UTC 8 d) = f_label_UTC_m () d := by kernel_rfl
def g_label_UTC (d : Unit × ((Int × (Int × (Int × (Int × (Int × (Int × (Int × (Int × Unit)))))))) × Unit)) : Option (Unit × ((Int × (Int × (Int × (Int × (Int × (Int × (Int × (Int × Unit)))))))) × (((Option Int) × Unit) × Unit))) := f_label_UTC_m () d
theorem ok_label_UTC : FnOk Try.prog ET0 26 pi_label_UTC po_label_UTC g_label_UTC :=
  fn_of_body (E := E_label_UTC) (envOk_add e0_ok (typed_ok ok_label_At)) (fn := Try.f26) Try.func26 (by kernel_rfl) (by kernel_rfl) [.cell 2 23, .tmp 3] (by kernel_rfl) (by kernel_rfl) (by decide) c_label_UTC L_label_UTC
    (by intro x hx; cases hx) (by intro k x hx; cases hx) (fun d out h => ⟨0, (q_label_UTC_m 0 d).trans h⟩)

/- horologe/horologeref08.At -/
@[reducible] def pi_ref08_At : PSh := ⟨[], [.mk true [.v (.int .i64), .v (.int .i64), .v (.int .i64), .v (.int .i64), .v (.int .i64), .v (.int .i64), .v (.int .i64), .v (.int .i64)], .mk false [.v (.int .i64)]]⟩
@[reducible] def po_ref08_At : PSh := ⟨[], [.mk true [.v (.int .i64), .v (.int .i64), .v (.int .i64), .v (.int .i64), .v (.int .i64), .v (.int .i64), .v (.int .i64), .v (.int .i64)], .mk false [.v (.int .i64)]]⟩
def f_ref08_At_m (T : Unit) (d : Unit × ((Int × (Int × (Int × (Int × (Int × (Int × (Int × (Int × Unit)))))))) × ((Int × Unit) × Unit))) : Option (Unit × ((Int × (Int × (Int × (Int × (Int × (Int × (Int × (Int × Unit)))))))) × ((Int × Unit) × Unit))) :=
  (g_ref08_Split ((), ((d.2.1.1, (d.2.1.2.1, (d.2.1.2.2.1, (d.2.1.2.2.2.1, (d.2.1.2.2.2.2.1, (d.2.1.2.2.2.2.2.1, (d.2.1.2.2.2.2.2.2.1, (d.2.1.2.2.2.2.2.2.2.1, ())))))))), ()))).bind fun x1 =>
  let x2 : Bool := (x1.2.2.2.1.1 != (0 : Int))
  bif x2 then (
  some ((), (((0 : Int), ((0 : Int), ((0 : Int), ((0 : Int), ((0 : Int), ((0 : Int), ((0 : Int), ((0 : Int), ())))))))), ((x1.2.2.2.1.1, ()), ()))))
  else (
  (g_ref08_Of ((), ((x1.2.1.1, ()), ((x1.2.2.1.1, ()), ((d.2.1.2.2.2.2.2.2.1, ()), ((d.2.2.1.1, ()), ())))))).bind fun x3 =>
  some ((), ((x3.2.1.1, (x3.2.1.2.1, (x3.2.1.2.2.1, (x3.2.1.2.2.2.1, (x3.2.1.2.2.2.2.1, (x3.2.1.2.2.2.2.2.1, (x3.2.1.2.2.2.2.2.2.1, (x3.2.1.2.2.2.2.2.2.2.1, ())))))))), ((x3.2.2.1.1, ()), ()))))
def c_ref08_At : List Nat := []
def L_ref08_At (_ : Nat) : Pts po_ref08_At.den := []
def E_ref08_At : Env := ((E0.add 14 (typedSem pi_ref08_Split po_ref08_Split g_ref08_Split)).add 22 (typedSem pi_ref08_Of po_ref08_Of g_ref08_Of))
theorem q_ref08_At_m (k : Nat) (d : Unit × ((Int × (Int × (Int × (Int × (Int × (Int × (Int × (Int × Unit)))))))) × ((Int × Unit) × Unit))) : evCode E_ref08_At (tab (L_ref08_At k)) c_ref08_At (bodyOf Try.f27) 0 (finK E_ref08_At po_ref08_At [.cell 4 31, .tmp 5]) (startSt pi_ref08_At 27 d) = f_ref08_At_m () d := by kernel_rfl
def g_ref08_At (d : Unit × ((Int × (Int × (Int × (Int × (Int × (Int × (Int × (Int × Unit)))))))) × ((Int × Unit) × Unit))) : Option (Unit × ((Int × (Int × (Int × (Int × (Int × (Int × (Int × (Int × Unit)))))))) × ((Int × Unit) × Unit))) := f_ref08_At_m () d
theorem ok_ref08_At : FnOk Try.prog ET0 27 pi_ref08_At po_ref08_At g_ref08_At :=
  fn_of_body (E := E_ref08_At) (envOk_add (envOk_add e0_ok (typed_ok ok_ref08_Split)) (typed_ok ok_ref08_Of)) (fn := Try.f27) Try.func27 (by kernel_rfl) (by kernel_rfl) [.cell 4 31, .tmp 5] (by kernel_rfl) (by kernel_rfl) (by decide) c_ref08_At L_ref08_At
    (by intro x hx; cases hx) (by intro k x hx; cases hx) (fun d out h => ⟨0, (q_ref08_At_m 0 d).trans h⟩)

/- horologe/horologelaw08.LabelShifts -/
@[reducible] def pi_law08_LabelShifts : PSh := ⟨[], [.mk true [.v (.int .i64), .v (.int .i64), .v (.int .i64), .v (.int .i64), .v (.int .i64), .v (.int .i64), .v (.int .i64), .v (.int .i64)], .mk false [.v (.int .i64)]]⟩
@[reducible] def po_law08_LabelShifts : PSh := ⟨[], [.mk false [.v .bool]]⟩
def f_law08_LabelShifts_m (T : Unit) (d : Unit × ((Int × (Int × (Int × (Int × (Int × (Int × (Int × (Int × Unit)))))))) × ((Int × Unit) × Unit))) : Option (Unit × ((Bool × Unit) × Unit)) :=
  (g_law08_alive ((), ())).bind fun x1 =>
  let x2 : Bool := (!x1.2.1.1)
  bif x2 then (
  some ((), ((false, ()), ())))
  else (
  (g_label_At ((), ((d.2.1.1, (d.2.1.2.1, (d.2.1.2.2.1, (d.2.1.2.2.2.1, (d.2.1.2.2.2.2.1, (d.2.1.2.2.2.2.2.1, (d.2.1.2.2.2.2.2.2.1, (d.2.1.2.2.2.2.2.2.2.1, ())))))))), ((d.2.2.1.1, ()), ())))).bind fun x3 =>
  (g_label_UTC ((), ((d.2.1.1, (d.2.1.2.1, (d.2.1.2.2.1, (d.2.1.2.2.2.1, (d.2.1.2.2.2.2.1, (d.2.1.2.2.2.2.2.1, (d.2.1.2.2.2.2.2.2.1, (d.2.1.2.2.2.2.2.2.2.1, ())))))))), ()))).bind fun x4 =>
  (g_law08_Document ((), ((d.2.1.1, (d.2.1.2.1, (d.2.1.2.2.1, (d.2.1.2.2.2.1, (d.2.1.2.2.2.2.1, (d.2.1.2.2.2.2.2.1, (d.2.1.2.2.2.2.2.2.1, (d.2.1.2.2.2.2.2.2.2.1, ())))))))), ()))).bind fun x5 =>
  (g_ref08_At ((), ((x5.2.1.1, (x5.2.1.2.1, (x5.2.1.2.2.1, (x5.2.1.2.2.2.1, (x5.2.1.2.2.2.2.1, (x5.2.1.2.2.2.2.2.1, (x5.2.1.2.2.2.2.2.2.1, (x5.2.1.2.2.2.2.2.2.2.1, ())))))))), ((d.2.2.1.1, ()), ())))).bind fun x6 =>
  (g_law08_Document ((), ((d.2.1.1, (d.2.1.2.1, (d.2.1.2.2.1, (d.2.1.2.2.2.1, (d.2.1.2.2.2.2.1, (d.2.1.2.2.2.2.2.1, (d.2.1.2.2.2.2.2.2.1, (d.2.1.2.2.2.2.2.2.2.1, ())))))))), ()))).bind fun x7 =>
  (g_ref08_At ((), ((x7.2.1.1, (x7.2.1.2.1, (x7.2.1.2.2.1, (x7.2.1.2.2.2.1, (x7.2.1.2.2.2.2.1, (x7.2.1.2.2.2.2.2.1, (x7.2.1.2.2.2.2.2.2.1, (x7.2.1.2.2.2.2.2.2.2.1, ())))))))), (((0 : Int), ()), ())))).bind fun x8 =>
  (g_law08_Document ((), ((x3.2.1.1, (x3.2.1.2.1, (x3.2.1.2.2.1, (x3.2.1.2.2.2.1, (x3.2.1.2.2.2.2.1, (x3.2.1.2.2.2.2.2.1, (x3.2.1.2.2.2.2.2.2.1, (x3.2.1.2.2.2.2.2.2.2.1, ())))))))), ()))).bind fun x9 =>
  let x10 : Bool := ((x9.2.1.1 == x6.2.1.1) && ((x9.2.1.2.1 == x6.2.1.2.1) && ((x9.2.1.2.2.1 == x6.2.1.2.2.1) && ((x9.2.1.2.2.2.1 == x6.2.1.2.2.2.1) && ((x9.2.1.2.2.2.2.1 == x6.2.1.2.2.2.2.1) && ((x9.2.1.2.2.2.2.2.1 == x6.2.1.2.2.2.2.2.1) && ((x9.2.1.2.2.2.2.2.2.1 == x6.2.1.2.2.2.2.2.2.1) && ((x9.2.1.2.2.2.2.2.2.2.1 == x6.2.1.2.2.2.2.2.2.2.1) && true))))))))
  bif x10 then (
  (g_law08_Document ((), ((x4.2.1.1, (x4.2.1.2.1, (x4.2.1.2.2.1, (x4.2.1.2.2.2.1, (x4.2.1.2.2.2.2.1, (x4.2.1.2.2.2.2.2.1, (x4.2.1.2.2.2.2.2.2.1, (x4.2.1.2.2.2.2.2.2.2.1, ())))))))), ()))).bind fun x11 =>
  let x12 : Bool := ((x11.2.1.1 == x8.2.1.1) && ((x11.2.1.2.1 == x8.2.1.2.1) && ((x11.2.1.2.2.1 == x8.2.1.2.2.1) && ((x11.2.1.2.2.2.1 == x8.2.1.2.2.2.1) && ((x11.2.1.2.2.2.2.1 == x8.2.1.2.2.2.2.1) && ((x11.2.1.2.2.2.2.2.1 == x8.2.1.2.2.2.2.2.1) && ((x11.2.1.2.2.2.2.2.2.1 == x8.2.1.2.2.2.2.2.2.1) && ((x11.2.1.2.2.2.2.2.2.2.1 == x8.2.1.2.2.2.2.2.2.2.1) && true))))))))
  bif x12 then (
  (g_hnum_Num ((), ((x3.2.2.1.1, ()), ()))).bind fun x13 =>
  let x14 : Bool := (x13.2.1.1 == x6.2.2.1.1)
  bif x14 then (
  (g_hnum_Num ((), ((x4.2.2.1.1, ()), ()))).bind fun x15 =>
  let x16 : Bool := (x15.2.1.1 == x8.2.2.1.1)
  some ((), ((x16, ()), ())))
  else (
  some ((), ((false, ()), ()))))
  else (
  some ((), ((false, ()), ()))))
  else (
  some ((), ((false, ()), ()))))
def c_law08_LabelShifts : List Nat := []
def L_law08_LabelShifts (_ : Nat) : Pts po_law08_LabelShifts.den := []
def E_law08_LabelShifts : Env := ((((((E0.add 12 (typedSem pi_law08_alive po_law08_alive g_law08_alive)).add 15 (typedSem pi_law08_Document po_law08_Document g_law08_Document)).add 16 (typedSem pi_hnum_Num po_hnum_Num g_hnum_Num)).add 25 (typedSem pi_label_At po_label_At g_label_At)).add 26 (typedSem pi_label_UTC po_label_UTC g_label_UTC)).add 27 (typedSem pi_ref08_At po_ref08_At g_ref08_At))
theorem q_law08_LabelShifts_m (k : Nat) (d : Unit × ((Int × (Int × (Int × (Int × (Int × (Int × (Int × (Int × Unit)))))))) × ((Int × Unit) × Unit))) : evCode E_law08_LabelShifts (tab (L_law08_LabelShifts k)) c_law08_LabelShifts (bodyOf Try.f6) 0 (finK E_law08_LabelShifts po_law08_LabelShifts [.tmp 4]) (startSt pi_law08_LabelShifts 61 d) = f_law08_LabelShifts_m () d := by kernel_rfl
def g_law08_LabelShifts (d : Unit × ((Int × (Int × (Int × (Int × (Int × (Int × (Int × (Int × Unit)))))))) × ((Int × Unit) × Unit))) : Option (Unit × ((Bool × Unit) × Unit)) := f_law08_LabelShifts_m () d
theorem ok_law08_LabelShifts : FnOk Try.prog ET0 6 pi_law08_LabelShifts po_law08_LabelShifts g_law08_LabelShifts :=
  fn_of_body (E := E_law08_LabelShifts) (envOk_add (envOk_add (envOk_add (envOk_add (envOk_add (envOk_add e0_ok (typed_ok ok_law08_alive)) (typed_ok ok_law08_Document)) (typed_ok ok_hnum_Num)) (typed_ok ok_label_At)) (typed_ok ok_label_UTC)) (typed_ok ok_ref08_At)) (fn := Try.f6) Try.func6 (by kernel_rfl) (by kernel_rfl) [.tmp 4] (by kernel_rfl) (by kernel_rfl) (by decide) c_law08_LabelShifts L_law08_LabelShifts
    (by intro x hx; cases hx) (by intro k x hx; cases hx) (fun d out h => ⟨0, (q_law08_LabelShifts_m 0 d).trans h⟩)

/- horologe/horologelaw08.LabelBack -/
@[reducible] def pi_law08_LabelBack : PSh := ⟨[], [.mk true [.v (.int .i64), .v (.int .i64), .v (.int .i64), .v (.int .i64), .v (.int .i64), .v (.int .i64), .v (.int .i64), .v (.int .i64)], .mk false [.v (.int .i64)]]⟩
@[reducible] def po_law08_LabelBack : PSh := ⟨[], [.mk false [.v .bool]]⟩
def f_law08_LabelBack_m (T : Unit) (d : Unit × ((Int × (Int × (Int × (Int × (Int × (Int × (Int × (Int × Unit)))))))) × ((Int × Unit) × Unit))) : Option (Unit × ((Bool × Unit) × Unit)) :=
  (g_law08_alive ((), ())).bind fun x1 =>
  let x2 : Bool := (!x1.2.1.1)
  bif x2 then (
  some ((), ((false, ()), ())))
  else (
  (g_label_Split ((), ((d.2.1.1, (d.2.1.2.1, (d.2.1.2.2.1, (d.2.1.2.2.2.1, (d.2.1.2.2.2.2.1, (d.2.1.2.2.2.2.2.1, (d.2.1.2.2.2.2.2.2.1, (d.2.1.2.2.2.2.2.2.2.1, ())))))))), ()))).bind fun x3 =>
  let x4 : Bool := (!x3.2.2.2.1.1.isNone)
  bif x4 then (
  some ((), ((true, ()), ())))
  else (
  (g_label_Of ((), ((x3.2.1.1, ()), ((x3.2.2.1.1, ()), ((d.2.1.2.2.2.2.2.2.1, ()), ((d.2.1.2.2.2.2.2.2.2.1, ()), ())))))).bind fun x5 =>
  let x6 : Bool := (!x5.2.2.1.1.isNone)
  bif x6 then (
  some ((), ((false, ()), ())))
  else (
  let x7 : Bool := (!((x5.2.1.1 == d.2.1.1) && ((x5.2.1.2.1 == d.2.1.2.1) && ((x5.2.1.2.2.1 == d.2.1.2.2.1) && ((x5.2.1.2.2.2.1 == d.2.1.2.2.2.1) && ((x5.2.1.2.2.2.2.1 == d.2.1.2.2.2.2.1) && ((x5.2.1.2.2.2.2.2.1 == d.2.1.2.2.2.2.2.1) && ((x5.2.1.2.2.2.2.2.2.1 == d.2.1.2.2.2.2.2.2.1) && ((x5.2.1.2.2.2.2.2.2.2.1 == d.2.1.2.2.2.2.2.2.2.1) && true)))))))))
  bif x7 then (
  some ((), ((false, ()), ())))
  else (
  (g_label_At ((), ((d.2.1.1, (d.2.1.2.1, (d.2.1.2.2.1, (d.2.1.2.2.2.1, (d.2.1.2.2.2.2.1, (d.2.1.2.2.2.2.2.1, (d.2.1.2.2.2.2.2.2.1, (d.2.1.2.2.2.2.2.2.2.1, ())))))))), ((d.2.2.1.1, ()), ())))).bind fun x8 =>
  let x9 : Bool := (!x8.2.2.1.1.isNone)
  bif x9 then (
  let x10 : Bool := ((x8.2.1.1 == (0 : Int)) && ((x8.2.1.2.1 == (0 : Int)) && ((x8.2.1.2.2.1 == (0 : Int)) && ((x8.2.1.2.2.2.1 == (0 : Int)) && ((x8.2.1.2.2.2.2.1 == (0 : Int)) && ((x8.2.1.2.2.2.2.2.1 == (0 : Int)) && ((x8.2.1.2.2.2.2.2.2.1 == (0 : Int)) && ((x8.2.1.2.2.2.2.2.2.2.1 == (0 : Int)) && true))))))))
  some ((), ((x10, ()), ())))
  else (
  (g_label_Split ((), ((x8.2.1.1, (x8.2.1.2.1, (x8.2.1.2.2.1, (x8.2.1.2.2.2.1, (x8.2.1.2.2.2.2.1, (x8.2.1.2.2.2.2.2.1, (x8.2.1.2.2.2.2.2.2.1, (x8.2.1.2.2.2.2.2.2.2.1, ())))))))), ()))).bind fun x11 =>
  (g_label_At ((), ((x8.2.1.1, (x8.2.1.2.1, (x8.2.1.2.2.1, (x8.2.1.2.2.2.1, (x8.2.1.2.2.2.2.1, (x8.2.1.2.2.2.2.2.1, (x8.2.1.2.2.2.2.2.2.1, (x8.2.1.2.2.2.2.2.2.2.1, ())))))))), ((d.2.1.2.2.2.2.2.2.2.1, ()), ())))).bind fun x12 =>
  (g_label_Compare ((), ((d.2.1.1, (d.2.1.2.1, (d.2.1.2.2.1, (d.2.1.2.2.2.1, (d.2.1.2.2.2.2.1, (d.2.1.2.2.2.2.2.1, (d.2.1.2.2.2.2.2.2.1, (d.2.1.2.2.2.2.2.2.2.1, ())))))))), ((x8.2.1.1, (x8.2.1.2.1, (x8.2.1.2.2.1, (x8.2.1.2.2.2.1, (x8.2.1.2.2.2.2.1, (x8.2.1.2.2.2.2.2.1, (x8.2.1.2.2.2.2.2.2.1, (x8.2.1.2.2.2.2.2.2.2.1, ())))))))), ())))).bind fun x13 =>
  bif x11.2.2.2.1.1.isNone then (
  bif x12.2.2.1.1.isNone then (
  bif x13.2.2.1.1.isNone then (
  let x14 : Bool := (x11.2.1.1 == x3.2.1.1)
  bif x14 then (
  let x15 : Bool := (x11.2.2.1.1 == x3.2.2.1.1)
  bif x15 then (
  let x16 : Bool := ((x12.2.1.1 == d.2.1.1) && ((x12.2.1.2.1 == d.2.1.2.1) && ((x12.2.1.2.2.1 == d.2.1.2.2.1) && ((x12.2.1.2.2.2.1 == d.2.1.2.2.2.1) && ((x12.2.1.2.2.2.2.1 == d.2.1.2.2.2.2.1) && ((x12.2.1.2.2.2.2.2.1 == d.2.1.2.2.2.2.2.1) && ((x12.2.1.2.2.2.2.2.2.1 == d.2.1.2.2.2.2.2.2.1) && ((x12.2.1.2.2.2.2.2.2.2.1 == d.2.1.2.2.2.2.2.2.2.1) && true))))))))
  bif x16 then (
  let x17 : Bool := (x13.2.1.1 == (0 : Int))
  bif x17 then (
  let x18 : Bool := (x8.2.1.2.2.2.2.2.2.2.1 == d.2.2.1.1)
  some ((), ((x18, ()), ())))
  else (
  some ((), ((false, ()), ()))))
  else (
  some ((), ((false, ()), ()))))
  else (
  some ((), ((false, ()), ()))))
  else (
  some ((), ((false, ()), ()))))
  else (
  some ((), ((false, ()), ()))))
  else (
  some ((), ((false, ()), ()))))
  else (
  some ((), ((false, ()), ()))))))))
def c_law08_LabelBack : List Nat := []
def L_law08_LabelBack (_ : Nat) : Pts po_law08_LabelBack.den := []
def E_law08_LabelBack : Env := (((((E0.add 12 (typedSem pi_law08_alive po_law08_alive g_law08_alive)).add 13 (typedSem pi_label_Split po_label_Split g_label_Split)).add 19 (typedSem pi_label_Compare po_label_Compare g_label_Compare)).add 21 (typedSem pi_label_Of po_label_Of g_label_Of)).add 25 (typedSem pi_label_At po_label_At g_label_At))
theorem q_law08_LabelBack_m (k : Nat) (d : Unit × ((Int × (Int × (Int × (Int × (Int × (Int × (Int × (Int × Unit)))))))) × ((Int × Unit) × Unit))) : evCode E_law08_LabelBack (tab (L_law08_LabelBack k)) c_law08_LabelBack (bodyOf Try.f7) 0 (finK E_law08_LabelBack po_law08_LabelBack [.tmp 4]) (startSt pi_law08_LabelBack 109 d) = f_law08_LabelBack_m () d := by kernel_rfl
def g_law08_LabelBack (d : Unit × ((Int × (Int × (Int × (Int × (Int × (Int × (Int × (Int × Unit)))))))) × ((Int × Unit) × Unit))) : Option (Unit × ((Bool × Unit) × Unit)) := f_law08_LabelBack_m () d
theorem ok_law08_LabelBack : FnOk Try.prog ET0 7 pi_law08_LabelBack po_law08_LabelBack g_law08_LabelBack :=
  fn_of_body (E := E_law08_LabelBack) (envOk_add (envOk_add (envOk_add (envOk_add (envOk_add e0_ok (typed_ok ok_law08_alive)) (typed_ok ok_label_Split)) (typed_ok ok_label_Compare)) (typed_ok ok_label_Of)) (typed_ok ok_label_At)) (fn := Try.f7) Try.func7 (by kernel_rfl) (by kernel_rfl) [.tmp 4] (by kernel_rfl) (by kernel_rfl) (by decide) c_law08_LabelBack L_law08_LabelBack
    (by intro x hx; cases hx) (by intro k x hx; cases hx) (fun d out h => ⟨0, (q_law08_LabelBack_m 0 d).trans h⟩)

/- (horologe/leap.Row).dated -/
@[reducible] def pi_leap_Row_dated : PSh := ⟨[], [.mk true [.v (.int .i64), .v (.int .i64)]]⟩
@[reducible] def po_leap_Row_dated : PSh := ⟨[], [.mk false [.v .bool]]⟩
def f_leap_Row_dated_m (T : Unit) (d : Unit × ((Int × (Int × Unit)) × Unit)) : Option (Unit × ((Bool × Unit) × Unit)) :=
  (g_day_Date ((), ((d.2.1.1, ()), ()))).bind fun x1 =>
  bif x1.2.2.2.2.1.1.isNone then (
  let x2 : Bool := (decide (x1.2.1.1 ≥ (1900 : Int)))
  some ((), ((x2, ()), ())))
  else (
  some ((), ((false, ()), ())))
def c_leap_Row_dated : List Nat := []
def L_leap_Row_dated (_ : Nat) : Pts po_leap_Row_dated.den := []
def E_leap_Row_dated : Env := (E0.add 62 (typedSem pi_day_Date po_day_Date g_day_Date))
theorem q_leap_Row_dated_m (k : Nat) (d : Unit × ((Int × (Int × Unit)) × Unit)) : evCode E_leap_Row_dated (tab (L_leap_Row_dated k)) c_leap_Row_dated (bodyOf Try.f66) 0 (finK E_leap_Row_dated po_leap_Row_dated [.tmp 2]) (startSt pi_leap_Row_dated 21 d) = f_leap_Row_dated_m () d := by kernel_rfl
def g_leap_Row_dated (d : Unit × ((Int × (Int × Unit)) × Unit)) : Option (Unit × ((Bool × Unit) × Unit)) := f_leap_Row_dated_m () d
theorem ok_leap_Row_dated : FnOk Try.prog ET0 66 pi_leap_Row_dated po_leap_Row_dated g_leap_Row_dated :=
  fn_of_body (E := E_leap_Row_dated) (envOk_add e0_ok (typed_ok ok_day_Date)) (fn := Try.f66) Try.func66 (by kernel_rfl) (by kernel_rfl) [.tmp 2] (by kernel_rfl) (by kernel_rfl) (by decide) c_leap_Row_dated L_leap_Row_dated
    (by intro x hx; cases hx) (by intro k x hx; cases hx) (fun d out h => ⟨0, (q_leap_Row_dated_m 0 d).trans h⟩)

/- horologe/leap.New$1 -/
@[reducible] def pi_leap_New_1 : PSh := ⟨[], [.mk true [.v (.int .i64), .v (.int .i64)]]⟩
@[reducible] def po_leap_New_1 : PSh := ⟨[], [.mk false [.v .bool]]⟩
def f_leap_New_1_m (T : Unit) (d : Unit × ((Int × (Int × Unit)) × Unit)) : Option (Unit × ((Bool × Unit) × Unit)) :=
  (g_leap_Row_dated ((), ((d.2.1.1, (d.2.1.2.1, ())), ()))).bind fun x1 =>
  let x2 : Bool := (!x1.2.1.1)
  some ((), ((x2, ()), ()))
def c_leap_New_1 : List Nat := []
def L_leap_New_1 (_ : Nat) : Pts po_leap_New_1.den := []
def E_leap_New_1 : Env := (E0.add 66 (typedSem pi_leap_Row_dated po_leap_Row_dated g_leap_Row_dated))
theorem q_leap_New_1_m (k : Nat) (d : Unit × ((Int × (Int × Unit)) × Unit)) : evCode E_leap_New_1 (tab (L_leap_New_1 k)) c_leap_New_1 (bodyOf Try.f65) 0 (finK E_leap_New_1 po_leap_New_1 [.tmp 2]) (startSt pi_leap_New_1 6 d) = f_leap_New_1_m () d := by kernel_rfl
def g_leap_New_1 (d : Unit × ((Int × (Int × Unit)) × Unit)) : Option (Unit × ((Bool × Unit) × Unit)) := f_leap_New_1_m () d
theorem ok_leap_New_1 : FnOk Try.prog ET0 65 pi_leap_New_1 po_leap_New_1 g_leap_New_1 :=
  fn_of_body (E := E_leap_New_1) (envOk_add e0_ok (typed_ok ok_leap_Row_dated)) (fn := Try.f65) Try.func65 (by kernel_rfl) (by kernel_rfl) [.tmp 2] (by kernel_rfl) (by kernel_rfl) (by decide) c_leap_New_1 L_leap_New_1
    (by intro x hx; cases hx) (by intro k x hx; cases hx) (fun d out h => ⟨0, (q_leap_New_1_m 0 d).trans h⟩)

/- (horologe/leap.Row).may -/
@[reducible] def pi_leap_Row_may : PSh := ⟨[], [.mk true [.v (.int .i64), .v (.int .i64)]]⟩
@[reducible] def po_leap_Row_may : PSh := ⟨[], [.mk false [.v .bool]]⟩
def f_leap_Row_may_m (T : Unit) (d : Unit × ((Int × (Int × Unit)) × Unit)) : Option (Unit × ((Bool × Unit) × Unit)) :=
  (g_day_Date ((), ((d.2.1.1, ()), ()))).bind fun x1 =>
  bif x1.2.2.2.2.1.1.isNone then (
  let x2 : Bool := (x1.2.2.2.1.1 == (1 : Int))
  bif x2 then (
  let x3 : Bool := (decide (d.2.1.2.1 ≥ (0 : Int)))
  bif x3 then (
  let x4 : Bool := (decide (d.2.1.2.1 ≤ (1000 : Int)))
  some ((), ((x4, ()), ())))
  else (
  some ((), ((false, ()), ()))))
  else (
  some ((), ((false, ()), ()))))
  else (
  some ((), ((false, ()), ())))
def c_leap_Row_may : List Nat := []
def L_leap_Row_may (_ : Nat) : Pts po_leap_Row_may.den := []
def E_leap_Row_may : Env := (E0.add 62 (typedSem pi_day_Date po_day_Date g_day_Date))
theorem q_leap_Row_may_m (k : Nat) (d : Unit × ((Int × (Int × Unit)) × Unit)) : evCode E_leap_Row_may (tab (L_leap_Row_may k)) c_leap_Row_may (bodyOf Try.f68) 0 (finK E_leap_Row_may po_leap_Row_may [.tmp 2]) (startSt pi_leap_Row_may 31 d) = f_leap_Row_may_m () d := by kernel_rfl
def g_leap_Row_may (d : Unit × ((Int × (Int × Unit)) × Unit)) : Option (Unit × ((Bool × Unit) × Unit)) := f_leap_Row_may_m () d
theorem ok_leap_Row_may : FnOk Try.prog ET0 68 pi_leap_Row_may po_leap_Row_may g_leap_Row_may :=
  fn_of_body (E := E_leap_Row_may) (envOk_add e0_ok (typed_ok ok_day_Date)) (fn := Try.f68) Try.func68 (by kernel_rfl) (by kernel_rfl) [.tmp 2] (by kernel_rfl) (by kernel_rfl) (by decide) c_leap_Row_may L_leap_Row_may
    (by intro x hx; cases hx) (by intro k x hx; cases hx) (fun d out h => ⟨0, (q_leap_Row_may_m 0 d).trans h⟩)

/- horologe/leap.New$2 -/
@[reducible] def pi_leap_New_2 : PSh := ⟨[], [.mk true [.v (.int .i64), .v (.int .i64)]]⟩
@[reducible] def po_leap_New_2 : PSh := ⟨[], [.mk false [.v .bool]]⟩
def f_leap_New_2_m (T : Unit) (d : Unit × ((Int × (Int × Unit)) × Unit)) : Option (Unit × ((Bool × Unit) × Unit)) :=
  (g_leap_Row_may ((), ((d.2.1.1, (d.2.1.2.1, ())), ()))).bind fun x1 =>
  let x2 : Bool := (!x1.2.1.1)
  some ((), ((x2, ()), ()))
def c_leap_New_2 : List Nat := []
def L_leap_New_2 (_ : Nat) : Pts po_leap_New_2.den := []
def E_leap_New_2 : Env := (E0.add 68 (typedSem pi_leap_Row_may po_leap_Row_may g_leap_Row_may))
theorem q_leap_New_2_m (k : Nat) (d : Unit × ((Int × (Int × Unit)) × Unit)) : evCode E_leap_New_2 (tab (L_leap_New_2 k)) c_leap_New_2 (bodyOf Try.f67) 0 (finK E_leap_New_2 po_leap_New_2 [.tmp 2]) (startSt pi_leap_New_2 6 d) = f_leap_New_2_m () d := by kernel_rfl
def g_leap_New_2 (d : Unit × ((Int × (Int × Unit)) × Unit)) : Option (Unit × ((Bool × Unit) × Unit)) := f_leap_New_2_m () d
theorem ok_leap_New_2 : FnOk Try.prog ET0 67 pi_leap_New_2 po_leap_New_2 g_leap_New_2 :=
  fn_of_body (E := E_leap_New_2) (envOk_add e0_ok (typed_ok ok_leap_Row_may)) (fn := Try.f67) Try.func67 (by kernel_rfl) (by kernel_rfl) [.tmp 2] (by kernel_rfl) (by kernel_rfl) (by decide) c_leap_New_2 L_leap_New_2
    (by intro x hx; cases hx) (by intro k x hx; cases hx) (fun d out h => ⟨0, (q_leap_New_2_m 0 d).trans h⟩)

/- horologe/leap.time -/
@[reducible] def pi_leap_time : PSh := ⟨[], [.mk false [.v (.int .i64)]]⟩
@[reducible] def po_leap_time : PSh := ⟨[], [.mk false [.v .bool]]⟩
def f_leap_time_m (T : Unit) (d : Unit × ((Int × Unit) × Unit)) : Option (Unit × ((Bool × Unit) × Unit)) :=
  let x1 : Bool := (decide (d.2.1.1 ≥ (0 : Int)))
  bif x1 then (
  let x2 : Bool := (decide (d.2.1.1 ≤ (1099511627776 : Int)))
  some ((), ((x2, ()), ())))
  else (
  some ((), ((false, ()), ())))
def c_leap_time : List Nat := []
def L_leap_time (_ : Nat) : Pts po_leap_time.den := []
def E_leap_time : Env := E0
theorem q_leap_time_m (k : Nat) (d : Unit × ((Int × Unit) × Unit)) : evCode E_leap_time (tab (L_leap_time k)) c_leap_time (bodyOf Try.f70) 0 (finK E_leap_time po_leap_time [.tmp 2]) (startSt pi_leap_time 9 d) = f_leap_time_m () d := by kernel_rfl
def g_leap_time (d : Unit × ((Int × Unit) × Unit)) : Option (Unit × ((Bool × Unit) × Unit)) := f_leap_time_m () d
theorem ok_leap_time : FnOk Try.prog ET0 70 pi_leap_time po_leap_time g_leap_time :=
  fn_of_body (E := E_leap_time) e0_ok (fn := Try.f70) Try.func70 (by kernel_rfl) (by kernel_rfl) [.tmp 2] (by kernel_rfl) (by kernel_rfl) (by decide) c_leap_time L_leap_time
    (by intro x hx; cases hx) (by intro k x hx; cases hx) (fun d out h => ⟨0, (q_leap_time_m 0 d).trans h⟩)

/- (horologe/leap.Row).follows -/
@[reducible] def pi_leap_Row_follows : PSh := ⟨[], [.mk true [.v (.int .i64), .v (.int .i64)], .mk true [.v (.int .i64), .v (.int .i64)]]⟩
@[reducible] def po_leap_Row_follows : PSh := ⟨[], [.mk false [.v .bool]]⟩
def f_leap_Row_follows_m (T : Unit) (d : Unit × ((Int × (Int × Unit)) × ((Int × (Int × Unit)) × Unit))) : Option (Unit × ((Bool × Unit) × Unit)) :=
  let x1 : Int := (isub .i64 d.2.1.2.1 d.2.2.1.2.1)
  let x2 : Bool := (decide (d.2.1.1 > d.2.2.1.1))
  bif x2 then (
  let x3 : Bool := (x1 == (1 : Int))
  bif x3 then (
  some ((), ((true, ()), ())))
  else (
  let x4 : Bool := (x1 == (-1 : Int))
  some ((), ((x4, ()), ()))))
  else (
  some ((), ((false, ()), ())))
def c_leap_Row_follows : List Nat := []
def L_leap_Row_follows (_ : Nat) : Pts po_leap_Row_follows.den := []
def E_leap_Row_follows : Env := E0
theorem q_leap_Row_follows_m (k : Nat) (d : Unit × ((Int × (Int × Unit)) × ((Int × (Int × Unit)) × Unit))) : evCode E_leap_Row_follows (tab (L_leap_Row_follows k)) c_leap_Row_follows (bodyOf Try.f93) 0 (finK E_leap_Row_follows po_leap_Row_follows [.tmp 4]) (startSt pi_leap_Row_follows 24 d) = f_leap_Row_follows_m () d := by kernel_rfl
def g_leap_Row_follows (d : Unit × ((Int × (Int × Unit)) × ((Int × (Int × Unit)) × Unit))) : Option (Unit × ((Bool × Unit) × Unit)) := f_leap_Row_follows_m () d
theorem ok_leap_Row_follows : FnOk Try.prog ET0 93 pi_leap_Row_follows po_leap_Row_follows g_leap_Row_follows :=
  fn_of_body (E := E_leap_Row_follows) e0_ok (fn := Try.f93) Try.func93 (by kernel_rfl) (by kernel_rfl) [.tmp 4] (by kernel_rfl) (by kernel_rfl) (by decide) c_leap_Row_follows L_leap_Row_follows
    (by intro x hx; cases hx) (by intro k x hx; cases hx) (fun d out h => ⟨0, (q_leap_Row_follows_m 0 d).trans h⟩)

/- horologe/leap.rise -/
@[reducible] def pi_leap_rise : PSh := ⟨[], [.mk false [.v (.sl (.pair (.int .i64) (.int .i64)))]]⟩
@[reducible] def po_leap_rise : PSh := ⟨[], [.mk false [.v .bool]]⟩
@[reducible] def sh_leap_rise_3 : PSh := ⟨[], [.mk false [.v (.sl (.pair (.int .i64) (.int .i64)))], .any, .any, .mk false [.v (.int .i64)], .any, .any, .any, .any, .any, .any, .any, .any, .any, .any, .any, .any, .any, .any, .any, .any, .any]⟩
def f_leap_rise_p3 (T : (((Unit × (((List (Int × Int)) × Unit) × ((Int × Unit) × Unit))) → Option (Unit × ((Bool × Unit) × Unit))) × Unit)) (d : Unit × (((List (Int × Int)) × Unit) × ((Int × Unit) × Unit))) : Option (Unit × ((Bool × Unit) × Unit)) :=
  let x1 : Int := (d.2.1.1.length : Int)
  let x2 : Bool := (decide (d.2.2.1.1 < x1))
  bif x2 then (
  bif decide ((0 : Int) ≤ d.2.2.1.1) && decide (d.2.2.1.1 < (d.2.1.1.length : Int)) then (
  let x3 : Int := (isub .i64 d.2.2.1.1 (1 : Int))
  bif decide ((0 : Int) ≤ x3) && decide (x3 < (d.2.1.1.length : Int)) then (
  (g_leap_Row_follows ((), (((gd (.pair (.int .i64) (.int .i64)) d.2.1.1 d.2.2.1.1).1, ((gd (.pair (.int .i64) (.int .i64)) d.2.1.1 d.2.2.1.1).2, ())), (((gd (.pair (.int .i64) (.int .i64)) d.2.1.1 x3).1, ((gd (.pair (.int .i64) (.int .i64)) d.2.1.1 x3).2, ())), ())))).bind fun x4 =>
  let x5 : Bool := (!x4.2.1.1)
  bif x5 then (
  some ((), ((false, ()), ())))
  else (
  let x6 : Int := (iadd .i64 d.2.2.1.1 (1 : Int))
  (T.1 ((), ((d.2.1.1, ()), ((x6, ()), ()))))))
  else none)
  else none)
  else (
  some ((), ((true, ()), ())))
def f_leap_rise_t : Nat → (((Unit × (((List (Int × Int)) × Unit) × ((Int × Unit) × Unit))) → Option (Unit × ((Bool × Unit) × Unit))) × Unit)
  | 0 => (fun _ => none, ())
  | k + 1 => (f_leap_rise_p3 (f_leap_rise_t k), ())
theorem t_leap_rise (k : Nat) : f_leap_rise_t (k + 1) = (f_leap_rise_p3 (f_leap_rise_t k), ()) := rfl
def f_leap_rise_m (T : (((Unit × (((List (Int × Int)) × Unit) × ((Int × Unit) × Unit))) → Option (Unit × ((Bool × Unit) × Unit))) × Unit)) (d : Unit × (((List (Int × Int)) × Unit) × Unit)) : Option (Unit × ((Bool × Unit) × Unit)) :=
  (T.1 ((), ((d.2.1.1, ()), (((1 : Int), ()), ()))))
def c_leap_rise : List Nat := []
def L_leap_rise (k : Nat) : Pts po_leap_rise.den := [(3, ⟨sh_leap_rise_3, (f_leap_rise_t k).1⟩)]
def E_leap_rise : Env := (E0.add 93 (typedSem pi_leap_Row_follows po_leap_Row_follows g_leap_Row_follows))
theorem q_leap_rise_3 (k : Nat) (d : Unit × (((List (Int × Int)) × Unit) × ((Int × Unit) × Unit))) : evAt E_leap_rise (tab (L_leap_rise k)) c_leap_rise 3 (bodyOf Try.f71) 0 (finK E_leap_rise po_leap_rise [.tmp 2]) (ptSt sh_leap_rise_3 d) = f_leap_rise_p3 (f_leap_rise_t k) d := by kernel_rfl
theorem q_leap_rise_m (k : Nat) (d : Unit × (((List (Int × Int)) × Unit) × Unit)) : evCode E_leap_rise (tab (L_leap_rise k)) c_leap_rise (bodyOf Try.f71) 0 (finK E_leap_rise po_leap_rise [.tmp 2]) (startSt pi_leap_rise 21 d) = f_leap_rise_m (f_leap_rise_t k) d := by kernel_rfl
theorem go_leap_rise (G : pi_leap_rise.den → Option po_leap_rise.den) (hG : ∀ d out, G d = some out → ∃ k, f_leap_rise_m (f_leap_rise_t k) d = some out) : FnOk Try.prog ET0 71 pi_leap_rise po_leap_rise G :=
  fn_of_body (E := E_leap_rise) (envOk_add e0_ok (typed_ok ok_leap_Row_follows)) (fn := Try.f71) Try.func71 (by kernel_rfl) (by kernel_rfl) [.tmp 2] (by kernel_rfl) (by kernel_rfl) (by decide) c_leap_rise L_leap_rise
    (by intro x hx d; simp only [L_leap_rise, List.mem_cons, List.not_mem_nil, or_false] at hx; subst hx; rfl)
    (by intro k x hx d out h; simp only [L_leap_rise, List.mem_cons, List.not_mem_nil, or_false] at hx; subst hx; exact (q_leap_rise_3 k d).trans h)
    (by intro d out h; obtain ⟨k, hk⟩ := hG d out h; exact ⟨k, (q_leap_rise_m k d).trans hk⟩)
def g_leap_rise (d : Unit × (((List (Int × Int)) × Unit) × Unit)) : Option (Unit × ((Bool × Unit) × Unit)) := lim fun k => f_leap_rise_m (f_leap_rise_t k) d
theorem ok_leap_rise : FnOk Try.prog ET0 71 pi_leap_rise po_leap_rise g_leap_rise := go_leap_rise g_leap_rise fun d out h => lim_some h

/- slices.Clone[[]horologe/leap.Row,horologe/leap.Row] -/
@[reducible] def pi_slices_Clone_leap_Row_leap_Row : PSh := ⟨[], [.mk false [.v (.sl (.pair (.int .i64) (.int .i64)))]]⟩
@[reducible] def po_slices_Clone_leap_Row_leap_Row : PSh := ⟨[.row 73 (.pair (.int .i64) (.int .i64))], [.mk false [.osl 0]]⟩
def f_slices_Clone_leap_Row_leap_Row_m (T : Unit) (d : Unit × (((List (Int × Int)) × Unit) × Unit)) : Option (((List (Int × Int)) × Unit) × (Unit × Unit)) :=
  bif d.2.1.1.isEmpty then (
  agree (
  some ((([] : List (Int × Int)), ()), ((), ()))) (
  let x1 : (List (Int × Int)) := ([] : List (Int × Int))
  bif decide (((x1.length + d.2.1.1.length) * 16 : Nat) ≤ 140737488355328) && decide (x1.length + d.2.1.1.length ≤ 9223372036854775807) then (
  let x2 : (List (Int × Int)) := (x1 ++ d.2.1.1)
  some ((x2, ()), ((), ())))
  else none))
  else (
  let x3 : (List (Int × Int)) := ([] : List (Int × Int))
  bif decide (((x3.length + d.2.1.1.length) * 16 : Nat) ≤ 140737488355328) && decide (x3.length + d.2.1.1.length ≤ 9223372036854775807) then (
  let x4 : (List (Int × Int)) := (x3 ++ d.2.1.1)
  some ((x4, ()), ((), ())))
  else none)
def c_slices_Clone_leap_Row_leap_Row : List Nat := []
def L_slices_Clone_leap_Row_leap_Row (_ : Nat) : Pts po_slices_Clone_leap_Row_leap_Row.den := []
def E_slices_Clone_leap_Row_leap_Row : Env := E0
theorem q_slices_Clone_leap_Row_leap_Row_m (k : Nat) (d : Unit × (((List (Int × Int)) × Unit) × Unit)) : evCode E_slices_Clone_leap_Row_leap_Row (tab (L_slices_Clone_leap_Row_leap_Row k)) c_slices_Clone_leap_Row_leap_Row (bodyOf Try.f72) 0 (finK E_slices_Clone_leap_Row_leap_Row po_slices_Clone_leap_Row_leap_Row [.tmp 2]) (startSt pi_slices_Clone_leap_Row_leap_Row 8 d) = f_slices_Clone_leap_Row_leap_Row_m () d := by kernel_rfl
def g_slices_Clone_leap_Row_leap_Row (d : Unit × (((List (Int × Int)) × Unit) × Unit)) : Option (((List (Int × Int)) × Unit) × (Unit × Unit)) := f_slices_Clone_leap_Row_leap_Row_m () d
theorem ok_slices_Clone_leap_Row_leap_Row : FnOk Try.prog ET0 72 pi_slices_Clone_leap_Row_leap_Row po_slices_Clone_leap_Row_leap_Row g_slices_Clone_leap_Row_leap_Row :=
  fn_of_body (E := E_slices_Clone_leap_Row_leap_Row) e0_ok (fn := Try.f72) Try.func72 (by kernel_rfl) (by kernel_rfl) [.tmp 2] (by kernel_rfl) (by kernel_rfl) (by decide) c_slices_Clone_leap_Row_leap_Row L_slices_Clone_leap_Row_leap_Row
    (by intro x hx; cases hx) (by intro k x hx; cases hx) (fun d out h => ⟨0, (q_slices_Clone_leap_Row_leap_Row_m 0 d).trans h⟩)

/- (*horologe/leap.Table).list -/
@[reducible] def pi_leap_Table_list : PSh := ⟨[], [.mk false [.v (.nptr (.pair (.sl (.pair (.int .i64) (.int .i64))) (.pair (.int .i64) (.int .i64))))]]⟩
@[reducible] def po_leap_Table_list : PSh := ⟨[], [.mk false [.v (.sl (.pair (.int .i64) (.int .i64)))]]⟩
def f_leap_Table_list_m (T : Unit) (d : Unit × (((Option ((List (Int × Int)) × (Int × Int))) × Unit) × Unit)) : Option (Unit × (((List (Int × Int)) × Unit) × Unit)) :=
  bif d.2.1.1.isNone then (
  some ((), ((([] : List (Int × Int)), ()), ())))
  else (
  d.2.1.1.bind fun x1 =>
  some ((), ((x1.1, ()), ())))
def c_leap_Table_list : List Nat := []
def L_leap_Table_list (_ : Nat) : Pts po_leap_Table_list.den := []
def E_leap_Table_list : Env := E0
theorem q_leap_Table_list_m (k : Nat) (d : Unit × (((Option ((List (Int × Int)) × (Int × Int))) × Unit) × Unit)) : evCode E_leap_Table_list (tab (L_leap_Table_list k)) c_leap_Table_list (bodyOf Try.f75) 0 (finK E_leap_Table_list po_leap_Table_list [.tmp 2]) (startSt pi_leap_Table_list 9 d) = f_leap_Table_list_m () d := by kernel_rfl
def g_leap_Table_list (d : Unit × (((Option ((List (Int × Int)) × (Int × Int))) × Unit) × Unit)) : Option (Unit × (((List (Int × Int)) × Unit) × Unit)) := f_leap_Table_list_m () d
theorem ok_leap_Table_list : FnOk Try.prog ET0 75 pi_leap_Table_list po_leap_Table_list g_leap_Table_list :=
  fn_of_body (E := E_leap_Table_list) e0_ok (fn := Try.f75) Try.func75 (by kernel_rfl) (by kernel_rfl) [.tmp 2] (by kernel_rfl) (by kernel_rfl) (by decide) c_leap_Table_list L_leap_Table_list
    (by intro x hx; cases hx) (by intro k x hx; cases hx) (fun d out h => ⟨0, (q_leap_Table_list_m 0 d).trans h⟩)

/- (*horologe/leap.Table).Len -/
@[reducible] def pi_leap_Table_Len : PSh := ⟨[], [.mk false [.v (.nptr (.pair (.sl (.pair (.int .i64) (.int .i64))) (.pair (.int .i64) (.int .i64))))]]⟩
@[reducible] def po_leap_Table_Len : PSh := ⟨[], [.mk false [.v (.int .i64)]]⟩
def f_leap_Table_Len_m (T : Unit) (d : Unit × (((Option ((List (Int × Int)) × (Int × Int))) × Unit) × Unit)) : Option (Unit × ((Int × Unit) × Unit)) :=
  (g_leap_Table_list ((), ((d.2.1.1, ()), ()))).bind fun x1 =>
  let x2 : Int := (x1.2.1.1.length : Int)
  some ((), ((x2, ()), ()))
def c_leap_Table_Len : List Nat := []
def L_leap_Table_Len (_ : Nat) : Pts po_leap_Table_Len.den := []
def E_leap_Table_Len : Env := (E0.add 75 (typedSem pi_leap_Table_list po_leap_Table_list g_leap_Table_list))
theorem q_leap_Table_Len_m (k : Nat) (d : Unit × (((Option ((List (Int × Int)) × (Int × Int))) × Unit) × Unit)) : evCode E_leap_Table_Len (tab (L_leap_Table_Len k)) c_leap_Table_Len (bodyOf Try.f32) 0 (finK E_leap_Table_Len po_leap_Table_Len [.tmp 2]) (startSt pi_leap_Table_Len 6 d) = f_leap_Table_Len_m () d := by kernel_rfl
def g_leap_Table_Len (d : Unit × (((Option ((List (Int × Int)) × (Int × Int))) × Unit) × Unit)) : Option (Unit × ((Int × Unit) × Unit)) := f_leap_Table_Len_m () d
theorem ok_leap_Table_Len : FnOk Try.prog ET0 32 pi_leap_Table_Len po_leap_Table_Len g_leap_Table_Len :=
  fn_of_body (E := E_leap_Table_Len) (envOk_add e0_ok (typed_ok ok_leap_Table_list)) (fn := Try.f32) Try.func32 (by kernel_rfl) (by kernel_rfl) [.tmp 2] (by kernel_rfl) (by kernel_rfl) (by decide) c_leap_Table_Len L_leap_Table_Len
    (by intro x hx; cases hx) (by intro k x hx; cases hx) (fun d out h => ⟨0, (q_leap_Table_Len_m 0 d).trans h⟩)

/- (*horologe/leap.Table).Row -/
@[reducible] def pi_leap_Table_Row : PSh := ⟨[], [.mk false [.v (.nptr (.pair (.sl (.pair (.int .i64) (.int .i64))) (.pair (.int .i64) (.int .i64))))], .mk false [.v (.int .i64)]]⟩
@[reducible] def po_leap_Table_Row : PSh := ⟨[], [.mk true [.v (.int .i64), .v (.int .i64)], .mk false [.v .bool]]⟩
def f_leap_Table_Row_m (T : Unit) (d : Unit × (((Option ((List (Int × Int)) × (Int × Int))) × Unit) × ((Int × Unit) × Unit))) : Option (Unit × ((Int × (Int × Unit)) × ((Bool × Unit) × Unit))) :=
  let x1 : Bool := (decide (d.2.2.1.1 < (0 : Int)))
  bif x1 then (
  some ((), (((0 : Int), ((0 : Int), ())), ((false, ()), ()))))
  else (
  (g_leap_Table_Len ((), ((d.2.1.1, ()), ()))).bind fun x2 =>
  let x3 : Bool := (decide (d.2.2.1.1 ≥ x2.2.1.1))
  bif x3 then (
  some ((), (((0 : Int), ((0 : Int), ())), ((false, ()), ()))))
  else (
  d.2.1.1.bind fun x4 =>
  bif decide ((0 : Int) ≤ d.2.2.1.1) && decide (d.2.2.1.1 < (x4.1.length : Int)) then (
  some ((), (((gd (.pair (.int .i64) (.int .i64)) x4.1 d.2.2.1.1).1, ((gd (.pair (.int .i64) (.int .i64)) x4.1 d.2.2.1.1).2, ())), ((true, ()), ()))))
  else none))
def c_leap_Table_Row : List Nat := []
def L_leap_Table_Row (_ : Nat) : Pts po_leap_Table_Row.den := []
def E_leap_Table_Row : Env := (E0.add 32 (typedSem pi_leap_Table_Len po_leap_Table_Len g_leap_Table_Len))
theorem q_leap_Table_Row_m (k : Nat) (d : Unit × (((Option ((List (Int × Int)) × (Int × Int))) × Unit) × ((Int × Unit) × Unit))) : evCode E_leap_Table_Row (tab (L_leap_Table_Row k)) c_leap_Table_Row (bodyOf Try.f37) 0 (finK E_leap_Table_Row po_leap_Table_Row [.cell 4 73, .tmp 5]) (startSt pi_leap_Table_Row 22 d) = f_leap_Table_Row_m () d := by kernel_rfl
def g_leap_Table_Row (d : Unit × (((Option ((List (Int × Int)) × (Int × Int))) × Unit) × ((Int × Unit) × Unit))) : Option (Unit × ((Int × (Int × Unit)) × ((Bool × Unit) × Unit))) := f_leap_Table_Row_m () d
theorem ok_leap_Table_Row : FnOk Try.prog ET0 37 pi_leap_Table_Row po_leap_Table_Row g_leap_Table_Row :=
  fn_of_body (E := E_leap_Table_Row) (envOk_add e0_ok (typed_ok ok_leap_Table_Len)) (fn := Try.f37) Try.func37 (by kernel_rfl) (by kernel_rfl) [.cell 4 73, .tmp 5] (by kernel_rfl) (by kernel_rfl) (by decide) c_leap_Table_Row L_leap_Table_Row
    (by intro x hx; cases hx) (by intro k x hx; cases hx) (fun d out h => ⟨0, (q_leap_Table_Row_m 0 d).trans h⟩)

/- (*horologe/leap.Table).behind$1 -/
@[reducible] def pi_leap_Table_behind_1 : PSh := ⟨[], [.mk true [.v (.int .i64), .v (.int .i64)], .mk false [.v (.int .i64)]]⟩
@[reducible] def po_leap_Table_behind_1 : PSh := ⟨[], [.mk false [.v (.int .i64)]]⟩
def f_leap_Table_behind_1_m (T : Unit) (d : Unit × ((Int × (Int × Unit)) × ((Int × Unit) × Unit))) : Option (Unit × ((Int × Unit) × Unit)) :=
  let x1 : Bool := (decide (d.2.1.1 < d.2.2.1.1))
  bif x1 then (
  some ((), (((-1 : Int), ()), ())))
  else (
  let x2 : Bool := (decide (d.2.1.1 > d.2.2.1.1))
  bif x2 then (
  some ((), (((1 : Int), ()), ())))
  else (
  some ((), (((0 : Int), ()), ()))))
def c_leap_Table_behind_1 : List Nat := []
def L_leap_Table_behind_1 (_ : Nat) : Pts po_leap_Table_behind_1.den := []
def E_leap_Table_behind_1 : Env := E0
theorem q_leap_Table_behind_1_m (k : Nat) (d : Unit × ((Int × (Int × Unit)) × ((Int × Unit) × Unit))) : evCode E_leap_Table_behind_1 (tab (L_leap_Table_behind_1 k)) c_leap_Table_behind_1 (bodyOf Try.f95) 0 (finK E_leap_Table_behind_1 po_leap_Table_behind_1 [.tmp 4]) (startSt pi_leap_Table_behind_1 15 d) = f_leap_Table_behind_1_m () d := by kernel_rfl
def g_leap_Table_behind_1 (d : Unit × ((Int × (Int × Unit)) × ((Int × Unit) × Unit))) : Option (Unit × ((Int × Unit) × Unit)) := f_leap_Table_behind_1_m () d
theorem ok_leap_Table_behind_1 : FnOk Try.prog ET0 95 pi_leap_Table_behind_1 po_leap_Table_behind_1 g_leap_Table_behind_1 :=
  fn_of_body (E := E_leap_Table_behind_1) e0_ok (fn := Try.f95) Try.func95 (by kernel_rfl) (by kernel_rfl) [.tmp 4] (by kernel_rfl) (by kernel_rfl) (by decide) c_leap_Table_behind_1 L_leap_Table_behind_1
    (by intro x hx; cases hx) (by intro k x hx; cases hx) (fun d out h => ⟨0, (q_leap_Table_behind_1_m 0 d).trans h⟩)

/- (*horologe/leap.Table).change -/
@[reducible] def pi_leap_Table_change : PSh := ⟨[], [.mk false [.v (.nptr (.pair (.sl (.pair (.int .i64) (.int .i64))) (.pair (.int .i64) (.int .i64))))], .mk false [.v (.int .i64)]]⟩
@[reducible] def po_leap_Table_change : PSh := ⟨[], [.mk false [.v (.int .i64)]]⟩
def f_leap_Table_change_m (T : Unit) (d : Unit × (((Option ((List (Int × Int)) × (Int × Int))) × Unit) × ((Int × Unit) × Unit))) : Option (Unit × ((Int × Unit) × Unit)) :=
  let x1 : Int := (isub .i64 d.2.2.1.1 (1 : Int))
  (g_leap_Table_Row ((), ((d.2.1.1, ()), ((x1, ()), ())))).bind fun x2 =>
  let x3 : Bool := (!x2.2.2.1.1)
  bif x3 then (
  some ((), (((0 : Int), ()), ())))
  else (
  d.2.1.1.bind fun x4 =>
  bif decide ((0 : Int) ≤ d.2.2.1.1) && decide (d.2.2.1.1 < (x4.1.length : Int)) then (
  let x5 : Int := (isub .i64 (gd (.pair (.int .i64) (.int .i64)) x4.1 d.2.2.1.1).2 x2.2.1.2.1)
  some ((), ((x5, ()), ())))
  else none)
def c_leap_Table_change : List Nat := []
def L_leap_Table_change (_ : Nat) : Pts po_leap_Table_change.den := []
def E_leap_Table_change : Env := (E0.add 37 (typedSem pi_leap_Table_Row po_leap_Table_Row g_leap_Table_Row))
theorem q_leap_Table_change_m (k : Nat) (d : Unit × (((Option ((List (Int × Int)) × (Int × Int))) × Unit) × ((Int × Unit) × Unit))) : evCode E_leap_Table_change (tab (L_leap_Table_change k)) c_leap_Table_change (bodyOf Try.f74) 0 (finK E_leap_Table_change po_leap_Table_change [.tmp 4]) (startSt pi_leap_Table_change 27 d) = f_leap_Table_change_m () d := by kernel_rfl
def g_leap_Table_change (d : Unit × (((Option ((List (Int × Int)) × (Int × Int))) × Unit) × ((Int × Unit) × Unit))) : Option (Unit × ((Int × Unit) × Unit)) := f_leap_Table_change_m () d
theorem ok_leap_Table_change : FnOk Try.prog ET0 74 pi_leap_Table_change po_leap_Table_change g_leap_Table_change :=
  fn_of_body (E := E_leap_Table_change) (envOk_add e0_ok (typed_ok ok_leap_Table_Row)) (fn := Try.f74) Try.func74 (by kernel_rfl) (by kernel_rfl) [.tmp 4] (by kernel_rfl) (by kernel_rfl) (by decide) c_leap_Table_change L_leap_Table_change
    (by intro x hx; cases hx) (by intro k x hx; cases hx) (fun d out h => ⟨0, (q_leap_Table_change_m 0 d).trans h⟩)

/- horologe/horologeref10.Check -/
@[reducible] def pi_ref10_Check : PSh := ⟨[], [.mk true [.v (.sl (.pair (.int .i64) (.int .i64))), .v (.int .i64), .v (.int .i64)]]⟩
@[reducible] def po_ref10_Check : PSh := ⟨[], [.mk false [.v (.int .i64)]]⟩
@[reducible] def sh_ref10_Check_9 : PSh := ⟨[.var 68 [.v (.sl (.pair (.int .i64) (.int .i64))), .v (.int .i64), .v (.int .i64)]], [.any, .mk false [.ref 0 0], .any, .mk false [.v (.int .i64)], .any, .any, .any, .any, .any, .any, .any, .any, .any, .any, .any, .any, .any, .any, .any, .any, .any, .any, .any, .any, .any, .any, .any, .any, .any, .any, .any, .any, .any, .any, .any, .any, .any, .any, .any, .any, .any, .any, .any, .any, .any, .any, .any, .any, .any, .any, .any, .any, .any, .any, .any, .any, .any, .any, .any, .any, .any, .any, .any, .any, .any, .any, .any, .any, .any, .any, .any, .any, .any, .any, .any, .any, .any, .any, .any, .any, .any, .any, .any, .any, .any, .any, .any, .any, .any, .any, .any, .any, .any, .any, .any, .any, .any, .any, .any, .any, .any, .any, .any, .any, .any, .any, .any, .any, .any, .any, .any, .any, .any, .any, .any, .any, .any, .any, .any, .any, .any, .any, .any, .any, .any, .any, .any, .any, .any, .any, .any, .any, .any, .any, .any, .any]⟩
@[reducible] def sh_ref10_Check_21 : PSh := ⟨[.var 68 [.v (.sl (.pair (.int .i64) (.int .i64))), .v (.int .i64), .v (.int .i64)]], [.any, .mk false [.ref 0 0], .any, .any, .any, .mk false [.v (.int .i64)], .any, .any, .any, .any, .any, .any, .any, .any, .any, .any, .any, .any, .any, .any, .any, .any, .any, .any, .any, .any, .any, .any, .any, .any, .any, .any, .any, .any, .any, .any, .any, .any, .any, .any, .any, .any, .any, .any, .any, .any, .any, .any, .any, .any, .any, .any, .any, .any, .any, .any, .any, .any, .any, .any, .any, .any, .any, .any, .any, .any, .any, .any, .any, .any, .any, .any, .any, .any, .any, .any, .any, .any, .any, .any, .any, .any, .any, .any, .any, .any, .any, .any, .any, .any, .any, .any, .any, .any, .any, .any, .any, .any, .any, .any, .any, .any, .any, .any, .any, .any, .any, .any, .any, .any, .any, .any, .any, .any, .any, .any, .any, .any, .any, .any, .any, .any, .any, .any, .any, .any, .any, .any, .any, .any, .any, .any, .any, .any, .any, .any]⟩
@[reducible] def sh_ref10_Check_30 : PSh := ⟨[.var 68 [.v (.sl (.pair (.int .i64) (.int .i64))), .v (.int .i64), .v (.int .i64)]], [.any, .mk false [.ref 0 0], .any, .any, .any, .any, .any, .any, .any, .mk false [.v (.int .i64)], .any, .any, .any, .any, .any, .any, .any, .any, .any, .any, .any, .any, .any, .any, .any, .any, .any, .any, .any, .any, .any, .any, .any, .any, .any, .any, .any, .any, .any, .any, .any, .any, .any, .any, .any, .any, .any, .any, .any, .any, .any, .any, .any, .any, .any, .any, .any, .any, .any, .any, .any, .any, .any, .any, .any, .any, .any, .any, .any, .any, .any, .any, .any, .any, .any, .any, .any, .any, .any, .any, .any, .any, .any, .any, .any, .any, .any, .any, .any, .any, .any, .any, .any, .any, .any, .any, .any, .any, .any, .any, .any, .any, .any, .any, .any, .any, .any, .any, .any, .any, .any, .any, .any, .any, .any, .any, .any, .any, .any, .any, .any, .any, .any, .any, .any, .any, .any, .any, .any, .any, .any, .any, .any, .any, .any, .any]⟩
def f_ref10_Check_p9 (T : ((((((List (Int × Int)) × (Int × (Int × Unit))) × Unit) × (Unit × ((Int × Unit) × Unit))) → Option (Unit × ((Int × Unit) × Unit))) × ((((((List (Int × Int)) × (Int × (Int × Unit))) × Unit) × (Unit × ((Int × Unit) × Unit))) → Option (Unit × ((Int × Unit) × Unit))) × ((((((List (Int × Int)) × (Int × (Int × Unit))) × Unit) × (Unit × ((Int × Unit) × Unit))) → Option (Unit × ((Int × Unit) × Unit))) × Unit)))) (d : (((List (Int × Int)) × (Int × (Int × Unit))) × Unit) × (Unit × ((Int × Unit) × Unit))) : Option (Unit × ((Int × Unit) × Unit)) :=
  let x5 : Int := (d.1.1.1.length : Int)
  let x6 : Bool := (decide (d.2.2.1.1 < x5))
  bif x6 then (
  bif decide ((0 : Int) ≤ d.2.2.1.1) && decide (d.2.2.1.1 < (d.1.1.1.length : Int)) then (
  (g_ref05_Start ((), (((1900 : Int), ()), ()))).bind fun x7 =>
  let x8 : Bool := (decide ((gd (.pair (.int .i64) (.int .i64)) d.1.1.1 d.2.2.1.1).1 < x7.2.1.1))
  bif x8 then (
  some ((), (((13 : Int), ()), ())))
  else (
  (g_ref05_Last ((), ())).bind fun x9 =>
  let x10 : Bool := (decide ((gd (.pair (.int .i64) (.int .i64)) d.1.1.1 d.2.2.1.1).1 > x9.2.1.1))
  bif x10 then (
  some ((), (((13 : Int), ()), ())))
  else (
  let x11 : Int := (iadd .i64 d.2.2.1.1 (1 : Int))
  (T.1 (((d.1.1.1, (d.1.1.2.1, (d.1.1.2.2.1, ()))), ()), ((), ((x11, ()), ())))))))
  else none)
  else (
  let x12 : Bool := (decide (d.1.1.2.1 < (0 : Int)))
  bif x12 then (
  some ((), (((1 : Int), ()), ())))
  else (
  let x13 : Bool := (decide (d.1.1.2.1 > (1099511627776 : Int)))
  bif x13 then (
  some ((), (((1 : Int), ()), ())))
  else (
  let x14 : Bool := (decide (d.1.1.2.2.1 < (0 : Int)))
  bif x14 then (
  some ((), (((1 : Int), ()), ())))
  else (
  let x15 : Bool := (decide (d.1.1.2.2.1 > (1099511627776 : Int)))
  bif x15 then (
  some ((), (((1 : Int), ()), ())))
  else (
  (T.2.1 (((d.1.1.1, (d.1.1.2.1, (d.1.1.2.2.1, ()))), ()), ((), (((0 : Int), ()), ())))))))))
def f_ref10_Check_p21 (T : ((((((List (Int × Int)) × (Int × (Int × Unit))) × Unit) × (Unit × ((Int × Unit) × Unit))) → Option (Unit × ((Int × Unit) × Unit))) × ((((((List (Int × Int)) × (Int × (Int × Unit))) × Unit) × (Unit × ((Int × Unit) × Unit))) → Option (Unit × ((Int × Unit) × Unit))) × ((((((List (Int × Int)) × (Int × (Int × Unit))) × Unit) × (Unit × ((Int × Unit) × Unit))) → Option (Unit × ((Int × Unit) × Unit))) × Unit)))) (d : (((List (Int × Int)) × (Int × (Int × Unit))) × Unit) × (Unit × ((Int × Unit) × Unit))) : Option (Unit × ((Int × Unit) × Unit)) :=
  let x16 : Int := (d.1.1.1.length : Int)
  let x17 : Bool := (decide (d.2.2.1.1 < x16))
  bif x17 then (
  bif decide ((0 : Int) ≤ d.2.2.1.1) && decide (d.2.2.1.1 < (d.1.1.1.length : Int)) then (
  (g_ref05_Date ((), (((gd (.pair (.int .i64) (.int .i64)) d.1.1.1 d.2.2.1.1).1, ()), ()))).bind fun x18 =>
  let x19 : Bool := (x18.2.2.2.1.1 != (1 : Int))
  bif x19 then (
  some ((), (((1 : Int), ()), ())))
  else (
  bif decide ((0 : Int) ≤ d.2.2.1.1) && decide (d.2.2.1.1 < (d.1.1.1.length : Int)) then (
  let x20 : Bool := (decide ((gd (.pair (.int .i64) (.int .i64)) d.1.1.1 d.2.2.1.1).2 < (0 : Int)))
  bif x20 then (
  some ((), (((1 : Int), ()), ())))
  else (
  bif decide ((0 : Int) ≤ d.2.2.1.1) && decide (d.2.2.1.1 < (d.1.1.1.length : Int)) then (
  let x21 : Bool := (decide ((gd (.pair (.int .i64) (.int .i64)) d.1.1.1 d.2.2.1.1).2 > (1000 : Int)))
  bif x21 then (
  some ((), (((1 : Int), ()), ())))
  else (
  let x22 : Int := (iadd .i64 d.2.2.1.1 (1 : Int))
  (T.2.1 (((d.1.1.1, (d.1.1.2.1, (d.1.1.2.2.1, ()))), ()), ((), ((x22, ()), ()))))))
  else none))
  else none))
  else none)
  else (
  (T.2.2.1 (((d.1.1.1, (d.1.1.2.1, (d.1.1.2.2.1, ()))), ()), ((), (((1 : Int), ()), ())))))
def f_ref10_Check_p30 (T : ((((((List (Int × Int)) × (Int × (Int × Unit))) × Unit) × (Unit × ((Int × Unit) × Unit))) → Option (Unit × ((Int × Unit) × Unit))) × ((((((List (Int × Int)) × (Int × (Int × Unit))) × Unit) × (Unit × ((Int × Unit) × Unit))) → Option (Unit × ((Int × Unit) × Unit))) × ((((((List (Int × Int)) × (Int × (Int × Unit))) × Unit) × (Unit × ((Int × Unit) × Unit))) → Option (Unit × ((Int × Unit) × Unit))) × Unit)))) (d : (((List (Int × Int)) × (Int × (Int × Unit))) × Unit) × (Unit × ((Int × Unit) × Unit))) : Option (Unit × ((Int × Unit) × Unit)) :=
  let x23 : Int := (d.1.1.1.length : Int)
  let x24 : Bool := (decide (d.2.2.1.1 < x23))
  bif x24 then (
  let x25 : Int := (isub .i64 d.2.2.1.1 (1 : Int))
  bif decide ((0 : Int) ≤ x25) && decide (x25 < (d.1.1.1.length : Int)) then (
  bif decide ((0 : Int) ≤ d.2.2.1.1) && decide (d.2.2.1.1 < (d.1.1.1.length : Int)) then (
  let x26 : Bool := (decide ((gd (.pair (.int .i64) (.int .i64)) d.1.1.1 d.2.2.1.1).1 ≤ (gd (.pair (.int .i64) (.int .i64)) d.1.1.1 x25).1))
  bif x26 then (
  some ((), (((6 : Int), ()), ())))
  else (
  let x27 : Int := (iadd .i64 (gd (.pair (.int .i64) (.int .i64)) d.1.1.1 x25).2 (1 : Int))
  let x28 : Bool := ((gd (.pair (.int .i64) (.int .i64)) d.1.1.1 d.2.2.1.1).2 != x27)
  bif x28 then (
  let x29 : Int := (isub .i64 (gd (.pair (.int .i64) (.int .i64)) d.1.1.1 x25).2 (1 : Int))
  let x30 : Bool := ((gd (.pair (.int .i64) (.int .i64)) d.1.1.1 d.2.2.1.1).2 != x29)
  bif x30 then (
  some ((), (((6 : Int), ()), ())))
  else (
  let x31 : Int := (iadd .i64 d.2.2.1.1 (1 : Int))
  (T.2.2.1 (((d.1.1.1, (d.1.1.2.1, (d.1.1.2.2.1, ()))), ()), ((), ((x31, ()), ()))))))
  else (
  let x32 : Int := (iadd .i64 d.2.2.1.1 (1 : Int))
  (T.2.2.1 (((d.1.1.1, (d.1.1.2.1, (d.1.1.2.2.1, ()))), ()), ((), ((x32, ()), ())))))))
  else none)
  else none)
  else (
  some ((), (((0 : Int), ()), ())))
def f_ref10_Check_t : Nat → ((((((List (Int × Int)) × (Int × (Int × Unit))) × Unit) × (Unit × ((Int × Unit) × Unit))) → Option (Unit × ((Int × Unit) × Unit))) × ((((((List (Int × Int)) × (Int × (Int × Unit))) × Unit) × (Unit × ((Int × Unit) × Unit))) → Option (Unit × ((Int × Unit) × Unit))) × ((((((List (Int × Int)) × (Int × (Int × Unit))) × Unit) × (Unit × ((Int × Unit) × Unit))) → Option (Unit × ((Int × Unit) × Unit))) × Unit)))
  | 0 => (fun _ => none, (fun _ => none, (fun _ => none, ())))
  | k + 1 => (f_ref10_Check_p9 (f_ref10_Check_t k), (f_ref10_Check_p21 (f_ref10_Check_t k), (f_ref10_Check_p30 (f_ref10_Check_t k), ())))
theorem t_ref10_Check (k : Nat) : f_ref10_Check_t (k + 1) = (f_ref10_Check_p9 (f_ref10_Check_t k), (f_ref10_Check_p21 (f_ref10_Check_t k), (f_ref10_Check_p30 (f_ref10_Check_t k), ()))) := rfl
def f_ref10_Check_m (T : ((((((List (Int × Int)) × (Int × (Int × Unit))) × Unit) × (Unit × ((Int × Unit) × Unit))) → Option (Unit × ((Int × Unit) × Unit))) × ((((((List (Int × Int)) × (Int × (Int × Unit))) × Unit) × (Unit × ((Int × Unit) × Unit))) → Option (Unit × ((Int × Unit) × Unit))) × ((((((List (Int × Int)) × (Int × (Int × Unit))) × Unit) × (Unit × ((Int × Unit) × Unit))) → Option (Unit × ((Int × Unit) × Unit))) × Unit)))) (d : Unit × (((List (Int × Int)) × (Int × (Int × Unit))) × Unit)) : Option (Unit × ((Int × Unit) × Unit)) :=
  let x1 : Int := (d.2.1.1.length : Int)
  let x2 : Bool := (x1 == (0 : Int))
  bif x2 then (
  some ((), (((8 : Int), ()), ())))
  else (
  let x3 : Int := (d.2.1.1.length : Int)
  let x4 : Bool := (decide (x3 > (256 : Int)))
  bif x4 then (
  some ((), (((3 : Int), ()), ())))
  else (
  (T.1 (((d.2.1.1, (d.2.1.2.1, (d.2.1.2.2.1, ()))), ()), ((), (((0 : Int), ()), ()))))))
def c_ref10_Check : List Nat := []
def L_ref10_Check (k : Nat) : Pts po_ref10_Check.den := [(9, ⟨sh_ref10_Check_9, (f_ref10_Check_t k).1⟩), (21, ⟨sh_ref10_Check_21, (f_ref10_Check_t k).2.1⟩), (30, ⟨sh_ref10_Check_30, (f_ref10_Check_t k).2.2.1⟩)]
def E_ref10_Check : Env := (((E0.add 64 (typedSem pi_ref05_Date po_ref05_Date g_ref05_Date)).add 76 (typedSem pi_ref05_Start po_ref05_Start g_ref05_Start)).add 77 (typedSem pi_ref05_Last po_ref05_Last g_ref05_Last))
theorem q_ref10_Check_9 (k : Nat) (d : (((List (Int × Int)) × (Int × (Int × Unit))) × Unit) × (Unit × ((Int × Unit) × Unit))) : evAt E_ref10_Check (tab (L_ref10_Check k)) c_ref10_Check 9 (bodyOf Try.f34) 0 (finK E_ref10_Check po_ref10_Check [.tmp 2]) (ptSt sh_ref10_Check_9 d) = f_ref10_Check_p9 (f_ref10_Check_t k) d := by kernel_rfl
theorem q_ref10_Check_21 (k : Nat) (d : (((List (Int × Int)) × (Int × (Int × Unit))) × Unit) × (Unit × ((Int × Unit) × Unit))) : evAt E_ref10_Check (tab (L_ref10_Check k)) c_ref10_Check 21 (bodyOf Try.f34) 0 (finK E_ref10_Check po_ref10_Check [.tmp 2]) (ptSt sh_ref10_Check_21 d) = f_ref10_Check_p21 (f_ref10_Check_t k) d := by kernel_rfl
theorem q_ref10_Check_30 (k : Nat) (d : (((List (Int × Int)) × (Int × (Int × Unit))) × Unit) × (Unit × ((Int × Unit) × Unit))) : evAt E_ref10_Check (tab (L_ref10_Check k)) c_ref10_Check 30 (bodyOf Try.f34) 0 (finK E_ref10_Check po_ref10_Check [.tmp 2]) (ptSt sh_ref10_Check_30 d) = f_ref10_Check_p30 (f_ref10_Check_t k) d := by kernel_rfl
theorem q_ref10_Check_m (k : Nat) (d : Unit × (((List (Int × Int)) × (Int × (Int × Unit))) × Unit)) : evCode E_ref10_Check (tab (L_ref10_Check k)) c_ref10_Check (bodyOf Try.f34) 0 (finK E_ref10_Check po_ref10_Check [.tmp 2]) (startSt pi_ref10_Check 136 d) = f_ref10_Check_m (f_ref10_Check_t k) d := by kernel_rfl
theorem go_ref10_Check (G : pi_ref10_Check.den → Option po_ref10_Check.den) (hG : ∀ d out, G d = some out → ∃ k, f_ref10_Check_m (f_ref10_Check_t k) d = some out) : FnOk Try.prog ET0 34 pi_ref10_Check po_ref10_Check G :=
  fn_of_body (E := E_ref10_Check) (envOk_add (envOk_add (envOk_add e0_ok (typed_ok ok_ref05_Date)) (typed_ok ok_ref05_Start)) (typed_ok ok_ref05_Last)) (fn := Try.f34) Try.func34 (by kernel_rfl) (by kernel_rfl) [.tmp 2] (by kernel_rfl) (by kernel_rfl) (by decide) c_ref10_Check L_ref10_Check
    (by intro x hx d; simp only [L_ref10_Check, List.mem_cons, List.not_mem_nil, or_false] at hx; rcases hx with rfl | rfl | rfl; rfl; rfl; rfl)
    (by intro k x hx d out h; simp only [L_ref10_Check, List.mem_cons, List.not_mem_nil, or_false] at hx; rcases hx with rfl | rfl | rfl; exact (q_ref10_Check_9 k d).trans h; exact (q_ref10_Check_21 k d).trans h; exact (q_ref10_Check_30 k d).trans h)
    (by intro d out h; obtain ⟨k, hk⟩ := hG d out h; exact ⟨k, (q_ref10_Check_m k d).trans hk⟩)
def g_ref10_Check (d : Unit × (((List (Int × Int)) × (Int × (Int × Unit))) × Unit)) : Option (Unit × ((Int × Unit) × Unit)) := lim fun k => f_ref10_Check_m (f_ref10_Check_t k) d
theorem ok_ref10_Check : FnOk Try.prog ET0 34 pi_ref10_Check po_ref10_Check g_ref10_Check := go_ref10_Check g_ref10_Check fun d out h => lim_some h

/- (*horologe/leap.Table).Rows -/
@[reducible] def pi_leap_Table_Rows : PSh := ⟨[], [.mk false [.v (.nptr (.pair (.sl (.pair (.int .i64) (.int .i64))) (.pair (.int .i64) (.int .i64))))]]⟩
@[reducible] def po_leap_Table_Rows : PSh := ⟨[.row 73 (.pair (.int .i64) (.int .i64))], [.mk false [.osl 0]]⟩
def f_leap_Table_Rows_m (T : Unit) (d : Unit × (((Option ((List (Int × Int)) × (Int × Int))) × Unit) × Unit)) : Option (((List (Int × Int)) × Unit) × (Unit × Unit)) :=
  (g_leap_Table_list ((), ((d.2.1.1, ()), ()))).bind fun x1 =>
  (g_slices_Clone_leap_Row_leap_Row ((), ((x1.2.1.1, ()), ()))).bind fun x2 =>
  some ((x2.1.1, ()), ((), ()))
def c_leap_Table_Rows : List Nat := []
def L_leap_Table_Rows (_ : Nat) : Pts po_leap_Table_Rows.den := []
def E_leap_Table_Rows : Env := ((E0.add 72 (typedSem pi_slices_Clone_leap_Row_leap_Row po_slices_Clone_leap_Row_leap_Row g_slices_Clone_leap_Row_leap_Row)).add 75 (typedSem pi_leap_Table_list po_leap_Table_list g_leap_Table_list))
theorem q_leap_Table_Rows_m (k : Nat) (d : Unit × (((Option ((List (Int × Int)) × (Int × Int))) × Unit) × Unit)) : evCode E_leap_Table_Rows (tab (L_leap_Table_Rows k)) c_leap_Table_Rows (bodyOf Try.f36) 0 (finK E_leap_Table_Rows po_leap_Table_Rows [.tmp 2]) (startSt pi_leap_Table_Rows 6 d) = f_leap_Table_Rows_m () d := by kernel_rfl
def g_leap_Table_Rows (d : Unit × (((Option ((List (Int × Int)) × (Int × Int))) × Unit) × Unit)) : Option (((List (Int × Int)) × Unit) × (Unit × Unit)) := f_leap_Table_Rows_m () d
theorem ok_leap_Table_Rows : FnOk Try.prog ET0 36 pi_leap_Table_Rows po_leap_Table_Rows g_leap_Table_Rows :=
  fn_of_body (E := E_leap_Table_Rows) (envOk_add (envOk_add e0_ok (typed_ok ok_slices_Clone_leap_Row_leap_Row)) (typed_ok ok_leap_Table_list)) (fn := Try.f36) Try.func36 (by kernel_rfl) (by kernel_rfl) [.tmp 2] (by kernel_rfl) (by kernel_rfl) (by decide) c_leap_Table_Rows L_leap_Table_Rows
    (by intro x hx; cases hx) (by intro k x hx; cases hx) (fun d out h => ⟨0, (q_leap_Table_Rows_m 0 d).trans h⟩)

/- (*horologe/leap.Table).Updated -/
@[reducible] def pi_leap_Table_Updated : PSh := ⟨[], [.mk false [.v (.nptr (.pair (.sl (.pair (.int .i64) (.int .i64))) (.pair (.int .i64) (.int .i64))))]]⟩
@[reducible] def po_leap_Table_Updated : PSh := ⟨[], [.mk false [.v (.int .i64)]]⟩
def f_leap_Table_Updated_m (T : Unit) (d : Unit × (((Option ((List (Int × Int)) × (Int × Int))) × Unit) × Unit)) : Option (Unit × ((Int × Unit) × Unit)) :=
  bif d.2.1.1.isNone then (
  some ((), (((0 : Int), ()), ())))
  else (
  d.2.1.1.bind fun x1 =>
  some ((), ((x1.2.1, ()), ())))
def c_leap_Table_Updated : List Nat := []
def L_leap_Table_Updated (_ : Nat) : Pts po_leap_Table_Updated.den := []
def E_leap_Table_Updated : Env := E0
theorem q_leap_Table_Updated_m (k : Nat) (d : Unit × (((Option ((List (Int × Int)) × (Int × Int))) × Unit) × Unit)) : evCode E_leap_Table_Updated (tab (L_leap_Table_Updated k)) c_leap_Table_Updated (bodyOf Try.f46) 0 (finK E_leap_Table_Updated po_leap_Table_Updated [.tmp 2]) (startSt pi_leap_Table_Updated 9 d) = f_leap_Table_Updated_m () d := by kernel_rfl
def g_leap_Table_Updated (d : Unit × (((Option ((List (Int × Int)) × (Int × Int))) × Unit) × Unit)) : Option (Unit × ((Int × Unit) × Unit)) := f_leap_Table_Updated_m () d
theorem ok_leap_Table_Updated : FnOk Try.prog ET0 46 pi_leap_Table_Updated po_leap_Table_Updated g_leap_Table_Updated :=
  fn_of_body (E := E_leap_Table_Updated) e0_ok (fn := Try.f46) Try.func46 (by kernel_rfl) (by kernel_rfl) [.tmp 2] (by kernel_rfl) (by kernel_rfl) (by decide) c_leap_Table_Updated L_leap_Table_Updated
    (by intro x hx; cases hx) (by intro k x hx; cases hx) (fun d out h => ⟨0, (q_leap_Table_Updated_m 0 d).trans h⟩)

/- (*horologe/leap.Table).Expires -/
@[reducible] def pi_leap_Table_Expires : PSh := ⟨[], [.mk false [.v (.nptr (.pair (.sl (.pair (.int .i64) (.int .i64))) (.pair (.int .i64) (.int .i64))))]]⟩
@[reducible] def po_leap_Table_Expires : PSh := ⟨[], [.mk false [.v (.int .i64)]]⟩
def f_leap_Table_Expires_m (T : Unit) (d : Unit × (((Option ((List (Int × Int)) × (Int × Int))) × Unit) × Unit)) : Option (Unit × ((Int × Unit) × Unit)) :=
  bif d.2.1.1.isNone then (
  some ((), (((0 : Int), ()), ())))
  else (
  d.2.1.1.bind fun x1 =>
  some ((), ((x1.2.2, ()), ())))
def c_leap_Table_Expires : List Nat := []
def L_leap_Table_Expires (_ : Nat) : Pts po_leap_Table_Expires.den := []
def E_leap_Table_Expires : Env := E0
theorem q_leap_Table_Expires_m (k : Nat) (d : Unit × (((Option ((List (Int × Int)) × (Int × Int))) × Unit) × Unit)) : evCode E_leap_Table_Expires (tab (L_leap_Table_Expires k)) c_leap_Table_Expires (bodyOf Try.f47) 0 (finK E_leap_Table_Expires po_leap_Table_Expires [.tmp 2]) (startSt pi_leap_Table_Expires 9 d) = f_leap_Table_Expires_m () d := by kernel_rfl
def g_leap_Table_Expires (d : Unit × (((Option ((List (Int × Int)) × (Int × Int))) × Unit) × Unit)) : Option (Unit × ((Int × Unit) × Unit)) := f_leap_Table_Expires_m () d
theorem ok_leap_Table_Expires : FnOk Try.prog ET0 47 pi_leap_Table_Expires po_leap_Table_Expires g_leap_Table_Expires :=
  fn_of_body (E := E_leap_Table_Expires) e0_ok (fn := Try.f47) Try.func47 (by kernel_rfl) (by kernel_rfl) [.tmp 2] (by kernel_rfl) (by kernel_rfl) (by decide) c_leap_Table_Expires L_leap_Table_Expires
    (by intro x hx; cases hx) (by intro k x hx; cases hx) (fun d out h => ⟨0, (q_leap_Table_Expires_m 0 d).trans h⟩)

/- horologe/horologeref10.Same -/
@[reducible] def pi_ref10_Same : PSh := ⟨[], [.mk true [.v (.sl (.pair (.int .i64) (.int .i64))), .v (.int .i64), .v (.int .i64)], .mk true [.v (.sl (.pair (.int .i64) (.int .i64))), .v (.int .i64), .v (.int .i64)]]⟩
@[reducible] def po_ref10_Same : PSh := ⟨[], [.mk false [.v .bool]]⟩
@[reducible] def sh_ref10_Same_6 : PSh := ⟨[.var 68 [.v (.sl (.pair (.int .i64) (.int .i64))), .v (.int .i64), .v (.int .i64)], .var 68 [.v (.sl (.pair (.int .i64) (.int .i64))), .v (.int .i64), .v (.int .i64)]], [.any, .any, .mk false [.ref 0 0], .mk false [.ref 1 0], .any, .mk false [.v (.int .i64)], .any, .any, .any, .any, .any, .any, .any, .any, .any, .any, .any, .any, .any, .any, .any, .any, .any, .any, .any, .any, .any, .any, .any, .any, .any, .any, .any, .any, .any, .any, .any, .any, .any, .any, .any, .any, .any, .any, .any]⟩
def f_ref10_Same_p6 (T : ((((((List (Int × Int)) × (Int × (Int × Unit))) × (((List (Int × Int)) × (Int × (Int × Unit))) × Unit)) × (Unit × (Unit × ((Int × Unit) × Unit)))) → Option (Unit × ((Bool × Unit) × Unit))) × Unit)) (d : (((List (Int × Int)) × (Int × (Int × Unit))) × (((List (Int × Int)) × (Int × (Int × Unit))) × Unit)) × (Unit × (Unit × ((Int × Unit) × Unit)))) : Option (Unit × ((Bool × Unit) × Unit)) :=
  let x6 : Int := (d.1.1.1.length : Int)
  let x7 : Bool := (decide (d.2.2.2.1.1 < x6))
  bif x7 then (
  bif decide ((0 : Int) ≤ d.2.2.2.1.1) && decide (d.2.2.2.1.1 < (d.1.1.1.length : Int)) then (
  bif decide ((0 : Int) ≤ d.2.2.2.1.1) && decide (d.2.2.2.1.1 < (d.1.2.1.1.length : Int)) then (
  let x8 : Bool := (!(((gd (.pair (.int .i64) (.int .i64)) d.1.1.1 d.2.2.2.1.1).1 == (gd (.pair (.int .i64) (.int .i64)) d.1.2.1.1 d.2.2.2.1.1).1) && (((gd (.pair (.int .i64) (.int .i64)) d.1.1.1 d.2.2.2.1.1).2 == (gd (.pair (.int .i64) (.int .i64)) d.1.2.1.1 d.2.2.2.1.1).2) && true)))
  bif x8 then (
  some ((), ((false, ()), ())))
  else (
  let x9 : Int := (iadd .i64 d.2.2.2.1.1 (1 : Int))
  (T.1 (((d.1.1.1, (d.1.1.2.1, (d.1.1.2.2.1, ()))), ((d.1.2.1.1, (d.1.2.1.2.1, (d.1.2.1.2.2.1, ()))), ())), ((), ((), ((x9, ()), ())))))))
  else none)
  else none)
  else (
  some ((), ((true, ()), ())))
def f_ref10_Same_t : Nat → ((((((List (Int × Int)) × (Int × (Int × Unit))) × (((List (Int × Int)) × (Int × (Int × Unit))) × Unit)) × (Unit × (Unit × ((Int × Unit) × Unit)))) → Option (Unit × ((Bool × Unit) × Unit))) × Unit)
  | 0 => (fun _ => none, ())
  | k + 1 => (f_ref10_Same_p6 (f_ref10_Same_t k), ())
theorem t_ref10_Same (k : Nat) : f_ref10_Same_t (k + 1) = (f_ref10_Same_p6 (f_ref10_Same_t k), ()) := rfl
def f_ref10_Same_m (T : ((((((List (Int × Int)) × (Int × (Int × Unit))) × (((List (Int × Int)) × (Int × (Int × Unit))) × Unit)) × (Unit × (Unit × ((Int × Unit) × Unit)))) → Option (Unit × ((Bool × Unit) × Unit))) × Unit)) (d : Unit × (((List (Int × Int)) × (Int × (Int × Unit))) × (((List (Int × Int)) × (Int × (Int × Unit))) × Unit))) : Option (Unit × ((Bool × Unit) × Unit)) :=
  let x1 : Int := (d.2.1.1.length : Int)
  let x2 : Int := (d.2.2.1.1.length : Int)
  let x3 : Bool := (x1 != x2)
  bif x3 then (
  some ((), ((false, ()), ())))
  else (
  let x4 : Bool := (d.2.1.2.1 != d.2.2.1.2.1)
  bif x4 then (
  some ((), ((false, ()), ())))
  else (
  let x5 : Bool := (d.2.1.2.2.1 != d.2.2.1.2.2.1)
  bif x5 then (
  some ((), ((false, ()), ())))
  else (
  (T.1 (((d.2.1.1, (d.2.1.2.1, (d.2.1.2.2.1, ()))), ((d.2.2.1.1, (d.2.2.1.2.1, (d.2.2.1.2.2.1, ()))), ())), ((), ((), (((0 : Int), ()), ()))))))))
def c_ref10_Same : List Nat := []
def L_ref10_Same (k : Nat) : Pts po_ref10_Same.den := [(6, ⟨sh_ref10_Same_6, (f_ref10_Same_t k).1⟩)]
def E_ref10_Same : Env := E0
theorem q_ref10_Same_6 (k : Nat) (d : (((List (Int × Int)) × (Int × (Int × Unit))) × (((List (Int × Int)) × (Int × (Int × Unit))) × Unit)) × (Unit × (Unit × ((Int × Unit) × Unit)))) : evAt E_ref10_Same (tab (L_ref10_Same k)) c_ref10_Same 6 (bodyOf Try.f49) 0 (finK E_ref10_Same po_ref10_Same [.tmp 4]) (ptSt sh_ref10_Same_6 d) = f_ref10_Same_p6 (f_ref10_Same_t k) d := by kernel_rfl
theorem q_ref10_Same_m (k : Nat) (d : Unit × (((List (Int × Int)) × (Int × (Int × Unit))) × (((List (Int × Int)) × (Int × (Int × Unit))) × Unit))) : evCode E_ref10_Same (tab (L_ref10_Same k)) c_ref10_Same (bodyOf Try.f49) 0 (finK E_ref10_Same po_ref10_Same [.tmp 4]) (startSt pi_ref10_Same 45 d) = f_ref10_Same_m (f_ref10_Same_t k) d := by kernel_rfl
theorem go_ref10_Same (G : pi_ref10_Same.den → Option po_ref10_Same.den) (hG : ∀ d out, G d = some out → ∃ k, f_ref10_Same_m (f_ref10_Same_t k) d = some out) : FnOk Try.prog ET0 49 pi_ref10_Same po_ref10_Same G :=
  fn_of_body (E := E_ref10_Same) e0_ok (fn := Try.f49) Try.func49 (by kernel_rfl) (by kernel_rfl) [.tmp 4] (by kernel_rfl) (by kernel_rfl) (by decide) c_ref10_Same L_ref10_Same
    (by intro x hx d; simp only [L_ref10_Same, List.mem_cons, List.not_mem_nil, or_false] at hx; subst hx; rfl)
    (by intro k x hx d out h; simp only [L_ref10_Same, List.mem_cons, List.not_mem_nil, or_false] at hx; subst hx; exact (q_ref10_Same_6 k d).trans h)
    (by intro d out h; obtain ⟨k, hk⟩ := hG d out h; exact ⟨k, (q_ref10_Same_m k d).trans hk⟩)
def g_ref10_Same (d : Unit × (((List (Int × Int)) × (Int × (Int × Unit))) × (((List (Int × Int)) × (Int × (Int × Unit))) × Unit))) : Option (Unit × ((Bool × Unit) × Unit)) := lim fun k => f_ref10_Same_m (f_ref10_Same_t k) d
theorem ok_ref10_Same : FnOk Try.prog ET0 49 pi_ref10_Same po_ref10_Same g_ref10_Same := go_ref10_Same g_ref10_Same fun d out h => lim_some h

/- horologe/horologeref10.Offset -/
@[reducible] def pi_ref10_Offset : PSh := ⟨[], [.mk true [.v (.sl (.pair (.int .i64) (.int .i64))), .v (.int .i64), .v (.int .i64)], .mk false [.v (.int .i64)]]⟩
@[reducible] def po_ref10_Offset : PSh := ⟨[], [.mk false [.v (.int .i64)], .mk false [.v .bool]]⟩
@[reducible] def sh_ref10_Offset_4 : PSh := ⟨[.var 68 [.v (.sl (.pair (.int .i64) (.int .i64))), .v (.int .i64), .v (.int .i64)]], [.any, .mk false [.v (.int .i64)], .mk false [.ref 0 0], .any, .any, .any, .mk false [.v (.int .i64)], .mk false [.v .bool], .mk false [.v (.int .i64)], .any, .any, .any, .any, .any, .any, .any, .any, .any, .any, .any, .any, .any, .any, .any, .any, .any, .any, .any, .any, .any, .any, .any]⟩
def f_ref10_Offset_p4 (T : ((((((List (Int × Int)) × (Int × (Int × Unit))) × Unit) × ((Int × Unit) × (Unit × ((Int × Unit) × ((Bool × Unit) × ((Int × Unit) × Unit)))))) → Option (Unit × ((Int × Unit) × ((Bool × Unit) × Unit)))) × Unit)) (d : (((List (Int × Int)) × (Int × (Int × Unit))) × Unit) × ((Int × Unit) × (Unit × ((Int × Unit) × ((Bool × Unit) × ((Int × Unit) × Unit)))))) : Option (Unit × ((Int × Unit) × ((Bool × Unit) × Unit))) :=
  let x1 : Int := (d.1.1.1.length : Int)
  let x2 : Bool := (decide (d.2.2.2.2.2.1.1 < x1))
  bif x2 then (
  bif decide ((0 : Int) ≤ d.2.2.2.2.2.1.1) && decide (d.2.2.2.2.2.1.1 < (d.1.1.1.length : Int)) then (
  let x3 : Bool := (decide ((gd (.pair (.int .i64) (.int .i64)) d.1.1.1 d.2.2.2.2.2.1.1).1 ≤ d.2.1.1))
  bif x3 then (
  bif decide ((0 : Int) ≤ d.2.2.2.2.2.1.1) && decide (d.2.2.2.2.2.1.1 < (d.1.1.1.length : Int)) then (
  let x4 : Int := (iadd .i64 d.2.2.2.2.2.1.1 (1 : Int))
  (T.1 (((d.1.1.1, (d.1.1.2.1, (d.1.1.2.2.1, ()))), ()), ((d.2.1.1, ()), ((), (((gd (.pair (.int .i64) (.int .i64)) d.1.1.1 d.2.2.2.2.2.1.1).2, ()), ((true, ()), ((x4, ()), ()))))))))
  else none)
  else (
  let x5 : Int := (iadd .i64 d.2.2.2.2.2.1.1 (1 : Int))
  (T.1 (((d.1.1.1, (d.1.1.2.1, (d.1.1.2.2.1, ()))), ()), ((d.2.1.1, ()), ((), ((d.2.2.2.1.1, ()), ((d.2.2.2.2.1.1, ()), ((x5, ()), ())))))))))
  else none)
  else (
  some ((), ((d.2.2.2.1.1, ()), ((d.2.2.2.2.1.1, ()), ()))))
def f_ref10_Offset_t : Nat → ((((((List (Int × Int)) × (Int × (Int × Unit))) × Unit) × ((Int × Unit) × (Unit × ((Int × Unit) × ((Bool × Unit) × ((Int × Unit) × Unit)))))) → Option (Unit × ((Int × Unit) × ((Bool × Unit) × Unit)))) × Unit)
  | 0 => (fun _ => none, ())
  | k + 1 => (f_ref10_Offset_p4 (f_ref10_Offset_t k), ())
theorem t_ref10_Offset (k : Nat) : f_ref10_Offset_t (k + 1) = (f_ref10_Offset_p4 (f_ref10_Offset_t k), ()) := rfl
def f_ref10_Offset_m (T : ((((((List (Int × Int)) × (Int × (Int × Unit))) × Unit) × ((Int × Unit) × (Unit × ((Int × Unit) × ((Bool × Unit) × ((Int × Unit) × Unit)))))) → Option (Unit × ((Int × Unit) × ((Bool × Unit) × Unit)))) × Unit)) (d : Unit × (((List (Int × Int)) × (Int × (Int × Unit))) × ((Int × Unit) × Unit))) : Option (Unit × ((Int × Unit) × ((Bool × Unit) × Unit))) :=
  (T.1 (((d.2.1.1, (d.2.1.2.1, (d.2.1.2.2.1, ()))), ()), ((d.2.2.1.1, ()), ((), (((0 : Int), ()), ((false, ()), (((0 : Int), ()), ())))))))
def c_ref10_Offset : List Nat := []
def L_ref10_Offset (k : Nat) : Pts po_ref10_Offset.den := [(4, ⟨sh_ref10_Offset_4, (f_ref10_Offset_t k).1⟩)]
def E_ref10_Offset : Env := E0
theorem q_ref10_Offset_4 (k : Nat) (d : (((List (Int × Int)) × (Int × (Int × Unit))) × Unit) × ((Int × Unit) × (Unit × ((Int × Unit) × ((Bool × Unit) × ((Int × Unit) × Unit)))))) : evAt E_ref10_Offset (tab (L_ref10_Offset k)) c_ref10_Offset 4 (bodyOf Try.f39) 0 (finK E_ref10_Offset po_ref10_Offset [.tmp 4, .tmp 5]) (ptSt sh_ref10_Offset_4 d) = f_ref10_Offset_p4 (f_ref10_Offset_t k) d := by kernel_rfl
theorem q_ref10_Offset_m (k : Nat) (d : Unit × (((List (Int × Int)) × (Int × (Int × Unit))) × ((Int × Unit) × Unit))) : evCode E_ref10_Offset (tab (L_ref10_Offset k)) c_ref10_Offset (bodyOf Try.f39) 0 (finK E_ref10_Offset po_ref10_Offset [.tmp 4, .tmp 5]) (startSt pi_ref10_Offset 32 d) = f_ref10_Offset_m (f_ref10_Offset_t k) d := by kernel_rfl
theorem go_ref10_Offset (G : pi_ref10_Offset.den → Option po_ref10_Offset.den) (hG : ∀ d out, G d = some out → ∃ k, f_ref10_Offset_m (f_ref10_Offset_t k) d = some out) : FnOk Try.prog ET0 39 pi_ref10_Offset po_ref10_Offset G :=
  fn_of_body (E := E_ref10_Offset) e0_ok (fn := Try.f39) Try.func39 (by kernel_rfl) (by kernel_rfl) [.tmp 4, .tmp 5] (by kernel_rfl) (by kernel_rfl) (by decide) c_ref10_Offset L_ref10_Offset
    (by intro x hx d; simp only [L_ref10_Offset, List.mem_cons, List.not_mem_nil, or_false] at hx; subst hx; rfl)
    (by intro k x hx d out h; simp only [L_ref10_Offset, List.mem_cons, List.not_mem_nil, or_false] at hx; subst hx; exact (q_ref10_Offset_4 k d).trans h)
    (by intro d out h; obtain ⟨k, hk⟩ := hG d out h; exact ⟨k, (q_ref10_Offset_m k d).trans hk⟩)
def g_ref10_Offset (d : Unit × (((List (Int × Int)) × (Int × (Int × Unit))) × ((Int × Unit) × Unit))) : Option (Unit × ((Int × Unit) × ((Bool × Unit) × Unit))) := lim fun k => f_ref10_Offset_m (f_ref10_Offset_t k) d
theorem ok_ref10_Offset : FnOk Try.prog ET0 39 pi_ref10_Offset po_ref10_Offset g_ref10_Offset := go_ref10_Offset g_ref10_Offset fun d out h => lim_some h

/- horologe/horologeref10.Leap -/
@[reducible] def pi_ref10_Leap : PSh := ⟨[], [.mk true [.v (.sl (.pair (.int .i64) (.int .i64))), .v (.int .i64), .v (.int .i64)], .mk false [.v (.int .i64)]]⟩
@[reducible] def po_ref10_Leap : PSh := ⟨[], [.mk false [.v (.int .i64)]]⟩
@[reducible] def sh_ref10_Leap_3 : PSh := ⟨[.var 68 [.v (.sl (.pair (.int .i64) (.int .i64))), .v (.int .i64), .v (.int .i64)]], [.any, .mk false [.v (.int .i64)], .mk false [.ref 0 0], .any, .any, .mk false [.v (.int .i64)], .any, .any, .any, .any, .any, .any, .any, .any, .any, .any, .any, .any, .any, .any, .any, .any, .any, .any, .any, .any, .any, .any, .any, .any, .any, .any, .any, .any, .any, .any]⟩
def f_ref10_Leap_p3 (T : ((((((List (Int × Int)) × (Int × (Int × Unit))) × Unit) × ((Int × Unit) × (Unit × ((Int × Unit) × Unit)))) → Option (Unit × ((Int × Unit) × Unit))) × Unit)) (d : (((List (Int × Int)) × (Int × (Int × Unit))) × Unit) × ((Int × Unit) × (Unit × ((Int × Unit) × Unit)))) : Option (Unit × ((Int × Unit) × Unit)) :=
  let x1 : Int := (d.1.1.1.length : Int)
  let x2 : Bool := (decide (d.2.2.2.1.1 < x1))
  bif x2 then (
  bif decide ((0 : Int) ≤ d.2.2.2.1.1) && decide (d.2.2.2.1.1 < (d.1.1.1.length : Int)) then (
  let x3 : Int := (isub .i64 (gd (.pair (.int .i64) (.int .i64)) d.1.1.1 d.2.2.2.1.1).1 (1 : Int))
  let x4 : Bool := (x3 == d.2.1.1)
  bif x4 then (
  bif decide ((0 : Int) ≤ d.2.2.2.1.1) && decide (d.2.2.2.1.1 < (d.1.1.1.length : Int)) then (
  let x5 : Int := (isub .i64 d.2.2.2.1.1 (1 : Int))
  bif decide ((0 : Int) ≤ x5) && decide (x5 < (d.1.1.1.length : Int)) then (
  let x6 : Int := (isub .i64 (gd (.pair (.int .i64) (.int .i64)) d.1.1.1 d.2.2.2.1.1).2 (gd (.pair (.int .i64) (.int .i64)) d.1.1.1 x5).2)
  some ((), ((x6, ()), ())))
  else none)
  else none)
  else (
  let x7 : Int := (iadd .i64 d.2.2.2.1.1 (1 : Int))
  (T.1 (((d.1.1.1, (d.1.1.2.1, (d.1.1.2.2.1, ()))), ()), ((d.2.1.1, ()), ((), ((x7, ()), ())))))))
  else none)
  else (
  some ((), (((0 : Int), ()), ())))
def f_ref10_Leap_t : Nat → ((((((List (Int × Int)) × (Int × (Int × Unit))) × Unit) × ((Int × Unit) × (Unit × ((Int × Unit) × Unit)))) → Option (Unit × ((Int × Unit) × Unit))) × Unit)
  | 0 => (fun _ => none, ())
  | k + 1 => (f_ref10_Leap_p3 (f_ref10_Leap_t k), ())
theorem t_ref10_Leap (k : Nat) : f_ref10_Leap_t (k + 1) = (f_ref10_Leap_p3 (f_ref10_Leap_t k), ()) := rfl
def f_ref10_Leap_m (T : ((((((List (Int × Int)) × (Int × (Int × Unit))) × Unit) × ((Int × Unit) × (Unit × ((Int × Unit) × Unit)))) → Option (Unit × ((Int × Unit) × Unit))) × Unit)) (d : Unit × (((List (Int × Int)) × (Int × (Int × Unit))) × ((Int × Unit) × Unit))) : Option (Unit × ((Int × Unit) × Unit)) :=
  (T.1 (((d.2.1.1, (d.2.1.2.1, (d.2.1.2.2.1, ()))), ()), ((d.2.2.1.1, ()), ((), (((1 : Int), ()), ())))))
def c_ref10_Leap : List Nat := []
def L_ref10_Leap (k : Nat) : Pts po_ref10_Leap.den := [(3, ⟨sh_ref10_Leap_3, (f_ref10_Leap_t k).1⟩)]
def E_ref10_Leap : Env := E0
theorem q_ref10_Leap_3 (k : Nat) (d : (((List (Int × Int)) × (Int × (Int × Unit))) × Unit) × ((Int × Unit) × (Unit × ((Int × Unit) × Unit)))) : evAt E_ref10_Leap (tab (L_ref10_Leap k)) c_ref10_Leap 3 (bodyOf Try.f40) 0 (finK E_ref10_Leap po_ref10_Leap [.tmp 4]) (ptSt sh_ref10_Leap_3 d) = f_ref10_Leap_p3 (f_ref10_Leap_t k) d := by kernel_rfl
theorem q_ref10_Leap_m (k : Nat) (d : Unit × (((List (Int × Int)) × (Int × (Int × Unit))) × ((Int × Unit) × Unit))) : evCode E_ref10_Leap (tab (L_ref10_Leap k)) c_ref10_Leap (bodyOf Try.f40) 0 (finK E_ref10_Leap po_ref10_Leap [.tmp 4]) (startSt pi_ref10_Leap 36 d) = f_ref10_Leap_m (f_ref10_Leap_t k) d := by kernel_rfl
theorem go_ref10_Leap (G : pi_ref10_Leap.den → Option po_ref10_Leap.den) (hG : ∀ d out, G d = some out → ∃ k, f_ref10_Leap_m (f_ref10_Leap_t k) d = some out) : FnOk Try.prog ET0 40 pi_ref10_Leap po_ref10_Leap G :=
  fn_of_body (E := E_ref10_Leap) e0_ok (fn := Try.f40) Try.func40 (by kernel_rfl) (by kernel_rfl) [.tmp 4] (by kernel_rfl) (by kernel_rfl) (by decide) c_ref10_Leap L_ref10_Leap
    (by intro x hx d; simp only [L_ref10_Leap, List.mem_cons, List.not_mem_nil, or_false] at hx; subst hx; rfl)
    (by intro k x hx d out h; simp only [L_ref10_Leap, List.mem_cons, List.not_mem_nil, or_false] at hx; subst hx; exact (q_ref10_Leap_3 k d).trans h)
    (by intro d out h; obtain ⟨k, hk⟩ := hG d out h; exact ⟨k, (q_ref10_Leap_m k d).trans hk⟩)
def g_ref10_Leap (d : Unit × (((List (Int × Int)) × (Int × (Int × Unit))) × ((Int × Unit) × Unit))) : Option (Unit × ((Int × Unit) × Unit)) := lim fun k => f_ref10_Leap_m (f_ref10_Leap_t k) d
theorem ok_ref10_Leap : FnOk Try.prog ET0 40 pi_ref10_Leap po_ref10_Leap g_ref10_Leap := go_ref10_Leap g_ref10_Leap fun d out h => lim_some h

/- horologe/horologeref10.Next -/
@[reducible] def pi_ref10_Next : PSh := ⟨[], [.mk true [.v (.sl (.pair (.int .i64) (.int .i64))), .v (.int .i64), .v (.int .i64)], .mk false [.v (.int .i64)]]⟩
@[reducible] def po_ref10_Next : PSh := ⟨[], [.mk false [.v (.int .i64)], .mk false [.v (.int .i64)], .mk false [.v .bool]]⟩
@[reducible] def sh_ref10_Next_3 : PSh := ⟨[.var 68 [.v (.sl (.pair (.int .i64) (.int .i64))), .v (.int .i64), .v (.int .i64)]], [.any, .mk false [.v (.int .i64)], .mk false [.ref 0 0], .any, .any, .any, .any, .mk false [.v (.int .i64)], .any, .any, .any, .any, .any, .any, .any, .any, .any, .any, .any, .any, .any, .any, .any, .any, .any, .any, .any, .any, .any, .any, .any, .any, .any, .any, .any, .any, .any, .any, .any, .any, .any, .any, .any, .any, .any]⟩
def f_ref10_Next_p3 (T : ((((((List (Int × Int)) × (Int × (Int × Unit))) × Unit) × ((Int × Unit) × (Unit × ((Int × Unit) × Unit)))) → Option (Unit × ((Int × Unit) × ((Int × Unit) × ((Bool × Unit) × Unit))))) × Unit)) (d : (((List (Int × Int)) × (Int × (Int × Unit))) × Unit) × ((Int × Unit) × (Unit × ((Int × Unit) × Unit)))) : Option (Unit × ((Int × Unit) × ((Int × Unit) × ((Bool × Unit) × Unit)))) :=
  let x1 : Int := (d.1.1.1.length : Int)
  let x2 : Bool := (decide (d.2.2.2.1.1 < x1))
  bif x2 then (
  bif decide ((0 : Int) ≤ d.2.2.2.1.1) && decide (d.2.2.2.1.1 < (d.1.1.1.length : Int)) then (
  let x3 : Int := (isub .i64 (gd (.pair (.int .i64) (.int .i64)) d.1.1.1 d.2.2.2.1.1).1 (1 : Int))
  let x4 : Bool := (decide (x3 ≥ d.2.1.1))
  bif x4 then (
  bif decide ((0 : Int) ≤ d.2.2.2.1.1) && decide (d.2.2.2.1.1 < (d.1.1.1.length : Int)) then (
  let x5 : Int := (isub .i64 (gd (.pair (.int .i64) (.int .i64)) d.1.1.1 d.2.2.2.1.1).1 (1 : Int))
  bif decide ((0 : Int) ≤ d.2.2.2.1.1) && decide (d.2.2.2.1.1 < (d.1.1.1.length : Int)) then (
  let x6 : Int := (isub .i64 d.2.2.2.1.1 (1 : Int))
  bif decide ((0 : Int) ≤ x6) && decide (x6 < (d.1.1.1.length : Int)) then (
  let x7 : Int := (isub .i64 (gd (.pair (.int .i64) (.int .i64)) d.1.1.1 d.2.2.2.1.1).2 (gd (.pair (.int .i64) (.int .i64)) d.1.1.1 x6).2)
  some ((), ((x5, ()), ((x7, ()), ((true, ()), ())))))
  else none)
  else none)
  else none)
  else (
  let x8 : Int := (iadd .i64 d.2.2.2.1.1 (1 : Int))
  (T.1 (((d.1.1.1, (d.1.1.2.1, (d.1.1.2.2.1, ()))), ()), ((d.2.1.1, ()), ((), ((x8, ()), ())))))))
  else none)
  else (
  some ((), (((0 : Int), ()), (((0 : Int), ()), ((false, ()), ())))))
def f_ref10_Next_t : Nat → ((((((List (Int × Int)) × (Int × (Int × Unit))) × Unit) × ((Int × Unit) × (Unit × ((Int × Unit) × Unit)))) → Option (Unit × ((Int × Unit) × ((Int × Unit) × ((Bool × Unit) × Unit))))) × Unit)
  | 0 => (fun _ => none, ())
  | k + 1 => (f_ref10_Next_p3 (f_ref10_Next_t k), ())
theorem t_ref10_Next (k : Nat) : f_ref10_Next_t (k + 1) = (f_ref10_Next_p3 (f_ref10_Next_t k), ()) := rfl
def f_ref10_Next_m (T : ((((((List (Int × Int)) × (Int × (Int × Unit))) × Unit) × ((Int × Unit) × (Unit × ((Int × Unit) × Unit)))) → Option (Unit × ((Int × Unit) × ((Int × Unit) × ((Bool × Unit) × Unit))))) × Unit)) (d : Unit × (((List (Int × Int)) × (Int × (Int × Unit))) × ((Int × Unit) × Unit))) : Option (Unit × ((Int × Unit) × ((Int × Unit) × ((Bool × Unit) × Unit)))) :=
  (T.1 (((d.2.1.1, (d.2.1.2.1, (d.2.1.2.2.1, ()))), ()), ((d.2.2.1.1, ()), ((), (((1 : Int), ()), ())))))
def c_ref10_Next : List Nat := []
def L_ref10_Next (k : Nat) : Pts po_ref10_Next.den := [(3, ⟨sh_ref10_Next_3, (f_ref10_Next_t k).1⟩)]
def E_ref10_Next : Env := E0
theorem q_ref10_Next_3 (k : Nat) (d : (((List (Int × Int)) × (Int × (Int × Unit))) × Unit) × ((Int × Unit) × (Unit × ((Int × Unit) × Unit)))) : evAt E_ref10_Next (tab (L_ref10_Next k)) c_ref10_Next 3 (bodyOf Try.f44) 0 (finK E_ref10_Next po_ref10_Next [.tmp 4, .tmp 5, .tmp 6]) (ptSt sh_ref10_Next_3 d) = f_ref10_Next_p3 (f_ref10_Next_t k) d := by kernel_rfl
theorem q_ref10_Next_m (k : Nat) (d : Unit × (((List (Int × Int)) × (Int × (Int × Unit))) × ((Int × Unit) × Unit))) : evCode E_ref10_Next (tab (L_ref10_Next k)) c_ref10_Next (bodyOf Try.f44) 0 (finK E_ref10_Next po_ref10_Next [.tmp 4, .tmp 5, .tmp 6]) (startSt pi_ref10_Next 45 d) = f_ref10_Next_m (f_ref10_Next_t k) d := by kernel_rfl
theorem go_ref10_Next (G : pi_ref10_Next.den → Option po_ref10_Next.den) (hG : ∀ d out, G d = some out → ∃ k, f_ref10_Next_m (f_ref10_Next_t k) d = some out) : FnOk Try.prog ET0 44 pi_ref10_Next po_ref10_Next G :=
  fn_of_body (E := E_ref10_Next) e0_ok (fn := Try.f44) Try.func44 (by kernel_rfl) (by kernel_rfl) [.tmp 4, .tmp 5, .tmp 6] (by kernel_rfl) (by kernel_rfl) (by decide) c_ref10_Next L_ref10_Next
    (by intro x hx d; simp only [L_ref10_Next, List.mem_cons, List.not_mem_nil, or_false] at hx; subst hx; rfl)
    (by intro k x hx d out h; simp only [L_ref10_Next, List.mem_cons, List.not_mem_nil, or_false] at hx; subst hx; exact (q_ref10_Next_3 k d).trans h)
    (by intro d out h; obtain ⟨k, hk⟩ := hG d out h; exact ⟨k, (q_ref10_Next_m k d).trans hk⟩)
def g_ref10_Next (d : Unit × (((List (Int × Int)) × (Int × (Int × Unit))) × ((Int × Unit) × Unit))) : Option (Unit × ((Int × Unit) × ((Int × Unit) × ((Bool × Unit) × Unit)))) := lim fun k => f_ref10_Next_m (f_ref10_Next_t k) d
theorem ok_ref10_Next : FnOk Try.prog ET0 44 pi_ref10_Next po_ref10_Next g_ref10_Next := go_ref10_Next g_ref10_Next fun d out h => lim_some h

/- (*horologe/leap.Table).Expired -/
@[reducible] def pi_leap_Table_Expired : PSh := ⟨[], [.mk false [.v (.nptr (.pair (.sl (.pair (.int .i64) (.int .i64))) (.pair (.int .i64) (.int .i64))))], .mk false [.v (.int .i64)]]⟩
@[reducible] def po_leap_Table_Expired : PSh := ⟨[], [.mk false [.v .bool]]⟩
def f_leap_Table_Expired_m (T : Unit) (d : Unit × (((Option ((List (Int × Int)) × (Int × Int))) × Unit) × ((Int × Unit) × Unit))) : Option (Unit × ((Bool × Unit) × Unit)) :=
  bif d.2.1.1.isNone then (
  some ((), ((true, ()), ())))
  else (
  d.2.1.1.bind fun x1 =>
  let x2 : Bool := (decide (d.2.2.1.1 ≥ x1.2.2))
  some ((), ((x2, ()), ())))
def c_leap_Table_Expired : List Nat := []
def L_leap_Table_Expired (_ : Nat) : Pts po_leap_Table_Expired.den := []
def E_leap_Table_Expired : Env := E0
theorem q_leap_Table_Expired_m (k : Nat) (d : Unit × (((Option ((List (Int × Int)) × (Int × Int))) × Unit) × ((Int × Unit) × Unit))) : evCode E_leap_Table_Expired (tab (L_leap_Table_Expired k)) c_leap_Table_Expired (bodyOf Try.f45) 0 (finK E_leap_Table_Expired po_leap_Table_Expired [.tmp 4]) (startSt pi_leap_Table_Expired 15 d) = f_leap_Table_Expired_m () d := by kernel_rfl
def g_leap_Table_Expired (d : Unit × (((Option ((List (Int × Int)) × (Int × Int))) × Unit) × ((Int × Unit) × Unit))) : Option (Unit × ((Bool × Unit) × Unit)) := f_leap_Table_Expired_m () d
theorem ok_leap_Table_Expired : FnOk Try.prog ET0 45 pi_leap_Table_Expired po_leap_Table_Expired g_leap_Table_Expired :=
  fn_of_body (E := E_leap_Table_Expired) e0_ok (fn := Try.f45) Try.func45 (by kernel_rfl) (by kernel_rfl) [.tmp 4] (by kernel_rfl) (by kernel_rfl) (by decide) c_leap_Table_Expired L_leap_Table_Expired
    (by intro x hx; cases hx) (by intro k x hx; cases hx) (fun d out h => ⟨0, (q_leap_Table_Expired_m 0 d).trans h⟩)

/- slices.Equal[[]horologe/leap.Row,horologe/leap.Row] -/
@[reducible] def pi_slices_Equal_leap_Row_leap_Row : PSh := ⟨[], [.mk false [.v (.sl (.pair (.int .i64) (.int .i64)))], .mk false [.v (.sl (.pair (.int .i64) (.int .i64)))]]⟩
@[reducible] def po_slices_Equal_leap_Row_leap_Row : PSh := ⟨[], [.mk false [.v .bool]]⟩
@[reducible] def sh_slices_Equal_leap_Row_leap_Row_6 : PSh := ⟨[], [.mk false [.v (.sl (.pair (.int .i64) (.int .i64)))], .mk false [.v (.sl (.pair (.int .i64) (.int .i64)))], .any, .any, .any, .any, .any, .any, .any, .any, .any, .any, .mk false [.v (.int .i64)], .mk false [.v (.int .i64)], .any, .any, .any, .any, .any, .any, .any, .any, .any, .any, .any, .any]⟩
def f_slices_Equal_leap_Row_leap_Row_p6 (T : (((Unit × (((List (Int × Int)) × Unit) × (((List (Int × Int)) × Unit) × ((Int × Unit) × ((Int × Unit) × Unit))))) → Option (Unit × ((Bool × Unit) × Unit))) × Unit)) (d : Unit × (((List (Int × Int)) × Unit) × (((List (Int × Int)) × Unit) × ((Int × Unit) × ((Int × Unit) × Unit))))) : Option (Unit × ((Bool × Unit) × Unit)) :=
  let x5 : Bool := (decide (d.2.2.2.2.1.1 < d.2.2.2.1.1))
  bif x5 then (
  bif decide ((0 : Int) ≤ d.2.2.2.2.1.1) && decide (d.2.2.2.2.1.1 < (d.2.1.1.length : Int)) then (
  bif decide ((0 : Int) ≤ d.2.2.2.2.1.1) && decide (d.2.2.2.2.1.1 < (d.2.2.1.1.length : Int)) then (
  let x6 : Bool := (!(((gd (.pair (.int .i64) (.int .i64)) d.2.1.1 d.2.2.2.2.1.1).1 == (gd (.pair (.int .i64) (.int .i64)) d.2.2.1.1 d.2.2.2.2.1.1).1) && (((gd (.pair (.int .i64) (.int .i64)) d.2.1.1 d.2.2.2.2.1.1).2 == (gd (.pair (.int .i64) (.int .i64)) d.2.2.1.1 d.2.2.2.2.1.1).2) && true)))
  bif x6 then (
  some ((), ((false, ()), ())))
  else (
  let x7 : Int := (iadd .i64 d.2.2.2.2.1.1 (1 : Int))
  (T.1 ((), ((d.2.1.1, ()), ((d.2.2.1.1, ()), ((d.2.2.2.1.1, ()), ((x7, ()), ()))))))))
  else none)
  else none)
  else (
  some ((), ((true, ()), ())))
def f_slices_Equal_leap_Row_leap_Row_t : Nat → (((Unit × (((List (Int × Int)) × Unit) × (((List (Int × Int)) × Unit) × ((Int × Unit) × ((Int × Unit) × Unit))))) → Option (Unit × ((Bool × Unit) × Unit))) × Unit)
  | 0 => (fun _ => none, ())
  | k + 1 => (f_slices_Equal_leap_Row_leap_Row_p6 (f_slices_Equal_leap_Row_leap_Row_t k), ())
theorem t_slices_Equal_leap_Row_leap_Row (k : Nat) : f_slices_Equal_leap_Row_leap_Row_t (k + 1) = (f_slices_Equal_leap_Row_leap_Row_p6 (f_slices_Equal_leap_Row_leap_Row_t k), ()) := rfl
def f_slices_Equal_leap_Row_leap_Row_m (T : (((Unit × (((List (Int × Int)) × Unit) × (((List (Int × Int)) × Unit) × ((Int × Unit) × ((Int × Unit) × Unit))))) → Option (Unit × ((Bool × Unit) × Unit))) × Unit)) (d : Unit × (((List (Int × Int)) × Unit) × (((List (Int × Int)) × Unit) × Unit))) : Option (Unit × ((Bool × Unit) × Unit)) :=
  let x1 : Int := (d.2.1.1.length : Int)
  let x2 : Int := (d.2.2.1.1.length : Int)
  let x3 : Bool := (x1 != x2)
  bif x3 then (
  some ((), ((false, ()), ())))
  else (
  let x4 : Int := (d.2.1.1.length : Int)
  (T.1 ((), ((d.2.1.1, ()), ((d.2.2.1.1, ()), ((x4, ()), (((0 : Int), ()), ())))))))
def c_slices_Equal_leap_Row_leap_Row : List Nat := []
def L_slices_Equal_leap_Row_leap_Row (k : Nat) : Pts po_slices_Equal_leap_Row_leap_Row.den := [(6, ⟨sh_slices_Equal_leap_Row_leap_Row_6, (f_slices_Equal_leap_Row_leap_Row_t k).1⟩)]
def E_slices_Equal_leap_Row_leap_Row : Env := E0
theorem q_slices_Equal_leap_Row_leap_Row_6 (k : Nat) (d : Unit × (((List (Int × Int)) × Unit) × (((List (Int × Int)) × Unit) × ((Int × Unit) × ((Int × Unit) × Unit))))) : evAt E_slices_Equal_leap_Row_leap_Row (tab (L_slices_Equal_leap_Row_leap_Row k)) c_slices_Equal_leap_Row_leap_Row 6 (bodyOf Try.f78) 0 (finK E_slices_Equal_leap_Row_leap_Row po_slices_Equal_leap_Row_leap_Row [.tmp 4]) (ptSt sh_slices_Equal_leap_Row_leap_Row_6 d) = f_slices_Equal_leap_Row_leap_Row_p6 (f_slices_Equal_leap_Row_leap_Row_t k) d := by kernel_rfl
theorem q_slices_Equal_leap_Row_leap_Row_m (k : Nat) (d : Unit × (((List (Int × Int)) × Unit) × (((List (Int × Int)) × Unit) × Unit))) : evCode E_slices_Equal_leap_Row_leap_Row (tab (L_slices_Equal_leap_Row_leap_Row k)) c_slices_Equal_leap_Row_leap_Row (bodyOf Try.f78) 0 (finK E_slices_Equal_leap_Row_leap_Row po_slices_Equal_leap_Row_leap_Row [.tmp 4]) (startSt pi_slices_Equal_leap_Row_leap_Row 26 d) = f_slices_Equal_leap_Row_leap_Row_m (f_slices_Equal_leap_Row_leap_Row_t k) d := by kernel_rfl
theorem go_slices_Equal_leap_Row_leap_Row (G : pi_slices_Equal_leap_Row_leap_Row.den → Option po_slices_Equal_leap_Row_leap_Row.den) (hG : ∀ d out, G d = some out → ∃ k, f_slices_Equal_leap_Row_leap_Row_m (f_slices_Equal_leap_Row_leap_Row_t k) d = some out) : FnOk Try.prog ET0 78 pi_slices_Equal_leap_Row_leap_Row po_slices_Equal_leap_Row_leap_Row G :=
  fn_of_body (E := E_slices_Equal_leap_Row_leap_Row) e0_ok (fn := Try.f78) Try.func78 (by kernel_rfl) (by kernel_rfl) [.tmp 4] (by kernel_rfl) (by kernel_rfl) (by decide) c_slices_Equal_leap_Row_leap_Row L_slices_Equal_leap_Row_leap_Row
    (by intro x hx d; simp only [L_slices_Equal_leap_Row_leap_Row, List.mem_cons, List.not_mem_nil, or_false] at hx; subst hx; rfl)
    (by intro k x hx d out h; simp only [L_slices_Equal_leap_Row_leap_Row, List.mem_cons, List.not_mem_nil, or_false] at hx; subst hx; exact (q_slices_Equal_leap_Row_leap_Row_6 k d).trans h)
    (by intro d out h; obtain ⟨k, hk⟩ := hG d out h; exact ⟨k, (q_slices_Equal_leap_Row_leap_Row_m k d).trans hk⟩)
def g_slices_Equal_leap_Row_leap_Row (d : Unit × (((List (Int × Int)) × Unit) × (((List (Int × Int)) × Unit) × Unit))) : Option (Unit × ((Bool × Unit) × Unit)) := lim fun k => f_slices_Equal_leap_Row_leap_Row_m (f_slices_Equal_leap_Row_leap_Row_t k) d
theorem ok_slices_Equal_leap_Row_leap_Row : FnOk Try.prog ET0 78 pi_slices_Equal_leap_Row_leap_Row po_slices_Equal_leap_Row_leap_Row g_slices_Equal_leap_Row_leap_Row := go_slices_Equal_leap_Row_leap_Row g_slices_Equal_leap_Row_leap_Row fun d out h => lim_some h

/- horologe/leap.Same -/
@[reducible] def pi_leap_Same : PSh := ⟨[], [.mk false [.v (.nptr (.pair (.sl (.pair (.int .i64) (.int .i64))) (.pair (.int .i64) (.int .i64))))], .mk false [.v (.nptr (.pair (.sl (.pair (.int .i64) (.int .i64))) (.pair (.int .i64) (.int .i64))))]]⟩
@[reducible] def po_leap_Same : PSh := ⟨[], [.mk false [.v .bool]]⟩
def f_leap_Same_m (T : Unit) (d : Unit × (((Option ((List (Int × Int)) × (Int × Int))) × Unit) × (((Option ((List (Int × Int)) × (Int × Int))) × Unit) × Unit))) : Option (Unit × ((Bool × Unit) × Unit)) :=
  bif d.2.1.1.isNone then (
  bif d.2.1.1.isNone then (
  some ((), ((d.2.2.1.1.isNone, ()), ())))
  else (
  some ((), ((false, ()), ()))))
  else (
  bif d.2.2.1.1.isNone then (
  bif d.2.1.1.isNone then (
  some ((), ((d.2.2.1.1.isNone, ()), ())))
  else (
  some ((), ((false, ()), ()))))
  else (
  d.2.1.1.bind fun x1 =>
  d.2.2.1.1.bind fun x2 =>
  let x3 : Bool := (x1.2.1 == x2.2.1)
  bif x3 then (
  d.2.1.1.bind fun x4 =>
  d.2.2.1.1.bind fun x5 =>
  let x6 : Bool := (x4.2.2 == x5.2.2)
  bif x6 then (
  d.2.1.1.bind fun x7 =>
  d.2.2.1.1.bind fun x8 =>
  (g_slices_Equal_leap_Row_leap_Row ((), ((x7.1, ()), ((x8.1, ()), ())))).bind fun x9 =>
  some ((), ((x9.2.1.1, ()), ())))
  else (
  some ((), ((false, ()), ()))))
  else (
  some ((), ((false, ()), ())))))
def c_leap_Same : List Nat := []
def L_leap_Same (_ : Nat) : Pts po_leap_Same.den := []
def E_leap_Same : Env := (E0.add 78 (typedSem pi_slices_Equal_leap_Row_leap_Row po_slices_Equal_leap_Row_leap_Row g_slices_Equal_leap_Row_leap_Row))
theorem q_leap_Same_m (k : Nat) (d : Unit × (((Option ((List (Int × Int)) × (Int × Int))) × Unit) × (((Option ((List (Int × Int)) × (Int × Int))) × Unit) × Unit))) : evCode E_leap_Same (tab (L_leap_Same k)) c_leap_Same (bodyOf Try.f48) 0 (finK E_leap_Same po_leap_Same [.tmp 4]) (startSt pi_leap_Same 48 d) = f_leap_Same_m () d := by kernel_rfl
def g_leap_Same (d : Unit × (((Option ((List (Int × Int)) × (Int × Int))) × Unit) × (((Option ((List (Int × Int)) × (Int × Int))) × Unit) × Unit))) : Option (Unit × ((Bool × Unit) × Unit)) := f_leap_Same_m () d
theorem ok_leap_Same : FnOk Try.prog ET0 48 pi_leap_Same po_leap_Same g_leap_Same :=
  fn_of_body (E := E_leap_Same) (envOk_add e0_ok (typed_ok ok_slices_Equal_leap_Row_leap_Row)) (fn := Try.f48) Try.func48 (by kernel_rfl) (by kernel_rfl) [.tmp 4] (by kernel_rfl) (by kernel_rfl) (by decide) c_leap_Same L_leap_Same
    (by intro x hx; cases hx) (by intro k x hx; cases hx) (fun d out h => ⟨0, (q_leap_Same_m 0 d).trans h⟩)
end
end Go.Proofs.Ytjeghckeceegjaa.Ev
