/- Printed by wip/tools/evgen.py. -/
import Derived.Test.YtnielkimpieofaaEv19
import Derived.Test.YtnielkimpieofaaProg
import Derived.KernelRfl
set_option maxRecDepth 100000
set_option maxHeartbeats 2000000
set_option linter.unusedVariables false
namespace Go.Proofs.Ytnielkimpieofaa.Ev
open Go
noncomputable section
def rows0 : List (TypeId × Row) := [
  (2, ⟨.int .i64, 1, 8, (.int .i64), [AV.val (.int .i64) (0 : Int)], none⟩),
  (3, ⟨.int .i64, 1, 8, (.int .i64), [AV.val (.int .i64) (0 : Int)], none⟩),
  (4, ⟨.bool, 1, 1, .bool, [AV.val .bool false], none⟩),
  (22, ⟨.slice 119, 1, 24, (.sl (.pair (.int .i64) (.int .i64))), [AV.nilS], none⟩),
  (24, ⟨.struct [(0, 1, false), (1, 1, false), (2, 1, false)], 3, 40, (.pair (.sl (.pair (.int .i64) (.int .i64))) (.pair (.int .i64) (.int .i64))), [AV.nilS, AV.val (.int .i64) (0 : Int), AV.val (.int .i64) (0 : Int)], none⟩),
  (26, ⟨.struct [(0, 1, false), (1, 1, false), (2, 1, false), (3, 1, false), (4, 1, false), (5, 1, false), (6, 1, false), (7, 1, false)], 8, 64, (.pair (.int .i64) (.pair (.int .i64) (.pair (.int .i64) (.pair (.int .i64) (.pair (.int .i64) (.pair (.int .i64) (.pair (.int .i64) (.int .i64)))))))), [AV.val (.int .i64) (0 : Int), AV.val (.int .i64) (0 : Int), AV.val (.int .i64) (0 : Int), AV.val (.int .i64) (0 : Int), AV.val (.int .i64) (0 : Int), AV.val (.int .i64) (0 : Int), AV.val (.int .i64) (0 : Int), AV.val (.int .i64) (0 : Int)], some [.int .i64, .int .i64, .int .i64, .int .i64, .int .i64, .int .i64, .int .i64, .int .i64]⟩),
  (30, ⟨.iface, 1, 16, .err, [AV.val .err (none : Option Int)], none⟩),
  (35, ⟨.struct [(0, 1, false), (1, 1, false), (2, 1, false), (3, 1, false), (4, 1, false), (5, 1, false), (6, 1, false), (7, 1, false)], 8, 64, (.pair (.int .i64) (.pair (.int .i64) (.pair (.int .i64) (.pair (.int .i64) (.pair (.int .i64) (.pair (.int .i64) (.pair (.int .i64) (.int .i64)))))))), [AV.val (.int .i64) (0 : Int), AV.val (.int .i64) (0 : Int), AV.val (.int .i64) (0 : Int), AV.val (.int .i64) (0 : Int), AV.val (.int .i64) (0 : Int), AV.val (.int .i64) (0 : Int), AV.val (.int .i64) (0 : Int), AV.val (.int .i64) (0 : Int)], some [.int .i64, .int .i64, .int .i64, .int .i64, .int .i64, .int .i64, .int .i64, .int .i64]⟩),
  (38, ⟨.ptr, 1, 8, (.nptr (.pair (.sl (.pair (.int .i64) (.int .i64))) (.pair (.int .i64) (.int .i64)))), [AV.nilP], none⟩),
  (39, ⟨.slice 124, 1, 24, (.sl (.pair (.int .i64) (.int .i64))), [AV.nilS], none⟩),
  (41, ⟨.struct [(0, 1, false), (1, 1, false), (2, 1, false)], 3, 40, (.pair (.sl (.pair (.int .i64) (.int .i64))) (.pair (.int .i64) (.int .i64))), [AV.nilS, AV.val (.int .i64) (0 : Int), AV.val (.int .i64) (0 : Int)], none⟩),
  (87, ⟨.int .i64, 1, 8, (.int .i64), [AV.val (.int .i64) (0 : Int)], none⟩),
  (119, ⟨.struct [(0, 1, false), (1, 1, false)], 2, 16, (.pair (.int .i64) (.int .i64)), [AV.val (.int .i64) (0 : Int), AV.val (.int .i64) (0 : Int)], some [.int .i64, .int .i64]⟩),
  (124, ⟨.struct [(0, 1, false), (1, 1, false)], 2, 16, (.pair (.int .i64) (.int .i64)), [AV.val (.int .i64) (0 : Int), AV.val (.int .i64) (0 : Int)], some [.int .i64, .int .i64]⟩),
  (145, ⟨.struct [(0, 1, false), (1, 1, false), (2, 1, false)], 3, 40, (.pair (.sl (.pair (.int .i64) (.int .i64))) (.pair (.int .i64) (.int .i64))), [AV.nilS, AV.val (.int .i64) (0 : Int), AV.val (.int .i64) (0 : Int)], none⟩),
  (196, ⟨.slice 3, 1, 24, (.sl (.int .i64)), [AV.nilS], none⟩),
  (208, ⟨.int .u64, 1, 8, (.int .u64), [AV.val (.int .u64) (0 : Int)], none⟩)]
def ET0 : TypeId := 87
def E0 : Env := ⟨rows0, [], ET0, 0, []⟩
theorem e0_ok : EnvOk Try.prog E0 := envOk_rows (by kernel_rfl) (by kernel_rfl) 0
def gd_i64_i64 (l : List (Int × Int)) (i : Int) : (Int × Int) := gd (.pair (.int .i64) (.int .i64)) l i

/- horologe/num.Div -/
@[reducible] def pi_num_Div : PSh := ⟨[], [.mk false [.v (.int .i64)], .mk false [.v (.int .i64)]]⟩
@[reducible] def po_num_Div : PSh := ⟨[], [.mk false [.v (.int .i64)], .mk false [.v .err]]⟩
def f_num_Div_m (T : Unit) (d : Unit × ((Int × Unit) × ((Int × Unit) × Unit))) : Option (Unit × ((Int × Unit) × (((Option Int) × Unit) × Unit))) :=
  let x1 : Bool := (d.2.2.1.1 == (0 : Int))
  bif x1 then (
  let x2 : (Option Int) := (some (1 : Int))
  some ((), (((0 : Int), ()), ((x2, ()), ()))))
  else (
  let x3 : Bool := (d.2.1.1 == (-9223372036854775808 : Int))
  bif x3 then (
  let x4 : Bool := (d.2.2.1.1 == (-1 : Int))
  bif x4 then (
  let x5 : (Option Int) := (some (5 : Int))
  some ((), (((0 : Int), ()), ((x5, ()), ()))))
  else (
  bif (d.2.2.1.1 == 0) then (
  none)
  else (
  let x6 : Int := (iquo .i64 d.2.1.1 d.2.2.1.1)
  bif (d.2.2.1.1 == 0) then (
  none)
  else (
  let x7 : Int := (Int.tmod d.2.1.1 d.2.2.1.1)
  let x8 : Bool := (x7 != (0 : Int))
  bif x8 then (
  let x9 : Bool := (decide (d.2.1.1 < (0 : Int)))
  let x10 : Bool := (decide (d.2.2.1.1 < (0 : Int)))
  let x11 : Bool := (!(x9 == x10))
  bif x11 then (
  let x12 : Int := (isub .i64 x6 (1 : Int))
  some ((), ((x12, ()), (((none : Option Int), ()), ()))))
  else (
  some ((), ((x6, ()), (((none : Option Int), ()), ())))))
  else (
  some ((), ((x6, ()), (((none : Option Int), ()), ()))))))))
  else (
  bif (d.2.2.1.1 == 0) then (
  none)
  else (
  let x13 : Int := (iquo .i64 d.2.1.1 d.2.2.1.1)
  bif (d.2.2.1.1 == 0) then (
  none)
  else (
  let x14 : Int := (Int.tmod d.2.1.1 d.2.2.1.1)
  let x15 : Bool := (x14 != (0 : Int))
  bif x15 then (
  let x16 : Bool := (decide (d.2.1.1 < (0 : Int)))
  let x17 : Bool := (decide (d.2.2.1.1 < (0 : Int)))
  let x18 : Bool := (!(x16 == x17))
  bif x18 then (
  let x19 : Int := (isub .i64 x13 (1 : Int))
  some ((), ((x19, ()), (((none : Option Int), ()), ()))))
  else (
  some ((), ((x13, ()), (((none : Option Int), ()), ())))))
  else (
  some ((), ((x13, ()), (((none : Option Int), ()), ()))))))))
def c_num_Div : List Nat := []
def L_num_Div (_ : Nat) : Pts po_num_Div.den := []
def E_num_Div : Env := E0
theorem q_num_Div_m (k : Nat) (d : Unit × ((Int × Unit) × ((Int × Unit) × Unit))) : evCode E_num_Div (tab (L_num_Div k)) c_num_Div (bodyOf Try.f117) 0 (finK E_num_Div po_num_Div [.tmp 4, .tmp 5]) (startSt pi_num_Div 36 d) = f_num_Div_m () d := by kernel_rfl
def g_num_Div (d : Unit × ((Int × Unit) × ((Int × Unit) × Unit))) : Option (Unit × ((Int × Unit) × (((Option Int) × Unit) × Unit))) := f_num_Div_m () d
theorem ok_num_Div : FnOk Try.prog ET0 117 pi_num_Div po_num_Div g_num_Div :=
  fn_of_body (E := E_num_Div) e0_ok (fn := Try.f117) Try.func117 (by kernel_rfl) (by kernel_rfl) [.tmp 4, .tmp 5] (by kernel_rfl) (by kernel_rfl) (by decide) rfl c_num_Div L_num_Div
    (by intro x hx; cases hx) (by intro k x hx; cases hx) (fun d out h => ⟨0, (q_num_Div_m 0 d).trans h⟩)

/- horologe/num.Mod -/
@[reducible] def pi_num_Mod : PSh := ⟨[], [.mk false [.v (.int .i64)], .mk false [.v (.int .i64)]]⟩
@[reducible] def po_num_Mod : PSh := ⟨[], [.mk false [.v (.int .i64)], .mk false [.v .err]]⟩
def f_num_Mod_m (T : Unit) (d : Unit × ((Int × Unit) × ((Int × Unit) × Unit))) : Option (Unit × ((Int × Unit) × (((Option Int) × Unit) × Unit))) :=
  let x1 : Bool := (d.2.2.1.1 == (0 : Int))
  bif x1 then (
  let x2 : (Option Int) := (some (1 : Int))
  some ((), (((0 : Int), ()), ((x2, ()), ()))))
  else (
  let x3 : Bool := (d.2.2.1.1 == (-1 : Int))
  bif x3 then (
  some ((), (((0 : Int), ()), (((none : Option Int), ()), ()))))
  else (
  bif (d.2.2.1.1 == 0) then (
  none)
  else (
  let x4 : Int := (Int.tmod d.2.1.1 d.2.2.1.1)
  let x5 : Bool := (x4 != (0 : Int))
  bif x5 then (
  let x6 : Bool := (decide (x4 < (0 : Int)))
  let x7 : Bool := (decide (d.2.2.1.1 < (0 : Int)))
  let x8 : Bool := (!(x6 == x7))
  bif x8 then (
  let x9 : Int := (iadd .i64 x4 d.2.2.1.1)
  some ((), ((x9, ()), (((none : Option Int), ()), ()))))
  else (
  some ((), ((x4, ()), (((none : Option Int), ()), ())))))
  else (
  some ((), ((x4, ()), (((none : Option Int), ()), ())))))))
def c_num_Mod : List Nat := []
def L_num_Mod (_ : Nat) : Pts po_num_Mod.den := []
def E_num_Mod : Env := E0
theorem q_num_Mod_m (k : Nat) (d : Unit × ((Int × Unit) × ((Int × Unit) × Unit))) : evCode E_num_Mod (tab (L_num_Mod k)) c_num_Mod (bodyOf Try.f118) 0 (finK E_num_Mod po_num_Mod [.tmp 4, .tmp 5]) (startSt pi_num_Mod 29 d) = f_num_Mod_m () d := by kernel_rfl
def g_num_Mod (d : Unit × ((Int × Unit) × ((Int × Unit) × Unit))) : Option (Unit × ((Int × Unit) × (((Option Int) × Unit) × Unit))) := f_num_Mod_m () d
theorem ok_num_Mod : FnOk Try.prog ET0 118 pi_num_Mod po_num_Mod g_num_Mod :=
  fn_of_body (E := E_num_Mod) e0_ok (fn := Try.f118) Try.func118 (by kernel_rfl) (by kernel_rfl) [.tmp 4, .tmp 5] (by kernel_rfl) (by kernel_rfl) (by decide) rfl c_num_Mod L_num_Mod
    (by intro x hx; cases hx) (by intro k x hx; cases hx) (fun d out h => ⟨0, (q_num_Mod_m 0 d).trans h⟩)

/- horologe/num.Split -/
@[reducible] def pi_num_Split : PSh := ⟨[], [.mk false [.v (.int .i64)], .mk false [.v (.int .i64)]]⟩
@[reducible] def po_num_Split : PSh := ⟨[], [.mk false [.v (.int .i64)], .mk false [.v (.int .i64)], .mk false [.v .err]]⟩
def f_num_Split_m (T : Unit) (d : Unit × ((Int × Unit) × ((Int × Unit) × Unit))) : Option (Unit × ((Int × Unit) × ((Int × Unit) × (((Option Int) × Unit) × Unit)))) :=
  let x1 : Bool := (decide (d.2.2.1.1 < (1 : Int)))
  bif x1 then (
  let x2 : (Option Int) := (some (1 : Int))
  some ((), (((0 : Int), ()), (((0 : Int), ()), ((x2, ()), ())))))
  else (
  (g_num_Div ((), ((d.2.1.1, ()), ((d.2.2.1.1, ()), ())))).bind fun x3 =>
  let x4 : Bool := (!x3.2.2.1.1.isNone)
  bif x4 then (
  some ((), (((0 : Int), ()), (((0 : Int), ()), ((x3.2.2.1.1, ()), ())))))
  else (
  (g_num_Mod ((), ((d.2.1.1, ()), ((d.2.2.1.1, ()), ())))).bind fun x5 =>
  let x6 : Bool := (!x5.2.2.1.1.isNone)
  bif x6 then (
  some ((), (((0 : Int), ()), (((0 : Int), ()), ((x5.2.2.1.1, ()), ())))))
  else (
  some ((), ((x3.2.1.1, ()), ((x5.2.1.1, ()), (((none : Option Int), ()), ())))))))
def c_num_Split : List Nat := []
def L_num_Split (_ : Nat) : Pts po_num_Split.den := []
def E_num_Split : Env := ((E0.add 117 (typedSem pi_num_Div po_num_Div g_num_Div)).add 118 (typedSem pi_num_Mod po_num_Mod g_num_Mod))
theorem q_num_Split_m (k : Nat) (d : Unit × ((Int × Unit) × ((Int × Unit) × Unit))) : evCode E_num_Split (tab (L_num_Split k)) c_num_Split (bodyOf Try.f70) 0 (finK E_num_Split po_num_Split [.tmp 4, .tmp 5, .tmp 6]) (startSt pi_num_Split 33 d) = f_num_Split_m () d := by kernel_rfl
def g_num_Split (d : Unit × ((Int × Unit) × ((Int × Unit) × Unit))) : Option (Unit × ((Int × Unit) × ((Int × Unit) × (((Option Int) × Unit) × Unit)))) := f_num_Split_m () d
theorem ok_num_Split : FnOk Try.prog ET0 70 pi_num_Split po_num_Split g_num_Split :=
  fn_of_body (E := E_num_Split) (envOk_add (envOk_add e0_ok (typed_ok ok_num_Div)) (typed_ok ok_num_Mod)) (fn := Try.f70) Try.func70 (by kernel_rfl) (by kernel_rfl) [.tmp 4, .tmp 5, .tmp 6] (by kernel_rfl) (by kernel_rfl) (by decide) rfl c_num_Split L_num_Split
    (by intro x hx; cases hx) (by intro k x hx; cases hx) (fun d out h => ⟨0, (q_num_Split_m 0 d).trans h⟩)

/- horologe/day.floor -/
@[reducible] def pi_day_floor : PSh := ⟨[], [.mk false [.v (.int .i64)], .mk false [.v (.int .i64)]]⟩
@[reducible] def po_day_floor : PSh := ⟨[], [.mk false [.v (.int .i64)]]⟩
def f_day_floor_m (T : Unit) (d : Unit × ((Int × Unit) × ((Int × Unit) × Unit))) : Option (Unit × ((Int × Unit) × Unit)) :=
  bif (d.2.2.1.1 == 0) then (
  none)
  else (
  let x1 : Int := (iquo .i64 d.2.1.1 d.2.2.1.1)
  bif (d.2.2.1.1 == 0) then (
  none)
  else (
  let x2 : Int := (Int.tmod d.2.1.1 d.2.2.1.1)
  let x3 : Bool := (decide (x2 < (0 : Int)))
  bif x3 then (
  let x4 : Int := (isub .i64 x1 (1 : Int))
  some ((), ((x4, ()), ())))
  else (
  some ((), ((x1, ()), ())))))
def c_day_floor : List Nat := []
def L_day_floor (_ : Nat) : Pts po_day_floor.den := []
def E_day_floor : Env := E0
theorem q_day_floor_m (k : Nat) (d : Unit × ((Int × Unit) × ((Int × Unit) × Unit))) : evCode E_day_floor (tab (L_day_floor k)) c_day_floor (bodyOf Try.f177) 0 (finK E_day_floor po_day_floor [.tmp 4]) (startSt pi_day_floor 16 d) = f_day_floor_m () d := by kernel_rfl
def g_day_floor (d : Unit × ((Int × Unit) × ((Int × Unit) × Unit))) : Option (Unit × ((Int × Unit) × Unit)) := f_day_floor_m () d
theorem ok_day_floor : FnOk Try.prog ET0 177 pi_day_floor po_day_floor g_day_floor :=
  fn_of_body (E := E_day_floor) e0_ok (fn := Try.f177) Try.func177 (by kernel_rfl) (by kernel_rfl) [.tmp 4] (by kernel_rfl) (by kernel_rfl) (by decide) rfl c_day_floor L_day_floor
    (by intro x hx; cases hx) (by intro k x hx; cases hx) (fun d out h => ⟨0, (q_day_floor_m 0 d).trans h⟩)

/- horologe/day.number -/
@[reducible] def pi_day_number : PSh := ⟨[], [.mk false [.v (.int .i64)], .mk false [.v (.int .i64)], .mk false [.v (.int .i64)]]⟩
@[reducible] def po_day_number : PSh := ⟨[], [.mk false [.v (.int .i64)]]⟩
def f_day_number_m (T : Unit) (d : Unit × ((Int × Unit) × ((Int × Unit) × ((Int × Unit) × Unit)))) : Option (Unit × ((Int × Unit) × Unit)) :=
  let x1 : Bool := (decide (d.2.2.1.1 ≤ (2 : Int)))
  bif x1 then (
  let x2 : Int := (isub .i64 d.2.1.1 (1 : Int))
  let x3 : Int := (iadd .i64 d.2.2.1.1 (12 : Int))
  (g_day_floor ((), ((x2, ()), (((400 : Int), ()), ())))).bind fun x4 =>
  let x5 : Int := (imul .i64 x4.2.1.1 (400 : Int))
  let x6 : Int := (isub .i64 x2 x5)
  let x7 : Int := (isub .i64 x3 (3 : Int))
  let x8 : Int := (imul .i64 (153 : Int) x7)
  let x9 : Int := (iadd .i64 x8 (2 : Int))
  let x10 : Int := (iquo .i64 x9 (5 : Int))
  let x11 : Int := (iadd .i64 x10 d.2.2.2.1.1)
  let x12 : Int := (isub .i64 x11 (1 : Int))
  let x13 : Int := (imul .i64 x4.2.1.1 (146097 : Int))
  let x14 : Int := (imul .i64 x6 (365 : Int))
  let x15 : Int := (iadd .i64 x13 x14)
  let x16 : Int := (iquo .i64 x6 (4 : Int))
  let x17 : Int := (iadd .i64 x15 x16)
  let x18 : Int := (iquo .i64 x6 (100 : Int))
  let x19 : Int := (isub .i64 x17 x18)
  let x20 : Int := (iadd .i64 x19 x12)
  let x21 : Int := (isub .i64 x20 (719468 : Int))
  some ((), ((x21, ()), ())))
  else (
  (g_day_floor ((), ((d.2.1.1, ()), (((400 : Int), ()), ())))).bind fun x22 =>
  let x23 : Int := (imul .i64 x22.2.1.1 (400 : Int))
  let x24 : Int := (isub .i64 d.2.1.1 x23)
  let x25 : Int := (isub .i64 d.2.2.1.1 (3 : Int))
  let x26 : Int := (imul .i64 (153 : Int) x25)
  let x27 : Int := (iadd .i64 x26 (2 : Int))
  let x28 : Int := (iquo .i64 x27 (5 : Int))
  let x29 : Int := (iadd .i64 x28 d.2.2.2.1.1)
  let x30 : Int := (isub .i64 x29 (1 : Int))
  let x31 : Int := (imul .i64 x22.2.1.1 (146097 : Int))
  let x32 : Int := (imul .i64 x24 (365 : Int))
  let x33 : Int := (iadd .i64 x31 x32)
  let x34 : Int := (iquo .i64 x24 (4 : Int))
  let x35 : Int := (iadd .i64 x33 x34)
  let x36 : Int := (iquo .i64 x24 (100 : Int))
  let x37 : Int := (isub .i64 x35 x36)
  let x38 : Int := (iadd .i64 x37 x30)
  let x39 : Int := (isub .i64 x38 (719468 : Int))
  some ((), ((x39, ()), ())))
def c_day_number : List Nat := []
def L_day_number (_ : Nat) : Pts po_day_number.den := []
def E_day_number : Env := (E0.add 177 (typedSem pi_day_floor po_day_floor g_day_floor))
theorem q_day_number_m (k : Nat) (d : Unit × ((Int × Unit) × ((Int × Unit) × ((Int × Unit) × Unit)))) : evCode E_day_number (tab (L_day_number k)) c_day_number (bodyOf Try.f178) 0 (finK E_day_number po_day_number [.tmp 6]) (startSt pi_day_number 44 d) = f_day_number_m () d := by kernel_rfl
def g_day_number (d : Unit × ((Int × Unit) × ((Int × Unit) × ((Int × Unit) × Unit)))) : Option (Unit × ((Int × Unit) × Unit)) := f_day_number_m () d
theorem ok_day_number : FnOk Try.prog ET0 178 pi_day_number po_day_number g_day_number :=
  fn_of_body (E := E_day_number) (envOk_add e0_ok (typed_ok ok_day_floor)) (fn := Try.f178) Try.func178 (by kernel_rfl) (by kernel_rfl) [.tmp 6] (by kernel_rfl) (by kernel_rfl) (by decide) rfl c_day_number L_day_number
    (by intro x hx; cases hx) (by intro k x hx; cases hx) (fun d out h => ⟨0, (q_day_number_m 0 d).trans h⟩)

/- horologe/day.right -/
@[reducible] def pi_day_right : PSh := ⟨[], [.mk false [.v (.int .i64)]]⟩
@[reducible] def po_day_right : PSh := ⟨[], [.mk false [.v .bool]]⟩
def f_day_right_m (T : Unit) (d : Unit × ((Int × Unit) × Unit)) : Option (Unit × ((Bool × Unit) × Unit)) :=
  let x1 : Bool := (decide (d.2.1.1 ≥ (-9999 : Int)))
  bif x1 then (
  let x2 : Bool := (decide (d.2.1.1 ≤ (9999 : Int)))
  some ((), ((x2, ()), ())))
  else (
  some ((), ((false, ()), ())))
def c_day_right : List Nat := []
def L_day_right (_ : Nat) : Pts po_day_right.den := []
def E_day_right : Env := E0
theorem q_day_right_m (k : Nat) (d : Unit × ((Int × Unit) × Unit)) : evCode E_day_right (tab (L_day_right k)) c_day_right (bodyOf Try.f222) 0 (finK E_day_right po_day_right [.tmp 2]) (startSt pi_day_right 9 d) = f_day_right_m () d := by kernel_rfl
def g_day_right (d : Unit × ((Int × Unit) × Unit)) : Option (Unit × ((Bool × Unit) × Unit)) := f_day_right_m () d
theorem ok_day_right : FnOk Try.prog ET0 222 pi_day_right po_day_right g_day_right :=
  fn_of_body (E := E_day_right) e0_ok (fn := Try.f222) Try.func222 (by kernel_rfl) (by kernel_rfl) [.tmp 2] (by kernel_rfl) (by kernel_rfl) (by decide) rfl c_day_right L_day_right
    (by intro x hx; cases hx) (by intro k x hx; cases hx) (fun d out h => ⟨0, (q_day_right_m 0 d).trans h⟩)

/- horologe/day.Leap -/
@[reducible] def pi_day_Leap : PSh := ⟨[], [.mk false [.v (.int .i64)]]⟩
@[reducible] def po_day_Leap : PSh := ⟨[], [.mk false [.v .bool]]⟩
def f_day_Leap_m (T : Unit) (d : Unit × ((Int × Unit) × Unit)) : Option (Unit × ((Bool × Unit) × Unit)) :=
  let x1 : Int := (Int.tmod d.2.1.1 (4 : Int))
  let x2 : Bool := (x1 == (0 : Int))
  bif x2 then (
  let x3 : Int := (Int.tmod d.2.1.1 (100 : Int))
  let x4 : Bool := (x3 != (0 : Int))
  bif x4 then (
  some ((), ((true, ()), ())))
  else (
  let x5 : Int := (Int.tmod d.2.1.1 (400 : Int))
  let x6 : Bool := (x5 == (0 : Int))
  some ((), ((x6, ()), ()))))
  else (
  some ((), ((false, ()), ())))
def c_day_Leap : List Nat := []
def L_day_Leap (_ : Nat) : Pts po_day_Leap.den := []
def E_day_Leap : Env := E0
theorem q_day_Leap_m (k : Nat) (d : Unit × ((Int × Unit) × Unit)) : evCode E_day_Leap (tab (L_day_Leap k)) c_day_Leap (bodyOf Try.f223) 0 (finK E_day_Leap po_day_Leap [.tmp 2]) (startSt pi_day_Leap 16 d) = f_day_Leap_m () d := by kernel_rfl
def g_day_Leap (d : Unit × ((Int × Unit) × Unit)) : Option (Unit × ((Bool × Unit) × Unit)) := f_day_Leap_m () d
theorem ok_day_Leap : FnOk Try.prog ET0 223 pi_day_Leap po_day_Leap g_day_Leap :=
  fn_of_body (E := E_day_Leap) e0_ok (fn := Try.f223) Try.func223 (by kernel_rfl) (by kernel_rfl) [.tmp 2] (by kernel_rfl) (by kernel_rfl) (by decide) rfl c_day_Leap L_day_Leap
    (by intro x hx; cases hx) (by intro k x hx; cases hx) (fun d out h => ⟨0, (q_day_Leap_m 0 d).trans h⟩)

/- horologe/day.Month -/
@[reducible] def pi_day_Month : PSh := ⟨[], [.mk false [.v (.int .i64)], .mk false [.v (.int .i64)]]⟩
@[reducible] def po_day_Month : PSh := ⟨[], [.mk false [.v (.int .i64)], .mk false [.v .err]]⟩
def f_day_Month_m (T : Unit) (d : Unit × ((Int × Unit) × ((Int × Unit) × Unit))) : Option (Unit × ((Int × Unit) × (((Option Int) × Unit) × Unit))) :=
  (g_day_right ((), ((d.2.1.1, ()), ()))).bind fun x1 =>
  let x2 : Bool := (!x1.2.1.1)
  bif x2 then (
  let x3 : (Option Int) := (some (13 : Int))
  some ((), (((0 : Int), ()), ((x3, ()), ()))))
  else (
  let x4 : Bool := (decide (d.2.2.1.1 < (1 : Int)))
  bif x4 then (
  let x5 : (Option Int) := (some (1 : Int))
  some ((), (((0 : Int), ()), ((x5, ()), ()))))
  else (
  let x6 : Bool := (decide (d.2.2.1.1 > (12 : Int)))
  bif x6 then (
  let x7 : (Option Int) := (some (1 : Int))
  some ((), (((0 : Int), ()), ((x7, ()), ()))))
  else (
  let x8 : Bool := (d.2.2.1.1 == (2 : Int))
  bif x8 then (
  (g_day_Leap ((), ((d.2.1.1, ()), ()))).bind fun x9 =>
  bif x9.2.1.1 then (
  some ((), (((29 : Int), ()), (((none : Option Int), ()), ()))))
  else (
  let x10 : Bool := (d.2.2.1.1 == (2 : Int))
  bif x10 then (
  some ((), (((28 : Int), ()), (((none : Option Int), ()), ()))))
  else (
  let x11 : Int := (iquo .i64 d.2.2.1.1 (8 : Int))
  let x12 : Int := (iadd .i64 d.2.2.1.1 x11)
  let x13 : Int := (Int.tmod x12 (2 : Int))
  let x14 : Int := (iadd .i64 (30 : Int) x13)
  some ((), ((x14, ()), (((none : Option Int), ()), ()))))))
  else (
  let x15 : Bool := (d.2.2.1.1 == (2 : Int))
  bif x15 then (
  some ((), (((28 : Int), ()), (((none : Option Int), ()), ()))))
  else (
  let x16 : Int := (iquo .i64 d.2.2.1.1 (8 : Int))
  let x17 : Int := (iadd .i64 d.2.2.1.1 x16)
  let x18 : Int := (Int.tmod x17 (2 : Int))
  let x19 : Int := (iadd .i64 (30 : Int) x18)
  some ((), ((x19, ()), (((none : Option Int), ()), ()))))))))
def c_day_Month : List Nat := []
def L_day_Month (_ : Nat) : Pts po_day_Month.den := []
def E_day_Month : Env := ((E0.add 222 (typedSem pi_day_right po_day_right g_day_right)).add 223 (typedSem pi_day_Leap po_day_Leap g_day_Leap))
theorem q_day_Month_m (k : Nat) (d : Unit × ((Int × Unit) × ((Int × Unit) × Unit))) : evCode E_day_Month (tab (L_day_Month k)) c_day_Month (bodyOf Try.f219) 0 (finK E_day_Month po_day_Month [.tmp 4, .tmp 5]) (startSt pi_day_Month 35 d) = f_day_Month_m () d := by kernel_rfl
def g_day_Month (d : Unit × ((Int × Unit) × ((Int × Unit) × Unit))) : Option (Unit × ((Int × Unit) × (((Option Int) × Unit) × Unit))) := f_day_Month_m () d
theorem ok_day_Month : FnOk Try.prog ET0 219 pi_day_Month po_day_Month g_day_Month :=
  fn_of_body (E := E_day_Month) (envOk_add (envOk_add e0_ok (typed_ok ok_day_right)) (typed_ok ok_day_Leap)) (fn := Try.f219) Try.func219 (by kernel_rfl) (by kernel_rfl) [.tmp 4, .tmp 5] (by kernel_rfl) (by kernel_rfl) (by decide) rfl c_day_Month L_day_Month
    (by intro x hx; cases hx) (by intro k x hx; cases hx) (fun d out h => ⟨0, (q_day_Month_m 0 d).trans h⟩)

/- horologe/day.check -/
@[reducible] def pi_day_check : PSh := ⟨[], [.mk false [.v (.int .i64)], .mk false [.v (.int .i64)], .mk false [.v (.int .i64)]]⟩
@[reducible] def po_day_check : PSh := ⟨[], [.mk false [.v .err]]⟩
def f_day_check_m (T : Unit) (d : Unit × ((Int × Unit) × ((Int × Unit) × ((Int × Unit) × Unit)))) : Option (Unit × (((Option Int) × Unit) × Unit)) :=
  (g_day_Month ((), ((d.2.1.1, ()), ((d.2.2.1.1, ()), ())))).bind fun x1 =>
  let x2 : Bool := (!x1.2.2.1.1.isNone)
  bif x2 then (
  some ((), ((x1.2.2.1.1, ()), ())))
  else (
  let x3 : Bool := (decide (d.2.2.2.1.1 < (1 : Int)))
  bif x3 then (
  let x4 : (Option Int) := (some (1 : Int))
  some ((), ((x4, ()), ())))
  else (
  let x5 : Bool := (decide (d.2.2.2.1.1 > x1.2.1.1))
  bif x5 then (
  let x6 : (Option Int) := (some (1 : Int))
  some ((), ((x6, ()), ())))
  else (
  some ((), (((none : Option Int), ()), ())))))
def c_day_check : List Nat := []
def L_day_check (_ : Nat) : Pts po_day_check.den := []
def E_day_check : Env := (E0.add 219 (typedSem pi_day_Month po_day_Month g_day_Month))
theorem q_day_check_m (k : Nat) (d : Unit × ((Int × Unit) × ((Int × Unit) × ((Int × Unit) × Unit)))) : evCode E_day_check (tab (L_day_check k)) c_day_check (bodyOf Try.f203) 0 (finK E_day_check po_day_check [.tmp 6]) (startSt pi_day_check 28 d) = f_day_check_m () d := by kernel_rfl
def g_day_check (d : Unit × ((Int × Unit) × ((Int × Unit) × ((Int × Unit) × Unit)))) : Option (Unit × (((Option Int) × Unit) × Unit)) := f_day_check_m () d
theorem ok_day_check : FnOk Try.prog ET0 203 pi_day_check po_day_check g_day_check :=
  fn_of_body (E := E_day_check) (envOk_add e0_ok (typed_ok ok_day_Month)) (fn := Try.f203) Try.func203 (by kernel_rfl) (by kernel_rfl) [.tmp 6] (by kernel_rfl) (by kernel_rfl) (by decide) rfl c_day_check L_day_check
    (by intro x hx; cases hx) (by intro k x hx; cases hx) (fun d out h => ⟨0, (q_day_check_m 0 d).trans h⟩)

/- horologe/day.Of -/
@[reducible] def pi_day_Of : PSh := ⟨[], [.mk false [.v (.int .i64)], .mk false [.v (.int .i64)], .mk false [.v (.int .i64)]]⟩
@[reducible] def po_day_Of : PSh := ⟨[], [.mk false [.v (.int .i64)], .mk false [.v .err]]⟩
def f_day_Of_m (T : Unit) (d : Unit × ((Int × Unit) × ((Int × Unit) × ((Int × Unit) × Unit)))) : Option (Unit × ((Int × Unit) × (((Option Int) × Unit) × Unit))) :=
  (g_day_check ((), ((d.2.1.1, ()), ((d.2.2.1.1, ()), ((d.2.2.2.1.1, ()), ()))))).bind fun x1 =>
  let x2 : Bool := (!x1.2.1.1.isNone)
  bif x2 then (
  some ((), (((0 : Int), ()), ((x1.2.1.1, ()), ()))))
  else (
  (g_day_number ((), ((d.2.1.1, ()), ((d.2.2.1.1, ()), ((d.2.2.2.1.1, ()), ()))))).bind fun x3 =>
  some ((), ((x3.2.1.1, ()), (((none : Option Int), ()), ()))))
def c_day_Of : List Nat := []
def L_day_Of (_ : Nat) : Pts po_day_Of.den := []
def E_day_Of : Env := ((E0.add 178 (typedSem pi_day_number po_day_number g_day_number)).add 203 (typedSem pi_day_check po_day_check g_day_check))
theorem q_day_Of_m (k : Nat) (d : Unit × ((Int × Unit) × ((Int × Unit) × ((Int × Unit) × Unit)))) : evCode E_day_Of (tab (L_day_Of k)) c_day_Of (bodyOf Try.f167) 0 (finK E_day_Of po_day_Of [.tmp 6, .tmp 7]) (startSt pi_day_Of 20 d) = f_day_Of_m () d := by kernel_rfl
def g_day_Of (d : Unit × ((Int × Unit) × ((Int × Unit) × ((Int × Unit) × Unit)))) : Option (Unit × ((Int × Unit) × (((Option Int) × Unit) × Unit))) := f_day_Of_m () d
theorem ok_day_Of : FnOk Try.prog ET0 167 pi_day_Of po_day_Of g_day_Of :=
  fn_of_body (E := E_day_Of) (envOk_add (envOk_add e0_ok (typed_ok ok_day_number)) (typed_ok ok_day_check)) (fn := Try.f167) Try.func167 (by kernel_rfl) (by kernel_rfl) [.tmp 6, .tmp 7] (by kernel_rfl) (by kernel_rfl) (by decide) rfl c_day_Of L_day_Of
    (by intro x hx; cases hx) (by intro k x hx; cases hx) (fun d out h => ⟨0, (q_day_Of_m 0 d).trans h⟩)

/- (horologe/label.Label).place -/
@[reducible] def pi_label_Label_place : PSh := ⟨[], [.mk true [.v (.int .i64), .v (.int .i64), .v (.int .i64), .v (.int .i64), .v (.int .i64), .v (.int .i64), .v (.int .i64), .v (.int .i64)]]⟩
@[reducible] def po_label_Label_place : PSh := ⟨[], [.mk false [.v (.int .i64)], .mk false [.v (.int .i64)], .mk false [.v .err]]⟩
def f_label_Label_place_m (T : Unit) (d : Unit × ((Int × (Int × (Int × (Int × (Int × (Int × (Int × (Int × Unit)))))))) × Unit)) : Option (Unit × ((Int × Unit) × ((Int × Unit) × (((Option Int) × Unit) × Unit)))) :=
  (g_day_Of ((), ((d.2.1.1, ()), ((d.2.1.2.1, ()), ((d.2.1.2.2.1, ()), ()))))).bind fun x1 =>
  let x2 : Bool := (!x1.2.2.1.1.isNone)
  bif x2 then (
  some ((), (((0 : Int), ()), (((0 : Int), ()), ((x1.2.2.1.1, ()), ())))))
  else (
  let x3 : Int := (imul .i64 d.2.1.2.2.2.1 (60 : Int))
  let x4 : Int := (iadd .i64 x3 d.2.1.2.2.2.2.1)
  let x5 : Int := (isub .i64 x4 d.2.1.2.2.2.2.2.2.2.1)
  (g_num_Split ((), ((x5, ()), (((1440 : Int), ()), ())))).bind fun x6 =>
  let x7 : Bool := (!x6.2.2.2.1.1.isNone)
  bif x7 then (
  some ((), (((0 : Int), ()), (((0 : Int), ()), ((x6.2.2.2.1.1, ()), ())))))
  else (
  let x8 : Int := (iadd .i64 x1.2.1.1 x6.2.1.1)
  some ((), ((x8, ()), ((x6.2.2.1.1, ()), (((none : Option Int), ()), ()))))))
def c_label_Label_place : List Nat := []
def L_label_Label_place (_ : Nat) : Pts po_label_Label_place.den := []
def E_label_Label_place : Env := ((E0.add 70 (typedSem pi_num_Split po_num_Split g_num_Split)).add 167 (typedSem pi_day_Of po_day_Of g_day_Of))
theorem q_label_Label_place_m (k : Nat) (d : Unit × ((Int × (Int × (Int × (Int × (Int × (Int × (Int × (Int × Unit)))))))) × Unit)) : evCode E_label_Label_place (tab (L_label_Label_place k)) c_label_Label_place (bodyOf Try.f108) 0 (finK E_label_Label_place po_label_Label_place [.tmp 2, .tmp 3, .tmp 4]) (startSt pi_label_Label_place 43 d) = f_label_Label_place_m () d := by kernel_rfl
def g_label_Label_place (d : Unit × ((Int × (Int × (Int × (Int × (Int × (Int × (Int × (Int × Unit)))))))) × Unit)) : Option (Unit × ((Int × Unit) × ((Int × Unit) × (((Option Int) × Unit) × Unit)))) := f_label_Label_place_m () d
theorem ok_label_Label_place : FnOk Try.prog ET0 108 pi_label_Label_place po_label_Label_place g_label_Label_place :=
  fn_of_body (E := E_label_Label_place) (envOk_add (envOk_add e0_ok (typed_ok ok_num_Split)) (typed_ok ok_day_Of)) (fn := Try.f108) Try.func108 (by kernel_rfl) (by kernel_rfl) [.tmp 2, .tmp 3, .tmp 4] (by kernel_rfl) (by kernel_rfl) (by decide) rfl c_label_Label_place L_label_Label_place
    (by intro x hx; cases hx) (by intro k x hx; cases hx) (fun d out h => ⟨0, (q_label_Label_place_m 0 d).trans h⟩)

/- horologe/day.Last -/
@[reducible] def pi_day_Last : PSh := ⟨[], []⟩
@[reducible] def po_day_Last : PSh := ⟨[], [.mk false [.v (.int .i64)]]⟩
def f_day_Last_m (T : Unit) (d : Unit × Unit) : Option (Unit × ((Int × Unit) × Unit)) :=
  (g_day_number ((), (((9999 : Int), ()), (((12 : Int), ()), (((31 : Int), ()), ()))))).bind fun x1 =>
  some ((), ((x1.2.1.1, ()), ()))
def c_day_Last : List Nat := []
def L_day_Last (_ : Nat) : Pts po_day_Last.den := []
def E_day_Last : Env := (E0.add 178 (typedSem pi_day_number po_day_number g_day_number))
theorem q_day_Last_m (k : Nat) (d : Unit × Unit) : evCode E_day_Last (tab (L_day_Last k)) c_day_Last (bodyOf Try.f128) 0 (finK E_day_Last po_day_Last [.tmp 0]) (startSt pi_day_Last 2 d) = f_day_Last_m () d := by kernel_rfl
def g_day_Last (d : Unit × Unit) : Option (Unit × ((Int × Unit) × Unit)) := f_day_Last_m () d
theorem ok_day_Last : FnOk Try.prog ET0 128 pi_day_Last po_day_Last g_day_Last :=
  fn_of_body (E := E_day_Last) (envOk_add e0_ok (typed_ok ok_day_number)) (fn := Try.f128) Try.func128 (by kernel_rfl) (by kernel_rfl) [.tmp 0] (by kernel_rfl) (by kernel_rfl) (by decide) rfl c_day_Last L_day_Last
    (by intro x hx; cases hx) (by intro k x hx; cases hx) (fun d out h => ⟨0, (q_day_Last_m 0 d).trans h⟩)

/- horologe/day.First -/
@[reducible] def pi_day_First : PSh := ⟨[], []⟩
@[reducible] def po_day_First : PSh := ⟨[], [.mk false [.v (.int .i64)]]⟩
def f_day_First_m (T : Unit) (d : Unit × Unit) : Option (Unit × ((Int × Unit) × Unit)) :=
  (g_day_number ((), (((-9999 : Int), ()), (((1 : Int), ()), (((1 : Int), ()), ()))))).bind fun x1 =>
  some ((), ((x1.2.1.1, ()), ()))
def c_day_First : List Nat := []
def L_day_First (_ : Nat) : Pts po_day_First.den := []
def E_day_First : Env := (E0.add 178 (typedSem pi_day_number po_day_number g_day_number))
theorem q_day_First_m (k : Nat) (d : Unit × Unit) : evCode E_day_First (tab (L_day_First k)) c_day_First (bodyOf Try.f176) 0 (finK E_day_First po_day_First [.tmp 0]) (startSt pi_day_First 2 d) = f_day_First_m () d := by kernel_rfl
def g_day_First (d : Unit × Unit) : Option (Unit × ((Int × Unit) × Unit)) := f_day_First_m () d
theorem ok_day_First : FnOk Try.prog ET0 176 pi_day_First po_day_First g_day_First :=
  fn_of_body (E := E_day_First) (envOk_add e0_ok (typed_ok ok_day_number)) (fn := Try.f176) Try.func176 (by kernel_rfl) (by kernel_rfl) [.tmp 0] (by kernel_rfl) (by kernel_rfl) (by decide) rfl c_day_First L_day_First
    (by intro x hx; cases hx) (by intro k x hx; cases hx) (fun d out h => ⟨0, (q_day_First_m 0 d).trans h⟩)

/- horologe/label.there -/
@[reducible] def pi_label_there : PSh := ⟨[], [.mk false [.v (.int .i64)]]⟩
@[reducible] def po_label_there : PSh := ⟨[], [.mk false [.v .bool]]⟩
def f_label_there_m (T : Unit) (d : Unit × ((Int × Unit) × Unit)) : Option (Unit × ((Bool × Unit) × Unit)) :=
  (g_day_First ((), ())).bind fun x1 =>
  let x2 : Bool := (decide (d.2.1.1 ≥ x1.2.1.1))
  bif x2 then (
  (g_day_Last ((), ())).bind fun x3 =>
  let x4 : Bool := (decide (d.2.1.1 ≤ x3.2.1.1))
  some ((), ((x4, ()), ())))
  else (
  some ((), ((false, ()), ())))
def c_label_there : List Nat := []
def L_label_there (_ : Nat) : Pts po_label_there.den := []
def E_label_there : Env := ((E0.add 128 (typedSem pi_day_Last po_day_Last g_day_Last)).add 176 (typedSem pi_day_First po_day_First g_day_First))
theorem q_label_there_m (k : Nat) (d : Unit × ((Int × Unit) × Unit)) : evCode E_label_there (tab (L_label_there k)) c_label_there (bodyOf Try.f119) 0 (finK E_label_there po_label_there [.tmp 2]) (startSt pi_label_there 11 d) = f_label_there_m () d := by kernel_rfl
def g_label_there (d : Unit × ((Int × Unit) × Unit)) : Option (Unit × ((Bool × Unit) × Unit)) := f_label_there_m () d
theorem ok_label_there : FnOk Try.prog ET0 119 pi_label_there po_label_there g_label_there :=
  fn_of_body (E := E_label_there) (envOk_add (envOk_add e0_ok (typed_ok ok_day_Last)) (typed_ok ok_day_First)) (fn := Try.f119) Try.func119 (by kernel_rfl) (by kernel_rfl) [.tmp 2] (by kernel_rfl) (by kernel_rfl) (by decide) rfl c_label_there L_label_there
    (by intro x hx; cases hx) (by intro k x hx; cases hx) (fun d out h => ⟨0, (q_label_there_m 0 d).trans h⟩)

/- horologe/label.in -/
@[reducible] def pi_label_in : PSh := ⟨[], [.mk false [.v (.int .i64)], .mk false [.v (.int .i64)]]⟩
@[reducible] def po_label_in : PSh := ⟨[], [.mk false [.v .bool]]⟩
def f_label_in_m (T : Unit) (d : Unit × ((Int × Unit) × ((Int × Unit) × Unit))) : Option (Unit × ((Bool × Unit) × Unit)) :=
  let x1 : Bool := (decide (d.2.1.1 ≥ (0 : Int)))
  bif x1 then (
  let x2 : Bool := (decide (d.2.1.1 < d.2.2.1.1))
  some ((), ((x2, ()), ())))
  else (
  some ((), ((false, ()), ())))
def c_label_in : List Nat := []
def L_label_in (_ : Nat) : Pts po_label_in.den := []
def E_label_in : Env := E0
theorem q_label_in_m (k : Nat) (d : Unit × ((Int × Unit) × ((Int × Unit) × Unit))) : evCode E_label_in (tab (L_label_in k)) c_label_in (bodyOf Try.f120) 0 (finK E_label_in po_label_in [.tmp 4]) (startSt pi_label_in 12 d) = f_label_in_m () d := by kernel_rfl
def g_label_in (d : Unit × ((Int × Unit) × ((Int × Unit) × Unit))) : Option (Unit × ((Bool × Unit) × Unit)) := f_label_in_m () d
theorem ok_label_in : FnOk Try.prog ET0 120 pi_label_in po_label_in g_label_in :=
  fn_of_body (E := E_label_in) e0_ok (fn := Try.f120) Try.func120 (by kernel_rfl) (by kernel_rfl) [.tmp 4] (by kernel_rfl) (by kernel_rfl) (by decide) rfl c_label_in L_label_in
    (by intro x hx; cases hx) (by intro k x hx; cases hx) (fun d out h => ⟨0, (q_label_in_m 0 d).trans h⟩)

/- horologe/label.shifts -/
@[reducible] def pi_label_shifts : PSh := ⟨[], [.mk false [.v (.int .i64)]]⟩
@[reducible] def po_label_shifts : PSh := ⟨[], [.mk false [.v .bool]]⟩
def f_label_shifts_m (T : Unit) (d : Unit × ((Int × Unit) × Unit)) : Option (Unit × ((Bool × Unit) × Unit)) :=
  let x1 : Bool := (decide (d.2.1.1 > (-1440 : Int)))
  bif x1 then (
  let x2 : Bool := (decide (d.2.1.1 < (1440 : Int)))
  some ((), ((x2, ()), ())))
  else (
  some ((), ((false, ()), ())))
def c_label_shifts : List Nat := []
def L_label_shifts (_ : Nat) : Pts po_label_shifts.den := []
def E_label_shifts : Env := E0
theorem q_label_shifts_m (k : Nat) (d : Unit × ((Int × Unit) × Unit)) : evCode E_label_shifts (tab (L_label_shifts k)) c_label_shifts (bodyOf Try.f121) 0 (finK E_label_shifts po_label_shifts [.tmp 2]) (startSt pi_label_shifts 9 d) = f_label_shifts_m () d := by kernel_rfl
def g_label_shifts (d : Unit × ((Int × Unit) × Unit)) : Option (Unit × ((Bool × Unit) × Unit)) := f_label_shifts_m () d
theorem ok_label_shifts : FnOk Try.prog ET0 121 pi_label_shifts po_label_shifts g_label_shifts :=
  fn_of_body (E := E_label_shifts) e0_ok (fn := Try.f121) Try.func121 (by kernel_rfl) (by kernel_rfl) [.tmp 2] (by kernel_rfl) (by kernel_rfl) (by decide) rfl c_label_shifts L_label_shifts
    (by intro x hx; cases hx) (by intro k x hx; cases hx) (fun d out h => ⟨0, (q_label_shifts_m 0 d).trans h⟩)

/- (horologe/label.Label).fields -/
@[reducible] def pi_label_Label_fields : PSh := ⟨[], [.mk true [.v (.int .i64), .v (.int .i64), .v (.int .i64), .v (.int .i64), .v (.int .i64), .v (.int .i64), .v (.int .i64), .v (.int .i64)]]⟩
@[reducible] def po_label_Label_fields : PSh := ⟨[], [.mk false [.v .err]]⟩
def f_label_Label_fields_m (T : Unit) (d : Unit × ((Int × (Int × (Int × (Int × (Int × (Int × (Int × (Int × Unit)))))))) × Unit)) : Option (Unit × (((Option Int) × Unit) × Unit)) :=
  (g_day_Of ((), ((d.2.1.1, ()), ((d.2.1.2.1, ()), ((d.2.1.2.2.1, ()), ()))))).bind fun x1 =>
  let x2 : Bool := (!x1.2.2.1.1.isNone)
  bif x2 then (
  some ((), ((x1.2.2.1.1, ()), ())))
  else (
  (g_label_in ((), ((d.2.1.2.2.2.1, ()), (((24 : Int), ()), ())))).bind fun x3 =>
  let x4 : Bool := (!x3.2.1.1)
  bif x4 then (
  let x5 : (Option Int) := (some (1 : Int))
  some ((), ((x5, ()), ())))
  else (
  (g_label_in ((), ((d.2.1.2.2.2.2.1, ()), (((60 : Int), ()), ())))).bind fun x6 =>
  let x7 : Bool := (!x6.2.1.1)
  bif x7 then (
  let x8 : (Option Int) := (some (1 : Int))
  some ((), ((x8, ()), ())))
  else (
  (g_label_in ((), ((d.2.1.2.2.2.2.2.1, ()), (((61 : Int), ()), ())))).bind fun x9 =>
  let x10 : Bool := (!x9.2.1.1)
  bif x10 then (
  let x11 : (Option Int) := (some (1 : Int))
  some ((), ((x11, ()), ())))
  else (
  (g_label_in ((), ((d.2.1.2.2.2.2.2.2.1, ()), (((1000000000 : Int), ()), ())))).bind fun x12 =>
  let x13 : Bool := (!x12.2.1.1)
  bif x13 then (
  let x14 : (Option Int) := (some (1 : Int))
  some ((), ((x14, ()), ())))
  else (
  (g_label_shifts ((), ((d.2.1.2.2.2.2.2.2.2.1, ()), ()))).bind fun x15 =>
  let x16 : Bool := (!x15.2.1.1)
  bif x16 then (
  let x17 : (Option Int) := (some (1 : Int))
  some ((), ((x17, ()), ())))
  else (
  some ((), (((none : Option Int), ()), ()))))))))
def c_label_Label_fields : List Nat := []
def L_label_Label_fields (_ : Nat) : Pts po_label_Label_fields.den := []
def E_label_Label_fields : Env := (((E0.add 120 (typedSem pi_label_in po_label_in g_label_in)).add 121 (typedSem pi_label_shifts po_label_shifts g_label_shifts)).add 167 (typedSem pi_day_Of po_day_Of g_day_Of))
theorem q_label_Label_fields_m (k : Nat) (d : Unit × ((Int × (Int × (Int × (Int × (Int × (Int × (Int × (Int × Unit)))))))) × Unit)) : evCode E_label_Label_fields (tab (L_label_Label_fields k)) c_label_Label_fields (bodyOf Try.f133) 0 (finK E_label_Label_fields po_label_Label_fields [.tmp 2]) (startSt pi_label_Label_fields 47 d) = f_label_Label_fields_m () d := by kernel_rfl
def g_label_Label_fields (d : Unit × ((Int × (Int × (Int × (Int × (Int × (Int × (Int × (Int × Unit)))))))) × Unit)) : Option (Unit × (((Option Int) × Unit) × Unit)) := f_label_Label_fields_m () d
theorem ok_label_Label_fields : FnOk Try.prog ET0 133 pi_label_Label_fields po_label_Label_fields g_label_Label_fields :=
  fn_of_body (E := E_label_Label_fields) (envOk_add (envOk_add (envOk_add e0_ok (typed_ok ok_label_in)) (typed_ok ok_label_shifts)) (typed_ok ok_day_Of)) (fn := Try.f133) Try.func133 (by kernel_rfl) (by kernel_rfl) [.tmp 2] (by kernel_rfl) (by kernel_rfl) (by decide) rfl c_label_Label_fields L_label_Label_fields
    (by intro x hx; cases hx) (by intro k x hx; cases hx) (fun d out h => ⟨0, (q_label_Label_fields_m 0 d).trans h⟩)

/- horologe/label.Check -/
@[reducible] def pi_label_Check : PSh := ⟨[], [.mk true [.v (.int .i64), .v (.int .i64), .v (.int .i64), .v (.int .i64), .v (.int .i64), .v (.int .i64), .v (.int .i64), .v (.int .i64)]]⟩
@[reducible] def po_label_Check : PSh := ⟨[], [.mk false [.v .err]]⟩
def f_label_Check_m (T : Unit) (d : Unit × ((Int × (Int × (Int × (Int × (Int × (Int × (Int × (Int × Unit)))))))) × Unit)) : Option (Unit × (((Option Int) × Unit) × Unit)) :=
  (g_label_Label_fields ((), ((d.2.1.1, (d.2.1.2.1, (d.2.1.2.2.1, (d.2.1.2.2.2.1, (d.2.1.2.2.2.2.1, (d.2.1.2.2.2.2.2.1, (d.2.1.2.2.2.2.2.2.1, (d.2.1.2.2.2.2.2.2.2.1, ())))))))), ()))).bind fun x1 =>
  let x2 : Bool := (!x1.2.1.1.isNone)
  bif x2 then (
  some ((), ((x1.2.1.1, ()), ())))
  else (
  (g_label_Label_place ((), ((d.2.1.1, (d.2.1.2.1, (d.2.1.2.2.1, (d.2.1.2.2.2.1, (d.2.1.2.2.2.2.1, (d.2.1.2.2.2.2.2.1, (d.2.1.2.2.2.2.2.2.1, (d.2.1.2.2.2.2.2.2.2.1, ())))))))), ()))).bind fun x3 =>
  let x4 : Bool := (!x3.2.2.2.1.1.isNone)
  bif x4 then (
  some ((), ((x3.2.2.2.1.1, ()), ())))
  else (
  (g_label_there ((), ((x3.2.1.1, ()), ()))).bind fun x5 =>
  let x6 : Bool := (!x5.2.1.1)
  bif x6 then (
  let x7 : (Option Int) := (some (13 : Int))
  some ((), ((x7, ()), ())))
  else (
  let x8 : Bool := (d.2.1.2.2.2.2.2.1 == (60 : Int))
  bif x8 then (
  let x9 : Bool := (x3.2.2.1.1 != (1439 : Int))
  bif x9 then (
  let x10 : (Option Int) := (some (12 : Int))
  some ((), ((x10, ()), ())))
  else (
  some ((), (((none : Option Int), ()), ()))))
  else (
  some ((), (((none : Option Int), ()), ()))))))
def c_label_Check : List Nat := []
def L_label_Check (_ : Nat) : Pts po_label_Check.den := []
def E_label_Check : Env := (((E0.add 108 (typedSem pi_label_Label_place po_label_Label_place g_label_Label_place)).add 119 (typedSem pi_label_there po_label_there g_label_there)).add 133 (typedSem pi_label_Label_fields po_label_Label_fields g_label_Label_fields))
theorem q_label_Check_m (k : Nat) (d : Unit × ((Int × (Int × (Int × (Int × (Int × (Int × (Int × (Int × Unit)))))))) × Unit)) : evCode E_label_Check (tab (L_label_Check k)) c_label_Check (bodyOf Try.f85) 0 (finK E_label_Check po_label_Check [.tmp 2]) (startSt pi_label_Check 36 d) = f_label_Check_m () d := by kernel_rfl
def g_label_Check (d : Unit × ((Int × (Int × (Int × (Int × (Int × (Int × (Int × (Int × Unit)))))))) × Unit)) : Option (Unit × (((Option Int) × Unit) × Unit)) := f_label_Check_m () d
theorem ok_label_Check : FnOk Try.prog ET0 85 pi_label_Check po_label_Check g_label_Check :=
  fn_of_body (E := E_label_Check) (envOk_add (envOk_add (envOk_add e0_ok (typed_ok ok_label_Label_place)) (typed_ok ok_label_there)) (typed_ok ok_label_Label_fields)) (fn := Try.f85) Try.func85 (by kernel_rfl) (by kernel_rfl) [.tmp 2] (by kernel_rfl) (by kernel_rfl) (by decide) rfl c_label_Check L_label_Check
    (by intro x hx; cases hx) (by intro k x hx; cases hx) (fun d out h => ⟨0, (q_label_Check_m 0 d).trans h⟩)

/- horologe/label.Split -/
@[reducible] def pi_label_Split : PSh := ⟨[], [.mk true [.v (.int .i64), .v (.int .i64), .v (.int .i64), .v (.int .i64), .v (.int .i64), .v (.int .i64), .v (.int .i64), .v (.int .i64)]]⟩
@[reducible] def po_label_Split : PSh := ⟨[], [.mk false [.v (.int .i64)], .mk false [.v (.int .i64)], .mk false [.v .err]]⟩
def f_label_Split_m (T : Unit) (d : Unit × ((Int × (Int × (Int × (Int × (Int × (Int × (Int × (Int × Unit)))))))) × Unit)) : Option (Unit × ((Int × Unit) × ((Int × Unit) × (((Option Int) × Unit) × Unit)))) :=
  (g_label_Check ((), ((d.2.1.1, (d.2.1.2.1, (d.2.1.2.2.1, (d.2.1.2.2.2.1, (d.2.1.2.2.2.2.1, (d.2.1.2.2.2.2.2.1, (d.2.1.2.2.2.2.2.2.1, (d.2.1.2.2.2.2.2.2.2.1, ())))))))), ()))).bind fun x1 =>
  let x2 : Bool := (!x1.2.1.1.isNone)
  bif x2 then (
  some ((), (((0 : Int), ()), (((0 : Int), ()), ((x1.2.1.1, ()), ())))))
  else (
  (g_label_Label_place ((), ((d.2.1.1, (d.2.1.2.1, (d.2.1.2.2.1, (d.2.1.2.2.2.1, (d.2.1.2.2.2.2.1, (d.2.1.2.2.2.2.2.1, (d.2.1.2.2.2.2.2.2.1, (d.2.1.2.2.2.2.2.2.2.1, ())))))))), ()))).bind fun x3 =>
  let x4 : Bool := (!x3.2.2.2.1.1.isNone)
  bif x4 then (
  some ((), (((0 : Int), ()), (((0 : Int), ()), ((x3.2.2.2.1.1, ()), ())))))
  else (
  let x5 : Int := (imul .i64 x3.2.2.1.1 (60 : Int))
  let x6 : Int := (iadd .i64 x5 d.2.1.2.2.2.2.2.1)
  some ((), ((x3.2.1.1, ()), ((x6, ()), (((none : Option Int), ()), ()))))))
def c_label_Split : List Nat := []
def L_label_Split (_ : Nat) : Pts po_label_Split.den := []
def E_label_Split : Env := ((E0.add 85 (typedSem pi_label_Check po_label_Check g_label_Check)).add 108 (typedSem pi_label_Label_place po_label_Label_place g_label_Label_place))
theorem q_label_Split_m (k : Nat) (d : Unit × ((Int × (Int × (Int × (Int × (Int × (Int × (Int × (Int × Unit)))))))) × Unit)) : evCode E_label_Split (tab (L_label_Split k)) c_label_Split (bodyOf Try.f59) 0 (finK E_label_Split po_label_Split [.tmp 2, .tmp 3, .tmp 4]) (startSt pi_label_Split 27 d) = f_label_Split_m () d := by kernel_rfl
def g_label_Split (d : Unit × ((Int × (Int × (Int × (Int × (Int × (Int × (Int × (Int × Unit)))))))) × Unit)) : Option (Unit × ((Int × Unit) × ((Int × Unit) × (((Option Int) × Unit) × Unit)))) := f_label_Split_m () d
theorem ok_label_Split : FnOk Try.prog ET0 59 pi_label_Split po_label_Split g_label_Split :=
  fn_of_body (E := E_label_Split) (envOk_add (envOk_add e0_ok (typed_ok ok_label_Check)) (typed_ok ok_label_Label_place)) (fn := Try.f59) Try.func59 (by kernel_rfl) (by kernel_rfl) [.tmp 2, .tmp 3, .tmp 4] (by kernel_rfl) (by kernel_rfl) (by decide) rfl c_label_Split L_label_Split
    (by intro x hx; cases hx) (by intro k x hx; cases hx) (fun d out h => ⟨0, (q_label_Split_m 0 d).trans h⟩)

/- (*horologe/leap.Table).list -/
@[reducible] def pi_leap_Table_list : PSh := ⟨[], [.mk false [.v (.nptr (.pair (.sl (.pair (.int .i64) (.int .i64))) (.pair (.int .i64) (.int .i64))))]]⟩
@[reducible] def po_leap_Table_list : PSh := ⟨[], [.mk false [.v (.sl (.pair (.int .i64) (.int .i64)))]]⟩
def f_leap_Table_list_m (T : Unit) (d : Unit × (((Option ((List (Int × Int)) × (Int × Int))) × Unit) × Unit)) : Option (Unit × (((List (Int × Int)) × Unit) × Unit)) :=
  bif d.2.1.1.isNone then (
  some ((), ((([] : List (Int × Int)), ()), ())))
  else (
  d.2.1.1.bind fun x1 =>
  some ((), ((x1.1, ()), ())))
def c_leap_Table_list : List Nat := []
def L_leap_Table_list (_ : Nat) : Pts po_leap_Table_list.den := []
def E_leap_Table_list : Env := E0
theorem q_leap_Table_list_m (k : Nat) (d : Unit × (((Option ((List (Int × Int)) × (Int × Int))) × Unit) × Unit)) : evCode E_leap_Table_list (tab (L_leap_Table_list k)) c_leap_Table_list (bodyOf Try.f174) 0 (finK E_leap_Table_list po_leap_Table_list [.tmp 2]) (startSt pi_leap_Table_list 9 d) = f_leap_Table_list_m () d := by kernel_rfl
def g_leap_Table_list (d : Unit × (((Option ((List (Int × Int)) × (Int × Int))) × Unit) × Unit)) : Option (Unit × (((List (Int × Int)) × Unit) × Unit)) := f_leap_Table_list_m () d
theorem ok_leap_Table_list : FnOk Try.prog ET0 174 pi_leap_Table_list po_leap_Table_list g_leap_Table_list :=
  fn_of_body (E := E_leap_Table_list) e0_ok (fn := Try.f174) Try.func174 (by kernel_rfl) (by kernel_rfl) [.tmp 2] (by kernel_rfl) (by kernel_rfl) (by decide) rfl c_leap_Table_list L_leap_Table_list
    (by intro x hx; cases hx) (by intro k x hx; cases hx) (fun d out h => ⟨0, (q_leap_Table_list_m 0 d).trans h⟩)

/- (*horologe/leap.Table).Len -/
@[reducible] def pi_leap_Table_Len : PSh := ⟨[], [.mk false [.v (.nptr (.pair (.sl (.pair (.int .i64) (.int .i64))) (.pair (.int .i64) (.int .i64))))]]⟩
@[reducible] def po_leap_Table_Len : PSh := ⟨[], [.mk false [.v (.int .i64)]]⟩
def f_leap_Table_Len_m (T : Unit) (d : Unit × (((Option ((List (Int × Int)) × (Int × Int))) × Unit) × Unit)) : Option (Unit × ((Int × Unit) × Unit)) :=
  (g_leap_Table_list ((), ((d.2.1.1, ()), ()))).bind fun x1 =>
  let x2 : Int := (x1.2.1.1.length : Int)
  some ((), ((x2, ()), ()))
def c_leap_Table_Len : List Nat := []
def L_leap_Table_Len (_ : Nat) : Pts po_leap_Table_Len.den := []
def E_leap_Table_Len : Env := (E0.add 174 (typedSem pi_leap_Table_list po_leap_Table_list g_leap_Table_list))
theorem q_leap_Table_Len_m (k : Nat) (d : Unit × (((Option ((List (Int × Int)) × (Int × Int))) × Unit) × Unit)) : evCode E_leap_Table_Len (tab (L_leap_Table_Len k)) c_leap_Table_Len (bodyOf Try.f172) 0 (finK E_leap_Table_Len po_leap_Table_Len [.tmp 2]) (startSt pi_leap_Table_Len 6 d) = f_leap_Table_Len_m () d := by kernel_rfl
def g_leap_Table_Len (d : Unit × (((Option ((List (Int × Int)) × (Int × Int))) × Unit) × Unit)) : Option (Unit × ((Int × Unit) × Unit)) := f_leap_Table_Len_m () d
theorem ok_leap_Table_Len : FnOk Try.prog ET0 172 pi_leap_Table_Len po_leap_Table_Len g_leap_Table_Len :=
  fn_of_body (E := E_leap_Table_Len) (envOk_add e0_ok (typed_ok ok_leap_Table_list)) (fn := Try.f172) Try.func172 (by kernel_rfl) (by kernel_rfl) [.tmp 2] (by kernel_rfl) (by kernel_rfl) (by decide) rfl c_leap_Table_Len L_leap_Table_Len
    (by intro x hx; cases hx) (by intro k x hx; cases hx) (fun d out h => ⟨0, (q_leap_Table_Len_m 0 d).trans h⟩)

/- (*horologe/leap.Table).Row -/
@[reducible] def pi_leap_Table_Row : PSh := ⟨[], [.mk false [.v (.nptr (.pair (.sl (.pair (.int .i64) (.int .i64))) (.pair (.int .i64) (.int .i64))))], .mk false [.v (.int .i64)]]⟩
@[reducible] def po_leap_Table_Row : PSh := ⟨[], [.mk true [.v (.int .i64), .v (.int .i64)], .mk false [.v .bool]]⟩
def f_leap_Table_Row_m (T : Unit) (d : Unit × (((Option ((List (Int × Int)) × (Int × Int))) × Unit) × ((Int × Unit) × Unit))) : Option (Unit × ((Int × (Int × Unit)) × ((Bool × Unit) × Unit))) :=
  let x1 : Bool := (decide (d.2.2.1.1 < (0 : Int)))
  bif x1 then (
  some ((), (((0 : Int), ((0 : Int), ())), ((false, ()), ()))))
  else (
  (g_leap_Table_Len ((), ((d.2.1.1, ()), ()))).bind fun x2 =>
  let x3 : Bool := (decide (d.2.2.1.1 ≥ x2.2.1.1))
  bif x3 then (
  some ((), (((0 : Int), ((0 : Int), ())), ((false, ()), ()))))
  else (
  d.2.1.1.bind fun x4 =>
  bif decide ((0 : Int) ≤ d.2.2.1.1) && decide (d.2.2.1.1 < (x4.1.length : Int)) then (
  some ((), (((gd_i64_i64 x4.1 d.2.2.1.1).1, ((gd_i64_i64 x4.1 d.2.2.1.1).2, ())), ((true, ()), ()))))
  else none))
def c_leap_Table_Row : List Nat := []
def L_leap_Table_Row (_ : Nat) : Pts po_leap_Table_Row.den := []
def E_leap_Table_Row : Env := (E0.add 172 (typedSem pi_leap_Table_Len po_leap_Table_Len g_leap_Table_Len))
theorem q_leap_Table_Row_m (k : Nat) (d : Unit × (((Option ((List (Int × Int)) × (Int × Int))) × Unit) × ((Int × Unit) × Unit))) : evCode E_leap_Table_Row (tab (L_leap_Table_Row k)) c_leap_Table_Row (bodyOf Try.f115) 0 (finK E_leap_Table_Row po_leap_Table_Row [.cell 4 119, .tmp 5]) (startSt pi_leap_Table_Row 22 d) = f_leap_Table_Row_m () d := by kernel_rfl
def g_leap_Table_Row (d : Unit × (((Option ((List (Int × Int)) × (Int × Int))) × Unit) × ((Int × Unit) × Unit))) : Option (Unit × ((Int × (Int × Unit)) × ((Bool × Unit) × Unit))) := f_leap_Table_Row_m () d
theorem ok_leap_Table_Row : FnOk Try.prog ET0 115 pi_leap_Table_Row po_leap_Table_Row g_leap_Table_Row :=
  fn_of_body (E := E_leap_Table_Row) (envOk_add e0_ok (typed_ok ok_leap_Table_Len)) (fn := Try.f115) Try.func115 (by kernel_rfl) (by kernel_rfl) [.cell 4 119, .tmp 5] (by kernel_rfl) (by kernel_rfl) (by decide) rfl c_leap_Table_Row L_leap_Table_Row
    (by intro x hx; cases hx) (by intro k x hx; cases hx) (fun d out h => ⟨0, (q_leap_Table_Row_m 0 d).trans h⟩)

/- (*horologe/leap.Table).behind$1 -/
@[reducible] def pi_leap_Table_behind_1 : PSh := ⟨[], [.mk true [.v (.int .i64), .v (.int .i64)], .mk false [.v (.int .i64)]]⟩
@[reducible] def po_leap_Table_behind_1 : PSh := ⟨[], [.mk false [.v (.int .i64)]]⟩
def f_leap_Table_behind_1_m (T : Unit) (d : Unit × ((Int × (Int × Unit)) × ((Int × Unit) × Unit))) : Option (Unit × ((Int × Unit) × Unit)) :=
  let x1 : Bool := (decide (d.2.1.1 < d.2.2.1.1))
  bif x1 then (
  some ((), (((-1 : Int), ()), ())))
  else (
  let x2 : Bool := (decide (d.2.1.1 > d.2.2.1.1))
  bif x2 then (
  some ((), (((1 : Int), ()), ())))
  else (
  some ((), (((0 : Int), ()), ()))))
def c_leap_Table_behind_1 : List Nat := []
def L_leap_Table_behind_1 (_ : Nat) : Pts po_leap_Table_behind_1.den := []
def E_leap_Table_behind_1 : Env := E0
theorem q_leap_Table_behind_1_m (k : Nat) (d : Unit × ((Int × (Int × Unit)) × ((Int × Unit) × Unit))) : evCode E_leap_Table_behind_1 (tab (L_leap_Table_behind_1 k)) c_leap_Table_behind_1 (bodyOf Try.f175) 0 (finK E_leap_Table_behind_1 po_leap_Table_behind_1 [.tmp 4]) (startSt pi_leap_Table_behind_1 15 d) = f_leap_Table_behind_1_m () d := by kernel_rfl
def g_leap_Table_behind_1 (d : Unit × ((Int × (Int × Unit)) × ((Int × Unit) × Unit))) : Option (Unit × ((Int × Unit) × Unit)) := f_leap_Table_behind_1_m () d
theorem ok_leap_Table_behind_1 : FnOk Try.prog ET0 175 pi_leap_Table_behind_1 po_leap_Table_behind_1 g_leap_Table_behind_1 :=
  fn_of_body (E := E_leap_Table_behind_1) e0_ok (fn := Try.f175) Try.func175 (by kernel_rfl) (by kernel_rfl) [.tmp 4] (by kernel_rfl) (by kernel_rfl) (by decide) rfl c_leap_Table_behind_1 L_leap_Table_behind_1
    (by intro x hx; cases hx) (by intro k x hx; cases hx) (fun d out h => ⟨0, (q_leap_Table_behind_1_m 0 d).trans h⟩)

/- slices.BinarySearchFunc[[]horologe/leap.Row,horologe/leap.Row,int64] -/
@[reducible] def pi_slices_BinarySearchFunc_leap_Row_leap_Row_i64_leap_Table_behind_1 : PSh := ⟨[], [.mk false [.v (.sl (.pair (.int .i64) (.int .i64)))], .mk false [.v (.int .i64)], .mk false [.fn 175 []]]⟩
@[reducible] def po_slices_BinarySearchFunc_leap_Row_leap_Row_i64_leap_Table_behind_1 : PSh := ⟨[], [.mk false [.v (.int .i64)], .mk false [.v .bool]]⟩
@[reducible] def TT_slices_BinarySearchFunc_leap_Row_leap_Row_i64_leap_Table_behind_1 : Type := (((Unit × (((List (Int × Int)) × Unit) × ((Int × Unit) × (Unit × ((Int × Unit) × ((Int × Unit) × ((Int × Unit) × Unit))))))) → Option (Unit × ((Int × Unit) × ((Bool × Unit) × Unit)))) × Unit)
@[reducible] def sh_slices_BinarySearchFunc_leap_Row_leap_Row_i64_leap_Table_behind_1_4 : PSh := ⟨[], [.mk false [.v (.sl (.pair (.int .i64) (.int .i64)))], .mk false [.v (.int .i64)], .mk false [.fn 175 []], .any, .any, .any, .any, .any, .mk false [.v (.int .i64)], .mk false [.v (.int .i64)], .mk false [.v (.int .i64)], .any, .any, .any, .any, .any, .any, .any, .any, .any, .any, .any, .any, .any, .any, .any, .any, .any, .any, .any, .any, .any, .any, .any, .any, .any, .any, .any, .any, .any, .any, .any, .any, .any, .any, .any, .any, .any, .any]⟩
def f_slices_BinarySearchFunc_leap_Row_leap_Row_i64_leap_Table_behind_1_p4 (T : TT_slices_BinarySearchFunc_leap_Row_leap_Row_i64_leap_Table_behind_1) (d : Unit × (((List (Int × Int)) × Unit) × ((Int × Unit) × (Unit × ((Int × Unit) × ((Int × Unit) × ((Int × Unit) × Unit))))))) : Option (Unit × ((Int × Unit) × ((Bool × Unit) × Unit))) :=
  let x2 : Bool := (decide (d.2.2.2.2.2.1.1 < d.2.2.2.2.2.2.1.1))
  bif x2 then (
  let x3 : Int := (iadd .i64 d.2.2.2.2.2.1.1 d.2.2.2.2.2.2.1.1)
  let x4 : Int := (iconv .u64 x3)
  let x5 : Int := (ishr .u64 x4 (1 : Int))
  let x6 : Int := (iconv .i64 x5)
  bif decide ((0 : Int) ≤ x6) && decide (x6 < (d.2.1.1.length : Int)) then (
  (g_leap_Table_behind_1 ((), (((gd_i64_i64 d.2.1.1 x6).1, ((gd_i64_i64 d.2.1.1 x6).2, ())), ((d.2.2.1.1, ()), ())))).bind fun x7 =>
  let x8 : Bool := (decide (x7.2.1.1 < (0 : Int)))
  bif x8 then (
  let x9 : Int := (iadd .i64 x6 (1 : Int))
  (T.1 ((), ((d.2.1.1, ()), ((d.2.2.1.1, ()), ((), ((d.2.2.2.2.1.1, ()), ((x9, ()), ((d.2.2.2.2.2.2.1.1, ()), ())))))))))
  else (
  (T.1 ((), ((d.2.1.1, ()), ((d.2.2.1.1, ()), ((), ((d.2.2.2.2.1.1, ()), ((d.2.2.2.2.2.1.1, ()), ((x6, ()), ()))))))))))
  else none)
  else (
  let x10 : Bool := (decide (d.2.2.2.2.2.1.1 < d.2.2.2.2.1.1))
  bif x10 then (
  bif decide ((0 : Int) ≤ d.2.2.2.2.2.1.1) && decide (d.2.2.2.2.2.1.1 < (d.2.1.1.length : Int)) then (
  (g_leap_Table_behind_1 ((), (((gd_i64_i64 d.2.1.1 d.2.2.2.2.2.1.1).1, ((gd_i64_i64 d.2.1.1 d.2.2.2.2.2.1.1).2, ())), ((d.2.2.1.1, ()), ())))).bind fun x11 =>
  let x12 : Bool := (x11.2.1.1 == (0 : Int))
  some ((), ((d.2.2.2.2.2.1.1, ()), ((x12, ()), ()))))
  else none)
  else (
  some ((), ((d.2.2.2.2.2.1.1, ()), ((false, ()), ())))))
def f_slices_BinarySearchFunc_leap_Row_leap_Row_i64_leap_Table_behind_1_t : Nat → TT_slices_BinarySearchFunc_leap_Row_leap_Row_i64_leap_Table_behind_1
  | 0 => (fun _ => none, ())
  | k + 1 => (f_slices_BinarySearchFunc_leap_Row_leap_Row_i64_leap_Table_behind_1_p4 (f_slices_BinarySearchFunc_leap_Row_leap_Row_i64_leap_Table_behind_1_t k), ())
theorem t_slices_BinarySearchFunc_leap_Row_leap_Row_i64_leap_Table_behind_1 (k : Nat) : f_slices_BinarySearchFunc_leap_Row_leap_Row_i64_leap_Table_behind_1_t (k + 1) = (f_slices_BinarySearchFunc_leap_Row_leap_Row_i64_leap_Table_behind_1_p4 (f_slices_BinarySearchFunc_leap_Row_leap_Row_i64_leap_Table_behind_1_t k), ()) := rfl
def f_slices_BinarySearchFunc_leap_Row_leap_Row_i64_leap_Table_behind_1_m (T : TT_slices_BinarySearchFunc_leap_Row_leap_Row_i64_leap_Table_behind_1) (d : Unit × (((List (Int × Int)) × Unit) × ((Int × Unit) × (Unit × Unit)))) : Option (Unit × ((Int × Unit) × ((Bool × Unit) × Unit))) :=
  let x1 : Int := (d.2.1.1.length : Int)
  (T.1 ((), ((d.2.1.1, ()), ((d.2.2.1.1, ()), ((), ((x1, ()), (((0 : Int), ()), ((x1, ()), ()))))))))
def c_slices_BinarySearchFunc_leap_Row_leap_Row_i64_leap_Table_behind_1 : List Nat := []
def L_slices_BinarySearchFunc_leap_Row_leap_Row_i64_leap_Table_behind_1 (k : Nat) : Pts po_slices_BinarySearchFunc_leap_Row_leap_Row_i64_leap_Table_behind_1.den := [(4, ⟨sh_slices_BinarySearchFunc_leap_Row_leap_Row_i64_leap_Table_behind_1_4, (f_slices_BinarySearchFunc_leap_Row_leap_Row_i64_leap_Table_behind_1_t k).1⟩)]
def E_slices_BinarySearchFunc_leap_Row_leap_Row_i64_leap_Table_behind_1 : Env := (E0.add 175 (typedSem pi_leap_Table_behind_1 po_leap_Table_behind_1 g_leap_Table_behind_1))
theorem q_slices_BinarySearchFunc_leap_Row_leap_Row_i64_leap_Table_behind_1_4 (k : Nat) (d : Unit × (((List (Int × Int)) × Unit) × ((Int × Unit) × (Unit × ((Int × Unit) × ((Int × Unit) × ((Int × Unit) × Unit))))))) : evAt E_slices_BinarySearchFunc_leap_Row_leap_Row_i64_leap_Table_behind_1 (tab (L_slices_BinarySearchFunc_leap_Row_leap_Row_i64_leap_Table_behind_1 k)) c_slices_BinarySearchFunc_leap_Row_leap_Row_i64_leap_Table_behind_1 4 (bodyOf Try.f173) 0 (finK E_slices_BinarySearchFunc_leap_Row_leap_Row_i64_leap_Table_behind_1 po_slices_BinarySearchFunc_leap_Row_leap_Row_i64_leap_Table_behind_1 [.tmp 6, .tmp 7]) (ptSt sh_slices_BinarySearchFunc_leap_Row_leap_Row_i64_leap_Table_behind_1_4 d) = f_slices_BinarySearchFunc_leap_Row_leap_Row_i64_leap_Table_behind_1_p4 (f_slices_BinarySearchFunc_leap_Row_leap_Row_i64_leap_Table_behind_1_t k) d := by kernel_rfl
theorem q_slices_BinarySearchFunc_leap_Row_leap_Row_i64_leap_Table_behind_1_m (k : Nat) (d : Unit × (((List (Int × Int)) × Unit) × ((Int × Unit) × (Unit × Unit)))) : evCode E_slices_BinarySearchFunc_leap_Row_leap_Row_i64_leap_Table_behind_1 (tab (L_slices_BinarySearchFunc_leap_Row_leap_Row_i64_leap_Table_behind_1 k)) c_slices_BinarySearchFunc_leap_Row_leap_Row_i64_leap_Table_behind_1 (bodyOf Try.f173) 0 (finK E_slices_BinarySearchFunc_leap_Row_leap_Row_i64_leap_Table_behind_1 po_slices_BinarySearchFunc_leap_Row_leap_Row_i64_leap_Table_behind_1 [.tmp 6, .tmp 7]) (startSt pi_slices_BinarySearchFunc_leap_Row_leap_Row_i64_leap_Table_behind_1 49 d) = f_slices_BinarySearchFunc_leap_Row_leap_Row_i64_leap_Table_behind_1_m (f_slices_BinarySearchFunc_leap_Row_leap_Row_i64_leap_Table_behind_1_t k) d := by kernel_rfl
theorem go_slices_BinarySearchFunc_leap_Row_leap_Row_i64_leap_Table_behind_1 (G : Unit × (((List (Int × Int)) × Unit) × ((Int × Unit) × (Unit × Unit))) → Option (Unit × ((Int × Unit) × ((Bool × Unit) × Unit)))) (hG : ∀ d out, G d = some out → ∃ k, f_slices_BinarySearchFunc_leap_Row_leap_Row_i64_leap_Table_behind_1_m (f_slices_BinarySearchFunc_leap_Row_leap_Row_i64_leap_Table_behind_1_t k) d = some out) : FnOk Try.prog ET0 173 pi_slices_BinarySearchFunc_leap_Row_leap_Row_i64_leap_Table_behind_1 po_slices_BinarySearchFunc_leap_Row_leap_Row_i64_leap_Table_behind_1 G :=
  fn_of_body (E := E_slices_BinarySearchFunc_leap_Row_leap_Row_i64_leap_Table_behind_1) (envOk_add e0_ok (typed_ok ok_leap_Table_behind_1)) (fn := Try.f173) Try.func173 (by kernel_rfl) (by kernel_rfl) [.tmp 6, .tmp 7] (by kernel_rfl) (by kernel_rfl) (by decide) rfl c_slices_BinarySearchFunc_leap_Row_leap_Row_i64_leap_Table_behind_1 L_slices_BinarySearchFunc_leap_Row_leap_Row_i64_leap_Table_behind_1
    (by intro x hx d; simp only [L_slices_BinarySearchFunc_leap_Row_leap_Row_i64_leap_Table_behind_1, List.mem_cons, List.not_mem_nil, or_false] at hx; subst hx; rfl)
    (by intro k x hx d out h; simp only [L_slices_BinarySearchFunc_leap_Row_leap_Row_i64_leap_Table_behind_1, List.mem_cons, List.not_mem_nil, or_false] at hx; subst hx; exact (q_slices_BinarySearchFunc_leap_Row_leap_Row_i64_leap_Table_behind_1_4 k d).trans h)
    (by intro d out h; obtain ⟨k, hk⟩ := hG d out h; exact ⟨k, (q_slices_BinarySearchFunc_leap_Row_leap_Row_i64_leap_Table_behind_1_m k d).trans hk⟩)
def g_slices_BinarySearchFunc_leap_Row_leap_Row_i64_leap_Table_behind_1 (d : Unit × (((List (Int × Int)) × Unit) × ((Int × Unit) × (Unit × Unit)))) : Option (Unit × ((Int × Unit) × ((Bool × Unit) × Unit))) := lim fun k => f_slices_BinarySearchFunc_leap_Row_leap_Row_i64_leap_Table_behind_1_m (f_slices_BinarySearchFunc_leap_Row_leap_Row_i64_leap_Table_behind_1_t k) d
theorem ok_slices_BinarySearchFunc_leap_Row_leap_Row_i64_leap_Table_behind_1 : FnOk Try.prog ET0 173 pi_slices_BinarySearchFunc_leap_Row_leap_Row_i64_leap_Table_behind_1 po_slices_BinarySearchFunc_leap_Row_leap_Row_i64_leap_Table_behind_1 g_slices_BinarySearchFunc_leap_Row_leap_Row_i64_leap_Table_behind_1 := go_slices_BinarySearchFunc_leap_Row_leap_Row_i64_leap_Table_behind_1 g_slices_BinarySearchFunc_leap_Row_leap_Row_i64_leap_Table_behind_1 fun d out h => lim_some h

/- (*horologe/leap.Table).behind -/
@[reducible] def pi_leap_Table_behind : PSh := ⟨[], [.mk false [.v (.nptr (.pair (.sl (.pair (.int .i64) (.int .i64))) (.pair (.int .i64) (.int .i64))))], .mk false [.v (.int .i64)]]⟩
@[reducible] def po_leap_Table_behind : PSh := ⟨[], [.mk false [.v (.int .i64)]]⟩
def f_leap_Table_behind_m (T : Unit) (d : Unit × (((Option ((List (Int × Int)) × (Int × Int))) × Unit) × ((Int × Unit) × Unit))) : Option (Unit × ((Int × Unit) × Unit)) :=
  (g_leap_Table_list ((), ((d.2.1.1, ()), ()))).bind fun x1 =>
  (g_slices_BinarySearchFunc_leap_Row_leap_Row_i64_leap_Table_behind_1 ((), ((x1.2.1.1, ()), ((d.2.2.1.1, ()), ((), ()))))).bind fun x2 =>
  bif x2.2.2.1.1 then (
  let x3 : Int := (iadd .i64 x2.2.1.1 (1 : Int))
  some ((), ((x3, ()), ())))
  else (
  some ((), ((x2.2.1.1, ()), ())))
def c_leap_Table_behind : List Nat := []
def L_leap_Table_behind (_ : Nat) : Pts po_leap_Table_behind.den := []
def E_leap_Table_behind : Env := ((E0.add 173 (typedSem pi_slices_BinarySearchFunc_leap_Row_leap_Row_i64_leap_Table_behind_1 po_slices_BinarySearchFunc_leap_Row_leap_Row_i64_leap_Table_behind_1 g_slices_BinarySearchFunc_leap_Row_leap_Row_i64_leap_Table_behind_1)).add 174 (typedSem pi_leap_Table_list po_leap_Table_list g_leap_Table_list))
theorem q_leap_Table_behind_m (k : Nat) (d : Unit × (((Option ((List (Int × Int)) × (Int × Int))) × Unit) × ((Int × Unit) × Unit))) : evCode E_leap_Table_behind (tab (L_leap_Table_behind k)) c_leap_Table_behind (bodyOf Try.f116) 0 (finK E_leap_Table_behind po_leap_Table_behind [.tmp 4]) (startSt pi_leap_Table_behind 18 d) = f_leap_Table_behind_m () d := by kernel_rfl
def g_leap_Table_behind (d : Unit × (((Option ((List (Int × Int)) × (Int × Int))) × Unit) × ((Int × Unit) × Unit))) : Option (Unit × ((Int × Unit) × Unit)) := f_leap_Table_behind_m () d
theorem ok_leap_Table_behind : FnOk Try.prog ET0 116 pi_leap_Table_behind po_leap_Table_behind g_leap_Table_behind :=
  fn_of_body (E := E_leap_Table_behind) (envOk_add (envOk_add e0_ok (typed_ok ok_slices_BinarySearchFunc_leap_Row_leap_Row_i64_leap_Table_behind_1)) (typed_ok ok_leap_Table_list)) (fn := Try.f116) Try.func116 (by kernel_rfl) (by kernel_rfl) [.tmp 4] (by kernel_rfl) (by kernel_rfl) (by decide) rfl c_leap_Table_behind L_leap_Table_behind
    (by intro x hx; cases hx) (by intro k x hx; cases hx) (fun d out h => ⟨0, (q_leap_Table_behind_m 0 d).trans h⟩)

/- (*horologe/leap.Table).change -/
@[reducible] def pi_leap_Table_change : PSh := ⟨[], [.mk false [.v (.nptr (.pair (.sl (.pair (.int .i64) (.int .i64))) (.pair (.int .i64) (.int .i64))))], .mk false [.v (.int .i64)]]⟩
@[reducible] def po_leap_Table_change : PSh := ⟨[], [.mk false [.v (.int .i64)]]⟩
def f_leap_Table_change_m (T : Unit) (d : Unit × (((Option ((List (Int × Int)) × (Int × Int))) × Unit) × ((Int × Unit) × Unit))) : Option (Unit × ((Int × Unit) × Unit)) :=
  let x1 : Int := (isub .i64 d.2.2.1.1 (1 : Int))
  (g_leap_Table_Row ((), ((d.2.1.1, ()), ((x1, ()), ())))).bind fun x2 =>
  let x3 : Bool := (!x2.2.2.1.1)
  bif x3 then (
  some ((), (((0 : Int), ()), ())))
  else (
  d.2.1.1.bind fun x4 =>
  bif decide ((0 : Int) ≤ d.2.2.1.1) && decide (d.2.2.1.1 < (x4.1.length : Int)) then (
  let x5 : Int := (isub .i64 (gd_i64_i64 x4.1 d.2.2.1.1).2 x2.2.1.2.1)
  some ((), ((x5, ()), ())))
  else none)
def c_leap_Table_change : List Nat := []
def L_leap_Table_change (_ : Nat) : Pts po_leap_Table_change.den := []
def E_leap_Table_change : Env := (E0.add 115 (typedSem pi_leap_Table_Row po_leap_Table_Row g_leap_Table_Row))
theorem q_leap_Table_change_m (k : Nat) (d : Unit × (((Option ((List (Int × Int)) × (Int × Int))) × Unit) × ((Int × Unit) × Unit))) : evCode E_leap_Table_change (tab (L_leap_Table_change k)) c_leap_Table_change (bodyOf Try.f204) 0 (finK E_leap_Table_change po_leap_Table_change [.tmp 4]) (startSt pi_leap_Table_change 27 d) = f_leap_Table_change_m () d := by kernel_rfl
def g_leap_Table_change (d : Unit × (((Option ((List (Int × Int)) × (Int × Int))) × Unit) × ((Int × Unit) × Unit))) : Option (Unit × ((Int × Unit) × Unit)) := f_leap_Table_change_m () d
theorem ok_leap_Table_change : FnOk Try.prog ET0 204 pi_leap_Table_change po_leap_Table_change g_leap_Table_change :=
  fn_of_body (E := E_leap_Table_change) (envOk_add e0_ok (typed_ok ok_leap_Table_Row)) (fn := Try.f204) Try.func204 (by kernel_rfl) (by kernel_rfl) [.tmp 4] (by kernel_rfl) (by kernel_rfl) (by decide) rfl c_leap_Table_change L_leap_Table_change
    (by intro x hx; cases hx) (by intro k x hx; cases hx) (fun d out h => ⟨0, (q_leap_Table_change_m 0 d).trans h⟩)

/- (*horologe/leap.Table).Leap -/
@[reducible] def pi_leap_Table_Leap : PSh := ⟨[], [.mk false [.v (.nptr (.pair (.sl (.pair (.int .i64) (.int .i64))) (.pair (.int .i64) (.int .i64))))], .mk false [.v (.int .i64)]]⟩
@[reducible] def po_leap_Table_Leap : PSh := ⟨[], [.mk false [.v (.int .i64)]]⟩
def f_leap_Table_Leap_m (T : Unit) (d : Unit × (((Option ((List (Int × Int)) × (Int × Int))) × Unit) × ((Int × Unit) × Unit))) : Option (Unit × ((Int × Unit) × Unit)) :=
  (g_leap_Table_behind ((), ((d.2.1.1, ()), ((d.2.2.1.1, ()), ())))).bind fun x1 =>
  (g_leap_Table_Row ((), ((d.2.1.1, ()), ((x1.2.1.1, ()), ())))).bind fun x2 =>
  let x3 : Bool := (!x2.2.2.1.1)
  bif x3 then (
  some ((), (((0 : Int), ()), ())))
  else (
  let x4 : Int := (isub .i64 x2.2.1.1 (1 : Int))
  let x5 : Bool := (x4 != d.2.2.1.1)
  bif x5 then (
  some ((), (((0 : Int), ()), ())))
  else (
  (g_leap_Table_behind ((), ((d.2.1.1, ()), ((d.2.2.1.1, ()), ())))).bind fun x6 =>
  (g_leap_Table_change ((), ((d.2.1.1, ()), ((x6.2.1.1, ()), ())))).bind fun x7 =>
  some ((), ((x7.2.1.1, ()), ()))))
def c_leap_Table_Leap : List Nat := []
def L_leap_Table_Leap (_ : Nat) : Pts po_leap_Table_Leap.den := []
def E_leap_Table_Leap : Env := (((E0.add 115 (typedSem pi_leap_Table_Row po_leap_Table_Row g_leap_Table_Row)).add 116 (typedSem pi_leap_Table_behind po_leap_Table_behind g_leap_Table_behind)).add 204 (typedSem pi_leap_Table_change po_leap_Table_change g_leap_Table_change))
theorem q_leap_Table_Leap_m (k : Nat) (d : Unit × (((Option ((List (Int × Int)) × (Int × Int))) × Unit) × ((Int × Unit) × Unit))) : evCode E_leap_Table_Leap (tab (L_leap_Table_Leap k)) c_leap_Table_Leap (bodyOf Try.f171) 0 (finK E_leap_Table_Leap po_leap_Table_Leap [.tmp 4]) (startSt pi_leap_Table_Leap 29 d) = f_leap_Table_Leap_m () d := by kernel_rfl
def g_leap_Table_Leap (d : Unit × (((Option ((List (Int × Int)) × (Int × Int))) × Unit) × ((Int × Unit) × Unit))) : Option (Unit × ((Int × Unit) × Unit)) := f_leap_Table_Leap_m () d
theorem ok_leap_Table_Leap : FnOk Try.prog ET0 171 pi_leap_Table_Leap po_leap_Table_Leap g_leap_Table_Leap :=
  fn_of_body (E := E_leap_Table_Leap) (envOk_add (envOk_add (envOk_add e0_ok (typed_ok ok_leap_Table_Row)) (typed_ok ok_leap_Table_behind)) (typed_ok ok_leap_Table_change)) (fn := Try.f171) Try.func171 (by kernel_rfl) (by kernel_rfl) [.tmp 4] (by kernel_rfl) (by kernel_rfl) (by decide) rfl c_leap_Table_Leap L_leap_Table_Leap
    (by intro x hx; cases hx) (by intro k x hx; cases hx) (fun d out h => ⟨0, (q_leap_Table_Leap_m 0 d).trans h⟩)

/- (*horologe/leap.Table).Length -/
@[reducible] def pi_leap_Table_Length : PSh := ⟨[], [.mk false [.v (.nptr (.pair (.sl (.pair (.int .i64) (.int .i64))) (.pair (.int .i64) (.int .i64))))], .mk false [.v (.int .i64)]]⟩
@[reducible] def po_leap_Table_Length : PSh := ⟨[], [.mk false [.v (.int .i64)]]⟩
def f_leap_Table_Length_m (T : Unit) (d : Unit × (((Option ((List (Int × Int)) × (Int × Int))) × Unit) × ((Int × Unit) × Unit))) : Option (Unit × ((Int × Unit) × Unit)) :=
  (g_leap_Table_Leap ((), ((d.2.1.1, ()), ((d.2.2.1.1, ()), ())))).bind fun x1 =>
  let x2 : Int := (iadd .i64 (86400 : Int) x1.2.1.1)
  some ((), ((x2, ()), ()))
def c_leap_Table_Length : List Nat := []
def L_leap_Table_Length (_ : Nat) : Pts po_leap_Table_Length.den := []
def E_leap_Table_Length : Env := (E0.add 171 (typedSem pi_leap_Table_Leap po_leap_Table_Leap g_leap_Table_Leap))
theorem q_leap_Table_Length_m (k : Nat) (d : Unit × (((Option ((List (Int × Int)) × (Int × Int))) × Unit) × ((Int × Unit) × Unit))) : evCode E_leap_Table_Length (tab (L_leap_Table_Length k)) c_leap_Table_Length (bodyOf Try.f114) 0 (finK E_leap_Table_Length po_leap_Table_Length [.tmp 4]) (startSt pi_leap_Table_Length 9 d) = f_leap_Table_Length_m () d := by kernel_rfl
def g_leap_Table_Length (d : Unit × (((Option ((List (Int × Int)) × (Int × Int))) × Unit) × ((Int × Unit) × Unit))) : Option (Unit × ((Int × Unit) × Unit)) := f_leap_Table_Length_m () d
theorem ok_leap_Table_Length : FnOk Try.prog ET0 114 pi_leap_Table_Length po_leap_Table_Length g_leap_Table_Length :=
  fn_of_body (E := E_leap_Table_Length) (envOk_add e0_ok (typed_ok ok_leap_Table_Leap)) (fn := Try.f114) Try.func114 (by kernel_rfl) (by kernel_rfl) [.tmp 4] (by kernel_rfl) (by kernel_rfl) (by decide) rfl c_leap_Table_Length L_leap_Table_Length
    (by intro x hx; cases hx) (by intro k x hx; cases hx) (fun d out h => ⟨0, (q_leap_Table_Length_m 0 d).trans h⟩)

/- (*horologe/leap.Table).Has -/
@[reducible] def pi_leap_Table_Has : PSh := ⟨[], [.mk false [.v (.nptr (.pair (.sl (.pair (.int .i64) (.int .i64))) (.pair (.int .i64) (.int .i64))))], .mk false [.v (.int .i64)], .mk false [.v (.int .i64)]]⟩
@[reducible] def po_leap_Table_Has : PSh := ⟨[], [.mk false [.v .bool]]⟩
def f_leap_Table_Has_m (T : Unit) (d : Unit × (((Option ((List (Int × Int)) × (Int × Int))) × Unit) × ((Int × Unit) × ((Int × Unit) × Unit)))) : Option (Unit × ((Bool × Unit) × Unit)) :=
  let x1 : Bool := (decide (d.2.2.2.1.1 ≥ (0 : Int)))
  bif x1 then (
  (g_leap_Table_Length ((), ((d.2.1.1, ()), ((d.2.2.1.1, ()), ())))).bind fun x2 =>
  let x3 : Bool := (decide (d.2.2.2.1.1 < x2.2.1.1))
  some ((), ((x3, ()), ())))
  else (
  some ((), ((false, ()), ())))
def c_leap_Table_Has : List Nat := []
def L_leap_Table_Has (_ : Nat) : Pts po_leap_Table_Has.den := []
def E_leap_Table_Has : Env := (E0.add 114 (typedSem pi_leap_Table_Length po_leap_Table_Length g_leap_Table_Length))
theorem q_leap_Table_Has_m (k : Nat) (d : Unit × (((Option ((List (Int × Int)) × (Int × Int))) × Unit) × ((Int × Unit) × ((Int × Unit) × Unit)))) : evCode E_leap_Table_Has (tab (L_leap_Table_Has k)) c_leap_Table_Has (bodyOf Try.f67) 0 (finK E_leap_Table_Has po_leap_Table_Has [.tmp 6]) (startSt pi_leap_Table_Has 16 d) = f_leap_Table_Has_m () d := by kernel_rfl
def g_leap_Table_Has (d : Unit × (((Option ((List (Int × Int)) × (Int × Int))) × Unit) × ((Int × Unit) × ((Int × Unit) × Unit)))) : Option (Unit × ((Bool × Unit) × Unit)) := f_leap_Table_Has_m () d
theorem ok_leap_Table_Has : FnOk Try.prog ET0 67 pi_leap_Table_Has po_leap_Table_Has g_leap_Table_Has :=
  fn_of_body (E := E_leap_Table_Has) (envOk_add e0_ok (typed_ok ok_leap_Table_Length)) (fn := Try.f67) Try.func67 (by kernel_rfl) (by kernel_rfl) [.tmp 6] (by kernel_rfl) (by kernel_rfl) (by decide) rfl c_leap_Table_Has L_leap_Table_Has
    (by intro x hx; cases hx) (by intro k x hx; cases hx) (fun d out h => ⟨0, (q_leap_Table_Has_m 0 d).trans h⟩)

/- (*horologe/leap.Table).Offset -/
@[reducible] def pi_leap_Table_Offset : PSh := ⟨[], [.mk false [.v (.nptr (.pair (.sl (.pair (.int .i64) (.int .i64))) (.pair (.int .i64) (.int .i64))))], .mk false [.v (.int .i64)]]⟩
@[reducible] def po_leap_Table_Offset : PSh := ⟨[], [.mk false [.v (.int .i64)], .mk false [.v .bool]]⟩
def f_leap_Table_Offset_m (T : Unit) (d : Unit × (((Option ((List (Int × Int)) × (Int × Int))) × Unit) × ((Int × Unit) × Unit))) : Option (Unit × ((Int × Unit) × ((Bool × Unit) × Unit))) :=
  (g_leap_Table_behind ((), ((d.2.1.1, ()), ((d.2.2.1.1, ()), ())))).bind fun x1 =>
  let x2 : Int := (isub .i64 x1.2.1.1 (1 : Int))
  (g_leap_Table_Row ((), ((d.2.1.1, ()), ((x2, ()), ())))).bind fun x3 =>
  some ((), ((x3.2.1.2.1, ()), ((x3.2.2.1.1, ()), ())))
def c_leap_Table_Offset : List Nat := []
def L_leap_Table_Offset (_ : Nat) : Pts po_leap_Table_Offset.den := []
def E_leap_Table_Offset : Env := ((E0.add 115 (typedSem pi_leap_Table_Row po_leap_Table_Row g_leap_Table_Row)).add 116 (typedSem pi_leap_Table_behind po_leap_Table_behind g_leap_Table_behind))
theorem q_leap_Table_Offset_m (k : Nat) (d : Unit × (((Option ((List (Int × Int)) × (Int × Int))) × Unit) × ((Int × Unit) × Unit))) : evCode E_leap_Table_Offset (tab (L_leap_Table_Offset k)) c_leap_Table_Offset (bodyOf Try.f68) 0 (finK E_leap_Table_Offset po_leap_Table_Offset [.tmp 4, .tmp 5]) (startSt pi_leap_Table_Offset 20 d) = f_leap_Table_Offset_m () d := by kernel_rfl
def g_leap_Table_Offset (d : Unit × (((Option ((List (Int × Int)) × (Int × Int))) × Unit) × ((Int × Unit) × Unit))) : Option (Unit × ((Int × Unit) × ((Bool × Unit) × Unit))) := f_leap_Table_Offset_m () d
theorem ok_leap_Table_Offset : FnOk Try.prog ET0 68 pi_leap_Table_Offset po_leap_Table_Offset g_leap_Table_Offset :=
  fn_of_body (E := E_leap_Table_Offset) (envOk_add (envOk_add e0_ok (typed_ok ok_leap_Table_Row)) (typed_ok ok_leap_Table_behind)) (fn := Try.f68) Try.func68 (by kernel_rfl) (by kernel_rfl) [.tmp 4, .tmp 5] (by kernel_rfl) (by kernel_rfl) (by decide) rfl c_leap_Table_Offset L_leap_Table_Offset
    (by intro x hx; cases hx) (by intro k x hx; cases hx) (fun d out h => ⟨0, (q_leap_Table_Offset_m 0 d).trans h⟩)

/- horologe/scale.Tai -/
@[reducible] def pi_scale_Tai : PSh := ⟨[], [.mk false [.v (.nptr (.pair (.sl (.pair (.int .i64) (.int .i64))) (.pair (.int .i64) (.int .i64))))], .mk true [.v (.int .i64), .v (.int .i64), .v (.int .i64), .v (.int .i64), .v (.int .i64), .v (.int .i64), .v (.int .i64), .v (.int .i64)]]⟩
@[reducible] def po_scale_Tai : PSh := ⟨[], [.mk false [.v (.int .i64)], .mk false [.v .err]]⟩
def f_scale_Tai_m (T : Unit) (d : Unit × (((Option ((List (Int × Int)) × (Int × Int))) × Unit) × ((Int × (Int × (Int × (Int × (Int × (Int × (Int × (Int × Unit)))))))) × Unit))) : Option (Unit × ((Int × Unit) × (((Option Int) × Unit) × Unit))) :=
  (g_label_Split ((), ((d.2.2.1.1, (d.2.2.1.2.1, (d.2.2.1.2.2.1, (d.2.2.1.2.2.2.1, (d.2.2.1.2.2.2.2.1, (d.2.2.1.2.2.2.2.2.1, (d.2.2.1.2.2.2.2.2.2.1, (d.2.2.1.2.2.2.2.2.2.2.1, ())))))))), ()))).bind fun x1 =>
  let x2 : Bool := (!x1.2.2.2.1.1.isNone)
  bif x2 then (
  some ((), (((0 : Int), ()), ((x1.2.2.2.1.1, ()), ()))))
  else (
  (g_leap_Table_Offset ((), ((d.2.1.1, ()), ((x1.2.1.1, ()), ())))).bind fun x3 =>
  let x4 : Bool := (!x3.2.2.1.1)
  bif x4 then (
  let x5 : (Option Int) := (some (8 : Int))
  some ((), (((0 : Int), ()), ((x5, ()), ()))))
  else (
  (g_leap_Table_Has ((), ((d.2.1.1, ()), ((x1.2.1.1, ()), ((x1.2.2.1.1, ()), ()))))).bind fun x6 =>
  let x7 : Bool := (!x6.2.1.1)
  bif x7 then (
  let x8 : (Option Int) := (some (12 : Int))
  some ((), (((0 : Int), ()), ((x8, ()), ()))))
  else (
  let x9 : Int := (imul .i64 x1.2.1.1 (86400 : Int))
  let x10 : Int := (iadd .i64 x1.2.2.1.1 x3.2.1.1)
  let x11 : Int := (iadd .i64 x9 x10)
  some ((), ((x11, ()), (((none : Option Int), ()), ()))))))
def c_scale_Tai : List Nat := []
def L_scale_Tai (_ : Nat) : Pts po_scale_Tai.den := []
def E_scale_Tai : Env := (((E0.add 59 (typedSem pi_label_Split po_label_Split g_label_Split)).add 67 (typedSem pi_leap_Table_Has po_leap_Table_Has g_leap_Table_Has)).add 68 (typedSem pi_leap_Table_Offset po_leap_Table_Offset g_leap_Table_Offset))
theorem q_scale_Tai_m (k : Nat) (d : Unit × (((Option ((List (Int × Int)) × (Int × Int))) × Unit) × ((Int × (Int × (Int × (Int × (Int × (Int × (Int × (Int × Unit)))))))) × Unit))) : evCode E_scale_Tai (tab (L_scale_Tai k)) c_scale_Tai (bodyOf Try.f22) 0 (finK E_scale_Tai po_scale_Tai [.tmp 4, .tmp 5]) (startSt pi_scale_Tai 43 d) = f_scale_Tai_m () d := by kernel_rfl
def g_scale_Tai (d : Unit × (((Option ((List (Int × Int)) × (Int × Int))) × Unit) × ((Int × (Int × (Int × (Int × (Int × (Int × (Int × (Int × Unit)))))))) × Unit))) : Option (Unit × ((Int × Unit) × (((Option Int) × Unit) × Unit))) := f_scale_Tai_m () d
theorem ok_scale_Tai : FnOk Try.prog ET0 22 pi_scale_Tai po_scale_Tai g_scale_Tai :=
  fn_of_body (E := E_scale_Tai) (envOk_add (envOk_add (envOk_add e0_ok (typed_ok ok_label_Split)) (typed_ok ok_leap_Table_Has)) (typed_ok ok_leap_Table_Offset)) (fn := Try.f22) Try.func22 (by kernel_rfl) (by kernel_rfl) [.tmp 4, .tmp 5] (by kernel_rfl) (by kernel_rfl) (by decide) rfl c_scale_Tai L_scale_Tai
    (by intro x hx; cases hx) (by intro k x hx; cases hx) (fun d out h => ⟨0, (q_scale_Tai_m 0 d).trans h⟩)

/- horologe/day.Date -/
@[reducible] def pi_day_Date : PSh := ⟨[], [.mk false [.v (.int .i64)]]⟩
@[reducible] def po_day_Date : PSh := ⟨[], [.mk false [.v (.int .i64)], .mk false [.v (.int .i64)], .mk false [.v (.int .i64)], .mk false [.v .err]]⟩
def f_day_Date_m (T : Unit) (d : Unit × ((Int × Unit) × Unit)) : Option (Unit × ((Int × Unit) × ((Int × Unit) × ((Int × Unit) × (((Option Int) × Unit) × Unit))))) :=
  (g_day_First ((), ())).bind fun x1 =>
  let x2 : Bool := (decide (d.2.1.1 < x1.2.1.1))
  bif x2 then (
  let x3 : (Option Int) := (some (13 : Int))
  some ((), (((0 : Int), ()), (((0 : Int), ()), (((0 : Int), ()), ((x3, ()), ()))))))
  else (
  (g_day_Last ((), ())).bind fun x4 =>
  let x5 : Bool := (decide (d.2.1.1 > x4.2.1.1))
  bif x5 then (
  let x6 : (Option Int) := (some (13 : Int))
  some ((), (((0 : Int), ()), (((0 : Int), ()), (((0 : Int), ()), ((x6, ()), ()))))))
  else (
  let x7 : Int := (iadd .i64 d.2.1.1 (719468 : Int))
  (g_day_floor ((), ((x7, ()), (((146097 : Int), ()), ())))).bind fun x8 =>
  let x9 : Int := (iadd .i64 d.2.1.1 (719468 : Int))
  let x10 : Int := (imul .i64 x8.2.1.1 (146097 : Int))
  let x11 : Int := (isub .i64 x9 x10)
  let x12 : Int := (iquo .i64 x11 (1460 : Int))
  let x13 : Int := (isub .i64 x11 x12)
  let x14 : Int := (iquo .i64 x11 (36524 : Int))
  let x15 : Int := (iadd .i64 x13 x14)
  let x16 : Int := (iquo .i64 x11 (146096 : Int))
  let x17 : Int := (isub .i64 x15 x16)
  let x18 : Int := (iquo .i64 x17 (365 : Int))
  let x19 : Int := (imul .i64 (365 : Int) x18)
  let x20 : Int := (iquo .i64 x18 (4 : Int))
  let x21 : Int := (iadd .i64 x19 x20)
  let x22 : Int := (iquo .i64 x18 (100 : Int))
  let x23 : Int := (isub .i64 x21 x22)
  let x24 : Int := (isub .i64 x11 x23)
  let x25 : Int := (imul .i64 (5 : Int) x24)
  let x26 : Int := (iadd .i64 x25 (2 : Int))
  let x27 : Int := (iquo .i64 x26 (153 : Int))
  let x28 : Int := (imul .i64 (153 : Int) x27)
  let x29 : Int := (iadd .i64 x28 (2 : Int))
  let x30 : Int := (iquo .i64 x29 (5 : Int))
  let x31 : Int := (isub .i64 x24 x30)
  let x32 : Int := (iadd .i64 x31 (1 : Int))
  let x33 : Int := (imul .i64 x8.2.1.1 (400 : Int))
  let x34 : Int := (iadd .i64 x18 x33)
  let x35 : Int := (iadd .i64 x27 (3 : Int))
  let x36 : Bool := (decide (x35 > (12 : Int)))
  bif x36 then (
  let x37 : Int := (isub .i64 x35 (12 : Int))
  let x38 : Int := (iadd .i64 x34 (1 : Int))
  some ((), ((x38, ()), ((x37, ()), ((x32, ()), (((none : Option Int), ()), ()))))))
  else (
  some ((), ((x34, ()), ((x35, ()), ((x32, ()), (((none : Option Int), ()), ()))))))))
def c_day_Date : List Nat := []
def L_day_Date (_ : Nat) : Pts po_day_Date.den := []
def E_day_Date : Env := (((E0.add 128 (typedSem pi_day_Last po_day_Last g_day_Last)).add 176 (typedSem pi_day_First po_day_First g_day_First)).add 177 (typedSem pi_day_floor po_day_floor g_day_floor))
theorem q_day_Date_m (k : Nat) (d : Unit × ((Int × Unit) × Unit)) : evCode E_day_Date (tab (L_day_Date k)) c_day_Date (bodyOf Try.f123) 0 (finK E_day_Date po_day_Date [.tmp 2, .tmp 3, .tmp 4, .tmp 5]) (startSt pi_day_Date 77 d) = f_day_Date_m () d := by kernel_rfl
def g_day_Date (d : Unit × ((Int × Unit) × Unit)) : Option (Unit × ((Int × Unit) × ((Int × Unit) × ((Int × Unit) × (((Option Int) × Unit) × Unit))))) := f_day_Date_m () d
theorem ok_day_Date : FnOk Try.prog ET0 123 pi_day_Date po_day_Date g_day_Date :=
  fn_of_body (E := E_day_Date) (envOk_add (envOk_add (envOk_add e0_ok (typed_ok ok_day_Last)) (typed_ok ok_day_First)) (typed_ok ok_day_floor)) (fn := Try.f123) Try.func123 (by kernel_rfl) (by kernel_rfl) [.tmp 2, .tmp 3, .tmp 4, .tmp 5] (by kernel_rfl) (by kernel_rfl) (by decide) rfl c_day_Date L_day_Date
    (by intro x hx; cases hx) (by intro k x hx; cases hx) (fun d out h => ⟨0, (q_day_Date_m 0 d).trans h⟩)

/- (horologe/leap.Row).dated -/
@[reducible] def pi_leap_Row_dated : PSh := ⟨[], [.mk true [.v (.int .i64), .v (.int .i64)]]⟩
@[reducible] def po_leap_Row_dated : PSh := ⟨[], [.mk false [.v .bool]]⟩
def f_leap_Row_dated_m (T : Unit) (d : Unit × ((Int × (Int × Unit)) × Unit)) : Option (Unit × ((Bool × Unit) × Unit)) :=
  (g_day_Date ((), ((d.2.1.1, ()), ()))).bind fun x1 =>
  bif x1.2.2.2.2.1.1.isNone then (
  let x2 : Bool := (decide (x1.2.1.1 ≥ (1900 : Int)))
  some ((), ((x2, ()), ())))
  else (
  some ((), ((false, ()), ())))
def c_leap_Row_dated : List Nat := []
def L_leap_Row_dated (_ : Nat) : Pts po_leap_Row_dated.den := []
def E_leap_Row_dated : Env := (E0.add 123 (typedSem pi_day_Date po_day_Date g_day_Date))
theorem q_leap_Row_dated_m (k : Nat) (d : Unit × ((Int × (Int × Unit)) × Unit)) : evCode E_leap_Row_dated (tab (L_leap_Row_dated k)) c_leap_Row_dated (bodyOf Try.f75) 0 (finK E_leap_Row_dated po_leap_Row_dated [.tmp 2]) (startSt pi_leap_Row_dated 21 d) = f_leap_Row_dated_m () d := by kernel_rfl
def g_leap_Row_dated (d : Unit × ((Int × (Int × Unit)) × Unit)) : Option (Unit × ((Bool × Unit) × Unit)) := f_leap_Row_dated_m () d
theorem ok_leap_Row_dated : FnOk Try.prog ET0 75 pi_leap_Row_dated po_leap_Row_dated g_leap_Row_dated :=
  fn_of_body (E := E_leap_Row_dated) (envOk_add e0_ok (typed_ok ok_day_Date)) (fn := Try.f75) Try.func75 (by kernel_rfl) (by kernel_rfl) [.tmp 2] (by kernel_rfl) (by kernel_rfl) (by decide) rfl c_leap_Row_dated L_leap_Row_dated
    (by intro x hx; cases hx) (by intro k x hx; cases hx) (fun d out h => ⟨0, (q_leap_Row_dated_m 0 d).trans h⟩)

/- horologe/leap.New$1 -/
@[reducible] def pi_leap_New_1 : PSh := ⟨[], [.mk true [.v (.int .i64), .v (.int .i64)]]⟩
@[reducible] def po_leap_New_1 : PSh := ⟨[], [.mk false [.v .bool]]⟩
def f_leap_New_1_m (T : Unit) (d : Unit × ((Int × (Int × Unit)) × Unit)) : Option (Unit × ((Bool × Unit) × Unit)) :=
  (g_leap_Row_dated ((), ((d.2.1.1, (d.2.1.2.1, ())), ()))).bind fun x1 =>
  let x2 : Bool := (!x1.2.1.1)
  some ((), ((x2, ()), ()))
def c_leap_New_1 : List Nat := []
def L_leap_New_1 (_ : Nat) : Pts po_leap_New_1.den := []
def E_leap_New_1 : Env := (E0.add 75 (typedSem pi_leap_Row_dated po_leap_Row_dated g_leap_Row_dated))
theorem q_leap_New_1_m (k : Nat) (d : Unit × ((Int × (Int × Unit)) × Unit)) : evCode E_leap_New_1 (tab (L_leap_New_1 k)) c_leap_New_1 (bodyOf Try.f74) 0 (finK E_leap_New_1 po_leap_New_1 [.tmp 2]) (startSt pi_leap_New_1 6 d) = f_leap_New_1_m () d := by kernel_rfl
def g_leap_New_1 (d : Unit × ((Int × (Int × Unit)) × Unit)) : Option (Unit × ((Bool × Unit) × Unit)) := f_leap_New_1_m () d
theorem ok_leap_New_1 : FnOk Try.prog ET0 74 pi_leap_New_1 po_leap_New_1 g_leap_New_1 :=
  fn_of_body (E := E_leap_New_1) (envOk_add e0_ok (typed_ok ok_leap_Row_dated)) (fn := Try.f74) Try.func74 (by kernel_rfl) (by kernel_rfl) [.tmp 2] (by kernel_rfl) (by kernel_rfl) (by decide) rfl c_leap_New_1 L_leap_New_1
    (by intro x hx; cases hx) (by intro k x hx; cases hx) (fun d out h => ⟨0, (q_leap_New_1_m 0 d).trans h⟩)

/- (horologe/leap.Row).may -/
@[reducible] def pi_leap_Row_may : PSh := ⟨[], [.mk true [.v (.int .i64), .v (.int .i64)]]⟩
@[reducible] def po_leap_Row_may : PSh := ⟨[], [.mk false [.v .bool]]⟩
def f_leap_Row_may_m (T : Unit) (d : Unit × ((Int × (Int × Unit)) × Unit)) : Option (Unit × ((Bool × Unit) × Unit)) :=
  (g_day_Date ((), ((d.2.1.1, ()), ()))).bind fun x1 =>
  bif x1.2.2.2.2.1.1.isNone then (
  let x2 : Bool := (x1.2.2.2.1.1 == (1 : Int))
  bif x2 then (
  let x3 : Bool := (decide (d.2.1.2.1 ≥ (0 : Int)))
  bif x3 then (
  let x4 : Bool := (decide (d.2.1.2.1 ≤ (1000 : Int)))
  some ((), ((x4, ()), ())))
  else (
  some ((), ((false, ()), ()))))
  else (
  some ((), ((false, ()), ()))))
  else (
  some ((), ((false, ()), ())))
def c_leap_Row_may : List Nat := []
def L_leap_Row_may (_ : Nat) : Pts po_leap_Row_may.den := []
def E_leap_Row_may : Env := (E0.add 123 (typedSem pi_day_Date po_day_Date g_day_Date))
theorem q_leap_Row_may_m (k : Nat) (d : Unit × ((Int × (Int × Unit)) × Unit)) : evCode E_leap_Row_may (tab (L_leap_Row_may k)) c_leap_Row_may (bodyOf Try.f77) 0 (finK E_leap_Row_may po_leap_Row_may [.tmp 2]) (startSt pi_leap_Row_may 31 d) = f_leap_Row_may_m () d := by kernel_rfl
def g_leap_Row_may (d : Unit × ((Int × (Int × Unit)) × Unit)) : Option (Unit × ((Bool × Unit) × Unit)) := f_leap_Row_may_m () d
theorem ok_leap_Row_may : FnOk Try.prog ET0 77 pi_leap_Row_may po_leap_Row_may g_leap_Row_may :=
  fn_of_body (E := E_leap_Row_may) (envOk_add e0_ok (typed_ok ok_day_Date)) (fn := Try.f77) Try.func77 (by kernel_rfl) (by kernel_rfl) [.tmp 2] (by kernel_rfl) (by kernel_rfl) (by decide) rfl c_leap_Row_may L_leap_Row_may
    (by intro x hx; cases hx) (by intro k x hx; cases hx) (fun d out h => ⟨0, (q_leap_Row_may_m 0 d).trans h⟩)

/- horologe/leap.New$2 -/
@[reducible] def pi_leap_New_2 : PSh := ⟨[], [.mk true [.v (.int .i64), .v (.int .i64)]]⟩
@[reducible] def po_leap_New_2 : PSh := ⟨[], [.mk false [.v .bool]]⟩
def f_leap_New_2_m (T : Unit) (d : Unit × ((Int × (Int × Unit)) × Unit)) : Option (Unit × ((Bool × Unit) × Unit)) :=
  (g_leap_Row_may ((), ((d.2.1.1, (d.2.1.2.1, ())), ()))).bind fun x1 =>
  let x2 : Bool := (!x1.2.1.1)
  some ((), ((x2, ()), ()))
def c_leap_New_2 : List Nat := []
def L_leap_New_2 (_ : Nat) : Pts po_leap_New_2.den := []
def E_leap_New_2 : Env := (E0.add 77 (typedSem pi_leap_Row_may po_leap_Row_may g_leap_Row_may))
theorem q_leap_New_2_m (k : Nat) (d : Unit × ((Int × (Int × Unit)) × Unit)) : evCode E_leap_New_2 (tab (L_leap_New_2 k)) c_leap_New_2 (bodyOf Try.f76) 0 (finK E_leap_New_2 po_leap_New_2 [.tmp 2]) (startSt pi_leap_New_2 6 d) = f_leap_New_2_m () d := by kernel_rfl
def g_leap_New_2 (d : Unit × ((Int × (Int × Unit)) × Unit)) : Option (Unit × ((Bool × Unit) × Unit)) := f_leap_New_2_m () d
theorem ok_leap_New_2 : FnOk Try.prog ET0 76 pi_leap_New_2 po_leap_New_2 g_leap_New_2 :=
  fn_of_body (E := E_leap_New_2) (envOk_add e0_ok (typed_ok ok_leap_Row_may)) (fn := Try.f76) Try.func76 (by kernel_rfl) (by kernel_rfl) [.tmp 2] (by kernel_rfl) (by kernel_rfl) (by decide) rfl c_leap_New_2 L_leap_New_2
    (by intro x hx; cases hx) (by intro k x hx; cases hx) (fun d out h => ⟨0, (q_leap_New_2_m 0 d).trans h⟩)

/- horologe/leap.time -/
@[reducible] def pi_leap_time : PSh := ⟨[], [.mk false [.v (.int .i64)]]⟩
@[reducible] def po_leap_time : PSh := ⟨[], [.mk false [.v .bool]]⟩
def f_leap_time_m (T : Unit) (d : Unit × ((Int × Unit) × Unit)) : Option (Unit × ((Bool × Unit) × Unit)) :=
  let x1 : Bool := (decide (d.2.1.1 ≥ (0 : Int)))
  bif x1 then (
  let x2 : Bool := (decide (d.2.1.1 ≤ (1099511627776 : Int)))
  some ((), ((x2, ()), ())))
  else (
  some ((), ((false, ()), ())))
def c_leap_time : List Nat := []
def L_leap_time (_ : Nat) : Pts po_leap_time.den := []
def E_leap_time : Env := E0
theorem q_leap_time_m (k : Nat) (d : Unit × ((Int × Unit) × Unit)) : evCode E_leap_time (tab (L_leap_time k)) c_leap_time (bodyOf Try.f79) 0 (finK E_leap_time po_leap_time [.tmp 2]) (startSt pi_leap_time 9 d) = f_leap_time_m () d := by kernel_rfl
def g_leap_time (d : Unit × ((Int × Unit) × Unit)) : Option (Unit × ((Bool × Unit) × Unit)) := f_leap_time_m () d
theorem ok_leap_time : FnOk Try.prog ET0 79 pi_leap_time po_leap_time g_leap_time :=
  fn_of_body (E := E_leap_time) e0_ok (fn := Try.f79) Try.func79 (by kernel_rfl) (by kernel_rfl) [.tmp 2] (by kernel_rfl) (by kernel_rfl) (by decide) rfl c_leap_time L_leap_time
    (by intro x hx; cases hx) (by intro k x hx; cases hx) (fun d out h => ⟨0, (q_leap_time_m 0 d).trans h⟩)

/- (horologe/leap.Row).follows -/
@[reducible] def pi_leap_Row_follows : PSh := ⟨[], [.mk true [.v (.int .i64), .v (.int .i64)], .mk true [.v (.int .i64), .v (.int .i64)]]⟩
@[reducible] def po_leap_Row_follows : PSh := ⟨[], [.mk false [.v .bool]]⟩
def f_leap_Row_follows_m (T : Unit) (d : Unit × ((Int × (Int × Unit)) × ((Int × (Int × Unit)) × Unit))) : Option (Unit × ((Bool × Unit) × Unit)) :=
  let x1 : Int := (isub .i64 d.2.1.2.1 d.2.2.1.2.1)
  let x2 : Bool := (decide (d.2.1.1 > d.2.2.1.1))
  bif x2 then (
  let x3 : Bool := (x1 == (1 : Int))
  bif x3 then (
  some ((), ((true, ()), ())))
  else (
  let x4 : Bool := (x1 == (-1 : Int))
  some ((), ((x4, ()), ()))))
  else (
  some ((), ((false, ()), ())))
def c_leap_Row_follows : List Nat := []
def L_leap_Row_follows (_ : Nat) : Pts po_leap_Row_follows.den := []
def E_leap_Row_follows : Env := E0
theorem q_leap_Row_follows_m (k : Nat) (d : Unit × ((Int × (Int × Unit)) × ((Int × (Int × Unit)) × Unit))) : evCode E_leap_Row_follows (tab (L_leap_Row_follows k)) c_leap_Row_follows (bodyOf Try.f130) 0 (finK E_leap_Row_follows po_leap_Row_follows [.tmp 4]) (startSt pi_leap_Row_follows 24 d) = f_leap_Row_follows_m () d := by kernel_rfl
def g_leap_Row_follows (d : Unit × ((Int × (Int × Unit)) × ((Int × (Int × Unit)) × Unit))) : Option (Unit × ((Bool × Unit) × Unit)) := f_leap_Row_follows_m () d
theorem ok_leap_Row_follows : FnOk Try.prog ET0 130 pi_leap_Row_follows po_leap_Row_follows g_leap_Row_follows :=
  fn_of_body (E := E_leap_Row_follows) e0_ok (fn := Try.f130) Try.func130 (by kernel_rfl) (by kernel_rfl) [.tmp 4] (by kernel_rfl) (by kernel_rfl) (by decide) rfl c_leap_Row_follows L_leap_Row_follows
    (by intro x hx; cases hx) (by intro k x hx; cases hx) (fun d out h => ⟨0, (q_leap_Row_follows_m 0 d).trans h⟩)

/- horologe/leap.rise -/
@[reducible] def pi_leap_rise : PSh := ⟨[], [.mk false [.v (.sl (.pair (.int .i64) (.int .i64)))]]⟩
@[reducible] def po_leap_rise : PSh := ⟨[], [.mk false [.v .bool]]⟩
@[reducible] def TT_leap_rise : Type := (((Unit × (((List (Int × Int)) × Unit) × ((Int × Unit) × Unit))) → Option (Unit × ((Bool × Unit) × Unit))) × Unit)
@[reducible] def sh_leap_rise_3 : PSh := ⟨[], [.mk false [.v (.sl (.pair (.int .i64) (.int .i64)))], .any, .any, .mk false [.v (.int .i64)], .any, .any, .any, .any, .any, .any, .any, .any, .any, .any, .any, .any, .any, .any, .any, .any, .any]⟩
def f_leap_rise_p3 (T : TT_leap_rise) (d : Unit × (((List (Int × Int)) × Unit) × ((Int × Unit) × Unit))) : Option (Unit × ((Bool × Unit) × Unit)) :=
  let x1 : Int := (d.2.1.1.length : Int)
  let x2 : Bool := (decide (d.2.2.1.1 < x1))
  bif x2 then (
  bif decide ((0 : Int) ≤ d.2.2.1.1) && decide (d.2.2.1.1 < (d.2.1.1.length : Int)) then (
  let x3 : Int := (isub .i64 d.2.2.1.1 (1 : Int))
  bif decide ((0 : Int) ≤ x3) && decide (x3 < (d.2.1.1.length : Int)) then (
  (g_leap_Row_follows ((), (((gd_i64_i64 d.2.1.1 d.2.2.1.1).1, ((gd_i64_i64 d.2.1.1 d.2.2.1.1).2, ())), (((gd_i64_i64 d.2.1.1 x3).1, ((gd_i64_i64 d.2.1.1 x3).2, ())), ())))).bind fun x4 =>
  let x5 : Bool := (!x4.2.1.1)
  bif x5 then (
  some ((), ((false, ()), ())))
  else (
  let x6 : Int := (iadd .i64 d.2.2.1.1 (1 : Int))
  (T.1 ((), ((d.2.1.1, ()), ((x6, ()), ()))))))
  else none)
  else none)
  else (
  some ((), ((true, ()), ())))
def f_leap_rise_t : Nat → TT_leap_rise
  | 0 => (fun _ => none, ())
  | k + 1 => (f_leap_rise_p3 (f_leap_rise_t k), ())
theorem t_leap_rise (k : Nat) : f_leap_rise_t (k + 1) = (f_leap_rise_p3 (f_leap_rise_t k), ()) := rfl
def f_leap_rise_m (T : TT_leap_rise) (d : Unit × (((List (Int × Int)) × Unit) × Unit)) : Option (Unit × ((Bool × Unit) × Unit)) :=
  (T.1 ((), ((d.2.1.1, ()), (((1 : Int), ()), ()))))
def c_leap_rise : List Nat := []
def L_leap_rise (k : Nat) : Pts po_leap_rise.den := [(3, ⟨sh_leap_rise_3, (f_leap_rise_t k).1⟩)]
def E_leap_rise : Env := (E0.add 130 (typedSem pi_leap_Row_follows po_leap_Row_follows g_leap_Row_follows))
theorem q_leap_rise_3 (k : Nat) (d : Unit × (((List (Int × Int)) × Unit) × ((Int × Unit) × Unit))) : evAt E_leap_rise (tab (L_leap_rise k)) c_leap_rise 3 (bodyOf Try.f80) 0 (finK E_leap_rise po_leap_rise [.tmp 2]) (ptSt sh_leap_rise_3 d) = f_leap_rise_p3 (f_leap_rise_t k) d := by kernel_rfl
theorem q_leap_rise_m (k : Nat) (d : Unit × (((List (Int × Int)) × Unit) × Unit)) : evCode E_leap_rise (tab (L_leap_rise k)) c_leap_rise (bodyOf Try.f80) 0 (finK E_leap_rise po_leap_rise [.tmp 2]) (startSt pi_leap_rise 21 d) = f_leap_rise_m (f_leap_rise_t k) d := by kernel_rfl
theorem go_leap_rise (G : Unit × (((List (Int × Int)) × Unit) × Unit) → Option (Unit × ((Bool × Unit) × Unit))) (hG : ∀ d out, G d = some out → ∃ k, f_leap_rise_m (f_leap_rise_t k) d = some out) : FnOk Try.prog ET0 80 pi_leap_rise po_leap_rise G :=
  fn_of_body (E := E_leap_rise) (envOk_add e0_ok (typed_ok ok_leap_Row_follows)) (fn := Try.f80) Try.func80 (by kernel_rfl) (by kernel_rfl) [.tmp 2] (by kernel_rfl) (by kernel_rfl) (by decide) rfl c_leap_rise L_leap_rise
    (by intro x hx d; simp only [L_leap_rise, List.mem_cons, List.not_mem_nil, or_false] at hx; subst hx; rfl)
    (by intro k x hx d out h; simp only [L_leap_rise, List.mem_cons, List.not_mem_nil, or_false] at hx; subst hx; exact (q_leap_rise_3 k d).trans h)
    (by intro d out h; obtain ⟨k, hk⟩ := hG d out h; exact ⟨k, (q_leap_rise_m k d).trans hk⟩)
def g_leap_rise (d : Unit × (((List (Int × Int)) × Unit) × Unit)) : Option (Unit × ((Bool × Unit) × Unit)) := lim fun k => f_leap_rise_m (f_leap_rise_t k) d
theorem ok_leap_rise : FnOk Try.prog ET0 80 pi_leap_rise po_leap_rise g_leap_rise := go_leap_rise g_leap_rise fun d out h => lim_some h

/- slices.Clone[[]horologe/leap.Row,horologe/leap.Row] -/
@[reducible] def pi_slices_Clone_leap_Row_leap_Row : PSh := ⟨[], [.mk false [.v (.sl (.pair (.int .i64) (.int .i64)))]]⟩
@[reducible] def po_slices_Clone_leap_Row_leap_Row : PSh := ⟨[.row 119 (.pair (.int .i64) (.int .i64))], [.mk false [.osl 0]]⟩
def f_slices_Clone_leap_Row_leap_Row_m (T : Unit) (d : Unit × (((List (Int × Int)) × Unit) × Unit)) : Option (((List (Int × Int)) × Unit) × (Unit × Unit)) :=
  bif d.2.1.1.isEmpty then (
  agree (
  some ((([] : List (Int × Int)), ()), ((), ()))) (
  let x1 : (List (Int × Int)) := ([] : List (Int × Int))
  bif decide (((x1.length + d.2.1.1.length) * 16 : Nat) ≤ 140737488355328) && decide (x1.length + d.2.1.1.length ≤ 9223372036854775807) then (
  let x2 : (List (Int × Int)) := (x1 ++ d.2.1.1)
  some ((x2, ()), ((), ())))
  else none))
  else (
  let x3 : (List (Int × Int)) := ([] : List (Int × Int))
  bif decide (((x3.length + d.2.1.1.length) * 16 : Nat) ≤ 140737488355328) && decide (x3.length + d.2.1.1.length ≤ 9223372036854775807) then (
  let x4 : (List (Int × Int)) := (x3 ++ d.2.1.1)
  some ((x4, ()), ((), ())))
  else none)
def c_slices_Clone_leap_Row_leap_Row : List Nat := []
def L_slices_Clone_leap_Row_leap_Row (_ : Nat) : Pts po_slices_Clone_leap_Row_leap_Row.den := []
def E_slices_Clone_leap_Row_leap_Row : Env := E0
theorem q_slices_Clone_leap_Row_leap_Row_m (k : Nat) (d : Unit × (((List (Int × Int)) × Unit) × Unit)) : evCode E_slices_Clone_leap_Row_leap_Row (tab (L_slices_Clone_leap_Row_leap_Row k)) c_slices_Clone_leap_Row_leap_Row (bodyOf Try.f81) 0 (finK E_slices_Clone_leap_Row_leap_Row po_slices_Clone_leap_Row_leap_Row [.tmp 2]) (startSt pi_slices_Clone_leap_Row_leap_Row 8 d) = f_slices_Clone_leap_Row_leap_Row_m () d := by kernel_rfl
def g_slices_Clone_leap_Row_leap_Row (d : Unit × (((List (Int × Int)) × Unit) × Unit)) : Option (((List (Int × Int)) × Unit) × (Unit × Unit)) := f_slices_Clone_leap_Row_leap_Row_m () d
theorem ok_slices_Clone_leap_Row_leap_Row : FnOk Try.prog ET0 81 pi_slices_Clone_leap_Row_leap_Row po_slices_Clone_leap_Row_leap_Row g_slices_Clone_leap_Row_leap_Row :=
  fn_of_body (E := E_slices_Clone_leap_Row_leap_Row) e0_ok (fn := Try.f81) Try.func81 (by kernel_rfl) (by kernel_rfl) [.tmp 2] (by kernel_rfl) (by kernel_rfl) (by decide) rfl c_slices_Clone_leap_Row_leap_Row L_slices_Clone_leap_Row_leap_Row
    (by intro x hx; cases hx) (by intro k x hx; cases hx) (fun d out h => ⟨0, (q_slices_Clone_leap_Row_leap_Row_m 0 d).trans h⟩)

/- slices.IndexFunc[[]horologe/leap.Row,horologe/leap.Row] -/
@[reducible] def pi_slices_IndexFunc_leap_Row_leap_Row_leap_New_1 : PSh := ⟨[], [.mk false [.v (.sl (.pair (.int .i64) (.int .i64)))], .mk false [.fn 74 []]]⟩
@[reducible] def po_slices_IndexFunc_leap_Row_leap_Row_leap_New_1 : PSh := ⟨[], [.mk false [.v (.int .i64)]]⟩
@[reducible] def TT_slices_IndexFunc_leap_Row_leap_Row_leap_New_1 : Type := (((Unit × (((List (Int × Int)) × Unit) × (Unit × ((Int × Unit) × ((Int × Unit) × Unit))))) → Option (Unit × ((Int × Unit) × Unit))) × Unit)
@[reducible] def sh_slices_IndexFunc_leap_Row_leap_Row_leap_New_1_3 : PSh := ⟨[], [.mk false [.v (.sl (.pair (.int .i64) (.int .i64)))], .mk false [.fn 74 []], .any, .any, .any, .any, .any, .mk false [.v (.int .i64)], .mk false [.v (.int .i64)], .any, .any, .any, .any, .any, .any, .any, .any, .any, .any]⟩
def f_slices_IndexFunc_leap_Row_leap_Row_leap_New_1_p3 (T : TT_slices_IndexFunc_leap_Row_leap_Row_leap_New_1) (d : Unit × (((List (Int × Int)) × Unit) × (Unit × ((Int × Unit) × ((Int × Unit) × Unit))))) : Option (Unit × ((Int × Unit) × Unit)) :=
  let x2 : Bool := (decide (d.2.2.2.2.1.1 < d.2.2.2.1.1))
  bif x2 then (
  bif decide ((0 : Int) ≤ d.2.2.2.2.1.1) && decide (d.2.2.2.2.1.1 < (d.2.1.1.length : Int)) then (
  (g_leap_New_1 ((), (((gd_i64_i64 d.2.1.1 d.2.2.2.2.1.1).1, ((gd_i64_i64 d.2.1.1 d.2.2.2.2.1.1).2, ())), ()))).bind fun x3 =>
  bif x3.2.1.1 then (
  some ((), ((d.2.2.2.2.1.1, ()), ())))
  else (
  let x4 : Int := (iadd .i64 d.2.2.2.2.1.1 (1 : Int))
  (T.1 ((), ((d.2.1.1, ()), ((), ((d.2.2.2.1.1, ()), ((x4, ()), ()))))))))
  else none)
  else (
  some ((), (((-1 : Int), ()), ())))
def f_slices_IndexFunc_leap_Row_leap_Row_leap_New_1_t : Nat → TT_slices_IndexFunc_leap_Row_leap_Row_leap_New_1
  | 0 => (fun _ => none, ())
  | k + 1 => (f_slices_IndexFunc_leap_Row_leap_Row_leap_New_1_p3 (f_slices_IndexFunc_leap_Row_leap_Row_leap_New_1_t k), ())
theorem t_slices_IndexFunc_leap_Row_leap_Row_leap_New_1 (k : Nat) : f_slices_IndexFunc_leap_Row_leap_Row_leap_New_1_t (k + 1) = (f_slices_IndexFunc_leap_Row_leap_Row_leap_New_1_p3 (f_slices_IndexFunc_leap_Row_leap_Row_leap_New_1_t k), ()) := rfl
def f_slices_IndexFunc_leap_Row_leap_Row_leap_New_1_m (T : TT_slices_IndexFunc_leap_Row_leap_Row_leap_New_1) (d : Unit × (((List (Int × Int)) × Unit) × (Unit × Unit))) : Option (Unit × ((Int × Unit) × Unit)) :=
  let x1 : Int := (d.2.1.1.length : Int)
  (T.1 ((), ((d.2.1.1, ()), ((), ((x1, ()), (((0 : Int), ()), ()))))))
def c_slices_IndexFunc_leap_Row_leap_Row_leap_New_1 : List Nat := []
def L_slices_IndexFunc_leap_Row_leap_Row_leap_New_1 (k : Nat) : Pts po_slices_IndexFunc_leap_Row_leap_Row_leap_New_1.den := [(3, ⟨sh_slices_IndexFunc_leap_Row_leap_Row_leap_New_1_3, (f_slices_IndexFunc_leap_Row_leap_Row_leap_New_1_t k).1⟩)]
def E_slices_IndexFunc_leap_Row_leap_Row_leap_New_1 : Env := (E0.add 74 (typedSem pi_leap_New_1 po_leap_New_1 g_leap_New_1))
theorem q_slices_IndexFunc_leap_Row_leap_Row_leap_New_1_3 (k : Nat) (d : Unit × (((List (Int × Int)) × Unit) × (Unit × ((Int × Unit) × ((Int × Unit) × Unit))))) : evAt E_slices_IndexFunc_leap_Row_leap_Row_leap_New_1 (tab (L_slices_IndexFunc_leap_Row_leap_Row_leap_New_1 k)) c_slices_IndexFunc_leap_Row_leap_Row_leap_New_1 3 (bodyOf Try.f129) 0 (finK E_slices_IndexFunc_leap_Row_leap_Row_leap_New_1 po_slices_IndexFunc_leap_Row_leap_Row_leap_New_1 [.tmp 4]) (ptSt sh_slices_IndexFunc_leap_Row_leap_Row_leap_New_1_3 d) = f_slices_IndexFunc_leap_Row_leap_Row_leap_New_1_p3 (f_slices_IndexFunc_leap_Row_leap_Row_leap_New_1_t k) d := by kernel_rfl
theorem q_slices_IndexFunc_leap_Row_leap_Row_leap_New_1_m (k : Nat) (d : Unit × (((List (Int × Int)) × Unit) × (Unit × Unit))) : evCode E_slices_IndexFunc_leap_Row_leap_Row_leap_New_1 (tab (L_slices_IndexFunc_leap_Row_leap_Row_leap_New_1 k)) c_slices_IndexFunc_leap_Row_leap_Row_leap_New_1 (bodyOf Try.f129) 0 (finK E_slices_IndexFunc_leap_Row_leap_Row_leap_New_1 po_slices_IndexFunc_leap_Row_leap_Row_leap_New_1 [.tmp 4]) (startSt pi_slices_IndexFunc_leap_Row_leap_Row_leap_New_1 19 d) = f_slices_IndexFunc_leap_Row_leap_Row_leap_New_1_m (f_slices_IndexFunc_leap_Row_leap_Row_leap_New_1_t k) d := by kernel_rfl
theorem go_slices_IndexFunc_leap_Row_leap_Row_leap_New_1 (G : Unit × (((List (Int × Int)) × Unit) × (Unit × Unit)) → Option (Unit × ((Int × Unit) × Unit))) (hG : ∀ d out, G d = some out → ∃ k, f_slices_IndexFunc_leap_Row_leap_Row_leap_New_1_m (f_slices_IndexFunc_leap_Row_leap_Row_leap_New_1_t k) d = some out) : FnOk Try.prog ET0 129 pi_slices_IndexFunc_leap_Row_leap_Row_leap_New_1 po_slices_IndexFunc_leap_Row_leap_Row_leap_New_1 G :=
  fn_of_body (E := E_slices_IndexFunc_leap_Row_leap_Row_leap_New_1) (envOk_add e0_ok (typed_ok ok_leap_New_1)) (fn := Try.f129) Try.func129 (by kernel_rfl) (by kernel_rfl) [.tmp 4] (by kernel_rfl) (by kernel_rfl) (by decide) rfl c_slices_IndexFunc_leap_Row_leap_Row_leap_New_1 L_slices_IndexFunc_leap_Row_leap_Row_leap_New_1
    (by intro x hx d; simp only [L_slices_IndexFunc_leap_Row_leap_Row_leap_New_1, List.mem_cons, List.not_mem_nil, or_false] at hx; subst hx; rfl)
    (by intro k x hx d out h; simp only [L_slices_IndexFunc_leap_Row_leap_Row_leap_New_1, List.mem_cons, List.not_mem_nil, or_false] at hx; subst hx; exact (q_slices_IndexFunc_leap_Row_leap_Row_leap_New_1_3 k d).trans h)
    (by intro d out h; obtain ⟨k, hk⟩ := hG d out h; exact ⟨k, (q_slices_IndexFunc_leap_Row_leap_Row_leap_New_1_m k d).trans hk⟩)
def g_slices_IndexFunc_leap_Row_leap_Row_leap_New_1 (d : Unit × (((List (Int × Int)) × Unit) × (Unit × Unit))) : Option (Unit × ((Int × Unit) × Unit)) := lim fun k => f_slices_IndexFunc_leap_Row_leap_Row_leap_New_1_m (f_slices_IndexFunc_leap_Row_leap_Row_leap_New_1_t k) d
theorem ok_slices_IndexFunc_leap_Row_leap_Row_leap_New_1 : FnOk Try.prog ET0 129 pi_slices_IndexFunc_leap_Row_leap_Row_leap_New_1 po_slices_IndexFunc_leap_Row_leap_Row_leap_New_1 g_slices_IndexFunc_leap_Row_leap_Row_leap_New_1 := go_slices_IndexFunc_leap_Row_leap_Row_leap_New_1 g_slices_IndexFunc_leap_Row_leap_Row_leap_New_1 fun d out h => lim_some h

/- slices.ContainsFunc[[]horologe/leap.Row,horologe/leap.Row] -/
@[reducible] def pi_slices_ContainsFunc_leap_Row_leap_Row_leap_New_1 : PSh := ⟨[], [.mk false [.v (.sl (.pair (.int .i64) (.int .i64)))], .mk false [.fn 74 []]]⟩
@[reducible] def po_slices_ContainsFunc_leap_Row_leap_Row_leap_New_1 : PSh := ⟨[], [.mk false [.v .bool]]⟩
def f_slices_ContainsFunc_leap_Row_leap_Row_leap_New_1_m (T : Unit) (d : Unit × (((List (Int × Int)) × Unit) × (Unit × Unit))) : Option (Unit × ((Bool × Unit) × Unit)) :=
  (g_slices_IndexFunc_leap_Row_leap_Row_leap_New_1 ((), ((d.2.1.1, ()), ((), ())))).bind fun x1 =>
  let x2 : Bool := (decide (x1.2.1.1 ≥ (0 : Int)))
  some ((), ((x2, ()), ()))
def c_slices_ContainsFunc_leap_Row_leap_Row_leap_New_1 : List Nat := []
def L_slices_ContainsFunc_leap_Row_leap_Row_leap_New_1 (_ : Nat) : Pts po_slices_ContainsFunc_leap_Row_leap_Row_leap_New_1.den := []
def E_slices_ContainsFunc_leap_Row_leap_Row_leap_New_1 : Env := (E0.add 129 (typedSem pi_slices_IndexFunc_leap_Row_leap_Row_leap_New_1 po_slices_IndexFunc_leap_Row_leap_Row_leap_New_1 g_slices_IndexFunc_leap_Row_leap_Row_leap_New_1))
theorem q_slices_ContainsFunc_leap_Row_leap_Row_leap_New_1_m (k : Nat) (d : Unit × (((List (Int × Int)) × Unit) × (Unit × Unit))) : evCode E_slices_ContainsFunc_leap_Row_leap_Row_leap_New_1 (tab (L_slices_ContainsFunc_leap_Row_leap_Row_leap_New_1 k)) c_slices_ContainsFunc_leap_Row_leap_Row_leap_New_1 (bodyOf Try.f78) 0 (finK E_slices_ContainsFunc_leap_Row_leap_Row_leap_New_1 po_slices_ContainsFunc_leap_Row_leap_Row_leap_New_1 [.tmp 4]) (startSt pi_slices_ContainsFunc_leap_Row_leap_Row_leap_New_1 9 d) = f_slices_ContainsFunc_leap_Row_leap_Row_leap_New_1_m () d := by kernel_rfl
def g_slices_ContainsFunc_leap_Row_leap_Row_leap_New_1 (d : Unit × (((List (Int × Int)) × Unit) × (Unit × Unit))) : Option (Unit × ((Bool × Unit) × Unit)) := f_slices_ContainsFunc_leap_Row_leap_Row_leap_New_1_m () d
theorem ok_slices_ContainsFunc_leap_Row_leap_Row_leap_New_1 : FnOk Try.prog ET0 78 pi_slices_ContainsFunc_leap_Row_leap_Row_leap_New_1 po_slices_ContainsFunc_leap_Row_leap_Row_leap_New_1 g_slices_ContainsFunc_leap_Row_leap_Row_leap_New_1 :=
  fn_of_body (E := E_slices_ContainsFunc_leap_Row_leap_Row_leap_New_1) (envOk_add e0_ok (typed_ok ok_slices_IndexFunc_leap_Row_leap_Row_leap_New_1)) (fn := Try.f78) Try.func78 (by kernel_rfl) (by kernel_rfl) [.tmp 4] (by kernel_rfl) (by kernel_rfl) (by decide) rfl c_slices_ContainsFunc_leap_Row_leap_Row_leap_New_1 L_slices_ContainsFunc_leap_Row_leap_Row_leap_New_1
    (by intro x hx; cases hx) (by intro k x hx; cases hx) (fun d out h => ⟨0, (q_slices_ContainsFunc_leap_Row_leap_Row_leap_New_1_m 0 d).trans h⟩)

/- slices.IndexFunc[[]horologe/leap.Row,horologe/leap.Row] -/
@[reducible] def pi_slices_IndexFunc_leap_Row_leap_Row_leap_New_2 : PSh := ⟨[], [.mk false [.v (.sl (.pair (.int .i64) (.int .i64)))], .mk false [.fn 76 []]]⟩
@[reducible] def po_slices_IndexFunc_leap_Row_leap_Row_leap_New_2 : PSh := ⟨[], [.mk false [.v (.int .i64)]]⟩
@[reducible] def TT_slices_IndexFunc_leap_Row_leap_Row_leap_New_2 : Type := (((Unit × (((List (Int × Int)) × Unit) × (Unit × ((Int × Unit) × ((Int × Unit) × Unit))))) → Option (Unit × ((Int × Unit) × Unit))) × Unit)
@[reducible] def sh_slices_IndexFunc_leap_Row_leap_Row_leap_New_2_3 : PSh := ⟨[], [.mk false [.v (.sl (.pair (.int .i64) (.int .i64)))], .mk false [.fn 76 []], .any, .any, .any, .any, .any, .mk false [.v (.int .i64)], .mk false [.v (.int .i64)], .any, .any, .any, .any, .any, .any, .any, .any, .any, .any]⟩
def f_slices_IndexFunc_leap_Row_leap_Row_leap_New_2_p3 (T : TT_slices_IndexFunc_leap_Row_leap_Row_leap_New_2) (d : Unit × (((List (Int × Int)) × Unit) × (Unit × ((Int × Unit) × ((Int × Unit) × Unit))))) : Option (Unit × ((Int × Unit) × Unit)) :=
  let x2 : Bool := (decide (d.2.2.2.2.1.1 < d.2.2.2.1.1))
  bif x2 then (
  bif decide ((0 : Int) ≤ d.2.2.2.2.1.1) && decide (d.2.2.2.2.1.1 < (d.2.1.1.length : Int)) then (
  (g_leap_New_2 ((), (((gd_i64_i64 d.2.1.1 d.2.2.2.2.1.1).1, ((gd_i64_i64 d.2.1.1 d.2.2.2.2.1.1).2, ())), ()))).bind fun x3 =>
  bif x3.2.1.1 then (
  some ((), ((d.2.2.2.2.1.1, ()), ())))
  else (
  let x4 : Int := (iadd .i64 d.2.2.2.2.1.1 (1 : Int))
  (T.1 ((), ((d.2.1.1, ()), ((), ((d.2.2.2.1.1, ()), ((x4, ()), ()))))))))
  else none)
  else (
  some ((), (((-1 : Int), ()), ())))
def f_slices_IndexFunc_leap_Row_leap_Row_leap_New_2_t : Nat → TT_slices_IndexFunc_leap_Row_leap_Row_leap_New_2
  | 0 => (fun _ => none, ())
  | k + 1 => (f_slices_IndexFunc_leap_Row_leap_Row_leap_New_2_p3 (f_slices_IndexFunc_leap_Row_leap_Row_leap_New_2_t k), ())
theorem t_slices_IndexFunc_leap_Row_leap_Row_leap_New_2 (k : Nat) : f_slices_IndexFunc_leap_Row_leap_Row_leap_New_2_t (k + 1) = (f_slices_IndexFunc_leap_Row_leap_Row_leap_New_2_p3 (f_slices_IndexFunc_leap_Row_leap_Row_leap_New_2_t k), ()) := rfl
def f_slices_IndexFunc_leap_Row_leap_Row_leap_New_2_m (T : TT_slices_IndexFunc_leap_Row_leap_Row_leap_New_2) (d : Unit × (((List (Int × Int)) × Unit) × (Unit × Unit))) : Option (Unit × ((Int × Unit) × Unit)) :=
  let x1 : Int := (d.2.1.1.length : Int)
  (T.1 ((), ((d.2.1.1, ()), ((), ((x1, ()), (((0 : Int), ()), ()))))))
def c_slices_IndexFunc_leap_Row_leap_Row_leap_New_2 : List Nat := []
def L_slices_IndexFunc_leap_Row_leap_Row_leap_New_2 (k : Nat) : Pts po_slices_IndexFunc_leap_Row_leap_Row_leap_New_2.den := [(3, ⟨sh_slices_IndexFunc_leap_Row_leap_Row_leap_New_2_3, (f_slices_IndexFunc_leap_Row_leap_Row_leap_New_2_t k).1⟩)]
def E_slices_IndexFunc_leap_Row_leap_Row_leap_New_2 : Env := (E0.add 76 (typedSem pi_leap_New_2 po_leap_New_2 g_leap_New_2))
theorem q_slices_IndexFunc_leap_Row_leap_Row_leap_New_2_3 (k : Nat) (d : Unit × (((List (Int × Int)) × Unit) × (Unit × ((Int × Unit) × ((Int × Unit) × Unit))))) : evAt E_slices_IndexFunc_leap_Row_leap_Row_leap_New_2 (tab (L_slices_IndexFunc_leap_Row_leap_Row_leap_New_2 k)) c_slices_IndexFunc_leap_Row_leap_Row_leap_New_2 3 (bodyOf Try.f129) 0 (finK E_slices_IndexFunc_leap_Row_leap_Row_leap_New_2 po_slices_IndexFunc_leap_Row_leap_Row_leap_New_2 [.tmp 4]) (ptSt sh_slices_IndexFunc_leap_Row_leap_Row_leap_New_2_3 d) = f_slices_IndexFunc_leap_Row_leap_Row_leap_New_2_p3 (f_slices_IndexFunc_leap_Row_leap_Row_leap_New_2_t k) d := by kernel_rfl
theorem q_slices_IndexFunc_leap_Row_leap_Row_leap_New_2_m (k : Nat) (d : Unit × (((List (Int × Int)) × Unit) × (Unit × Unit))) : evCode E_slices_IndexFunc_leap_Row_leap_Row_leap_New_2 (tab (L_slices_IndexFunc_leap_Row_leap_Row_leap_New_2 k)) c_slices_IndexFunc_leap_Row_leap_Row_leap_New_2 (bodyOf Try.f129) 0 (finK E_slices_IndexFunc_leap_Row_leap_Row_leap_New_2 po_slices_IndexFunc_leap_Row_leap_Row_leap_New_2 [.tmp 4]) (startSt pi_slices_IndexFunc_leap_Row_leap_Row_leap_New_2 19 d) = f_slices_IndexFunc_leap_Row_leap_Row_leap_New_2_m (f_slices_IndexFunc_leap_Row_leap_Row_leap_New_2_t k) d := by kernel_rfl
theorem go_slices_IndexFunc_leap_Row_leap_Row_leap_New_2 (G : Unit × (((List (Int × Int)) × Unit) × (Unit × Unit)) → Option (Unit × ((Int × Unit) × Unit))) (hG : ∀ d out, G d = some out → ∃ k, f_slices_IndexFunc_leap_Row_leap_Row_leap_New_2_m (f_slices_IndexFunc_leap_Row_leap_Row_leap_New_2_t k) d = some out) : FnOk Try.prog ET0 129 pi_slices_IndexFunc_leap_Row_leap_Row_leap_New_2 po_slices_IndexFunc_leap_Row_leap_Row_leap_New_2 G :=
  fn_of_body (E := E_slices_IndexFunc_leap_Row_leap_Row_leap_New_2) (envOk_add e0_ok (typed_ok ok_leap_New_2)) (fn := Try.f129) Try.func129 (by kernel_rfl) (by kernel_rfl) [.tmp 4] (by kernel_rfl) (by kernel_rfl) (by decide) rfl c_slices_IndexFunc_leap_Row_leap_Row_leap_New_2 L_slices_IndexFunc_leap_Row_leap_Row_leap_New_2
    (by intro x hx d; simp only [L_slices_IndexFunc_leap_Row_leap_Row_leap_New_2, List.mem_cons, List.not_mem_nil, or_false] at hx; subst hx; rfl)
    (by intro k x hx d out h; simp only [L_slices_IndexFunc_leap_Row_leap_Row_leap_New_2, List.mem_cons, List.not_mem_nil, or_false] at hx; subst hx; exact (q_slices_IndexFunc_leap_Row_leap_Row_leap_New_2_3 k d).trans h)
    (by intro d out h; obtain ⟨k, hk⟩ := hG d out h; exact ⟨k, (q_slices_IndexFunc_leap_Row_leap_Row_leap_New_2_m k d).trans hk⟩)
def g_slices_IndexFunc_leap_Row_leap_Row_leap_New_2 (d : Unit × (((List (Int × Int)) × Unit) × (Unit × Unit))) : Option (Unit × ((Int × Unit) × Unit)) := lim fun k => f_slices_IndexFunc_leap_Row_leap_Row_leap_New_2_m (f_slices_IndexFunc_leap_Row_leap_Row_leap_New_2_t k) d
theorem ok_slices_IndexFunc_leap_Row_leap_Row_leap_New_2 : FnOk Try.prog ET0 129 pi_slices_IndexFunc_leap_Row_leap_Row_leap_New_2 po_slices_IndexFunc_leap_Row_leap_Row_leap_New_2 g_slices_IndexFunc_leap_Row_leap_Row_leap_New_2 := go_slices_IndexFunc_leap_Row_leap_Row_leap_New_2 g_slices_IndexFunc_leap_Row_leap_Row_leap_New_2 fun d out h => lim_some h

/- slices.ContainsFunc[[]horologe/leap.Row,horologe/leap.Row] -/
@[reducible] def pi_slices_ContainsFunc_leap_Row_leap_Row_leap_New_2 : PSh := ⟨[], [.mk false [.v (.sl (.pair (.int .i64) (.int .i64)))], .mk false [.fn 76 []]]⟩
@[reducible] def po_slices_ContainsFunc_leap_Row_leap_Row_leap_New_2 : PSh := ⟨[], [.mk false [.v .bool]]⟩
def f_slices_ContainsFunc_leap_Row_leap_Row_leap_New_2_m (T : Unit) (d : Unit × (((List (Int × Int)) × Unit) × (Unit × Unit))) : Option (Unit × ((Bool × Unit) × Unit)) :=
  (g_slices_IndexFunc_leap_Row_leap_Row_leap_New_2 ((), ((d.2.1.1, ()), ((), ())))).bind fun x1 =>
  let x2 : Bool := (decide (x1.2.1.1 ≥ (0 : Int)))
  some ((), ((x2, ()), ()))
def c_slices_ContainsFunc_leap_Row_leap_Row_leap_New_2 : List Nat := []
def L_slices_ContainsFunc_leap_Row_leap_Row_leap_New_2 (_ : Nat) : Pts po_slices_ContainsFunc_leap_Row_leap_Row_leap_New_2.den := []
def E_slices_ContainsFunc_leap_Row_leap_Row_leap_New_2 : Env := (E0.add 129 (typedSem pi_slices_IndexFunc_leap_Row_leap_Row_leap_New_2 po_slices_IndexFunc_leap_Row_leap_Row_leap_New_2 g_slices_IndexFunc_leap_Row_leap_Row_leap_New_2))
theorem q_slices_ContainsFunc_leap_Row_leap_Row_leap_New_2_m (k : Nat) (d : Unit × (((List (Int × Int)) × Unit) × (Unit × Unit))) : evCode E_slices_ContainsFunc_leap_Row_leap_Row_leap_New_2 (tab (L_slices_ContainsFunc_leap_Row_leap_Row_leap_New_2 k)) c_slices_ContainsFunc_leap_Row_leap_Row_leap_New_2 (bodyOf Try.f78) 0 (finK E_slices_ContainsFunc_leap_Row_leap_Row_leap_New_2 po_slices_ContainsFunc_leap_Row_leap_Row_leap_New_2 [.tmp 4]) (startSt pi_slices_ContainsFunc_leap_Row_leap_Row_leap_New_2 9 d) = f_slices_ContainsFunc_leap_Row_leap_Row_leap_New_2_m () d := by kernel_rfl
def g_slices_ContainsFunc_leap_Row_leap_Row_leap_New_2 (d : Unit × (((List (Int × Int)) × Unit) × (Unit × Unit))) : Option (Unit × ((Bool × Unit) × Unit)) := f_slices_ContainsFunc_leap_Row_leap_Row_leap_New_2_m () d
theorem ok_slices_ContainsFunc_leap_Row_leap_Row_leap_New_2 : FnOk Try.prog ET0 78 pi_slices_ContainsFunc_leap_Row_leap_Row_leap_New_2 po_slices_ContainsFunc_leap_Row_leap_Row_leap_New_2 g_slices_ContainsFunc_leap_Row_leap_Row_leap_New_2 :=
  fn_of_body (E := E_slices_ContainsFunc_leap_Row_leap_Row_leap_New_2) (envOk_add e0_ok (typed_ok ok_slices_IndexFunc_leap_Row_leap_Row_leap_New_2)) (fn := Try.f78) Try.func78 (by kernel_rfl) (by kernel_rfl) [.tmp 4] (by kernel_rfl) (by kernel_rfl) (by decide) rfl c_slices_ContainsFunc_leap_Row_leap_Row_leap_New_2 L_slices_ContainsFunc_leap_Row_leap_Row_leap_New_2
    (by intro x hx; cases hx) (by intro k x hx; cases hx) (fun d out h => ⟨0, (q_slices_ContainsFunc_leap_Row_leap_Row_leap_New_2_m 0 d).trans h⟩)

/- horologe/leap.New -/
@[reducible] def pi_leap_New : PSh := ⟨[], [.mk false [.v (.sl (.pair (.int .i64) (.int .i64)))], .mk false [.v (.int .i64)], .mk false [.v (.int .i64)]]⟩
@[reducible] def po_leap_New : PSh := ⟨[], [.mk false [.v (.nptr (.pair (.sl (.pair (.int .i64) (.int .i64))) (.pair (.int .i64) (.int .i64))))], .mk false [.v .err]]⟩
def f_leap_New_m (T : Unit) (d : Unit × (((List (Int × Int)) × Unit) × ((Int × Unit) × ((Int × Unit) × Unit)))) : Option (Unit × (((Option ((List (Int × Int)) × (Int × Int))) × Unit) × (((Option Int) × Unit) × Unit))) :=
  let x1 : Int := (d.2.1.1.length : Int)
  let x2 : Bool := (x1 == (0 : Int))
  bif x2 then (
  let x3 : (Option Int) := (some (8 : Int))
  some ((), (((none : Option ((List (Int × Int)) × (Int × Int))), ()), ((x3, ()), ()))))
  else (
  let x4 : Int := (d.2.1.1.length : Int)
  let x5 : Bool := (decide (x4 > (256 : Int)))
  bif x5 then (
  let x6 : (Option Int) := (some (3 : Int))
  some ((), (((none : Option ((List (Int × Int)) × (Int × Int))), ()), ((x6, ()), ()))))
  else (
  (g_slices_ContainsFunc_leap_Row_leap_Row_leap_New_1 ((), ((d.2.1.1, ()), ((), ())))).bind fun x7 =>
  bif x7.2.1.1 then (
  let x8 : (Option Int) := (some (13 : Int))
  some ((), (((none : Option ((List (Int × Int)) × (Int × Int))), ()), ((x8, ()), ()))))
  else (
  (g_slices_ContainsFunc_leap_Row_leap_Row_leap_New_2 ((), ((d.2.1.1, ()), ((), ())))).bind fun x9 =>
  bif x9.2.1.1 then (
  let x10 : (Option Int) := (some (1 : Int))
  some ((), (((none : Option ((List (Int × Int)) × (Int × Int))), ()), ((x10, ()), ()))))
  else (
  (g_leap_time ((), ((d.2.2.1.1, ()), ()))).bind fun x11 =>
  let x12 : Bool := (!x11.2.1.1)
  bif x12 then (
  let x13 : (Option Int) := (some (1 : Int))
  some ((), (((none : Option ((List (Int × Int)) × (Int × Int))), ()), ((x13, ()), ()))))
  else (
  (g_leap_time ((), ((d.2.2.2.1.1, ()), ()))).bind fun x14 =>
  let x15 : Bool := (!x14.2.1.1)
  bif x15 then (
  let x16 : (Option Int) := (some (1 : Int))
  some ((), (((none : Option ((List (Int × Int)) × (Int × Int))), ()), ((x16, ()), ()))))
  else (
  (g_leap_rise ((), ((d.2.1.1, ()), ()))).bind fun x17 =>
  let x18 : Bool := (!x17.2.1.1)
  bif x18 then (
  let x19 : (Option Int) := (some (6 : Int))
  some ((), (((none : Option ((List (Int × Int)) × (Int × Int))), ()), ((x19, ()), ()))))
  else (
  (g_slices_Clone_leap_Row_leap_Row ((), ((d.2.1.1, ()), ()))).bind fun x20 =>
  some ((), (((some (x20.1.1, (d.2.2.1.1, d.2.2.2.1.1))), ()), (((none : Option Int), ()), ()))))))))))
def c_leap_New : List Nat := []
def L_leap_New (_ : Nat) : Pts po_leap_New.den := []
def E_leap_New : Env := ((((E0.add 78 (altSem pi_slices_ContainsFunc_leap_Row_leap_Row_leap_New_1 (typedSem pi_slices_ContainsFunc_leap_Row_leap_Row_leap_New_1 po_slices_ContainsFunc_leap_Row_leap_Row_leap_New_1 g_slices_ContainsFunc_leap_Row_leap_Row_leap_New_1) (typedSem pi_slices_ContainsFunc_leap_Row_leap_Row_leap_New_2 po_slices_ContainsFunc_leap_Row_leap_Row_leap_New_2 g_slices_ContainsFunc_leap_Row_leap_Row_leap_New_2))).add 79 (typedSem pi_leap_time po_leap_time g_leap_time)).add 80 (typedSem pi_leap_rise po_leap_rise g_leap_rise)).add 81 (typedSem pi_slices_Clone_leap_Row_leap_Row po_slices_Clone_leap_Row_leap_Row g_slices_Clone_leap_Row_leap_Row))
theorem q_leap_New_m (k : Nat) (d : Unit × (((List (Int × Int)) × Unit) × ((Int × Unit) × ((Int × Unit) × Unit)))) : evCode E_leap_New (tab (L_leap_New k)) c_leap_New (bodyOf Try.f33) 0 (finK E_leap_New po_leap_New [.tmp 6, .tmp 7]) (startSt pi_leap_New 51 d) = f_leap_New_m () d := by kernel_rfl
def g_leap_New (d : Unit × (((List (Int × Int)) × Unit) × ((Int × Unit) × ((Int × Unit) × Unit)))) : Option (Unit × (((Option ((List (Int × Int)) × (Int × Int))) × Unit) × (((Option Int) × Unit) × Unit))) := f_leap_New_m () d
theorem ok_leap_New : FnOk Try.prog ET0 33 pi_leap_New po_leap_New g_leap_New :=
  fn_of_body (E := E_leap_New) (envOk_add (envOk_add (envOk_add (envOk_add e0_ok (alt_ok (typed_ok ok_slices_ContainsFunc_leap_Row_leap_Row_leap_New_1) (typed_ok ok_slices_ContainsFunc_leap_Row_leap_Row_leap_New_2))) (typed_ok ok_leap_time)) (typed_ok ok_leap_rise)) (typed_ok ok_slices_Clone_leap_Row_leap_Row)) (fn := Try.f33) Try.func33 (by kernel_rfl) (by kernel_rfl) [.tmp 6, .tmp 7] (by kernel_rfl) (by kernel_rfl) (by decide) rfl c_leap_New L_leap_New
    (by intro x hx; cases hx) (by intro k x hx; cases hx) (fun d out h => ⟨0, (q_leap_New_m 0 d).trans h⟩)

/- horologe/horologelaw12.alive -/
@[reducible] def pi_law12_alive : PSh := ⟨[], []⟩
@[reducible] def po_law12_alive : PSh := ⟨[], [.mk false [.v .bool]]⟩
def f_law12_alive_m (T : Unit) (d : Unit × Unit) : Option (Unit × ((Bool × Unit) × Unit)) :=
  let x1 : (List (Int × Int)) := ([((730 : Int), (10 : Int)), ((912 : Int), (11 : Int))] : List (Int × Int))
  (g_leap_New ((), ((x1, ()), (((5 : Int), ()), (((9 : Int), ()), ()))))).bind fun x2 =>
  let x3 : Bool := (!x2.2.2.1.1.isNone)
  bif x3 then (
  some ((), ((false, ()), ())))
  else (
  bif x2.2.1.1.isNone then (
  some ((), ((false, ()), ())))
  else (
  (g_scale_Tai ((), ((x2.2.1.1, ()), (((1972 : Int), ((6 : Int), ((30 : Int), ((23 : Int), ((59 : Int), ((60 : Int), ((0 : Int), ((0 : Int), ())))))))), ())))).bind fun x4 =>
  bif x4.2.2.1.1.isNone then (
  let x5 : Bool := (x4.2.1.1 == (78796810 : Int))
  some ((), ((x5, ()), ())))
  else (
  some ((), ((false, ()), ())))))
def c_law12_alive : List Nat := []
def L_law12_alive (_ : Nat) : Pts po_law12_alive.den := []
def E_law12_alive : Env := ((E0.add 22 (typedSem pi_scale_Tai po_scale_Tai g_scale_Tai)).add 33 (typedSem pi_leap_New po_leap_New g_leap_New))
theorem q_law12_alive_m (k : Nat) (d : Unit × Unit) : evCode E_law12_alive (tab (L_law12_alive k)) c_law12_alive (bodyOf Try.f11) 0 (finK E_law12_alive po_law12_alive [.tmp 0]) (startSt pi_law12_alive 29 d) = f_law12_alive_m () d := by kernel_rfl
def g_law12_alive (d : Unit × Unit) : Option (Unit × ((Bool × Unit) × Unit)) := f_law12_alive_m () d
theorem ok_law12_alive : FnOk Try.prog ET0 11 pi_law12_alive po_law12_alive g_law12_alive :=
  fn_of_body (E := E_law12_alive) (envOk_add (envOk_add e0_ok (typed_ok ok_scale_Tai)) (typed_ok ok_leap_New)) (fn := Try.f11) Try.func11 (by kernel_rfl) (by kernel_rfl) [.tmp 0] (by kernel_rfl) (by kernel_rfl) (by decide) rfl c_law12_alive L_law12_alive
    (by intro x hx; cases hx) (by intro k x hx; cases hx) (fun d out h => ⟨0, (q_law12_alive_m 0 d).trans h⟩)

/- horologe/horologelaw10.Long -/
@[reducible] def pi_law10_Long : PSh := ⟨[], [.mk true [.v (.sl (.pair (.int .i64) (.int .i64))), .v (.int .i64), .v (.int .i64)]]⟩
@[reducible] def po_law10_Long : PSh := ⟨[], [.mk false [.v .bool]]⟩
def f_law10_Long_m (T : Unit) (d : Unit × (((List (Int × Int)) × (Int × (Int × Unit))) × Unit)) : Option (Unit × ((Bool × Unit) × Unit)) :=
  let x1 : Int := (d.2.1.1.length : Int)
  let x2 : Bool := (decide (x1 > (296 : Int)))
  some ((), ((x2, ()), ()))
def c_law10_Long : List Nat := []
def L_law10_Long (_ : Nat) : Pts po_law10_Long.den := []
def E_law10_Long : Env := E0
theorem q_law10_Long_m (k : Nat) (d : Unit × (((List (Int × Int)) × (Int × (Int × Unit))) × Unit)) : evCode E_law10_Long (tab (L_law10_Long k)) c_law10_Long (bodyOf Try.f12) 0 (finK E_law10_Long po_law10_Long [.tmp 2]) (startSt pi_law10_Long 7 d) = f_law10_Long_m () d := by kernel_rfl
def g_law10_Long (d : Unit × (((List (Int × Int)) × (Int × (Int × Unit))) × Unit)) : Option (Unit × ((Bool × Unit) × Unit)) := f_law10_Long_m () d
theorem ok_law10_Long : FnOk Try.prog ET0 12 pi_law10_Long po_law10_Long g_law10_Long :=
  fn_of_body (E := E_law10_Long) e0_ok (fn := Try.f12) Try.func12 (by kernel_rfl) (by kernel_rfl) [.tmp 2] (by kernel_rfl) (by kernel_rfl) (by decide) rfl c_law10_Long L_law10_Long
    (by intro x hx; cases hx) (by intro k x hx; cases hx) (fun d out h => ⟨0, (q_law10_Long_m 0 d).trans h⟩)

/- horologe/horologenum.Num -/
@[reducible] def pi_hnum_Num : PSh := ⟨[], [.mk false [.v .err]]⟩
@[reducible] def po_hnum_Num : PSh := ⟨[], [.mk false [.v (.int .i64)]]⟩
def f_hnum_Num_m (T : Unit) (d : Unit × (((Option Int) × Unit) × Unit)) : Option (Unit × ((Int × Unit) × Unit)) :=
  bif d.2.1.1.isNone then (
  some ((), (((0 : Int), ()), ())))
  else (
  bif d.2.1.1.isSome then (
  let x1 : Bool := ((d.2.1.1.getD 0) != (0 : Int))
  bif x1 then (
  some ((), (((d.2.1.1.getD 0), ()), ())))
  else (
  some ((), (((-1 : Int), ()), ()))))
  else (
  some ((), (((-1 : Int), ()), ()))))
def c_hnum_Num : List Nat := []
def L_hnum_Num (_ : Nat) : Pts po_hnum_Num.den := []
def E_hnum_Num : Env := E0
theorem q_hnum_Num_m (k : Nat) (d : Unit × (((Option Int) × Unit) × Unit)) : evCode E_hnum_Num (tab (L_hnum_Num k)) c_hnum_Num (bodyOf Try.f16) 0 (finK E_hnum_Num po_hnum_Num [.tmp 2]) (startSt pi_hnum_Num 18 d) = f_hnum_Num_m () d := by kernel_rfl
def g_hnum_Num (d : Unit × (((Option Int) × Unit) × Unit)) : Option (Unit × ((Int × Unit) × Unit)) := f_hnum_Num_m () d
theorem ok_hnum_Num : FnOk Try.prog ET0 16 pi_hnum_Num po_hnum_Num g_hnum_Num :=
  fn_of_body (E := E_hnum_Num) e0_ok (fn := Try.f16) Try.func16 (by kernel_rfl) (by kernel_rfl) [.tmp 2] (by kernel_rfl) (by kernel_rfl) (by decide) rfl c_hnum_Num L_hnum_Num
    (by intro x hx; cases hx) (by intro k x hx; cases hx) (fun d out h => ⟨0, (q_hnum_Num_m 0 d).trans h⟩)

/- horologe/label.clock -/
@[reducible] def pi_label_clock : PSh := ⟨[], [.mk false [.v (.int .i64)]]⟩
@[reducible] def po_label_clock : PSh := ⟨[], [.mk false [.v (.int .i64)], .mk false [.v (.int .i64)]]⟩
def f_label_clock_m (T : Unit) (d : Unit × ((Int × Unit) × Unit)) : Option (Unit × ((Int × Unit) × ((Int × Unit) × Unit))) :=
  let x1 : Bool := (d.2.1.1 == (86400 : Int))
  bif x1 then (
  some ((), (((1439 : Int), ()), (((60 : Int), ()), ()))))
  else (
  let x2 : Int := (iquo .i64 d.2.1.1 (60 : Int))
  let x3 : Int := (Int.tmod d.2.1.1 (60 : Int))
  some ((), ((x2, ()), ((x3, ()), ()))))
def c_label_clock : List Nat := []
def L_label_clock (_ : Nat) : Pts po_label_clock.den := []
def E_label_clock : Env := E0
theorem q_label_clock_m (k : Nat) (d : Unit × ((Int × Unit) × Unit)) : evCode E_label_clock (tab (L_label_clock k)) c_label_clock (bodyOf Try.f122) 0 (finK E_label_clock po_label_clock [.tmp 2, .tmp 3]) (startSt pi_label_clock 10 d) = f_label_clock_m () d := by kernel_rfl
def g_label_clock (d : Unit × ((Int × Unit) × Unit)) : Option (Unit × ((Int × Unit) × ((Int × Unit) × Unit))) := f_label_clock_m () d
theorem ok_label_clock : FnOk Try.prog ET0 122 pi_label_clock po_label_clock g_label_clock :=
  fn_of_body (E := E_label_clock) e0_ok (fn := Try.f122) Try.func122 (by kernel_rfl) (by kernel_rfl) [.tmp 2, .tmp 3] (by kernel_rfl) (by kernel_rfl) (by decide) rfl c_label_clock L_label_clock
    (by intro x hx; cases hx) (by intro k x hx; cases hx) (fun d out h => ⟨0, (q_label_clock_m 0 d).trans h⟩)

/- horologe/label.Of -/
@[reducible] def pi_label_Of : PSh := ⟨[], [.mk false [.v (.int .i64)], .mk false [.v (.int .i64)], .mk false [.v (.int .i64)], .mk false [.v (.int .i64)]]⟩
@[reducible] def po_label_Of : PSh := ⟨[], [.mk true [.v (.int .i64), .v (.int .i64), .v (.int .i64), .v (.int .i64), .v (.int .i64), .v (.int .i64), .v (.int .i64), .v (.int .i64)], .mk false [.v .err]]⟩
def f_label_Of_m (T : Unit) (d : Unit × ((Int × Unit) × ((Int × Unit) × ((Int × Unit) × ((Int × Unit) × Unit))))) : Option (Unit × ((Int × (Int × (Int × (Int × (Int × (Int × (Int × (Int × Unit)))))))) × (((Option Int) × Unit) × Unit))) :=
  (g_label_there ((), ((d.2.1.1, ()), ()))).bind fun x1 =>
  let x2 : Bool := (!x1.2.1.1)
  bif x2 then (
  let x3 : (Option Int) := (some (13 : Int))
  some ((), (((0 : Int), ((0 : Int), ((0 : Int), ((0 : Int), ((0 : Int), ((0 : Int), ((0 : Int), ((0 : Int), ())))))))), ((x3, ()), ()))))
  else (
  (g_label_in ((), ((d.2.2.1.1, ()), (((86401 : Int), ()), ())))).bind fun x4 =>
  let x5 : Bool := (!x4.2.1.1)
  bif x5 then (
  let x6 : (Option Int) := (some (1 : Int))
  some ((), (((0 : Int), ((0 : Int), ((0 : Int), ((0 : Int), ((0 : Int), ((0 : Int), ((0 : Int), ((0 : Int), ())))))))), ((x6, ()), ()))))
  else (
  (g_label_in ((), ((d.2.2.2.1.1, ()), (((1000000000 : Int), ()), ())))).bind fun x7 =>
  let x8 : Bool := (!x7.2.1.1)
  bif x8 then (
  let x9 : (Option Int) := (some (1 : Int))
  some ((), (((0 : Int), ((0 : Int), ((0 : Int), ((0 : Int), ((0 : Int), ((0 : Int), ((0 : Int), ((0 : Int), ())))))))), ((x9, ()), ()))))
  else (
  (g_label_shifts ((), ((d.2.2.2.2.1.1, ()), ()))).bind fun x10 =>
  let x11 : Bool := (!x10.2.1.1)
  bif x11 then (
  let x12 : (Option Int) := (some (1 : Int))
  some ((), (((0 : Int), ((0 : Int), ((0 : Int), ((0 : Int), ((0 : Int), ((0 : Int), ((0 : Int), ((0 : Int), ())))))))), ((x12, ()), ()))))
  else (
  (g_label_clock ((), ((d.2.2.1.1, ()), ()))).bind fun x13 =>
  let x14 : Int := (iadd .i64 x13.2.1.1 d.2.2.2.2.1.1)
  (g_num_Split ((), ((x14, ()), (((1440 : Int), ()), ())))).bind fun x15 =>
  let x16 : Bool := (!x15.2.2.2.1.1.isNone)
  bif x16 then (
  some ((), (((0 : Int), ((0 : Int), ((0 : Int), ((0 : Int), ((0 : Int), ((0 : Int), ((0 : Int), ((0 : Int), ())))))))), ((x15.2.2.2.1.1, ()), ()))))
  else (
  let x17 : Int := (iquo .i64 x15.2.2.1.1 (60 : Int))
  let x18 : Int := (Int.tmod x15.2.2.1.1 (60 : Int))
  let x19 : Int := (iadd .i64 d.2.1.1 x15.2.1.1)
  (g_day_Date ((), ((x19, ()), ()))).bind fun x20 =>
  let x21 : Bool := (!x20.2.2.2.2.1.1.isNone)
  bif x21 then (
  some ((), (((0 : Int), ((0 : Int), ((0 : Int), ((0 : Int), ((0 : Int), ((0 : Int), ((0 : Int), ((0 : Int), ())))))))), ((x20.2.2.2.2.1.1, ()), ()))))
  else (
  some ((), ((x20.2.1.1, (x20.2.2.1.1, (x20.2.2.2.1.1, (x17, (x18, (x13.2.2.1.1, (d.2.2.2.1.1, (d.2.2.2.2.1.1, ())))))))), (((none : Option Int), ()), ())))))))))
def c_label_Of : List Nat := []
def L_label_Of (_ : Nat) : Pts po_label_Of.den := []
def E_label_Of : Env := ((((((E0.add 70 (typedSem pi_num_Split po_num_Split g_num_Split)).add 119 (typedSem pi_label_there po_label_there g_label_there)).add 120 (typedSem pi_label_in po_label_in g_label_in)).add 121 (typedSem pi_label_shifts po_label_shifts g_label_shifts)).add 122 (typedSem pi_label_clock po_label_clock g_label_clock)).add 123 (typedSem pi_day_Date po_day_Date g_day_Date))
theorem q_label_Of_m (k : Nat) (d : Unit × ((Int × Unit) × ((Int × Unit) × ((Int × Unit) × ((Int × Unit) × Unit))))) : evCode E_label_Of (tab (L_label_Of k)) c_label_Of (bodyOf Try.f71) 0 (finK E_label_Of po_label_Of [.cell 8 26, .tmp 9]) (startSt pi_label_Of 80 d) = f_label_Of_m () d := by kernel_rfl
def g_label_Of (d : Unit × ((Int × Unit) × ((Int × Unit) × ((Int × Unit) × ((Int × Unit) × Unit))))) : Option (Unit × ((Int × (Int × (Int × (Int × (Int × (Int × (Int × (Int × Unit)))))))) × (((Option Int) × Unit) × Unit))) := f_label_Of_m () d
theorem ok_label_Of : FnOk Try.prog ET0 71 pi_label_Of po_label_Of g_label_Of :=
  fn_of_body (E := E_label_Of) (envOk_add (envOk_add (envOk_add (envOk_add (envOk_add (envOk_add e0_ok (typed_ok ok_num_Split)) (typed_ok ok_label_there)) (typed_ok ok_label_in)) (typed_ok ok_label_shifts)) (typed_ok ok_label_clock)) (typed_ok ok_day_Date)) (fn := Try.f71) Try.func71 (by kernel_rfl) (by kernel_rfl) [.cell 8 26, .tmp 9] (by kernel_rfl) (by kernel_rfl) (by decide) rfl c_label_Of L_label_Of
    (by intro x hx; cases hx) (by intro k x hx; cases hx) (fun d out h => ⟨0, (q_label_Of_m 0 d).trans h⟩)

/- (*horologe/leap.Table).Rows -/
@[reducible] def pi_leap_Table_Rows : PSh := ⟨[], [.mk false [.v (.nptr (.pair (.sl (.pair (.int .i64) (.int .i64))) (.pair (.int .i64) (.int .i64))))]]⟩
@[reducible] def po_leap_Table_Rows : PSh := ⟨[.row 119 (.pair (.int .i64) (.int .i64))], [.mk false [.osl 0]]⟩
def f_leap_Table_Rows_m (T : Unit) (d : Unit × (((Option ((List (Int × Int)) × (Int × Int))) × Unit) × Unit)) : Option (((List (Int × Int)) × Unit) × (Unit × Unit)) :=
  (g_leap_Table_list ((), ((d.2.1.1, ()), ()))).bind fun x1 =>
  (g_slices_Clone_leap_Row_leap_Row ((), ((x1.2.1.1, ()), ()))).bind fun x2 =>
  some ((x2.1.1, ()), ((), ()))
def c_leap_Table_Rows : List Nat := []
def L_leap_Table_Rows (_ : Nat) : Pts po_leap_Table_Rows.den := []
def E_leap_Table_Rows : Env := ((E0.add 81 (typedSem pi_slices_Clone_leap_Row_leap_Row po_slices_Clone_leap_Row_leap_Row g_slices_Clone_leap_Row_leap_Row)).add 174 (typedSem pi_leap_Table_list po_leap_Table_list g_leap_Table_list))
theorem q_leap_Table_Rows_m (k : Nat) (d : Unit × (((Option ((List (Int × Int)) × (Int × Int))) × Unit) × Unit)) : evCode E_leap_Table_Rows (tab (L_leap_Table_Rows k)) c_leap_Table_Rows (bodyOf Try.f124) 0 (finK E_leap_Table_Rows po_leap_Table_Rows [.tmp 2]) (startSt pi_leap_Table_Rows 6 d) = f_leap_Table_Rows_m () d := by kernel_rfl
def g_leap_Table_Rows (d : Unit × (((Option ((List (Int × Int)) × (Int × Int))) × Unit) × Unit)) : Option (((List (Int × Int)) × Unit) × (Unit × Unit)) := f_leap_Table_Rows_m () d
theorem ok_leap_Table_Rows : FnOk Try.prog ET0 124 pi_leap_Table_Rows po_leap_Table_Rows g_leap_Table_Rows :=
  fn_of_body (E := E_leap_Table_Rows) (envOk_add (envOk_add e0_ok (typed_ok ok_slices_Clone_leap_Row_leap_Row)) (typed_ok ok_leap_Table_list)) (fn := Try.f124) Try.func124 (by kernel_rfl) (by kernel_rfl) [.tmp 2] (by kernel_rfl) (by kernel_rfl) (by decide) rfl c_leap_Table_Rows L_leap_Table_Rows
    (by intro x hx; cases hx) (by intro k x hx; cases hx) (fun d out h => ⟨0, (q_leap_Table_Rows_m 0 d).trans h⟩)

/- horologe/scale.begins -/
@[reducible] def pi_scale_begins : PSh := ⟨[], [.mk true [.v (.int .i64), .v (.int .i64)]]⟩
@[reducible] def po_scale_begins : PSh := ⟨[], [.mk false [.v (.int .i64)]]⟩
def f_scale_begins_m (T : Unit) (d : Unit × ((Int × (Int × Unit)) × Unit)) : Option (Unit × ((Int × Unit) × Unit)) :=
  let x1 : Int := (imul .i64 d.2.1.1 (86400 : Int))
  let x2 : Int := (iadd .i64 x1 d.2.1.2.1)
  some ((), ((x2, ()), ()))
def c_scale_begins : List Nat := []
def L_scale_begins (_ : Nat) : Pts po_scale_begins.den := []
def E_scale_begins : Env := E0
theorem q_scale_begins_m (k : Nat) (d : Unit × ((Int × (Int × Unit)) × Unit)) : evCode E_scale_begins (tab (L_scale_begins k)) c_scale_begins (bodyOf Try.f127) 0 (finK E_scale_begins po_scale_begins [.tmp 2]) (startSt pi_scale_begins 9 d) = f_scale_begins_m () d := by kernel_rfl
def g_scale_begins (d : Unit × ((Int × (Int × Unit)) × Unit)) : Option (Unit × ((Int × Unit) × Unit)) := f_scale_begins_m () d
theorem ok_scale_begins : FnOk Try.prog ET0 127 pi_scale_begins po_scale_begins g_scale_begins :=
  fn_of_body (E := E_scale_begins) e0_ok (fn := Try.f127) Try.func127 (by kernel_rfl) (by kernel_rfl) [.tmp 2] (by kernel_rfl) (by kernel_rfl) (by decide) rfl c_scale_begins L_scale_begins
    (by intro x hx; cases hx) (by intro k x hx; cases hx) (fun d out h => ⟨0, (q_scale_begins_m 0 d).trans h⟩)

/- horologe/scale.place$1 -/
@[reducible] def pi_scale_place_1_io : PSh := ⟨[.var 22 [.osl 1], .row 119 (.pair (.int .i64) (.int .i64)), .var 2 [.v (.int .i64)]], [.mk false [.v (.int .i64)], .mk false [.ref 0 0], .mk false [.ref 2 0]]⟩
@[reducible] def po_scale_place_1_io : PSh := ⟨[.var 22 [.osl 1], .row 119 (.pair (.int .i64) (.int .i64)), .var 2 [.v (.int .i64)]], [.mk false [.v .bool], .mk false [.ref 0 0], .mk false [.ref 2 0]]⟩
def f_scale_place_1_io_m (T : Unit) (d : (Unit × ((List (Int × Int)) × ((Int × Unit) × Unit))) × ((Int × Unit) × (Unit × (Unit × Unit)))) : Option ((Unit × ((List (Int × Int)) × ((Int × Unit) × Unit))) × ((Bool × Unit) × (Unit × (Unit × Unit)))) :=
  bif decide ((0 : Int) ≤ d.2.1.1) && decide (d.2.1.1 < (d.1.2.1.length : Int)) then (
  let x1 : (Int × Int) := (gd_i64_i64 d.1.2.1 d.2.1.1)
  (g_scale_begins ((), ((x1.1, (x1.2, ())), ()))).bind fun x2 =>
  let x3 : Bool := (decide (x2.2.1.1 > d.1.2.2.1.1))
  some (((), (d.1.2.1, ((d.1.2.2.1.1, ()), ()))), ((x3, ()), ((), ((), ())))))
  else none
def c_scale_place_1_io : List Nat := []
def L_scale_place_1_io (_ : Nat) : Pts po_scale_place_1_io.den := []
def E_scale_place_1_io : Env := ((E0.add 127 (typedSem pi_scale_begins po_scale_begins g_scale_begins)).kp [1, 2])
theorem q_scale_place_1_io_m (k : Nat) (d : (Unit × ((List (Int × Int)) × ((Int × Unit) × Unit))) × ((Int × Unit) × (Unit × (Unit × Unit)))) : evCode E_scale_place_1_io (tab (L_scale_place_1_io k)) c_scale_place_1_io (bodyOf Try.f126) 0 (finKio E_scale_place_1_io po_scale_place_1_io [.tmp 4] [(1, none), (2, none)]) (startSt pi_scale_place_1_io 12 d) = f_scale_place_1_io_m () d := by kernel_rfl
def g_scale_place_1_io (d : (Unit × ((List (Int × Int)) × ((Int × Unit) × Unit))) × ((Int × Unit) × (Unit × (Unit × Unit)))) : Option ((Unit × ((List (Int × Int)) × ((Int × Unit) × Unit))) × ((Bool × Unit) × (Unit × (Unit × Unit)))) := f_scale_place_1_io_m () d
theorem ok_scale_place_1_io : FnIo Try.prog ET0 126 pi_scale_place_1_io po_scale_place_1_io 1 [(0, 1, none), (2, 2, none)] g_scale_place_1_io :=
  fn_of_bodyIo (E := E_scale_place_1_io) (envOk_kp (envOk_add e0_ok (typed_ok ok_scale_begins))) (fn := Try.f126) Try.func126 (by kernel_rfl) (by kernel_rfl) [.tmp 4] [(1, none), (2, none)] [(0, 1, none), (2, 2, none)] (by kernel_rfl) (by kernel_rfl) (by kernel_rfl) (by kernel_rfl) (by decide) (by decide) c_scale_place_1_io L_scale_place_1_io
    (by intro x hx; cases hx) (by intro k x hx; cases hx) (fun d out h => ⟨0, (q_scale_place_1_io_m 0 d).trans h⟩)

/- sort.Search -/
@[reducible] def pi_sort_Search_scale_place_1 : PSh := ⟨[.var 22 [.osl 1], .row 119 (.pair (.int .i64) (.int .i64)), .var 2 [.v (.int .i64)]], [.mk false [.v (.int .i64)], .mk false [.fn 126 [0, 2]]]⟩
@[reducible] def po_sort_Search_scale_place_1 : PSh := ⟨[.var 22 [.osl 1], .row 119 (.pair (.int .i64) (.int .i64)), .var 2 [.v (.int .i64)]], [.mk false [.v (.int .i64)], .mk false [.ref 0 0], .mk false [.ref 2 0]]⟩
@[reducible] def TT_sort_Search_scale_place_1 : Type := ((((Unit × ((List (Int × Int)) × ((Int × Unit) × Unit))) × (Unit × ((Int × Unit) × ((Int × Unit) × Unit)))) → Option ((Unit × ((List (Int × Int)) × ((Int × Unit) × Unit))) × ((Int × Unit) × (Unit × (Unit × Unit))))) × Unit)
@[reducible] def sh_sort_Search_scale_place_1_3 : PSh := ⟨[.var 22 [.osl 1], .row 119 (.pair (.int .i64) (.int .i64)), .var 2 [.v (.int .i64)]], [.any, .mk false [.fn 126 [0, 2]], .any, .any, .any, .mk false [.v (.int .i64)], .mk false [.v (.int .i64)], .any, .any, .any, .any, .any, .any, .any, .any, .any, .any, .any, .any, .any, .any, .any, .any, .any, .any, .any]⟩
def f_sort_Search_scale_place_1_p3 (T : TT_sort_Search_scale_place_1) (d : (Unit × ((List (Int × Int)) × ((Int × Unit) × Unit))) × (Unit × ((Int × Unit) × ((Int × Unit) × Unit)))) : Option ((Unit × ((List (Int × Int)) × ((Int × Unit) × Unit))) × ((Int × Unit) × (Unit × (Unit × Unit)))) :=
  let x1 : Bool := (decide (d.2.2.1.1 < d.2.2.2.1.1))
  bif x1 then (
  let x2 : Int := (iadd .i64 d.2.2.1.1 d.2.2.2.1.1)
  let x3 : Int := (iconv .u64 x2)
  let x4 : Int := (ishr .u64 x3 (1 : Int))
  let x5 : Int := (iconv .i64 x4)
  (g_scale_place_1_io (((), (d.1.2.1, ((d.1.2.2.1.1, ()), ()))), ((x5, ()), ((), ((), ()))))).bind fun x6 =>
  let x7 : Bool := (!x6.2.1.1)
  bif x7 then (
  let x8 : Int := (iadd .i64 x5 (1 : Int))
  (T.1 (((), (x6.1.2.1, ((x6.1.2.2.1.1, ()), ()))), ((), ((x8, ()), ((d.2.2.2.1.1, ()), ()))))))
  else (
  (T.1 (((), (x6.1.2.1, ((x6.1.2.2.1.1, ()), ()))), ((), ((d.2.2.1.1, ()), ((x5, ()), ())))))))
  else (
  some (((), (d.1.2.1, ((d.1.2.2.1.1, ()), ()))), ((d.2.2.1.1, ()), ((), ((), ())))))
def f_sort_Search_scale_place_1_t : Nat → TT_sort_Search_scale_place_1
  | 0 => (fun _ => none, ())
  | k + 1 => (f_sort_Search_scale_place_1_p3 (f_sort_Search_scale_place_1_t k), ())
theorem t_sort_Search_scale_place_1 (k : Nat) : f_sort_Search_scale_place_1_t (k + 1) = (f_sort_Search_scale_place_1_p3 (f_sort_Search_scale_place_1_t k), ()) := rfl
def f_sort_Search_scale_place_1_m (T : TT_sort_Search_scale_place_1) (d : (Unit × ((List (Int × Int)) × ((Int × Unit) × Unit))) × ((Int × Unit) × (Unit × Unit))) : Option ((Unit × ((List (Int × Int)) × ((Int × Unit) × Unit))) × ((Int × Unit) × (Unit × (Unit × Unit)))) :=
  (T.1 (((), (d.1.2.1, ((d.1.2.2.1.1, ()), ()))), ((), (((0 : Int), ()), ((d.2.1.1, ()), ())))))
def c_sort_Search_scale_place_1 : List Nat := []
def L_sort_Search_scale_place_1 (k : Nat) : Pts po_sort_Search_scale_place_1.den := [(3, ⟨sh_sort_Search_scale_place_1_3, (f_sort_Search_scale_place_1_t k).1⟩)]
def E_sort_Search_scale_place_1 : Env := ((E0.add 126 (ioSem pi_scale_place_1_io po_scale_place_1_io 1 [(0, 1, none), (2, 2, none)] g_scale_place_1_io)).kp [1])
theorem q_sort_Search_scale_place_1_3 (k : Nat) (d : (Unit × ((List (Int × Int)) × ((Int × Unit) × Unit))) × (Unit × ((Int × Unit) × ((Int × Unit) × Unit)))) : evAt E_sort_Search_scale_place_1 (tab (L_sort_Search_scale_place_1 k)) c_sort_Search_scale_place_1 3 (bodyOf Try.f125) 0 (finKio E_sort_Search_scale_place_1 po_sort_Search_scale_place_1 [.tmp 4] [(1, some 0), (1, some 1)]) (ptSt sh_sort_Search_scale_place_1_3 d) = f_sort_Search_scale_place_1_p3 (f_sort_Search_scale_place_1_t k) d := by kernel_rfl
theorem q_sort_Search_scale_place_1_m (k : Nat) (d : (Unit × ((List (Int × Int)) × ((Int × Unit) × Unit))) × ((Int × Unit) × (Unit × Unit))) : evCode E_sort_Search_scale_place_1 (tab (L_sort_Search_scale_place_1 k)) c_sort_Search_scale_place_1 (bodyOf Try.f125) 0 (finKio E_sort_Search_scale_place_1 po_sort_Search_scale_place_1 [.tmp 4] [(1, some 0), (1, some 1)]) (startSt pi_sort_Search_scale_place_1 26 d) = f_sort_Search_scale_place_1_m (f_sort_Search_scale_place_1_t k) d := by kernel_rfl
theorem go_sort_Search_scale_place_1 (G : (Unit × ((List (Int × Int)) × ((Int × Unit) × Unit))) × ((Int × Unit) × (Unit × Unit)) → Option ((Unit × ((List (Int × Int)) × ((Int × Unit) × Unit))) × ((Int × Unit) × (Unit × (Unit × Unit))))) (hG : ∀ d out, G d = some out → ∃ k, f_sort_Search_scale_place_1_m (f_sort_Search_scale_place_1_t k) d = some out) : FnIo Try.prog ET0 125 pi_sort_Search_scale_place_1 po_sort_Search_scale_place_1 1 [(0, 1, some 0), (2, 1, some 1)] G :=
  fn_of_bodyIo (E := E_sort_Search_scale_place_1) (envOk_kp (envOk_add e0_ok (io_ok ok_scale_place_1_io))) (fn := Try.f125) Try.func125 (by kernel_rfl) (by kernel_rfl) [.tmp 4] [(1, some 0), (1, some 1)] [(0, 1, some 0), (2, 1, some 1)] (by kernel_rfl) (by kernel_rfl) (by kernel_rfl) (by kernel_rfl) (by decide) (by decide) c_sort_Search_scale_place_1 L_sort_Search_scale_place_1
    (by intro x hx d; simp only [L_sort_Search_scale_place_1, List.mem_cons, List.not_mem_nil, or_false] at hx; subst hx; rfl)
    (by intro k x hx d out h; simp only [L_sort_Search_scale_place_1, List.mem_cons, List.not_mem_nil, or_false] at hx; subst hx; exact (q_sort_Search_scale_place_1_3 k d).trans h)
    (by intro d out h; obtain ⟨k, hk⟩ := hG d out h; exact ⟨k, (q_sort_Search_scale_place_1_m k d).trans hk⟩)
def g_sort_Search_scale_place_1 (d : (Unit × ((List (Int × Int)) × ((Int × Unit) × Unit))) × ((Int × Unit) × (Unit × Unit))) : Option ((Unit × ((List (Int × Int)) × ((Int × Unit) × Unit))) × ((Int × Unit) × (Unit × (Unit × Unit)))) := lim fun k => f_sort_Search_scale_place_1_m (f_sort_Search_scale_place_1_t k) d
theorem ok_sort_Search_scale_place_1 : FnIo Try.prog ET0 125 pi_sort_Search_scale_place_1 po_sort_Search_scale_place_1 1 [(0, 1, some 0), (2, 1, some 1)] g_sort_Search_scale_place_1 := go_sort_Search_scale_place_1 g_sort_Search_scale_place_1 fun d out h => lim_some h

/- horologe/scale.place -/
@[reducible] def pi_scale_place : PSh := ⟨[], [.mk false [.v (.nptr (.pair (.sl (.pair (.int .i64) (.int .i64))) (.pair (.int .i64) (.int .i64))))], .mk false [.v (.int .i64)]]⟩
@[reducible] def po_scale_place : PSh := ⟨[], [.mk false [.v (.int .i64)], .mk false [.v (.int .i64)], .mk false [.v .err]]⟩
def f_scale_place_m (T : Unit) (d : Unit × (((Option ((List (Int × Int)) × (Int × Int))) × Unit) × ((Int × Unit) × Unit))) : Option (Unit × ((Int × Unit) × ((Int × Unit) × (((Option Int) × Unit) × Unit)))) :=
  (g_leap_Table_Rows ((), ((d.2.1.1, ()), ()))).bind fun x1 =>
  let x2 : Int := (x1.1.1.length : Int)
  (g_sort_Search_scale_place_1 (((), (x1.1.1, ((d.2.2.1.1, ()), ()))), ((x2, ()), ((), ())))).bind fun x3 =>
  let x4 : Bool := (x3.2.1.1 == (0 : Int))
  bif x4 then (
  let x5 : (Option Int) := (some (8 : Int))
  some ((), (((0 : Int), ()), (((0 : Int), ()), ((x5, ()), ())))))
  else (
  let x6 : Int := (isub .i64 x3.2.1.1 (1 : Int))
  bif decide ((0 : Int) ≤ x6) && decide (x6 < (x3.1.2.1.length : Int)) then (
  let x7 : (Int × Int) := (gd_i64_i64 x3.1.2.1 x6)
  (g_day_Last ((), ())).bind fun x8 =>
  let x9 : Int := (iadd .i64 x8.2.1.1 (1 : Int))
  (g_scale_begins ((), ((x9, (x7.2, ())), ()))).bind fun x10 =>
  let x11 : Bool := (decide (x3.1.2.2.1.1 ≥ x10.2.1.1))
  bif x11 then (
  let x12 : (Option Int) := (some (13 : Int))
  some ((), (((0 : Int), ()), (((0 : Int), ()), ((x12, ()), ())))))
  else (
  let x13 : Int := (isub .i64 x3.1.2.2.1.1 x7.2)
  (g_num_Split ((), ((x13, ()), (((86400 : Int), ()), ())))).bind fun x14 =>
  let x15 : Bool := (!x14.2.2.2.1.1.isNone)
  bif x15 then (
  some ((), (((0 : Int), ()), (((0 : Int), ()), ((x14.2.2.2.1.1, ()), ())))))
  else (
  let x16 : Int := (x3.1.2.1.length : Int)
  let x17 : Bool := (decide (x3.2.1.1 < x16))
  bif x17 then (
  bif decide ((0 : Int) ≤ x3.2.1.1) && decide (x3.2.1.1 < (x3.1.2.1.length : Int)) then (
  let x18 : (Int × Int) := (gd_i64_i64 x3.1.2.1 x3.2.1.1)
  let x19 : Bool := (x14.2.1.1 == x18.1)
  bif x19 then (
  let x20 : Int := (isub .i64 x14.2.1.1 (1 : Int))
  let x21 : Int := (iadd .i64 (86400 : Int) x14.2.2.1.1)
  some ((), ((x20, ()), ((x21, ()), (((none : Option Int), ()), ())))))
  else (
  some ((), ((x14.2.1.1, ()), ((x14.2.2.1.1, ()), (((none : Option Int), ()), ()))))))
  else none)
  else (
  some ((), ((x14.2.1.1, ()), ((x14.2.2.1.1, ()), (((none : Option Int), ()), ()))))))))
  else none)
def c_scale_place : List Nat := []
def L_scale_place (_ : Nat) : Pts po_scale_place.den := []
def E_scale_place : Env := (((((E0.add 70 (typedSem pi_num_Split po_num_Split g_num_Split)).add 124 (typedSem pi_leap_Table_Rows po_leap_Table_Rows g_leap_Table_Rows)).add 125 (ioSem pi_sort_Search_scale_place_1 po_sort_Search_scale_place_1 1 [(0, 1, some 0), (2, 1, some 1)] g_sort_Search_scale_place_1)).add 127 (typedSem pi_scale_begins po_scale_begins g_scale_begins)).add 128 (typedSem pi_day_Last po_day_Last g_day_Last))
theorem q_scale_place_m (k : Nat) (d : Unit × (((Option ((List (Int × Int)) × (Int × Int))) × Unit) × ((Int × Unit) × Unit))) : evCode E_scale_place (tab (L_scale_place k)) c_scale_place (bodyOf Try.f73) 0 (finK E_scale_place po_scale_place [.tmp 4, .tmp 5, .tmp 6]) (startSt pi_scale_place 69 d) = f_scale_place_m () d := by kernel_rfl
def g_scale_place (d : Unit × (((Option ((List (Int × Int)) × (Int × Int))) × Unit) × ((Int × Unit) × Unit))) : Option (Unit × ((Int × Unit) × ((Int × Unit) × (((Option Int) × Unit) × Unit)))) := f_scale_place_m () d
theorem ok_scale_place : FnOk Try.prog ET0 73 pi_scale_place po_scale_place g_scale_place :=
  fn_of_body (E := E_scale_place) (envOk_add (envOk_add (envOk_add (envOk_add (envOk_add e0_ok (typed_ok ok_num_Split)) (typed_ok ok_leap_Table_Rows)) (io_ok ok_sort_Search_scale_place_1)) (typed_ok ok_scale_begins)) (typed_ok ok_day_Last)) (fn := Try.f73) Try.func73 (by kernel_rfl) (by kernel_rfl) [.tmp 4, .tmp 5, .tmp 6] (by kernel_rfl) (by kernel_rfl) (by decide) rfl c_scale_place L_scale_place
    (by intro x hx; cases hx) (by intro k x hx; cases hx) (fun d out h => ⟨0, (q_scale_place_m 0 d).trans h⟩)

/- horologe/scale.Label -/
@[reducible] def pi_scale_Label : PSh := ⟨[], [.mk false [.v (.nptr (.pair (.sl (.pair (.int .i64) (.int .i64))) (.pair (.int .i64) (.int .i64))))], .mk false [.v (.int .i64)], .mk false [.v (.int .i64)], .mk false [.v (.int .i64)]]⟩
@[reducible] def po_scale_Label : PSh := ⟨[], [.mk true [.v (.int .i64), .v (.int .i64), .v (.int .i64), .v (.int .i64), .v (.int .i64), .v (.int .i64), .v (.int .i64), .v (.int .i64)], .mk false [.v .err]]⟩
def f_scale_Label_m (T : Unit) (d : Unit × (((Option ((List (Int × Int)) × (Int × Int))) × Unit) × ((Int × Unit) × ((Int × Unit) × ((Int × Unit) × Unit))))) : Option (Unit × ((Int × (Int × (Int × (Int × (Int × (Int × (Int × (Int × Unit)))))))) × (((Option Int) × Unit) × Unit))) :=
  (g_scale_place ((), ((d.2.1.1, ()), ((d.2.2.1.1, ()), ())))).bind fun x1 =>
  let x2 : Bool := (!x1.2.2.2.1.1.isNone)
  bif x2 then (
  some ((), (((0 : Int), ((0 : Int), ((0 : Int), ((0 : Int), ((0 : Int), ((0 : Int), ((0 : Int), ((0 : Int), ())))))))), ((x1.2.2.2.1.1, ()), ()))))
  else (
  (g_label_Of ((), ((x1.2.1.1, ()), ((x1.2.2.1.1, ()), ((d.2.2.2.1.1, ()), ((d.2.2.2.2.1.1, ()), ())))))).bind fun x3 =>
  some ((), ((x3.2.1.1, (x3.2.1.2.1, (x3.2.1.2.2.1, (x3.2.1.2.2.2.1, (x3.2.1.2.2.2.2.1, (x3.2.1.2.2.2.2.2.1, (x3.2.1.2.2.2.2.2.2.1, (x3.2.1.2.2.2.2.2.2.2.1, ())))))))), ((x3.2.2.1.1, ()), ()))))
def c_scale_Label : List Nat := []
def L_scale_Label (_ : Nat) : Pts po_scale_Label.den := []
def E_scale_Label : Env := ((E0.add 71 (typedSem pi_label_Of po_label_Of g_label_Of)).add 73 (typedSem pi_scale_place po_scale_place g_scale_place))
theorem q_scale_Label_m (k : Nat) (d : Unit × (((Option ((List (Int × Int)) × (Int × Int))) × Unit) × ((Int × Unit) × ((Int × Unit) × ((Int × Unit) × Unit))))) : evCode E_scale_Label (tab (L_scale_Label k)) c_scale_Label (bodyOf Try.f27) 0 (finK E_scale_Label po_scale_Label [.cell 8 26, .tmp 9]) (startSt pi_scale_Label 31 d) = f_scale_Label_m () d := by kernel_rfl
def g_scale_Label (d : Unit × (((Option ((List (Int × Int)) × (Int × Int))) × Unit) × ((Int × Unit) × ((Int × Unit) × ((Int × Unit) × Unit))))) : Option (Unit × ((Int × (Int × (Int × (Int × (Int × (Int × (Int × (Int × Unit)))))))) × (((Option Int) × Unit) × Unit))) := f_scale_Label_m () d
theorem ok_scale_Label : FnOk Try.prog ET0 27 pi_scale_Label po_scale_Label g_scale_Label :=
  fn_of_body (E := E_scale_Label) (envOk_add (envOk_add e0_ok (typed_ok ok_label_Of)) (typed_ok ok_scale_place)) (fn := Try.f27) Try.func27 (by kernel_rfl) (by kernel_rfl) [.cell 8 26, .tmp 9] (by kernel_rfl) (by kernel_rfl) (by decide) rfl c_scale_Label L_scale_Label
    (by intro x hx; cases hx) (by intro k x hx; cases hx) (fun d out h => ⟨0, (q_scale_Label_m 0 d).trans h⟩)

/- horologe/scale.Between -/
@[reducible] def pi_scale_Between : PSh := ⟨[], [.mk false [.v (.nptr (.pair (.sl (.pair (.int .i64) (.int .i64))) (.pair (.int .i64) (.int .i64))))], .mk true [.v (.int .i64), .v (.int .i64), .v (.int .i64), .v (.int .i64), .v (.int .i64), .v (.int .i64), .v (.int .i64), .v (.int .i64)], .mk true [.v (.int .i64), .v (.int .i64), .v (.int .i64), .v (.int .i64), .v (.int .i64), .v (.int .i64), .v (.int .i64), .v (.int .i64)]]⟩
@[reducible] def po_scale_Between : PSh := ⟨[], [.mk false [.v (.int .i64)], .mk false [.v .err]]⟩
def f_scale_Between_m (T : Unit) (d : Unit × (((Option ((List (Int × Int)) × (Int × Int))) × Unit) × ((Int × (Int × (Int × (Int × (Int × (Int × (Int × (Int × Unit)))))))) × ((Int × (Int × (Int × (Int × (Int × (Int × (Int × (Int × Unit)))))))) × Unit)))) : Option (Unit × ((Int × Unit) × (((Option Int) × Unit) × Unit))) :=
  (g_scale_Tai ((), ((d.2.1.1, ()), ((d.2.2.1.1, (d.2.2.1.2.1, (d.2.2.1.2.2.1, (d.2.2.1.2.2.2.1, (d.2.2.1.2.2.2.2.1, (d.2.2.1.2.2.2.2.2.1, (d.2.2.1.2.2.2.2.2.2.1, (d.2.2.1.2.2.2.2.2.2.2.1, ())))))))), ())))).bind fun x1 =>
  let x2 : Bool := (!x1.2.2.1.1.isNone)
  bif x2 then (
  some ((), (((0 : Int), ()), ((x1.2.2.1.1, ()), ()))))
  else (
  (g_scale_Tai ((), ((d.2.1.1, ()), ((d.2.2.2.1.1, (d.2.2.2.1.2.1, (d.2.2.2.1.2.2.1, (d.2.2.2.1.2.2.2.1, (d.2.2.2.1.2.2.2.2.1, (d.2.2.2.1.2.2.2.2.2.1, (d.2.2.2.1.2.2.2.2.2.2.1, (d.2.2.2.1.2.2.2.2.2.2.2.1, ())))))))), ())))).bind fun x3 =>
  let x4 : Bool := (!x3.2.2.1.1.isNone)
  bif x4 then (
  some ((), (((0 : Int), ()), ((x3.2.2.1.1, ()), ()))))
  else (
  let x5 : Int := (isub .i64 x3.2.1.1 x1.2.1.1)
  some ((), ((x5, ()), (((none : Option Int), ()), ())))))
def c_scale_Between : List Nat := []
def L_scale_Between (_ : Nat) : Pts po_scale_Between.den := []
def E_scale_Between : Env := (E0.add 22 (typedSem pi_scale_Tai po_scale_Tai g_scale_Tai))
theorem q_scale_Between_m (k : Nat) (d : Unit × (((Option ((List (Int × Int)) × (Int × Int))) × Unit) × ((Int × (Int × (Int × (Int × (Int × (Int × (Int × (Int × Unit)))))))) × ((Int × (Int × (Int × (Int × (Int × (Int × (Int × (Int × Unit)))))))) × Unit)))) : evCode E_scale_Between (tab (L_scale_Between k)) c_scale_Between (bodyOf Try.f34) 0 (finK E_scale_Between po_scale_Between [.tmp 6, .tmp 7]) (startSt pi_scale_Between 32 d) = f_scale_Between_m () d := by kernel_rfl
def g_scale_Between (d : Unit × (((Option ((List (Int × Int)) × (Int × Int))) × Unit) × ((Int × (Int × (Int × (Int × (Int × (Int × (Int × (Int × Unit)))))))) × ((Int × (Int × (Int × (Int × (Int × (Int × (Int × (Int × Unit)))))))) × Unit)))) : Option (Unit × ((Int × Unit) × (((Option Int) × Unit) × Unit))) := f_scale_Between_m () d
theorem ok_scale_Between : FnOk Try.prog ET0 34 pi_scale_Between po_scale_Between g_scale_Between :=
  fn_of_body (E := E_scale_Between) (envOk_add e0_ok (typed_ok ok_scale_Tai)) (fn := Try.f34) Try.func34 (by kernel_rfl) (by kernel_rfl) [.tmp 6, .tmp 7] (by kernel_rfl) (by kernel_rfl) (by decide) rfl c_scale_Between L_scale_Between
    (by intro x hx; cases hx) (by intro k x hx; cases hx) (fun d out h => ⟨0, (q_scale_Between_m 0 d).trans h⟩)

/- cmp.Or[int] -/
@[reducible] def pi_cmp_Or_int : PSh := ⟨[], [.mk false [.v (.sl (.int .i64))]]⟩
@[reducible] def po_cmp_Or_int : PSh := ⟨[], [.mk false [.v (.int .i64)]]⟩
@[reducible] def TT_cmp_Or_int : Type := (((Unit × ((Int × Unit) × (((List Int) × Unit) × ((Int × Unit) × ((Int × Unit) × Unit))))) → Option (Unit × ((Int × Unit) × Unit))) × Unit)
@[reducible] def sh_cmp_Or_int_4 : PSh := ⟨[], [.any, .any, .any, .mk false [.v (.int .i64)], .any, .any, .mk false [.v (.sl (.int .i64))], .mk false [.v (.int .i64)], .mk false [.v (.int .i64)], .any, .any, .any, .any, .any, .any, .any, .any, .any]⟩
def f_cmp_Or_int_p4 (T : TT_cmp_Or_int) (d : Unit × ((Int × Unit) × (((List Int) × Unit) × ((Int × Unit) × ((Int × Unit) × Unit))))) : Option (Unit × ((Int × Unit) × Unit)) :=
  let x2 : Bool := (decide (d.2.2.2.2.1.1 < d.2.2.2.1.1))
  bif x2 then (
  bif decide ((0 : Int) ≤ d.2.2.2.2.1.1) && decide (d.2.2.2.2.1.1 < (d.2.2.1.1.length : Int)) then (
  let x3 : Bool := ((gd (.int .i64) d.2.2.1.1 d.2.2.2.2.1.1) != d.2.1.1)
  bif x3 then (
  some ((), (((gd (.int .i64) d.2.2.1.1 d.2.2.2.2.1.1), ()), ())))
  else (
  let x4 : Int := (iadd .i64 d.2.2.2.2.1.1 (1 : Int))
  (T.1 ((), ((d.2.1.1, ()), ((d.2.2.1.1, ()), ((d.2.2.2.1.1, ()), ((x4, ()), ()))))))))
  else none)
  else (
  some ((), ((d.2.1.1, ()), ())))
def f_cmp_Or_int_t : Nat → TT_cmp_Or_int
  | 0 => (fun _ => none, ())
  | k + 1 => (f_cmp_Or_int_p4 (f_cmp_Or_int_t k), ())
theorem t_cmp_Or_int (k : Nat) : f_cmp_Or_int_t (k + 1) = (f_cmp_Or_int_p4 (f_cmp_Or_int_t k), ()) := rfl
def f_cmp_Or_int_m (T : TT_cmp_Or_int) (d : Unit × (((List Int) × Unit) × Unit)) : Option (Unit × ((Int × Unit) × Unit)) :=
  let x1 : Int := (d.2.1.1.length : Int)
  (T.1 ((), (((0 : Int), ()), ((d.2.1.1, ()), ((x1, ()), (((0 : Int), ()), ()))))))
def c_cmp_Or_int : List Nat := []
def L_cmp_Or_int (k : Nat) : Pts po_cmp_Or_int.den := [(4, ⟨sh_cmp_Or_int_4, (f_cmp_Or_int_t k).1⟩)]
def E_cmp_Or_int : Env := E0
theorem q_cmp_Or_int_4 (k : Nat) (d : Unit × ((Int × Unit) × (((List Int) × Unit) × ((Int × Unit) × ((Int × Unit) × Unit))))) : evAt E_cmp_Or_int (tab (L_cmp_Or_int k)) c_cmp_Or_int 4 (bodyOf Try.f82) 0 (finK E_cmp_Or_int po_cmp_Or_int [.tmp 2]) (ptSt sh_cmp_Or_int_4 d) = f_cmp_Or_int_p4 (f_cmp_Or_int_t k) d := by kernel_rfl
theorem q_cmp_Or_int_m (k : Nat) (d : Unit × (((List Int) × Unit) × Unit)) : evCode E_cmp_Or_int (tab (L_cmp_Or_int k)) c_cmp_Or_int (bodyOf Try.f82) 0 (finK E_cmp_Or_int po_cmp_Or_int [.tmp 2]) (startSt pi_cmp_Or_int 18 d) = f_cmp_Or_int_m (f_cmp_Or_int_t k) d := by kernel_rfl
theorem go_cmp_Or_int (G : Unit × (((List Int) × Unit) × Unit) → Option (Unit × ((Int × Unit) × Unit))) (hG : ∀ d out, G d = some out → ∃ k, f_cmp_Or_int_m (f_cmp_Or_int_t k) d = some out) : FnOk Try.prog ET0 82 pi_cmp_Or_int po_cmp_Or_int G :=
  fn_of_body (E := E_cmp_Or_int) e0_ok (fn := Try.f82) Try.func82 (by kernel_rfl) (by kernel_rfl) [.tmp 2] (by kernel_rfl) (by kernel_rfl) (by decide) rfl c_cmp_Or_int L_cmp_Or_int
    (by intro x hx d; simp only [L_cmp_Or_int, List.mem_cons, List.not_mem_nil, or_false] at hx; subst hx; rfl)
    (by intro k x hx d out h; simp only [L_cmp_Or_int, List.mem_cons, List.not_mem_nil, or_false] at hx; subst hx; exact (q_cmp_Or_int_4 k d).trans h)
    (by intro d out h; obtain ⟨k, hk⟩ := hG d out h; exact ⟨k, (q_cmp_Or_int_m k d).trans hk⟩)
def g_cmp_Or_int (d : Unit × (((List Int) × Unit) × Unit)) : Option (Unit × ((Int × Unit) × Unit)) := lim fun k => f_cmp_Or_int_m (f_cmp_Or_int_t k) d
theorem ok_cmp_Or_int : FnOk Try.prog ET0 82 pi_cmp_Or_int po_cmp_Or_int g_cmp_Or_int := go_cmp_Or_int g_cmp_Or_int fun d out h => lim_some h

/- cmp.isNaN[int64] -/
@[reducible] def pi_cmp_isNaN_i64 : PSh := ⟨[], [.mk false [.v (.int .i64)]]⟩
@[reducible] def po_cmp_isNaN_i64 : PSh := ⟨[], [.mk false [.v .bool]]⟩
def f_cmp_isNaN_i64_m (T : Unit) (d : Unit × ((Int × Unit) × Unit)) : Option (Unit × ((Bool × Unit) × Unit)) :=
  let x1 : Bool := (d.2.1.1 != d.2.1.1)
  some ((), ((x1, ()), ()))
def c_cmp_isNaN_i64 : List Nat := []
def L_cmp_isNaN_i64 (_ : Nat) : Pts po_cmp_isNaN_i64.den := []
def E_cmp_isNaN_i64 : Env := E0
theorem q_cmp_isNaN_i64_m (k : Nat) (d : Unit × ((Int × Unit) × Unit)) : evCode E_cmp_isNaN_i64 (tab (L_cmp_isNaN_i64 k)) c_cmp_isNaN_i64 (bodyOf Try.f131) 0 (finK E_cmp_isNaN_i64 po_cmp_isNaN_i64 [.tmp 2]) (startSt pi_cmp_isNaN_i64 6 d) = f_cmp_isNaN_i64_m () d := by kernel_rfl
def g_cmp_isNaN_i64 (d : Unit × ((Int × Unit) × Unit)) : Option (Unit × ((Bool × Unit) × Unit)) := f_cmp_isNaN_i64_m () d
theorem ok_cmp_isNaN_i64 : FnOk Try.prog ET0 131 pi_cmp_isNaN_i64 po_cmp_isNaN_i64 g_cmp_isNaN_i64 :=
  fn_of_body (E := E_cmp_isNaN_i64) e0_ok (fn := Try.f131) Try.func131 (by kernel_rfl) (by kernel_rfl) [.tmp 2] (by kernel_rfl) (by kernel_rfl) (by decide) rfl c_cmp_isNaN_i64 L_cmp_isNaN_i64
    (by intro x hx; cases hx) (by intro k x hx; cases hx) (fun d out h => ⟨0, (q_cmp_isNaN_i64_m 0 d).trans h⟩)

/- cmp.Compare[int64] -/
@[reducible] def pi_cmp_Compare_i64 : PSh := ⟨[], [.mk false [.v (.int .i64)], .mk false [.v (.int .i64)]]⟩
@[reducible] def po_cmp_Compare_i64 : PSh := ⟨[], [.mk false [.v (.int .i64)]]⟩
def f_cmp_Compare_i64_m (T : Unit) (d : Unit × ((Int × Unit) × ((Int × Unit) × Unit))) : Option (Unit × ((Int × Unit) × Unit)) :=
  (g_cmp_isNaN_i64 ((), ((d.2.1.1, ()), ()))).bind fun x1 =>
  (g_cmp_isNaN_i64 ((), ((d.2.2.1.1, ()), ()))).bind fun x2 =>
  bif x1.2.1.1 then (
  bif x2.2.1.1 then (
  some ((), (((0 : Int), ()), ())))
  else (
  some ((), (((-1 : Int), ()), ()))))
  else (
  bif x2.2.1.1 then (
  some ((), (((1 : Int), ()), ())))
  else (
  let x3 : Bool := (decide (d.2.1.1 < d.2.2.1.1))
  bif x3 then (
  some ((), (((-1 : Int), ()), ())))
  else (
  let x4 : Bool := (decide (d.2.1.1 > d.2.2.1.1))
  bif x4 then (
  some ((), (((1 : Int), ()), ())))
  else (
  some ((), (((0 : Int), ()), ()))))))
def c_cmp_Compare_i64 : List Nat := []
def L_cmp_Compare_i64 (_ : Nat) : Pts po_cmp_Compare_i64.den := []
def E_cmp_Compare_i64 : Env := (E0.add 131 (typedSem pi_cmp_isNaN_i64 po_cmp_isNaN_i64 g_cmp_isNaN_i64))
theorem q_cmp_Compare_i64_m (k : Nat) (d : Unit × ((Int × Unit) × ((Int × Unit) × Unit))) : evCode E_cmp_Compare_i64 (tab (L_cmp_Compare_i64 k)) c_cmp_Compare_i64 (bodyOf Try.f83) 0 (finK E_cmp_Compare_i64 po_cmp_Compare_i64 [.tmp 4]) (startSt pi_cmp_Compare_i64 20 d) = f_cmp_Compare_i64_m () d := by kernel_rfl
def g_cmp_Compare_i64 (d : Unit × ((Int × Unit) × ((Int × Unit) × Unit))) : Option (Unit × ((Int × Unit) × Unit)) := f_cmp_Compare_i64_m () d
theorem ok_cmp_Compare_i64 : FnOk Try.prog ET0 83 pi_cmp_Compare_i64 po_cmp_Compare_i64 g_cmp_Compare_i64 :=
  fn_of_body (E := E_cmp_Compare_i64) (envOk_add e0_ok (typed_ok ok_cmp_isNaN_i64)) (fn := Try.f83) Try.func83 (by kernel_rfl) (by kernel_rfl) [.tmp 4] (by kernel_rfl) (by kernel_rfl) (by decide) rfl c_cmp_Compare_i64 L_cmp_Compare_i64
    (by intro x hx; cases hx) (by intro k x hx; cases hx) (fun d out h => ⟨0, (q_cmp_Compare_i64_m 0 d).trans h⟩)

/- cmp.isNaN[int] -/
@[reducible] def pi_cmp_isNaN_int : PSh := ⟨[], [.mk false [.v (.int .i64)]]⟩
@[reducible] def po_cmp_isNaN_int : PSh := ⟨[], [.mk false [.v .bool]]⟩
def f_cmp_isNaN_int_m (T : Unit) (d : Unit × ((Int × Unit) × Unit)) : Option (Unit × ((Bool × Unit) × Unit)) :=
  let x1 : Bool := (d.2.1.1 != d.2.1.1)
  some ((), ((x1, ()), ()))
def c_cmp_isNaN_int : List Nat := []
def L_cmp_isNaN_int (_ : Nat) : Pts po_cmp_isNaN_int.den := []
def E_cmp_isNaN_int : Env := E0
theorem q_cmp_isNaN_int_m (k : Nat) (d : Unit × ((Int × Unit) × Unit)) : evCode E_cmp_isNaN_int (tab (L_cmp_isNaN_int k)) c_cmp_isNaN_int (bodyOf Try.f132) 0 (finK E_cmp_isNaN_int po_cmp_isNaN_int [.tmp 2]) (startSt pi_cmp_isNaN_int 6 d) = f_cmp_isNaN_int_m () d := by kernel_rfl
def g_cmp_isNaN_int (d : Unit × ((Int × Unit) × Unit)) : Option (Unit × ((Bool × Unit) × Unit)) := f_cmp_isNaN_int_m () d
theorem ok_cmp_isNaN_int : FnOk Try.prog ET0 132 pi_cmp_isNaN_int po_cmp_isNaN_int g_cmp_isNaN_int :=
  fn_of_body (E := E_cmp_isNaN_int) e0_ok (fn := Try.f132) Try.func132 (by kernel_rfl) (by kernel_rfl) [.tmp 2] (by kernel_rfl) (by kernel_rfl) (by decide) rfl c_cmp_isNaN_int L_cmp_isNaN_int
    (by intro x hx; cases hx) (by intro k x hx; cases hx) (fun d out h => ⟨0, (q_cmp_isNaN_int_m 0 d).trans h⟩)

/- cmp.Compare[int] -/
@[reducible] def pi_cmp_Compare_int : PSh := ⟨[], [.mk false [.v (.int .i64)], .mk false [.v (.int .i64)]]⟩
@[reducible] def po_cmp_Compare_int : PSh := ⟨[], [.mk false [.v (.int .i64)]]⟩
def f_cmp_Compare_int_m (T : Unit) (d : Unit × ((Int × Unit) × ((Int × Unit) × Unit))) : Option (Unit × ((Int × Unit) × Unit)) :=
  (g_cmp_isNaN_int ((), ((d.2.1.1, ()), ()))).bind fun x1 =>
  (g_cmp_isNaN_int ((), ((d.2.2.1.1, ()), ()))).bind fun x2 =>
  bif x1.2.1.1 then (
  bif x2.2.1.1 then (
  some ((), (((0 : Int), ()), ())))
  else (
  some ((), (((-1 : Int), ()), ()))))
  else (
  bif x2.2.1.1 then (
  some ((), (((1 : Int), ()), ())))
  else (
  let x3 : Bool := (decide (d.2.1.1 < d.2.2.1.1))
  bif x3 then (
  some ((), (((-1 : Int), ()), ())))
  else (
  let x4 : Bool := (decide (d.2.1.1 > d.2.2.1.1))
  bif x4 then (
  some ((), (((1 : Int), ()), ())))
  else (
  some ((), (((0 : Int), ()), ()))))))
def c_cmp_Compare_int : List Nat := []
def L_cmp_Compare_int (_ : Nat) : Pts po_cmp_Compare_int.den := []
def E_cmp_Compare_int : Env := (E0.add 132 (typedSem pi_cmp_isNaN_int po_cmp_isNaN_int g_cmp_isNaN_int))
theorem q_cmp_Compare_int_m (k : Nat) (d : Unit × ((Int × Unit) × ((Int × Unit) × Unit))) : evCode E_cmp_Compare_int (tab (L_cmp_Compare_int k)) c_cmp_Compare_int (bodyOf Try.f84) 0 (finK E_cmp_Compare_int po_cmp_Compare_int [.tmp 4]) (startSt pi_cmp_Compare_int 20 d) = f_cmp_Compare_int_m () d := by kernel_rfl
def g_cmp_Compare_int (d : Unit × ((Int × Unit) × ((Int × Unit) × Unit))) : Option (Unit × ((Int × Unit) × Unit)) := f_cmp_Compare_int_m () d
theorem ok_cmp_Compare_int : FnOk Try.prog ET0 84 pi_cmp_Compare_int po_cmp_Compare_int g_cmp_Compare_int :=
  fn_of_body (E := E_cmp_Compare_int) (envOk_add e0_ok (typed_ok ok_cmp_isNaN_int)) (fn := Try.f84) Try.func84 (by kernel_rfl) (by kernel_rfl) [.tmp 4] (by kernel_rfl) (by kernel_rfl) (by decide) rfl c_cmp_Compare_int L_cmp_Compare_int
    (by intro x hx; cases hx) (by intro k x hx; cases hx) (fun d out h => ⟨0, (q_cmp_Compare_int_m 0 d).trans h⟩)

/- horologe/label.Compare -/
@[reducible] def pi_label_Compare : PSh := ⟨[], [.mk true [.v (.int .i64), .v (.int .i64), .v (.int .i64), .v (.int .i64), .v (.int .i64), .v (.int .i64), .v (.int .i64), .v (.int .i64)], .mk true [.v (.int .i64), .v (.int .i64), .v (.int .i64), .v (.int .i64), .v (.int .i64), .v (.int .i64), .v (.int .i64), .v (.int .i64)]]⟩
@[reducible] def po_label_Compare : PSh := ⟨[], [.mk false [.v (.int .i64)], .mk false [.v .err]]⟩
def f_label_Compare_m (T : Unit) (d : Unit × ((Int × (Int × (Int × (Int × (Int × (Int × (Int × (Int × Unit)))))))) × ((Int × (Int × (Int × (Int × (Int × (Int × (Int × (Int × Unit)))))))) × Unit))) : Option (Unit × ((Int × Unit) × (((Option Int) × Unit) × Unit))) :=
  (g_label_Split ((), ((d.2.1.1, (d.2.1.2.1, (d.2.1.2.2.1, (d.2.1.2.2.2.1, (d.2.1.2.2.2.2.1, (d.2.1.2.2.2.2.2.1, (d.2.1.2.2.2.2.2.2.1, (d.2.1.2.2.2.2.2.2.2.1, ())))))))), ()))).bind fun x1 =>
  let x2 : Bool := (!x1.2.2.2.1.1.isNone)
  bif x2 then (
  some ((), (((0 : Int), ()), ((x1.2.2.2.1.1, ()), ()))))
  else (
  (g_label_Split ((), ((d.2.2.1.1, (d.2.2.1.2.1, (d.2.2.1.2.2.1, (d.2.2.1.2.2.2.1, (d.2.2.1.2.2.2.2.1, (d.2.2.1.2.2.2.2.2.1, (d.2.2.1.2.2.2.2.2.2.1, (d.2.2.1.2.2.2.2.2.2.2.1, ())))))))), ()))).bind fun x3 =>
  let x4 : Bool := (!x3.2.2.2.1.1.isNone)
  bif x4 then (
  some ((), (((0 : Int), ()), ((x3.2.2.2.1.1, ()), ()))))
  else (
  (g_cmp_Compare_i64 ((), ((x1.2.1.1, ()), ((x3.2.1.1, ()), ())))).bind fun x5 =>
  (g_cmp_Compare_int ((), ((x1.2.2.1.1, ()), ((x3.2.2.1.1, ()), ())))).bind fun x6 =>
  (g_cmp_Compare_int ((), ((d.2.1.2.2.2.2.2.2.1, ()), ((d.2.2.1.2.2.2.2.2.2.1, ()), ())))).bind fun x7 =>
  let x8 : (List Int) := ([x5.2.1.1, x6.2.1.1, x7.2.1.1] : List Int)
  (g_cmp_Or_int ((), ((x8, ()), ()))).bind fun x9 =>
  some ((), ((x9.2.1.1, ()), (((none : Option Int), ()), ())))))
def c_label_Compare : List Nat := []
def L_label_Compare (_ : Nat) : Pts po_label_Compare.den := []
def E_label_Compare : Env := ((((E0.add 59 (typedSem pi_label_Split po_label_Split g_label_Split)).add 82 (typedSem pi_cmp_Or_int po_cmp_Or_int g_cmp_Or_int)).add 83 (typedSem pi_cmp_Compare_i64 po_cmp_Compare_i64 g_cmp_Compare_i64)).add 84 (typedSem pi_cmp_Compare_int po_cmp_Compare_int g_cmp_Compare_int))
theorem q_label_Compare_m (k : Nat) (d : Unit × ((Int × (Int × (Int × (Int × (Int × (Int × (Int × (Int × Unit)))))))) × ((Int × (Int × (Int × (Int × (Int × (Int × (Int × (Int × Unit)))))))) × Unit))) : evCode E_label_Compare (tab (L_label_Compare k)) c_label_Compare (bodyOf Try.f35) 0 (finK E_label_Compare po_label_Compare [.tmp 4, .tmp 5]) (startSt pi_label_Compare 42 d) = f_label_Compare_m () d := by kernel_rfl
def g_label_Compare (d : Unit × ((Int × (Int × (Int × (Int × (Int × (Int × (Int × (Int × Unit)))))))) × ((Int × (Int × (Int × (Int × (Int × (Int × (Int × (Int × Unit)))))))) × Unit))) : Option (Unit × ((Int × Unit) × (((Option Int) × Unit) × Unit))) := f_label_Compare_m () d
theorem ok_label_Compare : FnOk Try.prog ET0 35 pi_label_Compare po_label_Compare g_label_Compare :=
  fn_of_body (E := E_label_Compare) (envOk_add (envOk_add (envOk_add (envOk_add e0_ok (typed_ok ok_label_Split)) (typed_ok ok_cmp_Or_int)) (typed_ok ok_cmp_Compare_i64)) (typed_ok ok_cmp_Compare_int)) (fn := Try.f35) Try.func35 (by kernel_rfl) (by kernel_rfl) [.tmp 4, .tmp 5] (by kernel_rfl) (by kernel_rfl) (by decide) rfl c_label_Compare L_label_Compare
    (by intro x hx; cases hx) (by intro k x hx; cases hx) (fun d out h => ⟨0, (q_label_Compare_m 0 d).trans h⟩)

/- horologe/horologelaw12.ScaleBack -/
@[reducible] def pi_law12_ScaleBack : PSh := ⟨[], [.mk true [.v (.sl (.pair (.int .i64) (.int .i64))), .v (.int .i64), .v (.int .i64)], .mk true [.v (.int .i64), .v (.int .i64), .v (.int .i64), .v (.int .i64), .v (.int .i64), .v (.int .i64), .v (.int .i64), .v (.int .i64)], .mk true [.v (.int .i64), .v (.int .i64), .v (.int .i64), .v (.int .i64), .v (.int .i64), .v (.int .i64), .v (.int .i64), .v (.int .i64)]]⟩
@[reducible] def po_law12_ScaleBack : PSh := ⟨[], [.mk false [.v .bool]]⟩
def f_law12_ScaleBack_m (T : Unit) (d : Unit × (((List (Int × Int)) × (Int × (Int × Unit))) × ((Int × (Int × (Int × (Int × (Int × (Int × (Int × (Int × Unit)))))))) × ((Int × (Int × (Int × (Int × (Int × (Int × (Int × (Int × Unit)))))))) × Unit)))) : Option (Unit × ((Bool × Unit) × Unit)) :=
  (g_law12_alive ((), ())).bind fun x1 =>
  let x2 : Bool := (!x1.2.1.1)
  bif x2 then (
  some ((), ((false, ()), ())))
  else (
  (g_law10_Long ((), ((d.2.1.1, (d.2.1.2.1, (d.2.1.2.2.1, ()))), ()))).bind fun x3 =>
  bif x3.2.1.1 then (
  some ((), ((true, ()), ())))
  else (
  (g_leap_New ((), ((d.2.1.1, ()), ((d.2.1.2.1, ()), ((d.2.1.2.2.1, ()), ()))))).bind fun x4 =>
  let x5 : Bool := (!x4.2.2.1.1.isNone)
  bif x5 then (
  some ((), ((x4.2.1.1.isNone, ()), ())))
  else (
  (g_scale_Tai ((), ((x4.2.1.1, ()), ((d.2.2.1.1, (d.2.2.1.2.1, (d.2.2.1.2.2.1, (d.2.2.1.2.2.2.1, (d.2.2.1.2.2.2.2.1, (d.2.2.1.2.2.2.2.2.1, (d.2.2.1.2.2.2.2.2.2.1, (d.2.2.1.2.2.2.2.2.2.2.1, ())))))))), ())))).bind fun x6 =>
  (g_scale_Tai ((), ((x4.2.1.1, ()), ((d.2.2.2.1.1, (d.2.2.2.1.2.1, (d.2.2.2.1.2.2.1, (d.2.2.2.1.2.2.2.1, (d.2.2.2.1.2.2.2.2.1, (d.2.2.2.1.2.2.2.2.2.1, (d.2.2.2.1.2.2.2.2.2.2.1, (d.2.2.2.1.2.2.2.2.2.2.2.1, ())))))))), ())))).bind fun x7 =>
  (g_scale_Between ((), ((x4.2.1.1, ()), ((d.2.2.1.1, (d.2.2.1.2.1, (d.2.2.1.2.2.1, (d.2.2.1.2.2.2.1, (d.2.2.1.2.2.2.2.1, (d.2.2.1.2.2.2.2.2.1, (d.2.2.1.2.2.2.2.2.2.1, (d.2.2.1.2.2.2.2.2.2.2.1, ())))))))), ((d.2.2.2.1.1, (d.2.2.2.1.2.1, (d.2.2.2.1.2.2.1, (d.2.2.2.1.2.2.2.1, (d.2.2.2.1.2.2.2.2.1, (d.2.2.2.1.2.2.2.2.2.1, (d.2.2.2.1.2.2.2.2.2.2.1, (d.2.2.2.1.2.2.2.2.2.2.2.1, ())))))))), ()))))).bind fun x8 =>
  let x9 : Bool := (!x6.2.2.1.1.isNone)
  bif x9 then (
  (g_hnum_Num ((), ((x8.2.2.1.1, ()), ()))).bind fun x10 =>
  (g_hnum_Num ((), ((x6.2.2.1.1, ()), ()))).bind fun x11 =>
  let x12 : Bool := (x10.2.1.1 == x11.2.1.1)
  bif x12 then (
  let x13 : Bool := (x8.2.1.1 == (0 : Int))
  some ((), ((x13, ()), ())))
  else (
  some ((), ((false, ()), ()))))
  else (
  (g_scale_Label ((), ((x4.2.1.1, ()), ((x6.2.1.1, ()), ((d.2.2.1.2.2.2.2.2.2.1, ()), ((d.2.2.1.2.2.2.2.2.2.2.1, ()), ())))))).bind fun x14 =>
  let x15 : Bool := (!x14.2.2.1.1.isNone)
  bif x15 then (
  some ((), ((false, ()), ())))
  else (
  let x16 : Bool := (!((x14.2.1.1 == d.2.2.1.1) && ((x14.2.1.2.1 == d.2.2.1.2.1) && ((x14.2.1.2.2.1 == d.2.2.1.2.2.1) && ((x14.2.1.2.2.2.1 == d.2.2.1.2.2.2.1) && ((x14.2.1.2.2.2.2.1 == d.2.2.1.2.2.2.2.1) && ((x14.2.1.2.2.2.2.2.1 == d.2.2.1.2.2.2.2.2.1) && ((x14.2.1.2.2.2.2.2.2.1 == d.2.2.1.2.2.2.2.2.2.1) && ((x14.2.1.2.2.2.2.2.2.2.1 == d.2.2.1.2.2.2.2.2.2.2.1) && true)))))))))
  bif x16 then (
  some ((), ((false, ()), ())))
  else (
  let x17 : Bool := (!x7.2.2.1.1.isNone)
  bif x17 then (
  (g_hnum_Num ((), ((x8.2.2.1.1, ()), ()))).bind fun x18 =>
  (g_hnum_Num ((), ((x7.2.2.1.1, ()), ()))).bind fun x19 =>
  let x20 : Bool := (x18.2.1.1 == x19.2.1.1)
  bif x20 then (
  let x21 : Bool := (x8.2.1.1 == (0 : Int))
  some ((), ((x21, ()), ())))
  else (
  some ((), ((false, ()), ()))))
  else (
  (g_label_Compare ((), ((d.2.2.1.1, (d.2.2.1.2.1, (d.2.2.1.2.2.1, (d.2.2.1.2.2.2.1, (d.2.2.1.2.2.2.2.1, (d.2.2.1.2.2.2.2.2.1, (d.2.2.1.2.2.2.2.2.2.1, (d.2.2.1.2.2.2.2.2.2.2.1, ())))))))), ((d.2.2.2.1.1, (d.2.2.2.1.2.1, (d.2.2.2.1.2.2.1, (d.2.2.2.1.2.2.2.1, (d.2.2.2.1.2.2.2.2.1, (d.2.2.2.1.2.2.2.2.2.1, (d.2.2.2.1.2.2.2.2.2.2.1, (d.2.2.2.1.2.2.2.2.2.2.2.1, ())))))))), ())))).bind fun x22 =>
  let x23 : Bool := (!x8.2.2.1.1.isNone)
  bif x23 then (
  some ((), ((false, ()), ())))
  else (
  let x24 : Bool := (!x22.2.2.1.1.isNone)
  bif x24 then (
  some ((), ((false, ()), ())))
  else (
  let x25 : Int := (isub .i64 x7.2.1.1 x6.2.1.1)
  let x26 : Bool := (x8.2.1.1 != x25)
  bif x26 then (
  some ((), ((false, ()), ())))
  else (
  let x27 : Bool := (decide (x22.2.1.1 < (0 : Int)))
  bif x27 then (
  let x28 : Bool := (decide (x6.2.1.1 ≤ x7.2.1.1))
  bif x28 then (
  let x29 : Bool := (decide (x6.2.1.1 < x7.2.1.1))
  bif x29 then (
  some ((), ((true, ()), ())))
  else (
  let x30 : Bool := (decide (d.2.2.1.2.2.2.2.2.2.1 < d.2.2.2.1.2.2.2.2.2.2.1))
  bif x30 then (
  some ((), ((true, ()), ())))
  else (
  let x31 : Bool := (x22.2.1.1 == (0 : Int))
  bif x31 then (
  let x32 : Bool := (x6.2.1.1 == x7.2.1.1)
  bif x32 then (
  some ((), ((true, ()), ())))
  else (
  let x33 : Bool := (decide (x22.2.1.1 > (0 : Int)))
  bif x33 then (
  let x34 : Bool := (decide (x6.2.1.1 ≥ x7.2.1.1))
  bif x34 then (
  let x35 : Bool := (decide (x6.2.1.1 > x7.2.1.1))
  bif x35 then (
  some ((), ((true, ()), ())))
  else (
  let x36 : Bool := (decide (d.2.2.1.2.2.2.2.2.2.1 > d.2.2.2.1.2.2.2.2.2.2.1))
  some ((), ((x36, ()), ()))))
  else (
  some ((), ((false, ()), ()))))
  else (
  some ((), ((false, ()), ())))))
  else (
  let x37 : Bool := (decide (x22.2.1.1 > (0 : Int)))
  bif x37 then (
  let x38 : Bool := (decide (x6.2.1.1 ≥ x7.2.1.1))
  bif x38 then (
  let x39 : Bool := (decide (x6.2.1.1 > x7.2.1.1))
  bif x39 then (
  some ((), ((true, ()), ())))
  else (
  let x40 : Bool := (decide (d.2.2.1.2.2.2.2.2.2.1 > d.2.2.2.1.2.2.2.2.2.2.1))
  some ((), ((x40, ()), ()))))
  else (
  some ((), ((false, ()), ()))))
  else (
  some ((), ((false, ()), ())))))))
  else (
  let x41 : Bool := (x22.2.1.1 == (0 : Int))
  bif x41 then (
  let x42 : Bool := (x6.2.1.1 == x7.2.1.1)
  bif x42 then (
  some ((), ((true, ()), ())))
  else (
  let x43 : Bool := (decide (x22.2.1.1 > (0 : Int)))
  bif x43 then (
  let x44 : Bool := (decide (x6.2.1.1 ≥ x7.2.1.1))
  bif x44 then (
  let x45 : Bool := (decide (x6.2.1.1 > x7.2.1.1))
  bif x45 then (
  some ((), ((true, ()), ())))
  else (
  let x46 : Bool := (decide (d.2.2.1.2.2.2.2.2.2.1 > d.2.2.2.1.2.2.2.2.2.2.1))
  some ((), ((x46, ()), ()))))
  else (
  some ((), ((false, ()), ()))))
  else (
  some ((), ((false, ()), ())))))
  else (
  let x47 : Bool := (decide (x22.2.1.1 > (0 : Int)))
  bif x47 then (
  let x48 : Bool := (decide (x6.2.1.1 ≥ x7.2.1.1))
  bif x48 then (
  let x49 : Bool := (decide (x6.2.1.1 > x7.2.1.1))
  bif x49 then (
  some ((), ((true, ()), ())))
  else (
  let x50 : Bool := (decide (d.2.2.1.2.2.2.2.2.2.1 > d.2.2.2.1.2.2.2.2.2.2.1))
  some ((), ((x50, ()), ()))))
  else (
  some ((), ((false, ()), ()))))
  else (
  some ((), ((false, ()), ()))))))
  else (
  let x51 : Bool := (x22.2.1.1 == (0 : Int))
  bif x51 then (
  let x52 : Bool := (x6.2.1.1 == x7.2.1.1)
  bif x52 then (
  some ((), ((true, ()), ())))
  else (
  let x53 : Bool := (decide (x22.2.1.1 > (0 : Int)))
  bif x53 then (
  let x54 : Bool := (decide (x6.2.1.1 ≥ x7.2.1.1))
  bif x54 then (
  let x55 : Bool := (decide (x6.2.1.1 > x7.2.1.1))
  bif x55 then (
  some ((), ((true, ()), ())))
  else (
  let x56 : Bool := (decide (d.2.2.1.2.2.2.2.2.2.1 > d.2.2.2.1.2.2.2.2.2.2.1))
  some ((), ((x56, ()), ()))))
  else (
  some ((), ((false, ()), ()))))
  else (
  some ((), ((false, ()), ())))))
  else (
  let x57 : Bool := (decide (x22.2.1.1 > (0 : Int)))
  bif x57 then (
  let x58 : Bool := (decide (x6.2.1.1 ≥ x7.2.1.1))
  bif x58 then (
  let x59 : Bool := (decide (x6.2.1.1 > x7.2.1.1))
  bif x59 then (
  some ((), ((true, ()), ())))
  else (
  let x60 : Bool := (decide (d.2.2.1.2.2.2.2.2.2.1 > d.2.2.2.1.2.2.2.2.2.2.1))
  some ((), ((x60, ()), ()))))
  else (
  some ((), ((false, ()), ()))))
  else (
  some ((), ((false, ()), ())))))))))))))))
def c_law12_ScaleBack : List Nat := []
def L_law12_ScaleBack (_ : Nat) : Pts po_law12_ScaleBack.den := []
def E_law12_ScaleBack : Env := ((((((((E0.add 11 (typedSem pi_law12_alive po_law12_alive g_law12_alive)).add 12 (typedSem pi_law10_Long po_law10_Long g_law10_Long)).add 16 (typedSem pi_hnum_Num po_hnum_Num g_hnum_Num)).add 22 (typedSem pi_scale_Tai po_scale_Tai g_scale_Tai)).add 27 (typedSem pi_scale_Label po_scale_Label g_scale_Label)).add 33 (typedSem pi_leap_New po_leap_New g_leap_New)).add 34 (typedSem pi_scale_Between po_scale_Between g_scale_Between)).add 35 (typedSem pi_label_Compare po_label_Compare g_label_Compare))
theorem q_law12_ScaleBack_m (k : Nat) (d : Unit × (((List (Int × Int)) × (Int × (Int × Unit))) × ((Int × (Int × (Int × (Int × (Int × (Int × (Int × (Int × Unit)))))))) × ((Int × (Int × (Int × (Int × (Int × (Int × (Int × (Int × Unit)))))))) × Unit)))) : evCode E_law12_ScaleBack (tab (L_law12_ScaleBack k)) c_law12_ScaleBack (bodyOf Try.f6) 0 (finK E_law12_ScaleBack po_law12_ScaleBack [.tmp 6]) (startSt pi_law12_ScaleBack 162 d) = f_law12_ScaleBack_m () d := by kernel_rfl
def g_law12_ScaleBack (d : Unit × (((List (Int × Int)) × (Int × (Int × Unit))) × ((Int × (Int × (Int × (Int × (Int × (Int × (Int × (Int × Unit)))))))) × ((Int × (Int × (Int × (Int × (Int × (Int × (Int × (Int × Unit)))))))) × Unit)))) : Option (Unit × ((Bool × Unit) × Unit)) := f_law12_ScaleBack_m () d
theorem ok_law12_ScaleBack : FnOk Try.prog ET0 6 pi_law12_ScaleBack po_law12_ScaleBack g_law12_ScaleBack :=
  fn_of_body (E := E_law12_ScaleBack) (envOk_add (envOk_add (envOk_add (envOk_add (envOk_add (envOk_add (envOk_add (envOk_add e0_ok (typed_ok ok_law12_alive)) (typed_ok ok_law10_Long)) (typed_ok ok_hnum_Num)) (typed_ok ok_scale_Tai)) (typed_ok ok_scale_Label)) (typed_ok ok_leap_New)) (typed_ok ok_scale_Between)) (typed_ok ok_label_Compare)) (fn := Try.f6) Try.func6 (by kernel_rfl) (by kernel_rfl) [.tmp 6] (by kernel_rfl) (by kernel_rfl) (by decide) rfl c_law12_ScaleBack L_law12_ScaleBack
    (by intro x hx; cases hx) (by intro k x hx; cases hx) (fun d out h => ⟨0, (q_law12_ScaleBack_m 0 d).trans h⟩)

/- horologe/scale.PosixOf -/
@[reducible] def pi_scale_PosixOf : PSh := ⟨[], [.mk false [.v (.nptr (.pair (.sl (.pair (.int .i64) (.int .i64))) (.pair (.int .i64) (.int .i64))))], .mk false [.v (.int .i64)]]⟩
@[reducible] def po_scale_PosixOf : PSh := ⟨[], [.mk false [.v (.int .i64)], .mk false [.v .bool], .mk false [.v .err]]⟩
def f_scale_PosixOf_m (T : Unit) (d : Unit × (((Option ((List (Int × Int)) × (Int × Int))) × Unit) × ((Int × Unit) × Unit))) : Option (Unit × ((Int × Unit) × ((Bool × Unit) × (((Option Int) × Unit) × Unit)))) :=
  (g_scale_place ((), ((d.2.1.1, ()), ((d.2.2.1.1, ()), ())))).bind fun x1 =>
  let x2 : Bool := (!x1.2.2.2.1.1.isNone)
  bif x2 then (
  some ((), (((0 : Int), ()), ((false, ()), ((x1.2.2.2.1.1, ()), ())))))
  else (
  let x3 : Int := (imul .i64 x1.2.1.1 (86400 : Int))
  let x4 : Int := (iadd .i64 x3 x1.2.2.1.1)
  let x5 : Bool := (x1.2.2.1.1 == (86400 : Int))
  some ((), ((x4, ()), ((x5, ()), (((none : Option Int), ()), ())))))
def c_scale_PosixOf : List Nat := []
def L_scale_PosixOf (_ : Nat) : Pts po_scale_PosixOf.den := []
def E_scale_PosixOf : Env := (E0.add 73 (typedSem pi_scale_place po_scale_place g_scale_place))
theorem q_scale_PosixOf_m (k : Nat) (d : Unit × (((Option ((List (Int × Int)) × (Int × Int))) × Unit) × ((Int × Unit) × Unit))) : evCode E_scale_PosixOf (tab (L_scale_PosixOf k)) c_scale_PosixOf (bodyOf Try.f30) 0 (finK E_scale_PosixOf po_scale_PosixOf [.tmp 4, .tmp 5, .tmp 6]) (startSt pi_scale_PosixOf 26 d) = f_scale_PosixOf_m () d := by kernel_rfl
def g_scale_PosixOf (d : Unit × (((Option ((List (Int × Int)) × (Int × Int))) × Unit) × ((Int × Unit) × Unit))) : Option (Unit × ((Int × Unit) × ((Bool × Unit) × (((Option Int) × Unit) × Unit)))) := f_scale_PosixOf_m () d
theorem ok_scale_PosixOf : FnOk Try.prog ET0 30 pi_scale_PosixOf po_scale_PosixOf g_scale_PosixOf :=
  fn_of_body (E := E_scale_PosixOf) (envOk_add e0_ok (typed_ok ok_scale_place)) (fn := Try.f30) Try.func30 (by kernel_rfl) (by kernel_rfl) [.tmp 4, .tmp 5, .tmp 6] (by kernel_rfl) (by kernel_rfl) (by decide) rfl c_scale_PosixOf L_scale_PosixOf
    (by intro x hx; cases hx) (by intro k x hx; cases hx) (fun d out h => ⟨0, (q_scale_PosixOf_m 0 d).trans h⟩)

/- horologe/scale.Ahead -/
@[reducible] def pi_scale_Ahead : PSh := ⟨[], [.mk false [.v (.nptr (.pair (.sl (.pair (.int .i64) (.int .i64))) (.pair (.int .i64) (.int .i64))))], .mk false [.v (.int .i64)]]⟩
@[reducible] def po_scale_Ahead : PSh := ⟨[], [.mk false [.v (.int .i64)], .mk false [.v .err]]⟩
def f_scale_Ahead_m (T : Unit) (d : Unit × (((Option ((List (Int × Int)) × (Int × Int))) × Unit) × ((Int × Unit) × Unit))) : Option (Unit × ((Int × Unit) × (((Option Int) × Unit) × Unit))) :=
  (g_scale_place ((), ((d.2.1.1, ()), ((d.2.2.1.1, ()), ())))).bind fun x1 =>
  let x2 : Bool := (!x1.2.2.2.1.1.isNone)
  bif x2 then (
  some ((), (((0 : Int), ()), ((x1.2.2.2.1.1, ()), ()))))
  else (
  (g_leap_Table_Offset ((), ((d.2.1.1, ()), ((x1.2.1.1, ()), ())))).bind fun x3 =>
  some ((), ((x3.2.1.1, ()), (((none : Option Int), ()), ()))))
def c_scale_Ahead : List Nat := []
def L_scale_Ahead (_ : Nat) : Pts po_scale_Ahead.den := []
def E_scale_Ahead : Env := ((E0.add 68 (typedSem pi_leap_Table_Offset po_leap_Table_Offset g_leap_Table_Offset)).add 73 (typedSem pi_scale_place po_scale_place g_scale_place))
theorem q_scale_Ahead_m (k : Nat) (d : Unit × (((Option ((List (Int × Int)) × (Int × Int))) × Unit) × ((Int × Unit) × Unit))) : evCode E_scale_Ahead (tab (L_scale_Ahead k)) c_scale_Ahead (bodyOf Try.f31) 0 (finK E_scale_Ahead po_scale_Ahead [.tmp 4, .tmp 5]) (startSt pi_scale_Ahead 28 d) = f_scale_Ahead_m () d := by kernel_rfl
def g_scale_Ahead (d : Unit × (((Option ((List (Int × Int)) × (Int × Int))) × Unit) × ((Int × Unit) × Unit))) : Option (Unit × ((Int × Unit) × (((Option Int) × Unit) × Unit))) := f_scale_Ahead_m () d
theorem ok_scale_Ahead : FnOk Try.prog ET0 31 pi_scale_Ahead po_scale_Ahead g_scale_Ahead :=
  fn_of_body (E := E_scale_Ahead) (envOk_add (envOk_add e0_ok (typed_ok ok_leap_Table_Offset)) (typed_ok ok_scale_place)) (fn := Try.f31) Try.func31 (by kernel_rfl) (by kernel_rfl) [.tmp 4, .tmp 5] (by kernel_rfl) (by kernel_rfl) (by decide) rfl c_scale_Ahead L_scale_Ahead
    (by intro x hx; cases hx) (by intro k x hx; cases hx) (fun d out h => ⟨0, (q_scale_Ahead_m 0 d).trans h⟩)

/- horologe/label.Leap -/
@[reducible] def pi_label_Leap : PSh := ⟨[], [.mk true [.v (.int .i64), .v (.int .i64), .v (.int .i64), .v (.int .i64), .v (.int .i64), .v (.int .i64), .v (.int .i64), .v (.int .i64)]]⟩
@[reducible] def po_label_Leap : PSh := ⟨[], [.mk false [.v .bool]]⟩
def f_label_Leap_m (T : Unit) (d : Unit × ((Int × (Int × (Int × (Int × (Int × (Int × (Int × (Int × Unit)))))))) × Unit)) : Option (Unit × ((Bool × Unit) × Unit)) :=
  let x1 : Bool := (d.2.1.2.2.2.2.2.1 == (60 : Int))
  bif x1 then (
  (g_label_Check ((), ((d.2.1.1, (d.2.1.2.1, (d.2.1.2.2.1, (d.2.1.2.2.2.1, (d.2.1.2.2.2.2.1, (d.2.1.2.2.2.2.2.1, (d.2.1.2.2.2.2.2.2.1, (d.2.1.2.2.2.2.2.2.2.1, ())))))))), ()))).bind fun x2 =>
  some ((), ((x2.2.1.1.isNone, ()), ())))
  else (
  some ((), ((false, ()), ())))
def c_label_Leap : List Nat := []
def L_label_Leap (_ : Nat) : Pts po_label_Leap.den := []
def E_label_Leap : Env := (E0.add 85 (typedSem pi_label_Check po_label_Check g_label_Check))
theorem q_label_Leap_m (k : Nat) (d : Unit × ((Int × (Int × (Int × (Int × (Int × (Int × (Int × (Int × Unit)))))))) × Unit)) : evCode E_label_Leap (tab (L_label_Leap k)) c_label_Leap (bodyOf Try.f36) 0 (finK E_label_Leap po_label_Leap [.tmp 2]) (startSt pi_label_Leap 11 d) = f_label_Leap_m () d := by kernel_rfl
def g_label_Leap (d : Unit × ((Int × (Int × (Int × (Int × (Int × (Int × (Int × (Int × Unit)))))))) × Unit)) : Option (Unit × ((Bool × Unit) × Unit)) := f_label_Leap_m () d
theorem ok_label_Leap : FnOk Try.prog ET0 36 pi_label_Leap po_label_Leap g_label_Leap :=
  fn_of_body (E := E_label_Leap) (envOk_add e0_ok (typed_ok ok_label_Check)) (fn := Try.f36) Try.func36 (by kernel_rfl) (by kernel_rfl) [.tmp 2] (by kernel_rfl) (by kernel_rfl) (by decide) rfl c_label_Leap L_label_Leap
    (by intro x hx; cases hx) (by intro k x hx; cases hx) (fun d out h => ⟨0, (q_label_Leap_m 0 d).trans h⟩)

/- horologe/horologelaw12.ScaleSteps -/
@[reducible] def pi_law12_ScaleSteps : PSh := ⟨[], [.mk true [.v (.sl (.pair (.int .i64) (.int .i64))), .v (.int .i64), .v (.int .i64)], .mk false [.v (.int .i64)]]⟩
@[reducible] def po_law12_ScaleSteps : PSh := ⟨[], [.mk false [.v .bool]]⟩
def f_law12_ScaleSteps_m (T : Unit) (d : Unit × (((List (Int × Int)) × (Int × (Int × Unit))) × ((Int × Unit) × Unit))) : Option (Unit × ((Bool × Unit) × Unit)) :=
  (g_law12_alive ((), ())).bind fun x1 =>
  let x2 : Bool := (!x1.2.1.1)
  bif x2 then (
  some ((), ((false, ()), ())))
  else (
  (g_law10_Long ((), ((d.2.1.1, (d.2.1.2.1, (d.2.1.2.2.1, ()))), ()))).bind fun x3 =>
  bif x3.2.1.1 then (
  some ((), ((true, ()), ())))
  else (
  let x4 : Bool := (decide (d.2.2.1.1 > (1125899906842624 : Int)))
  bif x4 then (
  some ((), ((true, ()), ())))
  else (
  let x5 : Bool := (decide (d.2.2.1.1 < (-1125899906842624 : Int)))
  bif x5 then (
  some ((), ((true, ()), ())))
  else (
  (g_leap_New ((), ((d.2.1.1, ()), ((d.2.1.2.1, ()), ((d.2.1.2.2.1, ()), ()))))).bind fun x6 =>
  let x7 : Bool := (!x6.2.2.1.1.isNone)
  bif x7 then (
  some ((), ((x6.2.1.1.isNone, ()), ())))
  else (
  (g_scale_Label ((), ((x6.2.1.1, ()), ((d.2.2.1.1, ()), (((0 : Int), ()), (((0 : Int), ()), ())))))).bind fun x8 =>
  let x9 : Int := (iadd .i64 d.2.2.1.1 (1 : Int))
  (g_scale_Label ((), ((x6.2.1.1, ()), ((x9, ()), (((0 : Int), ()), (((0 : Int), ()), ())))))).bind fun x10 =>
  let x11 : Bool := (!x8.2.2.1.1.isNone)
  bif x11 then (
  some ((), ((true, ()), ())))
  else (
  let x12 : Bool := (!x10.2.2.1.1.isNone)
  bif x12 then (
  some ((), ((true, ()), ())))
  else (
  (g_label_Compare ((), ((x8.2.1.1, (x8.2.1.2.1, (x8.2.1.2.2.1, (x8.2.1.2.2.2.1, (x8.2.1.2.2.2.2.1, (x8.2.1.2.2.2.2.2.1, (x8.2.1.2.2.2.2.2.2.1, (x8.2.1.2.2.2.2.2.2.2.1, ())))))))), ((x10.2.1.1, (x10.2.1.2.1, (x10.2.1.2.2.1, (x10.2.1.2.2.2.1, (x10.2.1.2.2.2.2.1, (x10.2.1.2.2.2.2.2.1, (x10.2.1.2.2.2.2.2.2.1, (x10.2.1.2.2.2.2.2.2.2.1, ())))))))), ())))).bind fun x13 =>
  (g_scale_Tai ((), ((x6.2.1.1, ()), ((x10.2.1.1, (x10.2.1.2.1, (x10.2.1.2.2.1, (x10.2.1.2.2.2.1, (x10.2.1.2.2.2.2.1, (x10.2.1.2.2.2.2.2.1, (x10.2.1.2.2.2.2.2.2.1, (x10.2.1.2.2.2.2.2.2.2.1, ())))))))), ())))).bind fun x14 =>
  let x15 : Bool := (!x13.2.2.1.1.isNone)
  bif x15 then (
  some ((), ((false, ()), ())))
  else (
  let x16 : Bool := (!x14.2.2.1.1.isNone)
  bif x16 then (
  some ((), ((false, ()), ())))
  else (
  let x17 : Bool := (x13.2.1.1 != (-1 : Int))
  bif x17 then (
  some ((), ((false, ()), ())))
  else (
  let x18 : Int := (iadd .i64 d.2.2.1.1 (1 : Int))
  let x19 : Bool := (x14.2.1.1 != x18)
  bif x19 then (
  some ((), ((false, ()), ())))
  else (
  (g_scale_PosixOf ((), ((x6.2.1.1, ()), ((d.2.2.1.1, ()), ())))).bind fun x20 =>
  (g_scale_Ahead ((), ((x6.2.1.1, ()), ((d.2.2.1.1, ()), ())))).bind fun x21 =>
  bif x20.2.2.2.1.1.isNone then (
  bif x21.2.2.1.1.isNone then (
  let x22 : Int := (isub .i64 d.2.2.1.1 x21.2.1.1)
  let x23 : Bool := (x20.2.1.1 == x22)
  bif x23 then (
  (g_label_Leap ((), ((x8.2.1.1, (x8.2.1.2.1, (x8.2.1.2.2.1, (x8.2.1.2.2.2.1, (x8.2.1.2.2.2.2.1, (x8.2.1.2.2.2.2.2.1, (x8.2.1.2.2.2.2.2.2.1, (x8.2.1.2.2.2.2.2.2.2.1, ())))))))), ()))).bind fun x24 =>
  let x25 : Bool := (x20.2.2.1.1 == x24.2.1.1)
  some ((), ((x25, ()), ())))
  else (
  some ((), ((false, ()), ()))))
  else (
  some ((), ((false, ()), ()))))
  else (
  some ((), ((false, ()), ()))))))))))))))
def c_law12_ScaleSteps : List Nat := []
def L_law12_ScaleSteps (_ : Nat) : Pts po_law12_ScaleSteps.den := []
def E_law12_ScaleSteps : Env := (((((((((E0.add 11 (typedSem pi_law12_alive po_law12_alive g_law12_alive)).add 12 (typedSem pi_law10_Long po_law10_Long g_law10_Long)).add 22 (typedSem pi_scale_Tai po_scale_Tai g_scale_Tai)).add 27 (typedSem pi_scale_Label po_scale_Label g_scale_Label)).add 30 (typedSem pi_scale_PosixOf po_scale_PosixOf g_scale_PosixOf)).add 31 (typedSem pi_scale_Ahead po_scale_Ahead g_scale_Ahead)).add 33 (typedSem pi_leap_New po_leap_New g_leap_New)).add 35 (typedSem pi_label_Compare po_label_Compare g_label_Compare)).add 36 (typedSem pi_label_Leap po_label_Leap g_label_Leap))
theorem q_law12_ScaleSteps_m (k : Nat) (d : Unit × (((List (Int × Int)) × (Int × (Int × Unit))) × ((Int × Unit) × Unit))) : evCode E_law12_ScaleSteps (tab (L_law12_ScaleSteps k)) c_law12_ScaleSteps (bodyOf Try.f7) 0 (finK E_law12_ScaleSteps po_law12_ScaleSteps [.tmp 4]) (startSt pi_law12_ScaleSteps 122 d) = f_law12_ScaleSteps_m () d := by kernel_rfl
def g_law12_ScaleSteps (d : Unit × (((List (Int × Int)) × (Int × (Int × Unit))) × ((Int × Unit) × Unit))) : Option (Unit × ((Bool × Unit) × Unit)) := f_law12_ScaleSteps_m () d
theorem ok_law12_ScaleSteps : FnOk Try.prog ET0 7 pi_law12_ScaleSteps po_law12_ScaleSteps g_law12_ScaleSteps :=
  fn_of_body (E := E_law12_ScaleSteps) (envOk_add (envOk_add (envOk_add (envOk_add (envOk_add (envOk_add (envOk_add (envOk_add (envOk_add e0_ok (typed_ok ok_law12_alive)) (typed_ok ok_law10_Long)) (typed_ok ok_scale_Tai)) (typed_ok ok_scale_Label)) (typed_ok ok_scale_PosixOf)) (typed_ok ok_scale_Ahead)) (typed_ok ok_leap_New)) (typed_ok ok_label_Compare)) (typed_ok ok_label_Leap)) (fn := Try.f7) Try.func7 (by kernel_rfl) (by kernel_rfl) [.tmp 4] (by kernel_rfl) (by kernel_rfl) (by decide) rfl c_law12_ScaleSteps L_law12_ScaleSteps
    (by intro x hx; cases hx) (by intro k x hx; cases hx) (fun d out h => ⟨0, (q_law12_ScaleSteps_m 0 d).trans h⟩)

/- horologe/horologeref05.Leap -/
@[reducible] def pi_ref05_Leap : PSh := ⟨[], [.mk false [.v (.int .i64)]]⟩
@[reducible] def po_ref05_Leap : PSh := ⟨[], [.mk false [.v .bool]]⟩
def f_ref05_Leap_m (T : Unit) (d : Unit × ((Int × Unit) × Unit)) : Option (Unit × ((Bool × Unit) × Unit)) :=
  let x1 : Int := (Int.tmod d.2.1.1 (400 : Int))
  let x2 : Bool := (x1 == (0 : Int))
  bif x2 then (
  some ((), ((true, ()), ())))
  else (
  let x3 : Int := (Int.tmod d.2.1.1 (4 : Int))
  let x4 : Bool := (x3 == (0 : Int))
  bif x4 then (
  let x5 : Int := (Int.tmod d.2.1.1 (100 : Int))
  let x6 : Bool := (x5 != (0 : Int))
  some ((), ((x6, ()), ())))
  else (
  some ((), ((false, ()), ()))))
def c_ref05_Leap : List Nat := []
def L_ref05_Leap (_ : Nat) : Pts po_ref05_Leap.den := []
def E_ref05_Leap : Env := E0
theorem q_ref05_Leap_m (k : Nat) (d : Unit × ((Int × Unit) × Unit)) : evCode E_ref05_Leap (tab (L_ref05_Leap k)) c_ref05_Leap (bodyOf Try.f168) 0 (finK E_ref05_Leap po_ref05_Leap [.tmp 2]) (startSt pi_ref05_Leap 14 d) = f_ref05_Leap_m () d := by kernel_rfl
def g_ref05_Leap (d : Unit × ((Int × Unit) × Unit)) : Option (Unit × ((Bool × Unit) × Unit)) := f_ref05_Leap_m () d
theorem ok_ref05_Leap : FnOk Try.prog ET0 168 pi_ref05_Leap po_ref05_Leap g_ref05_Leap :=
  fn_of_body (E := E_ref05_Leap) e0_ok (fn := Try.f168) Try.func168 (by kernel_rfl) (by kernel_rfl) [.tmp 2] (by kernel_rfl) (by kernel_rfl) (by decide) rfl c_ref05_Leap L_ref05_Leap
    (by intro x hx; cases hx) (by intro k x hx; cases hx) (fun d out h => ⟨0, (q_ref05_Leap_m 0 d).trans h⟩)

/- horologe/horologeref05.Days -/
@[reducible] def pi_ref05_Days : PSh := ⟨[], [.mk false [.v (.int .i64)]]⟩
@[reducible] def po_ref05_Days : PSh := ⟨[], [.mk false [.v (.int .i64)]]⟩
def f_ref05_Days_m (T : Unit) (d : Unit × ((Int × Unit) × Unit)) : Option (Unit × ((Int × Unit) × Unit)) :=
  (g_ref05_Leap ((), ((d.2.1.1, ()), ()))).bind fun x1 =>
  bif x1.2.1.1 then (
  some ((), (((366 : Int), ()), ())))
  else (
  some ((), (((365 : Int), ()), ())))
def c_ref05_Days : List Nat := []
def L_ref05_Days (_ : Nat) : Pts po_ref05_Days.den := []
def E_ref05_Days : Env := (E0.add 168 (typedSem pi_ref05_Leap po_ref05_Leap g_ref05_Leap))
theorem q_ref05_Days_m (k : Nat) (d : Unit × ((Int × Unit) × Unit)) : evCode E_ref05_Days (tab (L_ref05_Days k)) c_ref05_Days (bodyOf Try.f109) 0 (finK E_ref05_Days po_ref05_Days [.tmp 2]) (startSt pi_ref05_Days 5 d) = f_ref05_Days_m () d := by kernel_rfl
def g_ref05_Days (d : Unit × ((Int × Unit) × Unit)) : Option (Unit × ((Int × Unit) × Unit)) := f_ref05_Days_m () d
theorem ok_ref05_Days : FnOk Try.prog ET0 109 pi_ref05_Days po_ref05_Days g_ref05_Days :=
  fn_of_body (E := E_ref05_Days) (envOk_add e0_ok (typed_ok ok_ref05_Leap)) (fn := Try.f109) Try.func109 (by kernel_rfl) (by kernel_rfl) [.tmp 2] (by kernel_rfl) (by kernel_rfl) (by decide) rfl c_ref05_Days L_ref05_Days
    (by intro x hx; cases hx) (by intro k x hx; cases hx) (fun d out h => ⟨0, (q_ref05_Days_m 0 d).trans h⟩)

/- horologe/horologeref05.Start -/
@[reducible] def pi_ref05_Start : PSh := ⟨[], [.mk false [.v (.int .i64)]]⟩
@[reducible] def po_ref05_Start : PSh := ⟨[], [.mk false [.v (.int .i64)]]⟩
@[reducible] def TT_ref05_Start : Type := (((Unit × ((Int × Unit) × ((Int × Unit) × Unit))) → Option (Unit × ((Int × Unit) × Unit))) × (((Unit × ((Int × Unit) × ((Int × Unit) × Unit))) → Option (Unit × ((Int × Unit) × Unit))) × (((Unit × ((Int × Unit) × ((Int × Unit) × ((Int × Unit) × Unit)))) → Option (Unit × ((Int × Unit) × Unit))) × Unit)))
@[reducible] def sh_ref05_Start_3 : PSh := ⟨[], [.mk false [.v (.int .i64)], .any, .any, .mk false [.v (.int .i64)], .any, .any, .any, .any, .any, .any, .any, .any, .any, .any, .any, .any, .any, .any, .any, .any, .any, .any, .any, .any, .any, .any, .any]⟩
@[reducible] def sh_ref05_Start_8 : PSh := ⟨[], [.mk false [.v (.int .i64)], .any, .any, .mk false [.v (.int .i64)], .any, .any, .any, .any, .any, .any, .any, .any, .any, .any, .any, .any, .any, .any, .any, .any, .any, .any, .any, .any, .any, .any, .any]⟩
@[reducible] def sh_ref05_Start_14 : PSh := ⟨[], [.mk false [.v (.int .i64)], .any, .any, .mk false [.v (.int .i64)], .mk false [.v (.int .i64)], .any, .any, .any, .any, .any, .any, .any, .any, .any, .any, .any, .any, .any, .any, .any, .any, .any, .any, .any, .any, .any, .any]⟩
def f_ref05_Start_p3 (T : TT_ref05_Start) (d : Unit × ((Int × Unit) × ((Int × Unit) × Unit))) : Option (Unit × ((Int × Unit) × Unit)) :=
  let x1 : Bool := (decide (d.2.1.1 < (1970 : Int)))
  bif x1 then (
  let x2 : Int := (iadd .i64 d.2.1.1 (400 : Int))
  let x3 : Int := (isub .i64 d.2.2.1.1 (146097 : Int))
  (T.1 ((), ((x2, ()), ((x3, ()), ())))))
  else (
  (T.2.1 ((), ((d.2.1.1, ()), ((d.2.2.1.1, ()), ())))))
def f_ref05_Start_p8 (T : TT_ref05_Start) (d : Unit × ((Int × Unit) × ((Int × Unit) × Unit))) : Option (Unit × ((Int × Unit) × Unit)) :=
  let x4 : Bool := (decide (d.2.1.1 ≥ (2370 : Int)))
  bif x4 then (
  let x5 : Int := (isub .i64 d.2.1.1 (400 : Int))
  let x6 : Int := (iadd .i64 d.2.2.1.1 (146097 : Int))
  (T.2.1 ((), ((x5, ()), ((x6, ()), ())))))
  else (
  (T.2.2.1 ((), ((d.2.1.1, ()), ((d.2.2.1.1, ()), (((1970 : Int), ()), ()))))))
def f_ref05_Start_p14 (T : TT_ref05_Start) (d : Unit × ((Int × Unit) × ((Int × Unit) × ((Int × Unit) × Unit)))) : Option (Unit × ((Int × Unit) × Unit)) :=
  let x7 : Bool := (decide (d.2.2.2.1.1 < d.2.1.1))
  bif x7 then (
  (g_ref05_Days ((), ((d.2.2.2.1.1, ()), ()))).bind fun x8 =>
  let x9 : Int := (iadd .i64 d.2.2.1.1 x8.2.1.1)
  let x10 : Int := (iadd .i64 d.2.2.2.1.1 (1 : Int))
  (T.2.2.1 ((), ((d.2.1.1, ()), ((x9, ()), ((x10, ()), ()))))))
  else (
  some ((), ((d.2.2.1.1, ()), ())))
def f_ref05_Start_t : Nat → TT_ref05_Start
  | 0 => (fun _ => none, (fun _ => none, (fun _ => none, ())))
  | k + 1 => (f_ref05_Start_p3 (f_ref05_Start_t k), (f_ref05_Start_p8 (f_ref05_Start_t k), (f_ref05_Start_p14 (f_ref05_Start_t k), ())))
theorem t_ref05_Start (k : Nat) : f_ref05_Start_t (k + 1) = (f_ref05_Start_p3 (f_ref05_Start_t k), (f_ref05_Start_p8 (f_ref05_Start_t k), (f_ref05_Start_p14 (f_ref05_Start_t k), ()))) := rfl
def f_ref05_Start_m (T : TT_ref05_Start) (d : Unit × ((Int × Unit) × Unit)) : Option (Unit × ((Int × Unit) × Unit)) :=
  (T.1 ((), ((d.2.1.1, ()), (((0 : Int), ()), ()))))
def c_ref05_Start : List Nat := []
def L_ref05_Start (k : Nat) : Pts po_ref05_Start.den := [(3, ⟨sh_ref05_Start_3, (f_ref05_Start_t k).1⟩), (8, ⟨sh_ref05_Start_8, (f_ref05_Start_t k).2.1⟩), (14, ⟨sh_ref05_Start_14, (f_ref05_Start_t k).2.2.1⟩)]
def E_ref05_Start : Env := (E0.add 109 (typedSem pi_ref05_Days po_ref05_Days g_ref05_Days))
theorem q_ref05_Start_3 (k : Nat) (d : Unit × ((Int × Unit) × ((Int × Unit) × Unit))) : evAt E_ref05_Start (tab (L_ref05_Start k)) c_ref05_Start 3 (bodyOf Try.f61) 0 (finK E_ref05_Start po_ref05_Start [.tmp 2]) (ptSt sh_ref05_Start_3 d) = f_ref05_Start_p3 (f_ref05_Start_t k) d := by kernel_rfl
theorem q_ref05_Start_8 (k : Nat) (d : Unit × ((Int × Unit) × ((Int × Unit) × Unit))) : evAt E_ref05_Start (tab (L_ref05_Start k)) c_ref05_Start 8 (bodyOf Try.f61) 0 (finK E_ref05_Start po_ref05_Start [.tmp 2]) (ptSt sh_ref05_Start_8 d) = f_ref05_Start_p8 (f_ref05_Start_t k) d := by kernel_rfl
theorem q_ref05_Start_14 (k : Nat) (d : Unit × ((Int × Unit) × ((Int × Unit) × ((Int × Unit) × Unit)))) : evAt E_ref05_Start (tab (L_ref05_Start k)) c_ref05_Start 14 (bodyOf Try.f61) 0 (finK E_ref05_Start po_ref05_Start [.tmp 2]) (ptSt sh_ref05_Start_14 d) = f_ref05_Start_p14 (f_ref05_Start_t k) d := by kernel_rfl
theorem q_ref05_Start_m (k : Nat) (d : Unit × ((Int × Unit) × Unit)) : evCode E_ref05_Start (tab (L_ref05_Start k)) c_ref05_Start (bodyOf Try.f61) 0 (finK E_ref05_Start po_ref05_Start [.tmp 2]) (startSt pi_ref05_Start 27 d) = f_ref05_Start_m (f_ref05_Start_t k) d := by kernel_rfl
theorem go_ref05_Start (G : Unit × ((Int × Unit) × Unit) → Option (Unit × ((Int × Unit) × Unit))) (hG : ∀ d out, G d = some out → ∃ k, f_ref05_Start_m (f_ref05_Start_t k) d = some out) : FnOk Try.prog ET0 61 pi_ref05_Start po_ref05_Start G :=
  fn_of_body (E := E_ref05_Start) (envOk_add e0_ok (typed_ok ok_ref05_Days)) (fn := Try.f61) Try.func61 (by kernel_rfl) (by kernel_rfl) [.tmp 2] (by kernel_rfl) (by kernel_rfl) (by decide) rfl c_ref05_Start L_ref05_Start
    (by intro x hx d; simp only [L_ref05_Start, List.mem_cons, List.not_mem_nil, or_false] at hx; rcases hx with rfl | rfl | rfl; rfl; rfl; rfl)
    (by intro k x hx d out h; simp only [L_ref05_Start, List.mem_cons, List.not_mem_nil, or_false] at hx; rcases hx with rfl | rfl | rfl; exact (q_ref05_Start_3 k d).trans h; exact (q_ref05_Start_8 k d).trans h; exact (q_ref05_Start_14 k d).trans h)
    (by intro d out h; obtain ⟨k, hk⟩ := hG d out h; exact ⟨k, (q_ref05_Start_m k d).trans hk⟩)
def g_ref05_Start (d : Unit × ((Int × Unit) × Unit)) : Option (Unit × ((Int × Unit) × Unit)) := lim fun k => f_ref05_Start_m (f_ref05_Start_t k) d
theorem ok_ref05_Start : FnOk Try.prog ET0 61 pi_ref05_Start po_ref05_Start g_ref05_Start := go_ref05_Start g_ref05_Start fun d out h => lim_some h

/- horologe/horologeref05.Month -/
@[reducible] def pi_ref05_Month : PSh := ⟨[], [.mk false [.v (.int .i64)], .mk false [.v (.int .i64)]]⟩
@[reducible] def po_ref05_Month : PSh := ⟨[], [.mk false [.v (.int .i64)]]⟩
def f_ref05_Month_m (T : Unit) (d : Unit × ((Int × Unit) × ((Int × Unit) × Unit))) : Option (Unit × ((Int × Unit) × Unit)) :=
  let x1 : (List Int) := ([(31 : Int), (28 : Int), (31 : Int), (30 : Int), (31 : Int), (30 : Int), (31 : Int), (31 : Int), (30 : Int), (31 : Int), (30 : Int), (31 : Int)] : List Int)
  let x2 : Bool := (d.2.2.1.1 == (2 : Int))
  bif x2 then (
  (g_ref05_Leap ((), ((d.2.1.1, ()), ()))).bind fun x3 =>
  bif x3.2.1.1 then (
  some ((), (((29 : Int), ()), ())))
  else (
  let x4 : Int := (isub .i64 d.2.2.1.1 (1 : Int))
  bif decide ((0 : Int) ≤ x4) && decide (x4 < (x1.length : Int)) then (
  some ((), (((gd (.int .i64) x1 x4), ()), ())))
  else none))
  else (
  let x5 : Int := (isub .i64 d.2.2.1.1 (1 : Int))
  bif decide ((0 : Int) ≤ x5) && decide (x5 < (x1.length : Int)) then (
  some ((), (((gd (.int .i64) x1 x5), ()), ())))
  else none)
def c_ref05_Month : List Nat := []
def L_ref05_Month (_ : Nat) : Pts po_ref05_Month.den := []
def E_ref05_Month : Env := (E0.add 168 (typedSem pi_ref05_Leap po_ref05_Leap g_ref05_Leap))
theorem q_ref05_Month_m (k : Nat) (d : Unit × ((Int × Unit) × ((Int × Unit) × Unit))) : evCode E_ref05_Month (tab (L_ref05_Month k)) c_ref05_Month (bodyOf Try.f110) 0 (finK E_ref05_Month po_ref05_Month [.tmp 4]) (startSt pi_ref05_Month 18 d) = f_ref05_Month_m () d := by kernel_rfl
def g_ref05_Month (d : Unit × ((Int × Unit) × ((Int × Unit) × Unit))) : Option (Unit × ((Int × Unit) × Unit)) := f_ref05_Month_m () d
theorem ok_ref05_Month : FnOk Try.prog ET0 110 pi_ref05_Month po_ref05_Month g_ref05_Month :=
  fn_of_body (E := E_ref05_Month) (envOk_add e0_ok (typed_ok ok_ref05_Leap)) (fn := Try.f110) Try.func110 (by kernel_rfl) (by kernel_rfl) [.tmp 4] (by kernel_rfl) (by kernel_rfl) (by decide) rfl c_ref05_Month L_ref05_Month
    (by intro x hx; cases hx) (by intro k x hx; cases hx) (fun d out h => ⟨0, (q_ref05_Month_m 0 d).trans h⟩)

/- horologe/horologeref05.Of -/
@[reducible] def pi_ref05_Of : PSh := ⟨[], [.mk false [.v (.int .i64)], .mk false [.v (.int .i64)], .mk false [.v (.int .i64)]]⟩
@[reducible] def po_ref05_Of : PSh := ⟨[], [.mk false [.v (.int .i64)]]⟩
@[reducible] def TT_ref05_Of : Type := (((Unit × ((Int × Unit) × ((Int × Unit) × ((Int × Unit) × ((Int × Unit) × Unit))))) → Option (Unit × ((Int × Unit) × Unit))) × Unit)
@[reducible] def sh_ref05_Of_4 : PSh := ⟨[], [.mk false [.v (.int .i64)], .mk false [.v (.int .i64)], .any, .any, .any, .any, .any, .mk false [.v (.int .i64)], .mk false [.v (.int .i64)], .any, .any, .any, .any, .any, .any, .any, .any, .any, .any, .any, .any, .any, .any, .any, .any]⟩
def f_ref05_Of_p4 (T : TT_ref05_Of) (d : Unit × ((Int × Unit) × ((Int × Unit) × ((Int × Unit) × ((Int × Unit) × Unit))))) : Option (Unit × ((Int × Unit) × Unit)) :=
  let x4 : Bool := (decide (d.2.2.2.2.1.1 < d.2.2.1.1))
  bif x4 then (
  (g_ref05_Month ((), ((d.2.1.1, ()), ((d.2.2.2.2.1.1, ()), ())))).bind fun x5 =>
  let x6 : Int := (iadd .i64 d.2.2.2.1.1 x5.2.1.1)
  let x7 : Int := (iadd .i64 d.2.2.2.2.1.1 (1 : Int))
  (T.1 ((), ((d.2.1.1, ()), ((d.2.2.1.1, ()), ((x6, ()), ((x7, ()), ())))))))
  else (
  some ((), ((d.2.2.2.1.1, ()), ())))
def f_ref05_Of_t : Nat → TT_ref05_Of
  | 0 => (fun _ => none, ())
  | k + 1 => (f_ref05_Of_p4 (f_ref05_Of_t k), ())
theorem t_ref05_Of (k : Nat) : f_ref05_Of_t (k + 1) = (f_ref05_Of_p4 (f_ref05_Of_t k), ()) := rfl
def f_ref05_Of_m (T : TT_ref05_Of) (d : Unit × ((Int × Unit) × ((Int × Unit) × ((Int × Unit) × Unit)))) : Option (Unit × ((Int × Unit) × Unit)) :=
  (g_ref05_Start ((), ((d.2.1.1, ()), ()))).bind fun x1 =>
  let x2 : Int := (iadd .i64 x1.2.1.1 d.2.2.2.1.1)
  let x3 : Int := (isub .i64 x2 (1 : Int))
  (T.1 ((), ((d.2.1.1, ()), ((d.2.2.1.1, ()), ((x3, ()), (((1 : Int), ()), ()))))))
def c_ref05_Of : List Nat := []
def L_ref05_Of (k : Nat) : Pts po_ref05_Of.den := [(4, ⟨sh_ref05_Of_4, (f_ref05_Of_t k).1⟩)]
def E_ref05_Of : Env := ((E0.add 61 (typedSem pi_ref05_Start po_ref05_Start g_ref05_Start)).add 110 (typedSem pi_ref05_Month po_ref05_Month g_ref05_Month))
theorem q_ref05_Of_4 (k : Nat) (d : Unit × ((Int × Unit) × ((Int × Unit) × ((Int × Unit) × ((Int × Unit) × Unit))))) : evAt E_ref05_Of (tab (L_ref05_Of k)) c_ref05_Of 4 (bodyOf Try.f113) 0 (finK E_ref05_Of po_ref05_Of [.tmp 6]) (ptSt sh_ref05_Of_4 d) = f_ref05_Of_p4 (f_ref05_Of_t k) d := by kernel_rfl
theorem q_ref05_Of_m (k : Nat) (d : Unit × ((Int × Unit) × ((Int × Unit) × ((Int × Unit) × Unit)))) : evCode E_ref05_Of (tab (L_ref05_Of k)) c_ref05_Of (bodyOf Try.f113) 0 (finK E_ref05_Of po_ref05_Of [.tmp 6]) (startSt pi_ref05_Of 25 d) = f_ref05_Of_m (f_ref05_Of_t k) d := by kernel_rfl
theorem go_ref05_Of (G : Unit × ((Int × Unit) × ((Int × Unit) × ((Int × Unit) × Unit))) → Option (Unit × ((Int × Unit) × Unit))) (hG : ∀ d out, G d = some out → ∃ k, f_ref05_Of_m (f_ref05_Of_t k) d = some out) : FnOk Try.prog ET0 113 pi_ref05_Of po_ref05_Of G :=
  fn_of_body (E := E_ref05_Of) (envOk_add (envOk_add e0_ok (typed_ok ok_ref05_Start)) (typed_ok ok_ref05_Month)) (fn := Try.f113) Try.func113 (by kernel_rfl) (by kernel_rfl) [.tmp 6] (by kernel_rfl) (by kernel_rfl) (by decide) rfl c_ref05_Of L_ref05_Of
    (by intro x hx d; simp only [L_ref05_Of, List.mem_cons, List.not_mem_nil, or_false] at hx; subst hx; rfl)
    (by intro k x hx d out h; simp only [L_ref05_Of, List.mem_cons, List.not_mem_nil, or_false] at hx; subst hx; exact (q_ref05_Of_4 k d).trans h)
    (by intro d out h; obtain ⟨k, hk⟩ := hG d out h; exact ⟨k, (q_ref05_Of_m k d).trans hk⟩)
def g_ref05_Of (d : Unit × ((Int × Unit) × ((Int × Unit) × ((Int × Unit) × Unit)))) : Option (Unit × ((Int × Unit) × Unit)) := lim fun k => f_ref05_Of_m (f_ref05_Of_t k) d
theorem ok_ref05_Of : FnOk Try.prog ET0 113 pi_ref05_Of po_ref05_Of g_ref05_Of := go_ref05_Of g_ref05_Of fun d out h => lim_some h

/- horologe/horologeref05.Year -/
@[reducible] def pi_ref05_Year : PSh := ⟨[], [.mk false [.v (.int .i64)]]⟩
@[reducible] def po_ref05_Year : PSh := ⟨[], [.mk false [.v .bool]]⟩
def f_ref05_Year_m (T : Unit) (d : Unit × ((Int × Unit) × Unit)) : Option (Unit × ((Bool × Unit) × Unit)) :=
  let x1 : Bool := (decide (d.2.1.1 ≥ (-9999 : Int)))
  bif x1 then (
  let x2 : Bool := (decide (d.2.1.1 ≤ (9999 : Int)))
  some ((), ((x2, ()), ())))
  else (
  some ((), ((false, ()), ())))
def c_ref05_Year : List Nat := []
def L_ref05_Year (_ : Nat) : Pts po_ref05_Year.den := []
def E_ref05_Year : Env := E0
theorem q_ref05_Year_m (k : Nat) (d : Unit × ((Int × Unit) × Unit)) : evCode E_ref05_Year (tab (L_ref05_Year k)) c_ref05_Year (bodyOf Try.f169) 0 (finK E_ref05_Year po_ref05_Year [.tmp 2]) (startSt pi_ref05_Year 9 d) = f_ref05_Year_m () d := by kernel_rfl
def g_ref05_Year (d : Unit × ((Int × Unit) × Unit)) : Option (Unit × ((Bool × Unit) × Unit)) := f_ref05_Year_m () d
theorem ok_ref05_Year : FnOk Try.prog ET0 169 pi_ref05_Year po_ref05_Year g_ref05_Year :=
  fn_of_body (E := E_ref05_Year) e0_ok (fn := Try.f169) Try.func169 (by kernel_rfl) (by kernel_rfl) [.tmp 2] (by kernel_rfl) (by kernel_rfl) (by decide) rfl c_ref05_Year L_ref05_Year
    (by intro x hx; cases hx) (by intro k x hx; cases hx) (fun d out h => ⟨0, (q_ref05_Year_m 0 d).trans h⟩)

/- horologe/horologeref05.Check -/
@[reducible] def pi_ref05_Check : PSh := ⟨[], [.mk false [.v (.int .i64)], .mk false [.v (.int .i64)], .mk false [.v (.int .i64)]]⟩
@[reducible] def po_ref05_Check : PSh := ⟨[], [.mk false [.v (.int .i64)]]⟩
def f_ref05_Check_m (T : Unit) (d : Unit × ((Int × Unit) × ((Int × Unit) × ((Int × Unit) × Unit)))) : Option (Unit × ((Int × Unit) × Unit)) :=
  (g_ref05_Year ((), ((d.2.1.1, ()), ()))).bind fun x1 =>
  let x2 : Bool := (!x1.2.1.1)
  bif x2 then (
  some ((), (((13 : Int), ()), ())))
  else (
  let x3 : Bool := (decide (d.2.2.1.1 < (1 : Int)))
  bif x3 then (
  some ((), (((1 : Int), ()), ())))
  else (
  let x4 : Bool := (decide (d.2.2.1.1 > (12 : Int)))
  bif x4 then (
  some ((), (((1 : Int), ()), ())))
  else (
  let x5 : Bool := (decide (d.2.2.2.1.1 < (1 : Int)))
  bif x5 then (
  some ((), (((1 : Int), ()), ())))
  else (
  (g_ref05_Month ((), ((d.2.1.1, ()), ((d.2.2.1.1, ()), ())))).bind fun x6 =>
  let x7 : Bool := (decide (d.2.2.2.1.1 > x6.2.1.1))
  bif x7 then (
  some ((), (((1 : Int), ()), ())))
  else (
  some ((), (((0 : Int), ()), ())))))))
def c_ref05_Check : List Nat := []
def L_ref05_Check (_ : Nat) : Pts po_ref05_Check.den := []
def E_ref05_Check : Env := ((E0.add 110 (typedSem pi_ref05_Month po_ref05_Month g_ref05_Month)).add 169 (typedSem pi_ref05_Year po_ref05_Year g_ref05_Year))
theorem q_ref05_Check_m (k : Nat) (d : Unit × ((Int × Unit) × ((Int × Unit) × ((Int × Unit) × Unit)))) : evCode E_ref05_Check (tab (L_ref05_Check k)) c_ref05_Check (bodyOf Try.f111) 0 (finK E_ref05_Check po_ref05_Check [.tmp 6]) (startSt pi_ref05_Check 25 d) = f_ref05_Check_m () d := by kernel_rfl
def g_ref05_Check (d : Unit × ((Int × Unit) × ((Int × Unit) × ((Int × Unit) × Unit)))) : Option (Unit × ((Int × Unit) × Unit)) := f_ref05_Check_m () d
theorem ok_ref05_Check : FnOk Try.prog ET0 111 pi_ref05_Check po_ref05_Check g_ref05_Check :=
  fn_of_body (E := E_ref05_Check) (envOk_add (envOk_add e0_ok (typed_ok ok_ref05_Month)) (typed_ok ok_ref05_Year)) (fn := Try.f111) Try.func111 (by kernel_rfl) (by kernel_rfl) [.tmp 6] (by kernel_rfl) (by kernel_rfl) (by decide) rfl c_ref05_Check L_ref05_Check
    (by intro x hx; cases hx) (by intro k x hx; cases hx) (fun d out h => ⟨0, (q_ref05_Check_m 0 d).trans h⟩)

/- horologe/horologeref05.First -/
@[reducible] def pi_ref05_First : PSh := ⟨[], []⟩
@[reducible] def po_ref05_First : PSh := ⟨[], [.mk false [.v (.int .i64)]]⟩
def f_ref05_First_m (T : Unit) (d : Unit × Unit) : Option (Unit × ((Int × Unit) × Unit)) :=
  (g_ref05_Start ((), (((-9999 : Int), ()), ()))).bind fun x1 =>
  some ((), ((x1.2.1.1, ()), ()))
def c_ref05_First : List Nat := []
def L_ref05_First (_ : Nat) : Pts po_ref05_First.den := []
def E_ref05_First : Env := (E0.add 61 (typedSem pi_ref05_Start po_ref05_Start g_ref05_Start))
theorem q_ref05_First_m (k : Nat) (d : Unit × Unit) : evCode E_ref05_First (tab (L_ref05_First k)) c_ref05_First (bodyOf Try.f170) 0 (finK E_ref05_First po_ref05_First [.tmp 0]) (startSt pi_ref05_First 2 d) = f_ref05_First_m () d := by kernel_rfl
def g_ref05_First (d : Unit × Unit) : Option (Unit × ((Int × Unit) × Unit)) := f_ref05_First_m () d
theorem ok_ref05_First : FnOk Try.prog ET0 170 pi_ref05_First po_ref05_First g_ref05_First :=
  fn_of_body (E := E_ref05_First) (envOk_add e0_ok (typed_ok ok_ref05_Start)) (fn := Try.f170) Try.func170 (by kernel_rfl) (by kernel_rfl) [.tmp 0] (by kernel_rfl) (by kernel_rfl) (by decide) rfl c_ref05_First L_ref05_First
    (by intro x hx; cases hx) (by intro k x hx; cases hx) (fun d out h => ⟨0, (q_ref05_First_m 0 d).trans h⟩)

/- horologe/horologeref08.Moment -/
@[reducible] def pi_ref08_Moment : PSh := ⟨[], [.mk true [.v (.int .i64), .v (.int .i64), .v (.int .i64), .v (.int .i64), .v (.int .i64), .v (.int .i64), .v (.int .i64), .v (.int .i64)]]⟩
@[reducible] def po_ref08_Moment : PSh := ⟨[], [.mk false [.v (.int .i64)], .mk false [.v (.int .i64)]]⟩
@[reducible] def TT_ref08_Moment : Type := (((Unit × ((Int × Unit) × ((Int × Unit) × Unit))) → Option (Unit × ((Int × Unit) × ((Int × Unit) × Unit)))) × (((Unit × ((Int × Unit) × ((Int × Unit) × Unit))) → Option (Unit × ((Int × Unit) × ((Int × Unit) × Unit)))) × Unit))
@[reducible] def sh_ref08_Moment_4 : PSh := ⟨[], [.any, .any, .any, .any, .mk false [.v (.int .i64)], .mk false [.v (.int .i64)], .any, .any, .any, .any, .any, .any, .any, .any, .any, .any, .any, .any, .any, .any, .any, .any, .any, .any, .any, .any, .any, .any, .any, .any, .any, .any, .any, .any, .any, .any]⟩
@[reducible] def sh_ref08_Moment_9 : PSh := ⟨[], [.any, .any, .any, .any, .mk false [.v (.int .i64)], .mk false [.v (.int .i64)], .any, .any, .any, .any, .any, .any, .any, .any, .any, .any, .any, .any, .any, .any, .any, .any, .any, .any, .any, .any, .any, .any, .any, .any, .any, .any, .any, .any, .any, .any]⟩
def f_ref08_Moment_p4 (T : TT_ref08_Moment) (d : Unit × ((Int × Unit) × ((Int × Unit) × Unit))) : Option (Unit × ((Int × Unit) × ((Int × Unit) × Unit))) :=
  let x5 : Bool := (decide (d.2.2.1.1 < (0 : Int)))
  bif x5 then (
  let x6 : Int := (iadd .i64 d.2.2.1.1 (1440 : Int))
  let x7 : Int := (isub .i64 d.2.1.1 (1 : Int))
  (T.1 ((), ((x7, ()), ((x6, ()), ())))))
  else (
  (T.2.1 ((), ((d.2.1.1, ()), ((d.2.2.1.1, ()), ())))))
def f_ref08_Moment_p9 (T : TT_ref08_Moment) (d : Unit × ((Int × Unit) × ((Int × Unit) × Unit))) : Option (Unit × ((Int × Unit) × ((Int × Unit) × Unit))) :=
  let x8 : Bool := (decide (d.2.2.1.1 ≥ (1440 : Int)))
  bif x8 then (
  let x9 : Int := (isub .i64 d.2.2.1.1 (1440 : Int))
  let x10 : Int := (iadd .i64 d.2.1.1 (1 : Int))
  (T.2.1 ((), ((x10, ()), ((x9, ()), ())))))
  else (
  some ((), ((d.2.1.1, ()), ((d.2.2.1.1, ()), ()))))
def f_ref08_Moment_t : Nat → TT_ref08_Moment
  | 0 => (fun _ => none, (fun _ => none, ()))
  | k + 1 => (f_ref08_Moment_p4 (f_ref08_Moment_t k), (f_ref08_Moment_p9 (f_ref08_Moment_t k), ()))
theorem t_ref08_Moment (k : Nat) : f_ref08_Moment_t (k + 1) = (f_ref08_Moment_p4 (f_ref08_Moment_t k), (f_ref08_Moment_p9 (f_ref08_Moment_t k), ())) := rfl
def f_ref08_Moment_m (T : TT_ref08_Moment) (d : Unit × ((Int × (Int × (Int × (Int × (Int × (Int × (Int × (Int × Unit)))))))) × Unit)) : Option (Unit × ((Int × Unit) × ((Int × Unit) × Unit))) :=
  (g_ref05_Of ((), ((d.2.1.1, ()), ((d.2.1.2.1, ()), ((d.2.1.2.2.1, ()), ()))))).bind fun x1 =>
  let x2 : Int := (imul .i64 d.2.1.2.2.2.1 (60 : Int))
  let x3 : Int := (iadd .i64 x2 d.2.1.2.2.2.2.1)
  let x4 : Int := (isub .i64 x3 d.2.1.2.2.2.2.2.2.2.1)
  (T.1 ((), ((x1.2.1.1, ()), ((x4, ()), ()))))
def c_ref08_Moment : List Nat := []
def L_ref08_Moment (k : Nat) : Pts po_ref08_Moment.den := [(4, ⟨sh_ref08_Moment_4, (f_ref08_Moment_t k).1⟩), (9, ⟨sh_ref08_Moment_9, (f_ref08_Moment_t k).2.1⟩)]
def E_ref08_Moment : Env := (E0.add 113 (typedSem pi_ref05_Of po_ref05_Of g_ref05_Of))
theorem q_ref08_Moment_4 (k : Nat) (d : Unit × ((Int × Unit) × ((Int × Unit) × Unit))) : evAt E_ref08_Moment (tab (L_ref08_Moment k)) c_ref08_Moment 4 (bodyOf Try.f65) 0 (finK E_ref08_Moment po_ref08_Moment [.tmp 2, .tmp 3]) (ptSt sh_ref08_Moment_4 d) = f_ref08_Moment_p4 (f_ref08_Moment_t k) d := by kernel_rfl
theorem q_ref08_Moment_9 (k : Nat) (d : Unit × ((Int × Unit) × ((Int × Unit) × Unit))) : evAt E_ref08_Moment (tab (L_ref08_Moment k)) c_ref08_Moment 9 (bodyOf Try.f65) 0 (finK E_ref08_Moment po_ref08_Moment [.tmp 2, .tmp 3]) (ptSt sh_ref08_Moment_9 d) = f_ref08_Moment_p9 (f_ref08_Moment_t k) d := by kernel_rfl
theorem q_ref08_Moment_m (k : Nat) (d : Unit × ((Int × (Int × (Int × (Int × (Int × (Int × (Int × (Int × Unit)))))))) × Unit)) : evCode E_ref08_Moment (tab (L_ref08_Moment k)) c_ref08_Moment (bodyOf Try.f65) 0 (finK E_ref08_Moment po_ref08_Moment [.tmp 2, .tmp 3]) (startSt pi_ref08_Moment 36 d) = f_ref08_Moment_m (f_ref08_Moment_t k) d := by kernel_rfl
theorem go_ref08_Moment (G : Unit × ((Int × (Int × (Int × (Int × (Int × (Int × (Int × (Int × Unit)))))))) × Unit) → Option (Unit × ((Int × Unit) × ((Int × Unit) × Unit)))) (hG : ∀ d out, G d = some out → ∃ k, f_ref08_Moment_m (f_ref08_Moment_t k) d = some out) : FnOk Try.prog ET0 65 pi_ref08_Moment po_ref08_Moment G :=
  fn_of_body (E := E_ref08_Moment) (envOk_add e0_ok (typed_ok ok_ref05_Of)) (fn := Try.f65) Try.func65 (by kernel_rfl) (by kernel_rfl) [.tmp 2, .tmp 3] (by kernel_rfl) (by kernel_rfl) (by decide) rfl c_ref08_Moment L_ref08_Moment
    (by intro x hx d; simp only [L_ref08_Moment, List.mem_cons, List.not_mem_nil, or_false] at hx; rcases hx with rfl | rfl; rfl; rfl)
    (by intro k x hx d out h; simp only [L_ref08_Moment, List.mem_cons, List.not_mem_nil, or_false] at hx; rcases hx with rfl | rfl; exact (q_ref08_Moment_4 k d).trans h; exact (q_ref08_Moment_9 k d).trans h)
    (by intro d out h; obtain ⟨k, hk⟩ := hG d out h; exact ⟨k, (q_ref08_Moment_m k d).trans hk⟩)
def g_ref08_Moment (d : Unit × ((Int × (Int × (Int × (Int × (Int × (Int × (Int × (Int × Unit)))))))) × Unit)) : Option (Unit × ((Int × Unit) × ((Int × Unit) × Unit))) := lim fun k => f_ref08_Moment_m (f_ref08_Moment_t k) d
theorem ok_ref08_Moment : FnOk Try.prog ET0 65 pi_ref08_Moment po_ref08_Moment g_ref08_Moment := go_ref08_Moment g_ref08_Moment fun d out h => lim_some h

/- horologe/horologeref05.Last -/
@[reducible] def pi_ref05_Last : PSh := ⟨[], []⟩
@[reducible] def po_ref05_Last : PSh := ⟨[], [.mk false [.v (.int .i64)]]⟩
def f_ref05_Last_m (T : Unit) (d : Unit × Unit) : Option (Unit × ((Int × Unit) × Unit)) :=
  (g_ref05_Start ((), (((10000 : Int), ()), ()))).bind fun x1 =>
  let x2 : Int := (isub .i64 x1.2.1.1 (1 : Int))
  some ((), ((x2, ()), ()))
def c_ref05_Last : List Nat := []
def L_ref05_Last (_ : Nat) : Pts po_ref05_Last.den := []
def E_ref05_Last : Env := (E0.add 61 (typedSem pi_ref05_Start po_ref05_Start g_ref05_Start))
theorem q_ref05_Last_m (k : Nat) (d : Unit × Unit) : evCode E_ref05_Last (tab (L_ref05_Last k)) c_ref05_Last (bodyOf Try.f62) 0 (finK E_ref05_Last po_ref05_Last [.tmp 0]) (startSt pi_ref05_Last 3 d) = f_ref05_Last_m () d := by kernel_rfl
def g_ref05_Last (d : Unit × Unit) : Option (Unit × ((Int × Unit) × Unit)) := f_ref05_Last_m () d
theorem ok_ref05_Last : FnOk Try.prog ET0 62 pi_ref05_Last po_ref05_Last g_ref05_Last :=
  fn_of_body (E := E_ref05_Last) (envOk_add e0_ok (typed_ok ok_ref05_Start)) (fn := Try.f62) Try.func62 (by kernel_rfl) (by kernel_rfl) [.tmp 0] (by kernel_rfl) (by kernel_rfl) (by decide) rfl c_ref05_Last L_ref05_Last
    (by intro x hx; cases hx) (by intro k x hx; cases hx) (fun d out h => ⟨0, (q_ref05_Last_m 0 d).trans h⟩)

/- horologe/horologeref08.There -/
@[reducible] def pi_ref08_There : PSh := ⟨[], [.mk false [.v (.int .i64)]]⟩
@[reducible] def po_ref08_There : PSh := ⟨[], [.mk false [.v .bool]]⟩
def f_ref08_There_m (T : Unit) (d : Unit × ((Int × Unit) × Unit)) : Option (Unit × ((Bool × Unit) × Unit)) :=
  (g_ref05_First ((), ())).bind fun x1 =>
  let x2 : Bool := (decide (d.2.1.1 ≥ x1.2.1.1))
  bif x2 then (
  (g_ref05_Last ((), ())).bind fun x3 =>
  let x4 : Bool := (decide (d.2.1.1 ≤ x3.2.1.1))
  some ((), ((x4, ()), ())))
  else (
  some ((), ((false, ()), ())))
def c_ref08_There : List Nat := []
def L_ref08_There (_ : Nat) : Pts po_ref08_There.den := []
def E_ref08_There : Env := ((E0.add 62 (typedSem pi_ref05_Last po_ref05_Last g_ref05_Last)).add 170 (typedSem pi_ref05_First po_ref05_First g_ref05_First))
theorem q_ref08_There_m (k : Nat) (d : Unit × ((Int × Unit) × Unit)) : evCode E_ref08_There (tab (L_ref08_There k)) c_ref08_There (bodyOf Try.f112) 0 (finK E_ref08_There po_ref08_There [.tmp 2]) (startSt pi_ref08_There 11 d) = f_ref08_There_m () d := by kernel_rfl
def g_ref08_There (d : Unit × ((Int × Unit) × Unit)) : Option (Unit × ((Bool × Unit) × Unit)) := f_ref08_There_m () d
theorem ok_ref08_There : FnOk Try.prog ET0 112 pi_ref08_There po_ref08_There g_ref08_There :=
  fn_of_body (E := E_ref08_There) (envOk_add (envOk_add e0_ok (typed_ok ok_ref05_Last)) (typed_ok ok_ref05_First)) (fn := Try.f112) Try.func112 (by kernel_rfl) (by kernel_rfl) [.tmp 2] (by kernel_rfl) (by kernel_rfl) (by decide) rfl c_ref08_There L_ref08_There
    (by intro x hx; cases hx) (by intro k x hx; cases hx) (fun d out h => ⟨0, (q_ref08_There_m 0 d).trans h⟩)

/- horologe/horologeref08.Check -/
@[reducible] def pi_ref08_Check : PSh := ⟨[], [.mk true [.v (.int .i64), .v (.int .i64), .v (.int .i64), .v (.int .i64), .v (.int .i64), .v (.int .i64), .v (.int .i64), .v (.int .i64)]]⟩
@[reducible] def po_ref08_Check : PSh := ⟨[], [.mk false [.v (.int .i64)]]⟩
def f_ref08_Check_m (T : Unit) (d : Unit × ((Int × (Int × (Int × (Int × (Int × (Int × (Int × (Int × Unit)))))))) × Unit)) : Option (Unit × ((Int × Unit) × Unit)) :=
  (g_ref05_Check ((), ((d.2.1.1, ()), ((d.2.1.2.1, ()), ((d.2.1.2.2.1, ()), ()))))).bind fun x1 =>
  let x2 : Bool := (x1.2.1.1 != (0 : Int))
  bif x2 then (
  some ((), ((x1.2.1.1, ()), ())))
  else (
  let x3 : Bool := (decide (d.2.1.2.2.2.1 < (0 : Int)))
  bif x3 then (
  some ((), (((1 : Int), ()), ())))
  else (
  let x4 : Bool := (decide (d.2.1.2.2.2.1 > (23 : Int)))
  bif x4 then (
  some ((), (((1 : Int), ()), ())))
  else (
  let x5 : Bool := (decide (d.2.1.2.2.2.2.1 < (0 : Int)))
  bif x5 then (
  some ((), (((1 : Int), ()), ())))
  else (
  let x6 : Bool := (decide (d.2.1.2.2.2.2.1 > (59 : Int)))
  bif x6 then (
  some ((), (((1 : Int), ()), ())))
  else (
  let x7 : Bool := (decide (d.2.1.2.2.2.2.2.1 < (0 : Int)))
  bif x7 then (
  some ((), (((1 : Int), ()), ())))
  else (
  let x8 : Bool := (decide (d.2.1.2.2.2.2.2.1 > (60 : Int)))
  bif x8 then (
  some ((), (((1 : Int), ()), ())))
  else (
  let x9 : Bool := (decide (d.2.1.2.2.2.2.2.2.1 < (0 : Int)))
  bif x9 then (
  some ((), (((1 : Int), ()), ())))
  else (
  let x10 : Bool := (decide (d.2.1.2.2.2.2.2.2.1 > (999999999 : Int)))
  bif x10 then (
  some ((), (((1 : Int), ()), ())))
  else (
  let x11 : Bool := (decide (d.2.1.2.2.2.2.2.2.2.1 < (-1439 : Int)))
  bif x11 then (
  some ((), (((1 : Int), ()), ())))
  else (
  let x12 : Bool := (decide (d.2.1.2.2.2.2.2.2.2.1 > (1439 : Int)))
  bif x12 then (
  some ((), (((1 : Int), ()), ())))
  else (
  (g_ref08_Moment ((), ((d.2.1.1, (d.2.1.2.1, (d.2.1.2.2.1, (d.2.1.2.2.2.1, (d.2.1.2.2.2.2.1, (d.2.1.2.2.2.2.2.1, (d.2.1.2.2.2.2.2.2.1, (d.2.1.2.2.2.2.2.2.2.1, ())))))))), ()))).bind fun x13 =>
  (g_ref08_There ((), ((x13.2.1.1, ()), ()))).bind fun x14 =>
  let x15 : Bool := (!x14.2.1.1)
  bif x15 then (
  some ((), (((13 : Int), ()), ())))
  else (
  let x16 : Bool := (d.2.1.2.2.2.2.2.1 == (60 : Int))
  bif x16 then (
  let x17 : Bool := (x13.2.2.1.1 != (1439 : Int))
  bif x17 then (
  some ((), (((12 : Int), ()), ())))
  else (
  some ((), (((0 : Int), ()), ()))))
  else (
  some ((), (((0 : Int), ()), ())))))))))))))))
def c_ref08_Check : List Nat := []
def L_ref08_Check (_ : Nat) : Pts po_ref08_Check.den := []
def E_ref08_Check : Env := (((E0.add 65 (typedSem pi_ref08_Moment po_ref08_Moment g_ref08_Moment)).add 111 (typedSem pi_ref05_Check po_ref05_Check g_ref05_Check)).add 112 (typedSem pi_ref08_There po_ref08_There g_ref08_There))
theorem q_ref08_Check_m (k : Nat) (d : Unit × ((Int × (Int × (Int × (Int × (Int × (Int × (Int × (Int × Unit)))))))) × Unit)) : evCode E_ref08_Check (tab (L_ref08_Check k)) c_ref08_Check (bodyOf Try.f64) 0 (finK E_ref08_Check po_ref08_Check [.tmp 2]) (startSt pi_ref08_Check 77 d) = f_ref08_Check_m () d := by kernel_rfl
def g_ref08_Check (d : Unit × ((Int × (Int × (Int × (Int × (Int × (Int × (Int × (Int × Unit)))))))) × Unit)) : Option (Unit × ((Int × Unit) × Unit)) := f_ref08_Check_m () d
theorem ok_ref08_Check : FnOk Try.prog ET0 64 pi_ref08_Check po_ref08_Check g_ref08_Check :=
  fn_of_body (E := E_ref08_Check) (envOk_add (envOk_add (envOk_add e0_ok (typed_ok ok_ref08_Moment)) (typed_ok ok_ref05_Check)) (typed_ok ok_ref08_There)) (fn := Try.f64) Try.func64 (by kernel_rfl) (by kernel_rfl) [.tmp 2] (by kernel_rfl) (by kernel_rfl) (by decide) rfl c_ref08_Check L_ref08_Check
    (by intro x hx; cases hx) (by intro k x hx; cases hx) (fun d out h => ⟨0, (q_ref08_Check_m 0 d).trans h⟩)

/- horologe/horologeref08.Split -/
@[reducible] def pi_ref08_Split : PSh := ⟨[], [.mk true [.v (.int .i64), .v (.int .i64), .v (.int .i64), .v (.int .i64), .v (.int .i64), .v (.int .i64), .v (.int .i64), .v (.int .i64)]]⟩
@[reducible] def po_ref08_Split : PSh := ⟨[], [.mk false [.v (.int .i64)], .mk false [.v (.int .i64)], .mk false [.v (.int .i64)]]⟩
def f_ref08_Split_m (T : Unit) (d : Unit × ((Int × (Int × (Int × (Int × (Int × (Int × (Int × (Int × Unit)))))))) × Unit)) : Option (Unit × ((Int × Unit) × ((Int × Unit) × ((Int × Unit) × Unit)))) :=
  (g_ref08_Check ((), ((d.2.1.1, (d.2.1.2.1, (d.2.1.2.2.1, (d.2.1.2.2.2.1, (d.2.1.2.2.2.2.1, (d.2.1.2.2.2.2.2.1, (d.2.1.2.2.2.2.2.2.1, (d.2.1.2.2.2.2.2.2.2.1, ())))))))), ()))).bind fun x1 =>
  let x2 : Bool := (x1.2.1.1 != (0 : Int))
  bif x2 then (
  some ((), (((0 : Int), ()), (((0 : Int), ()), ((x1.2.1.1, ()), ())))))
  else (
  (g_ref08_Moment ((), ((d.2.1.1, (d.2.1.2.1, (d.2.1.2.2.1, (d.2.1.2.2.2.1, (d.2.1.2.2.2.2.1, (d.2.1.2.2.2.2.2.1, (d.2.1.2.2.2.2.2.2.1, (d.2.1.2.2.2.2.2.2.2.1, ())))))))), ()))).bind fun x3 =>
  let x4 : Int := (imul .i64 x3.2.2.1.1 (60 : Int))
  let x5 : Int := (iadd .i64 x4 d.2.1.2.2.2.2.2.1)
  some ((), ((x3.2.1.1, ()), ((x5, ()), (((0 : Int), ()), ())))))
def c_ref08_Split : List Nat := []
def L_ref08_Split (_ : Nat) : Pts po_ref08_Split.den := []
def E_ref08_Split : Env := ((E0.add 64 (typedSem pi_ref08_Check po_ref08_Check g_ref08_Check)).add 65 (typedSem pi_ref08_Moment po_ref08_Moment g_ref08_Moment))
theorem q_ref08_Split_m (k : Nat) (d : Unit × ((Int × (Int × (Int × (Int × (Int × (Int × (Int × (Int × Unit)))))))) × Unit)) : evCode E_ref08_Split (tab (L_ref08_Split k)) c_ref08_Split (bodyOf Try.f19) 0 (finK E_ref08_Split po_ref08_Split [.tmp 2, .tmp 3, .tmp 4]) (startSt pi_ref08_Split 24 d) = f_ref08_Split_m () d := by kernel_rfl
def g_ref08_Split (d : Unit × ((Int × (Int × (Int × (Int × (Int × (Int × (Int × (Int × Unit)))))))) × Unit)) : Option (Unit × ((Int × Unit) × ((Int × Unit) × ((Int × Unit) × Unit)))) := f_ref08_Split_m () d
theorem ok_ref08_Split : FnOk Try.prog ET0 19 pi_ref08_Split po_ref08_Split g_ref08_Split :=
  fn_of_body (E := E_ref08_Split) (envOk_add (envOk_add e0_ok (typed_ok ok_ref08_Check)) (typed_ok ok_ref08_Moment)) (fn := Try.f19) Try.func19 (by kernel_rfl) (by kernel_rfl) [.tmp 2, .tmp 3, .tmp 4] (by kernel_rfl) (by kernel_rfl) (by decide) rfl c_ref08_Split L_ref08_Split
    (by intro x hx; cases hx) (by intro k x hx; cases hx) (fun d out h => ⟨0, (q_ref08_Split_m 0 d).trans h⟩)

/- horologe/horologeref05.Date -/
@[reducible] def pi_ref05_Date : PSh := ⟨[], [.mk false [.v (.int .i64)]]⟩
@[reducible] def po_ref05_Date : PSh := ⟨[], [.mk false [.v (.int .i64)], .mk false [.v (.int .i64)], .mk false [.v (.int .i64)]]⟩
@[reducible] def TT_ref05_Date : Type := (((Unit × ((Int × Unit) × ((Int × Unit) × Unit))) → Option (Unit × ((Int × Unit) × ((Int × Unit) × ((Int × Unit) × Unit))))) × (((Unit × ((Int × Unit) × ((Int × Unit) × Unit))) → Option (Unit × ((Int × Unit) × ((Int × Unit) × ((Int × Unit) × Unit))))) × (((Unit × ((Int × Unit) × ((Int × Unit) × Unit))) → Option (Unit × ((Int × Unit) × ((Int × Unit) × ((Int × Unit) × Unit))))) × (((Unit × ((Int × Unit) × ((Int × Unit) × ((Int × Unit) × Unit)))) → Option (Unit × ((Int × Unit) × ((Int × Unit) × ((Int × Unit) × Unit))))) × Unit))))
@[reducible] def sh_ref05_Date_3 : PSh := ⟨[], [.mk false [.v (.int .i64)], .any, .any, .any, .any, .mk false [.v (.int .i64)], .any, .any, .any, .any, .any, .any, .any, .any, .any, .any, .any, .any, .any, .any, .any, .any, .any, .any, .any, .any, .any, .any, .any, .any, .any, .any, .any, .any, .any, .any, .any, .any, .any, .any, .any, .any, .any, .any, .any]⟩
@[reducible] def sh_ref05_Date_8 : PSh := ⟨[], [.mk false [.v (.int .i64)], .any, .any, .any, .any, .mk false [.v (.int .i64)], .any, .any, .any, .any, .any, .any, .any, .any, .any, .any, .any, .any, .any, .any, .any, .any, .any, .any, .any, .any, .any, .any, .any, .any, .any, .any, .any, .any, .any, .any, .any, .any, .any, .any, .any, .any, .any, .any, .any]⟩
@[reducible] def sh_ref05_Date_13 : PSh := ⟨[], [.mk false [.v (.int .i64)], .any, .any, .any, .any, .mk false [.v (.int .i64)], .any, .any, .any, .any, .any, .any, .any, .any, .any, .any, .any, .any, .any, .any, .any, .any, .any, .any, .any, .any, .any, .any, .any, .any, .any, .any, .any, .any, .any, .any, .any, .any, .any, .any, .any, .any, .any, .any, .any]⟩
@[reducible] def sh_ref05_Date_19 : PSh := ⟨[], [.mk false [.v (.int .i64)], .any, .any, .any, .any, .mk false [.v (.int .i64)], .mk false [.v (.int .i64)], .any, .any, .any, .any, .any, .any, .any, .any, .any, .any, .any, .any, .any, .any, .any, .any, .any, .any, .any, .any, .any, .any, .any, .any, .any, .any, .any, .any, .any, .any, .any, .any, .any, .any, .any, .any, .any, .any]⟩
def f_ref05_Date_p3 (T : TT_ref05_Date) (d : Unit × ((Int × Unit) × ((Int × Unit) × Unit))) : Option (Unit × ((Int × Unit) × ((Int × Unit) × ((Int × Unit) × Unit)))) :=
  let x1 : Bool := (decide (d.2.1.1 < (0 : Int)))
  bif x1 then (
  let x2 : Int := (iadd .i64 d.2.1.1 (146097 : Int))
  let x3 : Int := (isub .i64 d.2.2.1.1 (400 : Int))
  (T.1 ((), ((x2, ()), ((x3, ()), ())))))
  else (
  (T.2.1 ((), ((d.2.1.1, ()), ((d.2.2.1.1, ()), ())))))
def f_ref05_Date_p8 (T : TT_ref05_Date) (d : Unit × ((Int × Unit) × ((Int × Unit) × Unit))) : Option (Unit × ((Int × Unit) × ((Int × Unit) × ((Int × Unit) × Unit)))) :=
  let x4 : Bool := (decide (d.2.1.1 ≥ (146097 : Int)))
  bif x4 then (
  let x5 : Int := (isub .i64 d.2.1.1 (146097 : Int))
  let x6 : Int := (iadd .i64 d.2.2.1.1 (400 : Int))
  (T.2.1 ((), ((x5, ()), ((x6, ()), ())))))
  else (
  (T.2.2.1 ((), ((d.2.1.1, ()), ((d.2.2.1.1, ()), ())))))
def f_ref05_Date_p13 (T : TT_ref05_Date) (d : Unit × ((Int × Unit) × ((Int × Unit) × Unit))) : Option (Unit × ((Int × Unit) × ((Int × Unit) × ((Int × Unit) × Unit)))) :=
  (g_ref05_Days ((), ((d.2.2.1.1, ()), ()))).bind fun x7 =>
  let x8 : Bool := (decide (d.2.1.1 ≥ x7.2.1.1))
  bif x8 then (
  (g_ref05_Days ((), ((d.2.2.1.1, ()), ()))).bind fun x9 =>
  let x10 : Int := (isub .i64 d.2.1.1 x9.2.1.1)
  let x11 : Int := (iadd .i64 d.2.2.1.1 (1 : Int))
  (T.2.2.1 ((), ((x10, ()), ((x11, ()), ())))))
  else (
  (T.2.2.2.1 ((), ((d.2.1.1, ()), ((d.2.2.1.1, ()), (((1 : Int), ()), ()))))))
def f_ref05_Date_p19 (T : TT_ref05_Date) (d : Unit × ((Int × Unit) × ((Int × Unit) × ((Int × Unit) × Unit)))) : Option (Unit × ((Int × Unit) × ((Int × Unit) × ((Int × Unit) × Unit)))) :=
  (g_ref05_Month ((), ((d.2.2.1.1, ()), ((d.2.2.2.1.1, ()), ())))).bind fun x12 =>
  let x13 : Bool := (decide (d.2.1.1 ≥ x12.2.1.1))
  bif x13 then (
  (g_ref05_Month ((), ((d.2.2.1.1, ()), ((d.2.2.2.1.1, ()), ())))).bind fun x14 =>
  let x15 : Int := (isub .i64 d.2.1.1 x14.2.1.1)
  let x16 : Int := (iadd .i64 d.2.2.2.1.1 (1 : Int))
  (T.2.2.2.1 ((), ((x15, ()), ((d.2.2.1.1, ()), ((x16, ()), ()))))))
  else (
  let x17 : Int := (iadd .i64 d.2.1.1 (1 : Int))
  some ((), ((d.2.2.1.1, ()), ((d.2.2.2.1.1, ()), ((x17, ()), ())))))
def f_ref05_Date_t : Nat → TT_ref05_Date
  | 0 => (fun _ => none, (fun _ => none, (fun _ => none, (fun _ => none, ()))))
  | k + 1 => (f_ref05_Date_p3 (f_ref05_Date_t k), (f_ref05_Date_p8 (f_ref05_Date_t k), (f_ref05_Date_p13 (f_ref05_Date_t k), (f_ref05_Date_p19 (f_ref05_Date_t k), ()))))
theorem t_ref05_Date (k : Nat) : f_ref05_Date_t (k + 1) = (f_ref05_Date_p3 (f_ref05_Date_t k), (f_ref05_Date_p8 (f_ref05_Date_t k), (f_ref05_Date_p13 (f_ref05_Date_t k), (f_ref05_Date_p19 (f_ref05_Date_t k), ())))) := rfl
def f_ref05_Date_m (T : TT_ref05_Date) (d : Unit × ((Int × Unit) × Unit)) : Option (Unit × ((Int × Unit) × ((Int × Unit) × ((Int × Unit) × Unit)))) :=
  (T.1 ((), ((d.2.1.1, ()), (((1970 : Int), ()), ()))))
def c_ref05_Date : List Nat := []
def L_ref05_Date (k : Nat) : Pts po_ref05_Date.den := [(3, ⟨sh_ref05_Date_3, (f_ref05_Date_t k).1⟩), (8, ⟨sh_ref05_Date_8, (f_ref05_Date_t k).2.1⟩), (13, ⟨sh_ref05_Date_13, (f_ref05_Date_t k).2.2.1⟩), (19, ⟨sh_ref05_Date_19, (f_ref05_Date_t k).2.2.2.1⟩)]
def E_ref05_Date : Env := ((E0.add 109 (typedSem pi_ref05_Days po_ref05_Days g_ref05_Days)).add 110 (typedSem pi_ref05_Month po_ref05_Month g_ref05_Month))
theorem q_ref05_Date_3 (k : Nat) (d : Unit × ((Int × Unit) × ((Int × Unit) × Unit))) : evAt E_ref05_Date (tab (L_ref05_Date k)) c_ref05_Date 3 (bodyOf Try.f63) 0 (finK E_ref05_Date po_ref05_Date [.tmp 2, .tmp 3, .tmp 4]) (ptSt sh_ref05_Date_3 d) = f_ref05_Date_p3 (f_ref05_Date_t k) d := by kernel_rfl
theorem q_ref05_Date_8 (k : Nat) (d : Unit × ((Int × Unit) × ((Int × Unit) × Unit))) : evAt E_ref05_Date (tab (L_ref05_Date k)) c_ref05_Date 8 (bodyOf Try.f63) 0 (finK E_ref05_Date po_ref05_Date [.tmp 2, .tmp 3, .tmp 4]) (ptSt sh_ref05_Date_8 d) = f_ref05_Date_p8 (f_ref05_Date_t k) d := by kernel_rfl
theorem q_ref05_Date_13 (k : Nat) (d : Unit × ((Int × Unit) × ((Int × Unit) × Unit))) : evAt E_ref05_Date (tab (L_ref05_Date k)) c_ref05_Date 13 (bodyOf Try.f63) 0 (finK E_ref05_Date po_ref05_Date [.tmp 2, .tmp 3, .tmp 4]) (ptSt sh_ref05_Date_13 d) = f_ref05_Date_p13 (f_ref05_Date_t k) d := by kernel_rfl
theorem q_ref05_Date_19 (k : Nat) (d : Unit × ((Int × Unit) × ((Int × Unit) × ((Int × Unit) × Unit)))) : evAt E_ref05_Date (tab (L_ref05_Date k)) c_ref05_Date 19 (bodyOf Try.f63) 0 (finK E_ref05_Date po_ref05_Date [.tmp 2, .tmp 3, .tmp 4]) (ptSt sh_ref05_Date_19 d) = f_ref05_Date_p19 (f_ref05_Date_t k) d := by kernel_rfl
theorem q_ref05_Date_m (k : Nat) (d : Unit × ((Int × Unit) × Unit)) : evCode E_ref05_Date (tab (L_ref05_Date k)) c_ref05_Date (bodyOf Try.f63) 0 (finK E_ref05_Date po_ref05_Date [.tmp 2, .tmp 3, .tmp 4]) (startSt pi_ref05_Date 45 d) = f_ref05_Date_m (f_ref05_Date_t k) d := by kernel_rfl
theorem go_ref05_Date (G : Unit × ((Int × Unit) × Unit) → Option (Unit × ((Int × Unit) × ((Int × Unit) × ((Int × Unit) × Unit))))) (hG : ∀ d out, G d = some out → ∃ k, f_ref05_Date_m (f_ref05_Date_t k) d = some out) : FnOk Try.prog ET0 63 pi_ref05_Date po_ref05_Date G :=
  fn_of_body (E := E_ref05_Date) (envOk_add (envOk_add e0_ok (typed_ok ok_ref05_Days)) (typed_ok ok_ref05_Month)) (fn := Try.f63) Try.func63 (by kernel_rfl) (by kernel_rfl) [.tmp 2, .tmp 3, .tmp 4] (by kernel_rfl) (by kernel_rfl) (by decide) rfl c_ref05_Date L_ref05_Date
    (by intro x hx d; simp only [L_ref05_Date, List.mem_cons, List.not_mem_nil, or_false] at hx; rcases hx with rfl | rfl | rfl | rfl; rfl; rfl; rfl; rfl)
    (by intro k x hx d out h; simp only [L_ref05_Date, List.mem_cons, List.not_mem_nil, or_false] at hx; rcases hx with rfl | rfl | rfl | rfl; exact (q_ref05_Date_3 k d).trans h; exact (q_ref05_Date_8 k d).trans h; exact (q_ref05_Date_13 k d).trans h; exact (q_ref05_Date_19 k d).trans h)
    (by intro d out h; obtain ⟨k, hk⟩ := hG d out h; exact ⟨k, (q_ref05_Date_m k d).trans hk⟩)
def g_ref05_Date (d : Unit × ((Int × Unit) × Unit)) : Option (Unit × ((Int × Unit) × ((Int × Unit) × ((Int × Unit) × Unit)))) := lim fun k => f_ref05_Date_m (f_ref05_Date_t k) d
theorem ok_ref05_Date : FnOk Try.prog ET0 63 pi_ref05_Date po_ref05_Date g_ref05_Date := go_ref05_Date g_ref05_Date fun d out h => lim_some h

/- horologe/horologeref08.Of -/
@[reducible] def pi_ref08_Of : PSh := ⟨[], [.mk false [.v (.int .i64)], .mk false [.v (.int .i64)], .mk false [.v (.int .i64)], .mk false [.v (.int .i64)]]⟩
@[reducible] def po_ref08_Of : PSh := ⟨[], [.mk true [.v (.int .i64), .v (.int .i64), .v (.int .i64), .v (.int .i64), .v (.int .i64), .v (.int .i64), .v (.int .i64), .v (.int .i64)], .mk false [.v (.int .i64)]]⟩
@[reducible] def TT_ref08_Of : Type := (((((Int × (Int × (Int × (Int × (Int × (Int × (Int × (Int × Unit)))))))) × ((Int × (Int × (Int × (Int × (Int × (Int × (Int × (Int × Unit)))))))) × Unit)) × ((Int × Unit) × (Unit × (Unit × ((Int × Unit) × Unit))))) → Option (Unit × ((Int × (Int × (Int × (Int × (Int × (Int × (Int × (Int × Unit)))))))) × ((Int × Unit) × Unit)))) × Unit)
@[reducible] def sh_ref08_Of_16 : PSh := ⟨[.var 35 [.v (.int .i64), .v (.int .i64), .v (.int .i64), .v (.int .i64), .v (.int .i64), .v (.int .i64), .v (.int .i64), .v (.int .i64)], .var 35 [.v (.int .i64), .v (.int .i64), .v (.int .i64), .v (.int .i64), .v (.int .i64), .v (.int .i64), .v (.int .i64), .v (.int .i64)]], [.mk false [.v (.int .i64)], .any, .any, .any, .any, .any, .any, .any, .mk false [.ref 0 0], .any, .mk false [.ref 1 0], .mk false [.v (.int .i64)], .any, .any, .any, .any, .any, .any, .any, .any, .any, .any, .any, .any, .any, .any, .any, .any, .any, .any, .any, .any, .any, .any, .any, .any, .any, .any, .any, .any, .any, .any, .any, .any, .any, .any, .any, .any, .any, .any, .any, .any, .any, .any, .any, .any, .any, .any, .any, .any, .any, .any, .any, .any, .any, .any, .any, .any, .any, .any, .any, .any, .any, .any, .any, .any, .any, .any, .any, .any, .any, .any, .any, .any]⟩
def f_ref08_Of_p16 (T : TT_ref08_Of) (d : ((Int × (Int × (Int × (Int × (Int × (Int × (Int × (Int × Unit)))))))) × ((Int × (Int × (Int × (Int × (Int × (Int × (Int × (Int × Unit)))))))) × Unit)) × ((Int × Unit) × (Unit × (Unit × ((Int × Unit) × Unit))))) : Option (Unit × ((Int × (Int × (Int × (Int × (Int × (Int × (Int × (Int × Unit)))))))) × ((Int × Unit) × Unit))) :=
  (g_ref08_There ((), ((d.2.1.1, ()), ()))).bind fun x32 =>
  let x33 : Bool := (!x32.2.1.1)
  bif x33 then (
  some ((), (((0 : Int), ((0 : Int), ((0 : Int), ((0 : Int), ((0 : Int), ((0 : Int), ((0 : Int), ((0 : Int), ())))))))), (((13 : Int), ()), ()))))
  else (
  (g_ref05_Date ((), ((d.2.1.1, ()), ()))).bind fun x34 =>
  let x35 : Int := (iquo .i64 d.2.2.2.2.1.1 (60 : Int))
  let x36 : Int := (Int.tmod d.2.2.2.2.1.1 (60 : Int))
  some ((), ((x34.2.1.1, (x34.2.2.1.1, (x34.2.2.2.1.1, (x35, (x36, (d.1.2.1.2.2.2.2.2.1, (d.1.2.1.2.2.2.2.2.2.1, (d.1.2.1.2.2.2.2.2.2.2.1, ())))))))), (((0 : Int), ()), ()))))
def f_ref08_Of_t : Nat → TT_ref08_Of
  | 0 => (fun _ => none, ())
  | k + 1 => (f_ref08_Of_p16 (f_ref08_Of_t k), ())
theorem t_ref08_Of (k : Nat) : f_ref08_Of_t (k + 1) = (f_ref08_Of_p16 (f_ref08_Of_t k), ()) := rfl
def f_ref08_Of_m (T : TT_ref08_Of) (d : Unit × ((Int × Unit) × ((Int × Unit) × ((Int × Unit) × ((Int × Unit) × Unit))))) : Option (Unit × ((Int × (Int × (Int × (Int × (Int × (Int × (Int × (Int × Unit)))))))) × ((Int × Unit) × Unit))) :=
  (g_ref08_There ((), ((d.2.1.1, ()), ()))).bind fun x1 =>
  let x2 : Bool := (!x1.2.1.1)
  bif x2 then (
  some ((), (((0 : Int), ((0 : Int), ((0 : Int), ((0 : Int), ((0 : Int), ((0 : Int), ((0 : Int), ((0 : Int), ())))))))), (((13 : Int), ()), ()))))
  else (
  let x3 : Bool := (decide (d.2.2.1.1 < (0 : Int)))
  bif x3 then (
  some ((), (((0 : Int), ((0 : Int), ((0 : Int), ((0 : Int), ((0 : Int), ((0 : Int), ((0 : Int), ((0 : Int), ())))))))), (((1 : Int), ()), ()))))
  else (
  let x4 : Bool := (decide (d.2.2.1.1 > (86400 : Int)))
  bif x4 then (
  some ((), (((0 : Int), ((0 : Int), ((0 : Int), ((0 : Int), ((0 : Int), ((0 : Int), ((0 : Int), ((0 : Int), ())))))))), (((1 : Int), ()), ()))))
  else (
  let x5 : Bool := (decide (d.2.2.2.1.1 < (0 : Int)))
  bif x5 then (
  some ((), (((0 : Int), ((0 : Int), ((0 : Int), ((0 : Int), ((0 : Int), ((0 : Int), ((0 : Int), ((0 : Int), ())))))))), (((1 : Int), ()), ()))))
  else (
  let x6 : Bool := (decide (d.2.2.2.1.1 > (999999999 : Int)))
  bif x6 then (
  some ((), (((0 : Int), ((0 : Int), ((0 : Int), ((0 : Int), ((0 : Int), ((0 : Int), ((0 : Int), ((0 : Int), ())))))))), (((1 : Int), ()), ()))))
  else (
  let x7 : Bool := (decide (d.2.2.2.2.1.1 < (-1439 : Int)))
  bif x7 then (
  some ((), (((0 : Int), ((0 : Int), ((0 : Int), ((0 : Int), ((0 : Int), ((0 : Int), ((0 : Int), ((0 : Int), ())))))))), (((1 : Int), ()), ()))))
  else (
  let x8 : Bool := (decide (d.2.2.2.2.1.1 > (1439 : Int)))
  bif x8 then (
  some ((), (((0 : Int), ((0 : Int), ((0 : Int), ((0 : Int), ((0 : Int), ((0 : Int), ((0 : Int), ((0 : Int), ())))))))), (((1 : Int), ()), ()))))
  else (
  let x9 : Int := (Int.tmod d.2.2.1.1 (60 : Int))
  let x10 : Int := (iquo .i64 d.2.2.1.1 (60 : Int))
  let x11 : Bool := (d.2.2.1.1 == (86400 : Int))
  bif x11 then (
  let x12 : Int := (iadd .i64 (1439 : Int) d.2.2.2.2.1.1)
  let x13 : Bool := (decide (x12 < (0 : Int)))
  bif x13 then (
  let x14 : Int := (iadd .i64 x12 (1440 : Int))
  let x15 : Int := (isub .i64 d.2.1.1 (1 : Int))
  let x16 : Bool := (decide (x14 ≥ (1440 : Int)))
  bif x16 then (
  let x17 : Int := (isub .i64 x14 (1440 : Int))
  let x18 : Int := (iadd .i64 x15 (1 : Int))
  (T.1 ((((0 : Int), ((0 : Int), ((0 : Int), ((0 : Int), ((0 : Int), ((0 : Int), ((0 : Int), ((0 : Int), ())))))))), (((0 : Int), ((0 : Int), ((0 : Int), ((0 : Int), ((0 : Int), ((60 : Int), (d.2.2.2.1.1, (d.2.2.2.2.1.1, ())))))))), ())), ((x18, ()), ((), ((), ((x17, ()), ())))))))
  else (
  (T.1 ((((0 : Int), ((0 : Int), ((0 : Int), ((0 : Int), ((0 : Int), ((0 : Int), ((0 : Int), ((0 : Int), ())))))))), (((0 : Int), ((0 : Int), ((0 : Int), ((0 : Int), ((0 : Int), ((60 : Int), (d.2.2.2.1.1, (d.2.2.2.2.1.1, ())))))))), ())), ((x15, ()), ((), ((), ((x14, ()), ()))))))))
  else (
  let x19 : Bool := (decide (x12 ≥ (1440 : Int)))
  bif x19 then (
  let x20 : Int := (isub .i64 x12 (1440 : Int))
  let x21 : Int := (iadd .i64 d.2.1.1 (1 : Int))
  (T.1 ((((0 : Int), ((0 : Int), ((0 : Int), ((0 : Int), ((0 : Int), ((0 : Int), ((0 : Int), ((0 : Int), ())))))))), (((0 : Int), ((0 : Int), ((0 : Int), ((0 : Int), ((0 : Int), ((60 : Int), (d.2.2.2.1.1, (d.2.2.2.2.1.1, ())))))))), ())), ((x21, ()), ((), ((), ((x20, ()), ())))))))
  else (
  (T.1 ((((0 : Int), ((0 : Int), ((0 : Int), ((0 : Int), ((0 : Int), ((0 : Int), ((0 : Int), ((0 : Int), ())))))))), (((0 : Int), ((0 : Int), ((0 : Int), ((0 : Int), ((0 : Int), ((60 : Int), (d.2.2.2.1.1, (d.2.2.2.2.1.1, ())))))))), ())), ((d.2.1.1, ()), ((), ((), ((x12, ()), ())))))))))
  else (
  let x22 : Int := (iadd .i64 x10 d.2.2.2.2.1.1)
  let x23 : Bool := (decide (x22 < (0 : Int)))
  bif x23 then (
  let x24 : Int := (iadd .i64 x22 (1440 : Int))
  let x25 : Int := (isub .i64 d.2.1.1 (1 : Int))
  let x26 : Bool := (decide (x24 ≥ (1440 : Int)))
  bif x26 then (
  let x27 : Int := (isub .i64 x24 (1440 : Int))
  let x28 : Int := (iadd .i64 x25 (1 : Int))
  (T.1 ((((0 : Int), ((0 : Int), ((0 : Int), ((0 : Int), ((0 : Int), ((0 : Int), ((0 : Int), ((0 : Int), ())))))))), (((0 : Int), ((0 : Int), ((0 : Int), ((0 : Int), ((0 : Int), (x9, (d.2.2.2.1.1, (d.2.2.2.2.1.1, ())))))))), ())), ((x28, ()), ((), ((), ((x27, ()), ())))))))
  else (
  (T.1 ((((0 : Int), ((0 : Int), ((0 : Int), ((0 : Int), ((0 : Int), ((0 : Int), ((0 : Int), ((0 : Int), ())))))))), (((0 : Int), ((0 : Int), ((0 : Int), ((0 : Int), ((0 : Int), (x9, (d.2.2.2.1.1, (d.2.2.2.2.1.1, ())))))))), ())), ((x25, ()), ((), ((), ((x24, ()), ()))))))))
  else (
  let x29 : Bool := (decide (x22 ≥ (1440 : Int)))
  bif x29 then (
  let x30 : Int := (isub .i64 x22 (1440 : Int))
  let x31 : Int := (iadd .i64 d.2.1.1 (1 : Int))
  (T.1 ((((0 : Int), ((0 : Int), ((0 : Int), ((0 : Int), ((0 : Int), ((0 : Int), ((0 : Int), ((0 : Int), ())))))))), (((0 : Int), ((0 : Int), ((0 : Int), ((0 : Int), ((0 : Int), (x9, (d.2.2.2.1.1, (d.2.2.2.2.1.1, ())))))))), ())), ((x31, ()), ((), ((), ((x30, ()), ())))))))
  else (
  (T.1 ((((0 : Int), ((0 : Int), ((0 : Int), ((0 : Int), ((0 : Int), ((0 : Int), ((0 : Int), ((0 : Int), ())))))))), (((0 : Int), ((0 : Int), ((0 : Int), ((0 : Int), ((0 : Int), (x9, (d.2.2.2.1.1, (d.2.2.2.2.1.1, ())))))))), ())), ((d.2.1.1, ()), ((), ((), ((x22, ()), ()))))))))))))))))
def c_ref08_Of : List Nat := [16]
def L_ref08_Of (k : Nat) : Pts po_ref08_Of.den := [(16, ⟨sh_ref08_Of_16, (f_ref08_Of_t k).1⟩)]
def E_ref08_Of : Env := ((E0.add 63 (typedSem pi_ref05_Date po_ref05_Date g_ref05_Date)).add 112 (typedSem pi_ref08_There po_ref08_There g_ref08_There))
theorem q_ref08_Of_16 (k : Nat) (d : ((Int × (Int × (Int × (Int × (Int × (Int × (Int × (Int × Unit)))))))) × ((Int × (Int × (Int × (Int × (Int × (Int × (Int × (Int × Unit)))))))) × Unit)) × ((Int × Unit) × (Unit × (Unit × ((Int × Unit) × Unit))))) : evAt E_ref08_Of (tab (L_ref08_Of k)) c_ref08_Of 16 (bodyOf Try.f72) 0 (finK E_ref08_Of po_ref08_Of [.cell 8 35, .tmp 9]) (ptSt sh_ref08_Of_16 d) = f_ref08_Of_p16 (f_ref08_Of_t k) d := by kernel_rfl
theorem q_ref08_Of_m (k : Nat) (d : Unit × ((Int × Unit) × ((Int × Unit) × ((Int × Unit) × ((Int × Unit) × Unit))))) : evCode E_ref08_Of (tab (L_ref08_Of k)) c_ref08_Of (bodyOf Try.f72) 0 (finK E_ref08_Of po_ref08_Of [.cell 8 35, .tmp 9]) (startSt pi_ref08_Of 84 d) = f_ref08_Of_m (f_ref08_Of_t k) d := by kernel_rfl
theorem go_ref08_Of (G : Unit × ((Int × Unit) × ((Int × Unit) × ((Int × Unit) × ((Int × Unit) × Unit)))) → Option (Unit × ((Int × (Int × (Int × (Int × (Int × (Int × (Int × (Int × Unit)))))))) × ((Int × Unit) × Unit)))) (hG : ∀ d out, G d = some out → ∃ k, f_ref08_Of_m (f_ref08_Of_t k) d = some out) : FnOk Try.prog ET0 72 pi_ref08_Of po_ref08_Of G :=
  fn_of_body (E := E_ref08_Of) (envOk_add (envOk_add e0_ok (typed_ok ok_ref05_Date)) (typed_ok ok_ref08_There)) (fn := Try.f72) Try.func72 (by kernel_rfl) (by kernel_rfl) [.cell 8 35, .tmp 9] (by kernel_rfl) (by kernel_rfl) (by decide) rfl c_ref08_Of L_ref08_Of
    (by intro x hx d; simp only [L_ref08_Of, List.mem_cons, List.not_mem_nil, or_false] at hx; subst hx; rfl)
    (by intro k x hx d out h; simp only [L_ref08_Of, List.mem_cons, List.not_mem_nil, or_false] at hx; subst hx; exact (q_ref08_Of_16 k d).trans h)
    (by intro d out h; obtain ⟨k, hk⟩ := hG d out h; exact ⟨k, (q_ref08_Of_m k d).trans hk⟩)
def g_ref08_Of (d : Unit × ((Int × Unit) × ((Int × Unit) × ((Int × Unit) × ((Int × Unit) × Unit))))) : Option (Unit × ((Int × (Int × (Int × (Int × (Int × (Int × (Int × (Int × Unit)))))))) × ((Int × Unit) × Unit))) := lim fun k => f_ref08_Of_m (f_ref08_Of_t k) d
theorem ok_ref08_Of : FnOk Try.prog ET0 72 pi_ref08_Of po_ref08_Of g_ref08_Of := go_ref08_Of g_ref08_Of fun d out h => lim_some h

/- horologe/horologeref10.Offset -/
@[reducible] def pi_ref10_Offset : PSh := ⟨[], [.mk true [.v (.sl (.pair (.int .i64) (.int .i64))), .v (.int .i64), .v (.int .i64)], .mk false [.v (.int .i64)]]⟩
@[reducible] def po_ref10_Offset : PSh := ⟨[], [.mk false [.v (.int .i64)], .mk false [.v .bool]]⟩
@[reducible] def TT_ref10_Offset : Type := ((((((List (Int × Int)) × (Int × (Int × Unit))) × Unit) × ((Int × Unit) × (Unit × ((Int × Unit) × ((Bool × Unit) × ((Int × Unit) × Unit)))))) → Option (Unit × ((Int × Unit) × ((Bool × Unit) × Unit)))) × Unit)
@[reducible] def sh_ref10_Offset_4 : PSh := ⟨[.var 41 [.v (.sl (.pair (.int .i64) (.int .i64))), .v (.int .i64), .v (.int .i64)]], [.any, .mk false [.v (.int .i64)], .mk false [.ref 0 0], .any, .any, .any, .mk false [.v (.int .i64)], .mk false [.v .bool], .mk false [.v (.int .i64)], .any, .any, .any, .any, .any, .any, .any, .any, .any, .any, .any, .any, .any, .any, .any, .any, .any, .any, .any, .any, .any, .any, .any]⟩
def f_ref10_Offset_p4 (T : TT_ref10_Offset) (d : (((List (Int × Int)) × (Int × (Int × Unit))) × Unit) × ((Int × Unit) × (Unit × ((Int × Unit) × ((Bool × Unit) × ((Int × Unit) × Unit)))))) : Option (Unit × ((Int × Unit) × ((Bool × Unit) × Unit))) :=
  let x1 : Int := (d.1.1.1.length : Int)
  let x2 : Bool := (decide (d.2.2.2.2.2.1.1 < x1))
  bif x2 then (
  bif decide ((0 : Int) ≤ d.2.2.2.2.2.1.1) && decide (d.2.2.2.2.2.1.1 < (d.1.1.1.length : Int)) then (
  let x3 : Bool := (decide ((gd_i64_i64 d.1.1.1 d.2.2.2.2.2.1.1).1 ≤ d.2.1.1))
  bif x3 then (
  bif decide ((0 : Int) ≤ d.2.2.2.2.2.1.1) && decide (d.2.2.2.2.2.1.1 < (d.1.1.1.length : Int)) then (
  let x4 : Int := (iadd .i64 d.2.2.2.2.2.1.1 (1 : Int))
  (T.1 (((d.1.1.1, (d.1.1.2.1, (d.1.1.2.2.1, ()))), ()), ((d.2.1.1, ()), ((), (((gd_i64_i64 d.1.1.1 d.2.2.2.2.2.1.1).2, ()), ((true, ()), ((x4, ()), ()))))))))
  else none)
  else (
  let x5 : Int := (iadd .i64 d.2.2.2.2.2.1.1 (1 : Int))
  (T.1 (((d.1.1.1, (d.1.1.2.1, (d.1.1.2.2.1, ()))), ()), ((d.2.1.1, ()), ((), ((d.2.2.2.1.1, ()), ((d.2.2.2.2.1.1, ()), ((x5, ()), ())))))))))
  else none)
  else (
  some ((), ((d.2.2.2.1.1, ()), ((d.2.2.2.2.1.1, ()), ()))))
def f_ref10_Offset_t : Nat → TT_ref10_Offset
  | 0 => (fun _ => none, ())
  | k + 1 => (f_ref10_Offset_p4 (f_ref10_Offset_t k), ())
theorem t_ref10_Offset (k : Nat) : f_ref10_Offset_t (k + 1) = (f_ref10_Offset_p4 (f_ref10_Offset_t k), ()) := rfl
def f_ref10_Offset_m (T : TT_ref10_Offset) (d : Unit × (((List (Int × Int)) × (Int × (Int × Unit))) × ((Int × Unit) × Unit))) : Option (Unit × ((Int × Unit) × ((Bool × Unit) × Unit))) :=
  (T.1 (((d.2.1.1, (d.2.1.2.1, (d.2.1.2.2.1, ()))), ()), ((d.2.2.1.1, ()), ((), (((0 : Int), ()), ((false, ()), (((0 : Int), ()), ())))))))
def c_ref10_Offset : List Nat := []
def L_ref10_Offset (k : Nat) : Pts po_ref10_Offset.den := [(4, ⟨sh_ref10_Offset_4, (f_ref10_Offset_t k).1⟩)]
def E_ref10_Offset : Env := E0
theorem q_ref10_Offset_4 (k : Nat) (d : (((List (Int × Int)) × (Int × (Int × Unit))) × Unit) × ((Int × Unit) × (Unit × ((Int × Unit) × ((Bool × Unit) × ((Int × Unit) × Unit)))))) : evAt E_ref10_Offset (tab (L_ref10_Offset k)) c_ref10_Offset 4 (bodyOf Try.f32) 0 (finK E_ref10_Offset po_ref10_Offset [.tmp 4, .tmp 5]) (ptSt sh_ref10_Offset_4 d) = f_ref10_Offset_p4 (f_ref10_Offset_t k) d := by kernel_rfl
theorem q_ref10_Offset_m (k : Nat) (d : Unit × (((List (Int × Int)) × (Int × (Int × Unit))) × ((Int × Unit) × Unit))) : evCode E_ref10_Offset (tab (L_ref10_Offset k)) c_ref10_Offset (bodyOf Try.f32) 0 (finK E_ref10_Offset po_ref10_Offset [.tmp 4, .tmp 5]) (startSt pi_ref10_Offset 32 d) = f_ref10_Offset_m (f_ref10_Offset_t k) d := by kernel_rfl
theorem go_ref10_Offset (G : Unit × (((List (Int × Int)) × (Int × (Int × Unit))) × ((Int × Unit) × Unit)) → Option (Unit × ((Int × Unit) × ((Bool × Unit) × Unit)))) (hG : ∀ d out, G d = some out → ∃ k, f_ref10_Offset_m (f_ref10_Offset_t k) d = some out) : FnOk Try.prog ET0 32 pi_ref10_Offset po_ref10_Offset G :=
  fn_of_body (E := E_ref10_Offset) e0_ok (fn := Try.f32) Try.func32 (by kernel_rfl) (by kernel_rfl) [.tmp 4, .tmp 5] (by kernel_rfl) (by kernel_rfl) (by decide) rfl c_ref10_Offset L_ref10_Offset
    (by intro x hx d; simp only [L_ref10_Offset, List.mem_cons, List.not_mem_nil, or_false] at hx; subst hx; rfl)
    (by intro k x hx d out h; simp only [L_ref10_Offset, List.mem_cons, List.not_mem_nil, or_false] at hx; subst hx; exact (q_ref10_Offset_4 k d).trans h)
    (by intro d out h; obtain ⟨k, hk⟩ := hG d out h; exact ⟨k, (q_ref10_Offset_m k d).trans hk⟩)
def g_ref10_Offset (d : Unit × (((List (Int × Int)) × (Int × (Int × Unit))) × ((Int × Unit) × Unit))) : Option (Unit × ((Int × Unit) × ((Bool × Unit) × Unit))) := lim fun k => f_ref10_Offset_m (f_ref10_Offset_t k) d
theorem ok_ref10_Offset : FnOk Try.prog ET0 32 pi_ref10_Offset po_ref10_Offset g_ref10_Offset := go_ref10_Offset g_ref10_Offset fun d out h => lim_some h

/- horologe/horologeref10.Leap -/
@[reducible] def pi_ref10_Leap : PSh := ⟨[], [.mk true [.v (.sl (.pair (.int .i64) (.int .i64))), .v (.int .i64), .v (.int .i64)], .mk false [.v (.int .i64)]]⟩
@[reducible] def po_ref10_Leap : PSh := ⟨[], [.mk false [.v (.int .i64)]]⟩
@[reducible] def TT_ref10_Leap : Type := ((((((List (Int × Int)) × (Int × (Int × Unit))) × Unit) × ((Int × Unit) × (Unit × ((Int × Unit) × Unit)))) → Option (Unit × ((Int × Unit) × Unit))) × Unit)
@[reducible] def sh_ref10_Leap_3 : PSh := ⟨[.var 41 [.v (.sl (.pair (.int .i64) (.int .i64))), .v (.int .i64), .v (.int .i64)]], [.any, .mk false [.v (.int .i64)], .mk false [.ref 0 0], .any, .any, .mk false [.v (.int .i64)], .any, .any, .any, .any, .any, .any, .any, .any, .any, .any, .any, .any, .any, .any, .any, .any, .any, .any, .any, .any, .any, .any, .any, .any, .any, .any, .any, .any, .any, .any]⟩
def f_ref10_Leap_p3 (T : TT_ref10_Leap) (d : (((List (Int × Int)) × (Int × (Int × Unit))) × Unit) × ((Int × Unit) × (Unit × ((Int × Unit) × Unit)))) : Option (Unit × ((Int × Unit) × Unit)) :=
  let x1 : Int := (d.1.1.1.length : Int)
  let x2 : Bool := (decide (d.2.2.2.1.1 < x1))
  bif x2 then (
  bif decide ((0 : Int) ≤ d.2.2.2.1.1) && decide (d.2.2.2.1.1 < (d.1.1.1.length : Int)) then (
  let x3 : Int := (isub .i64 (gd_i64_i64 d.1.1.1 d.2.2.2.1.1).1 (1 : Int))
  let x4 : Bool := (x3 == d.2.1.1)
  bif x4 then (
  bif decide ((0 : Int) ≤ d.2.2.2.1.1) && decide (d.2.2.2.1.1 < (d.1.1.1.length : Int)) then (
  let x5 : Int := (isub .i64 d.2.2.2.1.1 (1 : Int))
  bif decide ((0 : Int) ≤ x5) && decide (x5 < (d.1.1.1.length : Int)) then (
  let x6 : Int := (isub .i64 (gd_i64_i64 d.1.1.1 d.2.2.2.1.1).2 (gd_i64_i64 d.1.1.1 x5).2)
  some ((), ((x6, ()), ())))
  else none)
  else none)
  else (
  let x7 : Int := (iadd .i64 d.2.2.2.1.1 (1 : Int))
  (T.1 (((d.1.1.1, (d.1.1.2.1, (d.1.1.2.2.1, ()))), ()), ((d.2.1.1, ()), ((), ((x7, ()), ())))))))
  else none)
  else (
  some ((), (((0 : Int), ()), ())))
def f_ref10_Leap_t : Nat → TT_ref10_Leap
  | 0 => (fun _ => none, ())
  | k + 1 => (f_ref10_Leap_p3 (f_ref10_Leap_t k), ())
theorem t_ref10_Leap (k : Nat) : f_ref10_Leap_t (k + 1) = (f_ref10_Leap_p3 (f_ref10_Leap_t k), ()) := rfl
def f_ref10_Leap_m (T : TT_ref10_Leap) (d : Unit × (((List (Int × Int)) × (Int × (Int × Unit))) × ((Int × Unit) × Unit))) : Option (Unit × ((Int × Unit) × Unit)) :=
  (T.1 (((d.2.1.1, (d.2.1.2.1, (d.2.1.2.2.1, ()))), ()), ((d.2.2.1.1, ()), ((), (((1 : Int), ()), ())))))
def c_ref10_Leap : List Nat := []
def L_ref10_Leap (k : Nat) : Pts po_ref10_Leap.den := [(3, ⟨sh_ref10_Leap_3, (f_ref10_Leap_t k).1⟩)]
def E_ref10_Leap : Env := E0
theorem q_ref10_Leap_3 (k : Nat) (d : (((List (Int × Int)) × (Int × (Int × Unit))) × Unit) × ((Int × Unit) × (Unit × ((Int × Unit) × Unit)))) : evAt E_ref10_Leap (tab (L_ref10_Leap k)) c_ref10_Leap 3 (bodyOf Try.f66) 0 (finK E_ref10_Leap po_ref10_Leap [.tmp 4]) (ptSt sh_ref10_Leap_3 d) = f_ref10_Leap_p3 (f_ref10_Leap_t k) d := by kernel_rfl
theorem q_ref10_Leap_m (k : Nat) (d : Unit × (((List (Int × Int)) × (Int × (Int × Unit))) × ((Int × Unit) × Unit))) : evCode E_ref10_Leap (tab (L_ref10_Leap k)) c_ref10_Leap (bodyOf Try.f66) 0 (finK E_ref10_Leap po_ref10_Leap [.tmp 4]) (startSt pi_ref10_Leap 36 d) = f_ref10_Leap_m (f_ref10_Leap_t k) d := by kernel_rfl
theorem go_ref10_Leap (G : Unit × (((List (Int × Int)) × (Int × (Int × Unit))) × ((Int × Unit) × Unit)) → Option (Unit × ((Int × Unit) × Unit))) (hG : ∀ d out, G d = some out → ∃ k, f_ref10_Leap_m (f_ref10_Leap_t k) d = some out) : FnOk Try.prog ET0 66 pi_ref10_Leap po_ref10_Leap G :=
  fn_of_body (E := E_ref10_Leap) e0_ok (fn := Try.f66) Try.func66 (by kernel_rfl) (by kernel_rfl) [.tmp 4] (by kernel_rfl) (by kernel_rfl) (by decide) rfl c_ref10_Leap L_ref10_Leap
    (by intro x hx d; simp only [L_ref10_Leap, List.mem_cons, List.not_mem_nil, or_false] at hx; subst hx; rfl)
    (by intro k x hx d out h; simp only [L_ref10_Leap, List.mem_cons, List.not_mem_nil, or_false] at hx; subst hx; exact (q_ref10_Leap_3 k d).trans h)
    (by intro d out h; obtain ⟨k, hk⟩ := hG d out h; exact ⟨k, (q_ref10_Leap_m k d).trans hk⟩)
def g_ref10_Leap (d : Unit × (((List (Int × Int)) × (Int × (Int × Unit))) × ((Int × Unit) × Unit))) : Option (Unit × ((Int × Unit) × Unit)) := lim fun k => f_ref10_Leap_m (f_ref10_Leap_t k) d
theorem ok_ref10_Leap : FnOk Try.prog ET0 66 pi_ref10_Leap po_ref10_Leap g_ref10_Leap := go_ref10_Leap g_ref10_Leap fun d out h => lim_some h

/- horologe/horologeref10.Check -/
@[reducible] def pi_ref10_Check : PSh := ⟨[], [.mk true [.v (.sl (.pair (.int .i64) (.int .i64))), .v (.int .i64), .v (.int .i64)]]⟩
@[reducible] def po_ref10_Check : PSh := ⟨[], [.mk false [.v (.int .i64)]]⟩
@[reducible] def TT_ref10_Check : Type := ((((((List (Int × Int)) × (Int × (Int × Unit))) × Unit) × (Unit × ((Int × Unit) × Unit))) → Option (Unit × ((Int × Unit) × Unit))) × ((((((List (Int × Int)) × (Int × (Int × Unit))) × Unit) × (Unit × ((Int × Unit) × Unit))) → Option (Unit × ((Int × Unit) × Unit))) × ((((((List (Int × Int)) × (Int × (Int × Unit))) × Unit) × (Unit × ((Int × Unit) × Unit))) → Option (Unit × ((Int × Unit) × Unit))) × Unit)))
@[reducible] def sh_ref10_Check_9 : PSh := ⟨[.var 41 [.v (.sl (.pair (.int .i64) (.int .i64))), .v (.int .i64), .v (.int .i64)]], [.any, .mk false [.ref 0 0], .any, .mk false [.v (.int .i64)], .any, .any, .any, .any, .any, .any, .any, .any, .any, .any, .any, .any, .any, .any, .any, .any, .any, .any, .any, .any, .any, .any, .any, .any, .any, .any, .any, .any, .any, .any, .any, .any, .any, .any, .any, .any, .any, .any, .any, .any, .any, .any, .any, .any, .any, .any, .any, .any, .any, .any, .any, .any, .any, .any, .any, .any, .any, .any, .any, .any, .any, .any, .any, .any, .any, .any, .any, .any, .any, .any, .any, .any, .any, .any, .any, .any, .any, .any, .any, .any, .any, .any, .any, .any, .any, .any, .any, .any, .any, .any, .any, .any, .any, .any, .any, .any, .any, .any, .any, .any, .any, .any, .any, .any, .any, .any, .any, .any, .any, .any, .any, .any, .any, .any, .any, .any, .any, .any, .any, .any, .any, .any, .any, .any, .any, .any, .any, .any, .any, .any, .any, .any]⟩
@[reducible] def sh_ref10_Check_21 : PSh := ⟨[.var 41 [.v (.sl (.pair (.int .i64) (.int .i64))), .v (.int .i64), .v (.int .i64)]], [.any, .mk false [.ref 0 0], .any, .any, .any, .mk false [.v (.int .i64)], .any, .any, .any, .any, .any, .any, .any, .any, .any, .any, .any, .any, .any, .any, .any, .any, .any, .any, .any, .any, .any, .any, .any, .any, .any, .any, .any, .any, .any, .any, .any, .any, .any, .any, .any, .any, .any, .any, .any, .any, .any, .any, .any, .any, .any, .any, .any, .any, .any, .any, .any, .any, .any, .any, .any, .any, .any, .any, .any, .any, .any, .any, .any, .any, .any, .any, .any, .any, .any, .any, .any, .any, .any, .any, .any, .any, .any, .any, .any, .any, .any, .any, .any, .any, .any, .any, .any, .any, .any, .any, .any, .any, .any, .any, .any, .any, .any, .any, .any, .any, .any, .any, .any, .any, .any, .any, .any, .any, .any, .any, .any, .any, .any, .any, .any, .any, .any, .any, .any, .any, .any, .any, .any, .any, .any, .any, .any, .any, .any, .any]⟩
@[reducible] def sh_ref10_Check_30 : PSh := ⟨[.var 41 [.v (.sl (.pair (.int .i64) (.int .i64))), .v (.int .i64), .v (.int .i64)]], [.any, .mk false [.ref 0 0], .any, .any, .any, .any, .any, .any, .any, .mk false [.v (.int .i64)], .any, .any, .any, .any, .any, .any, .any, .any, .any, .any, .any, .any, .any, .any, .any, .any, .any, .any, .any, .any, .any, .any, .any, .any, .any, .any, .any, .any, .any, .any, .any, .any, .any, .any, .any, .any, .any, .any, .any, .any, .any, .any, .any, .any, .any, .any, .any, .any, .any, .any, .any, .any, .any, .any, .any, .any, .any, .any, .any, .any, .any, .any, .any, .any, .any, .any, .any, .any, .any, .any, .any, .any, .any, .any, .any, .any, .any, .any, .any, .any, .any, .any, .any, .any, .any, .any, .any, .any, .any, .any, .any, .any, .any, .any, .any, .any, .any, .any, .any, .any, .any, .any, .any, .any, .any, .any, .any, .any, .any, .any, .any, .any, .any, .any, .any, .any, .any, .any, .any, .any, .any, .any, .any, .any, .any, .any]⟩
def f_ref10_Check_p9 (T : TT_ref10_Check) (d : (((List (Int × Int)) × (Int × (Int × Unit))) × Unit) × (Unit × ((Int × Unit) × Unit))) : Option (Unit × ((Int × Unit) × Unit)) :=
  let x5 : Int := (d.1.1.1.length : Int)
  let x6 : Bool := (decide (d.2.2.1.1 < x5))
  bif x6 then (
  bif decide ((0 : Int) ≤ d.2.2.1.1) && decide (d.2.2.1.1 < (d.1.1.1.length : Int)) then (
  (g_ref05_Start ((), (((1900 : Int), ()), ()))).bind fun x7 =>
  let x8 : Bool := (decide ((gd_i64_i64 d.1.1.1 d.2.2.1.1).1 < x7.2.1.1))
  bif x8 then (
  some ((), (((13 : Int), ()), ())))
  else (
  (g_ref05_Last ((), ())).bind fun x9 =>
  let x10 : Bool := (decide ((gd_i64_i64 d.1.1.1 d.2.2.1.1).1 > x9.2.1.1))
  bif x10 then (
  some ((), (((13 : Int), ()), ())))
  else (
  let x11 : Int := (iadd .i64 d.2.2.1.1 (1 : Int))
  (T.1 (((d.1.1.1, (d.1.1.2.1, (d.1.1.2.2.1, ()))), ()), ((), ((x11, ()), ())))))))
  else none)
  else (
  let x12 : Bool := (decide (d.1.1.2.1 < (0 : Int)))
  bif x12 then (
  some ((), (((1 : Int), ()), ())))
  else (
  let x13 : Bool := (decide (d.1.1.2.1 > (1099511627776 : Int)))
  bif x13 then (
  some ((), (((1 : Int), ()), ())))
  else (
  let x14 : Bool := (decide (d.1.1.2.2.1 < (0 : Int)))
  bif x14 then (
  some ((), (((1 : Int), ()), ())))
  else (
  let x15 : Bool := (decide (d.1.1.2.2.1 > (1099511627776 : Int)))
  bif x15 then (
  some ((), (((1 : Int), ()), ())))
  else (
  (T.2.1 (((d.1.1.1, (d.1.1.2.1, (d.1.1.2.2.1, ()))), ()), ((), (((0 : Int), ()), ())))))))))
def f_ref10_Check_p21 (T : TT_ref10_Check) (d : (((List (Int × Int)) × (Int × (Int × Unit))) × Unit) × (Unit × ((Int × Unit) × Unit))) : Option (Unit × ((Int × Unit) × Unit)) :=
  let x16 : Int := (d.1.1.1.length : Int)
  let x17 : Bool := (decide (d.2.2.1.1 < x16))
  bif x17 then (
  bif decide ((0 : Int) ≤ d.2.2.1.1) && decide (d.2.2.1.1 < (d.1.1.1.length : Int)) then (
  (g_ref05_Date ((), (((gd_i64_i64 d.1.1.1 d.2.2.1.1).1, ()), ()))).bind fun x18 =>
  let x19 : Bool := (x18.2.2.2.1.1 != (1 : Int))
  bif x19 then (
  some ((), (((1 : Int), ()), ())))
  else (
  bif decide ((0 : Int) ≤ d.2.2.1.1) && decide (d.2.2.1.1 < (d.1.1.1.length : Int)) then (
  let x20 : Bool := (decide ((gd_i64_i64 d.1.1.1 d.2.2.1.1).2 < (0 : Int)))
  bif x20 then (
  some ((), (((1 : Int), ()), ())))
  else (
  bif decide ((0 : Int) ≤ d.2.2.1.1) && decide (d.2.2.1.1 < (d.1.1.1.length : Int)) then (
  let x21 : Bool := (decide ((gd_i64_i64 d.1.1.1 d.2.2.1.1).2 > (1000 : Int)))
  bif x21 then (
  some ((), (((1 : Int), ()), ())))
  else (
  let x22 : Int := (iadd .i64 d.2.2.1.1 (1 : Int))
  (T.2.1 (((d.1.1.1, (d.1.1.2.1, (d.1.1.2.2.1, ()))), ()), ((), ((x22, ()), ()))))))
  else none))
  else none))
  else none)
  else (
  (T.2.2.1 (((d.1.1.1, (d.1.1.2.1, (d.1.1.2.2.1, ()))), ()), ((), (((1 : Int), ()), ())))))
def f_ref10_Check_p30 (T : TT_ref10_Check) (d : (((List (Int × Int)) × (Int × (Int × Unit))) × Unit) × (Unit × ((Int × Unit) × Unit))) : Option (Unit × ((Int × Unit) × Unit)) :=
  let x23 : Int := (d.1.1.1.length : Int)
  let x24 : Bool := (decide (d.2.2.1.1 < x23))
  bif x24 then (
  let x25 : Int := (isub .i64 d.2.2.1.1 (1 : Int))
  bif decide ((0 : Int) ≤ x25) && decide (x25 < (d.1.1.1.length : Int)) then (
  bif decide ((0 : Int) ≤ d.2.2.1.1) && decide (d.2.2.1.1 < (d.1.1.1.length : Int)) then (
  let x26 : Bool := (decide ((gd_i64_i64 d.1.1.1 d.2.2.1.1).1 ≤ (gd_i64_i64 d.1.1.1 x25).1))
  bif x26 then (
  some ((), (((6 : Int), ()), ())))
  else (
  let x27 : Int := (iadd .i64 (gd_i64_i64 d.1.1.1 x25).2 (1 : Int))
  let x28 : Bool := ((gd_i64_i64 d.1.1.1 d.2.2.1.1).2 != x27)
  bif x28 then (
  let x29 : Int := (isub .i64 (gd_i64_i64 d.1.1.1 x25).2 (1 : Int))
  let x30 : Bool := ((gd_i64_i64 d.1.1.1 d.2.2.1.1).2 != x29)
  bif x30 then (
  some ((), (((6 : Int), ()), ())))
  else (
  let x31 : Int := (iadd .i64 d.2.2.1.1 (1 : Int))
  (T.2.2.1 (((d.1.1.1, (d.1.1.2.1, (d.1.1.2.2.1, ()))), ()), ((), ((x31, ()), ()))))))
  else (
  let x32 : Int := (iadd .i64 d.2.2.1.1 (1 : Int))
  (T.2.2.1 (((d.1.1.1, (d.1.1.2.1, (d.1.1.2.2.1, ()))), ()), ((), ((x32, ()), ())))))))
  else none)
  else none)
  else (
  some ((), (((0 : Int), ()), ())))
def f_ref10_Check_t : Nat → TT_ref10_Check
  | 0 => (fun _ => none, (fun _ => none, (fun _ => none, ())))
  | k + 1 => (f_ref10_Check_p9 (f_ref10_Check_t k), (f_ref10_Check_p21 (f_ref10_Check_t k), (f_ref10_Check_p30 (f_ref10_Check_t k), ())))
theorem t_ref10_Check (k : Nat) : f_ref10_Check_t (k + 1) = (f_ref10_Check_p9 (f_ref10_Check_t k), (f_ref10_Check_p21 (f_ref10_Check_t k), (f_ref10_Check_p30 (f_ref10_Check_t k), ()))) := rfl
def f_ref10_Check_m (T : TT_ref10_Check) (d : Unit × (((List (Int × Int)) × (Int × (Int × Unit))) × Unit)) : Option (Unit × ((Int × Unit) × Unit)) :=
  let x1 : Int := (d.2.1.1.length : Int)
  let x2 : Bool := (x1 == (0 : Int))
  bif x2 then (
  some ((), (((8 : Int), ()), ())))
  else (
  let x3 : Int := (d.2.1.1.length : Int)
  let x4 : Bool := (decide (x3 > (256 : Int)))
  bif x4 then (
  some ((), (((3 : Int), ()), ())))
  else (
  (T.1 (((d.2.1.1, (d.2.1.2.1, (d.2.1.2.2.1, ()))), ()), ((), (((0 : Int), ()), ()))))))
def c_ref10_Check : List Nat := []
def L_ref10_Check (k : Nat) : Pts po_ref10_Check.den := [(9, ⟨sh_ref10_Check_9, (f_ref10_Check_t k).1⟩), (21, ⟨sh_ref10_Check_21, (f_ref10_Check_t k).2.1⟩), (30, ⟨sh_ref10_Check_30, (f_ref10_Check_t k).2.2.1⟩)]
def E_ref10_Check : Env := (((E0.add 61 (typedSem pi_ref05_Start po_ref05_Start g_ref05_Start)).add 62 (typedSem pi_ref05_Last po_ref05_Last g_ref05_Last)).add 63 (typedSem pi_ref05_Date po_ref05_Date g_ref05_Date))
theorem q_ref10_Check_9 (k : Nat) (d : (((List (Int × Int)) × (Int × (Int × Unit))) × Unit) × (Unit × ((Int × Unit) × Unit))) : evAt E_ref10_Check (tab (L_ref10_Check k)) c_ref10_Check 9 (bodyOf Try.f18) 0 (finK E_ref10_Check po_ref10_Check [.tmp 2]) (ptSt sh_ref10_Check_9 d) = f_ref10_Check_p9 (f_ref10_Check_t k) d := by kernel_rfl
theorem q_ref10_Check_21 (k : Nat) (d : (((List (Int × Int)) × (Int × (Int × Unit))) × Unit) × (Unit × ((Int × Unit) × Unit))) : evAt E_ref10_Check (tab (L_ref10_Check k)) c_ref10_Check 21 (bodyOf Try.f18) 0 (finK E_ref10_Check po_ref10_Check [.tmp 2]) (ptSt sh_ref10_Check_21 d) = f_ref10_Check_p21 (f_ref10_Check_t k) d := by kernel_rfl
theorem q_ref10_Check_30 (k : Nat) (d : (((List (Int × Int)) × (Int × (Int × Unit))) × Unit) × (Unit × ((Int × Unit) × Unit))) : evAt E_ref10_Check (tab (L_ref10_Check k)) c_ref10_Check 30 (bodyOf Try.f18) 0 (finK E_ref10_Check po_ref10_Check [.tmp 2]) (ptSt sh_ref10_Check_30 d) = f_ref10_Check_p30 (f_ref10_Check_t k) d := by kernel_rfl
theorem q_ref10_Check_m (k : Nat) (d : Unit × (((List (Int × Int)) × (Int × (Int × Unit))) × Unit)) : evCode E_ref10_Check (tab (L_ref10_Check k)) c_ref10_Check (bodyOf Try.f18) 0 (finK E_ref10_Check po_ref10_Check [.tmp 2]) (startSt pi_ref10_Check 136 d) = f_ref10_Check_m (f_ref10_Check_t k) d := by kernel_rfl
theorem go_ref10_Check (G : Unit × (((List (Int × Int)) × (Int × (Int × Unit))) × Unit) → Option (Unit × ((Int × Unit) × Unit))) (hG : ∀ d out, G d = some out → ∃ k, f_ref10_Check_m (f_ref10_Check_t k) d = some out) : FnOk Try.prog ET0 18 pi_ref10_Check po_ref10_Check G :=
  fn_of_body (E := E_ref10_Check) (envOk_add (envOk_add (envOk_add e0_ok (typed_ok ok_ref05_Start)) (typed_ok ok_ref05_Last)) (typed_ok ok_ref05_Date)) (fn := Try.f18) Try.func18 (by kernel_rfl) (by kernel_rfl) [.tmp 2] (by kernel_rfl) (by kernel_rfl) (by decide) rfl c_ref10_Check L_ref10_Check
    (by intro x hx d; simp only [L_ref10_Check, List.mem_cons, List.not_mem_nil, or_false] at hx; rcases hx with rfl | rfl | rfl; rfl; rfl; rfl)
    (by intro k x hx d out h; simp only [L_ref10_Check, List.mem_cons, List.not_mem_nil, or_false] at hx; rcases hx with rfl | rfl | rfl; exact (q_ref10_Check_9 k d).trans h; exact (q_ref10_Check_21 k d).trans h; exact (q_ref10_Check_30 k d).trans h)
    (by intro d out h; obtain ⟨k, hk⟩ := hG d out h; exact ⟨k, (q_ref10_Check_m k d).trans hk⟩)
def g_ref10_Check (d : Unit × (((List (Int × Int)) × (Int × (Int × Unit))) × Unit)) : Option (Unit × ((Int × Unit) × Unit)) := lim fun k => f_ref10_Check_m (f_ref10_Check_t k) d
theorem ok_ref10_Check : FnOk Try.prog ET0 18 pi_ref10_Check po_ref10_Check g_ref10_Check := go_ref10_Check g_ref10_Check fun d out h => lim_some h

/- horologe/horologelaw10.Document -/
@[reducible] def pi_law10_Document : PSh := ⟨[], [.mk true [.v (.sl (.pair (.int .i64) (.int .i64))), .v (.int .i64), .v (.int .i64)]]⟩
@[reducible] def po_law10_Document : PSh := ⟨[.row 124 (.pair (.int .i64) (.int .i64))], [.mk true [.osl 0, .v (.int .i64), .v (.int .i64)]]⟩
@[reducible] def TT_law10_Document : Type := (((((Int × (Int × Unit)) × ((List (Int × Int)) × ((Int × (Int × Unit)) × ((List (Int × Int)) × Unit)))) × (Unit × (Unit × (((List (Int × Int)) × Unit) × ((Int × Unit) × ((Int × Unit) × Unit)))))) → Option (((List (Int × Int)) × Unit) × ((Int × (Int × Unit)) × Unit))) × Unit)
@[reducible] def sh_law10_Document_4 : PSh := ⟨[.var 41 [.osl 1, .v (.int .i64), .v (.int .i64)], .row 124 (.pair (.int .i64) (.int .i64)), .var 41 [.osl 3, .v (.int .i64), .v (.int .i64)], .row 124 (.pair (.int .i64) (.int .i64))], [.any, .any, .mk false [.ref 0 0], .mk false [.ref 2 0], .any, .any, .any, .any, .any, .any, .any, .any, .mk false [.v (.sl (.pair (.int .i64) (.int .i64)))], .mk false [.v (.int .i64)], .mk false [.v (.int .i64)], .any, .any, .any, .any, .any, .any, .any, .any, .any, .any, .any, .any, .any, .any, .any]⟩
def f_law10_Document_p4 (T : TT_law10_Document) (d : ((Int × (Int × Unit)) × ((List (Int × Int)) × ((Int × (Int × Unit)) × ((List (Int × Int)) × Unit)))) × (Unit × (Unit × (((List (Int × Int)) × Unit) × ((Int × Unit) × ((Int × Unit) × Unit)))))) : Option (((List (Int × Int)) × Unit) × ((Int × (Int × Unit)) × Unit)) :=
  let x2 : Bool := (decide (d.2.2.2.2.2.1.1 < d.2.2.2.2.1.1))
  bif x2 then (
  bif decide ((0 : Int) ≤ d.2.2.2.2.2.1.1) && decide (d.2.2.2.2.2.1.1 < (d.2.2.2.1.1.length : Int)) then (
  let x3 : (List (Int × Int)) := ([((gd_i64_i64 d.2.2.2.1.1 d.2.2.2.2.2.1.1).1, (gd_i64_i64 d.2.2.2.1.1 d.2.2.2.2.2.1.1).2)] : List (Int × Int))
  bif decide (((d.1.2.2.2.1.length + x3.length) * 16 : Nat) ≤ 140737488355328) && decide (d.1.2.2.2.1.length + x3.length ≤ 9223372036854775807) then (
  let x4 : (List (Int × Int)) := (d.1.2.2.2.1 ++ x3)
  let x5 : Int := (iadd .i64 d.2.2.2.2.2.1.1 (1 : Int))
  (T.1 (((d.1.1.1, (d.1.1.2.1, ())), (d.1.2.1, ((d.1.2.2.1.1, (d.1.2.2.1.2.1, ())), (x4, ())))), ((), ((), ((d.2.2.2.1.1, ()), ((d.2.2.2.2.1.1, ()), ((x5, ()), ()))))))))
  else none)
  else none)
  else (
  some ((d.1.2.2.2.1, ()), ((d.1.2.2.1.1, (d.1.2.2.1.2.1, ())), ())))
def f_law10_Document_t : Nat → TT_law10_Document
  | 0 => (fun _ => none, ())
  | k + 1 => (f_law10_Document_p4 (f_law10_Document_t k), ())
theorem t_law10_Document (k : Nat) : f_law10_Document_t (k + 1) = (f_law10_Document_p4 (f_law10_Document_t k), ()) := rfl
def f_law10_Document_m (T : TT_law10_Document) (d : Unit × (((List (Int × Int)) × (Int × (Int × Unit))) × Unit)) : Option (((List (Int × Int)) × Unit) × ((Int × (Int × Unit)) × Unit)) :=
  let x1 : Int := (d.2.1.1.length : Int)
  (T.1 ((((0 : Int), ((0 : Int), ())), (([] : List (Int × Int)), ((d.2.1.2.1, (d.2.1.2.2.1, ())), (([] : List (Int × Int)), ())))), ((), ((), ((d.2.1.1, ()), ((x1, ()), (((0 : Int), ()), ())))))))
def c_law10_Document : List Nat := []
def L_law10_Document (k : Nat) : Pts po_law10_Document.den := [(4, ⟨sh_law10_Document_4, (f_law10_Document_t k).1⟩)]
def E_law10_Document : Env := E0
theorem q_law10_Document_4 (k : Nat) (d : ((Int × (Int × Unit)) × ((List (Int × Int)) × ((Int × (Int × Unit)) × ((List (Int × Int)) × Unit)))) × (Unit × (Unit × (((List (Int × Int)) × Unit) × ((Int × Unit) × ((Int × Unit) × Unit)))))) : evAt E_law10_Document (tab (L_law10_Document k)) c_law10_Document 4 (bodyOf Try.f60) 0 (finK E_law10_Document po_law10_Document [.cell 2 41]) (ptSt sh_law10_Document_4 d) = f_law10_Document_p4 (f_law10_Document_t k) d := by kernel_rfl
theorem q_law10_Document_m (k : Nat) (d : Unit × (((List (Int × Int)) × (Int × (Int × Unit))) × Unit)) : evCode E_law10_Document (tab (L_law10_Document k)) c_law10_Document (bodyOf Try.f60) 0 (finK E_law10_Document po_law10_Document [.cell 2 41]) (startSt pi_law10_Document 30 d) = f_law10_Document_m (f_law10_Document_t k) d := by kernel_rfl
theorem go_law10_Document (G : Unit × (((List (Int × Int)) × (Int × (Int × Unit))) × Unit) → Option (((List (Int × Int)) × Unit) × ((Int × (Int × Unit)) × Unit))) (hG : ∀ d out, G d = some out → ∃ k, f_law10_Document_m (f_law10_Document_t k) d = some out) : FnOk Try.prog ET0 60 pi_law10_Document po_law10_Document G :=
  fn_of_body (E := E_law10_Document) e0_ok (fn := Try.f60) Try.func60 (by kernel_rfl) (by kernel_rfl) [.cell 2 41] (by kernel_rfl) (by kernel_rfl) (by decide) rfl c_law10_Document L_law10_Document
    (by intro x hx d; simp only [L_law10_Document, List.mem_cons, List.not_mem_nil, or_false] at hx; subst hx; rfl)
    (by intro k x hx d out h; simp only [L_law10_Document, List.mem_cons, List.not_mem_nil, or_false] at hx; subst hx; exact (q_law10_Document_4 k d).trans h)
    (by intro d out h; obtain ⟨k, hk⟩ := hG d out h; exact ⟨k, (q_law10_Document_m k d).trans hk⟩)
def g_law10_Document (d : Unit × (((List (Int × Int)) × (Int × (Int × Unit))) × Unit)) : Option (((List (Int × Int)) × Unit) × ((Int × (Int × Unit)) × Unit)) := lim fun k => f_law10_Document_m (f_law10_Document_t k) d
theorem ok_law10_Document : FnOk Try.prog ET0 60 pi_law10_Document po_law10_Document g_law10_Document := go_law10_Document g_law10_Document fun d out h => lim_some h

/- horologe/horologelaw10.Made -/
@[reducible] def pi_law10_Made : PSh := ⟨[], [.mk true [.v (.sl (.pair (.int .i64) (.int .i64))), .v (.int .i64), .v (.int .i64)]]⟩
@[reducible] def po_law10_Made : PSh := ⟨[.row 124 (.pair (.int .i64) (.int .i64))], [.mk false [.v (.nptr (.pair (.sl (.pair (.int .i64) (.int .i64))) (.pair (.int .i64) (.int .i64))))], .mk true [.osl 0, .v (.int .i64), .v (.int .i64)], .mk false [.v .bool]]⟩
def f_law10_Made_m (T : Unit) (d : Unit × (((List (Int × Int)) × (Int × (Int × Unit))) × Unit)) : Option (((List (Int × Int)) × Unit) × (((Option ((List (Int × Int)) × (Int × Int))) × Unit) × ((Int × (Int × Unit)) × ((Bool × Unit) × Unit)))) :=
  (g_leap_New ((), ((d.2.1.1, ()), ((d.2.1.2.1, ()), ((d.2.1.2.2.1, ()), ()))))).bind fun x1 =>
  (g_law10_Document ((), ((d.2.1.1, (d.2.1.2.1, (d.2.1.2.2.1, ()))), ()))).bind fun x2 =>
  bif x1.2.2.1.1.isNone then (
  let x3 : Bool := (!x1.2.1.1.isNone)
  bif x3 then (
  (g_ref10_Check ((), ((x2.1.1, (x2.2.1.1, (x2.2.1.2.1, ()))), ()))).bind fun x4 =>
  let x5 : Bool := (x4.2.1.1 == (0 : Int))
  some ((x2.1.1, ()), ((x1.2.1.1, ()), ((x2.2.1.1, (x2.2.1.2.1, ())), ((x5, ()), ())))))
  else (
  some ((x2.1.1, ()), ((x1.2.1.1, ()), ((x2.2.1.1, (x2.2.1.2.1, ())), ((false, ()), ()))))))
  else (
  some ((x2.1.1, ()), ((x1.2.1.1, ()), ((x2.2.1.1, (x2.2.1.2.1, ())), ((false, ()), ())))))
def c_law10_Made : List Nat := []
def L_law10_Made (_ : Nat) : Pts po_law10_Made.den := []
def E_law10_Made : Env := (((E0.add 18 (typedSem pi_ref10_Check po_ref10_Check g_ref10_Check)).add 33 (typedSem pi_leap_New po_leap_New g_leap_New)).add 60 (typedSem pi_law10_Document po_law10_Document g_law10_Document))
theorem q_law10_Made_m (k : Nat) (d : Unit × (((List (Int × Int)) × (Int × (Int × Unit))) × Unit)) : evCode E_law10_Made (tab (L_law10_Made k)) c_law10_Made (bodyOf Try.f17) 0 (finK E_law10_Made po_law10_Made [.tmp 2, .cell 3 41, .tmp 4]) (startSt pi_law10_Made 33 d) = f_law10_Made_m () d := by kernel_rfl
def g_law10_Made (d : Unit × (((List (Int × Int)) × (Int × (Int × Unit))) × Unit)) : Option (((List (Int × Int)) × Unit) × (((Option ((List (Int × Int)) × (Int × Int))) × Unit) × ((Int × (Int × Unit)) × ((Bool × Unit) × Unit)))) := f_law10_Made_m () d
theorem ok_law10_Made : FnOk Try.prog ET0 17 pi_law10_Made po_law10_Made g_law10_Made :=
  fn_of_body (E := E_law10_Made) (envOk_add (envOk_add (envOk_add e0_ok (typed_ok ok_ref10_Check)) (typed_ok ok_leap_New)) (typed_ok ok_law10_Document)) (fn := Try.f17) Try.func17 (by kernel_rfl) (by kernel_rfl) [.tmp 2, .cell 3 41, .tmp 4] (by kernel_rfl) (by kernel_rfl) (by decide) rfl c_law10_Made L_law10_Made
    (by intro x hx; cases hx) (by intro k x hx; cases hx) (fun d out h => ⟨0, (q_law10_Made_m 0 d).trans h⟩)

/- horologe/horologeref12.Has -/
@[reducible] def pi_ref12_Has : PSh := ⟨[], [.mk true [.v (.sl (.pair (.int .i64) (.int .i64))), .v (.int .i64), .v (.int .i64)], .mk false [.v (.int .i64)], .mk false [.v (.int .i64)]]⟩
@[reducible] def po_ref12_Has : PSh := ⟨[], [.mk false [.v .bool]]⟩
def f_ref12_Has_m (T : Unit) (d : Unit × (((List (Int × Int)) × (Int × (Int × Unit))) × ((Int × Unit) × ((Int × Unit) × Unit)))) : Option (Unit × ((Bool × Unit) × Unit)) :=
  let x1 : Bool := (decide (d.2.2.2.1.1 ≥ (0 : Int)))
  bif x1 then (
  (g_ref10_Leap ((), ((d.2.1.1, (d.2.1.2.1, (d.2.1.2.2.1, ()))), ((d.2.2.1.1, ()), ())))).bind fun x2 =>
  let x3 : Int := (iadd .i64 (86400 : Int) x2.2.1.1)
  let x4 : Bool := (decide (d.2.2.2.1.1 < x3))
  some ((), ((x4, ()), ())))
  else (
  some ((), ((false, ()), ())))
def c_ref12_Has : List Nat := []
def L_ref12_Has (_ : Nat) : Pts po_ref12_Has.den := []
def E_ref12_Has : Env := (E0.add 66 (typedSem pi_ref10_Leap po_ref10_Leap g_ref10_Leap))
theorem q_ref12_Has_m (k : Nat) (d : Unit × (((List (Int × Int)) × (Int × (Int × Unit))) × ((Int × Unit) × ((Int × Unit) × Unit)))) : evCode E_ref12_Has (tab (L_ref12_Has k)) c_ref12_Has (bodyOf Try.f20) 0 (finK E_ref12_Has po_ref12_Has [.tmp 6]) (startSt pi_ref12_Has 17 d) = f_ref12_Has_m () d := by kernel_rfl
def g_ref12_Has (d : Unit × (((List (Int × Int)) × (Int × (Int × Unit))) × ((Int × Unit) × ((Int × Unit) × Unit)))) : Option (Unit × ((Bool × Unit) × Unit)) := f_ref12_Has_m () d
theorem ok_ref12_Has : FnOk Try.prog ET0 20 pi_ref12_Has po_ref12_Has g_ref12_Has :=
  fn_of_body (E := E_ref12_Has) (envOk_add e0_ok (typed_ok ok_ref10_Leap)) (fn := Try.f20) Try.func20 (by kernel_rfl) (by kernel_rfl) [.tmp 6] (by kernel_rfl) (by kernel_rfl) (by decide) rfl c_ref12_Has L_ref12_Has
    (by intro x hx; cases hx) (by intro k x hx; cases hx) (fun d out h => ⟨0, (q_ref12_Has_m 0 d).trans h⟩)

/- horologe/horologeref12.Of -/
@[reducible] def pi_ref12_Of : PSh := ⟨[], [.mk true [.v (.sl (.pair (.int .i64) (.int .i64))), .v (.int .i64), .v (.int .i64)], .mk false [.v (.int .i64)], .mk false [.v (.int .i64)]]⟩
@[reducible] def po_ref12_Of : PSh := ⟨[], [.mk false [.v (.int .i64)], .mk false [.v (.int .i64)]]⟩
def f_ref12_Of_m (T : Unit) (d : Unit × (((List (Int × Int)) × (Int × (Int × Unit))) × ((Int × Unit) × ((Int × Unit) × Unit)))) : Option (Unit × ((Int × Unit) × ((Int × Unit) × Unit))) :=
  (g_ref10_Offset ((), ((d.2.1.1, (d.2.1.2.1, (d.2.1.2.2.1, ()))), ((d.2.2.1.1, ()), ())))).bind fun x1 =>
  let x2 : Bool := (!x1.2.2.1.1)
  bif x2 then (
  some ((), (((0 : Int), ()), (((8 : Int), ()), ()))))
  else (
  (g_ref12_Has ((), ((d.2.1.1, (d.2.1.2.1, (d.2.1.2.2.1, ()))), ((d.2.2.1.1, ()), ((d.2.2.2.1.1, ()), ()))))).bind fun x3 =>
  let x4 : Bool := (!x3.2.1.1)
  bif x4 then (
  some ((), (((0 : Int), ()), (((12 : Int), ()), ()))))
  else (
  let x5 : Int := (imul .i64 d.2.2.1.1 (86400 : Int))
  let x6 : Int := (iadd .i64 x5 d.2.2.2.1.1)
  let x7 : Int := (iadd .i64 x6 x1.2.1.1)
  some ((), ((x7, ()), (((0 : Int), ()), ())))))
def c_ref12_Of : List Nat := []
def L_ref12_Of (_ : Nat) : Pts po_ref12_Of.den := []
def E_ref12_Of : Env := ((E0.add 20 (typedSem pi_ref12_Has po_ref12_Has g_ref12_Has)).add 32 (typedSem pi_ref10_Offset po_ref10_Offset g_ref10_Offset))
theorem q_ref12_Of_m (k : Nat) (d : Unit × (((List (Int × Int)) × (Int × (Int × Unit))) × ((Int × Unit) × ((Int × Unit) × Unit)))) : evCode E_ref12_Of (tab (L_ref12_Of k)) c_ref12_Of (bodyOf Try.f69) 0 (finK E_ref12_Of po_ref12_Of [.tmp 6, .tmp 7]) (startSt pi_ref12_Of 29 d) = f_ref12_Of_m () d := by kernel_rfl
def g_ref12_Of (d : Unit × (((List (Int × Int)) × (Int × (Int × Unit))) × ((Int × Unit) × ((Int × Unit) × Unit)))) : Option (Unit × ((Int × Unit) × ((Int × Unit) × Unit))) := f_ref12_Of_m () d
theorem ok_ref12_Of : FnOk Try.prog ET0 69 pi_ref12_Of po_ref12_Of g_ref12_Of :=
  fn_of_body (E := E_ref12_Of) (envOk_add (envOk_add e0_ok (typed_ok ok_ref12_Has)) (typed_ok ok_ref10_Offset)) (fn := Try.f69) Try.func69 (by kernel_rfl) (by kernel_rfl) [.tmp 6, .tmp 7] (by kernel_rfl) (by kernel_rfl) (by decide) rfl c_ref12_Of L_ref12_Of
    (by intro x hx; cases hx) (by intro k x hx; cases hx) (fun d out h => ⟨0, (q_ref12_Of_m 0 d).trans h⟩)

/- horologe/horologelaw08.Document -/
@[reducible] def pi_law08_Document : PSh := ⟨[], [.mk true [.v (.int .i64), .v (.int .i64), .v (.int .i64), .v (.int .i64), .v (.int .i64), .v (.int .i64), .v (.int .i64), .v (.int .i64)]]⟩
@[reducible] def po_law08_Document : PSh := ⟨[], [.mk true [.v (.int .i64), .v (.int .i64), .v (.int .i64), .v (.int .i64), .v (.int .i64), .v (.int .i64), .v (.int .i64), .v (.int .i64)]]⟩
def f_law08_Document_m (T : Unit) (d : Unit × ((Int × (Int × (Int × (Int × (Int × (Int × (Int × (Int × Unit)))))))) × Unit)) : Option (Unit × ((Int × (Int × (Int × (Int × (Int × (Int × (Int × (Int × Unit)))))))) × Unit)) :=
  some ((), ((d.2.1.1, (d.2.1.2.1, (d.2.1.2.2.1, (d.2.1.2.2.2.1, (d.2.1.2.2.2.2.1, (d.2.1.2.2.2.2.2.1, (d.2.1.2.2.2.2.2.2.1, (d.2.1.2.2.2.2.2.2.2.1, ())))))))), ()))
def c_law08_Document : List Nat := []
def L_law08_Document (_ : Nat) : Pts po_law08_Document.den := []
def E_law08_Document : Env := E0
theorem q_law08_Document_m (k : Nat) (d : Unit × ((Int × (Int × (Int × (Int × (Int × (Int × (Int × (Int × Unit)))))))) × Unit)) : evCode E_law08_Document (tab (L_law08_Document k)) c_law08_Document (bodyOf Try.f15) 0 (finK E_law08_Document po_law08_Document [.cell 2 35]) (startSt pi_law08_Document 20 d) = f_law08_Document_m () d := by kernel_rfl
def g_law08_Document (d : Unit × ((Int × (Int × (Int × (Int × (Int × (Int × (Int × (Int × Unit)))))))) × Unit)) : Option (Unit × ((Int × (Int × (Int × (Int × (Int × (Int × (Int × (Int × Unit)))))))) × Unit)) := f_law08_Document_m () d
theorem ok_law08_Document : FnOk Try.prog ET0 15 pi_law08_Document po_law08_Document g_law08_Document :=
  fn_of_body (E := E_law08_Document) e0_ok (fn := Try.f15) Try.func15 (by kernel_rfl) (by kernel_rfl) [.cell 2 35] (by kernel_rfl) (by kernel_rfl) (by decide) rfl c_law08_Document L_law08_Document
    (by intro x hx; cases hx) (by intro k x hx; cases hx) (fun d out h => ⟨0, (q_law08_Document_m 0 d).trans h⟩)
end
end Go.Proofs.Ytnielkimpieofaa.Ev
