/- Printed by wip/tools/evgen.py. -/
import Derived.Test.YtddnfappkfiidaaEvE
import Derived.Test.YtddnfappkfiidaaProg
import Derived.KernelRfl
set_option maxRecDepth 100000
set_option maxHeartbeats 2000000
set_option linter.unusedVariables false
namespace Go.Proofs.Ytddnfappkfiidaa.Ev
open Go
noncomputable section
def rows0 : List (TypeId × Row) := [
  (2, ⟨.int .i64, 1, 8, (.int .i64), [AV.val (.int .i64) (0 : Int)], none⟩),
  (3, ⟨.int .i64, 1, 8, (.int .i64), [AV.val (.int .i64) (0 : Int)], none⟩),
  (4, ⟨.bool, 1, 1, .bool, [AV.val .bool false], none⟩),
  (22, ⟨.slice 40, 1, 24, (.sl (.pair (.int .i64) (.int .i64))), [AV.nilS], none⟩),
  (24, ⟨.struct [(0, 1, false), (1, 1, false), (2, 1, false)], 3, 40, (.pair (.sl (.pair (.int .i64) (.int .i64))) (.pair (.int .i64) (.int .i64))), [AV.nilS, AV.val (.int .i64) (0 : Int), AV.val (.int .i64) (0 : Int)], none⟩),
  (26, ⟨.ptr, 1, 8, (.nptr (.pair (.sl (.pair (.int .i64) (.int .i64))) (.pair (.int .i64) (.int .i64)))), [AV.nilP], none⟩),
  (28, ⟨.iface, 1, 16, .err, [AV.val .err (none : Option Int)], none⟩),
  (31, ⟨.slice 44, 1, 24, (.sl (.pair (.int .i64) (.int .i64))), [AV.nilS], none⟩),
  (33, ⟨.struct [(0, 1, false), (1, 1, false), (2, 1, false)], 3, 40, (.pair (.sl (.pair (.int .i64) (.int .i64))) (.pair (.int .i64) (.int .i64))), [AV.nilS, AV.val (.int .i64) (0 : Int), AV.val (.int .i64) (0 : Int)], none⟩),
  (40, ⟨.struct [(0, 1, false), (1, 1, false)], 2, 16, (.pair (.int .i64) (.int .i64)), [AV.val (.int .i64) (0 : Int), AV.val (.int .i64) (0 : Int)], some [.int .i64, .int .i64]⟩),
  (44, ⟨.struct [(0, 1, false), (1, 1, false)], 2, 16, (.pair (.int .i64) (.int .i64)), [AV.val (.int .i64) (0 : Int), AV.val (.int .i64) (0 : Int)], some [.int .i64, .int .i64]⟩),
  (51, ⟨.int .i64, 1, 8, (.int .i64), [AV.val (.int .i64) (0 : Int)], none⟩),
  (79, ⟨.struct [(0, 1, false), (1, 1, false), (2, 1, false)], 3, 40, (.pair (.sl (.pair (.int .i64) (.int .i64))) (.pair (.int .i64) (.int .i64))), [AV.nilS, AV.val (.int .i64) (0 : Int), AV.val (.int .i64) (0 : Int)], none⟩),
  (106, ⟨.int .u64, 1, 8, (.int .u64), [AV.val (.int .u64) (0 : Int)], none⟩),
  (130, ⟨.slice 3, 1, 24, (.sl (.int .i64)), [AV.nilS], none⟩)]
def ET0 : TypeId := 51
def E0 : Env := ⟨rows0, [], ET0, 0, [], [], []⟩
theorem e0_ok : EnvOk Try.prog E0 := envOk_rows (by kernel_rfl) (by kernel_rfl) 0
def gd_i64_i64 (l : List (Int × Int)) (i : Int) : (Int × Int) := gd (.pair (.int .i64) (.int .i64)) l i

/- horologe/day.floor -/
@[reducible] def pi_day_floor : PSh := ⟨[], [.mk false [.v (.int .i64)], .mk false [.v (.int .i64)]]⟩
@[reducible] def po_day_floor : PSh := ⟨[], [.mk false [.v (.int .i64)]]⟩
def f_day_floor_m (T : Unit) (d : Unit × ((Int × Unit) × ((Int × Unit) × Unit))) : Option (Unit × ((Int × Unit) × Unit)) :=
  bif (d.2.2.1.1 == 0) then (
  none)
  else (
  let x1 : Int := (iquo .i64 d.2.1.1 d.2.2.1.1)
  bif (d.2.2.1.1 == 0) then (
  none)
  else (
  let x2 : Int := (Int.tmod d.2.1.1 d.2.2.1.1)
  let x3 : Bool := (decide (x2 < (0 : Int)))
  bif x3 then (
  let x4 : Int := (isub .i64 x1 (1 : Int))
  some ((), ((x4, ()), ())))
  else (
  some ((), ((x1, ()), ())))))
def c_day_floor : List Nat := []
def L_day_floor (_ : Nat) : Pts po_day_floor.den := []
def R_day_floor (_ : Nat) : PtsR po_day_floor.den := []
def E_day_floor : Env := E0
theorem q_day_floor_m (k : Nat) (d : Unit × ((Int × Unit) × ((Int × Unit) × Unit))) : evCode E_day_floor (tb (L_day_floor k) (R_day_floor k)) c_day_floor (bodyOf Try.f88) 0 (finK E_day_floor po_day_floor [.tmp 4]) (startSt pi_day_floor 16 d) = f_day_floor_m () d := by kernel_rfl
def g_day_floor (d : Unit × ((Int × Unit) × ((Int × Unit) × Unit))) : Option (Unit × ((Int × Unit) × Unit)) := f_day_floor_m () d
theorem ok_day_floor : FnOk Try.prog ET0 88 pi_day_floor po_day_floor g_day_floor :=
  fn_of_body (E := E_day_floor) e0_ok (fn := Try.f88) Try.func88 (by kernel_rfl) (by kernel_rfl) [.tmp 4] (by kernel_rfl) (by kernel_rfl) (by decide) rfl c_day_floor L_day_floor R_day_floor
    (by intro x hx; cases hx) (by intro k x hx; cases hx) (by intro x hx; cases hx) (by intro k x hx; cases hx) (fun d out h => ⟨0, (q_day_floor_m 0 d).trans h⟩)

/- horologe/day.number -/
@[reducible] def pi_day_number : PSh := ⟨[], [.mk false [.v (.int .i64)], .mk false [.v (.int .i64)], .mk false [.v (.int .i64)]]⟩
@[reducible] def po_day_number : PSh := ⟨[], [.mk false [.v (.int .i64)]]⟩
def f_day_number_m (T : Unit) (d : Unit × ((Int × Unit) × ((Int × Unit) × ((Int × Unit) × Unit)))) : Option (Unit × ((Int × Unit) × Unit)) :=
  let x1 : Bool := (decide (d.2.2.1.1 ≤ (2 : Int)))
  bif x1 then (
  let x2 : Int := (isub .i64 d.2.1.1 (1 : Int))
  let x3 : Int := (iadd .i64 d.2.2.1.1 (12 : Int))
  (g_day_floor ((), ((x2, ()), (((400 : Int), ()), ())))).bind fun x4 =>
  let x5 : Int := (imul .i64 x4.2.1.1 (400 : Int))
  let x6 : Int := (isub .i64 x2 x5)
  let x7 : Int := (isub .i64 x3 (3 : Int))
  let x8 : Int := (imul .i64 (153 : Int) x7)
  let x9 : Int := (iadd .i64 x8 (2 : Int))
  let x10 : Int := (iquo .i64 x9 (5 : Int))
  let x11 : Int := (iadd .i64 x10 d.2.2.2.1.1)
  let x12 : Int := (isub .i64 x11 (1 : Int))
  let x13 : Int := (imul .i64 x4.2.1.1 (146097 : Int))
  let x14 : Int := (imul .i64 x6 (365 : Int))
  let x15 : Int := (iadd .i64 x13 x14)
  let x16 : Int := (iquo .i64 x6 (4 : Int))
  let x17 : Int := (iadd .i64 x15 x16)
  let x18 : Int := (iquo .i64 x6 (100 : Int))
  let x19 : Int := (isub .i64 x17 x18)
  let x20 : Int := (iadd .i64 x19 x12)
  let x21 : Int := (isub .i64 x20 (719468 : Int))
  some ((), ((x21, ()), ())))
  else (
  (g_day_floor ((), ((d.2.1.1, ()), (((400 : Int), ()), ())))).bind fun x22 =>
  let x23 : Int := (imul .i64 x22.2.1.1 (400 : Int))
  let x24 : Int := (isub .i64 d.2.1.1 x23)
  let x25 : Int := (isub .i64 d.2.2.1.1 (3 : Int))
  let x26 : Int := (imul .i64 (153 : Int) x25)
  let x27 : Int := (iadd .i64 x26 (2 : Int))
  let x28 : Int := (iquo .i64 x27 (5 : Int))
  let x29 : Int := (iadd .i64 x28 d.2.2.2.1.1)
  let x30 : Int := (isub .i64 x29 (1 : Int))
  let x31 : Int := (imul .i64 x22.2.1.1 (146097 : Int))
  let x32 : Int := (imul .i64 x24 (365 : Int))
  let x33 : Int := (iadd .i64 x31 x32)
  let x34 : Int := (iquo .i64 x24 (4 : Int))
  let x35 : Int := (iadd .i64 x33 x34)
  let x36 : Int := (iquo .i64 x24 (100 : Int))
  let x37 : Int := (isub .i64 x35 x36)
  let x38 : Int := (iadd .i64 x37 x30)
  let x39 : Int := (isub .i64 x38 (719468 : Int))
  some ((), ((x39, ()), ())))
def c_day_number : List Nat := []
def L_day_number (_ : Nat) : Pts po_day_number.den := []
def R_day_number (_ : Nat) : PtsR po_day_number.den := []
def E_day_number : Env := (E0.add 88 (typedSem pi_day_floor po_day_floor g_day_floor))
theorem q_day_number_m (k : Nat) (d : Unit × ((Int × Unit) × ((Int × Unit) × ((Int × Unit) × Unit)))) : evCode E_day_number (tb (L_day_number k) (R_day_number k)) c_day_number (bodyOf Try.f112) 0 (finK E_day_number po_day_number [.tmp 6]) (startSt pi_day_number 44 d) = f_day_number_m () d := by kernel_rfl
def g_day_number (d : Unit × ((Int × Unit) × ((Int × Unit) × ((Int × Unit) × Unit)))) : Option (Unit × ((Int × Unit) × Unit)) := f_day_number_m () d
theorem ok_day_number : FnOk Try.prog ET0 112 pi_day_number po_day_number g_day_number :=
  fn_of_body (E := E_day_number) (envOk_add e0_ok (typed_ok ok_day_floor)) (fn := Try.f112) Try.func112 (by kernel_rfl) (by kernel_rfl) [.tmp 6] (by kernel_rfl) (by kernel_rfl) (by decide) rfl c_day_number L_day_number R_day_number
    (by intro x hx; cases hx) (by intro k x hx; cases hx) (by intro x hx; cases hx) (by intro k x hx; cases hx) (fun d out h => ⟨0, (q_day_number_m 0 d).trans h⟩)

/- horologe/day.First -/
@[reducible] def pi_day_First : PSh := ⟨[], []⟩
@[reducible] def po_day_First : PSh := ⟨[], [.mk false [.v (.int .i64)]]⟩
def f_day_First_m (T : Unit) (d : Unit × Unit) : Option (Unit × ((Int × Unit) × Unit)) :=
  (g_day_number ((), (((-9999 : Int), ()), (((1 : Int), ()), (((1 : Int), ()), ()))))).bind fun x1 =>
  some ((), ((x1.2.1.1, ()), ()))
def c_day_First : List Nat := []
def L_day_First (_ : Nat) : Pts po_day_First.den := []
def R_day_First (_ : Nat) : PtsR po_day_First.den := []
def E_day_First : Env := (E0.add 112 (typedSem pi_day_number po_day_number g_day_number))
theorem q_day_First_m (k : Nat) (d : Unit × Unit) : evCode E_day_First (tb (L_day_First k) (R_day_First k)) c_day_First (bodyOf Try.f86) 0 (finK E_day_First po_day_First [.tmp 0]) (startSt pi_day_First 2 d) = f_day_First_m () d := by kernel_rfl
def g_day_First (d : Unit × Unit) : Option (Unit × ((Int × Unit) × Unit)) := f_day_First_m () d
theorem ok_day_First : FnOk Try.prog ET0 86 pi_day_First po_day_First g_day_First :=
  fn_of_body (E := E_day_First) (envOk_add e0_ok (typed_ok ok_day_number)) (fn := Try.f86) Try.func86 (by kernel_rfl) (by kernel_rfl) [.tmp 0] (by kernel_rfl) (by kernel_rfl) (by decide) rfl c_day_First L_day_First R_day_First
    (by intro x hx; cases hx) (by intro k x hx; cases hx) (by intro x hx; cases hx) (by intro k x hx; cases hx) (fun d out h => ⟨0, (q_day_First_m 0 d).trans h⟩)

/- horologe/day.Last -/
@[reducible] def pi_day_Last : PSh := ⟨[], []⟩
@[reducible] def po_day_Last : PSh := ⟨[], [.mk false [.v (.int .i64)]]⟩
def f_day_Last_m (T : Unit) (d : Unit × Unit) : Option (Unit × ((Int × Unit) × Unit)) :=
  (g_day_number ((), (((9999 : Int), ()), (((12 : Int), ()), (((31 : Int), ()), ()))))).bind fun x1 =>
  some ((), ((x1.2.1.1, ()), ()))
def c_day_Last : List Nat := []
def L_day_Last (_ : Nat) : Pts po_day_Last.den := []
def R_day_Last (_ : Nat) : PtsR po_day_Last.den := []
def E_day_Last : Env := (E0.add 112 (typedSem pi_day_number po_day_number g_day_number))
theorem q_day_Last_m (k : Nat) (d : Unit × Unit) : evCode E_day_Last (tb (L_day_Last k) (R_day_Last k)) c_day_Last (bodyOf Try.f87) 0 (finK E_day_Last po_day_Last [.tmp 0]) (startSt pi_day_Last 2 d) = f_day_Last_m () d := by kernel_rfl
def g_day_Last (d : Unit × Unit) : Option (Unit × ((Int × Unit) × Unit)) := f_day_Last_m () d
theorem ok_day_Last : FnOk Try.prog ET0 87 pi_day_Last po_day_Last g_day_Last :=
  fn_of_body (E := E_day_Last) (envOk_add e0_ok (typed_ok ok_day_number)) (fn := Try.f87) Try.func87 (by kernel_rfl) (by kernel_rfl) [.tmp 0] (by kernel_rfl) (by kernel_rfl) (by decide) rfl c_day_Last L_day_Last R_day_Last
    (by intro x hx; cases hx) (by intro k x hx; cases hx) (by intro x hx; cases hx) (by intro k x hx; cases hx) (fun d out h => ⟨0, (q_day_Last_m 0 d).trans h⟩)

/- horologe/day.Date -/
@[reducible] def pi_day_Date : PSh := ⟨[], [.mk false [.v (.int .i64)]]⟩
@[reducible] def po_day_Date : PSh := ⟨[], [.mk false [.v (.int .i64)], .mk false [.v (.int .i64)], .mk false [.v (.int .i64)], .mk false [.v .err]]⟩
def f_day_Date_m (T : Unit) (d : Unit × ((Int × Unit) × Unit)) : Option (Unit × ((Int × Unit) × ((Int × Unit) × ((Int × Unit) × (((Option Int) × Unit) × Unit))))) :=
  (g_day_First ((), ())).bind fun x1 =>
  let x2 : Bool := (decide (d.2.1.1 < x1.2.1.1))
  bif x2 then (
  let x3 : (Option Int) := (some (13 : Int))
  some ((), (((0 : Int), ()), (((0 : Int), ()), (((0 : Int), ()), ((x3, ()), ()))))))
  else (
  (g_day_Last ((), ())).bind fun x4 =>
  let x5 : Bool := (decide (d.2.1.1 > x4.2.1.1))
  bif x5 then (
  let x6 : (Option Int) := (some (13 : Int))
  some ((), (((0 : Int), ()), (((0 : Int), ()), (((0 : Int), ()), ((x6, ()), ()))))))
  else (
  let x7 : Int := (iadd .i64 d.2.1.1 (719468 : Int))
  (g_day_floor ((), ((x7, ()), (((146097 : Int), ()), ())))).bind fun x8 =>
  let x9 : Int := (iadd .i64 d.2.1.1 (719468 : Int))
  let x10 : Int := (imul .i64 x8.2.1.1 (146097 : Int))
  let x11 : Int := (isub .i64 x9 x10)
  let x12 : Int := (iquo .i64 x11 (1460 : Int))
  let x13 : Int := (isub .i64 x11 x12)
  let x14 : Int := (iquo .i64 x11 (36524 : Int))
  let x15 : Int := (iadd .i64 x13 x14)
  let x16 : Int := (iquo .i64 x11 (146096 : Int))
  let x17 : Int := (isub .i64 x15 x16)
  let x18 : Int := (iquo .i64 x17 (365 : Int))
  let x19 : Int := (imul .i64 (365 : Int) x18)
  let x20 : Int := (iquo .i64 x18 (4 : Int))
  let x21 : Int := (iadd .i64 x19 x20)
  let x22 : Int := (iquo .i64 x18 (100 : Int))
  let x23 : Int := (isub .i64 x21 x22)
  let x24 : Int := (isub .i64 x11 x23)
  let x25 : Int := (imul .i64 (5 : Int) x24)
  let x26 : Int := (iadd .i64 x25 (2 : Int))
  let x27 : Int := (iquo .i64 x26 (153 : Int))
  let x28 : Int := (imul .i64 (153 : Int) x27)
  let x29 : Int := (iadd .i64 x28 (2 : Int))
  let x30 : Int := (iquo .i64 x29 (5 : Int))
  let x31 : Int := (isub .i64 x24 x30)
  let x32 : Int := (iadd .i64 x31 (1 : Int))
  let x33 : Int := (imul .i64 x8.2.1.1 (400 : Int))
  let x34 : Int := (iadd .i64 x18 x33)
  let x35 : Int := (iadd .i64 x27 (3 : Int))
  let x36 : Bool := (decide (x35 > (12 : Int)))
  bif x36 then (
  let x37 : Int := (isub .i64 x35 (12 : Int))
  let x38 : Int := (iadd .i64 x34 (1 : Int))
  some ((), ((x38, ()), ((x37, ()), ((x32, ()), (((none : Option Int), ()), ()))))))
  else (
  some ((), ((x34, ()), ((x35, ()), ((x32, ()), (((none : Option Int), ()), ()))))))))
def c_day_Date : List Nat := []
def L_day_Date (_ : Nat) : Pts po_day_Date.den := []
def R_day_Date (_ : Nat) : PtsR po_day_Date.den := []
def E_day_Date : Env := (((E0.add 86 (typedSem pi_day_First po_day_First g_day_First)).add 87 (typedSem pi_day_Last po_day_Last g_day_Last)).add 88 (typedSem pi_day_floor po_day_floor g_day_floor))
theorem q_day_Date_m (k : Nat) (d : Unit × ((Int × Unit) × Unit)) : evCode E_day_Date (tb (L_day_Date k) (R_day_Date k)) c_day_Date (bodyOf Try.f56) 0 (finK E_day_Date po_day_Date [.tmp 2, .tmp 3, .tmp 4, .tmp 5]) (startSt pi_day_Date 77 d) = f_day_Date_m () d := by kernel_rfl
def g_day_Date (d : Unit × ((Int × Unit) × Unit)) : Option (Unit × ((Int × Unit) × ((Int × Unit) × ((Int × Unit) × (((Option Int) × Unit) × Unit))))) := f_day_Date_m () d
theorem ok_day_Date : FnOk Try.prog ET0 56 pi_day_Date po_day_Date g_day_Date :=
  fn_of_body (E := E_day_Date) (envOk_add (envOk_add (envOk_add e0_ok (typed_ok ok_day_First)) (typed_ok ok_day_Last)) (typed_ok ok_day_floor)) (fn := Try.f56) Try.func56 (by kernel_rfl) (by kernel_rfl) [.tmp 2, .tmp 3, .tmp 4, .tmp 5] (by kernel_rfl) (by kernel_rfl) (by decide) rfl c_day_Date L_day_Date R_day_Date
    (by intro x hx; cases hx) (by intro k x hx; cases hx) (by intro x hx; cases hx) (by intro k x hx; cases hx) (fun d out h => ⟨0, (q_day_Date_m 0 d).trans h⟩)

/- (horologe/leap.Row).dated -/
@[reducible] def pi_leap_Row_dated : PSh := ⟨[], [.mk true [.v (.int .i64), .v (.int .i64)]]⟩
@[reducible] def po_leap_Row_dated : PSh := ⟨[], [.mk false [.v .bool]]⟩
def f_leap_Row_dated_m (T : Unit) (d : Unit × ((Int × (Int × Unit)) × Unit)) : Option (Unit × ((Bool × Unit) × Unit)) :=
  (g_day_Date ((), ((d.2.1.1, ()), ()))).bind fun x1 =>
  bif x1.2.2.2.2.1.1.isNone then (
  let x2 : Bool := (decide (x1.2.1.1 ≥ (1900 : Int)))
  some ((), ((x2, ()), ())))
  else (
  some ((), ((false, ()), ())))
def c_leap_Row_dated : List Nat := []
def L_leap_Row_dated (_ : Nat) : Pts po_leap_Row_dated.den := []
def R_leap_Row_dated (_ : Nat) : PtsR po_leap_Row_dated.den := []
def E_leap_Row_dated : Env := (E0.add 56 (typedSem pi_day_Date po_day_Date g_day_Date))
theorem q_leap_Row_dated_m (k : Nat) (d : Unit × ((Int × (Int × Unit)) × Unit)) : evCode E_leap_Row_dated (tb (L_leap_Row_dated k) (R_leap_Row_dated k)) c_leap_Row_dated (bodyOf Try.f28) 0 (finK E_leap_Row_dated po_leap_Row_dated [.tmp 2]) (startSt pi_leap_Row_dated 21 d) = f_leap_Row_dated_m () d := by kernel_rfl
def g_leap_Row_dated (d : Unit × ((Int × (Int × Unit)) × Unit)) : Option (Unit × ((Bool × Unit) × Unit)) := f_leap_Row_dated_m () d
theorem ok_leap_Row_dated : FnOk Try.prog ET0 28 pi_leap_Row_dated po_leap_Row_dated g_leap_Row_dated :=
  fn_of_body (E := E_leap_Row_dated) (envOk_add e0_ok (typed_ok ok_day_Date)) (fn := Try.f28) Try.func28 (by kernel_rfl) (by kernel_rfl) [.tmp 2] (by kernel_rfl) (by kernel_rfl) (by decide) rfl c_leap_Row_dated L_leap_Row_dated R_leap_Row_dated
    (by intro x hx; cases hx) (by intro k x hx; cases hx) (by intro x hx; cases hx) (by intro k x hx; cases hx) (fun d out h => ⟨0, (q_leap_Row_dated_m 0 d).trans h⟩)

/- horologe/leap.New$1 -/
@[reducible] def pi_leap_New_1 : PSh := ⟨[], [.mk true [.v (.int .i64), .v (.int .i64)]]⟩
@[reducible] def po_leap_New_1 : PSh := ⟨[], [.mk false [.v .bool]]⟩
def f_leap_New_1_m (T : Unit) (d : Unit × ((Int × (Int × Unit)) × Unit)) : Option (Unit × ((Bool × Unit) × Unit)) :=
  (g_leap_Row_dated ((), ((d.2.1.1, (d.2.1.2.1, ())), ()))).bind fun x1 =>
  let x2 : Bool := (!x1.2.1.1)
  some ((), ((x2, ()), ()))
def c_leap_New_1 : List Nat := []
def L_leap_New_1 (_ : Nat) : Pts po_leap_New_1.den := []
def R_leap_New_1 (_ : Nat) : PtsR po_leap_New_1.den := []
def E_leap_New_1 : Env := (E0.add 28 (typedSem pi_leap_Row_dated po_leap_Row_dated g_leap_Row_dated))
theorem q_leap_New_1_m (k : Nat) (d : Unit × ((Int × (Int × Unit)) × Unit)) : evCode E_leap_New_1 (tb (L_leap_New_1 k) (R_leap_New_1 k)) c_leap_New_1 (bodyOf Try.f27) 0 (finK E_leap_New_1 po_leap_New_1 [.tmp 2]) (startSt pi_leap_New_1 6 d) = f_leap_New_1_m () d := by kernel_rfl
def g_leap_New_1 (d : Unit × ((Int × (Int × Unit)) × Unit)) : Option (Unit × ((Bool × Unit) × Unit)) := f_leap_New_1_m () d
theorem ok_leap_New_1 : FnOk Try.prog ET0 27 pi_leap_New_1 po_leap_New_1 g_leap_New_1 :=
  fn_of_body (E := E_leap_New_1) (envOk_add e0_ok (typed_ok ok_leap_Row_dated)) (fn := Try.f27) Try.func27 (by kernel_rfl) (by kernel_rfl) [.tmp 2] (by kernel_rfl) (by kernel_rfl) (by decide) rfl c_leap_New_1 L_leap_New_1 R_leap_New_1
    (by intro x hx; cases hx) (by intro k x hx; cases hx) (by intro x hx; cases hx) (by intro k x hx; cases hx) (fun d out h => ⟨0, (q_leap_New_1_m 0 d).trans h⟩)

/- (horologe/leap.Row).may -/
@[reducible] def pi_leap_Row_may : PSh := ⟨[], [.mk true [.v (.int .i64), .v (.int .i64)]]⟩
@[reducible] def po_leap_Row_may : PSh := ⟨[], [.mk false [.v .bool]]⟩
def f_leap_Row_may_m (T : Unit) (d : Unit × ((Int × (Int × Unit)) × Unit)) : Option (Unit × ((Bool × Unit) × Unit)) :=
  (g_day_Date ((), ((d.2.1.1, ()), ()))).bind fun x1 =>
  bif x1.2.2.2.2.1.1.isNone then (
  let x2 : Bool := (x1.2.2.2.1.1 == (1 : Int))
  bif x2 then (
  let x3 : Bool := (decide (d.2.1.2.1 ≥ (0 : Int)))
  bif x3 then (
  let x4 : Bool := (decide (d.2.1.2.1 ≤ (1000 : Int)))
  some ((), ((x4, ()), ())))
  else (
  some ((), ((false, ()), ()))))
  else (
  some ((), ((false, ()), ()))))
  else (
  some ((), ((false, ()), ())))
def c_leap_Row_may : List Nat := []
def L_leap_Row_may (_ : Nat) : Pts po_leap_Row_may.den := []
def R_leap_Row_may (_ : Nat) : PtsR po_leap_Row_may.den := []
def E_leap_Row_may : Env := (E0.add 56 (typedSem pi_day_Date po_day_Date g_day_Date))
theorem q_leap_Row_may_m (k : Nat) (d : Unit × ((Int × (Int × Unit)) × Unit)) : evCode E_leap_Row_may (tb (L_leap_Row_may k) (R_leap_Row_may k)) c_leap_Row_may (bodyOf Try.f30) 0 (finK E_leap_Row_may po_leap_Row_may [.tmp 2]) (startSt pi_leap_Row_may 31 d) = f_leap_Row_may_m () d := by kernel_rfl
def g_leap_Row_may (d : Unit × ((Int × (Int × Unit)) × Unit)) : Option (Unit × ((Bool × Unit) × Unit)) := f_leap_Row_may_m () d
theorem ok_leap_Row_may : FnOk Try.prog ET0 30 pi_leap_Row_may po_leap_Row_may g_leap_Row_may :=
  fn_of_body (E := E_leap_Row_may) (envOk_add e0_ok (typed_ok ok_day_Date)) (fn := Try.f30) Try.func30 (by kernel_rfl) (by kernel_rfl) [.tmp 2] (by kernel_rfl) (by kernel_rfl) (by decide) rfl c_leap_Row_may L_leap_Row_may R_leap_Row_may
    (by intro x hx; cases hx) (by intro k x hx; cases hx) (by intro x hx; cases hx) (by intro k x hx; cases hx) (fun d out h => ⟨0, (q_leap_Row_may_m 0 d).trans h⟩)

/- horologe/leap.New$2 -/
@[reducible] def pi_leap_New_2 : PSh := ⟨[], [.mk true [.v (.int .i64), .v (.int .i64)]]⟩
@[reducible] def po_leap_New_2 : PSh := ⟨[], [.mk false [.v .bool]]⟩
def f_leap_New_2_m (T : Unit) (d : Unit × ((Int × (Int × Unit)) × Unit)) : Option (Unit × ((Bool × Unit) × Unit)) :=
  (g_leap_Row_may ((), ((d.2.1.1, (d.2.1.2.1, ())), ()))).bind fun x1 =>
  let x2 : Bool := (!x1.2.1.1)
  some ((), ((x2, ()), ()))
def c_leap_New_2 : List Nat := []
def L_leap_New_2 (_ : Nat) : Pts po_leap_New_2.den := []
def R_leap_New_2 (_ : Nat) : PtsR po_leap_New_2.den := []
def E_leap_New_2 : Env := (E0.add 30 (typedSem pi_leap_Row_may po_leap_Row_may g_leap_Row_may))
theorem q_leap_New_2_m (k : Nat) (d : Unit × ((Int × (Int × Unit)) × Unit)) : evCode E_leap_New_2 (tb (L_leap_New_2 k) (R_leap_New_2 k)) c_leap_New_2 (bodyOf Try.f29) 0 (finK E_leap_New_2 po_leap_New_2 [.tmp 2]) (startSt pi_leap_New_2 6 d) = f_leap_New_2_m () d := by kernel_rfl
def g_leap_New_2 (d : Unit × ((Int × (Int × Unit)) × Unit)) : Option (Unit × ((Bool × Unit) × Unit)) := f_leap_New_2_m () d
theorem ok_leap_New_2 : FnOk Try.prog ET0 29 pi_leap_New_2 po_leap_New_2 g_leap_New_2 :=
  fn_of_body (E := E_leap_New_2) (envOk_add e0_ok (typed_ok ok_leap_Row_may)) (fn := Try.f29) Try.func29 (by kernel_rfl) (by kernel_rfl) [.tmp 2] (by kernel_rfl) (by kernel_rfl) (by decide) rfl c_leap_New_2 L_leap_New_2 R_leap_New_2
    (by intro x hx; cases hx) (by intro k x hx; cases hx) (by intro x hx; cases hx) (by intro k x hx; cases hx) (fun d out h => ⟨0, (q_leap_New_2_m 0 d).trans h⟩)

/- horologe/leap.time -/
@[reducible] def pi_leap_time : PSh := ⟨[], [.mk false [.v (.int .i64)]]⟩
@[reducible] def po_leap_time : PSh := ⟨[], [.mk false [.v .bool]]⟩
def f_leap_time_m (T : Unit) (d : Unit × ((Int × Unit) × Unit)) : Option (Unit × ((Bool × Unit) × Unit)) :=
  let x1 : Bool := (decide (d.2.1.1 ≥ (0 : Int)))
  bif x1 then (
  let x2 : Bool := (decide (d.2.1.1 ≤ (1099511627776 : Int)))
  some ((), ((x2, ()), ())))
  else (
  some ((), ((false, ()), ())))
def c_leap_time : List Nat := []
def L_leap_time (_ : Nat) : Pts po_leap_time.den := []
def R_leap_time (_ : Nat) : PtsR po_leap_time.den := []
def E_leap_time : Env := E0
theorem q_leap_time_m (k : Nat) (d : Unit × ((Int × Unit) × Unit)) : evCode E_leap_time (tb (L_leap_time k) (R_leap_time k)) c_leap_time (bodyOf Try.f32) 0 (finK E_leap_time po_leap_time [.tmp 2]) (startSt pi_leap_time 9 d) = f_leap_time_m () d := by kernel_rfl
def g_leap_time (d : Unit × ((Int × Unit) × Unit)) : Option (Unit × ((Bool × Unit) × Unit)) := f_leap_time_m () d
theorem ok_leap_time : FnOk Try.prog ET0 32 pi_leap_time po_leap_time g_leap_time :=
  fn_of_body (E := E_leap_time) e0_ok (fn := Try.f32) Try.func32 (by kernel_rfl) (by kernel_rfl) [.tmp 2] (by kernel_rfl) (by kernel_rfl) (by decide) rfl c_leap_time L_leap_time R_leap_time
    (by intro x hx; cases hx) (by intro k x hx; cases hx) (by intro x hx; cases hx) (by intro k x hx; cases hx) (fun d out h => ⟨0, (q_leap_time_m 0 d).trans h⟩)

/- (horologe/leap.Row).follows -/
@[reducible] def pi_leap_Row_follows : PSh := ⟨[], [.mk true [.v (.int .i64), .v (.int .i64)], .mk true [.v (.int .i64), .v (.int .i64)]]⟩
@[reducible] def po_leap_Row_follows : PSh := ⟨[], [.mk false [.v .bool]]⟩
def f_leap_Row_follows_m (T : Unit) (d : Unit × ((Int × (Int × Unit)) × ((Int × (Int × Unit)) × Unit))) : Option (Unit × ((Bool × Unit) × Unit)) :=
  let x1 : Int := (isub .i64 d.2.1.2.1 d.2.2.1.2.1)
  let x2 : Bool := (decide (d.2.1.1 > d.2.2.1.1))
  bif x2 then (
  let x3 : Bool := (x1 == (1 : Int))
  bif x3 then (
  some ((), ((true, ()), ())))
  else (
  let x4 : Bool := (x1 == (-1 : Int))
  some ((), ((x4, ()), ()))))
  else (
  some ((), ((false, ()), ())))
def c_leap_Row_follows : List Nat := []
def L_leap_Row_follows (_ : Nat) : Pts po_leap_Row_follows.den := []
def R_leap_Row_follows (_ : Nat) : PtsR po_leap_Row_follows.den := []
def E_leap_Row_follows : Env := E0
theorem q_leap_Row_follows_m (k : Nat) (d : Unit × ((Int × (Int × Unit)) × ((Int × (Int × Unit)) × Unit))) : evCode E_leap_Row_follows (tb (L_leap_Row_follows k) (R_leap_Row_follows k)) c_leap_Row_follows (bodyOf Try.f58) 0 (finK E_leap_Row_follows po_leap_Row_follows [.tmp 4]) (startSt pi_leap_Row_follows 24 d) = f_leap_Row_follows_m () d := by kernel_rfl
def g_leap_Row_follows (d : Unit × ((Int × (Int × Unit)) × ((Int × (Int × Unit)) × Unit))) : Option (Unit × ((Bool × Unit) × Unit)) := f_leap_Row_follows_m () d
theorem ok_leap_Row_follows : FnOk Try.prog ET0 58 pi_leap_Row_follows po_leap_Row_follows g_leap_Row_follows :=
  fn_of_body (E := E_leap_Row_follows) e0_ok (fn := Try.f58) Try.func58 (by kernel_rfl) (by kernel_rfl) [.tmp 4] (by kernel_rfl) (by kernel_rfl) (by decide) rfl c_leap_Row_follows L_leap_Row_follows R_leap_Row_follows
    (by intro x hx; cases hx) (by intro k x hx; cases hx) (by intro x hx; cases hx) (by intro k x hx; cases hx) (fun d out h => ⟨0, (q_leap_Row_follows_m 0 d).trans h⟩)

/- horologe/leap.rise -/
@[reducible] def pi_leap_rise : PSh := ⟨[], [.mk false [.v (.sl (.pair (.int .i64) (.int .i64)))]]⟩
@[reducible] def po_leap_rise : PSh := ⟨[], [.mk false [.v .bool]]⟩
@[reducible] def TT_leap_rise : Type := (((Unit × (((List (Int × Int)) × Unit) × ((Int × Unit) × Unit))) → Option (Unit × ((Bool × Unit) × Unit))) × Unit)
@[reducible] def sh_leap_rise_3 : PSh := ⟨[], [.mk false [.v (.sl (.pair (.int .i64) (.int .i64)))], .any, .any, .mk false [.v (.int .i64)], .any, .any, .any, .any, .any, .any, .any, .any, .any, .any, .any, .any, .any, .any, .any, .any, .any]⟩
def f_leap_rise_p3 (T : TT_leap_rise) (d : Unit × (((List (Int × Int)) × Unit) × ((Int × Unit) × Unit))) : Option (Unit × ((Bool × Unit) × Unit)) :=
  let x1 : Int := (d.2.1.1.length : Int)
  let x2 : Bool := (decide (d.2.2.1.1 < x1))
  bif x2 then (
  bif decide ((0 : Int) ≤ d.2.2.1.1) && decide (d.2.2.1.1 < (d.2.1.1.length : Int)) then (
  let x3 : Int := (isub .i64 d.2.2.1.1 (1 : Int))
  bif decide ((0 : Int) ≤ x3) && decide (x3 < (d.2.1.1.length : Int)) then (
  (g_leap_Row_follows ((), (((gd_i64_i64 d.2.1.1 d.2.2.1.1).1, ((gd_i64_i64 d.2.1.1 d.2.2.1.1).2, ())), (((gd_i64_i64 d.2.1.1 x3).1, ((gd_i64_i64 d.2.1.1 x3).2, ())), ())))).bind fun x4 =>
  let x5 : Bool := (!x4.2.1.1)
  bif x5 then (
  some ((), ((false, ()), ())))
  else (
  let x6 : Int := (iadd .i64 d.2.2.1.1 (1 : Int))
  (T.1 ((), ((d.2.1.1, ()), ((x6, ()), ()))))))
  else none)
  else none)
  else (
  some ((), ((true, ()), ())))
def f_leap_rise_t : Nat → TT_leap_rise
  | 0 => (fun _ => none, ())
  | k + 1 => (f_leap_rise_p3 (f_leap_rise_t k), ())
theorem t_leap_rise (k : Nat) : f_leap_rise_t (k + 1) = (f_leap_rise_p3 (f_leap_rise_t k), ()) := rfl
def f_leap_rise_m (T : TT_leap_rise) (d : Unit × (((List (Int × Int)) × Unit) × Unit)) : Option (Unit × ((Bool × Unit) × Unit)) :=
  (T.1 ((), ((d.2.1.1, ()), (((1 : Int), ()), ()))))
def c_leap_rise : List Nat := []
def L_leap_rise (k : Nat) : Pts po_leap_rise.den := [(3, ⟨sh_leap_rise_3, (f_leap_rise_t k).1⟩)]
def R_leap_rise (_ : Nat) : PtsR po_leap_rise.den := []
def E_leap_rise : Env := (E0.add 58 (typedSem pi_leap_Row_follows po_leap_Row_follows g_leap_Row_follows))
theorem q_leap_rise_3 (k : Nat) (d : Unit × (((List (Int × Int)) × Unit) × ((Int × Unit) × Unit))) : evAt E_leap_rise (tb (L_leap_rise k) (R_leap_rise k)) c_leap_rise 3 (bodyOf Try.f33) 0 (finK E_leap_rise po_leap_rise [.tmp 2]) (ptSt sh_leap_rise_3 d) = f_leap_rise_p3 (f_leap_rise_t k) d := by kernel_rfl
theorem q_leap_rise_m (k : Nat) (d : Unit × (((List (Int × Int)) × Unit) × Unit)) : evCode E_leap_rise (tb (L_leap_rise k) (R_leap_rise k)) c_leap_rise (bodyOf Try.f33) 0 (finK E_leap_rise po_leap_rise [.tmp 2]) (startSt pi_leap_rise 21 d) = f_leap_rise_m (f_leap_rise_t k) d := by kernel_rfl
theorem go_leap_rise (F : Unit × (((List (Int × Int)) × Unit) × Unit) → Option (Unit × ((Bool × Unit) × Unit))) (hF : ∀ d out, F d = some out → ∃ k, f_leap_rise_m (f_leap_rise_t k) d = some out) : FnOk Try.prog ET0 33 pi_leap_rise po_leap_rise F :=
  fn_of_body (E := E_leap_rise) (envOk_add e0_ok (typed_ok ok_leap_Row_follows)) (fn := Try.f33) Try.func33 (by kernel_rfl) (by kernel_rfl) [.tmp 2] (by kernel_rfl) (by kernel_rfl) (by decide) rfl c_leap_rise L_leap_rise R_leap_rise
    (by intro x hx d; simp only [L_leap_rise, List.mem_cons, List.not_mem_nil, or_false] at hx; subst hx; rfl)
    (by intro k x hx d out h; simp only [L_leap_rise, List.mem_cons, List.not_mem_nil, or_false] at hx; subst hx; exact (q_leap_rise_3 k d).trans h)
    (by intro x hx; cases hx)
    (by intro k x hx; cases hx)
    (by intro d out h; obtain ⟨k, hk⟩ := hF d out h; exact ⟨k, (q_leap_rise_m k d).trans hk⟩)
def g_leap_rise (d : Unit × (((List (Int × Int)) × Unit) × Unit)) : Option (Unit × ((Bool × Unit) × Unit)) := lim fun k => f_leap_rise_m (f_leap_rise_t k) d
theorem ok_leap_rise : FnOk Try.prog ET0 33 pi_leap_rise po_leap_rise g_leap_rise := go_leap_rise g_leap_rise fun d out h => lim_some h

/- slices.Clone[[]horologe/leap.Row,horologe/leap.Row] -/
@[reducible] def pi_slices_Clone_leap_Row_leap_Row : PSh := ⟨[], [.mk false [.v (.sl (.pair (.int .i64) (.int .i64)))]]⟩
@[reducible] def po_slices_Clone_leap_Row_leap_Row : PSh := ⟨[.row 40 (.pair (.int .i64) (.int .i64))], [.mk false [.osl 0]]⟩
def f_slices_Clone_leap_Row_leap_Row_m (T : Unit) (d : Unit × (((List (Int × Int)) × Unit) × Unit)) : Option (((List (Int × Int)) × Unit) × (Unit × Unit)) :=
  bif d.2.1.1.isEmpty then (
  agree (
  some ((([] : List (Int × Int)), ()), ((), ()))) (
  let x1 : (List (Int × Int)) := ([] : List (Int × Int))
  bif decide (((x1.length + d.2.1.1.length) * 16 : Nat) ≤ 140737488355328) && decide (x1.length + d.2.1.1.length ≤ 9223372036854775807) then (
  let x2 : (List (Int × Int)) := (x1 ++ d.2.1.1)
  some ((x2, ()), ((), ())))
  else none))
  else (
  let x3 : (List (Int × Int)) := ([] : List (Int × Int))
  bif decide (((x3.length + d.2.1.1.length) * 16 : Nat) ≤ 140737488355328) && decide (x3.length + d.2.1.1.length ≤ 9223372036854775807) then (
  let x4 : (List (Int × Int)) := (x3 ++ d.2.1.1)
  some ((x4, ()), ((), ())))
  else none)
def c_slices_Clone_leap_Row_leap_Row : List Nat := []
def L_slices_Clone_leap_Row_leap_Row (_ : Nat) : Pts po_slices_Clone_leap_Row_leap_Row.den := []
def R_slices_Clone_leap_Row_leap_Row (_ : Nat) : PtsR po_slices_Clone_leap_Row_leap_Row.den := []
def E_slices_Clone_leap_Row_leap_Row : Env := E0
theorem q_slices_Clone_leap_Row_leap_Row_m (k : Nat) (d : Unit × (((List (Int × Int)) × Unit) × Unit)) : evCode E_slices_Clone_leap_Row_leap_Row (tb (L_slices_Clone_leap_Row_leap_Row k) (R_slices_Clone_leap_Row_leap_Row k)) c_slices_Clone_leap_Row_leap_Row (bodyOf Try.f34) 0 (finK E_slices_Clone_leap_Row_leap_Row po_slices_Clone_leap_Row_leap_Row [.tmp 2]) (startSt pi_slices_Clone_leap_Row_leap_Row 8 d) = f_slices_Clone_leap_Row_leap_Row_m () d := by kernel_rfl
def g_slices_Clone_leap_Row_leap_Row (d : Unit × (((List (Int × Int)) × Unit) × Unit)) : Option (((List (Int × Int)) × Unit) × (Unit × Unit)) := f_slices_Clone_leap_Row_leap_Row_m () d
theorem ok_slices_Clone_leap_Row_leap_Row : FnOk Try.prog ET0 34 pi_slices_Clone_leap_Row_leap_Row po_slices_Clone_leap_Row_leap_Row g_slices_Clone_leap_Row_leap_Row :=
  fn_of_body (E := E_slices_Clone_leap_Row_leap_Row) e0_ok (fn := Try.f34) Try.func34 (by kernel_rfl) (by kernel_rfl) [.tmp 2] (by kernel_rfl) (by kernel_rfl) (by decide) rfl c_slices_Clone_leap_Row_leap_Row L_slices_Clone_leap_Row_leap_Row R_slices_Clone_leap_Row_leap_Row
    (by intro x hx; cases hx) (by intro k x hx; cases hx) (by intro x hx; cases hx) (by intro k x hx; cases hx) (fun d out h => ⟨0, (q_slices_Clone_leap_Row_leap_Row_m 0 d).trans h⟩)

/- slices.IndexFunc[[]horologe/leap.Row,horologe/leap.Row] -/
@[reducible] def pi_slices_IndexFunc_leap_Row_leap_Row_leap_New_1 : PSh := ⟨[], [.mk false [.v (.sl (.pair (.int .i64) (.int .i64)))], .mk false [.fn 27 []]]⟩
@[reducible] def po_slices_IndexFunc_leap_Row_leap_Row_leap_New_1 : PSh := ⟨[], [.mk false [.v (.int .i64)]]⟩
@[reducible] def TT_slices_IndexFunc_leap_Row_leap_Row_leap_New_1 : Type := (((Unit × (((List (Int × Int)) × Unit) × (Unit × ((Int × Unit) × ((Int × Unit) × Unit))))) → Option (Unit × ((Int × Unit) × Unit))) × Unit)
@[reducible] def sh_slices_IndexFunc_leap_Row_leap_Row_leap_New_1_3 : PSh := ⟨[], [.mk false [.v (.sl (.pair (.int .i64) (.int .i64)))], .mk false [.fn 27 []], .any, .any, .any, .any, .any, .mk false [.v (.int .i64)], .mk false [.v (.int .i64)], .any, .any, .any, .any, .any, .any, .any, .any, .any, .any]⟩
def f_slices_IndexFunc_leap_Row_leap_Row_leap_New_1_p3 (T : TT_slices_IndexFunc_leap_Row_leap_Row_leap_New_1) (d : Unit × (((List (Int × Int)) × Unit) × (Unit × ((Int × Unit) × ((Int × Unit) × Unit))))) : Option (Unit × ((Int × Unit) × Unit)) :=
  let x2 : Bool := (decide (d.2.2.2.2.1.1 < d.2.2.2.1.1))
  bif x2 then (
  bif decide ((0 : Int) ≤ d.2.2.2.2.1.1) && decide (d.2.2.2.2.1.1 < (d.2.1.1.length : Int)) then (
  (g_leap_New_1 ((), (((gd_i64_i64 d.2.1.1 d.2.2.2.2.1.1).1, ((gd_i64_i64 d.2.1.1 d.2.2.2.2.1.1).2, ())), ()))).bind fun x3 =>
  bif x3.2.1.1 then (
  some ((), ((d.2.2.2.2.1.1, ()), ())))
  else (
  let x4 : Int := (iadd .i64 d.2.2.2.2.1.1 (1 : Int))
  (T.1 ((), ((d.2.1.1, ()), ((), ((d.2.2.2.1.1, ()), ((x4, ()), ()))))))))
  else none)
  else (
  some ((), (((-1 : Int), ()), ())))
def f_slices_IndexFunc_leap_Row_leap_Row_leap_New_1_t : Nat → TT_slices_IndexFunc_leap_Row_leap_Row_leap_New_1
  | 0 => (fun _ => none, ())
  | k + 1 => (f_slices_IndexFunc_leap_Row_leap_Row_leap_New_1_p3 (f_slices_IndexFunc_leap_Row_leap_Row_leap_New_1_t k), ())
theorem t_slices_IndexFunc_leap_Row_leap_Row_leap_New_1 (k : Nat) : f_slices_IndexFunc_leap_Row_leap_Row_leap_New_1_t (k + 1) = (f_slices_IndexFunc_leap_Row_leap_Row_leap_New_1_p3 (f_slices_IndexFunc_leap_Row_leap_Row_leap_New_1_t k), ()) := rfl
def f_slices_IndexFunc_leap_Row_leap_Row_leap_New_1_m (T : TT_slices_IndexFunc_leap_Row_leap_Row_leap_New_1) (d : Unit × (((List (Int × Int)) × Unit) × (Unit × Unit))) : Option (Unit × ((Int × Unit) × Unit)) :=
  let x1 : Int := (d.2.1.1.length : Int)
  (T.1 ((), ((d.2.1.1, ()), ((), ((x1, ()), (((0 : Int), ()), ()))))))
def c_slices_IndexFunc_leap_Row_leap_Row_leap_New_1 : List Nat := []
def L_slices_IndexFunc_leap_Row_leap_Row_leap_New_1 (k : Nat) : Pts po_slices_IndexFunc_leap_Row_leap_Row_leap_New_1.den := [(3, ⟨sh_slices_IndexFunc_leap_Row_leap_Row_leap_New_1_3, (f_slices_IndexFunc_leap_Row_leap_Row_leap_New_1_t k).1⟩)]
def R_slices_IndexFunc_leap_Row_leap_Row_leap_New_1 (_ : Nat) : PtsR po_slices_IndexFunc_leap_Row_leap_Row_leap_New_1.den := []
def E_slices_IndexFunc_leap_Row_leap_Row_leap_New_1 : Env := (E0.add 27 (typedSem pi_leap_New_1 po_leap_New_1 g_leap_New_1))
theorem q_slices_IndexFunc_leap_Row_leap_Row_leap_New_1_3 (k : Nat) (d : Unit × (((List (Int × Int)) × Unit) × (Unit × ((Int × Unit) × ((Int × Unit) × Unit))))) : evAt E_slices_IndexFunc_leap_Row_leap_Row_leap_New_1 (tb (L_slices_IndexFunc_leap_Row_leap_Row_leap_New_1 k) (R_slices_IndexFunc_leap_Row_leap_Row_leap_New_1 k)) c_slices_IndexFunc_leap_Row_leap_Row_leap_New_1 3 (bodyOf Try.f57) 0 (finK E_slices_IndexFunc_leap_Row_leap_Row_leap_New_1 po_slices_IndexFunc_leap_Row_leap_Row_leap_New_1 [.tmp 4]) (ptSt sh_slices_IndexFunc_leap_Row_leap_Row_leap_New_1_3 d) = f_slices_IndexFunc_leap_Row_leap_Row_leap_New_1_p3 (f_slices_IndexFunc_leap_Row_leap_Row_leap_New_1_t k) d := by kernel_rfl
theorem q_slices_IndexFunc_leap_Row_leap_Row_leap_New_1_m (k : Nat) (d : Unit × (((List (Int × Int)) × Unit) × (Unit × Unit))) : evCode E_slices_IndexFunc_leap_Row_leap_Row_leap_New_1 (tb (L_slices_IndexFunc_leap_Row_leap_Row_leap_New_1 k) (R_slices_IndexFunc_leap_Row_leap_Row_leap_New_1 k)) c_slices_IndexFunc_leap_Row_leap_Row_leap_New_1 (bodyOf Try.f57) 0 (finK E_slices_IndexFunc_leap_Row_leap_Row_leap_New_1 po_slices_IndexFunc_leap_Row_leap_Row_leap_New_1 [.tmp 4]) (startSt pi_slices_IndexFunc_leap_Row_leap_Row_leap_New_1 19 d) = f_slices_IndexFunc_leap_Row_leap_Row_leap_New_1_m (f_slices_IndexFunc_leap_Row_leap_Row_leap_New_1_t k) d := by kernel_rfl
theorem go_slices_IndexFunc_leap_Row_leap_Row_leap_New_1 (F : Unit × (((List (Int × Int)) × Unit) × (Unit × Unit)) → Option (Unit × ((Int × Unit) × Unit))) (hF : ∀ d out, F d = some out → ∃ k, f_slices_IndexFunc_leap_Row_leap_Row_leap_New_1_m (f_slices_IndexFunc_leap_Row_leap_Row_leap_New_1_t k) d = some out) : FnOk Try.prog ET0 57 pi_slices_IndexFunc_leap_Row_leap_Row_leap_New_1 po_slices_IndexFunc_leap_Row_leap_Row_leap_New_1 F :=
  fn_of_body (E := E_slices_IndexFunc_leap_Row_leap_Row_leap_New_1) (envOk_add e0_ok (typed_ok ok_leap_New_1)) (fn := Try.f57) Try.func57 (by kernel_rfl) (by kernel_rfl) [.tmp 4] (by kernel_rfl) (by kernel_rfl) (by decide) rfl c_slices_IndexFunc_leap_Row_leap_Row_leap_New_1 L_slices_IndexFunc_leap_Row_leap_Row_leap_New_1 R_slices_IndexFunc_leap_Row_leap_Row_leap_New_1
    (by intro x hx d; simp only [L_slices_IndexFunc_leap_Row_leap_Row_leap_New_1, List.mem_cons, List.not_mem_nil, or_false] at hx; subst hx; rfl)
    (by intro k x hx d out h; simp only [L_slices_IndexFunc_leap_Row_leap_Row_leap_New_1, List.mem_cons, List.not_mem_nil, or_false] at hx; subst hx; exact (q_slices_IndexFunc_leap_Row_leap_Row_leap_New_1_3 k d).trans h)
    (by intro x hx; cases hx)
    (by intro k x hx; cases hx)
    (by intro d out h; obtain ⟨k, hk⟩ := hF d out h; exact ⟨k, (q_slices_IndexFunc_leap_Row_leap_Row_leap_New_1_m k d).trans hk⟩)
def g_slices_IndexFunc_leap_Row_leap_Row_leap_New_1 (d : Unit × (((List (Int × Int)) × Unit) × (Unit × Unit))) : Option (Unit × ((Int × Unit) × Unit)) := lim fun k => f_slices_IndexFunc_leap_Row_leap_Row_leap_New_1_m (f_slices_IndexFunc_leap_Row_leap_Row_leap_New_1_t k) d
theorem ok_slices_IndexFunc_leap_Row_leap_Row_leap_New_1 : FnOk Try.prog ET0 57 pi_slices_IndexFunc_leap_Row_leap_Row_leap_New_1 po_slices_IndexFunc_leap_Row_leap_Row_leap_New_1 g_slices_IndexFunc_leap_Row_leap_Row_leap_New_1 := go_slices_IndexFunc_leap_Row_leap_Row_leap_New_1 g_slices_IndexFunc_leap_Row_leap_Row_leap_New_1 fun d out h => lim_some h

/- slices.ContainsFunc[[]horologe/leap.Row,horologe/leap.Row] -/
@[reducible] def pi_slices_ContainsFunc_leap_Row_leap_Row_leap_New_1 : PSh := ⟨[], [.mk false [.v (.sl (.pair (.int .i64) (.int .i64)))], .mk false [.fn 27 []]]⟩
@[reducible] def po_slices_ContainsFunc_leap_Row_leap_Row_leap_New_1 : PSh := ⟨[], [.mk false [.v .bool]]⟩
def f_slices_ContainsFunc_leap_Row_leap_Row_leap_New_1_m (T : Unit) (d : Unit × (((List (Int × Int)) × Unit) × (Unit × Unit))) : Option (Unit × ((Bool × Unit) × Unit)) :=
  (g_slices_IndexFunc_leap_Row_leap_Row_leap_New_1 ((), ((d.2.1.1, ()), ((), ())))).bind fun x1 =>
  let x2 : Bool := (decide (x1.2.1.1 ≥ (0 : Int)))
  some ((), ((x2, ()), ()))
def c_slices_ContainsFunc_leap_Row_leap_Row_leap_New_1 : List Nat := []
def L_slices_ContainsFunc_leap_Row_leap_Row_leap_New_1 (_ : Nat) : Pts po_slices_ContainsFunc_leap_Row_leap_Row_leap_New_1.den := []
def R_slices_ContainsFunc_leap_Row_leap_Row_leap_New_1 (_ : Nat) : PtsR po_slices_ContainsFunc_leap_Row_leap_Row_leap_New_1.den := []
def E_slices_ContainsFunc_leap_Row_leap_Row_leap_New_1 : Env := (E0.add 57 (typedSem pi_slices_IndexFunc_leap_Row_leap_Row_leap_New_1 po_slices_IndexFunc_leap_Row_leap_Row_leap_New_1 g_slices_IndexFunc_leap_Row_leap_Row_leap_New_1))
theorem q_slices_ContainsFunc_leap_Row_leap_Row_leap_New_1_m (k : Nat) (d : Unit × (((List (Int × Int)) × Unit) × (Unit × Unit))) : evCode E_slices_ContainsFunc_leap_Row_leap_Row_leap_New_1 (tb (L_slices_ContainsFunc_leap_Row_leap_Row_leap_New_1 k) (R_slices_ContainsFunc_leap_Row_leap_Row_leap_New_1 k)) c_slices_ContainsFunc_leap_Row_leap_Row_leap_New_1 (bodyOf Try.f31) 0 (finK E_slices_ContainsFunc_leap_Row_leap_Row_leap_New_1 po_slices_ContainsFunc_leap_Row_leap_Row_leap_New_1 [.tmp 4]) (startSt pi_slices_ContainsFunc_leap_Row_leap_Row_leap_New_1 9 d) = f_slices_ContainsFunc_leap_Row_leap_Row_leap_New_1_m () d := by kernel_rfl
def g_slices_ContainsFunc_leap_Row_leap_Row_leap_New_1 (d : Unit × (((List (Int × Int)) × Unit) × (Unit × Unit))) : Option (Unit × ((Bool × Unit) × Unit)) := f_slices_ContainsFunc_leap_Row_leap_Row_leap_New_1_m () d
theorem ok_slices_ContainsFunc_leap_Row_leap_Row_leap_New_1 : FnOk Try.prog ET0 31 pi_slices_ContainsFunc_leap_Row_leap_Row_leap_New_1 po_slices_ContainsFunc_leap_Row_leap_Row_leap_New_1 g_slices_ContainsFunc_leap_Row_leap_Row_leap_New_1 :=
  fn_of_body (E := E_slices_ContainsFunc_leap_Row_leap_Row_leap_New_1) (envOk_add e0_ok (typed_ok ok_slices_IndexFunc_leap_Row_leap_Row_leap_New_1)) (fn := Try.f31) Try.func31 (by kernel_rfl) (by kernel_rfl) [.tmp 4] (by kernel_rfl) (by kernel_rfl) (by decide) rfl c_slices_ContainsFunc_leap_Row_leap_Row_leap_New_1 L_slices_ContainsFunc_leap_Row_leap_Row_leap_New_1 R_slices_ContainsFunc_leap_Row_leap_Row_leap_New_1
    (by intro x hx; cases hx) (by intro k x hx; cases hx) (by intro x hx; cases hx) (by intro k x hx; cases hx) (fun d out h => ⟨0, (q_slices_ContainsFunc_leap_Row_leap_Row_leap_New_1_m 0 d).trans h⟩)

/- slices.IndexFunc[[]horologe/leap.Row,horologe/leap.Row] -/
@[reducible] def pi_slices_IndexFunc_leap_Row_leap_Row_leap_New_2 : PSh := ⟨[], [.mk false [.v (.sl (.pair (.int .i64) (.int .i64)))], .mk false [.fn 29 []]]⟩
@[reducible] def po_slices_IndexFunc_leap_Row_leap_Row_leap_New_2 : PSh := ⟨[], [.mk false [.v (.int .i64)]]⟩
@[reducible] def TT_slices_IndexFunc_leap_Row_leap_Row_leap_New_2 : Type := (((Unit × (((List (Int × Int)) × Unit) × (Unit × ((Int × Unit) × ((Int × Unit) × Unit))))) → Option (Unit × ((Int × Unit) × Unit))) × Unit)
@[reducible] def sh_slices_IndexFunc_leap_Row_leap_Row_leap_New_2_3 : PSh := ⟨[], [.mk false [.v (.sl (.pair (.int .i64) (.int .i64)))], .mk false [.fn 29 []], .any, .any, .any, .any, .any, .mk false [.v (.int .i64)], .mk false [.v (.int .i64)], .any, .any, .any, .any, .any, .any, .any, .any, .any, .any]⟩
def f_slices_IndexFunc_leap_Row_leap_Row_leap_New_2_p3 (T : TT_slices_IndexFunc_leap_Row_leap_Row_leap_New_2) (d : Unit × (((List (Int × Int)) × Unit) × (Unit × ((Int × Unit) × ((Int × Unit) × Unit))))) : Option (Unit × ((Int × Unit) × Unit)) :=
  let x2 : Bool := (decide (d.2.2.2.2.1.1 < d.2.2.2.1.1))
  bif x2 then (
  bif decide ((0 : Int) ≤ d.2.2.2.2.1.1) && decide (d.2.2.2.2.1.1 < (d.2.1.1.length : Int)) then (
  (g_leap_New_2 ((), (((gd_i64_i64 d.2.1.1 d.2.2.2.2.1.1).1, ((gd_i64_i64 d.2.1.1 d.2.2.2.2.1.1).2, ())), ()))).bind fun x3 =>
  bif x3.2.1.1 then (
  some ((), ((d.2.2.2.2.1.1, ()), ())))
  else (
  let x4 : Int := (iadd .i64 d.2.2.2.2.1.1 (1 : Int))
  (T.1 ((), ((d.2.1.1, ()), ((), ((d.2.2.2.1.1, ()), ((x4, ()), ()))))))))
  else none)
  else (
  some ((), (((-1 : Int), ()), ())))
def f_slices_IndexFunc_leap_Row_leap_Row_leap_New_2_t : Nat → TT_slices_IndexFunc_leap_Row_leap_Row_leap_New_2
  | 0 => (fun _ => none, ())
  | k + 1 => (f_slices_IndexFunc_leap_Row_leap_Row_leap_New_2_p3 (f_slices_IndexFunc_leap_Row_leap_Row_leap_New_2_t k), ())
theorem t_slices_IndexFunc_leap_Row_leap_Row_leap_New_2 (k : Nat) : f_slices_IndexFunc_leap_Row_leap_Row_leap_New_2_t (k + 1) = (f_slices_IndexFunc_leap_Row_leap_Row_leap_New_2_p3 (f_slices_IndexFunc_leap_Row_leap_Row_leap_New_2_t k), ()) := rfl
def f_slices_IndexFunc_leap_Row_leap_Row_leap_New_2_m (T : TT_slices_IndexFunc_leap_Row_leap_Row_leap_New_2) (d : Unit × (((List (Int × Int)) × Unit) × (Unit × Unit))) : Option (Unit × ((Int × Unit) × Unit)) :=
  let x1 : Int := (d.2.1.1.length : Int)
  (T.1 ((), ((d.2.1.1, ()), ((), ((x1, ()), (((0 : Int), ()), ()))))))
def c_slices_IndexFunc_leap_Row_leap_Row_leap_New_2 : List Nat := []
def L_slices_IndexFunc_leap_Row_leap_Row_leap_New_2 (k : Nat) : Pts po_slices_IndexFunc_leap_Row_leap_Row_leap_New_2.den := [(3, ⟨sh_slices_IndexFunc_leap_Row_leap_Row_leap_New_2_3, (f_slices_IndexFunc_leap_Row_leap_Row_leap_New_2_t k).1⟩)]
def R_slices_IndexFunc_leap_Row_leap_Row_leap_New_2 (_ : Nat) : PtsR po_slices_IndexFunc_leap_Row_leap_Row_leap_New_2.den := []
def E_slices_IndexFunc_leap_Row_leap_Row_leap_New_2 : Env := (E0.add 29 (typedSem pi_leap_New_2 po_leap_New_2 g_leap_New_2))
theorem q_slices_IndexFunc_leap_Row_leap_Row_leap_New_2_3 (k : Nat) (d : Unit × (((List (Int × Int)) × Unit) × (Unit × ((Int × Unit) × ((Int × Unit) × Unit))))) : evAt E_slices_IndexFunc_leap_Row_leap_Row_leap_New_2 (tb (L_slices_IndexFunc_leap_Row_leap_Row_leap_New_2 k) (R_slices_IndexFunc_leap_Row_leap_Row_leap_New_2 k)) c_slices_IndexFunc_leap_Row_leap_Row_leap_New_2 3 (bodyOf Try.f57) 0 (finK E_slices_IndexFunc_leap_Row_leap_Row_leap_New_2 po_slices_IndexFunc_leap_Row_leap_Row_leap_New_2 [.tmp 4]) (ptSt sh_slices_IndexFunc_leap_Row_leap_Row_leap_New_2_3 d) = f_slices_IndexFunc_leap_Row_leap_Row_leap_New_2_p3 (f_slices_IndexFunc_leap_Row_leap_Row_leap_New_2_t k) d := by kernel_rfl
theorem q_slices_IndexFunc_leap_Row_leap_Row_leap_New_2_m (k : Nat) (d : Unit × (((List (Int × Int)) × Unit) × (Unit × Unit))) : evCode E_slices_IndexFunc_leap_Row_leap_Row_leap_New_2 (tb (L_slices_IndexFunc_leap_Row_leap_Row_leap_New_2 k) (R_slices_IndexFunc_leap_Row_leap_Row_leap_New_2 k)) c_slices_IndexFunc_leap_Row_leap_Row_leap_New_2 (bodyOf Try.f57) 0 (finK E_slices_IndexFunc_leap_Row_leap_Row_leap_New_2 po_slices_IndexFunc_leap_Row_leap_Row_leap_New_2 [.tmp 4]) (startSt pi_slices_IndexFunc_leap_Row_leap_Row_leap_New_2 19 d) = f_slices_IndexFunc_leap_Row_leap_Row_leap_New_2_m (f_slices_IndexFunc_leap_Row_leap_Row_leap_New_2_t k) d := by kernel_rfl
theorem go_slices_IndexFunc_leap_Row_leap_Row_leap_New_2 (F : Unit × (((List (Int × Int)) × Unit) × (Unit × Unit)) → Option (Unit × ((Int × Unit) × Unit))) (hF : ∀ d out, F d = some out → ∃ k, f_slices_IndexFunc_leap_Row_leap_Row_leap_New_2_m (f_slices_IndexFunc_leap_Row_leap_Row_leap_New_2_t k) d = some out) : FnOk Try.prog ET0 57 pi_slices_IndexFunc_leap_Row_leap_Row_leap_New_2 po_slices_IndexFunc_leap_Row_leap_Row_leap_New_2 F :=
  fn_of_body (E := E_slices_IndexFunc_leap_Row_leap_Row_leap_New_2) (envOk_add e0_ok (typed_ok ok_leap_New_2)) (fn := Try.f57) Try.func57 (by kernel_rfl) (by kernel_rfl) [.tmp 4] (by kernel_rfl) (by kernel_rfl) (by decide) rfl c_slices_IndexFunc_leap_Row_leap_Row_leap_New_2 L_slices_IndexFunc_leap_Row_leap_Row_leap_New_2 R_slices_IndexFunc_leap_Row_leap_Row_leap_New_2
    (by intro x hx d; simp only [L_slices_IndexFunc_leap_Row_leap_Row_leap_New_2, List.mem_cons, List.not_mem_nil, or_false] at hx; subst hx; rfl)
    (by intro k x hx d out h; simp only [L_slices_IndexFunc_leap_Row_leap_Row_leap_New_2, List.mem_cons, List.not_mem_nil, or_false] at hx; subst hx; exact (q_slices_IndexFunc_leap_Row_leap_Row_leap_New_2_3 k d).trans h)
    (by intro x hx; cases hx)
    (by intro k x hx; cases hx)
    (by intro d out h; obtain ⟨k, hk⟩ := hF d out h; exact ⟨k, (q_slices_IndexFunc_leap_Row_leap_Row_leap_New_2_m k d).trans hk⟩)
def g_slices_IndexFunc_leap_Row_leap_Row_leap_New_2 (d : Unit × (((List (Int × Int)) × Unit) × (Unit × Unit))) : Option (Unit × ((Int × Unit) × Unit)) := lim fun k => f_slices_IndexFunc_leap_Row_leap_Row_leap_New_2_m (f_slices_IndexFunc_leap_Row_leap_Row_leap_New_2_t k) d
theorem ok_slices_IndexFunc_leap_Row_leap_Row_leap_New_2 : FnOk Try.prog ET0 57 pi_slices_IndexFunc_leap_Row_leap_Row_leap_New_2 po_slices_IndexFunc_leap_Row_leap_Row_leap_New_2 g_slices_IndexFunc_leap_Row_leap_Row_leap_New_2 := go_slices_IndexFunc_leap_Row_leap_Row_leap_New_2 g_slices_IndexFunc_leap_Row_leap_Row_leap_New_2 fun d out h => lim_some h

/- slices.ContainsFunc[[]horologe/leap.Row,horologe/leap.Row] -/
@[reducible] def pi_slices_ContainsFunc_leap_Row_leap_Row_leap_New_2 : PSh := ⟨[], [.mk false [.v (.sl (.pair (.int .i64) (.int .i64)))], .mk false [.fn 29 []]]⟩
@[reducible] def po_slices_ContainsFunc_leap_Row_leap_Row_leap_New_2 : PSh := ⟨[], [.mk false [.v .bool]]⟩
def f_slices_ContainsFunc_leap_Row_leap_Row_leap_New_2_m (T : Unit) (d : Unit × (((List (Int × Int)) × Unit) × (Unit × Unit))) : Option (Unit × ((Bool × Unit) × Unit)) :=
  (g_slices_IndexFunc_leap_Row_leap_Row_leap_New_2 ((), ((d.2.1.1, ()), ((), ())))).bind fun x1 =>
  let x2 : Bool := (decide (x1.2.1.1 ≥ (0 : Int)))
  some ((), ((x2, ()), ()))
def c_slices_ContainsFunc_leap_Row_leap_Row_leap_New_2 : List Nat := []
def L_slices_ContainsFunc_leap_Row_leap_Row_leap_New_2 (_ : Nat) : Pts po_slices_ContainsFunc_leap_Row_leap_Row_leap_New_2.den := []
def R_slices_ContainsFunc_leap_Row_leap_Row_leap_New_2 (_ : Nat) : PtsR po_slices_ContainsFunc_leap_Row_leap_Row_leap_New_2.den := []
def E_slices_ContainsFunc_leap_Row_leap_Row_leap_New_2 : Env := (E0.add 57 (typedSem pi_slices_IndexFunc_leap_Row_leap_Row_leap_New_2 po_slices_IndexFunc_leap_Row_leap_Row_leap_New_2 g_slices_IndexFunc_leap_Row_leap_Row_leap_New_2))
theorem q_slices_ContainsFunc_leap_Row_leap_Row_leap_New_2_m (k : Nat) (d : Unit × (((List (Int × Int)) × Unit) × (Unit × Unit))) : evCode E_slices_ContainsFunc_leap_Row_leap_Row_leap_New_2 (tb (L_slices_ContainsFunc_leap_Row_leap_Row_leap_New_2 k) (R_slices_ContainsFunc_leap_Row_leap_Row_leap_New_2 k)) c_slices_ContainsFunc_leap_Row_leap_Row_leap_New_2 (bodyOf Try.f31) 0 (finK E_slices_ContainsFunc_leap_Row_leap_Row_leap_New_2 po_slices_ContainsFunc_leap_Row_leap_Row_leap_New_2 [.tmp 4]) (startSt pi_slices_ContainsFunc_leap_Row_leap_Row_leap_New_2 9 d) = f_slices_ContainsFunc_leap_Row_leap_Row_leap_New_2_m () d := by kernel_rfl
def g_slices_ContainsFunc_leap_Row_leap_Row_leap_New_2 (d : Unit × (((List (Int × Int)) × Unit) × (Unit × Unit))) : Option (Unit × ((Bool × Unit) × Unit)) := f_slices_ContainsFunc_leap_Row_leap_Row_leap_New_2_m () d
theorem ok_slices_ContainsFunc_leap_Row_leap_Row_leap_New_2 : FnOk Try.prog ET0 31 pi_slices_ContainsFunc_leap_Row_leap_Row_leap_New_2 po_slices_ContainsFunc_leap_Row_leap_Row_leap_New_2 g_slices_ContainsFunc_leap_Row_leap_Row_leap_New_2 :=
  fn_of_body (E := E_slices_ContainsFunc_leap_Row_leap_Row_leap_New_2) (envOk_add e0_ok (typed_ok ok_slices_IndexFunc_leap_Row_leap_Row_leap_New_2)) (fn := Try.f31) Try.func31 (by kernel_rfl) (by kernel_rfl) [.tmp 4] (by kernel_rfl) (by kernel_rfl) (by decide) rfl c_slices_ContainsFunc_leap_Row_leap_Row_leap_New_2 L_slices_ContainsFunc_leap_Row_leap_Row_leap_New_2 R_slices_ContainsFunc_leap_Row_leap_Row_leap_New_2
    (by intro x hx; cases hx) (by intro k x hx; cases hx) (by intro x hx; cases hx) (by intro k x hx; cases hx) (fun d out h => ⟨0, (q_slices_ContainsFunc_leap_Row_leap_Row_leap_New_2_m 0 d).trans h⟩)

/- horologe/leap.New -/
@[reducible] def pi_leap_New : PSh := ⟨[], [.mk false [.v (.sl (.pair (.int .i64) (.int .i64)))], .mk false [.v (.int .i64)], .mk false [.v (.int .i64)]]⟩
@[reducible] def po_leap_New : PSh := ⟨[], [.mk false [.v (.nptr (.pair (.sl (.pair (.int .i64) (.int .i64))) (.pair (.int .i64) (.int .i64))))], .mk false [.v .err]]⟩
def f_leap_New_m (T : Unit) (d : Unit × (((List (Int × Int)) × Unit) × ((Int × Unit) × ((Int × Unit) × Unit)))) : Option (Unit × (((Option ((List (Int × Int)) × (Int × Int))) × Unit) × (((Option Int) × Unit) × Unit))) :=
  let x1 : Int := (d.2.1.1.length : Int)
  let x2 : Bool := (x1 == (0 : Int))
  bif x2 then (
  let x3 : (Option Int) := (some (8 : Int))
  some ((), (((none : Option ((List (Int × Int)) × (Int × Int))), ()), ((x3, ()), ()))))
  else (
  let x4 : Int := (d.2.1.1.length : Int)
  let x5 : Bool := (decide (x4 > (256 : Int)))
  bif x5 then (
  let x6 : (Option Int) := (some (3 : Int))
  some ((), (((none : Option ((List (Int × Int)) × (Int × Int))), ()), ((x6, ()), ()))))
  else (
  (g_slices_ContainsFunc_leap_Row_leap_Row_leap_New_1 ((), ((d.2.1.1, ()), ((), ())))).bind fun x7 =>
  bif x7.2.1.1 then (
  let x8 : (Option Int) := (some (13 : Int))
  some ((), (((none : Option ((List (Int × Int)) × (Int × Int))), ()), ((x8, ()), ()))))
  else (
  (g_slices_ContainsFunc_leap_Row_leap_Row_leap_New_2 ((), ((d.2.1.1, ()), ((), ())))).bind fun x9 =>
  bif x9.2.1.1 then (
  let x10 : (Option Int) := (some (1 : Int))
  some ((), (((none : Option ((List (Int × Int)) × (Int × Int))), ()), ((x10, ()), ()))))
  else (
  (g_leap_time ((), ((d.2.2.1.1, ()), ()))).bind fun x11 =>
  let x12 : Bool := (!x11.2.1.1)
  bif x12 then (
  let x13 : (Option Int) := (some (1 : Int))
  some ((), (((none : Option ((List (Int × Int)) × (Int × Int))), ()), ((x13, ()), ()))))
  else (
  (g_leap_time ((), ((d.2.2.2.1.1, ()), ()))).bind fun x14 =>
  let x15 : Bool := (!x14.2.1.1)
  bif x15 then (
  let x16 : (Option Int) := (some (1 : Int))
  some ((), (((none : Option ((List (Int × Int)) × (Int × Int))), ()), ((x16, ()), ()))))
  else (
  (g_leap_rise ((), ((d.2.1.1, ()), ()))).bind fun x17 =>
  let x18 : Bool := (!x17.2.1.1)
  bif x18 then (
  let x19 : (Option Int) := (some (6 : Int))
  some ((), (((none : Option ((List (Int × Int)) × (Int × Int))), ()), ((x19, ()), ()))))
  else (
  (g_slices_Clone_leap_Row_leap_Row ((), ((d.2.1.1, ()), ()))).bind fun x20 =>
  some ((), (((some (x20.1.1, (d.2.2.1.1, d.2.2.2.1.1))), ()), (((none : Option Int), ()), ()))))))))))
def c_leap_New : List Nat := []
def L_leap_New (_ : Nat) : Pts po_leap_New.den := []
def R_leap_New (_ : Nat) : PtsR po_leap_New.den := []
def E_leap_New : Env := ((((E0.add 31 (altSem pi_slices_ContainsFunc_leap_Row_leap_Row_leap_New_1 (typedSem pi_slices_ContainsFunc_leap_Row_leap_Row_leap_New_1 po_slices_ContainsFunc_leap_Row_leap_Row_leap_New_1 g_slices_ContainsFunc_leap_Row_leap_Row_leap_New_1) (typedSem pi_slices_ContainsFunc_leap_Row_leap_Row_leap_New_2 po_slices_ContainsFunc_leap_Row_leap_Row_leap_New_2 g_slices_ContainsFunc_leap_Row_leap_Row_leap_New_2))).add 32 (typedSem pi_leap_time po_leap_time g_leap_time)).add 33 (typedSem pi_leap_rise po_leap_rise g_leap_rise)).add 34 (typedSem pi_slices_Clone_leap_Row_leap_Row po_slices_Clone_leap_Row_leap_Row g_slices_Clone_leap_Row_leap_Row))
theorem q_leap_New_m (k : Nat) (d : Unit × (((List (Int × Int)) × Unit) × ((Int × Unit) × ((Int × Unit) × Unit)))) : evCode E_leap_New (tb (L_leap_New k) (R_leap_New k)) c_leap_New (bodyOf Try.f6) 0 (finK E_leap_New po_leap_New [.tmp 6, .tmp 7]) (startSt pi_leap_New 51 d) = f_leap_New_m () d := by kernel_rfl
def g_leap_New (d : Unit × (((List (Int × Int)) × Unit) × ((Int × Unit) × ((Int × Unit) × Unit)))) : Option (Unit × (((Option ((List (Int × Int)) × (Int × Int))) × Unit) × (((Option Int) × Unit) × Unit))) := f_leap_New_m () d
theorem ok_leap_New : FnOk Try.prog ET0 6 pi_leap_New po_leap_New g_leap_New :=
  fn_of_body (E := E_leap_New) (envOk_add (envOk_add (envOk_add (envOk_add e0_ok (alt_ok (typed_ok ok_slices_ContainsFunc_leap_Row_leap_Row_leap_New_1) (typed_ok ok_slices_ContainsFunc_leap_Row_leap_Row_leap_New_2))) (typed_ok ok_leap_time)) (typed_ok ok_leap_rise)) (typed_ok ok_slices_Clone_leap_Row_leap_Row)) (fn := Try.f6) Try.func6 (by kernel_rfl) (by kernel_rfl) [.tmp 6, .tmp 7] (by kernel_rfl) (by kernel_rfl) (by decide) rfl c_leap_New L_leap_New R_leap_New
    (by intro x hx; cases hx) (by intro k x hx; cases hx) (by intro x hx; cases hx) (by intro k x hx; cases hx) (fun d out h => ⟨0, (q_leap_New_m 0 d).trans h⟩)

/- (*horologe/leap.Table).list -/
@[reducible] def pi_leap_Table_list : PSh := ⟨[], [.mk false [.v (.nptr (.pair (.sl (.pair (.int .i64) (.int .i64))) (.pair (.int .i64) (.int .i64))))]]⟩
@[reducible] def po_leap_Table_list : PSh := ⟨[], [.mk false [.v (.sl (.pair (.int .i64) (.int .i64)))]]⟩
def f_leap_Table_list_m (T : Unit) (d : Unit × (((Option ((List (Int × Int)) × (Int × Int))) × Unit) × Unit)) : Option (Unit × (((List (Int × Int)) × Unit) × Unit)) :=
  bif d.2.1.1.isNone then (
  some ((), ((([] : List (Int × Int)), ()), ())))
  else (
  d.2.1.1.bind fun x1 =>
  some ((), ((x1.1, ()), ())))
def c_leap_Table_list : List Nat := []
def L_leap_Table_list (_ : Nat) : Pts po_leap_Table_list.den := []
def R_leap_Table_list (_ : Nat) : PtsR po_leap_Table_list.den := []
def E_leap_Table_list : Env := E0
theorem q_leap_Table_list_m (k : Nat) (d : Unit × (((Option ((List (Int × Int)) × (Int × Int))) × Unit) × Unit)) : evCode E_leap_Table_list (tb (L_leap_Table_list k) (R_leap_Table_list k)) c_leap_Table_list (bodyOf Try.f41) 0 (finK E_leap_Table_list po_leap_Table_list [.tmp 2]) (startSt pi_leap_Table_list 9 d) = f_leap_Table_list_m () d := by kernel_rfl
def g_leap_Table_list (d : Unit × (((Option ((List (Int × Int)) × (Int × Int))) × Unit) × Unit)) : Option (Unit × (((List (Int × Int)) × Unit) × Unit)) := f_leap_Table_list_m () d
theorem ok_leap_Table_list : FnOk Try.prog ET0 41 pi_leap_Table_list po_leap_Table_list g_leap_Table_list :=
  fn_of_body (E := E_leap_Table_list) e0_ok (fn := Try.f41) Try.func41 (by kernel_rfl) (by kernel_rfl) [.tmp 2] (by kernel_rfl) (by kernel_rfl) (by decide) rfl c_leap_Table_list L_leap_Table_list R_leap_Table_list
    (by intro x hx; cases hx) (by intro k x hx; cases hx) (by intro x hx; cases hx) (by intro k x hx; cases hx) (fun d out h => ⟨0, (q_leap_Table_list_m 0 d).trans h⟩)

/- (*horologe/leap.Table).Len -/
@[reducible] def pi_leap_Table_Len : PSh := ⟨[], [.mk false [.v (.nptr (.pair (.sl (.pair (.int .i64) (.int .i64))) (.pair (.int .i64) (.int .i64))))]]⟩
@[reducible] def po_leap_Table_Len : PSh := ⟨[], [.mk false [.v (.int .i64)]]⟩
def f_leap_Table_Len_m (T : Unit) (d : Unit × (((Option ((List (Int × Int)) × (Int × Int))) × Unit) × Unit)) : Option (Unit × ((Int × Unit) × Unit)) :=
  (g_leap_Table_list ((), ((d.2.1.1, ()), ()))).bind fun x1 =>
  let x2 : Int := (x1.2.1.1.length : Int)
  some ((), ((x2, ()), ()))
def c_leap_Table_Len : List Nat := []
def L_leap_Table_Len (_ : Nat) : Pts po_leap_Table_Len.den := []
def R_leap_Table_Len (_ : Nat) : PtsR po_leap_Table_Len.den := []
def E_leap_Table_Len : Env := (E0.add 41 (typedSem pi_leap_Table_list po_leap_Table_list g_leap_Table_list))
theorem q_leap_Table_Len_m (k : Nat) (d : Unit × (((Option ((List (Int × Int)) × (Int × Int))) × Unit) × Unit)) : evCode E_leap_Table_Len (tb (L_leap_Table_Len k) (R_leap_Table_Len k)) c_leap_Table_Len (bodyOf Try.f11) 0 (finK E_leap_Table_Len po_leap_Table_Len [.tmp 2]) (startSt pi_leap_Table_Len 6 d) = f_leap_Table_Len_m () d := by kernel_rfl
def g_leap_Table_Len (d : Unit × (((Option ((List (Int × Int)) × (Int × Int))) × Unit) × Unit)) : Option (Unit × ((Int × Unit) × Unit)) := f_leap_Table_Len_m () d
theorem ok_leap_Table_Len : FnOk Try.prog ET0 11 pi_leap_Table_Len po_leap_Table_Len g_leap_Table_Len :=
  fn_of_body (E := E_leap_Table_Len) (envOk_add e0_ok (typed_ok ok_leap_Table_list)) (fn := Try.f11) Try.func11 (by kernel_rfl) (by kernel_rfl) [.tmp 2] (by kernel_rfl) (by kernel_rfl) (by decide) rfl c_leap_Table_Len L_leap_Table_Len R_leap_Table_Len
    (by intro x hx; cases hx) (by intro k x hx; cases hx) (by intro x hx; cases hx) (by intro k x hx; cases hx) (fun d out h => ⟨0, (q_leap_Table_Len_m 0 d).trans h⟩)

/- (*horologe/leap.Table).Row -/
@[reducible] def pi_leap_Table_Row : PSh := ⟨[], [.mk false [.v (.nptr (.pair (.sl (.pair (.int .i64) (.int .i64))) (.pair (.int .i64) (.int .i64))))], .mk false [.v (.int .i64)]]⟩
@[reducible] def po_leap_Table_Row : PSh := ⟨[], [.mk true [.v (.int .i64), .v (.int .i64)], .mk false [.v .bool]]⟩
def f_leap_Table_Row_m (T : Unit) (d : Unit × (((Option ((List (Int × Int)) × (Int × Int))) × Unit) × ((Int × Unit) × Unit))) : Option (Unit × ((Int × (Int × Unit)) × ((Bool × Unit) × Unit))) :=
  let x1 : Bool := (decide (d.2.2.1.1 < (0 : Int)))
  bif x1 then (
  some ((), (((0 : Int), ((0 : Int), ())), ((false, ()), ()))))
  else (
  (g_leap_Table_Len ((), ((d.2.1.1, ()), ()))).bind fun x2 =>
  let x3 : Bool := (decide (d.2.2.1.1 ≥ x2.2.1.1))
  bif x3 then (
  some ((), (((0 : Int), ((0 : Int), ())), ((false, ()), ()))))
  else (
  d.2.1.1.bind fun x4 =>
  bif decide ((0 : Int) ≤ d.2.2.1.1) && decide (d.2.2.1.1 < (x4.1.length : Int)) then (
  some ((), (((gd_i64_i64 x4.1 d.2.2.1.1).1, ((gd_i64_i64 x4.1 d.2.2.1.1).2, ())), ((true, ()), ()))))
  else none))
def c_leap_Table_Row : List Nat := []
def L_leap_Table_Row (_ : Nat) : Pts po_leap_Table_Row.den := []
def R_leap_Table_Row (_ : Nat) : PtsR po_leap_Table_Row.den := []
def E_leap_Table_Row : Env := (E0.add 11 (typedSem pi_leap_Table_Len po_leap_Table_Len g_leap_Table_Len))
theorem q_leap_Table_Row_m (k : Nat) (d : Unit × (((Option ((List (Int × Int)) × (Int × Int))) × Unit) × ((Int × Unit) × Unit))) : evCode E_leap_Table_Row (tb (L_leap_Table_Row k) (R_leap_Table_Row k)) c_leap_Table_Row (bodyOf Try.f13) 0 (finK E_leap_Table_Row po_leap_Table_Row [.cell 4 40, .tmp 5]) (startSt pi_leap_Table_Row 22 d) = f_leap_Table_Row_m () d := by kernel_rfl
def g_leap_Table_Row (d : Unit × (((Option ((List (Int × Int)) × (Int × Int))) × Unit) × ((Int × Unit) × Unit))) : Option (Unit × ((Int × (Int × Unit)) × ((Bool × Unit) × Unit))) := f_leap_Table_Row_m () d
theorem ok_leap_Table_Row : FnOk Try.prog ET0 13 pi_leap_Table_Row po_leap_Table_Row g_leap_Table_Row :=
  fn_of_body (E := E_leap_Table_Row) (envOk_add e0_ok (typed_ok ok_leap_Table_Len)) (fn := Try.f13) Try.func13 (by kernel_rfl) (by kernel_rfl) [.cell 4 40, .tmp 5] (by kernel_rfl) (by kernel_rfl) (by decide) rfl c_leap_Table_Row L_leap_Table_Row R_leap_Table_Row
    (by intro x hx; cases hx) (by intro k x hx; cases hx) (by intro x hx; cases hx) (by intro k x hx; cases hx) (fun d out h => ⟨0, (q_leap_Table_Row_m 0 d).trans h⟩)

/- (*horologe/leap.Table).behind$1 -/
@[reducible] def pi_leap_Table_behind_1 : PSh := ⟨[], [.mk true [.v (.int .i64), .v (.int .i64)], .mk false [.v (.int .i64)]]⟩
@[reducible] def po_leap_Table_behind_1 : PSh := ⟨[], [.mk false [.v (.int .i64)]]⟩
def f_leap_Table_behind_1_m (T : Unit) (d : Unit × ((Int × (Int × Unit)) × ((Int × Unit) × Unit))) : Option (Unit × ((Int × Unit) × Unit)) :=
  let x1 : Bool := (decide (d.2.1.1 < d.2.2.1.1))
  bif x1 then (
  some ((), (((-1 : Int), ()), ())))
  else (
  let x2 : Bool := (decide (d.2.1.1 > d.2.2.1.1))
  bif x2 then (
  some ((), (((1 : Int), ()), ())))
  else (
  some ((), (((0 : Int), ()), ()))))
def c_leap_Table_behind_1 : List Nat := []
def L_leap_Table_behind_1 (_ : Nat) : Pts po_leap_Table_behind_1.den := []
def R_leap_Table_behind_1 (_ : Nat) : PtsR po_leap_Table_behind_1.den := []
def E_leap_Table_behind_1 : Env := E0
theorem q_leap_Table_behind_1_m (k : Nat) (d : Unit × ((Int × (Int × Unit)) × ((Int × Unit) × Unit))) : evCode E_leap_Table_behind_1 (tb (L_leap_Table_behind_1 k) (R_leap_Table_behind_1 k)) c_leap_Table_behind_1 (bodyOf Try.f111) 0 (finK E_leap_Table_behind_1 po_leap_Table_behind_1 [.tmp 4]) (startSt pi_leap_Table_behind_1 15 d) = f_leap_Table_behind_1_m () d := by kernel_rfl
def g_leap_Table_behind_1 (d : Unit × ((Int × (Int × Unit)) × ((Int × Unit) × Unit))) : Option (Unit × ((Int × Unit) × Unit)) := f_leap_Table_behind_1_m () d
theorem ok_leap_Table_behind_1 : FnOk Try.prog ET0 111 pi_leap_Table_behind_1 po_leap_Table_behind_1 g_leap_Table_behind_1 :=
  fn_of_body (E := E_leap_Table_behind_1) e0_ok (fn := Try.f111) Try.func111 (by kernel_rfl) (by kernel_rfl) [.tmp 4] (by kernel_rfl) (by kernel_rfl) (by decide) rfl c_leap_Table_behind_1 L_leap_Table_behind_1 R_leap_Table_behind_1
    (by intro x hx; cases hx) (by intro k x hx; cases hx) (by intro x hx; cases hx) (by intro k x hx; cases hx) (fun d out h => ⟨0, (q_leap_Table_behind_1_m 0 d).trans h⟩)

/- slices.BinarySearchFunc[[]horologe/leap.Row,horologe/leap.Row,int64] -/
@[reducible] def pi_slices_BinarySearchFunc_leap_Row_leap_Row_i64_leap_Table_behind_1 : PSh := ⟨[], [.mk false [.v (.sl (.pair (.int .i64) (.int .i64)))], .mk false [.v (.int .i64)], .mk false [.fn 111 []]]⟩
@[reducible] def po_slices_BinarySearchFunc_leap_Row_leap_Row_i64_leap_Table_behind_1 : PSh := ⟨[], [.mk false [.v (.int .i64)], .mk false [.v .bool]]⟩
@[reducible] def TT_slices_BinarySearchFunc_leap_Row_leap_Row_i64_leap_Table_behind_1 : Type := (((Unit × (((List (Int × Int)) × Unit) × ((Int × Unit) × (Unit × ((Int × Unit) × ((Int × Unit) × ((Int × Unit) × Unit))))))) → Option (Unit × ((Int × Unit) × ((Bool × Unit) × Unit)))) × Unit)
@[reducible] def sh_slices_BinarySearchFunc_leap_Row_leap_Row_i64_leap_Table_behind_1_4 : PSh := ⟨[], [.mk false [.v (.sl (.pair (.int .i64) (.int .i64)))], .mk false [.v (.int .i64)], .mk false [.fn 111 []], .any, .any, .any, .any, .any, .mk false [.v (.int .i64)], .mk false [.v (.int .i64)], .mk false [.v (.int .i64)], .any, .any, .any, .any, .any, .any, .any, .any, .any, .any, .any, .any, .any, .any, .any, .any, .any, .any, .any, .any, .any, .any, .any, .any, .any, .any, .any, .any, .any, .any, .any, .any, .any, .any, .any, .any, .any, .any]⟩
def f_slices_BinarySearchFunc_leap_Row_leap_Row_i64_leap_Table_behind_1_p4 (T : TT_slices_BinarySearchFunc_leap_Row_leap_Row_i64_leap_Table_behind_1) (d : Unit × (((List (Int × Int)) × Unit) × ((Int × Unit) × (Unit × ((Int × Unit) × ((Int × Unit) × ((Int × Unit) × Unit))))))) : Option (Unit × ((Int × Unit) × ((Bool × Unit) × Unit))) :=
  let x2 : Bool := (decide (d.2.2.2.2.2.1.1 < d.2.2.2.2.2.2.1.1))
  bif x2 then (
  let x3 : Int := (iadd .i64 d.2.2.2.2.2.1.1 d.2.2.2.2.2.2.1.1)
  let x4 : Int := (iconv .u64 x3)
  let x5 : Int := (ishr .u64 x4 (1 : Int))
  let x6 : Int := (iconv .i64 x5)
  bif decide ((0 : Int) ≤ x6) && decide (x6 < (d.2.1.1.length : Int)) then (
  (g_leap_Table_behind_1 ((), (((gd_i64_i64 d.2.1.1 x6).1, ((gd_i64_i64 d.2.1.1 x6).2, ())), ((d.2.2.1.1, ()), ())))).bind fun x7 =>
  let x8 : Bool := (decide (x7.2.1.1 < (0 : Int)))
  bif x8 then (
  let x9 : Int := (iadd .i64 x6 (1 : Int))
  (T.1 ((), ((d.2.1.1, ()), ((d.2.2.1.1, ()), ((), ((d.2.2.2.2.1.1, ()), ((x9, ()), ((d.2.2.2.2.2.2.1.1, ()), ())))))))))
  else (
  (T.1 ((), ((d.2.1.1, ()), ((d.2.2.1.1, ()), ((), ((d.2.2.2.2.1.1, ()), ((d.2.2.2.2.2.1.1, ()), ((x6, ()), ()))))))))))
  else none)
  else (
  let x10 : Bool := (decide (d.2.2.2.2.2.1.1 < d.2.2.2.2.1.1))
  bif x10 then (
  bif decide ((0 : Int) ≤ d.2.2.2.2.2.1.1) && decide (d.2.2.2.2.2.1.1 < (d.2.1.1.length : Int)) then (
  (g_leap_Table_behind_1 ((), (((gd_i64_i64 d.2.1.1 d.2.2.2.2.2.1.1).1, ((gd_i64_i64 d.2.1.1 d.2.2.2.2.2.1.1).2, ())), ((d.2.2.1.1, ()), ())))).bind fun x11 =>
  let x12 : Bool := (x11.2.1.1 == (0 : Int))
  some ((), ((d.2.2.2.2.2.1.1, ()), ((x12, ()), ()))))
  else none)
  else (
  some ((), ((d.2.2.2.2.2.1.1, ()), ((false, ()), ())))))
def f_slices_BinarySearchFunc_leap_Row_leap_Row_i64_leap_Table_behind_1_t : Nat → TT_slices_BinarySearchFunc_leap_Row_leap_Row_i64_leap_Table_behind_1
  | 0 => (fun _ => none, ())
  | k + 1 => (f_slices_BinarySearchFunc_leap_Row_leap_Row_i64_leap_Table_behind_1_p4 (f_slices_BinarySearchFunc_leap_Row_leap_Row_i64_leap_Table_behind_1_t k), ())
theorem t_slices_BinarySearchFunc_leap_Row_leap_Row_i64_leap_Table_behind_1 (k : Nat) : f_slices_BinarySearchFunc_leap_Row_leap_Row_i64_leap_Table_behind_1_t (k + 1) = (f_slices_BinarySearchFunc_leap_Row_leap_Row_i64_leap_Table_behind_1_p4 (f_slices_BinarySearchFunc_leap_Row_leap_Row_i64_leap_Table_behind_1_t k), ()) := rfl
def f_slices_BinarySearchFunc_leap_Row_leap_Row_i64_leap_Table_behind_1_m (T : TT_slices_BinarySearchFunc_leap_Row_leap_Row_i64_leap_Table_behind_1) (d : Unit × (((List (Int × Int)) × Unit) × ((Int × Unit) × (Unit × Unit)))) : Option (Unit × ((Int × Unit) × ((Bool × Unit) × Unit))) :=
  let x1 : Int := (d.2.1.1.length : Int)
  (T.1 ((), ((d.2.1.1, ()), ((d.2.2.1.1, ()), ((), ((x1, ()), (((0 : Int), ()), ((x1, ()), ()))))))))
def c_slices_BinarySearchFunc_leap_Row_leap_Row_i64_leap_Table_behind_1 : List Nat := []
def L_slices_BinarySearchFunc_leap_Row_leap_Row_i64_leap_Table_behind_1 (k : Nat) : Pts po_slices_BinarySearchFunc_leap_Row_leap_Row_i64_leap_Table_behind_1.den := [(4, ⟨sh_slices_BinarySearchFunc_leap_Row_leap_Row_i64_leap_Table_behind_1_4, (f_slices_BinarySearchFunc_leap_Row_leap_Row_i64_leap_Table_behind_1_t k).1⟩)]
def R_slices_BinarySearchFunc_leap_Row_leap_Row_i64_leap_Table_behind_1 (_ : Nat) : PtsR po_slices_BinarySearchFunc_leap_Row_leap_Row_i64_leap_Table_behind_1.den := []
def E_slices_BinarySearchFunc_leap_Row_leap_Row_i64_leap_Table_behind_1 : Env := (E0.add 111 (typedSem pi_leap_Table_behind_1 po_leap_Table_behind_1 g_leap_Table_behind_1))
theorem q_slices_BinarySearchFunc_leap_Row_leap_Row_i64_leap_Table_behind_1_4 (k : Nat) (d : Unit × (((List (Int × Int)) × Unit) × ((Int × Unit) × (Unit × ((Int × Unit) × ((Int × Unit) × ((Int × Unit) × Unit))))))) : evAt E_slices_BinarySearchFunc_leap_Row_leap_Row_i64_leap_Table_behind_1 (tb (L_slices_BinarySearchFunc_leap_Row_leap_Row_i64_leap_Table_behind_1 k) (R_slices_BinarySearchFunc_leap_Row_leap_Row_i64_leap_Table_behind_1 k)) c_slices_BinarySearchFunc_leap_Row_leap_Row_i64_leap_Table_behind_1 4 (bodyOf Try.f110) 0 (finK E_slices_BinarySearchFunc_leap_Row_leap_Row_i64_leap_Table_behind_1 po_slices_BinarySearchFunc_leap_Row_leap_Row_i64_leap_Table_behind_1 [.tmp 6, .tmp 7]) (ptSt sh_slices_BinarySearchFunc_leap_Row_leap_Row_i64_leap_Table_behind_1_4 d) = f_slices_BinarySearchFunc_leap_Row_leap_Row_i64_leap_Table_behind_1_p4 (f_slices_BinarySearchFunc_leap_Row_leap_Row_i64_leap_Table_behind_1_t k) d := by kernel_rfl
theorem q_slices_BinarySearchFunc_leap_Row_leap_Row_i64_leap_Table_behind_1_m (k : Nat) (d : Unit × (((List (Int × Int)) × Unit) × ((Int × Unit) × (Unit × Unit)))) : evCode E_slices_BinarySearchFunc_leap_Row_leap_Row_i64_leap_Table_behind_1 (tb (L_slices_BinarySearchFunc_leap_Row_leap_Row_i64_leap_Table_behind_1 k) (R_slices_BinarySearchFunc_leap_Row_leap_Row_i64_leap_Table_behind_1 k)) c_slices_BinarySearchFunc_leap_Row_leap_Row_i64_leap_Table_behind_1 (bodyOf Try.f110) 0 (finK E_slices_BinarySearchFunc_leap_Row_leap_Row_i64_leap_Table_behind_1 po_slices_BinarySearchFunc_leap_Row_leap_Row_i64_leap_Table_behind_1 [.tmp 6, .tmp 7]) (startSt pi_slices_BinarySearchFunc_leap_Row_leap_Row_i64_leap_Table_behind_1 49 d) = f_slices_BinarySearchFunc_leap_Row_leap_Row_i64_leap_Table_behind_1_m (f_slices_BinarySearchFunc_leap_Row_leap_Row_i64_leap_Table_behind_1_t k) d := by kernel_rfl
theorem go_slices_BinarySearchFunc_leap_Row_leap_Row_i64_leap_Table_behind_1 (F : Unit × (((List (Int × Int)) × Unit) × ((Int × Unit) × (Unit × Unit))) → Option (Unit × ((Int × Unit) × ((Bool × Unit) × Unit)))) (hF : ∀ d out, F d = some out → ∃ k, f_slices_BinarySearchFunc_leap_Row_leap_Row_i64_leap_Table_behind_1_m (f_slices_BinarySearchFunc_leap_Row_leap_Row_i64_leap_Table_behind_1_t k) d = some out) : FnOk Try.prog ET0 110 pi_slices_BinarySearchFunc_leap_Row_leap_Row_i64_leap_Table_behind_1 po_slices_BinarySearchFunc_leap_Row_leap_Row_i64_leap_Table_behind_1 F :=
  fn_of_body (E := E_slices_BinarySearchFunc_leap_Row_leap_Row_i64_leap_Table_behind_1) (envOk_add e0_ok (typed_ok ok_leap_Table_behind_1)) (fn := Try.f110) Try.func110 (by kernel_rfl) (by kernel_rfl) [.tmp 6, .tmp 7] (by kernel_rfl) (by kernel_rfl) (by decide) rfl c_slices_BinarySearchFunc_leap_Row_leap_Row_i64_leap_Table_behind_1 L_slices_BinarySearchFunc_leap_Row_leap_Row_i64_leap_Table_behind_1 R_slices_BinarySearchFunc_leap_Row_leap_Row_i64_leap_Table_behind_1
    (by intro x hx d; simp only [L_slices_BinarySearchFunc_leap_Row_leap_Row_i64_leap_Table_behind_1, List.mem_cons, List.not_mem_nil, or_false] at hx; subst hx; rfl)
    (by intro k x hx d out h; simp only [L_slices_BinarySearchFunc_leap_Row_leap_Row_i64_leap_Table_behind_1, List.mem_cons, List.not_mem_nil, or_false] at hx; subst hx; exact (q_slices_BinarySearchFunc_leap_Row_leap_Row_i64_leap_Table_behind_1_4 k d).trans h)
    (by intro x hx; cases hx)
    (by intro k x hx; cases hx)
    (by intro d out h; obtain ⟨k, hk⟩ := hF d out h; exact ⟨k, (q_slices_BinarySearchFunc_leap_Row_leap_Row_i64_leap_Table_behind_1_m k d).trans hk⟩)
def g_slices_BinarySearchFunc_leap_Row_leap_Row_i64_leap_Table_behind_1 (d : Unit × (((List (Int × Int)) × Unit) × ((Int × Unit) × (Unit × Unit)))) : Option (Unit × ((Int × Unit) × ((Bool × Unit) × Unit))) := lim fun k => f_slices_BinarySearchFunc_leap_Row_leap_Row_i64_leap_Table_behind_1_m (f_slices_BinarySearchFunc_leap_Row_leap_Row_i64_leap_Table_behind_1_t k) d
theorem ok_slices_BinarySearchFunc_leap_Row_leap_Row_i64_leap_Table_behind_1 : FnOk Try.prog ET0 110 pi_slices_BinarySearchFunc_leap_Row_leap_Row_i64_leap_Table_behind_1 po_slices_BinarySearchFunc_leap_Row_leap_Row_i64_leap_Table_behind_1 g_slices_BinarySearchFunc_leap_Row_leap_Row_i64_leap_Table_behind_1 := go_slices_BinarySearchFunc_leap_Row_leap_Row_i64_leap_Table_behind_1 g_slices_BinarySearchFunc_leap_Row_leap_Row_i64_leap_Table_behind_1 fun d out h => lim_some h

/- (*horologe/leap.Table).behind -/
@[reducible] def pi_leap_Table_behind : PSh := ⟨[], [.mk false [.v (.nptr (.pair (.sl (.pair (.int .i64) (.int .i64))) (.pair (.int .i64) (.int .i64))))], .mk false [.v (.int .i64)]]⟩
@[reducible] def po_leap_Table_behind : PSh := ⟨[], [.mk false [.v (.int .i64)]]⟩
def f_leap_Table_behind_m (T : Unit) (d : Unit × (((Option ((List (Int × Int)) × (Int × Int))) × Unit) × ((Int × Unit) × Unit))) : Option (Unit × ((Int × Unit) × Unit)) :=
  (g_leap_Table_list ((), ((d.2.1.1, ()), ()))).bind fun x1 =>
  (g_slices_BinarySearchFunc_leap_Row_leap_Row_i64_leap_Table_behind_1 ((), ((x1.2.1.1, ()), ((d.2.2.1.1, ()), ((), ()))))).bind fun x2 =>
  bif x2.2.2.1.1 then (
  let x3 : Int := (iadd .i64 x2.2.1.1 (1 : Int))
  some ((), ((x3, ()), ())))
  else (
  some ((), ((x2.2.1.1, ()), ())))
def c_leap_Table_behind : List Nat := []
def L_leap_Table_behind (_ : Nat) : Pts po_leap_Table_behind.den := []
def R_leap_Table_behind (_ : Nat) : PtsR po_leap_Table_behind.den := []
def E_leap_Table_behind : Env := ((E0.add 41 (typedSem pi_leap_Table_list po_leap_Table_list g_leap_Table_list)).add 110 (typedSem pi_slices_BinarySearchFunc_leap_Row_leap_Row_i64_leap_Table_behind_1 po_slices_BinarySearchFunc_leap_Row_leap_Row_i64_leap_Table_behind_1 g_slices_BinarySearchFunc_leap_Row_leap_Row_i64_leap_Table_behind_1))
theorem q_leap_Table_behind_m (k : Nat) (d : Unit × (((Option ((List (Int × Int)) × (Int × Int))) × Unit) × ((Int × Unit) × Unit))) : evCode E_leap_Table_behind (tb (L_leap_Table_behind k) (R_leap_Table_behind k)) c_leap_Table_behind (bodyOf Try.f84) 0 (finK E_leap_Table_behind po_leap_Table_behind [.tmp 4]) (startSt pi_leap_Table_behind 18 d) = f_leap_Table_behind_m () d := by kernel_rfl
def g_leap_Table_behind (d : Unit × (((Option ((List (Int × Int)) × (Int × Int))) × Unit) × ((Int × Unit) × Unit))) : Option (Unit × ((Int × Unit) × Unit)) := f_leap_Table_behind_m () d
theorem ok_leap_Table_behind : FnOk Try.prog ET0 84 pi_leap_Table_behind po_leap_Table_behind g_leap_Table_behind :=
  fn_of_body (E := E_leap_Table_behind) (envOk_add (envOk_add e0_ok (typed_ok ok_leap_Table_list)) (typed_ok ok_slices_BinarySearchFunc_leap_Row_leap_Row_i64_leap_Table_behind_1)) (fn := Try.f84) Try.func84 (by kernel_rfl) (by kernel_rfl) [.tmp 4] (by kernel_rfl) (by kernel_rfl) (by decide) rfl c_leap_Table_behind L_leap_Table_behind R_leap_Table_behind
    (by intro x hx; cases hx) (by intro k x hx; cases hx) (by intro x hx; cases hx) (by intro k x hx; cases hx) (fun d out h => ⟨0, (q_leap_Table_behind_m 0 d).trans h⟩)

/- (*horologe/leap.Table).change -/
@[reducible] def pi_leap_Table_change : PSh := ⟨[], [.mk false [.v (.nptr (.pair (.sl (.pair (.int .i64) (.int .i64))) (.pair (.int .i64) (.int .i64))))], .mk false [.v (.int .i64)]]⟩
@[reducible] def po_leap_Table_change : PSh := ⟨[], [.mk false [.v (.int .i64)]]⟩
def f_leap_Table_change_m (T : Unit) (d : Unit × (((Option ((List (Int × Int)) × (Int × Int))) × Unit) × ((Int × Unit) × Unit))) : Option (Unit × ((Int × Unit) × Unit)) :=
  let x1 : Int := (isub .i64 d.2.2.1.1 (1 : Int))
  (g_leap_Table_Row ((), ((d.2.1.1, ()), ((x1, ()), ())))).bind fun x2 =>
  let x3 : Bool := (!x2.2.2.1.1)
  bif x3 then (
  some ((), (((0 : Int), ()), ())))
  else (
  d.2.1.1.bind fun x4 =>
  bif decide ((0 : Int) ≤ d.2.2.1.1) && decide (d.2.2.1.1 < (x4.1.length : Int)) then (
  let x5 : Int := (isub .i64 (gd_i64_i64 x4.1 d.2.2.1.1).2 x2.2.1.2.1)
  some ((), ((x5, ()), ())))
  else none)
def c_leap_Table_change : List Nat := []
def L_leap_Table_change (_ : Nat) : Pts po_leap_Table_change.den := []
def R_leap_Table_change (_ : Nat) : PtsR po_leap_Table_change.den := []
def E_leap_Table_change : Env := (E0.add 13 (typedSem pi_leap_Table_Row po_leap_Table_Row g_leap_Table_Row))
theorem q_leap_Table_change_m (k : Nat) (d : Unit × (((Option ((List (Int × Int)) × (Int × Int))) × Unit) × ((Int × Unit) × Unit))) : evCode E_leap_Table_change (tb (L_leap_Table_change k) (R_leap_Table_change k)) c_leap_Table_change (bodyOf Try.f85) 0 (finK E_leap_Table_change po_leap_Table_change [.tmp 4]) (startSt pi_leap_Table_change 27 d) = f_leap_Table_change_m () d := by kernel_rfl
def g_leap_Table_change (d : Unit × (((Option ((List (Int × Int)) × (Int × Int))) × Unit) × ((Int × Unit) × Unit))) : Option (Unit × ((Int × Unit) × Unit)) := f_leap_Table_change_m () d
theorem ok_leap_Table_change : FnOk Try.prog ET0 85 pi_leap_Table_change po_leap_Table_change g_leap_Table_change :=
  fn_of_body (E := E_leap_Table_change) (envOk_add e0_ok (typed_ok ok_leap_Table_Row)) (fn := Try.f85) Try.func85 (by kernel_rfl) (by kernel_rfl) [.tmp 4] (by kernel_rfl) (by kernel_rfl) (by decide) rfl c_leap_Table_change L_leap_Table_change R_leap_Table_change
    (by intro x hx; cases hx) (by intro k x hx; cases hx) (by intro x hx; cases hx) (by intro k x hx; cases hx) (fun d out h => ⟨0, (q_leap_Table_change_m 0 d).trans h⟩)

/- (*horologe/leap.Table).Leap -/
@[reducible] def pi_leap_Table_Leap : PSh := ⟨[], [.mk false [.v (.nptr (.pair (.sl (.pair (.int .i64) (.int .i64))) (.pair (.int .i64) (.int .i64))))], .mk false [.v (.int .i64)]]⟩
@[reducible] def po_leap_Table_Leap : PSh := ⟨[], [.mk false [.v (.int .i64)]]⟩
def f_leap_Table_Leap_m (T : Unit) (d : Unit × (((Option ((List (Int × Int)) × (Int × Int))) × Unit) × ((Int × Unit) × Unit))) : Option (Unit × ((Int × Unit) × Unit)) :=
  (g_leap_Table_behind ((), ((d.2.1.1, ()), ((d.2.2.1.1, ()), ())))).bind fun x1 =>
  (g_leap_Table_Row ((), ((d.2.1.1, ()), ((x1.2.1.1, ()), ())))).bind fun x2 =>
  let x3 : Bool := (!x2.2.2.1.1)
  bif x3 then (
  some ((), (((0 : Int), ()), ())))
  else (
  let x4 : Int := (isub .i64 x2.2.1.1 (1 : Int))
  let x5 : Bool := (x4 != d.2.2.1.1)
  bif x5 then (
  some ((), (((0 : Int), ()), ())))
  else (
  (g_leap_Table_behind ((), ((d.2.1.1, ()), ((d.2.2.1.1, ()), ())))).bind fun x6 =>
  (g_leap_Table_change ((), ((d.2.1.1, ()), ((x6.2.1.1, ()), ())))).bind fun x7 =>
  some ((), ((x7.2.1.1, ()), ()))))
def c_leap_Table_Leap : List Nat := []
def L_leap_Table_Leap (_ : Nat) : Pts po_leap_Table_Leap.den := []
def R_leap_Table_Leap (_ : Nat) : PtsR po_leap_Table_Leap.den := []
def E_leap_Table_Leap : Env := (((E0.add 13 (typedSem pi_leap_Table_Row po_leap_Table_Row g_leap_Table_Row)).add 84 (typedSem pi_leap_Table_behind po_leap_Table_behind g_leap_Table_behind)).add 85 (typedSem pi_leap_Table_change po_leap_Table_change g_leap_Table_change))
theorem q_leap_Table_Leap_m (k : Nat) (d : Unit × (((Option ((List (Int × Int)) × (Int × Int))) × Unit) × ((Int × Unit) × Unit))) : evCode E_leap_Table_Leap (tb (L_leap_Table_Leap k) (R_leap_Table_Leap k)) c_leap_Table_Leap (bodyOf Try.f55) 0 (finK E_leap_Table_Leap po_leap_Table_Leap [.tmp 4]) (startSt pi_leap_Table_Leap 29 d) = f_leap_Table_Leap_m () d := by kernel_rfl
def g_leap_Table_Leap (d : Unit × (((Option ((List (Int × Int)) × (Int × Int))) × Unit) × ((Int × Unit) × Unit))) : Option (Unit × ((Int × Unit) × Unit)) := f_leap_Table_Leap_m () d
theorem ok_leap_Table_Leap : FnOk Try.prog ET0 55 pi_leap_Table_Leap po_leap_Table_Leap g_leap_Table_Leap :=
  fn_of_body (E := E_leap_Table_Leap) (envOk_add (envOk_add (envOk_add e0_ok (typed_ok ok_leap_Table_Row)) (typed_ok ok_leap_Table_behind)) (typed_ok ok_leap_Table_change)) (fn := Try.f55) Try.func55 (by kernel_rfl) (by kernel_rfl) [.tmp 4] (by kernel_rfl) (by kernel_rfl) (by decide) rfl c_leap_Table_Leap L_leap_Table_Leap R_leap_Table_Leap
    (by intro x hx; cases hx) (by intro k x hx; cases hx) (by intro x hx; cases hx) (by intro k x hx; cases hx) (fun d out h => ⟨0, (q_leap_Table_Leap_m 0 d).trans h⟩)

/- (*horologe/leap.Table).Length -/
@[reducible] def pi_leap_Table_Length : PSh := ⟨[], [.mk false [.v (.nptr (.pair (.sl (.pair (.int .i64) (.int .i64))) (.pair (.int .i64) (.int .i64))))], .mk false [.v (.int .i64)]]⟩
@[reducible] def po_leap_Table_Length : PSh := ⟨[], [.mk false [.v (.int .i64)]]⟩
def f_leap_Table_Length_m (T : Unit) (d : Unit × (((Option ((List (Int × Int)) × (Int × Int))) × Unit) × ((Int × Unit) × Unit))) : Option (Unit × ((Int × Unit) × Unit)) :=
  (g_leap_Table_Leap ((), ((d.2.1.1, ()), ((d.2.2.1.1, ()), ())))).bind fun x1 =>
  let x2 : Int := (iadd .i64 (86400 : Int) x1.2.1.1)
  some ((), ((x2, ()), ()))
def c_leap_Table_Length : List Nat := []
def L_leap_Table_Length (_ : Nat) : Pts po_leap_Table_Length.den := []
def R_leap_Table_Length (_ : Nat) : PtsR po_leap_Table_Length.den := []
def E_leap_Table_Length : Env := (E0.add 55 (typedSem pi_leap_Table_Leap po_leap_Table_Leap g_leap_Table_Leap))
theorem q_leap_Table_Length_m (k : Nat) (d : Unit × (((Option ((List (Int × Int)) × (Int × Int))) × Unit) × ((Int × Unit) × Unit))) : evCode E_leap_Table_Length (tb (L_leap_Table_Length k) (R_leap_Table_Length k)) c_leap_Table_Length (bodyOf Try.f26) 0 (finK E_leap_Table_Length po_leap_Table_Length [.tmp 4]) (startSt pi_leap_Table_Length 9 d) = f_leap_Table_Length_m () d := by kernel_rfl
def g_leap_Table_Length (d : Unit × (((Option ((List (Int × Int)) × (Int × Int))) × Unit) × ((Int × Unit) × Unit))) : Option (Unit × ((Int × Unit) × Unit)) := f_leap_Table_Length_m () d
theorem ok_leap_Table_Length : FnOk Try.prog ET0 26 pi_leap_Table_Length po_leap_Table_Length g_leap_Table_Length :=
  fn_of_body (E := E_leap_Table_Length) (envOk_add e0_ok (typed_ok ok_leap_Table_Leap)) (fn := Try.f26) Try.func26 (by kernel_rfl) (by kernel_rfl) [.tmp 4] (by kernel_rfl) (by kernel_rfl) (by decide) rfl c_leap_Table_Length L_leap_Table_Length R_leap_Table_Length
    (by intro x hx; cases hx) (by intro k x hx; cases hx) (by intro x hx; cases hx) (by intro k x hx; cases hx) (fun d out h => ⟨0, (q_leap_Table_Length_m 0 d).trans h⟩)

/- horologe/horologelaw10.alive -/
@[reducible] def pi_law10_alive : PSh := ⟨[], []⟩
@[reducible] def po_law10_alive : PSh := ⟨[], [.mk false [.v .bool]]⟩
def f_law10_alive_m (T : Unit) (d : Unit × Unit) : Option (Unit × ((Bool × Unit) × Unit)) :=
  let x1 : (List (Int × Int)) := ([((730 : Int), (10 : Int)), ((912 : Int), (11 : Int))] : List (Int × Int))
  (g_leap_New ((), ((x1, ()), (((5 : Int), ()), (((9 : Int), ()), ()))))).bind fun x2 =>
  bif x2.2.2.1.1.isNone then (
  let x3 : Bool := (!x2.2.1.1.isNone)
  bif x3 then (
  (g_leap_Table_Length ((), ((x2.2.1.1, ()), (((911 : Int), ()), ())))).bind fun x4 =>
  let x5 : Bool := (x4.2.1.1 == (86401 : Int))
  bif x5 then (
  (g_leap_Table_Len ((), ((x2.2.1.1, ()), ()))).bind fun x6 =>
  let x7 : Bool := (x6.2.1.1 == (2 : Int))
  some ((), ((x7, ()), ())))
  else (
  some ((), ((false, ()), ()))))
  else (
  some ((), ((false, ()), ()))))
  else (
  some ((), ((false, ()), ())))
def c_law10_alive : List Nat := []
def L_law10_alive (_ : Nat) : Pts po_law10_alive.den := []
def R_law10_alive (_ : Nat) : PtsR po_law10_alive.den := []
def E_law10_alive : Env := ((((E0.add 6 (typedSem pi_leap_New po_leap_New g_leap_New)).add 11 (typedSem pi_leap_Table_Len po_leap_Table_Len g_leap_Table_Len)).add 26 (typedSem pi_leap_Table_Length po_leap_Table_Length g_leap_Table_Length)).fr [(7, [6])])
theorem q_law10_alive_m (k : Nat) (d : Unit × Unit) : evCode E_law10_alive (tb (L_law10_alive k) (R_law10_alive k)) c_law10_alive (bodyOf Try.f5) 0 (finK E_law10_alive po_law10_alive [.tmp 0]) (startSt pi_law10_alive 26 d) = f_law10_alive_m () d := by kernel_rfl
def g_law10_alive (d : Unit × Unit) : Option (Unit × ((Bool × Unit) × Unit)) := f_law10_alive_m () d
theorem ok_law10_alive : FnOk Try.prog ET0 5 pi_law10_alive po_law10_alive g_law10_alive :=
  fn_of_body (E := E_law10_alive) (envOk_fr (envOk_add (envOk_add (envOk_add e0_ok (typed_ok ok_leap_New)) (typed_ok ok_leap_Table_Len)) (typed_ok ok_leap_Table_Length))) (fn := Try.f5) Try.func5 (by kernel_rfl) (by kernel_rfl) [.tmp 0] (by kernel_rfl) (by kernel_rfl) (by decide) rfl c_law10_alive L_law10_alive R_law10_alive
    (by intro x hx; cases hx) (by intro k x hx; cases hx) (by intro x hx; cases hx) (by intro k x hx; cases hx) (fun d out h => ⟨0, (q_law10_alive_m 0 d).trans h⟩)

/- horologe/horologelaw10.Document -/
@[reducible] def pi_law10_Document : PSh := ⟨[], [.mk true [.v (.sl (.pair (.int .i64) (.int .i64))), .v (.int .i64), .v (.int .i64)]]⟩
@[reducible] def po_law10_Document : PSh := ⟨[.row 44 (.pair (.int .i64) (.int .i64))], [.mk true [.osl 0, .v (.int .i64), .v (.int .i64)]]⟩
@[reducible] def TT_law10_Document : Type := (((((Int × (Int × Unit)) × ((List (Int × Int)) × ((Int × (Int × Unit)) × ((List (Int × Int)) × Unit)))) × (Unit × (Unit × (((List (Int × Int)) × Unit) × ((Int × Unit) × ((Int × Unit) × Unit)))))) → Option (((List (Int × Int)) × Unit) × ((Int × (Int × Unit)) × Unit))) × Unit)
@[reducible] def sh_law10_Document_4 : PSh := ⟨[.var 33 [.osl 1, .v (.int .i64), .v (.int .i64)], .row 44 (.pair (.int .i64) (.int .i64)), .var 33 [.osl 3, .v (.int .i64), .v (.int .i64)], .row 44 (.pair (.int .i64) (.int .i64))], [.any, .any, .mk false [.ref 0 0], .mk false [.ref 2 0], .any, .any, .any, .any, .any, .any, .any, .any, .mk false [.v (.sl (.pair (.int .i64) (.int .i64)))], .mk false [.v (.int .i64)], .mk false [.v (.int .i64)], .any, .any, .any, .any, .any, .any, .any, .any, .any, .any, .any, .any, .any, .any, .any]⟩
def f_law10_Document_p4 (T : TT_law10_Document) (d : ((Int × (Int × Unit)) × ((List (Int × Int)) × ((Int × (Int × Unit)) × ((List (Int × Int)) × Unit)))) × (Unit × (Unit × (((List (Int × Int)) × Unit) × ((Int × Unit) × ((Int × Unit) × Unit)))))) : Option (((List (Int × Int)) × Unit) × ((Int × (Int × Unit)) × Unit)) :=
  let x2 : Bool := (decide (d.2.2.2.2.2.1.1 < d.2.2.2.2.1.1))
  bif x2 then (
  bif decide ((0 : Int) ≤ d.2.2.2.2.2.1.1) && decide (d.2.2.2.2.2.1.1 < (d.2.2.2.1.1.length : Int)) then (
  let x3 : (List (Int × Int)) := ([((gd_i64_i64 d.2.2.2.1.1 d.2.2.2.2.2.1.1).1, (gd_i64_i64 d.2.2.2.1.1 d.2.2.2.2.2.1.1).2)] : List (Int × Int))
  bif decide (((d.1.2.2.2.1.length + x3.length) * 16 : Nat) ≤ 140737488355328) && decide (d.1.2.2.2.1.length + x3.length ≤ 9223372036854775807) then (
  let x4 : (List (Int × Int)) := (d.1.2.2.2.1 ++ x3)
  let x5 : Int := (iadd .i64 d.2.2.2.2.2.1.1 (1 : Int))
  (T.1 (((d.1.1.1, (d.1.1.2.1, ())), (d.1.2.1, ((d.1.2.2.1.1, (d.1.2.2.1.2.1, ())), (x4, ())))), ((), ((), ((d.2.2.2.1.1, ()), ((d.2.2.2.2.1.1, ()), ((x5, ()), ()))))))))
  else none)
  else none)
  else (
  some ((d.1.2.2.2.1, ()), ((d.1.2.2.1.1, (d.1.2.2.1.2.1, ())), ())))
def f_law10_Document_t : Nat → TT_law10_Document
  | 0 => (fun _ => none, ())
  | k + 1 => (f_law10_Document_p4 (f_law10_Document_t k), ())
theorem t_law10_Document (k : Nat) : f_law10_Document_t (k + 1) = (f_law10_Document_p4 (f_law10_Document_t k), ()) := rfl
def f_law10_Document_m (T : TT_law10_Document) (d : Unit × (((List (Int × Int)) × (Int × (Int × Unit))) × Unit)) : Option (((List (Int × Int)) × Unit) × ((Int × (Int × Unit)) × Unit)) :=
  let x1 : Int := (d.2.1.1.length : Int)
  (T.1 ((((0 : Int), ((0 : Int), ())), (([] : List (Int × Int)), ((d.2.1.2.1, (d.2.1.2.2.1, ())), (([] : List (Int × Int)), ())))), ((), ((), ((d.2.1.1, ()), ((x1, ()), (((0 : Int), ()), ())))))))
def c_law10_Document : List Nat := []
def L_law10_Document (k : Nat) : Pts po_law10_Document.den := [(4, ⟨sh_law10_Document_4, (f_law10_Document_t k).1⟩)]
def R_law10_Document (_ : Nat) : PtsR po_law10_Document.den := []
def E_law10_Document : Env := E0
theorem q_law10_Document_4 (k : Nat) (d : ((Int × (Int × Unit)) × ((List (Int × Int)) × ((Int × (Int × Unit)) × ((List (Int × Int)) × Unit)))) × (Unit × (Unit × (((List (Int × Int)) × Unit) × ((Int × Unit) × ((Int × Unit) × Unit)))))) : evAt E_law10_Document (tb (L_law10_Document k) (R_law10_Document k)) c_law10_Document 4 (bodyOf Try.f7) 0 (finK E_law10_Document po_law10_Document [.cell 2 33]) (ptSt sh_law10_Document_4 d) = f_law10_Document_p4 (f_law10_Document_t k) d := by kernel_rfl
theorem q_law10_Document_m (k : Nat) (d : Unit × (((List (Int × Int)) × (Int × (Int × Unit))) × Unit)) : evCode E_law10_Document (tb (L_law10_Document k) (R_law10_Document k)) c_law10_Document (bodyOf Try.f7) 0 (finK E_law10_Document po_law10_Document [.cell 2 33]) (startSt pi_law10_Document 30 d) = f_law10_Document_m (f_law10_Document_t k) d := by kernel_rfl
theorem go_law10_Document (F : Unit × (((List (Int × Int)) × (Int × (Int × Unit))) × Unit) → Option (((List (Int × Int)) × Unit) × ((Int × (Int × Unit)) × Unit))) (hF : ∀ d out, F d = some out → ∃ k, f_law10_Document_m (f_law10_Document_t k) d = some out) : FnOk Try.prog ET0 7 pi_law10_Document po_law10_Document F :=
  fn_of_body (E := E_law10_Document) e0_ok (fn := Try.f7) Try.func7 (by kernel_rfl) (by kernel_rfl) [.cell 2 33] (by kernel_rfl) (by kernel_rfl) (by decide) rfl c_law10_Document L_law10_Document R_law10_Document
    (by intro x hx d; simp only [L_law10_Document, List.mem_cons, List.not_mem_nil, or_false] at hx; subst hx; rfl)
    (by intro k x hx d out h; simp only [L_law10_Document, List.mem_cons, List.not_mem_nil, or_false] at hx; subst hx; exact (q_law10_Document_4 k d).trans h)
    (by intro x hx; cases hx)
    (by intro k x hx; cases hx)
    (by intro d out h; obtain ⟨k, hk⟩ := hF d out h; exact ⟨k, (q_law10_Document_m k d).trans hk⟩)
def g_law10_Document (d : Unit × (((List (Int × Int)) × (Int × (Int × Unit))) × Unit)) : Option (((List (Int × Int)) × Unit) × ((Int × (Int × Unit)) × Unit)) := lim fun k => f_law10_Document_m (f_law10_Document_t k) d
theorem ok_law10_Document : FnOk Try.prog ET0 7 pi_law10_Document po_law10_Document g_law10_Document := go_law10_Document g_law10_Document fun d out h => lim_some h

/- horologe/horologeref05.Leap -/
@[reducible] def pi_ref05_Leap : PSh := ⟨[], [.mk false [.v (.int .i64)]]⟩
@[reducible] def po_ref05_Leap : PSh := ⟨[], [.mk false [.v .bool]]⟩
def f_ref05_Leap_m (T : Unit) (d : Unit × ((Int × Unit) × Unit)) : Option (Unit × ((Bool × Unit) × Unit)) :=
  let x1 : Int := (Int.tmod d.2.1.1 (400 : Int))
  let x2 : Bool := (x1 == (0 : Int))
  bif x2 then (
  some ((), ((true, ()), ())))
  else (
  let x3 : Int := (Int.tmod d.2.1.1 (4 : Int))
  let x4 : Bool := (x3 == (0 : Int))
  bif x4 then (
  let x5 : Int := (Int.tmod d.2.1.1 (100 : Int))
  let x6 : Bool := (x5 != (0 : Int))
  some ((), ((x6, ()), ())))
  else (
  some ((), ((false, ()), ()))))
def c_ref05_Leap : List Nat := []
def L_ref05_Leap (_ : Nat) : Pts po_ref05_Leap.den := []
def R_ref05_Leap (_ : Nat) : PtsR po_ref05_Leap.den := []
def E_ref05_Leap : Env := E0
theorem q_ref05_Leap_m (k : Nat) (d : Unit × ((Int × Unit) × Unit)) : evCode E_ref05_Leap (tb (L_ref05_Leap k) (R_ref05_Leap k)) c_ref05_Leap (bodyOf Try.f89) 0 (finK E_ref05_Leap po_ref05_Leap [.tmp 2]) (startSt pi_ref05_Leap 14 d) = f_ref05_Leap_m () d := by kernel_rfl
def g_ref05_Leap (d : Unit × ((Int × Unit) × Unit)) : Option (Unit × ((Bool × Unit) × Unit)) := f_ref05_Leap_m () d
theorem ok_ref05_Leap : FnOk Try.prog ET0 89 pi_ref05_Leap po_ref05_Leap g_ref05_Leap :=
  fn_of_body (E := E_ref05_Leap) e0_ok (fn := Try.f89) Try.func89 (by kernel_rfl) (by kernel_rfl) [.tmp 2] (by kernel_rfl) (by kernel_rfl) (by decide) rfl c_ref05_Leap L_ref05_Leap R_ref05_Leap
    (by intro x hx; cases hx) (by intro k x hx; cases hx) (by intro x hx; cases hx) (by intro k x hx; cases hx) (fun d out h => ⟨0, (q_ref05_Leap_m 0 d).trans h⟩)

/- horologe/horologeref05.Days -/
@[reducible] def pi_ref05_Days : PSh := ⟨[], [.mk false [.v (.int .i64)]]⟩
@[reducible] def po_ref05_Days : PSh := ⟨[], [.mk false [.v (.int .i64)]]⟩
def f_ref05_Days_m (T : Unit) (d : Unit × ((Int × Unit) × Unit)) : Option (Unit × ((Int × Unit) × Unit)) :=
  (g_ref05_Leap ((), ((d.2.1.1, ()), ()))).bind fun x1 =>
  bif x1.2.1.1 then (
  some ((), (((366 : Int), ()), ())))
  else (
  some ((), (((365 : Int), ()), ())))
def c_ref05_Days : List Nat := []
def L_ref05_Days (_ : Nat) : Pts po_ref05_Days.den := []
def R_ref05_Days (_ : Nat) : PtsR po_ref05_Days.den := []
def E_ref05_Days : Env := (E0.add 89 (typedSem pi_ref05_Leap po_ref05_Leap g_ref05_Leap))
theorem q_ref05_Days_m (k : Nat) (d : Unit × ((Int × Unit) × Unit)) : evCode E_ref05_Days (tb (L_ref05_Days k) (R_ref05_Days k)) c_ref05_Days (bodyOf Try.f59) 0 (finK E_ref05_Days po_ref05_Days [.tmp 2]) (startSt pi_ref05_Days 5 d) = f_ref05_Days_m () d := by kernel_rfl
def g_ref05_Days (d : Unit × ((Int × Unit) × Unit)) : Option (Unit × ((Int × Unit) × Unit)) := f_ref05_Days_m () d
theorem ok_ref05_Days : FnOk Try.prog ET0 59 pi_ref05_Days po_ref05_Days g_ref05_Days :=
  fn_of_body (E := E_ref05_Days) (envOk_add e0_ok (typed_ok ok_ref05_Leap)) (fn := Try.f59) Try.func59 (by kernel_rfl) (by kernel_rfl) [.tmp 2] (by kernel_rfl) (by kernel_rfl) (by decide) rfl c_ref05_Days L_ref05_Days R_ref05_Days
    (by intro x hx; cases hx) (by intro k x hx; cases hx) (by intro x hx; cases hx) (by intro k x hx; cases hx) (fun d out h => ⟨0, (q_ref05_Days_m 0 d).trans h⟩)

/- horologe/horologeref05.Start -/
@[reducible] def pi_ref05_Start : PSh := ⟨[], [.mk false [.v (.int .i64)]]⟩
@[reducible] def po_ref05_Start : PSh := ⟨[], [.mk false [.v (.int .i64)]]⟩
@[reducible] def TT_ref05_Start : Type := (((Unit × ((Int × Unit) × ((Int × Unit) × Unit))) → Option (Unit × ((Int × Unit) × Unit))) × (((Unit × ((Int × Unit) × ((Int × Unit) × Unit))) → Option (Unit × ((Int × Unit) × Unit))) × (((Unit × ((Int × Unit) × ((Int × Unit) × ((Int × Unit) × Unit)))) → Option (Unit × ((Int × Unit) × Unit))) × Unit)))
@[reducible] def sh_ref05_Start_3 : PSh := ⟨[], [.mk false [.v (.int .i64)], .any, .any, .mk false [.v (.int .i64)], .any, .any, .any, .any, .any, .any, .any, .any, .any, .any, .any, .any, .any, .any, .any, .any, .any, .any, .any, .any, .any, .any, .any]⟩
@[reducible] def sh_ref05_Start_8 : PSh := ⟨[], [.mk false [.v (.int .i64)], .any, .any, .mk false [.v (.int .i64)], .any, .any, .any, .any, .any, .any, .any, .any, .any, .any, .any, .any, .any, .any, .any, .any, .any, .any, .any, .any, .any, .any, .any]⟩
@[reducible] def sh_ref05_Start_14 : PSh := ⟨[], [.mk false [.v (.int .i64)], .any, .any, .mk false [.v (.int .i64)], .mk false [.v (.int .i64)], .any, .any, .any, .any, .any, .any, .any, .any, .any, .any, .any, .any, .any, .any, .any, .any, .any, .any, .any, .any, .any, .any]⟩
def f_ref05_Start_p3 (T : TT_ref05_Start) (d : Unit × ((Int × Unit) × ((Int × Unit) × Unit))) : Option (Unit × ((Int × Unit) × Unit)) :=
  let x1 : Bool := (decide (d.2.1.1 < (1970 : Int)))
  bif x1 then (
  let x2 : Int := (iadd .i64 d.2.1.1 (400 : Int))
  let x3 : Int := (isub .i64 d.2.2.1.1 (146097 : Int))
  (T.1 ((), ((x2, ()), ((x3, ()), ())))))
  else (
  (T.2.1 ((), ((d.2.1.1, ()), ((d.2.2.1.1, ()), ())))))
def f_ref05_Start_p8 (T : TT_ref05_Start) (d : Unit × ((Int × Unit) × ((Int × Unit) × Unit))) : Option (Unit × ((Int × Unit) × Unit)) :=
  let x4 : Bool := (decide (d.2.1.1 ≥ (2370 : Int)))
  bif x4 then (
  let x5 : Int := (isub .i64 d.2.1.1 (400 : Int))
  let x6 : Int := (iadd .i64 d.2.2.1.1 (146097 : Int))
  (T.2.1 ((), ((x5, ()), ((x6, ()), ())))))
  else (
  (T.2.2.1 ((), ((d.2.1.1, ()), ((d.2.2.1.1, ()), (((1970 : Int), ()), ()))))))
def f_ref05_Start_p14 (T : TT_ref05_Start) (d : Unit × ((Int × Unit) × ((Int × Unit) × ((Int × Unit) × Unit)))) : Option (Unit × ((Int × Unit) × Unit)) :=
  let x7 : Bool := (decide (d.2.2.2.1.1 < d.2.1.1))
  bif x7 then (
  (g_ref05_Days ((), ((d.2.2.2.1.1, ()), ()))).bind fun x8 =>
  let x9 : Int := (iadd .i64 d.2.2.1.1 x8.2.1.1)
  let x10 : Int := (iadd .i64 d.2.2.2.1.1 (1 : Int))
  (T.2.2.1 ((), ((d.2.1.1, ()), ((x9, ()), ((x10, ()), ()))))))
  else (
  some ((), ((d.2.2.1.1, ()), ())))
def f_ref05_Start_t : Nat → TT_ref05_Start
  | 0 => (fun _ => none, (fun _ => none, (fun _ => none, ())))
  | k + 1 => (f_ref05_Start_p3 (f_ref05_Start_t k), (f_ref05_Start_p8 (f_ref05_Start_t k), (f_ref05_Start_p14 (f_ref05_Start_t k), ())))
theorem t_ref05_Start (k : Nat) : f_ref05_Start_t (k + 1) = (f_ref05_Start_p3 (f_ref05_Start_t k), (f_ref05_Start_p8 (f_ref05_Start_t k), (f_ref05_Start_p14 (f_ref05_Start_t k), ()))) := rfl
def f_ref05_Start_m (T : TT_ref05_Start) (d : Unit × ((Int × Unit) × Unit)) : Option (Unit × ((Int × Unit) × Unit)) :=
  (T.1 ((), ((d.2.1.1, ()), (((0 : Int), ()), ()))))
def c_ref05_Start : List Nat := []
def L_ref05_Start (k : Nat) : Pts po_ref05_Start.den := [(3, ⟨sh_ref05_Start_3, (f_ref05_Start_t k).1⟩), (8, ⟨sh_ref05_Start_8, (f_ref05_Start_t k).2.1⟩), (14, ⟨sh_ref05_Start_14, (f_ref05_Start_t k).2.2.1⟩)]
def R_ref05_Start (_ : Nat) : PtsR po_ref05_Start.den := []
def E_ref05_Start : Env := (E0.add 59 (typedSem pi_ref05_Days po_ref05_Days g_ref05_Days))
theorem q_ref05_Start_3 (k : Nat) (d : Unit × ((Int × Unit) × ((Int × Unit) × Unit))) : evAt E_ref05_Start (tb (L_ref05_Start k) (R_ref05_Start k)) c_ref05_Start 3 (bodyOf Try.f35) 0 (finK E_ref05_Start po_ref05_Start [.tmp 2]) (ptSt sh_ref05_Start_3 d) = f_ref05_Start_p3 (f_ref05_Start_t k) d := by kernel_rfl
theorem q_ref05_Start_8 (k : Nat) (d : Unit × ((Int × Unit) × ((Int × Unit) × Unit))) : evAt E_ref05_Start (tb (L_ref05_Start k) (R_ref05_Start k)) c_ref05_Start 8 (bodyOf Try.f35) 0 (finK E_ref05_Start po_ref05_Start [.tmp 2]) (ptSt sh_ref05_Start_8 d) = f_ref05_Start_p8 (f_ref05_Start_t k) d := by kernel_rfl
theorem q_ref05_Start_14 (k : Nat) (d : Unit × ((Int × Unit) × ((Int × Unit) × ((Int × Unit) × Unit)))) : evAt E_ref05_Start (tb (L_ref05_Start k) (R_ref05_Start k)) c_ref05_Start 14 (bodyOf Try.f35) 0 (finK E_ref05_Start po_ref05_Start [.tmp 2]) (ptSt sh_ref05_Start_14 d) = f_ref05_Start_p14 (f_ref05_Start_t k) d := by kernel_rfl
theorem q_ref05_Start_m (k : Nat) (d : Unit × ((Int × Unit) × Unit)) : evCode E_ref05_Start (tb (L_ref05_Start k) (R_ref05_Start k)) c_ref05_Start (bodyOf Try.f35) 0 (finK E_ref05_Start po_ref05_Start [.tmp 2]) (startSt pi_ref05_Start 27 d) = f_ref05_Start_m (f_ref05_Start_t k) d := by kernel_rfl
theorem go_ref05_Start (F : Unit × ((Int × Unit) × Unit) → Option (Unit × ((Int × Unit) × Unit))) (hF : ∀ d out, F d = some out → ∃ k, f_ref05_Start_m (f_ref05_Start_t k) d = some out) : FnOk Try.prog ET0 35 pi_ref05_Start po_ref05_Start F :=
  fn_of_body (E := E_ref05_Start) (envOk_add e0_ok (typed_ok ok_ref05_Days)) (fn := Try.f35) Try.func35 (by kernel_rfl) (by kernel_rfl) [.tmp 2] (by kernel_rfl) (by kernel_rfl) (by decide) rfl c_ref05_Start L_ref05_Start R_ref05_Start
    (by intro x hx d; simp only [L_ref05_Start, List.mem_cons, List.not_mem_nil, or_false] at hx; rcases hx with rfl | rfl | rfl; rfl; rfl; rfl)
    (by intro k x hx d out h; simp only [L_ref05_Start, List.mem_cons, List.not_mem_nil, or_false] at hx; rcases hx with rfl | rfl | rfl; exact (q_ref05_Start_3 k d).trans h; exact (q_ref05_Start_8 k d).trans h; exact (q_ref05_Start_14 k d).trans h)
    (by intro x hx; cases hx)
    (by intro k x hx; cases hx)
    (by intro d out h; obtain ⟨k, hk⟩ := hF d out h; exact ⟨k, (q_ref05_Start_m k d).trans hk⟩)
def g_ref05_Start (d : Unit × ((Int × Unit) × Unit)) : Option (Unit × ((Int × Unit) × Unit)) := lim fun k => f_ref05_Start_m (f_ref05_Start_t k) d
theorem ok_ref05_Start : FnOk Try.prog ET0 35 pi_ref05_Start po_ref05_Start g_ref05_Start := go_ref05_Start g_ref05_Start fun d out h => lim_some h

/- horologe/horologeref05.Last -/
@[reducible] def pi_ref05_Last : PSh := ⟨[], []⟩
@[reducible] def po_ref05_Last : PSh := ⟨[], [.mk false [.v (.int .i64)]]⟩
def f_ref05_Last_m (T : Unit) (d : Unit × Unit) : Option (Unit × ((Int × Unit) × Unit)) :=
  (g_ref05_Start ((), (((10000 : Int), ()), ()))).bind fun x1 =>
  let x2 : Int := (isub .i64 x1.2.1.1 (1 : Int))
  some ((), ((x2, ()), ()))
def c_ref05_Last : List Nat := []
def L_ref05_Last (_ : Nat) : Pts po_ref05_Last.den := []
def R_ref05_Last (_ : Nat) : PtsR po_ref05_Last.den := []
def E_ref05_Last : Env := (E0.add 35 (typedSem pi_ref05_Start po_ref05_Start g_ref05_Start))
theorem q_ref05_Last_m (k : Nat) (d : Unit × Unit) : evCode E_ref05_Last (tb (L_ref05_Last k) (R_ref05_Last k)) c_ref05_Last (bodyOf Try.f36) 0 (finK E_ref05_Last po_ref05_Last [.tmp 0]) (startSt pi_ref05_Last 3 d) = f_ref05_Last_m () d := by kernel_rfl
def g_ref05_Last (d : Unit × Unit) : Option (Unit × ((Int × Unit) × Unit)) := f_ref05_Last_m () d
theorem ok_ref05_Last : FnOk Try.prog ET0 36 pi_ref05_Last po_ref05_Last g_ref05_Last :=
  fn_of_body (E := E_ref05_Last) (envOk_add e0_ok (typed_ok ok_ref05_Start)) (fn := Try.f36) Try.func36 (by kernel_rfl) (by kernel_rfl) [.tmp 0] (by kernel_rfl) (by kernel_rfl) (by decide) rfl c_ref05_Last L_ref05_Last R_ref05_Last
    (by intro x hx; cases hx) (by intro k x hx; cases hx) (by intro x hx; cases hx) (by intro k x hx; cases hx) (fun d out h => ⟨0, (q_ref05_Last_m 0 d).trans h⟩)

/- horologe/horologeref05.Month -/
@[reducible] def pi_ref05_Month : PSh := ⟨[], [.mk false [.v (.int .i64)], .mk false [.v (.int .i64)]]⟩
@[reducible] def po_ref05_Month : PSh := ⟨[], [.mk false [.v (.int .i64)]]⟩
def f_ref05_Month_m (T : Unit) (d : Unit × ((Int × Unit) × ((Int × Unit) × Unit))) : Option (Unit × ((Int × Unit) × Unit)) :=
  let x1 : (List Int) := ([(31 : Int), (28 : Int), (31 : Int), (30 : Int), (31 : Int), (30 : Int), (31 : Int), (31 : Int), (30 : Int), (31 : Int), (30 : Int), (31 : Int)] : List Int)
  let x2 : Bool := (d.2.2.1.1 == (2 : Int))
  bif x2 then (
  (g_ref05_Leap ((), ((d.2.1.1, ()), ()))).bind fun x3 =>
  bif x3.2.1.1 then (
  some ((), (((29 : Int), ()), ())))
  else (
  let x4 : Int := (isub .i64 d.2.2.1.1 (1 : Int))
  bif decide ((0 : Int) ≤ x4) && decide (x4 < (x1.length : Int)) then (
  some ((), (((gd (.int .i64) x1 x4), ()), ())))
  else none))
  else (
  let x5 : Int := (isub .i64 d.2.2.1.1 (1 : Int))
  bif decide ((0 : Int) ≤ x5) && decide (x5 < (x1.length : Int)) then (
  some ((), (((gd (.int .i64) x1 x5), ()), ())))
  else none)
def c_ref05_Month : List Nat := []
def L_ref05_Month (_ : Nat) : Pts po_ref05_Month.den := []
def R_ref05_Month (_ : Nat) : PtsR po_ref05_Month.den := []
def E_ref05_Month : Env := (E0.add 89 (typedSem pi_ref05_Leap po_ref05_Leap g_ref05_Leap))
theorem q_ref05_Month_m (k : Nat) (d : Unit × ((Int × Unit) × ((Int × Unit) × Unit))) : evCode E_ref05_Month (tb (L_ref05_Month k) (R_ref05_Month k)) c_ref05_Month (bodyOf Try.f60) 0 (finK E_ref05_Month po_ref05_Month [.tmp 4]) (startSt pi_ref05_Month 18 d) = f_ref05_Month_m () d := by kernel_rfl
def g_ref05_Month (d : Unit × ((Int × Unit) × ((Int × Unit) × Unit))) : Option (Unit × ((Int × Unit) × Unit)) := f_ref05_Month_m () d
theorem ok_ref05_Month : FnOk Try.prog ET0 60 pi_ref05_Month po_ref05_Month g_ref05_Month :=
  fn_of_body (E := E_ref05_Month) (envOk_add e0_ok (typed_ok ok_ref05_Leap)) (fn := Try.f60) Try.func60 (by kernel_rfl) (by kernel_rfl) [.tmp 4] (by kernel_rfl) (by kernel_rfl) (by decide) rfl c_ref05_Month L_ref05_Month R_ref05_Month
    (by intro x hx; cases hx) (by intro k x hx; cases hx) (by intro x hx; cases hx) (by intro k x hx; cases hx) (fun d out h => ⟨0, (q_ref05_Month_m 0 d).trans h⟩)

/- horologe/horologeref05.Date -/
@[reducible] def pi_ref05_Date : PSh := ⟨[], [.mk false [.v (.int .i64)]]⟩
@[reducible] def po_ref05_Date : PSh := ⟨[], [.mk false [.v (.int .i64)], .mk false [.v (.int .i64)], .mk false [.v (.int .i64)]]⟩
@[reducible] def TT_ref05_Date : Type := (((Unit × ((Int × Unit) × ((Int × Unit) × Unit))) → Option (Unit × ((Int × Unit) × ((Int × Unit) × ((Int × Unit) × Unit))))) × (((Unit × ((Int × Unit) × ((Int × Unit) × Unit))) → Option (Unit × ((Int × Unit) × ((Int × Unit) × ((Int × Unit) × Unit))))) × (((Unit × ((Int × Unit) × ((Int × Unit) × Unit))) → Option (Unit × ((Int × Unit) × ((Int × Unit) × ((Int × Unit) × Unit))))) × (((Unit × ((Int × Unit) × ((Int × Unit) × ((Int × Unit) × Unit)))) → Option (Unit × ((Int × Unit) × ((Int × Unit) × ((Int × Unit) × Unit))))) × Unit))))
@[reducible] def sh_ref05_Date_3 : PSh := ⟨[], [.mk false [.v (.int .i64)], .any, .any, .any, .any, .mk false [.v (.int .i64)], .any, .any, .any, .any, .any, .any, .any, .any, .any, .any, .any, .any, .any, .any, .any, .any, .any, .any, .any, .any, .any, .any, .any, .any, .any, .any, .any, .any, .any, .any, .any, .any, .any, .any, .any, .any, .any, .any, .any]⟩
@[reducible] def sh_ref05_Date_8 : PSh := ⟨[], [.mk false [.v (.int .i64)], .any, .any, .any, .any, .mk false [.v (.int .i64)], .any, .any, .any, .any, .any, .any, .any, .any, .any, .any, .any, .any, .any, .any, .any, .any, .any, .any, .any, .any, .any, .any, .any, .any, .any, .any, .any, .any, .any, .any, .any, .any, .any, .any, .any, .any, .any, .any, .any]⟩
@[reducible] def sh_ref05_Date_13 : PSh := ⟨[], [.mk false [.v (.int .i64)], .any, .any, .any, .any, .mk false [.v (.int .i64)], .any, .any, .any, .any, .any, .any, .any, .any, .any, .any, .any, .any, .any, .any, .any, .any, .any, .any, .any, .any, .any, .any, .any, .any, .any, .any, .any, .any, .any, .any, .any, .any, .any, .any, .any, .any, .any, .any, .any]⟩
@[reducible] def sh_ref05_Date_19 : PSh := ⟨[], [.mk false [.v (.int .i64)], .any, .any, .any, .any, .mk false [.v (.int .i64)], .mk false [.v (.int .i64)], .any, .any, .any, .any, .any, .any, .any, .any, .any, .any, .any, .any, .any, .any, .any, .any, .any, .any, .any, .any, .any, .any, .any, .any, .any, .any, .any, .any, .any, .any, .any, .any, .any, .any, .any, .any, .any, .any]⟩
def f_ref05_Date_p3 (T : TT_ref05_Date) (d : Unit × ((Int × Unit) × ((Int × Unit) × Unit))) : Option (Unit × ((Int × Unit) × ((Int × Unit) × ((Int × Unit) × Unit)))) :=
  let x1 : Bool := (decide (d.2.1.1 < (0 : Int)))
  bif x1 then (
  let x2 : Int := (iadd .i64 d.2.1.1 (146097 : Int))
  let x3 : Int := (isub .i64 d.2.2.1.1 (400 : Int))
  (T.1 ((), ((x2, ()), ((x3, ()), ())))))
  else (
  (T.2.1 ((), ((d.2.1.1, ()), ((d.2.2.1.1, ()), ())))))
def f_ref05_Date_p8 (T : TT_ref05_Date) (d : Unit × ((Int × Unit) × ((Int × Unit) × Unit))) : Option (Unit × ((Int × Unit) × ((Int × Unit) × ((Int × Unit) × Unit)))) :=
  let x4 : Bool := (decide (d.2.1.1 ≥ (146097 : Int)))
  bif x4 then (
  let x5 : Int := (isub .i64 d.2.1.1 (146097 : Int))
  let x6 : Int := (iadd .i64 d.2.2.1.1 (400 : Int))
  (T.2.1 ((), ((x5, ()), ((x6, ()), ())))))
  else (
  (T.2.2.1 ((), ((d.2.1.1, ()), ((d.2.2.1.1, ()), ())))))
def f_ref05_Date_p13 (T : TT_ref05_Date) (d : Unit × ((Int × Unit) × ((Int × Unit) × Unit))) : Option (Unit × ((Int × Unit) × ((Int × Unit) × ((Int × Unit) × Unit)))) :=
  (g_ref05_Days ((), ((d.2.2.1.1, ()), ()))).bind fun x7 =>
  let x8 : Bool := (decide (d.2.1.1 ≥ x7.2.1.1))
  bif x8 then (
  (g_ref05_Days ((), ((d.2.2.1.1, ()), ()))).bind fun x9 =>
  let x10 : Int := (isub .i64 d.2.1.1 x9.2.1.1)
  let x11 : Int := (iadd .i64 d.2.2.1.1 (1 : Int))
  (T.2.2.1 ((), ((x10, ()), ((x11, ()), ())))))
  else (
  (T.2.2.2.1 ((), ((d.2.1.1, ()), ((d.2.2.1.1, ()), (((1 : Int), ()), ()))))))
def f_ref05_Date_p19 (T : TT_ref05_Date) (d : Unit × ((Int × Unit) × ((Int × Unit) × ((Int × Unit) × Unit)))) : Option (Unit × ((Int × Unit) × ((Int × Unit) × ((Int × Unit) × Unit)))) :=
  (g_ref05_Month ((), ((d.2.2.1.1, ()), ((d.2.2.2.1.1, ()), ())))).bind fun x12 =>
  let x13 : Bool := (decide (d.2.1.1 ≥ x12.2.1.1))
  bif x13 then (
  (g_ref05_Month ((), ((d.2.2.1.1, ()), ((d.2.2.2.1.1, ()), ())))).bind fun x14 =>
  let x15 : Int := (isub .i64 d.2.1.1 x14.2.1.1)
  let x16 : Int := (iadd .i64 d.2.2.2.1.1 (1 : Int))
  (T.2.2.2.1 ((), ((x15, ()), ((d.2.2.1.1, ()), ((x16, ()), ()))))))
  else (
  let x17 : Int := (iadd .i64 d.2.1.1 (1 : Int))
  some ((), ((d.2.2.1.1, ()), ((d.2.2.2.1.1, ()), ((x17, ()), ())))))
def f_ref05_Date_t : Nat → TT_ref05_Date
  | 0 => (fun _ => none, (fun _ => none, (fun _ => none, (fun _ => none, ()))))
  | k + 1 => (f_ref05_Date_p3 (f_ref05_Date_t k), (f_ref05_Date_p8 (f_ref05_Date_t k), (f_ref05_Date_p13 (f_ref05_Date_t k), (f_ref05_Date_p19 (f_ref05_Date_t k), ()))))
theorem t_ref05_Date (k : Nat) : f_ref05_Date_t (k + 1) = (f_ref05_Date_p3 (f_ref05_Date_t k), (f_ref05_Date_p8 (f_ref05_Date_t k), (f_ref05_Date_p13 (f_ref05_Date_t k), (f_ref05_Date_p19 (f_ref05_Date_t k), ())))) := rfl
def f_ref05_Date_m (T : TT_ref05_Date) (d : Unit × ((Int × Unit) × Unit)) : Option (Unit × ((Int × Unit) × ((Int × Unit) × ((Int × Unit) × Unit)))) :=
  (T.1 ((), ((d.2.1.1, ()), (((1970 : Int), ()), ()))))
def c_ref05_Date : List Nat := []
def L_ref05_Date (k : Nat) : Pts po_ref05_Date.den := [(3, ⟨sh_ref05_Date_3, (f_ref05_Date_t k).1⟩), (8, ⟨sh_ref05_Date_8, (f_ref05_Date_t k).2.1⟩), (13, ⟨sh_ref05_Date_13, (f_ref05_Date_t k).2.2.1⟩), (19, ⟨sh_ref05_Date_19, (f_ref05_Date_t k).2.2.2.1⟩)]
def R_ref05_Date (_ : Nat) : PtsR po_ref05_Date.den := []
def E_ref05_Date : Env := ((E0.add 59 (typedSem pi_ref05_Days po_ref05_Days g_ref05_Days)).add 60 (typedSem pi_ref05_Month po_ref05_Month g_ref05_Month))
theorem q_ref05_Date_3 (k : Nat) (d : Unit × ((Int × Unit) × ((Int × Unit) × Unit))) : evAt E_ref05_Date (tb (L_ref05_Date k) (R_ref05_Date k)) c_ref05_Date 3 (bodyOf Try.f37) 0 (finK E_ref05_Date po_ref05_Date [.tmp 2, .tmp 3, .tmp 4]) (ptSt sh_ref05_Date_3 d) = f_ref05_Date_p3 (f_ref05_Date_t k) d := by kernel_rfl
theorem q_ref05_Date_8 (k : Nat) (d : Unit × ((Int × Unit) × ((Int × Unit) × Unit))) : evAt E_ref05_Date (tb (L_ref05_Date k) (R_ref05_Date k)) c_ref05_Date 8 (bodyOf Try.f37) 0 (finK E_ref05_Date po_ref05_Date [.tmp 2, .tmp 3, .tmp 4]) (ptSt sh_ref05_Date_8 d) = f_ref05_Date_p8 (f_ref05_Date_t k) d := by kernel_rfl
theorem q_ref05_Date_13 (k : Nat) (d : Unit × ((Int × Unit) × ((Int × Unit) × Unit))) : evAt E_ref05_Date (tb (L_ref05_Date k) (R_ref05_Date k)) c_ref05_Date 13 (bodyOf Try.f37) 0 (finK E_ref05_Date po_ref05_Date [.tmp 2, .tmp 3, .tmp 4]) (ptSt sh_ref05_Date_13 d) = f_ref05_Date_p13 (f_ref05_Date_t k) d := by kernel_rfl
theorem q_ref05_Date_19 (k : Nat) (d : Unit × ((Int × Unit) × ((Int × Unit) × ((Int × Unit) × Unit)))) : evAt E_ref05_Date (tb (L_ref05_Date k) (R_ref05_Date k)) c_ref05_Date 19 (bodyOf Try.f37) 0 (finK E_ref05_Date po_ref05_Date [.tmp 2, .tmp 3, .tmp 4]) (ptSt sh_ref05_Date_19 d) = f_ref05_Date_p19 (f_ref05_Date_t k) d := by kernel_rfl
theorem q_ref05_Date_m (k : Nat) (d : Unit × ((Int × Unit) × Unit)) : evCode E_ref05_Date (tb (L_ref05_Date k) (R_ref05_Date k)) c_ref05_Date (bodyOf Try.f37) 0 (finK E_ref05_Date po_ref05_Date [.tmp 2, .tmp 3, .tmp 4]) (startSt pi_ref05_Date 45 d) = f_ref05_Date_m (f_ref05_Date_t k) d := by kernel_rfl
theorem go_ref05_Date (F : Unit × ((Int × Unit) × Unit) → Option (Unit × ((Int × Unit) × ((Int × Unit) × ((Int × Unit) × Unit))))) (hF : ∀ d out, F d = some out → ∃ k, f_ref05_Date_m (f_ref05_Date_t k) d = some out) : FnOk Try.prog ET0 37 pi_ref05_Date po_ref05_Date F :=
  fn_of_body (E := E_ref05_Date) (envOk_add (envOk_add e0_ok (typed_ok ok_ref05_Days)) (typed_ok ok_ref05_Month)) (fn := Try.f37) Try.func37 (by kernel_rfl) (by kernel_rfl) [.tmp 2, .tmp 3, .tmp 4] (by kernel_rfl) (by kernel_rfl) (by decide) rfl c_ref05_Date L_ref05_Date R_ref05_Date
    (by intro x hx d; simp only [L_ref05_Date, List.mem_cons, List.not_mem_nil, or_false] at hx; rcases hx with rfl | rfl | rfl | rfl; rfl; rfl; rfl; rfl)
    (by intro k x hx d out h; simp only [L_ref05_Date, List.mem_cons, List.not_mem_nil, or_false] at hx; rcases hx with rfl | rfl | rfl | rfl; exact (q_ref05_Date_3 k d).trans h; exact (q_ref05_Date_8 k d).trans h; exact (q_ref05_Date_13 k d).trans h; exact (q_ref05_Date_19 k d).trans h)
    (by intro x hx; cases hx)
    (by intro k x hx; cases hx)
    (by intro d out h; obtain ⟨k, hk⟩ := hF d out h; exact ⟨k, (q_ref05_Date_m k d).trans hk⟩)
def g_ref05_Date (d : Unit × ((Int × Unit) × Unit)) : Option (Unit × ((Int × Unit) × ((Int × Unit) × ((Int × Unit) × Unit)))) := lim fun k => f_ref05_Date_m (f_ref05_Date_t k) d
theorem ok_ref05_Date : FnOk Try.prog ET0 37 pi_ref05_Date po_ref05_Date g_ref05_Date := go_ref05_Date g_ref05_Date fun d out h => lim_some h

/- horologe/horologeref10.Check -/
@[reducible] def pi_ref10_Check : PSh := ⟨[], [.mk true [.v (.sl (.pair (.int .i64) (.int .i64))), .v (.int .i64), .v (.int .i64)]]⟩
@[reducible] def po_ref10_Check : PSh := ⟨[], [.mk false [.v (.int .i64)]]⟩
@[reducible] def TT_ref10_Check : Type := ((((((List (Int × Int)) × (Int × (Int × Unit))) × Unit) × (Unit × ((Int × Unit) × Unit))) → Option (Unit × ((Int × Unit) × Unit))) × ((((((List (Int × Int)) × (Int × (Int × Unit))) × Unit) × (Unit × ((Int × Unit) × Unit))) → Option (Unit × ((Int × Unit) × Unit))) × ((((((List (Int × Int)) × (Int × (Int × Unit))) × Unit) × (Unit × ((Int × Unit) × Unit))) → Option (Unit × ((Int × Unit) × Unit))) × Unit)))
@[reducible] def sh_ref10_Check_9 : PSh := ⟨[.var 33 [.v (.sl (.pair (.int .i64) (.int .i64))), .v (.int .i64), .v (.int .i64)]], [.any, .mk false [.ref 0 0], .any, .mk false [.v (.int .i64)], .any, .any, .any, .any, .any, .any, .any, .any, .any, .any, .any, .any, .any, .any, .any, .any, .any, .any, .any, .any, .any, .any, .any, .any, .any, .any, .any, .any, .any, .any, .any, .any, .any, .any, .any, .any, .any, .any, .any, .any, .any, .any, .any, .any, .any, .any, .any, .any, .any, .any, .any, .any, .any, .any, .any, .any, .any, .any, .any, .any, .any, .any, .any, .any, .any, .any, .any, .any, .any, .any, .any, .any, .any, .any, .any, .any, .any, .any, .any, .any, .any, .any, .any, .any, .any, .any, .any, .any, .any, .any, .any, .any, .any, .any, .any, .any, .any, .any, .any, .any, .any, .any, .any, .any, .any, .any, .any, .any, .any, .any, .any, .any, .any, .any, .any, .any, .any, .any, .any, .any, .any, .any, .any, .any, .any, .any, .any, .any, .any, .any, .any, .any]⟩
@[reducible] def sh_ref10_Check_21 : PSh := ⟨[.var 33 [.v (.sl (.pair (.int .i64) (.int .i64))), .v (.int .i64), .v (.int .i64)]], [.any, .mk false [.ref 0 0], .any, .any, .any, .mk false [.v (.int .i64)], .any, .any, .any, .any, .any, .any, .any, .any, .any, .any, .any, .any, .any, .any, .any, .any, .any, .any, .any, .any, .any, .any, .any, .any, .any, .any, .any, .any, .any, .any, .any, .any, .any, .any, .any, .any, .any, .any, .any, .any, .any, .any, .any, .any, .any, .any, .any, .any, .any, .any, .any, .any, .any, .any, .any, .any, .any, .any, .any, .any, .any, .any, .any, .any, .any, .any, .any, .any, .any, .any, .any, .any, .any, .any, .any, .any, .any, .any, .any, .any, .any, .any, .any, .any, .any, .any, .any, .any, .any, .any, .any, .any, .any, .any, .any, .any, .any, .any, .any, .any, .any, .any, .any, .any, .any, .any, .any, .any, .any, .any, .any, .any, .any, .any, .any, .any, .any, .any, .any, .any, .any, .any, .any, .any, .any, .any, .any, .any, .any, .any]⟩
@[reducible] def sh_ref10_Check_30 : PSh := ⟨[.var 33 [.v (.sl (.pair (.int .i64) (.int .i64))), .v (.int .i64), .v (.int .i64)]], [.any, .mk false [.ref 0 0], .any, .any, .any, .any, .any, .any, .any, .mk false [.v (.int .i64)], .any, .any, .any, .any, .any, .any, .any, .any, .any, .any, .any, .any, .any, .any, .any, .any, .any, .any, .any, .any, .any, .any, .any, .any, .any, .any, .any, .any, .any, .any, .any, .any, .any, .any, .any, .any, .any, .any, .any, .any, .any, .any, .any, .any, .any, .any, .any, .any, .any, .any, .any, .any, .any, .any, .any, .any, .any, .any, .any, .any, .any, .any, .any, .any, .any, .any, .any, .any, .any, .any, .any, .any, .any, .any, .any, .any, .any, .any, .any, .any, .any, .any, .any, .any, .any, .any, .any, .any, .any, .any, .any, .any, .any, .any, .any, .any, .any, .any, .any, .any, .any, .any, .any, .any, .any, .any, .any, .any, .any, .any, .any, .any, .any, .any, .any, .any, .any, .any, .any, .any, .any, .any, .any, .any, .any, .any]⟩
def f_ref10_Check_p9 (T : TT_ref10_Check) (d : (((List (Int × Int)) × (Int × (Int × Unit))) × Unit) × (Unit × ((Int × Unit) × Unit))) : Option (Unit × ((Int × Unit) × Unit)) :=
  let x5 : Int := (d.1.1.1.length : Int)
  let x6 : Bool := (decide (d.2.2.1.1 < x5))
  bif x6 then (
  bif decide ((0 : Int) ≤ d.2.2.1.1) && decide (d.2.2.1.1 < (d.1.1.1.length : Int)) then (
  (g_ref05_Start ((), (((1900 : Int), ()), ()))).bind fun x7 =>
  let x8 : Bool := (decide ((gd_i64_i64 d.1.1.1 d.2.2.1.1).1 < x7.2.1.1))
  bif x8 then (
  some ((), (((13 : Int), ()), ())))
  else (
  (g_ref05_Last ((), ())).bind fun x9 =>
  let x10 : Bool := (decide ((gd_i64_i64 d.1.1.1 d.2.2.1.1).1 > x9.2.1.1))
  bif x10 then (
  some ((), (((13 : Int), ()), ())))
  else (
  let x11 : Int := (iadd .i64 d.2.2.1.1 (1 : Int))
  (T.1 (((d.1.1.1, (d.1.1.2.1, (d.1.1.2.2.1, ()))), ()), ((), ((x11, ()), ())))))))
  else none)
  else (
  let x12 : Bool := (decide (d.1.1.2.1 < (0 : Int)))
  bif x12 then (
  some ((), (((1 : Int), ()), ())))
  else (
  let x13 : Bool := (decide (d.1.1.2.1 > (1099511627776 : Int)))
  bif x13 then (
  some ((), (((1 : Int), ()), ())))
  else (
  let x14 : Bool := (decide (d.1.1.2.2.1 < (0 : Int)))
  bif x14 then (
  some ((), (((1 : Int), ()), ())))
  else (
  let x15 : Bool := (decide (d.1.1.2.2.1 > (1099511627776 : Int)))
  bif x15 then (
  some ((), (((1 : Int), ()), ())))
  else (
  (T.2.1 (((d.1.1.1, (d.1.1.2.1, (d.1.1.2.2.1, ()))), ()), ((), (((0 : Int), ()), ())))))))))
def f_ref10_Check_p21 (T : TT_ref10_Check) (d : (((List (Int × Int)) × (Int × (Int × Unit))) × Unit) × (Unit × ((Int × Unit) × Unit))) : Option (Unit × ((Int × Unit) × Unit)) :=
  let x16 : Int := (d.1.1.1.length : Int)
  let x17 : Bool := (decide (d.2.2.1.1 < x16))
  bif x17 then (
  bif decide ((0 : Int) ≤ d.2.2.1.1) && decide (d.2.2.1.1 < (d.1.1.1.length : Int)) then (
  (g_ref05_Date ((), (((gd_i64_i64 d.1.1.1 d.2.2.1.1).1, ()), ()))).bind fun x18 =>
  let x19 : Bool := (x18.2.2.2.1.1 != (1 : Int))
  bif x19 then (
  some ((), (((1 : Int), ()), ())))
  else (
  bif decide ((0 : Int) ≤ d.2.2.1.1) && decide (d.2.2.1.1 < (d.1.1.1.length : Int)) then (
  let x20 : Bool := (decide ((gd_i64_i64 d.1.1.1 d.2.2.1.1).2 < (0 : Int)))
  bif x20 then (
  some ((), (((1 : Int), ()), ())))
  else (
  bif decide ((0 : Int) ≤ d.2.2.1.1) && decide (d.2.2.1.1 < (d.1.1.1.length : Int)) then (
  let x21 : Bool := (decide ((gd_i64_i64 d.1.1.1 d.2.2.1.1).2 > (1000 : Int)))
  bif x21 then (
  some ((), (((1 : Int), ()), ())))
  else (
  let x22 : Int := (iadd .i64 d.2.2.1.1 (1 : Int))
  (T.2.1 (((d.1.1.1, (d.1.1.2.1, (d.1.1.2.2.1, ()))), ()), ((), ((x22, ()), ()))))))
  else none))
  else none))
  else none)
  else (
  (T.2.2.1 (((d.1.1.1, (d.1.1.2.1, (d.1.1.2.2.1, ()))), ()), ((), (((1 : Int), ()), ())))))
def f_ref10_Check_p30 (T : TT_ref10_Check) (d : (((List (Int × Int)) × (Int × (Int × Unit))) × Unit) × (Unit × ((Int × Unit) × Unit))) : Option (Unit × ((Int × Unit) × Unit)) :=
  let x23 : Int := (d.1.1.1.length : Int)
  let x24 : Bool := (decide (d.2.2.1.1 < x23))
  bif x24 then (
  let x25 : Int := (isub .i64 d.2.2.1.1 (1 : Int))
  bif decide ((0 : Int) ≤ x25) && decide (x25 < (d.1.1.1.length : Int)) then (
  bif decide ((0 : Int) ≤ d.2.2.1.1) && decide (d.2.2.1.1 < (d.1.1.1.length : Int)) then (
  let x26 : Bool := (decide ((gd_i64_i64 d.1.1.1 d.2.2.1.1).1 ≤ (gd_i64_i64 d.1.1.1 x25).1))
  bif x26 then (
  some ((), (((6 : Int), ()), ())))
  else (
  let x27 : Int := (iadd .i64 (gd_i64_i64 d.1.1.1 x25).2 (1 : Int))
  let x28 : Bool := ((gd_i64_i64 d.1.1.1 d.2.2.1.1).2 != x27)
  bif x28 then (
  let x29 : Int := (isub .i64 (gd_i64_i64 d.1.1.1 x25).2 (1 : Int))
  let x30 : Bool := ((gd_i64_i64 d.1.1.1 d.2.2.1.1).2 != x29)
  bif x30 then (
  some ((), (((6 : Int), ()), ())))
  else (
  let x31 : Int := (iadd .i64 d.2.2.1.1 (1 : Int))
  (T.2.2.1 (((d.1.1.1, (d.1.1.2.1, (d.1.1.2.2.1, ()))), ()), ((), ((x31, ()), ()))))))
  else (
  let x32 : Int := (iadd .i64 d.2.2.1.1 (1 : Int))
  (T.2.2.1 (((d.1.1.1, (d.1.1.2.1, (d.1.1.2.2.1, ()))), ()), ((), ((x32, ()), ())))))))
  else none)
  else none)
  else (
  some ((), (((0 : Int), ()), ())))
def f_ref10_Check_t : Nat → TT_ref10_Check
  | 0 => (fun _ => none, (fun _ => none, (fun _ => none, ())))
  | k + 1 => (f_ref10_Check_p9 (f_ref10_Check_t k), (f_ref10_Check_p21 (f_ref10_Check_t k), (f_ref10_Check_p30 (f_ref10_Check_t k), ())))
theorem t_ref10_Check (k : Nat) : f_ref10_Check_t (k + 1) = (f_ref10_Check_p9 (f_ref10_Check_t k), (f_ref10_Check_p21 (f_ref10_Check_t k), (f_ref10_Check_p30 (f_ref10_Check_t k), ()))) := rfl
def f_ref10_Check_m (T : TT_ref10_Check) (d : Unit × (((List (Int × Int)) × (Int × (Int × Unit))) × Unit)) : Option (Unit × ((Int × Unit) × Unit)) :=
  let x1 : Int := (d.2.1.1.length : Int)
  let x2 : Bool := (x1 == (0 : Int))
  bif x2 then (
  some ((), (((8 : Int), ()), ())))
  else (
  let x3 : Int := (d.2.1.1.length : Int)
  let x4 : Bool := (decide (x3 > (256 : Int)))
  bif x4 then (
  some ((), (((3 : Int), ()), ())))
  else (
  (T.1 (((d.2.1.1, (d.2.1.2.1, (d.2.1.2.2.1, ()))), ()), ((), (((0 : Int), ()), ()))))))
def c_ref10_Check : List Nat := []
def L_ref10_Check (k : Nat) : Pts po_ref10_Check.den := [(9, ⟨sh_ref10_Check_9, (f_ref10_Check_t k).1⟩), (21, ⟨sh_ref10_Check_21, (f_ref10_Check_t k).2.1⟩), (30, ⟨sh_ref10_Check_30, (f_ref10_Check_t k).2.2.1⟩)]
def R_ref10_Check (_ : Nat) : PtsR po_ref10_Check.den := []
def E_ref10_Check : Env := (((E0.add 35 (typedSem pi_ref05_Start po_ref05_Start g_ref05_Start)).add 36 (typedSem pi_ref05_Last po_ref05_Last g_ref05_Last)).add 37 (typedSem pi_ref05_Date po_ref05_Date g_ref05_Date))
theorem q_ref10_Check_9 (k : Nat) (d : (((List (Int × Int)) × (Int × (Int × Unit))) × Unit) × (Unit × ((Int × Unit) × Unit))) : evAt E_ref10_Check (tb (L_ref10_Check k) (R_ref10_Check k)) c_ref10_Check 9 (bodyOf Try.f8) 0 (finK E_ref10_Check po_ref10_Check [.tmp 2]) (ptSt sh_ref10_Check_9 d) = f_ref10_Check_p9 (f_ref10_Check_t k) d := by kernel_rfl
theorem q_ref10_Check_21 (k : Nat) (d : (((List (Int × Int)) × (Int × (Int × Unit))) × Unit) × (Unit × ((Int × Unit) × Unit))) : evAt E_ref10_Check (tb (L_ref10_Check k) (R_ref10_Check k)) c_ref10_Check 21 (bodyOf Try.f8) 0 (finK E_ref10_Check po_ref10_Check [.tmp 2]) (ptSt sh_ref10_Check_21 d) = f_ref10_Check_p21 (f_ref10_Check_t k) d := by kernel_rfl
theorem q_ref10_Check_30 (k : Nat) (d : (((List (Int × Int)) × (Int × (Int × Unit))) × Unit) × (Unit × ((Int × Unit) × Unit))) : evAt E_ref10_Check (tb (L_ref10_Check k) (R_ref10_Check k)) c_ref10_Check 30 (bodyOf Try.f8) 0 (finK E_ref10_Check po_ref10_Check [.tmp 2]) (ptSt sh_ref10_Check_30 d) = f_ref10_Check_p30 (f_ref10_Check_t k) d := by kernel_rfl
theorem q_ref10_Check_m (k : Nat) (d : Unit × (((List (Int × Int)) × (Int × (Int × Unit))) × Unit)) : evCode E_ref10_Check (tb (L_ref10_Check k) (R_ref10_Check k)) c_ref10_Check (bodyOf Try.f8) 0 (finK E_ref10_Check po_ref10_Check [.tmp 2]) (startSt pi_ref10_Check 136 d) = f_ref10_Check_m (f_ref10_Check_t k) d := by kernel_rfl
theorem go_ref10_Check (F : Unit × (((List (Int × Int)) × (Int × (Int × Unit))) × Unit) → Option (Unit × ((Int × Unit) × Unit))) (hF : ∀ d out, F d = some out → ∃ k, f_ref10_Check_m (f_ref10_Check_t k) d = some out) : FnOk Try.prog ET0 8 pi_ref10_Check po_ref10_Check F :=
  fn_of_body (E := E_ref10_Check) (envOk_add (envOk_add (envOk_add e0_ok (typed_ok ok_ref05_Start)) (typed_ok ok_ref05_Last)) (typed_ok ok_ref05_Date)) (fn := Try.f8) Try.func8 (by kernel_rfl) (by kernel_rfl) [.tmp 2] (by kernel_rfl) (by kernel_rfl) (by decide) rfl c_ref10_Check L_ref10_Check R_ref10_Check
    (by intro x hx d; simp only [L_ref10_Check, List.mem_cons, List.not_mem_nil, or_false] at hx; rcases hx with rfl | rfl | rfl; rfl; rfl; rfl)
    (by intro k x hx d out h; simp only [L_ref10_Check, List.mem_cons, List.not_mem_nil, or_false] at hx; rcases hx with rfl | rfl | rfl; exact (q_ref10_Check_9 k d).trans h; exact (q_ref10_Check_21 k d).trans h; exact (q_ref10_Check_30 k d).trans h)
    (by intro x hx; cases hx)
    (by intro k x hx; cases hx)
    (by intro d out h; obtain ⟨k, hk⟩ := hF d out h; exact ⟨k, (q_ref10_Check_m k d).trans hk⟩)
def g_ref10_Check (d : Unit × (((List (Int × Int)) × (Int × (Int × Unit))) × Unit)) : Option (Unit × ((Int × Unit) × Unit)) := lim fun k => f_ref10_Check_m (f_ref10_Check_t k) d
theorem ok_ref10_Check : FnOk Try.prog ET0 8 pi_ref10_Check po_ref10_Check g_ref10_Check := go_ref10_Check g_ref10_Check fun d out h => lim_some h

/- horologe/horologenum.Num -/
@[reducible] def pi_hnum_Num : PSh := ⟨[], [.mk false [.v .err]]⟩
@[reducible] def po_hnum_Num : PSh := ⟨[], [.mk false [.v (.int .i64)]]⟩
def f_hnum_Num_m (T : Unit) (d : Unit × (((Option Int) × Unit) × Unit)) : Option (Unit × ((Int × Unit) × Unit)) :=
  bif d.2.1.1.isNone then (
  some ((), (((0 : Int), ()), ())))
  else (
  bif d.2.1.1.isSome then (
  let x1 : Bool := ((d.2.1.1.getD 0) != (0 : Int))
  bif x1 then (
  some ((), (((d.2.1.1.getD 0), ()), ())))
  else (
  some ((), (((-1 : Int), ()), ()))))
  else (
  some ((), (((-1 : Int), ()), ()))))
def c_hnum_Num : List Nat := []
def L_hnum_Num (_ : Nat) : Pts po_hnum_Num.den := []
def R_hnum_Num (_ : Nat) : PtsR po_hnum_Num.den := []
def E_hnum_Num : Env := E0
theorem q_hnum_Num_m (k : Nat) (d : Unit × (((Option Int) × Unit) × Unit)) : evCode E_hnum_Num (tb (L_hnum_Num k) (R_hnum_Num k)) c_hnum_Num (bodyOf Try.f9) 0 (finK E_hnum_Num po_hnum_Num [.tmp 2]) (startSt pi_hnum_Num 18 d) = f_hnum_Num_m () d := by kernel_rfl
def g_hnum_Num (d : Unit × (((Option Int) × Unit) × Unit)) : Option (Unit × ((Int × Unit) × Unit)) := f_hnum_Num_m () d
theorem ok_hnum_Num : FnOk Try.prog ET0 9 pi_hnum_Num po_hnum_Num g_hnum_Num :=
  fn_of_body (E := E_hnum_Num) e0_ok (fn := Try.f9) Try.func9 (by kernel_rfl) (by kernel_rfl) [.tmp 2] (by kernel_rfl) (by kernel_rfl) (by decide) rfl c_hnum_Num L_hnum_Num R_hnum_Num
    (by intro x hx; cases hx) (by intro k x hx; cases hx) (by intro x hx; cases hx) (by intro k x hx; cases hx) (fun d out h => ⟨0, (q_hnum_Num_m 0 d).trans h⟩)

/- (*horologe/leap.Table).Rows -/
@[reducible] def pi_leap_Table_Rows : PSh := ⟨[], [.mk false [.v (.nptr (.pair (.sl (.pair (.int .i64) (.int .i64))) (.pair (.int .i64) (.int .i64))))]]⟩
@[reducible] def po_leap_Table_Rows : PSh := ⟨[.row 40 (.pair (.int .i64) (.int .i64))], [.mk false [.osl 0]]⟩
def f_leap_Table_Rows_m (T : Unit) (d : Unit × (((Option ((List (Int × Int)) × (Int × Int))) × Unit) × Unit)) : Option (((List (Int × Int)) × Unit) × (Unit × Unit)) :=
  (g_leap_Table_list ((), ((d.2.1.1, ()), ()))).bind fun x1 =>
  (g_slices_Clone_leap_Row_leap_Row ((), ((x1.2.1.1, ()), ()))).bind fun x2 =>
  some ((x2.1.1, ()), ((), ()))
def c_leap_Table_Rows : List Nat := []
def L_leap_Table_Rows (_ : Nat) : Pts po_leap_Table_Rows.den := []
def R_leap_Table_Rows (_ : Nat) : PtsR po_leap_Table_Rows.den := []
def E_leap_Table_Rows : Env := ((E0.add 34 (typedSem pi_slices_Clone_leap_Row_leap_Row po_slices_Clone_leap_Row_leap_Row g_slices_Clone_leap_Row_leap_Row)).add 41 (typedSem pi_leap_Table_list po_leap_Table_list g_leap_Table_list))
theorem q_leap_Table_Rows_m (k : Nat) (d : Unit × (((Option ((List (Int × Int)) × (Int × Int))) × Unit) × Unit)) : evCode E_leap_Table_Rows (tb (L_leap_Table_Rows k) (R_leap_Table_Rows k)) c_leap_Table_Rows (bodyOf Try.f12) 0 (finK E_leap_Table_Rows po_leap_Table_Rows [.tmp 2]) (startSt pi_leap_Table_Rows 6 d) = f_leap_Table_Rows_m () d := by kernel_rfl
def g_leap_Table_Rows (d : Unit × (((Option ((List (Int × Int)) × (Int × Int))) × Unit) × Unit)) : Option (((List (Int × Int)) × Unit) × (Unit × Unit)) := f_leap_Table_Rows_m () d
theorem ok_leap_Table_Rows : FnOk Try.prog ET0 12 pi_leap_Table_Rows po_leap_Table_Rows g_leap_Table_Rows :=
  fn_of_body (E := E_leap_Table_Rows) (envOk_add (envOk_add e0_ok (typed_ok ok_slices_Clone_leap_Row_leap_Row)) (typed_ok ok_leap_Table_list)) (fn := Try.f12) Try.func12 (by kernel_rfl) (by kernel_rfl) [.tmp 2] (by kernel_rfl) (by kernel_rfl) (by decide) rfl c_leap_Table_Rows L_leap_Table_Rows R_leap_Table_Rows
    (by intro x hx; cases hx) (by intro k x hx; cases hx) (by intro x hx; cases hx) (by intro k x hx; cases hx) (fun d out h => ⟨0, (q_leap_Table_Rows_m 0 d).trans h⟩)

/- horologe/horologeref10.Same -/
@[reducible] def pi_ref10_Same : PSh := ⟨[], [.mk true [.v (.sl (.pair (.int .i64) (.int .i64))), .v (.int .i64), .v (.int .i64)], .mk true [.v (.sl (.pair (.int .i64) (.int .i64))), .v (.int .i64), .v (.int .i64)]]⟩
@[reducible] def po_ref10_Same : PSh := ⟨[], [.mk false [.v .bool]]⟩
@[reducible] def TT_ref10_Same : Type := ((((((List (Int × Int)) × (Int × (Int × Unit))) × (((List (Int × Int)) × (Int × (Int × Unit))) × Unit)) × (Unit × (Unit × ((Int × Unit) × Unit)))) → Option (Unit × ((Bool × Unit) × Unit))) × Unit)
@[reducible] def sh_ref10_Same_6 : PSh := ⟨[.var 33 [.v (.sl (.pair (.int .i64) (.int .i64))), .v (.int .i64), .v (.int .i64)], .var 33 [.v (.sl (.pair (.int .i64) (.int .i64))), .v (.int .i64), .v (.int .i64)]], [.any, .any, .mk false [.ref 0 0], .mk false [.ref 1 0], .any, .mk false [.v (.int .i64)], .any, .any, .any, .any, .any, .any, .any, .any, .any, .any, .any, .any, .any, .any, .any, .any, .any, .any, .any, .any, .any, .any, .any, .any, .any, .any, .any, .any, .any, .any, .any, .any, .any, .any, .any, .any, .any, .any, .any]⟩
def f_ref10_Same_p6 (T : TT_ref10_Same) (d : (((List (Int × Int)) × (Int × (Int × Unit))) × (((List (Int × Int)) × (Int × (Int × Unit))) × Unit)) × (Unit × (Unit × ((Int × Unit) × Unit)))) : Option (Unit × ((Bool × Unit) × Unit)) :=
  let x6 : Int := (d.1.1.1.length : Int)
  let x7 : Bool := (decide (d.2.2.2.1.1 < x6))
  bif x7 then (
  bif decide ((0 : Int) ≤ d.2.2.2.1.1) && decide (d.2.2.2.1.1 < (d.1.1.1.length : Int)) then (
  bif decide ((0 : Int) ≤ d.2.2.2.1.1) && decide (d.2.2.2.1.1 < (d.1.2.1.1.length : Int)) then (
  let x8 : Bool := (!(((gd_i64_i64 d.1.1.1 d.2.2.2.1.1).1 == (gd_i64_i64 d.1.2.1.1 d.2.2.2.1.1).1) && (((gd_i64_i64 d.1.1.1 d.2.2.2.1.1).2 == (gd_i64_i64 d.1.2.1.1 d.2.2.2.1.1).2) && true)))
  bif x8 then (
  some ((), ((false, ()), ())))
  else (
  let x9 : Int := (iadd .i64 d.2.2.2.1.1 (1 : Int))
  (T.1 (((d.1.1.1, (d.1.1.2.1, (d.1.1.2.2.1, ()))), ((d.1.2.1.1, (d.1.2.1.2.1, (d.1.2.1.2.2.1, ()))), ())), ((), ((), ((x9, ()), ())))))))
  else none)
  else none)
  else (
  some ((), ((true, ()), ())))
def f_ref10_Same_t : Nat → TT_ref10_Same
  | 0 => (fun _ => none, ())
  | k + 1 => (f_ref10_Same_p6 (f_ref10_Same_t k), ())
theorem t_ref10_Same (k : Nat) : f_ref10_Same_t (k + 1) = (f_ref10_Same_p6 (f_ref10_Same_t k), ()) := rfl
def f_ref10_Same_m (T : TT_ref10_Same) (d : Unit × (((List (Int × Int)) × (Int × (Int × Unit))) × (((List (Int × Int)) × (Int × (Int × Unit))) × Unit))) : Option (Unit × ((Bool × Unit) × Unit)) :=
  let x1 : Int := (d.2.1.1.length : Int)
  let x2 : Int := (d.2.2.1.1.length : Int)
  let x3 : Bool := (x1 != x2)
  bif x3 then (
  some ((), ((false, ()), ())))
  else (
  let x4 : Bool := (d.2.1.2.1 != d.2.2.1.2.1)
  bif x4 then (
  some ((), ((false, ()), ())))
  else (
  let x5 : Bool := (d.2.1.2.2.1 != d.2.2.1.2.2.1)
  bif x5 then (
  some ((), ((false, ()), ())))
  else (
  (T.1 (((d.2.1.1, (d.2.1.2.1, (d.2.1.2.2.1, ()))), ((d.2.2.1.1, (d.2.2.1.2.1, (d.2.2.1.2.2.1, ()))), ())), ((), ((), (((0 : Int), ()), ()))))))))
def c_ref10_Same : List Nat := []
def L_ref10_Same (k : Nat) : Pts po_ref10_Same.den := [(6, ⟨sh_ref10_Same_6, (f_ref10_Same_t k).1⟩)]
def R_ref10_Same (_ : Nat) : PtsR po_ref10_Same.den := []
def E_ref10_Same : Env := E0
theorem q_ref10_Same_6 (k : Nat) (d : (((List (Int × Int)) × (Int × (Int × Unit))) × (((List (Int × Int)) × (Int × (Int × Unit))) × Unit)) × (Unit × (Unit × ((Int × Unit) × Unit)))) : evAt E_ref10_Same (tb (L_ref10_Same k) (R_ref10_Same k)) c_ref10_Same 6 (bodyOf Try.f38) 0 (finK E_ref10_Same po_ref10_Same [.tmp 4]) (ptSt sh_ref10_Same_6 d) = f_ref10_Same_p6 (f_ref10_Same_t k) d := by kernel_rfl
theorem q_ref10_Same_m (k : Nat) (d : Unit × (((List (Int × Int)) × (Int × (Int × Unit))) × (((List (Int × Int)) × (Int × (Int × Unit))) × Unit))) : evCode E_ref10_Same (tb (L_ref10_Same k) (R_ref10_Same k)) c_ref10_Same (bodyOf Try.f38) 0 (finK E_ref10_Same po_ref10_Same [.tmp 4]) (startSt pi_ref10_Same 45 d) = f_ref10_Same_m (f_ref10_Same_t k) d := by kernel_rfl
theorem go_ref10_Same (F : Unit × (((List (Int × Int)) × (Int × (Int × Unit))) × (((List (Int × Int)) × (Int × (Int × Unit))) × Unit)) → Option (Unit × ((Bool × Unit) × Unit))) (hF : ∀ d out, F d = some out → ∃ k, f_ref10_Same_m (f_ref10_Same_t k) d = some out) : FnOk Try.prog ET0 38 pi_ref10_Same po_ref10_Same F :=
  fn_of_body (E := E_ref10_Same) e0_ok (fn := Try.f38) Try.func38 (by kernel_rfl) (by kernel_rfl) [.tmp 4] (by kernel_rfl) (by kernel_rfl) (by decide) rfl c_ref10_Same L_ref10_Same R_ref10_Same
    (by intro x hx d; simp only [L_ref10_Same, List.mem_cons, List.not_mem_nil, or_false] at hx; subst hx; rfl)
    (by intro k x hx d out h; simp only [L_ref10_Same, List.mem_cons, List.not_mem_nil, or_false] at hx; subst hx; exact (q_ref10_Same_6 k d).trans h)
    (by intro x hx; cases hx)
    (by intro k x hx; cases hx)
    (by intro d out h; obtain ⟨k, hk⟩ := hF d out h; exact ⟨k, (q_ref10_Same_m k d).trans hk⟩)
def g_ref10_Same (d : Unit × (((List (Int × Int)) × (Int × (Int × Unit))) × (((List (Int × Int)) × (Int × (Int × Unit))) × Unit))) : Option (Unit × ((Bool × Unit) × Unit)) := lim fun k => f_ref10_Same_m (f_ref10_Same_t k) d
theorem ok_ref10_Same : FnOk Try.prog ET0 38 pi_ref10_Same po_ref10_Same g_ref10_Same := go_ref10_Same g_ref10_Same fun d out h => lim_some h

/- (*horologe/leap.Table).Updated -/
@[reducible] def pi_leap_Table_Updated : PSh := ⟨[], [.mk false [.v (.nptr (.pair (.sl (.pair (.int .i64) (.int .i64))) (.pair (.int .i64) (.int .i64))))]]⟩
@[reducible] def po_leap_Table_Updated : PSh := ⟨[], [.mk false [.v (.int .i64)]]⟩
def f_leap_Table_Updated_m (T : Unit) (d : Unit × (((Option ((List (Int × Int)) × (Int × Int))) × Unit) × Unit)) : Option (Unit × ((Int × Unit) × Unit)) :=
  bif d.2.1.1.isNone then (
  some ((), (((0 : Int), ()), ())))
  else (
  d.2.1.1.bind fun x1 =>
  some ((), ((x1.2.1, ()), ())))
def c_leap_Table_Updated : List Nat := []
def L_leap_Table_Updated (_ : Nat) : Pts po_leap_Table_Updated.den := []
def R_leap_Table_Updated (_ : Nat) : PtsR po_leap_Table_Updated.den := []
def E_leap_Table_Updated : Env := E0
theorem q_leap_Table_Updated_m (k : Nat) (d : Unit × (((Option ((List (Int × Int)) × (Int × Int))) × Unit) × Unit)) : evCode E_leap_Table_Updated (tb (L_leap_Table_Updated k) (R_leap_Table_Updated k)) c_leap_Table_Updated (bodyOf Try.f39) 0 (finK E_leap_Table_Updated po_leap_Table_Updated [.tmp 2]) (startSt pi_leap_Table_Updated 9 d) = f_leap_Table_Updated_m () d := by kernel_rfl
def g_leap_Table_Updated (d : Unit × (((Option ((List (Int × Int)) × (Int × Int))) × Unit) × Unit)) : Option (Unit × ((Int × Unit) × Unit)) := f_leap_Table_Updated_m () d
theorem ok_leap_Table_Updated : FnOk Try.prog ET0 39 pi_leap_Table_Updated po_leap_Table_Updated g_leap_Table_Updated :=
  fn_of_body (E := E_leap_Table_Updated) e0_ok (fn := Try.f39) Try.func39 (by kernel_rfl) (by kernel_rfl) [.tmp 2] (by kernel_rfl) (by kernel_rfl) (by decide) rfl c_leap_Table_Updated L_leap_Table_Updated R_leap_Table_Updated
    (by intro x hx; cases hx) (by intro k x hx; cases hx) (by intro x hx; cases hx) (by intro k x hx; cases hx) (fun d out h => ⟨0, (q_leap_Table_Updated_m 0 d).trans h⟩)

/- (*horologe/leap.Table).Expires -/
@[reducible] def pi_leap_Table_Expires : PSh := ⟨[], [.mk false [.v (.nptr (.pair (.sl (.pair (.int .i64) (.int .i64))) (.pair (.int .i64) (.int .i64))))]]⟩
@[reducible] def po_leap_Table_Expires : PSh := ⟨[], [.mk false [.v (.int .i64)]]⟩
def f_leap_Table_Expires_m (T : Unit) (d : Unit × (((Option ((List (Int × Int)) × (Int × Int))) × Unit) × Unit)) : Option (Unit × ((Int × Unit) × Unit)) :=
  bif d.2.1.1.isNone then (
  some ((), (((0 : Int), ()), ())))
  else (
  d.2.1.1.bind fun x1 =>
  some ((), ((x1.2.2, ()), ())))
def c_leap_Table_Expires : List Nat := []
def L_leap_Table_Expires (_ : Nat) : Pts po_leap_Table_Expires.den := []
def R_leap_Table_Expires (_ : Nat) : PtsR po_leap_Table_Expires.den := []
def E_leap_Table_Expires : Env := E0
theorem q_leap_Table_Expires_m (k : Nat) (d : Unit × (((Option ((List (Int × Int)) × (Int × Int))) × Unit) × Unit)) : evCode E_leap_Table_Expires (tb (L_leap_Table_Expires k) (R_leap_Table_Expires k)) c_leap_Table_Expires (bodyOf Try.f40) 0 (finK E_leap_Table_Expires po_leap_Table_Expires [.tmp 2]) (startSt pi_leap_Table_Expires 9 d) = f_leap_Table_Expires_m () d := by kernel_rfl
def g_leap_Table_Expires (d : Unit × (((Option ((List (Int × Int)) × (Int × Int))) × Unit) × Unit)) : Option (Unit × ((Int × Unit) × Unit)) := f_leap_Table_Expires_m () d
theorem ok_leap_Table_Expires : FnOk Try.prog ET0 40 pi_leap_Table_Expires po_leap_Table_Expires g_leap_Table_Expires :=
  fn_of_body (E := E_leap_Table_Expires) e0_ok (fn := Try.f40) Try.func40 (by kernel_rfl) (by kernel_rfl) [.tmp 2] (by kernel_rfl) (by kernel_rfl) (by decide) rfl c_leap_Table_Expires L_leap_Table_Expires R_leap_Table_Expires
    (by intro x hx; cases hx) (by intro k x hx; cases hx) (by intro x hx; cases hx) (by intro k x hx; cases hx) (fun d out h => ⟨0, (q_leap_Table_Expires_m 0 d).trans h⟩)

/- horologe/horologelaw10.Is -/
@[reducible] def pi_law10_Is : PSh := ⟨[], [.mk false [.v (.nptr (.pair (.sl (.pair (.int .i64) (.int .i64))) (.pair (.int .i64) (.int .i64))))], .mk true [.v (.sl (.pair (.int .i64) (.int .i64))), .v (.int .i64), .v (.int .i64)]]⟩
@[reducible] def po_law10_Is : PSh := ⟨[], [.mk false [.v .bool]]⟩
def f_law10_Is_m (T : Unit) (d : Unit × (((Option ((List (Int × Int)) × (Int × Int))) × Unit) × (((List (Int × Int)) × (Int × (Int × Unit))) × Unit))) : Option (Unit × ((Bool × Unit) × Unit)) :=
  let x1 : Bool := (!d.2.1.1.isNone)
  bif x1 then (
  (g_leap_Table_Rows ((), ((d.2.1.1, ()), ()))).bind fun x2 =>
  (g_leap_Table_Updated ((), ((d.2.1.1, ()), ()))).bind fun x3 =>
  (g_leap_Table_Expires ((), ((d.2.1.1, ()), ()))).bind fun x4 =>
  (g_law10_Document ((), ((x2.1.1, (x3.2.1.1, (x4.2.1.1, ()))), ()))).bind fun x5 =>
  (g_ref10_Same ((), ((x5.1.1, (x5.2.1.1, (x5.2.1.2.1, ()))), ((d.2.2.1.1, (d.2.2.1.2.1, (d.2.2.1.2.2.1, ()))), ())))).bind fun x6 =>
  some ((), ((x6.2.1.1, ()), ())))
  else (
  some ((), ((false, ()), ())))
def c_law10_Is : List Nat := []
def L_law10_Is (_ : Nat) : Pts po_law10_Is.den := []
def R_law10_Is (_ : Nat) : PtsR po_law10_Is.den := []
def E_law10_Is : Env := (((((E0.add 7 (typedSem pi_law10_Document po_law10_Document g_law10_Document)).add 12 (typedSem pi_leap_Table_Rows po_leap_Table_Rows g_leap_Table_Rows)).add 38 (typedSem pi_ref10_Same po_ref10_Same g_ref10_Same)).add 39 (typedSem pi_leap_Table_Updated po_leap_Table_Updated g_leap_Table_Updated)).add 40 (typedSem pi_leap_Table_Expires po_leap_Table_Expires g_leap_Table_Expires))
theorem q_law10_Is_m (k : Nat) (d : Unit × (((Option ((List (Int × Int)) × (Int × Int))) × Unit) × (((List (Int × Int)) × (Int × (Int × Unit))) × Unit))) : evCode E_law10_Is (tb (L_law10_Is k) (R_law10_Is k)) c_law10_Is (bodyOf Try.f10) 0 (finK E_law10_Is po_law10_Is [.tmp 4]) (startSt pi_law10_Is 19 d) = f_law10_Is_m () d := by kernel_rfl
def g_law10_Is (d : Unit × (((Option ((List (Int × Int)) × (Int × Int))) × Unit) × (((List (Int × Int)) × (Int × (Int × Unit))) × Unit))) : Option (Unit × ((Bool × Unit) × Unit)) := f_law10_Is_m () d
theorem ok_law10_Is : FnOk Try.prog ET0 10 pi_law10_Is po_law10_Is g_law10_Is :=
  fn_of_body (E := E_law10_Is) (envOk_add (envOk_add (envOk_add (envOk_add (envOk_add e0_ok (typed_ok ok_law10_Document)) (typed_ok ok_leap_Table_Rows)) (typed_ok ok_ref10_Same)) (typed_ok ok_leap_Table_Updated)) (typed_ok ok_leap_Table_Expires)) (fn := Try.f10) Try.func10 (by kernel_rfl) (by kernel_rfl) [.tmp 4] (by kernel_rfl) (by kernel_rfl) (by decide) rfl c_law10_Is L_law10_Is R_law10_Is
    (by intro x hx; cases hx) (by intro k x hx; cases hx) (by intro x hx; cases hx) (by intro k x hx; cases hx) (fun d out h => ⟨0, (q_law10_Is_m 0 d).trans h⟩)

/- slices.IndexFunc[[]horologe/leap.Row,horologe/leap.Row] -/
@[reducible] def pi_slices_IndexFunc_leap_Row_leap_Row_leap_New_1_2 : PSh := ⟨[.row 40 (.pair (.int .i64) (.int .i64))], [.mk false [.osl 0], .mk false [.fn 27 []]]⟩
@[reducible] def po_slices_IndexFunc_leap_Row_leap_Row_leap_New_1_2 : PSh := ⟨[.row 40 (.pair (.int .i64) (.int .i64))], [.mk false [.v (.int .i64)], .mk false [.osl 0]]⟩
@[reducible] def TT_slices_IndexFunc_leap_Row_leap_Row_leap_New_1_2 : Type := (((((List (Int × Int)) × Unit) × (Unit × (Unit × ((Int × Unit) × ((Int × Unit) × Unit))))) → Option (((List (Int × Int)) × Unit) × ((Int × Unit) × (Unit × Unit)))) × Unit)
@[reducible] def sh_slices_IndexFunc_leap_Row_leap_Row_leap_New_1_2_3 : PSh := ⟨[.row 40 (.pair (.int .i64) (.int .i64))], [.mk false [.osl 0], .mk false [.fn 27 []], .any, .any, .any, .any, .any, .mk false [.v (.int .i64)], .mk false [.v (.int .i64)], .any, .any, .any, .any, .any, .any, .any, .any, .any, .any]⟩
def f_slices_IndexFunc_leap_Row_leap_Row_leap_New_1_2_p3 (T : TT_slices_IndexFunc_leap_Row_leap_Row_leap_New_1_2) (d : ((List (Int × Int)) × Unit) × (Unit × (Unit × ((Int × Unit) × ((Int × Unit) × Unit))))) : Option (((List (Int × Int)) × Unit) × ((Int × Unit) × (Unit × Unit))) :=
  let x2 : Bool := (decide (d.2.2.2.2.1.1 < d.2.2.2.1.1))
  bif x2 then (
  bif decide ((0 : Int) ≤ d.2.2.2.2.1.1) && decide (d.2.2.2.2.1.1 < (d.1.1.length : Int)) then (
  let x3 : (Int × Int) := (gd_i64_i64 d.1.1 d.2.2.2.2.1.1)
  (g_leap_New_1 ((), ((x3.1, (x3.2, ())), ()))).bind fun x4 =>
  bif x4.2.1.1 then (
  some ((d.1.1, ()), ((d.2.2.2.2.1.1, ()), ((), ()))))
  else (
  let x5 : Int := (iadd .i64 d.2.2.2.2.1.1 (1 : Int))
  (T.1 ((d.1.1, ()), ((), ((), ((d.2.2.2.1.1, ()), ((x5, ()), ()))))))))
  else none)
  else (
  some ((d.1.1, ()), (((-1 : Int), ()), ((), ()))))
def f_slices_IndexFunc_leap_Row_leap_Row_leap_New_1_2_t : Nat → TT_slices_IndexFunc_leap_Row_leap_Row_leap_New_1_2
  | 0 => (fun _ => none, ())
  | k + 1 => (f_slices_IndexFunc_leap_Row_leap_Row_leap_New_1_2_p3 (f_slices_IndexFunc_leap_Row_leap_Row_leap_New_1_2_t k), ())
theorem t_slices_IndexFunc_leap_Row_leap_Row_leap_New_1_2 (k : Nat) : f_slices_IndexFunc_leap_Row_leap_Row_leap_New_1_2_t (k + 1) = (f_slices_IndexFunc_leap_Row_leap_Row_leap_New_1_2_p3 (f_slices_IndexFunc_leap_Row_leap_Row_leap_New_1_2_t k), ()) := rfl
def f_slices_IndexFunc_leap_Row_leap_Row_leap_New_1_2_m (T : TT_slices_IndexFunc_leap_Row_leap_Row_leap_New_1_2) (d : ((List (Int × Int)) × Unit) × (Unit × (Unit × Unit))) : Option (((List (Int × Int)) × Unit) × ((Int × Unit) × (Unit × Unit))) :=
  let x1 : Int := (d.1.1.length : Int)
  (T.1 ((d.1.1, ()), ((), ((), ((x1, ()), (((0 : Int), ()), ()))))))
def c_slices_IndexFunc_leap_Row_leap_Row_leap_New_1_2 : List Nat := []
def L_slices_IndexFunc_leap_Row_leap_Row_leap_New_1_2 (k : Nat) : Pts po_slices_IndexFunc_leap_Row_leap_Row_leap_New_1_2.den := [(3, ⟨sh_slices_IndexFunc_leap_Row_leap_Row_leap_New_1_2_3, (f_slices_IndexFunc_leap_Row_leap_Row_leap_New_1_2_t k).1⟩)]
def R_slices_IndexFunc_leap_Row_leap_Row_leap_New_1_2 (_ : Nat) : PtsR po_slices_IndexFunc_leap_Row_leap_Row_leap_New_1_2.den := []
def E_slices_IndexFunc_leap_Row_leap_Row_leap_New_1_2 : Env := ((E0.add 27 (typedSem pi_leap_New_1 po_leap_New_1 g_leap_New_1)).kp [0])
theorem q_slices_IndexFunc_leap_Row_leap_Row_leap_New_1_2_3 (k : Nat) (d : ((List (Int × Int)) × Unit) × (Unit × (Unit × ((Int × Unit) × ((Int × Unit) × Unit))))) : evAt E_slices_IndexFunc_leap_Row_leap_Row_leap_New_1_2 (tb (L_slices_IndexFunc_leap_Row_leap_Row_leap_New_1_2 k) (R_slices_IndexFunc_leap_Row_leap_Row_leap_New_1_2 k)) c_slices_IndexFunc_leap_Row_leap_Row_leap_New_1_2 3 (bodyOf Try.f57) 0 (finKio E_slices_IndexFunc_leap_Row_leap_Row_leap_New_1_2 po_slices_IndexFunc_leap_Row_leap_Row_leap_New_1_2 [.tmp 4] [(0, none)]) (ptSt sh_slices_IndexFunc_leap_Row_leap_Row_leap_New_1_2_3 d) = f_slices_IndexFunc_leap_Row_leap_Row_leap_New_1_2_p3 (f_slices_IndexFunc_leap_Row_leap_Row_leap_New_1_2_t k) d := by kernel_rfl
theorem q_slices_IndexFunc_leap_Row_leap_Row_leap_New_1_2_m (k : Nat) (d : ((List (Int × Int)) × Unit) × (Unit × (Unit × Unit))) : evCode E_slices_IndexFunc_leap_Row_leap_Row_leap_New_1_2 (tb (L_slices_IndexFunc_leap_Row_leap_Row_leap_New_1_2 k) (R_slices_IndexFunc_leap_Row_leap_Row_leap_New_1_2 k)) c_slices_IndexFunc_leap_Row_leap_Row_leap_New_1_2 (bodyOf Try.f57) 0 (finKio E_slices_IndexFunc_leap_Row_leap_Row_leap_New_1_2 po_slices_IndexFunc_leap_Row_leap_Row_leap_New_1_2 [.tmp 4] [(0, none)]) (startSt pi_slices_IndexFunc_leap_Row_leap_Row_leap_New_1_2 19 d) = f_slices_IndexFunc_leap_Row_leap_Row_leap_New_1_2_m (f_slices_IndexFunc_leap_Row_leap_Row_leap_New_1_2_t k) d := by kernel_rfl
theorem go_slices_IndexFunc_leap_Row_leap_Row_leap_New_1_2 (F : ((List (Int × Int)) × Unit) × (Unit × (Unit × Unit)) → Option (((List (Int × Int)) × Unit) × ((Int × Unit) × (Unit × Unit)))) (hF : ∀ d out, F d = some out → ∃ k, f_slices_IndexFunc_leap_Row_leap_Row_leap_New_1_2_m (f_slices_IndexFunc_leap_Row_leap_Row_leap_New_1_2_t k) d = some out) : FnIo Try.prog ET0 57 pi_slices_IndexFunc_leap_Row_leap_Row_leap_New_1_2 po_slices_IndexFunc_leap_Row_leap_Row_leap_New_1_2 1 [(0, 0, none)] F :=
  fn_of_bodyIo (E := E_slices_IndexFunc_leap_Row_leap_Row_leap_New_1_2) (envOk_kp (envOk_add e0_ok (typed_ok ok_leap_New_1))) (fn := Try.f57) Try.func57 (by kernel_rfl) (by kernel_rfl) [.tmp 4] [(0, none)] [(0, 0, none)] (by kernel_rfl) (by kernel_rfl) (by kernel_rfl) (by kernel_rfl) (by decide) (by decide) c_slices_IndexFunc_leap_Row_leap_Row_leap_New_1_2 L_slices_IndexFunc_leap_Row_leap_Row_leap_New_1_2 R_slices_IndexFunc_leap_Row_leap_Row_leap_New_1_2
    (by intro x hx d; simp only [L_slices_IndexFunc_leap_Row_leap_Row_leap_New_1_2, List.mem_cons, List.not_mem_nil, or_false] at hx; subst hx; rfl)
    (by intro k x hx d out h; simp only [L_slices_IndexFunc_leap_Row_leap_Row_leap_New_1_2, List.mem_cons, List.not_mem_nil, or_false] at hx; subst hx; exact (q_slices_IndexFunc_leap_Row_leap_Row_leap_New_1_2_3 k d).trans h)
    (by intro x hx; cases hx)
    (by intro k x hx; cases hx)
    (by intro d out h; obtain ⟨k, hk⟩ := hF d out h; exact ⟨k, (q_slices_IndexFunc_leap_Row_leap_Row_leap_New_1_2_m k d).trans hk⟩)
def g_slices_IndexFunc_leap_Row_leap_Row_leap_New_1_2 (d : ((List (Int × Int)) × Unit) × (Unit × (Unit × Unit))) : Option (((List (Int × Int)) × Unit) × ((Int × Unit) × (Unit × Unit))) := lim fun k => f_slices_IndexFunc_leap_Row_leap_Row_leap_New_1_2_m (f_slices_IndexFunc_leap_Row_leap_Row_leap_New_1_2_t k) d
theorem ok_slices_IndexFunc_leap_Row_leap_Row_leap_New_1_2 : FnIo Try.prog ET0 57 pi_slices_IndexFunc_leap_Row_leap_Row_leap_New_1_2 po_slices_IndexFunc_leap_Row_leap_Row_leap_New_1_2 1 [(0, 0, none)] g_slices_IndexFunc_leap_Row_leap_Row_leap_New_1_2 := go_slices_IndexFunc_leap_Row_leap_Row_leap_New_1_2 g_slices_IndexFunc_leap_Row_leap_Row_leap_New_1_2 fun d out h => lim_some h

/- slices.ContainsFunc[[]horologe/leap.Row,horologe/leap.Row] -/
@[reducible] def pi_slices_ContainsFunc_leap_Row_leap_Row_leap_New_1_2 : PSh := ⟨[.row 40 (.pair (.int .i64) (.int .i64))], [.mk false [.osl 0], .mk false [.fn 27 []]]⟩
@[reducible] def po_slices_ContainsFunc_leap_Row_leap_Row_leap_New_1_2 : PSh := ⟨[.row 40 (.pair (.int .i64) (.int .i64))], [.mk false [.v .bool], .mk false [.osl 0]]⟩
def f_slices_ContainsFunc_leap_Row_leap_Row_leap_New_1_2_m (T : Unit) (d : ((List (Int × Int)) × Unit) × (Unit × (Unit × Unit))) : Option (((List (Int × Int)) × Unit) × ((Bool × Unit) × (Unit × Unit))) :=
  (g_slices_IndexFunc_leap_Row_leap_Row_leap_New_1_2 ((d.1.1, ()), ((), ((), ())))).bind fun x1 =>
  let x2 : Bool := (decide (x1.2.1.1 ≥ (0 : Int)))
  some ((x1.1.1, ()), ((x2, ()), ((), ())))
def c_slices_ContainsFunc_leap_Row_leap_Row_leap_New_1_2 : List Nat := []
def L_slices_ContainsFunc_leap_Row_leap_Row_leap_New_1_2 (_ : Nat) : Pts po_slices_ContainsFunc_leap_Row_leap_Row_leap_New_1_2.den := []
def R_slices_ContainsFunc_leap_Row_leap_Row_leap_New_1_2 (_ : Nat) : PtsR po_slices_ContainsFunc_leap_Row_leap_Row_leap_New_1_2.den := []
def E_slices_ContainsFunc_leap_Row_leap_Row_leap_New_1_2 : Env := ((E0.add 57 (ioSem pi_slices_IndexFunc_leap_Row_leap_Row_leap_New_1_2 po_slices_IndexFunc_leap_Row_leap_Row_leap_New_1_2 1 [(0, 0, none)] g_slices_IndexFunc_leap_Row_leap_Row_leap_New_1_2)).kp [0])
theorem q_slices_ContainsFunc_leap_Row_leap_Row_leap_New_1_2_m (k : Nat) (d : ((List (Int × Int)) × Unit) × (Unit × (Unit × Unit))) : evCode E_slices_ContainsFunc_leap_Row_leap_Row_leap_New_1_2 (tb (L_slices_ContainsFunc_leap_Row_leap_Row_leap_New_1_2 k) (R_slices_ContainsFunc_leap_Row_leap_Row_leap_New_1_2 k)) c_slices_ContainsFunc_leap_Row_leap_Row_leap_New_1_2 (bodyOf Try.f31) 0 (finKio E_slices_ContainsFunc_leap_Row_leap_Row_leap_New_1_2 po_slices_ContainsFunc_leap_Row_leap_Row_leap_New_1_2 [.tmp 4] [(0, none)]) (startSt pi_slices_ContainsFunc_leap_Row_leap_Row_leap_New_1_2 9 d) = f_slices_ContainsFunc_leap_Row_leap_Row_leap_New_1_2_m () d := by kernel_rfl
def g_slices_ContainsFunc_leap_Row_leap_Row_leap_New_1_2 (d : ((List (Int × Int)) × Unit) × (Unit × (Unit × Unit))) : Option (((List (Int × Int)) × Unit) × ((Bool × Unit) × (Unit × Unit))) := f_slices_ContainsFunc_leap_Row_leap_Row_leap_New_1_2_m () d
theorem ok_slices_ContainsFunc_leap_Row_leap_Row_leap_New_1_2 : FnIo Try.prog ET0 31 pi_slices_ContainsFunc_leap_Row_leap_Row_leap_New_1_2 po_slices_ContainsFunc_leap_Row_leap_Row_leap_New_1_2 1 [(0, 0, none)] g_slices_ContainsFunc_leap_Row_leap_Row_leap_New_1_2 :=
  fn_of_bodyIo (E := E_slices_ContainsFunc_leap_Row_leap_Row_leap_New_1_2) (envOk_kp (envOk_add e0_ok (io_ok ok_slices_IndexFunc_leap_Row_leap_Row_leap_New_1_2))) (fn := Try.f31) Try.func31 (by kernel_rfl) (by kernel_rfl) [.tmp 4] [(0, none)] [(0, 0, none)] (by kernel_rfl) (by kernel_rfl) (by kernel_rfl) (by kernel_rfl) (by decide) (by decide) c_slices_ContainsFunc_leap_Row_leap_Row_leap_New_1_2 L_slices_ContainsFunc_leap_Row_leap_Row_leap_New_1_2 R_slices_ContainsFunc_leap_Row_leap_Row_leap_New_1_2
    (by intro x hx; cases hx) (by intro k x hx; cases hx) (by intro x hx; cases hx) (by intro k x hx; cases hx) (fun d out h => ⟨0, (q_slices_ContainsFunc_leap_Row_leap_Row_leap_New_1_2_m 0 d).trans h⟩)

/- slices.IndexFunc[[]horologe/leap.Row,horologe/leap.Row] -/
@[reducible] def pi_slices_IndexFunc_leap_Row_leap_Row_leap_New_2_2 : PSh := ⟨[.row 40 (.pair (.int .i64) (.int .i64))], [.mk false [.osl 0], .mk false [.fn 29 []]]⟩
@[reducible] def po_slices_IndexFunc_leap_Row_leap_Row_leap_New_2_2 : PSh := ⟨[.row 40 (.pair (.int .i64) (.int .i64))], [.mk false [.v (.int .i64)], .mk false [.osl 0]]⟩
@[reducible] def TT_slices_IndexFunc_leap_Row_leap_Row_leap_New_2_2 : Type := (((((List (Int × Int)) × Unit) × (Unit × (Unit × ((Int × Unit) × ((Int × Unit) × Unit))))) → Option (((List (Int × Int)) × Unit) × ((Int × Unit) × (Unit × Unit)))) × Unit)
@[reducible] def sh_slices_IndexFunc_leap_Row_leap_Row_leap_New_2_2_3 : PSh := ⟨[.row 40 (.pair (.int .i64) (.int .i64))], [.mk false [.osl 0], .mk false [.fn 29 []], .any, .any, .any, .any, .any, .mk false [.v (.int .i64)], .mk false [.v (.int .i64)], .any, .any, .any, .any, .any, .any, .any, .any, .any, .any]⟩
def f_slices_IndexFunc_leap_Row_leap_Row_leap_New_2_2_p3 (T : TT_slices_IndexFunc_leap_Row_leap_Row_leap_New_2_2) (d : ((List (Int × Int)) × Unit) × (Unit × (Unit × ((Int × Unit) × ((Int × Unit) × Unit))))) : Option (((List (Int × Int)) × Unit) × ((Int × Unit) × (Unit × Unit))) :=
  let x2 : Bool := (decide (d.2.2.2.2.1.1 < d.2.2.2.1.1))
  bif x2 then (
  bif decide ((0 : Int) ≤ d.2.2.2.2.1.1) && decide (d.2.2.2.2.1.1 < (d.1.1.length : Int)) then (
  let x3 : (Int × Int) := (gd_i64_i64 d.1.1 d.2.2.2.2.1.1)
  (g_leap_New_2 ((), ((x3.1, (x3.2, ())), ()))).bind fun x4 =>
  bif x4.2.1.1 then (
  some ((d.1.1, ()), ((d.2.2.2.2.1.1, ()), ((), ()))))
  else (
  let x5 : Int := (iadd .i64 d.2.2.2.2.1.1 (1 : Int))
  (T.1 ((d.1.1, ()), ((), ((), ((d.2.2.2.1.1, ()), ((x5, ()), ()))))))))
  else none)
  else (
  some ((d.1.1, ()), (((-1 : Int), ()), ((), ()))))
def f_slices_IndexFunc_leap_Row_leap_Row_leap_New_2_2_t : Nat → TT_slices_IndexFunc_leap_Row_leap_Row_leap_New_2_2
  | 0 => (fun _ => none, ())
  | k + 1 => (f_slices_IndexFunc_leap_Row_leap_Row_leap_New_2_2_p3 (f_slices_IndexFunc_leap_Row_leap_Row_leap_New_2_2_t k), ())
theorem t_slices_IndexFunc_leap_Row_leap_Row_leap_New_2_2 (k : Nat) : f_slices_IndexFunc_leap_Row_leap_Row_leap_New_2_2_t (k + 1) = (f_slices_IndexFunc_leap_Row_leap_Row_leap_New_2_2_p3 (f_slices_IndexFunc_leap_Row_leap_Row_leap_New_2_2_t k), ()) := rfl
def f_slices_IndexFunc_leap_Row_leap_Row_leap_New_2_2_m (T : TT_slices_IndexFunc_leap_Row_leap_Row_leap_New_2_2) (d : ((List (Int × Int)) × Unit) × (Unit × (Unit × Unit))) : Option (((List (Int × Int)) × Unit) × ((Int × Unit) × (Unit × Unit))) :=
  let x1 : Int := (d.1.1.length : Int)
  (T.1 ((d.1.1, ()), ((), ((), ((x1, ()), (((0 : Int), ()), ()))))))
def c_slices_IndexFunc_leap_Row_leap_Row_leap_New_2_2 : List Nat := []
def L_slices_IndexFunc_leap_Row_leap_Row_leap_New_2_2 (k : Nat) : Pts po_slices_IndexFunc_leap_Row_leap_Row_leap_New_2_2.den := [(3, ⟨sh_slices_IndexFunc_leap_Row_leap_Row_leap_New_2_2_3, (f_slices_IndexFunc_leap_Row_leap_Row_leap_New_2_2_t k).1⟩)]
def R_slices_IndexFunc_leap_Row_leap_Row_leap_New_2_2 (_ : Nat) : PtsR po_slices_IndexFunc_leap_Row_leap_Row_leap_New_2_2.den := []
def E_slices_IndexFunc_leap_Row_leap_Row_leap_New_2_2 : Env := ((E0.add 29 (typedSem pi_leap_New_2 po_leap_New_2 g_leap_New_2)).kp [0])
theorem q_slices_IndexFunc_leap_Row_leap_Row_leap_New_2_2_3 (k : Nat) (d : ((List (Int × Int)) × Unit) × (Unit × (Unit × ((Int × Unit) × ((Int × Unit) × Unit))))) : evAt E_slices_IndexFunc_leap_Row_leap_Row_leap_New_2_2 (tb (L_slices_IndexFunc_leap_Row_leap_Row_leap_New_2_2 k) (R_slices_IndexFunc_leap_Row_leap_Row_leap_New_2_2 k)) c_slices_IndexFunc_leap_Row_leap_Row_leap_New_2_2 3 (bodyOf Try.f57) 0 (finKio E_slices_IndexFunc_leap_Row_leap_Row_leap_New_2_2 po_slices_IndexFunc_leap_Row_leap_Row_leap_New_2_2 [.tmp 4] [(0, none)]) (ptSt sh_slices_IndexFunc_leap_Row_leap_Row_leap_New_2_2_3 d) = f_slices_IndexFunc_leap_Row_leap_Row_leap_New_2_2_p3 (f_slices_IndexFunc_leap_Row_leap_Row_leap_New_2_2_t k) d := by kernel_rfl
theorem q_slices_IndexFunc_leap_Row_leap_Row_leap_New_2_2_m (k : Nat) (d : ((List (Int × Int)) × Unit) × (Unit × (Unit × Unit))) : evCode E_slices_IndexFunc_leap_Row_leap_Row_leap_New_2_2 (tb (L_slices_IndexFunc_leap_Row_leap_Row_leap_New_2_2 k) (R_slices_IndexFunc_leap_Row_leap_Row_leap_New_2_2 k)) c_slices_IndexFunc_leap_Row_leap_Row_leap_New_2_2 (bodyOf Try.f57) 0 (finKio E_slices_IndexFunc_leap_Row_leap_Row_leap_New_2_2 po_slices_IndexFunc_leap_Row_leap_Row_leap_New_2_2 [.tmp 4] [(0, none)]) (startSt pi_slices_IndexFunc_leap_Row_leap_Row_leap_New_2_2 19 d) = f_slices_IndexFunc_leap_Row_leap_Row_leap_New_2_2_m (f_slices_IndexFunc_leap_Row_leap_Row_leap_New_2_2_t k) d := by kernel_rfl
theorem go_slices_IndexFunc_leap_Row_leap_Row_leap_New_2_2 (F : ((List (Int × Int)) × Unit) × (Unit × (Unit × Unit)) → Option (((List (Int × Int)) × Unit) × ((Int × Unit) × (Unit × Unit)))) (hF : ∀ d out, F d = some out → ∃ k, f_slices_IndexFunc_leap_Row_leap_Row_leap_New_2_2_m (f_slices_IndexFunc_leap_Row_leap_Row_leap_New_2_2_t k) d = some out) : FnIo Try.prog ET0 57 pi_slices_IndexFunc_leap_Row_leap_Row_leap_New_2_2 po_slices_IndexFunc_leap_Row_leap_Row_leap_New_2_2 1 [(0, 0, none)] F :=
  fn_of_bodyIo (E := E_slices_IndexFunc_leap_Row_leap_Row_leap_New_2_2) (envOk_kp (envOk_add e0_ok (typed_ok ok_leap_New_2))) (fn := Try.f57) Try.func57 (by kernel_rfl) (by kernel_rfl) [.tmp 4] [(0, none)] [(0, 0, none)] (by kernel_rfl) (by kernel_rfl) (by kernel_rfl) (by kernel_rfl) (by decide) (by decide) c_slices_IndexFunc_leap_Row_leap_Row_leap_New_2_2 L_slices_IndexFunc_leap_Row_leap_Row_leap_New_2_2 R_slices_IndexFunc_leap_Row_leap_Row_leap_New_2_2
    (by intro x hx d; simp only [L_slices_IndexFunc_leap_Row_leap_Row_leap_New_2_2, List.mem_cons, List.not_mem_nil, or_false] at hx; subst hx; rfl)
    (by intro k x hx d out h; simp only [L_slices_IndexFunc_leap_Row_leap_Row_leap_New_2_2, List.mem_cons, List.not_mem_nil, or_false] at hx; subst hx; exact (q_slices_IndexFunc_leap_Row_leap_Row_leap_New_2_2_3 k d).trans h)
    (by intro x hx; cases hx)
    (by intro k x hx; cases hx)
    (by intro d out h; obtain ⟨k, hk⟩ := hF d out h; exact ⟨k, (q_slices_IndexFunc_leap_Row_leap_Row_leap_New_2_2_m k d).trans hk⟩)
def g_slices_IndexFunc_leap_Row_leap_Row_leap_New_2_2 (d : ((List (Int × Int)) × Unit) × (Unit × (Unit × Unit))) : Option (((List (Int × Int)) × Unit) × ((Int × Unit) × (Unit × Unit))) := lim fun k => f_slices_IndexFunc_leap_Row_leap_Row_leap_New_2_2_m (f_slices_IndexFunc_leap_Row_leap_Row_leap_New_2_2_t k) d
theorem ok_slices_IndexFunc_leap_Row_leap_Row_leap_New_2_2 : FnIo Try.prog ET0 57 pi_slices_IndexFunc_leap_Row_leap_Row_leap_New_2_2 po_slices_IndexFunc_leap_Row_leap_Row_leap_New_2_2 1 [(0, 0, none)] g_slices_IndexFunc_leap_Row_leap_Row_leap_New_2_2 := go_slices_IndexFunc_leap_Row_leap_Row_leap_New_2_2 g_slices_IndexFunc_leap_Row_leap_Row_leap_New_2_2 fun d out h => lim_some h

/- slices.ContainsFunc[[]horologe/leap.Row,horologe/leap.Row] -/
@[reducible] def pi_slices_ContainsFunc_leap_Row_leap_Row_leap_New_2_2 : PSh := ⟨[.row 40 (.pair (.int .i64) (.int .i64))], [.mk false [.osl 0], .mk false [.fn 29 []]]⟩
@[reducible] def po_slices_ContainsFunc_leap_Row_leap_Row_leap_New_2_2 : PSh := ⟨[.row 40 (.pair (.int .i64) (.int .i64))], [.mk false [.v .bool], .mk false [.osl 0]]⟩
def f_slices_ContainsFunc_leap_Row_leap_Row_leap_New_2_2_m (T : Unit) (d : ((List (Int × Int)) × Unit) × (Unit × (Unit × Unit))) : Option (((List (Int × Int)) × Unit) × ((Bool × Unit) × (Unit × Unit))) :=
  (g_slices_IndexFunc_leap_Row_leap_Row_leap_New_2_2 ((d.1.1, ()), ((), ((), ())))).bind fun x1 =>
  let x2 : Bool := (decide (x1.2.1.1 ≥ (0 : Int)))
  some ((x1.1.1, ()), ((x2, ()), ((), ())))
def c_slices_ContainsFunc_leap_Row_leap_Row_leap_New_2_2 : List Nat := []
def L_slices_ContainsFunc_leap_Row_leap_Row_leap_New_2_2 (_ : Nat) : Pts po_slices_ContainsFunc_leap_Row_leap_Row_leap_New_2_2.den := []
def R_slices_ContainsFunc_leap_Row_leap_Row_leap_New_2_2 (_ : Nat) : PtsR po_slices_ContainsFunc_leap_Row_leap_Row_leap_New_2_2.den := []
def E_slices_ContainsFunc_leap_Row_leap_Row_leap_New_2_2 : Env := ((E0.add 57 (ioSem pi_slices_IndexFunc_leap_Row_leap_Row_leap_New_2_2 po_slices_IndexFunc_leap_Row_leap_Row_leap_New_2_2 1 [(0, 0, none)] g_slices_IndexFunc_leap_Row_leap_Row_leap_New_2_2)).kp [0])
theorem q_slices_ContainsFunc_leap_Row_leap_Row_leap_New_2_2_m (k : Nat) (d : ((List (Int × Int)) × Unit) × (Unit × (Unit × Unit))) : evCode E_slices_ContainsFunc_leap_Row_leap_Row_leap_New_2_2 (tb (L_slices_ContainsFunc_leap_Row_leap_Row_leap_New_2_2 k) (R_slices_ContainsFunc_leap_Row_leap_Row_leap_New_2_2 k)) c_slices_ContainsFunc_leap_Row_leap_Row_leap_New_2_2 (bodyOf Try.f31) 0 (finKio E_slices_ContainsFunc_leap_Row_leap_Row_leap_New_2_2 po_slices_ContainsFunc_leap_Row_leap_Row_leap_New_2_2 [.tmp 4] [(0, none)]) (startSt pi_slices_ContainsFunc_leap_Row_leap_Row_leap_New_2_2 9 d) = f_slices_ContainsFunc_leap_Row_leap_Row_leap_New_2_2_m () d := by kernel_rfl
def g_slices_ContainsFunc_leap_Row_leap_Row_leap_New_2_2 (d : ((List (Int × Int)) × Unit) × (Unit × (Unit × Unit))) : Option (((List (Int × Int)) × Unit) × ((Bool × Unit) × (Unit × Unit))) := f_slices_ContainsFunc_leap_Row_leap_Row_leap_New_2_2_m () d
theorem ok_slices_ContainsFunc_leap_Row_leap_Row_leap_New_2_2 : FnIo Try.prog ET0 31 pi_slices_ContainsFunc_leap_Row_leap_Row_leap_New_2_2 po_slices_ContainsFunc_leap_Row_leap_Row_leap_New_2_2 1 [(0, 0, none)] g_slices_ContainsFunc_leap_Row_leap_Row_leap_New_2_2 :=
  fn_of_bodyIo (E := E_slices_ContainsFunc_leap_Row_leap_Row_leap_New_2_2) (envOk_kp (envOk_add e0_ok (io_ok ok_slices_IndexFunc_leap_Row_leap_Row_leap_New_2_2))) (fn := Try.f31) Try.func31 (by kernel_rfl) (by kernel_rfl) [.tmp 4] [(0, none)] [(0, 0, none)] (by kernel_rfl) (by kernel_rfl) (by kernel_rfl) (by kernel_rfl) (by decide) (by decide) c_slices_ContainsFunc_leap_Row_leap_Row_leap_New_2_2 L_slices_ContainsFunc_leap_Row_leap_Row_leap_New_2_2 R_slices_ContainsFunc_leap_Row_leap_Row_leap_New_2_2
    (by intro x hx; cases hx) (by intro k x hx; cases hx) (by intro x hx; cases hx) (by intro k x hx; cases hx) (fun d out h => ⟨0, (q_slices_ContainsFunc_leap_Row_leap_Row_leap_New_2_2_m 0 d).trans h⟩)

/- horologe/leap.New -/
@[reducible] def pi_leap_New_io : PSh := ⟨[.row 40 (.pair (.int .i64) (.int .i64))], [.mk false [.osl 0], .mk false [.v (.int .i64)], .mk false [.v (.int .i64)]]⟩
@[reducible] def po_leap_New_io : PSh := ⟨[.row 40 (.pair (.int .i64) (.int .i64))], [.mk false [.v (.nptr (.pair (.sl (.pair (.int .i64) (.int .i64))) (.pair (.int .i64) (.int .i64))))], .mk false [.v .err], .mk false [.osl 0]]⟩
def f_leap_New_io_m (T : Unit) (d : ((List (Int × Int)) × Unit) × (Unit × ((Int × Unit) × ((Int × Unit) × Unit)))) : Option (((List (Int × Int)) × Unit) × (((Option ((List (Int × Int)) × (Int × Int))) × Unit) × (((Option Int) × Unit) × (Unit × Unit)))) :=
  let x1 : Int := (d.1.1.length : Int)
  let x2 : Bool := (x1 == (0 : Int))
  bif x2 then (
  let x3 : (Option Int) := (some (8 : Int))
  some ((d.1.1, ()), (((none : Option ((List (Int × Int)) × (Int × Int))), ()), ((x3, ()), ((), ())))))
  else (
  let x4 : Int := (d.1.1.length : Int)
  let x5 : Bool := (decide (x4 > (256 : Int)))
  bif x5 then (
  let x6 : (Option Int) := (some (3 : Int))
  some ((d.1.1, ()), (((none : Option ((List (Int × Int)) × (Int × Int))), ()), ((x6, ()), ((), ())))))
  else (
  (g_slices_ContainsFunc_leap_Row_leap_Row_leap_New_1_2 ((d.1.1, ()), ((), ((), ())))).bind fun x7 =>
  bif x7.2.1.1 then (
  let x8 : (Option Int) := (some (13 : Int))
  some ((x7.1.1, ()), (((none : Option ((List (Int × Int)) × (Int × Int))), ()), ((x8, ()), ((), ())))))
  else (
  (g_slices_ContainsFunc_leap_Row_leap_Row_leap_New_2_2 ((x7.1.1, ()), ((), ((), ())))).bind fun x9 =>
  bif x9.2.1.1 then (
  let x10 : (Option Int) := (some (1 : Int))
  some ((x9.1.1, ()), (((none : Option ((List (Int × Int)) × (Int × Int))), ()), ((x10, ()), ((), ())))))
  else (
  (g_leap_time ((), ((d.2.2.1.1, ()), ()))).bind fun x11 =>
  let x12 : Bool := (!x11.2.1.1)
  bif x12 then (
  let x13 : (Option Int) := (some (1 : Int))
  some ((x9.1.1, ()), (((none : Option ((List (Int × Int)) × (Int × Int))), ()), ((x13, ()), ((), ())))))
  else (
  (g_leap_time ((), ((d.2.2.2.1.1, ()), ()))).bind fun x14 =>
  let x15 : Bool := (!x14.2.1.1)
  bif x15 then (
  let x16 : (Option Int) := (some (1 : Int))
  some ((x9.1.1, ()), (((none : Option ((List (Int × Int)) × (Int × Int))), ()), ((x16, ()), ((), ())))))
  else (
  (g_leap_rise ((), ((x9.1.1, ()), ()))).bind fun x17 =>
  let x18 : Bool := (!x17.2.1.1)
  bif x18 then (
  let x19 : (Option Int) := (some (6 : Int))
  some ((x9.1.1, ()), (((none : Option ((List (Int × Int)) × (Int × Int))), ()), ((x19, ()), ((), ())))))
  else (
  (g_slices_Clone_leap_Row_leap_Row ((), ((x9.1.1, ()), ()))).bind fun x20 =>
  some ((x9.1.1, ()), (((some (x20.1.1, (d.2.2.1.1, d.2.2.2.1.1))), ()), (((none : Option Int), ()), ((), ())))))))))))
def c_leap_New_io : List Nat := []
def L_leap_New_io (_ : Nat) : Pts po_leap_New_io.den := []
def R_leap_New_io (_ : Nat) : PtsR po_leap_New_io.den := []
def E_leap_New_io : Env := (((((E0.add 31 (altSem pi_slices_ContainsFunc_leap_Row_leap_Row_leap_New_1_2 (ioSem pi_slices_ContainsFunc_leap_Row_leap_Row_leap_New_1_2 po_slices_ContainsFunc_leap_Row_leap_Row_leap_New_1_2 1 [(0, 0, none)] g_slices_ContainsFunc_leap_Row_leap_Row_leap_New_1_2) (ioSem pi_slices_ContainsFunc_leap_Row_leap_Row_leap_New_2_2 po_slices_ContainsFunc_leap_Row_leap_Row_leap_New_2_2 1 [(0, 0, none)] g_slices_ContainsFunc_leap_Row_leap_Row_leap_New_2_2))).add 32 (typedSem pi_leap_time po_leap_time g_leap_time)).add 33 (typedSem pi_leap_rise po_leap_rise g_leap_rise)).add 34 (typedSem pi_slices_Clone_leap_Row_leap_Row po_slices_Clone_leap_Row_leap_Row g_slices_Clone_leap_Row_leap_Row)).kp [0])
theorem q_leap_New_io_m (k : Nat) (d : ((List (Int × Int)) × Unit) × (Unit × ((Int × Unit) × ((Int × Unit) × Unit)))) : evCode E_leap_New_io (tb (L_leap_New_io k) (R_leap_New_io k)) c_leap_New_io (bodyOf Try.f6) 0 (finKio E_leap_New_io po_leap_New_io [.tmp 6, .tmp 7] [(0, none)]) (startSt pi_leap_New_io 51 d) = f_leap_New_io_m () d := by kernel_rfl
def g_leap_New_io (d : ((List (Int × Int)) × Unit) × (Unit × ((Int × Unit) × ((Int × Unit) × Unit)))) : Option (((List (Int × Int)) × Unit) × (((Option ((List (Int × Int)) × (Int × Int))) × Unit) × (((Option Int) × Unit) × (Unit × Unit)))) := f_leap_New_io_m () d
theorem ok_leap_New_io : FnIo Try.prog ET0 6 pi_leap_New_io po_leap_New_io 2 [(0, 0, none)] g_leap_New_io :=
  fn_of_bodyIo (E := E_leap_New_io) (envOk_kp (envOk_add (envOk_add (envOk_add (envOk_add e0_ok (alt_ok (io_ok ok_slices_ContainsFunc_leap_Row_leap_Row_leap_New_1_2) (io_ok ok_slices_ContainsFunc_leap_Row_leap_Row_leap_New_2_2))) (typed_ok ok_leap_time)) (typed_ok ok_leap_rise)) (typed_ok ok_slices_Clone_leap_Row_leap_Row))) (fn := Try.f6) Try.func6 (by kernel_rfl) (by kernel_rfl) [.tmp 6, .tmp 7] [(0, none)] [(0, 0, none)] (by kernel_rfl) (by kernel_rfl) (by kernel_rfl) (by kernel_rfl) (by decide) (by decide) c_leap_New_io L_leap_New_io R_leap_New_io
    (by intro x hx; cases hx) (by intro k x hx; cases hx) (by intro x hx; cases hx) (by intro k x hx; cases hx) (fun d out h => ⟨0, (q_leap_New_io_m 0 d).trans h⟩)

/- horologe/horologelaw10.LeapTables -/
@[reducible] def pi_law10_LeapTables : PSh := ⟨[], [.mk true [.v (.sl (.pair (.int .i64) (.int .i64))), .v (.int .i64), .v (.int .i64)], .mk false [.v (.int .i64)]]⟩
@[reducible] def po_law10_LeapTables : PSh := ⟨[], [.mk false [.v .bool]]⟩
@[reducible] def TT_law10_LeapTables : Type := (((((Int × (Int × Unit)) × ((List (Int × Int)) × Unit)) × ((Int × Unit) × (((Option ((List (Int × Int)) × (Int × Int))) × Unit) × (Unit × Unit)))) → Option (Unit × ((Bool × Unit) × Unit))) × Unit)
@[reducible] def sh_law10_LeapTables_18 : PSh := ⟨[.var 33 [.osl 1, .v (.int .i64), .v (.int .i64)], .row 44 (.pair (.int .i64) (.int .i64))], [.any, .mk false [.v (.int .i64)], .any, .any, .any, .any, .mk false [.v (.nptr (.pair (.sl (.pair (.int .i64) (.int .i64))) (.pair (.int .i64) (.int .i64))))], .any, .mk false [.ref 0 0], .any, .any, .any, .any, .any, .any, .any, .any, .any, .any, .any, .any, .any, .any, .any, .any, .any, .any, .any, .any, .any, .any, .any, .any, .any, .any, .any, .any, .any, .any, .any, .any, .any, .any, .any, .any, .any, .any, .any, .any, .any, .any, .any, .any, .any, .any, .any, .any, .any, .any, .any, .any, .any, .any, .any, .any, .any, .any, .any, .any, .any, .any, .any, .any, .any, .any, .any, .any, .any, .any, .any, .any, .any, .any, .any, .any, .any, .any, .any, .any, .any, .any, .any, .any, .any, .any, .any, .any, .any, .any, .any, .any, .any, .any, .any, .any, .any, .any, .any, .any, .any, .any, .any, .any, .any, .any, .any, .any, .any, .any, .any, .any, .any, .any, .any, .any, .any, .any, .any, .any, .any, .any, .any, .any, .any, .any]⟩
def f_law10_LeapTables_p18 (T : TT_law10_LeapTables) (d : ((Int × (Int × Unit)) × ((List (Int × Int)) × Unit)) × ((Int × Unit) × (((Option ((List (Int × Int)) × (Int × Int))) × Unit) × (Unit × Unit)))) : Option (Unit × ((Bool × Unit) × Unit)) :=
  (g_leap_Table_Row ((), ((d.2.2.1.1, ()), ((d.2.1.1, ()), ())))).bind fun x28 =>
  let x29 : Bool := (decide (d.2.1.1 ≥ (0 : Int)))
  bif x29 then (
  let x30 : Int := (d.1.2.1.length : Int)
  let x31 : Bool := (decide (d.2.1.1 < x30))
  let x32 : Bool := (!(x28.2.2.1.1 == x31))
  bif x32 then (
  some ((), ((false, ()), ())))
  else (
  bif x28.2.2.1.1 then (
  bif decide ((0 : Int) ≤ d.2.1.1) && decide (d.2.1.1 < (d.1.2.1.length : Int)) then (
  let x33 : (Int × Int) := (gd_i64_i64 d.1.2.1 d.2.1.1)
  let x34 : Bool := (x28.2.1.1 != x33.1)
  bif x34 then (
  some ((), ((false, ()), ())))
  else (
  bif decide ((0 : Int) ≤ d.2.1.1) && decide (d.2.1.1 < (d.1.2.1.length : Int)) then (
  let x35 : (Int × Int) := (gd_i64_i64 d.1.2.1 d.2.1.1)
  let x36 : Bool := (x28.2.1.2.1 != x35.2)
  bif x36 then (
  some ((), ((false, ()), ())))
  else (
  let x37 : Bool := (!x28.2.2.1.1)
  bif x37 then (
  let x38 : Bool := (!((x28.2.1.1 == (0 : Int)) && ((x28.2.1.2.1 == (0 : Int)) && true)))
  bif x38 then (
  some ((), ((false, ()), ())))
  else (
  (g_law10_Is ((), ((d.2.2.1.1, ()), ((d.1.2.1, (d.1.1.1, (d.1.1.2.1, ()))), ())))).bind fun x39 =>
  some ((), ((x39.2.1.1, ()), ()))))
  else (
  (g_law10_Is ((), ((d.2.2.1.1, ()), ((d.1.2.1, (d.1.1.1, (d.1.1.2.1, ()))), ())))).bind fun x40 =>
  some ((), ((x40.2.1.1, ()), ())))))
  else none))
  else none)
  else (
  let x41 : Bool := (!x28.2.2.1.1)
  bif x41 then (
  let x42 : Bool := (!((x28.2.1.1 == (0 : Int)) && ((x28.2.1.2.1 == (0 : Int)) && true)))
  bif x42 then (
  some ((), ((false, ()), ())))
  else (
  (g_law10_Is ((), ((d.2.2.1.1, ()), ((d.1.2.1, (d.1.1.1, (d.1.1.2.1, ()))), ())))).bind fun x43 =>
  some ((), ((x43.2.1.1, ()), ()))))
  else (
  (g_law10_Is ((), ((d.2.2.1.1, ()), ((d.1.2.1, (d.1.1.1, (d.1.1.2.1, ()))), ())))).bind fun x44 =>
  some ((), ((x44.2.1.1, ()), ()))))))
  else (
  let x45 : Bool := (!(x28.2.2.1.1 == false))
  bif x45 then (
  some ((), ((false, ()), ())))
  else (
  bif x28.2.2.1.1 then (
  bif decide ((0 : Int) ≤ d.2.1.1) && decide (d.2.1.1 < (d.1.2.1.length : Int)) then (
  let x46 : (Int × Int) := (gd_i64_i64 d.1.2.1 d.2.1.1)
  let x47 : Bool := (x28.2.1.1 != x46.1)
  bif x47 then (
  some ((), ((false, ()), ())))
  else (
  bif decide ((0 : Int) ≤ d.2.1.1) && decide (d.2.1.1 < (d.1.2.1.length : Int)) then (
  let x48 : (Int × Int) := (gd_i64_i64 d.1.2.1 d.2.1.1)
  let x49 : Bool := (x28.2.1.2.1 != x48.2)
  bif x49 then (
  some ((), ((false, ()), ())))
  else (
  let x50 : Bool := (!x28.2.2.1.1)
  bif x50 then (
  let x51 : Bool := (!((x28.2.1.1 == (0 : Int)) && ((x28.2.1.2.1 == (0 : Int)) && true)))
  bif x51 then (
  some ((), ((false, ()), ())))
  else (
  (g_law10_Is ((), ((d.2.2.1.1, ()), ((d.1.2.1, (d.1.1.1, (d.1.1.2.1, ()))), ())))).bind fun x52 =>
  some ((), ((x52.2.1.1, ()), ()))))
  else (
  (g_law10_Is ((), ((d.2.2.1.1, ()), ((d.1.2.1, (d.1.1.1, (d.1.1.2.1, ()))), ())))).bind fun x53 =>
  some ((), ((x53.2.1.1, ()), ())))))
  else none))
  else none)
  else (
  let x54 : Bool := (!x28.2.2.1.1)
  bif x54 then (
  let x55 : Bool := (!((x28.2.1.1 == (0 : Int)) && ((x28.2.1.2.1 == (0 : Int)) && true)))
  bif x55 then (
  some ((), ((false, ()), ())))
  else (
  (g_law10_Is ((), ((d.2.2.1.1, ()), ((d.1.2.1, (d.1.1.1, (d.1.1.2.1, ()))), ())))).bind fun x56 =>
  some ((), ((x56.2.1.1, ()), ()))))
  else (
  (g_law10_Is ((), ((d.2.2.1.1, ()), ((d.1.2.1, (d.1.1.1, (d.1.1.2.1, ()))), ())))).bind fun x57 =>
  some ((), ((x57.2.1.1, ()), ()))))))
def f_law10_LeapTables_t : Nat → TT_law10_LeapTables
  | 0 => (fun _ => none, ())
  | k + 1 => (f_law10_LeapTables_p18 (f_law10_LeapTables_t k), ())
theorem t_law10_LeapTables (k : Nat) : f_law10_LeapTables_t (k + 1) = (f_law10_LeapTables_p18 (f_law10_LeapTables_t k), ()) := rfl
def f_law10_LeapTables_m (T : TT_law10_LeapTables) (d : Unit × (((List (Int × Int)) × (Int × (Int × Unit))) × ((Int × Unit) × Unit))) : Option (Unit × ((Bool × Unit) × Unit)) :=
  (g_law10_alive ((), ())).bind fun x1 =>
  let x2 : Bool := (!x1.2.1.1)
  bif x2 then (
  some ((), ((false, ()), ())))
  else (
  let x3 : Int := (d.2.1.1.length : Int)
  let x4 : Bool := (decide (x3 > (300 : Int)))
  bif x4 then (
  some ((), ((true, ()), ())))
  else (
  let x5 : (List (Int × Int)) := ([] : List (Int × Int))
  bif decide (((x5.length + d.2.1.1.length) * 16 : Nat) ≤ 140737488355328) && decide (x5.length + d.2.1.1.length ≤ 9223372036854775807) then (
  let x6 : (List (Int × Int)) := (x5 ++ d.2.1.1)
  (g_leap_New_io ((x6, ()), ((), ((d.2.1.2.1, ()), ((d.2.1.2.2.1, ()), ()))))).bind fun x7 =>
  (g_law10_Document ((), ((d.2.1.1, (d.2.1.2.1, (d.2.1.2.2.1, ()))), ()))).bind fun x8 =>
  (g_ref10_Check ((), ((x8.1.1, (x8.2.1.1, (x8.2.1.2.1, ()))), ()))).bind fun x9 =>
  let x10 : Bool := (x9.2.1.1 != (0 : Int))
  bif x10 then (
  bif x7.2.1.1.isNone then (
  (g_hnum_Num ((), ((x7.2.2.1.1, ()), ()))).bind fun x11 =>
  let x12 : Bool := (x11.2.1.1 == x9.2.1.1)
  some ((), ((x12, ()), ())))
  else (
  some ((), ((false, ()), ()))))
  else (
  let x13 : Bool := (!x7.2.2.1.1.isNone)
  bif x13 then (
  some ((), ((false, ()), ())))
  else (
  (g_law10_Is ((), ((x7.2.1.1, ()), ((x8.1.1, (x8.2.1.1, (x8.2.1.2.1, ()))), ())))).bind fun x14 =>
  let x15 : Bool := (!x14.2.1.1)
  bif x15 then (
  some ((), ((false, ()), ())))
  else (
  (g_leap_Table_Len ((), ((x7.2.1.1, ()), ()))).bind fun x16 =>
  let x17 : Int := (x8.1.1.length : Int)
  let x18 : Bool := (x16.2.1.1 != x17)
  bif x18 then (
  some ((), ((false, ()), ())))
  else (
  bif decide ((0 : Int) ≤ (0 : Int)) && decide ((0 : Int) < (x7.1.1.length : Int)) then (
  let x19 : (Int × Int) := (gd_i64_i64 x7.1.1 (0 : Int))
  let x20 : Int := (iadd .i64 x19.2 (5 : Int))
  bif decide ((0 : Int) ≤ (0 : Int)) && decide ((0 : Int) < (x7.1.1.length : Int)) then (
  let x21 : (List (Int × Int)) := (List.set x7.1.1 (Int.toNat (0 : Int)) ((gd_i64_i64 x7.1.1 (0 : Int)).1, x20))
  (g_leap_Table_Rows ((), ((x7.2.1.1, ()), ()))).bind fun x22 =>
  let x23 : Int := (x22.1.1.length : Int)
  let x24 : Bool := (decide (x23 > (0 : Int)))
  bif x24 then (
  bif decide ((0 : Int) ≤ (0 : Int)) && decide ((0 : Int) < (x22.1.1.length : Int)) then (
  let x25 : (Int × Int) := (gd_i64_i64 x22.1.1 (0 : Int))
  let x26 : Int := (iadd .i64 x25.1 (1 : Int))
  bif decide ((0 : Int) ≤ (0 : Int)) && decide ((0 : Int) < (x22.1.1.length : Int)) then (
  let x27 : (List (Int × Int)) := (List.set x22.1.1 (Int.toNat (0 : Int)) (x26, (gd_i64_i64 x22.1.1 (0 : Int)).2))
  (T.1 (((x8.2.1.1, (x8.2.1.2.1, ())), (x8.1.1, ())), ((d.2.2.1.1, ()), ((x7.2.1.1, ()), ((), ()))))))
  else none)
  else none)
  else (
  (T.1 (((x8.2.1.1, (x8.2.1.2.1, ())), (x8.1.1, ())), ((d.2.2.1.1, ()), ((x7.2.1.1, ()), ((), ())))))))
  else none)
  else none)))))
  else none))
def c_law10_LeapTables : List Nat := [18]
def L_law10_LeapTables (k : Nat) : Pts po_law10_LeapTables.den := [(18, ⟨sh_law10_LeapTables_18, (f_law10_LeapTables_t k).1⟩)]
def R_law10_LeapTables (_ : Nat) : PtsR po_law10_LeapTables.den := []
def E_law10_LeapTables : Env := (((((((((E0.add 5 (typedSem pi_law10_alive po_law10_alive g_law10_alive)).add 6 (ioSem pi_leap_New_io po_leap_New_io 2 [(0, 0, none)] g_leap_New_io)).add 7 (typedSem pi_law10_Document po_law10_Document g_law10_Document)).add 8 (typedSem pi_ref10_Check po_ref10_Check g_ref10_Check)).add 9 (typedSem pi_hnum_Num po_hnum_Num g_hnum_Num)).add 10 (typedSem pi_law10_Is po_law10_Is g_law10_Is)).add 11 (typedSem pi_leap_Table_Len po_leap_Table_Len g_leap_Table_Len)).add 12 (typedSem pi_leap_Table_Rows po_leap_Table_Rows g_leap_Table_Rows)).add 13 (typedSem pi_leap_Table_Row po_leap_Table_Row g_leap_Table_Row))
theorem q_law10_LeapTables_18 (k : Nat) (d : ((Int × (Int × Unit)) × ((List (Int × Int)) × Unit)) × ((Int × Unit) × (((Option ((List (Int × Int)) × (Int × Int))) × Unit) × (Unit × Unit)))) : evAt E_law10_LeapTables (tb (L_law10_LeapTables k) (R_law10_LeapTables k)) c_law10_LeapTables 18 (bodyOf Try.f3) 0 (finK E_law10_LeapTables po_law10_LeapTables [.tmp 4]) (ptSt sh_law10_LeapTables_18 d) = f_law10_LeapTables_p18 (f_law10_LeapTables_t k) d := by kernel_rfl
theorem q_law10_LeapTables_m (k : Nat) (d : Unit × (((List (Int × Int)) × (Int × (Int × Unit))) × ((Int × Unit) × Unit))) : evCode E_law10_LeapTables (tb (L_law10_LeapTables k) (R_law10_LeapTables k)) c_law10_LeapTables (bodyOf Try.f3) 0 (finK E_law10_LeapTables po_law10_LeapTables [.tmp 4]) (startSt pi_law10_LeapTables 135 d) = f_law10_LeapTables_m (f_law10_LeapTables_t k) d := by kernel_rfl
theorem go_law10_LeapTables (F : Unit × (((List (Int × Int)) × (Int × (Int × Unit))) × ((Int × Unit) × Unit)) → Option (Unit × ((Bool × Unit) × Unit))) (hF : ∀ d out, F d = some out → ∃ k, f_law10_LeapTables_m (f_law10_LeapTables_t k) d = some out) : FnOk Try.prog ET0 3 pi_law10_LeapTables po_law10_LeapTables F :=
  fn_of_body (E := E_law10_LeapTables) (envOk_add (envOk_add (envOk_add (envOk_add (envOk_add (envOk_add (envOk_add (envOk_add (envOk_add e0_ok (typed_ok ok_law10_alive)) (io_ok ok_leap_New_io)) (typed_ok ok_law10_Document)) (typed_ok ok_ref10_Check)) (typed_ok ok_hnum_Num)) (typed_ok ok_law10_Is)) (typed_ok ok_leap_Table_Len)) (typed_ok ok_leap_Table_Rows)) (typed_ok ok_leap_Table_Row)) (fn := Try.f3) Try.func3 (by kernel_rfl) (by kernel_rfl) [.tmp 4] (by kernel_rfl) (by kernel_rfl) (by decide) rfl c_law10_LeapTables L_law10_LeapTables R_law10_LeapTables
    (by intro x hx d; simp only [L_law10_LeapTables, List.mem_cons, List.not_mem_nil, or_false] at hx; subst hx; rfl)
    (by intro k x hx d out h; simp only [L_law10_LeapTables, List.mem_cons, List.not_mem_nil, or_false] at hx; subst hx; exact (q_law10_LeapTables_18 k d).trans h)
    (by intro x hx; cases hx)
    (by intro k x hx; cases hx)
    (by intro d out h; obtain ⟨k, hk⟩ := hF d out h; exact ⟨k, (q_law10_LeapTables_m k d).trans hk⟩)
def g_law10_LeapTables (d : Unit × (((List (Int × Int)) × (Int × (Int × Unit))) × ((Int × Unit) × Unit))) : Option (Unit × ((Bool × Unit) × Unit)) := lim fun k => f_law10_LeapTables_m (f_law10_LeapTables_t k) d
theorem ok_law10_LeapTables : FnOk Try.prog ET0 3 pi_law10_LeapTables po_law10_LeapTables g_law10_LeapTables := go_law10_LeapTables g_law10_LeapTables fun d out h => lim_some h
end
end Go.Proofs.Ytddnfappkfiidaa.Ev
