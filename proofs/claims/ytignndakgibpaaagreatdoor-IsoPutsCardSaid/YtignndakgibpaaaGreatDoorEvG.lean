/- Printed by wip/tools/evgen.py. -/
import Derived.Test.YtignndakgibpaaaGreatDoorEv32
import Derived.Test.YtignndakgibpaaaGreatDoorShelf
import Derived.Test.YtignndakgibpaaaGreatDoorEvE
import Derived.Test.YtignndakgibpaaaGreatDoorProg
import Derived.KernelRfl
set_option maxRecDepth 100000
set_option maxHeartbeats 2000000
set_option linter.unusedVariables false
namespace Go.Proofs.YtignndakgibpaaaGreatDoor.Ev
open Go
noncomputable section
def rows0 : List (TypeId × Row) := [
  (2, ⟨.int .i64, 1, 8, (.int .i64), [AV.val (.int .i64) (0 : Int)], none⟩),
  (3, ⟨.int .i64, 1, 8, (.int .i64), [AV.val (.int .i64) (0 : Int)], none⟩),
  (4, ⟨.bool, 1, 1, .bool, [AV.val .bool false], none⟩),
  (5, ⟨.int .u8, 1, 1, (.int .u8), [AV.val (.int .u8) (0 : Int)], none⟩),
  (9, ⟨.str, 1, 16, .str, [AV.val .str ByteArray.empty], none⟩),
  (23, ⟨.struct [(0, 1, false), (1, 1, false), (2, 1, false), (3, 1, false), (4, 1, false), (5, 1, false), (6, 1, false), (7, 1, false)], 8, 64, (.pair (.int .i64) (.pair (.int .i64) (.pair (.int .i64) (.pair (.int .i64) (.pair (.int .i64) (.pair (.int .i64) (.pair (.int .i64) (.int .i64)))))))), [AV.val (.int .i64) (0 : Int), AV.val (.int .i64) (0 : Int), AV.val (.int .i64) (0 : Int), AV.val (.int .i64) (0 : Int), AV.val (.int .i64) (0 : Int), AV.val (.int .i64) (0 : Int), AV.val (.int .i64) (0 : Int), AV.val (.int .i64) (0 : Int)], some [.int .i64, .int .i64, .int .i64, .int .i64, .int .i64, .int .i64, .int .i64, .int .i64]⟩),
  (26, ⟨.iface, 1, 16, .err, [AV.val .err (none : Option Int)], none⟩),
  (30, ⟨.struct [(0, 1, false), (1, 1, false), (2, 1, false), (3, 1, false), (4, 1, false), (5, 1, false), (6, 1, false), (7, 1, false)], 8, 64, (.pair (.int .i64) (.pair (.int .i64) (.pair (.int .i64) (.pair (.int .i64) (.pair (.int .i64) (.pair (.int .i64) (.pair (.int .i64) (.int .i64)))))))), [AV.val (.int .i64) (0 : Int), AV.val (.int .i64) (0 : Int), AV.val (.int .i64) (0 : Int), AV.val (.int .i64) (0 : Int), AV.val (.int .i64) (0 : Int), AV.val (.int .i64) (0 : Int), AV.val (.int .i64) (0 : Int), AV.val (.int .i64) (0 : Int)], some [.int .i64, .int .i64, .int .i64, .int .i64, .int .i64, .int .i64, .int .i64, .int .i64]⟩),
  (37, ⟨.int .i64, 1, 8, (.int .i64), [AV.val (.int .i64) (0 : Int)], none⟩),
  (39, ⟨.slice 5, 1, 24, (.sl (.int .u8)), [AV.nilS], none⟩),
  (63, ⟨.int .u64, 1, 8, (.int .u64), [AV.val (.int .u64) (0 : Int)], none⟩),
  (81, ⟨.ptr, 1, 8, (.nptr (.pair .str (.pair (.int .i64) .err))), [AV.nilP], none⟩),
  (84, ⟨.struct [(0, 1, false)], 1, 8, (.nptr (.pair .str (.pair (.int .i64) .err))), [AV.nilP], none⟩),
  (96, ⟨.struct [(0, 1, false), (1, 1, false)], 2, 40, (.pair (.sl (.int .u8)) .err), [AV.nilS, AV.val .err (none : Option Int)], none⟩),
  (143, ⟨.struct [(0, 1, false), (1, 1, false), (2, 1, false)], 3, 40, (.pair .str (.pair (.int .i64) .err)), [AV.val .str ByteArray.empty, AV.val (.int .i64) (0 : Int), AV.val .err (none : Option Int)], none⟩),
  (167, ⟨.slice 3, 1, 24, (.sl (.int .i64)), [AV.nilS], none⟩)]
def ET0 : TypeId := 37
def E0 : Env := ⟨rows0, [], ET0, 0, [], [], []⟩
theorem e0_ok : EnvOk Tryz.prog E0 := envOk_rows (by kernel_rfl) (by kernel_rfl) 0
/- internal/stringslite.Clone -/
@[reducible] def pi_internal_stringslite_Clone : PSh := pi_lib_clone
@[reducible] def po_internal_stringslite_Clone : PSh := po_lib_clone
def g_internal_stringslite_Clone := lib_clone
theorem ok_internal_stringslite_Clone : FnOk Tryz.prog ET0 191 pi_internal_stringslite_Clone po_internal_stringslite_Clone g_internal_stringslite_Clone := lib_clone_ok ⟨Tryz.f191, Tryz.func191, by kernel_rfl, by kernel_rfl⟩ Tryz.stringslite_Clone
/- strings.IndexByte -/
@[reducible] def pi_strings_IndexByte : PSh := pi_lib_indexByte
@[reducible] def po_strings_IndexByte : PSh := po_lib_indexByte
def g_strings_IndexByte := lib_indexByte
theorem ok_strings_IndexByte : FnOk Tryz.prog ET0 124 pi_strings_IndexByte po_strings_IndexByte g_strings_IndexByte := lib_indexByte_ok ⟨Tryz.f124, Tryz.func124, by kernel_rfl, by kernel_rfl⟩ Tryz.strings_IndexByte
/- strings.Repeat -/
@[reducible] def pi_strings_Repeat : PSh := pi_lib_repeat
@[reducible] def po_strings_Repeat : PSh := po_lib_repeat
def g_strings_Repeat := lib_repeat
theorem ok_strings_Repeat : FnOk Tryz.prog ET0 85 pi_strings_Repeat po_strings_Repeat g_strings_Repeat := lib_repeat_ok ⟨Tryz.f85, Tryz.func85, by kernel_rfl, by kernel_rfl⟩ Tryz.strings_Repeat

/- horologe/day.right -/
@[reducible] def pi_day_right : PSh := ⟨[], [.mk false [.v (.int .i64)]]⟩
@[reducible] def po_day_right : PSh := ⟨[], [.mk false [.v .bool]]⟩
def f_day_right_m (T : Unit) (d : Unit × ((Int × Unit) × Unit)) : Option (Unit × ((Bool × Unit) × Unit)) :=
  let x1 : Bool := (decide (d.2.1.1 ≥ (-9999 : Int)))
  bif x1 then (
  let x2 : Bool := (decide (d.2.1.1 ≤ (9999 : Int)))
  some ((), ((x2, ()), ())))
  else (
  some ((), ((false, ()), ())))
def c_day_right : List Nat := []
def L_day_right (_ : Nat) : Pts po_day_right.den := []
def R_day_right (_ : Nat) : PtsR po_day_right.den := []
def E_day_right : Env := E0
theorem q_day_right_m (k : Nat) (d : Unit × ((Int × Unit) × Unit)) : evCode E_day_right (tb (L_day_right k) (R_day_right k)) c_day_right (bodyOf Tryz.f203) 0 (finK E_day_right po_day_right [.tmp 2]) (startSt pi_day_right 9 d) = f_day_right_m () d := by kernel_rfl
def g_day_right (d : Unit × ((Int × Unit) × Unit)) : Option (Unit × ((Bool × Unit) × Unit)) := f_day_right_m () d
theorem ok_day_right : FnOk Tryz.prog ET0 203 pi_day_right po_day_right g_day_right :=
  fn_of_body (E := E_day_right) e0_ok (fn := Tryz.f203) Tryz.func203 (by kernel_rfl) (by kernel_rfl) [.tmp 2] (by kernel_rfl) (by kernel_rfl) (by decide) rfl c_day_right L_day_right R_day_right
    (by intro x hx; cases hx) (by intro k x hx; cases hx) (by intro x hx; cases hx) (by intro k x hx; cases hx) (fun d out h => ⟨0, (q_day_right_m 0 d).trans h⟩)

/- horologe/day.Leap -/
@[reducible] def pi_day_Leap : PSh := ⟨[], [.mk false [.v (.int .i64)]]⟩
@[reducible] def po_day_Leap : PSh := ⟨[], [.mk false [.v .bool]]⟩
def f_day_Leap_m (T : Unit) (d : Unit × ((Int × Unit) × Unit)) : Option (Unit × ((Bool × Unit) × Unit)) :=
  let x1 : Int := (Int.tmod d.2.1.1 (4 : Int))
  let x2 : Bool := (x1 == (0 : Int))
  bif x2 then (
  let x3 : Int := (Int.tmod d.2.1.1 (100 : Int))
  let x4 : Bool := (x3 != (0 : Int))
  bif x4 then (
  some ((), ((true, ()), ())))
  else (
  let x5 : Int := (Int.tmod d.2.1.1 (400 : Int))
  let x6 : Bool := (x5 == (0 : Int))
  some ((), ((x6, ()), ()))))
  else (
  some ((), ((false, ()), ())))
def c_day_Leap : List Nat := []
def L_day_Leap (_ : Nat) : Pts po_day_Leap.den := []
def R_day_Leap (_ : Nat) : PtsR po_day_Leap.den := []
def E_day_Leap : Env := E0
theorem q_day_Leap_m (k : Nat) (d : Unit × ((Int × Unit) × Unit)) : evCode E_day_Leap (tb (L_day_Leap k) (R_day_Leap k)) c_day_Leap (bodyOf Tryz.f204) 0 (finK E_day_Leap po_day_Leap [.tmp 2]) (startSt pi_day_Leap 16 d) = f_day_Leap_m () d := by kernel_rfl
def g_day_Leap (d : Unit × ((Int × Unit) × Unit)) : Option (Unit × ((Bool × Unit) × Unit)) := f_day_Leap_m () d
theorem ok_day_Leap : FnOk Tryz.prog ET0 204 pi_day_Leap po_day_Leap g_day_Leap :=
  fn_of_body (E := E_day_Leap) e0_ok (fn := Tryz.f204) Tryz.func204 (by kernel_rfl) (by kernel_rfl) [.tmp 2] (by kernel_rfl) (by kernel_rfl) (by decide) rfl c_day_Leap L_day_Leap R_day_Leap
    (by intro x hx; cases hx) (by intro k x hx; cases hx) (by intro x hx; cases hx) (by intro k x hx; cases hx) (fun d out h => ⟨0, (q_day_Leap_m 0 d).trans h⟩)

/- horologe/day.Month -/
@[reducible] def pi_day_Month : PSh := ⟨[], [.mk false [.v (.int .i64)], .mk false [.v (.int .i64)]]⟩
@[reducible] def po_day_Month : PSh := ⟨[], [.mk false [.v (.int .i64)], .mk false [.v .err]]⟩
def f_day_Month_m (T : Unit) (d : Unit × ((Int × Unit) × ((Int × Unit) × Unit))) : Option (Unit × ((Int × Unit) × (((Option Int) × Unit) × Unit))) :=
  (g_day_right ((), ((d.2.1.1, ()), ()))).bind fun x1 =>
  let x2 : Bool := (!x1.2.1.1)
  bif x2 then (
  let x3 : (Option Int) := (some (13 : Int))
  some ((), (((0 : Int), ()), ((x3, ()), ()))))
  else (
  let x4 : Bool := (decide (d.2.2.1.1 < (1 : Int)))
  bif x4 then (
  let x5 : (Option Int) := (some (1 : Int))
  some ((), (((0 : Int), ()), ((x5, ()), ()))))
  else (
  let x6 : Bool := (decide (d.2.2.1.1 > (12 : Int)))
  bif x6 then (
  let x7 : (Option Int) := (some (1 : Int))
  some ((), (((0 : Int), ()), ((x7, ()), ()))))
  else (
  let x8 : Bool := (d.2.2.1.1 == (2 : Int))
  bif x8 then (
  (g_day_Leap ((), ((d.2.1.1, ()), ()))).bind fun x9 =>
  bif x9.2.1.1 then (
  some ((), (((29 : Int), ()), (((none : Option Int), ()), ()))))
  else (
  let x10 : Bool := (d.2.2.1.1 == (2 : Int))
  bif x10 then (
  some ((), (((28 : Int), ()), (((none : Option Int), ()), ()))))
  else (
  let x11 : Int := (iquo .i64 d.2.2.1.1 (8 : Int))
  let x12 : Int := (iadd .i64 d.2.2.1.1 x11)
  let x13 : Int := (Int.tmod x12 (2 : Int))
  let x14 : Int := (iadd .i64 (30 : Int) x13)
  some ((), ((x14, ()), (((none : Option Int), ()), ()))))))
  else (
  let x15 : Bool := (d.2.2.1.1 == (2 : Int))
  bif x15 then (
  some ((), (((28 : Int), ()), (((none : Option Int), ()), ()))))
  else (
  let x16 : Int := (iquo .i64 d.2.2.1.1 (8 : Int))
  let x17 : Int := (iadd .i64 d.2.2.1.1 x16)
  let x18 : Int := (Int.tmod x17 (2 : Int))
  let x19 : Int := (iadd .i64 (30 : Int) x18)
  some ((), ((x19, ()), (((none : Option Int), ()), ()))))))))
def c_day_Month : List Nat := []
def L_day_Month (_ : Nat) : Pts po_day_Month.den := []
def R_day_Month (_ : Nat) : PtsR po_day_Month.den := []
def E_day_Month : Env := ((E0.add 203 (typedSem pi_day_right po_day_right g_day_right)).add 204 (typedSem pi_day_Leap po_day_Leap g_day_Leap))
theorem q_day_Month_m (k : Nat) (d : Unit × ((Int × Unit) × ((Int × Unit) × Unit))) : evCode E_day_Month (tb (L_day_Month k) (R_day_Month k)) c_day_Month (bodyOf Tryz.f195) 0 (finK E_day_Month po_day_Month [.tmp 4, .tmp 5]) (startSt pi_day_Month 35 d) = f_day_Month_m () d := by kernel_rfl
def g_day_Month (d : Unit × ((Int × Unit) × ((Int × Unit) × Unit))) : Option (Unit × ((Int × Unit) × (((Option Int) × Unit) × Unit))) := f_day_Month_m () d
theorem ok_day_Month : FnOk Tryz.prog ET0 195 pi_day_Month po_day_Month g_day_Month :=
  fn_of_body (E := E_day_Month) (envOk_add (envOk_add e0_ok (typed_ok ok_day_right)) (typed_ok ok_day_Leap)) (fn := Tryz.f195) Tryz.func195 (by kernel_rfl) (by kernel_rfl) [.tmp 4, .tmp 5] (by kernel_rfl) (by kernel_rfl) (by decide) rfl c_day_Month L_day_Month R_day_Month
    (by intro x hx; cases hx) (by intro k x hx; cases hx) (by intro x hx; cases hx) (by intro k x hx; cases hx) (fun d out h => ⟨0, (q_day_Month_m 0 d).trans h⟩)

/- horologe/day.check -/
@[reducible] def pi_day_check : PSh := ⟨[], [.mk false [.v (.int .i64)], .mk false [.v (.int .i64)], .mk false [.v (.int .i64)]]⟩
@[reducible] def po_day_check : PSh := ⟨[], [.mk false [.v .err]]⟩
def f_day_check_m (T : Unit) (d : Unit × ((Int × Unit) × ((Int × Unit) × ((Int × Unit) × Unit)))) : Option (Unit × (((Option Int) × Unit) × Unit)) :=
  (g_day_Month ((), ((d.2.1.1, ()), ((d.2.2.1.1, ()), ())))).bind fun x1 =>
  let x2 : Bool := (!x1.2.2.1.1.isNone)
  bif x2 then (
  some ((), ((x1.2.2.1.1, ()), ())))
  else (
  let x3 : Bool := (decide (d.2.2.2.1.1 < (1 : Int)))
  bif x3 then (
  let x4 : (Option Int) := (some (1 : Int))
  some ((), ((x4, ()), ())))
  else (
  let x5 : Bool := (decide (d.2.2.2.1.1 > x1.2.1.1))
  bif x5 then (
  let x6 : (Option Int) := (some (1 : Int))
  some ((), ((x6, ()), ())))
  else (
  some ((), (((none : Option Int), ()), ())))))
def c_day_check : List Nat := []
def L_day_check (_ : Nat) : Pts po_day_check.den := []
def R_day_check (_ : Nat) : PtsR po_day_check.den := []
def E_day_check : Env := (E0.add 195 (typedSem pi_day_Month po_day_Month g_day_Month))
theorem q_day_check_m (k : Nat) (d : Unit × ((Int × Unit) × ((Int × Unit) × ((Int × Unit) × Unit)))) : evCode E_day_check (tb (L_day_check k) (R_day_check k)) c_day_check (bodyOf Tryz.f171) 0 (finK E_day_check po_day_check [.tmp 6]) (startSt pi_day_check 28 d) = f_day_check_m () d := by kernel_rfl
def g_day_check (d : Unit × ((Int × Unit) × ((Int × Unit) × ((Int × Unit) × Unit)))) : Option (Unit × (((Option Int) × Unit) × Unit)) := f_day_check_m () d
theorem ok_day_check : FnOk Tryz.prog ET0 171 pi_day_check po_day_check g_day_check :=
  fn_of_body (E := E_day_check) (envOk_add e0_ok (typed_ok ok_day_Month)) (fn := Tryz.f171) Tryz.func171 (by kernel_rfl) (by kernel_rfl) [.tmp 6] (by kernel_rfl) (by kernel_rfl) (by decide) rfl c_day_check L_day_check R_day_check
    (by intro x hx; cases hx) (by intro k x hx; cases hx) (by intro x hx; cases hx) (by intro k x hx; cases hx) (fun d out h => ⟨0, (q_day_check_m 0 d).trans h⟩)

/- horologe/day.floor -/
@[reducible] def pi_day_floor : PSh := ⟨[], [.mk false [.v (.int .i64)], .mk false [.v (.int .i64)]]⟩
@[reducible] def po_day_floor : PSh := ⟨[], [.mk false [.v (.int .i64)]]⟩
def f_day_floor_m (T : Unit) (d : Unit × ((Int × Unit) × ((Int × Unit) × Unit))) : Option (Unit × ((Int × Unit) × Unit)) :=
  bif (d.2.2.1.1 == 0) then (
  none)
  else (
  let x1 : Int := (iquo .i64 d.2.1.1 d.2.2.1.1)
  bif (d.2.2.1.1 == 0) then (
  none)
  else (
  let x2 : Int := (Int.tmod d.2.1.1 d.2.2.1.1)
  let x3 : Bool := (decide (x2 < (0 : Int)))
  bif x3 then (
  let x4 : Int := (isub .i64 x1 (1 : Int))
  some ((), ((x4, ()), ())))
  else (
  some ((), ((x1, ()), ())))))
def c_day_floor : List Nat := []
def L_day_floor (_ : Nat) : Pts po_day_floor.den := []
def R_day_floor (_ : Nat) : PtsR po_day_floor.den := []
def E_day_floor : Env := E0
theorem q_day_floor_m (k : Nat) (d : Unit × ((Int × Unit) × ((Int × Unit) × Unit))) : evCode E_day_floor (tb (L_day_floor k) (R_day_floor k)) c_day_floor (bodyOf Tryz.f196) 0 (finK E_day_floor po_day_floor [.tmp 4]) (startSt pi_day_floor 16 d) = f_day_floor_m () d := by kernel_rfl
def g_day_floor (d : Unit × ((Int × Unit) × ((Int × Unit) × Unit))) : Option (Unit × ((Int × Unit) × Unit)) := f_day_floor_m () d
theorem ok_day_floor : FnOk Tryz.prog ET0 196 pi_day_floor po_day_floor g_day_floor :=
  fn_of_body (E := E_day_floor) e0_ok (fn := Tryz.f196) Tryz.func196 (by kernel_rfl) (by kernel_rfl) [.tmp 4] (by kernel_rfl) (by kernel_rfl) (by decide) rfl c_day_floor L_day_floor R_day_floor
    (by intro x hx; cases hx) (by intro k x hx; cases hx) (by intro x hx; cases hx) (by intro k x hx; cases hx) (fun d out h => ⟨0, (q_day_floor_m 0 d).trans h⟩)

/- horologe/day.number -/
@[reducible] def pi_day_number : PSh := ⟨[], [.mk false [.v (.int .i64)], .mk false [.v (.int .i64)], .mk false [.v (.int .i64)]]⟩
@[reducible] def po_day_number : PSh := ⟨[], [.mk false [.v (.int .i64)]]⟩
def f_day_number_m (T : Unit) (d : Unit × ((Int × Unit) × ((Int × Unit) × ((Int × Unit) × Unit)))) : Option (Unit × ((Int × Unit) × Unit)) :=
  let x1 : Bool := (decide (d.2.2.1.1 ≤ (2 : Int)))
  bif x1 then (
  let x2 : Int := (isub .i64 d.2.1.1 (1 : Int))
  let x3 : Int := (iadd .i64 d.2.2.1.1 (12 : Int))
  (g_day_floor ((), ((x2, ()), (((400 : Int), ()), ())))).bind fun x4 =>
  let x5 : Int := (imul .i64 x4.2.1.1 (400 : Int))
  let x6 : Int := (isub .i64 x2 x5)
  let x7 : Int := (isub .i64 x3 (3 : Int))
  let x8 : Int := (imul .i64 (153 : Int) x7)
  let x9 : Int := (iadd .i64 x8 (2 : Int))
  let x10 : Int := (iquo .i64 x9 (5 : Int))
  let x11 : Int := (iadd .i64 x10 d.2.2.2.1.1)
  let x12 : Int := (isub .i64 x11 (1 : Int))
  let x13 : Int := (imul .i64 x4.2.1.1 (146097 : Int))
  let x14 : Int := (imul .i64 x6 (365 : Int))
  let x15 : Int := (iadd .i64 x13 x14)
  let x16 : Int := (iquo .i64 x6 (4 : Int))
  let x17 : Int := (iadd .i64 x15 x16)
  let x18 : Int := (iquo .i64 x6 (100 : Int))
  let x19 : Int := (isub .i64 x17 x18)
  let x20 : Int := (iadd .i64 x19 x12)
  let x21 : Int := (isub .i64 x20 (719468 : Int))
  some ((), ((x21, ()), ())))
  else (
  (g_day_floor ((), ((d.2.1.1, ()), (((400 : Int), ()), ())))).bind fun x22 =>
  let x23 : Int := (imul .i64 x22.2.1.1 (400 : Int))
  let x24 : Int := (isub .i64 d.2.1.1 x23)
  let x25 : Int := (isub .i64 d.2.2.1.1 (3 : Int))
  let x26 : Int := (imul .i64 (153 : Int) x25)
  let x27 : Int := (iadd .i64 x26 (2 : Int))
  let x28 : Int := (iquo .i64 x27 (5 : Int))
  let x29 : Int := (iadd .i64 x28 d.2.2.2.1.1)
  let x30 : Int := (isub .i64 x29 (1 : Int))
  let x31 : Int := (imul .i64 x22.2.1.1 (146097 : Int))
  let x32 : Int := (imul .i64 x24 (365 : Int))
  let x33 : Int := (iadd .i64 x31 x32)
  let x34 : Int := (iquo .i64 x24 (4 : Int))
  let x35 : Int := (iadd .i64 x33 x34)
  let x36 : Int := (iquo .i64 x24 (100 : Int))
  let x37 : Int := (isub .i64 x35 x36)
  let x38 : Int := (iadd .i64 x37 x30)
  let x39 : Int := (isub .i64 x38 (719468 : Int))
  some ((), ((x39, ()), ())))
def c_day_number : List Nat := []
def L_day_number (_ : Nat) : Pts po_day_number.den := []
def R_day_number (_ : Nat) : PtsR po_day_number.den := []
def E_day_number : Env := (E0.add 196 (typedSem pi_day_floor po_day_floor g_day_floor))
theorem q_day_number_m (k : Nat) (d : Unit × ((Int × Unit) × ((Int × Unit) × ((Int × Unit) × Unit)))) : evCode E_day_number (tb (L_day_number k) (R_day_number k)) c_day_number (bodyOf Tryz.f172) 0 (finK E_day_number po_day_number [.tmp 6]) (startSt pi_day_number 44 d) = f_day_number_m () d := by kernel_rfl
def g_day_number (d : Unit × ((Int × Unit) × ((Int × Unit) × ((Int × Unit) × Unit)))) : Option (Unit × ((Int × Unit) × Unit)) := f_day_number_m () d
theorem ok_day_number : FnOk Tryz.prog ET0 172 pi_day_number po_day_number g_day_number :=
  fn_of_body (E := E_day_number) (envOk_add e0_ok (typed_ok ok_day_floor)) (fn := Tryz.f172) Tryz.func172 (by kernel_rfl) (by kernel_rfl) [.tmp 6] (by kernel_rfl) (by kernel_rfl) (by decide) rfl c_day_number L_day_number R_day_number
    (by intro x hx; cases hx) (by intro k x hx; cases hx) (by intro x hx; cases hx) (by intro k x hx; cases hx) (fun d out h => ⟨0, (q_day_number_m 0 d).trans h⟩)

/- horologe/day.Of -/
@[reducible] def pi_day_Of : PSh := ⟨[], [.mk false [.v (.int .i64)], .mk false [.v (.int .i64)], .mk false [.v (.int .i64)]]⟩
@[reducible] def po_day_Of : PSh := ⟨[], [.mk false [.v (.int .i64)], .mk false [.v .err]]⟩
def f_day_Of_m (T : Unit) (d : Unit × ((Int × Unit) × ((Int × Unit) × ((Int × Unit) × Unit)))) : Option (Unit × ((Int × Unit) × (((Option Int) × Unit) × Unit))) :=
  (g_day_check ((), ((d.2.1.1, ()), ((d.2.2.1.1, ()), ((d.2.2.2.1.1, ()), ()))))).bind fun x1 =>
  let x2 : Bool := (!x1.2.1.1.isNone)
  bif x2 then (
  some ((), (((0 : Int), ()), ((x1.2.1.1, ()), ()))))
  else (
  (g_day_number ((), ((d.2.1.1, ()), ((d.2.2.1.1, ()), ((d.2.2.2.1.1, ()), ()))))).bind fun x3 =>
  some ((), ((x3.2.1.1, ()), (((none : Option Int), ()), ()))))
def c_day_Of : List Nat := []
def L_day_Of (_ : Nat) : Pts po_day_Of.den := []
def R_day_Of (_ : Nat) : PtsR po_day_Of.den := []
def E_day_Of : Env := ((E0.add 171 (typedSem pi_day_check po_day_check g_day_check)).add 172 (typedSem pi_day_number po_day_number g_day_number))
theorem q_day_Of_m (k : Nat) (d : Unit × ((Int × Unit) × ((Int × Unit) × ((Int × Unit) × Unit)))) : evCode E_day_Of (tb (L_day_Of k) (R_day_Of k)) c_day_Of (bodyOf Tryz.f133) 0 (finK E_day_Of po_day_Of [.tmp 6, .tmp 7]) (startSt pi_day_Of 20 d) = f_day_Of_m () d := by kernel_rfl
def g_day_Of (d : Unit × ((Int × Unit) × ((Int × Unit) × ((Int × Unit) × Unit)))) : Option (Unit × ((Int × Unit) × (((Option Int) × Unit) × Unit))) := f_day_Of_m () d
theorem ok_day_Of : FnOk Tryz.prog ET0 133 pi_day_Of po_day_Of g_day_Of :=
  fn_of_body (E := E_day_Of) (envOk_add (envOk_add e0_ok (typed_ok ok_day_check)) (typed_ok ok_day_number)) (fn := Tryz.f133) Tryz.func133 (by kernel_rfl) (by kernel_rfl) [.tmp 6, .tmp 7] (by kernel_rfl) (by kernel_rfl) (by decide) rfl c_day_Of L_day_Of R_day_Of
    (by intro x hx; cases hx) (by intro k x hx; cases hx) (by intro x hx; cases hx) (by intro k x hx; cases hx) (fun d out h => ⟨0, (q_day_Of_m 0 d).trans h⟩)

/- horologe/label.in -/
@[reducible] def pi_label_in : PSh := ⟨[], [.mk false [.v (.int .i64)], .mk false [.v (.int .i64)]]⟩
@[reducible] def po_label_in : PSh := ⟨[], [.mk false [.v .bool]]⟩
def f_label_in_m (T : Unit) (d : Unit × ((Int × Unit) × ((Int × Unit) × Unit))) : Option (Unit × ((Bool × Unit) × Unit)) :=
  let x1 : Bool := (decide (d.2.1.1 ≥ (0 : Int)))
  bif x1 then (
  let x2 : Bool := (decide (d.2.1.1 < d.2.2.1.1))
  some ((), ((x2, ()), ())))
  else (
  some ((), ((false, ()), ())))
def c_label_in : List Nat := []
def L_label_in (_ : Nat) : Pts po_label_in.den := []
def R_label_in (_ : Nat) : PtsR po_label_in.den := []
def E_label_in : Env := E0
theorem q_label_in_m (k : Nat) (d : Unit × ((Int × Unit) × ((Int × Unit) × Unit))) : evCode E_label_in (tb (L_label_in k) (R_label_in k)) c_label_in (bodyOf Tryz.f134) 0 (finK E_label_in po_label_in [.tmp 4]) (startSt pi_label_in 12 d) = f_label_in_m () d := by kernel_rfl
def g_label_in (d : Unit × ((Int × Unit) × ((Int × Unit) × Unit))) : Option (Unit × ((Bool × Unit) × Unit)) := f_label_in_m () d
theorem ok_label_in : FnOk Tryz.prog ET0 134 pi_label_in po_label_in g_label_in :=
  fn_of_body (E := E_label_in) e0_ok (fn := Tryz.f134) Tryz.func134 (by kernel_rfl) (by kernel_rfl) [.tmp 4] (by kernel_rfl) (by kernel_rfl) (by decide) rfl c_label_in L_label_in R_label_in
    (by intro x hx; cases hx) (by intro k x hx; cases hx) (by intro x hx; cases hx) (by intro k x hx; cases hx) (fun d out h => ⟨0, (q_label_in_m 0 d).trans h⟩)

/- horologe/label.shifts -/
@[reducible] def pi_label_shifts : PSh := ⟨[], [.mk false [.v (.int .i64)]]⟩
@[reducible] def po_label_shifts : PSh := ⟨[], [.mk false [.v .bool]]⟩
def f_label_shifts_m (T : Unit) (d : Unit × ((Int × Unit) × Unit)) : Option (Unit × ((Bool × Unit) × Unit)) :=
  let x1 : Bool := (decide (d.2.1.1 > (-1440 : Int)))
  bif x1 then (
  let x2 : Bool := (decide (d.2.1.1 < (1440 : Int)))
  some ((), ((x2, ()), ())))
  else (
  some ((), ((false, ()), ())))
def c_label_shifts : List Nat := []
def L_label_shifts (_ : Nat) : Pts po_label_shifts.den := []
def R_label_shifts (_ : Nat) : PtsR po_label_shifts.den := []
def E_label_shifts : Env := E0
theorem q_label_shifts_m (k : Nat) (d : Unit × ((Int × Unit) × Unit)) : evCode E_label_shifts (tb (L_label_shifts k) (R_label_shifts k)) c_label_shifts (bodyOf Tryz.f135) 0 (finK E_label_shifts po_label_shifts [.tmp 2]) (startSt pi_label_shifts 9 d) = f_label_shifts_m () d := by kernel_rfl
def g_label_shifts (d : Unit × ((Int × Unit) × Unit)) : Option (Unit × ((Bool × Unit) × Unit)) := f_label_shifts_m () d
theorem ok_label_shifts : FnOk Tryz.prog ET0 135 pi_label_shifts po_label_shifts g_label_shifts :=
  fn_of_body (E := E_label_shifts) e0_ok (fn := Tryz.f135) Tryz.func135 (by kernel_rfl) (by kernel_rfl) [.tmp 2] (by kernel_rfl) (by kernel_rfl) (by decide) rfl c_label_shifts L_label_shifts R_label_shifts
    (by intro x hx; cases hx) (by intro k x hx; cases hx) (by intro x hx; cases hx) (by intro k x hx; cases hx) (fun d out h => ⟨0, (q_label_shifts_m 0 d).trans h⟩)

/- (horologe/label.Label).fields -/
@[reducible] def pi_label_Label_fields : PSh := ⟨[], [.mk true [.v (.int .i64), .v (.int .i64), .v (.int .i64), .v (.int .i64), .v (.int .i64), .v (.int .i64), .v (.int .i64), .v (.int .i64)]]⟩
@[reducible] def po_label_Label_fields : PSh := ⟨[], [.mk false [.v .err]]⟩
def f_label_Label_fields_m (T : Unit) (d : Unit × ((Int × (Int × (Int × (Int × (Int × (Int × (Int × (Int × Unit)))))))) × Unit)) : Option (Unit × (((Option Int) × Unit) × Unit)) :=
  (g_day_Of ((), ((d.2.1.1, ()), ((d.2.1.2.1, ()), ((d.2.1.2.2.1, ()), ()))))).bind fun x1 =>
  let x2 : Bool := (!x1.2.2.1.1.isNone)
  bif x2 then (
  some ((), ((x1.2.2.1.1, ()), ())))
  else (
  (g_label_in ((), ((d.2.1.2.2.2.1, ()), (((24 : Int), ()), ())))).bind fun x3 =>
  let x4 : Bool := (!x3.2.1.1)
  bif x4 then (
  let x5 : (Option Int) := (some (1 : Int))
  some ((), ((x5, ()), ())))
  else (
  (g_label_in ((), ((d.2.1.2.2.2.2.1, ()), (((60 : Int), ()), ())))).bind fun x6 =>
  let x7 : Bool := (!x6.2.1.1)
  bif x7 then (
  let x8 : (Option Int) := (some (1 : Int))
  some ((), ((x8, ()), ())))
  else (
  (g_label_in ((), ((d.2.1.2.2.2.2.2.1, ()), (((61 : Int), ()), ())))).bind fun x9 =>
  let x10 : Bool := (!x9.2.1.1)
  bif x10 then (
  let x11 : (Option Int) := (some (1 : Int))
  some ((), ((x11, ()), ())))
  else (
  (g_label_in ((), ((d.2.1.2.2.2.2.2.2.1, ()), (((1000000000 : Int), ()), ())))).bind fun x12 =>
  let x13 : Bool := (!x12.2.1.1)
  bif x13 then (
  let x14 : (Option Int) := (some (1 : Int))
  some ((), ((x14, ()), ())))
  else (
  (g_label_shifts ((), ((d.2.1.2.2.2.2.2.2.2.1, ()), ()))).bind fun x15 =>
  let x16 : Bool := (!x15.2.1.1)
  bif x16 then (
  let x17 : (Option Int) := (some (1 : Int))
  some ((), ((x17, ()), ())))
  else (
  some ((), (((none : Option Int), ()), ()))))))))
def c_label_Label_fields : List Nat := []
def L_label_Label_fields (_ : Nat) : Pts po_label_Label_fields.den := []
def R_label_Label_fields (_ : Nat) : PtsR po_label_Label_fields.den := []
def E_label_Label_fields : Env := (((E0.add 133 (typedSem pi_day_Of po_day_Of g_day_Of)).add 134 (typedSem pi_label_in po_label_in g_label_in)).add 135 (typedSem pi_label_shifts po_label_shifts g_label_shifts))
theorem q_label_Label_fields_m (k : Nat) (d : Unit × ((Int × (Int × (Int × (Int × (Int × (Int × (Int × (Int × Unit)))))))) × Unit)) : evCode E_label_Label_fields (tb (L_label_Label_fields k) (R_label_Label_fields k)) c_label_Label_fields (bodyOf Tryz.f86) 0 (finK E_label_Label_fields po_label_Label_fields [.tmp 2]) (startSt pi_label_Label_fields 47 d) = f_label_Label_fields_m () d := by kernel_rfl
def g_label_Label_fields (d : Unit × ((Int × (Int × (Int × (Int × (Int × (Int × (Int × (Int × Unit)))))))) × Unit)) : Option (Unit × (((Option Int) × Unit) × Unit)) := f_label_Label_fields_m () d
theorem ok_label_Label_fields : FnOk Tryz.prog ET0 86 pi_label_Label_fields po_label_Label_fields g_label_Label_fields :=
  fn_of_body (E := E_label_Label_fields) (envOk_add (envOk_add (envOk_add e0_ok (typed_ok ok_day_Of)) (typed_ok ok_label_in)) (typed_ok ok_label_shifts)) (fn := Tryz.f86) Tryz.func86 (by kernel_rfl) (by kernel_rfl) [.tmp 2] (by kernel_rfl) (by kernel_rfl) (by decide) rfl c_label_Label_fields L_label_Label_fields R_label_Label_fields
    (by intro x hx; cases hx) (by intro k x hx; cases hx) (by intro x hx; cases hx) (by intro k x hx; cases hx) (fun d out h => ⟨0, (q_label_Label_fields_m 0 d).trans h⟩)

/- horologe/num.Div -/
@[reducible] def pi_num_Div : PSh := ⟨[], [.mk false [.v (.int .i64)], .mk false [.v (.int .i64)]]⟩
@[reducible] def po_num_Div : PSh := ⟨[], [.mk false [.v (.int .i64)], .mk false [.v .err]]⟩
def f_num_Div_m (T : Unit) (d : Unit × ((Int × Unit) × ((Int × Unit) × Unit))) : Option (Unit × ((Int × Unit) × (((Option Int) × Unit) × Unit))) :=
  let x1 : Bool := (d.2.2.1.1 == (0 : Int))
  bif x1 then (
  let x2 : (Option Int) := (some (1 : Int))
  some ((), (((0 : Int), ()), ((x2, ()), ()))))
  else (
  let x3 : Bool := (d.2.1.1 == (-9223372036854775808 : Int))
  bif x3 then (
  let x4 : Bool := (d.2.2.1.1 == (-1 : Int))
  bif x4 then (
  let x5 : (Option Int) := (some (5 : Int))
  some ((), (((0 : Int), ()), ((x5, ()), ()))))
  else (
  bif (d.2.2.1.1 == 0) then (
  none)
  else (
  let x6 : Int := (iquo .i64 d.2.1.1 d.2.2.1.1)
  bif (d.2.2.1.1 == 0) then (
  none)
  else (
  let x7 : Int := (Int.tmod d.2.1.1 d.2.2.1.1)
  let x8 : Bool := (x7 != (0 : Int))
  bif x8 then (
  let x9 : Bool := (decide (d.2.1.1 < (0 : Int)))
  let x10 : Bool := (decide (d.2.2.1.1 < (0 : Int)))
  let x11 : Bool := (!(x9 == x10))
  bif x11 then (
  let x12 : Int := (isub .i64 x6 (1 : Int))
  some ((), ((x12, ()), (((none : Option Int), ()), ()))))
  else (
  some ((), ((x6, ()), (((none : Option Int), ()), ())))))
  else (
  some ((), ((x6, ()), (((none : Option Int), ()), ()))))))))
  else (
  bif (d.2.2.1.1 == 0) then (
  none)
  else (
  let x13 : Int := (iquo .i64 d.2.1.1 d.2.2.1.1)
  bif (d.2.2.1.1 == 0) then (
  none)
  else (
  let x14 : Int := (Int.tmod d.2.1.1 d.2.2.1.1)
  let x15 : Bool := (x14 != (0 : Int))
  bif x15 then (
  let x16 : Bool := (decide (d.2.1.1 < (0 : Int)))
  let x17 : Bool := (decide (d.2.2.1.1 < (0 : Int)))
  let x18 : Bool := (!(x16 == x17))
  bif x18 then (
  let x19 : Int := (isub .i64 x13 (1 : Int))
  some ((), ((x19, ()), (((none : Option Int), ()), ()))))
  else (
  some ((), ((x13, ()), (((none : Option Int), ()), ())))))
  else (
  some ((), ((x13, ()), (((none : Option Int), ()), ()))))))))
def c_num_Div : List Nat := []
def L_num_Div (_ : Nat) : Pts po_num_Div.den := []
def R_num_Div (_ : Nat) : PtsR po_num_Div.den := []
def E_num_Div : Env := E0
theorem q_num_Div_m (k : Nat) (d : Unit × ((Int × Unit) × ((Int × Unit) × Unit))) : evCode E_num_Div (tb (L_num_Div k) (R_num_Div k)) c_num_Div (bodyOf Tryz.f173) 0 (finK E_num_Div po_num_Div [.tmp 4, .tmp 5]) (startSt pi_num_Div 36 d) = f_num_Div_m () d := by kernel_rfl
def g_num_Div (d : Unit × ((Int × Unit) × ((Int × Unit) × Unit))) : Option (Unit × ((Int × Unit) × (((Option Int) × Unit) × Unit))) := f_num_Div_m () d
theorem ok_num_Div : FnOk Tryz.prog ET0 173 pi_num_Div po_num_Div g_num_Div :=
  fn_of_body (E := E_num_Div) e0_ok (fn := Tryz.f173) Tryz.func173 (by kernel_rfl) (by kernel_rfl) [.tmp 4, .tmp 5] (by kernel_rfl) (by kernel_rfl) (by decide) rfl c_num_Div L_num_Div R_num_Div
    (by intro x hx; cases hx) (by intro k x hx; cases hx) (by intro x hx; cases hx) (by intro k x hx; cases hx) (fun d out h => ⟨0, (q_num_Div_m 0 d).trans h⟩)

/- horologe/num.Mod -/
@[reducible] def pi_num_Mod : PSh := ⟨[], [.mk false [.v (.int .i64)], .mk false [.v (.int .i64)]]⟩
@[reducible] def po_num_Mod : PSh := ⟨[], [.mk false [.v (.int .i64)], .mk false [.v .err]]⟩
def f_num_Mod_m (T : Unit) (d : Unit × ((Int × Unit) × ((Int × Unit) × Unit))) : Option (Unit × ((Int × Unit) × (((Option Int) × Unit) × Unit))) :=
  let x1 : Bool := (d.2.2.1.1 == (0 : Int))
  bif x1 then (
  let x2 : (Option Int) := (some (1 : Int))
  some ((), (((0 : Int), ()), ((x2, ()), ()))))
  else (
  let x3 : Bool := (d.2.2.1.1 == (-1 : Int))
  bif x3 then (
  some ((), (((0 : Int), ()), (((none : Option Int), ()), ()))))
  else (
  bif (d.2.2.1.1 == 0) then (
  none)
  else (
  let x4 : Int := (Int.tmod d.2.1.1 d.2.2.1.1)
  let x5 : Bool := (x4 != (0 : Int))
  bif x5 then (
  let x6 : Bool := (decide (x4 < (0 : Int)))
  let x7 : Bool := (decide (d.2.2.1.1 < (0 : Int)))
  let x8 : Bool := (!(x6 == x7))
  bif x8 then (
  let x9 : Int := (iadd .i64 x4 d.2.2.1.1)
  some ((), ((x9, ()), (((none : Option Int), ()), ()))))
  else (
  some ((), ((x4, ()), (((none : Option Int), ()), ())))))
  else (
  some ((), ((x4, ()), (((none : Option Int), ()), ())))))))
def c_num_Mod : List Nat := []
def L_num_Mod (_ : Nat) : Pts po_num_Mod.den := []
def R_num_Mod (_ : Nat) : PtsR po_num_Mod.den := []
def E_num_Mod : Env := E0
theorem q_num_Mod_m (k : Nat) (d : Unit × ((Int × Unit) × ((Int × Unit) × Unit))) : evCode E_num_Mod (tb (L_num_Mod k) (R_num_Mod k)) c_num_Mod (bodyOf Tryz.f174) 0 (finK E_num_Mod po_num_Mod [.tmp 4, .tmp 5]) (startSt pi_num_Mod 29 d) = f_num_Mod_m () d := by kernel_rfl
def g_num_Mod (d : Unit × ((Int × Unit) × ((Int × Unit) × Unit))) : Option (Unit × ((Int × Unit) × (((Option Int) × Unit) × Unit))) := f_num_Mod_m () d
theorem ok_num_Mod : FnOk Tryz.prog ET0 174 pi_num_Mod po_num_Mod g_num_Mod :=
  fn_of_body (E := E_num_Mod) e0_ok (fn := Tryz.f174) Tryz.func174 (by kernel_rfl) (by kernel_rfl) [.tmp 4, .tmp 5] (by kernel_rfl) (by kernel_rfl) (by decide) rfl c_num_Mod L_num_Mod R_num_Mod
    (by intro x hx; cases hx) (by intro k x hx; cases hx) (by intro x hx; cases hx) (by intro k x hx; cases hx) (fun d out h => ⟨0, (q_num_Mod_m 0 d).trans h⟩)

/- horologe/num.Split -/
@[reducible] def pi_num_Split : PSh := ⟨[], [.mk false [.v (.int .i64)], .mk false [.v (.int .i64)]]⟩
@[reducible] def po_num_Split : PSh := ⟨[], [.mk false [.v (.int .i64)], .mk false [.v (.int .i64)], .mk false [.v .err]]⟩
def f_num_Split_m (T : Unit) (d : Unit × ((Int × Unit) × ((Int × Unit) × Unit))) : Option (Unit × ((Int × Unit) × ((Int × Unit) × (((Option Int) × Unit) × Unit)))) :=
  let x1 : Bool := (decide (d.2.2.1.1 < (1 : Int)))
  bif x1 then (
  let x2 : (Option Int) := (some (1 : Int))
  some ((), (((0 : Int), ()), (((0 : Int), ()), ((x2, ()), ())))))
  else (
  (g_num_Div ((), ((d.2.1.1, ()), ((d.2.2.1.1, ()), ())))).bind fun x3 =>
  let x4 : Bool := (!x3.2.2.1.1.isNone)
  bif x4 then (
  some ((), (((0 : Int), ()), (((0 : Int), ()), ((x3.2.2.1.1, ()), ())))))
  else (
  (g_num_Mod ((), ((d.2.1.1, ()), ((d.2.2.1.1, ()), ())))).bind fun x5 =>
  let x6 : Bool := (!x5.2.2.1.1.isNone)
  bif x6 then (
  some ((), (((0 : Int), ()), (((0 : Int), ()), ((x5.2.2.1.1, ()), ())))))
  else (
  some ((), ((x3.2.1.1, ()), ((x5.2.1.1, ()), (((none : Option Int), ()), ())))))))
def c_num_Split : List Nat := []
def L_num_Split (_ : Nat) : Pts po_num_Split.den := []
def R_num_Split (_ : Nat) : PtsR po_num_Split.den := []
def E_num_Split : Env := ((E0.add 173 (typedSem pi_num_Div po_num_Div g_num_Div)).add 174 (typedSem pi_num_Mod po_num_Mod g_num_Mod))
theorem q_num_Split_m (k : Nat) (d : Unit × ((Int × Unit) × ((Int × Unit) × Unit))) : evCode E_num_Split (tb (L_num_Split k) (R_num_Split k)) c_num_Split (bodyOf Tryz.f136) 0 (finK E_num_Split po_num_Split [.tmp 4, .tmp 5, .tmp 6]) (startSt pi_num_Split 33 d) = f_num_Split_m () d := by kernel_rfl
def g_num_Split (d : Unit × ((Int × Unit) × ((Int × Unit) × Unit))) : Option (Unit × ((Int × Unit) × ((Int × Unit) × (((Option Int) × Unit) × Unit)))) := f_num_Split_m () d
theorem ok_num_Split : FnOk Tryz.prog ET0 136 pi_num_Split po_num_Split g_num_Split :=
  fn_of_body (E := E_num_Split) (envOk_add (envOk_add e0_ok (typed_ok ok_num_Div)) (typed_ok ok_num_Mod)) (fn := Tryz.f136) Tryz.func136 (by kernel_rfl) (by kernel_rfl) [.tmp 4, .tmp 5, .tmp 6] (by kernel_rfl) (by kernel_rfl) (by decide) rfl c_num_Split L_num_Split R_num_Split
    (by intro x hx; cases hx) (by intro k x hx; cases hx) (by intro x hx; cases hx) (by intro k x hx; cases hx) (fun d out h => ⟨0, (q_num_Split_m 0 d).trans h⟩)

/- (horologe/label.Label).place -/
@[reducible] def pi_label_Label_place : PSh := ⟨[], [.mk true [.v (.int .i64), .v (.int .i64), .v (.int .i64), .v (.int .i64), .v (.int .i64), .v (.int .i64), .v (.int .i64), .v (.int .i64)]]⟩
@[reducible] def po_label_Label_place : PSh := ⟨[], [.mk false [.v (.int .i64)], .mk false [.v (.int .i64)], .mk false [.v .err]]⟩
def f_label_Label_place_m (T : Unit) (d : Unit × ((Int × (Int × (Int × (Int × (Int × (Int × (Int × (Int × Unit)))))))) × Unit)) : Option (Unit × ((Int × Unit) × ((Int × Unit) × (((Option Int) × Unit) × Unit)))) :=
  (g_day_Of ((), ((d.2.1.1, ()), ((d.2.1.2.1, ()), ((d.2.1.2.2.1, ()), ()))))).bind fun x1 =>
  let x2 : Bool := (!x1.2.2.1.1.isNone)
  bif x2 then (
  some ((), (((0 : Int), ()), (((0 : Int), ()), ((x1.2.2.1.1, ()), ())))))
  else (
  let x3 : Int := (imul .i64 d.2.1.2.2.2.1 (60 : Int))
  let x4 : Int := (iadd .i64 x3 d.2.1.2.2.2.2.1)
  let x5 : Int := (isub .i64 x4 d.2.1.2.2.2.2.2.2.2.1)
  (g_num_Split ((), ((x5, ()), (((1440 : Int), ()), ())))).bind fun x6 =>
  let x7 : Bool := (!x6.2.2.2.1.1.isNone)
  bif x7 then (
  some ((), (((0 : Int), ()), (((0 : Int), ()), ((x6.2.2.2.1.1, ()), ())))))
  else (
  let x8 : Int := (iadd .i64 x1.2.1.1 x6.2.1.1)
  some ((), ((x8, ()), ((x6.2.2.1.1, ()), (((none : Option Int), ()), ()))))))
def c_label_Label_place : List Nat := []
def L_label_Label_place (_ : Nat) : Pts po_label_Label_place.den := []
def R_label_Label_place (_ : Nat) : PtsR po_label_Label_place.den := []
def E_label_Label_place : Env := ((E0.add 133 (typedSem pi_day_Of po_day_Of g_day_Of)).add 136 (typedSem pi_num_Split po_num_Split g_num_Split))
theorem q_label_Label_place_m (k : Nat) (d : Unit × ((Int × (Int × (Int × (Int × (Int × (Int × (Int × (Int × Unit)))))))) × Unit)) : evCode E_label_Label_place (tb (L_label_Label_place k) (R_label_Label_place k)) c_label_Label_place (bodyOf Tryz.f87) 0 (finK E_label_Label_place po_label_Label_place [.tmp 2, .tmp 3, .tmp 4]) (startSt pi_label_Label_place 43 d) = f_label_Label_place_m () d := by kernel_rfl
def g_label_Label_place (d : Unit × ((Int × (Int × (Int × (Int × (Int × (Int × (Int × (Int × Unit)))))))) × Unit)) : Option (Unit × ((Int × Unit) × ((Int × Unit) × (((Option Int) × Unit) × Unit)))) := f_label_Label_place_m () d
theorem ok_label_Label_place : FnOk Tryz.prog ET0 87 pi_label_Label_place po_label_Label_place g_label_Label_place :=
  fn_of_body (E := E_label_Label_place) (envOk_add (envOk_add e0_ok (typed_ok ok_day_Of)) (typed_ok ok_num_Split)) (fn := Tryz.f87) Tryz.func87 (by kernel_rfl) (by kernel_rfl) [.tmp 2, .tmp 3, .tmp 4] (by kernel_rfl) (by kernel_rfl) (by decide) rfl c_label_Label_place L_label_Label_place R_label_Label_place
    (by intro x hx; cases hx) (by intro k x hx; cases hx) (by intro x hx; cases hx) (by intro k x hx; cases hx) (fun d out h => ⟨0, (q_label_Label_place_m 0 d).trans h⟩)

/- horologe/day.First -/
@[reducible] def pi_day_First : PSh := ⟨[], []⟩
@[reducible] def po_day_First : PSh := ⟨[], [.mk false [.v (.int .i64)]]⟩
def f_day_First_m (T : Unit) (d : Unit × Unit) : Option (Unit × ((Int × Unit) × Unit)) :=
  (g_day_number ((), (((-9999 : Int), ()), (((1 : Int), ()), (((1 : Int), ()), ()))))).bind fun x1 =>
  some ((), ((x1.2.1.1, ()), ()))
def c_day_First : List Nat := []
def L_day_First (_ : Nat) : Pts po_day_First.den := []
def R_day_First (_ : Nat) : PtsR po_day_First.den := []
def E_day_First : Env := (E0.add 172 (typedSem pi_day_number po_day_number g_day_number))
theorem q_day_First_m (k : Nat) (d : Unit × Unit) : evCode E_day_First (tb (L_day_First k) (R_day_First k)) c_day_First (bodyOf Tryz.f137) 0 (finK E_day_First po_day_First [.tmp 0]) (startSt pi_day_First 2 d) = f_day_First_m () d := by kernel_rfl
def g_day_First (d : Unit × Unit) : Option (Unit × ((Int × Unit) × Unit)) := f_day_First_m () d
theorem ok_day_First : FnOk Tryz.prog ET0 137 pi_day_First po_day_First g_day_First :=
  fn_of_body (E := E_day_First) (envOk_add e0_ok (typed_ok ok_day_number)) (fn := Tryz.f137) Tryz.func137 (by kernel_rfl) (by kernel_rfl) [.tmp 0] (by kernel_rfl) (by kernel_rfl) (by decide) rfl c_day_First L_day_First R_day_First
    (by intro x hx; cases hx) (by intro k x hx; cases hx) (by intro x hx; cases hx) (by intro k x hx; cases hx) (fun d out h => ⟨0, (q_day_First_m 0 d).trans h⟩)

/- horologe/day.Last -/
@[reducible] def pi_day_Last : PSh := ⟨[], []⟩
@[reducible] def po_day_Last : PSh := ⟨[], [.mk false [.v (.int .i64)]]⟩
def f_day_Last_m (T : Unit) (d : Unit × Unit) : Option (Unit × ((Int × Unit) × Unit)) :=
  (g_day_number ((), (((9999 : Int), ()), (((12 : Int), ()), (((31 : Int), ()), ()))))).bind fun x1 =>
  some ((), ((x1.2.1.1, ()), ()))
def c_day_Last : List Nat := []
def L_day_Last (_ : Nat) : Pts po_day_Last.den := []
def R_day_Last (_ : Nat) : PtsR po_day_Last.den := []
def E_day_Last : Env := (E0.add 172 (typedSem pi_day_number po_day_number g_day_number))
theorem q_day_Last_m (k : Nat) (d : Unit × Unit) : evCode E_day_Last (tb (L_day_Last k) (R_day_Last k)) c_day_Last (bodyOf Tryz.f138) 0 (finK E_day_Last po_day_Last [.tmp 0]) (startSt pi_day_Last 2 d) = f_day_Last_m () d := by kernel_rfl
def g_day_Last (d : Unit × Unit) : Option (Unit × ((Int × Unit) × Unit)) := f_day_Last_m () d
theorem ok_day_Last : FnOk Tryz.prog ET0 138 pi_day_Last po_day_Last g_day_Last :=
  fn_of_body (E := E_day_Last) (envOk_add e0_ok (typed_ok ok_day_number)) (fn := Tryz.f138) Tryz.func138 (by kernel_rfl) (by kernel_rfl) [.tmp 0] (by kernel_rfl) (by kernel_rfl) (by decide) rfl c_day_Last L_day_Last R_day_Last
    (by intro x hx; cases hx) (by intro k x hx; cases hx) (by intro x hx; cases hx) (by intro k x hx; cases hx) (fun d out h => ⟨0, (q_day_Last_m 0 d).trans h⟩)

/- horologe/label.there -/
@[reducible] def pi_label_there : PSh := ⟨[], [.mk false [.v (.int .i64)]]⟩
@[reducible] def po_label_there : PSh := ⟨[], [.mk false [.v .bool]]⟩
def f_label_there_m (T : Unit) (d : Unit × ((Int × Unit) × Unit)) : Option (Unit × ((Bool × Unit) × Unit)) :=
  (g_day_First ((), ())).bind fun x1 =>
  let x2 : Bool := (decide (d.2.1.1 ≥ x1.2.1.1))
  bif x2 then (
  (g_day_Last ((), ())).bind fun x3 =>
  let x4 : Bool := (decide (d.2.1.1 ≤ x3.2.1.1))
  some ((), ((x4, ()), ())))
  else (
  some ((), ((false, ()), ())))
def c_label_there : List Nat := []
def L_label_there (_ : Nat) : Pts po_label_there.den := []
def R_label_there (_ : Nat) : PtsR po_label_there.den := []
def E_label_there : Env := ((E0.add 137 (typedSem pi_day_First po_day_First g_day_First)).add 138 (typedSem pi_day_Last po_day_Last g_day_Last))
theorem q_label_there_m (k : Nat) (d : Unit × ((Int × Unit) × Unit)) : evCode E_label_there (tb (L_label_there k) (R_label_there k)) c_label_there (bodyOf Tryz.f88) 0 (finK E_label_there po_label_there [.tmp 2]) (startSt pi_label_there 11 d) = f_label_there_m () d := by kernel_rfl
def g_label_there (d : Unit × ((Int × Unit) × Unit)) : Option (Unit × ((Bool × Unit) × Unit)) := f_label_there_m () d
theorem ok_label_there : FnOk Tryz.prog ET0 88 pi_label_there po_label_there g_label_there :=
  fn_of_body (E := E_label_there) (envOk_add (envOk_add e0_ok (typed_ok ok_day_First)) (typed_ok ok_day_Last)) (fn := Tryz.f88) Tryz.func88 (by kernel_rfl) (by kernel_rfl) [.tmp 2] (by kernel_rfl) (by kernel_rfl) (by decide) rfl c_label_there L_label_there R_label_there
    (by intro x hx; cases hx) (by intro k x hx; cases hx) (by intro x hx; cases hx) (by intro k x hx; cases hx) (fun d out h => ⟨0, (q_label_there_m 0 d).trans h⟩)

/- horologe/label.Check -/
@[reducible] def pi_label_Check : PSh := ⟨[], [.mk true [.v (.int .i64), .v (.int .i64), .v (.int .i64), .v (.int .i64), .v (.int .i64), .v (.int .i64), .v (.int .i64), .v (.int .i64)]]⟩
@[reducible] def po_label_Check : PSh := ⟨[], [.mk false [.v .err]]⟩
def f_label_Check_m (T : Unit) (d : Unit × ((Int × (Int × (Int × (Int × (Int × (Int × (Int × (Int × Unit)))))))) × Unit)) : Option (Unit × (((Option Int) × Unit) × Unit)) :=
  (g_label_Label_fields ((), ((d.2.1.1, (d.2.1.2.1, (d.2.1.2.2.1, (d.2.1.2.2.2.1, (d.2.1.2.2.2.2.1, (d.2.1.2.2.2.2.2.1, (d.2.1.2.2.2.2.2.2.1, (d.2.1.2.2.2.2.2.2.2.1, ())))))))), ()))).bind fun x1 =>
  let x2 : Bool := (!x1.2.1.1.isNone)
  bif x2 then (
  some ((), ((x1.2.1.1, ()), ())))
  else (
  (g_label_Label_place ((), ((d.2.1.1, (d.2.1.2.1, (d.2.1.2.2.1, (d.2.1.2.2.2.1, (d.2.1.2.2.2.2.1, (d.2.1.2.2.2.2.2.1, (d.2.1.2.2.2.2.2.2.1, (d.2.1.2.2.2.2.2.2.2.1, ())))))))), ()))).bind fun x3 =>
  let x4 : Bool := (!x3.2.2.2.1.1.isNone)
  bif x4 then (
  some ((), ((x3.2.2.2.1.1, ()), ())))
  else (
  (g_label_there ((), ((x3.2.1.1, ()), ()))).bind fun x5 =>
  let x6 : Bool := (!x5.2.1.1)
  bif x6 then (
  let x7 : (Option Int) := (some (13 : Int))
  some ((), ((x7, ()), ())))
  else (
  let x8 : Bool := (d.2.1.2.2.2.2.2.1 == (60 : Int))
  bif x8 then (
  let x9 : Bool := (x3.2.2.1.1 != (1439 : Int))
  bif x9 then (
  let x10 : (Option Int) := (some (12 : Int))
  some ((), ((x10, ()), ())))
  else (
  some ((), (((none : Option Int), ()), ()))))
  else (
  some ((), (((none : Option Int), ()), ()))))))
def c_label_Check : List Nat := []
def L_label_Check (_ : Nat) : Pts po_label_Check.den := []
def R_label_Check (_ : Nat) : PtsR po_label_Check.den := []
def E_label_Check : Env := (((E0.add 86 (typedSem pi_label_Label_fields po_label_Label_fields g_label_Label_fields)).add 87 (typedSem pi_label_Label_place po_label_Label_place g_label_Label_place)).add 88 (typedSem pi_label_there po_label_there g_label_there))
theorem q_label_Check_m (k : Nat) (d : Unit × ((Int × (Int × (Int × (Int × (Int × (Int × (Int × (Int × Unit)))))))) × Unit)) : evCode E_label_Check (tb (L_label_Check k) (R_label_Check k)) c_label_Check (bodyOf Tryz.f48) 0 (finK E_label_Check po_label_Check [.tmp 2]) (startSt pi_label_Check 36 d) = f_label_Check_m () d := by kernel_rfl
def g_label_Check (d : Unit × ((Int × (Int × (Int × (Int × (Int × (Int × (Int × (Int × Unit)))))))) × Unit)) : Option (Unit × (((Option Int) × Unit) × Unit)) := f_label_Check_m () d
theorem ok_label_Check : FnOk Tryz.prog ET0 48 pi_label_Check po_label_Check g_label_Check :=
  fn_of_body (E := E_label_Check) (envOk_add (envOk_add (envOk_add e0_ok (typed_ok ok_label_Label_fields)) (typed_ok ok_label_Label_place)) (typed_ok ok_label_there)) (fn := Tryz.f48) Tryz.func48 (by kernel_rfl) (by kernel_rfl) [.tmp 2] (by kernel_rfl) (by kernel_rfl) (by decide) rfl c_label_Check L_label_Check R_label_Check
    (by intro x hx; cases hx) (by intro k x hx; cases hx) (by intro x hx; cases hx) (by intro k x hx; cases hx) (fun d out h => ⟨0, (q_label_Check_m 0 d).trans h⟩)

/- horologe/iso.right -/
@[reducible] def pi_iso_right : PSh := ⟨[], [.mk true [.v (.int .i64), .v (.int .i64), .v (.int .i64), .v (.int .i64), .v (.int .i64), .v (.int .i64), .v (.int .i64), .v (.int .i64)]]⟩
@[reducible] def po_iso_right : PSh := ⟨[], [.mk false [.v .err]]⟩
def f_iso_right_m (T : Unit) (d : Unit × ((Int × (Int × (Int × (Int × (Int × (Int × (Int × (Int × Unit)))))))) × Unit)) : Option (Unit × (((Option Int) × Unit) × Unit)) :=
  (g_label_Check ((), ((d.2.1.1, (d.2.1.2.1, (d.2.1.2.2.1, (d.2.1.2.2.2.1, (d.2.1.2.2.2.2.1, (d.2.1.2.2.2.2.2.1, (d.2.1.2.2.2.2.2.2.1, (d.2.1.2.2.2.2.2.2.2.1, ())))))))), ()))).bind fun x1 =>
  let x2 : Bool := (!x1.2.1.1.isNone)
  bif x2 then (
  some ((), ((x1.2.1.1, ()), ())))
  else (
  let x3 : Bool := (decide (d.2.1.1 < (0 : Int)))
  bif x3 then (
  let x4 : (Option Int) := (some (13 : Int))
  some ((), ((x4, ()), ())))
  else (
  some ((), (((none : Option Int), ()), ()))))
def c_iso_right : List Nat := []
def L_iso_right (_ : Nat) : Pts po_iso_right.den := []
def R_iso_right (_ : Nat) : PtsR po_iso_right.den := []
def E_iso_right : Env := (E0.add 48 (typedSem pi_label_Check po_label_Check g_label_Check))
theorem q_iso_right_m (k : Nat) (d : Unit × ((Int × (Int × (Int × (Int × (Int × (Int × (Int × (Int × Unit)))))))) × Unit)) : evCode E_iso_right (tb (L_iso_right k) (R_iso_right k)) c_iso_right (bodyOf Tryz.f21) 0 (finK E_iso_right po_iso_right [.tmp 2]) (startSt pi_iso_right 13 d) = f_iso_right_m () d := by kernel_rfl
def g_iso_right (d : Unit × ((Int × (Int × (Int × (Int × (Int × (Int × (Int × (Int × Unit)))))))) × Unit)) : Option (Unit × (((Option Int) × Unit) × Unit)) := f_iso_right_m () d
theorem ok_iso_right : FnOk Tryz.prog ET0 21 pi_iso_right po_iso_right g_iso_right :=
  fn_of_body (E := E_iso_right) (envOk_add e0_ok (typed_ok ok_label_Check)) (fn := Tryz.f21) Tryz.func21 (by kernel_rfl) (by kernel_rfl) [.tmp 2] (by kernel_rfl) (by kernel_rfl) (by decide) rfl c_iso_right L_iso_right R_iso_right
    (by intro x hx; cases hx) (by intro k x hx; cases hx) (by intro x hx; cases hx) (by intro k x hx; cases hx) (fun d out h => ⟨0, (q_iso_right_m 0 d).trans h⟩)

/- horologe/figures.fits -/
@[reducible] def pi_figures_fits : PSh := ⟨[], [.mk false [.v (.int .i64)]]⟩
@[reducible] def po_figures_fits : PSh := ⟨[], [.mk false [.v .bool]]⟩
def f_figures_fits_m (T : Unit) (d : Unit × ((Int × Unit) × Unit)) : Option (Unit × ((Bool × Unit) × Unit)) :=
  let x1 : Bool := (decide (d.2.1.1 ≥ (0 : Int)))
  bif x1 then (
  let x2 : Bool := (decide (d.2.1.1 < (1000000000 : Int)))
  some ((), ((x2, ()), ())))
  else (
  some ((), ((false, ()), ())))
def c_figures_fits : List Nat := []
def L_figures_fits (_ : Nat) : Pts po_figures_fits.den := []
def R_figures_fits (_ : Nat) : PtsR po_figures_fits.den := []
def E_figures_fits : Env := E0
theorem q_figures_fits_m (k : Nat) (d : Unit × ((Int × Unit) × Unit)) : evCode E_figures_fits (tb (L_figures_fits k) (R_figures_fits k)) c_figures_fits (bodyOf Tryz.f49) 0 (finK E_figures_fits po_figures_fits [.tmp 2]) (startSt pi_figures_fits 9 d) = f_figures_fits_m () d := by kernel_rfl
def g_figures_fits (d : Unit × ((Int × Unit) × Unit)) : Option (Unit × ((Bool × Unit) × Unit)) := f_figures_fits_m () d
theorem ok_figures_fits : FnOk Tryz.prog ET0 49 pi_figures_fits po_figures_fits g_figures_fits :=
  fn_of_body (E := E_figures_fits) e0_ok (fn := Tryz.f49) Tryz.func49 (by kernel_rfl) (by kernel_rfl) [.tmp 2] (by kernel_rfl) (by kernel_rfl) (by decide) rfl c_figures_fits L_figures_fits R_figures_fits
    (by intro x hx; cases hx) (by intro k x hx; cases hx) (by intro x hx; cases hx) (by intro k x hx; cases hx) (fun d out h => ⟨0, (q_figures_fits_m 0 d).trans h⟩)

/- slices.Reverse[[]byte,byte] -/
@[reducible] def pi_slices_Reverse_byte_byte_io : PSh := ⟨[.row 5 (.int .u8)], [.mk false [.osl 0]]⟩
@[reducible] def po_slices_Reverse_byte_byte_io : PSh := ⟨[.row 5 (.int .u8)], [.mk false [.osl 0]]⟩
@[reducible] def TT_slices_Reverse_byte_byte_io : Type := (((((List Int) × Unit) × (Unit × ((Int × Unit) × ((Int × Unit) × Unit)))) → Option (((List Int) × Unit) × (Unit × Unit))) × Unit)
@[reducible] def sh_slices_Reverse_byte_byte_io_1 : PSh := ⟨[.row 5 (.int .u8)], [.mk false [.osl 0], .any, .mk false [.v (.int .i64)], .mk false [.v (.int .i64)], .any, .any, .any, .any, .any, .any, .any, .any, .any, .any, .any, .any, .any, .any, .any, .any, .any, .any, .any, .any, .any, .any, .any, .any]⟩
def f_slices_Reverse_byte_byte_io_p1 (T : TT_slices_Reverse_byte_byte_io) (d : ((List Int) × Unit) × (Unit × ((Int × Unit) × ((Int × Unit) × Unit)))) : Option (((List Int) × Unit) × (Unit × Unit)) :=
  let x3 : Bool := (decide (d.2.2.1.1 < d.2.2.2.1.1))
  bif x3 then (
  bif decide ((0 : Int) ≤ d.2.2.2.1.1) && decide (d.2.2.2.1.1 < (d.1.1.length : Int)) then (
  bif decide ((0 : Int) ≤ d.2.2.1.1) && decide (d.2.2.1.1 < (d.1.1.length : Int)) then (
  bif decide ((0 : Int) ≤ d.2.2.1.1) && decide (d.2.2.1.1 < (d.1.1.length : Int)) then (
  let x4 : (List Int) := (List.set d.1.1 (Int.toNat d.2.2.1.1) (gd (.int .u8) d.1.1 d.2.2.2.1.1))
  bif decide ((0 : Int) ≤ d.2.2.2.1.1) && decide (d.2.2.2.1.1 < (x4.length : Int)) then (
  let x5 : (List Int) := (List.set x4 (Int.toNat d.2.2.2.1.1) (gd (.int .u8) d.1.1 d.2.2.1.1))
  let x6 : Int := (iadd .i64 d.2.2.1.1 (1 : Int))
  let x7 : Int := (isub .i64 d.2.2.2.1.1 (1 : Int))
  (T.1 ((x5, ()), ((), ((x6, ()), ((x7, ()), ()))))))
  else none)
  else none)
  else none)
  else none)
  else (
  some ((d.1.1, ()), ((), ())))
def f_slices_Reverse_byte_byte_io_t : Nat → TT_slices_Reverse_byte_byte_io
  | 0 => (fun _ => none, ())
  | k + 1 => (f_slices_Reverse_byte_byte_io_p1 (f_slices_Reverse_byte_byte_io_t k), ())
theorem t_slices_Reverse_byte_byte_io (k : Nat) : f_slices_Reverse_byte_byte_io_t (k + 1) = (f_slices_Reverse_byte_byte_io_p1 (f_slices_Reverse_byte_byte_io_t k), ()) := rfl
def f_slices_Reverse_byte_byte_io_m (T : TT_slices_Reverse_byte_byte_io) (d : ((List Int) × Unit) × (Unit × Unit)) : Option (((List Int) × Unit) × (Unit × Unit)) :=
  let x1 : Int := (d.1.1.length : Int)
  let x2 : Int := (isub .i64 x1 (1 : Int))
  (T.1 ((d.1.1, ()), ((), (((0 : Int), ()), ((x2, ()), ())))))
def c_slices_Reverse_byte_byte_io : List Nat := []
def L_slices_Reverse_byte_byte_io (k : Nat) : Pts po_slices_Reverse_byte_byte_io.den := [(1, ⟨sh_slices_Reverse_byte_byte_io_1, (f_slices_Reverse_byte_byte_io_t k).1⟩)]
def R_slices_Reverse_byte_byte_io (_ : Nat) : PtsR po_slices_Reverse_byte_byte_io.den := []
def E_slices_Reverse_byte_byte_io : Env := (E0.kp [0])
theorem q_slices_Reverse_byte_byte_io_1 (k : Nat) (d : ((List Int) × Unit) × (Unit × ((Int × Unit) × ((Int × Unit) × Unit)))) : evAt E_slices_Reverse_byte_byte_io (tb (L_slices_Reverse_byte_byte_io k) (R_slices_Reverse_byte_byte_io k)) c_slices_Reverse_byte_byte_io 1 (bodyOf Tryz.f89) 0 (finKio E_slices_Reverse_byte_byte_io po_slices_Reverse_byte_byte_io [] [(0, none)]) (ptSt sh_slices_Reverse_byte_byte_io_1 d) = f_slices_Reverse_byte_byte_io_p1 (f_slices_Reverse_byte_byte_io_t k) d := by kernel_rfl
theorem q_slices_Reverse_byte_byte_io_m (k : Nat) (d : ((List Int) × Unit) × (Unit × Unit)) : evCode E_slices_Reverse_byte_byte_io (tb (L_slices_Reverse_byte_byte_io k) (R_slices_Reverse_byte_byte_io k)) c_slices_Reverse_byte_byte_io (bodyOf Tryz.f89) 0 (finKio E_slices_Reverse_byte_byte_io po_slices_Reverse_byte_byte_io [] [(0, none)]) (startSt pi_slices_Reverse_byte_byte_io 28 d) = f_slices_Reverse_byte_byte_io_m (f_slices_Reverse_byte_byte_io_t k) d := by kernel_rfl
theorem go_slices_Reverse_byte_byte_io (F : ((List Int) × Unit) × (Unit × Unit) → Option (((List Int) × Unit) × (Unit × Unit))) (hF : ∀ d out, F d = some out → ∃ k, f_slices_Reverse_byte_byte_io_m (f_slices_Reverse_byte_byte_io_t k) d = some out) : FnIo Tryz.prog ET0 89 pi_slices_Reverse_byte_byte_io po_slices_Reverse_byte_byte_io 0 [(0, 0, none)] F :=
  fn_of_bodyIo (E := E_slices_Reverse_byte_byte_io) (envOk_kp e0_ok) (fn := Tryz.f89) Tryz.func89 (by kernel_rfl) (by kernel_rfl) [] [(0, none)] [(0, 0, none)] (by kernel_rfl) (by kernel_rfl) (by kernel_rfl) (by kernel_rfl) (by decide) (by decide) c_slices_Reverse_byte_byte_io L_slices_Reverse_byte_byte_io R_slices_Reverse_byte_byte_io
    (by intro x hx d; simp only [L_slices_Reverse_byte_byte_io, List.mem_cons, List.not_mem_nil, or_false] at hx; subst hx; rfl)
    (by intro k x hx d out h; simp only [L_slices_Reverse_byte_byte_io, List.mem_cons, List.not_mem_nil, or_false] at hx; subst hx; exact (q_slices_Reverse_byte_byte_io_1 k d).trans h)
    (by intro x hx; cases hx)
    (by intro k x hx; cases hx)
    (by intro d out h; obtain ⟨k, hk⟩ := hF d out h; exact ⟨k, (q_slices_Reverse_byte_byte_io_m k d).trans hk⟩)
def g_slices_Reverse_byte_byte_io (d : ((List Int) × Unit) × (Unit × Unit)) : Option (((List Int) × Unit) × (Unit × Unit)) := lim fun k => f_slices_Reverse_byte_byte_io_m (f_slices_Reverse_byte_byte_io_t k) d
theorem ok_slices_Reverse_byte_byte_io : FnIo Tryz.prog ET0 89 pi_slices_Reverse_byte_byte_io po_slices_Reverse_byte_byte_io 0 [(0, 0, none)] g_slices_Reverse_byte_byte_io := go_slices_Reverse_byte_byte_io g_slices_Reverse_byte_byte_io fun d out h => lim_some h

/- horologe/figures.raw -/
@[reducible] def pi_figures_raw : PSh := ⟨[], [.mk false [.v (.int .u64)], .mk false [.v (.int .i64)]]⟩
@[reducible] def po_figures_raw : PSh := ⟨[], [.mk false [.v .str]]⟩
@[reducible] def TT_figures_raw : Type := (((((List Int) × Unit) × ((Int × Unit) × ((Int × Unit) × (Unit × Unit)))) → Option (Unit × ((ByteArray × Unit) × Unit))) × Unit)
@[reducible] def sh_figures_raw_3 : PSh := ⟨[.row 5 (.int .u8)], [.mk false [.v (.int .u64)], .mk false [.v (.int .i64)], .any, .any, .any, .mk false [.osl 0], .any, .any, .any, .any, .any, .any, .any, .any, .any, .any, .any, .any, .any, .any, .any, .any, .any, .any, .any, .any, .any, .any]⟩
def f_figures_raw_p3 (T : TT_figures_raw) (d : ((List Int) × Unit) × ((Int × Unit) × ((Int × Unit) × (Unit × Unit)))) : Option (Unit × ((ByteArray × Unit) × Unit)) :=
  let x1 : Bool := (decide (d.2.1.1 > (0 : Int)))
  bif x1 then (
  let x2 : Int := (Int.tmod d.2.1.1 (10 : Int))
  let x3 : Int := (iconv .u8 x2)
  let x4 : Int := (iadd .u8 (48 : Int) x3)
  let x5 : (List Int) := ([x4] : List Int)
  bif decide (((d.1.1.length + x5.length) * 1 : Nat) ≤ 140737488355328) && decide (d.1.1.length + x5.length ≤ 9223372036854775807) then (
  let x6 : (List Int) := (d.1.1 ++ x5)
  let x7 : Int := (iquo .u64 d.2.1.1 (10 : Int))
  (T.1 ((x6, ()), ((x7, ()), ((d.2.2.1.1, ()), ((), ()))))))
  else none)
  else (
  let x8 : Int := (d.1.1.length : Int)
  let x9 : Int := (if (1 : Int) > d.2.2.1.1 then (1 : Int) else d.2.2.1.1)
  let x10 : Bool := (decide (x8 < x9))
  bif x10 then (
  let x11 : Int := (Int.tmod d.2.1.1 (10 : Int))
  let x12 : Int := (iconv .u8 x11)
  let x13 : Int := (iadd .u8 (48 : Int) x12)
  let x14 : (List Int) := ([x13] : List Int)
  bif decide (((d.1.1.length + x14.length) * 1 : Nat) ≤ 140737488355328) && decide (d.1.1.length + x14.length ≤ 9223372036854775807) then (
  let x15 : (List Int) := (d.1.1 ++ x14)
  let x16 : Int := (iquo .u64 d.2.1.1 (10 : Int))
  (T.1 ((x15, ()), ((x16, ()), ((d.2.2.1.1, ()), ((), ()))))))
  else none)
  else (
  (g_slices_Reverse_byte_byte_io ((d.1.1, ()), ((), ()))).bind fun x17 =>
  let x18 : ByteArray := (strOf x17.1.1)
  some ((), ((x18, ()), ()))))
def f_figures_raw_t : Nat → TT_figures_raw
  | 0 => (fun _ => none, ())
  | k + 1 => (f_figures_raw_p3 (f_figures_raw_t k), ())
theorem t_figures_raw (k : Nat) : f_figures_raw_t (k + 1) = (f_figures_raw_p3 (f_figures_raw_t k), ()) := rfl
def f_figures_raw_m (T : TT_figures_raw) (d : Unit × ((Int × Unit) × ((Int × Unit) × Unit))) : Option (Unit × ((ByteArray × Unit) × Unit)) :=
  (T.1 ((([] : List Int), ()), ((d.2.1.1, ()), ((d.2.2.1.1, ()), ((), ())))))
def c_figures_raw : List Nat := []
def L_figures_raw (k : Nat) : Pts po_figures_raw.den := [(3, ⟨sh_figures_raw_3, (f_figures_raw_t k).1⟩)]
def R_figures_raw (_ : Nat) : PtsR po_figures_raw.den := []
def E_figures_raw : Env := (E0.add 89 (ioSem pi_slices_Reverse_byte_byte_io po_slices_Reverse_byte_byte_io 0 [(0, 0, none)] g_slices_Reverse_byte_byte_io))
theorem q_figures_raw_3 (k : Nat) (d : ((List Int) × Unit) × ((Int × Unit) × ((Int × Unit) × (Unit × Unit)))) : evAt E_figures_raw (tb (L_figures_raw k) (R_figures_raw k)) c_figures_raw 3 (bodyOf Tryz.f50) 0 (finK E_figures_raw po_figures_raw [.tmp 4]) (ptSt sh_figures_raw_3 d) = f_figures_raw_p3 (f_figures_raw_t k) d := by kernel_rfl
theorem q_figures_raw_m (k : Nat) (d : Unit × ((Int × Unit) × ((Int × Unit) × Unit))) : evCode E_figures_raw (tb (L_figures_raw k) (R_figures_raw k)) c_figures_raw (bodyOf Tryz.f50) 0 (finK E_figures_raw po_figures_raw [.tmp 4]) (startSt pi_figures_raw 28 d) = f_figures_raw_m (f_figures_raw_t k) d := by kernel_rfl
theorem go_figures_raw (F : Unit × ((Int × Unit) × ((Int × Unit) × Unit)) → Option (Unit × ((ByteArray × Unit) × Unit))) (hF : ∀ d out, F d = some out → ∃ k, f_figures_raw_m (f_figures_raw_t k) d = some out) : FnOk Tryz.prog ET0 50 pi_figures_raw po_figures_raw F :=
  fn_of_body (E := E_figures_raw) (envOk_add e0_ok (io_ok ok_slices_Reverse_byte_byte_io)) (fn := Tryz.f50) Tryz.func50 (by kernel_rfl) (by kernel_rfl) [.tmp 4] (by kernel_rfl) (by kernel_rfl) (by decide) rfl c_figures_raw L_figures_raw R_figures_raw
    (by intro x hx d; simp only [L_figures_raw, List.mem_cons, List.not_mem_nil, or_false] at hx; subst hx; rfl)
    (by intro k x hx d out h; simp only [L_figures_raw, List.mem_cons, List.not_mem_nil, or_false] at hx; subst hx; exact (q_figures_raw_3 k d).trans h)
    (by intro x hx; cases hx)
    (by intro k x hx; cases hx)
    (by intro d out h; obtain ⟨k, hk⟩ := hF d out h; exact ⟨k, (q_figures_raw_m k d).trans hk⟩)
def g_figures_raw (d : Unit × ((Int × Unit) × ((Int × Unit) × Unit))) : Option (Unit × ((ByteArray × Unit) × Unit)) := lim fun k => f_figures_raw_m (f_figures_raw_t k) d
theorem ok_figures_raw : FnOk Tryz.prog ET0 50 pi_figures_raw po_figures_raw g_figures_raw := go_figures_raw g_figures_raw fun d out h => lim_some h

/- horologe/figures.PutFraction -/
@[reducible] def pi_figures_PutFraction : PSh := ⟨[], [.mk false [.v (.int .i64)], .mk false [.v (.int .i64)]]⟩
@[reducible] def po_figures_PutFraction : PSh := ⟨[], [.mk false [.v .str], .mk false [.v .err]]⟩
def f_figures_PutFraction_m (T : Unit) (d : Unit × ((Int × Unit) × ((Int × Unit) × Unit))) : Option (Unit × ((ByteArray × Unit) × (((Option Int) × Unit) × Unit))) :=
  (g_figures_fits ((), ((d.2.1.1, ()), ()))).bind fun x1 =>
  let x2 : Bool := (!x1.2.1.1)
  bif x2 then (
  let x3 : (Option Int) := (some (1 : Int))
  some ((), (((⟨#[]⟩ : ByteArray), ()), ((x3, ()), ()))))
  else (
  let x4 : Bool := (decide (d.2.2.1.1 < (0 : Int)))
  bif x4 then (
  let x5 : (Option Int) := (some (1 : Int))
  some ((), (((⟨#[]⟩ : ByteArray), ()), ((x5, ()), ()))))
  else (
  let x6 : Bool := (decide (d.2.2.1.1 > (9 : Int)))
  bif x6 then (
  let x7 : (Option Int) := (some (1 : Int))
  some ((), (((⟨#[]⟩ : ByteArray), ()), ((x7, ()), ()))))
  else (
  let x8 : Int := (iconv .u64 d.2.1.1)
  (g_figures_raw ((), ((x8, ()), (((9 : Int), ()), ())))).bind fun x9 =>
  bif decide ((0 : Int) ≤ (0 : Int)) && decide ((0 : Int) ≤ d.2.2.1.1) && decide (d.2.2.1.1 ≤ (x9.2.1.1.size : Int)) then (
  let x10 : ByteArray := (x9.2.1.1.extract (Int.toNat (0 : Int)) (Int.toNat d.2.2.1.1))
  some ((), ((x10, ()), (((none : Option Int), ()), ()))))
  else none)))
def c_figures_PutFraction : List Nat := []
def L_figures_PutFraction (_ : Nat) : Pts po_figures_PutFraction.den := []
def R_figures_PutFraction (_ : Nat) : PtsR po_figures_PutFraction.den := []
def E_figures_PutFraction : Env := ((E0.add 49 (typedSem pi_figures_fits po_figures_fits g_figures_fits)).add 50 (typedSem pi_figures_raw po_figures_raw g_figures_raw))
theorem q_figures_PutFraction_m (k : Nat) (d : Unit × ((Int × Unit) × ((Int × Unit) × Unit))) : evCode E_figures_PutFraction (tb (L_figures_PutFraction k) (R_figures_PutFraction k)) c_figures_PutFraction (bodyOf Tryz.f22) 0 (finK E_figures_PutFraction po_figures_PutFraction [.tmp 4, .tmp 5]) (startSt pi_figures_PutFraction 23 d) = f_figures_PutFraction_m () d := by kernel_rfl
def g_figures_PutFraction (d : Unit × ((Int × Unit) × ((Int × Unit) × Unit))) : Option (Unit × ((ByteArray × Unit) × (((Option Int) × Unit) × Unit))) := f_figures_PutFraction_m () d
theorem ok_figures_PutFraction : FnOk Tryz.prog ET0 22 pi_figures_PutFraction po_figures_PutFraction g_figures_PutFraction :=
  fn_of_body (E := E_figures_PutFraction) (envOk_add (envOk_add e0_ok (typed_ok ok_figures_fits)) (typed_ok ok_figures_raw)) (fn := Tryz.f22) Tryz.func22 (by kernel_rfl) (by kernel_rfl) [.tmp 4, .tmp 5] (by kernel_rfl) (by kernel_rfl) (by decide) rfl c_figures_PutFraction L_figures_PutFraction R_figures_PutFraction
    (by intro x hx; cases hx) (by intro k x hx; cases hx) (by intro x hx; cases hx) (by intro k x hx; cases hx) (fun d out h => ⟨0, (q_figures_PutFraction_m 0 d).trans h⟩)

/- horologe/figures.Put -/
@[reducible] def pi_figures_Put : PSh := ⟨[], [.mk false [.v (.int .i64)], .mk false [.v (.int .i64)]]⟩
@[reducible] def po_figures_Put : PSh := ⟨[], [.mk false [.v .str], .mk false [.v .err]]⟩
def f_figures_Put_m (T : Unit) (d : Unit × ((Int × Unit) × ((Int × Unit) × Unit))) : Option (Unit × ((ByteArray × Unit) × (((Option Int) × Unit) × Unit))) :=
  let x1 : Bool := (decide (d.2.2.1.1 < (0 : Int)))
  bif x1 then (
  let x2 : (Option Int) := (some (1 : Int))
  some ((), (((⟨#[]⟩ : ByteArray), ()), ((x2, ()), ()))))
  else (
  let x3 : Bool := (decide (d.2.2.1.1 > (20 : Int)))
  bif x3 then (
  let x4 : (Option Int) := (some (1 : Int))
  some ((), (((⟨#[]⟩ : ByteArray), ()), ((x4, ()), ()))))
  else (
  let x5 : Bool := (decide (d.2.1.1 < (0 : Int)))
  bif x5 then (
  let x6 : Int := (iconv .u64 d.2.1.1)
  let x7 : Int := (ineg .u64 x6)
  (g_figures_raw ((), ((x7, ()), ((d.2.2.1.1, ()), ())))).bind fun x8 =>
  bif fitsS (⟨#[45]⟩ : ByteArray) x8.2.1.1 then (
  let x9 : ByteArray := ((⟨#[45]⟩ : ByteArray) ++ x8.2.1.1)
  some ((), ((x9, ()), (((none : Option Int), ()), ()))))
  else none)
  else (
  let x10 : Int := (iconv .u64 d.2.1.1)
  (g_figures_raw ((), ((x10, ()), ((d.2.2.1.1, ()), ())))).bind fun x11 =>
  some ((), ((x11.2.1.1, ()), (((none : Option Int), ()), ()))))))
def c_figures_Put : List Nat := []
def L_figures_Put (_ : Nat) : Pts po_figures_Put.den := []
def R_figures_Put (_ : Nat) : PtsR po_figures_Put.den := []
def E_figures_Put : Env := (E0.add 50 (typedSem pi_figures_raw po_figures_raw g_figures_raw))
theorem q_figures_Put_m (k : Nat) (d : Unit × ((Int × Unit) × ((Int × Unit) × Unit))) : evCode E_figures_Put (tb (L_figures_Put k) (R_figures_Put k)) c_figures_Put (bodyOf Tryz.f90) 0 (finK E_figures_Put po_figures_Put [.tmp 4, .tmp 5]) (startSt pi_figures_Put 27 d) = f_figures_Put_m () d := by kernel_rfl
def g_figures_Put (d : Unit × ((Int × Unit) × ((Int × Unit) × Unit))) : Option (Unit × ((ByteArray × Unit) × (((Option Int) × Unit) × Unit))) := f_figures_Put_m () d
theorem ok_figures_Put : FnOk Tryz.prog ET0 90 pi_figures_Put po_figures_Put g_figures_Put :=
  fn_of_body (E := E_figures_Put) (envOk_add e0_ok (typed_ok ok_figures_raw)) (fn := Tryz.f90) Tryz.func90 (by kernel_rfl) (by kernel_rfl) [.tmp 4, .tmp 5] (by kernel_rfl) (by kernel_rfl) (by decide) rfl c_figures_Put L_figures_Put R_figures_Put
    (by intro x hx; cases hx) (by intro k x hx; cases hx) (by intro x hx; cases hx) (by intro k x hx; cases hx) (fun d out h => ⟨0, (q_figures_Put_m 0 d).trans h⟩)

/- (*horologe/iso.writer).put -/
@[reducible] def pi_iso_writer_put_io : PSh := ⟨[.var 96 [.osl 1, .v .err], .row 5 (.int .u8)], [.mk false [.ref 0 0], .mk false [.v .str], .mk false [.v (.int .i64)], .mk false [.v (.int .i64)]]⟩
@[reducible] def po_iso_writer_put_io : PSh := ⟨[.var 96 [.osl 1, .v .err], .row 5 (.int .u8)], [.mk false [.ref 0 0]]⟩
def f_iso_writer_put_io_m (T : Unit) (d : (((Option Int) × Unit) × ((List Int) × Unit)) × (Unit × ((ByteArray × Unit) × ((Int × Unit) × ((Int × Unit) × Unit))))) : Option ((((Option Int) × Unit) × ((List Int) × Unit)) × (Unit × Unit)) :=
  (g_figures_Put ((), ((d.2.2.2.1.1, ()), ((d.2.2.2.2.1.1, ()), ())))).bind fun x1 =>
  let x2 : Bool := (!x1.2.2.1.1.isNone)
  bif x2 then (
  bif decide (((d.1.2.1.length + (bytesOf d.2.2.1.1).length) * 1 : Nat) ≤ 140737488355328) && decide (d.1.2.1.length + (bytesOf d.2.2.1.1).length ≤ 9223372036854775807) then (
  let x3 : (List Int) := (d.1.2.1 ++ (bytesOf d.2.2.1.1))
  bif decide (((x3.length + (bytesOf x1.2.1.1).length) * 1 : Nat) ≤ 140737488355328) && decide (x3.length + (bytesOf x1.2.1.1).length ≤ 9223372036854775807) then (
  let x4 : (List Int) := (x3 ++ (bytesOf x1.2.1.1))
  some (((x1.2.2.1.1, ()), (x4, ())), ((), ())))
  else none)
  else none)
  else (
  bif decide (((d.1.2.1.length + (bytesOf d.2.2.1.1).length) * 1 : Nat) ≤ 140737488355328) && decide (d.1.2.1.length + (bytesOf d.2.2.1.1).length ≤ 9223372036854775807) then (
  let x5 : (List Int) := (d.1.2.1 ++ (bytesOf d.2.2.1.1))
  bif decide (((x5.length + (bytesOf x1.2.1.1).length) * 1 : Nat) ≤ 140737488355328) && decide (x5.length + (bytesOf x1.2.1.1).length ≤ 9223372036854775807) then (
  let x6 : (List Int) := (x5 ++ (bytesOf x1.2.1.1))
  some (((d.1.1.1, ()), (x6, ())), ((), ())))
  else none)
  else none)
def c_iso_writer_put_io : List Nat := []
def L_iso_writer_put_io (_ : Nat) : Pts po_iso_writer_put_io.den := []
def R_iso_writer_put_io (_ : Nat) : PtsR po_iso_writer_put_io.den := []
def E_iso_writer_put_io : Env := ((E0.add 90 (typedSem pi_figures_Put po_figures_Put g_figures_Put)).kp [0])
theorem q_iso_writer_put_io_m (k : Nat) (d : (((Option Int) × Unit) × ((List Int) × Unit)) × (Unit × ((ByteArray × Unit) × ((Int × Unit) × ((Int × Unit) × Unit))))) : evCode E_iso_writer_put_io (tb (L_iso_writer_put_io k) (R_iso_writer_put_io k)) c_iso_writer_put_io (bodyOf Tryz.f52) 0 (finKio E_iso_writer_put_io po_iso_writer_put_io [] [(0, none)]) (startSt pi_iso_writer_put_io 33 d) = f_iso_writer_put_io_m () d := by kernel_rfl
def g_iso_writer_put_io (d : (((Option Int) × Unit) × ((List Int) × Unit)) × (Unit × ((ByteArray × Unit) × ((Int × Unit) × ((Int × Unit) × Unit))))) : Option ((((Option Int) × Unit) × ((List Int) × Unit)) × (Unit × Unit)) := f_iso_writer_put_io_m () d
theorem ok_iso_writer_put_io : FnIo Tryz.prog ET0 52 pi_iso_writer_put_io po_iso_writer_put_io 0 [(0, 0, none)] g_iso_writer_put_io :=
  fn_of_bodyIo (E := E_iso_writer_put_io) (envOk_kp (envOk_add e0_ok (typed_ok ok_figures_Put))) (fn := Tryz.f52) Tryz.func52 (by kernel_rfl) (by kernel_rfl) [] [(0, none)] [(0, 0, none)] (by kernel_rfl) (by kernel_rfl) (by kernel_rfl) (by kernel_rfl) (by decide) (by decide) c_iso_writer_put_io L_iso_writer_put_io R_iso_writer_put_io
    (by intro x hx; cases hx) (by intro k x hx; cases hx) (by intro x hx; cases hx) (by intro k x hx; cases hx) (fun d out h => ⟨0, (q_iso_writer_put_io_m 0 d).trans h⟩)

/- (*horologe/iso.writer).date -/
@[reducible] def pi_iso_writer_date_io : PSh := ⟨[.var 96 [.osl 1, .v .err], .row 5 (.int .u8)], [.mk false [.ref 0 0], .mk false [.v (.int .i64)], .mk false [.v (.int .i64)], .mk false [.v (.int .i64)]]⟩
@[reducible] def po_iso_writer_date_io : PSh := ⟨[.var 96 [.osl 1, .v .err], .row 5 (.int .u8)], [.mk false [.ref 0 0]]⟩
def f_iso_writer_date_io_m (T : Unit) (d : (((Option Int) × Unit) × ((List Int) × Unit)) × (Unit × ((Int × Unit) × ((Int × Unit) × ((Int × Unit) × Unit))))) : Option ((((Option Int) × Unit) × ((List Int) × Unit)) × (Unit × Unit)) :=
  (g_iso_writer_put_io (((d.1.1.1, ()), (d.1.2.1, ())), ((), (((⟨#[]⟩ : ByteArray), ()), ((d.2.2.1.1, ()), (((4 : Int), ()), ())))))).bind fun x1 =>
  (g_iso_writer_put_io (((x1.1.1.1, ()), (x1.1.2.1, ())), ((), (((⟨#[45]⟩ : ByteArray), ()), ((d.2.2.2.1.1, ()), (((2 : Int), ()), ())))))).bind fun x2 =>
  (g_iso_writer_put_io (((x2.1.1.1, ()), (x2.1.2.1, ())), ((), (((⟨#[45]⟩ : ByteArray), ()), ((d.2.2.2.2.1.1, ()), (((2 : Int), ()), ())))))).bind fun x3 =>
  some (((x3.1.1.1, ()), (x3.1.2.1, ())), ((), ()))
def c_iso_writer_date_io : List Nat := []
def L_iso_writer_date_io (_ : Nat) : Pts po_iso_writer_date_io.den := []
def R_iso_writer_date_io (_ : Nat) : PtsR po_iso_writer_date_io.den := []
def E_iso_writer_date_io : Env := ((E0.add 52 (ioSem pi_iso_writer_put_io po_iso_writer_put_io 0 [(0, 0, none)] g_iso_writer_put_io)).kp [0])
theorem q_iso_writer_date_io_m (k : Nat) (d : (((Option Int) × Unit) × ((List Int) × Unit)) × (Unit × ((Int × Unit) × ((Int × Unit) × ((Int × Unit) × Unit))))) : evCode E_iso_writer_date_io (tb (L_iso_writer_date_io k) (R_iso_writer_date_io k)) c_iso_writer_date_io (bodyOf Tryz.f51) 0 (finKio E_iso_writer_date_io po_iso_writer_date_io [] [(0, none)]) (startSt pi_iso_writer_date_io 17 d) = f_iso_writer_date_io_m () d := by kernel_rfl
def g_iso_writer_date_io (d : (((Option Int) × Unit) × ((List Int) × Unit)) × (Unit × ((Int × Unit) × ((Int × Unit) × ((Int × Unit) × Unit))))) : Option ((((Option Int) × Unit) × ((List Int) × Unit)) × (Unit × Unit)) := f_iso_writer_date_io_m () d
theorem ok_iso_writer_date_io : FnIo Tryz.prog ET0 51 pi_iso_writer_date_io po_iso_writer_date_io 0 [(0, 0, none)] g_iso_writer_date_io :=
  fn_of_bodyIo (E := E_iso_writer_date_io) (envOk_kp (envOk_add e0_ok (io_ok ok_iso_writer_put_io))) (fn := Tryz.f51) Tryz.func51 (by kernel_rfl) (by kernel_rfl) [] [(0, none)] [(0, 0, none)] (by kernel_rfl) (by kernel_rfl) (by kernel_rfl) (by kernel_rfl) (by decide) (by decide) c_iso_writer_date_io L_iso_writer_date_io R_iso_writer_date_io
    (by intro x hx; cases hx) (by intro k x hx; cases hx) (by intro x hx; cases hx) (by intro k x hx; cases hx) (fun d out h => ⟨0, (q_iso_writer_date_io_m 0 d).trans h⟩)

/- horologe/iso.text -/
@[reducible] def pi_iso_text : PSh := ⟨[], [.mk true [.v (.int .i64), .v (.int .i64), .v (.int .i64), .v (.int .i64), .v (.int .i64), .v (.int .i64), .v (.int .i64), .v (.int .i64)], .mk false [.v .str]]⟩
@[reducible] def po_iso_text : PSh := ⟨[], [.mk false [.v .str], .mk false [.v .err]]⟩
def f_iso_text_m (T : Unit) (d : Unit × ((Int × (Int × (Int × (Int × (Int × (Int × (Int × (Int × Unit)))))))) × ((ByteArray × Unit) × Unit))) : Option (Unit × ((ByteArray × Unit) × (((Option Int) × Unit) × Unit))) :=
  (g_iso_writer_date_io ((((none : Option Int), ()), (([] : List Int), ())), ((), ((d.2.1.1, ()), ((d.2.1.2.1, ()), ((d.2.1.2.2.1, ()), ())))))).bind fun x1 =>
  (g_iso_writer_put_io (((x1.1.1.1, ()), (x1.1.2.1, ())), ((), (((⟨#[84]⟩ : ByteArray), ()), ((d.2.1.2.2.2.1, ()), (((2 : Int), ()), ())))))).bind fun x2 =>
  (g_iso_writer_put_io (((x2.1.1.1, ()), (x2.1.2.1, ())), ((), (((⟨#[58]⟩ : ByteArray), ()), ((d.2.1.2.2.2.2.1, ()), (((2 : Int), ()), ())))))).bind fun x3 =>
  (g_iso_writer_put_io (((x3.1.1.1, ()), (x3.1.2.1, ())), ((), (((⟨#[58]⟩ : ByteArray), ()), ((d.2.1.2.2.2.2.2.1, ()), (((2 : Int), ()), ())))))).bind fun x4 =>
  let x5 : Bool := (!(d.2.2.1.1.toList == (⟨#[]⟩ : ByteArray).toList))
  bif x5 then (
  let x6 : (List Int) := ([(46 : Int)] : List Int)
  bif decide (((x4.1.2.1.length + x6.length) * 1 : Nat) ≤ 140737488355328) && decide (x4.1.2.1.length + x6.length ≤ 9223372036854775807) then (
  let x7 : (List Int) := (x4.1.2.1 ++ x6)
  bif decide (((x7.length + (bytesOf d.2.2.1.1).length) * 1 : Nat) ≤ 140737488355328) && decide (x7.length + (bytesOf d.2.2.1.1).length ≤ 9223372036854775807) then (
  let x8 : (List Int) := (x7 ++ (bytesOf d.2.2.1.1))
  let x9 : Bool := (d.2.1.2.2.2.2.2.2.2.1 == (0 : Int))
  bif x9 then (
  let x10 : ByteArray := (strOf x8)
  bif fitsS x10 (⟨#[90]⟩ : ByteArray) then (
  let x11 : ByteArray := (x10 ++ (⟨#[90]⟩ : ByteArray))
  some ((), ((x11, ()), ((x4.1.1.1, ()), ()))))
  else none)
  else (
  let x12 : Bool := (decide (d.2.1.2.2.2.2.2.2.2.1 < (0 : Int)))
  bif x12 then (
  let x13 : Int := (ineg .i64 d.2.1.2.2.2.2.2.2.2.1)
  let x14 : Int := (iquo .i64 x13 (60 : Int))
  (g_iso_writer_put_io (((x4.1.1.1, ()), (x8, ())), ((), (((⟨#[45]⟩ : ByteArray), ()), ((x14, ()), (((2 : Int), ()), ())))))).bind fun x15 =>
  let x16 : Int := (ineg .i64 d.2.1.2.2.2.2.2.2.2.1)
  let x17 : Int := (Int.tmod x16 (60 : Int))
  (g_iso_writer_put_io (((x15.1.1.1, ()), (x15.1.2.1, ())), ((), (((⟨#[58]⟩ : ByteArray), ()), ((x17, ()), (((2 : Int), ()), ())))))).bind fun x18 =>
  let x19 : ByteArray := (strOf x18.1.2.1)
  some ((), ((x19, ()), ((x18.1.1.1, ()), ()))))
  else (
  let x20 : Int := (iquo .i64 d.2.1.2.2.2.2.2.2.2.1 (60 : Int))
  (g_iso_writer_put_io (((x4.1.1.1, ()), (x8, ())), ((), (((⟨#[43]⟩ : ByteArray), ()), ((x20, ()), (((2 : Int), ()), ())))))).bind fun x21 =>
  let x22 : Int := (Int.tmod d.2.1.2.2.2.2.2.2.2.1 (60 : Int))
  (g_iso_writer_put_io (((x21.1.1.1, ()), (x21.1.2.1, ())), ((), (((⟨#[58]⟩ : ByteArray), ()), ((x22, ()), (((2 : Int), ()), ())))))).bind fun x23 =>
  let x24 : ByteArray := (strOf x23.1.2.1)
  some ((), ((x24, ()), ((x23.1.1.1, ()), ()))))))
  else none)
  else none)
  else (
  let x25 : Bool := (d.2.1.2.2.2.2.2.2.2.1 == (0 : Int))
  bif x25 then (
  let x26 : ByteArray := (strOf x4.1.2.1)
  bif fitsS x26 (⟨#[90]⟩ : ByteArray) then (
  let x27 : ByteArray := (x26 ++ (⟨#[90]⟩ : ByteArray))
  some ((), ((x27, ()), ((x4.1.1.1, ()), ()))))
  else none)
  else (
  let x28 : Bool := (decide (d.2.1.2.2.2.2.2.2.2.1 < (0 : Int)))
  bif x28 then (
  let x29 : Int := (ineg .i64 d.2.1.2.2.2.2.2.2.2.1)
  let x30 : Int := (iquo .i64 x29 (60 : Int))
  (g_iso_writer_put_io (((x4.1.1.1, ()), (x4.1.2.1, ())), ((), (((⟨#[45]⟩ : ByteArray), ()), ((x30, ()), (((2 : Int), ()), ())))))).bind fun x31 =>
  let x32 : Int := (ineg .i64 d.2.1.2.2.2.2.2.2.2.1)
  let x33 : Int := (Int.tmod x32 (60 : Int))
  (g_iso_writer_put_io (((x31.1.1.1, ()), (x31.1.2.1, ())), ((), (((⟨#[58]⟩ : ByteArray), ()), ((x33, ()), (((2 : Int), ()), ())))))).bind fun x34 =>
  let x35 : ByteArray := (strOf x34.1.2.1)
  some ((), ((x35, ()), ((x34.1.1.1, ()), ()))))
  else (
  let x36 : Int := (iquo .i64 d.2.1.2.2.2.2.2.2.2.1 (60 : Int))
  (g_iso_writer_put_io (((x4.1.1.1, ()), (x4.1.2.1, ())), ((), (((⟨#[43]⟩ : ByteArray), ()), ((x36, ()), (((2 : Int), ()), ())))))).bind fun x37 =>
  let x38 : Int := (Int.tmod d.2.1.2.2.2.2.2.2.2.1 (60 : Int))
  (g_iso_writer_put_io (((x37.1.1.1, ()), (x37.1.2.1, ())), ((), (((⟨#[58]⟩ : ByteArray), ()), ((x38, ()), (((2 : Int), ()), ())))))).bind fun x39 =>
  let x40 : ByteArray := (strOf x39.1.2.1)
  some ((), ((x40, ()), ((x39.1.1.1, ()), ()))))))
def c_iso_text : List Nat := []
def L_iso_text (_ : Nat) : Pts po_iso_text.den := []
def R_iso_text (_ : Nat) : PtsR po_iso_text.den := []
def E_iso_text : Env := ((E0.add 51 (ioSem pi_iso_writer_date_io po_iso_writer_date_io 0 [(0, 0, none)] g_iso_writer_date_io)).add 52 (ioSem pi_iso_writer_put_io po_iso_writer_put_io 0 [(0, 0, none)] g_iso_writer_put_io))
theorem q_iso_text_m (k : Nat) (d : Unit × ((Int × (Int × (Int × (Int × (Int × (Int × (Int × (Int × Unit)))))))) × ((ByteArray × Unit) × Unit))) : evCode E_iso_text (tb (L_iso_text k) (R_iso_text k)) c_iso_text (bodyOf Tryz.f23) 0 (finK E_iso_text po_iso_text [.tmp 4, .tmp 5]) (startSt pi_iso_text 69 d) = f_iso_text_m () d := by kernel_rfl
def g_iso_text (d : Unit × ((Int × (Int × (Int × (Int × (Int × (Int × (Int × (Int × Unit)))))))) × ((ByteArray × Unit) × Unit))) : Option (Unit × ((ByteArray × Unit) × (((Option Int) × Unit) × Unit))) := f_iso_text_m () d
theorem ok_iso_text : FnOk Tryz.prog ET0 23 pi_iso_text po_iso_text g_iso_text :=
  fn_of_body (E := E_iso_text) (envOk_add (envOk_add e0_ok (io_ok ok_iso_writer_date_io)) (io_ok ok_iso_writer_put_io)) (fn := Tryz.f23) Tryz.func23 (by kernel_rfl) (by kernel_rfl) [.tmp 4, .tmp 5] (by kernel_rfl) (by kernel_rfl) (by decide) rfl c_iso_text L_iso_text R_iso_text
    (by intro x hx; cases hx) (by intro k x hx; cases hx) (by intro x hx; cases hx) (by intro k x hx; cases hx) (fun d out h => ⟨0, (q_iso_text_m 0 d).trans h⟩)

/- horologe/iso.Put -/
@[reducible] def pi_iso_Put : PSh := ⟨[], [.mk true [.v (.int .i64), .v (.int .i64), .v (.int .i64), .v (.int .i64), .v (.int .i64), .v (.int .i64), .v (.int .i64), .v (.int .i64)], .mk false [.v (.int .i64)]]⟩
@[reducible] def po_iso_Put : PSh := ⟨[], [.mk false [.v .str], .mk false [.v .err]]⟩
def f_iso_Put_m (T : Unit) (d : Unit × ((Int × (Int × (Int × (Int × (Int × (Int × (Int × (Int × Unit)))))))) × ((Int × Unit) × Unit))) : Option (Unit × ((ByteArray × Unit) × (((Option Int) × Unit) × Unit))) :=
  (g_iso_right ((), ((d.2.1.1, (d.2.1.2.1, (d.2.1.2.2.1, (d.2.1.2.2.2.1, (d.2.1.2.2.2.2.1, (d.2.1.2.2.2.2.2.1, (d.2.1.2.2.2.2.2.2.1, (d.2.1.2.2.2.2.2.2.2.1, ())))))))), ()))).bind fun x1 =>
  let x2 : Bool := (!x1.2.1.1.isNone)
  bif x2 then (
  some ((), (((⟨#[]⟩ : ByteArray), ()), ((x1.2.1.1, ()), ()))))
  else (
  (g_figures_PutFraction ((), ((d.2.1.2.2.2.2.2.2.1, ()), ((d.2.2.1.1, ()), ())))).bind fun x3 =>
  let x4 : Bool := (!x3.2.2.1.1.isNone)
  bif x4 then (
  some ((), (((⟨#[]⟩ : ByteArray), ()), ((x3.2.2.1.1, ()), ()))))
  else (
  (g_iso_text ((), ((d.2.1.1, (d.2.1.2.1, (d.2.1.2.2.1, (d.2.1.2.2.2.1, (d.2.1.2.2.2.2.1, (d.2.1.2.2.2.2.2.1, (d.2.1.2.2.2.2.2.2.1, (d.2.1.2.2.2.2.2.2.2.1, ())))))))), ((x3.2.1.1, ()), ())))).bind fun x5 =>
  some ((), ((x5.2.1.1, ()), ((x5.2.2.1.1, ()), ())))))
def c_iso_Put : List Nat := []
def L_iso_Put (_ : Nat) : Pts po_iso_Put.den := []
def R_iso_Put (_ : Nat) : PtsR po_iso_Put.den := []
def E_iso_Put : Env := (((E0.add 21 (typedSem pi_iso_right po_iso_right g_iso_right)).add 22 (typedSem pi_figures_PutFraction po_figures_PutFraction g_figures_PutFraction)).add 23 (typedSem pi_iso_text po_iso_text g_iso_text))
theorem q_iso_Put_m (k : Nat) (d : Unit × ((Int × (Int × (Int × (Int × (Int × (Int × (Int × (Int × Unit)))))))) × ((Int × Unit) × Unit))) : evCode E_iso_Put (tb (L_iso_Put k) (R_iso_Put k)) c_iso_Put (bodyOf Tryz.f6) 0 (finK E_iso_Put po_iso_Put [.tmp 4, .tmp 5]) (startSt pi_iso_Put 29 d) = f_iso_Put_m () d := by kernel_rfl
def g_iso_Put (d : Unit × ((Int × (Int × (Int × (Int × (Int × (Int × (Int × (Int × Unit)))))))) × ((Int × Unit) × Unit))) : Option (Unit × ((ByteArray × Unit) × (((Option Int) × Unit) × Unit))) := f_iso_Put_m () d
theorem ok_iso_Put : FnOk Tryz.prog ET0 6 pi_iso_Put po_iso_Put g_iso_Put :=
  fn_of_body (E := E_iso_Put) (envOk_add (envOk_add (envOk_add e0_ok (typed_ok ok_iso_right)) (typed_ok ok_figures_PutFraction)) (typed_ok ok_iso_text)) (fn := Tryz.f6) Tryz.func6 (by kernel_rfl) (by kernel_rfl) [.tmp 4, .tmp 5] (by kernel_rfl) (by kernel_rfl) (by decide) rfl c_iso_Put L_iso_Put R_iso_Put
    (by intro x hx; cases hx) (by intro k x hx; cases hx) (by intro x hx; cases hx) (by intro k x hx; cases hx) (fun d out h => ⟨0, (q_iso_Put_m 0 d).trans h⟩)

/- horologe/scan.New[string] -/
@[reducible] def pi_scan_New_string : PSh := ⟨[], [.mk false [.v .str]]⟩
@[reducible] def po_scan_New_string : PSh := ⟨[.var 143 [.v .str, .v (.int .i64), .v .err]], [.mk false [.ref 0 0]]⟩
def f_scan_New_string_m (T : Unit) (d : Unit × ((ByteArray × Unit) × Unit)) : Option (((ByteArray × (Int × ((Option Int) × Unit))) × Unit) × (Unit × Unit)) :=
  some (((d.2.1.1, ((0 : Int), ((none : Option Int), ()))), ()), ((), ()))
def c_scan_New_string : List Nat := []
def L_scan_New_string (_ : Nat) : Pts po_scan_New_string.den := []
def R_scan_New_string (_ : Nat) : PtsR po_scan_New_string.den := []
def E_scan_New_string : Env := E0
theorem q_scan_New_string_m (k : Nat) (d : Unit × ((ByteArray × Unit) × Unit)) : evCode E_scan_New_string (tb (L_scan_New_string k) (R_scan_New_string k)) c_scan_New_string (bodyOf Tryz.f41) 0 (finK E_scan_New_string po_scan_New_string [.tmp 2]) (startSt pi_scan_New_string 6 d) = f_scan_New_string_m () d := by kernel_rfl
def g_scan_New_string (d : Unit × ((ByteArray × Unit) × Unit)) : Option (((ByteArray × (Int × ((Option Int) × Unit))) × Unit) × (Unit × Unit)) := f_scan_New_string_m () d
theorem ok_scan_New_string : FnOk Tryz.prog ET0 41 pi_scan_New_string po_scan_New_string g_scan_New_string :=
  fn_of_body (E := E_scan_New_string) e0_ok (fn := Tryz.f41) Tryz.func41 (by kernel_rfl) (by kernel_rfl) [.tmp 2] (by kernel_rfl) (by kernel_rfl) (by decide) rfl c_scan_New_string L_scan_New_string R_scan_New_string
    (by intro x hx; cases hx) (by intro k x hx; cases hx) (by intro x hx; cases hx) (by intro k x hx; cases hx) (fun d out h => ⟨0, (q_scan_New_string_m 0 d).trans h⟩)

/- (*horologe/scan.Scanner[string]).going -/
@[reducible] def pi_scan_Scanner_string_going : PSh := ⟨[], [.mk false [.v (.nptr (.pair .str (.pair (.int .i64) .err)))]]⟩
@[reducible] def po_scan_Scanner_string_going : PSh := ⟨[], [.mk false [.v .bool]]⟩
def f_scan_Scanner_string_going_m (T : Unit) (d : Unit × (((Option (ByteArray × (Int × (Option Int)))) × Unit) × Unit)) : Option (Unit × ((Bool × Unit) × Unit)) :=
  let x1 : Bool := (!d.2.1.1.isNone)
  bif x1 then (
  d.2.1.1.bind fun x2 =>
  some ((), ((x2.2.2.isNone, ()), ())))
  else (
  some ((), ((false, ()), ())))
def c_scan_Scanner_string_going : List Nat := []
def L_scan_Scanner_string_going (_ : Nat) : Pts po_scan_Scanner_string_going.den := []
def R_scan_Scanner_string_going (_ : Nat) : PtsR po_scan_Scanner_string_going.den := []
def E_scan_Scanner_string_going : Env := E0
theorem q_scan_Scanner_string_going_m (k : Nat) (d : Unit × (((Option (ByteArray × (Int × (Option Int)))) × Unit) × Unit)) : evCode E_scan_Scanner_string_going (tb (L_scan_Scanner_string_going k) (R_scan_Scanner_string_going k)) c_scan_Scanner_string_going (bodyOf Tryz.f119) 0 (finK E_scan_Scanner_string_going po_scan_Scanner_string_going [.tmp 2]) (startSt pi_scan_Scanner_string_going 12 d) = f_scan_Scanner_string_going_m () d := by kernel_rfl
def g_scan_Scanner_string_going (d : Unit × (((Option (ByteArray × (Int × (Option Int)))) × Unit) × Unit)) : Option (Unit × ((Bool × Unit) × Unit)) := f_scan_Scanner_string_going_m () d
theorem ok_scan_Scanner_string_going : FnOk Tryz.prog ET0 119 pi_scan_Scanner_string_going po_scan_Scanner_string_going g_scan_Scanner_string_going :=
  fn_of_body (E := E_scan_Scanner_string_going) e0_ok (fn := Tryz.f119) Tryz.func119 (by kernel_rfl) (by kernel_rfl) [.tmp 2] (by kernel_rfl) (by kernel_rfl) (by decide) rfl c_scan_Scanner_string_going L_scan_Scanner_string_going R_scan_Scanner_string_going
    (by intro x hx; cases hx) (by intro k x hx; cases hx) (by intro x hx; cases hx) (by intro k x hx; cases hx) (fun d out h => ⟨0, (q_scan_Scanner_string_going_m 0 d).trans h⟩)

/- horologe/figures.Is -/
@[reducible] def pi_figures_Is : PSh := ⟨[], [.mk false [.v (.int .u8)]]⟩
@[reducible] def po_figures_Is : PSh := ⟨[], [.mk false [.v .bool]]⟩
def f_figures_Is_m (T : Unit) (d : Unit × ((Int × Unit) × Unit)) : Option (Unit × ((Bool × Unit) × Unit)) :=
  let x1 : Bool := (decide (d.2.1.1 ≥ (48 : Int)))
  bif x1 then (
  let x2 : Bool := (decide (d.2.1.1 ≤ (57 : Int)))
  some ((), ((x2, ()), ())))
  else (
  some ((), ((false, ()), ())))
def c_figures_Is : List Nat := []
def L_figures_Is (_ : Nat) : Pts po_figures_Is.den := []
def R_figures_Is (_ : Nat) : PtsR po_figures_Is.den := []
def E_figures_Is : Env := E0
theorem q_figures_Is_m (k : Nat) (d : Unit × ((Int × Unit) × Unit)) : evCode E_figures_Is (tb (L_figures_Is k) (R_figures_Is k)) c_figures_Is (bodyOf Tryz.f202) 0 (finK E_figures_Is po_figures_Is [.tmp 2]) (startSt pi_figures_Is 9 d) = f_figures_Is_m () d := by kernel_rfl
def g_figures_Is (d : Unit × ((Int × Unit) × Unit)) : Option (Unit × ((Bool × Unit) × Unit)) := f_figures_Is_m () d
theorem ok_figures_Is : FnOk Tryz.prog ET0 202 pi_figures_Is po_figures_Is g_figures_Is :=
  fn_of_body (E := E_figures_Is) e0_ok (fn := Tryz.f202) Tryz.func202 (by kernel_rfl) (by kernel_rfl) [.tmp 2] (by kernel_rfl) (by kernel_rfl) (by decide) rfl c_figures_Is L_figures_Is R_figures_Is
    (by intro x hx; cases hx) (by intro k x hx; cases hx) (by intro x hx; cases hx) (by intro k x hx; cases hx) (fun d out h => ⟨0, (q_figures_Is_m 0 d).trans h⟩)

/- horologe/figures.run -/
@[reducible] def pi_figures_run : PSh := ⟨[], [.mk false [.v .str], .mk false [.v (.int .i64)]]⟩
@[reducible] def po_figures_run : PSh := ⟨[], [.mk false [.v (.int .i64)]]⟩
@[reducible] def TT_figures_run : Type := (((Unit × ((ByteArray × Unit) × ((Int × Unit) × ((Int × Unit) × Unit)))) → Option (Unit × ((Int × Unit) × Unit))) × Unit)
@[reducible] def sh_figures_run_3 : PSh := ⟨[], [.mk false [.v .str], .mk false [.v (.int .i64)], .any, .any, .any, .mk false [.v (.int .i64)], .any, .any, .any, .any, .any, .any, .any, .any, .any, .any, .any, .any, .any, .any, .any]⟩
def f_figures_run_p3 (T : TT_figures_run) (d : Unit × ((ByteArray × Unit) × ((Int × Unit) × ((Int × Unit) × Unit)))) : Option (Unit × ((Int × Unit) × Unit)) :=
  let x1 : Int := (d.2.1.1.size : Int)
  let x2 : Int := (if d.2.2.1.1 < x1 then d.2.2.1.1 else x1)
  let x3 : Bool := (decide (d.2.2.2.1.1 < x2))
  bif x3 then (
  bif decide ((0 : Int) ≤ d.2.2.2.1.1) && decide (d.2.2.2.1.1 < ((d.2.1.1.size : Int) : Int)) then (
  let x4 : Int := (bt d.2.1.1 d.2.2.2.1.1)
  (g_figures_Is ((), ((x4, ()), ()))).bind fun x5 =>
  bif x5.2.1.1 then (
  let x6 : Int := (iadd .i64 d.2.2.2.1.1 (1 : Int))
  (T.1 ((), ((d.2.1.1, ()), ((d.2.2.1.1, ()), ((x6, ()), ()))))))
  else (
  some ((), ((d.2.2.2.1.1, ()), ()))))
  else none)
  else (
  some ((), ((d.2.2.2.1.1, ()), ())))
def f_figures_run_t : Nat → TT_figures_run
  | 0 => (fun _ => none, ())
  | k + 1 => (f_figures_run_p3 (f_figures_run_t k), ())
theorem t_figures_run (k : Nat) : f_figures_run_t (k + 1) = (f_figures_run_p3 (f_figures_run_t k), ()) := rfl
def f_figures_run_m (T : TT_figures_run) (d : Unit × ((ByteArray × Unit) × ((Int × Unit) × Unit))) : Option (Unit × ((Int × Unit) × Unit)) :=
  (T.1 ((), ((d.2.1.1, ()), ((d.2.2.1.1, ()), (((0 : Int), ()), ())))))
def c_figures_run : List Nat := []
def L_figures_run (k : Nat) : Pts po_figures_run.den := [(3, ⟨sh_figures_run_3, (f_figures_run_t k).1⟩)]
def R_figures_run (_ : Nat) : PtsR po_figures_run.den := []
def E_figures_run : Env := (E0.add 202 (typedSem pi_figures_Is po_figures_Is g_figures_Is))
theorem q_figures_run_3 (k : Nat) (d : Unit × ((ByteArray × Unit) × ((Int × Unit) × ((Int × Unit) × Unit)))) : evAt E_figures_run (tb (L_figures_run k) (R_figures_run k)) c_figures_run 3 (bodyOf Tryz.f189) 0 (finK E_figures_run po_figures_run [.tmp 4]) (ptSt sh_figures_run_3 d) = f_figures_run_p3 (f_figures_run_t k) d := by kernel_rfl
theorem q_figures_run_m (k : Nat) (d : Unit × ((ByteArray × Unit) × ((Int × Unit) × Unit))) : evCode E_figures_run (tb (L_figures_run k) (R_figures_run k)) c_figures_run (bodyOf Tryz.f189) 0 (finK E_figures_run po_figures_run [.tmp 4]) (startSt pi_figures_run 21 d) = f_figures_run_m (f_figures_run_t k) d := by kernel_rfl
theorem go_figures_run (F : Unit × ((ByteArray × Unit) × ((Int × Unit) × Unit)) → Option (Unit × ((Int × Unit) × Unit))) (hF : ∀ d out, F d = some out → ∃ k, f_figures_run_m (f_figures_run_t k) d = some out) : FnOk Tryz.prog ET0 189 pi_figures_run po_figures_run F :=
  fn_of_body (E := E_figures_run) (envOk_add e0_ok (typed_ok ok_figures_Is)) (fn := Tryz.f189) Tryz.func189 (by kernel_rfl) (by kernel_rfl) [.tmp 4] (by kernel_rfl) (by kernel_rfl) (by decide) rfl c_figures_run L_figures_run R_figures_run
    (by intro x hx d; simp only [L_figures_run, List.mem_cons, List.not_mem_nil, or_false] at hx; subst hx; rfl)
    (by intro k x hx d out h; simp only [L_figures_run, List.mem_cons, List.not_mem_nil, or_false] at hx; subst hx; exact (q_figures_run_3 k d).trans h)
    (by intro x hx; cases hx)
    (by intro k x hx; cases hx)
    (by intro d out h; obtain ⟨k, hk⟩ := hF d out h; exact ⟨k, (q_figures_run_m k d).trans hk⟩)
def g_figures_run (d : Unit × ((ByteArray × Unit) × ((Int × Unit) × Unit))) : Option (Unit × ((Int × Unit) × Unit)) := lim fun k => f_figures_run_m (f_figures_run_t k) d
theorem ok_figures_run : FnOk Tryz.prog ET0 189 pi_figures_run po_figures_run g_figures_run := go_figures_run g_figures_run fun d out h => lim_some h

/- horologe/figures.value -/
@[reducible] def pi_figures_value : PSh := ⟨[], [.mk false [.v .str], .mk false [.v (.int .u64)]]⟩
@[reducible] def po_figures_value : PSh := ⟨[], [.mk false [.v (.int .u64)], .mk false [.v .err]]⟩
@[reducible] def TT_figures_value : Type := (((Unit × ((ByteArray × Unit) × ((Int × Unit) × ((Int × Unit) × ((Int × Unit) × ((Int × Unit) × Unit)))))) → Option (Unit × ((Int × Unit) × (((Option Int) × Unit) × Unit)))) × Unit)
@[reducible] def sh_figures_value_4 : PSh := ⟨[], [.mk false [.v .str], .mk false [.v (.int .u64)], .any, .any, .any, .any, .mk false [.v (.int .u64)], .any, .any, .any, .mk false [.v (.int .i64)], .mk false [.v (.int .i64)], .any, .any, .any, .any, .any, .any, .any, .any, .any, .any, .any, .any, .any, .any, .any, .any, .any, .any, .any, .any]⟩
def f_figures_value_p4 (T : TT_figures_value) (d : Unit × ((ByteArray × Unit) × ((Int × Unit) × ((Int × Unit) × ((Int × Unit) × ((Int × Unit) × Unit)))))) : Option (Unit × ((Int × Unit) × (((Option Int) × Unit) × Unit))) :=
  let x2 : Bool := (decide (d.2.2.2.2.2.1.1 < d.2.2.2.2.1.1))
  bif x2 then (
  bif decide ((0 : Int) ≤ d.2.2.2.2.2.1.1) && decide (d.2.2.2.2.2.1.1 < ((d.2.1.1.size : Int) : Int)) then (
  let x3 : Int := (bt d.2.1.1 d.2.2.2.2.2.1.1)
  let x4 : Int := (isub .u8 x3 (48 : Int))
  let x5 : Int := (iconv .u64 x4)
  let x6 : Int := (isub .u64 d.2.2.1.1 x5)
  let x7 : Int := (iquo .u64 x6 (10 : Int))
  let x8 : Bool := (decide (d.2.2.2.1.1 > x7))
  bif x8 then (
  let x9 : (Option Int) := (some (5 : Int))
  some ((), (((0 : Int), ()), ((x9, ()), ()))))
  else (
  let x10 : Int := (imul .u64 d.2.2.2.1.1 (10 : Int))
  let x11 : Int := (iadd .u64 x10 x5)
  let x12 : Int := (iadd .i64 d.2.2.2.2.2.1.1 (1 : Int))
  (T.1 ((), ((d.2.1.1, ()), ((d.2.2.1.1, ()), ((x11, ()), ((d.2.2.2.2.1.1, ()), ((x12, ()), ())))))))))
  else none)
  else (
  some ((), ((d.2.2.2.1.1, ()), (((none : Option Int), ()), ()))))
def f_figures_value_t : Nat → TT_figures_value
  | 0 => (fun _ => none, ())
  | k + 1 => (f_figures_value_p4 (f_figures_value_t k), ())
theorem t_figures_value (k : Nat) : f_figures_value_t (k + 1) = (f_figures_value_p4 (f_figures_value_t k), ()) := rfl
def f_figures_value_m (T : TT_figures_value) (d : Unit × ((ByteArray × Unit) × ((Int × Unit) × Unit))) : Option (Unit × ((Int × Unit) × (((Option Int) × Unit) × Unit))) :=
  let x1 : Int := (d.2.1.1.size : Int)
  (T.1 ((), ((d.2.1.1, ()), ((d.2.2.1.1, ()), (((0 : Int), ()), ((x1, ()), (((0 : Int), ()), ())))))))
def c_figures_value : List Nat := []
def L_figures_value (k : Nat) : Pts po_figures_value.den := [(4, ⟨sh_figures_value_4, (f_figures_value_t k).1⟩)]
def R_figures_value (_ : Nat) : PtsR po_figures_value.den := []
def E_figures_value : Env := E0
theorem q_figures_value_4 (k : Nat) (d : Unit × ((ByteArray × Unit) × ((Int × Unit) × ((Int × Unit) × ((Int × Unit) × ((Int × Unit) × Unit)))))) : evAt E_figures_value (tb (L_figures_value k) (R_figures_value k)) c_figures_value 4 (bodyOf Tryz.f190) 0 (finK E_figures_value po_figures_value [.tmp 4, .tmp 5]) (ptSt sh_figures_value_4 d) = f_figures_value_p4 (f_figures_value_t k) d := by kernel_rfl
theorem q_figures_value_m (k : Nat) (d : Unit × ((ByteArray × Unit) × ((Int × Unit) × Unit))) : evCode E_figures_value (tb (L_figures_value k) (R_figures_value k)) c_figures_value (bodyOf Tryz.f190) 0 (finK E_figures_value po_figures_value [.tmp 4, .tmp 5]) (startSt pi_figures_value 32 d) = f_figures_value_m (f_figures_value_t k) d := by kernel_rfl
theorem go_figures_value (F : Unit × ((ByteArray × Unit) × ((Int × Unit) × Unit)) → Option (Unit × ((Int × Unit) × (((Option Int) × Unit) × Unit)))) (hF : ∀ d out, F d = some out → ∃ k, f_figures_value_m (f_figures_value_t k) d = some out) : FnOk Tryz.prog ET0 190 pi_figures_value po_figures_value F :=
  fn_of_body (E := E_figures_value) e0_ok (fn := Tryz.f190) Tryz.func190 (by kernel_rfl) (by kernel_rfl) [.tmp 4, .tmp 5] (by kernel_rfl) (by kernel_rfl) (by decide) rfl c_figures_value L_figures_value R_figures_value
    (by intro x hx d; simp only [L_figures_value, List.mem_cons, List.not_mem_nil, or_false] at hx; subst hx; rfl)
    (by intro k x hx d out h; simp only [L_figures_value, List.mem_cons, List.not_mem_nil, or_false] at hx; subst hx; exact (q_figures_value_4 k d).trans h)
    (by intro x hx; cases hx)
    (by intro k x hx; cases hx)
    (by intro d out h; obtain ⟨k, hk⟩ := hF d out h; exact ⟨k, (q_figures_value_m k d).trans hk⟩)
def g_figures_value (d : Unit × ((ByteArray × Unit) × ((Int × Unit) × Unit))) : Option (Unit × ((Int × Unit) × (((Option Int) × Unit) × Unit))) := lim fun k => f_figures_value_m (f_figures_value_t k) d
theorem ok_figures_value : FnOk Tryz.prog ET0 190 pi_figures_value po_figures_value g_figures_value := go_figures_value g_figures_value fun d out h => lim_some h

/- horologe/figures.take -/
@[reducible] def pi_figures_take : PSh := ⟨[], [.mk false [.v .str], .mk false [.v (.int .i64)], .mk false [.v (.int .i64)], .mk false [.v (.int .u64)]]⟩
@[reducible] def po_figures_take : PSh := ⟨[], [.mk false [.v (.int .u64)], .mk false [.v (.int .i64)], .mk false [.v .err]]⟩
def f_figures_take_m (T : Unit) (d : Unit × ((ByteArray × Unit) × ((Int × Unit) × ((Int × Unit) × ((Int × Unit) × Unit))))) : Option (Unit × ((Int × Unit) × ((Int × Unit) × (((Option Int) × Unit) × Unit)))) :=
  let x1 : Bool := (decide (d.2.2.1.1 < (1 : Int)))
  bif x1 then (
  let x2 : (Option Int) := (some (1 : Int))
  some ((), (((0 : Int), ()), (((0 : Int), ()), ((x2, ()), ())))))
  else (
  let x3 : Bool := (decide (d.2.2.1.1 > d.2.2.2.1.1))
  bif x3 then (
  let x4 : (Option Int) := (some (1 : Int))
  some ((), (((0 : Int), ()), (((0 : Int), ()), ((x4, ()), ())))))
  else (
  let x5 : Bool := (decide (d.2.2.2.1.1 > (20 : Int)))
  bif x5 then (
  let x6 : (Option Int) := (some (1 : Int))
  some ((), (((0 : Int), ()), (((0 : Int), ()), ((x6, ()), ())))))
  else (
  (g_figures_run ((), ((d.2.1.1, ()), ((d.2.2.2.1.1, ()), ())))).bind fun x7 =>
  let x8 : Bool := (decide (x7.2.1.1 < d.2.2.1.1))
  bif x8 then (
  let x9 : (Option Int) := (some (2 : Int))
  some ((), (((0 : Int), ()), (((0 : Int), ()), ((x9, ()), ())))))
  else (
  bif decide ((0 : Int) ≤ (0 : Int)) && decide ((0 : Int) ≤ x7.2.1.1) && decide (x7.2.1.1 ≤ (d.2.1.1.size : Int)) then (
  let x10 : ByteArray := (d.2.1.1.extract (Int.toNat (0 : Int)) (Int.toNat x7.2.1.1))
  (g_figures_value ((), ((x10, ()), ((d.2.2.2.2.1.1, ()), ())))).bind fun x11 =>
  let x12 : Bool := (!x11.2.2.1.1.isNone)
  bif x12 then (
  some ((), (((0 : Int), ()), (((0 : Int), ()), ((x11.2.2.1.1, ()), ())))))
  else (
  some ((), ((x11.2.1.1, ()), ((x7.2.1.1, ()), (((none : Option Int), ()), ()))))))
  else none))))
def c_figures_take : List Nat := []
def L_figures_take (_ : Nat) : Pts po_figures_take.den := []
def R_figures_take (_ : Nat) : PtsR po_figures_take.den := []
def E_figures_take : Env := ((E0.add 189 (typedSem pi_figures_run po_figures_run g_figures_run)).add 190 (typedSem pi_figures_value po_figures_value g_figures_value))
theorem q_figures_take_m (k : Nat) (d : Unit × ((ByteArray × Unit) × ((Int × Unit) × ((Int × Unit) × ((Int × Unit) × Unit))))) : evCode E_figures_take (tb (L_figures_take k) (R_figures_take k)) c_figures_take (bodyOf Tryz.f162) 0 (finK E_figures_take po_figures_take [.tmp 8, .tmp 9, .tmp 10]) (startSt pi_figures_take 46 d) = f_figures_take_m () d := by kernel_rfl
def g_figures_take (d : Unit × ((ByteArray × Unit) × ((Int × Unit) × ((Int × Unit) × ((Int × Unit) × Unit))))) : Option (Unit × ((Int × Unit) × ((Int × Unit) × (((Option Int) × Unit) × Unit)))) := f_figures_take_m () d
theorem ok_figures_take : FnOk Tryz.prog ET0 162 pi_figures_take po_figures_take g_figures_take :=
  fn_of_body (E := E_figures_take) (envOk_add (envOk_add e0_ok (typed_ok ok_figures_run)) (typed_ok ok_figures_value)) (fn := Tryz.f162) Tryz.func162 (by kernel_rfl) (by kernel_rfl) [.tmp 8, .tmp 9, .tmp 10] (by kernel_rfl) (by kernel_rfl) (by decide) rfl c_figures_take L_figures_take R_figures_take
    (by intro x hx; cases hx) (by intro k x hx; cases hx) (by intro x hx; cases hx) (by intro k x hx; cases hx) (fun d out h => ⟨0, (q_figures_take_m 0 d).trans h⟩)

/- horologe/figures.Take -/
@[reducible] def pi_figures_Take : PSh := ⟨[], [.mk false [.v .str], .mk false [.v (.int .i64)], .mk false [.v (.int .i64)]]⟩
@[reducible] def po_figures_Take : PSh := ⟨[], [.mk false [.v (.int .i64)], .mk false [.v (.int .i64)], .mk false [.v .err]]⟩
def f_figures_Take_m (T : Unit) (d : Unit × ((ByteArray × Unit) × ((Int × Unit) × ((Int × Unit) × Unit)))) : Option (Unit × ((Int × Unit) × ((Int × Unit) × (((Option Int) × Unit) × Unit)))) :=
  (g_figures_take ((), ((d.2.1.1, ()), ((d.2.2.1.1, ()), ((d.2.2.2.1.1, ()), (((9223372036854775807 : Int), ()), ())))))).bind fun x1 =>
  let x2 : Int := (iconv .i64 x1.2.1.1)
  some ((), ((x2, ()), ((x1.2.2.1.1, ()), ((x1.2.2.2.1.1, ()), ()))))
def c_figures_Take : List Nat := []
def L_figures_Take (_ : Nat) : Pts po_figures_Take.den := []
def R_figures_Take (_ : Nat) : PtsR po_figures_Take.den := []
def E_figures_Take : Env := (E0.add 162 (typedSem pi_figures_take po_figures_take g_figures_take))
theorem q_figures_Take_m (k : Nat) (d : Unit × ((ByteArray × Unit) × ((Int × Unit) × ((Int × Unit) × Unit)))) : evCode E_figures_Take (tb (L_figures_Take k) (R_figures_Take k)) c_figures_Take (bodyOf Tryz.f120) 0 (finK E_figures_Take po_figures_Take [.tmp 6, .tmp 7, .tmp 8]) (startSt pi_figures_Take 24 d) = f_figures_Take_m () d := by kernel_rfl
def g_figures_Take (d : Unit × ((ByteArray × Unit) × ((Int × Unit) × ((Int × Unit) × Unit)))) : Option (Unit × ((Int × Unit) × ((Int × Unit) × (((Option Int) × Unit) × Unit)))) := f_figures_Take_m () d
theorem ok_figures_Take : FnOk Tryz.prog ET0 120 pi_figures_Take po_figures_Take g_figures_Take :=
  fn_of_body (E := E_figures_Take) (envOk_add e0_ok (typed_ok ok_figures_take)) (fn := Tryz.f120) Tryz.func120 (by kernel_rfl) (by kernel_rfl) [.tmp 6, .tmp 7, .tmp 8] (by kernel_rfl) (by kernel_rfl) (by decide) rfl c_figures_Take L_figures_Take R_figures_Take
    (by intro x hx; cases hx) (by intro k x hx; cases hx) (by intro x hx; cases hx) (by intro k x hx; cases hx) (fun d out h => ⟨0, (q_figures_Take_m 0 d).trans h⟩)

/- (*horologe/scan.Scanner[string]).rest -/
@[reducible] def pi_scan_Scanner_string_rest : PSh := ⟨[], [.mk false [.v (.nptr (.pair .str (.pair (.int .i64) .err)))]]⟩
@[reducible] def po_scan_Scanner_string_rest : PSh := ⟨[], [.mk false [.v .str]]⟩
def f_scan_Scanner_string_rest_m (T : Unit) (d : Unit × (((Option (ByteArray × (Int × (Option Int)))) × Unit) × Unit)) : Option (Unit × ((ByteArray × Unit) × Unit)) :=
  bif d.2.1.1.isNone then (
  some ((), (((⟨#[]⟩ : ByteArray), ()), ())))
  else (
  d.2.1.1.bind fun x1 =>
  let x2 : Bool := (!x1.2.2.isNone)
  bif x2 then (
  some ((), (((⟨#[]⟩ : ByteArray), ()), ())))
  else (
  d.2.1.1.bind fun x3 =>
  d.2.1.1.bind fun x4 =>
  bif decide ((0 : Int) ≤ x4.2.1) && decide (x4.2.1 ≤ (x3.1.size : Int)) && decide ((x3.1.size : Int) ≤ (x3.1.size : Int)) then (
  let x5 : ByteArray := (x3.1.extract (Int.toNat x4.2.1) (Int.toNat (x3.1.size : Int)))
  some ((), ((x5, ()), ())))
  else none))
def c_scan_Scanner_string_rest : List Nat := []
def L_scan_Scanner_string_rest (_ : Nat) : Pts po_scan_Scanner_string_rest.den := []
def R_scan_Scanner_string_rest (_ : Nat) : PtsR po_scan_Scanner_string_rest.den := []
def E_scan_Scanner_string_rest : Env := E0
theorem q_scan_Scanner_string_rest_m (k : Nat) (d : Unit × (((Option (ByteArray × (Int × (Option Int)))) × Unit) × Unit)) : evCode E_scan_Scanner_string_rest (tb (L_scan_Scanner_string_rest k) (R_scan_Scanner_string_rest k)) c_scan_Scanner_string_rest (bodyOf Tryz.f121) 0 (finK E_scan_Scanner_string_rest po_scan_Scanner_string_rest [.tmp 2]) (startSt pi_scan_Scanner_string_rest 21 d) = f_scan_Scanner_string_rest_m () d := by kernel_rfl
def g_scan_Scanner_string_rest (d : Unit × (((Option (ByteArray × (Int × (Option Int)))) × Unit) × Unit)) : Option (Unit × ((ByteArray × Unit) × Unit)) := f_scan_Scanner_string_rest_m () d
theorem ok_scan_Scanner_string_rest : FnOk Tryz.prog ET0 121 pi_scan_Scanner_string_rest po_scan_Scanner_string_rest g_scan_Scanner_string_rest :=
  fn_of_body (E := E_scan_Scanner_string_rest) e0_ok (fn := Tryz.f121) Tryz.func121 (by kernel_rfl) (by kernel_rfl) [.tmp 2] (by kernel_rfl) (by kernel_rfl) (by decide) rfl c_scan_Scanner_string_rest L_scan_Scanner_string_rest R_scan_Scanner_string_rest
    (by intro x hx; cases hx) (by intro k x hx; cases hx) (by intro x hx; cases hx) (by intro k x hx; cases hx) (fun d out h => ⟨0, (q_scan_Scanner_string_rest_m 0 d).trans h⟩)

/- strings.Clone -/
@[reducible] def pi_strings_Clone : PSh := ⟨[], [.mk false [.v .str]]⟩
@[reducible] def po_strings_Clone : PSh := ⟨[], [.mk false [.v .str]]⟩
def f_strings_Clone_m (T : Unit) (d : Unit × ((ByteArray × Unit) × Unit)) : Option (Unit × ((ByteArray × Unit) × Unit)) :=
  (g_internal_stringslite_Clone ((), ((d.2.1.1, ()), ()))).bind fun x1 =>
  some ((), ((x1.2.1.1, ()), ()))
def c_strings_Clone : List Nat := []
def L_strings_Clone (_ : Nat) : Pts po_strings_Clone.den := []
def R_strings_Clone (_ : Nat) : PtsR po_strings_Clone.den := []
def E_strings_Clone : Env := (E0.add 191 (typedSem pi_internal_stringslite_Clone po_internal_stringslite_Clone g_internal_stringslite_Clone))
theorem q_strings_Clone_m (k : Nat) (d : Unit × ((ByteArray × Unit) × Unit)) : evCode E_strings_Clone (tb (L_strings_Clone k) (R_strings_Clone k)) c_strings_Clone (bodyOf Tryz.f163) 0 (finK E_strings_Clone po_strings_Clone [.tmp 2]) (startSt pi_strings_Clone 5 d) = f_strings_Clone_m () d := by kernel_rfl
def g_strings_Clone (d : Unit × ((ByteArray × Unit) × Unit)) : Option (Unit × ((ByteArray × Unit) × Unit)) := f_strings_Clone_m () d
theorem ok_strings_Clone : FnOk Tryz.prog ET0 163 pi_strings_Clone po_strings_Clone g_strings_Clone :=
  fn_of_body (E := E_strings_Clone) (envOk_add e0_ok (typed_ok ok_internal_stringslite_Clone)) (fn := Tryz.f163) Tryz.func163 (by kernel_rfl) (by kernel_rfl) [.tmp 2] (by kernel_rfl) (by kernel_rfl) (by decide) rfl c_strings_Clone L_strings_Clone R_strings_Clone
    (by intro x hx; cases hx) (by intro k x hx; cases hx) (by intro x hx; cases hx) (by intro k x hx; cases hx) (fun d out h => ⟨0, (q_strings_Clone_m 0 d).trans h⟩)

/- (*horologe/scan.Scanner[string]).Peek -/
@[reducible] def pi_scan_Scanner_string_Peek : PSh := ⟨[], [.mk false [.v (.nptr (.pair .str (.pair (.int .i64) .err)))]]⟩
@[reducible] def po_scan_Scanner_string_Peek : PSh := ⟨[], [.mk false [.v (.int .u8)], .mk false [.v .bool]]⟩
def f_scan_Scanner_string_Peek_m (T : Unit) (d : Unit × (((Option (ByteArray × (Int × (Option Int)))) × Unit) × Unit)) : Option (Unit × ((Int × Unit) × ((Bool × Unit) × Unit))) :=
  (g_scan_Scanner_string_rest ((), ((d.2.1.1, ()), ()))).bind fun x1 =>
  let x2 : Bool := (x1.2.1.1.toList == (⟨#[]⟩ : ByteArray).toList)
  bif x2 then (
  some ((), (((0 : Int), ()), ((false, ()), ()))))
  else (
  bif decide ((0 : Int) ≤ (0 : Int)) && decide ((0 : Int) < ((x1.2.1.1.size : Int) : Int)) then (
  let x3 : Int := (bt x1.2.1.1 (0 : Int))
  some ((), ((x3, ()), ((true, ()), ()))))
  else none)
def c_scan_Scanner_string_Peek : List Nat := []
def L_scan_Scanner_string_Peek (_ : Nat) : Pts po_scan_Scanner_string_Peek.den := []
def R_scan_Scanner_string_Peek (_ : Nat) : PtsR po_scan_Scanner_string_Peek.den := []
def E_scan_Scanner_string_Peek : Env := (E0.add 121 (typedSem pi_scan_Scanner_string_rest po_scan_Scanner_string_rest g_scan_Scanner_string_rest))
theorem q_scan_Scanner_string_Peek_m (k : Nat) (d : Unit × (((Option (ByteArray × (Int × (Option Int)))) × Unit) × Unit)) : evCode E_scan_Scanner_string_Peek (tb (L_scan_Scanner_string_Peek k) (R_scan_Scanner_string_Peek k)) c_scan_Scanner_string_Peek (bodyOf Tryz.f123) 0 (finK E_scan_Scanner_string_Peek po_scan_Scanner_string_Peek [.tmp 2, .tmp 3]) (startSt pi_scan_Scanner_string_Peek 11 d) = f_scan_Scanner_string_Peek_m () d := by kernel_rfl
def g_scan_Scanner_string_Peek (d : Unit × (((Option (ByteArray × (Int × (Option Int)))) × Unit) × Unit)) : Option (Unit × ((Int × Unit) × ((Bool × Unit) × Unit))) := f_scan_Scanner_string_Peek_m () d
theorem ok_scan_Scanner_string_Peek : FnOk Tryz.prog ET0 123 pi_scan_Scanner_string_Peek po_scan_Scanner_string_Peek g_scan_Scanner_string_Peek :=
  fn_of_body (E := E_scan_Scanner_string_Peek) (envOk_add e0_ok (typed_ok ok_scan_Scanner_string_rest)) (fn := Tryz.f123) Tryz.func123 (by kernel_rfl) (by kernel_rfl) [.tmp 2, .tmp 3] (by kernel_rfl) (by kernel_rfl) (by decide) rfl c_scan_Scanner_string_Peek L_scan_Scanner_string_Peek R_scan_Scanner_string_Peek
    (by intro x hx; cases hx) (by intro k x hx; cases hx) (by intro x hx; cases hx) (by intro k x hx; cases hx) (fun d out h => ⟨0, (q_scan_Scanner_string_Peek_m 0 d).trans h⟩)

/- horologe/scan.small -/
@[reducible] def pi_scan_small : PSh := ⟨[], [.mk false [.v (.int .u8)]]⟩
@[reducible] def po_scan_small : PSh := ⟨[], [.mk false [.v (.int .u8)]]⟩
def f_scan_small_m (T : Unit) (d : Unit × ((Int × Unit) × Unit)) : Option (Unit × ((Int × Unit) × Unit)) :=
  let x1 : Bool := (decide (d.2.1.1 ≥ (65 : Int)))
  bif x1 then (
  let x2 : Bool := (decide (d.2.1.1 ≤ (90 : Int)))
  bif x2 then (
  let x3 : Int := (isub .u8 d.2.1.1 (65 : Int))
  let x4 : Int := (iadd .u8 x3 (97 : Int))
  some ((), ((x4, ()), ())))
  else (
  some ((), ((d.2.1.1, ()), ()))))
  else (
  some ((), ((d.2.1.1, ()), ())))
def c_scan_small : List Nat := []
def L_scan_small (_ : Nat) : Pts po_scan_small.den := []
def R_scan_small (_ : Nat) : PtsR po_scan_small.den := []
def E_scan_small : Env := E0
theorem q_scan_small_m (k : Nat) (d : Unit × ((Int × Unit) × Unit)) : evCode E_scan_small (tb (L_scan_small k) (R_scan_small k)) c_scan_small (bodyOf Tryz.f165) 0 (finK E_scan_small po_scan_small [.tmp 2]) (startSt pi_scan_small 13 d) = f_scan_small_m () d := by kernel_rfl
def g_scan_small (d : Unit × ((Int × Unit) × Unit)) : Option (Unit × ((Int × Unit) × Unit)) := f_scan_small_m () d
theorem ok_scan_small : FnOk Tryz.prog ET0 165 pi_scan_small po_scan_small g_scan_small :=
  fn_of_body (E := E_scan_small) e0_ok (fn := Tryz.f165) Tryz.func165 (by kernel_rfl) (by kernel_rfl) [.tmp 2] (by kernel_rfl) (by kernel_rfl) (by decide) rfl c_scan_small L_scan_small R_scan_small
    (by intro x hx; cases hx) (by intro k x hx; cases hx) (by intro x hx; cases hx) (by intro k x hx; cases hx) (fun d out h => ⟨0, (q_scan_small_m 0 d).trans h⟩)

/- horologe/scan.alike -/
@[reducible] def pi_scan_alike : PSh := ⟨[], [.mk false [.v .str], .mk false [.v .str]]⟩
@[reducible] def po_scan_alike : PSh := ⟨[], [.mk false [.v .bool]]⟩
@[reducible] def TT_scan_alike : Type := (((Unit × ((ByteArray × Unit) × ((ByteArray × Unit) × ((Int × Unit) × ((Int × Unit) × Unit))))) → Option (Unit × ((Bool × Unit) × Unit))) × Unit)
@[reducible] def sh_scan_alike_3 : PSh := ⟨[], [.mk false [.v .str], .mk false [.v .str], .any, .any, .any, .any, .any, .mk false [.v (.int .i64)], .mk false [.v (.int .i64)], .any, .any, .any, .any, .any, .any, .any, .any, .any, .any, .any, .any]⟩
def f_scan_alike_p3 (T : TT_scan_alike) (d : Unit × ((ByteArray × Unit) × ((ByteArray × Unit) × ((Int × Unit) × ((Int × Unit) × Unit))))) : Option (Unit × ((Bool × Unit) × Unit)) :=
  let x2 : Bool := (decide (d.2.2.2.2.1.1 < d.2.2.2.1.1))
  bif x2 then (
  bif decide ((0 : Int) ≤ d.2.2.2.2.1.1) && decide (d.2.2.2.2.1.1 < ((d.2.1.1.size : Int) : Int)) then (
  let x3 : Int := (bt d.2.1.1 d.2.2.2.2.1.1)
  (g_scan_small ((), ((x3, ()), ()))).bind fun x4 =>
  bif decide ((0 : Int) ≤ d.2.2.2.2.1.1) && decide (d.2.2.2.2.1.1 < ((d.2.2.1.1.size : Int) : Int)) then (
  let x5 : Int := (bt d.2.2.1.1 d.2.2.2.2.1.1)
  (g_scan_small ((), ((x5, ()), ()))).bind fun x6 =>
  let x7 : Bool := (x4.2.1.1 != x6.2.1.1)
  bif x7 then (
  some ((), ((false, ()), ())))
  else (
  let x8 : Int := (iadd .i64 d.2.2.2.2.1.1 (1 : Int))
  (T.1 ((), ((d.2.1.1, ()), ((d.2.2.1.1, ()), ((d.2.2.2.1.1, ()), ((x8, ()), ()))))))))
  else none)
  else none)
  else (
  some ((), ((true, ()), ())))
def f_scan_alike_t : Nat → TT_scan_alike
  | 0 => (fun _ => none, ())
  | k + 1 => (f_scan_alike_p3 (f_scan_alike_t k), ())
theorem t_scan_alike (k : Nat) : f_scan_alike_t (k + 1) = (f_scan_alike_p3 (f_scan_alike_t k), ()) := rfl
def f_scan_alike_m (T : TT_scan_alike) (d : Unit × ((ByteArray × Unit) × ((ByteArray × Unit) × Unit))) : Option (Unit × ((Bool × Unit) × Unit)) :=
  let x1 : Int := (d.2.1.1.size : Int)
  (T.1 ((), ((d.2.1.1, ()), ((d.2.2.1.1, ()), ((x1, ()), (((0 : Int), ()), ()))))))
def c_scan_alike : List Nat := []
def L_scan_alike (k : Nat) : Pts po_scan_alike.den := [(3, ⟨sh_scan_alike_3, (f_scan_alike_t k).1⟩)]
def R_scan_alike (_ : Nat) : PtsR po_scan_alike.den := []
def E_scan_alike : Env := (E0.add 165 (typedSem pi_scan_small po_scan_small g_scan_small))
theorem q_scan_alike_3 (k : Nat) (d : Unit × ((ByteArray × Unit) × ((ByteArray × Unit) × ((Int × Unit) × ((Int × Unit) × Unit))))) : evAt E_scan_alike (tb (L_scan_alike k) (R_scan_alike k)) c_scan_alike 3 (bodyOf Tryz.f125) 0 (finK E_scan_alike po_scan_alike [.tmp 4]) (ptSt sh_scan_alike_3 d) = f_scan_alike_p3 (f_scan_alike_t k) d := by kernel_rfl
theorem q_scan_alike_m (k : Nat) (d : Unit × ((ByteArray × Unit) × ((ByteArray × Unit) × Unit))) : evCode E_scan_alike (tb (L_scan_alike k) (R_scan_alike k)) c_scan_alike (bodyOf Tryz.f125) 0 (finK E_scan_alike po_scan_alike [.tmp 4]) (startSt pi_scan_alike 21 d) = f_scan_alike_m (f_scan_alike_t k) d := by kernel_rfl
theorem go_scan_alike (F : Unit × ((ByteArray × Unit) × ((ByteArray × Unit) × Unit)) → Option (Unit × ((Bool × Unit) × Unit))) (hF : ∀ d out, F d = some out → ∃ k, f_scan_alike_m (f_scan_alike_t k) d = some out) : FnOk Tryz.prog ET0 125 pi_scan_alike po_scan_alike F :=
  fn_of_body (E := E_scan_alike) (envOk_add e0_ok (typed_ok ok_scan_small)) (fn := Tryz.f125) Tryz.func125 (by kernel_rfl) (by kernel_rfl) [.tmp 4] (by kernel_rfl) (by kernel_rfl) (by decide) rfl c_scan_alike L_scan_alike R_scan_alike
    (by intro x hx d; simp only [L_scan_alike, List.mem_cons, List.not_mem_nil, or_false] at hx; subst hx; rfl)
    (by intro k x hx d out h; simp only [L_scan_alike, List.mem_cons, List.not_mem_nil, or_false] at hx; subst hx; exact (q_scan_alike_3 k d).trans h)
    (by intro x hx; cases hx)
    (by intro k x hx; cases hx)
    (by intro d out h; obtain ⟨k, hk⟩ := hF d out h; exact ⟨k, (q_scan_alike_m k d).trans hk⟩)
def g_scan_alike (d : Unit × ((ByteArray × Unit) × ((ByteArray × Unit) × Unit))) : Option (Unit × ((Bool × Unit) × Unit)) := lim fun k => f_scan_alike_m (f_scan_alike_t k) d
theorem ok_scan_alike : FnOk Tryz.prog ET0 125 pi_scan_alike po_scan_alike g_scan_alike := go_scan_alike g_scan_alike fun d out h => lim_some h

/- (*horologe/scan.Scanner[string]).Err -/
@[reducible] def pi_scan_Scanner_string_Err : PSh := ⟨[], [.mk false [.v (.nptr (.pair .str (.pair (.int .i64) .err)))]]⟩
@[reducible] def po_scan_Scanner_string_Err : PSh := ⟨[], [.mk false [.v .err]]⟩
def f_scan_Scanner_string_Err_m (T : Unit) (d : Unit × (((Option (ByteArray × (Int × (Option Int)))) × Unit) × Unit)) : Option (Unit × (((Option Int) × Unit) × Unit)) :=
  bif d.2.1.1.isNone then (
  let x1 : (Option Int) := (some (8 : Int))
  some ((), ((x1, ()), ())))
  else (
  d.2.1.1.bind fun x2 =>
  some ((), ((x2.2.2, ()), ())))
def c_scan_Scanner_string_Err : List Nat := []
def L_scan_Scanner_string_Err (_ : Nat) : Pts po_scan_Scanner_string_Err.den := []
def R_scan_Scanner_string_Err (_ : Nat) : PtsR po_scan_Scanner_string_Err.den := []
def E_scan_Scanner_string_Err : Env := E0
theorem q_scan_Scanner_string_Err_m (k : Nat) (d : Unit × (((Option (ByteArray × (Int × (Option Int)))) × Unit) × Unit)) : evCode E_scan_Scanner_string_Err (tb (L_scan_Scanner_string_Err k) (R_scan_Scanner_string_Err k)) c_scan_Scanner_string_Err (bodyOf Tryz.f82) 0 (finK E_scan_Scanner_string_Err po_scan_Scanner_string_Err [.tmp 2]) (startSt pi_scan_Scanner_string_Err 10 d) = f_scan_Scanner_string_Err_m () d := by kernel_rfl
def g_scan_Scanner_string_Err (d : Unit × (((Option (ByteArray × (Int × (Option Int)))) × Unit) × Unit)) : Option (Unit × (((Option Int) × Unit) × Unit)) := f_scan_Scanner_string_Err_m () d
theorem ok_scan_Scanner_string_Err : FnOk Tryz.prog ET0 82 pi_scan_Scanner_string_Err po_scan_Scanner_string_Err g_scan_Scanner_string_Err :=
  fn_of_body (E := E_scan_Scanner_string_Err) e0_ok (fn := Tryz.f82) Tryz.func82 (by kernel_rfl) (by kernel_rfl) [.tmp 2] (by kernel_rfl) (by kernel_rfl) (by decide) rfl c_scan_Scanner_string_Err L_scan_Scanner_string_Err R_scan_Scanner_string_Err
    (by intro x hx; cases hx) (by intro k x hx; cases hx) (by intro x hx; cases hx) (by intro k x hx; cases hx) (fun d out h => ⟨0, (q_scan_Scanner_string_Err_m 0 d).trans h⟩)

/- (*horologe/scan.Scanner[string]).Left -/
@[reducible] def pi_scan_Scanner_string_Left : PSh := ⟨[], [.mk false [.v (.nptr (.pair .str (.pair (.int .i64) .err)))]]⟩
@[reducible] def po_scan_Scanner_string_Left : PSh := ⟨[], [.mk false [.v (.int .i64)]]⟩
def f_scan_Scanner_string_Left_m (T : Unit) (d : Unit × (((Option (ByteArray × (Int × (Option Int)))) × Unit) × Unit)) : Option (Unit × ((Int × Unit) × Unit)) :=
  (g_scan_Scanner_string_rest ((), ((d.2.1.1, ()), ()))).bind fun x1 =>
  let x2 : Int := (x1.2.1.1.size : Int)
  some ((), ((x2, ()), ()))
def c_scan_Scanner_string_Left : List Nat := []
def L_scan_Scanner_string_Left (_ : Nat) : Pts po_scan_Scanner_string_Left.den := []
def R_scan_Scanner_string_Left (_ : Nat) : PtsR po_scan_Scanner_string_Left.den := []
def E_scan_Scanner_string_Left : Env := (E0.add 121 (typedSem pi_scan_Scanner_string_rest po_scan_Scanner_string_rest g_scan_Scanner_string_rest))
theorem q_scan_Scanner_string_Left_m (k : Nat) (d : Unit × (((Option (ByteArray × (Int × (Option Int)))) × Unit) × Unit)) : evCode E_scan_Scanner_string_Left (tb (L_scan_Scanner_string_Left k) (R_scan_Scanner_string_Left k)) c_scan_Scanner_string_Left (bodyOf Tryz.f83) 0 (finK E_scan_Scanner_string_Left po_scan_Scanner_string_Left [.tmp 2]) (startSt pi_scan_Scanner_string_Left 6 d) = f_scan_Scanner_string_Left_m () d := by kernel_rfl
def g_scan_Scanner_string_Left (d : Unit × (((Option (ByteArray × (Int × (Option Int)))) × Unit) × Unit)) : Option (Unit × ((Int × Unit) × Unit)) := f_scan_Scanner_string_Left_m () d
theorem ok_scan_Scanner_string_Left : FnOk Tryz.prog ET0 83 pi_scan_Scanner_string_Left po_scan_Scanner_string_Left g_scan_Scanner_string_Left :=
  fn_of_body (E := E_scan_Scanner_string_Left) (envOk_add e0_ok (typed_ok ok_scan_Scanner_string_rest)) (fn := Tryz.f83) Tryz.func83 (by kernel_rfl) (by kernel_rfl) [.tmp 2] (by kernel_rfl) (by kernel_rfl) (by decide) rfl c_scan_Scanner_string_Left L_scan_Scanner_string_Left R_scan_Scanner_string_Left
    (by intro x hx; cases hx) (by intro k x hx; cases hx) (by intro x hx; cases hx) (by intro k x hx; cases hx) (fun d out h => ⟨0, (q_scan_Scanner_string_Left_m 0 d).trans h⟩)

/- (*horologe/scan.Scanner[string]).End -/
@[reducible] def pi_scan_Scanner_string_End : PSh := ⟨[], [.mk false [.v (.nptr (.pair .str (.pair (.int .i64) .err)))]]⟩
@[reducible] def po_scan_Scanner_string_End : PSh := ⟨[], [.mk false [.v .err]]⟩
def f_scan_Scanner_string_End_m (T : Unit) (d : Unit × (((Option (ByteArray × (Int × (Option Int)))) × Unit) × Unit)) : Option (Unit × (((Option Int) × Unit) × Unit)) :=
  (g_scan_Scanner_string_Err ((), ((d.2.1.1, ()), ()))).bind fun x1 =>
  let x2 : Bool := (!x1.2.1.1.isNone)
  bif x2 then (
  some ((), ((x1.2.1.1, ()), ())))
  else (
  (g_scan_Scanner_string_Left ((), ((d.2.1.1, ()), ()))).bind fun x3 =>
  let x4 : Bool := (decide (x3.2.1.1 > (0 : Int)))
  bif x4 then (
  let x5 : (Option Int) := (some (2 : Int))
  some ((), ((x5, ()), ())))
  else (
  some ((), (((none : Option Int), ()), ()))))
def c_scan_Scanner_string_End : List Nat := []
def L_scan_Scanner_string_End (_ : Nat) : Pts po_scan_Scanner_string_End.den := []
def R_scan_Scanner_string_End (_ : Nat) : PtsR po_scan_Scanner_string_End.den := []
def E_scan_Scanner_string_End : Env := ((E0.add 82 (typedSem pi_scan_Scanner_string_Err po_scan_Scanner_string_Err g_scan_Scanner_string_Err)).add 83 (typedSem pi_scan_Scanner_string_Left po_scan_Scanner_string_Left g_scan_Scanner_string_Left))
theorem q_scan_Scanner_string_End_m (k : Nat) (d : Unit × (((Option (ByteArray × (Int × (Option Int)))) × Unit) × Unit)) : evCode E_scan_Scanner_string_End (tb (L_scan_Scanner_string_End k) (R_scan_Scanner_string_End k)) c_scan_Scanner_string_End (bodyOf Tryz.f46) 0 (finK E_scan_Scanner_string_End po_scan_Scanner_string_End [.tmp 2]) (startSt pi_scan_Scanner_string_End 13 d) = f_scan_Scanner_string_End_m () d := by kernel_rfl
def g_scan_Scanner_string_End (d : Unit × (((Option (ByteArray × (Int × (Option Int)))) × Unit) × Unit)) : Option (Unit × (((Option Int) × Unit) × Unit)) := f_scan_Scanner_string_End_m () d
theorem ok_scan_Scanner_string_End : FnOk Tryz.prog ET0 46 pi_scan_Scanner_string_End po_scan_Scanner_string_End g_scan_Scanner_string_End :=
  fn_of_body (E := E_scan_Scanner_string_End) (envOk_add (envOk_add e0_ok (typed_ok ok_scan_Scanner_string_Err)) (typed_ok ok_scan_Scanner_string_Left)) (fn := Tryz.f46) Tryz.func46 (by kernel_rfl) (by kernel_rfl) [.tmp 2] (by kernel_rfl) (by kernel_rfl) (by decide) rfl c_scan_Scanner_string_End L_scan_Scanner_string_End R_scan_Scanner_string_End
    (by intro x hx; cases hx) (by intro k x hx; cases hx) (by intro x hx; cases hx) (by intro k x hx; cases hx) (fun d out h => ⟨0, (q_scan_Scanner_string_End_m 0 d).trans h⟩)

/- horologe/figures.whole -/
@[reducible] def pi_figures_whole : PSh := ⟨[], [.mk false [.v .str], .mk false [.v (.int .i64)], .mk false [.v (.int .i64)], .mk false [.v (.int .u64)]]⟩
@[reducible] def po_figures_whole : PSh := ⟨[], [.mk false [.v (.int .u64)], .mk false [.v .err]]⟩
def f_figures_whole_m (T : Unit) (d : Unit × ((ByteArray × Unit) × ((Int × Unit) × ((Int × Unit) × ((Int × Unit) × Unit))))) : Option (Unit × ((Int × Unit) × (((Option Int) × Unit) × Unit))) :=
  (g_figures_take ((), ((d.2.1.1, ()), ((d.2.2.1.1, ()), ((d.2.2.2.1.1, ()), ((d.2.2.2.2.1.1, ()), ())))))).bind fun x1 =>
  let x2 : Bool := (!x1.2.2.2.1.1.isNone)
  bif x2 then (
  some ((), (((0 : Int), ()), ((x1.2.2.2.1.1, ()), ()))))
  else (
  let x3 : Int := (d.2.1.1.size : Int)
  let x4 : Bool := (decide (x1.2.2.1.1 < x3))
  bif x4 then (
  let x5 : (Option Int) := (some (2 : Int))
  some ((), (((0 : Int), ()), ((x5, ()), ()))))
  else (
  some ((), ((x1.2.1.1, ()), (((none : Option Int), ()), ())))))
def c_figures_whole : List Nat := []
def L_figures_whole (_ : Nat) : Pts po_figures_whole.den := []
def R_figures_whole (_ : Nat) : PtsR po_figures_whole.den := []
def E_figures_whole : Env := (E0.add 162 (typedSem pi_figures_take po_figures_take g_figures_take))
theorem q_figures_whole_m (k : Nat) (d : Unit × ((ByteArray × Unit) × ((Int × Unit) × ((Int × Unit) × ((Int × Unit) × Unit))))) : evCode E_figures_whole (tb (L_figures_whole k) (R_figures_whole k)) c_figures_whole (bodyOf Tryz.f126) 0 (finK E_figures_whole po_figures_whole [.tmp 8, .tmp 9]) (startSt pi_figures_whole 33 d) = f_figures_whole_m () d := by kernel_rfl
def g_figures_whole (d : Unit × ((ByteArray × Unit) × ((Int × Unit) × ((Int × Unit) × ((Int × Unit) × Unit))))) : Option (Unit × ((Int × Unit) × (((Option Int) × Unit) × Unit))) := f_figures_whole_m () d
theorem ok_figures_whole : FnOk Tryz.prog ET0 126 pi_figures_whole po_figures_whole g_figures_whole :=
  fn_of_body (E := E_figures_whole) (envOk_add e0_ok (typed_ok ok_figures_take)) (fn := Tryz.f126) Tryz.func126 (by kernel_rfl) (by kernel_rfl) [.tmp 8, .tmp 9] (by kernel_rfl) (by kernel_rfl) (by decide) rfl c_figures_whole L_figures_whole R_figures_whole
    (by intro x hx; cases hx) (by intro k x hx; cases hx) (by intro x hx; cases hx) (by intro k x hx; cases hx) (fun d out h => ⟨0, (q_figures_whole_m 0 d).trans h⟩)

/- horologe/figures.Whole -/
@[reducible] def pi_figures_Whole : PSh := ⟨[], [.mk false [.v .str], .mk false [.v (.int .i64)], .mk false [.v (.int .i64)]]⟩
@[reducible] def po_figures_Whole : PSh := ⟨[], [.mk false [.v (.int .i64)], .mk false [.v .err]]⟩
def f_figures_Whole_m (T : Unit) (d : Unit × ((ByteArray × Unit) × ((Int × Unit) × ((Int × Unit) × Unit)))) : Option (Unit × ((Int × Unit) × (((Option Int) × Unit) × Unit))) :=
  (g_figures_whole ((), ((d.2.1.1, ()), ((d.2.2.1.1, ()), ((d.2.2.2.1.1, ()), (((9223372036854775807 : Int), ()), ())))))).bind fun x1 =>
  let x2 : Int := (iconv .i64 x1.2.1.1)
  some ((), ((x2, ()), ((x1.2.2.1.1, ()), ())))
def c_figures_Whole : List Nat := []
def L_figures_Whole (_ : Nat) : Pts po_figures_Whole.den := []
def R_figures_Whole (_ : Nat) : PtsR po_figures_Whole.den := []
def E_figures_Whole : Env := (E0.add 126 (typedSem pi_figures_whole po_figures_whole g_figures_whole))
theorem q_figures_Whole_m (k : Nat) (d : Unit × ((ByteArray × Unit) × ((Int × Unit) × ((Int × Unit) × Unit)))) : evCode E_figures_Whole (tb (L_figures_Whole k) (R_figures_Whole k)) c_figures_Whole (bodyOf Tryz.f84) 0 (finK E_figures_Whole po_figures_Whole [.tmp 6, .tmp 7]) (startSt pi_figures_Whole 20 d) = f_figures_Whole_m () d := by kernel_rfl
def g_figures_Whole (d : Unit × ((ByteArray × Unit) × ((Int × Unit) × ((Int × Unit) × Unit)))) : Option (Unit × ((Int × Unit) × (((Option Int) × Unit) × Unit))) := f_figures_Whole_m () d
theorem ok_figures_Whole : FnOk Tryz.prog ET0 84 pi_figures_Whole po_figures_Whole g_figures_Whole :=
  fn_of_body (E := E_figures_Whole) (envOk_add e0_ok (typed_ok ok_figures_whole)) (fn := Tryz.f84) Tryz.func84 (by kernel_rfl) (by kernel_rfl) [.tmp 6, .tmp 7] (by kernel_rfl) (by kernel_rfl) (by decide) rfl c_figures_Whole L_figures_Whole R_figures_Whole
    (by intro x hx; cases hx) (by intro k x hx; cases hx) (by intro x hx; cases hx) (by intro k x hx; cases hx) (fun d out h => ⟨0, (q_figures_Whole_m 0 d).trans h⟩)

/- horologe/figures.Fraction -/
@[reducible] def pi_figures_Fraction : PSh := ⟨[], [.mk false [.v .str]]⟩
@[reducible] def po_figures_Fraction : PSh := ⟨[], [.mk false [.v (.int .i64)], .mk false [.v .err]]⟩
def f_figures_Fraction_m (T : Unit) (d : Unit × ((ByteArray × Unit) × Unit)) : Option (Unit × ((Int × Unit) × (((Option Int) × Unit) × Unit))) :=
  let x1 : Int := (d.2.1.1.size : Int)
  let x2 : Bool := (decide (x1 > (9 : Int)))
  bif x2 then (
  let x3 : (Option Int) := (some (3 : Int))
  some ((), (((0 : Int), ()), ((x3, ()), ()))))
  else (
  (g_figures_Whole ((), ((d.2.1.1, ()), (((1 : Int), ()), (((9 : Int), ()), ()))))).bind fun x4 =>
  let x5 : Bool := (!x4.2.2.1.1.isNone)
  bif x5 then (
  some ((), (((0 : Int), ()), ((x4.2.2.1.1, ()), ()))))
  else (
  let x6 : Int := (d.2.1.1.size : Int)
  let x7 : Int := (isub .i64 (9 : Int) x6)
  (g_strings_Repeat ((), (((⟨#[48]⟩ : ByteArray), ()), ((x7, ()), ())))).bind fun x8 =>
  bif fitsS d.2.1.1 x8.2.1.1 then (
  let x9 : ByteArray := (d.2.1.1 ++ x8.2.1.1)
  (g_figures_Whole ((), ((x9, ()), (((9 : Int), ()), (((9 : Int), ()), ()))))).bind fun x10 =>
  some ((), ((x10.2.1.1, ()), ((x10.2.2.1.1, ()), ()))))
  else none))
def c_figures_Fraction : List Nat := []
def L_figures_Fraction (_ : Nat) : Pts po_figures_Fraction.den := []
def R_figures_Fraction (_ : Nat) : PtsR po_figures_Fraction.den := []
def E_figures_Fraction : Env := ((E0.add 84 (typedSem pi_figures_Whole po_figures_Whole g_figures_Whole)).add 85 (typedSem pi_strings_Repeat po_strings_Repeat g_strings_Repeat))
theorem q_figures_Fraction_m (k : Nat) (d : Unit × ((ByteArray × Unit) × Unit)) : evCode E_figures_Fraction (tb (L_figures_Fraction k) (R_figures_Fraction k)) c_figures_Fraction (bodyOf Tryz.f47) 0 (finK E_figures_Fraction po_figures_Fraction [.tmp 2, .tmp 3]) (startSt pi_figures_Fraction 32 d) = f_figures_Fraction_m () d := by kernel_rfl
def g_figures_Fraction (d : Unit × ((ByteArray × Unit) × Unit)) : Option (Unit × ((Int × Unit) × (((Option Int) × Unit) × Unit))) := f_figures_Fraction_m () d
theorem ok_figures_Fraction : FnOk Tryz.prog ET0 47 pi_figures_Fraction po_figures_Fraction g_figures_Fraction :=
  fn_of_body (E := E_figures_Fraction) (envOk_add (envOk_add e0_ok (typed_ok ok_figures_Whole)) (typed_ok ok_strings_Repeat)) (fn := Tryz.f47) Tryz.func47 (by kernel_rfl) (by kernel_rfl) [.tmp 2, .tmp 3] (by kernel_rfl) (by kernel_rfl) (by decide) rfl c_figures_Fraction L_figures_Fraction R_figures_Fraction
    (by intro x hx; cases hx) (by intro k x hx; cases hx) (by intro x hx; cases hx) (by intro k x hx; cases hx) (fun d out h => ⟨0, (q_figures_Fraction_m 0 d).trans h⟩)

/- (*horologe/scan.Scanner[string]).take -/
@[reducible] def pi_scan_Scanner_string_take_io : PSh := ⟨[.var 143 [.v .str, .v (.int .i64), .v .err]], [.mk false [.ref 0 0], .mk false [.v (.int .i64)]]⟩
@[reducible] def po_scan_Scanner_string_take_io : PSh := ⟨[.var 143 [.v .str, .v (.int .i64), .v .err]], [.mk false [.v .str], .mk false [.ref 0 0]]⟩
def f_scan_Scanner_string_take_io_m (T : Unit) (d : ((ByteArray × (Int × ((Option Int) × Unit))) × Unit) × (Unit × ((Int × Unit) × Unit))) : Option (((ByteArray × (Int × ((Option Int) × Unit))) × Unit) × ((ByteArray × Unit) × (Unit × Unit))) :=
  (g_scan_Scanner_string_rest ((), (((some (d.1.1.1, (d.1.1.2.1, d.1.1.2.2.1))), ()), ()))).bind fun x1 =>
  bif decide ((0 : Int) ≤ (0 : Int)) && decide ((0 : Int) ≤ d.2.2.1.1) && decide (d.2.2.1.1 ≤ (x1.2.1.1.size : Int)) then (
  let x2 : ByteArray := (x1.2.1.1.extract (Int.toNat (0 : Int)) (Int.toNat d.2.2.1.1))
  let x3 : Bool := (decide (d.2.2.1.1 > (0 : Int)))
  bif x3 then (
  let x4 : Int := (iadd .i64 d.1.1.2.1 d.2.2.1.1)
  (g_strings_Clone ((), ((x2, ()), ()))).bind fun x5 =>
  some (((d.1.1.1, (x4, (d.1.1.2.2.1, ()))), ()), ((x5.2.1.1, ()), ((), ()))))
  else (
  (g_strings_Clone ((), ((x2, ()), ()))).bind fun x6 =>
  some (((d.1.1.1, (d.1.1.2.1, (d.1.1.2.2.1, ()))), ()), ((x6.2.1.1, ()), ((), ())))))
  else none
def c_scan_Scanner_string_take_io : List Nat := []
def L_scan_Scanner_string_take_io (_ : Nat) : Pts po_scan_Scanner_string_take_io.den := []
def R_scan_Scanner_string_take_io (_ : Nat) : PtsR po_scan_Scanner_string_take_io.den := []
def E_scan_Scanner_string_take_io : Env := (((E0.add 121 (typedSem pi_scan_Scanner_string_rest po_scan_Scanner_string_rest g_scan_Scanner_string_rest)).add 163 (typedSem pi_strings_Clone po_strings_Clone g_strings_Clone)).kp [0])
theorem q_scan_Scanner_string_take_io_m (k : Nat) (d : ((ByteArray × (Int × ((Option Int) × Unit))) × Unit) × (Unit × ((Int × Unit) × Unit))) : evCode E_scan_Scanner_string_take_io (tb (L_scan_Scanner_string_take_io k) (R_scan_Scanner_string_take_io k)) c_scan_Scanner_string_take_io (bodyOf Tryz.f122) 0 (finKio E_scan_Scanner_string_take_io po_scan_Scanner_string_take_io [.tmp 4] [(0, none)]) (startSt pi_scan_Scanner_string_take_io 22 d) = f_scan_Scanner_string_take_io_m () d := by kernel_rfl
def g_scan_Scanner_string_take_io (d : ((ByteArray × (Int × ((Option Int) × Unit))) × Unit) × (Unit × ((Int × Unit) × Unit))) : Option (((ByteArray × (Int × ((Option Int) × Unit))) × Unit) × ((ByteArray × Unit) × (Unit × Unit))) := f_scan_Scanner_string_take_io_m () d
theorem ok_scan_Scanner_string_take_io : FnIo Tryz.prog ET0 122 pi_scan_Scanner_string_take_io po_scan_Scanner_string_take_io 1 [(0, 0, none)] g_scan_Scanner_string_take_io :=
  fn_of_bodyIo (E := E_scan_Scanner_string_take_io) (envOk_kp (envOk_add (envOk_add e0_ok (typed_ok ok_scan_Scanner_string_rest)) (typed_ok ok_strings_Clone))) (fn := Tryz.f122) Tryz.func122 (by kernel_rfl) (by kernel_rfl) [.tmp 4] [(0, none)] [(0, 0, none)] (by kernel_rfl) (by kernel_rfl) (by kernel_rfl) (by kernel_rfl) (by decide) (by decide) c_scan_Scanner_string_take_io L_scan_Scanner_string_take_io R_scan_Scanner_string_take_io
    (by intro x hx; cases hx) (by intro k x hx; cases hx) (by intro x hx; cases hx) (by intro k x hx; cases hx) (fun d out h => ⟨0, (q_scan_Scanner_string_take_io_m 0 d).trans h⟩)

/- (*horologe/scan.Scanner[string]).Figures -/
@[reducible] def pi_scan_Scanner_string_Figures_io : PSh := ⟨[.var 143 [.v .str, .v (.int .i64), .v .err]], [.mk false [.ref 0 0], .mk false [.v (.int .i64)], .mk false [.v (.int .i64)]]⟩
@[reducible] def po_scan_Scanner_string_Figures_io : PSh := ⟨[.var 143 [.v .str, .v (.int .i64), .v .err]], [.mk false [.v (.int .i64)], .mk false [.ref 0 0]]⟩
def f_scan_Scanner_string_Figures_io_m (T : Unit) (d : ((ByteArray × (Int × ((Option Int) × Unit))) × Unit) × (Unit × ((Int × Unit) × ((Int × Unit) × Unit)))) : Option (((ByteArray × (Int × ((Option Int) × Unit))) × Unit) × ((Int × Unit) × (Unit × Unit))) :=
  (g_scan_Scanner_string_going ((), (((some (d.1.1.1, (d.1.1.2.1, d.1.1.2.2.1))), ()), ()))).bind fun x1 =>
  let x2 : Bool := (!x1.2.1.1)
  bif x2 then (
  some (((d.1.1.1, (d.1.1.2.1, (d.1.1.2.2.1, ()))), ()), (((0 : Int), ()), ((), ()))))
  else (
  (g_scan_Scanner_string_rest ((), (((some (d.1.1.1, (d.1.1.2.1, d.1.1.2.2.1))), ()), ()))).bind fun x3 =>
  (g_figures_Take ((), ((x3.2.1.1, ()), ((d.2.2.1.1, ()), ((d.2.2.2.1.1, ()), ()))))).bind fun x4 =>
  let x5 : Bool := (!x4.2.2.2.1.1.isNone)
  bif x5 then (
  some (((d.1.1.1, (d.1.1.2.1, (x4.2.2.2.1.1, ()))), ()), (((0 : Int), ()), ((), ()))))
  else (
  (g_scan_Scanner_string_take_io (((d.1.1.1, (d.1.1.2.1, (d.1.1.2.2.1, ()))), ()), ((), ((x4.2.2.1.1, ()), ())))).bind fun x6 =>
  some (((x6.1.1.1, (x6.1.1.2.1, (x6.1.1.2.2.1, ()))), ()), ((x4.2.1.1, ()), ((), ())))))
def c_scan_Scanner_string_Figures_io : List Nat := []
def L_scan_Scanner_string_Figures_io (_ : Nat) : Pts po_scan_Scanner_string_Figures_io.den := []
def R_scan_Scanner_string_Figures_io (_ : Nat) : PtsR po_scan_Scanner_string_Figures_io.den := []
def E_scan_Scanner_string_Figures_io : Env := (((((E0.add 119 (typedSem pi_scan_Scanner_string_going po_scan_Scanner_string_going g_scan_Scanner_string_going)).add 120 (typedSem pi_figures_Take po_figures_Take g_figures_Take)).add 121 (typedSem pi_scan_Scanner_string_rest po_scan_Scanner_string_rest g_scan_Scanner_string_rest)).add 122 (ioSem pi_scan_Scanner_string_take_io po_scan_Scanner_string_take_io 1 [(0, 0, none)] g_scan_Scanner_string_take_io)).kp [0])
theorem q_scan_Scanner_string_Figures_io_m (k : Nat) (d : ((ByteArray × (Int × ((Option Int) × Unit))) × Unit) × (Unit × ((Int × Unit) × ((Int × Unit) × Unit)))) : evCode E_scan_Scanner_string_Figures_io (tb (L_scan_Scanner_string_Figures_io k) (R_scan_Scanner_string_Figures_io k)) c_scan_Scanner_string_Figures_io (bodyOf Tryz.f75) 0 (finKio E_scan_Scanner_string_Figures_io po_scan_Scanner_string_Figures_io [.tmp 6] [(0, none)]) (startSt pi_scan_Scanner_string_Figures_io 32 d) = f_scan_Scanner_string_Figures_io_m () d := by kernel_rfl
def g_scan_Scanner_string_Figures_io (d : ((ByteArray × (Int × ((Option Int) × Unit))) × Unit) × (Unit × ((Int × Unit) × ((Int × Unit) × Unit)))) : Option (((ByteArray × (Int × ((Option Int) × Unit))) × Unit) × ((Int × Unit) × (Unit × Unit))) := f_scan_Scanner_string_Figures_io_m () d
theorem ok_scan_Scanner_string_Figures_io : FnIo Tryz.prog ET0 75 pi_scan_Scanner_string_Figures_io po_scan_Scanner_string_Figures_io 1 [(0, 0, none)] g_scan_Scanner_string_Figures_io :=
  fn_of_bodyIo (E := E_scan_Scanner_string_Figures_io) (envOk_kp (envOk_add (envOk_add (envOk_add (envOk_add e0_ok (typed_ok ok_scan_Scanner_string_going)) (typed_ok ok_figures_Take)) (typed_ok ok_scan_Scanner_string_rest)) (io_ok ok_scan_Scanner_string_take_io))) (fn := Tryz.f75) Tryz.func75 (by kernel_rfl) (by kernel_rfl) [.tmp 6] [(0, none)] [(0, 0, none)] (by kernel_rfl) (by kernel_rfl) (by kernel_rfl) (by kernel_rfl) (by decide) (by decide) c_scan_Scanner_string_Figures_io L_scan_Scanner_string_Figures_io R_scan_Scanner_string_Figures_io
    (by intro x hx; cases hx) (by intro k x hx; cases hx) (by intro x hx; cases hx) (by intro k x hx; cases hx) (fun d out h => ⟨0, (q_scan_Scanner_string_Figures_io_m 0 d).trans h⟩)

/- (*horologe/scan.Scanner[string]).Take -/
@[reducible] def pi_scan_Scanner_string_Take_io : PSh := ⟨[.var 143 [.v .str, .v (.int .i64), .v .err]], [.mk false [.ref 0 0], .mk false [.v (.int .u8)]]⟩
@[reducible] def po_scan_Scanner_string_Take_io : PSh := ⟨[.var 143 [.v .str, .v (.int .i64), .v .err]], [.mk false [.v .bool], .mk false [.ref 0 0]]⟩
def f_scan_Scanner_string_Take_io_m (T : Unit) (d : ((ByteArray × (Int × ((Option Int) × Unit))) × Unit) × (Unit × ((Int × Unit) × Unit))) : Option (((ByteArray × (Int × ((Option Int) × Unit))) × Unit) × ((Bool × Unit) × (Unit × Unit))) :=
  (g_scan_Scanner_string_Peek ((), (((some (d.1.1.1, (d.1.1.2.1, d.1.1.2.2.1))), ()), ()))).bind fun x1 =>
  let x2 : Bool := (!x1.2.2.1.1)
  bif x2 then (
  some (((d.1.1.1, (d.1.1.2.1, (d.1.1.2.2.1, ()))), ()), ((false, ()), ((), ()))))
  else (
  let x3 : Bool := (x1.2.1.1 != d.2.2.1.1)
  bif x3 then (
  some (((d.1.1.1, (d.1.1.2.1, (d.1.1.2.2.1, ()))), ()), ((false, ()), ((), ()))))
  else (
  (g_scan_Scanner_string_take_io (((d.1.1.1, (d.1.1.2.1, (d.1.1.2.2.1, ()))), ()), ((), (((1 : Int), ()), ())))).bind fun x4 =>
  some (((x4.1.1.1, (x4.1.1.2.1, (x4.1.1.2.2.1, ()))), ()), ((true, ()), ((), ())))))
def c_scan_Scanner_string_Take_io : List Nat := []
def L_scan_Scanner_string_Take_io (_ : Nat) : Pts po_scan_Scanner_string_Take_io.den := []
def R_scan_Scanner_string_Take_io (_ : Nat) : PtsR po_scan_Scanner_string_Take_io.den := []
def E_scan_Scanner_string_Take_io : Env := (((E0.add 122 (ioSem pi_scan_Scanner_string_take_io po_scan_Scanner_string_take_io 1 [(0, 0, none)] g_scan_Scanner_string_take_io)).add 123 (typedSem pi_scan_Scanner_string_Peek po_scan_Scanner_string_Peek g_scan_Scanner_string_Peek)).kp [0])
theorem q_scan_Scanner_string_Take_io_m (k : Nat) (d : ((ByteArray × (Int × ((Option Int) × Unit))) × Unit) × (Unit × ((Int × Unit) × Unit))) : evCode E_scan_Scanner_string_Take_io (tb (L_scan_Scanner_string_Take_io k) (R_scan_Scanner_string_Take_io k)) c_scan_Scanner_string_Take_io (bodyOf Tryz.f78) 0 (finKio E_scan_Scanner_string_Take_io po_scan_Scanner_string_Take_io [.tmp 4] [(0, none)]) (startSt pi_scan_Scanner_string_Take_io 21 d) = f_scan_Scanner_string_Take_io_m () d := by kernel_rfl
def g_scan_Scanner_string_Take_io (d : ((ByteArray × (Int × ((Option Int) × Unit))) × Unit) × (Unit × ((Int × Unit) × Unit))) : Option (((ByteArray × (Int × ((Option Int) × Unit))) × Unit) × ((Bool × Unit) × (Unit × Unit))) := f_scan_Scanner_string_Take_io_m () d
theorem ok_scan_Scanner_string_Take_io : FnIo Tryz.prog ET0 78 pi_scan_Scanner_string_Take_io po_scan_Scanner_string_Take_io 1 [(0, 0, none)] g_scan_Scanner_string_Take_io :=
  fn_of_bodyIo (E := E_scan_Scanner_string_Take_io) (envOk_kp (envOk_add (envOk_add e0_ok (io_ok ok_scan_Scanner_string_take_io)) (typed_ok ok_scan_Scanner_string_Peek))) (fn := Tryz.f78) Tryz.func78 (by kernel_rfl) (by kernel_rfl) [.tmp 4] [(0, none)] [(0, 0, none)] (by kernel_rfl) (by kernel_rfl) (by kernel_rfl) (by kernel_rfl) (by decide) (by decide) c_scan_Scanner_string_Take_io L_scan_Scanner_string_Take_io R_scan_Scanner_string_Take_io
    (by intro x hx; cases hx) (by intro k x hx; cases hx) (by intro x hx; cases hx) (by intro k x hx; cases hx) (fun d out h => ⟨0, (q_scan_Scanner_string_Take_io_m 0 d).trans h⟩)

/- (*horologe/scan.Scanner[string]).Fail -/
@[reducible] def pi_scan_Scanner_string_Fail_io : PSh := ⟨[.var 143 [.v .str, .v (.int .i64), .v .err]], [.mk false [.ref 0 0], .mk false [.v .err]]⟩
@[reducible] def po_scan_Scanner_string_Fail_io : PSh := ⟨[.var 143 [.v .str, .v (.int .i64), .v .err]], [.mk false [.ref 0 0]]⟩
def f_scan_Scanner_string_Fail_io_m (T : Unit) (d : ((ByteArray × (Int × ((Option Int) × Unit))) × Unit) × (Unit × (((Option Int) × Unit) × Unit))) : Option (((ByteArray × (Int × ((Option Int) × Unit))) × Unit) × (Unit × Unit)) :=
  (g_scan_Scanner_string_going ((), (((some (d.1.1.1, (d.1.1.2.1, d.1.1.2.2.1))), ()), ()))).bind fun x1 =>
  bif x1.2.1.1 then (
  some (((d.1.1.1, (d.1.1.2.1, (d.2.2.1.1, ()))), ()), ((), ())))
  else (
  some (((d.1.1.1, (d.1.1.2.1, (d.1.1.2.2.1, ()))), ()), ((), ())))
def c_scan_Scanner_string_Fail_io : List Nat := []
def L_scan_Scanner_string_Fail_io (_ : Nat) : Pts po_scan_Scanner_string_Fail_io.den := []
def R_scan_Scanner_string_Fail_io (_ : Nat) : PtsR po_scan_Scanner_string_Fail_io.den := []
def E_scan_Scanner_string_Fail_io : Env := ((E0.add 119 (typedSem pi_scan_Scanner_string_going po_scan_Scanner_string_going g_scan_Scanner_string_going)).kp [0])
theorem q_scan_Scanner_string_Fail_io_m (k : Nat) (d : ((ByteArray × (Int × ((Option Int) × Unit))) × Unit) × (Unit × (((Option Int) × Unit) × Unit))) : evCode E_scan_Scanner_string_Fail_io (tb (L_scan_Scanner_string_Fail_io k) (R_scan_Scanner_string_Fail_io k)) c_scan_Scanner_string_Fail_io (bodyOf Tryz.f80) 0 (finKio E_scan_Scanner_string_Fail_io po_scan_Scanner_string_Fail_io [] [(0, none)]) (startSt pi_scan_Scanner_string_Fail_io 10 d) = f_scan_Scanner_string_Fail_io_m () d := by kernel_rfl
def g_scan_Scanner_string_Fail_io (d : ((ByteArray × (Int × ((Option Int) × Unit))) × Unit) × (Unit × (((Option Int) × Unit) × Unit))) : Option (((ByteArray × (Int × ((Option Int) × Unit))) × Unit) × (Unit × Unit)) := f_scan_Scanner_string_Fail_io_m () d
theorem ok_scan_Scanner_string_Fail_io : FnIo Tryz.prog ET0 80 pi_scan_Scanner_string_Fail_io po_scan_Scanner_string_Fail_io 0 [(0, 0, none)] g_scan_Scanner_string_Fail_io :=
  fn_of_bodyIo (E := E_scan_Scanner_string_Fail_io) (envOk_kp (envOk_add e0_ok (typed_ok ok_scan_Scanner_string_going))) (fn := Tryz.f80) Tryz.func80 (by kernel_rfl) (by kernel_rfl) [] [(0, none)] [(0, 0, none)] (by kernel_rfl) (by kernel_rfl) (by kernel_rfl) (by kernel_rfl) (by decide) (by decide) c_scan_Scanner_string_Fail_io L_scan_Scanner_string_Fail_io R_scan_Scanner_string_Fail_io
    (by intro x hx; cases hx) (by intro k x hx; cases hx) (by intro x hx; cases hx) (by intro k x hx; cases hx) (fun d out h => ⟨0, (q_scan_Scanner_string_Fail_io_m 0 d).trans h⟩)

/- (horologe/iso.reader).exact -/
@[reducible] def pi_iso_reader_exact_io : PSh := ⟨[.var 143 [.v .str, .v (.int .i64), .v .err]], [.mk true [.ref 0 0], .mk false [.v (.int .u8)]]⟩
@[reducible] def po_iso_reader_exact_io : PSh := ⟨[.var 143 [.v .str, .v (.int .i64), .v .err]], [.mk false [.ref 0 0]]⟩
def f_iso_reader_exact_io_m (T : Unit) (d : ((ByteArray × (Int × ((Option Int) × Unit))) × Unit) × (Unit × ((Int × Unit) × Unit))) : Option (((ByteArray × (Int × ((Option Int) × Unit))) × Unit) × (Unit × Unit)) :=
  (g_scan_Scanner_string_Take_io (((d.1.1.1, (d.1.1.2.1, (d.1.1.2.2.1, ()))), ()), ((), ((d.2.2.1.1, ()), ())))).bind fun x1 =>
  let x2 : Bool := (!x1.2.1.1)
  bif x2 then (
  let x3 : (Option Int) := (some (2 : Int))
  (g_scan_Scanner_string_Fail_io (((x1.1.1.1, (x1.1.1.2.1, (x1.1.1.2.2.1, ()))), ()), ((), ((x3, ()), ())))).bind fun x4 =>
  some (((x4.1.1.1, (x4.1.1.2.1, (x4.1.1.2.2.1, ()))), ()), ((), ())))
  else (
  some (((x1.1.1.1, (x1.1.1.2.1, (x1.1.1.2.2.1, ()))), ()), ((), ())))
def c_iso_reader_exact_io : List Nat := []
def L_iso_reader_exact_io (_ : Nat) : Pts po_iso_reader_exact_io.den := []
def R_iso_reader_exact_io (_ : Nat) : PtsR po_iso_reader_exact_io.den := []
def E_iso_reader_exact_io : Env := (((E0.add 78 (ioSem pi_scan_Scanner_string_Take_io po_scan_Scanner_string_Take_io 1 [(0, 0, none)] g_scan_Scanner_string_Take_io)).add 80 (ioSem pi_scan_Scanner_string_Fail_io po_scan_Scanner_string_Fail_io 0 [(0, 0, none)] g_scan_Scanner_string_Fail_io)).kp [0])
theorem q_iso_reader_exact_io_m (k : Nat) (d : ((ByteArray × (Int × ((Option Int) × Unit))) × Unit) × (Unit × ((Int × Unit) × Unit))) : evCode E_iso_reader_exact_io (tb (L_iso_reader_exact_io k) (R_iso_reader_exact_io k)) c_iso_reader_exact_io (bodyOf Tryz.f76) 0 (finKio E_iso_reader_exact_io po_iso_reader_exact_io [] [(0, some 0)]) (startSt pi_iso_reader_exact_io 13 d) = f_iso_reader_exact_io_m () d := by kernel_rfl
def g_iso_reader_exact_io (d : ((ByteArray × (Int × ((Option Int) × Unit))) × Unit) × (Unit × ((Int × Unit) × Unit))) : Option (((ByteArray × (Int × ((Option Int) × Unit))) × Unit) × (Unit × Unit)) := f_iso_reader_exact_io_m () d
theorem ok_iso_reader_exact_io : FnIo Tryz.prog ET0 76 pi_iso_reader_exact_io po_iso_reader_exact_io 0 [(0, 0, some 0)] g_iso_reader_exact_io :=
  fn_of_bodyIo (E := E_iso_reader_exact_io) (envOk_kp (envOk_add (envOk_add e0_ok (io_ok ok_scan_Scanner_string_Take_io)) (io_ok ok_scan_Scanner_string_Fail_io))) (fn := Tryz.f76) Tryz.func76 (by kernel_rfl) (by kernel_rfl) [] [(0, some 0)] [(0, 0, some 0)] (by kernel_rfl) (by kernel_rfl) (by kernel_rfl) (by kernel_rfl) (by decide) (by decide) c_iso_reader_exact_io L_iso_reader_exact_io R_iso_reader_exact_io
    (by intro x hx; cases hx) (by intro k x hx; cases hx) (by intro x hx; cases hx) (by intro k x hx; cases hx) (fun d out h => ⟨0, (q_iso_reader_exact_io_m 0 d).trans h⟩)

/- (horologe/iso.reader).date -/
@[reducible] def pi_iso_reader_date_io : PSh := ⟨[.var 143 [.v .str, .v (.int .i64), .v .err]], [.mk true [.ref 0 0]]⟩
@[reducible] def po_iso_reader_date_io : PSh := ⟨[.var 143 [.v .str, .v (.int .i64), .v .err]], [.mk false [.v (.int .i64)], .mk false [.v (.int .i64)], .mk false [.v (.int .i64)], .mk false [.ref 0 0]]⟩
def f_iso_reader_date_io_m (T : Unit) (d : ((ByteArray × (Int × ((Option Int) × Unit))) × Unit) × (Unit × Unit)) : Option (((ByteArray × (Int × ((Option Int) × Unit))) × Unit) × ((Int × Unit) × ((Int × Unit) × ((Int × Unit) × (Unit × Unit))))) :=
  (g_scan_Scanner_string_Figures_io (((d.1.1.1, (d.1.1.2.1, (d.1.1.2.2.1, ()))), ()), ((), (((4 : Int), ()), (((4 : Int), ()), ()))))).bind fun x1 =>
  (g_iso_reader_exact_io (((x1.1.1.1, (x1.1.1.2.1, (x1.1.1.2.2.1, ()))), ()), ((), (((45 : Int), ()), ())))).bind fun x2 =>
  (g_scan_Scanner_string_Figures_io (((x2.1.1.1, (x2.1.1.2.1, (x2.1.1.2.2.1, ()))), ()), ((), (((2 : Int), ()), (((2 : Int), ()), ()))))).bind fun x3 =>
  (g_iso_reader_exact_io (((x3.1.1.1, (x3.1.1.2.1, (x3.1.1.2.2.1, ()))), ()), ((), (((45 : Int), ()), ())))).bind fun x4 =>
  (g_scan_Scanner_string_Figures_io (((x4.1.1.1, (x4.1.1.2.1, (x4.1.1.2.2.1, ()))), ()), ((), (((2 : Int), ()), (((2 : Int), ()), ()))))).bind fun x5 =>
  some (((x5.1.1.1, (x5.1.1.2.1, (x5.1.1.2.2.1, ()))), ()), ((x1.2.1.1, ()), ((x3.2.1.1, ()), ((x5.2.1.1, ()), ((), ())))))
def c_iso_reader_date_io : List Nat := []
def L_iso_reader_date_io (_ : Nat) : Pts po_iso_reader_date_io.den := []
def R_iso_reader_date_io (_ : Nat) : PtsR po_iso_reader_date_io.den := []
def E_iso_reader_date_io : Env := (((E0.add 75 (ioSem pi_scan_Scanner_string_Figures_io po_scan_Scanner_string_Figures_io 1 [(0, 0, none)] g_scan_Scanner_string_Figures_io)).add 76 (ioSem pi_iso_reader_exact_io po_iso_reader_exact_io 0 [(0, 0, some 0)] g_iso_reader_exact_io)).kp [0])
theorem q_iso_reader_date_io_m (k : Nat) (d : ((ByteArray × (Int × ((Option Int) × Unit))) × Unit) × (Unit × Unit)) : evCode E_iso_reader_date_io (tb (L_iso_reader_date_io k) (R_iso_reader_date_io k)) c_iso_reader_date_io (bodyOf Tryz.f42) 0 (finKio E_iso_reader_date_io po_iso_reader_date_io [.tmp 2, .tmp 3, .tmp 4] [(0, some 0)]) (startSt pi_iso_reader_date_io 20 d) = f_iso_reader_date_io_m () d := by kernel_rfl
def g_iso_reader_date_io (d : ((ByteArray × (Int × ((Option Int) × Unit))) × Unit) × (Unit × Unit)) : Option (((ByteArray × (Int × ((Option Int) × Unit))) × Unit) × ((Int × Unit) × ((Int × Unit) × ((Int × Unit) × (Unit × Unit))))) := f_iso_reader_date_io_m () d
theorem ok_iso_reader_date_io : FnIo Tryz.prog ET0 42 pi_iso_reader_date_io po_iso_reader_date_io 3 [(0, 0, some 0)] g_iso_reader_date_io :=
  fn_of_bodyIo (E := E_iso_reader_date_io) (envOk_kp (envOk_add (envOk_add e0_ok (io_ok ok_scan_Scanner_string_Figures_io)) (io_ok ok_iso_reader_exact_io))) (fn := Tryz.f42) Tryz.func42 (by kernel_rfl) (by kernel_rfl) [.tmp 2, .tmp 3, .tmp 4] [(0, some 0)] [(0, 0, some 0)] (by kernel_rfl) (by kernel_rfl) (by kernel_rfl) (by kernel_rfl) (by decide) (by decide) c_iso_reader_date_io L_iso_reader_date_io R_iso_reader_date_io
    (by intro x hx; cases hx) (by intro k x hx; cases hx) (by intro x hx; cases hx) (by intro k x hx; cases hx) (fun d out h => ⟨0, (q_iso_reader_date_io_m 0 d).trans h⟩)

/- (*horologe/scan.Scanner[string]).Fold -/
@[reducible] def pi_scan_Scanner_string_Fold_io : PSh := ⟨[.var 143 [.v .str, .v (.int .i64), .v .err]], [.mk false [.ref 0 0], .mk false [.v .str]]⟩
@[reducible] def po_scan_Scanner_string_Fold_io : PSh := ⟨[.var 143 [.v .str, .v (.int .i64), .v .err]], [.mk false [.v .bool], .mk false [.ref 0 0]]⟩
def f_scan_Scanner_string_Fold_io_m (T : Unit) (d : ((ByteArray × (Int × ((Option Int) × Unit))) × Unit) × (Unit × ((ByteArray × Unit) × Unit))) : Option (((ByteArray × (Int × ((Option Int) × Unit))) × Unit) × ((Bool × Unit) × (Unit × Unit))) :=
  (g_scan_Scanner_string_rest ((), (((some (d.1.1.1, (d.1.1.2.1, d.1.1.2.2.1))), ()), ()))).bind fun x1 =>
  (g_scan_Scanner_string_going ((), (((some (d.1.1.1, (d.1.1.2.1, d.1.1.2.2.1))), ()), ()))).bind fun x2 =>
  let x3 : Bool := (!x2.2.1.1)
  bif x3 then (
  some (((d.1.1.1, (d.1.1.2.1, (d.1.1.2.2.1, ()))), ()), ((false, ()), ((), ()))))
  else (
  let x4 : Int := (x1.2.1.1.size : Int)
  let x5 : Int := (d.2.2.1.1.size : Int)
  let x6 : Bool := (decide (x4 < x5))
  bif x6 then (
  some (((d.1.1.1, (d.1.1.2.1, (d.1.1.2.2.1, ()))), ()), ((false, ()), ((), ()))))
  else (
  let x7 : Int := (d.2.2.1.1.size : Int)
  bif decide ((0 : Int) ≤ (0 : Int)) && decide ((0 : Int) ≤ x7) && decide (x7 ≤ (x1.2.1.1.size : Int)) then (
  let x8 : ByteArray := (x1.2.1.1.extract (Int.toNat (0 : Int)) (Int.toNat x7))
  (g_scan_alike ((), ((x8, ()), ((d.2.2.1.1, ()), ())))).bind fun x9 =>
  let x10 : Bool := (!x9.2.1.1)
  bif x10 then (
  some (((d.1.1.1, (d.1.1.2.1, (d.1.1.2.2.1, ()))), ()), ((false, ()), ((), ()))))
  else (
  let x11 : Int := (d.2.2.1.1.size : Int)
  (g_scan_Scanner_string_take_io (((d.1.1.1, (d.1.1.2.1, (d.1.1.2.2.1, ()))), ()), ((), ((x11, ()), ())))).bind fun x12 =>
  some (((x12.1.1.1, (x12.1.1.2.1, (x12.1.1.2.2.1, ()))), ()), ((true, ()), ((), ())))))
  else none))
def c_scan_Scanner_string_Fold_io : List Nat := []
def L_scan_Scanner_string_Fold_io (_ : Nat) : Pts po_scan_Scanner_string_Fold_io.den := []
def R_scan_Scanner_string_Fold_io (_ : Nat) : PtsR po_scan_Scanner_string_Fold_io.den := []
def E_scan_Scanner_string_Fold_io : Env := (((((E0.add 119 (typedSem pi_scan_Scanner_string_going po_scan_Scanner_string_going g_scan_Scanner_string_going)).add 121 (typedSem pi_scan_Scanner_string_rest po_scan_Scanner_string_rest g_scan_Scanner_string_rest)).add 122 (ioSem pi_scan_Scanner_string_take_io po_scan_Scanner_string_take_io 1 [(0, 0, none)] g_scan_Scanner_string_take_io)).add 125 (typedSem pi_scan_alike po_scan_alike g_scan_alike)).kp [0])
theorem q_scan_Scanner_string_Fold_io_m (k : Nat) (d : ((ByteArray × (Int × ((Option Int) × Unit))) × Unit) × (Unit × ((ByteArray × Unit) × Unit))) : evCode E_scan_Scanner_string_Fold_io (tb (L_scan_Scanner_string_Fold_io k) (R_scan_Scanner_string_Fold_io k)) c_scan_Scanner_string_Fold_io (bodyOf Tryz.f81) 0 (finKio E_scan_Scanner_string_Fold_io po_scan_Scanner_string_Fold_io [.tmp 4] [(0, none)]) (startSt pi_scan_Scanner_string_Fold_io 31 d) = f_scan_Scanner_string_Fold_io_m () d := by kernel_rfl
def g_scan_Scanner_string_Fold_io (d : ((ByteArray × (Int × ((Option Int) × Unit))) × Unit) × (Unit × ((ByteArray × Unit) × Unit))) : Option (((ByteArray × (Int × ((Option Int) × Unit))) × Unit) × ((Bool × Unit) × (Unit × Unit))) := f_scan_Scanner_string_Fold_io_m () d
theorem ok_scan_Scanner_string_Fold_io : FnIo Tryz.prog ET0 81 pi_scan_Scanner_string_Fold_io po_scan_Scanner_string_Fold_io 1 [(0, 0, none)] g_scan_Scanner_string_Fold_io :=
  fn_of_bodyIo (E := E_scan_Scanner_string_Fold_io) (envOk_kp (envOk_add (envOk_add (envOk_add (envOk_add e0_ok (typed_ok ok_scan_Scanner_string_going)) (typed_ok ok_scan_Scanner_string_rest)) (io_ok ok_scan_Scanner_string_take_io)) (typed_ok ok_scan_alike))) (fn := Tryz.f81) Tryz.func81 (by kernel_rfl) (by kernel_rfl) [.tmp 4] [(0, none)] [(0, 0, none)] (by kernel_rfl) (by kernel_rfl) (by kernel_rfl) (by kernel_rfl) (by decide) (by decide) c_scan_Scanner_string_Fold_io L_scan_Scanner_string_Fold_io R_scan_Scanner_string_Fold_io
    (by intro x hx; cases hx) (by intro k x hx; cases hx) (by intro x hx; cases hx) (by intro k x hx; cases hx) (fun d out h => ⟨0, (q_scan_Scanner_string_Fold_io_m 0 d).trans h⟩)

/- (*horologe/scan.Scanner[string]).Must -/
@[reducible] def pi_scan_Scanner_string_Must_io : PSh := ⟨[.var 143 [.v .str, .v (.int .i64), .v .err]], [.mk false [.ref 0 0], .mk false [.v .str]]⟩
@[reducible] def po_scan_Scanner_string_Must_io : PSh := ⟨[.var 143 [.v .str, .v (.int .i64), .v .err]], [.mk false [.ref 0 0]]⟩
def f_scan_Scanner_string_Must_io_m (T : Unit) (d : ((ByteArray × (Int × ((Option Int) × Unit))) × Unit) × (Unit × ((ByteArray × Unit) × Unit))) : Option (((ByteArray × (Int × ((Option Int) × Unit))) × Unit) × (Unit × Unit)) :=
  (g_scan_Scanner_string_Fold_io (((d.1.1.1, (d.1.1.2.1, (d.1.1.2.2.1, ()))), ()), ((), ((d.2.2.1.1, ()), ())))).bind fun x1 =>
  let x2 : Bool := (!x1.2.1.1)
  bif x2 then (
  let x3 : (Option Int) := (some (2 : Int))
  (g_scan_Scanner_string_Fail_io (((x1.1.1.1, (x1.1.1.2.1, (x1.1.1.2.2.1, ()))), ()), ((), ((x3, ()), ())))).bind fun x4 =>
  some (((x4.1.1.1, (x4.1.1.2.1, (x4.1.1.2.2.1, ()))), ()), ((), ())))
  else (
  some (((x1.1.1.1, (x1.1.1.2.1, (x1.1.1.2.2.1, ()))), ()), ((), ())))
def c_scan_Scanner_string_Must_io : List Nat := []
def L_scan_Scanner_string_Must_io (_ : Nat) : Pts po_scan_Scanner_string_Must_io.den := []
def R_scan_Scanner_string_Must_io (_ : Nat) : PtsR po_scan_Scanner_string_Must_io.den := []
def E_scan_Scanner_string_Must_io : Env := (((E0.add 80 (ioSem pi_scan_Scanner_string_Fail_io po_scan_Scanner_string_Fail_io 0 [(0, 0, none)] g_scan_Scanner_string_Fail_io)).add 81 (ioSem pi_scan_Scanner_string_Fold_io po_scan_Scanner_string_Fold_io 1 [(0, 0, none)] g_scan_Scanner_string_Fold_io)).kp [0])
theorem q_scan_Scanner_string_Must_io_m (k : Nat) (d : ((ByteArray × (Int × ((Option Int) × Unit))) × Unit) × (Unit × ((ByteArray × Unit) × Unit))) : evCode E_scan_Scanner_string_Must_io (tb (L_scan_Scanner_string_Must_io k) (R_scan_Scanner_string_Must_io k)) c_scan_Scanner_string_Must_io (bodyOf Tryz.f77) 0 (finKio E_scan_Scanner_string_Must_io po_scan_Scanner_string_Must_io [] [(0, none)]) (startSt pi_scan_Scanner_string_Must_io 11 d) = f_scan_Scanner_string_Must_io_m () d := by kernel_rfl
def g_scan_Scanner_string_Must_io (d : ((ByteArray × (Int × ((Option Int) × Unit))) × Unit) × (Unit × ((ByteArray × Unit) × Unit))) : Option (((ByteArray × (Int × ((Option Int) × Unit))) × Unit) × (Unit × Unit)) := f_scan_Scanner_string_Must_io_m () d
theorem ok_scan_Scanner_string_Must_io : FnIo Tryz.prog ET0 77 pi_scan_Scanner_string_Must_io po_scan_Scanner_string_Must_io 0 [(0, 0, none)] g_scan_Scanner_string_Must_io :=
  fn_of_bodyIo (E := E_scan_Scanner_string_Must_io) (envOk_kp (envOk_add (envOk_add e0_ok (io_ok ok_scan_Scanner_string_Fail_io)) (io_ok ok_scan_Scanner_string_Fold_io))) (fn := Tryz.f77) Tryz.func77 (by kernel_rfl) (by kernel_rfl) [] [(0, none)] [(0, 0, none)] (by kernel_rfl) (by kernel_rfl) (by kernel_rfl) (by kernel_rfl) (by decide) (by decide) c_scan_Scanner_string_Must_io L_scan_Scanner_string_Must_io R_scan_Scanner_string_Must_io
    (by intro x hx; cases hx) (by intro k x hx; cases hx) (by intro x hx; cases hx) (by intro k x hx; cases hx) (fun d out h => ⟨0, (q_scan_Scanner_string_Must_io_m 0 d).trans h⟩)

/- (horologe/iso.reader).number -/
@[reducible] def pi_iso_reader_number_io : PSh := ⟨[.var 143 [.v .str, .v (.int .i64), .v .err]], [.mk true [.ref 0 0], .mk false [.v .str], .mk false [.v (.int .i64)]]⟩
@[reducible] def po_iso_reader_number_io : PSh := ⟨[.var 143 [.v .str, .v (.int .i64), .v .err]], [.mk false [.v (.int .i64)], .mk false [.ref 0 0]]⟩
def f_iso_reader_number_io_m (T : Unit) (d : ((ByteArray × (Int × ((Option Int) × Unit))) × Unit) × (Unit × ((ByteArray × Unit) × ((Int × Unit) × Unit)))) : Option (((ByteArray × (Int × ((Option Int) × Unit))) × Unit) × ((Int × Unit) × (Unit × Unit))) :=
  (g_scan_Scanner_string_Must_io (((d.1.1.1, (d.1.1.2.1, (d.1.1.2.2.1, ()))), ()), ((), ((d.2.2.1.1, ()), ())))).bind fun x1 =>
  (g_scan_Scanner_string_Figures_io (((x1.1.1.1, (x1.1.1.2.1, (x1.1.1.2.2.1, ()))), ()), ((), ((d.2.2.2.1.1, ()), ((d.2.2.2.1.1, ()), ()))))).bind fun x2 =>
  some (((x2.1.1.1, (x2.1.1.2.1, (x2.1.1.2.2.1, ()))), ()), ((x2.2.1.1, ()), ((), ())))
def c_iso_reader_number_io : List Nat := []
def L_iso_reader_number_io (_ : Nat) : Pts po_iso_reader_number_io.den := []
def R_iso_reader_number_io (_ : Nat) : PtsR po_iso_reader_number_io.den := []
def E_iso_reader_number_io : Env := (((E0.add 75 (ioSem pi_scan_Scanner_string_Figures_io po_scan_Scanner_string_Figures_io 1 [(0, 0, none)] g_scan_Scanner_string_Figures_io)).add 77 (ioSem pi_scan_Scanner_string_Must_io po_scan_Scanner_string_Must_io 0 [(0, 0, none)] g_scan_Scanner_string_Must_io)).kp [0])
theorem q_iso_reader_number_io_m (k : Nat) (d : ((ByteArray × (Int × ((Option Int) × Unit))) × Unit) × (Unit × ((ByteArray × Unit) × ((Int × Unit) × Unit)))) : evCode E_iso_reader_number_io (tb (L_iso_reader_number_io k) (R_iso_reader_number_io k)) c_iso_reader_number_io (bodyOf Tryz.f43) 0 (finKio E_iso_reader_number_io po_iso_reader_number_io [.tmp 6] [(0, some 0)]) (startSt pi_iso_reader_number_io 16 d) = f_iso_reader_number_io_m () d := by kernel_rfl
def g_iso_reader_number_io (d : ((ByteArray × (Int × ((Option Int) × Unit))) × Unit) × (Unit × ((ByteArray × Unit) × ((Int × Unit) × Unit)))) : Option (((ByteArray × (Int × ((Option Int) × Unit))) × Unit) × ((Int × Unit) × (Unit × Unit))) := f_iso_reader_number_io_m () d
theorem ok_iso_reader_number_io : FnIo Tryz.prog ET0 43 pi_iso_reader_number_io po_iso_reader_number_io 1 [(0, 0, some 0)] g_iso_reader_number_io :=
  fn_of_bodyIo (E := E_iso_reader_number_io) (envOk_kp (envOk_add (envOk_add e0_ok (io_ok ok_scan_Scanner_string_Figures_io)) (io_ok ok_scan_Scanner_string_Must_io))) (fn := Tryz.f43) Tryz.func43 (by kernel_rfl) (by kernel_rfl) [.tmp 6] [(0, some 0)] [(0, 0, some 0)] (by kernel_rfl) (by kernel_rfl) (by kernel_rfl) (by kernel_rfl) (by decide) (by decide) c_iso_reader_number_io L_iso_reader_number_io R_iso_reader_number_io
    (by intro x hx; cases hx) (by intro k x hx; cases hx) (by intro x hx; cases hx) (by intro k x hx; cases hx) (fun d out h => ⟨0, (q_iso_reader_number_io_m 0 d).trans h⟩)

/- (*horologe/scan.Scanner[string]).Run -/
@[reducible] def pi_scan_Scanner_string_Run_io : PSh := ⟨[.var 143 [.v .str, .v (.int .i64), .v .err]], [.mk false [.ref 0 0], .mk false [.v .str]]⟩
@[reducible] def po_scan_Scanner_string_Run_io : PSh := ⟨[.var 143 [.v .str, .v (.int .i64), .v .err]], [.mk false [.v .str], .mk false [.ref 0 0]]⟩
@[reducible] def TT_scan_Scanner_string_Run_io : Type := (((((ByteArray × (Int × ((Option Int) × Unit))) × Unit) × (Unit × ((ByteArray × Unit) × ((ByteArray × Unit) × ((Int × Unit) × Unit))))) → Option (((ByteArray × (Int × ((Option Int) × Unit))) × Unit) × ((ByteArray × Unit) × (Unit × Unit)))) × Unit)
@[reducible] def sh_scan_Scanner_string_Run_io_4 : PSh := ⟨[.var 143 [.v .str, .v (.int .i64), .v .err]], [.mk false [.ref 0 0], .mk false [.v .str], .any, .any, .any, .mk false [.v .str], .mk false [.v (.int .i64)], .any, .any, .any, .any, .any, .any, .any, .any, .any, .any, .any, .any, .any, .any, .any, .any, .any, .any, .any]⟩
def f_scan_Scanner_string_Run_io_p4 (T : TT_scan_Scanner_string_Run_io) (d : ((ByteArray × (Int × ((Option Int) × Unit))) × Unit) × (Unit × ((ByteArray × Unit) × ((ByteArray × Unit) × ((Int × Unit) × Unit))))) : Option (((ByteArray × (Int × ((Option Int) × Unit))) × Unit) × ((ByteArray × Unit) × (Unit × Unit))) :=
  let x2 : Int := (d.2.2.2.1.1.size : Int)
  let x3 : Bool := (decide (d.2.2.2.2.1.1 < x2))
  bif x3 then (
  bif decide ((0 : Int) ≤ d.2.2.2.2.1.1) && decide (d.2.2.2.2.1.1 < ((d.2.2.2.1.1.size : Int) : Int)) then (
  let x4 : Int := (bt d.2.2.2.1.1 d.2.2.2.2.1.1)
  (g_strings_IndexByte ((), ((d.2.2.1.1, ()), ((x4, ()), ())))).bind fun x5 =>
  let x6 : Bool := (decide (x5.2.1.1 ≥ (0 : Int)))
  bif x6 then (
  let x7 : Int := (iadd .i64 d.2.2.2.2.1.1 (1 : Int))
  (T.1 (((d.1.1.1, (d.1.1.2.1, (d.1.1.2.2.1, ()))), ()), ((), ((d.2.2.1.1, ()), ((d.2.2.2.1.1, ()), ((x7, ()), ())))))))
  else (
  (g_scan_Scanner_string_take_io (((d.1.1.1, (d.1.1.2.1, (d.1.1.2.2.1, ()))), ()), ((), ((d.2.2.2.2.1.1, ()), ())))).bind fun x8 =>
  some (((x8.1.1.1, (x8.1.1.2.1, (x8.1.1.2.2.1, ()))), ()), ((x8.2.1.1, ()), ((), ())))))
  else none)
  else (
  (g_scan_Scanner_string_take_io (((d.1.1.1, (d.1.1.2.1, (d.1.1.2.2.1, ()))), ()), ((), ((d.2.2.2.2.1.1, ()), ())))).bind fun x9 =>
  some (((x9.1.1.1, (x9.1.1.2.1, (x9.1.1.2.2.1, ()))), ()), ((x9.2.1.1, ()), ((), ()))))
def f_scan_Scanner_string_Run_io_t : Nat → TT_scan_Scanner_string_Run_io
  | 0 => (fun _ => none, ())
  | k + 1 => (f_scan_Scanner_string_Run_io_p4 (f_scan_Scanner_string_Run_io_t k), ())
theorem t_scan_Scanner_string_Run_io (k : Nat) : f_scan_Scanner_string_Run_io_t (k + 1) = (f_scan_Scanner_string_Run_io_p4 (f_scan_Scanner_string_Run_io_t k), ()) := rfl
def f_scan_Scanner_string_Run_io_m (T : TT_scan_Scanner_string_Run_io) (d : ((ByteArray × (Int × ((Option Int) × Unit))) × Unit) × (Unit × ((ByteArray × Unit) × Unit))) : Option (((ByteArray × (Int × ((Option Int) × Unit))) × Unit) × ((ByteArray × Unit) × (Unit × Unit))) :=
  (g_scan_Scanner_string_rest ((), (((some (d.1.1.1, (d.1.1.2.1, d.1.1.2.2.1))), ()), ()))).bind fun x1 =>
  (T.1 (((d.1.1.1, (d.1.1.2.1, (d.1.1.2.2.1, ()))), ()), ((), ((d.2.2.1.1, ()), ((x1.2.1.1, ()), (((0 : Int), ()), ()))))))
def c_scan_Scanner_string_Run_io : List Nat := []
def L_scan_Scanner_string_Run_io (k : Nat) : Pts po_scan_Scanner_string_Run_io.den := [(4, ⟨sh_scan_Scanner_string_Run_io_4, (f_scan_Scanner_string_Run_io_t k).1⟩)]
def R_scan_Scanner_string_Run_io (_ : Nat) : PtsR po_scan_Scanner_string_Run_io.den := []
def E_scan_Scanner_string_Run_io : Env := ((((E0.add 121 (typedSem pi_scan_Scanner_string_rest po_scan_Scanner_string_rest g_scan_Scanner_string_rest)).add 122 (ioSem pi_scan_Scanner_string_take_io po_scan_Scanner_string_take_io 1 [(0, 0, none)] g_scan_Scanner_string_take_io)).add 124 (typedSem pi_strings_IndexByte po_strings_IndexByte g_strings_IndexByte)).kp [0])
theorem q_scan_Scanner_string_Run_io_4 (k : Nat) (d : ((ByteArray × (Int × ((Option Int) × Unit))) × Unit) × (Unit × ((ByteArray × Unit) × ((ByteArray × Unit) × ((Int × Unit) × Unit))))) : evAt E_scan_Scanner_string_Run_io (tb (L_scan_Scanner_string_Run_io k) (R_scan_Scanner_string_Run_io k)) c_scan_Scanner_string_Run_io 4 (bodyOf Tryz.f79) 0 (finKio E_scan_Scanner_string_Run_io po_scan_Scanner_string_Run_io [.tmp 4] [(0, none)]) (ptSt sh_scan_Scanner_string_Run_io_4 d) = f_scan_Scanner_string_Run_io_p4 (f_scan_Scanner_string_Run_io_t k) d := by kernel_rfl
theorem q_scan_Scanner_string_Run_io_m (k : Nat) (d : ((ByteArray × (Int × ((Option Int) × Unit))) × Unit) × (Unit × ((ByteArray × Unit) × Unit))) : evCode E_scan_Scanner_string_Run_io (tb (L_scan_Scanner_string_Run_io k) (R_scan_Scanner_string_Run_io k)) c_scan_Scanner_string_Run_io (bodyOf Tryz.f79) 0 (finKio E_scan_Scanner_string_Run_io po_scan_Scanner_string_Run_io [.tmp 4] [(0, none)]) (startSt pi_scan_Scanner_string_Run_io 26 d) = f_scan_Scanner_string_Run_io_m (f_scan_Scanner_string_Run_io_t k) d := by kernel_rfl
theorem go_scan_Scanner_string_Run_io (F : ((ByteArray × (Int × ((Option Int) × Unit))) × Unit) × (Unit × ((ByteArray × Unit) × Unit)) → Option (((ByteArray × (Int × ((Option Int) × Unit))) × Unit) × ((ByteArray × Unit) × (Unit × Unit)))) (hF : ∀ d out, F d = some out → ∃ k, f_scan_Scanner_string_Run_io_m (f_scan_Scanner_string_Run_io_t k) d = some out) : FnIo Tryz.prog ET0 79 pi_scan_Scanner_string_Run_io po_scan_Scanner_string_Run_io 1 [(0, 0, none)] F :=
  fn_of_bodyIo (E := E_scan_Scanner_string_Run_io) (envOk_kp (envOk_add (envOk_add (envOk_add e0_ok (typed_ok ok_scan_Scanner_string_rest)) (io_ok ok_scan_Scanner_string_take_io)) (typed_ok ok_strings_IndexByte))) (fn := Tryz.f79) Tryz.func79 (by kernel_rfl) (by kernel_rfl) [.tmp 4] [(0, none)] [(0, 0, none)] (by kernel_rfl) (by kernel_rfl) (by kernel_rfl) (by kernel_rfl) (by decide) (by decide) c_scan_Scanner_string_Run_io L_scan_Scanner_string_Run_io R_scan_Scanner_string_Run_io
    (by intro x hx d; simp only [L_scan_Scanner_string_Run_io, List.mem_cons, List.not_mem_nil, or_false] at hx; subst hx; rfl)
    (by intro k x hx d out h; simp only [L_scan_Scanner_string_Run_io, List.mem_cons, List.not_mem_nil, or_false] at hx; subst hx; exact (q_scan_Scanner_string_Run_io_4 k d).trans h)
    (by intro x hx; cases hx)
    (by intro k x hx; cases hx)
    (by intro d out h; obtain ⟨k, hk⟩ := hF d out h; exact ⟨k, (q_scan_Scanner_string_Run_io_m k d).trans hk⟩)
def g_scan_Scanner_string_Run_io (d : ((ByteArray × (Int × ((Option Int) × Unit))) × Unit) × (Unit × ((ByteArray × Unit) × Unit))) : Option (((ByteArray × (Int × ((Option Int) × Unit))) × Unit) × ((ByteArray × Unit) × (Unit × Unit))) := lim fun k => f_scan_Scanner_string_Run_io_m (f_scan_Scanner_string_Run_io_t k) d
theorem ok_scan_Scanner_string_Run_io : FnIo Tryz.prog ET0 79 pi_scan_Scanner_string_Run_io po_scan_Scanner_string_Run_io 1 [(0, 0, none)] g_scan_Scanner_string_Run_io := go_scan_Scanner_string_Run_io g_scan_Scanner_string_Run_io fun d out h => lim_some h

/- (horologe/iso.reader).fraction -/
@[reducible] def pi_iso_reader_fraction_io : PSh := ⟨[.var 143 [.v .str, .v (.int .i64), .v .err]], [.mk true [.ref 0 0]]⟩
@[reducible] def po_iso_reader_fraction_io : PSh := ⟨[.var 143 [.v .str, .v (.int .i64), .v .err]], [.mk false [.v .str], .mk false [.ref 0 0]]⟩
def f_iso_reader_fraction_io_m (T : Unit) (d : ((ByteArray × (Int × ((Option Int) × Unit))) × Unit) × (Unit × Unit)) : Option (((ByteArray × (Int × ((Option Int) × Unit))) × Unit) × ((ByteArray × Unit) × (Unit × Unit))) :=
  (g_scan_Scanner_string_Take_io (((d.1.1.1, (d.1.1.2.1, (d.1.1.2.2.1, ()))), ()), ((), (((46 : Int), ()), ())))).bind fun x1 =>
  let x2 : Bool := (!x1.2.1.1)
  bif x2 then (
  some (((x1.1.1.1, (x1.1.1.2.1, (x1.1.1.2.2.1, ()))), ()), (((⟨#[]⟩ : ByteArray), ()), ((), ()))))
  else (
  (g_scan_Scanner_string_Run_io (((x1.1.1.1, (x1.1.1.2.1, (x1.1.1.2.2.1, ()))), ()), ((), (((⟨#[48, 49, 50, 51, 52, 53, 54, 55, 56, 57]⟩ : ByteArray), ()), ())))).bind fun x3 =>
  let x4 : Bool := (x3.2.1.1.toList == (⟨#[]⟩ : ByteArray).toList)
  bif x4 then (
  let x5 : (Option Int) := (some (2 : Int))
  (g_scan_Scanner_string_Fail_io (((x3.1.1.1, (x3.1.1.2.1, (x3.1.1.2.2.1, ()))), ()), ((), ((x5, ()), ())))).bind fun x6 =>
  some (((x6.1.1.1, (x6.1.1.2.1, (x6.1.1.2.2.1, ()))), ()), ((x3.2.1.1, ()), ((), ()))))
  else (
  some (((x3.1.1.1, (x3.1.1.2.1, (x3.1.1.2.2.1, ()))), ()), ((x3.2.1.1, ()), ((), ())))))
def c_iso_reader_fraction_io : List Nat := []
def L_iso_reader_fraction_io (_ : Nat) : Pts po_iso_reader_fraction_io.den := []
def R_iso_reader_fraction_io (_ : Nat) : PtsR po_iso_reader_fraction_io.den := []
def E_iso_reader_fraction_io : Env := ((((E0.add 78 (ioSem pi_scan_Scanner_string_Take_io po_scan_Scanner_string_Take_io 1 [(0, 0, none)] g_scan_Scanner_string_Take_io)).add 79 (ioSem pi_scan_Scanner_string_Run_io po_scan_Scanner_string_Run_io 1 [(0, 0, none)] g_scan_Scanner_string_Run_io)).add 80 (ioSem pi_scan_Scanner_string_Fail_io po_scan_Scanner_string_Fail_io 0 [(0, 0, none)] g_scan_Scanner_string_Fail_io)).kp [0])
theorem q_iso_reader_fraction_io_m (k : Nat) (d : ((ByteArray × (Int × ((Option Int) × Unit))) × Unit) × (Unit × Unit)) : evCode E_iso_reader_fraction_io (tb (L_iso_reader_fraction_io k) (R_iso_reader_fraction_io k)) c_iso_reader_fraction_io (bodyOf Tryz.f44) 0 (finKio E_iso_reader_fraction_io po_iso_reader_fraction_io [.tmp 2] [(0, some 0)]) (startSt pi_iso_reader_fraction_io 18 d) = f_iso_reader_fraction_io_m () d := by kernel_rfl
def g_iso_reader_fraction_io (d : ((ByteArray × (Int × ((Option Int) × Unit))) × Unit) × (Unit × Unit)) : Option (((ByteArray × (Int × ((Option Int) × Unit))) × Unit) × ((ByteArray × Unit) × (Unit × Unit))) := f_iso_reader_fraction_io_m () d
theorem ok_iso_reader_fraction_io : FnIo Tryz.prog ET0 44 pi_iso_reader_fraction_io po_iso_reader_fraction_io 1 [(0, 0, some 0)] g_iso_reader_fraction_io :=
  fn_of_bodyIo (E := E_iso_reader_fraction_io) (envOk_kp (envOk_add (envOk_add (envOk_add e0_ok (io_ok ok_scan_Scanner_string_Take_io)) (io_ok ok_scan_Scanner_string_Run_io)) (io_ok ok_scan_Scanner_string_Fail_io))) (fn := Tryz.f44) Tryz.func44 (by kernel_rfl) (by kernel_rfl) [.tmp 2] [(0, some 0)] [(0, 0, some 0)] (by kernel_rfl) (by kernel_rfl) (by kernel_rfl) (by kernel_rfl) (by decide) (by decide) c_iso_reader_fraction_io L_iso_reader_fraction_io R_iso_reader_fraction_io
    (by intro x hx; cases hx) (by intro k x hx; cases hx) (by intro x hx; cases hx) (by intro k x hx; cases hx) (fun d out h => ⟨0, (q_iso_reader_fraction_io_m 0 d).trans h⟩)

/- (horologe/iso.reader).offset -/
@[reducible] def pi_iso_reader_offset_io : PSh := ⟨[.var 143 [.v .str, .v (.int .i64), .v .err]], [.mk true [.ref 0 0]]⟩
@[reducible] def po_iso_reader_offset_io : PSh := ⟨[.var 143 [.v .str, .v (.int .i64), .v .err]], [.mk false [.v (.int .i64)], .mk false [.v .bool], .mk false [.ref 0 0]]⟩
def f_iso_reader_offset_io_m (T : Unit) (d : ((ByteArray × (Int × ((Option Int) × Unit))) × Unit) × (Unit × Unit)) : Option (((ByteArray × (Int × ((Option Int) × Unit))) × Unit) × ((Int × Unit) × ((Bool × Unit) × (Unit × Unit)))) :=
  (g_scan_Scanner_string_Fold_io (((d.1.1.1, (d.1.1.2.1, (d.1.1.2.2.1, ()))), ()), ((), (((⟨#[90]⟩ : ByteArray), ()), ())))).bind fun x1 =>
  bif x1.2.1.1 then (
  some (((x1.1.1.1, (x1.1.1.2.1, (x1.1.1.2.2.1, ()))), ()), (((0 : Int), ()), ((true, ()), ((), ())))))
  else (
  (g_scan_Scanner_string_Take_io (((x1.1.1.1, (x1.1.1.2.1, (x1.1.1.2.2.1, ()))), ()), ((), (((45 : Int), ()), ())))).bind fun x2 =>
  let x3 : Bool := (!x2.2.1.1)
  bif x3 then (
  (g_iso_reader_exact_io (((x2.1.1.1, (x2.1.1.2.1, (x2.1.1.2.2.1, ()))), ()), ((), (((43 : Int), ()), ())))).bind fun x4 =>
  (g_scan_Scanner_string_Figures_io (((x4.1.1.1, (x4.1.1.2.1, (x4.1.1.2.2.1, ()))), ()), ((), (((2 : Int), ()), (((2 : Int), ()), ()))))).bind fun x5 =>
  (g_iso_reader_number_io (((x5.1.1.1, (x5.1.1.2.1, (x5.1.1.2.2.1, ()))), ()), ((), (((⟨#[58]⟩ : ByteArray), ()), (((2 : Int), ()), ()))))).bind fun x6 =>
  let x7 : Int := (imul .i64 x5.2.1.1 (60 : Int))
  let x8 : Int := (iadd .i64 x7 x6.2.1.1)
  bif x2.2.1.1 then (
  let x9 : Int := (ineg .i64 x8)
  let x10 : Bool := (decide (x5.2.1.1 < (24 : Int)))
  bif x10 then (
  let x11 : Bool := (decide (x6.2.1.1 < (60 : Int)))
  some (((x6.1.1.1, (x6.1.1.2.1, (x6.1.1.2.2.1, ()))), ()), ((x9, ()), ((x11, ()), ((), ())))))
  else (
  some (((x6.1.1.1, (x6.1.1.2.1, (x6.1.1.2.2.1, ()))), ()), ((x9, ()), ((false, ()), ((), ()))))))
  else (
  let x12 : Bool := (decide (x5.2.1.1 < (24 : Int)))
  bif x12 then (
  let x13 : Bool := (decide (x6.2.1.1 < (60 : Int)))
  some (((x6.1.1.1, (x6.1.1.2.1, (x6.1.1.2.2.1, ()))), ()), ((x8, ()), ((x13, ()), ((), ())))))
  else (
  some (((x6.1.1.1, (x6.1.1.2.1, (x6.1.1.2.2.1, ()))), ()), ((x8, ()), ((false, ()), ((), ())))))))
  else (
  (g_scan_Scanner_string_Figures_io (((x2.1.1.1, (x2.1.1.2.1, (x2.1.1.2.2.1, ()))), ()), ((), (((2 : Int), ()), (((2 : Int), ()), ()))))).bind fun x14 =>
  (g_iso_reader_number_io (((x14.1.1.1, (x14.1.1.2.1, (x14.1.1.2.2.1, ()))), ()), ((), (((⟨#[58]⟩ : ByteArray), ()), (((2 : Int), ()), ()))))).bind fun x15 =>
  let x16 : Int := (imul .i64 x14.2.1.1 (60 : Int))
  let x17 : Int := (iadd .i64 x16 x15.2.1.1)
  bif x2.2.1.1 then (
  let x18 : Int := (ineg .i64 x17)
  let x19 : Bool := (decide (x14.2.1.1 < (24 : Int)))
  bif x19 then (
  let x20 : Bool := (decide (x15.2.1.1 < (60 : Int)))
  some (((x15.1.1.1, (x15.1.1.2.1, (x15.1.1.2.2.1, ()))), ()), ((x18, ()), ((x20, ()), ((), ())))))
  else (
  some (((x15.1.1.1, (x15.1.1.2.1, (x15.1.1.2.2.1, ()))), ()), ((x18, ()), ((false, ()), ((), ()))))))
  else (
  let x21 : Bool := (decide (x14.2.1.1 < (24 : Int)))
  bif x21 then (
  let x22 : Bool := (decide (x15.2.1.1 < (60 : Int)))
  some (((x15.1.1.1, (x15.1.1.2.1, (x15.1.1.2.2.1, ()))), ()), ((x17, ()), ((x22, ()), ((), ())))))
  else (
  some (((x15.1.1.1, (x15.1.1.2.1, (x15.1.1.2.2.1, ()))), ()), ((x17, ()), ((false, ()), ((), ()))))))))
def c_iso_reader_offset_io : List Nat := []
def L_iso_reader_offset_io (_ : Nat) : Pts po_iso_reader_offset_io.den := []
def R_iso_reader_offset_io (_ : Nat) : PtsR po_iso_reader_offset_io.den := []
def E_iso_reader_offset_io : Env := ((((((E0.add 43 (ioSem pi_iso_reader_number_io po_iso_reader_number_io 1 [(0, 0, some 0)] g_iso_reader_number_io)).add 75 (ioSem pi_scan_Scanner_string_Figures_io po_scan_Scanner_string_Figures_io 1 [(0, 0, none)] g_scan_Scanner_string_Figures_io)).add 76 (ioSem pi_iso_reader_exact_io po_iso_reader_exact_io 0 [(0, 0, some 0)] g_iso_reader_exact_io)).add 78 (ioSem pi_scan_Scanner_string_Take_io po_scan_Scanner_string_Take_io 1 [(0, 0, none)] g_scan_Scanner_string_Take_io)).add 81 (ioSem pi_scan_Scanner_string_Fold_io po_scan_Scanner_string_Fold_io 1 [(0, 0, none)] g_scan_Scanner_string_Fold_io)).kp [0])
theorem q_iso_reader_offset_io_m (k : Nat) (d : ((ByteArray × (Int × ((Option Int) × Unit))) × Unit) × (Unit × Unit)) : evCode E_iso_reader_offset_io (tb (L_iso_reader_offset_io k) (R_iso_reader_offset_io k)) c_iso_reader_offset_io (bodyOf Tryz.f45) 0 (finKio E_iso_reader_offset_io po_iso_reader_offset_io [.tmp 2, .tmp 3] [(0, some 0)]) (startSt pi_iso_reader_offset_io 37 d) = f_iso_reader_offset_io_m () d := by kernel_rfl
def g_iso_reader_offset_io (d : ((ByteArray × (Int × ((Option Int) × Unit))) × Unit) × (Unit × Unit)) : Option (((ByteArray × (Int × ((Option Int) × Unit))) × Unit) × ((Int × Unit) × ((Bool × Unit) × (Unit × Unit)))) := f_iso_reader_offset_io_m () d
theorem ok_iso_reader_offset_io : FnIo Tryz.prog ET0 45 pi_iso_reader_offset_io po_iso_reader_offset_io 2 [(0, 0, some 0)] g_iso_reader_offset_io :=
  fn_of_bodyIo (E := E_iso_reader_offset_io) (envOk_kp (envOk_add (envOk_add (envOk_add (envOk_add (envOk_add e0_ok (io_ok ok_iso_reader_number_io)) (io_ok ok_scan_Scanner_string_Figures_io)) (io_ok ok_iso_reader_exact_io)) (io_ok ok_scan_Scanner_string_Take_io)) (io_ok ok_scan_Scanner_string_Fold_io))) (fn := Tryz.f45) Tryz.func45 (by kernel_rfl) (by kernel_rfl) [.tmp 2, .tmp 3] [(0, some 0)] [(0, 0, some 0)] (by kernel_rfl) (by kernel_rfl) (by kernel_rfl) (by kernel_rfl) (by decide) (by decide) c_iso_reader_offset_io L_iso_reader_offset_io R_iso_reader_offset_io
    (by intro x hx; cases hx) (by intro k x hx; cases hx) (by intro x hx; cases hx) (by intro k x hx; cases hx) (fun d out h => ⟨0, (q_iso_reader_offset_io_m 0 d).trans h⟩)

/- horologe/iso.Parse -/
@[reducible] def pi_iso_Parse : PSh := ⟨[], [.mk false [.v .str]]⟩
@[reducible] def po_iso_Parse : PSh := ⟨[], [.mk true [.v (.int .i64), .v (.int .i64), .v (.int .i64), .v (.int .i64), .v (.int .i64), .v (.int .i64), .v (.int .i64), .v (.int .i64)], .mk false [.v .err]]⟩
def f_iso_Parse_m (T : Unit) (d : Unit × ((ByteArray × Unit) × Unit)) : Option (Unit × ((Int × (Int × (Int × (Int × (Int × (Int × (Int × (Int × Unit)))))))) × (((Option Int) × Unit) × Unit))) :=
  (g_scan_New_string ((), ((d.2.1.1, ()), ()))).bind fun x1 =>
  (g_iso_reader_date_io (((x1.1.1.1, (x1.1.1.2.1, (x1.1.1.2.2.1, ()))), ()), ((), ()))).bind fun x2 =>
  (g_iso_reader_number_io (((x2.1.1.1, (x2.1.1.2.1, (x2.1.1.2.2.1, ()))), ()), ((), (((⟨#[84]⟩ : ByteArray), ()), (((2 : Int), ()), ()))))).bind fun x3 =>
  (g_iso_reader_number_io (((x3.1.1.1, (x3.1.1.2.1, (x3.1.1.2.2.1, ()))), ()), ((), (((⟨#[58]⟩ : ByteArray), ()), (((2 : Int), ()), ()))))).bind fun x4 =>
  (g_iso_reader_number_io (((x4.1.1.1, (x4.1.1.2.1, (x4.1.1.2.2.1, ()))), ()), ((), (((⟨#[58]⟩ : ByteArray), ()), (((2 : Int), ()), ()))))).bind fun x5 =>
  (g_iso_reader_fraction_io (((x5.1.1.1, (x5.1.1.2.1, (x5.1.1.2.2.1, ()))), ()), ((), ()))).bind fun x6 =>
  (g_iso_reader_offset_io (((x6.1.1.1, (x6.1.1.2.1, (x6.1.1.2.2.1, ()))), ()), ((), ()))).bind fun x7 =>
  (g_scan_Scanner_string_End ((), (((some (x7.1.1.1, (x7.1.1.2.1, x7.1.1.2.2.1))), ()), ()))).bind fun x8 =>
  let x9 : Bool := (!x8.2.1.1.isNone)
  bif x9 then (
  let x10 : (Option Int) := (some (2 : Int))
  some ((), (((0 : Int), ((0 : Int), ((0 : Int), ((0 : Int), ((0 : Int), ((0 : Int), ((0 : Int), ((0 : Int), ())))))))), ((x10, ()), ()))))
  else (
  let x11 : Int := (x6.2.1.1.size : Int)
  let x12 : Bool := (decide (x11 > (9 : Int)))
  bif x12 then (
  let x13 : (Option Int) := (some (3 : Int))
  some ((), (((0 : Int), ((0 : Int), ((0 : Int), ((0 : Int), ((0 : Int), ((0 : Int), ((0 : Int), ((0 : Int), ())))))))), ((x13, ()), ()))))
  else (
  let x14 : Bool := (!x7.2.2.1.1)
  bif x14 then (
  let x15 : (Option Int) := (some (1 : Int))
  some ((), (((0 : Int), ((0 : Int), ((0 : Int), ((0 : Int), ((0 : Int), ((0 : Int), ((0 : Int), ((0 : Int), ())))))))), ((x15, ()), ()))))
  else (
  let x16 : Bool := (!(x6.2.1.1.toList == (⟨#[]⟩ : ByteArray).toList))
  bif x16 then (
  (g_figures_Fraction ((), ((x6.2.1.1, ()), ()))).bind fun x17 =>
  let x18 : Bool := (!x17.2.2.1.1.isNone)
  bif x18 then (
  some ((), (((0 : Int), ((0 : Int), ((0 : Int), ((0 : Int), ((0 : Int), ((0 : Int), ((0 : Int), ((0 : Int), ())))))))), ((x17.2.2.1.1, ()), ()))))
  else (
  (g_label_Check ((), ((x2.2.1.1, (x2.2.2.1.1, (x2.2.2.2.1.1, (x3.2.1.1, (x4.2.1.1, (x5.2.1.1, (x17.2.1.1, (x7.2.1.1, ())))))))), ()))).bind fun x19 =>
  let x20 : Bool := (!x19.2.1.1.isNone)
  bif x20 then (
  some ((), (((0 : Int), ((0 : Int), ((0 : Int), ((0 : Int), ((0 : Int), ((0 : Int), ((0 : Int), ((0 : Int), ())))))))), ((x19.2.1.1, ()), ()))))
  else (
  some ((), ((x2.2.1.1, (x2.2.2.1.1, (x2.2.2.2.1.1, (x3.2.1.1, (x4.2.1.1, (x5.2.1.1, (x17.2.1.1, (x7.2.1.1, ())))))))), (((none : Option Int), ()), ()))))))
  else (
  (g_label_Check ((), ((x2.2.1.1, (x2.2.2.1.1, (x2.2.2.2.1.1, (x3.2.1.1, (x4.2.1.1, (x5.2.1.1, ((0 : Int), (x7.2.1.1, ())))))))), ()))).bind fun x21 =>
  let x22 : Bool := (!x21.2.1.1.isNone)
  bif x22 then (
  some ((), (((0 : Int), ((0 : Int), ((0 : Int), ((0 : Int), ((0 : Int), ((0 : Int), ((0 : Int), ((0 : Int), ())))))))), ((x21.2.1.1, ()), ()))))
  else (
  some ((), ((x2.2.1.1, (x2.2.2.1.1, (x2.2.2.2.1.1, (x3.2.1.1, (x4.2.1.1, (x5.2.1.1, ((0 : Int), (x7.2.1.1, ())))))))), (((none : Option Int), ()), ()))))))))
def c_iso_Parse : List Nat := []
def L_iso_Parse (_ : Nat) : Pts po_iso_Parse.den := []
def R_iso_Parse (_ : Nat) : PtsR po_iso_Parse.den := []
def E_iso_Parse : Env := ((((((((E0.add 41 (typedSem pi_scan_New_string po_scan_New_string g_scan_New_string)).add 42 (ioSem pi_iso_reader_date_io po_iso_reader_date_io 3 [(0, 0, some 0)] g_iso_reader_date_io)).add 43 (ioSem pi_iso_reader_number_io po_iso_reader_number_io 1 [(0, 0, some 0)] g_iso_reader_number_io)).add 44 (ioSem pi_iso_reader_fraction_io po_iso_reader_fraction_io 1 [(0, 0, some 0)] g_iso_reader_fraction_io)).add 45 (ioSem pi_iso_reader_offset_io po_iso_reader_offset_io 2 [(0, 0, some 0)] g_iso_reader_offset_io)).add 46 (typedSem pi_scan_Scanner_string_End po_scan_Scanner_string_End g_scan_Scanner_string_End)).add 47 (typedSem pi_figures_Fraction po_figures_Fraction g_figures_Fraction)).add 48 (typedSem pi_label_Check po_label_Check g_label_Check))
theorem q_iso_Parse_m (k : Nat) (d : Unit × ((ByteArray × Unit) × Unit)) : evCode E_iso_Parse (tb (L_iso_Parse k) (R_iso_Parse k)) c_iso_Parse (bodyOf Tryz.f20) 0 (finK E_iso_Parse po_iso_Parse [.cell 2 23, .tmp 3]) (startSt pi_iso_Parse 80 d) = f_iso_Parse_m () d := by kernel_rfl
def g_iso_Parse (d : Unit × ((ByteArray × Unit) × Unit)) : Option (Unit × ((Int × (Int × (Int × (Int × (Int × (Int × (Int × (Int × Unit)))))))) × (((Option Int) × Unit) × Unit))) := f_iso_Parse_m () d
theorem ok_iso_Parse : FnOk Tryz.prog ET0 20 pi_iso_Parse po_iso_Parse g_iso_Parse :=
  fn_of_body (E := E_iso_Parse) (envOk_add (envOk_add (envOk_add (envOk_add (envOk_add (envOk_add (envOk_add (envOk_add e0_ok (typed_ok ok_scan_New_string)) (io_ok ok_iso_reader_date_io)) (io_ok ok_iso_reader_number_io)) (io_ok ok_iso_reader_fraction_io)) (io_ok ok_iso_reader_offset_io)) (typed_ok ok_scan_Scanner_string_End)) (typed_ok ok_figures_Fraction)) (typed_ok ok_label_Check)) (fn := Tryz.f20) Tryz.func20 (by kernel_rfl) (by kernel_rfl) [.cell 2 23, .tmp 3] (by kernel_rfl) (by kernel_rfl) (by decide) rfl c_iso_Parse L_iso_Parse R_iso_Parse
    (by intro x hx; cases hx) (by intro k x hx; cases hx) (by intro x hx; cases hx) (by intro k x hx; cases hx) (fun d out h => ⟨0, (q_iso_Parse_m 0 d).trans h⟩)

/- horologe/horologelaw24.alive -/
@[reducible] def pi_law24_alive : PSh := ⟨[], []⟩
@[reducible] def po_law24_alive : PSh := ⟨[], [.mk false [.v .bool]]⟩
def f_law24_alive_m (T : Unit) (d : Unit × Unit) : Option (Unit × ((Bool × Unit) × Unit)) :=
  (g_iso_Parse ((), (((⟨#[49, 57, 57, 48, 45, 49, 50, 45, 51, 49, 84, 49, 53, 58, 53, 57, 58, 54, 48, 45, 48, 56, 58, 48, 48]⟩ : ByteArray), ()), ()))).bind fun x1 =>
  (g_iso_Put ((), (((1990 : Int), ((12 : Int), ((31 : Int), ((23 : Int), ((59 : Int), ((60 : Int), ((0 : Int), ((0 : Int), ())))))))), (((0 : Int), ()), ())))).bind fun x2 =>
  bif x1.2.2.1.1.isNone then (
  bif x2.2.2.1.1.isNone then (
  let x3 : Bool := (x1.2.1.2.2.2.2.2.1 == (60 : Int))
  bif x3 then (
  let x4 : Bool := (x1.2.1.2.2.2.2.2.2.2.1 == (-480 : Int))
  bif x4 then (
  let x5 : Bool := (x2.2.1.1.toList == (⟨#[49, 57, 57, 48, 45, 49, 50, 45, 51, 49, 84, 50, 51, 58, 53, 57, 58, 54, 48, 90]⟩ : ByteArray).toList)
  some ((), ((x5, ()), ())))
  else (
  some ((), ((false, ()), ()))))
  else (
  some ((), ((false, ()), ()))))
  else (
  some ((), ((false, ()), ()))))
  else (
  some ((), ((false, ()), ())))
def c_law24_alive : List Nat := []
def L_law24_alive (_ : Nat) : Pts po_law24_alive.den := []
def R_law24_alive (_ : Nat) : PtsR po_law24_alive.den := []
def E_law24_alive : Env := ((E0.add 6 (typedSem pi_iso_Put po_iso_Put g_iso_Put)).add 20 (typedSem pi_iso_Parse po_iso_Parse g_iso_Parse))
theorem q_law24_alive_m (k : Nat) (d : Unit × Unit) : evCode E_law24_alive (tb (L_law24_alive k) (R_law24_alive k)) c_law24_alive (bodyOf Tryz.f5) 0 (finK E_law24_alive po_law24_alive [.tmp 0]) (startSt pi_law24_alive 34 d) = f_law24_alive_m () d := by kernel_rfl
def g_law24_alive (d : Unit × Unit) : Option (Unit × ((Bool × Unit) × Unit)) := f_law24_alive_m () d
theorem ok_law24_alive : FnOk Tryz.prog ET0 5 pi_law24_alive po_law24_alive g_law24_alive :=
  fn_of_body (E := E_law24_alive) (envOk_add (envOk_add e0_ok (typed_ok ok_iso_Put)) (typed_ok ok_iso_Parse)) (fn := Tryz.f5) Tryz.func5 (by kernel_rfl) (by kernel_rfl) [.tmp 0] (by kernel_rfl) (by kernel_rfl) (by decide) rfl c_law24_alive L_law24_alive R_law24_alive
    (by intro x hx; cases hx) (by intro k x hx; cases hx) (by intro x hx; cases hx) (by intro k x hx; cases hx) (fun d out h => ⟨0, (q_law24_alive_m 0 d).trans h⟩)

/- strings.trimRightByte -/
@[reducible] def pi_strings_trimRightByte : PSh := ⟨[], [.mk false [.v .str], .mk false [.v (.int .u8)]]⟩
@[reducible] def po_strings_trimRightByte : PSh := ⟨[], [.mk false [.v .str]]⟩
@[reducible] def TT_strings_trimRightByte : Type := (((Unit × ((ByteArray × Unit) × ((Int × Unit) × Unit))) → Option (Unit × ((ByteArray × Unit) × Unit))) × Unit)
@[reducible] def sh_strings_trimRightByte_2 : PSh := ⟨[], [.mk false [.v .str], .mk false [.v (.int .u8)], .any, .any, .any, .any, .any, .any, .any, .any, .any, .any, .any, .any, .any, .any, .any, .any, .any, .any, .any, .any, .any]⟩
def f_strings_trimRightByte_p2 (T : TT_strings_trimRightByte) (d : Unit × ((ByteArray × Unit) × ((Int × Unit) × Unit))) : Option (Unit × ((ByteArray × Unit) × Unit)) :=
  let x1 : Int := (d.2.1.1.size : Int)
  let x2 : Bool := (decide (x1 > (0 : Int)))
  bif x2 then (
  let x3 : Int := (d.2.1.1.size : Int)
  let x4 : Int := (isub .i64 x3 (1 : Int))
  bif decide ((0 : Int) ≤ x4) && decide (x4 < ((d.2.1.1.size : Int) : Int)) then (
  let x5 : Int := (bt d.2.1.1 x4)
  let x6 : Bool := (x5 == d.2.2.1.1)
  bif x6 then (
  let x7 : Int := (d.2.1.1.size : Int)
  let x8 : Int := (isub .i64 x7 (1 : Int))
  bif decide ((0 : Int) ≤ (0 : Int)) && decide ((0 : Int) ≤ x8) && decide (x8 ≤ (d.2.1.1.size : Int)) then (
  let x9 : ByteArray := (d.2.1.1.extract (Int.toNat (0 : Int)) (Int.toNat x8))
  (T.1 ((), ((x9, ()), ((d.2.2.1.1, ()), ())))))
  else none)
  else (
  some ((), ((d.2.1.1, ()), ()))))
  else none)
  else (
  some ((), ((d.2.1.1, ()), ())))
def f_strings_trimRightByte_t : Nat → TT_strings_trimRightByte
  | 0 => (fun _ => none, ())
  | k + 1 => (f_strings_trimRightByte_p2 (f_strings_trimRightByte_t k), ())
theorem t_strings_trimRightByte (k : Nat) : f_strings_trimRightByte_t (k + 1) = (f_strings_trimRightByte_p2 (f_strings_trimRightByte_t k), ()) := rfl
def f_strings_trimRightByte_m (T : TT_strings_trimRightByte) (d : Unit × ((ByteArray × Unit) × ((Int × Unit) × Unit))) : Option (Unit × ((ByteArray × Unit) × Unit)) :=
  (T.1 ((), ((d.2.1.1, ()), ((d.2.2.1.1, ()), ()))))
def c_strings_trimRightByte : List Nat := []
def L_strings_trimRightByte (k : Nat) : Pts po_strings_trimRightByte.den := [(2, ⟨sh_strings_trimRightByte_2, (f_strings_trimRightByte_t k).1⟩)]
def R_strings_trimRightByte (_ : Nat) : PtsR po_strings_trimRightByte.den := []
def E_strings_trimRightByte : Env := E0
theorem q_strings_trimRightByte_2 (k : Nat) (d : Unit × ((ByteArray × Unit) × ((Int × Unit) × Unit))) : evAt E_strings_trimRightByte (tb (L_strings_trimRightByte k) (R_strings_trimRightByte k)) c_strings_trimRightByte 2 (bodyOf Tryz.f91) 0 (finK E_strings_trimRightByte po_strings_trimRightByte [.tmp 4]) (ptSt sh_strings_trimRightByte_2 d) = f_strings_trimRightByte_p2 (f_strings_trimRightByte_t k) d := by kernel_rfl
theorem q_strings_trimRightByte_m (k : Nat) (d : Unit × ((ByteArray × Unit) × ((Int × Unit) × Unit))) : evCode E_strings_trimRightByte (tb (L_strings_trimRightByte k) (R_strings_trimRightByte k)) c_strings_trimRightByte (bodyOf Tryz.f91) 0 (finK E_strings_trimRightByte po_strings_trimRightByte [.tmp 4]) (startSt pi_strings_trimRightByte 23 d) = f_strings_trimRightByte_m (f_strings_trimRightByte_t k) d := by kernel_rfl
theorem go_strings_trimRightByte (F : Unit × ((ByteArray × Unit) × ((Int × Unit) × Unit)) → Option (Unit × ((ByteArray × Unit) × Unit))) (hF : ∀ d out, F d = some out → ∃ k, f_strings_trimRightByte_m (f_strings_trimRightByte_t k) d = some out) : FnOk Tryz.prog ET0 91 pi_strings_trimRightByte po_strings_trimRightByte F :=
  fn_of_body (E := E_strings_trimRightByte) e0_ok (fn := Tryz.f91) Tryz.func91 (by kernel_rfl) (by kernel_rfl) [.tmp 4] (by kernel_rfl) (by kernel_rfl) (by decide) rfl c_strings_trimRightByte L_strings_trimRightByte R_strings_trimRightByte
    (by intro x hx d; simp only [L_strings_trimRightByte, List.mem_cons, List.not_mem_nil, or_false] at hx; subst hx; rfl)
    (by intro k x hx d out h; simp only [L_strings_trimRightByte, List.mem_cons, List.not_mem_nil, or_false] at hx; subst hx; exact (q_strings_trimRightByte_2 k d).trans h)
    (by intro x hx; cases hx)
    (by intro k x hx; cases hx)
    (by intro d out h; obtain ⟨k, hk⟩ := hF d out h; exact ⟨k, (q_strings_trimRightByte_m k d).trans hk⟩)
def g_strings_trimRightByte (d : Unit × ((ByteArray × Unit) × ((Int × Unit) × Unit))) : Option (Unit × ((ByteArray × Unit) × Unit)) := lim fun k => f_strings_trimRightByte_m (f_strings_trimRightByte_t k) d
theorem ok_strings_trimRightByte : FnOk Tryz.prog ET0 91 pi_strings_trimRightByte po_strings_trimRightByte g_strings_trimRightByte := go_strings_trimRightByte g_strings_trimRightByte fun d out h => lim_some h

/- strings.TrimRight -/
@[reducible] def pi_strings_TrimRight : PSh := ⟨[], [.mk false [.v .str], .mk false [.v .str]]⟩
@[reducible] def po_strings_TrimRight : PSh := ⟨[], [.mk false [.v .str]]⟩
def f_strings_TrimRight_m (T : Unit) (d : Unit × ((ByteArray × Unit) × ((ByteArray × Unit) × Unit))) : Option (Unit × ((ByteArray × Unit) × Unit)) :=
  let x1 : Bool := (d.2.1.1.toList == (⟨#[]⟩ : ByteArray).toList)
  bif x1 then (
  some ((), ((d.2.1.1, ()), ())))
  else (
  let x2 : Bool := (d.2.2.1.1.toList == (⟨#[]⟩ : ByteArray).toList)
  bif x2 then (
  some ((), ((d.2.1.1, ()), ())))
  else (
  let x3 : Int := (d.2.2.1.1.size : Int)
  let x4 : Bool := (x3 == (1 : Int))
  bif x4 then (
  bif decide ((0 : Int) ≤ (0 : Int)) && decide ((0 : Int) < ((d.2.2.1.1.size : Int) : Int)) then (
  let x5 : Int := (bt d.2.2.1.1 (0 : Int))
  let x6 : Bool := (decide (x5 < (128 : Int)))
  bif x6 then (
  bif decide ((0 : Int) ≤ (0 : Int)) && decide ((0 : Int) < ((d.2.2.1.1.size : Int) : Int)) then (
  let x7 : Int := (bt d.2.2.1.1 (0 : Int))
  (g_strings_trimRightByte ((), ((d.2.1.1, ()), ((x7, ()), ())))).bind fun x8 =>
  some ((), ((x8.2.1.1, ()), ())))
  else none)
  else (
  none))
  else none)
  else (
  none)))
def c_strings_TrimRight : List Nat := []
def L_strings_TrimRight (_ : Nat) : Pts po_strings_TrimRight.den := []
def R_strings_TrimRight (_ : Nat) : PtsR po_strings_TrimRight.den := []
def E_strings_TrimRight : Env := (E0.add 91 (typedSem pi_strings_trimRightByte po_strings_trimRightByte g_strings_trimRightByte))
theorem q_strings_TrimRight_m (k : Nat) (d : Unit × ((ByteArray × Unit) × ((ByteArray × Unit) × Unit))) : evCode E_strings_TrimRight (tb (L_strings_TrimRight k) (R_strings_TrimRight k)) c_strings_TrimRight (bodyOf Tryz.f53) 0 (finK E_strings_TrimRight po_strings_TrimRight [.tmp 4]) (startSt pi_strings_TrimRight 37 d) = f_strings_TrimRight_m () d := by kernel_rfl
def g_strings_TrimRight (d : Unit × ((ByteArray × Unit) × ((ByteArray × Unit) × Unit))) : Option (Unit × ((ByteArray × Unit) × Unit)) := f_strings_TrimRight_m () d
theorem ok_strings_TrimRight : FnOk Tryz.prog ET0 53 pi_strings_TrimRight po_strings_TrimRight g_strings_TrimRight :=
  fn_of_body (E := E_strings_TrimRight) (envOk_add e0_ok (typed_ok ok_strings_trimRightByte)) (fn := Tryz.f53) Tryz.func53 (by kernel_rfl) (by kernel_rfl) [.tmp 4] (by kernel_rfl) (by kernel_rfl) (by decide) rfl c_strings_TrimRight L_strings_TrimRight R_strings_TrimRight
    (by intro x hx; cases hx) (by intro k x hx; cases hx) (by intro x hx; cases hx) (by intro k x hx; cases hx) (fun d out h => ⟨0, (q_strings_TrimRight_m 0 d).trans h⟩)

/- horologe/figures.Short -/
@[reducible] def pi_figures_Short : PSh := ⟨[], [.mk false [.v (.int .i64)]]⟩
@[reducible] def po_figures_Short : PSh := ⟨[], [.mk false [.v .str], .mk false [.v .err]]⟩
def f_figures_Short_m (T : Unit) (d : Unit × ((Int × Unit) × Unit)) : Option (Unit × ((ByteArray × Unit) × (((Option Int) × Unit) × Unit))) :=
  (g_figures_fits ((), ((d.2.1.1, ()), ()))).bind fun x1 =>
  let x2 : Bool := (!x1.2.1.1)
  bif x2 then (
  let x3 : (Option Int) := (some (1 : Int))
  some ((), (((⟨#[]⟩ : ByteArray), ()), ((x3, ()), ()))))
  else (
  let x4 : Int := (iconv .u64 d.2.1.1)
  (g_figures_raw ((), ((x4, ()), (((9 : Int), ()), ())))).bind fun x5 =>
  (g_strings_TrimRight ((), ((x5.2.1.1, ()), (((⟨#[48]⟩ : ByteArray), ()), ())))).bind fun x6 =>
  some ((), ((x6.2.1.1, ()), (((none : Option Int), ()), ()))))
def c_figures_Short : List Nat := []
def L_figures_Short (_ : Nat) : Pts po_figures_Short.den := []
def R_figures_Short (_ : Nat) : PtsR po_figures_Short.den := []
def E_figures_Short : Env := (((E0.add 49 (typedSem pi_figures_fits po_figures_fits g_figures_fits)).add 50 (typedSem pi_figures_raw po_figures_raw g_figures_raw)).add 53 (typedSem pi_strings_TrimRight po_strings_TrimRight g_strings_TrimRight))
theorem q_figures_Short_m (k : Nat) (d : Unit × ((Int × Unit) × Unit)) : evCode E_figures_Short (tb (L_figures_Short k) (R_figures_Short k)) c_figures_Short (bodyOf Tryz.f24) 0 (finK E_figures_Short po_figures_Short [.tmp 2, .tmp 3]) (startSt pi_figures_Short 12 d) = f_figures_Short_m () d := by kernel_rfl
def g_figures_Short (d : Unit × ((Int × Unit) × Unit)) : Option (Unit × ((ByteArray × Unit) × (((Option Int) × Unit) × Unit))) := f_figures_Short_m () d
theorem ok_figures_Short : FnOk Tryz.prog ET0 24 pi_figures_Short po_figures_Short g_figures_Short :=
  fn_of_body (E := E_figures_Short) (envOk_add (envOk_add (envOk_add e0_ok (typed_ok ok_figures_fits)) (typed_ok ok_figures_raw)) (typed_ok ok_strings_TrimRight)) (fn := Tryz.f24) Tryz.func24 (by kernel_rfl) (by kernel_rfl) [.tmp 2, .tmp 3] (by kernel_rfl) (by kernel_rfl) (by decide) rfl c_figures_Short L_figures_Short R_figures_Short
    (by intro x hx; cases hx) (by intro k x hx; cases hx) (by intro x hx; cases hx) (by intro k x hx; cases hx) (fun d out h => ⟨0, (q_figures_Short_m 0 d).trans h⟩)

/- horologe/iso.Short -/
@[reducible] def pi_iso_Short : PSh := ⟨[], [.mk true [.v (.int .i64), .v (.int .i64), .v (.int .i64), .v (.int .i64), .v (.int .i64), .v (.int .i64), .v (.int .i64), .v (.int .i64)]]⟩
@[reducible] def po_iso_Short : PSh := ⟨[], [.mk false [.v .str], .mk false [.v .err]]⟩
def f_iso_Short_m (T : Unit) (d : Unit × ((Int × (Int × (Int × (Int × (Int × (Int × (Int × (Int × Unit)))))))) × Unit)) : Option (Unit × ((ByteArray × Unit) × (((Option Int) × Unit) × Unit))) :=
  (g_iso_right ((), ((d.2.1.1, (d.2.1.2.1, (d.2.1.2.2.1, (d.2.1.2.2.2.1, (d.2.1.2.2.2.2.1, (d.2.1.2.2.2.2.2.1, (d.2.1.2.2.2.2.2.2.1, (d.2.1.2.2.2.2.2.2.2.1, ())))))))), ()))).bind fun x1 =>
  let x2 : Bool := (!x1.2.1.1.isNone)
  bif x2 then (
  some ((), (((⟨#[]⟩ : ByteArray), ()), ((x1.2.1.1, ()), ()))))
  else (
  (g_figures_Short ((), ((d.2.1.2.2.2.2.2.2.1, ()), ()))).bind fun x3 =>
  let x4 : Bool := (!x3.2.2.1.1.isNone)
  bif x4 then (
  some ((), (((⟨#[]⟩ : ByteArray), ()), ((x3.2.2.1.1, ()), ()))))
  else (
  (g_iso_text ((), ((d.2.1.1, (d.2.1.2.1, (d.2.1.2.2.1, (d.2.1.2.2.2.1, (d.2.1.2.2.2.2.1, (d.2.1.2.2.2.2.2.1, (d.2.1.2.2.2.2.2.2.1, (d.2.1.2.2.2.2.2.2.2.1, ())))))))), ((x3.2.1.1, ()), ())))).bind fun x5 =>
  some ((), ((x5.2.1.1, ()), ((x5.2.2.1.1, ()), ())))))
def c_iso_Short : List Nat := []
def L_iso_Short (_ : Nat) : Pts po_iso_Short.den := []
def R_iso_Short (_ : Nat) : PtsR po_iso_Short.den := []
def E_iso_Short : Env := (((E0.add 21 (typedSem pi_iso_right po_iso_right g_iso_right)).add 23 (typedSem pi_iso_text po_iso_text g_iso_text)).add 24 (typedSem pi_figures_Short po_figures_Short g_figures_Short))
theorem q_iso_Short_m (k : Nat) (d : Unit × ((Int × (Int × (Int × (Int × (Int × (Int × (Int × (Int × Unit)))))))) × Unit)) : evCode E_iso_Short (tb (L_iso_Short k) (R_iso_Short k)) c_iso_Short (bodyOf Tryz.f7) 0 (finK E_iso_Short po_iso_Short [.tmp 2, .tmp 3]) (startSt pi_iso_Short 26 d) = f_iso_Short_m () d := by kernel_rfl
def g_iso_Short (d : Unit × ((Int × (Int × (Int × (Int × (Int × (Int × (Int × (Int × Unit)))))))) × Unit)) : Option (Unit × ((ByteArray × Unit) × (((Option Int) × Unit) × Unit))) := f_iso_Short_m () d
theorem ok_iso_Short : FnOk Tryz.prog ET0 7 pi_iso_Short po_iso_Short g_iso_Short :=
  fn_of_body (E := E_iso_Short) (envOk_add (envOk_add (envOk_add e0_ok (typed_ok ok_iso_right)) (typed_ok ok_iso_text)) (typed_ok ok_figures_Short)) (fn := Tryz.f7) Tryz.func7 (by kernel_rfl) (by kernel_rfl) [.tmp 2, .tmp 3] (by kernel_rfl) (by kernel_rfl) (by decide) rfl c_iso_Short L_iso_Short R_iso_Short
    (by intro x hx; cases hx) (by intro k x hx; cases hx) (by intro x hx; cases hx) (by intro k x hx; cases hx) (fun d out h => ⟨0, (q_iso_Short_m 0 d).trans h⟩)

/- horologe/horologelaw08.Document -/
@[reducible] def pi_law08_Document : PSh := ⟨[], [.mk true [.v (.int .i64), .v (.int .i64), .v (.int .i64), .v (.int .i64), .v (.int .i64), .v (.int .i64), .v (.int .i64), .v (.int .i64)]]⟩
@[reducible] def po_law08_Document : PSh := ⟨[], [.mk true [.v (.int .i64), .v (.int .i64), .v (.int .i64), .v (.int .i64), .v (.int .i64), .v (.int .i64), .v (.int .i64), .v (.int .i64)]]⟩
def f_law08_Document_m (T : Unit) (d : Unit × ((Int × (Int × (Int × (Int × (Int × (Int × (Int × (Int × Unit)))))))) × Unit)) : Option (Unit × ((Int × (Int × (Int × (Int × (Int × (Int × (Int × (Int × Unit)))))))) × Unit)) :=
  some ((), ((d.2.1.1, (d.2.1.2.1, (d.2.1.2.2.1, (d.2.1.2.2.2.1, (d.2.1.2.2.2.2.1, (d.2.1.2.2.2.2.2.1, (d.2.1.2.2.2.2.2.2.1, (d.2.1.2.2.2.2.2.2.2.1, ())))))))), ()))
def c_law08_Document : List Nat := []
def L_law08_Document (_ : Nat) : Pts po_law08_Document.den := []
def R_law08_Document (_ : Nat) : PtsR po_law08_Document.den := []
def E_law08_Document : Env := E0
theorem q_law08_Document_m (k : Nat) (d : Unit × ((Int × (Int × (Int × (Int × (Int × (Int × (Int × (Int × Unit)))))))) × Unit)) : evCode E_law08_Document (tb (L_law08_Document k) (R_law08_Document k)) c_law08_Document (bodyOf Tryz.f8) 0 (finK E_law08_Document po_law08_Document [.cell 2 30]) (startSt pi_law08_Document 20 d) = f_law08_Document_m () d := by kernel_rfl
def g_law08_Document (d : Unit × ((Int × (Int × (Int × (Int × (Int × (Int × (Int × (Int × Unit)))))))) × Unit)) : Option (Unit × ((Int × (Int × (Int × (Int × (Int × (Int × (Int × (Int × Unit)))))))) × Unit)) := f_law08_Document_m () d
theorem ok_law08_Document : FnOk Tryz.prog ET0 8 pi_law08_Document po_law08_Document g_law08_Document :=
  fn_of_body (E := E_law08_Document) e0_ok (fn := Tryz.f8) Tryz.func8 (by kernel_rfl) (by kernel_rfl) [.cell 2 30] (by kernel_rfl) (by kernel_rfl) (by decide) rfl c_law08_Document L_law08_Document R_law08_Document
    (by intro x hx; cases hx) (by intro k x hx; cases hx) (by intro x hx; cases hx) (by intro k x hx; cases hx) (fun d out h => ⟨0, (q_law08_Document_m 0 d).trans h⟩)

/- horologe/horologeref05.Year -/
@[reducible] def pi_ref05_Year : PSh := ⟨[], [.mk false [.v (.int .i64)]]⟩
@[reducible] def po_ref05_Year : PSh := ⟨[], [.mk false [.v .bool]]⟩
def f_ref05_Year_m (T : Unit) (d : Unit × ((Int × Unit) × Unit)) : Option (Unit × ((Bool × Unit) × Unit)) :=
  let x1 : Bool := (decide (d.2.1.1 ≥ (-9999 : Int)))
  bif x1 then (
  let x2 : Bool := (decide (d.2.1.1 ≤ (9999 : Int)))
  some ((), ((x2, ()), ())))
  else (
  some ((), ((false, ()), ())))
def c_ref05_Year : List Nat := []
def L_ref05_Year (_ : Nat) : Pts po_ref05_Year.den := []
def R_ref05_Year (_ : Nat) : PtsR po_ref05_Year.den := []
def E_ref05_Year : Env := E0
theorem q_ref05_Year_m (k : Nat) (d : Unit × ((Int × Unit) × Unit)) : evCode E_ref05_Year (tb (L_ref05_Year k) (R_ref05_Year k)) c_ref05_Year (bodyOf Tryz.f54) 0 (finK E_ref05_Year po_ref05_Year [.tmp 2]) (startSt pi_ref05_Year 9 d) = f_ref05_Year_m () d := by kernel_rfl
def g_ref05_Year (d : Unit × ((Int × Unit) × Unit)) : Option (Unit × ((Bool × Unit) × Unit)) := f_ref05_Year_m () d
theorem ok_ref05_Year : FnOk Tryz.prog ET0 54 pi_ref05_Year po_ref05_Year g_ref05_Year :=
  fn_of_body (E := E_ref05_Year) e0_ok (fn := Tryz.f54) Tryz.func54 (by kernel_rfl) (by kernel_rfl) [.tmp 2] (by kernel_rfl) (by kernel_rfl) (by decide) rfl c_ref05_Year L_ref05_Year R_ref05_Year
    (by intro x hx; cases hx) (by intro k x hx; cases hx) (by intro x hx; cases hx) (by intro k x hx; cases hx) (fun d out h => ⟨0, (q_ref05_Year_m 0 d).trans h⟩)

/- horologe/horologeref05.Leap -/
@[reducible] def pi_ref05_Leap : PSh := ⟨[], [.mk false [.v (.int .i64)]]⟩
@[reducible] def po_ref05_Leap : PSh := ⟨[], [.mk false [.v .bool]]⟩
def f_ref05_Leap_m (T : Unit) (d : Unit × ((Int × Unit) × Unit)) : Option (Unit × ((Bool × Unit) × Unit)) :=
  let x1 : Int := (Int.tmod d.2.1.1 (400 : Int))
  let x2 : Bool := (x1 == (0 : Int))
  bif x2 then (
  some ((), ((true, ()), ())))
  else (
  let x3 : Int := (Int.tmod d.2.1.1 (4 : Int))
  let x4 : Bool := (x3 == (0 : Int))
  bif x4 then (
  let x5 : Int := (Int.tmod d.2.1.1 (100 : Int))
  let x6 : Bool := (x5 != (0 : Int))
  some ((), ((x6, ()), ())))
  else (
  some ((), ((false, ()), ()))))
def c_ref05_Leap : List Nat := []
def L_ref05_Leap (_ : Nat) : Pts po_ref05_Leap.den := []
def R_ref05_Leap (_ : Nat) : PtsR po_ref05_Leap.den := []
def E_ref05_Leap : Env := E0
theorem q_ref05_Leap_m (k : Nat) (d : Unit × ((Int × Unit) × Unit)) : evCode E_ref05_Leap (tb (L_ref05_Leap k) (R_ref05_Leap k)) c_ref05_Leap (bodyOf Tryz.f95) 0 (finK E_ref05_Leap po_ref05_Leap [.tmp 2]) (startSt pi_ref05_Leap 14 d) = f_ref05_Leap_m () d := by kernel_rfl
def g_ref05_Leap (d : Unit × ((Int × Unit) × Unit)) : Option (Unit × ((Bool × Unit) × Unit)) := f_ref05_Leap_m () d
theorem ok_ref05_Leap : FnOk Tryz.prog ET0 95 pi_ref05_Leap po_ref05_Leap g_ref05_Leap :=
  fn_of_body (E := E_ref05_Leap) e0_ok (fn := Tryz.f95) Tryz.func95 (by kernel_rfl) (by kernel_rfl) [.tmp 2] (by kernel_rfl) (by kernel_rfl) (by decide) rfl c_ref05_Leap L_ref05_Leap R_ref05_Leap
    (by intro x hx; cases hx) (by intro k x hx; cases hx) (by intro x hx; cases hx) (by intro k x hx; cases hx) (fun d out h => ⟨0, (q_ref05_Leap_m 0 d).trans h⟩)

/- horologe/horologeref05.Month -/
@[reducible] def pi_ref05_Month : PSh := ⟨[], [.mk false [.v (.int .i64)], .mk false [.v (.int .i64)]]⟩
@[reducible] def po_ref05_Month : PSh := ⟨[], [.mk false [.v (.int .i64)]]⟩
def f_ref05_Month_m (T : Unit) (d : Unit × ((Int × Unit) × ((Int × Unit) × Unit))) : Option (Unit × ((Int × Unit) × Unit)) :=
  let x1 : (List Int) := ([(31 : Int), (28 : Int), (31 : Int), (30 : Int), (31 : Int), (30 : Int), (31 : Int), (31 : Int), (30 : Int), (31 : Int), (30 : Int), (31 : Int)] : List Int)
  let x2 : Bool := (d.2.2.1.1 == (2 : Int))
  bif x2 then (
  (g_ref05_Leap ((), ((d.2.1.1, ()), ()))).bind fun x3 =>
  bif x3.2.1.1 then (
  some ((), (((29 : Int), ()), ())))
  else (
  let x4 : Int := (isub .i64 d.2.2.1.1 (1 : Int))
  bif decide ((0 : Int) ≤ x4) && decide (x4 < (x1.length : Int)) then (
  some ((), (((gd (.int .i64) x1 x4), ()), ())))
  else none))
  else (
  let x5 : Int := (isub .i64 d.2.2.1.1 (1 : Int))
  bif decide ((0 : Int) ≤ x5) && decide (x5 < (x1.length : Int)) then (
  some ((), (((gd (.int .i64) x1 x5), ()), ())))
  else none)
def c_ref05_Month : List Nat := []
def L_ref05_Month (_ : Nat) : Pts po_ref05_Month.den := []
def R_ref05_Month (_ : Nat) : PtsR po_ref05_Month.den := []
def E_ref05_Month : Env := (E0.add 95 (typedSem pi_ref05_Leap po_ref05_Leap g_ref05_Leap))
theorem q_ref05_Month_m (k : Nat) (d : Unit × ((Int × Unit) × ((Int × Unit) × Unit))) : evCode E_ref05_Month (tb (L_ref05_Month k) (R_ref05_Month k)) c_ref05_Month (bodyOf Tryz.f55) 0 (finK E_ref05_Month po_ref05_Month [.tmp 4]) (startSt pi_ref05_Month 18 d) = f_ref05_Month_m () d := by kernel_rfl
def g_ref05_Month (d : Unit × ((Int × Unit) × ((Int × Unit) × Unit))) : Option (Unit × ((Int × Unit) × Unit)) := f_ref05_Month_m () d
theorem ok_ref05_Month : FnOk Tryz.prog ET0 55 pi_ref05_Month po_ref05_Month g_ref05_Month :=
  fn_of_body (E := E_ref05_Month) (envOk_add e0_ok (typed_ok ok_ref05_Leap)) (fn := Tryz.f55) Tryz.func55 (by kernel_rfl) (by kernel_rfl) [.tmp 4] (by kernel_rfl) (by kernel_rfl) (by decide) rfl c_ref05_Month L_ref05_Month R_ref05_Month
    (by intro x hx; cases hx) (by intro k x hx; cases hx) (by intro x hx; cases hx) (by intro k x hx; cases hx) (fun d out h => ⟨0, (q_ref05_Month_m 0 d).trans h⟩)

/- horologe/horologeref05.Check -/
@[reducible] def pi_ref05_Check : PSh := ⟨[], [.mk false [.v (.int .i64)], .mk false [.v (.int .i64)], .mk false [.v (.int .i64)]]⟩
@[reducible] def po_ref05_Check : PSh := ⟨[], [.mk false [.v (.int .i64)]]⟩
def f_ref05_Check_m (T : Unit) (d : Unit × ((Int × Unit) × ((Int × Unit) × ((Int × Unit) × Unit)))) : Option (Unit × ((Int × Unit) × Unit)) :=
  (g_ref05_Year ((), ((d.2.1.1, ()), ()))).bind fun x1 =>
  let x2 : Bool := (!x1.2.1.1)
  bif x2 then (
  some ((), (((13 : Int), ()), ())))
  else (
  let x3 : Bool := (decide (d.2.2.1.1 < (1 : Int)))
  bif x3 then (
  some ((), (((1 : Int), ()), ())))
  else (
  let x4 : Bool := (decide (d.2.2.1.1 > (12 : Int)))
  bif x4 then (
  some ((), (((1 : Int), ()), ())))
  else (
  let x5 : Bool := (decide (d.2.2.2.1.1 < (1 : Int)))
  bif x5 then (
  some ((), (((1 : Int), ()), ())))
  else (
  (g_ref05_Month ((), ((d.2.1.1, ()), ((d.2.2.1.1, ()), ())))).bind fun x6 =>
  let x7 : Bool := (decide (d.2.2.2.1.1 > x6.2.1.1))
  bif x7 then (
  some ((), (((1 : Int), ()), ())))
  else (
  some ((), (((0 : Int), ()), ())))))))
def c_ref05_Check : List Nat := []
def L_ref05_Check (_ : Nat) : Pts po_ref05_Check.den := []
def R_ref05_Check (_ : Nat) : PtsR po_ref05_Check.den := []
def E_ref05_Check : Env := ((E0.add 54 (typedSem pi_ref05_Year po_ref05_Year g_ref05_Year)).add 55 (typedSem pi_ref05_Month po_ref05_Month g_ref05_Month))
theorem q_ref05_Check_m (k : Nat) (d : Unit × ((Int × Unit) × ((Int × Unit) × ((Int × Unit) × Unit)))) : evCode E_ref05_Check (tb (L_ref05_Check k) (R_ref05_Check k)) c_ref05_Check (bodyOf Tryz.f25) 0 (finK E_ref05_Check po_ref05_Check [.tmp 6]) (startSt pi_ref05_Check 25 d) = f_ref05_Check_m () d := by kernel_rfl
def g_ref05_Check (d : Unit × ((Int × Unit) × ((Int × Unit) × ((Int × Unit) × Unit)))) : Option (Unit × ((Int × Unit) × Unit)) := f_ref05_Check_m () d
theorem ok_ref05_Check : FnOk Tryz.prog ET0 25 pi_ref05_Check po_ref05_Check g_ref05_Check :=
  fn_of_body (E := E_ref05_Check) (envOk_add (envOk_add e0_ok (typed_ok ok_ref05_Year)) (typed_ok ok_ref05_Month)) (fn := Tryz.f25) Tryz.func25 (by kernel_rfl) (by kernel_rfl) [.tmp 6] (by kernel_rfl) (by kernel_rfl) (by decide) rfl c_ref05_Check L_ref05_Check R_ref05_Check
    (by intro x hx; cases hx) (by intro k x hx; cases hx) (by intro x hx; cases hx) (by intro k x hx; cases hx) (fun d out h => ⟨0, (q_ref05_Check_m 0 d).trans h⟩)

/- horologe/horologeref05.Days -/
@[reducible] def pi_ref05_Days : PSh := ⟨[], [.mk false [.v (.int .i64)]]⟩
@[reducible] def po_ref05_Days : PSh := ⟨[], [.mk false [.v (.int .i64)]]⟩
def f_ref05_Days_m (T : Unit) (d : Unit × ((Int × Unit) × Unit)) : Option (Unit × ((Int × Unit) × Unit)) :=
  (g_ref05_Leap ((), ((d.2.1.1, ()), ()))).bind fun x1 =>
  bif x1.2.1.1 then (
  some ((), (((366 : Int), ()), ())))
  else (
  some ((), (((365 : Int), ()), ())))
def c_ref05_Days : List Nat := []
def L_ref05_Days (_ : Nat) : Pts po_ref05_Days.den := []
def R_ref05_Days (_ : Nat) : PtsR po_ref05_Days.den := []
def E_ref05_Days : Env := (E0.add 95 (typedSem pi_ref05_Leap po_ref05_Leap g_ref05_Leap))
theorem q_ref05_Days_m (k : Nat) (d : Unit × ((Int × Unit) × Unit)) : evCode E_ref05_Days (tb (L_ref05_Days k) (R_ref05_Days k)) c_ref05_Days (bodyOf Tryz.f142) 0 (finK E_ref05_Days po_ref05_Days [.tmp 2]) (startSt pi_ref05_Days 5 d) = f_ref05_Days_m () d := by kernel_rfl
def g_ref05_Days (d : Unit × ((Int × Unit) × Unit)) : Option (Unit × ((Int × Unit) × Unit)) := f_ref05_Days_m () d
theorem ok_ref05_Days : FnOk Tryz.prog ET0 142 pi_ref05_Days po_ref05_Days g_ref05_Days :=
  fn_of_body (E := E_ref05_Days) (envOk_add e0_ok (typed_ok ok_ref05_Leap)) (fn := Tryz.f142) Tryz.func142 (by kernel_rfl) (by kernel_rfl) [.tmp 2] (by kernel_rfl) (by kernel_rfl) (by decide) rfl c_ref05_Days L_ref05_Days R_ref05_Days
    (by intro x hx; cases hx) (by intro k x hx; cases hx) (by intro x hx; cases hx) (by intro k x hx; cases hx) (fun d out h => ⟨0, (q_ref05_Days_m 0 d).trans h⟩)

/- horologe/horologeref05.Start -/
@[reducible] def pi_ref05_Start : PSh := ⟨[], [.mk false [.v (.int .i64)]]⟩
@[reducible] def po_ref05_Start : PSh := ⟨[], [.mk false [.v (.int .i64)]]⟩
@[reducible] def TT_ref05_Start : Type := (((Unit × ((Int × Unit) × ((Int × Unit) × Unit))) → Option (Unit × ((Int × Unit) × Unit))) × (((Unit × ((Int × Unit) × ((Int × Unit) × Unit))) → Option (Unit × ((Int × Unit) × Unit))) × (((Unit × ((Int × Unit) × ((Int × Unit) × ((Int × Unit) × Unit)))) → Option (Unit × ((Int × Unit) × Unit))) × Unit)))
@[reducible] def sh_ref05_Start_3 : PSh := ⟨[], [.mk false [.v (.int .i64)], .any, .any, .mk false [.v (.int .i64)], .any, .any, .any, .any, .any, .any, .any, .any, .any, .any, .any, .any, .any, .any, .any, .any, .any, .any, .any, .any, .any, .any, .any]⟩
@[reducible] def sh_ref05_Start_8 : PSh := ⟨[], [.mk false [.v (.int .i64)], .any, .any, .mk false [.v (.int .i64)], .any, .any, .any, .any, .any, .any, .any, .any, .any, .any, .any, .any, .any, .any, .any, .any, .any, .any, .any, .any, .any, .any, .any]⟩
@[reducible] def sh_ref05_Start_14 : PSh := ⟨[], [.mk false [.v (.int .i64)], .any, .any, .mk false [.v (.int .i64)], .mk false [.v (.int .i64)], .any, .any, .any, .any, .any, .any, .any, .any, .any, .any, .any, .any, .any, .any, .any, .any, .any, .any, .any, .any, .any, .any]⟩
def f_ref05_Start_p3 (T : TT_ref05_Start) (d : Unit × ((Int × Unit) × ((Int × Unit) × Unit))) : Option (Unit × ((Int × Unit) × Unit)) :=
  let x1 : Bool := (decide (d.2.1.1 < (1970 : Int)))
  bif x1 then (
  let x2 : Int := (iadd .i64 d.2.1.1 (400 : Int))
  let x3 : Int := (isub .i64 d.2.2.1.1 (146097 : Int))
  (T.1 ((), ((x2, ()), ((x3, ()), ())))))
  else (
  (T.2.1 ((), ((d.2.1.1, ()), ((d.2.2.1.1, ()), ())))))
def f_ref05_Start_p8 (T : TT_ref05_Start) (d : Unit × ((Int × Unit) × ((Int × Unit) × Unit))) : Option (Unit × ((Int × Unit) × Unit)) :=
  let x4 : Bool := (decide (d.2.1.1 ≥ (2370 : Int)))
  bif x4 then (
  let x5 : Int := (isub .i64 d.2.1.1 (400 : Int))
  let x6 : Int := (iadd .i64 d.2.2.1.1 (146097 : Int))
  (T.2.1 ((), ((x5, ()), ((x6, ()), ())))))
  else (
  (T.2.2.1 ((), ((d.2.1.1, ()), ((d.2.2.1.1, ()), (((1970 : Int), ()), ()))))))
def f_ref05_Start_p14 (T : TT_ref05_Start) (d : Unit × ((Int × Unit) × ((Int × Unit) × ((Int × Unit) × Unit)))) : Option (Unit × ((Int × Unit) × Unit)) :=
  let x7 : Bool := (decide (d.2.2.2.1.1 < d.2.1.1))
  bif x7 then (
  (g_ref05_Days ((), ((d.2.2.2.1.1, ()), ()))).bind fun x8 =>
  let x9 : Int := (iadd .i64 d.2.2.1.1 x8.2.1.1)
  let x10 : Int := (iadd .i64 d.2.2.2.1.1 (1 : Int))
  (T.2.2.1 ((), ((d.2.1.1, ()), ((x9, ()), ((x10, ()), ()))))))
  else (
  some ((), ((d.2.2.1.1, ()), ())))
def f_ref05_Start_t : Nat → TT_ref05_Start
  | 0 => (fun _ => none, (fun _ => none, (fun _ => none, ())))
  | k + 1 => (f_ref05_Start_p3 (f_ref05_Start_t k), (f_ref05_Start_p8 (f_ref05_Start_t k), (f_ref05_Start_p14 (f_ref05_Start_t k), ())))
theorem t_ref05_Start (k : Nat) : f_ref05_Start_t (k + 1) = (f_ref05_Start_p3 (f_ref05_Start_t k), (f_ref05_Start_p8 (f_ref05_Start_t k), (f_ref05_Start_p14 (f_ref05_Start_t k), ()))) := rfl
def f_ref05_Start_m (T : TT_ref05_Start) (d : Unit × ((Int × Unit) × Unit)) : Option (Unit × ((Int × Unit) × Unit)) :=
  (T.1 ((), ((d.2.1.1, ()), (((0 : Int), ()), ()))))
def c_ref05_Start : List Nat := []
def L_ref05_Start (k : Nat) : Pts po_ref05_Start.den := [(3, ⟨sh_ref05_Start_3, (f_ref05_Start_t k).1⟩), (8, ⟨sh_ref05_Start_8, (f_ref05_Start_t k).2.1⟩), (14, ⟨sh_ref05_Start_14, (f_ref05_Start_t k).2.2.1⟩)]
def R_ref05_Start (_ : Nat) : PtsR po_ref05_Start.den := []
def E_ref05_Start : Env := (E0.add 142 (typedSem pi_ref05_Days po_ref05_Days g_ref05_Days))
theorem q_ref05_Start_3 (k : Nat) (d : Unit × ((Int × Unit) × ((Int × Unit) × Unit))) : evAt E_ref05_Start (tb (L_ref05_Start k) (R_ref05_Start k)) c_ref05_Start 3 (bodyOf Tryz.f96) 0 (finK E_ref05_Start po_ref05_Start [.tmp 2]) (ptSt sh_ref05_Start_3 d) = f_ref05_Start_p3 (f_ref05_Start_t k) d := by kernel_rfl
theorem q_ref05_Start_8 (k : Nat) (d : Unit × ((Int × Unit) × ((Int × Unit) × Unit))) : evAt E_ref05_Start (tb (L_ref05_Start k) (R_ref05_Start k)) c_ref05_Start 8 (bodyOf Tryz.f96) 0 (finK E_ref05_Start po_ref05_Start [.tmp 2]) (ptSt sh_ref05_Start_8 d) = f_ref05_Start_p8 (f_ref05_Start_t k) d := by kernel_rfl
theorem q_ref05_Start_14 (k : Nat) (d : Unit × ((Int × Unit) × ((Int × Unit) × ((Int × Unit) × Unit)))) : evAt E_ref05_Start (tb (L_ref05_Start k) (R_ref05_Start k)) c_ref05_Start 14 (bodyOf Tryz.f96) 0 (finK E_ref05_Start po_ref05_Start [.tmp 2]) (ptSt sh_ref05_Start_14 d) = f_ref05_Start_p14 (f_ref05_Start_t k) d := by kernel_rfl
theorem q_ref05_Start_m (k : Nat) (d : Unit × ((Int × Unit) × Unit)) : evCode E_ref05_Start (tb (L_ref05_Start k) (R_ref05_Start k)) c_ref05_Start (bodyOf Tryz.f96) 0 (finK E_ref05_Start po_ref05_Start [.tmp 2]) (startSt pi_ref05_Start 27 d) = f_ref05_Start_m (f_ref05_Start_t k) d := by kernel_rfl
theorem go_ref05_Start (F : Unit × ((Int × Unit) × Unit) → Option (Unit × ((Int × Unit) × Unit))) (hF : ∀ d out, F d = some out → ∃ k, f_ref05_Start_m (f_ref05_Start_t k) d = some out) : FnOk Tryz.prog ET0 96 pi_ref05_Start po_ref05_Start F :=
  fn_of_body (E := E_ref05_Start) (envOk_add e0_ok (typed_ok ok_ref05_Days)) (fn := Tryz.f96) Tryz.func96 (by kernel_rfl) (by kernel_rfl) [.tmp 2] (by kernel_rfl) (by kernel_rfl) (by decide) rfl c_ref05_Start L_ref05_Start R_ref05_Start
    (by intro x hx d; simp only [L_ref05_Start, List.mem_cons, List.not_mem_nil, or_false] at hx; rcases hx with rfl | rfl | rfl; rfl; rfl; rfl)
    (by intro k x hx d out h; simp only [L_ref05_Start, List.mem_cons, List.not_mem_nil, or_false] at hx; rcases hx with rfl | rfl | rfl; exact (q_ref05_Start_3 k d).trans h; exact (q_ref05_Start_8 k d).trans h; exact (q_ref05_Start_14 k d).trans h)
    (by intro x hx; cases hx)
    (by intro k x hx; cases hx)
    (by intro d out h; obtain ⟨k, hk⟩ := hF d out h; exact ⟨k, (q_ref05_Start_m k d).trans hk⟩)
def g_ref05_Start (d : Unit × ((Int × Unit) × Unit)) : Option (Unit × ((Int × Unit) × Unit)) := lim fun k => f_ref05_Start_m (f_ref05_Start_t k) d
theorem ok_ref05_Start : FnOk Tryz.prog ET0 96 pi_ref05_Start po_ref05_Start g_ref05_Start := go_ref05_Start g_ref05_Start fun d out h => lim_some h

/- horologe/horologeref05.Of -/
@[reducible] def pi_ref05_Of : PSh := ⟨[], [.mk false [.v (.int .i64)], .mk false [.v (.int .i64)], .mk false [.v (.int .i64)]]⟩
@[reducible] def po_ref05_Of : PSh := ⟨[], [.mk false [.v (.int .i64)]]⟩
@[reducible] def TT_ref05_Of : Type := (((Unit × ((Int × Unit) × ((Int × Unit) × ((Int × Unit) × ((Int × Unit) × Unit))))) → Option (Unit × ((Int × Unit) × Unit))) × Unit)
@[reducible] def sh_ref05_Of_4 : PSh := ⟨[], [.mk false [.v (.int .i64)], .mk false [.v (.int .i64)], .any, .any, .any, .any, .any, .mk false [.v (.int .i64)], .mk false [.v (.int .i64)], .any, .any, .any, .any, .any, .any, .any, .any, .any, .any, .any, .any, .any, .any, .any, .any]⟩
def f_ref05_Of_p4 (T : TT_ref05_Of) (d : Unit × ((Int × Unit) × ((Int × Unit) × ((Int × Unit) × ((Int × Unit) × Unit))))) : Option (Unit × ((Int × Unit) × Unit)) :=
  let x4 : Bool := (decide (d.2.2.2.2.1.1 < d.2.2.1.1))
  bif x4 then (
  (g_ref05_Month ((), ((d.2.1.1, ()), ((d.2.2.2.2.1.1, ()), ())))).bind fun x5 =>
  let x6 : Int := (iadd .i64 d.2.2.2.1.1 x5.2.1.1)
  let x7 : Int := (iadd .i64 d.2.2.2.2.1.1 (1 : Int))
  (T.1 ((), ((d.2.1.1, ()), ((d.2.2.1.1, ()), ((x6, ()), ((x7, ()), ())))))))
  else (
  some ((), ((d.2.2.2.1.1, ()), ())))
def f_ref05_Of_t : Nat → TT_ref05_Of
  | 0 => (fun _ => none, ())
  | k + 1 => (f_ref05_Of_p4 (f_ref05_Of_t k), ())
theorem t_ref05_Of (k : Nat) : f_ref05_Of_t (k + 1) = (f_ref05_Of_p4 (f_ref05_Of_t k), ()) := rfl
def f_ref05_Of_m (T : TT_ref05_Of) (d : Unit × ((Int × Unit) × ((Int × Unit) × ((Int × Unit) × Unit)))) : Option (Unit × ((Int × Unit) × Unit)) :=
  (g_ref05_Start ((), ((d.2.1.1, ()), ()))).bind fun x1 =>
  let x2 : Int := (iadd .i64 x1.2.1.1 d.2.2.2.1.1)
  let x3 : Int := (isub .i64 x2 (1 : Int))
  (T.1 ((), ((d.2.1.1, ()), ((d.2.2.1.1, ()), ((x3, ()), (((1 : Int), ()), ()))))))
def c_ref05_Of : List Nat := []
def L_ref05_Of (k : Nat) : Pts po_ref05_Of.den := [(4, ⟨sh_ref05_Of_4, (f_ref05_Of_t k).1⟩)]
def R_ref05_Of (_ : Nat) : PtsR po_ref05_Of.den := []
def E_ref05_Of : Env := ((E0.add 55 (typedSem pi_ref05_Month po_ref05_Month g_ref05_Month)).add 96 (typedSem pi_ref05_Start po_ref05_Start g_ref05_Start))
theorem q_ref05_Of_4 (k : Nat) (d : Unit × ((Int × Unit) × ((Int × Unit) × ((Int × Unit) × ((Int × Unit) × Unit))))) : evAt E_ref05_Of (tb (L_ref05_Of k) (R_ref05_Of k)) c_ref05_Of 4 (bodyOf Tryz.f56) 0 (finK E_ref05_Of po_ref05_Of [.tmp 6]) (ptSt sh_ref05_Of_4 d) = f_ref05_Of_p4 (f_ref05_Of_t k) d := by kernel_rfl
theorem q_ref05_Of_m (k : Nat) (d : Unit × ((Int × Unit) × ((Int × Unit) × ((Int × Unit) × Unit)))) : evCode E_ref05_Of (tb (L_ref05_Of k) (R_ref05_Of k)) c_ref05_Of (bodyOf Tryz.f56) 0 (finK E_ref05_Of po_ref05_Of [.tmp 6]) (startSt pi_ref05_Of 25 d) = f_ref05_Of_m (f_ref05_Of_t k) d := by kernel_rfl
theorem go_ref05_Of (F : Unit × ((Int × Unit) × ((Int × Unit) × ((Int × Unit) × Unit))) → Option (Unit × ((Int × Unit) × Unit))) (hF : ∀ d out, F d = some out → ∃ k, f_ref05_Of_m (f_ref05_Of_t k) d = some out) : FnOk Tryz.prog ET0 56 pi_ref05_Of po_ref05_Of F :=
  fn_of_body (E := E_ref05_Of) (envOk_add (envOk_add e0_ok (typed_ok ok_ref05_Month)) (typed_ok ok_ref05_Start)) (fn := Tryz.f56) Tryz.func56 (by kernel_rfl) (by kernel_rfl) [.tmp 6] (by kernel_rfl) (by kernel_rfl) (by decide) rfl c_ref05_Of L_ref05_Of R_ref05_Of
    (by intro x hx d; simp only [L_ref05_Of, List.mem_cons, List.not_mem_nil, or_false] at hx; subst hx; rfl)
    (by intro k x hx d out h; simp only [L_ref05_Of, List.mem_cons, List.not_mem_nil, or_false] at hx; subst hx; exact (q_ref05_Of_4 k d).trans h)
    (by intro x hx; cases hx)
    (by intro k x hx; cases hx)
    (by intro d out h; obtain ⟨k, hk⟩ := hF d out h; exact ⟨k, (q_ref05_Of_m k d).trans hk⟩)
def g_ref05_Of (d : Unit × ((Int × Unit) × ((Int × Unit) × ((Int × Unit) × Unit)))) : Option (Unit × ((Int × Unit) × Unit)) := lim fun k => f_ref05_Of_m (f_ref05_Of_t k) d
theorem ok_ref05_Of : FnOk Tryz.prog ET0 56 pi_ref05_Of po_ref05_Of g_ref05_Of := go_ref05_Of g_ref05_Of fun d out h => lim_some h

/- horologe/horologeref08.Moment -/
@[reducible] def pi_ref08_Moment : PSh := ⟨[], [.mk true [.v (.int .i64), .v (.int .i64), .v (.int .i64), .v (.int .i64), .v (.int .i64), .v (.int .i64), .v (.int .i64), .v (.int .i64)]]⟩
@[reducible] def po_ref08_Moment : PSh := ⟨[], [.mk false [.v (.int .i64)], .mk false [.v (.int .i64)]]⟩
@[reducible] def TT_ref08_Moment : Type := (((Unit × ((Int × Unit) × ((Int × Unit) × Unit))) → Option (Unit × ((Int × Unit) × ((Int × Unit) × Unit)))) × (((Unit × ((Int × Unit) × ((Int × Unit) × Unit))) → Option (Unit × ((Int × Unit) × ((Int × Unit) × Unit)))) × Unit))
@[reducible] def sh_ref08_Moment_4 : PSh := ⟨[], [.any, .any, .any, .any, .mk false [.v (.int .i64)], .mk false [.v (.int .i64)], .any, .any, .any, .any, .any, .any, .any, .any, .any, .any, .any, .any, .any, .any, .any, .any, .any, .any, .any, .any, .any, .any, .any, .any, .any, .any, .any, .any, .any, .any]⟩
@[reducible] def sh_ref08_Moment_9 : PSh := ⟨[], [.any, .any, .any, .any, .mk false [.v (.int .i64)], .mk false [.v (.int .i64)], .any, .any, .any, .any, .any, .any, .any, .any, .any, .any, .any, .any, .any, .any, .any, .any, .any, .any, .any, .any, .any, .any, .any, .any, .any, .any, .any, .any, .any, .any]⟩
def f_ref08_Moment_p4 (T : TT_ref08_Moment) (d : Unit × ((Int × Unit) × ((Int × Unit) × Unit))) : Option (Unit × ((Int × Unit) × ((Int × Unit) × Unit))) :=
  let x5 : Bool := (decide (d.2.2.1.1 < (0 : Int)))
  bif x5 then (
  let x6 : Int := (iadd .i64 d.2.2.1.1 (1440 : Int))
  let x7 : Int := (isub .i64 d.2.1.1 (1 : Int))
  (T.1 ((), ((x7, ()), ((x6, ()), ())))))
  else (
  (T.2.1 ((), ((d.2.1.1, ()), ((d.2.2.1.1, ()), ())))))
def f_ref08_Moment_p9 (T : TT_ref08_Moment) (d : Unit × ((Int × Unit) × ((Int × Unit) × Unit))) : Option (Unit × ((Int × Unit) × ((Int × Unit) × Unit))) :=
  let x8 : Bool := (decide (d.2.2.1.1 ≥ (1440 : Int)))
  bif x8 then (
  let x9 : Int := (isub .i64 d.2.2.1.1 (1440 : Int))
  let x10 : Int := (iadd .i64 d.2.1.1 (1 : Int))
  (T.2.1 ((), ((x10, ()), ((x9, ()), ())))))
  else (
  some ((), ((d.2.1.1, ()), ((d.2.2.1.1, ()), ()))))
def f_ref08_Moment_t : Nat → TT_ref08_Moment
  | 0 => (fun _ => none, (fun _ => none, ()))
  | k + 1 => (f_ref08_Moment_p4 (f_ref08_Moment_t k), (f_ref08_Moment_p9 (f_ref08_Moment_t k), ()))
theorem t_ref08_Moment (k : Nat) : f_ref08_Moment_t (k + 1) = (f_ref08_Moment_p4 (f_ref08_Moment_t k), (f_ref08_Moment_p9 (f_ref08_Moment_t k), ())) := rfl
def f_ref08_Moment_m (T : TT_ref08_Moment) (d : Unit × ((Int × (Int × (Int × (Int × (Int × (Int × (Int × (Int × Unit)))))))) × Unit)) : Option (Unit × ((Int × Unit) × ((Int × Unit) × Unit))) :=
  (g_ref05_Of ((), ((d.2.1.1, ()), ((d.2.1.2.1, ()), ((d.2.1.2.2.1, ()), ()))))).bind fun x1 =>
  let x2 : Int := (imul .i64 d.2.1.2.2.2.1 (60 : Int))
  let x3 : Int := (iadd .i64 x2 d.2.1.2.2.2.2.1)
  let x4 : Int := (isub .i64 x3 d.2.1.2.2.2.2.2.2.2.1)
  (T.1 ((), ((x1.2.1.1, ()), ((x4, ()), ()))))
def c_ref08_Moment : List Nat := []
def L_ref08_Moment (k : Nat) : Pts po_ref08_Moment.den := [(4, ⟨sh_ref08_Moment_4, (f_ref08_Moment_t k).1⟩), (9, ⟨sh_ref08_Moment_9, (f_ref08_Moment_t k).2.1⟩)]
def R_ref08_Moment (_ : Nat) : PtsR po_ref08_Moment.den := []
def E_ref08_Moment : Env := (E0.add 56 (typedSem pi_ref05_Of po_ref05_Of g_ref05_Of))
theorem q_ref08_Moment_4 (k : Nat) (d : Unit × ((Int × Unit) × ((Int × Unit) × Unit))) : evAt E_ref08_Moment (tb (L_ref08_Moment k) (R_ref08_Moment k)) c_ref08_Moment 4 (bodyOf Tryz.f26) 0 (finK E_ref08_Moment po_ref08_Moment [.tmp 2, .tmp 3]) (ptSt sh_ref08_Moment_4 d) = f_ref08_Moment_p4 (f_ref08_Moment_t k) d := by kernel_rfl
theorem q_ref08_Moment_9 (k : Nat) (d : Unit × ((Int × Unit) × ((Int × Unit) × Unit))) : evAt E_ref08_Moment (tb (L_ref08_Moment k) (R_ref08_Moment k)) c_ref08_Moment 9 (bodyOf Tryz.f26) 0 (finK E_ref08_Moment po_ref08_Moment [.tmp 2, .tmp 3]) (ptSt sh_ref08_Moment_9 d) = f_ref08_Moment_p9 (f_ref08_Moment_t k) d := by kernel_rfl
theorem q_ref08_Moment_m (k : Nat) (d : Unit × ((Int × (Int × (Int × (Int × (Int × (Int × (Int × (Int × Unit)))))))) × Unit)) : evCode E_ref08_Moment (tb (L_ref08_Moment k) (R_ref08_Moment k)) c_ref08_Moment (bodyOf Tryz.f26) 0 (finK E_ref08_Moment po_ref08_Moment [.tmp 2, .tmp 3]) (startSt pi_ref08_Moment 36 d) = f_ref08_Moment_m (f_ref08_Moment_t k) d := by kernel_rfl
theorem go_ref08_Moment (F : Unit × ((Int × (Int × (Int × (Int × (Int × (Int × (Int × (Int × Unit)))))))) × Unit) → Option (Unit × ((Int × Unit) × ((Int × Unit) × Unit)))) (hF : ∀ d out, F d = some out → ∃ k, f_ref08_Moment_m (f_ref08_Moment_t k) d = some out) : FnOk Tryz.prog ET0 26 pi_ref08_Moment po_ref08_Moment F :=
  fn_of_body (E := E_ref08_Moment) (envOk_add e0_ok (typed_ok ok_ref05_Of)) (fn := Tryz.f26) Tryz.func26 (by kernel_rfl) (by kernel_rfl) [.tmp 2, .tmp 3] (by kernel_rfl) (by kernel_rfl) (by decide) rfl c_ref08_Moment L_ref08_Moment R_ref08_Moment
    (by intro x hx d; simp only [L_ref08_Moment, List.mem_cons, List.not_mem_nil, or_false] at hx; rcases hx with rfl | rfl; rfl; rfl)
    (by intro k x hx d out h; simp only [L_ref08_Moment, List.mem_cons, List.not_mem_nil, or_false] at hx; rcases hx with rfl | rfl; exact (q_ref08_Moment_4 k d).trans h; exact (q_ref08_Moment_9 k d).trans h)
    (by intro x hx; cases hx)
    (by intro k x hx; cases hx)
    (by intro d out h; obtain ⟨k, hk⟩ := hF d out h; exact ⟨k, (q_ref08_Moment_m k d).trans hk⟩)
def g_ref08_Moment (d : Unit × ((Int × (Int × (Int × (Int × (Int × (Int × (Int × (Int × Unit)))))))) × Unit)) : Option (Unit × ((Int × Unit) × ((Int × Unit) × Unit))) := lim fun k => f_ref08_Moment_m (f_ref08_Moment_t k) d
theorem ok_ref08_Moment : FnOk Tryz.prog ET0 26 pi_ref08_Moment po_ref08_Moment g_ref08_Moment := go_ref08_Moment g_ref08_Moment fun d out h => lim_some h

/- horologe/horologeref05.First -/
@[reducible] def pi_ref05_First : PSh := ⟨[], []⟩
@[reducible] def po_ref05_First : PSh := ⟨[], [.mk false [.v (.int .i64)]]⟩
def f_ref05_First_m (T : Unit) (d : Unit × Unit) : Option (Unit × ((Int × Unit) × Unit)) :=
  (g_ref05_Start ((), (((-9999 : Int), ()), ()))).bind fun x1 =>
  some ((), ((x1.2.1.1, ()), ()))
def c_ref05_First : List Nat := []
def L_ref05_First (_ : Nat) : Pts po_ref05_First.den := []
def R_ref05_First (_ : Nat) : PtsR po_ref05_First.den := []
def E_ref05_First : Env := (E0.add 96 (typedSem pi_ref05_Start po_ref05_Start g_ref05_Start))
theorem q_ref05_First_m (k : Nat) (d : Unit × Unit) : evCode E_ref05_First (tb (L_ref05_First k) (R_ref05_First k)) c_ref05_First (bodyOf Tryz.f57) 0 (finK E_ref05_First po_ref05_First [.tmp 0]) (startSt pi_ref05_First 2 d) = f_ref05_First_m () d := by kernel_rfl
def g_ref05_First (d : Unit × Unit) : Option (Unit × ((Int × Unit) × Unit)) := f_ref05_First_m () d
theorem ok_ref05_First : FnOk Tryz.prog ET0 57 pi_ref05_First po_ref05_First g_ref05_First :=
  fn_of_body (E := E_ref05_First) (envOk_add e0_ok (typed_ok ok_ref05_Start)) (fn := Tryz.f57) Tryz.func57 (by kernel_rfl) (by kernel_rfl) [.tmp 0] (by kernel_rfl) (by kernel_rfl) (by decide) rfl c_ref05_First L_ref05_First R_ref05_First
    (by intro x hx; cases hx) (by intro k x hx; cases hx) (by intro x hx; cases hx) (by intro k x hx; cases hx) (fun d out h => ⟨0, (q_ref05_First_m 0 d).trans h⟩)

/- horologe/horologeref05.Last -/
@[reducible] def pi_ref05_Last : PSh := ⟨[], []⟩
@[reducible] def po_ref05_Last : PSh := ⟨[], [.mk false [.v (.int .i64)]]⟩
def f_ref05_Last_m (T : Unit) (d : Unit × Unit) : Option (Unit × ((Int × Unit) × Unit)) :=
  (g_ref05_Start ((), (((10000 : Int), ()), ()))).bind fun x1 =>
  let x2 : Int := (isub .i64 x1.2.1.1 (1 : Int))
  some ((), ((x2, ()), ()))
def c_ref05_Last : List Nat := []
def L_ref05_Last (_ : Nat) : Pts po_ref05_Last.den := []
def R_ref05_Last (_ : Nat) : PtsR po_ref05_Last.den := []
def E_ref05_Last : Env := (E0.add 96 (typedSem pi_ref05_Start po_ref05_Start g_ref05_Start))
theorem q_ref05_Last_m (k : Nat) (d : Unit × Unit) : evCode E_ref05_Last (tb (L_ref05_Last k) (R_ref05_Last k)) c_ref05_Last (bodyOf Tryz.f58) 0 (finK E_ref05_Last po_ref05_Last [.tmp 0]) (startSt pi_ref05_Last 3 d) = f_ref05_Last_m () d := by kernel_rfl
def g_ref05_Last (d : Unit × Unit) : Option (Unit × ((Int × Unit) × Unit)) := f_ref05_Last_m () d
theorem ok_ref05_Last : FnOk Tryz.prog ET0 58 pi_ref05_Last po_ref05_Last g_ref05_Last :=
  fn_of_body (E := E_ref05_Last) (envOk_add e0_ok (typed_ok ok_ref05_Start)) (fn := Tryz.f58) Tryz.func58 (by kernel_rfl) (by kernel_rfl) [.tmp 0] (by kernel_rfl) (by kernel_rfl) (by decide) rfl c_ref05_Last L_ref05_Last R_ref05_Last
    (by intro x hx; cases hx) (by intro k x hx; cases hx) (by intro x hx; cases hx) (by intro k x hx; cases hx) (fun d out h => ⟨0, (q_ref05_Last_m 0 d).trans h⟩)

/- horologe/horologeref08.There -/
@[reducible] def pi_ref08_There : PSh := ⟨[], [.mk false [.v (.int .i64)]]⟩
@[reducible] def po_ref08_There : PSh := ⟨[], [.mk false [.v .bool]]⟩
def f_ref08_There_m (T : Unit) (d : Unit × ((Int × Unit) × Unit)) : Option (Unit × ((Bool × Unit) × Unit)) :=
  (g_ref05_First ((), ())).bind fun x1 =>
  let x2 : Bool := (decide (d.2.1.1 ≥ x1.2.1.1))
  bif x2 then (
  (g_ref05_Last ((), ())).bind fun x3 =>
  let x4 : Bool := (decide (d.2.1.1 ≤ x3.2.1.1))
  some ((), ((x4, ()), ())))
  else (
  some ((), ((false, ()), ())))
def c_ref08_There : List Nat := []
def L_ref08_There (_ : Nat) : Pts po_ref08_There.den := []
def R_ref08_There (_ : Nat) : PtsR po_ref08_There.den := []
def E_ref08_There : Env := ((E0.add 57 (typedSem pi_ref05_First po_ref05_First g_ref05_First)).add 58 (typedSem pi_ref05_Last po_ref05_Last g_ref05_Last))
theorem q_ref08_There_m (k : Nat) (d : Unit × ((Int × Unit) × Unit)) : evCode E_ref08_There (tb (L_ref08_There k) (R_ref08_There k)) c_ref08_There (bodyOf Tryz.f27) 0 (finK E_ref08_There po_ref08_There [.tmp 2]) (startSt pi_ref08_There 11 d) = f_ref08_There_m () d := by kernel_rfl
def g_ref08_There (d : Unit × ((Int × Unit) × Unit)) : Option (Unit × ((Bool × Unit) × Unit)) := f_ref08_There_m () d
theorem ok_ref08_There : FnOk Tryz.prog ET0 27 pi_ref08_There po_ref08_There g_ref08_There :=
  fn_of_body (E := E_ref08_There) (envOk_add (envOk_add e0_ok (typed_ok ok_ref05_First)) (typed_ok ok_ref05_Last)) (fn := Tryz.f27) Tryz.func27 (by kernel_rfl) (by kernel_rfl) [.tmp 2] (by kernel_rfl) (by kernel_rfl) (by decide) rfl c_ref08_There L_ref08_There R_ref08_There
    (by intro x hx; cases hx) (by intro k x hx; cases hx) (by intro x hx; cases hx) (by intro k x hx; cases hx) (fun d out h => ⟨0, (q_ref08_There_m 0 d).trans h⟩)

/- horologe/horologeref08.Check -/
@[reducible] def pi_ref08_Check : PSh := ⟨[], [.mk true [.v (.int .i64), .v (.int .i64), .v (.int .i64), .v (.int .i64), .v (.int .i64), .v (.int .i64), .v (.int .i64), .v (.int .i64)]]⟩
@[reducible] def po_ref08_Check : PSh := ⟨[], [.mk false [.v (.int .i64)]]⟩
def f_ref08_Check_m (T : Unit) (d : Unit × ((Int × (Int × (Int × (Int × (Int × (Int × (Int × (Int × Unit)))))))) × Unit)) : Option (Unit × ((Int × Unit) × Unit)) :=
  (g_ref05_Check ((), ((d.2.1.1, ()), ((d.2.1.2.1, ()), ((d.2.1.2.2.1, ()), ()))))).bind fun x1 =>
  let x2 : Bool := (x1.2.1.1 != (0 : Int))
  bif x2 then (
  some ((), ((x1.2.1.1, ()), ())))
  else (
  let x3 : Bool := (decide (d.2.1.2.2.2.1 < (0 : Int)))
  bif x3 then (
  some ((), (((1 : Int), ()), ())))
  else (
  let x4 : Bool := (decide (d.2.1.2.2.2.1 > (23 : Int)))
  bif x4 then (
  some ((), (((1 : Int), ()), ())))
  else (
  let x5 : Bool := (decide (d.2.1.2.2.2.2.1 < (0 : Int)))
  bif x5 then (
  some ((), (((1 : Int), ()), ())))
  else (
  let x6 : Bool := (decide (d.2.1.2.2.2.2.1 > (59 : Int)))
  bif x6 then (
  some ((), (((1 : Int), ()), ())))
  else (
  let x7 : Bool := (decide (d.2.1.2.2.2.2.2.1 < (0 : Int)))
  bif x7 then (
  some ((), (((1 : Int), ()), ())))
  else (
  let x8 : Bool := (decide (d.2.1.2.2.2.2.2.1 > (60 : Int)))
  bif x8 then (
  some ((), (((1 : Int), ()), ())))
  else (
  let x9 : Bool := (decide (d.2.1.2.2.2.2.2.2.1 < (0 : Int)))
  bif x9 then (
  some ((), (((1 : Int), ()), ())))
  else (
  let x10 : Bool := (decide (d.2.1.2.2.2.2.2.2.1 > (999999999 : Int)))
  bif x10 then (
  some ((), (((1 : Int), ()), ())))
  else (
  let x11 : Bool := (decide (d.2.1.2.2.2.2.2.2.2.1 < (-1439 : Int)))
  bif x11 then (
  some ((), (((1 : Int), ()), ())))
  else (
  let x12 : Bool := (decide (d.2.1.2.2.2.2.2.2.2.1 > (1439 : Int)))
  bif x12 then (
  some ((), (((1 : Int), ()), ())))
  else (
  (g_ref08_Moment ((), ((d.2.1.1, (d.2.1.2.1, (d.2.1.2.2.1, (d.2.1.2.2.2.1, (d.2.1.2.2.2.2.1, (d.2.1.2.2.2.2.2.1, (d.2.1.2.2.2.2.2.2.1, (d.2.1.2.2.2.2.2.2.2.1, ())))))))), ()))).bind fun x13 =>
  (g_ref08_There ((), ((x13.2.1.1, ()), ()))).bind fun x14 =>
  let x15 : Bool := (!x14.2.1.1)
  bif x15 then (
  some ((), (((13 : Int), ()), ())))
  else (
  let x16 : Bool := (d.2.1.2.2.2.2.2.1 == (60 : Int))
  bif x16 then (
  let x17 : Bool := (x13.2.2.1.1 != (1439 : Int))
  bif x17 then (
  some ((), (((12 : Int), ()), ())))
  else (
  some ((), (((0 : Int), ()), ()))))
  else (
  some ((), (((0 : Int), ()), ())))))))))))))))
def c_ref08_Check : List Nat := []
def L_ref08_Check (_ : Nat) : Pts po_ref08_Check.den := []
def R_ref08_Check (_ : Nat) : PtsR po_ref08_Check.den := []
def E_ref08_Check : Env := (((E0.add 25 (typedSem pi_ref05_Check po_ref05_Check g_ref05_Check)).add 26 (typedSem pi_ref08_Moment po_ref08_Moment g_ref08_Moment)).add 27 (typedSem pi_ref08_There po_ref08_There g_ref08_There))
theorem q_ref08_Check_m (k : Nat) (d : Unit × ((Int × (Int × (Int × (Int × (Int × (Int × (Int × (Int × Unit)))))))) × Unit)) : evCode E_ref08_Check (tb (L_ref08_Check k) (R_ref08_Check k)) c_ref08_Check (bodyOf Tryz.f9) 0 (finK E_ref08_Check po_ref08_Check [.tmp 2]) (startSt pi_ref08_Check 77 d) = f_ref08_Check_m () d := by kernel_rfl
def g_ref08_Check (d : Unit × ((Int × (Int × (Int × (Int × (Int × (Int × (Int × (Int × Unit)))))))) × Unit)) : Option (Unit × ((Int × Unit) × Unit)) := f_ref08_Check_m () d
theorem ok_ref08_Check : FnOk Tryz.prog ET0 9 pi_ref08_Check po_ref08_Check g_ref08_Check :=
  fn_of_body (E := E_ref08_Check) (envOk_add (envOk_add (envOk_add e0_ok (typed_ok ok_ref05_Check)) (typed_ok ok_ref08_Moment)) (typed_ok ok_ref08_There)) (fn := Tryz.f9) Tryz.func9 (by kernel_rfl) (by kernel_rfl) [.tmp 2] (by kernel_rfl) (by kernel_rfl) (by decide) rfl c_ref08_Check L_ref08_Check R_ref08_Check
    (by intro x hx; cases hx) (by intro k x hx; cases hx) (by intro x hx; cases hx) (by intro k x hx; cases hx) (fun d out h => ⟨0, (q_ref08_Check_m 0 d).trans h⟩)

/- horologe/horologenum.Num -/
@[reducible] def pi_hnum_Num : PSh := ⟨[], [.mk false [.v .err]]⟩
@[reducible] def po_hnum_Num : PSh := ⟨[], [.mk false [.v (.int .i64)]]⟩
def f_hnum_Num_m (T : Unit) (d : Unit × (((Option Int) × Unit) × Unit)) : Option (Unit × ((Int × Unit) × Unit)) :=
  bif d.2.1.1.isNone then (
  some ((), (((0 : Int), ()), ())))
  else (
  bif d.2.1.1.isSome then (
  let x1 : Bool := ((d.2.1.1.getD 0) != (0 : Int))
  bif x1 then (
  some ((), (((d.2.1.1.getD 0), ()), ())))
  else (
  some ((), (((-1 : Int), ()), ()))))
  else (
  some ((), (((-1 : Int), ()), ()))))
def c_hnum_Num : List Nat := []
def L_hnum_Num (_ : Nat) : Pts po_hnum_Num.den := []
def R_hnum_Num (_ : Nat) : PtsR po_hnum_Num.den := []
def E_hnum_Num : Env := E0
theorem q_hnum_Num_m (k : Nat) (d : Unit × (((Option Int) × Unit) × Unit)) : evCode E_hnum_Num (tb (L_hnum_Num k) (R_hnum_Num k)) c_hnum_Num (bodyOf Tryz.f10) 0 (finK E_hnum_Num po_hnum_Num [.tmp 2]) (startSt pi_hnum_Num 18 d) = f_hnum_Num_m () d := by kernel_rfl
def g_hnum_Num (d : Unit × (((Option Int) × Unit) × Unit)) : Option (Unit × ((Int × Unit) × Unit)) := f_hnum_Num_m () d
theorem ok_hnum_Num : FnOk Tryz.prog ET0 10 pi_hnum_Num po_hnum_Num g_hnum_Num :=
  fn_of_body (E := E_hnum_Num) e0_ok (fn := Tryz.f10) Tryz.func10 (by kernel_rfl) (by kernel_rfl) [.tmp 2] (by kernel_rfl) (by kernel_rfl) (by decide) rfl c_hnum_Num L_hnum_Num R_hnum_Num
    (by intro x hx; cases hx) (by intro k x hx; cases hx) (by intro x hx; cases hx) (by intro k x hx; cases hx) (fun d out h => ⟨0, (q_hnum_Num_m 0 d).trans h⟩)

/- horologe/horologeref02.Raw -/
@[reducible] def pi_ref02_Raw : PSh := ⟨[], [.mk false [.v (.int .i64)], .mk false [.v (.int .i64)]]⟩
@[reducible] def po_ref02_Raw : PSh := ⟨[], [.mk false [.v .str]]⟩
@[reducible] def TT_ref02_Raw : Type := (((Unit × ((Int × Unit) × ((Int × Unit) × ((ByteArray × Unit) × Unit)))) → Option (Unit × ((ByteArray × Unit) × Unit))) × (((Unit × ((Int × Unit) × ((ByteArray × Unit) × Unit))) → Option (Unit × ((ByteArray × Unit) × Unit))) × Unit))
@[reducible] def sh_ref02_Raw_3 : PSh := ⟨[], [.mk false [.v (.int .i64)], .mk false [.v (.int .i64)], .any, .any, .any, .mk false [.v .str], .any, .any, .any, .any, .any, .any, .any, .any, .any, .any, .any, .any, .any, .any, .any, .any, .any, .any, .any, .any, .any, .any, .any, .any]⟩
@[reducible] def sh_ref02_Raw_8 : PSh := ⟨[], [.any, .mk false [.v (.int .i64)], .any, .any, .any, .mk false [.v .str], .any, .any, .any, .any, .any, .any, .any, .any, .any, .any, .any, .any, .any, .any, .any, .any, .any, .any, .any, .any, .any, .any, .any, .any]⟩
def f_ref02_Raw_p3 (T : TT_ref02_Raw) (d : Unit × ((Int × Unit) × ((Int × Unit) × ((ByteArray × Unit) × Unit)))) : Option (Unit × ((ByteArray × Unit) × Unit)) :=
  let x1 : Bool := (decide (d.2.1.1 > (0 : Int)))
  bif x1 then (
  let x2 : Int := (Int.tmod d.2.1.1 (10 : Int))
  let x3 : Int := (iadd .i64 (48 : Int) x2)
  let x4 : Int := (iconv .u8 x3)
  let x5 : (List Int) := ([x4] : List Int)
  let x6 : ByteArray := (strOf x5)
  bif fitsS x6 d.2.2.2.1.1 then (
  let x7 : ByteArray := (x6 ++ d.2.2.2.1.1)
  let x8 : Int := (iquo .i64 d.2.1.1 (10 : Int))
  (T.1 ((), ((x8, ()), ((d.2.2.1.1, ()), ((x7, ()), ()))))))
  else none)
  else (
  (T.2.1 ((), ((d.2.2.1.1, ()), ((d.2.2.2.1.1, ()), ())))))
def f_ref02_Raw_p8 (T : TT_ref02_Raw) (d : Unit × ((Int × Unit) × ((ByteArray × Unit) × Unit))) : Option (Unit × ((ByteArray × Unit) × Unit)) :=
  let x9 : Int := (d.2.2.1.1.size : Int)
  let x10 : Bool := (decide (x9 < d.2.1.1))
  bif x10 then (
  bif fitsS (⟨#[48]⟩ : ByteArray) d.2.2.1.1 then (
  let x11 : ByteArray := ((⟨#[48]⟩ : ByteArray) ++ d.2.2.1.1)
  (T.2.1 ((), ((d.2.1.1, ()), ((x11, ()), ())))))
  else none)
  else (
  let x12 : Int := (d.2.2.1.1.size : Int)
  let x13 : Bool := (x12 == (0 : Int))
  bif x13 then (
  bif fitsS (⟨#[48]⟩ : ByteArray) d.2.2.1.1 then (
  let x14 : ByteArray := ((⟨#[48]⟩ : ByteArray) ++ d.2.2.1.1)
  (T.2.1 ((), ((d.2.1.1, ()), ((x14, ()), ())))))
  else none)
  else (
  some ((), ((d.2.2.1.1, ()), ()))))
def f_ref02_Raw_t : Nat → TT_ref02_Raw
  | 0 => (fun _ => none, (fun _ => none, ()))
  | k + 1 => (f_ref02_Raw_p3 (f_ref02_Raw_t k), (f_ref02_Raw_p8 (f_ref02_Raw_t k), ()))
theorem t_ref02_Raw (k : Nat) : f_ref02_Raw_t (k + 1) = (f_ref02_Raw_p3 (f_ref02_Raw_t k), (f_ref02_Raw_p8 (f_ref02_Raw_t k), ())) := rfl
def f_ref02_Raw_m (T : TT_ref02_Raw) (d : Unit × ((Int × Unit) × ((Int × Unit) × Unit))) : Option (Unit × ((ByteArray × Unit) × Unit)) :=
  (T.1 ((), ((d.2.1.1, ()), ((d.2.2.1.1, ()), (((⟨#[]⟩ : ByteArray), ()), ())))))
def c_ref02_Raw : List Nat := []
def L_ref02_Raw (k : Nat) : Pts po_ref02_Raw.den := [(3, ⟨sh_ref02_Raw_3, (f_ref02_Raw_t k).1⟩), (8, ⟨sh_ref02_Raw_8, (f_ref02_Raw_t k).2.1⟩)]
def R_ref02_Raw (_ : Nat) : PtsR po_ref02_Raw.den := []
def E_ref02_Raw : Env := E0
theorem q_ref02_Raw_3 (k : Nat) (d : Unit × ((Int × Unit) × ((Int × Unit) × ((ByteArray × Unit) × Unit)))) : evAt E_ref02_Raw (tb (L_ref02_Raw k) (R_ref02_Raw k)) c_ref02_Raw 3 (bodyOf Tryz.f29) 0 (finK E_ref02_Raw po_ref02_Raw [.tmp 4]) (ptSt sh_ref02_Raw_3 d) = f_ref02_Raw_p3 (f_ref02_Raw_t k) d := by kernel_rfl
theorem q_ref02_Raw_8 (k : Nat) (d : Unit × ((Int × Unit) × ((ByteArray × Unit) × Unit))) : evAt E_ref02_Raw (tb (L_ref02_Raw k) (R_ref02_Raw k)) c_ref02_Raw 8 (bodyOf Tryz.f29) 0 (finK E_ref02_Raw po_ref02_Raw [.tmp 4]) (ptSt sh_ref02_Raw_8 d) = f_ref02_Raw_p8 (f_ref02_Raw_t k) d := by kernel_rfl
theorem q_ref02_Raw_m (k : Nat) (d : Unit × ((Int × Unit) × ((Int × Unit) × Unit))) : evCode E_ref02_Raw (tb (L_ref02_Raw k) (R_ref02_Raw k)) c_ref02_Raw (bodyOf Tryz.f29) 0 (finK E_ref02_Raw po_ref02_Raw [.tmp 4]) (startSt pi_ref02_Raw 30 d) = f_ref02_Raw_m (f_ref02_Raw_t k) d := by kernel_rfl
theorem go_ref02_Raw (F : Unit × ((Int × Unit) × ((Int × Unit) × Unit)) → Option (Unit × ((ByteArray × Unit) × Unit))) (hF : ∀ d out, F d = some out → ∃ k, f_ref02_Raw_m (f_ref02_Raw_t k) d = some out) : FnOk Tryz.prog ET0 29 pi_ref02_Raw po_ref02_Raw F :=
  fn_of_body (E := E_ref02_Raw) e0_ok (fn := Tryz.f29) Tryz.func29 (by kernel_rfl) (by kernel_rfl) [.tmp 4] (by kernel_rfl) (by kernel_rfl) (by decide) rfl c_ref02_Raw L_ref02_Raw R_ref02_Raw
    (by intro x hx d; simp only [L_ref02_Raw, List.mem_cons, List.not_mem_nil, or_false] at hx; rcases hx with rfl | rfl; rfl; rfl)
    (by intro k x hx d out h; simp only [L_ref02_Raw, List.mem_cons, List.not_mem_nil, or_false] at hx; rcases hx with rfl | rfl; exact (q_ref02_Raw_3 k d).trans h; exact (q_ref02_Raw_8 k d).trans h)
    (by intro x hx; cases hx)
    (by intro k x hx; cases hx)
    (by intro d out h; obtain ⟨k, hk⟩ := hF d out h; exact ⟨k, (q_ref02_Raw_m k d).trans hk⟩)
def g_ref02_Raw (d : Unit × ((Int × Unit) × ((Int × Unit) × Unit))) : Option (Unit × ((ByteArray × Unit) × Unit)) := lim fun k => f_ref02_Raw_m (f_ref02_Raw_t k) d
theorem ok_ref02_Raw : FnOk Tryz.prog ET0 29 pi_ref02_Raw po_ref02_Raw g_ref02_Raw := go_ref02_Raw g_ref02_Raw fun d out h => lim_some h

/- horologe/horologeref24.Date -/
@[reducible] def pi_ref24_Date : PSh := ⟨[], [.mk false [.v (.int .i64)], .mk false [.v (.int .i64)], .mk false [.v (.int .i64)]]⟩
@[reducible] def po_ref24_Date : PSh := ⟨[], [.mk false [.v .str]]⟩
def f_ref24_Date_m (T : Unit) (d : Unit × ((Int × Unit) × ((Int × Unit) × ((Int × Unit) × Unit)))) : Option (Unit × ((ByteArray × Unit) × Unit)) :=
  (g_ref02_Raw ((), ((d.2.1.1, ()), (((4 : Int), ()), ())))).bind fun x1 =>
  bif fitsS x1.2.1.1 (⟨#[45]⟩ : ByteArray) then (
  let x2 : ByteArray := (x1.2.1.1 ++ (⟨#[45]⟩ : ByteArray))
  (g_ref02_Raw ((), ((d.2.2.1.1, ()), (((2 : Int), ()), ())))).bind fun x3 =>
  bif fitsS x2 x3.2.1.1 then (
  let x4 : ByteArray := (x2 ++ x3.2.1.1)
  bif fitsS x4 (⟨#[45]⟩ : ByteArray) then (
  let x5 : ByteArray := (x4 ++ (⟨#[45]⟩ : ByteArray))
  (g_ref02_Raw ((), ((d.2.2.2.1.1, ()), (((2 : Int), ()), ())))).bind fun x6 =>
  bif fitsS x5 x6.2.1.1 then (
  let x7 : ByteArray := (x5 ++ x6.2.1.1)
  some ((), ((x7, ()), ())))
  else none)
  else none)
  else none)
  else none
def c_ref24_Date : List Nat := []
def L_ref24_Date (_ : Nat) : Pts po_ref24_Date.den := []
def R_ref24_Date (_ : Nat) : PtsR po_ref24_Date.den := []
def E_ref24_Date : Env := (E0.add 29 (typedSem pi_ref02_Raw po_ref02_Raw g_ref02_Raw))
theorem q_ref24_Date_m (k : Nat) (d : Unit × ((Int × Unit) × ((Int × Unit) × ((Int × Unit) × Unit)))) : evCode E_ref24_Date (tb (L_ref24_Date k) (R_ref24_Date k)) c_ref24_Date (bodyOf Tryz.f28) 0 (finK E_ref24_Date po_ref24_Date [.tmp 6]) (startSt pi_ref24_Date 17 d) = f_ref24_Date_m () d := by kernel_rfl
def g_ref24_Date (d : Unit × ((Int × Unit) × ((Int × Unit) × ((Int × Unit) × Unit)))) : Option (Unit × ((ByteArray × Unit) × Unit)) := f_ref24_Date_m () d
theorem ok_ref24_Date : FnOk Tryz.prog ET0 28 pi_ref24_Date po_ref24_Date g_ref24_Date :=
  fn_of_body (E := E_ref24_Date) (envOk_add e0_ok (typed_ok ok_ref02_Raw)) (fn := Tryz.f28) Tryz.func28 (by kernel_rfl) (by kernel_rfl) [.tmp 6] (by kernel_rfl) (by kernel_rfl) (by decide) rfl c_ref24_Date L_ref24_Date R_ref24_Date
    (by intro x hx; cases hx) (by intro k x hx; cases hx) (by intro x hx; cases hx) (by intro k x hx; cases hx) (fun d out h => ⟨0, (q_ref24_Date_m 0 d).trans h⟩)

/- horologe/horologeref24.Put -/
@[reducible] def pi_ref24_Put : PSh := ⟨[], [.mk true [.v (.int .i64), .v (.int .i64), .v (.int .i64), .v (.int .i64), .v (.int .i64), .v (.int .i64), .v (.int .i64), .v (.int .i64)], .mk false [.v (.int .i64)]]⟩
@[reducible] def po_ref24_Put : PSh := ⟨[], [.mk false [.v .str]]⟩
def f_ref24_Put_m (T : Unit) (d : Unit × ((Int × (Int × (Int × (Int × (Int × (Int × (Int × (Int × Unit)))))))) × ((Int × Unit) × Unit))) : Option (Unit × ((ByteArray × Unit) × Unit)) :=
  (g_ref24_Date ((), ((d.2.1.1, ()), ((d.2.1.2.1, ()), ((d.2.1.2.2.1, ()), ()))))).bind fun x1 =>
  bif fitsS x1.2.1.1 (⟨#[84]⟩ : ByteArray) then (
  let x2 : ByteArray := (x1.2.1.1 ++ (⟨#[84]⟩ : ByteArray))
  (g_ref02_Raw ((), ((d.2.1.2.2.2.1, ()), (((2 : Int), ()), ())))).bind fun x3 =>
  bif fitsS x2 x3.2.1.1 then (
  let x4 : ByteArray := (x2 ++ x3.2.1.1)
  bif fitsS x4 (⟨#[58]⟩ : ByteArray) then (
  let x5 : ByteArray := (x4 ++ (⟨#[58]⟩ : ByteArray))
  (g_ref02_Raw ((), ((d.2.1.2.2.2.2.1, ()), (((2 : Int), ()), ())))).bind fun x6 =>
  bif fitsS x5 x6.2.1.1 then (
  let x7 : ByteArray := (x5 ++ x6.2.1.1)
  bif fitsS x7 (⟨#[58]⟩ : ByteArray) then (
  let x8 : ByteArray := (x7 ++ (⟨#[58]⟩ : ByteArray))
  (g_ref02_Raw ((), ((d.2.1.2.2.2.2.2.1, ()), (((2 : Int), ()), ())))).bind fun x9 =>
  bif fitsS x8 x9.2.1.1 then (
  let x10 : ByteArray := (x8 ++ x9.2.1.1)
  let x11 : Bool := (decide (d.2.2.1.1 > (0 : Int)))
  bif x11 then (
  (g_ref02_Raw ((), ((d.2.1.2.2.2.2.2.2.1, ()), (((9 : Int), ()), ())))).bind fun x12 =>
  bif decide ((0 : Int) ≤ (0 : Int)) && decide ((0 : Int) ≤ d.2.2.1.1) && decide (d.2.2.1.1 ≤ (x12.2.1.1.size : Int)) then (
  let x13 : ByteArray := (x12.2.1.1.extract (Int.toNat (0 : Int)) (Int.toNat d.2.2.1.1))
  bif fitsS (⟨#[46]⟩ : ByteArray) x13 then (
  let x14 : ByteArray := ((⟨#[46]⟩ : ByteArray) ++ x13)
  bif fitsS x10 x14 then (
  let x15 : ByteArray := (x10 ++ x14)
  let x16 : Bool := (d.2.1.2.2.2.2.2.2.2.1 == (0 : Int))
  bif x16 then (
  bif fitsS x15 (⟨#[90]⟩ : ByteArray) then (
  let x17 : ByteArray := (x15 ++ (⟨#[90]⟩ : ByteArray))
  some ((), ((x17, ()), ())))
  else none)
  else (
  let x18 : Bool := (decide (d.2.1.2.2.2.2.2.2.2.1 < (0 : Int)))
  bif x18 then (
  let x19 : Int := (isub .i64 (0 : Int) d.2.1.2.2.2.2.2.2.2.1)
  bif fitsS x15 (⟨#[45]⟩ : ByteArray) then (
  let x20 : ByteArray := (x15 ++ (⟨#[45]⟩ : ByteArray))
  let x21 : Int := (iquo .i64 x19 (60 : Int))
  (g_ref02_Raw ((), ((x21, ()), (((2 : Int), ()), ())))).bind fun x22 =>
  bif fitsS x20 x22.2.1.1 then (
  let x23 : ByteArray := (x20 ++ x22.2.1.1)
  bif fitsS x23 (⟨#[58]⟩ : ByteArray) then (
  let x24 : ByteArray := (x23 ++ (⟨#[58]⟩ : ByteArray))
  let x25 : Int := (Int.tmod x19 (60 : Int))
  (g_ref02_Raw ((), ((x25, ()), (((2 : Int), ()), ())))).bind fun x26 =>
  bif fitsS x24 x26.2.1.1 then (
  let x27 : ByteArray := (x24 ++ x26.2.1.1)
  some ((), ((x27, ()), ())))
  else none)
  else none)
  else none)
  else none)
  else (
  bif fitsS x15 (⟨#[43]⟩ : ByteArray) then (
  let x28 : ByteArray := (x15 ++ (⟨#[43]⟩ : ByteArray))
  let x29 : Int := (iquo .i64 d.2.1.2.2.2.2.2.2.2.1 (60 : Int))
  (g_ref02_Raw ((), ((x29, ()), (((2 : Int), ()), ())))).bind fun x30 =>
  bif fitsS x28 x30.2.1.1 then (
  let x31 : ByteArray := (x28 ++ x30.2.1.1)
  bif fitsS x31 (⟨#[58]⟩ : ByteArray) then (
  let x32 : ByteArray := (x31 ++ (⟨#[58]⟩ : ByteArray))
  let x33 : Int := (Int.tmod d.2.1.2.2.2.2.2.2.2.1 (60 : Int))
  (g_ref02_Raw ((), ((x33, ()), (((2 : Int), ()), ())))).bind fun x34 =>
  bif fitsS x32 x34.2.1.1 then (
  let x35 : ByteArray := (x32 ++ x34.2.1.1)
  some ((), ((x35, ()), ())))
  else none)
  else none)
  else none)
  else none)))
  else none)
  else none)
  else none)
  else (
  let x36 : Bool := (d.2.1.2.2.2.2.2.2.2.1 == (0 : Int))
  bif x36 then (
  bif fitsS x10 (⟨#[90]⟩ : ByteArray) then (
  let x37 : ByteArray := (x10 ++ (⟨#[90]⟩ : ByteArray))
  some ((), ((x37, ()), ())))
  else none)
  else (
  let x38 : Bool := (decide (d.2.1.2.2.2.2.2.2.2.1 < (0 : Int)))
  bif x38 then (
  let x39 : Int := (isub .i64 (0 : Int) d.2.1.2.2.2.2.2.2.2.1)
  bif fitsS x10 (⟨#[45]⟩ : ByteArray) then (
  let x40 : ByteArray := (x10 ++ (⟨#[45]⟩ : ByteArray))
  let x41 : Int := (iquo .i64 x39 (60 : Int))
  (g_ref02_Raw ((), ((x41, ()), (((2 : Int), ()), ())))).bind fun x42 =>
  bif fitsS x40 x42.2.1.1 then (
  let x43 : ByteArray := (x40 ++ x42.2.1.1)
  bif fitsS x43 (⟨#[58]⟩ : ByteArray) then (
  let x44 : ByteArray := (x43 ++ (⟨#[58]⟩ : ByteArray))
  let x45 : Int := (Int.tmod x39 (60 : Int))
  (g_ref02_Raw ((), ((x45, ()), (((2 : Int), ()), ())))).bind fun x46 =>
  bif fitsS x44 x46.2.1.1 then (
  let x47 : ByteArray := (x44 ++ x46.2.1.1)
  some ((), ((x47, ()), ())))
  else none)
  else none)
  else none)
  else none)
  else (
  bif fitsS x10 (⟨#[43]⟩ : ByteArray) then (
  let x48 : ByteArray := (x10 ++ (⟨#[43]⟩ : ByteArray))
  let x49 : Int := (iquo .i64 d.2.1.2.2.2.2.2.2.2.1 (60 : Int))
  (g_ref02_Raw ((), ((x49, ()), (((2 : Int), ()), ())))).bind fun x50 =>
  bif fitsS x48 x50.2.1.1 then (
  let x51 : ByteArray := (x48 ++ x50.2.1.1)
  bif fitsS x51 (⟨#[58]⟩ : ByteArray) then (
  let x52 : ByteArray := (x51 ++ (⟨#[58]⟩ : ByteArray))
  let x53 : Int := (Int.tmod d.2.1.2.2.2.2.2.2.2.1 (60 : Int))
  (g_ref02_Raw ((), ((x53, ()), (((2 : Int), ()), ())))).bind fun x54 =>
  bif fitsS x52 x54.2.1.1 then (
  let x55 : ByteArray := (x52 ++ x54.2.1.1)
  some ((), ((x55, ()), ())))
  else none)
  else none)
  else none)
  else none))))
  else none)
  else none)
  else none)
  else none)
  else none)
  else none
def c_ref24_Put : List Nat := []
def L_ref24_Put (_ : Nat) : Pts po_ref24_Put.den := []
def R_ref24_Put (_ : Nat) : PtsR po_ref24_Put.den := []
def E_ref24_Put : Env := ((E0.add 28 (typedSem pi_ref24_Date po_ref24_Date g_ref24_Date)).add 29 (typedSem pi_ref02_Raw po_ref02_Raw g_ref02_Raw))
theorem q_ref24_Put_m (k : Nat) (d : Unit × ((Int × (Int × (Int × (Int × (Int × (Int × (Int × (Int × Unit)))))))) × ((Int × Unit) × Unit))) : evCode E_ref24_Put (tb (L_ref24_Put k) (R_ref24_Put k)) c_ref24_Put (bodyOf Tryz.f11) 0 (finK E_ref24_Put po_ref24_Put [.tmp 4]) (startSt pi_ref24_Put 63 d) = f_ref24_Put_m () d := by kernel_rfl
def g_ref24_Put (d : Unit × ((Int × (Int × (Int × (Int × (Int × (Int × (Int × (Int × Unit)))))))) × ((Int × Unit) × Unit))) : Option (Unit × ((ByteArray × Unit) × Unit)) := f_ref24_Put_m () d
theorem ok_ref24_Put : FnOk Tryz.prog ET0 11 pi_ref24_Put po_ref24_Put g_ref24_Put :=
  fn_of_body (E := E_ref24_Put) (envOk_add (envOk_add e0_ok (typed_ok ok_ref24_Date)) (typed_ok ok_ref02_Raw)) (fn := Tryz.f11) Tryz.func11 (by kernel_rfl) (by kernel_rfl) [.tmp 4] (by kernel_rfl) (by kernel_rfl) (by decide) rfl c_ref24_Put L_ref24_Put R_ref24_Put
    (by intro x hx; cases hx) (by intro k x hx; cases hx) (by intro x hx; cases hx) (by intro k x hx; cases hx) (fun d out h => ⟨0, (q_ref24_Put_m 0 d).trans h⟩)

/- horologe/horologeref24.Fewest -/
@[reducible] def pi_ref24_Fewest : PSh := ⟨[], [.mk false [.v (.int .i64)]]⟩
@[reducible] def po_ref24_Fewest : PSh := ⟨[], [.mk false [.v (.int .i64)]]⟩
@[reducible] def TT_ref24_Fewest : Type := (((Unit × ((Int × Unit) × ((Int × Unit) × ((Int × Unit) × Unit)))) → Option (Unit × ((Int × Unit) × Unit))) × Unit)
@[reducible] def sh_ref24_Fewest_4 : PSh := ⟨[], [.mk false [.v (.int .i64)], .any, .any, .mk false [.v (.int .i64)], .mk false [.v (.int .i64)], .any, .any, .any, .any, .any, .any, .any, .any, .any, .any, .any, .any, .any]⟩
def f_ref24_Fewest_p4 (T : TT_ref24_Fewest) (d : Unit × ((Int × Unit) × ((Int × Unit) × ((Int × Unit) × Unit)))) : Option (Unit × ((Int × Unit) × Unit)) :=
  let x1 : Bool := (decide (d.2.2.1.1 > (0 : Int)))
  bif x1 then (
  bif (d.2.2.2.1.1 == 0) then (
  none)
  else (
  let x2 : Int := (Int.tmod d.2.1.1 d.2.2.2.1.1)
  let x3 : Bool := (x2 == (0 : Int))
  bif x3 then (
  let x4 : Int := (isub .i64 d.2.2.1.1 (1 : Int))
  let x5 : Int := (imul .i64 d.2.2.2.1.1 (10 : Int))
  (T.1 ((), ((d.2.1.1, ()), ((x4, ()), ((x5, ()), ()))))))
  else (
  some ((), ((d.2.2.1.1, ()), ())))))
  else (
  some ((), ((d.2.2.1.1, ()), ())))
def f_ref24_Fewest_t : Nat → TT_ref24_Fewest
  | 0 => (fun _ => none, ())
  | k + 1 => (f_ref24_Fewest_p4 (f_ref24_Fewest_t k), ())
theorem t_ref24_Fewest (k : Nat) : f_ref24_Fewest_t (k + 1) = (f_ref24_Fewest_p4 (f_ref24_Fewest_t k), ()) := rfl
def f_ref24_Fewest_m (T : TT_ref24_Fewest) (d : Unit × ((Int × Unit) × Unit)) : Option (Unit × ((Int × Unit) × Unit)) :=
  (T.1 ((), ((d.2.1.1, ()), (((9 : Int), ()), (((10 : Int), ()), ())))))
def c_ref24_Fewest : List Nat := []
def L_ref24_Fewest (k : Nat) : Pts po_ref24_Fewest.den := [(4, ⟨sh_ref24_Fewest_4, (f_ref24_Fewest_t k).1⟩)]
def R_ref24_Fewest (_ : Nat) : PtsR po_ref24_Fewest.den := []
def E_ref24_Fewest : Env := E0
theorem q_ref24_Fewest_4 (k : Nat) (d : Unit × ((Int × Unit) × ((Int × Unit) × ((Int × Unit) × Unit)))) : evAt E_ref24_Fewest (tb (L_ref24_Fewest k) (R_ref24_Fewest k)) c_ref24_Fewest 4 (bodyOf Tryz.f12) 0 (finK E_ref24_Fewest po_ref24_Fewest [.tmp 2]) (ptSt sh_ref24_Fewest_4 d) = f_ref24_Fewest_p4 (f_ref24_Fewest_t k) d := by kernel_rfl
theorem q_ref24_Fewest_m (k : Nat) (d : Unit × ((Int × Unit) × Unit)) : evCode E_ref24_Fewest (tb (L_ref24_Fewest k) (R_ref24_Fewest k)) c_ref24_Fewest (bodyOf Tryz.f12) 0 (finK E_ref24_Fewest po_ref24_Fewest [.tmp 2]) (startSt pi_ref24_Fewest 18 d) = f_ref24_Fewest_m (f_ref24_Fewest_t k) d := by kernel_rfl
theorem go_ref24_Fewest (F : Unit × ((Int × Unit) × Unit) → Option (Unit × ((Int × Unit) × Unit))) (hF : ∀ d out, F d = some out → ∃ k, f_ref24_Fewest_m (f_ref24_Fewest_t k) d = some out) : FnOk Tryz.prog ET0 12 pi_ref24_Fewest po_ref24_Fewest F :=
  fn_of_body (E := E_ref24_Fewest) e0_ok (fn := Tryz.f12) Tryz.func12 (by kernel_rfl) (by kernel_rfl) [.tmp 2] (by kernel_rfl) (by kernel_rfl) (by decide) rfl c_ref24_Fewest L_ref24_Fewest R_ref24_Fewest
    (by intro x hx d; simp only [L_ref24_Fewest, List.mem_cons, List.not_mem_nil, or_false] at hx; subst hx; rfl)
    (by intro k x hx d out h; simp only [L_ref24_Fewest, List.mem_cons, List.not_mem_nil, or_false] at hx; subst hx; exact (q_ref24_Fewest_4 k d).trans h)
    (by intro x hx; cases hx)
    (by intro k x hx; cases hx)
    (by intro d out h; obtain ⟨k, hk⟩ := hF d out h; exact ⟨k, (q_ref24_Fewest_m k d).trans hk⟩)
def g_ref24_Fewest (d : Unit × ((Int × Unit) × Unit)) : Option (Unit × ((Int × Unit) × Unit)) := lim fun k => f_ref24_Fewest_m (f_ref24_Fewest_t k) d
theorem ok_ref24_Fewest : FnOk Tryz.prog ET0 12 pi_ref24_Fewest po_ref24_Fewest g_ref24_Fewest := go_ref24_Fewest g_ref24_Fewest fun d out h => lim_some h

/- horologe/horologenum.Is -/
@[reducible] def pi_hnum_Is : PSh := ⟨[], [.mk false [.v .err], .mk false [.v (.int .i64)]]⟩
@[reducible] def po_hnum_Is : PSh := ⟨[], [.mk false [.v .bool]]⟩
def f_hnum_Is_m (T : Unit) (d : Unit × (((Option Int) × Unit) × ((Int × Unit) × Unit))) : Option (Unit × ((Bool × Unit) × Unit)) :=
  (g_hnum_Num ((), ((d.2.1.1, ()), ()))).bind fun x1 =>
  let x2 : Bool := (x1.2.1.1 == d.2.2.1.1)
  some ((), ((x2, ()), ()))
def c_hnum_Is : List Nat := []
def L_hnum_Is (_ : Nat) : Pts po_hnum_Is.den := []
def R_hnum_Is (_ : Nat) : PtsR po_hnum_Is.den := []
def E_hnum_Is : Env := (E0.add 10 (typedSem pi_hnum_Num po_hnum_Num g_hnum_Num))
theorem q_hnum_Is_m (k : Nat) (d : Unit × (((Option Int) × Unit) × ((Int × Unit) × Unit))) : evCode E_hnum_Is (tb (L_hnum_Is k) (R_hnum_Is k)) c_hnum_Is (bodyOf Tryz.f13) 0 (finK E_hnum_Is po_hnum_Is [.tmp 4]) (startSt pi_hnum_Is 9 d) = f_hnum_Is_m () d := by kernel_rfl
def g_hnum_Is (d : Unit × (((Option Int) × Unit) × ((Int × Unit) × Unit))) : Option (Unit × ((Bool × Unit) × Unit)) := f_hnum_Is_m () d
theorem ok_hnum_Is : FnOk Tryz.prog ET0 13 pi_hnum_Is po_hnum_Is g_hnum_Is :=
  fn_of_body (E := E_hnum_Is) (envOk_add e0_ok (typed_ok ok_hnum_Num)) (fn := Tryz.f13) Tryz.func13 (by kernel_rfl) (by kernel_rfl) [.tmp 4] (by kernel_rfl) (by kernel_rfl) (by decide) rfl c_hnum_Is L_hnum_Is R_hnum_Is
    (by intro x hx; cases hx) (by intro k x hx; cases hx) (by intro x hx; cases hx) (by intro k x hx; cases hx) (fun d out h => ⟨0, (q_hnum_Is_m 0 d).trans h⟩)

/- horologe/horologelaw24.IsoPuts -/
@[reducible] def pi_law24_IsoPuts : PSh := ⟨[], [.mk true [.v (.int .i64), .v (.int .i64), .v (.int .i64), .v (.int .i64), .v (.int .i64), .v (.int .i64), .v (.int .i64), .v (.int .i64)], .mk false [.v (.int .i64)]]⟩
@[reducible] def po_law24_IsoPuts : PSh := ⟨[], [.mk false [.v .bool]]⟩
@[reducible] def TT_law24_IsoPuts : Type := (((((Int × (Int × (Int × (Int × (Int × (Int × (Int × (Int × Unit)))))))) × ((Int × (Int × (Int × (Int × (Int × (Int × (Int × (Int × Unit)))))))) × Unit)) × ((Int × Unit) × (Unit × ((ByteArray × Unit) × (((Option Int) × Unit) × ((ByteArray × Unit) × (((Option Int) × Unit) × (Unit × ((Int × Unit) × Unit))))))))) → Option (Unit × ((Bool × Unit) × Unit))) × Unit)
@[reducible] def sh_law24_IsoPuts_8 : PSh := ⟨[.var 23 [.v (.int .i64), .v (.int .i64), .v (.int .i64), .v (.int .i64), .v (.int .i64), .v (.int .i64), .v (.int .i64), .v (.int .i64)], .var 30 [.v (.int .i64), .v (.int .i64), .v (.int .i64), .v (.int .i64), .v (.int .i64), .v (.int .i64), .v (.int .i64), .v (.int .i64)]], [.any, .mk false [.v (.int .i64)], .mk false [.ref 0 0], .any, .any, .mk false [.v .str], .mk false [.v .err], .mk false [.v .str], .mk false [.v .err], .mk false [.ref 1 0], .mk false [.v (.int .i64)], .any, .any, .any, .any, .any, .any, .any, .any, .any, .any, .any, .any, .any, .any, .any, .any, .any, .any, .any, .any, .any, .any, .any, .any, .any, .any, .any, .any, .any, .any, .any, .any, .any, .any, .any, .any, .any, .any, .any, .any, .any, .any, .any, .any, .any, .any, .any, .any, .any, .any, .any, .any, .any, .any, .any, .any, .any, .any, .any, .any, .any, .any, .any, .any, .any, .any, .any, .any, .any, .any, .any, .any, .any, .any, .any, .any]⟩
def f_law24_IsoPuts_p8 (T : TT_law24_IsoPuts) (d : ((Int × (Int × (Int × (Int × (Int × (Int × (Int × (Int × Unit)))))))) × ((Int × (Int × (Int × (Int × (Int × (Int × (Int × (Int × Unit)))))))) × Unit)) × ((Int × Unit) × (Unit × ((ByteArray × Unit) × (((Option Int) × Unit) × ((ByteArray × Unit) × (((Option Int) × Unit) × (Unit × ((Int × Unit) × Unit))))))))) : Option (Unit × ((Bool × Unit) × Unit)) :=
  let x9 : Bool := (d.2.2.2.2.2.2.2.2.1.1 != (0 : Int))
  bif x9 then (
  let x10 : Bool := (d.2.2.2.1.1.toList == (⟨#[]⟩ : ByteArray).toList)
  bif x10 then (
  let x11 : Bool := (d.2.2.2.2.2.1.1.toList == (⟨#[]⟩ : ByteArray).toList)
  bif x11 then (
  (g_hnum_Num ((), ((d.2.2.2.2.1.1, ()), ()))).bind fun x12 =>
  let x13 : Bool := (x12.2.1.1 == d.2.2.2.2.2.2.2.2.1.1)
  bif x13 then (
  (g_hnum_Num ((), ((d.2.2.2.2.2.2.1.1, ()), ()))).bind fun x14 =>
  let x15 : Bool := (x14.2.1.1 == d.2.2.2.2.2.2.2.2.1.1)
  some ((), ((x15, ()), ())))
  else (
  some ((), ((false, ()), ()))))
  else (
  some ((), ((false, ()), ()))))
  else (
  some ((), ((false, ()), ()))))
  else (
  let x16 : Bool := (!d.2.2.2.2.2.2.1.1.isNone)
  bif x16 then (
  some ((), ((false, ()), ())))
  else (
  (g_ref24_Fewest ((), ((d.1.1.2.2.2.2.2.2.1, ()), ()))).bind fun x17 =>
  (g_ref24_Put ((), ((d.1.2.1.1, (d.1.2.1.2.1, (d.1.2.1.2.2.1, (d.1.2.1.2.2.2.1, (d.1.2.1.2.2.2.2.1, (d.1.2.1.2.2.2.2.2.1, (d.1.2.1.2.2.2.2.2.2.1, (d.1.2.1.2.2.2.2.2.2.2.1, ())))))))), ((x17.2.1.1, ()), ())))).bind fun x18 =>
  let x19 : Bool := (!(d.2.2.2.2.2.1.1.toList == x18.2.1.1.toList))
  bif x19 then (
  some ((), ((false, ()), ())))
  else (
  let x20 : Bool := (decide (d.2.1.1 < (0 : Int)))
  bif x20 then (
  let x21 : Bool := (d.2.2.2.1.1.toList == (⟨#[]⟩ : ByteArray).toList)
  bif x21 then (
  (g_hnum_Is ((), ((d.2.2.2.2.1.1, ()), (((1 : Int), ()), ())))).bind fun x22 =>
  some ((), ((x22.2.1.1, ()), ())))
  else (
  some ((), ((false, ()), ()))))
  else (
  let x23 : Bool := (decide (d.2.1.1 > (9 : Int)))
  bif x23 then (
  let x24 : Bool := (d.2.2.2.1.1.toList == (⟨#[]⟩ : ByteArray).toList)
  bif x24 then (
  (g_hnum_Is ((), ((d.2.2.2.2.1.1, ()), (((1 : Int), ()), ())))).bind fun x25 =>
  some ((), ((x25.2.1.1, ()), ())))
  else (
  some ((), ((false, ()), ()))))
  else (
  bif d.2.2.2.2.1.1.isNone then (
  (g_ref24_Put ((), ((d.1.2.1.1, (d.1.2.1.2.1, (d.1.2.1.2.2.1, (d.1.2.1.2.2.2.1, (d.1.2.1.2.2.2.2.1, (d.1.2.1.2.2.2.2.2.1, (d.1.2.1.2.2.2.2.2.2.1, (d.1.2.1.2.2.2.2.2.2.2.1, ())))))))), ((d.2.1.1, ()), ())))).bind fun x26 =>
  let x27 : Bool := (d.2.2.2.1.1.toList == x26.2.1.1.toList)
  some ((), ((x27, ()), ())))
  else (
  some ((), ((false, ()), ()))))))))
def f_law24_IsoPuts_t : Nat → TT_law24_IsoPuts
  | 0 => (fun _ => none, ())
  | k + 1 => (f_law24_IsoPuts_p8 (f_law24_IsoPuts_t k), ())
theorem t_law24_IsoPuts (k : Nat) : f_law24_IsoPuts_t (k + 1) = (f_law24_IsoPuts_p8 (f_law24_IsoPuts_t k), ()) := rfl
def f_law24_IsoPuts_m (T : TT_law24_IsoPuts) (d : Unit × ((Int × (Int × (Int × (Int × (Int × (Int × (Int × (Int × Unit)))))))) × ((Int × Unit) × Unit))) : Option (Unit × ((Bool × Unit) × Unit)) :=
  (g_law24_alive ((), ())).bind fun x1 =>
  let x2 : Bool := (!x1.2.1.1)
  bif x2 then (
  some ((), ((false, ()), ())))
  else (
  (g_iso_Put ((), ((d.2.1.1, (d.2.1.2.1, (d.2.1.2.2.1, (d.2.1.2.2.2.1, (d.2.1.2.2.2.2.1, (d.2.1.2.2.2.2.2.1, (d.2.1.2.2.2.2.2.2.1, (d.2.1.2.2.2.2.2.2.2.1, ())))))))), ((d.2.2.1.1, ()), ())))).bind fun x3 =>
  (g_iso_Short ((), ((d.2.1.1, (d.2.1.2.1, (d.2.1.2.2.1, (d.2.1.2.2.2.1, (d.2.1.2.2.2.2.1, (d.2.1.2.2.2.2.2.1, (d.2.1.2.2.2.2.2.2.1, (d.2.1.2.2.2.2.2.2.2.1, ())))))))), ()))).bind fun x4 =>
  (g_law08_Document ((), ((d.2.1.1, (d.2.1.2.1, (d.2.1.2.2.1, (d.2.1.2.2.2.1, (d.2.1.2.2.2.2.1, (d.2.1.2.2.2.2.2.1, (d.2.1.2.2.2.2.2.2.1, (d.2.1.2.2.2.2.2.2.2.1, ())))))))), ()))).bind fun x5 =>
  (g_ref08_Check ((), ((x5.2.1.1, (x5.2.1.2.1, (x5.2.1.2.2.1, (x5.2.1.2.2.2.1, (x5.2.1.2.2.2.2.1, (x5.2.1.2.2.2.2.2.1, (x5.2.1.2.2.2.2.2.2.1, (x5.2.1.2.2.2.2.2.2.2.1, ())))))))), ()))).bind fun x6 =>
  let x7 : Bool := (x6.2.1.1 == (0 : Int))
  bif x7 then (
  let x8 : Bool := (decide (d.2.1.1 < (0 : Int)))
  bif x8 then (
  (T.1 (((d.2.1.1, (d.2.1.2.1, (d.2.1.2.2.1, (d.2.1.2.2.2.1, (d.2.1.2.2.2.2.1, (d.2.1.2.2.2.2.2.1, (d.2.1.2.2.2.2.2.2.1, (d.2.1.2.2.2.2.2.2.2.1, ())))))))), ((x5.2.1.1, (x5.2.1.2.1, (x5.2.1.2.2.1, (x5.2.1.2.2.2.1, (x5.2.1.2.2.2.2.1, (x5.2.1.2.2.2.2.2.1, (x5.2.1.2.2.2.2.2.2.1, (x5.2.1.2.2.2.2.2.2.2.1, ())))))))), ())), ((d.2.2.1.1, ()), ((), ((x3.2.1.1, ()), ((x3.2.2.1.1, ()), ((x4.2.1.1, ()), ((x4.2.2.1.1, ()), ((), (((13 : Int), ()), ())))))))))))
  else (
  (T.1 (((d.2.1.1, (d.2.1.2.1, (d.2.1.2.2.1, (d.2.1.2.2.2.1, (d.2.1.2.2.2.2.1, (d.2.1.2.2.2.2.2.1, (d.2.1.2.2.2.2.2.2.1, (d.2.1.2.2.2.2.2.2.2.1, ())))))))), ((x5.2.1.1, (x5.2.1.2.1, (x5.2.1.2.2.1, (x5.2.1.2.2.2.1, (x5.2.1.2.2.2.2.1, (x5.2.1.2.2.2.2.2.1, (x5.2.1.2.2.2.2.2.2.1, (x5.2.1.2.2.2.2.2.2.2.1, ())))))))), ())), ((d.2.2.1.1, ()), ((), ((x3.2.1.1, ()), ((x3.2.2.1.1, ()), ((x4.2.1.1, ()), ((x4.2.2.1.1, ()), ((), ((x6.2.1.1, ()), ()))))))))))))
  else (
  (T.1 (((d.2.1.1, (d.2.1.2.1, (d.2.1.2.2.1, (d.2.1.2.2.2.1, (d.2.1.2.2.2.2.1, (d.2.1.2.2.2.2.2.1, (d.2.1.2.2.2.2.2.2.1, (d.2.1.2.2.2.2.2.2.2.1, ())))))))), ((x5.2.1.1, (x5.2.1.2.1, (x5.2.1.2.2.1, (x5.2.1.2.2.2.1, (x5.2.1.2.2.2.2.1, (x5.2.1.2.2.2.2.2.1, (x5.2.1.2.2.2.2.2.2.1, (x5.2.1.2.2.2.2.2.2.2.1, ())))))))), ())), ((d.2.2.1.1, ()), ((), ((x3.2.1.1, ()), ((x3.2.2.1.1, ()), ((x4.2.1.1, ()), ((x4.2.2.1.1, ()), ((), ((x6.2.1.1, ()), ()))))))))))))
def c_law24_IsoPuts : List Nat := [8]
def L_law24_IsoPuts (k : Nat) : Pts po_law24_IsoPuts.den := [(8, ⟨sh_law24_IsoPuts_8, (f_law24_IsoPuts_t k).1⟩)]
def R_law24_IsoPuts (_ : Nat) : PtsR po_law24_IsoPuts.den := []
def E_law24_IsoPuts : Env := (((((((((E0.add 5 (typedSem pi_law24_alive po_law24_alive g_law24_alive)).add 6 (typedSem pi_iso_Put po_iso_Put g_iso_Put)).add 7 (typedSem pi_iso_Short po_iso_Short g_iso_Short)).add 8 (typedSem pi_law08_Document po_law08_Document g_law08_Document)).add 9 (typedSem pi_ref08_Check po_ref08_Check g_ref08_Check)).add 10 (typedSem pi_hnum_Num po_hnum_Num g_hnum_Num)).add 11 (typedSem pi_ref24_Put po_ref24_Put g_ref24_Put)).add 12 (typedSem pi_ref24_Fewest po_ref24_Fewest g_ref24_Fewest)).add 13 (typedSem pi_hnum_Is po_hnum_Is g_hnum_Is))
theorem q_law24_IsoPuts_8 (k : Nat) (d : ((Int × (Int × (Int × (Int × (Int × (Int × (Int × (Int × Unit)))))))) × ((Int × (Int × (Int × (Int × (Int × (Int × (Int × (Int × Unit)))))))) × Unit)) × ((Int × Unit) × (Unit × ((ByteArray × Unit) × (((Option Int) × Unit) × ((ByteArray × Unit) × (((Option Int) × Unit) × (Unit × ((Int × Unit) × Unit))))))))) : evAt E_law24_IsoPuts (tb (L_law24_IsoPuts k) (R_law24_IsoPuts k)) c_law24_IsoPuts 8 (bodyOf Tryz.f3) 0 (finK E_law24_IsoPuts po_law24_IsoPuts [.tmp 4]) (ptSt sh_law24_IsoPuts_8 d) = f_law24_IsoPuts_p8 (f_law24_IsoPuts_t k) d := by kernel_rfl
theorem q_law24_IsoPuts_m (k : Nat) (d : Unit × ((Int × (Int × (Int × (Int × (Int × (Int × (Int × (Int × Unit)))))))) × ((Int × Unit) × Unit))) : evCode E_law24_IsoPuts (tb (L_law24_IsoPuts k) (R_law24_IsoPuts k)) c_law24_IsoPuts (bodyOf Tryz.f3) 0 (finK E_law24_IsoPuts po_law24_IsoPuts [.tmp 4]) (startSt pi_law24_IsoPuts 87 d) = f_law24_IsoPuts_m (f_law24_IsoPuts_t k) d := by kernel_rfl
theorem go_law24_IsoPuts (F : Unit × ((Int × (Int × (Int × (Int × (Int × (Int × (Int × (Int × Unit)))))))) × ((Int × Unit) × Unit)) → Option (Unit × ((Bool × Unit) × Unit))) (hF : ∀ d out, F d = some out → ∃ k, f_law24_IsoPuts_m (f_law24_IsoPuts_t k) d = some out) : FnOk Tryz.prog ET0 3 pi_law24_IsoPuts po_law24_IsoPuts F :=
  fn_of_body (E := E_law24_IsoPuts) (envOk_add (envOk_add (envOk_add (envOk_add (envOk_add (envOk_add (envOk_add (envOk_add (envOk_add e0_ok (typed_ok ok_law24_alive)) (typed_ok ok_iso_Put)) (typed_ok ok_iso_Short)) (typed_ok ok_law08_Document)) (typed_ok ok_ref08_Check)) (typed_ok ok_hnum_Num)) (typed_ok ok_ref24_Put)) (typed_ok ok_ref24_Fewest)) (typed_ok ok_hnum_Is)) (fn := Tryz.f3) Tryz.func3 (by kernel_rfl) (by kernel_rfl) [.tmp 4] (by kernel_rfl) (by kernel_rfl) (by decide) rfl c_law24_IsoPuts L_law24_IsoPuts R_law24_IsoPuts
    (by intro x hx d; simp only [L_law24_IsoPuts, List.mem_cons, List.not_mem_nil, or_false] at hx; subst hx; rfl)
    (by intro k x hx d out h; simp only [L_law24_IsoPuts, List.mem_cons, List.not_mem_nil, or_false] at hx; subst hx; exact (q_law24_IsoPuts_8 k d).trans h)
    (by intro x hx; cases hx)
    (by intro k x hx; cases hx)
    (by intro d out h; obtain ⟨k, hk⟩ := hF d out h; exact ⟨k, (q_law24_IsoPuts_m k d).trans hk⟩)
def g_law24_IsoPuts (d : Unit × ((Int × (Int × (Int × (Int × (Int × (Int × (Int × (Int × Unit)))))))) × ((Int × Unit) × Unit))) : Option (Unit × ((Bool × Unit) × Unit)) := lim fun k => f_law24_IsoPuts_m (f_law24_IsoPuts_t k) d
theorem ok_law24_IsoPuts : FnOk Tryz.prog ET0 3 pi_law24_IsoPuts po_law24_IsoPuts g_law24_IsoPuts := go_law24_IsoPuts g_law24_IsoPuts fun d out h => lim_some h
end
end Go.Proofs.YtignndakgibpaaaGreatDoor.Ev
