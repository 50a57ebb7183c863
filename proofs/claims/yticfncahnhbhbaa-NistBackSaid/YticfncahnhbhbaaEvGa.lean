/- Printed by wip/tools/evgen.py. -/
import Derived.Test.YticfncahnhbhbaaEv32
import Derived.Test.YticfncahnhbhbaaShelf
import Derived.Test.YticfncahnhbhbaaEvE
import Derived.Test.YticfncahnhbhbaaProg
import Derived.KernelRfl
set_option maxRecDepth 100000
set_option maxHeartbeats 2000000
set_option linter.unusedVariables false
namespace Go.Proofs.Yticfncahnhbhbaa.Ev
open Go
noncomputable section
def rows0 : List (TypeId × Row) := [
  (2, ⟨.int .i64, 1, 8, (.int .i64), [AV.val (.int .i64) (0 : Int)], none⟩),
  (3, ⟨.int .i64, 1, 8, (.int .i64), [AV.val (.int .i64) (0 : Int)], none⟩),
  (4, ⟨.bool, 1, 1, .bool, [AV.val .bool false], none⟩),
  (5, ⟨.int .u8, 1, 1, (.int .u8), [AV.val (.int .u8) (0 : Int)], none⟩),
  (9, ⟨.str, 1, 16, .str, [AV.val .str ByteArray.empty], none⟩),
  (23, ⟨.struct [(0, 1, false), (1, 1, false), (2, 1, false), (3, 1, false), (4, 1, false), (5, 1, false), (6, 1, false)], 7, 56, (.pair (.int .i64) (.pair (.int .i64) (.pair (.int .i64) (.pair (.int .i64) (.pair (.int .i64) (.pair (.int .i64) .bool)))))), [AV.val (.int .i64) (0 : Int), AV.val (.int .i64) (0 : Int), AV.val (.int .i64) (0 : Int), AV.val (.int .i64) (0 : Int), AV.val (.int .i64) (0 : Int), AV.val (.int .i64) (0 : Int), AV.val .bool false], some [.int .i64, .int .i64, .int .i64, .int .i64, .int .i64, .int .i64, .bool]⟩),
  (26, ⟨.iface, 1, 16, .err, [AV.val .err (none : Option Int)], none⟩),
  (30, ⟨.struct [(0, 1, false), (1, 1, false), (2, 1, false), (3, 1, false), (4, 1, false), (5, 1, false), (6, 1, false), (7, 1, false)], 8, 64, (.pair (.int .i64) (.pair (.int .i64) (.pair (.int .i64) (.pair (.int .i64) (.pair (.int .i64) (.pair (.int .i64) (.pair (.int .i64) (.int .i64)))))))), [AV.val (.int .i64) (0 : Int), AV.val (.int .i64) (0 : Int), AV.val (.int .i64) (0 : Int), AV.val (.int .i64) (0 : Int), AV.val (.int .i64) (0 : Int), AV.val (.int .i64) (0 : Int), AV.val (.int .i64) (0 : Int), AV.val (.int .i64) (0 : Int)], some [.int .i64, .int .i64, .int .i64, .int .i64, .int .i64, .int .i64, .int .i64, .int .i64]⟩),
  (34, ⟨.struct [(0, 1, false), (1, 1, false), (2, 1, false), (3, 1, false), (4, 1, false), (5, 1, false), (6, 1, false)], 7, 56, (.pair (.int .i64) (.pair (.int .i64) (.pair (.int .i64) (.pair (.int .i64) (.pair (.int .i64) (.pair (.int .i64) .bool)))))), [AV.val (.int .i64) (0 : Int), AV.val (.int .i64) (0 : Int), AV.val (.int .i64) (0 : Int), AV.val (.int .i64) (0 : Int), AV.val (.int .i64) (0 : Int), AV.val (.int .i64) (0 : Int), AV.val .bool false], some [.int .i64, .int .i64, .int .i64, .int .i64, .int .i64, .int .i64, .bool]⟩),
  (38, ⟨.struct [(0, 1, false), (1, 1, false), (2, 1, false), (3, 1, false), (4, 1, false), (5, 1, false), (6, 1, false), (7, 1, false)], 8, 64, (.pair (.int .i64) (.pair (.int .i64) (.pair (.int .i64) (.pair (.int .i64) (.pair (.int .i64) (.pair (.int .i64) (.pair (.int .i64) (.int .i64)))))))), [AV.val (.int .i64) (0 : Int), AV.val (.int .i64) (0 : Int), AV.val (.int .i64) (0 : Int), AV.val (.int .i64) (0 : Int), AV.val (.int .i64) (0 : Int), AV.val (.int .i64) (0 : Int), AV.val (.int .i64) (0 : Int), AV.val (.int .i64) (0 : Int)], some [.int .i64, .int .i64, .int .i64, .int .i64, .int .i64, .int .i64, .int .i64, .int .i64]⟩),
  (44, ⟨.slice 149, 1, 24, (.sl (.pair (.int .i64) (.int .i64))), [AV.nilS], none⟩),
  (46, ⟨.struct [(0, 1, false), (1, 1, false), (2, 1, false)], 3, 40, (.pair (.sl (.pair (.int .i64) (.int .i64))) (.pair (.int .i64) (.int .i64))), [AV.nilS, AV.val (.int .i64) (0 : Int), AV.val (.int .i64) (0 : Int)], none⟩),
  (52, ⟨.int .i64, 1, 8, (.int .i64), [AV.val (.int .i64) (0 : Int)], none⟩),
  (53, ⟨.ptr, 1, 8, (.nptr (.pair (.sl (.pair (.int .i64) (.int .i64))) (.pair (.int .i64) (.int .i64)))), [AV.nilP], none⟩),
  (54, ⟨.slice 105, 1, 24, (.sl (.pair (.int .i64) (.int .i64))), [AV.nilS], none⟩),
  (56, ⟨.struct [(0, 1, false), (1, 1, false), (2, 1, false)], 3, 40, (.pair (.sl (.pair (.int .i64) (.int .i64))) (.pair (.int .i64) (.int .i64))), [AV.nilS, AV.val (.int .i64) (0 : Int), AV.val (.int .i64) (0 : Int)], none⟩),
  (81, ⟨.slice 5, 1, 24, (.sl (.int .u8)), [AV.nilS], none⟩),
  (83, ⟨.struct [(0, 1, false), (1, 1, false)], 2, 40, (.pair (.sl (.int .u8)) .err), [AV.nilS, AV.val .err (none : Option Int)], none⟩),
  (105, ⟨.struct [(0, 1, false), (1, 1, false)], 2, 16, (.pair (.int .i64) (.int .i64)), [AV.val (.int .i64) (0 : Int), AV.val (.int .i64) (0 : Int)], some [.int .i64, .int .i64]⟩),
  (109, ⟨.ptr, 1, 8, (.nptr (.pair .str (.pair (.int .i64) .err))), [AV.nilP], none⟩),
  (112, ⟨.struct [(0, 1, false)], 1, 8, (.nptr (.pair .str (.pair (.int .i64) .err))), [AV.nilP], none⟩),
  (114, ⟨.arr 3 3, 3, 24, (.pair (.int .i64) (.pair (.int .i64) (.int .i64))), [AV.val (.int .i64) (0 : Int), AV.val (.int .i64) (0 : Int), AV.val (.int .i64) (0 : Int)], some [.int .i64, .int .i64, .int .i64]⟩),
  (129, ⟨.slice 3, 1, 24, (.sl (.int .i64)), [AV.nilS], none⟩),
  (149, ⟨.struct [(0, 1, false), (1, 1, false)], 2, 16, (.pair (.int .i64) (.int .i64)), [AV.val (.int .i64) (0 : Int), AV.val (.int .i64) (0 : Int)], some [.int .i64, .int .i64]⟩),
  (157, ⟨.struct [(0, 1, false), (1, 1, false), (2, 1, false)], 3, 40, (.pair (.sl (.pair (.int .i64) (.int .i64))) (.pair (.int .i64) (.int .i64))), [AV.nilS, AV.val (.int .i64) (0 : Int), AV.val (.int .i64) (0 : Int)], none⟩),
  (159, ⟨.struct [(0, 1, false), (1, 1, false), (2, 1, false)], 3, 40, (.pair .str (.pair (.int .i64) .err)), [AV.val .str ByteArray.empty, AV.val (.int .i64) (0 : Int), AV.val .err (none : Option Int)], none⟩),
  (169, ⟨.int .u64, 1, 8, (.int .u64), [AV.val (.int .u64) (0 : Int)], none⟩),
  (170, ⟨.int .u64, 1, 8, (.int .u64), [AV.val (.int .u64) (0 : Int)], none⟩)]
def ET0 : TypeId := 52
def E0 : Env := ⟨rows0, [], ET0, 0, [], []⟩
theorem e0_ok : EnvOk Try.prog E0 := envOk_rows (by kernel_rfl) (by kernel_rfl) 0
def gd_i64_i64 (l : List (Int × Int)) (i : Int) : (Int × Int) := gd (.pair (.int .i64) (.int .i64)) l i
/- strings.Repeat -/
@[reducible] def pi_strings_Repeat : PSh := pi_lib_repeat
@[reducible] def po_strings_Repeat : PSh := po_lib_repeat
def g_strings_Repeat := lib_repeat
theorem ok_strings_Repeat : FnOk Try.prog ET0 100 pi_strings_Repeat po_strings_Repeat g_strings_Repeat := lib_repeat_ok ⟨Try.f100, Try.func100, by kernel_rfl, by kernel_rfl⟩ Try.strings_Repeat
/- internal/stringslite.Clone -/
@[reducible] def pi_internal_stringslite_Clone : PSh := pi_lib_clone
@[reducible] def po_internal_stringslite_Clone : PSh := po_lib_clone
def g_internal_stringslite_Clone := lib_clone
theorem ok_internal_stringslite_Clone : FnOk Try.prog ET0 169 pi_internal_stringslite_Clone po_internal_stringslite_Clone g_internal_stringslite_Clone := lib_clone_ok ⟨Try.f169, Try.func169, by kernel_rfl, by kernel_rfl⟩ Try.stringslite_Clone
/- strings.IndexByte -/
@[reducible] def pi_strings_IndexByte : PSh := pi_lib_indexByte
@[reducible] def po_strings_IndexByte : PSh := po_lib_indexByte
def g_strings_IndexByte := lib_indexByte
theorem ok_strings_IndexByte : FnOk Try.prog ET0 83 pi_strings_IndexByte po_strings_IndexByte g_strings_IndexByte := lib_indexByte_ok ⟨Try.f83, Try.func83, by kernel_rfl, by kernel_rfl⟩ Try.strings_IndexByte

/- horologe/mjd.zero -/
@[reducible] def pi_mjd_zero : PSh := ⟨[], [.mk false [.v (.int .i64)]]⟩
@[reducible] def po_mjd_zero : PSh := ⟨[], [.mk false [.v (.int .i64)], .mk false [.v .err]]⟩
def f_mjd_zero_m (T : Unit) (d : Unit × ((Int × Unit) × Unit)) : Option (Unit × ((Int × Unit) × (((Option Int) × Unit) × Unit))) :=
  let x1 : Bool := (d.2.1.1 == (1 : Int))
  bif x1 then (
  some ((), (((40587 : Int), ()), (((none : Option Int), ()), ()))))
  else (
  let x2 : Bool := (d.2.1.1 == (2 : Int))
  bif x2 then (
  some ((), (((2440588 : Int), ()), (((none : Option Int), ()), ()))))
  else (
  let x3 : Bool := (d.2.1.1 == (3 : Int))
  bif x3 then (
  some ((), (((25567 : Int), ()), (((none : Option Int), ()), ()))))
  else (
  let x4 : Bool := (d.2.1.1 == (4 : Int))
  bif x4 then (
  some ((), (((-3657 : Int), ()), (((none : Option Int), ()), ()))))
  else (
  let x5 : (Option Int) := (some (11 : Int))
  some ((), (((0 : Int), ()), ((x5, ()), ())))))))
def c_mjd_zero : List Nat := []
def L_mjd_zero (_ : Nat) : Pts po_mjd_zero.den := []
def E_mjd_zero : Env := E0
theorem q_mjd_zero_m (k : Nat) (d : Unit × ((Int × Unit) × Unit)) : evCode E_mjd_zero (tab (L_mjd_zero k)) c_mjd_zero (bodyOf Try.f139) 0 (finK E_mjd_zero po_mjd_zero [.tmp 2, .tmp 3]) (startSt pi_mjd_zero 14 d) = f_mjd_zero_m () d := by kernel_rfl
def g_mjd_zero (d : Unit × ((Int × Unit) × Unit)) : Option (Unit × ((Int × Unit) × (((Option Int) × Unit) × Unit))) := f_mjd_zero_m () d
theorem ok_mjd_zero : FnOk Try.prog ET0 139 pi_mjd_zero po_mjd_zero g_mjd_zero :=
  fn_of_body (E := E_mjd_zero) e0_ok (fn := Try.f139) Try.func139 (by kernel_rfl) (by kernel_rfl) [.tmp 2, .tmp 3] (by kernel_rfl) (by kernel_rfl) (by decide) rfl c_mjd_zero L_mjd_zero
    (by intro x hx; cases hx) (by intro k x hx; cases hx) (fun d out h => ⟨0, (q_mjd_zero_m 0 d).trans h⟩)

/- horologe/day.floor -/
@[reducible] def pi_day_floor : PSh := ⟨[], [.mk false [.v (.int .i64)], .mk false [.v (.int .i64)]]⟩
@[reducible] def po_day_floor : PSh := ⟨[], [.mk false [.v (.int .i64)]]⟩
def f_day_floor_m (T : Unit) (d : Unit × ((Int × Unit) × ((Int × Unit) × Unit))) : Option (Unit × ((Int × Unit) × Unit)) :=
  bif (d.2.2.1.1 == 0) then (
  none)
  else (
  let x1 : Int := (iquo .i64 d.2.1.1 d.2.2.1.1)
  bif (d.2.2.1.1 == 0) then (
  none)
  else (
  let x2 : Int := (Int.tmod d.2.1.1 d.2.2.1.1)
  let x3 : Bool := (decide (x2 < (0 : Int)))
  bif x3 then (
  let x4 : Int := (isub .i64 x1 (1 : Int))
  some ((), ((x4, ()), ())))
  else (
  some ((), ((x1, ()), ())))))
def c_day_floor : List Nat := []
def L_day_floor (_ : Nat) : Pts po_day_floor.den := []
def E_day_floor : Env := E0
theorem q_day_floor_m (k : Nat) (d : Unit × ((Int × Unit) × ((Int × Unit) × Unit))) : evCode E_day_floor (tab (L_day_floor k)) c_day_floor (bodyOf Try.f95) 0 (finK E_day_floor po_day_floor [.tmp 4]) (startSt pi_day_floor 16 d) = f_day_floor_m () d := by kernel_rfl
def g_day_floor (d : Unit × ((Int × Unit) × ((Int × Unit) × Unit))) : Option (Unit × ((Int × Unit) × Unit)) := f_day_floor_m () d
theorem ok_day_floor : FnOk Try.prog ET0 95 pi_day_floor po_day_floor g_day_floor :=
  fn_of_body (E := E_day_floor) e0_ok (fn := Try.f95) Try.func95 (by kernel_rfl) (by kernel_rfl) [.tmp 4] (by kernel_rfl) (by kernel_rfl) (by decide) rfl c_day_floor L_day_floor
    (by intro x hx; cases hx) (by intro k x hx; cases hx) (fun d out h => ⟨0, (q_day_floor_m 0 d).trans h⟩)

/- horologe/day.number -/
@[reducible] def pi_day_number : PSh := ⟨[], [.mk false [.v (.int .i64)], .mk false [.v (.int .i64)], .mk false [.v (.int .i64)]]⟩
@[reducible] def po_day_number : PSh := ⟨[], [.mk false [.v (.int .i64)]]⟩
def f_day_number_m (T : Unit) (d : Unit × ((Int × Unit) × ((Int × Unit) × ((Int × Unit) × Unit)))) : Option (Unit × ((Int × Unit) × Unit)) :=
  let x1 : Bool := (decide (d.2.2.1.1 ≤ (2 : Int)))
  bif x1 then (
  let x2 : Int := (isub .i64 d.2.1.1 (1 : Int))
  let x3 : Int := (iadd .i64 d.2.2.1.1 (12 : Int))
  (g_day_floor ((), ((x2, ()), (((400 : Int), ()), ())))).bind fun x4 =>
  let x5 : Int := (imul .i64 x4.2.1.1 (400 : Int))
  let x6 : Int := (isub .i64 x2 x5)
  let x7 : Int := (isub .i64 x3 (3 : Int))
  let x8 : Int := (imul .i64 (153 : Int) x7)
  let x9 : Int := (iadd .i64 x8 (2 : Int))
  let x10 : Int := (iquo .i64 x9 (5 : Int))
  let x11 : Int := (iadd .i64 x10 d.2.2.2.1.1)
  let x12 : Int := (isub .i64 x11 (1 : Int))
  let x13 : Int := (imul .i64 x4.2.1.1 (146097 : Int))
  let x14 : Int := (imul .i64 x6 (365 : Int))
  let x15 : Int := (iadd .i64 x13 x14)
  let x16 : Int := (iquo .i64 x6 (4 : Int))
  let x17 : Int := (iadd .i64 x15 x16)
  let x18 : Int := (iquo .i64 x6 (100 : Int))
  let x19 : Int := (isub .i64 x17 x18)
  let x20 : Int := (iadd .i64 x19 x12)
  let x21 : Int := (isub .i64 x20 (719468 : Int))
  some ((), ((x21, ()), ())))
  else (
  (g_day_floor ((), ((d.2.1.1, ()), (((400 : Int), ()), ())))).bind fun x22 =>
  let x23 : Int := (imul .i64 x22.2.1.1 (400 : Int))
  let x24 : Int := (isub .i64 d.2.1.1 x23)
  let x25 : Int := (isub .i64 d.2.2.1.1 (3 : Int))
  let x26 : Int := (imul .i64 (153 : Int) x25)
  let x27 : Int := (iadd .i64 x26 (2 : Int))
  let x28 : Int := (iquo .i64 x27 (5 : Int))
  let x29 : Int := (iadd .i64 x28 d.2.2.2.1.1)
  let x30 : Int := (isub .i64 x29 (1 : Int))
  let x31 : Int := (imul .i64 x22.2.1.1 (146097 : Int))
  let x32 : Int := (imul .i64 x24 (365 : Int))
  let x33 : Int := (iadd .i64 x31 x32)
  let x34 : Int := (iquo .i64 x24 (4 : Int))
  let x35 : Int := (iadd .i64 x33 x34)
  let x36 : Int := (iquo .i64 x24 (100 : Int))
  let x37 : Int := (isub .i64 x35 x36)
  let x38 : Int := (iadd .i64 x37 x30)
  let x39 : Int := (isub .i64 x38 (719468 : Int))
  some ((), ((x39, ()), ())))
def c_day_number : List Nat := []
def L_day_number (_ : Nat) : Pts po_day_number.den := []
def E_day_number : Env := (E0.add 95 (typedSem pi_day_floor po_day_floor g_day_floor))
theorem q_day_number_m (k : Nat) (d : Unit × ((Int × Unit) × ((Int × Unit) × ((Int × Unit) × Unit)))) : evCode E_day_number (tab (L_day_number k)) c_day_number (bodyOf Try.f108) 0 (finK E_day_number po_day_number [.tmp 6]) (startSt pi_day_number 44 d) = f_day_number_m () d := by kernel_rfl
def g_day_number (d : Unit × ((Int × Unit) × ((Int × Unit) × ((Int × Unit) × Unit)))) : Option (Unit × ((Int × Unit) × Unit)) := f_day_number_m () d
theorem ok_day_number : FnOk Try.prog ET0 108 pi_day_number po_day_number g_day_number :=
  fn_of_body (E := E_day_number) (envOk_add e0_ok (typed_ok ok_day_floor)) (fn := Try.f108) Try.func108 (by kernel_rfl) (by kernel_rfl) [.tmp 6] (by kernel_rfl) (by kernel_rfl) (by decide) rfl c_day_number L_day_number
    (by intro x hx; cases hx) (by intro k x hx; cases hx) (fun d out h => ⟨0, (q_day_number_m 0 d).trans h⟩)

/- horologe/day.First -/
@[reducible] def pi_day_First : PSh := ⟨[], []⟩
@[reducible] def po_day_First : PSh := ⟨[], [.mk false [.v (.int .i64)]]⟩
def f_day_First_m (T : Unit) (d : Unit × Unit) : Option (Unit × ((Int × Unit) × Unit)) :=
  (g_day_number ((), (((-9999 : Int), ()), (((1 : Int), ()), (((1 : Int), ()), ()))))).bind fun x1 =>
  some ((), ((x1.2.1.1, ()), ()))
def c_day_First : List Nat := []
def L_day_First (_ : Nat) : Pts po_day_First.den := []
def E_day_First : Env := (E0.add 108 (typedSem pi_day_number po_day_number g_day_number))
theorem q_day_First_m (k : Nat) (d : Unit × Unit) : evCode E_day_First (tab (L_day_First k)) c_day_First (bodyOf Try.f93) 0 (finK E_day_First po_day_First [.tmp 0]) (startSt pi_day_First 2 d) = f_day_First_m () d := by kernel_rfl
def g_day_First (d : Unit × Unit) : Option (Unit × ((Int × Unit) × Unit)) := f_day_First_m () d
theorem ok_day_First : FnOk Try.prog ET0 93 pi_day_First po_day_First g_day_First :=
  fn_of_body (E := E_day_First) (envOk_add e0_ok (typed_ok ok_day_number)) (fn := Try.f93) Try.func93 (by kernel_rfl) (by kernel_rfl) [.tmp 0] (by kernel_rfl) (by kernel_rfl) (by decide) rfl c_day_First L_day_First
    (by intro x hx; cases hx) (by intro k x hx; cases hx) (fun d out h => ⟨0, (q_day_First_m 0 d).trans h⟩)

/- horologe/day.Last -/
@[reducible] def pi_day_Last : PSh := ⟨[], []⟩
@[reducible] def po_day_Last : PSh := ⟨[], [.mk false [.v (.int .i64)]]⟩
def f_day_Last_m (T : Unit) (d : Unit × Unit) : Option (Unit × ((Int × Unit) × Unit)) :=
  (g_day_number ((), (((9999 : Int), ()), (((12 : Int), ()), (((31 : Int), ()), ()))))).bind fun x1 =>
  some ((), ((x1.2.1.1, ()), ()))
def c_day_Last : List Nat := []
def L_day_Last (_ : Nat) : Pts po_day_Last.den := []
def E_day_Last : Env := (E0.add 108 (typedSem pi_day_number po_day_number g_day_number))
theorem q_day_Last_m (k : Nat) (d : Unit × Unit) : evCode E_day_Last (tab (L_day_Last k)) c_day_Last (bodyOf Try.f94) 0 (finK E_day_Last po_day_Last [.tmp 0]) (startSt pi_day_Last 2 d) = f_day_Last_m () d := by kernel_rfl
def g_day_Last (d : Unit × Unit) : Option (Unit × ((Int × Unit) × Unit)) := f_day_Last_m () d
theorem ok_day_Last : FnOk Try.prog ET0 94 pi_day_Last po_day_Last g_day_Last :=
  fn_of_body (E := E_day_Last) (envOk_add e0_ok (typed_ok ok_day_number)) (fn := Try.f94) Try.func94 (by kernel_rfl) (by kernel_rfl) [.tmp 0] (by kernel_rfl) (by kernel_rfl) (by decide) rfl c_day_Last L_day_Last
    (by intro x hx; cases hx) (by intro k x hx; cases hx) (fun d out h => ⟨0, (q_day_Last_m 0 d).trans h⟩)

/- horologe/mjd.there -/
@[reducible] def pi_mjd_there : PSh := ⟨[], [.mk false [.v (.int .i64)]]⟩
@[reducible] def po_mjd_there : PSh := ⟨[], [.mk false [.v .bool]]⟩
def f_mjd_there_m (T : Unit) (d : Unit × ((Int × Unit) × Unit)) : Option (Unit × ((Bool × Unit) × Unit)) :=
  (g_day_First ((), ())).bind fun x1 =>
  let x2 : Bool := (decide (d.2.1.1 ≥ x1.2.1.1))
  bif x2 then (
  (g_day_Last ((), ())).bind fun x3 =>
  let x4 : Bool := (decide (d.2.1.1 ≤ x3.2.1.1))
  some ((), ((x4, ()), ())))
  else (
  some ((), ((false, ()), ())))
def c_mjd_there : List Nat := []
def L_mjd_there (_ : Nat) : Pts po_mjd_there.den := []
def E_mjd_there : Env := ((E0.add 93 (typedSem pi_day_First po_day_First g_day_First)).add 94 (typedSem pi_day_Last po_day_Last g_day_Last))
theorem q_mjd_there_m (k : Nat) (d : Unit × ((Int × Unit) × Unit)) : evCode E_mjd_there (tab (L_mjd_there k)) c_mjd_there (bodyOf Try.f140) 0 (finK E_mjd_there po_mjd_there [.tmp 2]) (startSt pi_mjd_there 11 d) = f_mjd_there_m () d := by kernel_rfl
def g_mjd_there (d : Unit × ((Int × Unit) × Unit)) : Option (Unit × ((Bool × Unit) × Unit)) := f_mjd_there_m () d
theorem ok_mjd_there : FnOk Try.prog ET0 140 pi_mjd_there po_mjd_there g_mjd_there :=
  fn_of_body (E := E_mjd_there) (envOk_add (envOk_add e0_ok (typed_ok ok_day_First)) (typed_ok ok_day_Last)) (fn := Try.f140) Try.func140 (by kernel_rfl) (by kernel_rfl) [.tmp 2] (by kernel_rfl) (by kernel_rfl) (by decide) rfl c_mjd_there L_mjd_there
    (by intro x hx; cases hx) (by intro k x hx; cases hx) (fun d out h => ⟨0, (q_mjd_there_m 0 d).trans h⟩)

/- horologe/mjd.Count -/
@[reducible] def pi_mjd_Count : PSh := ⟨[], [.mk false [.v (.int .i64)], .mk false [.v (.int .i64)]]⟩
@[reducible] def po_mjd_Count : PSh := ⟨[], [.mk false [.v (.int .i64)], .mk false [.v .err]]⟩
def f_mjd_Count_m (T : Unit) (d : Unit × ((Int × Unit) × ((Int × Unit) × Unit))) : Option (Unit × ((Int × Unit) × (((Option Int) × Unit) × Unit))) :=
  (g_mjd_zero ((), ((d.2.1.1, ()), ()))).bind fun x1 =>
  let x2 : Bool := (!x1.2.2.1.1.isNone)
  bif x2 then (
  some ((), (((0 : Int), ()), ((x1.2.2.1.1, ()), ()))))
  else (
  (g_mjd_there ((), ((d.2.2.1.1, ()), ()))).bind fun x3 =>
  let x4 : Bool := (!x3.2.1.1)
  bif x4 then (
  let x5 : (Option Int) := (some (13 : Int))
  some ((), (((0 : Int), ()), ((x5, ()), ()))))
  else (
  let x6 : Int := (iadd .i64 d.2.2.1.1 x1.2.1.1)
  some ((), ((x6, ()), (((none : Option Int), ()), ())))))
def c_mjd_Count : List Nat := []
def L_mjd_Count (_ : Nat) : Pts po_mjd_Count.den := []
def E_mjd_Count : Env := ((E0.add 139 (typedSem pi_mjd_zero po_mjd_zero g_mjd_zero)).add 140 (typedSem pi_mjd_there po_mjd_there g_mjd_there))
theorem q_mjd_Count_m (k : Nat) (d : Unit × ((Int × Unit) × ((Int × Unit) × Unit))) : evCode E_mjd_Count (tab (L_mjd_Count k)) c_mjd_Count (bodyOf Try.f98) 0 (finK E_mjd_Count po_mjd_Count [.tmp 4, .tmp 5]) (startSt pi_mjd_Count 25 d) = f_mjd_Count_m () d := by kernel_rfl
def g_mjd_Count (d : Unit × ((Int × Unit) × ((Int × Unit) × Unit))) : Option (Unit × ((Int × Unit) × (((Option Int) × Unit) × Unit))) := f_mjd_Count_m () d
theorem ok_mjd_Count : FnOk Try.prog ET0 98 pi_mjd_Count po_mjd_Count g_mjd_Count :=
  fn_of_body (E := E_mjd_Count) (envOk_add (envOk_add e0_ok (typed_ok ok_mjd_zero)) (typed_ok ok_mjd_there)) (fn := Try.f98) Try.func98 (by kernel_rfl) (by kernel_rfl) [.tmp 4, .tmp 5] (by kernel_rfl) (by kernel_rfl) (by decide) rfl c_mjd_Count L_mjd_Count
    (by intro x hx; cases hx) (by intro k x hx; cases hx) (fun d out h => ⟨0, (q_mjd_Count_m 0 d).trans h⟩)

/- slices.Reverse[[]byte,byte] -/
@[reducible] def pi_slices_Reverse_byte_byte_io : PSh := ⟨[.row 5 (.int .u8)], [.mk false [.osl 0]]⟩
@[reducible] def po_slices_Reverse_byte_byte_io : PSh := ⟨[.row 5 (.int .u8)], [.mk false [.osl 0]]⟩
@[reducible] def TT_slices_Reverse_byte_byte_io : Type := (((((List Int) × Unit) × (Unit × ((Int × Unit) × ((Int × Unit) × Unit)))) → Option (((List Int) × Unit) × (Unit × Unit))) × Unit)
@[reducible] def sh_slices_Reverse_byte_byte_io_1 : PSh := ⟨[.row 5 (.int .u8)], [.mk false [.osl 0], .any, .mk false [.v (.int .i64)], .mk false [.v (.int .i64)], .any, .any, .any, .any, .any, .any, .any, .any, .any, .any, .any, .any, .any, .any, .any, .any, .any, .any, .any, .any, .any, .any, .any, .any]⟩
def f_slices_Reverse_byte_byte_io_p1 (T : TT_slices_Reverse_byte_byte_io) (d : ((List Int) × Unit) × (Unit × ((Int × Unit) × ((Int × Unit) × Unit)))) : Option (((List Int) × Unit) × (Unit × Unit)) :=
  let x3 : Bool := (decide (d.2.2.1.1 < d.2.2.2.1.1))
  bif x3 then (
  bif decide ((0 : Int) ≤ d.2.2.2.1.1) && decide (d.2.2.2.1.1 < (d.1.1.length : Int)) then (
  bif decide ((0 : Int) ≤ d.2.2.1.1) && decide (d.2.2.1.1 < (d.1.1.length : Int)) then (
  bif decide ((0 : Int) ≤ d.2.2.1.1) && decide (d.2.2.1.1 < (d.1.1.length : Int)) then (
  let x4 : (List Int) := (List.set d.1.1 (Int.toNat d.2.2.1.1) (gd (.int .u8) d.1.1 d.2.2.2.1.1))
  bif decide ((0 : Int) ≤ d.2.2.2.1.1) && decide (d.2.2.2.1.1 < (x4.length : Int)) then (
  let x5 : (List Int) := (List.set x4 (Int.toNat d.2.2.2.1.1) (gd (.int .u8) d.1.1 d.2.2.1.1))
  let x6 : Int := (iadd .i64 d.2.2.1.1 (1 : Int))
  let x7 : Int := (isub .i64 d.2.2.2.1.1 (1 : Int))
  (T.1 ((x5, ()), ((), ((x6, ()), ((x7, ()), ()))))))
  else none)
  else none)
  else none)
  else none)
  else (
  some ((d.1.1, ()), ((), ())))
def f_slices_Reverse_byte_byte_io_t : Nat → TT_slices_Reverse_byte_byte_io
  | 0 => (fun _ => none, ())
  | k + 1 => (f_slices_Reverse_byte_byte_io_p1 (f_slices_Reverse_byte_byte_io_t k), ())
theorem t_slices_Reverse_byte_byte_io (k : Nat) : f_slices_Reverse_byte_byte_io_t (k + 1) = (f_slices_Reverse_byte_byte_io_p1 (f_slices_Reverse_byte_byte_io_t k), ()) := rfl
def f_slices_Reverse_byte_byte_io_m (T : TT_slices_Reverse_byte_byte_io) (d : ((List Int) × Unit) × (Unit × Unit)) : Option (((List Int) × Unit) × (Unit × Unit)) :=
  let x1 : Int := (d.1.1.length : Int)
  let x2 : Int := (isub .i64 x1 (1 : Int))
  (T.1 ((d.1.1, ()), ((), (((0 : Int), ()), ((x2, ()), ())))))
def c_slices_Reverse_byte_byte_io : List Nat := []
def L_slices_Reverse_byte_byte_io (k : Nat) : Pts po_slices_Reverse_byte_byte_io.den := [(1, ⟨sh_slices_Reverse_byte_byte_io_1, (f_slices_Reverse_byte_byte_io_t k).1⟩)]
def E_slices_Reverse_byte_byte_io : Env := (E0.kp [0])
theorem q_slices_Reverse_byte_byte_io_1 (k : Nat) (d : ((List Int) × Unit) × (Unit × ((Int × Unit) × ((Int × Unit) × Unit)))) : evAt E_slices_Reverse_byte_byte_io (tab (L_slices_Reverse_byte_byte_io k)) c_slices_Reverse_byte_byte_io 1 (bodyOf Try.f162) 0 (finKio E_slices_Reverse_byte_byte_io po_slices_Reverse_byte_byte_io [] [(0, none)]) (ptSt sh_slices_Reverse_byte_byte_io_1 d) = f_slices_Reverse_byte_byte_io_p1 (f_slices_Reverse_byte_byte_io_t k) d := by kernel_rfl
theorem q_slices_Reverse_byte_byte_io_m (k : Nat) (d : ((List Int) × Unit) × (Unit × Unit)) : evCode E_slices_Reverse_byte_byte_io (tab (L_slices_Reverse_byte_byte_io k)) c_slices_Reverse_byte_byte_io (bodyOf Try.f162) 0 (finKio E_slices_Reverse_byte_byte_io po_slices_Reverse_byte_byte_io [] [(0, none)]) (startSt pi_slices_Reverse_byte_byte_io 28 d) = f_slices_Reverse_byte_byte_io_m (f_slices_Reverse_byte_byte_io_t k) d := by kernel_rfl
theorem go_slices_Reverse_byte_byte_io (F : ((List Int) × Unit) × (Unit × Unit) → Option (((List Int) × Unit) × (Unit × Unit))) (hF : ∀ d out, F d = some out → ∃ k, f_slices_Reverse_byte_byte_io_m (f_slices_Reverse_byte_byte_io_t k) d = some out) : FnIo Try.prog ET0 162 pi_slices_Reverse_byte_byte_io po_slices_Reverse_byte_byte_io 0 [(0, 0, none)] F :=
  fn_of_bodyIo (E := E_slices_Reverse_byte_byte_io) (envOk_kp e0_ok) (fn := Try.f162) Try.func162 (by kernel_rfl) (by kernel_rfl) [] [(0, none)] [(0, 0, none)] (by kernel_rfl) (by kernel_rfl) (by kernel_rfl) (by kernel_rfl) (by decide) (by decide) c_slices_Reverse_byte_byte_io L_slices_Reverse_byte_byte_io
    (by intro x hx d; simp only [L_slices_Reverse_byte_byte_io, List.mem_cons, List.not_mem_nil, or_false] at hx; subst hx; rfl)
    (by intro k x hx d out h; simp only [L_slices_Reverse_byte_byte_io, List.mem_cons, List.not_mem_nil, or_false] at hx; subst hx; exact (q_slices_Reverse_byte_byte_io_1 k d).trans h)
    (by intro d out h; obtain ⟨k, hk⟩ := hF d out h; exact ⟨k, (q_slices_Reverse_byte_byte_io_m k d).trans hk⟩)
def g_slices_Reverse_byte_byte_io (d : ((List Int) × Unit) × (Unit × Unit)) : Option (((List Int) × Unit) × (Unit × Unit)) := lim fun k => f_slices_Reverse_byte_byte_io_m (f_slices_Reverse_byte_byte_io_t k) d
theorem ok_slices_Reverse_byte_byte_io : FnIo Try.prog ET0 162 pi_slices_Reverse_byte_byte_io po_slices_Reverse_byte_byte_io 0 [(0, 0, none)] g_slices_Reverse_byte_byte_io := go_slices_Reverse_byte_byte_io g_slices_Reverse_byte_byte_io fun d out h => lim_some h

/- horologe/figures.raw -/
@[reducible] def pi_figures_raw : PSh := ⟨[], [.mk false [.v (.int .u64)], .mk false [.v (.int .i64)]]⟩
@[reducible] def po_figures_raw : PSh := ⟨[], [.mk false [.v .str]]⟩
@[reducible] def TT_figures_raw : Type := (((((List Int) × Unit) × ((Int × Unit) × ((Int × Unit) × (Unit × Unit)))) → Option (Unit × ((ByteArray × Unit) × Unit))) × Unit)
@[reducible] def sh_figures_raw_3 : PSh := ⟨[.row 5 (.int .u8)], [.mk false [.v (.int .u64)], .mk false [.v (.int .i64)], .any, .any, .any, .mk false [.osl 0], .any, .any, .any, .any, .any, .any, .any, .any, .any, .any, .any, .any, .any, .any, .any, .any, .any, .any, .any, .any, .any, .any]⟩
def f_figures_raw_p3 (T : TT_figures_raw) (d : ((List Int) × Unit) × ((Int × Unit) × ((Int × Unit) × (Unit × Unit)))) : Option (Unit × ((ByteArray × Unit) × Unit)) :=
  let x1 : Bool := (decide (d.2.1.1 > (0 : Int)))
  bif x1 then (
  let x2 : Int := (Int.tmod d.2.1.1 (10 : Int))
  let x3 : Int := (iconv .u8 x2)
  let x4 : Int := (iadd .u8 (48 : Int) x3)
  let x5 : (List Int) := ([x4] : List Int)
  bif decide (((d.1.1.length + x5.length) * 1 : Nat) ≤ 140737488355328) && decide (d.1.1.length + x5.length ≤ 9223372036854775807) then (
  let x6 : (List Int) := (d.1.1 ++ x5)
  let x7 : Int := (iquo .u64 d.2.1.1 (10 : Int))
  (T.1 ((x6, ()), ((x7, ()), ((d.2.2.1.1, ()), ((), ()))))))
  else none)
  else (
  let x8 : Int := (d.1.1.length : Int)
  let x9 : Int := (if (1 : Int) > d.2.2.1.1 then (1 : Int) else d.2.2.1.1)
  let x10 : Bool := (decide (x8 < x9))
  bif x10 then (
  let x11 : Int := (Int.tmod d.2.1.1 (10 : Int))
  let x12 : Int := (iconv .u8 x11)
  let x13 : Int := (iadd .u8 (48 : Int) x12)
  let x14 : (List Int) := ([x13] : List Int)
  bif decide (((d.1.1.length + x14.length) * 1 : Nat) ≤ 140737488355328) && decide (d.1.1.length + x14.length ≤ 9223372036854775807) then (
  let x15 : (List Int) := (d.1.1 ++ x14)
  let x16 : Int := (iquo .u64 d.2.1.1 (10 : Int))
  (T.1 ((x15, ()), ((x16, ()), ((d.2.2.1.1, ()), ((), ()))))))
  else none)
  else (
  (g_slices_Reverse_byte_byte_io ((d.1.1, ()), ((), ()))).bind fun x17 =>
  let x18 : ByteArray := (strOf x17.1.1)
  some ((), ((x18, ()), ()))))
def f_figures_raw_t : Nat → TT_figures_raw
  | 0 => (fun _ => none, ())
  | k + 1 => (f_figures_raw_p3 (f_figures_raw_t k), ())
theorem t_figures_raw (k : Nat) : f_figures_raw_t (k + 1) = (f_figures_raw_p3 (f_figures_raw_t k), ()) := rfl
def f_figures_raw_m (T : TT_figures_raw) (d : Unit × ((Int × Unit) × ((Int × Unit) × Unit))) : Option (Unit × ((ByteArray × Unit) × Unit)) :=
  (T.1 ((([] : List Int), ()), ((d.2.1.1, ()), ((d.2.2.1.1, ()), ((), ())))))
def c_figures_raw : List Nat := []
def L_figures_raw (k : Nat) : Pts po_figures_raw.den := [(3, ⟨sh_figures_raw_3, (f_figures_raw_t k).1⟩)]
def E_figures_raw : Env := (E0.add 162 (ioSem pi_slices_Reverse_byte_byte_io po_slices_Reverse_byte_byte_io 0 [(0, 0, none)] g_slices_Reverse_byte_byte_io))
theorem q_figures_raw_3 (k : Nat) (d : ((List Int) × Unit) × ((Int × Unit) × ((Int × Unit) × (Unit × Unit)))) : evAt E_figures_raw (tab (L_figures_raw k)) c_figures_raw 3 (bodyOf Try.f141) 0 (finK E_figures_raw po_figures_raw [.tmp 4]) (ptSt sh_figures_raw_3 d) = f_figures_raw_p3 (f_figures_raw_t k) d := by kernel_rfl
theorem q_figures_raw_m (k : Nat) (d : Unit × ((Int × Unit) × ((Int × Unit) × Unit))) : evCode E_figures_raw (tab (L_figures_raw k)) c_figures_raw (bodyOf Try.f141) 0 (finK E_figures_raw po_figures_raw [.tmp 4]) (startSt pi_figures_raw 28 d) = f_figures_raw_m (f_figures_raw_t k) d := by kernel_rfl
theorem go_figures_raw (F : Unit × ((Int × Unit) × ((Int × Unit) × Unit)) → Option (Unit × ((ByteArray × Unit) × Unit))) (hF : ∀ d out, F d = some out → ∃ k, f_figures_raw_m (f_figures_raw_t k) d = some out) : FnOk Try.prog ET0 141 pi_figures_raw po_figures_raw F :=
  fn_of_body (E := E_figures_raw) (envOk_add e0_ok (io_ok ok_slices_Reverse_byte_byte_io)) (fn := Try.f141) Try.func141 (by kernel_rfl) (by kernel_rfl) [.tmp 4] (by kernel_rfl) (by kernel_rfl) (by decide) rfl c_figures_raw L_figures_raw
    (by intro x hx d; simp only [L_figures_raw, List.mem_cons, List.not_mem_nil, or_false] at hx; subst hx; rfl)
    (by intro k x hx d out h; simp only [L_figures_raw, List.mem_cons, List.not_mem_nil, or_false] at hx; subst hx; exact (q_figures_raw_3 k d).trans h)
    (by intro d out h; obtain ⟨k, hk⟩ := hF d out h; exact ⟨k, (q_figures_raw_m k d).trans hk⟩)
def g_figures_raw (d : Unit × ((Int × Unit) × ((Int × Unit) × Unit))) : Option (Unit × ((ByteArray × Unit) × Unit)) := lim fun k => f_figures_raw_m (f_figures_raw_t k) d
theorem ok_figures_raw : FnOk Try.prog ET0 141 pi_figures_raw po_figures_raw g_figures_raw := go_figures_raw g_figures_raw fun d out h => lim_some h

/- horologe/figures.Put -/
@[reducible] def pi_figures_Put : PSh := ⟨[], [.mk false [.v (.int .i64)], .mk false [.v (.int .i64)]]⟩
@[reducible] def po_figures_Put : PSh := ⟨[], [.mk false [.v .str], .mk false [.v .err]]⟩
def f_figures_Put_m (T : Unit) (d : Unit × ((Int × Unit) × ((Int × Unit) × Unit))) : Option (Unit × ((ByteArray × Unit) × (((Option Int) × Unit) × Unit))) :=
  let x1 : Bool := (decide (d.2.2.1.1 < (0 : Int)))
  bif x1 then (
  let x2 : (Option Int) := (some (1 : Int))
  some ((), (((⟨#[]⟩ : ByteArray), ()), ((x2, ()), ()))))
  else (
  let x3 : Bool := (decide (d.2.2.1.1 > (20 : Int)))
  bif x3 then (
  let x4 : (Option Int) := (some (1 : Int))
  some ((), (((⟨#[]⟩ : ByteArray), ()), ((x4, ()), ()))))
  else (
  let x5 : Bool := (decide (d.2.1.1 < (0 : Int)))
  bif x5 then (
  let x6 : Int := (iconv .u64 d.2.1.1)
  let x7 : Int := (ineg .u64 x6)
  (g_figures_raw ((), ((x7, ()), ((d.2.2.1.1, ()), ())))).bind fun x8 =>
  bif fitsS (⟨#[45]⟩ : ByteArray) x8.2.1.1 then (
  let x9 : ByteArray := ((⟨#[45]⟩ : ByteArray) ++ x8.2.1.1)
  some ((), ((x9, ()), (((none : Option Int), ()), ()))))
  else none)
  else (
  let x10 : Int := (iconv .u64 d.2.1.1)
  (g_figures_raw ((), ((x10, ()), ((d.2.2.1.1, ()), ())))).bind fun x11 =>
  some ((), ((x11.2.1.1, ()), (((none : Option Int), ()), ()))))))
def c_figures_Put : List Nat := []
def L_figures_Put (_ : Nat) : Pts po_figures_Put.den := []
def E_figures_Put : Env := (E0.add 141 (typedSem pi_figures_raw po_figures_raw g_figures_raw))
theorem q_figures_Put_m (k : Nat) (d : Unit × ((Int × Unit) × ((Int × Unit) × Unit))) : evCode E_figures_Put (tab (L_figures_Put k)) c_figures_Put (bodyOf Try.f99) 0 (finK E_figures_Put po_figures_Put [.tmp 4, .tmp 5]) (startSt pi_figures_Put 27 d) = f_figures_Put_m () d := by kernel_rfl
def g_figures_Put (d : Unit × ((Int × Unit) × ((Int × Unit) × Unit))) : Option (Unit × ((ByteArray × Unit) × (((Option Int) × Unit) × Unit))) := f_figures_Put_m () d
theorem ok_figures_Put : FnOk Try.prog ET0 99 pi_figures_Put po_figures_Put g_figures_Put :=
  fn_of_body (E := E_figures_Put) (envOk_add e0_ok (typed_ok ok_figures_raw)) (fn := Try.f99) Try.func99 (by kernel_rfl) (by kernel_rfl) [.tmp 4, .tmp 5] (by kernel_rfl) (by kernel_rfl) (by decide) rfl c_figures_Put L_figures_Put
    (by intro x hx; cases hx) (by intro k x hx; cases hx) (fun d out h => ⟨0, (q_figures_Put_m 0 d).trans h⟩)

/- horologe/mjd.Five -/
@[reducible] def pi_mjd_Five : PSh := ⟨[], [.mk false [.v (.int .i64)]]⟩
@[reducible] def po_mjd_Five : PSh := ⟨[], [.mk false [.v .str], .mk false [.v .err]]⟩
def f_mjd_Five_m (T : Unit) (d : Unit × ((Int × Unit) × Unit)) : Option (Unit × ((ByteArray × Unit) × (((Option Int) × Unit) × Unit))) :=
  (g_mjd_Count ((), (((1 : Int), ()), ((d.2.1.1, ()), ())))).bind fun x1 =>
  let x2 : Bool := (!x1.2.2.1.1.isNone)
  bif x2 then (
  some ((), (((⟨#[]⟩ : ByteArray), ()), ((x1.2.2.1.1, ()), ()))))
  else (
  let x3 : Bool := (decide (x1.2.1.1 < (0 : Int)))
  bif x3 then (
  let x4 : (Option Int) := (some (1 : Int))
  some ((), (((⟨#[]⟩ : ByteArray), ()), ((x4, ()), ()))))
  else (
  let x5 : Bool := (decide (x1.2.1.1 > (99999 : Int)))
  bif x5 then (
  let x6 : (Option Int) := (some (1 : Int))
  some ((), (((⟨#[]⟩ : ByteArray), ()), ((x6, ()), ()))))
  else (
  (g_figures_Put ((), ((x1.2.1.1, ()), (((5 : Int), ()), ())))).bind fun x7 =>
  some ((), ((x7.2.1.1, ()), ((x7.2.2.1.1, ()), ()))))))
def c_mjd_Five : List Nat := []
def L_mjd_Five (_ : Nat) : Pts po_mjd_Five.den := []
def E_mjd_Five : Env := ((E0.add 98 (typedSem pi_mjd_Count po_mjd_Count g_mjd_Count)).add 99 (typedSem pi_figures_Put po_figures_Put g_figures_Put))
theorem q_mjd_Five_m (k : Nat) (d : Unit × ((Int × Unit) × Unit)) : evCode E_mjd_Five (tab (L_mjd_Five k)) c_mjd_Five (bodyOf Try.f44) 0 (finK E_mjd_Five po_mjd_Five [.tmp 2, .tmp 3]) (startSt pi_mjd_Five 27 d) = f_mjd_Five_m () d := by kernel_rfl
def g_mjd_Five (d : Unit × ((Int × Unit) × Unit)) : Option (Unit × ((ByteArray × Unit) × (((Option Int) × Unit) × Unit))) := f_mjd_Five_m () d
theorem ok_mjd_Five : FnOk Try.prog ET0 44 pi_mjd_Five po_mjd_Five g_mjd_Five :=
  fn_of_body (E := E_mjd_Five) (envOk_add (envOk_add e0_ok (typed_ok ok_mjd_Count)) (typed_ok ok_figures_Put)) (fn := Try.f44) Try.func44 (by kernel_rfl) (by kernel_rfl) [.tmp 2, .tmp 3] (by kernel_rfl) (by kernel_rfl) (by decide) rfl c_mjd_Five L_mjd_Five
    (by intro x hx; cases hx) (by intro k x hx; cases hx) (fun d out h => ⟨0, (q_mjd_Five_m 0 d).trans h⟩)

/- horologe/nist.in -/
@[reducible] def pi_nist_in : PSh := ⟨[], [.mk false [.v (.int .i64)], .mk false [.v (.int .i64)]]⟩
@[reducible] def po_nist_in : PSh := ⟨[], [.mk false [.v .bool]]⟩
def f_nist_in_m (T : Unit) (d : Unit × ((Int × Unit) × ((Int × Unit) × Unit))) : Option (Unit × ((Bool × Unit) × Unit)) :=
  let x1 : Bool := (decide (d.2.1.1 ≥ (0 : Int)))
  bif x1 then (
  let x2 : Bool := (decide (d.2.1.1 ≤ d.2.2.1.1))
  some ((), ((x2, ()), ())))
  else (
  some ((), ((false, ()), ())))
def c_nist_in : List Nat := []
def L_nist_in (_ : Nat) : Pts po_nist_in.den := []
def E_nist_in : Env := E0
theorem q_nist_in_m (k : Nat) (d : Unit × ((Int × Unit) × ((Int × Unit) × Unit))) : evCode E_nist_in (tab (L_nist_in k)) c_nist_in (bodyOf Try.f50) 0 (finK E_nist_in po_nist_in [.tmp 4]) (startSt pi_nist_in 12 d) = f_nist_in_m () d := by kernel_rfl
def g_nist_in (d : Unit × ((Int × Unit) × ((Int × Unit) × Unit))) : Option (Unit × ((Bool × Unit) × Unit)) := f_nist_in_m () d
theorem ok_nist_in : FnOk Try.prog ET0 50 pi_nist_in po_nist_in g_nist_in :=
  fn_of_body (E := E_nist_in) e0_ok (fn := Try.f50) Try.func50 (by kernel_rfl) (by kernel_rfl) [.tmp 4] (by kernel_rfl) (by kernel_rfl) (by decide) rfl c_nist_in L_nist_in
    (by intro x hx; cases hx) (by intro k x hx; cases hx) (fun d out h => ⟨0, (q_nist_in_m 0 d).trans h⟩)

/- horologe/nist.Check -/
@[reducible] def pi_nist_Check : PSh := ⟨[], [.mk true [.v (.int .i64), .v (.int .i64), .v (.int .i64), .v (.int .i64), .v (.int .i64), .v (.int .i64), .v .bool]]⟩
@[reducible] def po_nist_Check : PSh := ⟨[], [.mk false [.v .err]]⟩
def f_nist_Check_m (T : Unit) (d : Unit × ((Int × (Int × (Int × (Int × (Int × (Int × (Bool × Unit))))))) × Unit)) : Option (Unit × (((Option Int) × Unit) × Unit)) :=
  (g_mjd_Five ((), ((d.2.1.1, ()), ()))).bind fun x1 =>
  let x2 : Bool := (!x1.2.2.1.1.isNone)
  bif x2 then (
  some ((), ((x1.2.2.1.1, ()), ())))
  else (
  (g_nist_in ((), ((d.2.1.2.1, ()), (((86400 : Int), ()), ())))).bind fun x3 =>
  let x4 : Bool := (!x3.2.1.1)
  bif x4 then (
  let x5 : (Option Int) := (some (1 : Int))
  some ((), ((x5, ()), ())))
  else (
  (g_nist_in ((), ((d.2.1.2.2.1, ()), (((99 : Int), ()), ())))).bind fun x6 =>
  let x7 : Bool := (!x6.2.1.1)
  bif x7 then (
  let x8 : (Option Int) := (some (1 : Int))
  some ((), ((x8, ()), ())))
  else (
  (g_nist_in ((), ((d.2.1.2.2.2.1, ()), (((2 : Int), ()), ())))).bind fun x9 =>
  let x10 : Bool := (!x9.2.1.1)
  bif x10 then (
  let x11 : (Option Int) := (some (1 : Int))
  some ((), ((x11, ()), ())))
  else (
  (g_nist_in ((), ((d.2.1.2.2.2.2.1, ()), (((9 : Int), ()), ())))).bind fun x12 =>
  let x13 : Bool := (!x12.2.1.1)
  bif x13 then (
  let x14 : (Option Int) := (some (1 : Int))
  some ((), ((x14, ()), ())))
  else (
  (g_nist_in ((), ((d.2.1.2.2.2.2.2.1, ()), (((9999 : Int), ()), ())))).bind fun x15 =>
  let x16 : Bool := (!x15.2.1.1)
  bif x16 then (
  let x17 : (Option Int) := (some (1 : Int))
  some ((), ((x17, ()), ())))
  else (
  some ((), (((none : Option Int), ()), ()))))))))
def c_nist_Check : List Nat := []
def L_nist_Check (_ : Nat) : Pts po_nist_Check.den := []
def E_nist_Check : Env := ((E0.add 44 (typedSem pi_mjd_Five po_mjd_Five g_mjd_Five)).add 50 (typedSem pi_nist_in po_nist_in g_nist_in))
theorem q_nist_Check_m (k : Nat) (d : Unit × ((Int × (Int × (Int × (Int × (Int × (Int × (Bool × Unit))))))) × Unit)) : evCode E_nist_Check (tab (L_nist_Check k)) c_nist_Check (bodyOf Try.f16) 0 (finK E_nist_Check po_nist_Check [.tmp 2]) (startSt pi_nist_Check 43 d) = f_nist_Check_m () d := by kernel_rfl
def g_nist_Check (d : Unit × ((Int × (Int × (Int × (Int × (Int × (Int × (Bool × Unit))))))) × Unit)) : Option (Unit × (((Option Int) × Unit) × Unit)) := f_nist_Check_m () d
theorem ok_nist_Check : FnOk Try.prog ET0 16 pi_nist_Check po_nist_Check g_nist_Check :=
  fn_of_body (E := E_nist_Check) (envOk_add (envOk_add e0_ok (typed_ok ok_mjd_Five)) (typed_ok ok_nist_in)) (fn := Try.f16) Try.func16 (by kernel_rfl) (by kernel_rfl) [.tmp 2] (by kernel_rfl) (by kernel_rfl) (by decide) rfl c_nist_Check L_nist_Check
    (by intro x hx; cases hx) (by intro k x hx; cases hx) (fun d out h => ⟨0, (q_nist_Check_m 0 d).trans h⟩)

/- horologe/day.Date -/
@[reducible] def pi_day_Date : PSh := ⟨[], [.mk false [.v (.int .i64)]]⟩
@[reducible] def po_day_Date : PSh := ⟨[], [.mk false [.v (.int .i64)], .mk false [.v (.int .i64)], .mk false [.v (.int .i64)], .mk false [.v .err]]⟩
def f_day_Date_m (T : Unit) (d : Unit × ((Int × Unit) × Unit)) : Option (Unit × ((Int × Unit) × ((Int × Unit) × ((Int × Unit) × (((Option Int) × Unit) × Unit))))) :=
  (g_day_First ((), ())).bind fun x1 =>
  let x2 : Bool := (decide (d.2.1.1 < x1.2.1.1))
  bif x2 then (
  let x3 : (Option Int) := (some (13 : Int))
  some ((), (((0 : Int), ()), (((0 : Int), ()), (((0 : Int), ()), ((x3, ()), ()))))))
  else (
  (g_day_Last ((), ())).bind fun x4 =>
  let x5 : Bool := (decide (d.2.1.1 > x4.2.1.1))
  bif x5 then (
  let x6 : (Option Int) := (some (13 : Int))
  some ((), (((0 : Int), ()), (((0 : Int), ()), (((0 : Int), ()), ((x6, ()), ()))))))
  else (
  let x7 : Int := (iadd .i64 d.2.1.1 (719468 : Int))
  (g_day_floor ((), ((x7, ()), (((146097 : Int), ()), ())))).bind fun x8 =>
  let x9 : Int := (iadd .i64 d.2.1.1 (719468 : Int))
  let x10 : Int := (imul .i64 x8.2.1.1 (146097 : Int))
  let x11 : Int := (isub .i64 x9 x10)
  let x12 : Int := (iquo .i64 x11 (1460 : Int))
  let x13 : Int := (isub .i64 x11 x12)
  let x14 : Int := (iquo .i64 x11 (36524 : Int))
  let x15 : Int := (iadd .i64 x13 x14)
  let x16 : Int := (iquo .i64 x11 (146096 : Int))
  let x17 : Int := (isub .i64 x15 x16)
  let x18 : Int := (iquo .i64 x17 (365 : Int))
  let x19 : Int := (imul .i64 (365 : Int) x18)
  let x20 : Int := (iquo .i64 x18 (4 : Int))
  let x21 : Int := (iadd .i64 x19 x20)
  let x22 : Int := (iquo .i64 x18 (100 : Int))
  let x23 : Int := (isub .i64 x21 x22)
  let x24 : Int := (isub .i64 x11 x23)
  let x25 : Int := (imul .i64 (5 : Int) x24)
  let x26 : Int := (iadd .i64 x25 (2 : Int))
  let x27 : Int := (iquo .i64 x26 (153 : Int))
  let x28 : Int := (imul .i64 (153 : Int) x27)
  let x29 : Int := (iadd .i64 x28 (2 : Int))
  let x30 : Int := (iquo .i64 x29 (5 : Int))
  let x31 : Int := (isub .i64 x24 x30)
  let x32 : Int := (iadd .i64 x31 (1 : Int))
  let x33 : Int := (imul .i64 x8.2.1.1 (400 : Int))
  let x34 : Int := (iadd .i64 x18 x33)
  let x35 : Int := (iadd .i64 x27 (3 : Int))
  let x36 : Bool := (decide (x35 > (12 : Int)))
  bif x36 then (
  let x37 : Int := (isub .i64 x35 (12 : Int))
  let x38 : Int := (iadd .i64 x34 (1 : Int))
  some ((), ((x38, ()), ((x37, ()), ((x32, ()), (((none : Option Int), ()), ()))))))
  else (
  some ((), ((x34, ()), ((x35, ()), ((x32, ()), (((none : Option Int), ()), ()))))))))
def c_day_Date : List Nat := []
def L_day_Date (_ : Nat) : Pts po_day_Date.den := []
def E_day_Date : Env := (((E0.add 93 (typedSem pi_day_First po_day_First g_day_First)).add 94 (typedSem pi_day_Last po_day_Last g_day_Last)).add 95 (typedSem pi_day_floor po_day_floor g_day_floor))
theorem q_day_Date_m (k : Nat) (d : Unit × ((Int × Unit) × Unit)) : evCode E_day_Date (tab (L_day_Date k)) c_day_Date (bodyOf Try.f41) 0 (finK E_day_Date po_day_Date [.tmp 2, .tmp 3, .tmp 4, .tmp 5]) (startSt pi_day_Date 77 d) = f_day_Date_m () d := by kernel_rfl
def g_day_Date (d : Unit × ((Int × Unit) × Unit)) : Option (Unit × ((Int × Unit) × ((Int × Unit) × ((Int × Unit) × (((Option Int) × Unit) × Unit))))) := f_day_Date_m () d
theorem ok_day_Date : FnOk Try.prog ET0 41 pi_day_Date po_day_Date g_day_Date :=
  fn_of_body (E := E_day_Date) (envOk_add (envOk_add (envOk_add e0_ok (typed_ok ok_day_First)) (typed_ok ok_day_Last)) (typed_ok ok_day_floor)) (fn := Try.f41) Try.func41 (by kernel_rfl) (by kernel_rfl) [.tmp 2, .tmp 3, .tmp 4, .tmp 5] (by kernel_rfl) (by kernel_rfl) (by decide) rfl c_day_Date L_day_Date
    (by intro x hx; cases hx) (by intro k x hx; cases hx) (fun d out h => ⟨0, (q_day_Date_m 0 d).trans h⟩)

/- horologe/label.in -/
@[reducible] def pi_label_in : PSh := ⟨[], [.mk false [.v (.int .i64)], .mk false [.v (.int .i64)]]⟩
@[reducible] def po_label_in : PSh := ⟨[], [.mk false [.v .bool]]⟩
def f_label_in_m (T : Unit) (d : Unit × ((Int × Unit) × ((Int × Unit) × Unit))) : Option (Unit × ((Bool × Unit) × Unit)) :=
  let x1 : Bool := (decide (d.2.1.1 ≥ (0 : Int)))
  bif x1 then (
  let x2 : Bool := (decide (d.2.1.1 < d.2.2.1.1))
  some ((), ((x2, ()), ())))
  else (
  some ((), ((false, ()), ())))
def c_label_in : List Nat := []
def L_label_in (_ : Nat) : Pts po_label_in.den := []
def E_label_in : Env := E0
theorem q_label_in_m (k : Nat) (d : Unit × ((Int × Unit) × ((Int × Unit) × Unit))) : evCode E_label_in (tab (L_label_in k)) c_label_in (bodyOf Try.f96) 0 (finK E_label_in po_label_in [.tmp 4]) (startSt pi_label_in 12 d) = f_label_in_m () d := by kernel_rfl
def g_label_in (d : Unit × ((Int × Unit) × ((Int × Unit) × Unit))) : Option (Unit × ((Bool × Unit) × Unit)) := f_label_in_m () d
theorem ok_label_in : FnOk Try.prog ET0 96 pi_label_in po_label_in g_label_in :=
  fn_of_body (E := E_label_in) e0_ok (fn := Try.f96) Try.func96 (by kernel_rfl) (by kernel_rfl) [.tmp 4] (by kernel_rfl) (by kernel_rfl) (by decide) rfl c_label_in L_label_in
    (by intro x hx; cases hx) (by intro k x hx; cases hx) (fun d out h => ⟨0, (q_label_in_m 0 d).trans h⟩)

/- horologe/label.clock -/
@[reducible] def pi_label_clock : PSh := ⟨[], [.mk false [.v (.int .i64)]]⟩
@[reducible] def po_label_clock : PSh := ⟨[], [.mk false [.v (.int .i64)], .mk false [.v (.int .i64)]]⟩
def f_label_clock_m (T : Unit) (d : Unit × ((Int × Unit) × Unit)) : Option (Unit × ((Int × Unit) × ((Int × Unit) × Unit))) :=
  let x1 : Bool := (d.2.1.1 == (86400 : Int))
  bif x1 then (
  some ((), (((1439 : Int), ()), (((60 : Int), ()), ()))))
  else (
  let x2 : Int := (iquo .i64 d.2.1.1 (60 : Int))
  let x3 : Int := (Int.tmod d.2.1.1 (60 : Int))
  some ((), ((x2, ()), ((x3, ()), ()))))
def c_label_clock : List Nat := []
def L_label_clock (_ : Nat) : Pts po_label_clock.den := []
def E_label_clock : Env := E0
theorem q_label_clock_m (k : Nat) (d : Unit × ((Int × Unit) × Unit)) : evCode E_label_clock (tab (L_label_clock k)) c_label_clock (bodyOf Try.f97) 0 (finK E_label_clock po_label_clock [.tmp 2, .tmp 3]) (startSt pi_label_clock 10 d) = f_label_clock_m () d := by kernel_rfl
def g_label_clock (d : Unit × ((Int × Unit) × Unit)) : Option (Unit × ((Int × Unit) × ((Int × Unit) × Unit))) := f_label_clock_m () d
theorem ok_label_clock : FnOk Try.prog ET0 97 pi_label_clock po_label_clock g_label_clock :=
  fn_of_body (E := E_label_clock) e0_ok (fn := Try.f97) Try.func97 (by kernel_rfl) (by kernel_rfl) [.tmp 2, .tmp 3] (by kernel_rfl) (by kernel_rfl) (by decide) rfl c_label_clock L_label_clock
    (by intro x hx; cases hx) (by intro k x hx; cases hx) (fun d out h => ⟨0, (q_label_clock_m 0 d).trans h⟩)

/- horologe/label.Clock -/
@[reducible] def pi_label_Clock : PSh := ⟨[], [.mk false [.v (.int .i64)]]⟩
@[reducible] def po_label_Clock : PSh := ⟨[], [.mk false [.v (.int .i64)], .mk false [.v (.int .i64)], .mk false [.v (.int .i64)], .mk false [.v .err]]⟩
def f_label_Clock_m (T : Unit) (d : Unit × ((Int × Unit) × Unit)) : Option (Unit × ((Int × Unit) × ((Int × Unit) × ((Int × Unit) × (((Option Int) × Unit) × Unit))))) :=
  (g_label_in ((), ((d.2.1.1, ()), (((86401 : Int), ()), ())))).bind fun x1 =>
  let x2 : Bool := (!x1.2.1.1)
  bif x2 then (
  let x3 : (Option Int) := (some (1 : Int))
  some ((), (((0 : Int), ()), (((0 : Int), ()), (((0 : Int), ()), ((x3, ()), ()))))))
  else (
  (g_label_clock ((), ((d.2.1.1, ()), ()))).bind fun x4 =>
  let x5 : Int := (iquo .i64 x4.2.1.1 (60 : Int))
  let x6 : Int := (Int.tmod x4.2.1.1 (60 : Int))
  some ((), ((x5, ()), ((x6, ()), ((x4.2.2.1.1, ()), (((none : Option Int), ()), ()))))))
def c_label_Clock : List Nat := []
def L_label_Clock (_ : Nat) : Pts po_label_Clock.den := []
def E_label_Clock : Env := ((E0.add 96 (typedSem pi_label_in po_label_in g_label_in)).add 97 (typedSem pi_label_clock po_label_clock g_label_clock))
theorem q_label_Clock_m (k : Nat) (d : Unit × ((Int × Unit) × Unit)) : evCode E_label_Clock (tab (L_label_Clock k)) c_label_Clock (bodyOf Try.f42) 0 (finK E_label_Clock po_label_Clock [.tmp 2, .tmp 3, .tmp 4, .tmp 5]) (startSt pi_label_Clock 20 d) = f_label_Clock_m () d := by kernel_rfl
def g_label_Clock (d : Unit × ((Int × Unit) × Unit)) : Option (Unit × ((Int × Unit) × ((Int × Unit) × ((Int × Unit) × (((Option Int) × Unit) × Unit))))) := f_label_Clock_m () d
theorem ok_label_Clock : FnOk Try.prog ET0 42 pi_label_Clock po_label_Clock g_label_Clock :=
  fn_of_body (E := E_label_Clock) (envOk_add (envOk_add e0_ok (typed_ok ok_label_in)) (typed_ok ok_label_clock)) (fn := Try.f42) Try.func42 (by kernel_rfl) (by kernel_rfl) [.tmp 2, .tmp 3, .tmp 4, .tmp 5] (by kernel_rfl) (by kernel_rfl) (by decide) rfl c_label_Clock L_label_Clock
    (by intro x hx; cases hx) (by intro k x hx; cases hx) (fun d out h => ⟨0, (q_label_Clock_m 0 d).trans h⟩)

/- horologe/nist.modulo -/
@[reducible] def pi_nist_modulo : PSh := ⟨[], [.mk false [.v (.int .i64)], .mk false [.v (.int .i64)]]⟩
@[reducible] def po_nist_modulo : PSh := ⟨[], [.mk false [.v (.int .i64)]]⟩
def f_nist_modulo_m (T : Unit) (d : Unit × ((Int × Unit) × ((Int × Unit) × Unit))) : Option (Unit × ((Int × Unit) × Unit)) :=
  bif (d.2.2.1.1 == 0) then (
  none)
  else (
  let x1 : Int := (Int.tmod d.2.1.1 d.2.2.1.1)
  let x2 : Int := (iadd .i64 x1 d.2.2.1.1)
  bif (d.2.2.1.1 == 0) then (
  none)
  else (
  let x3 : Int := (Int.tmod x2 d.2.2.1.1)
  some ((), ((x3, ()), ()))))
def c_nist_modulo : List Nat := []
def L_nist_modulo (_ : Nat) : Pts po_nist_modulo.den := []
def E_nist_modulo : Env := E0
theorem q_nist_modulo_m (k : Nat) (d : Unit × ((Int × Unit) × ((Int × Unit) × Unit))) : evCode E_nist_modulo (tab (L_nist_modulo k)) c_nist_modulo (bodyOf Try.f46) 0 (finK E_nist_modulo po_nist_modulo [.tmp 4]) (startSt pi_nist_modulo 12 d) = f_nist_modulo_m () d := by kernel_rfl
def g_nist_modulo (d : Unit × ((Int × Unit) × ((Int × Unit) × Unit))) : Option (Unit × ((Int × Unit) × Unit)) := f_nist_modulo_m () d
theorem ok_nist_modulo : FnOk Try.prog ET0 46 pi_nist_modulo po_nist_modulo g_nist_modulo :=
  fn_of_body (E := E_nist_modulo) e0_ok (fn := Try.f46) Try.func46 (by kernel_rfl) (by kernel_rfl) [.tmp 4] (by kernel_rfl) (by kernel_rfl) (by decide) rfl c_nist_modulo L_nist_modulo
    (by intro x hx; cases hx) (by intro k x hx; cases hx) (fun d out h => ⟨0, (q_nist_modulo_m 0 d).trans h⟩)

/- horologe/nist.mark -/
@[reducible] def pi_nist_mark : PSh := ⟨[], [.mk false [.v .bool]]⟩
@[reducible] def po_nist_mark : PSh := ⟨[], [.mk false [.v .str]]⟩
def f_nist_mark_m (T : Unit) (d : Unit × ((Bool × Unit) × Unit)) : Option (Unit × ((ByteArray × Unit) × Unit)) :=
  bif d.2.1.1 then (
  some ((), (((⟨#[35]⟩ : ByteArray), ()), ())))
  else (
  some ((), (((⟨#[42]⟩ : ByteArray), ()), ())))
def c_nist_mark : List Nat := []
def L_nist_mark (_ : Nat) : Pts po_nist_mark.den := []
def E_nist_mark : Env := E0
theorem q_nist_mark_m (k : Nat) (d : Unit × ((Bool × Unit) × Unit)) : evCode E_nist_mark (tab (L_nist_mark k)) c_nist_mark (bodyOf Try.f48) 0 (finK E_nist_mark po_nist_mark [.tmp 2]) (startSt pi_nist_mark 4 d) = f_nist_mark_m () d := by kernel_rfl
def g_nist_mark (d : Unit × ((Bool × Unit) × Unit)) : Option (Unit × ((ByteArray × Unit) × Unit)) := f_nist_mark_m () d
theorem ok_nist_mark : FnOk Try.prog ET0 48 pi_nist_mark po_nist_mark g_nist_mark :=
  fn_of_body (E := E_nist_mark) e0_ok (fn := Try.f48) Try.func48 (by kernel_rfl) (by kernel_rfl) [.tmp 2] (by kernel_rfl) (by kernel_rfl) (by decide) rfl c_nist_mark L_nist_mark
    (by intro x hx; cases hx) (by intro k x hx; cases hx) (fun d out h => ⟨0, (q_nist_mark_m 0 d).trans h⟩)

/- (*horologe/nist.writer).text -/
@[reducible] def pi_nist_writer_text_io : PSh := ⟨[.var 83 [.osl 1, .v .err], .row 5 (.int .u8)], [.mk false [.ref 0 0], .mk false [.v .str], .mk false [.v .err]]⟩
@[reducible] def po_nist_writer_text_io : PSh := ⟨[.var 83 [.osl 1, .v .err], .row 5 (.int .u8)], [.mk false [.ref 0 0]]⟩
def f_nist_writer_text_io_m (T : Unit) (d : (((Option Int) × Unit) × ((List Int) × Unit)) × (Unit × ((ByteArray × Unit) × (((Option Int) × Unit) × Unit)))) : Option ((((Option Int) × Unit) × ((List Int) × Unit)) × (Unit × Unit)) :=
  let x1 : Bool := (!d.2.2.2.1.1.isNone)
  bif x1 then (
  bif decide (((d.1.2.1.length + (bytesOf d.2.2.1.1).length) * 1 : Nat) ≤ 140737488355328) && decide (d.1.2.1.length + (bytesOf d.2.2.1.1).length ≤ 9223372036854775807) then (
  let x2 : (List Int) := (d.1.2.1 ++ (bytesOf d.2.2.1.1))
  some (((d.2.2.2.1.1, ()), (x2, ())), ((), ())))
  else none)
  else (
  bif decide (((d.1.2.1.length + (bytesOf d.2.2.1.1).length) * 1 : Nat) ≤ 140737488355328) && decide (d.1.2.1.length + (bytesOf d.2.2.1.1).length ≤ 9223372036854775807) then (
  let x3 : (List Int) := (d.1.2.1 ++ (bytesOf d.2.2.1.1))
  some (((d.1.1.1, ()), (x3, ())), ((), ())))
  else none)
def c_nist_writer_text_io : List Nat := []
def L_nist_writer_text_io (_ : Nat) : Pts po_nist_writer_text_io.den := []
def E_nist_writer_text_io : Env := (E0.kp [0])
theorem q_nist_writer_text_io_m (k : Nat) (d : (((Option Int) × Unit) × ((List Int) × Unit)) × (Unit × ((ByteArray × Unit) × (((Option Int) × Unit) × Unit)))) : evCode E_nist_writer_text_io (tab (L_nist_writer_text_io k)) c_nist_writer_text_io (bodyOf Try.f43) 0 (finKio E_nist_writer_text_io po_nist_writer_text_io [] [(0, none)]) (startSt pi_nist_writer_text_io 21 d) = f_nist_writer_text_io_m () d := by kernel_rfl
def g_nist_writer_text_io (d : (((Option Int) × Unit) × ((List Int) × Unit)) × (Unit × ((ByteArray × Unit) × (((Option Int) × Unit) × Unit)))) : Option ((((Option Int) × Unit) × ((List Int) × Unit)) × (Unit × Unit)) := f_nist_writer_text_io_m () d
theorem ok_nist_writer_text_io : FnIo Try.prog ET0 43 pi_nist_writer_text_io po_nist_writer_text_io 0 [(0, 0, none)] g_nist_writer_text_io :=
  fn_of_bodyIo (E := E_nist_writer_text_io) (envOk_kp e0_ok) (fn := Try.f43) Try.func43 (by kernel_rfl) (by kernel_rfl) [] [(0, none)] [(0, 0, none)] (by kernel_rfl) (by kernel_rfl) (by kernel_rfl) (by kernel_rfl) (by decide) (by decide) c_nist_writer_text_io L_nist_writer_text_io
    (by intro x hx; cases hx) (by intro k x hx; cases hx) (fun d out h => ⟨0, (q_nist_writer_text_io_m 0 d).trans h⟩)

/- (*horologe/nist.writer).put -/
@[reducible] def pi_nist_writer_put_io : PSh := ⟨[.var 83 [.osl 1, .v .err], .row 5 (.int .u8)], [.mk false [.ref 0 0], .mk false [.v .str], .mk false [.v (.int .i64)], .mk false [.v (.int .i64)]]⟩
@[reducible] def po_nist_writer_put_io : PSh := ⟨[.var 83 [.osl 1, .v .err], .row 5 (.int .u8)], [.mk false [.ref 0 0]]⟩
def f_nist_writer_put_io_m (T : Unit) (d : (((Option Int) × Unit) × ((List Int) × Unit)) × (Unit × ((ByteArray × Unit) × ((Int × Unit) × ((Int × Unit) × Unit))))) : Option ((((Option Int) × Unit) × ((List Int) × Unit)) × (Unit × Unit)) :=
  (g_nist_writer_text_io (((d.1.1.1, ()), (d.1.2.1, ())), ((), ((d.2.2.1.1, ()), (((none : Option Int), ()), ()))))).bind fun x1 =>
  (g_figures_Put ((), ((d.2.2.2.1.1, ()), ((d.2.2.2.2.1.1, ()), ())))).bind fun x2 =>
  (g_nist_writer_text_io (((x1.1.1.1, ()), (x1.1.2.1, ())), ((), ((x2.2.1.1, ()), ((x2.2.2.1.1, ()), ()))))).bind fun x3 =>
  some (((x3.1.1.1, ()), (x3.1.2.1, ())), ((), ()))
def c_nist_writer_put_io : List Nat := []
def L_nist_writer_put_io (_ : Nat) : Pts po_nist_writer_put_io.den := []
def E_nist_writer_put_io : Env := (((E0.add 43 (ioSem pi_nist_writer_text_io po_nist_writer_text_io 0 [(0, 0, none)] g_nist_writer_text_io)).add 99 (typedSem pi_figures_Put po_figures_Put g_figures_Put)).kp [0])
theorem q_nist_writer_put_io_m (k : Nat) (d : (((Option Int) × Unit) × ((List Int) × Unit)) × (Unit × ((ByteArray × Unit) × ((Int × Unit) × ((Int × Unit) × Unit))))) : evCode E_nist_writer_put_io (tab (L_nist_writer_put_io k)) c_nist_writer_put_io (bodyOf Try.f45) 0 (finKio E_nist_writer_put_io po_nist_writer_put_io [] [(0, none)]) (startSt pi_nist_writer_put_io 18 d) = f_nist_writer_put_io_m () d := by kernel_rfl
def g_nist_writer_put_io (d : (((Option Int) × Unit) × ((List Int) × Unit)) × (Unit × ((ByteArray × Unit) × ((Int × Unit) × ((Int × Unit) × Unit))))) : Option ((((Option Int) × Unit) × ((List Int) × Unit)) × (Unit × Unit)) := f_nist_writer_put_io_m () d
theorem ok_nist_writer_put_io : FnIo Try.prog ET0 45 pi_nist_writer_put_io po_nist_writer_put_io 0 [(0, 0, none)] g_nist_writer_put_io :=
  fn_of_bodyIo (E := E_nist_writer_put_io) (envOk_kp (envOk_add (envOk_add e0_ok (io_ok ok_nist_writer_text_io)) (typed_ok ok_figures_Put))) (fn := Try.f45) Try.func45 (by kernel_rfl) (by kernel_rfl) [] [(0, none)] [(0, 0, none)] (by kernel_rfl) (by kernel_rfl) (by kernel_rfl) (by kernel_rfl) (by decide) (by decide) c_nist_writer_put_io L_nist_writer_put_io
    (by intro x hx; cases hx) (by intro k x hx; cases hx) (fun d out h => ⟨0, (q_nist_writer_put_io_m 0 d).trans h⟩)

/- (*horologe/nist.writer).advance -/
@[reducible] def pi_nist_writer_advance_io : PSh := ⟨[.var 83 [.osl 1, .v .err], .row 5 (.int .u8)], [.mk false [.ref 0 0], .mk false [.v (.int .i64)]]⟩
@[reducible] def po_nist_writer_advance_io : PSh := ⟨[.var 83 [.osl 1, .v .err], .row 5 (.int .u8)], [.mk false [.ref 0 0]]⟩
def f_nist_writer_advance_io_m (T : Unit) (d : (((Option Int) × Unit) × ((List Int) × Unit)) × (Unit × ((Int × Unit) × Unit))) : Option ((((Option Int) × Unit) × ((List Int) × Unit)) × (Unit × Unit)) :=
  let x1 : Int := (iquo .i64 d.2.2.1.1 (10 : Int))
  (g_figures_Put ((), ((x1, ()), (((1 : Int), ()), ())))).bind fun x2 =>
  let x3 : Int := (x2.2.1.1.size : Int)
  let x4 : Int := (isub .i64 (3 : Int) x3)
  let x5 : Int := (if (0 : Int) > x4 then (0 : Int) else x4)
  (g_strings_Repeat ((), (((⟨#[32]⟩ : ByteArray), ()), ((x5, ()), ())))).bind fun x6 =>
  bif fitsS x6.2.1.1 x2.2.1.1 then (
  let x7 : ByteArray := (x6.2.1.1 ++ x2.2.1.1)
  (g_nist_writer_text_io (((d.1.1.1, ()), (d.1.2.1, ())), ((), ((x7, ()), ((x2.2.2.1.1, ()), ()))))).bind fun x8 =>
  let x9 : Int := (Int.tmod d.2.2.1.1 (10 : Int))
  (g_nist_writer_put_io (((x8.1.1.1, ()), (x8.1.2.1, ())), ((), (((⟨#[46]⟩ : ByteArray), ()), ((x9, ()), (((1 : Int), ()), ())))))).bind fun x10 =>
  some (((x10.1.1.1, ()), (x10.1.2.1, ())), ((), ())))
  else none
def c_nist_writer_advance_io : List Nat := []
def L_nist_writer_advance_io (_ : Nat) : Pts po_nist_writer_advance_io.den := []
def E_nist_writer_advance_io : Env := (((((E0.add 43 (ioSem pi_nist_writer_text_io po_nist_writer_text_io 0 [(0, 0, none)] g_nist_writer_text_io)).add 45 (ioSem pi_nist_writer_put_io po_nist_writer_put_io 0 [(0, 0, none)] g_nist_writer_put_io)).add 99 (typedSem pi_figures_Put po_figures_Put g_figures_Put)).add 100 (typedSem pi_strings_Repeat po_strings_Repeat g_strings_Repeat)).kp [0])
theorem q_nist_writer_advance_io_m (k : Nat) (d : (((Option Int) × Unit) × ((List Int) × Unit)) × (Unit × ((Int × Unit) × Unit))) : evCode E_nist_writer_advance_io (tab (L_nist_writer_advance_io k)) c_nist_writer_advance_io (bodyOf Try.f47) 0 (finKio E_nist_writer_advance_io po_nist_writer_advance_io [] [(0, none)]) (startSt pi_nist_writer_advance_io 26 d) = f_nist_writer_advance_io_m () d := by kernel_rfl
def g_nist_writer_advance_io (d : (((Option Int) × Unit) × ((List Int) × Unit)) × (Unit × ((Int × Unit) × Unit))) : Option ((((Option Int) × Unit) × ((List Int) × Unit)) × (Unit × Unit)) := f_nist_writer_advance_io_m () d
theorem ok_nist_writer_advance_io : FnIo Try.prog ET0 47 pi_nist_writer_advance_io po_nist_writer_advance_io 0 [(0, 0, none)] g_nist_writer_advance_io :=
  fn_of_bodyIo (E := E_nist_writer_advance_io) (envOk_kp (envOk_add (envOk_add (envOk_add (envOk_add e0_ok (io_ok ok_nist_writer_text_io)) (io_ok ok_nist_writer_put_io)) (typed_ok ok_figures_Put)) (typed_ok ok_strings_Repeat))) (fn := Try.f47) Try.func47 (by kernel_rfl) (by kernel_rfl) [] [(0, none)] [(0, 0, none)] (by kernel_rfl) (by kernel_rfl) (by kernel_rfl) (by kernel_rfl) (by decide) (by decide) c_nist_writer_advance_io L_nist_writer_advance_io
    (by intro x hx; cases hx) (by intro k x hx; cases hx) (fun d out h => ⟨0, (q_nist_writer_advance_io_m 0 d).trans h⟩)

/- horologe/nist.Put -/
@[reducible] def pi_nist_Put : PSh := ⟨[], [.mk true [.v (.int .i64), .v (.int .i64), .v (.int .i64), .v (.int .i64), .v (.int .i64), .v (.int .i64), .v .bool]]⟩
@[reducible] def po_nist_Put : PSh := ⟨[], [.mk false [.v .str], .mk false [.v .err]]⟩
def f_nist_Put_m (T : Unit) (d : Unit × ((Int × (Int × (Int × (Int × (Int × (Int × (Bool × Unit))))))) × Unit)) : Option (Unit × ((ByteArray × Unit) × (((Option Int) × Unit) × Unit))) :=
  (g_nist_Check ((), ((d.2.1.1, (d.2.1.2.1, (d.2.1.2.2.1, (d.2.1.2.2.2.1, (d.2.1.2.2.2.2.1, (d.2.1.2.2.2.2.2.1, (d.2.1.2.2.2.2.2.2.1, ()))))))), ()))).bind fun x1 =>
  let x2 : Bool := (!x1.2.1.1.isNone)
  bif x2 then (
  some ((), (((⟨#[]⟩ : ByteArray), ()), ((x1.2.1.1, ()), ()))))
  else (
  (g_day_Date ((), ((d.2.1.1, ()), ()))).bind fun x3 =>
  let x4 : Bool := (!x3.2.2.2.2.1.1.isNone)
  bif x4 then (
  some ((), (((⟨#[]⟩ : ByteArray), ()), ((x3.2.2.2.2.1.1, ()), ()))))
  else (
  (g_label_Clock ((), ((d.2.1.2.1, ()), ()))).bind fun x5 =>
  let x6 : Bool := (!x5.2.2.2.2.1.1.isNone)
  bif x6 then (
  some ((), (((⟨#[]⟩ : ByteArray), ()), ((x5.2.2.2.2.1.1, ()), ()))))
  else (
  (g_nist_writer_text_io ((((none : Option Int), ()), (([] : List Int), ())), ((), (((⟨#[10]⟩ : ByteArray), ()), (((none : Option Int), ()), ()))))).bind fun x7 =>
  (g_mjd_Five ((), ((d.2.1.1, ()), ()))).bind fun x8 =>
  (g_nist_writer_text_io (((x7.1.1.1, ()), (x7.1.2.1, ())), ((), ((x8.2.1.1, ()), ((x8.2.2.1.1, ()), ()))))).bind fun x9 =>
  (g_nist_modulo ((), ((x3.2.1.1, ()), (((100 : Int), ()), ())))).bind fun x10 =>
  (g_nist_writer_put_io (((x9.1.1.1, ()), (x9.1.2.1, ())), ((), (((⟨#[32]⟩ : ByteArray), ()), ((x10.2.1.1, ()), (((2 : Int), ()), ())))))).bind fun x11 =>
  (g_nist_writer_put_io (((x11.1.1.1, ()), (x11.1.2.1, ())), ((), (((⟨#[45]⟩ : ByteArray), ()), ((x3.2.2.1.1, ()), (((2 : Int), ()), ())))))).bind fun x12 =>
  (g_nist_writer_put_io (((x12.1.1.1, ()), (x12.1.2.1, ())), ((), (((⟨#[45]⟩ : ByteArray), ()), ((x3.2.2.2.1.1, ()), (((2 : Int), ()), ())))))).bind fun x13 =>
  (g_nist_writer_put_io (((x13.1.1.1, ()), (x13.1.2.1, ())), ((), (((⟨#[32]⟩ : ByteArray), ()), ((x5.2.1.1, ()), (((2 : Int), ()), ())))))).bind fun x14 =>
  (g_nist_writer_put_io (((x14.1.1.1, ()), (x14.1.2.1, ())), ((), (((⟨#[58]⟩ : ByteArray), ()), ((x5.2.2.1.1, ()), (((2 : Int), ()), ())))))).bind fun x15 =>
  (g_nist_writer_put_io (((x15.1.1.1, ()), (x15.1.2.1, ())), ((), (((⟨#[58]⟩ : ByteArray), ()), ((x5.2.2.2.1.1, ()), (((2 : Int), ()), ())))))).bind fun x16 =>
  (g_nist_writer_put_io (((x16.1.1.1, ()), (x16.1.2.1, ())), ((), (((⟨#[32]⟩ : ByteArray), ()), ((d.2.1.2.2.1, ()), (((2 : Int), ()), ())))))).bind fun x17 =>
  (g_nist_writer_put_io (((x17.1.1.1, ()), (x17.1.2.1, ())), ((), (((⟨#[32]⟩ : ByteArray), ()), ((d.2.1.2.2.2.1, ()), (((1 : Int), ()), ())))))).bind fun x18 =>
  (g_nist_writer_put_io (((x18.1.1.1, ()), (x18.1.2.1, ())), ((), (((⟨#[32]⟩ : ByteArray), ()), ((d.2.1.2.2.2.2.1, ()), (((1 : Int), ()), ())))))).bind fun x19 =>
  (g_nist_writer_text_io (((x19.1.1.1, ()), (x19.1.2.1, ())), ((), (((⟨#[32]⟩ : ByteArray), ()), (((none : Option Int), ()), ()))))).bind fun x20 =>
  (g_nist_writer_advance_io (((x20.1.1.1, ()), (x20.1.2.1, ())), ((), ((d.2.1.2.2.2.2.2.1, ()), ())))).bind fun x21 =>
  (g_nist_mark ((), ((d.2.1.2.2.2.2.2.2.1, ()), ()))).bind fun x22 =>
  bif fitsS (⟨#[32, 85, 84, 67, 40, 78, 73, 83, 84, 41, 32]⟩ : ByteArray) x22.2.1.1 then (
  let x23 : ByteArray := ((⟨#[32, 85, 84, 67, 40, 78, 73, 83, 84, 41, 32]⟩ : ByteArray) ++ x22.2.1.1)
  bif fitsS x23 (⟨#[10]⟩ : ByteArray) then (
  let x24 : ByteArray := (x23 ++ (⟨#[10]⟩ : ByteArray))
  (g_nist_writer_text_io (((x21.1.1.1, ()), (x21.1.2.1, ())), ((), ((x24, ()), (((none : Option Int), ()), ()))))).bind fun x25 =>
  let x26 : ByteArray := (strOf x25.1.2.1)
  some ((), ((x26, ()), ((x25.1.1.1, ()), ()))))
  else none)
  else none)))
def c_nist_Put : List Nat := []
def L_nist_Put (_ : Nat) : Pts po_nist_Put.den := []
def E_nist_Put : Env := (((((((((E0.add 16 (typedSem pi_nist_Check po_nist_Check g_nist_Check)).add 41 (typedSem pi_day_Date po_day_Date g_day_Date)).add 42 (typedSem pi_label_Clock po_label_Clock g_label_Clock)).add 43 (ioSem pi_nist_writer_text_io po_nist_writer_text_io 0 [(0, 0, none)] g_nist_writer_text_io)).add 44 (typedSem pi_mjd_Five po_mjd_Five g_mjd_Five)).add 45 (ioSem pi_nist_writer_put_io po_nist_writer_put_io 0 [(0, 0, none)] g_nist_writer_put_io)).add 46 (typedSem pi_nist_modulo po_nist_modulo g_nist_modulo)).add 47 (ioSem pi_nist_writer_advance_io po_nist_writer_advance_io 0 [(0, 0, none)] g_nist_writer_advance_io)).add 48 (typedSem pi_nist_mark po_nist_mark g_nist_mark))
theorem q_nist_Put_m (k : Nat) (d : Unit × ((Int × (Int × (Int × (Int × (Int × (Int × (Bool × Unit))))))) × Unit)) : evCode E_nist_Put (tab (L_nist_Put k)) c_nist_Put (bodyOf Try.f11) 0 (finK E_nist_Put po_nist_Put [.tmp 2, .tmp 3]) (startSt pi_nist_Put 84 d) = f_nist_Put_m () d := by kernel_rfl
def g_nist_Put (d : Unit × ((Int × (Int × (Int × (Int × (Int × (Int × (Bool × Unit))))))) × Unit)) : Option (Unit × ((ByteArray × Unit) × (((Option Int) × Unit) × Unit))) := f_nist_Put_m () d
theorem ok_nist_Put : FnOk Try.prog ET0 11 pi_nist_Put po_nist_Put g_nist_Put :=
  fn_of_body (E := E_nist_Put) (envOk_add (envOk_add (envOk_add (envOk_add (envOk_add (envOk_add (envOk_add (envOk_add (envOk_add e0_ok (typed_ok ok_nist_Check)) (typed_ok ok_day_Date)) (typed_ok ok_label_Clock)) (io_ok ok_nist_writer_text_io)) (typed_ok ok_mjd_Five)) (io_ok ok_nist_writer_put_io)) (typed_ok ok_nist_modulo)) (io_ok ok_nist_writer_advance_io)) (typed_ok ok_nist_mark)) (fn := Try.f11) Try.func11 (by kernel_rfl) (by kernel_rfl) [.tmp 2, .tmp 3] (by kernel_rfl) (by kernel_rfl) (by decide) rfl c_nist_Put L_nist_Put
    (by intro x hx; cases hx) (by intro k x hx; cases hx) (fun d out h => ⟨0, (q_nist_Put_m 0 d).trans h⟩)

/- horologe/horologelaw26.alive -/
@[reducible] def pi_law26_alive : PSh := ⟨[], []⟩
@[reducible] def po_law26_alive : PSh := ⟨[], [.mk false [.v .bool]]⟩
def f_law26_alive_m (T : Unit) (d : Unit × Unit) : Option (Unit × ((Bool × Unit) × Unit)) :=
  (g_nist_Put ((), (((20005 : Int), ((40333 : Int), ((50 : Int), ((0 : Int), ((0 : Int), ((500 : Int), (false, ()))))))), ()))).bind fun x1 =>
  bif x1.2.2.1.1.isNone then (
  let x2 : Bool := (x1.2.1.1.toList == (⟨#[10, 54, 48, 53, 57, 50, 32, 50, 52, 45, 49, 48, 45, 48, 57, 32, 49, 49, 58, 49, 50, 58, 49, 51, 32, 53, 48, 32, 48, 32, 48, 32, 32, 53, 48, 46, 48, 32, 85, 84, 67, 40, 78, 73, 83, 84, 41, 32, 42, 10]⟩ : ByteArray).toList)
  some ((), ((x2, ()), ())))
  else (
  some ((), ((false, ()), ())))
def c_law26_alive : List Nat := []
def L_law26_alive (_ : Nat) : Pts po_law26_alive.den := []
def E_law26_alive : Env := (E0.add 11 (typedSem pi_nist_Put po_nist_Put g_nist_Put))
theorem q_law26_alive_m (k : Nat) (d : Unit × Unit) : evCode E_law26_alive (tab (L_law26_alive k)) c_law26_alive (bodyOf Try.f10) 0 (finK E_law26_alive po_law26_alive [.tmp 0]) (startSt pi_law26_alive 14 d) = f_law26_alive_m () d := by kernel_rfl
def g_law26_alive (d : Unit × Unit) : Option (Unit × ((Bool × Unit) × Unit)) := f_law26_alive_m () d
theorem ok_law26_alive : FnOk Try.prog ET0 10 pi_law26_alive po_law26_alive g_law26_alive :=
  fn_of_body (E := E_law26_alive) (envOk_add e0_ok (typed_ok ok_nist_Put)) (fn := Try.f10) Try.func10 (by kernel_rfl) (by kernel_rfl) [.tmp 0] (by kernel_rfl) (by kernel_rfl) (by decide) rfl c_law26_alive L_law26_alive
    (by intro x hx; cases hx) (by intro k x hx; cases hx) (fun d out h => ⟨0, (q_law26_alive_m 0 d).trans h⟩)

/- horologe/label.there -/
@[reducible] def pi_label_there : PSh := ⟨[], [.mk false [.v (.int .i64)]]⟩
@[reducible] def po_label_there : PSh := ⟨[], [.mk false [.v .bool]]⟩
def f_label_there_m (T : Unit) (d : Unit × ((Int × Unit) × Unit)) : Option (Unit × ((Bool × Unit) × Unit)) :=
  (g_day_First ((), ())).bind fun x1 =>
  let x2 : Bool := (decide (d.2.1.1 ≥ x1.2.1.1))
  bif x2 then (
  (g_day_Last ((), ())).bind fun x3 =>
  let x4 : Bool := (decide (d.2.1.1 ≤ x3.2.1.1))
  some ((), ((x4, ()), ())))
  else (
  some ((), ((false, ()), ())))
def c_label_there : List Nat := []
def L_label_there (_ : Nat) : Pts po_label_there.den := []
def E_label_there : Env := ((E0.add 93 (typedSem pi_day_First po_day_First g_day_First)).add 94 (typedSem pi_day_Last po_day_Last g_day_Last))
theorem q_label_there_m (k : Nat) (d : Unit × ((Int × Unit) × Unit)) : evCode E_label_there (tab (L_label_there k)) c_label_there (bodyOf Try.f101) 0 (finK E_label_there po_label_there [.tmp 2]) (startSt pi_label_there 11 d) = f_label_there_m () d := by kernel_rfl
def g_label_there (d : Unit × ((Int × Unit) × Unit)) : Option (Unit × ((Bool × Unit) × Unit)) := f_label_there_m () d
theorem ok_label_there : FnOk Try.prog ET0 101 pi_label_there po_label_there g_label_there :=
  fn_of_body (E := E_label_there) (envOk_add (envOk_add e0_ok (typed_ok ok_day_First)) (typed_ok ok_day_Last)) (fn := Try.f101) Try.func101 (by kernel_rfl) (by kernel_rfl) [.tmp 2] (by kernel_rfl) (by kernel_rfl) (by decide) rfl c_label_there L_label_there
    (by intro x hx; cases hx) (by intro k x hx; cases hx) (fun d out h => ⟨0, (q_label_there_m 0 d).trans h⟩)

/- horologe/label.shifts -/
@[reducible] def pi_label_shifts : PSh := ⟨[], [.mk false [.v (.int .i64)]]⟩
@[reducible] def po_label_shifts : PSh := ⟨[], [.mk false [.v .bool]]⟩
def f_label_shifts_m (T : Unit) (d : Unit × ((Int × Unit) × Unit)) : Option (Unit × ((Bool × Unit) × Unit)) :=
  let x1 : Bool := (decide (d.2.1.1 > (-1440 : Int)))
  bif x1 then (
  let x2 : Bool := (decide (d.2.1.1 < (1440 : Int)))
  some ((), ((x2, ()), ())))
  else (
  some ((), ((false, ()), ())))
def c_label_shifts : List Nat := []
def L_label_shifts (_ : Nat) : Pts po_label_shifts.den := []
def E_label_shifts : Env := E0
theorem q_label_shifts_m (k : Nat) (d : Unit × ((Int × Unit) × Unit)) : evCode E_label_shifts (tab (L_label_shifts k)) c_label_shifts (bodyOf Try.f102) 0 (finK E_label_shifts po_label_shifts [.tmp 2]) (startSt pi_label_shifts 9 d) = f_label_shifts_m () d := by kernel_rfl
def g_label_shifts (d : Unit × ((Int × Unit) × Unit)) : Option (Unit × ((Bool × Unit) × Unit)) := f_label_shifts_m () d
theorem ok_label_shifts : FnOk Try.prog ET0 102 pi_label_shifts po_label_shifts g_label_shifts :=
  fn_of_body (E := E_label_shifts) e0_ok (fn := Try.f102) Try.func102 (by kernel_rfl) (by kernel_rfl) [.tmp 2] (by kernel_rfl) (by kernel_rfl) (by decide) rfl c_label_shifts L_label_shifts
    (by intro x hx; cases hx) (by intro k x hx; cases hx) (fun d out h => ⟨0, (q_label_shifts_m 0 d).trans h⟩)

/- horologe/num.Div -/
@[reducible] def pi_num_Div : PSh := ⟨[], [.mk false [.v (.int .i64)], .mk false [.v (.int .i64)]]⟩
@[reducible] def po_num_Div : PSh := ⟨[], [.mk false [.v (.int .i64)], .mk false [.v .err]]⟩
def f_num_Div_m (T : Unit) (d : Unit × ((Int × Unit) × ((Int × Unit) × Unit))) : Option (Unit × ((Int × Unit) × (((Option Int) × Unit) × Unit))) :=
  let x1 : Bool := (d.2.2.1.1 == (0 : Int))
  bif x1 then (
  let x2 : (Option Int) := (some (1 : Int))
  some ((), (((0 : Int), ()), ((x2, ()), ()))))
  else (
  let x3 : Bool := (d.2.1.1 == (-9223372036854775808 : Int))
  bif x3 then (
  let x4 : Bool := (d.2.2.1.1 == (-1 : Int))
  bif x4 then (
  let x5 : (Option Int) := (some (5 : Int))
  some ((), (((0 : Int), ()), ((x5, ()), ()))))
  else (
  bif (d.2.2.1.1 == 0) then (
  none)
  else (
  let x6 : Int := (iquo .i64 d.2.1.1 d.2.2.1.1)
  bif (d.2.2.1.1 == 0) then (
  none)
  else (
  let x7 : Int := (Int.tmod d.2.1.1 d.2.2.1.1)
  let x8 : Bool := (x7 != (0 : Int))
  bif x8 then (
  let x9 : Bool := (decide (d.2.1.1 < (0 : Int)))
  let x10 : Bool := (decide (d.2.2.1.1 < (0 : Int)))
  let x11 : Bool := (!(x9 == x10))
  bif x11 then (
  let x12 : Int := (isub .i64 x6 (1 : Int))
  some ((), ((x12, ()), (((none : Option Int), ()), ()))))
  else (
  some ((), ((x6, ()), (((none : Option Int), ()), ())))))
  else (
  some ((), ((x6, ()), (((none : Option Int), ()), ()))))))))
  else (
  bif (d.2.2.1.1 == 0) then (
  none)
  else (
  let x13 : Int := (iquo .i64 d.2.1.1 d.2.2.1.1)
  bif (d.2.2.1.1 == 0) then (
  none)
  else (
  let x14 : Int := (Int.tmod d.2.1.1 d.2.2.1.1)
  let x15 : Bool := (x14 != (0 : Int))
  bif x15 then (
  let x16 : Bool := (decide (d.2.1.1 < (0 : Int)))
  let x17 : Bool := (decide (d.2.2.1.1 < (0 : Int)))
  let x18 : Bool := (!(x16 == x17))
  bif x18 then (
  let x19 : Int := (isub .i64 x13 (1 : Int))
  some ((), ((x19, ()), (((none : Option Int), ()), ()))))
  else (
  some ((), ((x13, ()), (((none : Option Int), ()), ())))))
  else (
  some ((), ((x13, ()), (((none : Option Int), ()), ()))))))))
def c_num_Div : List Nat := []
def L_num_Div (_ : Nat) : Pts po_num_Div.den := []
def E_num_Div : Env := E0
theorem q_num_Div_m (k : Nat) (d : Unit × ((Int × Unit) × ((Int × Unit) × Unit))) : evCode E_num_Div (tab (L_num_Div k)) c_num_Div (bodyOf Try.f148) 0 (finK E_num_Div po_num_Div [.tmp 4, .tmp 5]) (startSt pi_num_Div 36 d) = f_num_Div_m () d := by kernel_rfl
def g_num_Div (d : Unit × ((Int × Unit) × ((Int × Unit) × Unit))) : Option (Unit × ((Int × Unit) × (((Option Int) × Unit) × Unit))) := f_num_Div_m () d
theorem ok_num_Div : FnOk Try.prog ET0 148 pi_num_Div po_num_Div g_num_Div :=
  fn_of_body (E := E_num_Div) e0_ok (fn := Try.f148) Try.func148 (by kernel_rfl) (by kernel_rfl) [.tmp 4, .tmp 5] (by kernel_rfl) (by kernel_rfl) (by decide) rfl c_num_Div L_num_Div
    (by intro x hx; cases hx) (by intro k x hx; cases hx) (fun d out h => ⟨0, (q_num_Div_m 0 d).trans h⟩)

/- horologe/num.Mod -/
@[reducible] def pi_num_Mod : PSh := ⟨[], [.mk false [.v (.int .i64)], .mk false [.v (.int .i64)]]⟩
@[reducible] def po_num_Mod : PSh := ⟨[], [.mk false [.v (.int .i64)], .mk false [.v .err]]⟩
def f_num_Mod_m (T : Unit) (d : Unit × ((Int × Unit) × ((Int × Unit) × Unit))) : Option (Unit × ((Int × Unit) × (((Option Int) × Unit) × Unit))) :=
  let x1 : Bool := (d.2.2.1.1 == (0 : Int))
  bif x1 then (
  let x2 : (Option Int) := (some (1 : Int))
  some ((), (((0 : Int), ()), ((x2, ()), ()))))
  else (
  let x3 : Bool := (d.2.2.1.1 == (-1 : Int))
  bif x3 then (
  some ((), (((0 : Int), ()), (((none : Option Int), ()), ()))))
  else (
  bif (d.2.2.1.1 == 0) then (
  none)
  else (
  let x4 : Int := (Int.tmod d.2.1.1 d.2.2.1.1)
  let x5 : Bool := (x4 != (0 : Int))
  bif x5 then (
  let x6 : Bool := (decide (x4 < (0 : Int)))
  let x7 : Bool := (decide (d.2.2.1.1 < (0 : Int)))
  let x8 : Bool := (!(x6 == x7))
  bif x8 then (
  let x9 : Int := (iadd .i64 x4 d.2.2.1.1)
  some ((), ((x9, ()), (((none : Option Int), ()), ()))))
  else (
  some ((), ((x4, ()), (((none : Option Int), ()), ())))))
  else (
  some ((), ((x4, ()), (((none : Option Int), ()), ())))))))
def c_num_Mod : List Nat := []
def L_num_Mod (_ : Nat) : Pts po_num_Mod.den := []
def E_num_Mod : Env := E0
theorem q_num_Mod_m (k : Nat) (d : Unit × ((Int × Unit) × ((Int × Unit) × Unit))) : evCode E_num_Mod (tab (L_num_Mod k)) c_num_Mod (bodyOf Try.f149) 0 (finK E_num_Mod po_num_Mod [.tmp 4, .tmp 5]) (startSt pi_num_Mod 29 d) = f_num_Mod_m () d := by kernel_rfl
def g_num_Mod (d : Unit × ((Int × Unit) × ((Int × Unit) × Unit))) : Option (Unit × ((Int × Unit) × (((Option Int) × Unit) × Unit))) := f_num_Mod_m () d
theorem ok_num_Mod : FnOk Try.prog ET0 149 pi_num_Mod po_num_Mod g_num_Mod :=
  fn_of_body (E := E_num_Mod) e0_ok (fn := Try.f149) Try.func149 (by kernel_rfl) (by kernel_rfl) [.tmp 4, .tmp 5] (by kernel_rfl) (by kernel_rfl) (by decide) rfl c_num_Mod L_num_Mod
    (by intro x hx; cases hx) (by intro k x hx; cases hx) (fun d out h => ⟨0, (q_num_Mod_m 0 d).trans h⟩)

/- horologe/num.Split -/
@[reducible] def pi_num_Split : PSh := ⟨[], [.mk false [.v (.int .i64)], .mk false [.v (.int .i64)]]⟩
@[reducible] def po_num_Split : PSh := ⟨[], [.mk false [.v (.int .i64)], .mk false [.v (.int .i64)], .mk false [.v .err]]⟩
def f_num_Split_m (T : Unit) (d : Unit × ((Int × Unit) × ((Int × Unit) × Unit))) : Option (Unit × ((Int × Unit) × ((Int × Unit) × (((Option Int) × Unit) × Unit)))) :=
  let x1 : Bool := (decide (d.2.2.1.1 < (1 : Int)))
  bif x1 then (
  let x2 : (Option Int) := (some (1 : Int))
  some ((), (((0 : Int), ()), (((0 : Int), ()), ((x2, ()), ())))))
  else (
  (g_num_Div ((), ((d.2.1.1, ()), ((d.2.2.1.1, ()), ())))).bind fun x3 =>
  let x4 : Bool := (!x3.2.2.1.1.isNone)
  bif x4 then (
  some ((), (((0 : Int), ()), (((0 : Int), ()), ((x3.2.2.1.1, ()), ())))))
  else (
  (g_num_Mod ((), ((d.2.1.1, ()), ((d.2.2.1.1, ()), ())))).bind fun x5 =>
  let x6 : Bool := (!x5.2.2.1.1.isNone)
  bif x6 then (
  some ((), (((0 : Int), ()), (((0 : Int), ()), ((x5.2.2.1.1, ()), ())))))
  else (
  some ((), ((x3.2.1.1, ()), ((x5.2.1.1, ()), (((none : Option Int), ()), ())))))))
def c_num_Split : List Nat := []
def L_num_Split (_ : Nat) : Pts po_num_Split.den := []
def E_num_Split : Env := ((E0.add 148 (typedSem pi_num_Div po_num_Div g_num_Div)).add 149 (typedSem pi_num_Mod po_num_Mod g_num_Mod))
theorem q_num_Split_m (k : Nat) (d : Unit × ((Int × Unit) × ((Int × Unit) × Unit))) : evCode E_num_Split (tab (L_num_Split k)) c_num_Split (bodyOf Try.f103) 0 (finK E_num_Split po_num_Split [.tmp 4, .tmp 5, .tmp 6]) (startSt pi_num_Split 33 d) = f_num_Split_m () d := by kernel_rfl
def g_num_Split (d : Unit × ((Int × Unit) × ((Int × Unit) × Unit))) : Option (Unit × ((Int × Unit) × ((Int × Unit) × (((Option Int) × Unit) × Unit)))) := f_num_Split_m () d
theorem ok_num_Split : FnOk Try.prog ET0 103 pi_num_Split po_num_Split g_num_Split :=
  fn_of_body (E := E_num_Split) (envOk_add (envOk_add e0_ok (typed_ok ok_num_Div)) (typed_ok ok_num_Mod)) (fn := Try.f103) Try.func103 (by kernel_rfl) (by kernel_rfl) [.tmp 4, .tmp 5, .tmp 6] (by kernel_rfl) (by kernel_rfl) (by decide) rfl c_num_Split L_num_Split
    (by intro x hx; cases hx) (by intro k x hx; cases hx) (fun d out h => ⟨0, (q_num_Split_m 0 d).trans h⟩)

/- horologe/label.Of -/
@[reducible] def pi_label_Of : PSh := ⟨[], [.mk false [.v (.int .i64)], .mk false [.v (.int .i64)], .mk false [.v (.int .i64)], .mk false [.v (.int .i64)]]⟩
@[reducible] def po_label_Of : PSh := ⟨[], [.mk true [.v (.int .i64), .v (.int .i64), .v (.int .i64), .v (.int .i64), .v (.int .i64), .v (.int .i64), .v (.int .i64), .v (.int .i64)], .mk false [.v .err]]⟩
def f_label_Of_m (T : Unit) (d : Unit × ((Int × Unit) × ((Int × Unit) × ((Int × Unit) × ((Int × Unit) × Unit))))) : Option (Unit × ((Int × (Int × (Int × (Int × (Int × (Int × (Int × (Int × Unit)))))))) × (((Option Int) × Unit) × Unit))) :=
  (g_label_there ((), ((d.2.1.1, ()), ()))).bind fun x1 =>
  let x2 : Bool := (!x1.2.1.1)
  bif x2 then (
  let x3 : (Option Int) := (some (13 : Int))
  some ((), (((0 : Int), ((0 : Int), ((0 : Int), ((0 : Int), ((0 : Int), ((0 : Int), ((0 : Int), ((0 : Int), ())))))))), ((x3, ()), ()))))
  else (
  (g_label_in ((), ((d.2.2.1.1, ()), (((86401 : Int), ()), ())))).bind fun x4 =>
  let x5 : Bool := (!x4.2.1.1)
  bif x5 then (
  let x6 : (Option Int) := (some (1 : Int))
  some ((), (((0 : Int), ((0 : Int), ((0 : Int), ((0 : Int), ((0 : Int), ((0 : Int), ((0 : Int), ((0 : Int), ())))))))), ((x6, ()), ()))))
  else (
  (g_label_in ((), ((d.2.2.2.1.1, ()), (((1000000000 : Int), ()), ())))).bind fun x7 =>
  let x8 : Bool := (!x7.2.1.1)
  bif x8 then (
  let x9 : (Option Int) := (some (1 : Int))
  some ((), (((0 : Int), ((0 : Int), ((0 : Int), ((0 : Int), ((0 : Int), ((0 : Int), ((0 : Int), ((0 : Int), ())))))))), ((x9, ()), ()))))
  else (
  (g_label_shifts ((), ((d.2.2.2.2.1.1, ()), ()))).bind fun x10 =>
  let x11 : Bool := (!x10.2.1.1)
  bif x11 then (
  let x12 : (Option Int) := (some (1 : Int))
  some ((), (((0 : Int), ((0 : Int), ((0 : Int), ((0 : Int), ((0 : Int), ((0 : Int), ((0 : Int), ((0 : Int), ())))))))), ((x12, ()), ()))))
  else (
  (g_label_clock ((), ((d.2.2.1.1, ()), ()))).bind fun x13 =>
  let x14 : Int := (iadd .i64 x13.2.1.1 d.2.2.2.2.1.1)
  (g_num_Split ((), ((x14, ()), (((1440 : Int), ()), ())))).bind fun x15 =>
  let x16 : Bool := (!x15.2.2.2.1.1.isNone)
  bif x16 then (
  some ((), (((0 : Int), ((0 : Int), ((0 : Int), ((0 : Int), ((0 : Int), ((0 : Int), ((0 : Int), ((0 : Int), ())))))))), ((x15.2.2.2.1.1, ()), ()))))
  else (
  let x17 : Int := (iquo .i64 x15.2.2.1.1 (60 : Int))
  let x18 : Int := (Int.tmod x15.2.2.1.1 (60 : Int))
  let x19 : Int := (iadd .i64 d.2.1.1 x15.2.1.1)
  (g_day_Date ((), ((x19, ()), ()))).bind fun x20 =>
  let x21 : Bool := (!x20.2.2.2.2.1.1.isNone)
  bif x21 then (
  some ((), (((0 : Int), ((0 : Int), ((0 : Int), ((0 : Int), ((0 : Int), ((0 : Int), ((0 : Int), ((0 : Int), ())))))))), ((x20.2.2.2.2.1.1, ()), ()))))
  else (
  some ((), ((x20.2.1.1, (x20.2.2.1.1, (x20.2.2.2.1.1, (x17, (x18, (x13.2.2.1.1, (d.2.2.2.1.1, (d.2.2.2.2.1.1, ())))))))), (((none : Option Int), ()), ())))))))))
def c_label_Of : List Nat := []
def L_label_Of (_ : Nat) : Pts po_label_Of.den := []
def E_label_Of : Env := ((((((E0.add 41 (typedSem pi_day_Date po_day_Date g_day_Date)).add 96 (typedSem pi_label_in po_label_in g_label_in)).add 97 (typedSem pi_label_clock po_label_clock g_label_clock)).add 101 (typedSem pi_label_there po_label_there g_label_there)).add 102 (typedSem pi_label_shifts po_label_shifts g_label_shifts)).add 103 (typedSem pi_num_Split po_num_Split g_num_Split))
theorem q_label_Of_m (k : Nat) (d : Unit × ((Int × Unit) × ((Int × Unit) × ((Int × Unit) × ((Int × Unit) × Unit))))) : evCode E_label_Of (tab (L_label_Of k)) c_label_Of (bodyOf Try.f49) 0 (finK E_label_Of po_label_Of [.cell 8 30, .tmp 9]) (startSt pi_label_Of 80 d) = f_label_Of_m () d := by kernel_rfl
def g_label_Of (d : Unit × ((Int × Unit) × ((Int × Unit) × ((Int × Unit) × ((Int × Unit) × Unit))))) : Option (Unit × ((Int × (Int × (Int × (Int × (Int × (Int × (Int × (Int × Unit)))))))) × (((Option Int) × Unit) × Unit))) := f_label_Of_m () d
theorem ok_label_Of : FnOk Try.prog ET0 49 pi_label_Of po_label_Of g_label_Of :=
  fn_of_body (E := E_label_Of) (envOk_add (envOk_add (envOk_add (envOk_add (envOk_add (envOk_add e0_ok (typed_ok ok_day_Date)) (typed_ok ok_label_in)) (typed_ok ok_label_clock)) (typed_ok ok_label_there)) (typed_ok ok_label_shifts)) (typed_ok ok_num_Split)) (fn := Try.f49) Try.func49 (by kernel_rfl) (by kernel_rfl) [.cell 8 30, .tmp 9] (by kernel_rfl) (by kernel_rfl) (by decide) rfl c_label_Of L_label_Of
    (by intro x hx; cases hx) (by intro k x hx; cases hx) (fun d out h => ⟨0, (q_label_Of_m 0 d).trans h⟩)

/- horologe/nist.Label -/
@[reducible] def pi_nist_Label : PSh := ⟨[], [.mk true [.v (.int .i64), .v (.int .i64), .v (.int .i64), .v (.int .i64), .v (.int .i64), .v (.int .i64), .v .bool]]⟩
@[reducible] def po_nist_Label : PSh := ⟨[], [.mk true [.v (.int .i64), .v (.int .i64), .v (.int .i64), .v (.int .i64), .v (.int .i64), .v (.int .i64), .v (.int .i64), .v (.int .i64)], .mk false [.v .err]]⟩
def f_nist_Label_m (T : Unit) (d : Unit × ((Int × (Int × (Int × (Int × (Int × (Int × (Bool × Unit))))))) × Unit)) : Option (Unit × ((Int × (Int × (Int × (Int × (Int × (Int × (Int × (Int × Unit)))))))) × (((Option Int) × Unit) × Unit))) :=
  (g_nist_Check ((), ((d.2.1.1, (d.2.1.2.1, (d.2.1.2.2.1, (d.2.1.2.2.2.1, (d.2.1.2.2.2.2.1, (d.2.1.2.2.2.2.2.1, (d.2.1.2.2.2.2.2.2.1, ()))))))), ()))).bind fun x1 =>
  let x2 : Bool := (!x1.2.1.1.isNone)
  bif x2 then (
  some ((), (((0 : Int), ((0 : Int), ((0 : Int), ((0 : Int), ((0 : Int), ((0 : Int), ((0 : Int), ((0 : Int), ())))))))), ((x1.2.1.1, ()), ()))))
  else (
  (g_label_Of ((), ((d.2.1.1, ()), ((d.2.1.2.1, ()), (((0 : Int), ()), (((0 : Int), ()), ())))))).bind fun x3 =>
  some ((), ((x3.2.1.1, (x3.2.1.2.1, (x3.2.1.2.2.1, (x3.2.1.2.2.2.1, (x3.2.1.2.2.2.2.1, (x3.2.1.2.2.2.2.2.1, (x3.2.1.2.2.2.2.2.2.1, (x3.2.1.2.2.2.2.2.2.2.1, ())))))))), ((x3.2.2.1.1, ()), ()))))
def c_nist_Label : List Nat := []
def L_nist_Label (_ : Nat) : Pts po_nist_Label.den := []
def E_nist_Label : Env := ((E0.add 16 (typedSem pi_nist_Check po_nist_Check g_nist_Check)).add 49 (typedSem pi_label_Of po_label_Of g_label_Of))
theorem q_nist_Label_m (k : Nat) (d : Unit × ((Int × (Int × (Int × (Int × (Int × (Int × (Bool × Unit))))))) × Unit)) : evCode E_nist_Label (tab (L_nist_Label k)) c_nist_Label (bodyOf Try.f12) 0 (finK E_nist_Label po_nist_Label [.cell 2 30, .tmp 3]) (startSt pi_nist_Label 18 d) = f_nist_Label_m () d := by kernel_rfl
def g_nist_Label (d : Unit × ((Int × (Int × (Int × (Int × (Int × (Int × (Bool × Unit))))))) × Unit)) : Option (Unit × ((Int × (Int × (Int × (Int × (Int × (Int × (Int × (Int × Unit)))))))) × (((Option Int) × Unit) × Unit))) := f_nist_Label_m () d
theorem ok_nist_Label : FnOk Try.prog ET0 12 pi_nist_Label po_nist_Label g_nist_Label :=
  fn_of_body (E := E_nist_Label) (envOk_add (envOk_add e0_ok (typed_ok ok_nist_Check)) (typed_ok ok_label_Of)) (fn := Try.f12) Try.func12 (by kernel_rfl) (by kernel_rfl) [.cell 2 30, .tmp 3] (by kernel_rfl) (by kernel_rfl) (by decide) rfl c_nist_Label L_nist_Label
    (by intro x hx; cases hx) (by intro k x hx; cases hx) (fun d out h => ⟨0, (q_nist_Label_m 0 d).trans h⟩)

/- horologe/horologeref05.Leap -/
@[reducible] def pi_ref05_Leap : PSh := ⟨[], [.mk false [.v (.int .i64)]]⟩
@[reducible] def po_ref05_Leap : PSh := ⟨[], [.mk false [.v .bool]]⟩
def f_ref05_Leap_m (T : Unit) (d : Unit × ((Int × Unit) × Unit)) : Option (Unit × ((Bool × Unit) × Unit)) :=
  let x1 : Int := (Int.tmod d.2.1.1 (400 : Int))
  let x2 : Bool := (x1 == (0 : Int))
  bif x2 then (
  some ((), ((true, ()), ())))
  else (
  let x3 : Int := (Int.tmod d.2.1.1 (4 : Int))
  let x4 : Bool := (x3 == (0 : Int))
  bif x4 then (
  let x5 : Int := (Int.tmod d.2.1.1 (100 : Int))
  let x6 : Bool := (x5 != (0 : Int))
  some ((), ((x6, ()), ())))
  else (
  some ((), ((false, ()), ()))))
def c_ref05_Leap : List Nat := []
def L_ref05_Leap (_ : Nat) : Pts po_ref05_Leap.den := []
def E_ref05_Leap : Env := E0
theorem q_ref05_Leap_m (k : Nat) (d : Unit × ((Int × Unit) × Unit)) : evCode E_ref05_Leap (tab (L_ref05_Leap k)) c_ref05_Leap (bodyOf Try.f120) 0 (finK E_ref05_Leap po_ref05_Leap [.tmp 2]) (startSt pi_ref05_Leap 14 d) = f_ref05_Leap_m () d := by kernel_rfl
def g_ref05_Leap (d : Unit × ((Int × Unit) × Unit)) : Option (Unit × ((Bool × Unit) × Unit)) := f_ref05_Leap_m () d
theorem ok_ref05_Leap : FnOk Try.prog ET0 120 pi_ref05_Leap po_ref05_Leap g_ref05_Leap :=
  fn_of_body (E := E_ref05_Leap) e0_ok (fn := Try.f120) Try.func120 (by kernel_rfl) (by kernel_rfl) [.tmp 2] (by kernel_rfl) (by kernel_rfl) (by decide) rfl c_ref05_Leap L_ref05_Leap
    (by intro x hx; cases hx) (by intro k x hx; cases hx) (fun d out h => ⟨0, (q_ref05_Leap_m 0 d).trans h⟩)

/- horologe/horologeref05.Days -/
@[reducible] def pi_ref05_Days : PSh := ⟨[], [.mk false [.v (.int .i64)]]⟩
@[reducible] def po_ref05_Days : PSh := ⟨[], [.mk false [.v (.int .i64)]]⟩
def f_ref05_Days_m (T : Unit) (d : Unit × ((Int × Unit) × Unit)) : Option (Unit × ((Int × Unit) × Unit)) :=
  (g_ref05_Leap ((), ((d.2.1.1, ()), ()))).bind fun x1 =>
  bif x1.2.1.1 then (
  some ((), (((366 : Int), ()), ())))
  else (
  some ((), (((365 : Int), ()), ())))
def c_ref05_Days : List Nat := []
def L_ref05_Days (_ : Nat) : Pts po_ref05_Days.den := []
def E_ref05_Days : Env := (E0.add 120 (typedSem pi_ref05_Leap po_ref05_Leap g_ref05_Leap))
theorem q_ref05_Days_m (k : Nat) (d : Unit × ((Int × Unit) × Unit)) : evCode E_ref05_Days (tab (L_ref05_Days k)) c_ref05_Days (bodyOf Try.f104) 0 (finK E_ref05_Days po_ref05_Days [.tmp 2]) (startSt pi_ref05_Days 5 d) = f_ref05_Days_m () d := by kernel_rfl
def g_ref05_Days (d : Unit × ((Int × Unit) × Unit)) : Option (Unit × ((Int × Unit) × Unit)) := f_ref05_Days_m () d
theorem ok_ref05_Days : FnOk Try.prog ET0 104 pi_ref05_Days po_ref05_Days g_ref05_Days :=
  fn_of_body (E := E_ref05_Days) (envOk_add e0_ok (typed_ok ok_ref05_Leap)) (fn := Try.f104) Try.func104 (by kernel_rfl) (by kernel_rfl) [.tmp 2] (by kernel_rfl) (by kernel_rfl) (by decide) rfl c_ref05_Days L_ref05_Days
    (by intro x hx; cases hx) (by intro k x hx; cases hx) (fun d out h => ⟨0, (q_ref05_Days_m 0 d).trans h⟩)

/- horologe/horologeref05.Start -/
@[reducible] def pi_ref05_Start : PSh := ⟨[], [.mk false [.v (.int .i64)]]⟩
@[reducible] def po_ref05_Start : PSh := ⟨[], [.mk false [.v (.int .i64)]]⟩
@[reducible] def TT_ref05_Start : Type := (((Unit × ((Int × Unit) × ((Int × Unit) × Unit))) → Option (Unit × ((Int × Unit) × Unit))) × (((Unit × ((Int × Unit) × ((Int × Unit) × Unit))) → Option (Unit × ((Int × Unit) × Unit))) × (((Unit × ((Int × Unit) × ((Int × Unit) × ((Int × Unit) × Unit)))) → Option (Unit × ((Int × Unit) × Unit))) × Unit)))
@[reducible] def sh_ref05_Start_3 : PSh := ⟨[], [.mk false [.v (.int .i64)], .any, .any, .mk false [.v (.int .i64)], .any, .any, .any, .any, .any, .any, .any, .any, .any, .any, .any, .any, .any, .any, .any, .any, .any, .any, .any, .any, .any, .any, .any]⟩
@[reducible] def sh_ref05_Start_8 : PSh := ⟨[], [.mk false [.v (.int .i64)], .any, .any, .mk false [.v (.int .i64)], .any, .any, .any, .any, .any, .any, .any, .any, .any, .any, .any, .any, .any, .any, .any, .any, .any, .any, .any, .any, .any, .any, .any]⟩
@[reducible] def sh_ref05_Start_14 : PSh := ⟨[], [.mk false [.v (.int .i64)], .any, .any, .mk false [.v (.int .i64)], .mk false [.v (.int .i64)], .any, .any, .any, .any, .any, .any, .any, .any, .any, .any, .any, .any, .any, .any, .any, .any, .any, .any, .any, .any, .any, .any]⟩
def f_ref05_Start_p3 (T : TT_ref05_Start) (d : Unit × ((Int × Unit) × ((Int × Unit) × Unit))) : Option (Unit × ((Int × Unit) × Unit)) :=
  let x1 : Bool := (decide (d.2.1.1 < (1970 : Int)))
  bif x1 then (
  let x2 : Int := (iadd .i64 d.2.1.1 (400 : Int))
  let x3 : Int := (isub .i64 d.2.2.1.1 (146097 : Int))
  (T.1 ((), ((x2, ()), ((x3, ()), ())))))
  else (
  (T.2.1 ((), ((d.2.1.1, ()), ((d.2.2.1.1, ()), ())))))
def f_ref05_Start_p8 (T : TT_ref05_Start) (d : Unit × ((Int × Unit) × ((Int × Unit) × Unit))) : Option (Unit × ((Int × Unit) × Unit)) :=
  let x4 : Bool := (decide (d.2.1.1 ≥ (2370 : Int)))
  bif x4 then (
  let x5 : Int := (isub .i64 d.2.1.1 (400 : Int))
  let x6 : Int := (iadd .i64 d.2.2.1.1 (146097 : Int))
  (T.2.1 ((), ((x5, ()), ((x6, ()), ())))))
  else (
  (T.2.2.1 ((), ((d.2.1.1, ()), ((d.2.2.1.1, ()), (((1970 : Int), ()), ()))))))
def f_ref05_Start_p14 (T : TT_ref05_Start) (d : Unit × ((Int × Unit) × ((Int × Unit) × ((Int × Unit) × Unit)))) : Option (Unit × ((Int × Unit) × Unit)) :=
  let x7 : Bool := (decide (d.2.2.2.1.1 < d.2.1.1))
  bif x7 then (
  (g_ref05_Days ((), ((d.2.2.2.1.1, ()), ()))).bind fun x8 =>
  let x9 : Int := (iadd .i64 d.2.2.1.1 x8.2.1.1)
  let x10 : Int := (iadd .i64 d.2.2.2.1.1 (1 : Int))
  (T.2.2.1 ((), ((d.2.1.1, ()), ((x9, ()), ((x10, ()), ()))))))
  else (
  some ((), ((d.2.2.1.1, ()), ())))
def f_ref05_Start_t : Nat → TT_ref05_Start
  | 0 => (fun _ => none, (fun _ => none, (fun _ => none, ())))
  | k + 1 => (f_ref05_Start_p3 (f_ref05_Start_t k), (f_ref05_Start_p8 (f_ref05_Start_t k), (f_ref05_Start_p14 (f_ref05_Start_t k), ())))
theorem t_ref05_Start (k : Nat) : f_ref05_Start_t (k + 1) = (f_ref05_Start_p3 (f_ref05_Start_t k), (f_ref05_Start_p8 (f_ref05_Start_t k), (f_ref05_Start_p14 (f_ref05_Start_t k), ()))) := rfl
def f_ref05_Start_m (T : TT_ref05_Start) (d : Unit × ((Int × Unit) × Unit)) : Option (Unit × ((Int × Unit) × Unit)) :=
  (T.1 ((), ((d.2.1.1, ()), (((0 : Int), ()), ()))))
def c_ref05_Start : List Nat := []
def L_ref05_Start (k : Nat) : Pts po_ref05_Start.den := [(3, ⟨sh_ref05_Start_3, (f_ref05_Start_t k).1⟩), (8, ⟨sh_ref05_Start_8, (f_ref05_Start_t k).2.1⟩), (14, ⟨sh_ref05_Start_14, (f_ref05_Start_t k).2.2.1⟩)]
def E_ref05_Start : Env := (E0.add 104 (typedSem pi_ref05_Days po_ref05_Days g_ref05_Days))
theorem q_ref05_Start_3 (k : Nat) (d : Unit × ((Int × Unit) × ((Int × Unit) × Unit))) : evAt E_ref05_Start (tab (L_ref05_Start k)) c_ref05_Start 3 (bodyOf Try.f62) 0 (finK E_ref05_Start po_ref05_Start [.tmp 2]) (ptSt sh_ref05_Start_3 d) = f_ref05_Start_p3 (f_ref05_Start_t k) d := by kernel_rfl
theorem q_ref05_Start_8 (k : Nat) (d : Unit × ((Int × Unit) × ((Int × Unit) × Unit))) : evAt E_ref05_Start (tab (L_ref05_Start k)) c_ref05_Start 8 (bodyOf Try.f62) 0 (finK E_ref05_Start po_ref05_Start [.tmp 2]) (ptSt sh_ref05_Start_8 d) = f_ref05_Start_p8 (f_ref05_Start_t k) d := by kernel_rfl
theorem q_ref05_Start_14 (k : Nat) (d : Unit × ((Int × Unit) × ((Int × Unit) × ((Int × Unit) × Unit)))) : evAt E_ref05_Start (tab (L_ref05_Start k)) c_ref05_Start 14 (bodyOf Try.f62) 0 (finK E_ref05_Start po_ref05_Start [.tmp 2]) (ptSt sh_ref05_Start_14 d) = f_ref05_Start_p14 (f_ref05_Start_t k) d := by kernel_rfl
theorem q_ref05_Start_m (k : Nat) (d : Unit × ((Int × Unit) × Unit)) : evCode E_ref05_Start (tab (L_ref05_Start k)) c_ref05_Start (bodyOf Try.f62) 0 (finK E_ref05_Start po_ref05_Start [.tmp 2]) (startSt pi_ref05_Start 27 d) = f_ref05_Start_m (f_ref05_Start_t k) d := by kernel_rfl
theorem go_ref05_Start (F : Unit × ((Int × Unit) × Unit) → Option (Unit × ((Int × Unit) × Unit))) (hF : ∀ d out, F d = some out → ∃ k, f_ref05_Start_m (f_ref05_Start_t k) d = some out) : FnOk Try.prog ET0 62 pi_ref05_Start po_ref05_Start F :=
  fn_of_body (E := E_ref05_Start) (envOk_add e0_ok (typed_ok ok_ref05_Days)) (fn := Try.f62) Try.func62 (by kernel_rfl) (by kernel_rfl) [.tmp 2] (by kernel_rfl) (by kernel_rfl) (by decide) rfl c_ref05_Start L_ref05_Start
    (by intro x hx d; simp only [L_ref05_Start, List.mem_cons, List.not_mem_nil, or_false] at hx; rcases hx with rfl | rfl | rfl; rfl; rfl; rfl)
    (by intro k x hx d out h; simp only [L_ref05_Start, List.mem_cons, List.not_mem_nil, or_false] at hx; rcases hx with rfl | rfl | rfl; exact (q_ref05_Start_3 k d).trans h; exact (q_ref05_Start_8 k d).trans h; exact (q_ref05_Start_14 k d).trans h)
    (by intro d out h; obtain ⟨k, hk⟩ := hF d out h; exact ⟨k, (q_ref05_Start_m k d).trans hk⟩)
def g_ref05_Start (d : Unit × ((Int × Unit) × Unit)) : Option (Unit × ((Int × Unit) × Unit)) := lim fun k => f_ref05_Start_m (f_ref05_Start_t k) d
theorem ok_ref05_Start : FnOk Try.prog ET0 62 pi_ref05_Start po_ref05_Start g_ref05_Start := go_ref05_Start g_ref05_Start fun d out h => lim_some h

/- horologe/horologeref05.First -/
@[reducible] def pi_ref05_First : PSh := ⟨[], []⟩
@[reducible] def po_ref05_First : PSh := ⟨[], [.mk false [.v (.int .i64)]]⟩
def f_ref05_First_m (T : Unit) (d : Unit × Unit) : Option (Unit × ((Int × Unit) × Unit)) :=
  (g_ref05_Start ((), (((-9999 : Int), ()), ()))).bind fun x1 =>
  some ((), ((x1.2.1.1, ()), ()))
def c_ref05_First : List Nat := []
def L_ref05_First (_ : Nat) : Pts po_ref05_First.den := []
def E_ref05_First : Env := (E0.add 62 (typedSem pi_ref05_Start po_ref05_Start g_ref05_Start))
theorem q_ref05_First_m (k : Nat) (d : Unit × Unit) : evCode E_ref05_First (tab (L_ref05_First k)) c_ref05_First (bodyOf Try.f58) 0 (finK E_ref05_First po_ref05_First [.tmp 0]) (startSt pi_ref05_First 2 d) = f_ref05_First_m () d := by kernel_rfl
def g_ref05_First (d : Unit × Unit) : Option (Unit × ((Int × Unit) × Unit)) := f_ref05_First_m () d
theorem ok_ref05_First : FnOk Try.prog ET0 58 pi_ref05_First po_ref05_First g_ref05_First :=
  fn_of_body (E := E_ref05_First) (envOk_add e0_ok (typed_ok ok_ref05_Start)) (fn := Try.f58) Try.func58 (by kernel_rfl) (by kernel_rfl) [.tmp 0] (by kernel_rfl) (by kernel_rfl) (by decide) rfl c_ref05_First L_ref05_First
    (by intro x hx; cases hx) (by intro k x hx; cases hx) (fun d out h => ⟨0, (q_ref05_First_m 0 d).trans h⟩)

/- horologe/horologeref05.Last -/
@[reducible] def pi_ref05_Last : PSh := ⟨[], []⟩
@[reducible] def po_ref05_Last : PSh := ⟨[], [.mk false [.v (.int .i64)]]⟩
def f_ref05_Last_m (T : Unit) (d : Unit × Unit) : Option (Unit × ((Int × Unit) × Unit)) :=
  (g_ref05_Start ((), (((10000 : Int), ()), ()))).bind fun x1 =>
  let x2 : Int := (isub .i64 x1.2.1.1 (1 : Int))
  some ((), ((x2, ()), ()))
def c_ref05_Last : List Nat := []
def L_ref05_Last (_ : Nat) : Pts po_ref05_Last.den := []
def E_ref05_Last : Env := (E0.add 62 (typedSem pi_ref05_Start po_ref05_Start g_ref05_Start))
theorem q_ref05_Last_m (k : Nat) (d : Unit × Unit) : evCode E_ref05_Last (tab (L_ref05_Last k)) c_ref05_Last (bodyOf Try.f59) 0 (finK E_ref05_Last po_ref05_Last [.tmp 0]) (startSt pi_ref05_Last 3 d) = f_ref05_Last_m () d := by kernel_rfl
def g_ref05_Last (d : Unit × Unit) : Option (Unit × ((Int × Unit) × Unit)) := f_ref05_Last_m () d
theorem ok_ref05_Last : FnOk Try.prog ET0 59 pi_ref05_Last po_ref05_Last g_ref05_Last :=
  fn_of_body (E := E_ref05_Last) (envOk_add e0_ok (typed_ok ok_ref05_Start)) (fn := Try.f59) Try.func59 (by kernel_rfl) (by kernel_rfl) [.tmp 0] (by kernel_rfl) (by kernel_rfl) (by decide) rfl c_ref05_Last L_ref05_Last
    (by intro x hx; cases hx) (by intro k x hx; cases hx) (fun d out h => ⟨0, (q_ref05_Last_m 0 d).trans h⟩)

/- horologe/horologeref07.There -/
@[reducible] def pi_ref07_There : PSh := ⟨[], [.mk false [.v (.int .i64)]]⟩
@[reducible] def po_ref07_There : PSh := ⟨[], [.mk false [.v .bool]]⟩
def f_ref07_There_m (T : Unit) (d : Unit × ((Int × Unit) × Unit)) : Option (Unit × ((Bool × Unit) × Unit)) :=
  (g_ref05_First ((), ())).bind fun x1 =>
  let x2 : Bool := (decide (d.2.1.1 ≥ x1.2.1.1))
  bif x2 then (
  (g_ref05_Last ((), ())).bind fun x3 =>
  let x4 : Bool := (decide (d.2.1.1 ≤ x3.2.1.1))
  some ((), ((x4, ()), ())))
  else (
  some ((), ((false, ()), ())))
def c_ref07_There : List Nat := []
def L_ref07_There (_ : Nat) : Pts po_ref07_There.den := []
def E_ref07_There : Env := ((E0.add 58 (typedSem pi_ref05_First po_ref05_First g_ref05_First)).add 59 (typedSem pi_ref05_Last po_ref05_Last g_ref05_Last))
theorem q_ref07_There_m (k : Nat) (d : Unit × ((Int × Unit) × Unit)) : evCode E_ref07_There (tab (L_ref07_There k)) c_ref07_There (bodyOf Try.f22) 0 (finK E_ref07_There po_ref07_There [.tmp 2]) (startSt pi_ref07_There 11 d) = f_ref07_There_m () d := by kernel_rfl
def g_ref07_There (d : Unit × ((Int × Unit) × Unit)) : Option (Unit × ((Bool × Unit) × Unit)) := f_ref07_There_m () d
theorem ok_ref07_There : FnOk Try.prog ET0 22 pi_ref07_There po_ref07_There g_ref07_There :=
  fn_of_body (E := E_ref07_There) (envOk_add (envOk_add e0_ok (typed_ok ok_ref05_First)) (typed_ok ok_ref05_Last)) (fn := Try.f22) Try.func22 (by kernel_rfl) (by kernel_rfl) [.tmp 2] (by kernel_rfl) (by kernel_rfl) (by decide) rfl c_ref07_There L_ref07_There
    (by intro x hx; cases hx) (by intro k x hx; cases hx) (fun d out h => ⟨0, (q_ref07_There_m 0 d).trans h⟩)

/- horologe/horologeref26.Check -/
@[reducible] def pi_ref26_Check : PSh := ⟨[], [.mk true [.v (.int .i64), .v (.int .i64), .v (.int .i64), .v (.int .i64), .v (.int .i64), .v (.int .i64), .v .bool]]⟩
@[reducible] def po_ref26_Check : PSh := ⟨[], [.mk false [.v (.int .i64)]]⟩
def f_ref26_Check_m (T : Unit) (d : Unit × ((Int × (Int × (Int × (Int × (Int × (Int × (Bool × Unit))))))) × Unit)) : Option (Unit × ((Int × Unit) × Unit)) :=
  (g_ref07_There ((), ((d.2.1.1, ()), ()))).bind fun x1 =>
  let x2 : Bool := (!x1.2.1.1)
  bif x2 then (
  some ((), (((13 : Int), ()), ())))
  else (
  let x3 : Bool := (decide (d.2.1.1 < (-40587 : Int)))
  bif x3 then (
  some ((), (((1 : Int), ()), ())))
  else (
  let x4 : Bool := (decide (d.2.1.1 > (59412 : Int)))
  bif x4 then (
  some ((), (((1 : Int), ()), ())))
  else (
  let x5 : Bool := (decide (d.2.1.2.1 < (0 : Int)))
  bif x5 then (
  some ((), (((1 : Int), ()), ())))
  else (
  let x6 : Bool := (decide (d.2.1.2.1 > (86400 : Int)))
  bif x6 then (
  some ((), (((1 : Int), ()), ())))
  else (
  let x7 : Bool := (decide (d.2.1.2.2.1 < (0 : Int)))
  bif x7 then (
  some ((), (((1 : Int), ()), ())))
  else (
  let x8 : Bool := (decide (d.2.1.2.2.1 > (99 : Int)))
  bif x8 then (
  some ((), (((1 : Int), ()), ())))
  else (
  let x9 : Bool := (decide (d.2.1.2.2.2.1 < (0 : Int)))
  bif x9 then (
  some ((), (((1 : Int), ()), ())))
  else (
  let x10 : Bool := (decide (d.2.1.2.2.2.1 > (2 : Int)))
  bif x10 then (
  some ((), (((1 : Int), ()), ())))
  else (
  let x11 : Bool := (decide (d.2.1.2.2.2.2.1 < (0 : Int)))
  bif x11 then (
  some ((), (((1 : Int), ()), ())))
  else (
  let x12 : Bool := (decide (d.2.1.2.2.2.2.1 > (9 : Int)))
  bif x12 then (
  some ((), (((1 : Int), ()), ())))
  else (
  let x13 : Bool := (decide (d.2.1.2.2.2.2.2.1 < (0 : Int)))
  bif x13 then (
  some ((), (((1 : Int), ()), ())))
  else (
  let x14 : Bool := (decide (d.2.1.2.2.2.2.2.1 > (9999 : Int)))
  bif x14 then (
  some ((), (((1 : Int), ()), ())))
  else (
  some ((), (((0 : Int), ()), ())))))))))))))))
def c_ref26_Check : List Nat := []
def L_ref26_Check (_ : Nat) : Pts po_ref26_Check.den := []
def E_ref26_Check : Env := (E0.add 22 (typedSem pi_ref07_There po_ref07_There g_ref07_There))
theorem q_ref26_Check_m (k : Nat) (d : Unit × ((Int × (Int × (Int × (Int × (Int × (Int × (Bool × Unit))))))) × Unit)) : evCode E_ref26_Check (tab (L_ref26_Check k)) c_ref26_Check (bodyOf Try.f13) 0 (finK E_ref26_Check po_ref26_Check [.tmp 2]) (startSt pi_ref26_Check 63 d) = f_ref26_Check_m () d := by kernel_rfl
def g_ref26_Check (d : Unit × ((Int × (Int × (Int × (Int × (Int × (Int × (Bool × Unit))))))) × Unit)) : Option (Unit × ((Int × Unit) × Unit)) := f_ref26_Check_m () d
theorem ok_ref26_Check : FnOk Try.prog ET0 13 pi_ref26_Check po_ref26_Check g_ref26_Check :=
  fn_of_body (E := E_ref26_Check) (envOk_add e0_ok (typed_ok ok_ref07_There)) (fn := Try.f13) Try.func13 (by kernel_rfl) (by kernel_rfl) [.tmp 2] (by kernel_rfl) (by kernel_rfl) (by decide) rfl c_ref26_Check L_ref26_Check
    (by intro x hx; cases hx) (by intro k x hx; cases hx) (fun d out h => ⟨0, (q_ref26_Check_m 0 d).trans h⟩)

/- horologe/horologelaw26.Document -/
@[reducible] def pi_law26_Document : PSh := ⟨[], [.mk true [.v (.int .i64), .v (.int .i64), .v (.int .i64), .v (.int .i64), .v (.int .i64), .v (.int .i64), .v .bool]]⟩
@[reducible] def po_law26_Document : PSh := ⟨[], [.mk true [.v (.int .i64), .v (.int .i64), .v (.int .i64), .v (.int .i64), .v (.int .i64), .v (.int .i64), .v .bool]]⟩
def f_law26_Document_m (T : Unit) (d : Unit × ((Int × (Int × (Int × (Int × (Int × (Int × (Bool × Unit))))))) × Unit)) : Option (Unit × ((Int × (Int × (Int × (Int × (Int × (Int × (Bool × Unit))))))) × Unit)) :=
  some ((), ((d.2.1.1, (d.2.1.2.1, (d.2.1.2.2.1, (d.2.1.2.2.2.1, (d.2.1.2.2.2.2.1, (d.2.1.2.2.2.2.2.1, (d.2.1.2.2.2.2.2.2.1, ()))))))), ()))
def c_law26_Document : List Nat := []
def L_law26_Document (_ : Nat) : Pts po_law26_Document.den := []
def E_law26_Document : Env := E0
theorem q_law26_Document_m (k : Nat) (d : Unit × ((Int × (Int × (Int × (Int × (Int × (Int × (Bool × Unit))))))) × Unit)) : evCode E_law26_Document (tab (L_law26_Document k)) c_law26_Document (bodyOf Try.f14) 0 (finK E_law26_Document po_law26_Document [.cell 2 34]) (startSt pi_law26_Document 18 d) = f_law26_Document_m () d := by kernel_rfl
def g_law26_Document (d : Unit × ((Int × (Int × (Int × (Int × (Int × (Int × (Bool × Unit))))))) × Unit)) : Option (Unit × ((Int × (Int × (Int × (Int × (Int × (Int × (Bool × Unit))))))) × Unit)) := f_law26_Document_m () d
theorem ok_law26_Document : FnOk Try.prog ET0 14 pi_law26_Document po_law26_Document g_law26_Document :=
  fn_of_body (E := E_law26_Document) e0_ok (fn := Try.f14) Try.func14 (by kernel_rfl) (by kernel_rfl) [.cell 2 34] (by kernel_rfl) (by kernel_rfl) (by decide) rfl c_law26_Document L_law26_Document
    (by intro x hx; cases hx) (by intro k x hx; cases hx) (fun d out h => ⟨0, (q_law26_Document_m 0 d).trans h⟩)

/- horologe/horologenum.Num -/
@[reducible] def pi_hnum_Num : PSh := ⟨[], [.mk false [.v .err]]⟩
@[reducible] def po_hnum_Num : PSh := ⟨[], [.mk false [.v (.int .i64)]]⟩
def f_hnum_Num_m (T : Unit) (d : Unit × (((Option Int) × Unit) × Unit)) : Option (Unit × ((Int × Unit) × Unit)) :=
  bif d.2.1.1.isNone then (
  some ((), (((0 : Int), ()), ())))
  else (
  bif d.2.1.1.isSome then (
  let x1 : Bool := ((d.2.1.1.getD 0) != (0 : Int))
  bif x1 then (
  some ((), (((d.2.1.1.getD 0), ()), ())))
  else (
  some ((), (((-1 : Int), ()), ()))))
  else (
  some ((), (((-1 : Int), ()), ()))))
def c_hnum_Num : List Nat := []
def L_hnum_Num (_ : Nat) : Pts po_hnum_Num.den := []
def E_hnum_Num : Env := E0
theorem q_hnum_Num_m (k : Nat) (d : Unit × (((Option Int) × Unit) × Unit)) : evCode E_hnum_Num (tab (L_hnum_Num k)) c_hnum_Num (bodyOf Try.f15) 0 (finK E_hnum_Num po_hnum_Num [.tmp 2]) (startSt pi_hnum_Num 18 d) = f_hnum_Num_m () d := by kernel_rfl
def g_hnum_Num (d : Unit × (((Option Int) × Unit) × Unit)) : Option (Unit × ((Int × Unit) × Unit)) := f_hnum_Num_m () d
theorem ok_hnum_Num : FnOk Try.prog ET0 15 pi_hnum_Num po_hnum_Num g_hnum_Num :=
  fn_of_body (E := E_hnum_Num) e0_ok (fn := Try.f15) Try.func15 (by kernel_rfl) (by kernel_rfl) [.tmp 2] (by kernel_rfl) (by kernel_rfl) (by decide) rfl c_hnum_Num L_hnum_Num
    (by intro x hx; cases hx) (by intro k x hx; cases hx) (fun d out h => ⟨0, (q_hnum_Num_m 0 d).trans h⟩)

/- horologe/horologeref08.There -/
@[reducible] def pi_ref08_There : PSh := ⟨[], [.mk false [.v (.int .i64)]]⟩
@[reducible] def po_ref08_There : PSh := ⟨[], [.mk false [.v .bool]]⟩
def f_ref08_There_m (T : Unit) (d : Unit × ((Int × Unit) × Unit)) : Option (Unit × ((Bool × Unit) × Unit)) :=
  (g_ref05_First ((), ())).bind fun x1 =>
  let x2 : Bool := (decide (d.2.1.1 ≥ x1.2.1.1))
  bif x2 then (
  (g_ref05_Last ((), ())).bind fun x3 =>
  let x4 : Bool := (decide (d.2.1.1 ≤ x3.2.1.1))
  some ((), ((x4, ()), ())))
  else (
  some ((), ((false, ()), ())))
def c_ref08_There : List Nat := []
def L_ref08_There (_ : Nat) : Pts po_ref08_There.den := []
def E_ref08_There : Env := ((E0.add 58 (typedSem pi_ref05_First po_ref05_First g_ref05_First)).add 59 (typedSem pi_ref05_Last po_ref05_Last g_ref05_Last))
theorem q_ref08_There_m (k : Nat) (d : Unit × ((Int × Unit) × Unit)) : evCode E_ref08_There (tab (L_ref08_There k)) c_ref08_There (bodyOf Try.f51) 0 (finK E_ref08_There po_ref08_There [.tmp 2]) (startSt pi_ref08_There 11 d) = f_ref08_There_m () d := by kernel_rfl
def g_ref08_There (d : Unit × ((Int × Unit) × Unit)) : Option (Unit × ((Bool × Unit) × Unit)) := f_ref08_There_m () d
theorem ok_ref08_There : FnOk Try.prog ET0 51 pi_ref08_There po_ref08_There g_ref08_There :=
  fn_of_body (E := E_ref08_There) (envOk_add (envOk_add e0_ok (typed_ok ok_ref05_First)) (typed_ok ok_ref05_Last)) (fn := Try.f51) Try.func51 (by kernel_rfl) (by kernel_rfl) [.tmp 2] (by kernel_rfl) (by kernel_rfl) (by decide) rfl c_ref08_There L_ref08_There
    (by intro x hx; cases hx) (by intro k x hx; cases hx) (fun d out h => ⟨0, (q_ref08_There_m 0 d).trans h⟩)

/- horologe/horologeref05.Month -/
@[reducible] def pi_ref05_Month : PSh := ⟨[], [.mk false [.v (.int .i64)], .mk false [.v (.int .i64)]]⟩
@[reducible] def po_ref05_Month : PSh := ⟨[], [.mk false [.v (.int .i64)]]⟩
def f_ref05_Month_m (T : Unit) (d : Unit × ((Int × Unit) × ((Int × Unit) × Unit))) : Option (Unit × ((Int × Unit) × Unit)) :=
  let x1 : (List Int) := ([(31 : Int), (28 : Int), (31 : Int), (30 : Int), (31 : Int), (30 : Int), (31 : Int), (31 : Int), (30 : Int), (31 : Int), (30 : Int), (31 : Int)] : List Int)
  let x2 : Bool := (d.2.2.1.1 == (2 : Int))
  bif x2 then (
  (g_ref05_Leap ((), ((d.2.1.1, ()), ()))).bind fun x3 =>
  bif x3.2.1.1 then (
  some ((), (((29 : Int), ()), ())))
  else (
  let x4 : Int := (isub .i64 d.2.2.1.1 (1 : Int))
  bif decide ((0 : Int) ≤ x4) && decide (x4 < (x1.length : Int)) then (
  some ((), (((gd (.int .i64) x1 x4), ()), ())))
  else none))
  else (
  let x5 : Int := (isub .i64 d.2.2.1.1 (1 : Int))
  bif decide ((0 : Int) ≤ x5) && decide (x5 < (x1.length : Int)) then (
  some ((), (((gd (.int .i64) x1 x5), ()), ())))
  else none)
def c_ref05_Month : List Nat := []
def L_ref05_Month (_ : Nat) : Pts po_ref05_Month.den := []
def E_ref05_Month : Env := (E0.add 120 (typedSem pi_ref05_Leap po_ref05_Leap g_ref05_Leap))
theorem q_ref05_Month_m (k : Nat) (d : Unit × ((Int × Unit) × ((Int × Unit) × Unit))) : evCode E_ref05_Month (tab (L_ref05_Month k)) c_ref05_Month (bodyOf Try.f65) 0 (finK E_ref05_Month po_ref05_Month [.tmp 4]) (startSt pi_ref05_Month 18 d) = f_ref05_Month_m () d := by kernel_rfl
def g_ref05_Month (d : Unit × ((Int × Unit) × ((Int × Unit) × Unit))) : Option (Unit × ((Int × Unit) × Unit)) := f_ref05_Month_m () d
theorem ok_ref05_Month : FnOk Try.prog ET0 65 pi_ref05_Month po_ref05_Month g_ref05_Month :=
  fn_of_body (E := E_ref05_Month) (envOk_add e0_ok (typed_ok ok_ref05_Leap)) (fn := Try.f65) Try.func65 (by kernel_rfl) (by kernel_rfl) [.tmp 4] (by kernel_rfl) (by kernel_rfl) (by decide) rfl c_ref05_Month L_ref05_Month
    (by intro x hx; cases hx) (by intro k x hx; cases hx) (fun d out h => ⟨0, (q_ref05_Month_m 0 d).trans h⟩)

/- horologe/horologeref05.Date -/
@[reducible] def pi_ref05_Date : PSh := ⟨[], [.mk false [.v (.int .i64)]]⟩
@[reducible] def po_ref05_Date : PSh := ⟨[], [.mk false [.v (.int .i64)], .mk false [.v (.int .i64)], .mk false [.v (.int .i64)]]⟩
@[reducible] def TT_ref05_Date : Type := (((Unit × ((Int × Unit) × ((Int × Unit) × Unit))) → Option (Unit × ((Int × Unit) × ((Int × Unit) × ((Int × Unit) × Unit))))) × (((Unit × ((Int × Unit) × ((Int × Unit) × Unit))) → Option (Unit × ((Int × Unit) × ((Int × Unit) × ((Int × Unit) × Unit))))) × (((Unit × ((Int × Unit) × ((Int × Unit) × Unit))) → Option (Unit × ((Int × Unit) × ((Int × Unit) × ((Int × Unit) × Unit))))) × (((Unit × ((Int × Unit) × ((Int × Unit) × ((Int × Unit) × Unit)))) → Option (Unit × ((Int × Unit) × ((Int × Unit) × ((Int × Unit) × Unit))))) × Unit))))
@[reducible] def sh_ref05_Date_3 : PSh := ⟨[], [.mk false [.v (.int .i64)], .any, .any, .any, .any, .mk false [.v (.int .i64)], .any, .any, .any, .any, .any, .any, .any, .any, .any, .any, .any, .any, .any, .any, .any, .any, .any, .any, .any, .any, .any, .any, .any, .any, .any, .any, .any, .any, .any, .any, .any, .any, .any, .any, .any, .any, .any, .any, .any]⟩
@[reducible] def sh_ref05_Date_8 : PSh := ⟨[], [.mk false [.v (.int .i64)], .any, .any, .any, .any, .mk false [.v (.int .i64)], .any, .any, .any, .any, .any, .any, .any, .any, .any, .any, .any, .any, .any, .any, .any, .any, .any, .any, .any, .any, .any, .any, .any, .any, .any, .any, .any, .any, .any, .any, .any, .any, .any, .any, .any, .any, .any, .any, .any]⟩
@[reducible] def sh_ref05_Date_13 : PSh := ⟨[], [.mk false [.v (.int .i64)], .any, .any, .any, .any, .mk false [.v (.int .i64)], .any, .any, .any, .any, .any, .any, .any, .any, .any, .any, .any, .any, .any, .any, .any, .any, .any, .any, .any, .any, .any, .any, .any, .any, .any, .any, .any, .any, .any, .any, .any, .any, .any, .any, .any, .any, .any, .any, .any]⟩
@[reducible] def sh_ref05_Date_19 : PSh := ⟨[], [.mk false [.v (.int .i64)], .any, .any, .any, .any, .mk false [.v (.int .i64)], .mk false [.v (.int .i64)], .any, .any, .any, .any, .any, .any, .any, .any, .any, .any, .any, .any, .any, .any, .any, .any, .any, .any, .any, .any, .any, .any, .any, .any, .any, .any, .any, .any, .any, .any, .any, .any, .any, .any, .any, .any, .any, .any]⟩
def f_ref05_Date_p3 (T : TT_ref05_Date) (d : Unit × ((Int × Unit) × ((Int × Unit) × Unit))) : Option (Unit × ((Int × Unit) × ((Int × Unit) × ((Int × Unit) × Unit)))) :=
  let x1 : Bool := (decide (d.2.1.1 < (0 : Int)))
  bif x1 then (
  let x2 : Int := (iadd .i64 d.2.1.1 (146097 : Int))
  let x3 : Int := (isub .i64 d.2.2.1.1 (400 : Int))
  (T.1 ((), ((x2, ()), ((x3, ()), ())))))
  else (
  (T.2.1 ((), ((d.2.1.1, ()), ((d.2.2.1.1, ()), ())))))
def f_ref05_Date_p8 (T : TT_ref05_Date) (d : Unit × ((Int × Unit) × ((Int × Unit) × Unit))) : Option (Unit × ((Int × Unit) × ((Int × Unit) × ((Int × Unit) × Unit)))) :=
  let x4 : Bool := (decide (d.2.1.1 ≥ (146097 : Int)))
  bif x4 then (
  let x5 : Int := (isub .i64 d.2.1.1 (146097 : Int))
  let x6 : Int := (iadd .i64 d.2.2.1.1 (400 : Int))
  (T.2.1 ((), ((x5, ()), ((x6, ()), ())))))
  else (
  (T.2.2.1 ((), ((d.2.1.1, ()), ((d.2.2.1.1, ()), ())))))
def f_ref05_Date_p13 (T : TT_ref05_Date) (d : Unit × ((Int × Unit) × ((Int × Unit) × Unit))) : Option (Unit × ((Int × Unit) × ((Int × Unit) × ((Int × Unit) × Unit)))) :=
  (g_ref05_Days ((), ((d.2.2.1.1, ()), ()))).bind fun x7 =>
  let x8 : Bool := (decide (d.2.1.1 ≥ x7.2.1.1))
  bif x8 then (
  (g_ref05_Days ((), ((d.2.2.1.1, ()), ()))).bind fun x9 =>
  let x10 : Int := (isub .i64 d.2.1.1 x9.2.1.1)
  let x11 : Int := (iadd .i64 d.2.2.1.1 (1 : Int))
  (T.2.2.1 ((), ((x10, ()), ((x11, ()), ())))))
  else (
  (T.2.2.2.1 ((), ((d.2.1.1, ()), ((d.2.2.1.1, ()), (((1 : Int), ()), ()))))))
def f_ref05_Date_p19 (T : TT_ref05_Date) (d : Unit × ((Int × Unit) × ((Int × Unit) × ((Int × Unit) × Unit)))) : Option (Unit × ((Int × Unit) × ((Int × Unit) × ((Int × Unit) × Unit)))) :=
  (g_ref05_Month ((), ((d.2.2.1.1, ()), ((d.2.2.2.1.1, ()), ())))).bind fun x12 =>
  let x13 : Bool := (decide (d.2.1.1 ≥ x12.2.1.1))
  bif x13 then (
  (g_ref05_Month ((), ((d.2.2.1.1, ()), ((d.2.2.2.1.1, ()), ())))).bind fun x14 =>
  let x15 : Int := (isub .i64 d.2.1.1 x14.2.1.1)
  let x16 : Int := (iadd .i64 d.2.2.2.1.1 (1 : Int))
  (T.2.2.2.1 ((), ((x15, ()), ((d.2.2.1.1, ()), ((x16, ()), ()))))))
  else (
  let x17 : Int := (iadd .i64 d.2.1.1 (1 : Int))
  some ((), ((d.2.2.1.1, ()), ((d.2.2.2.1.1, ()), ((x17, ()), ())))))
def f_ref05_Date_t : Nat → TT_ref05_Date
  | 0 => (fun _ => none, (fun _ => none, (fun _ => none, (fun _ => none, ()))))
  | k + 1 => (f_ref05_Date_p3 (f_ref05_Date_t k), (f_ref05_Date_p8 (f_ref05_Date_t k), (f_ref05_Date_p13 (f_ref05_Date_t k), (f_ref05_Date_p19 (f_ref05_Date_t k), ()))))
theorem t_ref05_Date (k : Nat) : f_ref05_Date_t (k + 1) = (f_ref05_Date_p3 (f_ref05_Date_t k), (f_ref05_Date_p8 (f_ref05_Date_t k), (f_ref05_Date_p13 (f_ref05_Date_t k), (f_ref05_Date_p19 (f_ref05_Date_t k), ())))) := rfl
def f_ref05_Date_m (T : TT_ref05_Date) (d : Unit × ((Int × Unit) × Unit)) : Option (Unit × ((Int × Unit) × ((Int × Unit) × ((Int × Unit) × Unit)))) :=
  (T.1 ((), ((d.2.1.1, ()), (((1970 : Int), ()), ()))))
def c_ref05_Date : List Nat := []
def L_ref05_Date (k : Nat) : Pts po_ref05_Date.den := [(3, ⟨sh_ref05_Date_3, (f_ref05_Date_t k).1⟩), (8, ⟨sh_ref05_Date_8, (f_ref05_Date_t k).2.1⟩), (13, ⟨sh_ref05_Date_13, (f_ref05_Date_t k).2.2.1⟩), (19, ⟨sh_ref05_Date_19, (f_ref05_Date_t k).2.2.2.1⟩)]
def E_ref05_Date : Env := ((E0.add 65 (typedSem pi_ref05_Month po_ref05_Month g_ref05_Month)).add 104 (typedSem pi_ref05_Days po_ref05_Days g_ref05_Days))
theorem q_ref05_Date_3 (k : Nat) (d : Unit × ((Int × Unit) × ((Int × Unit) × Unit))) : evAt E_ref05_Date (tab (L_ref05_Date k)) c_ref05_Date 3 (bodyOf Try.f52) 0 (finK E_ref05_Date po_ref05_Date [.tmp 2, .tmp 3, .tmp 4]) (ptSt sh_ref05_Date_3 d) = f_ref05_Date_p3 (f_ref05_Date_t k) d := by kernel_rfl
theorem q_ref05_Date_8 (k : Nat) (d : Unit × ((Int × Unit) × ((Int × Unit) × Unit))) : evAt E_ref05_Date (tab (L_ref05_Date k)) c_ref05_Date 8 (bodyOf Try.f52) 0 (finK E_ref05_Date po_ref05_Date [.tmp 2, .tmp 3, .tmp 4]) (ptSt sh_ref05_Date_8 d) = f_ref05_Date_p8 (f_ref05_Date_t k) d := by kernel_rfl
theorem q_ref05_Date_13 (k : Nat) (d : Unit × ((Int × Unit) × ((Int × Unit) × Unit))) : evAt E_ref05_Date (tab (L_ref05_Date k)) c_ref05_Date 13 (bodyOf Try.f52) 0 (finK E_ref05_Date po_ref05_Date [.tmp 2, .tmp 3, .tmp 4]) (ptSt sh_ref05_Date_13 d) = f_ref05_Date_p13 (f_ref05_Date_t k) d := by kernel_rfl
theorem q_ref05_Date_19 (k : Nat) (d : Unit × ((Int × Unit) × ((Int × Unit) × ((Int × Unit) × Unit)))) : evAt E_ref05_Date (tab (L_ref05_Date k)) c_ref05_Date 19 (bodyOf Try.f52) 0 (finK E_ref05_Date po_ref05_Date [.tmp 2, .tmp 3, .tmp 4]) (ptSt sh_ref05_Date_19 d) = f_ref05_Date_p19 (f_ref05_Date_t k) d := by kernel_rfl
theorem q_ref05_Date_m (k : Nat) (d : Unit × ((Int × Unit) × Unit)) : evCode E_ref05_Date (tab (L_ref05_Date k)) c_ref05_Date (bodyOf Try.f52) 0 (finK E_ref05_Date po_ref05_Date [.tmp 2, .tmp 3, .tmp 4]) (startSt pi_ref05_Date 45 d) = f_ref05_Date_m (f_ref05_Date_t k) d := by kernel_rfl
theorem go_ref05_Date (F : Unit × ((Int × Unit) × Unit) → Option (Unit × ((Int × Unit) × ((Int × Unit) × ((Int × Unit) × Unit))))) (hF : ∀ d out, F d = some out → ∃ k, f_ref05_Date_m (f_ref05_Date_t k) d = some out) : FnOk Try.prog ET0 52 pi_ref05_Date po_ref05_Date F :=
  fn_of_body (E := E_ref05_Date) (envOk_add (envOk_add e0_ok (typed_ok ok_ref05_Month)) (typed_ok ok_ref05_Days)) (fn := Try.f52) Try.func52 (by kernel_rfl) (by kernel_rfl) [.tmp 2, .tmp 3, .tmp 4] (by kernel_rfl) (by kernel_rfl) (by decide) rfl c_ref05_Date L_ref05_Date
    (by intro x hx d; simp only [L_ref05_Date, List.mem_cons, List.not_mem_nil, or_false] at hx; rcases hx with rfl | rfl | rfl | rfl; rfl; rfl; rfl; rfl)
    (by intro k x hx d out h; simp only [L_ref05_Date, List.mem_cons, List.not_mem_nil, or_false] at hx; rcases hx with rfl | rfl | rfl | rfl; exact (q_ref05_Date_3 k d).trans h; exact (q_ref05_Date_8 k d).trans h; exact (q_ref05_Date_13 k d).trans h; exact (q_ref05_Date_19 k d).trans h)
    (by intro d out h; obtain ⟨k, hk⟩ := hF d out h; exact ⟨k, (q_ref05_Date_m k d).trans hk⟩)
def g_ref05_Date (d : Unit × ((Int × Unit) × Unit)) : Option (Unit × ((Int × Unit) × ((Int × Unit) × ((Int × Unit) × Unit)))) := lim fun k => f_ref05_Date_m (f_ref05_Date_t k) d
theorem ok_ref05_Date : FnOk Try.prog ET0 52 pi_ref05_Date po_ref05_Date g_ref05_Date := go_ref05_Date g_ref05_Date fun d out h => lim_some h

/- horologe/horologeref08.Of -/
@[reducible] def pi_ref08_Of : PSh := ⟨[], [.mk false [.v (.int .i64)], .mk false [.v (.int .i64)], .mk false [.v (.int .i64)], .mk false [.v (.int .i64)]]⟩
@[reducible] def po_ref08_Of : PSh := ⟨[], [.mk true [.v (.int .i64), .v (.int .i64), .v (.int .i64), .v (.int .i64), .v (.int .i64), .v (.int .i64), .v (.int .i64), .v (.int .i64)], .mk false [.v (.int .i64)]]⟩
@[reducible] def TT_ref08_Of : Type := (((((Int × (Int × (Int × (Int × (Int × (Int × (Int × (Int × Unit)))))))) × ((Int × (Int × (Int × (Int × (Int × (Int × (Int × (Int × Unit)))))))) × Unit)) × ((Int × Unit) × (Unit × (Unit × ((Int × Unit) × Unit))))) → Option (Unit × ((Int × (Int × (Int × (Int × (Int × (Int × (Int × (Int × Unit)))))))) × ((Int × Unit) × Unit)))) × Unit)
@[reducible] def sh_ref08_Of_16 : PSh := ⟨[.var 38 [.v (.int .i64), .v (.int .i64), .v (.int .i64), .v (.int .i64), .v (.int .i64), .v (.int .i64), .v (.int .i64), .v (.int .i64)], .var 38 [.v (.int .i64), .v (.int .i64), .v (.int .i64), .v (.int .i64), .v (.int .i64), .v (.int .i64), .v (.int .i64), .v (.int .i64)]], [.mk false [.v (.int .i64)], .any, .any, .any, .any, .any, .any, .any, .mk false [.ref 0 0], .any, .mk false [.ref 1 0], .mk false [.v (.int .i64)], .any, .any, .any, .any, .any, .any, .any, .any, .any, .any, .any, .any, .any, .any, .any, .any, .any, .any, .any, .any, .any, .any, .any, .any, .any, .any, .any, .any, .any, .any, .any, .any, .any, .any, .any, .any, .any, .any, .any, .any, .any, .any, .any, .any, .any, .any, .any, .any, .any, .any, .any, .any, .any, .any, .any, .any, .any, .any, .any, .any, .any, .any, .any, .any, .any, .any, .any, .any, .any, .any, .any, .any]⟩
def f_ref08_Of_p16 (T : TT_ref08_Of) (d : ((Int × (Int × (Int × (Int × (Int × (Int × (Int × (Int × Unit)))))))) × ((Int × (Int × (Int × (Int × (Int × (Int × (Int × (Int × Unit)))))))) × Unit)) × ((Int × Unit) × (Unit × (Unit × ((Int × Unit) × Unit))))) : Option (Unit × ((Int × (Int × (Int × (Int × (Int × (Int × (Int × (Int × Unit)))))))) × ((Int × Unit) × Unit))) :=
  (g_ref08_There ((), ((d.2.1.1, ()), ()))).bind fun x32 =>
  let x33 : Bool := (!x32.2.1.1)
  bif x33 then (
  some ((), (((0 : Int), ((0 : Int), ((0 : Int), ((0 : Int), ((0 : Int), ((0 : Int), ((0 : Int), ((0 : Int), ())))))))), (((13 : Int), ()), ()))))
  else (
  (g_ref05_Date ((), ((d.2.1.1, ()), ()))).bind fun x34 =>
  let x35 : Int := (iquo .i64 d.2.2.2.2.1.1 (60 : Int))
  let x36 : Int := (Int.tmod d.2.2.2.2.1.1 (60 : Int))
  some ((), ((x34.2.1.1, (x34.2.2.1.1, (x34.2.2.2.1.1, (x35, (x36, (d.1.2.1.2.2.2.2.2.1, (d.1.2.1.2.2.2.2.2.2.1, (d.1.2.1.2.2.2.2.2.2.2.1, ())))))))), (((0 : Int), ()), ()))))
def f_ref08_Of_t : Nat → TT_ref08_Of
  | 0 => (fun _ => none, ())
  | k + 1 => (f_ref08_Of_p16 (f_ref08_Of_t k), ())
theorem t_ref08_Of (k : Nat) : f_ref08_Of_t (k + 1) = (f_ref08_Of_p16 (f_ref08_Of_t k), ()) := rfl
def f_ref08_Of_m (T : TT_ref08_Of) (d : Unit × ((Int × Unit) × ((Int × Unit) × ((Int × Unit) × ((Int × Unit) × Unit))))) : Option (Unit × ((Int × (Int × (Int × (Int × (Int × (Int × (Int × (Int × Unit)))))))) × ((Int × Unit) × Unit))) :=
  (g_ref08_There ((), ((d.2.1.1, ()), ()))).bind fun x1 =>
  let x2 : Bool := (!x1.2.1.1)
  bif x2 then (
  some ((), (((0 : Int), ((0 : Int), ((0 : Int), ((0 : Int), ((0 : Int), ((0 : Int), ((0 : Int), ((0 : Int), ())))))))), (((13 : Int), ()), ()))))
  else (
  let x3 : Bool := (decide (d.2.2.1.1 < (0 : Int)))
  bif x3 then (
  some ((), (((0 : Int), ((0 : Int), ((0 : Int), ((0 : Int), ((0 : Int), ((0 : Int), ((0 : Int), ((0 : Int), ())))))))), (((1 : Int), ()), ()))))
  else (
  let x4 : Bool := (decide (d.2.2.1.1 > (86400 : Int)))
  bif x4 then (
  some ((), (((0 : Int), ((0 : Int), ((0 : Int), ((0 : Int), ((0 : Int), ((0 : Int), ((0 : Int), ((0 : Int), ())))))))), (((1 : Int), ()), ()))))
  else (
  let x5 : Bool := (decide (d.2.2.2.1.1 < (0 : Int)))
  bif x5 then (
  some ((), (((0 : Int), ((0 : Int), ((0 : Int), ((0 : Int), ((0 : Int), ((0 : Int), ((0 : Int), ((0 : Int), ())))))))), (((1 : Int), ()), ()))))
  else (
  let x6 : Bool := (decide (d.2.2.2.1.1 > (999999999 : Int)))
  bif x6 then (
  some ((), (((0 : Int), ((0 : Int), ((0 : Int), ((0 : Int), ((0 : Int), ((0 : Int), ((0 : Int), ((0 : Int), ())))))))), (((1 : Int), ()), ()))))
  else (
  let x7 : Bool := (decide (d.2.2.2.2.1.1 < (-1439 : Int)))
  bif x7 then (
  some ((), (((0 : Int), ((0 : Int), ((0 : Int), ((0 : Int), ((0 : Int), ((0 : Int), ((0 : Int), ((0 : Int), ())))))))), (((1 : Int), ()), ()))))
  else (
  let x8 : Bool := (decide (d.2.2.2.2.1.1 > (1439 : Int)))
  bif x8 then (
  some ((), (((0 : Int), ((0 : Int), ((0 : Int), ((0 : Int), ((0 : Int), ((0 : Int), ((0 : Int), ((0 : Int), ())))))))), (((1 : Int), ()), ()))))
  else (
  let x9 : Int := (Int.tmod d.2.2.1.1 (60 : Int))
  let x10 : Int := (iquo .i64 d.2.2.1.1 (60 : Int))
  let x11 : Bool := (d.2.2.1.1 == (86400 : Int))
  bif x11 then (
  let x12 : Int := (iadd .i64 (1439 : Int) d.2.2.2.2.1.1)
  let x13 : Bool := (decide (x12 < (0 : Int)))
  bif x13 then (
  let x14 : Int := (iadd .i64 x12 (1440 : Int))
  let x15 : Int := (isub .i64 d.2.1.1 (1 : Int))
  let x16 : Bool := (decide (x14 ≥ (1440 : Int)))
  bif x16 then (
  let x17 : Int := (isub .i64 x14 (1440 : Int))
  let x18 : Int := (iadd .i64 x15 (1 : Int))
  (T.1 ((((0 : Int), ((0 : Int), ((0 : Int), ((0 : Int), ((0 : Int), ((0 : Int), ((0 : Int), ((0 : Int), ())))))))), (((0 : Int), ((0 : Int), ((0 : Int), ((0 : Int), ((0 : Int), ((60 : Int), (d.2.2.2.1.1, (d.2.2.2.2.1.1, ())))))))), ())), ((x18, ()), ((), ((), ((x17, ()), ())))))))
  else (
  (T.1 ((((0 : Int), ((0 : Int), ((0 : Int), ((0 : Int), ((0 : Int), ((0 : Int), ((0 : Int), ((0 : Int), ())))))))), (((0 : Int), ((0 : Int), ((0 : Int), ((0 : Int), ((0 : Int), ((60 : Int), (d.2.2.2.1.1, (d.2.2.2.2.1.1, ())))))))), ())), ((x15, ()), ((), ((), ((x14, ()), ()))))))))
  else (
  let x19 : Bool := (decide (x12 ≥ (1440 : Int)))
  bif x19 then (
  let x20 : Int := (isub .i64 x12 (1440 : Int))
  let x21 : Int := (iadd .i64 d.2.1.1 (1 : Int))
  (T.1 ((((0 : Int), ((0 : Int), ((0 : Int), ((0 : Int), ((0 : Int), ((0 : Int), ((0 : Int), ((0 : Int), ())))))))), (((0 : Int), ((0 : Int), ((0 : Int), ((0 : Int), ((0 : Int), ((60 : Int), (d.2.2.2.1.1, (d.2.2.2.2.1.1, ())))))))), ())), ((x21, ()), ((), ((), ((x20, ()), ())))))))
  else (
  (T.1 ((((0 : Int), ((0 : Int), ((0 : Int), ((0 : Int), ((0 : Int), ((0 : Int), ((0 : Int), ((0 : Int), ())))))))), (((0 : Int), ((0 : Int), ((0 : Int), ((0 : Int), ((0 : Int), ((60 : Int), (d.2.2.2.1.1, (d.2.2.2.2.1.1, ())))))))), ())), ((d.2.1.1, ()), ((), ((), ((x12, ()), ())))))))))
  else (
  let x22 : Int := (iadd .i64 x10 d.2.2.2.2.1.1)
  let x23 : Bool := (decide (x22 < (0 : Int)))
  bif x23 then (
  let x24 : Int := (iadd .i64 x22 (1440 : Int))
  let x25 : Int := (isub .i64 d.2.1.1 (1 : Int))
  let x26 : Bool := (decide (x24 ≥ (1440 : Int)))
  bif x26 then (
  let x27 : Int := (isub .i64 x24 (1440 : Int))
  let x28 : Int := (iadd .i64 x25 (1 : Int))
  (T.1 ((((0 : Int), ((0 : Int), ((0 : Int), ((0 : Int), ((0 : Int), ((0 : Int), ((0 : Int), ((0 : Int), ())))))))), (((0 : Int), ((0 : Int), ((0 : Int), ((0 : Int), ((0 : Int), (x9, (d.2.2.2.1.1, (d.2.2.2.2.1.1, ())))))))), ())), ((x28, ()), ((), ((), ((x27, ()), ())))))))
  else (
  (T.1 ((((0 : Int), ((0 : Int), ((0 : Int), ((0 : Int), ((0 : Int), ((0 : Int), ((0 : Int), ((0 : Int), ())))))))), (((0 : Int), ((0 : Int), ((0 : Int), ((0 : Int), ((0 : Int), (x9, (d.2.2.2.1.1, (d.2.2.2.2.1.1, ())))))))), ())), ((x25, ()), ((), ((), ((x24, ()), ()))))))))
  else (
  let x29 : Bool := (decide (x22 ≥ (1440 : Int)))
  bif x29 then (
  let x30 : Int := (isub .i64 x22 (1440 : Int))
  let x31 : Int := (iadd .i64 d.2.1.1 (1 : Int))
  (T.1 ((((0 : Int), ((0 : Int), ((0 : Int), ((0 : Int), ((0 : Int), ((0 : Int), ((0 : Int), ((0 : Int), ())))))))), (((0 : Int), ((0 : Int), ((0 : Int), ((0 : Int), ((0 : Int), (x9, (d.2.2.2.1.1, (d.2.2.2.2.1.1, ())))))))), ())), ((x31, ()), ((), ((), ((x30, ()), ())))))))
  else (
  (T.1 ((((0 : Int), ((0 : Int), ((0 : Int), ((0 : Int), ((0 : Int), ((0 : Int), ((0 : Int), ((0 : Int), ())))))))), (((0 : Int), ((0 : Int), ((0 : Int), ((0 : Int), ((0 : Int), (x9, (d.2.2.2.1.1, (d.2.2.2.2.1.1, ())))))))), ())), ((d.2.1.1, ()), ((), ((), ((x22, ()), ()))))))))))))))))
def c_ref08_Of : List Nat := [16]
def L_ref08_Of (k : Nat) : Pts po_ref08_Of.den := [(16, ⟨sh_ref08_Of_16, (f_ref08_Of_t k).1⟩)]
def E_ref08_Of : Env := ((E0.add 51 (typedSem pi_ref08_There po_ref08_There g_ref08_There)).add 52 (typedSem pi_ref05_Date po_ref05_Date g_ref05_Date))
theorem q_ref08_Of_16 (k : Nat) (d : ((Int × (Int × (Int × (Int × (Int × (Int × (Int × (Int × Unit)))))))) × ((Int × (Int × (Int × (Int × (Int × (Int × (Int × (Int × Unit)))))))) × Unit)) × ((Int × Unit) × (Unit × (Unit × ((Int × Unit) × Unit))))) : evAt E_ref08_Of (tab (L_ref08_Of k)) c_ref08_Of 16 (bodyOf Try.f17) 0 (finK E_ref08_Of po_ref08_Of [.cell 8 38, .tmp 9]) (ptSt sh_ref08_Of_16 d) = f_ref08_Of_p16 (f_ref08_Of_t k) d := by kernel_rfl
theorem q_ref08_Of_m (k : Nat) (d : Unit × ((Int × Unit) × ((Int × Unit) × ((Int × Unit) × ((Int × Unit) × Unit))))) : evCode E_ref08_Of (tab (L_ref08_Of k)) c_ref08_Of (bodyOf Try.f17) 0 (finK E_ref08_Of po_ref08_Of [.cell 8 38, .tmp 9]) (startSt pi_ref08_Of 84 d) = f_ref08_Of_m (f_ref08_Of_t k) d := by kernel_rfl
theorem go_ref08_Of (F : Unit × ((Int × Unit) × ((Int × Unit) × ((Int × Unit) × ((Int × Unit) × Unit)))) → Option (Unit × ((Int × (Int × (Int × (Int × (Int × (Int × (Int × (Int × Unit)))))))) × ((Int × Unit) × Unit)))) (hF : ∀ d out, F d = some out → ∃ k, f_ref08_Of_m (f_ref08_Of_t k) d = some out) : FnOk Try.prog ET0 17 pi_ref08_Of po_ref08_Of F :=
  fn_of_body (E := E_ref08_Of) (envOk_add (envOk_add e0_ok (typed_ok ok_ref08_There)) (typed_ok ok_ref05_Date)) (fn := Try.f17) Try.func17 (by kernel_rfl) (by kernel_rfl) [.cell 8 38, .tmp 9] (by kernel_rfl) (by kernel_rfl) (by decide) rfl c_ref08_Of L_ref08_Of
    (by intro x hx d; simp only [L_ref08_Of, List.mem_cons, List.not_mem_nil, or_false] at hx; subst hx; rfl)
    (by intro k x hx d out h; simp only [L_ref08_Of, List.mem_cons, List.not_mem_nil, or_false] at hx; subst hx; exact (q_ref08_Of_16 k d).trans h)
    (by intro d out h; obtain ⟨k, hk⟩ := hF d out h; exact ⟨k, (q_ref08_Of_m k d).trans hk⟩)
def g_ref08_Of (d : Unit × ((Int × Unit) × ((Int × Unit) × ((Int × Unit) × ((Int × Unit) × Unit))))) : Option (Unit × ((Int × (Int × (Int × (Int × (Int × (Int × (Int × (Int × Unit)))))))) × ((Int × Unit) × Unit))) := lim fun k => f_ref08_Of_m (f_ref08_Of_t k) d
theorem ok_ref08_Of : FnOk Try.prog ET0 17 pi_ref08_Of po_ref08_Of g_ref08_Of := go_ref08_Of g_ref08_Of fun d out h => lim_some h

/- horologe/horologeref02.Raw -/
@[reducible] def pi_ref02_Raw : PSh := ⟨[], [.mk false [.v (.int .i64)], .mk false [.v (.int .i64)]]⟩
@[reducible] def po_ref02_Raw : PSh := ⟨[], [.mk false [.v .str]]⟩
@[reducible] def TT_ref02_Raw : Type := (((Unit × ((Int × Unit) × ((Int × Unit) × ((ByteArray × Unit) × Unit)))) → Option (Unit × ((ByteArray × Unit) × Unit))) × (((Unit × ((Int × Unit) × ((ByteArray × Unit) × Unit))) → Option (Unit × ((ByteArray × Unit) × Unit))) × Unit))
@[reducible] def sh_ref02_Raw_3 : PSh := ⟨[], [.mk false [.v (.int .i64)], .mk false [.v (.int .i64)], .any, .any, .any, .mk false [.v .str], .any, .any, .any, .any, .any, .any, .any, .any, .any, .any, .any, .any, .any, .any, .any, .any, .any, .any, .any, .any, .any, .any, .any, .any]⟩
@[reducible] def sh_ref02_Raw_8 : PSh := ⟨[], [.any, .mk false [.v (.int .i64)], .any, .any, .any, .mk false [.v .str], .any, .any, .any, .any, .any, .any, .any, .any, .any, .any, .any, .any, .any, .any, .any, .any, .any, .any, .any, .any, .any, .any, .any, .any]⟩
def f_ref02_Raw_p3 (T : TT_ref02_Raw) (d : Unit × ((Int × Unit) × ((Int × Unit) × ((ByteArray × Unit) × Unit)))) : Option (Unit × ((ByteArray × Unit) × Unit)) :=
  let x1 : Bool := (decide (d.2.1.1 > (0 : Int)))
  bif x1 then (
  let x2 : Int := (Int.tmod d.2.1.1 (10 : Int))
  let x3 : Int := (iadd .i64 (48 : Int) x2)
  let x4 : Int := (iconv .u8 x3)
  let x5 : (List Int) := ([x4] : List Int)
  let x6 : ByteArray := (strOf x5)
  bif fitsS x6 d.2.2.2.1.1 then (
  let x7 : ByteArray := (x6 ++ d.2.2.2.1.1)
  let x8 : Int := (iquo .i64 d.2.1.1 (10 : Int))
  (T.1 ((), ((x8, ()), ((d.2.2.1.1, ()), ((x7, ()), ()))))))
  else none)
  else (
  (T.2.1 ((), ((d.2.2.1.1, ()), ((d.2.2.2.1.1, ()), ())))))
def f_ref02_Raw_p8 (T : TT_ref02_Raw) (d : Unit × ((Int × Unit) × ((ByteArray × Unit) × Unit))) : Option (Unit × ((ByteArray × Unit) × Unit)) :=
  let x9 : Int := (d.2.2.1.1.size : Int)
  let x10 : Bool := (decide (x9 < d.2.1.1))
  bif x10 then (
  bif fitsS (⟨#[48]⟩ : ByteArray) d.2.2.1.1 then (
  let x11 : ByteArray := ((⟨#[48]⟩ : ByteArray) ++ d.2.2.1.1)
  (T.2.1 ((), ((d.2.1.1, ()), ((x11, ()), ())))))
  else none)
  else (
  let x12 : Int := (d.2.2.1.1.size : Int)
  let x13 : Bool := (x12 == (0 : Int))
  bif x13 then (
  bif fitsS (⟨#[48]⟩ : ByteArray) d.2.2.1.1 then (
  let x14 : ByteArray := ((⟨#[48]⟩ : ByteArray) ++ d.2.2.1.1)
  (T.2.1 ((), ((d.2.1.1, ()), ((x14, ()), ())))))
  else none)
  else (
  some ((), ((d.2.2.1.1, ()), ()))))
def f_ref02_Raw_t : Nat → TT_ref02_Raw
  | 0 => (fun _ => none, (fun _ => none, ()))
  | k + 1 => (f_ref02_Raw_p3 (f_ref02_Raw_t k), (f_ref02_Raw_p8 (f_ref02_Raw_t k), ()))
theorem t_ref02_Raw (k : Nat) : f_ref02_Raw_t (k + 1) = (f_ref02_Raw_p3 (f_ref02_Raw_t k), (f_ref02_Raw_p8 (f_ref02_Raw_t k), ())) := rfl
def f_ref02_Raw_m (T : TT_ref02_Raw) (d : Unit × ((Int × Unit) × ((Int × Unit) × Unit))) : Option (Unit × ((ByteArray × Unit) × Unit)) :=
  (T.1 ((), ((d.2.1.1, ()), ((d.2.2.1.1, ()), (((⟨#[]⟩ : ByteArray), ()), ())))))
def c_ref02_Raw : List Nat := []
def L_ref02_Raw (k : Nat) : Pts po_ref02_Raw.den := [(3, ⟨sh_ref02_Raw_3, (f_ref02_Raw_t k).1⟩), (8, ⟨sh_ref02_Raw_8, (f_ref02_Raw_t k).2.1⟩)]
def E_ref02_Raw : Env := E0
theorem q_ref02_Raw_3 (k : Nat) (d : Unit × ((Int × Unit) × ((Int × Unit) × ((ByteArray × Unit) × Unit)))) : evAt E_ref02_Raw (tab (L_ref02_Raw k)) c_ref02_Raw 3 (bodyOf Try.f79) 0 (finK E_ref02_Raw po_ref02_Raw [.tmp 4]) (ptSt sh_ref02_Raw_3 d) = f_ref02_Raw_p3 (f_ref02_Raw_t k) d := by kernel_rfl
theorem q_ref02_Raw_8 (k : Nat) (d : Unit × ((Int × Unit) × ((ByteArray × Unit) × Unit))) : evAt E_ref02_Raw (tab (L_ref02_Raw k)) c_ref02_Raw 8 (bodyOf Try.f79) 0 (finK E_ref02_Raw po_ref02_Raw [.tmp 4]) (ptSt sh_ref02_Raw_8 d) = f_ref02_Raw_p8 (f_ref02_Raw_t k) d := by kernel_rfl
theorem q_ref02_Raw_m (k : Nat) (d : Unit × ((Int × Unit) × ((Int × Unit) × Unit))) : evCode E_ref02_Raw (tab (L_ref02_Raw k)) c_ref02_Raw (bodyOf Try.f79) 0 (finK E_ref02_Raw po_ref02_Raw [.tmp 4]) (startSt pi_ref02_Raw 30 d) = f_ref02_Raw_m (f_ref02_Raw_t k) d := by kernel_rfl
theorem go_ref02_Raw (F : Unit × ((Int × Unit) × ((Int × Unit) × Unit)) → Option (Unit × ((ByteArray × Unit) × Unit))) (hF : ∀ d out, F d = some out → ∃ k, f_ref02_Raw_m (f_ref02_Raw_t k) d = some out) : FnOk Try.prog ET0 79 pi_ref02_Raw po_ref02_Raw F :=
  fn_of_body (E := E_ref02_Raw) e0_ok (fn := Try.f79) Try.func79 (by kernel_rfl) (by kernel_rfl) [.tmp 4] (by kernel_rfl) (by kernel_rfl) (by decide) rfl c_ref02_Raw L_ref02_Raw
    (by intro x hx d; simp only [L_ref02_Raw, List.mem_cons, List.not_mem_nil, or_false] at hx; rcases hx with rfl | rfl; rfl; rfl)
    (by intro k x hx d out h; simp only [L_ref02_Raw, List.mem_cons, List.not_mem_nil, or_false] at hx; rcases hx with rfl | rfl; exact (q_ref02_Raw_3 k d).trans h; exact (q_ref02_Raw_8 k d).trans h)
    (by intro d out h; obtain ⟨k, hk⟩ := hF d out h; exact ⟨k, (q_ref02_Raw_m k d).trans hk⟩)
def g_ref02_Raw (d : Unit × ((Int × Unit) × ((Int × Unit) × Unit))) : Option (Unit × ((ByteArray × Unit) × Unit)) := lim fun k => f_ref02_Raw_m (f_ref02_Raw_t k) d
theorem ok_ref02_Raw : FnOk Try.prog ET0 79 pi_ref02_Raw po_ref02_Raw g_ref02_Raw := go_ref02_Raw g_ref02_Raw fun d out h => lim_some h

/- horologe/horologeref26.raw -/
@[reducible] def pi_ref26_raw : PSh := ⟨[], [.mk false [.v (.int .i64)], .mk false [.v (.int .i64)]]⟩
@[reducible] def po_ref26_raw : PSh := ⟨[], [.mk false [.v .str]]⟩
def f_ref26_raw_m (T : Unit) (d : Unit × ((Int × Unit) × ((Int × Unit) × Unit))) : Option (Unit × ((ByteArray × Unit) × Unit)) :=
  (g_ref02_Raw ((), ((d.2.1.1, ()), ((d.2.2.1.1, ()), ())))).bind fun x1 =>
  some ((), ((x1.2.1.1, ()), ()))
def c_ref26_raw : List Nat := []
def L_ref26_raw (_ : Nat) : Pts po_ref26_raw.den := []
def E_ref26_raw : Env := (E0.add 79 (typedSem pi_ref02_Raw po_ref02_Raw g_ref02_Raw))
theorem q_ref26_raw_m (k : Nat) (d : Unit × ((Int × Unit) × ((Int × Unit) × Unit))) : evCode E_ref26_raw (tab (L_ref26_raw k)) c_ref26_raw (bodyOf Try.f53) 0 (finK E_ref26_raw po_ref26_raw [.tmp 4]) (startSt pi_ref26_raw 8 d) = f_ref26_raw_m () d := by kernel_rfl
def g_ref26_raw (d : Unit × ((Int × Unit) × ((Int × Unit) × Unit))) : Option (Unit × ((ByteArray × Unit) × Unit)) := f_ref26_raw_m () d
theorem ok_ref26_raw : FnOk Try.prog ET0 53 pi_ref26_raw po_ref26_raw g_ref26_raw :=
  fn_of_body (E := E_ref26_raw) (envOk_add e0_ok (typed_ok ok_ref02_Raw)) (fn := Try.f53) Try.func53 (by kernel_rfl) (by kernel_rfl) [.tmp 4] (by kernel_rfl) (by kernel_rfl) (by decide) rfl c_ref26_raw L_ref26_raw
    (by intro x hx; cases hx) (by intro k x hx; cases hx) (fun d out h => ⟨0, (q_ref26_raw_m 0 d).trans h⟩)

/- horologe/horologeref26.advance -/
@[reducible] def pi_ref26_advance : PSh := ⟨[], [.mk false [.v (.int .i64)]]⟩
@[reducible] def po_ref26_advance : PSh := ⟨[], [.mk false [.v .str]]⟩
@[reducible] def TT_ref26_advance : Type := (((Unit × ((Int × Unit) × ((ByteArray × Unit) × Unit))) → Option (Unit × ((ByteArray × Unit) × Unit))) × Unit)
@[reducible] def sh_ref26_advance_3 : PSh := ⟨[], [.mk false [.v (.int .i64)], .any, .any, .mk false [.v .str], .any, .any, .any, .any, .any, .any, .any, .any, .any, .any, .any, .any, .any, .any]⟩
def f_ref26_advance_p3 (T : TT_ref26_advance) (d : Unit × ((Int × Unit) × ((ByteArray × Unit) × Unit))) : Option (Unit × ((ByteArray × Unit) × Unit)) :=
  let x3 : Int := (d.2.2.1.1.size : Int)
  let x4 : Bool := (decide (x3 < (3 : Int)))
  bif x4 then (
  bif fitsS (⟨#[32]⟩ : ByteArray) d.2.2.1.1 then (
  let x5 : ByteArray := ((⟨#[32]⟩ : ByteArray) ++ d.2.2.1.1)
  (T.1 ((), ((d.2.1.1, ()), ((x5, ()), ())))))
  else none)
  else (
  bif fitsS d.2.2.1.1 (⟨#[46]⟩ : ByteArray) then (
  let x6 : ByteArray := (d.2.2.1.1 ++ (⟨#[46]⟩ : ByteArray))
  let x7 : Int := (Int.tmod d.2.1.1 (10 : Int))
  (g_ref26_raw ((), ((x7, ()), (((1 : Int), ()), ())))).bind fun x8 =>
  bif fitsS x6 x8.2.1.1 then (
  let x9 : ByteArray := (x6 ++ x8.2.1.1)
  some ((), ((x9, ()), ())))
  else none)
  else none)
def f_ref26_advance_t : Nat → TT_ref26_advance
  | 0 => (fun _ => none, ())
  | k + 1 => (f_ref26_advance_p3 (f_ref26_advance_t k), ())
theorem t_ref26_advance (k : Nat) : f_ref26_advance_t (k + 1) = (f_ref26_advance_p3 (f_ref26_advance_t k), ()) := rfl
def f_ref26_advance_m (T : TT_ref26_advance) (d : Unit × ((Int × Unit) × Unit)) : Option (Unit × ((ByteArray × Unit) × Unit)) :=
  let x1 : Int := (iquo .i64 d.2.1.1 (10 : Int))
  (g_ref26_raw ((), ((x1, ()), (((1 : Int), ()), ())))).bind fun x2 =>
  (T.1 ((), ((d.2.1.1, ()), ((x2.2.1.1, ()), ()))))
def c_ref26_advance : List Nat := []
def L_ref26_advance (k : Nat) : Pts po_ref26_advance.den := [(3, ⟨sh_ref26_advance_3, (f_ref26_advance_t k).1⟩)]
def E_ref26_advance : Env := (E0.add 53 (typedSem pi_ref26_raw po_ref26_raw g_ref26_raw))
theorem q_ref26_advance_3 (k : Nat) (d : Unit × ((Int × Unit) × ((ByteArray × Unit) × Unit))) : evAt E_ref26_advance (tab (L_ref26_advance k)) c_ref26_advance 3 (bodyOf Try.f54) 0 (finK E_ref26_advance po_ref26_advance [.tmp 2]) (ptSt sh_ref26_advance_3 d) = f_ref26_advance_p3 (f_ref26_advance_t k) d := by kernel_rfl
theorem q_ref26_advance_m (k : Nat) (d : Unit × ((Int × Unit) × Unit)) : evCode E_ref26_advance (tab (L_ref26_advance k)) c_ref26_advance (bodyOf Try.f54) 0 (finK E_ref26_advance po_ref26_advance [.tmp 2]) (startSt pi_ref26_advance 18 d) = f_ref26_advance_m (f_ref26_advance_t k) d := by kernel_rfl
theorem go_ref26_advance (F : Unit × ((Int × Unit) × Unit) → Option (Unit × ((ByteArray × Unit) × Unit))) (hF : ∀ d out, F d = some out → ∃ k, f_ref26_advance_m (f_ref26_advance_t k) d = some out) : FnOk Try.prog ET0 54 pi_ref26_advance po_ref26_advance F :=
  fn_of_body (E := E_ref26_advance) (envOk_add e0_ok (typed_ok ok_ref26_raw)) (fn := Try.f54) Try.func54 (by kernel_rfl) (by kernel_rfl) [.tmp 2] (by kernel_rfl) (by kernel_rfl) (by decide) rfl c_ref26_advance L_ref26_advance
    (by intro x hx d; simp only [L_ref26_advance, List.mem_cons, List.not_mem_nil, or_false] at hx; subst hx; rfl)
    (by intro k x hx d out h; simp only [L_ref26_advance, List.mem_cons, List.not_mem_nil, or_false] at hx; subst hx; exact (q_ref26_advance_3 k d).trans h)
    (by intro d out h; obtain ⟨k, hk⟩ := hF d out h; exact ⟨k, (q_ref26_advance_m k d).trans hk⟩)
def g_ref26_advance (d : Unit × ((Int × Unit) × Unit)) : Option (Unit × ((ByteArray × Unit) × Unit)) := lim fun k => f_ref26_advance_m (f_ref26_advance_t k) d
theorem ok_ref26_advance : FnOk Try.prog ET0 54 pi_ref26_advance po_ref26_advance g_ref26_advance := go_ref26_advance g_ref26_advance fun d out h => lim_some h

/- horologe/horologeref26.Put -/
@[reducible] def pi_ref26_Put : PSh := ⟨[], [.mk true [.v (.int .i64), .v (.int .i64), .v (.int .i64), .v (.int .i64), .v (.int .i64), .v (.int .i64), .v .bool]]⟩
@[reducible] def po_ref26_Put : PSh := ⟨[], [.mk false [.v .str]]⟩
@[reducible] def TT_ref26_Put : Type := (((((Int × (Int × (Int × (Int × (Int × (Int × (Bool × Unit))))))) × Unit) × (Unit × ((Int × Unit) × ((Int × Unit) × ((Int × Unit) × ((Int × Unit) × ((Int × Unit) × ((Int × Unit) × ((ByteArray × Unit) × Unit))))))))) → Option (Unit × ((ByteArray × Unit) × Unit))) × Unit)
@[reducible] def sh_ref26_Put_6 : PSh := ⟨[.var 34 [.v (.int .i64), .v (.int .i64), .v (.int .i64), .v (.int .i64), .v (.int .i64), .v (.int .i64), .v .bool]], [.any, .mk false [.ref 0 0], .any, .mk false [.v (.int .i64)], .mk false [.v (.int .i64)], .mk false [.v (.int .i64)], .mk false [.v (.int .i64)], .mk false [.v (.int .i64)], .mk false [.v (.int .i64)], .mk false [.v .str], .any, .any, .any, .any, .any, .any, .any, .any, .any, .any, .any, .any, .any, .any, .any, .any, .any, .any, .any, .any, .any, .any, .any, .any, .any, .any, .any, .any, .any, .any, .any, .any, .any, .any, .any, .any, .any, .any, .any, .any, .any, .any, .any, .any, .any, .any, .any, .any, .any, .any, .any, .any, .any, .any, .any, .any, .any, .any, .any, .any, .any, .any, .any, .any, .any, .any, .any, .any, .any, .any, .any, .any, .any, .any, .any, .any]⟩
def f_ref26_Put_p6 (T : TT_ref26_Put) (d : ((Int × (Int × (Int × (Int × (Int × (Int × (Bool × Unit))))))) × Unit) × (Unit × ((Int × Unit) × ((Int × Unit) × ((Int × Unit) × ((Int × Unit) × ((Int × Unit) × ((Int × Unit) × ((ByteArray × Unit) × Unit))))))))) : Option (Unit × ((ByteArray × Unit) × Unit)) :=
  let x7 : Int := (iadd .i64 d.1.1.1 (40587 : Int))
  (g_ref26_raw ((), ((x7, ()), (((5 : Int), ()), ())))).bind fun x8 =>
  bif fitsS (⟨#[10]⟩ : ByteArray) x8.2.1.1 then (
  let x9 : ByteArray := ((⟨#[10]⟩ : ByteArray) ++ x8.2.1.1)
  bif fitsS x9 (⟨#[32]⟩ : ByteArray) then (
  let x10 : ByteArray := (x9 ++ (⟨#[32]⟩ : ByteArray))
  let x11 : Int := (Int.tmod d.2.2.1.1 (100 : Int))
  (g_ref26_raw ((), ((x11, ()), (((2 : Int), ()), ())))).bind fun x12 =>
  bif fitsS x10 x12.2.1.1 then (
  let x13 : ByteArray := (x10 ++ x12.2.1.1)
  bif fitsS x13 (⟨#[45]⟩ : ByteArray) then (
  let x14 : ByteArray := (x13 ++ (⟨#[45]⟩ : ByteArray))
  (g_ref26_raw ((), ((d.2.2.2.1.1, ()), (((2 : Int), ()), ())))).bind fun x15 =>
  bif fitsS x14 x15.2.1.1 then (
  let x16 : ByteArray := (x14 ++ x15.2.1.1)
  bif fitsS x16 (⟨#[45]⟩ : ByteArray) then (
  let x17 : ByteArray := (x16 ++ (⟨#[45]⟩ : ByteArray))
  (g_ref26_raw ((), ((d.2.2.2.2.1.1, ()), (((2 : Int), ()), ())))).bind fun x18 =>
  bif fitsS x17 x18.2.1.1 then (
  let x19 : ByteArray := (x17 ++ x18.2.1.1)
  bif fitsS x19 (⟨#[32]⟩ : ByteArray) then (
  let x20 : ByteArray := (x19 ++ (⟨#[32]⟩ : ByteArray))
  (g_ref26_raw ((), ((d.2.2.2.2.2.1.1, ()), (((2 : Int), ()), ())))).bind fun x21 =>
  bif fitsS x20 x21.2.1.1 then (
  let x22 : ByteArray := (x20 ++ x21.2.1.1)
  bif fitsS x22 (⟨#[58]⟩ : ByteArray) then (
  let x23 : ByteArray := (x22 ++ (⟨#[58]⟩ : ByteArray))
  (g_ref26_raw ((), ((d.2.2.2.2.2.2.1.1, ()), (((2 : Int), ()), ())))).bind fun x24 =>
  bif fitsS x23 x24.2.1.1 then (
  let x25 : ByteArray := (x23 ++ x24.2.1.1)
  bif fitsS x25 (⟨#[58]⟩ : ByteArray) then (
  let x26 : ByteArray := (x25 ++ (⟨#[58]⟩ : ByteArray))
  (g_ref26_raw ((), ((d.2.2.2.2.2.2.2.1.1, ()), (((2 : Int), ()), ())))).bind fun x27 =>
  bif fitsS x26 x27.2.1.1 then (
  let x28 : ByteArray := (x26 ++ x27.2.1.1)
  bif fitsS x28 (⟨#[32]⟩ : ByteArray) then (
  let x29 : ByteArray := (x28 ++ (⟨#[32]⟩ : ByteArray))
  (g_ref26_raw ((), ((d.1.1.2.2.1, ()), (((2 : Int), ()), ())))).bind fun x30 =>
  bif fitsS x29 x30.2.1.1 then (
  let x31 : ByteArray := (x29 ++ x30.2.1.1)
  bif fitsS x31 (⟨#[32]⟩ : ByteArray) then (
  let x32 : ByteArray := (x31 ++ (⟨#[32]⟩ : ByteArray))
  (g_ref26_raw ((), ((d.1.1.2.2.2.1, ()), (((1 : Int), ()), ())))).bind fun x33 =>
  bif fitsS x32 x33.2.1.1 then (
  let x34 : ByteArray := (x32 ++ x33.2.1.1)
  bif fitsS x34 (⟨#[32]⟩ : ByteArray) then (
  let x35 : ByteArray := (x34 ++ (⟨#[32]⟩ : ByteArray))
  (g_ref26_raw ((), ((d.1.1.2.2.2.2.1, ()), (((1 : Int), ()), ())))).bind fun x36 =>
  bif fitsS x35 x36.2.1.1 then (
  let x37 : ByteArray := (x35 ++ x36.2.1.1)
  bif fitsS x37 (⟨#[32]⟩ : ByteArray) then (
  let x38 : ByteArray := (x37 ++ (⟨#[32]⟩ : ByteArray))
  (g_ref26_advance ((), ((d.1.1.2.2.2.2.2.1, ()), ()))).bind fun x39 =>
  bif fitsS x38 x39.2.1.1 then (
  let x40 : ByteArray := (x38 ++ x39.2.1.1)
  bif fitsS x40 (⟨#[32, 85, 84, 67, 40, 78, 73, 83, 84, 41, 32]⟩ : ByteArray) then (
  let x41 : ByteArray := (x40 ++ (⟨#[32, 85, 84, 67, 40, 78, 73, 83, 84, 41, 32]⟩ : ByteArray))
  bif fitsS x41 d.2.2.2.2.2.2.2.2.1.1 then (
  let x42 : ByteArray := (x41 ++ d.2.2.2.2.2.2.2.2.1.1)
  bif fitsS x42 (⟨#[10]⟩ : ByteArray) then (
  let x43 : ByteArray := (x42 ++ (⟨#[10]⟩ : ByteArray))
  some ((), ((x43, ()), ())))
  else none)
  else none)
  else none)
  else none)
  else none)
  else none)
  else none)
  else none)
  else none)
  else none)
  else none)
  else none)
  else none)
  else none)
  else none)
  else none)
  else none)
  else none)
  else none)
  else none)
  else none)
  else none)
  else none)
  else none
def f_ref26_Put_t : Nat → TT_ref26_Put
  | 0 => (fun _ => none, ())
  | k + 1 => (f_ref26_Put_p6 (f_ref26_Put_t k), ())
theorem t_ref26_Put (k : Nat) : f_ref26_Put_t (k + 1) = (f_ref26_Put_p6 (f_ref26_Put_t k), ()) := rfl
def f_ref26_Put_m (T : TT_ref26_Put) (d : Unit × ((Int × (Int × (Int × (Int × (Int × (Int × (Bool × Unit))))))) × Unit)) : Option (Unit × ((ByteArray × Unit) × Unit)) :=
  (g_ref05_Date ((), ((d.2.1.1, ()), ()))).bind fun x1 =>
  let x2 : Int := (iquo .i64 d.2.1.2.1 (3600 : Int))
  let x3 : Int := (iquo .i64 d.2.1.2.1 (60 : Int))
  let x4 : Int := (Int.tmod x3 (60 : Int))
  let x5 : Int := (Int.tmod d.2.1.2.1 (60 : Int))
  let x6 : Bool := (d.2.1.2.1 == (86400 : Int))
  bif x6 then (
  bif d.2.1.2.2.2.2.2.2.1 then (
  (T.1 (((d.2.1.1, (d.2.1.2.1, (d.2.1.2.2.1, (d.2.1.2.2.2.1, (d.2.1.2.2.2.2.1, (d.2.1.2.2.2.2.2.1, (d.2.1.2.2.2.2.2.2.1, ()))))))), ()), ((), ((x1.2.1.1, ()), ((x1.2.2.1.1, ()), ((x1.2.2.2.1.1, ()), (((23 : Int), ()), (((59 : Int), ()), (((60 : Int), ()), (((⟨#[35]⟩ : ByteArray), ()), ())))))))))))
  else (
  (T.1 (((d.2.1.1, (d.2.1.2.1, (d.2.1.2.2.1, (d.2.1.2.2.2.1, (d.2.1.2.2.2.2.1, (d.2.1.2.2.2.2.2.1, (d.2.1.2.2.2.2.2.2.1, ()))))))), ()), ((), ((x1.2.1.1, ()), ((x1.2.2.1.1, ()), ((x1.2.2.2.1.1, ()), (((23 : Int), ()), (((59 : Int), ()), (((60 : Int), ()), (((⟨#[42]⟩ : ByteArray), ()), ()))))))))))))
  else (
  bif d.2.1.2.2.2.2.2.2.1 then (
  (T.1 (((d.2.1.1, (d.2.1.2.1, (d.2.1.2.2.1, (d.2.1.2.2.2.1, (d.2.1.2.2.2.2.1, (d.2.1.2.2.2.2.2.1, (d.2.1.2.2.2.2.2.2.1, ()))))))), ()), ((), ((x1.2.1.1, ()), ((x1.2.2.1.1, ()), ((x1.2.2.2.1.1, ()), ((x2, ()), ((x4, ()), ((x5, ()), (((⟨#[35]⟩ : ByteArray), ()), ())))))))))))
  else (
  (T.1 (((d.2.1.1, (d.2.1.2.1, (d.2.1.2.2.1, (d.2.1.2.2.2.1, (d.2.1.2.2.2.2.1, (d.2.1.2.2.2.2.2.1, (d.2.1.2.2.2.2.2.2.1, ()))))))), ()), ((), ((x1.2.1.1, ()), ((x1.2.2.1.1, ()), ((x1.2.2.2.1.1, ()), ((x2, ()), ((x4, ()), ((x5, ()), (((⟨#[42]⟩ : ByteArray), ()), ()))))))))))))
def c_ref26_Put : List Nat := [6]
def L_ref26_Put (k : Nat) : Pts po_ref26_Put.den := [(6, ⟨sh_ref26_Put_6, (f_ref26_Put_t k).1⟩)]
def E_ref26_Put : Env := (((E0.add 52 (typedSem pi_ref05_Date po_ref05_Date g_ref05_Date)).add 53 (typedSem pi_ref26_raw po_ref26_raw g_ref26_raw)).add 54 (typedSem pi_ref26_advance po_ref26_advance g_ref26_advance))
theorem q_ref26_Put_6 (k : Nat) (d : ((Int × (Int × (Int × (Int × (Int × (Int × (Bool × Unit))))))) × Unit) × (Unit × ((Int × Unit) × ((Int × Unit) × ((Int × Unit) × ((Int × Unit) × ((Int × Unit) × ((Int × Unit) × ((ByteArray × Unit) × Unit))))))))) : evAt E_ref26_Put (tab (L_ref26_Put k)) c_ref26_Put 6 (bodyOf Try.f18) 0 (finK E_ref26_Put po_ref26_Put [.tmp 2]) (ptSt sh_ref26_Put_6 d) = f_ref26_Put_p6 (f_ref26_Put_t k) d := by kernel_rfl
theorem q_ref26_Put_m (k : Nat) (d : Unit × ((Int × (Int × (Int × (Int × (Int × (Int × (Bool × Unit))))))) × Unit)) : evCode E_ref26_Put (tab (L_ref26_Put k)) c_ref26_Put (bodyOf Try.f18) 0 (finK E_ref26_Put po_ref26_Put [.tmp 2]) (startSt pi_ref26_Put 86 d) = f_ref26_Put_m (f_ref26_Put_t k) d := by kernel_rfl
theorem go_ref26_Put (F : Unit × ((Int × (Int × (Int × (Int × (Int × (Int × (Bool × Unit))))))) × Unit) → Option (Unit × ((ByteArray × Unit) × Unit))) (hF : ∀ d out, F d = some out → ∃ k, f_ref26_Put_m (f_ref26_Put_t k) d = some out) : FnOk Try.prog ET0 18 pi_ref26_Put po_ref26_Put F :=
  fn_of_body (E := E_ref26_Put) (envOk_add (envOk_add (envOk_add e0_ok (typed_ok ok_ref05_Date)) (typed_ok ok_ref26_raw)) (typed_ok ok_ref26_advance)) (fn := Try.f18) Try.func18 (by kernel_rfl) (by kernel_rfl) [.tmp 2] (by kernel_rfl) (by kernel_rfl) (by decide) rfl c_ref26_Put L_ref26_Put
    (by intro x hx d; simp only [L_ref26_Put, List.mem_cons, List.not_mem_nil, or_false] at hx; subst hx; rfl)
    (by intro k x hx d out h; simp only [L_ref26_Put, List.mem_cons, List.not_mem_nil, or_false] at hx; subst hx; exact (q_ref26_Put_6 k d).trans h)
    (by intro d out h; obtain ⟨k, hk⟩ := hF d out h; exact ⟨k, (q_ref26_Put_m k d).trans hk⟩)
def g_ref26_Put (d : Unit × ((Int × (Int × (Int × (Int × (Int × (Int × (Bool × Unit))))))) × Unit)) : Option (Unit × ((ByteArray × Unit) × Unit)) := lim fun k => f_ref26_Put_m (f_ref26_Put_t k) d
theorem ok_ref26_Put : FnOk Try.prog ET0 18 pi_ref26_Put po_ref26_Put g_ref26_Put := go_ref26_Put g_ref26_Put fun d out h => lim_some h

/- horologe/horologelaw08.Document -/
@[reducible] def pi_law08_Document : PSh := ⟨[], [.mk true [.v (.int .i64), .v (.int .i64), .v (.int .i64), .v (.int .i64), .v (.int .i64), .v (.int .i64), .v (.int .i64), .v (.int .i64)]]⟩
@[reducible] def po_law08_Document : PSh := ⟨[], [.mk true [.v (.int .i64), .v (.int .i64), .v (.int .i64), .v (.int .i64), .v (.int .i64), .v (.int .i64), .v (.int .i64), .v (.int .i64)]]⟩
def f_law08_Document_m (T : Unit) (d : Unit × ((Int × (Int × (Int × (Int × (Int × (Int × (Int × (Int × Unit)))))))) × Unit)) : Option (Unit × ((Int × (Int × (Int × (Int × (Int × (Int × (Int × (Int × Unit)))))))) × Unit)) :=
  some ((), ((d.2.1.1, (d.2.1.2.1, (d.2.1.2.2.1, (d.2.1.2.2.2.1, (d.2.1.2.2.2.2.1, (d.2.1.2.2.2.2.2.1, (d.2.1.2.2.2.2.2.2.1, (d.2.1.2.2.2.2.2.2.2.1, ())))))))), ()))
def c_law08_Document : List Nat := []
def L_law08_Document (_ : Nat) : Pts po_law08_Document.den := []
def E_law08_Document : Env := E0
theorem q_law08_Document_m (k : Nat) (d : Unit × ((Int × (Int × (Int × (Int × (Int × (Int × (Int × (Int × Unit)))))))) × Unit)) : evCode E_law08_Document (tab (L_law08_Document k)) c_law08_Document (bodyOf Try.f19) 0 (finK E_law08_Document po_law08_Document [.cell 2 38]) (startSt pi_law08_Document 20 d) = f_law08_Document_m () d := by kernel_rfl
def g_law08_Document (d : Unit × ((Int × (Int × (Int × (Int × (Int × (Int × (Int × (Int × Unit)))))))) × Unit)) : Option (Unit × ((Int × (Int × (Int × (Int × (Int × (Int × (Int × (Int × Unit)))))))) × Unit)) := f_law08_Document_m () d
theorem ok_law08_Document : FnOk Try.prog ET0 19 pi_law08_Document po_law08_Document g_law08_Document :=
  fn_of_body (E := E_law08_Document) e0_ok (fn := Try.f19) Try.func19 (by kernel_rfl) (by kernel_rfl) [.cell 2 38] (by kernel_rfl) (by kernel_rfl) (by decide) rfl c_law08_Document L_law08_Document
    (by intro x hx; cases hx) (by intro k x hx; cases hx) (fun d out h => ⟨0, (q_law08_Document_m 0 d).trans h⟩)

/- horologe/horologelaw26.NistPuts -/
@[reducible] def pi_law26_NistPuts : PSh := ⟨[], [.mk true [.v (.int .i64), .v (.int .i64), .v (.int .i64), .v (.int .i64), .v (.int .i64), .v (.int .i64), .v .bool]]⟩
@[reducible] def po_law26_NistPuts : PSh := ⟨[], [.mk false [.v .bool]]⟩
def f_law26_NistPuts_m (T : Unit) (d : Unit × ((Int × (Int × (Int × (Int × (Int × (Int × (Bool × Unit))))))) × Unit)) : Option (Unit × ((Bool × Unit) × Unit)) :=
  (g_law26_alive ((), ())).bind fun x1 =>
  let x2 : Bool := (!x1.2.1.1)
  bif x2 then (
  some ((), ((false, ()), ())))
  else (
  (g_nist_Put ((), ((d.2.1.1, (d.2.1.2.1, (d.2.1.2.2.1, (d.2.1.2.2.2.1, (d.2.1.2.2.2.2.1, (d.2.1.2.2.2.2.2.1, (d.2.1.2.2.2.2.2.2.1, ()))))))), ()))).bind fun x3 =>
  (g_nist_Label ((), ((d.2.1.1, (d.2.1.2.1, (d.2.1.2.2.1, (d.2.1.2.2.2.1, (d.2.1.2.2.2.2.1, (d.2.1.2.2.2.2.2.1, (d.2.1.2.2.2.2.2.2.1, ()))))))), ()))).bind fun x4 =>
  (g_law26_Document ((), ((d.2.1.1, (d.2.1.2.1, (d.2.1.2.2.1, (d.2.1.2.2.2.1, (d.2.1.2.2.2.2.1, (d.2.1.2.2.2.2.2.1, (d.2.1.2.2.2.2.2.2.1, ()))))))), ()))).bind fun x5 =>
  (g_ref26_Check ((), ((x5.2.1.1, (x5.2.1.2.1, (x5.2.1.2.2.1, (x5.2.1.2.2.2.1, (x5.2.1.2.2.2.2.1, (x5.2.1.2.2.2.2.2.1, (x5.2.1.2.2.2.2.2.2.1, ()))))))), ()))).bind fun x6 =>
  (g_nist_Check ((), ((d.2.1.1, (d.2.1.2.1, (d.2.1.2.2.1, (d.2.1.2.2.2.1, (d.2.1.2.2.2.2.1, (d.2.1.2.2.2.2.2.1, (d.2.1.2.2.2.2.2.2.1, ()))))))), ()))).bind fun x7 =>
  (g_hnum_Num ((), ((x7.2.1.1, ()), ()))).bind fun x8 =>
  let x9 : Bool := (x8.2.1.1 != x6.2.1.1)
  bif x9 then (
  some ((), ((false, ()), ())))
  else (
  let x10 : Bool := (x6.2.1.1 != (0 : Int))
  bif x10 then (
  let x11 : Bool := (x3.2.1.1.toList == (⟨#[]⟩ : ByteArray).toList)
  bif x11 then (
  let x12 : Bool := ((x4.2.1.1 == (0 : Int)) && ((x4.2.1.2.1 == (0 : Int)) && ((x4.2.1.2.2.1 == (0 : Int)) && ((x4.2.1.2.2.2.1 == (0 : Int)) && ((x4.2.1.2.2.2.2.1 == (0 : Int)) && ((x4.2.1.2.2.2.2.2.1 == (0 : Int)) && ((x4.2.1.2.2.2.2.2.2.1 == (0 : Int)) && ((x4.2.1.2.2.2.2.2.2.2.1 == (0 : Int)) && true))))))))
  bif x12 then (
  (g_hnum_Num ((), ((x3.2.2.1.1, ()), ()))).bind fun x13 =>
  let x14 : Bool := (x13.2.1.1 == x6.2.1.1)
  bif x14 then (
  (g_hnum_Num ((), ((x4.2.2.1.1, ()), ()))).bind fun x15 =>
  let x16 : Bool := (x15.2.1.1 == x6.2.1.1)
  some ((), ((x16, ()), ())))
  else (
  some ((), ((false, ()), ()))))
  else (
  some ((), ((false, ()), ()))))
  else (
  some ((), ((false, ()), ()))))
  else (
  (g_ref08_Of ((), ((d.2.1.1, ()), ((d.2.1.2.1, ()), (((0 : Int), ()), (((0 : Int), ()), ())))))).bind fun x17 =>
  bif x3.2.2.1.1.isNone then (
  bif x4.2.2.1.1.isNone then (
  (g_law26_Document ((), ((d.2.1.1, (d.2.1.2.1, (d.2.1.2.2.1, (d.2.1.2.2.2.1, (d.2.1.2.2.2.2.1, (d.2.1.2.2.2.2.2.1, (d.2.1.2.2.2.2.2.2.1, ()))))))), ()))).bind fun x18 =>
  (g_ref26_Put ((), ((x18.2.1.1, (x18.2.1.2.1, (x18.2.1.2.2.1, (x18.2.1.2.2.2.1, (x18.2.1.2.2.2.2.1, (x18.2.1.2.2.2.2.2.1, (x18.2.1.2.2.2.2.2.2.1, ()))))))), ()))).bind fun x19 =>
  let x20 : Bool := (x3.2.1.1.toList == x19.2.1.1.toList)
  bif x20 then (
  (g_law08_Document ((), ((x4.2.1.1, (x4.2.1.2.1, (x4.2.1.2.2.1, (x4.2.1.2.2.2.1, (x4.2.1.2.2.2.2.1, (x4.2.1.2.2.2.2.2.1, (x4.2.1.2.2.2.2.2.2.1, (x4.2.1.2.2.2.2.2.2.2.1, ())))))))), ()))).bind fun x21 =>
  let x22 : Bool := ((x21.2.1.1 == x17.2.1.1) && ((x21.2.1.2.1 == x17.2.1.2.1) && ((x21.2.1.2.2.1 == x17.2.1.2.2.1) && ((x21.2.1.2.2.2.1 == x17.2.1.2.2.2.1) && ((x21.2.1.2.2.2.2.1 == x17.2.1.2.2.2.2.1) && ((x21.2.1.2.2.2.2.2.1 == x17.2.1.2.2.2.2.2.1) && ((x21.2.1.2.2.2.2.2.2.1 == x17.2.1.2.2.2.2.2.2.1) && ((x21.2.1.2.2.2.2.2.2.2.1 == x17.2.1.2.2.2.2.2.2.2.1) && true))))))))
  some ((), ((x22, ()), ())))
  else (
  some ((), ((false, ()), ()))))
  else (
  some ((), ((false, ()), ()))))
  else (
  some ((), ((false, ()), ()))))))
def c_law26_NistPuts : List Nat := []
def L_law26_NistPuts (_ : Nat) : Pts po_law26_NistPuts.den := []
def E_law26_NistPuts : Env := ((((((((((E0.add 10 (typedSem pi_law26_alive po_law26_alive g_law26_alive)).add 11 (typedSem pi_nist_Put po_nist_Put g_nist_Put)).add 12 (typedSem pi_nist_Label po_nist_Label g_nist_Label)).add 13 (typedSem pi_ref26_Check po_ref26_Check g_ref26_Check)).add 14 (typedSem pi_law26_Document po_law26_Document g_law26_Document)).add 15 (typedSem pi_hnum_Num po_hnum_Num g_hnum_Num)).add 16 (typedSem pi_nist_Check po_nist_Check g_nist_Check)).add 17 (typedSem pi_ref08_Of po_ref08_Of g_ref08_Of)).add 18 (typedSem pi_ref26_Put po_ref26_Put g_ref26_Put)).add 19 (typedSem pi_law08_Document po_law08_Document g_law08_Document))
theorem q_law26_NistPuts_m (k : Nat) (d : Unit × ((Int × (Int × (Int × (Int × (Int × (Int × (Bool × Unit))))))) × Unit)) : evCode E_law26_NistPuts (tab (L_law26_NistPuts k)) c_law26_NistPuts (bodyOf Try.f3) 0 (finK E_law26_NistPuts po_law26_NistPuts [.tmp 2]) (startSt pi_law26_NistPuts 78 d) = f_law26_NistPuts_m () d := by kernel_rfl
def g_law26_NistPuts (d : Unit × ((Int × (Int × (Int × (Int × (Int × (Int × (Bool × Unit))))))) × Unit)) : Option (Unit × ((Bool × Unit) × Unit)) := f_law26_NistPuts_m () d
theorem ok_law26_NistPuts : FnOk Try.prog ET0 3 pi_law26_NistPuts po_law26_NistPuts g_law26_NistPuts :=
  fn_of_body (E := E_law26_NistPuts) (envOk_add (envOk_add (envOk_add (envOk_add (envOk_add (envOk_add (envOk_add (envOk_add (envOk_add (envOk_add e0_ok (typed_ok ok_law26_alive)) (typed_ok ok_nist_Put)) (typed_ok ok_nist_Label)) (typed_ok ok_ref26_Check)) (typed_ok ok_law26_Document)) (typed_ok ok_hnum_Num)) (typed_ok ok_nist_Check)) (typed_ok ok_ref08_Of)) (typed_ok ok_ref26_Put)) (typed_ok ok_law08_Document)) (fn := Try.f3) Try.func3 (by kernel_rfl) (by kernel_rfl) [.tmp 2] (by kernel_rfl) (by kernel_rfl) (by decide) rfl c_law26_NistPuts L_law26_NistPuts
    (by intro x hx; cases hx) (by intro k x hx; cases hx) (fun d out h => ⟨0, (q_law26_NistPuts_m 0 d).trans h⟩)

/- horologe/horologelaw10.Long -/
@[reducible] def pi_law10_Long : PSh := ⟨[], [.mk true [.v (.sl (.pair (.int .i64) (.int .i64))), .v (.int .i64), .v (.int .i64)]]⟩
@[reducible] def po_law10_Long : PSh := ⟨[], [.mk false [.v .bool]]⟩
def f_law10_Long_m (T : Unit) (d : Unit × (((List (Int × Int)) × (Int × (Int × Unit))) × Unit)) : Option (Unit × ((Bool × Unit) × Unit)) :=
  let x1 : Int := (d.2.1.1.length : Int)
  let x2 : Bool := (decide (x1 > (296 : Int)))
  some ((), ((x2, ()), ()))
def c_law10_Long : List Nat := []
def L_law10_Long (_ : Nat) : Pts po_law10_Long.den := []
def E_law10_Long : Env := E0
theorem q_law10_Long_m (k : Nat) (d : Unit × (((List (Int × Int)) × (Int × (Int × Unit))) × Unit)) : evCode E_law10_Long (tab (L_law10_Long k)) c_law10_Long (bodyOf Try.f20) 0 (finK E_law10_Long po_law10_Long [.tmp 2]) (startSt pi_law10_Long 7 d) = f_law10_Long_m () d := by kernel_rfl
def g_law10_Long (d : Unit × (((List (Int × Int)) × (Int × (Int × Unit))) × Unit)) : Option (Unit × ((Bool × Unit) × Unit)) := f_law10_Long_m () d
theorem ok_law10_Long : FnOk Try.prog ET0 20 pi_law10_Long po_law10_Long g_law10_Long :=
  fn_of_body (E := E_law10_Long) e0_ok (fn := Try.f20) Try.func20 (by kernel_rfl) (by kernel_rfl) [.tmp 2] (by kernel_rfl) (by kernel_rfl) (by decide) rfl c_law10_Long L_law10_Long
    (by intro x hx; cases hx) (by intro k x hx; cases hx) (fun d out h => ⟨0, (q_law10_Long_m 0 d).trans h⟩)

/- horologe/day.right -/
@[reducible] def pi_day_right : PSh := ⟨[], [.mk false [.v (.int .i64)]]⟩
@[reducible] def po_day_right : PSh := ⟨[], [.mk false [.v .bool]]⟩
def f_day_right_m (T : Unit) (d : Unit × ((Int × Unit) × Unit)) : Option (Unit × ((Bool × Unit) × Unit)) :=
  let x1 : Bool := (decide (d.2.1.1 ≥ (-9999 : Int)))
  bif x1 then (
  let x2 : Bool := (decide (d.2.1.1 ≤ (9999 : Int)))
  some ((), ((x2, ()), ())))
  else (
  some ((), ((false, ()), ())))
def c_day_right : List Nat := []
def L_day_right (_ : Nat) : Pts po_day_right.den := []
def E_day_right : Env := E0
theorem q_day_right_m (k : Nat) (d : Unit × ((Int × Unit) × Unit)) : evCode E_day_right (tab (L_day_right k)) c_day_right (bodyOf Try.f105) 0 (finK E_day_right po_day_right [.tmp 2]) (startSt pi_day_right 9 d) = f_day_right_m () d := by kernel_rfl
def g_day_right (d : Unit × ((Int × Unit) × Unit)) : Option (Unit × ((Bool × Unit) × Unit)) := f_day_right_m () d
theorem ok_day_right : FnOk Try.prog ET0 105 pi_day_right po_day_right g_day_right :=
  fn_of_body (E := E_day_right) e0_ok (fn := Try.f105) Try.func105 (by kernel_rfl) (by kernel_rfl) [.tmp 2] (by kernel_rfl) (by kernel_rfl) (by decide) rfl c_day_right L_day_right
    (by intro x hx; cases hx) (by intro k x hx; cases hx) (fun d out h => ⟨0, (q_day_right_m 0 d).trans h⟩)

/- horologe/day.Leap -/
@[reducible] def pi_day_Leap : PSh := ⟨[], [.mk false [.v (.int .i64)]]⟩
@[reducible] def po_day_Leap : PSh := ⟨[], [.mk false [.v .bool]]⟩
def f_day_Leap_m (T : Unit) (d : Unit × ((Int × Unit) × Unit)) : Option (Unit × ((Bool × Unit) × Unit)) :=
  let x1 : Int := (Int.tmod d.2.1.1 (4 : Int))
  let x2 : Bool := (x1 == (0 : Int))
  bif x2 then (
  let x3 : Int := (Int.tmod d.2.1.1 (100 : Int))
  let x4 : Bool := (x3 != (0 : Int))
  bif x4 then (
  some ((), ((true, ()), ())))
  else (
  let x5 : Int := (Int.tmod d.2.1.1 (400 : Int))
  let x6 : Bool := (x5 == (0 : Int))
  some ((), ((x6, ()), ()))))
  else (
  some ((), ((false, ()), ())))
def c_day_Leap : List Nat := []
def L_day_Leap (_ : Nat) : Pts po_day_Leap.den := []
def E_day_Leap : Env := E0
theorem q_day_Leap_m (k : Nat) (d : Unit × ((Int × Unit) × Unit)) : evCode E_day_Leap (tab (L_day_Leap k)) c_day_Leap (bodyOf Try.f106) 0 (finK E_day_Leap po_day_Leap [.tmp 2]) (startSt pi_day_Leap 16 d) = f_day_Leap_m () d := by kernel_rfl
def g_day_Leap (d : Unit × ((Int × Unit) × Unit)) : Option (Unit × ((Bool × Unit) × Unit)) := f_day_Leap_m () d
theorem ok_day_Leap : FnOk Try.prog ET0 106 pi_day_Leap po_day_Leap g_day_Leap :=
  fn_of_body (E := E_day_Leap) e0_ok (fn := Try.f106) Try.func106 (by kernel_rfl) (by kernel_rfl) [.tmp 2] (by kernel_rfl) (by kernel_rfl) (by decide) rfl c_day_Leap L_day_Leap
    (by intro x hx; cases hx) (by intro k x hx; cases hx) (fun d out h => ⟨0, (q_day_Leap_m 0 d).trans h⟩)

/- horologe/day.Month -/
@[reducible] def pi_day_Month : PSh := ⟨[], [.mk false [.v (.int .i64)], .mk false [.v (.int .i64)]]⟩
@[reducible] def po_day_Month : PSh := ⟨[], [.mk false [.v (.int .i64)], .mk false [.v .err]]⟩
def f_day_Month_m (T : Unit) (d : Unit × ((Int × Unit) × ((Int × Unit) × Unit))) : Option (Unit × ((Int × Unit) × (((Option Int) × Unit) × Unit))) :=
  (g_day_right ((), ((d.2.1.1, ()), ()))).bind fun x1 =>
  let x2 : Bool := (!x1.2.1.1)
  bif x2 then (
  let x3 : (Option Int) := (some (13 : Int))
  some ((), (((0 : Int), ()), ((x3, ()), ()))))
  else (
  let x4 : Bool := (decide (d.2.2.1.1 < (1 : Int)))
  bif x4 then (
  let x5 : (Option Int) := (some (1 : Int))
  some ((), (((0 : Int), ()), ((x5, ()), ()))))
  else (
  let x6 : Bool := (decide (d.2.2.1.1 > (12 : Int)))
  bif x6 then (
  let x7 : (Option Int) := (some (1 : Int))
  some ((), (((0 : Int), ()), ((x7, ()), ()))))
  else (
  let x8 : Bool := (d.2.2.1.1 == (2 : Int))
  bif x8 then (
  (g_day_Leap ((), ((d.2.1.1, ()), ()))).bind fun x9 =>
  bif x9.2.1.1 then (
  some ((), (((29 : Int), ()), (((none : Option Int), ()), ()))))
  else (
  let x10 : Bool := (d.2.2.1.1 == (2 : Int))
  bif x10 then (
  some ((), (((28 : Int), ()), (((none : Option Int), ()), ()))))
  else (
  let x11 : Int := (iquo .i64 d.2.2.1.1 (8 : Int))
  let x12 : Int := (iadd .i64 d.2.2.1.1 x11)
  let x13 : Int := (Int.tmod x12 (2 : Int))
  let x14 : Int := (iadd .i64 (30 : Int) x13)
  some ((), ((x14, ()), (((none : Option Int), ()), ()))))))
  else (
  let x15 : Bool := (d.2.2.1.1 == (2 : Int))
  bif x15 then (
  some ((), (((28 : Int), ()), (((none : Option Int), ()), ()))))
  else (
  let x16 : Int := (iquo .i64 d.2.2.1.1 (8 : Int))
  let x17 : Int := (iadd .i64 d.2.2.1.1 x16)
  let x18 : Int := (Int.tmod x17 (2 : Int))
  let x19 : Int := (iadd .i64 (30 : Int) x18)
  some ((), ((x19, ()), (((none : Option Int), ()), ()))))))))
def c_day_Month : List Nat := []
def L_day_Month (_ : Nat) : Pts po_day_Month.den := []
def E_day_Month : Env := ((E0.add 105 (typedSem pi_day_right po_day_right g_day_right)).add 106 (typedSem pi_day_Leap po_day_Leap g_day_Leap))
theorem q_day_Month_m (k : Nat) (d : Unit × ((Int × Unit) × ((Int × Unit) × Unit))) : evCode E_day_Month (tab (L_day_Month k)) c_day_Month (bodyOf Try.f55) 0 (finK E_day_Month po_day_Month [.tmp 4, .tmp 5]) (startSt pi_day_Month 35 d) = f_day_Month_m () d := by kernel_rfl
def g_day_Month (d : Unit × ((Int × Unit) × ((Int × Unit) × Unit))) : Option (Unit × ((Int × Unit) × (((Option Int) × Unit) × Unit))) := f_day_Month_m () d
theorem ok_day_Month : FnOk Try.prog ET0 55 pi_day_Month po_day_Month g_day_Month :=
  fn_of_body (E := E_day_Month) (envOk_add (envOk_add e0_ok (typed_ok ok_day_right)) (typed_ok ok_day_Leap)) (fn := Try.f55) Try.func55 (by kernel_rfl) (by kernel_rfl) [.tmp 4, .tmp 5] (by kernel_rfl) (by kernel_rfl) (by decide) rfl c_day_Month L_day_Month
    (by intro x hx; cases hx) (by intro k x hx; cases hx) (fun d out h => ⟨0, (q_day_Month_m 0 d).trans h⟩)

/- horologe/day.check -/
@[reducible] def pi_day_check : PSh := ⟨[], [.mk false [.v (.int .i64)], .mk false [.v (.int .i64)], .mk false [.v (.int .i64)]]⟩
@[reducible] def po_day_check : PSh := ⟨[], [.mk false [.v .err]]⟩
def f_day_check_m (T : Unit) (d : Unit × ((Int × Unit) × ((Int × Unit) × ((Int × Unit) × Unit)))) : Option (Unit × (((Option Int) × Unit) × Unit)) :=
  (g_day_Month ((), ((d.2.1.1, ()), ((d.2.2.1.1, ()), ())))).bind fun x1 =>
  let x2 : Bool := (!x1.2.2.1.1.isNone)
  bif x2 then (
  some ((), ((x1.2.2.1.1, ()), ())))
  else (
  let x3 : Bool := (decide (d.2.2.2.1.1 < (1 : Int)))
  bif x3 then (
  let x4 : (Option Int) := (some (1 : Int))
  some ((), ((x4, ()), ())))
  else (
  let x5 : Bool := (decide (d.2.2.2.1.1 > x1.2.1.1))
  bif x5 then (
  let x6 : (Option Int) := (some (1 : Int))
  some ((), ((x6, ()), ())))
  else (
  some ((), (((none : Option Int), ()), ())))))
def c_day_check : List Nat := []
def L_day_check (_ : Nat) : Pts po_day_check.den := []
def E_day_check : Env := (E0.add 55 (typedSem pi_day_Month po_day_Month g_day_Month))
theorem q_day_check_m (k : Nat) (d : Unit × ((Int × Unit) × ((Int × Unit) × ((Int × Unit) × Unit)))) : evCode E_day_check (tab (L_day_check k)) c_day_check (bodyOf Try.f107) 0 (finK E_day_check po_day_check [.tmp 6]) (startSt pi_day_check 28 d) = f_day_check_m () d := by kernel_rfl
def g_day_check (d : Unit × ((Int × Unit) × ((Int × Unit) × ((Int × Unit) × Unit)))) : Option (Unit × (((Option Int) × Unit) × Unit)) := f_day_check_m () d
theorem ok_day_check : FnOk Try.prog ET0 107 pi_day_check po_day_check g_day_check :=
  fn_of_body (E := E_day_check) (envOk_add e0_ok (typed_ok ok_day_Month)) (fn := Try.f107) Try.func107 (by kernel_rfl) (by kernel_rfl) [.tmp 6] (by kernel_rfl) (by kernel_rfl) (by decide) rfl c_day_check L_day_check
    (by intro x hx; cases hx) (by intro k x hx; cases hx) (fun d out h => ⟨0, (q_day_check_m 0 d).trans h⟩)

/- horologe/day.Of -/
@[reducible] def pi_day_Of : PSh := ⟨[], [.mk false [.v (.int .i64)], .mk false [.v (.int .i64)], .mk false [.v (.int .i64)]]⟩
@[reducible] def po_day_Of : PSh := ⟨[], [.mk false [.v (.int .i64)], .mk false [.v .err]]⟩
def f_day_Of_m (T : Unit) (d : Unit × ((Int × Unit) × ((Int × Unit) × ((Int × Unit) × Unit)))) : Option (Unit × ((Int × Unit) × (((Option Int) × Unit) × Unit))) :=
  (g_day_check ((), ((d.2.1.1, ()), ((d.2.2.1.1, ()), ((d.2.2.2.1.1, ()), ()))))).bind fun x1 =>
  let x2 : Bool := (!x1.2.1.1.isNone)
  bif x2 then (
  some ((), (((0 : Int), ()), ((x1.2.1.1, ()), ()))))
  else (
  (g_day_number ((), ((d.2.1.1, ()), ((d.2.2.1.1, ()), ((d.2.2.2.1.1, ()), ()))))).bind fun x3 =>
  some ((), ((x3.2.1.1, ()), (((none : Option Int), ()), ()))))
def c_day_Of : List Nat := []
def L_day_Of (_ : Nat) : Pts po_day_Of.den := []
def E_day_Of : Env := ((E0.add 107 (typedSem pi_day_check po_day_check g_day_check)).add 108 (typedSem pi_day_number po_day_number g_day_number))
theorem q_day_Of_m (k : Nat) (d : Unit × ((Int × Unit) × ((Int × Unit) × ((Int × Unit) × Unit)))) : evCode E_day_Of (tab (L_day_Of k)) c_day_Of (bodyOf Try.f56) 0 (finK E_day_Of po_day_Of [.tmp 6, .tmp 7]) (startSt pi_day_Of 20 d) = f_day_Of_m () d := by kernel_rfl
def g_day_Of (d : Unit × ((Int × Unit) × ((Int × Unit) × ((Int × Unit) × Unit)))) : Option (Unit × ((Int × Unit) × (((Option Int) × Unit) × Unit))) := f_day_Of_m () d
theorem ok_day_Of : FnOk Try.prog ET0 56 pi_day_Of po_day_Of g_day_Of :=
  fn_of_body (E := E_day_Of) (envOk_add (envOk_add e0_ok (typed_ok ok_day_check)) (typed_ok ok_day_number)) (fn := Try.f56) Try.func56 (by kernel_rfl) (by kernel_rfl) [.tmp 6, .tmp 7] (by kernel_rfl) (by kernel_rfl) (by decide) rfl c_day_Of L_day_Of
    (by intro x hx; cases hx) (by intro k x hx; cases hx) (fun d out h => ⟨0, (q_day_Of_m 0 d).trans h⟩)

/- (*horologe/leap.Table).list -/
@[reducible] def pi_leap_Table_list : PSh := ⟨[], [.mk false [.v (.nptr (.pair (.sl (.pair (.int .i64) (.int .i64))) (.pair (.int .i64) (.int .i64))))]]⟩
@[reducible] def po_leap_Table_list : PSh := ⟨[], [.mk false [.v (.sl (.pair (.int .i64) (.int .i64)))]]⟩
def f_leap_Table_list_m (T : Unit) (d : Unit × (((Option ((List (Int × Int)) × (Int × Int))) × Unit) × Unit)) : Option (Unit × (((List (Int × Int)) × Unit) × Unit)) :=
  bif d.2.1.1.isNone then (
  some ((), ((([] : List (Int × Int)), ()), ())))
  else (
  d.2.1.1.bind fun x1 =>
  some ((), ((x1.1, ()), ())))
def c_leap_Table_list : List Nat := []
def L_leap_Table_list (_ : Nat) : Pts po_leap_Table_list.den := []
def E_leap_Table_list : Env := E0
theorem q_leap_Table_list_m (k : Nat) (d : Unit × (((Option ((List (Int × Int)) × (Int × Int))) × Unit) × Unit)) : evCode E_leap_Table_list (tab (L_leap_Table_list k)) c_leap_Table_list (bodyOf Try.f152) 0 (finK E_leap_Table_list po_leap_Table_list [.tmp 2]) (startSt pi_leap_Table_list 9 d) = f_leap_Table_list_m () d := by kernel_rfl
def g_leap_Table_list (d : Unit × (((Option ((List (Int × Int)) × (Int × Int))) × Unit) × Unit)) : Option (Unit × (((List (Int × Int)) × Unit) × Unit)) := f_leap_Table_list_m () d
theorem ok_leap_Table_list : FnOk Try.prog ET0 152 pi_leap_Table_list po_leap_Table_list g_leap_Table_list :=
  fn_of_body (E := E_leap_Table_list) e0_ok (fn := Try.f152) Try.func152 (by kernel_rfl) (by kernel_rfl) [.tmp 2] (by kernel_rfl) (by kernel_rfl) (by decide) rfl c_leap_Table_list L_leap_Table_list
    (by intro x hx; cases hx) (by intro k x hx; cases hx) (fun d out h => ⟨0, (q_leap_Table_list_m 0 d).trans h⟩)

/- (*horologe/leap.Table).Len -/
@[reducible] def pi_leap_Table_Len : PSh := ⟨[], [.mk false [.v (.nptr (.pair (.sl (.pair (.int .i64) (.int .i64))) (.pair (.int .i64) (.int .i64))))]]⟩
@[reducible] def po_leap_Table_Len : PSh := ⟨[], [.mk false [.v (.int .i64)]]⟩
def f_leap_Table_Len_m (T : Unit) (d : Unit × (((Option ((List (Int × Int)) × (Int × Int))) × Unit) × Unit)) : Option (Unit × ((Int × Unit) × Unit)) :=
  (g_leap_Table_list ((), ((d.2.1.1, ()), ()))).bind fun x1 =>
  let x2 : Int := (x1.2.1.1.length : Int)
  some ((), ((x2, ()), ()))
def c_leap_Table_Len : List Nat := []
def L_leap_Table_Len (_ : Nat) : Pts po_leap_Table_Len.den := []
def E_leap_Table_Len : Env := (E0.add 152 (typedSem pi_leap_Table_list po_leap_Table_list g_leap_Table_list))
theorem q_leap_Table_Len_m (k : Nat) (d : Unit × (((Option ((List (Int × Int)) × (Int × Int))) × Unit) × Unit)) : evCode E_leap_Table_Len (tab (L_leap_Table_Len k)) c_leap_Table_Len (bodyOf Try.f150) 0 (finK E_leap_Table_Len po_leap_Table_Len [.tmp 2]) (startSt pi_leap_Table_Len 6 d) = f_leap_Table_Len_m () d := by kernel_rfl
def g_leap_Table_Len (d : Unit × (((Option ((List (Int × Int)) × (Int × Int))) × Unit) × Unit)) : Option (Unit × ((Int × Unit) × Unit)) := f_leap_Table_Len_m () d
theorem ok_leap_Table_Len : FnOk Try.prog ET0 150 pi_leap_Table_Len po_leap_Table_Len g_leap_Table_Len :=
  fn_of_body (E := E_leap_Table_Len) (envOk_add e0_ok (typed_ok ok_leap_Table_list)) (fn := Try.f150) Try.func150 (by kernel_rfl) (by kernel_rfl) [.tmp 2] (by kernel_rfl) (by kernel_rfl) (by decide) rfl c_leap_Table_Len L_leap_Table_Len
    (by intro x hx; cases hx) (by intro k x hx; cases hx) (fun d out h => ⟨0, (q_leap_Table_Len_m 0 d).trans h⟩)

/- (*horologe/leap.Table).Row -/
@[reducible] def pi_leap_Table_Row : PSh := ⟨[], [.mk false [.v (.nptr (.pair (.sl (.pair (.int .i64) (.int .i64))) (.pair (.int .i64) (.int .i64))))], .mk false [.v (.int .i64)]]⟩
@[reducible] def po_leap_Table_Row : PSh := ⟨[], [.mk true [.v (.int .i64), .v (.int .i64)], .mk false [.v .bool]]⟩
def f_leap_Table_Row_m (T : Unit) (d : Unit × (((Option ((List (Int × Int)) × (Int × Int))) × Unit) × ((Int × Unit) × Unit))) : Option (Unit × ((Int × (Int × Unit)) × ((Bool × Unit) × Unit))) :=
  let x1 : Bool := (decide (d.2.2.1.1 < (0 : Int)))
  bif x1 then (
  some ((), (((0 : Int), ((0 : Int), ())), ((false, ()), ()))))
  else (
  (g_leap_Table_Len ((), ((d.2.1.1, ()), ()))).bind fun x2 =>
  let x3 : Bool := (decide (d.2.2.1.1 ≥ x2.2.1.1))
  bif x3 then (
  some ((), (((0 : Int), ((0 : Int), ())), ((false, ()), ()))))
  else (
  d.2.1.1.bind fun x4 =>
  bif decide ((0 : Int) ≤ d.2.2.1.1) && decide (d.2.2.1.1 < (x4.1.length : Int)) then (
  some ((), (((gd_i64_i64 x4.1 d.2.2.1.1).1, ((gd_i64_i64 x4.1 d.2.2.1.1).2, ())), ((true, ()), ()))))
  else none))
def c_leap_Table_Row : List Nat := []
def L_leap_Table_Row (_ : Nat) : Pts po_leap_Table_Row.den := []
def E_leap_Table_Row : Env := (E0.add 150 (typedSem pi_leap_Table_Len po_leap_Table_Len g_leap_Table_Len))
theorem q_leap_Table_Row_m (k : Nat) (d : Unit × (((Option ((List (Int × Int)) × (Int × Int))) × Unit) × ((Int × Unit) × Unit))) : evCode E_leap_Table_Row (tab (L_leap_Table_Row k)) c_leap_Table_Row (bodyOf Try.f109) 0 (finK E_leap_Table_Row po_leap_Table_Row [.cell 4 149, .tmp 5]) (startSt pi_leap_Table_Row 22 d) = f_leap_Table_Row_m () d := by kernel_rfl
def g_leap_Table_Row (d : Unit × (((Option ((List (Int × Int)) × (Int × Int))) × Unit) × ((Int × Unit) × Unit))) : Option (Unit × ((Int × (Int × Unit)) × ((Bool × Unit) × Unit))) := f_leap_Table_Row_m () d
theorem ok_leap_Table_Row : FnOk Try.prog ET0 109 pi_leap_Table_Row po_leap_Table_Row g_leap_Table_Row :=
  fn_of_body (E := E_leap_Table_Row) (envOk_add e0_ok (typed_ok ok_leap_Table_Len)) (fn := Try.f109) Try.func109 (by kernel_rfl) (by kernel_rfl) [.cell 4 149, .tmp 5] (by kernel_rfl) (by kernel_rfl) (by decide) rfl c_leap_Table_Row L_leap_Table_Row
    (by intro x hx; cases hx) (by intro k x hx; cases hx) (fun d out h => ⟨0, (q_leap_Table_Row_m 0 d).trans h⟩)

/- (*horologe/leap.Table).behind$1 -/
@[reducible] def pi_leap_Table_behind_1 : PSh := ⟨[], [.mk true [.v (.int .i64), .v (.int .i64)], .mk false [.v (.int .i64)]]⟩
@[reducible] def po_leap_Table_behind_1 : PSh := ⟨[], [.mk false [.v (.int .i64)]]⟩
def f_leap_Table_behind_1_m (T : Unit) (d : Unit × ((Int × (Int × Unit)) × ((Int × Unit) × Unit))) : Option (Unit × ((Int × Unit) × Unit)) :=
  let x1 : Bool := (decide (d.2.1.1 < d.2.2.1.1))
  bif x1 then (
  some ((), (((-1 : Int), ()), ())))
  else (
  let x2 : Bool := (decide (d.2.1.1 > d.2.2.1.1))
  bif x2 then (
  some ((), (((1 : Int), ()), ())))
  else (
  some ((), (((0 : Int), ()), ()))))
def c_leap_Table_behind_1 : List Nat := []
def L_leap_Table_behind_1 (_ : Nat) : Pts po_leap_Table_behind_1.den := []
def E_leap_Table_behind_1 : Env := E0
theorem q_leap_Table_behind_1_m (k : Nat) (d : Unit × ((Int × (Int × Unit)) × ((Int × Unit) × Unit))) : evCode E_leap_Table_behind_1 (tab (L_leap_Table_behind_1 k)) c_leap_Table_behind_1 (bodyOf Try.f153) 0 (finK E_leap_Table_behind_1 po_leap_Table_behind_1 [.tmp 4]) (startSt pi_leap_Table_behind_1 15 d) = f_leap_Table_behind_1_m () d := by kernel_rfl
def g_leap_Table_behind_1 (d : Unit × ((Int × (Int × Unit)) × ((Int × Unit) × Unit))) : Option (Unit × ((Int × Unit) × Unit)) := f_leap_Table_behind_1_m () d
theorem ok_leap_Table_behind_1 : FnOk Try.prog ET0 153 pi_leap_Table_behind_1 po_leap_Table_behind_1 g_leap_Table_behind_1 :=
  fn_of_body (E := E_leap_Table_behind_1) e0_ok (fn := Try.f153) Try.func153 (by kernel_rfl) (by kernel_rfl) [.tmp 4] (by kernel_rfl) (by kernel_rfl) (by decide) rfl c_leap_Table_behind_1 L_leap_Table_behind_1
    (by intro x hx; cases hx) (by intro k x hx; cases hx) (fun d out h => ⟨0, (q_leap_Table_behind_1_m 0 d).trans h⟩)

/- slices.BinarySearchFunc[[]horologe/leap.Row,horologe/leap.Row,int64] -/
@[reducible] def pi_slices_BinarySearchFunc_leap_Row_leap_Row_i64_leap_Table_behind_1 : PSh := ⟨[], [.mk false [.v (.sl (.pair (.int .i64) (.int .i64)))], .mk false [.v (.int .i64)], .mk false [.fn 153 []]]⟩
@[reducible] def po_slices_BinarySearchFunc_leap_Row_leap_Row_i64_leap_Table_behind_1 : PSh := ⟨[], [.mk false [.v (.int .i64)], .mk false [.v .bool]]⟩
@[reducible] def TT_slices_BinarySearchFunc_leap_Row_leap_Row_i64_leap_Table_behind_1 : Type := (((Unit × (((List (Int × Int)) × Unit) × ((Int × Unit) × (Unit × ((Int × Unit) × ((Int × Unit) × ((Int × Unit) × Unit))))))) → Option (Unit × ((Int × Unit) × ((Bool × Unit) × Unit)))) × Unit)
@[reducible] def sh_slices_BinarySearchFunc_leap_Row_leap_Row_i64_leap_Table_behind_1_4 : PSh := ⟨[], [.mk false [.v (.sl (.pair (.int .i64) (.int .i64)))], .mk false [.v (.int .i64)], .mk false [.fn 153 []], .any, .any, .any, .any, .any, .mk false [.v (.int .i64)], .mk false [.v (.int .i64)], .mk false [.v (.int .i64)], .any, .any, .any, .any, .any, .any, .any, .any, .any, .any, .any, .any, .any, .any, .any, .any, .any, .any, .any, .any, .any, .any, .any, .any, .any, .any, .any, .any, .any, .any, .any, .any, .any, .any, .any, .any, .any, .any]⟩
def f_slices_BinarySearchFunc_leap_Row_leap_Row_i64_leap_Table_behind_1_p4 (T : TT_slices_BinarySearchFunc_leap_Row_leap_Row_i64_leap_Table_behind_1) (d : Unit × (((List (Int × Int)) × Unit) × ((Int × Unit) × (Unit × ((Int × Unit) × ((Int × Unit) × ((Int × Unit) × Unit))))))) : Option (Unit × ((Int × Unit) × ((Bool × Unit) × Unit))) :=
  let x2 : Bool := (decide (d.2.2.2.2.2.1.1 < d.2.2.2.2.2.2.1.1))
  bif x2 then (
  let x3 : Int := (iadd .i64 d.2.2.2.2.2.1.1 d.2.2.2.2.2.2.1.1)
  let x4 : Int := (iconv .u64 x3)
  let x5 : Int := (ishr .u64 x4 (1 : Int))
  let x6 : Int := (iconv .i64 x5)
  bif decide ((0 : Int) ≤ x6) && decide (x6 < (d.2.1.1.length : Int)) then (
  (g_leap_Table_behind_1 ((), (((gd_i64_i64 d.2.1.1 x6).1, ((gd_i64_i64 d.2.1.1 x6).2, ())), ((d.2.2.1.1, ()), ())))).bind fun x7 =>
  let x8 : Bool := (decide (x7.2.1.1 < (0 : Int)))
  bif x8 then (
  let x9 : Int := (iadd .i64 x6 (1 : Int))
  (T.1 ((), ((d.2.1.1, ()), ((d.2.2.1.1, ()), ((), ((d.2.2.2.2.1.1, ()), ((x9, ()), ((d.2.2.2.2.2.2.1.1, ()), ())))))))))
  else (
  (T.1 ((), ((d.2.1.1, ()), ((d.2.2.1.1, ()), ((), ((d.2.2.2.2.1.1, ()), ((d.2.2.2.2.2.1.1, ()), ((x6, ()), ()))))))))))
  else none)
  else (
  let x10 : Bool := (decide (d.2.2.2.2.2.1.1 < d.2.2.2.2.1.1))
  bif x10 then (
  bif decide ((0 : Int) ≤ d.2.2.2.2.2.1.1) && decide (d.2.2.2.2.2.1.1 < (d.2.1.1.length : Int)) then (
  (g_leap_Table_behind_1 ((), (((gd_i64_i64 d.2.1.1 d.2.2.2.2.2.1.1).1, ((gd_i64_i64 d.2.1.1 d.2.2.2.2.2.1.1).2, ())), ((d.2.2.1.1, ()), ())))).bind fun x11 =>
  let x12 : Bool := (x11.2.1.1 == (0 : Int))
  some ((), ((d.2.2.2.2.2.1.1, ()), ((x12, ()), ()))))
  else none)
  else (
  some ((), ((d.2.2.2.2.2.1.1, ()), ((false, ()), ())))))
def f_slices_BinarySearchFunc_leap_Row_leap_Row_i64_leap_Table_behind_1_t : Nat → TT_slices_BinarySearchFunc_leap_Row_leap_Row_i64_leap_Table_behind_1
  | 0 => (fun _ => none, ())
  | k + 1 => (f_slices_BinarySearchFunc_leap_Row_leap_Row_i64_leap_Table_behind_1_p4 (f_slices_BinarySearchFunc_leap_Row_leap_Row_i64_leap_Table_behind_1_t k), ())
theorem t_slices_BinarySearchFunc_leap_Row_leap_Row_i64_leap_Table_behind_1 (k : Nat) : f_slices_BinarySearchFunc_leap_Row_leap_Row_i64_leap_Table_behind_1_t (k + 1) = (f_slices_BinarySearchFunc_leap_Row_leap_Row_i64_leap_Table_behind_1_p4 (f_slices_BinarySearchFunc_leap_Row_leap_Row_i64_leap_Table_behind_1_t k), ()) := rfl
def f_slices_BinarySearchFunc_leap_Row_leap_Row_i64_leap_Table_behind_1_m (T : TT_slices_BinarySearchFunc_leap_Row_leap_Row_i64_leap_Table_behind_1) (d : Unit × (((List (Int × Int)) × Unit) × ((Int × Unit) × (Unit × Unit)))) : Option (Unit × ((Int × Unit) × ((Bool × Unit) × Unit))) :=
  let x1 : Int := (d.2.1.1.length : Int)
  (T.1 ((), ((d.2.1.1, ()), ((d.2.2.1.1, ()), ((), ((x1, ()), (((0 : Int), ()), ((x1, ()), ()))))))))
def c_slices_BinarySearchFunc_leap_Row_leap_Row_i64_leap_Table_behind_1 : List Nat := []
def L_slices_BinarySearchFunc_leap_Row_leap_Row_i64_leap_Table_behind_1 (k : Nat) : Pts po_slices_BinarySearchFunc_leap_Row_leap_Row_i64_leap_Table_behind_1.den := [(4, ⟨sh_slices_BinarySearchFunc_leap_Row_leap_Row_i64_leap_Table_behind_1_4, (f_slices_BinarySearchFunc_leap_Row_leap_Row_i64_leap_Table_behind_1_t k).1⟩)]
def E_slices_BinarySearchFunc_leap_Row_leap_Row_i64_leap_Table_behind_1 : Env := (E0.add 153 (typedSem pi_leap_Table_behind_1 po_leap_Table_behind_1 g_leap_Table_behind_1))
theorem q_slices_BinarySearchFunc_leap_Row_leap_Row_i64_leap_Table_behind_1_4 (k : Nat) (d : Unit × (((List (Int × Int)) × Unit) × ((Int × Unit) × (Unit × ((Int × Unit) × ((Int × Unit) × ((Int × Unit) × Unit))))))) : evAt E_slices_BinarySearchFunc_leap_Row_leap_Row_i64_leap_Table_behind_1 (tab (L_slices_BinarySearchFunc_leap_Row_leap_Row_i64_leap_Table_behind_1 k)) c_slices_BinarySearchFunc_leap_Row_leap_Row_i64_leap_Table_behind_1 4 (bodyOf Try.f151) 0 (finK E_slices_BinarySearchFunc_leap_Row_leap_Row_i64_leap_Table_behind_1 po_slices_BinarySearchFunc_leap_Row_leap_Row_i64_leap_Table_behind_1 [.tmp 6, .tmp 7]) (ptSt sh_slices_BinarySearchFunc_leap_Row_leap_Row_i64_leap_Table_behind_1_4 d) = f_slices_BinarySearchFunc_leap_Row_leap_Row_i64_leap_Table_behind_1_p4 (f_slices_BinarySearchFunc_leap_Row_leap_Row_i64_leap_Table_behind_1_t k) d := by kernel_rfl
theorem q_slices_BinarySearchFunc_leap_Row_leap_Row_i64_leap_Table_behind_1_m (k : Nat) (d : Unit × (((List (Int × Int)) × Unit) × ((Int × Unit) × (Unit × Unit)))) : evCode E_slices_BinarySearchFunc_leap_Row_leap_Row_i64_leap_Table_behind_1 (tab (L_slices_BinarySearchFunc_leap_Row_leap_Row_i64_leap_Table_behind_1 k)) c_slices_BinarySearchFunc_leap_Row_leap_Row_i64_leap_Table_behind_1 (bodyOf Try.f151) 0 (finK E_slices_BinarySearchFunc_leap_Row_leap_Row_i64_leap_Table_behind_1 po_slices_BinarySearchFunc_leap_Row_leap_Row_i64_leap_Table_behind_1 [.tmp 6, .tmp 7]) (startSt pi_slices_BinarySearchFunc_leap_Row_leap_Row_i64_leap_Table_behind_1 49 d) = f_slices_BinarySearchFunc_leap_Row_leap_Row_i64_leap_Table_behind_1_m (f_slices_BinarySearchFunc_leap_Row_leap_Row_i64_leap_Table_behind_1_t k) d := by kernel_rfl
theorem go_slices_BinarySearchFunc_leap_Row_leap_Row_i64_leap_Table_behind_1 (F : Unit × (((List (Int × Int)) × Unit) × ((Int × Unit) × (Unit × Unit))) → Option (Unit × ((Int × Unit) × ((Bool × Unit) × Unit)))) (hF : ∀ d out, F d = some out → ∃ k, f_slices_BinarySearchFunc_leap_Row_leap_Row_i64_leap_Table_behind_1_m (f_slices_BinarySearchFunc_leap_Row_leap_Row_i64_leap_Table_behind_1_t k) d = some out) : FnOk Try.prog ET0 151 pi_slices_BinarySearchFunc_leap_Row_leap_Row_i64_leap_Table_behind_1 po_slices_BinarySearchFunc_leap_Row_leap_Row_i64_leap_Table_behind_1 F :=
  fn_of_body (E := E_slices_BinarySearchFunc_leap_Row_leap_Row_i64_leap_Table_behind_1) (envOk_add e0_ok (typed_ok ok_leap_Table_behind_1)) (fn := Try.f151) Try.func151 (by kernel_rfl) (by kernel_rfl) [.tmp 6, .tmp 7] (by kernel_rfl) (by kernel_rfl) (by decide) rfl c_slices_BinarySearchFunc_leap_Row_leap_Row_i64_leap_Table_behind_1 L_slices_BinarySearchFunc_leap_Row_leap_Row_i64_leap_Table_behind_1
    (by intro x hx d; simp only [L_slices_BinarySearchFunc_leap_Row_leap_Row_i64_leap_Table_behind_1, List.mem_cons, List.not_mem_nil, or_false] at hx; subst hx; rfl)
    (by intro k x hx d out h; simp only [L_slices_BinarySearchFunc_leap_Row_leap_Row_i64_leap_Table_behind_1, List.mem_cons, List.not_mem_nil, or_false] at hx; subst hx; exact (q_slices_BinarySearchFunc_leap_Row_leap_Row_i64_leap_Table_behind_1_4 k d).trans h)
    (by intro d out h; obtain ⟨k, hk⟩ := hF d out h; exact ⟨k, (q_slices_BinarySearchFunc_leap_Row_leap_Row_i64_leap_Table_behind_1_m k d).trans hk⟩)
def g_slices_BinarySearchFunc_leap_Row_leap_Row_i64_leap_Table_behind_1 (d : Unit × (((List (Int × Int)) × Unit) × ((Int × Unit) × (Unit × Unit)))) : Option (Unit × ((Int × Unit) × ((Bool × Unit) × Unit))) := lim fun k => f_slices_BinarySearchFunc_leap_Row_leap_Row_i64_leap_Table_behind_1_m (f_slices_BinarySearchFunc_leap_Row_leap_Row_i64_leap_Table_behind_1_t k) d
theorem ok_slices_BinarySearchFunc_leap_Row_leap_Row_i64_leap_Table_behind_1 : FnOk Try.prog ET0 151 pi_slices_BinarySearchFunc_leap_Row_leap_Row_i64_leap_Table_behind_1 po_slices_BinarySearchFunc_leap_Row_leap_Row_i64_leap_Table_behind_1 g_slices_BinarySearchFunc_leap_Row_leap_Row_i64_leap_Table_behind_1 := go_slices_BinarySearchFunc_leap_Row_leap_Row_i64_leap_Table_behind_1 g_slices_BinarySearchFunc_leap_Row_leap_Row_i64_leap_Table_behind_1 fun d out h => lim_some h

/- (*horologe/leap.Table).behind -/
@[reducible] def pi_leap_Table_behind : PSh := ⟨[], [.mk false [.v (.nptr (.pair (.sl (.pair (.int .i64) (.int .i64))) (.pair (.int .i64) (.int .i64))))], .mk false [.v (.int .i64)]]⟩
@[reducible] def po_leap_Table_behind : PSh := ⟨[], [.mk false [.v (.int .i64)]]⟩
def f_leap_Table_behind_m (T : Unit) (d : Unit × (((Option ((List (Int × Int)) × (Int × Int))) × Unit) × ((Int × Unit) × Unit))) : Option (Unit × ((Int × Unit) × Unit)) :=
  (g_leap_Table_list ((), ((d.2.1.1, ()), ()))).bind fun x1 =>
  (g_slices_BinarySearchFunc_leap_Row_leap_Row_i64_leap_Table_behind_1 ((), ((x1.2.1.1, ()), ((d.2.2.1.1, ()), ((), ()))))).bind fun x2 =>
  bif x2.2.2.1.1 then (
  let x3 : Int := (iadd .i64 x2.2.1.1 (1 : Int))
  some ((), ((x3, ()), ())))
  else (
  some ((), ((x2.2.1.1, ()), ())))
def c_leap_Table_behind : List Nat := []
def L_leap_Table_behind (_ : Nat) : Pts po_leap_Table_behind.den := []
def E_leap_Table_behind : Env := ((E0.add 151 (typedSem pi_slices_BinarySearchFunc_leap_Row_leap_Row_i64_leap_Table_behind_1 po_slices_BinarySearchFunc_leap_Row_leap_Row_i64_leap_Table_behind_1 g_slices_BinarySearchFunc_leap_Row_leap_Row_i64_leap_Table_behind_1)).add 152 (typedSem pi_leap_Table_list po_leap_Table_list g_leap_Table_list))
theorem q_leap_Table_behind_m (k : Nat) (d : Unit × (((Option ((List (Int × Int)) × (Int × Int))) × Unit) × ((Int × Unit) × Unit))) : evCode E_leap_Table_behind (tab (L_leap_Table_behind k)) c_leap_Table_behind (bodyOf Try.f110) 0 (finK E_leap_Table_behind po_leap_Table_behind [.tmp 4]) (startSt pi_leap_Table_behind 18 d) = f_leap_Table_behind_m () d := by kernel_rfl
def g_leap_Table_behind (d : Unit × (((Option ((List (Int × Int)) × (Int × Int))) × Unit) × ((Int × Unit) × Unit))) : Option (Unit × ((Int × Unit) × Unit)) := f_leap_Table_behind_m () d
theorem ok_leap_Table_behind : FnOk Try.prog ET0 110 pi_leap_Table_behind po_leap_Table_behind g_leap_Table_behind :=
  fn_of_body (E := E_leap_Table_behind) (envOk_add (envOk_add e0_ok (typed_ok ok_slices_BinarySearchFunc_leap_Row_leap_Row_i64_leap_Table_behind_1)) (typed_ok ok_leap_Table_list)) (fn := Try.f110) Try.func110 (by kernel_rfl) (by kernel_rfl) [.tmp 4] (by kernel_rfl) (by kernel_rfl) (by decide) rfl c_leap_Table_behind L_leap_Table_behind
    (by intro x hx; cases hx) (by intro k x hx; cases hx) (fun d out h => ⟨0, (q_leap_Table_behind_m 0 d).trans h⟩)

/- (*horologe/leap.Table).change -/
@[reducible] def pi_leap_Table_change : PSh := ⟨[], [.mk false [.v (.nptr (.pair (.sl (.pair (.int .i64) (.int .i64))) (.pair (.int .i64) (.int .i64))))], .mk false [.v (.int .i64)]]⟩
@[reducible] def po_leap_Table_change : PSh := ⟨[], [.mk false [.v (.int .i64)]]⟩
def f_leap_Table_change_m (T : Unit) (d : Unit × (((Option ((List (Int × Int)) × (Int × Int))) × Unit) × ((Int × Unit) × Unit))) : Option (Unit × ((Int × Unit) × Unit)) :=
  let x1 : Int := (isub .i64 d.2.2.1.1 (1 : Int))
  (g_leap_Table_Row ((), ((d.2.1.1, ()), ((x1, ()), ())))).bind fun x2 =>
  let x3 : Bool := (!x2.2.2.1.1)
  bif x3 then (
  some ((), (((0 : Int), ()), ())))
  else (
  d.2.1.1.bind fun x4 =>
  bif decide ((0 : Int) ≤ d.2.2.1.1) && decide (d.2.2.1.1 < (x4.1.length : Int)) then (
  let x5 : Int := (isub .i64 (gd_i64_i64 x4.1 d.2.2.1.1).2 x2.2.1.2.1)
  some ((), ((x5, ()), ())))
  else none)
def c_leap_Table_change : List Nat := []
def L_leap_Table_change (_ : Nat) : Pts po_leap_Table_change.den := []
def E_leap_Table_change : Env := (E0.add 109 (typedSem pi_leap_Table_Row po_leap_Table_Row g_leap_Table_Row))
theorem q_leap_Table_change_m (k : Nat) (d : Unit × (((Option ((List (Int × Int)) × (Int × Int))) × Unit) × ((Int × Unit) × Unit))) : evCode E_leap_Table_change (tab (L_leap_Table_change k)) c_leap_Table_change (bodyOf Try.f111) 0 (finK E_leap_Table_change po_leap_Table_change [.tmp 4]) (startSt pi_leap_Table_change 27 d) = f_leap_Table_change_m () d := by kernel_rfl
def g_leap_Table_change (d : Unit × (((Option ((List (Int × Int)) × (Int × Int))) × Unit) × ((Int × Unit) × Unit))) : Option (Unit × ((Int × Unit) × Unit)) := f_leap_Table_change_m () d
theorem ok_leap_Table_change : FnOk Try.prog ET0 111 pi_leap_Table_change po_leap_Table_change g_leap_Table_change :=
  fn_of_body (E := E_leap_Table_change) (envOk_add e0_ok (typed_ok ok_leap_Table_Row)) (fn := Try.f111) Try.func111 (by kernel_rfl) (by kernel_rfl) [.tmp 4] (by kernel_rfl) (by kernel_rfl) (by decide) rfl c_leap_Table_change L_leap_Table_change
    (by intro x hx; cases hx) (by intro k x hx; cases hx) (fun d out h => ⟨0, (q_leap_Table_change_m 0 d).trans h⟩)

/- (*horologe/leap.Table).Leap -/
@[reducible] def pi_leap_Table_Leap : PSh := ⟨[], [.mk false [.v (.nptr (.pair (.sl (.pair (.int .i64) (.int .i64))) (.pair (.int .i64) (.int .i64))))], .mk false [.v (.int .i64)]]⟩
@[reducible] def po_leap_Table_Leap : PSh := ⟨[], [.mk false [.v (.int .i64)]]⟩
def f_leap_Table_Leap_m (T : Unit) (d : Unit × (((Option ((List (Int × Int)) × (Int × Int))) × Unit) × ((Int × Unit) × Unit))) : Option (Unit × ((Int × Unit) × Unit)) :=
  (g_leap_Table_behind ((), ((d.2.1.1, ()), ((d.2.2.1.1, ()), ())))).bind fun x1 =>
  (g_leap_Table_Row ((), ((d.2.1.1, ()), ((x1.2.1.1, ()), ())))).bind fun x2 =>
  let x3 : Bool := (!x2.2.2.1.1)
  bif x3 then (
  some ((), (((0 : Int), ()), ())))
  else (
  let x4 : Int := (isub .i64 x2.2.1.1 (1 : Int))
  let x5 : Bool := (x4 != d.2.2.1.1)
  bif x5 then (
  some ((), (((0 : Int), ()), ())))
  else (
  (g_leap_Table_behind ((), ((d.2.1.1, ()), ((d.2.2.1.1, ()), ())))).bind fun x6 =>
  (g_leap_Table_change ((), ((d.2.1.1, ()), ((x6.2.1.1, ()), ())))).bind fun x7 =>
  some ((), ((x7.2.1.1, ()), ()))))
def c_leap_Table_Leap : List Nat := []
def L_leap_Table_Leap (_ : Nat) : Pts po_leap_Table_Leap.den := []
def E_leap_Table_Leap : Env := (((E0.add 109 (typedSem pi_leap_Table_Row po_leap_Table_Row g_leap_Table_Row)).add 110 (typedSem pi_leap_Table_behind po_leap_Table_behind g_leap_Table_behind)).add 111 (typedSem pi_leap_Table_change po_leap_Table_change g_leap_Table_change))
theorem q_leap_Table_Leap_m (k : Nat) (d : Unit × (((Option ((List (Int × Int)) × (Int × Int))) × Unit) × ((Int × Unit) × Unit))) : evCode E_leap_Table_Leap (tab (L_leap_Table_Leap k)) c_leap_Table_Leap (bodyOf Try.f57) 0 (finK E_leap_Table_Leap po_leap_Table_Leap [.tmp 4]) (startSt pi_leap_Table_Leap 29 d) = f_leap_Table_Leap_m () d := by kernel_rfl
def g_leap_Table_Leap (d : Unit × (((Option ((List (Int × Int)) × (Int × Int))) × Unit) × ((Int × Unit) × Unit))) : Option (Unit × ((Int × Unit) × Unit)) := f_leap_Table_Leap_m () d
theorem ok_leap_Table_Leap : FnOk Try.prog ET0 57 pi_leap_Table_Leap po_leap_Table_Leap g_leap_Table_Leap :=
  fn_of_body (E := E_leap_Table_Leap) (envOk_add (envOk_add (envOk_add e0_ok (typed_ok ok_leap_Table_Row)) (typed_ok ok_leap_Table_behind)) (typed_ok ok_leap_Table_change)) (fn := Try.f57) Try.func57 (by kernel_rfl) (by kernel_rfl) [.tmp 4] (by kernel_rfl) (by kernel_rfl) (by decide) rfl c_leap_Table_Leap L_leap_Table_Leap
    (by intro x hx; cases hx) (by intro k x hx; cases hx) (fun d out h => ⟨0, (q_leap_Table_Leap_m 0 d).trans h⟩)

/- horologe/nist.Leap -/
@[reducible] def pi_nist_Leap : PSh := ⟨[], [.mk false [.v (.nptr (.pair (.sl (.pair (.int .i64) (.int .i64))) (.pair (.int .i64) (.int .i64))))], .mk false [.v (.int .i64)]]⟩
@[reducible] def po_nist_Leap : PSh := ⟨[], [.mk false [.v (.int .i64)], .mk false [.v .err]]⟩
def f_nist_Leap_m (T : Unit) (d : Unit × (((Option ((List (Int × Int)) × (Int × Int))) × Unit) × ((Int × Unit) × Unit))) : Option (Unit × ((Int × Unit) × (((Option Int) × Unit) × Unit))) :=
  (g_day_Date ((), ((d.2.2.1.1, ()), ()))).bind fun x1 =>
  let x2 : Bool := (!x1.2.2.2.2.1.1.isNone)
  bif x2 then (
  some ((), (((0 : Int), ()), ((x1.2.2.2.2.1.1, ()), ()))))
  else (
  (g_day_Month ((), ((x1.2.1.1, ()), ((x1.2.2.1.1, ()), ())))).bind fun x3 =>
  let x4 : Bool := (!x3.2.2.1.1.isNone)
  bif x4 then (
  some ((), (((0 : Int), ()), ((x3.2.2.1.1, ()), ()))))
  else (
  (g_day_Of ((), ((x1.2.1.1, ()), ((x1.2.2.1.1, ()), ((x3.2.1.1, ()), ()))))).bind fun x5 =>
  let x6 : Bool := (!x5.2.2.1.1.isNone)
  bif x6 then (
  some ((), (((0 : Int), ()), ((x5.2.2.1.1, ()), ()))))
  else (
  (g_leap_Table_Leap ((), ((d.2.1.1, ()), ((x5.2.1.1, ()), ())))).bind fun x7 =>
  (g_nist_modulo ((), ((x7.2.1.1, ()), (((3 : Int), ()), ())))).bind fun x8 =>
  some ((), ((x8.2.1.1, ()), (((none : Option Int), ()), ()))))))
def c_nist_Leap : List Nat := []
def L_nist_Leap (_ : Nat) : Pts po_nist_Leap.den := []
def E_nist_Leap : Env := (((((E0.add 41 (typedSem pi_day_Date po_day_Date g_day_Date)).add 46 (typedSem pi_nist_modulo po_nist_modulo g_nist_modulo)).add 55 (typedSem pi_day_Month po_day_Month g_day_Month)).add 56 (typedSem pi_day_Of po_day_Of g_day_Of)).add 57 (typedSem pi_leap_Table_Leap po_leap_Table_Leap g_leap_Table_Leap))
theorem q_nist_Leap_m (k : Nat) (d : Unit × (((Option ((List (Int × Int)) × (Int × Int))) × Unit) × ((Int × Unit) × Unit))) : evCode E_nist_Leap (tab (L_nist_Leap k)) c_nist_Leap (bodyOf Try.f21) 0 (finK E_nist_Leap po_nist_Leap [.tmp 4, .tmp 5]) (startSt pi_nist_Leap 45 d) = f_nist_Leap_m () d := by kernel_rfl
def g_nist_Leap (d : Unit × (((Option ((List (Int × Int)) × (Int × Int))) × Unit) × ((Int × Unit) × Unit))) : Option (Unit × ((Int × Unit) × (((Option Int) × Unit) × Unit))) := f_nist_Leap_m () d
theorem ok_nist_Leap : FnOk Try.prog ET0 21 pi_nist_Leap po_nist_Leap g_nist_Leap :=
  fn_of_body (E := E_nist_Leap) (envOk_add (envOk_add (envOk_add (envOk_add (envOk_add e0_ok (typed_ok ok_day_Date)) (typed_ok ok_nist_modulo)) (typed_ok ok_day_Month)) (typed_ok ok_day_Of)) (typed_ok ok_leap_Table_Leap)) (fn := Try.f21) Try.func21 (by kernel_rfl) (by kernel_rfl) [.tmp 4, .tmp 5] (by kernel_rfl) (by kernel_rfl) (by decide) rfl c_nist_Leap L_nist_Leap
    (by intro x hx; cases hx) (by intro k x hx; cases hx) (fun d out h => ⟨0, (q_nist_Leap_m 0 d).trans h⟩)

/- horologe/horologenum.Is -/
@[reducible] def pi_hnum_Is : PSh := ⟨[], [.mk false [.v .err], .mk false [.v (.int .i64)]]⟩
@[reducible] def po_hnum_Is : PSh := ⟨[], [.mk false [.v .bool]]⟩
def f_hnum_Is_m (T : Unit) (d : Unit × (((Option Int) × Unit) × ((Int × Unit) × Unit))) : Option (Unit × ((Bool × Unit) × Unit)) :=
  (g_hnum_Num ((), ((d.2.1.1, ()), ()))).bind fun x1 =>
  let x2 : Bool := (x1.2.1.1 == d.2.2.1.1)
  some ((), ((x2, ()), ()))
def c_hnum_Is : List Nat := []
def L_hnum_Is (_ : Nat) : Pts po_hnum_Is.den := []
def E_hnum_Is : Env := (E0.add 15 (typedSem pi_hnum_Num po_hnum_Num g_hnum_Num))
theorem q_hnum_Is_m (k : Nat) (d : Unit × (((Option Int) × Unit) × ((Int × Unit) × Unit))) : evCode E_hnum_Is (tab (L_hnum_Is k)) c_hnum_Is (bodyOf Try.f23) 0 (finK E_hnum_Is po_hnum_Is [.tmp 4]) (startSt pi_hnum_Is 9 d) = f_hnum_Is_m () d := by kernel_rfl
def g_hnum_Is (d : Unit × (((Option Int) × Unit) × ((Int × Unit) × Unit))) : Option (Unit × ((Bool × Unit) × Unit)) := f_hnum_Is_m () d
theorem ok_hnum_Is : FnOk Try.prog ET0 23 pi_hnum_Is po_hnum_Is g_hnum_Is :=
  fn_of_body (E := E_hnum_Is) (envOk_add e0_ok (typed_ok ok_hnum_Num)) (fn := Try.f23) Try.func23 (by kernel_rfl) (by kernel_rfl) [.tmp 4] (by kernel_rfl) (by kernel_rfl) (by decide) rfl c_hnum_Is L_hnum_Is
    (by intro x hx; cases hx) (by intro k x hx; cases hx) (fun d out h => ⟨0, (q_hnum_Is_m 0 d).trans h⟩)

/- horologe/horologeref10.Check -/
@[reducible] def pi_ref10_Check : PSh := ⟨[], [.mk true [.v (.sl (.pair (.int .i64) (.int .i64))), .v (.int .i64), .v (.int .i64)]]⟩
@[reducible] def po_ref10_Check : PSh := ⟨[], [.mk false [.v (.int .i64)]]⟩
@[reducible] def TT_ref10_Check : Type := ((((((List (Int × Int)) × (Int × (Int × Unit))) × Unit) × (Unit × ((Int × Unit) × Unit))) → Option (Unit × ((Int × Unit) × Unit))) × ((((((List (Int × Int)) × (Int × (Int × Unit))) × Unit) × (Unit × ((Int × Unit) × Unit))) → Option (Unit × ((Int × Unit) × Unit))) × ((((((List (Int × Int)) × (Int × (Int × Unit))) × Unit) × (Unit × ((Int × Unit) × Unit))) → Option (Unit × ((Int × Unit) × Unit))) × Unit)))
@[reducible] def sh_ref10_Check_9 : PSh := ⟨[.var 56 [.v (.sl (.pair (.int .i64) (.int .i64))), .v (.int .i64), .v (.int .i64)]], [.any, .mk false [.ref 0 0], .any, .mk false [.v (.int .i64)], .any, .any, .any, .any, .any, .any, .any, .any, .any, .any, .any, .any, .any, .any, .any, .any, .any, .any, .any, .any, .any, .any, .any, .any, .any, .any, .any, .any, .any, .any, .any, .any, .any, .any, .any, .any, .any, .any, .any, .any, .any, .any, .any, .any, .any, .any, .any, .any, .any, .any, .any, .any, .any, .any, .any, .any, .any, .any, .any, .any, .any, .any, .any, .any, .any, .any, .any, .any, .any, .any, .any, .any, .any, .any, .any, .any, .any, .any, .any, .any, .any, .any, .any, .any, .any, .any, .any, .any, .any, .any, .any, .any, .any, .any, .any, .any, .any, .any, .any, .any, .any, .any, .any, .any, .any, .any, .any, .any, .any, .any, .any, .any, .any, .any, .any, .any, .any, .any, .any, .any, .any, .any, .any, .any, .any, .any, .any, .any, .any, .any, .any, .any]⟩
@[reducible] def sh_ref10_Check_21 : PSh := ⟨[.var 56 [.v (.sl (.pair (.int .i64) (.int .i64))), .v (.int .i64), .v (.int .i64)]], [.any, .mk false [.ref 0 0], .any, .any, .any, .mk false [.v (.int .i64)], .any, .any, .any, .any, .any, .any, .any, .any, .any, .any, .any, .any, .any, .any, .any, .any, .any, .any, .any, .any, .any, .any, .any, .any, .any, .any, .any, .any, .any, .any, .any, .any, .any, .any, .any, .any, .any, .any, .any, .any, .any, .any, .any, .any, .any, .any, .any, .any, .any, .any, .any, .any, .any, .any, .any, .any, .any, .any, .any, .any, .any, .any, .any, .any, .any, .any, .any, .any, .any, .any, .any, .any, .any, .any, .any, .any, .any, .any, .any, .any, .any, .any, .any, .any, .any, .any, .any, .any, .any, .any, .any, .any, .any, .any, .any, .any, .any, .any, .any, .any, .any, .any, .any, .any, .any, .any, .any, .any, .any, .any, .any, .any, .any, .any, .any, .any, .any, .any, .any, .any, .any, .any, .any, .any, .any, .any, .any, .any, .any, .any]⟩
@[reducible] def sh_ref10_Check_30 : PSh := ⟨[.var 56 [.v (.sl (.pair (.int .i64) (.int .i64))), .v (.int .i64), .v (.int .i64)]], [.any, .mk false [.ref 0 0], .any, .any, .any, .any, .any, .any, .any, .mk false [.v (.int .i64)], .any, .any, .any, .any, .any, .any, .any, .any, .any, .any, .any, .any, .any, .any, .any, .any, .any, .any, .any, .any, .any, .any, .any, .any, .any, .any, .any, .any, .any, .any, .any, .any, .any, .any, .any, .any, .any, .any, .any, .any, .any, .any, .any, .any, .any, .any, .any, .any, .any, .any, .any, .any, .any, .any, .any, .any, .any, .any, .any, .any, .any, .any, .any, .any, .any, .any, .any, .any, .any, .any, .any, .any, .any, .any, .any, .any, .any, .any, .any, .any, .any, .any, .any, .any, .any, .any, .any, .any, .any, .any, .any, .any, .any, .any, .any, .any, .any, .any, .any, .any, .any, .any, .any, .any, .any, .any, .any, .any, .any, .any, .any, .any, .any, .any, .any, .any, .any, .any, .any, .any, .any, .any, .any, .any, .any, .any]⟩
def f_ref10_Check_p9 (T : TT_ref10_Check) (d : (((List (Int × Int)) × (Int × (Int × Unit))) × Unit) × (Unit × ((Int × Unit) × Unit))) : Option (Unit × ((Int × Unit) × Unit)) :=
  let x5 : Int := (d.1.1.1.length : Int)
  let x6 : Bool := (decide (d.2.2.1.1 < x5))
  bif x6 then (
  bif decide ((0 : Int) ≤ d.2.2.1.1) && decide (d.2.2.1.1 < (d.1.1.1.length : Int)) then (
  (g_ref05_Start ((), (((1900 : Int), ()), ()))).bind fun x7 =>
  let x8 : Bool := (decide ((gd_i64_i64 d.1.1.1 d.2.2.1.1).1 < x7.2.1.1))
  bif x8 then (
  some ((), (((13 : Int), ()), ())))
  else (
  (g_ref05_Last ((), ())).bind fun x9 =>
  let x10 : Bool := (decide ((gd_i64_i64 d.1.1.1 d.2.2.1.1).1 > x9.2.1.1))
  bif x10 then (
  some ((), (((13 : Int), ()), ())))
  else (
  let x11 : Int := (iadd .i64 d.2.2.1.1 (1 : Int))
  (T.1 (((d.1.1.1, (d.1.1.2.1, (d.1.1.2.2.1, ()))), ()), ((), ((x11, ()), ())))))))
  else none)
  else (
  let x12 : Bool := (decide (d.1.1.2.1 < (0 : Int)))
  bif x12 then (
  some ((), (((1 : Int), ()), ())))
  else (
  let x13 : Bool := (decide (d.1.1.2.1 > (1099511627776 : Int)))
  bif x13 then (
  some ((), (((1 : Int), ()), ())))
  else (
  let x14 : Bool := (decide (d.1.1.2.2.1 < (0 : Int)))
  bif x14 then (
  some ((), (((1 : Int), ()), ())))
  else (
  let x15 : Bool := (decide (d.1.1.2.2.1 > (1099511627776 : Int)))
  bif x15 then (
  some ((), (((1 : Int), ()), ())))
  else (
  (T.2.1 (((d.1.1.1, (d.1.1.2.1, (d.1.1.2.2.1, ()))), ()), ((), (((0 : Int), ()), ())))))))))
def f_ref10_Check_p21 (T : TT_ref10_Check) (d : (((List (Int × Int)) × (Int × (Int × Unit))) × Unit) × (Unit × ((Int × Unit) × Unit))) : Option (Unit × ((Int × Unit) × Unit)) :=
  let x16 : Int := (d.1.1.1.length : Int)
  let x17 : Bool := (decide (d.2.2.1.1 < x16))
  bif x17 then (
  bif decide ((0 : Int) ≤ d.2.2.1.1) && decide (d.2.2.1.1 < (d.1.1.1.length : Int)) then (
  (g_ref05_Date ((), (((gd_i64_i64 d.1.1.1 d.2.2.1.1).1, ()), ()))).bind fun x18 =>
  let x19 : Bool := (x18.2.2.2.1.1 != (1 : Int))
  bif x19 then (
  some ((), (((1 : Int), ()), ())))
  else (
  bif decide ((0 : Int) ≤ d.2.2.1.1) && decide (d.2.2.1.1 < (d.1.1.1.length : Int)) then (
  let x20 : Bool := (decide ((gd_i64_i64 d.1.1.1 d.2.2.1.1).2 < (0 : Int)))
  bif x20 then (
  some ((), (((1 : Int), ()), ())))
  else (
  bif decide ((0 : Int) ≤ d.2.2.1.1) && decide (d.2.2.1.1 < (d.1.1.1.length : Int)) then (
  let x21 : Bool := (decide ((gd_i64_i64 d.1.1.1 d.2.2.1.1).2 > (1000 : Int)))
  bif x21 then (
  some ((), (((1 : Int), ()), ())))
  else (
  let x22 : Int := (iadd .i64 d.2.2.1.1 (1 : Int))
  (T.2.1 (((d.1.1.1, (d.1.1.2.1, (d.1.1.2.2.1, ()))), ()), ((), ((x22, ()), ()))))))
  else none))
  else none))
  else none)
  else (
  (T.2.2.1 (((d.1.1.1, (d.1.1.2.1, (d.1.1.2.2.1, ()))), ()), ((), (((1 : Int), ()), ())))))
def f_ref10_Check_p30 (T : TT_ref10_Check) (d : (((List (Int × Int)) × (Int × (Int × Unit))) × Unit) × (Unit × ((Int × Unit) × Unit))) : Option (Unit × ((Int × Unit) × Unit)) :=
  let x23 : Int := (d.1.1.1.length : Int)
  let x24 : Bool := (decide (d.2.2.1.1 < x23))
  bif x24 then (
  let x25 : Int := (isub .i64 d.2.2.1.1 (1 : Int))
  bif decide ((0 : Int) ≤ x25) && decide (x25 < (d.1.1.1.length : Int)) then (
  bif decide ((0 : Int) ≤ d.2.2.1.1) && decide (d.2.2.1.1 < (d.1.1.1.length : Int)) then (
  let x26 : Bool := (decide ((gd_i64_i64 d.1.1.1 d.2.2.1.1).1 ≤ (gd_i64_i64 d.1.1.1 x25).1))
  bif x26 then (
  some ((), (((6 : Int), ()), ())))
  else (
  let x27 : Int := (iadd .i64 (gd_i64_i64 d.1.1.1 x25).2 (1 : Int))
  let x28 : Bool := ((gd_i64_i64 d.1.1.1 d.2.2.1.1).2 != x27)
  bif x28 then (
  let x29 : Int := (isub .i64 (gd_i64_i64 d.1.1.1 x25).2 (1 : Int))
  let x30 : Bool := ((gd_i64_i64 d.1.1.1 d.2.2.1.1).2 != x29)
  bif x30 then (
  some ((), (((6 : Int), ()), ())))
  else (
  let x31 : Int := (iadd .i64 d.2.2.1.1 (1 : Int))
  (T.2.2.1 (((d.1.1.1, (d.1.1.2.1, (d.1.1.2.2.1, ()))), ()), ((), ((x31, ()), ()))))))
  else (
  let x32 : Int := (iadd .i64 d.2.2.1.1 (1 : Int))
  (T.2.2.1 (((d.1.1.1, (d.1.1.2.1, (d.1.1.2.2.1, ()))), ()), ((), ((x32, ()), ())))))))
  else none)
  else none)
  else (
  some ((), (((0 : Int), ()), ())))
def f_ref10_Check_t : Nat → TT_ref10_Check
  | 0 => (fun _ => none, (fun _ => none, (fun _ => none, ())))
  | k + 1 => (f_ref10_Check_p9 (f_ref10_Check_t k), (f_ref10_Check_p21 (f_ref10_Check_t k), (f_ref10_Check_p30 (f_ref10_Check_t k), ())))
theorem t_ref10_Check (k : Nat) : f_ref10_Check_t (k + 1) = (f_ref10_Check_p9 (f_ref10_Check_t k), (f_ref10_Check_p21 (f_ref10_Check_t k), (f_ref10_Check_p30 (f_ref10_Check_t k), ()))) := rfl
def f_ref10_Check_m (T : TT_ref10_Check) (d : Unit × (((List (Int × Int)) × (Int × (Int × Unit))) × Unit)) : Option (Unit × ((Int × Unit) × Unit)) :=
  let x1 : Int := (d.2.1.1.length : Int)
  let x2 : Bool := (x1 == (0 : Int))
  bif x2 then (
  some ((), (((8 : Int), ()), ())))
  else (
  let x3 : Int := (d.2.1.1.length : Int)
  let x4 : Bool := (decide (x3 > (256 : Int)))
  bif x4 then (
  some ((), (((3 : Int), ()), ())))
  else (
  (T.1 (((d.2.1.1, (d.2.1.2.1, (d.2.1.2.2.1, ()))), ()), ((), (((0 : Int), ()), ()))))))
def c_ref10_Check : List Nat := []
def L_ref10_Check (k : Nat) : Pts po_ref10_Check.den := [(9, ⟨sh_ref10_Check_9, (f_ref10_Check_t k).1⟩), (21, ⟨sh_ref10_Check_21, (f_ref10_Check_t k).2.1⟩), (30, ⟨sh_ref10_Check_30, (f_ref10_Check_t k).2.2.1⟩)]
def E_ref10_Check : Env := (((E0.add 52 (typedSem pi_ref05_Date po_ref05_Date g_ref05_Date)).add 59 (typedSem pi_ref05_Last po_ref05_Last g_ref05_Last)).add 62 (typedSem pi_ref05_Start po_ref05_Start g_ref05_Start))
theorem q_ref10_Check_9 (k : Nat) (d : (((List (Int × Int)) × (Int × (Int × Unit))) × Unit) × (Unit × ((Int × Unit) × Unit))) : evAt E_ref10_Check (tab (L_ref10_Check k)) c_ref10_Check 9 (bodyOf Try.f25) 0 (finK E_ref10_Check po_ref10_Check [.tmp 2]) (ptSt sh_ref10_Check_9 d) = f_ref10_Check_p9 (f_ref10_Check_t k) d := by kernel_rfl
theorem q_ref10_Check_21 (k : Nat) (d : (((List (Int × Int)) × (Int × (Int × Unit))) × Unit) × (Unit × ((Int × Unit) × Unit))) : evAt E_ref10_Check (tab (L_ref10_Check k)) c_ref10_Check 21 (bodyOf Try.f25) 0 (finK E_ref10_Check po_ref10_Check [.tmp 2]) (ptSt sh_ref10_Check_21 d) = f_ref10_Check_p21 (f_ref10_Check_t k) d := by kernel_rfl
theorem q_ref10_Check_30 (k : Nat) (d : (((List (Int × Int)) × (Int × (Int × Unit))) × Unit) × (Unit × ((Int × Unit) × Unit))) : evAt E_ref10_Check (tab (L_ref10_Check k)) c_ref10_Check 30 (bodyOf Try.f25) 0 (finK E_ref10_Check po_ref10_Check [.tmp 2]) (ptSt sh_ref10_Check_30 d) = f_ref10_Check_p30 (f_ref10_Check_t k) d := by kernel_rfl
theorem q_ref10_Check_m (k : Nat) (d : Unit × (((List (Int × Int)) × (Int × (Int × Unit))) × Unit)) : evCode E_ref10_Check (tab (L_ref10_Check k)) c_ref10_Check (bodyOf Try.f25) 0 (finK E_ref10_Check po_ref10_Check [.tmp 2]) (startSt pi_ref10_Check 136 d) = f_ref10_Check_m (f_ref10_Check_t k) d := by kernel_rfl
theorem go_ref10_Check (F : Unit × (((List (Int × Int)) × (Int × (Int × Unit))) × Unit) → Option (Unit × ((Int × Unit) × Unit))) (hF : ∀ d out, F d = some out → ∃ k, f_ref10_Check_m (f_ref10_Check_t k) d = some out) : FnOk Try.prog ET0 25 pi_ref10_Check po_ref10_Check F :=
  fn_of_body (E := E_ref10_Check) (envOk_add (envOk_add (envOk_add e0_ok (typed_ok ok_ref05_Date)) (typed_ok ok_ref05_Last)) (typed_ok ok_ref05_Start)) (fn := Try.f25) Try.func25 (by kernel_rfl) (by kernel_rfl) [.tmp 2] (by kernel_rfl) (by kernel_rfl) (by decide) rfl c_ref10_Check L_ref10_Check
    (by intro x hx d; simp only [L_ref10_Check, List.mem_cons, List.not_mem_nil, or_false] at hx; rcases hx with rfl | rfl | rfl; rfl; rfl; rfl)
    (by intro k x hx d out h; simp only [L_ref10_Check, List.mem_cons, List.not_mem_nil, or_false] at hx; rcases hx with rfl | rfl | rfl; exact (q_ref10_Check_9 k d).trans h; exact (q_ref10_Check_21 k d).trans h; exact (q_ref10_Check_30 k d).trans h)
    (by intro d out h; obtain ⟨k, hk⟩ := hF d out h; exact ⟨k, (q_ref10_Check_m k d).trans hk⟩)
def g_ref10_Check (d : Unit × (((List (Int × Int)) × (Int × (Int × Unit))) × Unit)) : Option (Unit × ((Int × Unit) × Unit)) := lim fun k => f_ref10_Check_m (f_ref10_Check_t k) d
theorem ok_ref10_Check : FnOk Try.prog ET0 25 pi_ref10_Check po_ref10_Check g_ref10_Check := go_ref10_Check g_ref10_Check fun d out h => lim_some h

/- (horologe/leap.Row).dated -/
@[reducible] def pi_leap_Row_dated : PSh := ⟨[], [.mk true [.v (.int .i64), .v (.int .i64)]]⟩
@[reducible] def po_leap_Row_dated : PSh := ⟨[], [.mk false [.v .bool]]⟩
def f_leap_Row_dated_m (T : Unit) (d : Unit × ((Int × (Int × Unit)) × Unit)) : Option (Unit × ((Bool × Unit) × Unit)) :=
  (g_day_Date ((), ((d.2.1.1, ()), ()))).bind fun x1 =>
  bif x1.2.2.2.2.1.1.isNone then (
  let x2 : Bool := (decide (x1.2.1.1 ≥ (1900 : Int)))
  some ((), ((x2, ()), ())))
  else (
  some ((), ((false, ()), ())))
def c_leap_Row_dated : List Nat := []
def L_leap_Row_dated (_ : Nat) : Pts po_leap_Row_dated.den := []
def E_leap_Row_dated : Env := (E0.add 41 (typedSem pi_day_Date po_day_Date g_day_Date))
theorem q_leap_Row_dated_m (k : Nat) (d : Unit × ((Int × (Int × Unit)) × Unit)) : evCode E_leap_Row_dated (tab (L_leap_Row_dated k)) c_leap_Row_dated (bodyOf Try.f113) 0 (finK E_leap_Row_dated po_leap_Row_dated [.tmp 2]) (startSt pi_leap_Row_dated 21 d) = f_leap_Row_dated_m () d := by kernel_rfl
def g_leap_Row_dated (d : Unit × ((Int × (Int × Unit)) × Unit)) : Option (Unit × ((Bool × Unit) × Unit)) := f_leap_Row_dated_m () d
theorem ok_leap_Row_dated : FnOk Try.prog ET0 113 pi_leap_Row_dated po_leap_Row_dated g_leap_Row_dated :=
  fn_of_body (E := E_leap_Row_dated) (envOk_add e0_ok (typed_ok ok_day_Date)) (fn := Try.f113) Try.func113 (by kernel_rfl) (by kernel_rfl) [.tmp 2] (by kernel_rfl) (by kernel_rfl) (by decide) rfl c_leap_Row_dated L_leap_Row_dated
    (by intro x hx; cases hx) (by intro k x hx; cases hx) (fun d out h => ⟨0, (q_leap_Row_dated_m 0 d).trans h⟩)

/- horologe/leap.New$1 -/
@[reducible] def pi_leap_New_1 : PSh := ⟨[], [.mk true [.v (.int .i64), .v (.int .i64)]]⟩
@[reducible] def po_leap_New_1 : PSh := ⟨[], [.mk false [.v .bool]]⟩
def f_leap_New_1_m (T : Unit) (d : Unit × ((Int × (Int × Unit)) × Unit)) : Option (Unit × ((Bool × Unit) × Unit)) :=
  (g_leap_Row_dated ((), ((d.2.1.1, (d.2.1.2.1, ())), ()))).bind fun x1 =>
  let x2 : Bool := (!x1.2.1.1)
  some ((), ((x2, ()), ()))
def c_leap_New_1 : List Nat := []
def L_leap_New_1 (_ : Nat) : Pts po_leap_New_1.den := []
def E_leap_New_1 : Env := (E0.add 113 (typedSem pi_leap_Row_dated po_leap_Row_dated g_leap_Row_dated))
theorem q_leap_New_1_m (k : Nat) (d : Unit × ((Int × (Int × Unit)) × Unit)) : evCode E_leap_New_1 (tab (L_leap_New_1 k)) c_leap_New_1 (bodyOf Try.f112) 0 (finK E_leap_New_1 po_leap_New_1 [.tmp 2]) (startSt pi_leap_New_1 6 d) = f_leap_New_1_m () d := by kernel_rfl
def g_leap_New_1 (d : Unit × ((Int × (Int × Unit)) × Unit)) : Option (Unit × ((Bool × Unit) × Unit)) := f_leap_New_1_m () d
theorem ok_leap_New_1 : FnOk Try.prog ET0 112 pi_leap_New_1 po_leap_New_1 g_leap_New_1 :=
  fn_of_body (E := E_leap_New_1) (envOk_add e0_ok (typed_ok ok_leap_Row_dated)) (fn := Try.f112) Try.func112 (by kernel_rfl) (by kernel_rfl) [.tmp 2] (by kernel_rfl) (by kernel_rfl) (by decide) rfl c_leap_New_1 L_leap_New_1
    (by intro x hx; cases hx) (by intro k x hx; cases hx) (fun d out h => ⟨0, (q_leap_New_1_m 0 d).trans h⟩)

/- (horologe/leap.Row).may -/
@[reducible] def pi_leap_Row_may : PSh := ⟨[], [.mk true [.v (.int .i64), .v (.int .i64)]]⟩
@[reducible] def po_leap_Row_may : PSh := ⟨[], [.mk false [.v .bool]]⟩
def f_leap_Row_may_m (T : Unit) (d : Unit × ((Int × (Int × Unit)) × Unit)) : Option (Unit × ((Bool × Unit) × Unit)) :=
  (g_day_Date ((), ((d.2.1.1, ()), ()))).bind fun x1 =>
  bif x1.2.2.2.2.1.1.isNone then (
  let x2 : Bool := (x1.2.2.2.1.1 == (1 : Int))
  bif x2 then (
  let x3 : Bool := (decide (d.2.1.2.1 ≥ (0 : Int)))
  bif x3 then (
  let x4 : Bool := (decide (d.2.1.2.1 ≤ (1000 : Int)))
  some ((), ((x4, ()), ())))
  else (
  some ((), ((false, ()), ()))))
  else (
  some ((), ((false, ()), ()))))
  else (
  some ((), ((false, ()), ())))
def c_leap_Row_may : List Nat := []
def L_leap_Row_may (_ : Nat) : Pts po_leap_Row_may.den := []
def E_leap_Row_may : Env := (E0.add 41 (typedSem pi_day_Date po_day_Date g_day_Date))
theorem q_leap_Row_may_m (k : Nat) (d : Unit × ((Int × (Int × Unit)) × Unit)) : evCode E_leap_Row_may (tab (L_leap_Row_may k)) c_leap_Row_may (bodyOf Try.f115) 0 (finK E_leap_Row_may po_leap_Row_may [.tmp 2]) (startSt pi_leap_Row_may 31 d) = f_leap_Row_may_m () d := by kernel_rfl
def g_leap_Row_may (d : Unit × ((Int × (Int × Unit)) × Unit)) : Option (Unit × ((Bool × Unit) × Unit)) := f_leap_Row_may_m () d
theorem ok_leap_Row_may : FnOk Try.prog ET0 115 pi_leap_Row_may po_leap_Row_may g_leap_Row_may :=
  fn_of_body (E := E_leap_Row_may) (envOk_add e0_ok (typed_ok ok_day_Date)) (fn := Try.f115) Try.func115 (by kernel_rfl) (by kernel_rfl) [.tmp 2] (by kernel_rfl) (by kernel_rfl) (by decide) rfl c_leap_Row_may L_leap_Row_may
    (by intro x hx; cases hx) (by intro k x hx; cases hx) (fun d out h => ⟨0, (q_leap_Row_may_m 0 d).trans h⟩)

/- horologe/leap.New$2 -/
@[reducible] def pi_leap_New_2 : PSh := ⟨[], [.mk true [.v (.int .i64), .v (.int .i64)]]⟩
@[reducible] def po_leap_New_2 : PSh := ⟨[], [.mk false [.v .bool]]⟩
def f_leap_New_2_m (T : Unit) (d : Unit × ((Int × (Int × Unit)) × Unit)) : Option (Unit × ((Bool × Unit) × Unit)) :=
  (g_leap_Row_may ((), ((d.2.1.1, (d.2.1.2.1, ())), ()))).bind fun x1 =>
  let x2 : Bool := (!x1.2.1.1)
  some ((), ((x2, ()), ()))
def c_leap_New_2 : List Nat := []
def L_leap_New_2 (_ : Nat) : Pts po_leap_New_2.den := []
def E_leap_New_2 : Env := (E0.add 115 (typedSem pi_leap_Row_may po_leap_Row_may g_leap_Row_may))
theorem q_leap_New_2_m (k : Nat) (d : Unit × ((Int × (Int × Unit)) × Unit)) : evCode E_leap_New_2 (tab (L_leap_New_2 k)) c_leap_New_2 (bodyOf Try.f114) 0 (finK E_leap_New_2 po_leap_New_2 [.tmp 2]) (startSt pi_leap_New_2 6 d) = f_leap_New_2_m () d := by kernel_rfl
def g_leap_New_2 (d : Unit × ((Int × (Int × Unit)) × Unit)) : Option (Unit × ((Bool × Unit) × Unit)) := f_leap_New_2_m () d
theorem ok_leap_New_2 : FnOk Try.prog ET0 114 pi_leap_New_2 po_leap_New_2 g_leap_New_2 :=
  fn_of_body (E := E_leap_New_2) (envOk_add e0_ok (typed_ok ok_leap_Row_may)) (fn := Try.f114) Try.func114 (by kernel_rfl) (by kernel_rfl) [.tmp 2] (by kernel_rfl) (by kernel_rfl) (by decide) rfl c_leap_New_2 L_leap_New_2
    (by intro x hx; cases hx) (by intro k x hx; cases hx) (fun d out h => ⟨0, (q_leap_New_2_m 0 d).trans h⟩)

/- horologe/leap.time -/
@[reducible] def pi_leap_time : PSh := ⟨[], [.mk false [.v (.int .i64)]]⟩
@[reducible] def po_leap_time : PSh := ⟨[], [.mk false [.v .bool]]⟩
def f_leap_time_m (T : Unit) (d : Unit × ((Int × Unit) × Unit)) : Option (Unit × ((Bool × Unit) × Unit)) :=
  let x1 : Bool := (decide (d.2.1.1 ≥ (0 : Int)))
  bif x1 then (
  let x2 : Bool := (decide (d.2.1.1 ≤ (1099511627776 : Int)))
  some ((), ((x2, ()), ())))
  else (
  some ((), ((false, ()), ())))
def c_leap_time : List Nat := []
def L_leap_time (_ : Nat) : Pts po_leap_time.den := []
def E_leap_time : Env := E0
theorem q_leap_time_m (k : Nat) (d : Unit × ((Int × Unit) × Unit)) : evCode E_leap_time (tab (L_leap_time k)) c_leap_time (bodyOf Try.f117) 0 (finK E_leap_time po_leap_time [.tmp 2]) (startSt pi_leap_time 9 d) = f_leap_time_m () d := by kernel_rfl
def g_leap_time (d : Unit × ((Int × Unit) × Unit)) : Option (Unit × ((Bool × Unit) × Unit)) := f_leap_time_m () d
theorem ok_leap_time : FnOk Try.prog ET0 117 pi_leap_time po_leap_time g_leap_time :=
  fn_of_body (E := E_leap_time) e0_ok (fn := Try.f117) Try.func117 (by kernel_rfl) (by kernel_rfl) [.tmp 2] (by kernel_rfl) (by kernel_rfl) (by decide) rfl c_leap_time L_leap_time
    (by intro x hx; cases hx) (by intro k x hx; cases hx) (fun d out h => ⟨0, (q_leap_time_m 0 d).trans h⟩)

/- (horologe/leap.Row).follows -/
@[reducible] def pi_leap_Row_follows : PSh := ⟨[], [.mk true [.v (.int .i64), .v (.int .i64)], .mk true [.v (.int .i64), .v (.int .i64)]]⟩
@[reducible] def po_leap_Row_follows : PSh := ⟨[], [.mk false [.v .bool]]⟩
def f_leap_Row_follows_m (T : Unit) (d : Unit × ((Int × (Int × Unit)) × ((Int × (Int × Unit)) × Unit))) : Option (Unit × ((Bool × Unit) × Unit)) :=
  let x1 : Int := (isub .i64 d.2.1.2.1 d.2.2.1.2.1)
  let x2 : Bool := (decide (d.2.1.1 > d.2.2.1.1))
  bif x2 then (
  let x3 : Bool := (x1 == (1 : Int))
  bif x3 then (
  some ((), ((true, ()), ())))
  else (
  let x4 : Bool := (x1 == (-1 : Int))
  some ((), ((x4, ()), ()))))
  else (
  some ((), ((false, ()), ())))
def c_leap_Row_follows : List Nat := []
def L_leap_Row_follows (_ : Nat) : Pts po_leap_Row_follows.den := []
def E_leap_Row_follows : Env := E0
theorem q_leap_Row_follows_m (k : Nat) (d : Unit × ((Int × (Int × Unit)) × ((Int × (Int × Unit)) × Unit))) : evCode E_leap_Row_follows (tab (L_leap_Row_follows k)) c_leap_Row_follows (bodyOf Try.f155) 0 (finK E_leap_Row_follows po_leap_Row_follows [.tmp 4]) (startSt pi_leap_Row_follows 24 d) = f_leap_Row_follows_m () d := by kernel_rfl
def g_leap_Row_follows (d : Unit × ((Int × (Int × Unit)) × ((Int × (Int × Unit)) × Unit))) : Option (Unit × ((Bool × Unit) × Unit)) := f_leap_Row_follows_m () d
theorem ok_leap_Row_follows : FnOk Try.prog ET0 155 pi_leap_Row_follows po_leap_Row_follows g_leap_Row_follows :=
  fn_of_body (E := E_leap_Row_follows) e0_ok (fn := Try.f155) Try.func155 (by kernel_rfl) (by kernel_rfl) [.tmp 4] (by kernel_rfl) (by kernel_rfl) (by decide) rfl c_leap_Row_follows L_leap_Row_follows
    (by intro x hx; cases hx) (by intro k x hx; cases hx) (fun d out h => ⟨0, (q_leap_Row_follows_m 0 d).trans h⟩)

/- horologe/leap.rise -/
@[reducible] def pi_leap_rise : PSh := ⟨[], [.mk false [.v (.sl (.pair (.int .i64) (.int .i64)))]]⟩
@[reducible] def po_leap_rise : PSh := ⟨[], [.mk false [.v .bool]]⟩
@[reducible] def TT_leap_rise : Type := (((Unit × (((List (Int × Int)) × Unit) × ((Int × Unit) × Unit))) → Option (Unit × ((Bool × Unit) × Unit))) × Unit)
@[reducible] def sh_leap_rise_3 : PSh := ⟨[], [.mk false [.v (.sl (.pair (.int .i64) (.int .i64)))], .any, .any, .mk false [.v (.int .i64)], .any, .any, .any, .any, .any, .any, .any, .any, .any, .any, .any, .any, .any, .any, .any, .any, .any]⟩
def f_leap_rise_p3 (T : TT_leap_rise) (d : Unit × (((List (Int × Int)) × Unit) × ((Int × Unit) × Unit))) : Option (Unit × ((Bool × Unit) × Unit)) :=
  let x1 : Int := (d.2.1.1.length : Int)
  let x2 : Bool := (decide (d.2.2.1.1 < x1))
  bif x2 then (
  bif decide ((0 : Int) ≤ d.2.2.1.1) && decide (d.2.2.1.1 < (d.2.1.1.length : Int)) then (
  let x3 : Int := (isub .i64 d.2.2.1.1 (1 : Int))
  bif decide ((0 : Int) ≤ x3) && decide (x3 < (d.2.1.1.length : Int)) then (
  (g_leap_Row_follows ((), (((gd_i64_i64 d.2.1.1 d.2.2.1.1).1, ((gd_i64_i64 d.2.1.1 d.2.2.1.1).2, ())), (((gd_i64_i64 d.2.1.1 x3).1, ((gd_i64_i64 d.2.1.1 x3).2, ())), ())))).bind fun x4 =>
  let x5 : Bool := (!x4.2.1.1)
  bif x5 then (
  some ((), ((false, ()), ())))
  else (
  let x6 : Int := (iadd .i64 d.2.2.1.1 (1 : Int))
  (T.1 ((), ((d.2.1.1, ()), ((x6, ()), ()))))))
  else none)
  else none)
  else (
  some ((), ((true, ()), ())))
def f_leap_rise_t : Nat → TT_leap_rise
  | 0 => (fun _ => none, ())
  | k + 1 => (f_leap_rise_p3 (f_leap_rise_t k), ())
theorem t_leap_rise (k : Nat) : f_leap_rise_t (k + 1) = (f_leap_rise_p3 (f_leap_rise_t k), ()) := rfl
def f_leap_rise_m (T : TT_leap_rise) (d : Unit × (((List (Int × Int)) × Unit) × Unit)) : Option (Unit × ((Bool × Unit) × Unit)) :=
  (T.1 ((), ((d.2.1.1, ()), (((1 : Int), ()), ()))))
def c_leap_rise : List Nat := []
def L_leap_rise (k : Nat) : Pts po_leap_rise.den := [(3, ⟨sh_leap_rise_3, (f_leap_rise_t k).1⟩)]
def E_leap_rise : Env := (E0.add 155 (typedSem pi_leap_Row_follows po_leap_Row_follows g_leap_Row_follows))
theorem q_leap_rise_3 (k : Nat) (d : Unit × (((List (Int × Int)) × Unit) × ((Int × Unit) × Unit))) : evAt E_leap_rise (tab (L_leap_rise k)) c_leap_rise 3 (bodyOf Try.f118) 0 (finK E_leap_rise po_leap_rise [.tmp 2]) (ptSt sh_leap_rise_3 d) = f_leap_rise_p3 (f_leap_rise_t k) d := by kernel_rfl
theorem q_leap_rise_m (k : Nat) (d : Unit × (((List (Int × Int)) × Unit) × Unit)) : evCode E_leap_rise (tab (L_leap_rise k)) c_leap_rise (bodyOf Try.f118) 0 (finK E_leap_rise po_leap_rise [.tmp 2]) (startSt pi_leap_rise 21 d) = f_leap_rise_m (f_leap_rise_t k) d := by kernel_rfl
theorem go_leap_rise (F : Unit × (((List (Int × Int)) × Unit) × Unit) → Option (Unit × ((Bool × Unit) × Unit))) (hF : ∀ d out, F d = some out → ∃ k, f_leap_rise_m (f_leap_rise_t k) d = some out) : FnOk Try.prog ET0 118 pi_leap_rise po_leap_rise F :=
  fn_of_body (E := E_leap_rise) (envOk_add e0_ok (typed_ok ok_leap_Row_follows)) (fn := Try.f118) Try.func118 (by kernel_rfl) (by kernel_rfl) [.tmp 2] (by kernel_rfl) (by kernel_rfl) (by decide) rfl c_leap_rise L_leap_rise
    (by intro x hx d; simp only [L_leap_rise, List.mem_cons, List.not_mem_nil, or_false] at hx; subst hx; rfl)
    (by intro k x hx d out h; simp only [L_leap_rise, List.mem_cons, List.not_mem_nil, or_false] at hx; subst hx; exact (q_leap_rise_3 k d).trans h)
    (by intro d out h; obtain ⟨k, hk⟩ := hF d out h; exact ⟨k, (q_leap_rise_m k d).trans hk⟩)
def g_leap_rise (d : Unit × (((List (Int × Int)) × Unit) × Unit)) : Option (Unit × ((Bool × Unit) × Unit)) := lim fun k => f_leap_rise_m (f_leap_rise_t k) d
theorem ok_leap_rise : FnOk Try.prog ET0 118 pi_leap_rise po_leap_rise g_leap_rise := go_leap_rise g_leap_rise fun d out h => lim_some h

/- slices.Clone[[]horologe/leap.Row,horologe/leap.Row] -/
@[reducible] def pi_slices_Clone_leap_Row_leap_Row : PSh := ⟨[], [.mk false [.v (.sl (.pair (.int .i64) (.int .i64)))]]⟩
@[reducible] def po_slices_Clone_leap_Row_leap_Row : PSh := ⟨[.row 149 (.pair (.int .i64) (.int .i64))], [.mk false [.osl 0]]⟩
def f_slices_Clone_leap_Row_leap_Row_m (T : Unit) (d : Unit × (((List (Int × Int)) × Unit) × Unit)) : Option (((List (Int × Int)) × Unit) × (Unit × Unit)) :=
  bif d.2.1.1.isEmpty then (
  agree (
  some ((([] : List (Int × Int)), ()), ((), ()))) (
  let x1 : (List (Int × Int)) := ([] : List (Int × Int))
  bif decide (((x1.length + d.2.1.1.length) * 16 : Nat) ≤ 140737488355328) && decide (x1.length + d.2.1.1.length ≤ 9223372036854775807) then (
  let x2 : (List (Int × Int)) := (x1 ++ d.2.1.1)
  some ((x2, ()), ((), ())))
  else none))
  else (
  let x3 : (List (Int × Int)) := ([] : List (Int × Int))
  bif decide (((x3.length + d.2.1.1.length) * 16 : Nat) ≤ 140737488355328) && decide (x3.length + d.2.1.1.length ≤ 9223372036854775807) then (
  let x4 : (List (Int × Int)) := (x3 ++ d.2.1.1)
  some ((x4, ()), ((), ())))
  else none)
def c_slices_Clone_leap_Row_leap_Row : List Nat := []
def L_slices_Clone_leap_Row_leap_Row (_ : Nat) : Pts po_slices_Clone_leap_Row_leap_Row.den := []
def E_slices_Clone_leap_Row_leap_Row : Env := E0
theorem q_slices_Clone_leap_Row_leap_Row_m (k : Nat) (d : Unit × (((List (Int × Int)) × Unit) × Unit)) : evCode E_slices_Clone_leap_Row_leap_Row (tab (L_slices_Clone_leap_Row_leap_Row k)) c_slices_Clone_leap_Row_leap_Row (bodyOf Try.f119) 0 (finK E_slices_Clone_leap_Row_leap_Row po_slices_Clone_leap_Row_leap_Row [.tmp 2]) (startSt pi_slices_Clone_leap_Row_leap_Row 8 d) = f_slices_Clone_leap_Row_leap_Row_m () d := by kernel_rfl
def g_slices_Clone_leap_Row_leap_Row (d : Unit × (((List (Int × Int)) × Unit) × Unit)) : Option (((List (Int × Int)) × Unit) × (Unit × Unit)) := f_slices_Clone_leap_Row_leap_Row_m () d
theorem ok_slices_Clone_leap_Row_leap_Row : FnOk Try.prog ET0 119 pi_slices_Clone_leap_Row_leap_Row po_slices_Clone_leap_Row_leap_Row g_slices_Clone_leap_Row_leap_Row :=
  fn_of_body (E := E_slices_Clone_leap_Row_leap_Row) e0_ok (fn := Try.f119) Try.func119 (by kernel_rfl) (by kernel_rfl) [.tmp 2] (by kernel_rfl) (by kernel_rfl) (by decide) rfl c_slices_Clone_leap_Row_leap_Row L_slices_Clone_leap_Row_leap_Row
    (by intro x hx; cases hx) (by intro k x hx; cases hx) (fun d out h => ⟨0, (q_slices_Clone_leap_Row_leap_Row_m 0 d).trans h⟩)

/- slices.IndexFunc[[]horologe/leap.Row,horologe/leap.Row] -/
@[reducible] def pi_slices_IndexFunc_leap_Row_leap_Row_leap_New_1 : PSh := ⟨[], [.mk false [.v (.sl (.pair (.int .i64) (.int .i64)))], .mk false [.fn 112 []]]⟩
@[reducible] def po_slices_IndexFunc_leap_Row_leap_Row_leap_New_1 : PSh := ⟨[], [.mk false [.v (.int .i64)]]⟩
@[reducible] def TT_slices_IndexFunc_leap_Row_leap_Row_leap_New_1 : Type := (((Unit × (((List (Int × Int)) × Unit) × (Unit × ((Int × Unit) × ((Int × Unit) × Unit))))) → Option (Unit × ((Int × Unit) × Unit))) × Unit)
@[reducible] def sh_slices_IndexFunc_leap_Row_leap_Row_leap_New_1_3 : PSh := ⟨[], [.mk false [.v (.sl (.pair (.int .i64) (.int .i64)))], .mk false [.fn 112 []], .any, .any, .any, .any, .any, .mk false [.v (.int .i64)], .mk false [.v (.int .i64)], .any, .any, .any, .any, .any, .any, .any, .any, .any, .any]⟩
def f_slices_IndexFunc_leap_Row_leap_Row_leap_New_1_p3 (T : TT_slices_IndexFunc_leap_Row_leap_Row_leap_New_1) (d : Unit × (((List (Int × Int)) × Unit) × (Unit × ((Int × Unit) × ((Int × Unit) × Unit))))) : Option (Unit × ((Int × Unit) × Unit)) :=
  let x2 : Bool := (decide (d.2.2.2.2.1.1 < d.2.2.2.1.1))
  bif x2 then (
  bif decide ((0 : Int) ≤ d.2.2.2.2.1.1) && decide (d.2.2.2.2.1.1 < (d.2.1.1.length : Int)) then (
  (g_leap_New_1 ((), (((gd_i64_i64 d.2.1.1 d.2.2.2.2.1.1).1, ((gd_i64_i64 d.2.1.1 d.2.2.2.2.1.1).2, ())), ()))).bind fun x3 =>
  bif x3.2.1.1 then (
  some ((), ((d.2.2.2.2.1.1, ()), ())))
  else (
  let x4 : Int := (iadd .i64 d.2.2.2.2.1.1 (1 : Int))
  (T.1 ((), ((d.2.1.1, ()), ((), ((d.2.2.2.1.1, ()), ((x4, ()), ()))))))))
  else none)
  else (
  some ((), (((-1 : Int), ()), ())))
def f_slices_IndexFunc_leap_Row_leap_Row_leap_New_1_t : Nat → TT_slices_IndexFunc_leap_Row_leap_Row_leap_New_1
  | 0 => (fun _ => none, ())
  | k + 1 => (f_slices_IndexFunc_leap_Row_leap_Row_leap_New_1_p3 (f_slices_IndexFunc_leap_Row_leap_Row_leap_New_1_t k), ())
theorem t_slices_IndexFunc_leap_Row_leap_Row_leap_New_1 (k : Nat) : f_slices_IndexFunc_leap_Row_leap_Row_leap_New_1_t (k + 1) = (f_slices_IndexFunc_leap_Row_leap_Row_leap_New_1_p3 (f_slices_IndexFunc_leap_Row_leap_Row_leap_New_1_t k), ()) := rfl
def f_slices_IndexFunc_leap_Row_leap_Row_leap_New_1_m (T : TT_slices_IndexFunc_leap_Row_leap_Row_leap_New_1) (d : Unit × (((List (Int × Int)) × Unit) × (Unit × Unit))) : Option (Unit × ((Int × Unit) × Unit)) :=
  let x1 : Int := (d.2.1.1.length : Int)
  (T.1 ((), ((d.2.1.1, ()), ((), ((x1, ()), (((0 : Int), ()), ()))))))
def c_slices_IndexFunc_leap_Row_leap_Row_leap_New_1 : List Nat := []
def L_slices_IndexFunc_leap_Row_leap_Row_leap_New_1 (k : Nat) : Pts po_slices_IndexFunc_leap_Row_leap_Row_leap_New_1.den := [(3, ⟨sh_slices_IndexFunc_leap_Row_leap_Row_leap_New_1_3, (f_slices_IndexFunc_leap_Row_leap_Row_leap_New_1_t k).1⟩)]
def E_slices_IndexFunc_leap_Row_leap_Row_leap_New_1 : Env := (E0.add 112 (typedSem pi_leap_New_1 po_leap_New_1 g_leap_New_1))
theorem q_slices_IndexFunc_leap_Row_leap_Row_leap_New_1_3 (k : Nat) (d : Unit × (((List (Int × Int)) × Unit) × (Unit × ((Int × Unit) × ((Int × Unit) × Unit))))) : evAt E_slices_IndexFunc_leap_Row_leap_Row_leap_New_1 (tab (L_slices_IndexFunc_leap_Row_leap_Row_leap_New_1 k)) c_slices_IndexFunc_leap_Row_leap_Row_leap_New_1 3 (bodyOf Try.f154) 0 (finK E_slices_IndexFunc_leap_Row_leap_Row_leap_New_1 po_slices_IndexFunc_leap_Row_leap_Row_leap_New_1 [.tmp 4]) (ptSt sh_slices_IndexFunc_leap_Row_leap_Row_leap_New_1_3 d) = f_slices_IndexFunc_leap_Row_leap_Row_leap_New_1_p3 (f_slices_IndexFunc_leap_Row_leap_Row_leap_New_1_t k) d := by kernel_rfl
theorem q_slices_IndexFunc_leap_Row_leap_Row_leap_New_1_m (k : Nat) (d : Unit × (((List (Int × Int)) × Unit) × (Unit × Unit))) : evCode E_slices_IndexFunc_leap_Row_leap_Row_leap_New_1 (tab (L_slices_IndexFunc_leap_Row_leap_Row_leap_New_1 k)) c_slices_IndexFunc_leap_Row_leap_Row_leap_New_1 (bodyOf Try.f154) 0 (finK E_slices_IndexFunc_leap_Row_leap_Row_leap_New_1 po_slices_IndexFunc_leap_Row_leap_Row_leap_New_1 [.tmp 4]) (startSt pi_slices_IndexFunc_leap_Row_leap_Row_leap_New_1 19 d) = f_slices_IndexFunc_leap_Row_leap_Row_leap_New_1_m (f_slices_IndexFunc_leap_Row_leap_Row_leap_New_1_t k) d := by kernel_rfl
theorem go_slices_IndexFunc_leap_Row_leap_Row_leap_New_1 (F : Unit × (((List (Int × Int)) × Unit) × (Unit × Unit)) → Option (Unit × ((Int × Unit) × Unit))) (hF : ∀ d out, F d = some out → ∃ k, f_slices_IndexFunc_leap_Row_leap_Row_leap_New_1_m (f_slices_IndexFunc_leap_Row_leap_Row_leap_New_1_t k) d = some out) : FnOk Try.prog ET0 154 pi_slices_IndexFunc_leap_Row_leap_Row_leap_New_1 po_slices_IndexFunc_leap_Row_leap_Row_leap_New_1 F :=
  fn_of_body (E := E_slices_IndexFunc_leap_Row_leap_Row_leap_New_1) (envOk_add e0_ok (typed_ok ok_leap_New_1)) (fn := Try.f154) Try.func154 (by kernel_rfl) (by kernel_rfl) [.tmp 4] (by kernel_rfl) (by kernel_rfl) (by decide) rfl c_slices_IndexFunc_leap_Row_leap_Row_leap_New_1 L_slices_IndexFunc_leap_Row_leap_Row_leap_New_1
    (by intro x hx d; simp only [L_slices_IndexFunc_leap_Row_leap_Row_leap_New_1, List.mem_cons, List.not_mem_nil, or_false] at hx; subst hx; rfl)
    (by intro k x hx d out h; simp only [L_slices_IndexFunc_leap_Row_leap_Row_leap_New_1, List.mem_cons, List.not_mem_nil, or_false] at hx; subst hx; exact (q_slices_IndexFunc_leap_Row_leap_Row_leap_New_1_3 k d).trans h)
    (by intro d out h; obtain ⟨k, hk⟩ := hF d out h; exact ⟨k, (q_slices_IndexFunc_leap_Row_leap_Row_leap_New_1_m k d).trans hk⟩)
def g_slices_IndexFunc_leap_Row_leap_Row_leap_New_1 (d : Unit × (((List (Int × Int)) × Unit) × (Unit × Unit))) : Option (Unit × ((Int × Unit) × Unit)) := lim fun k => f_slices_IndexFunc_leap_Row_leap_Row_leap_New_1_m (f_slices_IndexFunc_leap_Row_leap_Row_leap_New_1_t k) d
theorem ok_slices_IndexFunc_leap_Row_leap_Row_leap_New_1 : FnOk Try.prog ET0 154 pi_slices_IndexFunc_leap_Row_leap_Row_leap_New_1 po_slices_IndexFunc_leap_Row_leap_Row_leap_New_1 g_slices_IndexFunc_leap_Row_leap_Row_leap_New_1 := go_slices_IndexFunc_leap_Row_leap_Row_leap_New_1 g_slices_IndexFunc_leap_Row_leap_Row_leap_New_1 fun d out h => lim_some h

/- slices.ContainsFunc[[]horologe/leap.Row,horologe/leap.Row] -/
@[reducible] def pi_slices_ContainsFunc_leap_Row_leap_Row_leap_New_1 : PSh := ⟨[], [.mk false [.v (.sl (.pair (.int .i64) (.int .i64)))], .mk false [.fn 112 []]]⟩
@[reducible] def po_slices_ContainsFunc_leap_Row_leap_Row_leap_New_1 : PSh := ⟨[], [.mk false [.v .bool]]⟩
def f_slices_ContainsFunc_leap_Row_leap_Row_leap_New_1_m (T : Unit) (d : Unit × (((List (Int × Int)) × Unit) × (Unit × Unit))) : Option (Unit × ((Bool × Unit) × Unit)) :=
  (g_slices_IndexFunc_leap_Row_leap_Row_leap_New_1 ((), ((d.2.1.1, ()), ((), ())))).bind fun x1 =>
  let x2 : Bool := (decide (x1.2.1.1 ≥ (0 : Int)))
  some ((), ((x2, ()), ()))
def c_slices_ContainsFunc_leap_Row_leap_Row_leap_New_1 : List Nat := []
def L_slices_ContainsFunc_leap_Row_leap_Row_leap_New_1 (_ : Nat) : Pts po_slices_ContainsFunc_leap_Row_leap_Row_leap_New_1.den := []
def E_slices_ContainsFunc_leap_Row_leap_Row_leap_New_1 : Env := (E0.add 154 (typedSem pi_slices_IndexFunc_leap_Row_leap_Row_leap_New_1 po_slices_IndexFunc_leap_Row_leap_Row_leap_New_1 g_slices_IndexFunc_leap_Row_leap_Row_leap_New_1))
theorem q_slices_ContainsFunc_leap_Row_leap_Row_leap_New_1_m (k : Nat) (d : Unit × (((List (Int × Int)) × Unit) × (Unit × Unit))) : evCode E_slices_ContainsFunc_leap_Row_leap_Row_leap_New_1 (tab (L_slices_ContainsFunc_leap_Row_leap_Row_leap_New_1 k)) c_slices_ContainsFunc_leap_Row_leap_Row_leap_New_1 (bodyOf Try.f116) 0 (finK E_slices_ContainsFunc_leap_Row_leap_Row_leap_New_1 po_slices_ContainsFunc_leap_Row_leap_Row_leap_New_1 [.tmp 4]) (startSt pi_slices_ContainsFunc_leap_Row_leap_Row_leap_New_1 9 d) = f_slices_ContainsFunc_leap_Row_leap_Row_leap_New_1_m () d := by kernel_rfl
def g_slices_ContainsFunc_leap_Row_leap_Row_leap_New_1 (d : Unit × (((List (Int × Int)) × Unit) × (Unit × Unit))) : Option (Unit × ((Bool × Unit) × Unit)) := f_slices_ContainsFunc_leap_Row_leap_Row_leap_New_1_m () d
theorem ok_slices_ContainsFunc_leap_Row_leap_Row_leap_New_1 : FnOk Try.prog ET0 116 pi_slices_ContainsFunc_leap_Row_leap_Row_leap_New_1 po_slices_ContainsFunc_leap_Row_leap_Row_leap_New_1 g_slices_ContainsFunc_leap_Row_leap_Row_leap_New_1 :=
  fn_of_body (E := E_slices_ContainsFunc_leap_Row_leap_Row_leap_New_1) (envOk_add e0_ok (typed_ok ok_slices_IndexFunc_leap_Row_leap_Row_leap_New_1)) (fn := Try.f116) Try.func116 (by kernel_rfl) (by kernel_rfl) [.tmp 4] (by kernel_rfl) (by kernel_rfl) (by decide) rfl c_slices_ContainsFunc_leap_Row_leap_Row_leap_New_1 L_slices_ContainsFunc_leap_Row_leap_Row_leap_New_1
    (by intro x hx; cases hx) (by intro k x hx; cases hx) (fun d out h => ⟨0, (q_slices_ContainsFunc_leap_Row_leap_Row_leap_New_1_m 0 d).trans h⟩)

/- slices.IndexFunc[[]horologe/leap.Row,horologe/leap.Row] -/
@[reducible] def pi_slices_IndexFunc_leap_Row_leap_Row_leap_New_2 : PSh := ⟨[], [.mk false [.v (.sl (.pair (.int .i64) (.int .i64)))], .mk false [.fn 114 []]]⟩
@[reducible] def po_slices_IndexFunc_leap_Row_leap_Row_leap_New_2 : PSh := ⟨[], [.mk false [.v (.int .i64)]]⟩
@[reducible] def TT_slices_IndexFunc_leap_Row_leap_Row_leap_New_2 : Type := (((Unit × (((List (Int × Int)) × Unit) × (Unit × ((Int × Unit) × ((Int × Unit) × Unit))))) → Option (Unit × ((Int × Unit) × Unit))) × Unit)
@[reducible] def sh_slices_IndexFunc_leap_Row_leap_Row_leap_New_2_3 : PSh := ⟨[], [.mk false [.v (.sl (.pair (.int .i64) (.int .i64)))], .mk false [.fn 114 []], .any, .any, .any, .any, .any, .mk false [.v (.int .i64)], .mk false [.v (.int .i64)], .any, .any, .any, .any, .any, .any, .any, .any, .any, .any]⟩
def f_slices_IndexFunc_leap_Row_leap_Row_leap_New_2_p3 (T : TT_slices_IndexFunc_leap_Row_leap_Row_leap_New_2) (d : Unit × (((List (Int × Int)) × Unit) × (Unit × ((Int × Unit) × ((Int × Unit) × Unit))))) : Option (Unit × ((Int × Unit) × Unit)) :=
  let x2 : Bool := (decide (d.2.2.2.2.1.1 < d.2.2.2.1.1))
  bif x2 then (
  bif decide ((0 : Int) ≤ d.2.2.2.2.1.1) && decide (d.2.2.2.2.1.1 < (d.2.1.1.length : Int)) then (
  (g_leap_New_2 ((), (((gd_i64_i64 d.2.1.1 d.2.2.2.2.1.1).1, ((gd_i64_i64 d.2.1.1 d.2.2.2.2.1.1).2, ())), ()))).bind fun x3 =>
  bif x3.2.1.1 then (
  some ((), ((d.2.2.2.2.1.1, ()), ())))
  else (
  let x4 : Int := (iadd .i64 d.2.2.2.2.1.1 (1 : Int))
  (T.1 ((), ((d.2.1.1, ()), ((), ((d.2.2.2.1.1, ()), ((x4, ()), ()))))))))
  else none)
  else (
  some ((), (((-1 : Int), ()), ())))
def f_slices_IndexFunc_leap_Row_leap_Row_leap_New_2_t : Nat → TT_slices_IndexFunc_leap_Row_leap_Row_leap_New_2
  | 0 => (fun _ => none, ())
  | k + 1 => (f_slices_IndexFunc_leap_Row_leap_Row_leap_New_2_p3 (f_slices_IndexFunc_leap_Row_leap_Row_leap_New_2_t k), ())
theorem t_slices_IndexFunc_leap_Row_leap_Row_leap_New_2 (k : Nat) : f_slices_IndexFunc_leap_Row_leap_Row_leap_New_2_t (k + 1) = (f_slices_IndexFunc_leap_Row_leap_Row_leap_New_2_p3 (f_slices_IndexFunc_leap_Row_leap_Row_leap_New_2_t k), ()) := rfl
def f_slices_IndexFunc_leap_Row_leap_Row_leap_New_2_m (T : TT_slices_IndexFunc_leap_Row_leap_Row_leap_New_2) (d : Unit × (((List (Int × Int)) × Unit) × (Unit × Unit))) : Option (Unit × ((Int × Unit) × Unit)) :=
  let x1 : Int := (d.2.1.1.length : Int)
  (T.1 ((), ((d.2.1.1, ()), ((), ((x1, ()), (((0 : Int), ()), ()))))))
def c_slices_IndexFunc_leap_Row_leap_Row_leap_New_2 : List Nat := []
def L_slices_IndexFunc_leap_Row_leap_Row_leap_New_2 (k : Nat) : Pts po_slices_IndexFunc_leap_Row_leap_Row_leap_New_2.den := [(3, ⟨sh_slices_IndexFunc_leap_Row_leap_Row_leap_New_2_3, (f_slices_IndexFunc_leap_Row_leap_Row_leap_New_2_t k).1⟩)]
def E_slices_IndexFunc_leap_Row_leap_Row_leap_New_2 : Env := (E0.add 114 (typedSem pi_leap_New_2 po_leap_New_2 g_leap_New_2))
theorem q_slices_IndexFunc_leap_Row_leap_Row_leap_New_2_3 (k : Nat) (d : Unit × (((List (Int × Int)) × Unit) × (Unit × ((Int × Unit) × ((Int × Unit) × Unit))))) : evAt E_slices_IndexFunc_leap_Row_leap_Row_leap_New_2 (tab (L_slices_IndexFunc_leap_Row_leap_Row_leap_New_2 k)) c_slices_IndexFunc_leap_Row_leap_Row_leap_New_2 3 (bodyOf Try.f154) 0 (finK E_slices_IndexFunc_leap_Row_leap_Row_leap_New_2 po_slices_IndexFunc_leap_Row_leap_Row_leap_New_2 [.tmp 4]) (ptSt sh_slices_IndexFunc_leap_Row_leap_Row_leap_New_2_3 d) = f_slices_IndexFunc_leap_Row_leap_Row_leap_New_2_p3 (f_slices_IndexFunc_leap_Row_leap_Row_leap_New_2_t k) d := by kernel_rfl
theorem q_slices_IndexFunc_leap_Row_leap_Row_leap_New_2_m (k : Nat) (d : Unit × (((List (Int × Int)) × Unit) × (Unit × Unit))) : evCode E_slices_IndexFunc_leap_Row_leap_Row_leap_New_2 (tab (L_slices_IndexFunc_leap_Row_leap_Row_leap_New_2 k)) c_slices_IndexFunc_leap_Row_leap_Row_leap_New_2 (bodyOf Try.f154) 0 (finK E_slices_IndexFunc_leap_Row_leap_Row_leap_New_2 po_slices_IndexFunc_leap_Row_leap_Row_leap_New_2 [.tmp 4]) (startSt pi_slices_IndexFunc_leap_Row_leap_Row_leap_New_2 19 d) = f_slices_IndexFunc_leap_Row_leap_Row_leap_New_2_m (f_slices_IndexFunc_leap_Row_leap_Row_leap_New_2_t k) d := by kernel_rfl
theorem go_slices_IndexFunc_leap_Row_leap_Row_leap_New_2 (F : Unit × (((List (Int × Int)) × Unit) × (Unit × Unit)) → Option (Unit × ((Int × Unit) × Unit))) (hF : ∀ d out, F d = some out → ∃ k, f_slices_IndexFunc_leap_Row_leap_Row_leap_New_2_m (f_slices_IndexFunc_leap_Row_leap_Row_leap_New_2_t k) d = some out) : FnOk Try.prog ET0 154 pi_slices_IndexFunc_leap_Row_leap_Row_leap_New_2 po_slices_IndexFunc_leap_Row_leap_Row_leap_New_2 F :=
  fn_of_body (E := E_slices_IndexFunc_leap_Row_leap_Row_leap_New_2) (envOk_add e0_ok (typed_ok ok_leap_New_2)) (fn := Try.f154) Try.func154 (by kernel_rfl) (by kernel_rfl) [.tmp 4] (by kernel_rfl) (by kernel_rfl) (by decide) rfl c_slices_IndexFunc_leap_Row_leap_Row_leap_New_2 L_slices_IndexFunc_leap_Row_leap_Row_leap_New_2
    (by intro x hx d; simp only [L_slices_IndexFunc_leap_Row_leap_Row_leap_New_2, List.mem_cons, List.not_mem_nil, or_false] at hx; subst hx; rfl)
    (by intro k x hx d out h; simp only [L_slices_IndexFunc_leap_Row_leap_Row_leap_New_2, List.mem_cons, List.not_mem_nil, or_false] at hx; subst hx; exact (q_slices_IndexFunc_leap_Row_leap_Row_leap_New_2_3 k d).trans h)
    (by intro d out h; obtain ⟨k, hk⟩ := hF d out h; exact ⟨k, (q_slices_IndexFunc_leap_Row_leap_Row_leap_New_2_m k d).trans hk⟩)
def g_slices_IndexFunc_leap_Row_leap_Row_leap_New_2 (d : Unit × (((List (Int × Int)) × Unit) × (Unit × Unit))) : Option (Unit × ((Int × Unit) × Unit)) := lim fun k => f_slices_IndexFunc_leap_Row_leap_Row_leap_New_2_m (f_slices_IndexFunc_leap_Row_leap_Row_leap_New_2_t k) d
theorem ok_slices_IndexFunc_leap_Row_leap_Row_leap_New_2 : FnOk Try.prog ET0 154 pi_slices_IndexFunc_leap_Row_leap_Row_leap_New_2 po_slices_IndexFunc_leap_Row_leap_Row_leap_New_2 g_slices_IndexFunc_leap_Row_leap_Row_leap_New_2 := go_slices_IndexFunc_leap_Row_leap_Row_leap_New_2 g_slices_IndexFunc_leap_Row_leap_Row_leap_New_2 fun d out h => lim_some h

/- slices.ContainsFunc[[]horologe/leap.Row,horologe/leap.Row] -/
@[reducible] def pi_slices_ContainsFunc_leap_Row_leap_Row_leap_New_2 : PSh := ⟨[], [.mk false [.v (.sl (.pair (.int .i64) (.int .i64)))], .mk false [.fn 114 []]]⟩
@[reducible] def po_slices_ContainsFunc_leap_Row_leap_Row_leap_New_2 : PSh := ⟨[], [.mk false [.v .bool]]⟩
def f_slices_ContainsFunc_leap_Row_leap_Row_leap_New_2_m (T : Unit) (d : Unit × (((List (Int × Int)) × Unit) × (Unit × Unit))) : Option (Unit × ((Bool × Unit) × Unit)) :=
  (g_slices_IndexFunc_leap_Row_leap_Row_leap_New_2 ((), ((d.2.1.1, ()), ((), ())))).bind fun x1 =>
  let x2 : Bool := (decide (x1.2.1.1 ≥ (0 : Int)))
  some ((), ((x2, ()), ()))
def c_slices_ContainsFunc_leap_Row_leap_Row_leap_New_2 : List Nat := []
def L_slices_ContainsFunc_leap_Row_leap_Row_leap_New_2 (_ : Nat) : Pts po_slices_ContainsFunc_leap_Row_leap_Row_leap_New_2.den := []
def E_slices_ContainsFunc_leap_Row_leap_Row_leap_New_2 : Env := (E0.add 154 (typedSem pi_slices_IndexFunc_leap_Row_leap_Row_leap_New_2 po_slices_IndexFunc_leap_Row_leap_Row_leap_New_2 g_slices_IndexFunc_leap_Row_leap_Row_leap_New_2))
theorem q_slices_ContainsFunc_leap_Row_leap_Row_leap_New_2_m (k : Nat) (d : Unit × (((List (Int × Int)) × Unit) × (Unit × Unit))) : evCode E_slices_ContainsFunc_leap_Row_leap_Row_leap_New_2 (tab (L_slices_ContainsFunc_leap_Row_leap_Row_leap_New_2 k)) c_slices_ContainsFunc_leap_Row_leap_Row_leap_New_2 (bodyOf Try.f116) 0 (finK E_slices_ContainsFunc_leap_Row_leap_Row_leap_New_2 po_slices_ContainsFunc_leap_Row_leap_Row_leap_New_2 [.tmp 4]) (startSt pi_slices_ContainsFunc_leap_Row_leap_Row_leap_New_2 9 d) = f_slices_ContainsFunc_leap_Row_leap_Row_leap_New_2_m () d := by kernel_rfl
def g_slices_ContainsFunc_leap_Row_leap_Row_leap_New_2 (d : Unit × (((List (Int × Int)) × Unit) × (Unit × Unit))) : Option (Unit × ((Bool × Unit) × Unit)) := f_slices_ContainsFunc_leap_Row_leap_Row_leap_New_2_m () d
theorem ok_slices_ContainsFunc_leap_Row_leap_Row_leap_New_2 : FnOk Try.prog ET0 116 pi_slices_ContainsFunc_leap_Row_leap_Row_leap_New_2 po_slices_ContainsFunc_leap_Row_leap_Row_leap_New_2 g_slices_ContainsFunc_leap_Row_leap_Row_leap_New_2 :=
  fn_of_body (E := E_slices_ContainsFunc_leap_Row_leap_Row_leap_New_2) (envOk_add e0_ok (typed_ok ok_slices_IndexFunc_leap_Row_leap_Row_leap_New_2)) (fn := Try.f116) Try.func116 (by kernel_rfl) (by kernel_rfl) [.tmp 4] (by kernel_rfl) (by kernel_rfl) (by decide) rfl c_slices_ContainsFunc_leap_Row_leap_Row_leap_New_2 L_slices_ContainsFunc_leap_Row_leap_Row_leap_New_2
    (by intro x hx; cases hx) (by intro k x hx; cases hx) (fun d out h => ⟨0, (q_slices_ContainsFunc_leap_Row_leap_Row_leap_New_2_m 0 d).trans h⟩)

/- horologe/leap.New -/
@[reducible] def pi_leap_New : PSh := ⟨[], [.mk false [.v (.sl (.pair (.int .i64) (.int .i64)))], .mk false [.v (.int .i64)], .mk false [.v (.int .i64)]]⟩
@[reducible] def po_leap_New : PSh := ⟨[], [.mk false [.v (.nptr (.pair (.sl (.pair (.int .i64) (.int .i64))) (.pair (.int .i64) (.int .i64))))], .mk false [.v .err]]⟩
def f_leap_New_m (T : Unit) (d : Unit × (((List (Int × Int)) × Unit) × ((Int × Unit) × ((Int × Unit) × Unit)))) : Option (Unit × (((Option ((List (Int × Int)) × (Int × Int))) × Unit) × (((Option Int) × Unit) × Unit))) :=
  let x1 : Int := (d.2.1.1.length : Int)
  let x2 : Bool := (x1 == (0 : Int))
  bif x2 then (
  let x3 : (Option Int) := (some (8 : Int))
  some ((), (((none : Option ((List (Int × Int)) × (Int × Int))), ()), ((x3, ()), ()))))
  else (
  let x4 : Int := (d.2.1.1.length : Int)
  let x5 : Bool := (decide (x4 > (256 : Int)))
  bif x5 then (
  let x6 : (Option Int) := (some (3 : Int))
  some ((), (((none : Option ((List (Int × Int)) × (Int × Int))), ()), ((x6, ()), ()))))
  else (
  (g_slices_ContainsFunc_leap_Row_leap_Row_leap_New_1 ((), ((d.2.1.1, ()), ((), ())))).bind fun x7 =>
  bif x7.2.1.1 then (
  let x8 : (Option Int) := (some (13 : Int))
  some ((), (((none : Option ((List (Int × Int)) × (Int × Int))), ()), ((x8, ()), ()))))
  else (
  (g_slices_ContainsFunc_leap_Row_leap_Row_leap_New_2 ((), ((d.2.1.1, ()), ((), ())))).bind fun x9 =>
  bif x9.2.1.1 then (
  let x10 : (Option Int) := (some (1 : Int))
  some ((), (((none : Option ((List (Int × Int)) × (Int × Int))), ()), ((x10, ()), ()))))
  else (
  (g_leap_time ((), ((d.2.2.1.1, ()), ()))).bind fun x11 =>
  let x12 : Bool := (!x11.2.1.1)
  bif x12 then (
  let x13 : (Option Int) := (some (1 : Int))
  some ((), (((none : Option ((List (Int × Int)) × (Int × Int))), ()), ((x13, ()), ()))))
  else (
  (g_leap_time ((), ((d.2.2.2.1.1, ()), ()))).bind fun x14 =>
  let x15 : Bool := (!x14.2.1.1)
  bif x15 then (
  let x16 : (Option Int) := (some (1 : Int))
  some ((), (((none : Option ((List (Int × Int)) × (Int × Int))), ()), ((x16, ()), ()))))
  else (
  (g_leap_rise ((), ((d.2.1.1, ()), ()))).bind fun x17 =>
  let x18 : Bool := (!x17.2.1.1)
  bif x18 then (
  let x19 : (Option Int) := (some (6 : Int))
  some ((), (((none : Option ((List (Int × Int)) × (Int × Int))), ()), ((x19, ()), ()))))
  else (
  (g_slices_Clone_leap_Row_leap_Row ((), ((d.2.1.1, ()), ()))).bind fun x20 =>
  some ((), (((some (x20.1.1, (d.2.2.1.1, d.2.2.2.1.1))), ()), (((none : Option Int), ()), ()))))))))))
def c_leap_New : List Nat := []
def L_leap_New (_ : Nat) : Pts po_leap_New.den := []
def E_leap_New : Env := ((((E0.add 116 (altSem pi_slices_ContainsFunc_leap_Row_leap_Row_leap_New_1 (typedSem pi_slices_ContainsFunc_leap_Row_leap_Row_leap_New_1 po_slices_ContainsFunc_leap_Row_leap_Row_leap_New_1 g_slices_ContainsFunc_leap_Row_leap_Row_leap_New_1) (typedSem pi_slices_ContainsFunc_leap_Row_leap_Row_leap_New_2 po_slices_ContainsFunc_leap_Row_leap_Row_leap_New_2 g_slices_ContainsFunc_leap_Row_leap_Row_leap_New_2))).add 117 (typedSem pi_leap_time po_leap_time g_leap_time)).add 118 (typedSem pi_leap_rise po_leap_rise g_leap_rise)).add 119 (typedSem pi_slices_Clone_leap_Row_leap_Row po_slices_Clone_leap_Row_leap_Row g_slices_Clone_leap_Row_leap_Row))
theorem q_leap_New_m (k : Nat) (d : Unit × (((List (Int × Int)) × Unit) × ((Int × Unit) × ((Int × Unit) × Unit)))) : evCode E_leap_New (tab (L_leap_New k)) c_leap_New (bodyOf Try.f60) 0 (finK E_leap_New po_leap_New [.tmp 6, .tmp 7]) (startSt pi_leap_New 51 d) = f_leap_New_m () d := by kernel_rfl
def g_leap_New (d : Unit × (((List (Int × Int)) × Unit) × ((Int × Unit) × ((Int × Unit) × Unit)))) : Option (Unit × (((Option ((List (Int × Int)) × (Int × Int))) × Unit) × (((Option Int) × Unit) × Unit))) := f_leap_New_m () d
theorem ok_leap_New : FnOk Try.prog ET0 60 pi_leap_New po_leap_New g_leap_New :=
  fn_of_body (E := E_leap_New) (envOk_add (envOk_add (envOk_add (envOk_add e0_ok (alt_ok (typed_ok ok_slices_ContainsFunc_leap_Row_leap_Row_leap_New_1) (typed_ok ok_slices_ContainsFunc_leap_Row_leap_Row_leap_New_2))) (typed_ok ok_leap_time)) (typed_ok ok_leap_rise)) (typed_ok ok_slices_Clone_leap_Row_leap_Row)) (fn := Try.f60) Try.func60 (by kernel_rfl) (by kernel_rfl) [.tmp 6, .tmp 7] (by kernel_rfl) (by kernel_rfl) (by decide) rfl c_leap_New L_leap_New
    (by intro x hx; cases hx) (by intro k x hx; cases hx) (fun d out h => ⟨0, (q_leap_New_m 0 d).trans h⟩)

/- horologe/horologelaw10.Document -/
@[reducible] def pi_law10_Document : PSh := ⟨[], [.mk true [.v (.sl (.pair (.int .i64) (.int .i64))), .v (.int .i64), .v (.int .i64)]]⟩
@[reducible] def po_law10_Document : PSh := ⟨[.row 105 (.pair (.int .i64) (.int .i64))], [.mk true [.osl 0, .v (.int .i64), .v (.int .i64)]]⟩
@[reducible] def TT_law10_Document : Type := (((((Int × (Int × Unit)) × ((List (Int × Int)) × ((Int × (Int × Unit)) × ((List (Int × Int)) × Unit)))) × (Unit × (Unit × (((List (Int × Int)) × Unit) × ((Int × Unit) × ((Int × Unit) × Unit)))))) → Option (((List (Int × Int)) × Unit) × ((Int × (Int × Unit)) × Unit))) × Unit)
@[reducible] def sh_law10_Document_4 : PSh := ⟨[.var 56 [.osl 1, .v (.int .i64), .v (.int .i64)], .row 105 (.pair (.int .i64) (.int .i64)), .var 56 [.osl 3, .v (.int .i64), .v (.int .i64)], .row 105 (.pair (.int .i64) (.int .i64))], [.any, .any, .mk false [.ref 0 0], .mk false [.ref 2 0], .any, .any, .any, .any, .any, .any, .any, .any, .mk false [.v (.sl (.pair (.int .i64) (.int .i64)))], .mk false [.v (.int .i64)], .mk false [.v (.int .i64)], .any, .any, .any, .any, .any, .any, .any, .any, .any, .any, .any, .any, .any, .any, .any]⟩
def f_law10_Document_p4 (T : TT_law10_Document) (d : ((Int × (Int × Unit)) × ((List (Int × Int)) × ((Int × (Int × Unit)) × ((List (Int × Int)) × Unit)))) × (Unit × (Unit × (((List (Int × Int)) × Unit) × ((Int × Unit) × ((Int × Unit) × Unit)))))) : Option (((List (Int × Int)) × Unit) × ((Int × (Int × Unit)) × Unit)) :=
  let x2 : Bool := (decide (d.2.2.2.2.2.1.1 < d.2.2.2.2.1.1))
  bif x2 then (
  bif decide ((0 : Int) ≤ d.2.2.2.2.2.1.1) && decide (d.2.2.2.2.2.1.1 < (d.2.2.2.1.1.length : Int)) then (
  let x3 : (List (Int × Int)) := ([((gd_i64_i64 d.2.2.2.1.1 d.2.2.2.2.2.1.1).1, (gd_i64_i64 d.2.2.2.1.1 d.2.2.2.2.2.1.1).2)] : List (Int × Int))
  bif decide (((d.1.2.2.2.1.length + x3.length) * 16 : Nat) ≤ 140737488355328) && decide (d.1.2.2.2.1.length + x3.length ≤ 9223372036854775807) then (
  let x4 : (List (Int × Int)) := (d.1.2.2.2.1 ++ x3)
  let x5 : Int := (iadd .i64 d.2.2.2.2.2.1.1 (1 : Int))
  (T.1 (((d.1.1.1, (d.1.1.2.1, ())), (d.1.2.1, ((d.1.2.2.1.1, (d.1.2.2.1.2.1, ())), (x4, ())))), ((), ((), ((d.2.2.2.1.1, ()), ((d.2.2.2.2.1.1, ()), ((x5, ()), ()))))))))
  else none)
  else none)
  else (
  some ((d.1.2.2.2.1, ()), ((d.1.2.2.1.1, (d.1.2.2.1.2.1, ())), ())))
def f_law10_Document_t : Nat → TT_law10_Document
  | 0 => (fun _ => none, ())
  | k + 1 => (f_law10_Document_p4 (f_law10_Document_t k), ())
theorem t_law10_Document (k : Nat) : f_law10_Document_t (k + 1) = (f_law10_Document_p4 (f_law10_Document_t k), ()) := rfl
def f_law10_Document_m (T : TT_law10_Document) (d : Unit × (((List (Int × Int)) × (Int × (Int × Unit))) × Unit)) : Option (((List (Int × Int)) × Unit) × ((Int × (Int × Unit)) × Unit)) :=
  let x1 : Int := (d.2.1.1.length : Int)
  (T.1 ((((0 : Int), ((0 : Int), ())), (([] : List (Int × Int)), ((d.2.1.2.1, (d.2.1.2.2.1, ())), (([] : List (Int × Int)), ())))), ((), ((), ((d.2.1.1, ()), ((x1, ()), (((0 : Int), ()), ())))))))
def c_law10_Document : List Nat := []
def L_law10_Document (k : Nat) : Pts po_law10_Document.den := [(4, ⟨sh_law10_Document_4, (f_law10_Document_t k).1⟩)]
def E_law10_Document : Env := E0
theorem q_law10_Document_4 (k : Nat) (d : ((Int × (Int × Unit)) × ((List (Int × Int)) × ((Int × (Int × Unit)) × ((List (Int × Int)) × Unit)))) × (Unit × (Unit × (((List (Int × Int)) × Unit) × ((Int × Unit) × ((Int × Unit) × Unit)))))) : evAt E_law10_Document (tab (L_law10_Document k)) c_law10_Document 4 (bodyOf Try.f61) 0 (finK E_law10_Document po_law10_Document [.cell 2 56]) (ptSt sh_law10_Document_4 d) = f_law10_Document_p4 (f_law10_Document_t k) d := by kernel_rfl
theorem q_law10_Document_m (k : Nat) (d : Unit × (((List (Int × Int)) × (Int × (Int × Unit))) × Unit)) : evCode E_law10_Document (tab (L_law10_Document k)) c_law10_Document (bodyOf Try.f61) 0 (finK E_law10_Document po_law10_Document [.cell 2 56]) (startSt pi_law10_Document 30 d) = f_law10_Document_m (f_law10_Document_t k) d := by kernel_rfl
theorem go_law10_Document (F : Unit × (((List (Int × Int)) × (Int × (Int × Unit))) × Unit) → Option (((List (Int × Int)) × Unit) × ((Int × (Int × Unit)) × Unit))) (hF : ∀ d out, F d = some out → ∃ k, f_law10_Document_m (f_law10_Document_t k) d = some out) : FnOk Try.prog ET0 61 pi_law10_Document po_law10_Document F :=
  fn_of_body (E := E_law10_Document) e0_ok (fn := Try.f61) Try.func61 (by kernel_rfl) (by kernel_rfl) [.cell 2 56] (by kernel_rfl) (by kernel_rfl) (by decide) rfl c_law10_Document L_law10_Document
    (by intro x hx d; simp only [L_law10_Document, List.mem_cons, List.not_mem_nil, or_false] at hx; subst hx; rfl)
    (by intro k x hx d out h; simp only [L_law10_Document, List.mem_cons, List.not_mem_nil, or_false] at hx; subst hx; exact (q_law10_Document_4 k d).trans h)
    (by intro d out h; obtain ⟨k, hk⟩ := hF d out h; exact ⟨k, (q_law10_Document_m k d).trans hk⟩)
def g_law10_Document (d : Unit × (((List (Int × Int)) × (Int × (Int × Unit))) × Unit)) : Option (((List (Int × Int)) × Unit) × ((Int × (Int × Unit)) × Unit)) := lim fun k => f_law10_Document_m (f_law10_Document_t k) d
theorem ok_law10_Document : FnOk Try.prog ET0 61 pi_law10_Document po_law10_Document g_law10_Document := go_law10_Document g_law10_Document fun d out h => lim_some h

/- horologe/horologelaw10.Made -/
@[reducible] def pi_law10_Made : PSh := ⟨[], [.mk true [.v (.sl (.pair (.int .i64) (.int .i64))), .v (.int .i64), .v (.int .i64)]]⟩
@[reducible] def po_law10_Made : PSh := ⟨[.row 105 (.pair (.int .i64) (.int .i64))], [.mk false [.v (.nptr (.pair (.sl (.pair (.int .i64) (.int .i64))) (.pair (.int .i64) (.int .i64))))], .mk true [.osl 0, .v (.int .i64), .v (.int .i64)], .mk false [.v .bool]]⟩
def f_law10_Made_m (T : Unit) (d : Unit × (((List (Int × Int)) × (Int × (Int × Unit))) × Unit)) : Option (((List (Int × Int)) × Unit) × (((Option ((List (Int × Int)) × (Int × Int))) × Unit) × ((Int × (Int × Unit)) × ((Bool × Unit) × Unit)))) :=
  (g_leap_New ((), ((d.2.1.1, ()), ((d.2.1.2.1, ()), ((d.2.1.2.2.1, ()), ()))))).bind fun x1 =>
  (g_law10_Document ((), ((d.2.1.1, (d.2.1.2.1, (d.2.1.2.2.1, ()))), ()))).bind fun x2 =>
  bif x1.2.2.1.1.isNone then (
  let x3 : Bool := (!x1.2.1.1.isNone)
  bif x3 then (
  (g_ref10_Check ((), ((x2.1.1, (x2.2.1.1, (x2.2.1.2.1, ()))), ()))).bind fun x4 =>
  let x5 : Bool := (x4.2.1.1 == (0 : Int))
  some ((x2.1.1, ()), ((x1.2.1.1, ()), ((x2.2.1.1, (x2.2.1.2.1, ())), ((x5, ()), ())))))
  else (
  some ((x2.1.1, ()), ((x1.2.1.1, ()), ((x2.2.1.1, (x2.2.1.2.1, ())), ((false, ()), ()))))))
  else (
  some ((x2.1.1, ()), ((x1.2.1.1, ()), ((x2.2.1.1, (x2.2.1.2.1, ())), ((false, ()), ())))))
def c_law10_Made : List Nat := []
def L_law10_Made (_ : Nat) : Pts po_law10_Made.den := []
def E_law10_Made : Env := (((E0.add 25 (typedSem pi_ref10_Check po_ref10_Check g_ref10_Check)).add 60 (typedSem pi_leap_New po_leap_New g_leap_New)).add 61 (typedSem pi_law10_Document po_law10_Document g_law10_Document))
theorem q_law10_Made_m (k : Nat) (d : Unit × (((List (Int × Int)) × (Int × (Int × Unit))) × Unit)) : evCode E_law10_Made (tab (L_law10_Made k)) c_law10_Made (bodyOf Try.f24) 0 (finK E_law10_Made po_law10_Made [.tmp 2, .cell 3 56, .tmp 4]) (startSt pi_law10_Made 33 d) = f_law10_Made_m () d := by kernel_rfl
def g_law10_Made (d : Unit × (((List (Int × Int)) × (Int × (Int × Unit))) × Unit)) : Option (((List (Int × Int)) × Unit) × (((Option ((List (Int × Int)) × (Int × Int))) × Unit) × ((Int × (Int × Unit)) × ((Bool × Unit) × Unit)))) := f_law10_Made_m () d
theorem ok_law10_Made : FnOk Try.prog ET0 24 pi_law10_Made po_law10_Made g_law10_Made :=
  fn_of_body (E := E_law10_Made) (envOk_add (envOk_add (envOk_add e0_ok (typed_ok ok_ref10_Check)) (typed_ok ok_leap_New)) (typed_ok ok_law10_Document)) (fn := Try.f24) Try.func24 (by kernel_rfl) (by kernel_rfl) [.tmp 2, .cell 3 56, .tmp 4] (by kernel_rfl) (by kernel_rfl) (by decide) rfl c_law10_Made L_law10_Made
    (by intro x hx; cases hx) (by intro k x hx; cases hx) (fun d out h => ⟨0, (q_law10_Made_m 0 d).trans h⟩)

/- horologe/horologeref10.Leap -/
@[reducible] def pi_ref10_Leap : PSh := ⟨[], [.mk true [.v (.sl (.pair (.int .i64) (.int .i64))), .v (.int .i64), .v (.int .i64)], .mk false [.v (.int .i64)]]⟩
@[reducible] def po_ref10_Leap : PSh := ⟨[], [.mk false [.v (.int .i64)]]⟩
@[reducible] def TT_ref10_Leap : Type := ((((((List (Int × Int)) × (Int × (Int × Unit))) × Unit) × ((Int × Unit) × (Unit × ((Int × Unit) × Unit)))) → Option (Unit × ((Int × Unit) × Unit))) × Unit)
@[reducible] def sh_ref10_Leap_3 : PSh := ⟨[.var 56 [.v (.sl (.pair (.int .i64) (.int .i64))), .v (.int .i64), .v (.int .i64)]], [.any, .mk false [.v (.int .i64)], .mk false [.ref 0 0], .any, .any, .mk false [.v (.int .i64)], .any, .any, .any, .any, .any, .any, .any, .any, .any, .any, .any, .any, .any, .any, .any, .any, .any, .any, .any, .any, .any, .any, .any, .any, .any, .any, .any, .any, .any, .any]⟩
def f_ref10_Leap_p3 (T : TT_ref10_Leap) (d : (((List (Int × Int)) × (Int × (Int × Unit))) × Unit) × ((Int × Unit) × (Unit × ((Int × Unit) × Unit)))) : Option (Unit × ((Int × Unit) × Unit)) :=
  let x1 : Int := (d.1.1.1.length : Int)
  let x2 : Bool := (decide (d.2.2.2.1.1 < x1))
  bif x2 then (
  bif decide ((0 : Int) ≤ d.2.2.2.1.1) && decide (d.2.2.2.1.1 < (d.1.1.1.length : Int)) then (
  let x3 : Int := (isub .i64 (gd_i64_i64 d.1.1.1 d.2.2.2.1.1).1 (1 : Int))
  let x4 : Bool := (x3 == d.2.1.1)
  bif x4 then (
  bif decide ((0 : Int) ≤ d.2.2.2.1.1) && decide (d.2.2.2.1.1 < (d.1.1.1.length : Int)) then (
  let x5 : Int := (isub .i64 d.2.2.2.1.1 (1 : Int))
  bif decide ((0 : Int) ≤ x5) && decide (x5 < (d.1.1.1.length : Int)) then (
  let x6 : Int := (isub .i64 (gd_i64_i64 d.1.1.1 d.2.2.2.1.1).2 (gd_i64_i64 d.1.1.1 x5).2)
  some ((), ((x6, ()), ())))
  else none)
  else none)
  else (
  let x7 : Int := (iadd .i64 d.2.2.2.1.1 (1 : Int))
  (T.1 (((d.1.1.1, (d.1.1.2.1, (d.1.1.2.2.1, ()))), ()), ((d.2.1.1, ()), ((), ((x7, ()), ())))))))
  else none)
  else (
  some ((), (((0 : Int), ()), ())))
def f_ref10_Leap_t : Nat → TT_ref10_Leap
  | 0 => (fun _ => none, ())
  | k + 1 => (f_ref10_Leap_p3 (f_ref10_Leap_t k), ())
theorem t_ref10_Leap (k : Nat) : f_ref10_Leap_t (k + 1) = (f_ref10_Leap_p3 (f_ref10_Leap_t k), ()) := rfl
def f_ref10_Leap_m (T : TT_ref10_Leap) (d : Unit × (((List (Int × Int)) × (Int × (Int × Unit))) × ((Int × Unit) × Unit))) : Option (Unit × ((Int × Unit) × Unit)) :=
  (T.1 (((d.2.1.1, (d.2.1.2.1, (d.2.1.2.2.1, ()))), ()), ((d.2.2.1.1, ()), ((), (((1 : Int), ()), ())))))
def c_ref10_Leap : List Nat := []
def L_ref10_Leap (k : Nat) : Pts po_ref10_Leap.den := [(3, ⟨sh_ref10_Leap_3, (f_ref10_Leap_t k).1⟩)]
def E_ref10_Leap : Env := E0
theorem q_ref10_Leap_3 (k : Nat) (d : (((List (Int × Int)) × (Int × (Int × Unit))) × Unit) × ((Int × Unit) × (Unit × ((Int × Unit) × Unit)))) : evAt E_ref10_Leap (tab (L_ref10_Leap k)) c_ref10_Leap 3 (bodyOf Try.f63) 0 (finK E_ref10_Leap po_ref10_Leap [.tmp 4]) (ptSt sh_ref10_Leap_3 d) = f_ref10_Leap_p3 (f_ref10_Leap_t k) d := by kernel_rfl
theorem q_ref10_Leap_m (k : Nat) (d : Unit × (((List (Int × Int)) × (Int × (Int × Unit))) × ((Int × Unit) × Unit))) : evCode E_ref10_Leap (tab (L_ref10_Leap k)) c_ref10_Leap (bodyOf Try.f63) 0 (finK E_ref10_Leap po_ref10_Leap [.tmp 4]) (startSt pi_ref10_Leap 36 d) = f_ref10_Leap_m (f_ref10_Leap_t k) d := by kernel_rfl
theorem go_ref10_Leap (F : Unit × (((List (Int × Int)) × (Int × (Int × Unit))) × ((Int × Unit) × Unit)) → Option (Unit × ((Int × Unit) × Unit))) (hF : ∀ d out, F d = some out → ∃ k, f_ref10_Leap_m (f_ref10_Leap_t k) d = some out) : FnOk Try.prog ET0 63 pi_ref10_Leap po_ref10_Leap F :=
  fn_of_body (E := E_ref10_Leap) e0_ok (fn := Try.f63) Try.func63 (by kernel_rfl) (by kernel_rfl) [.tmp 4] (by kernel_rfl) (by kernel_rfl) (by decide) rfl c_ref10_Leap L_ref10_Leap
    (by intro x hx d; simp only [L_ref10_Leap, List.mem_cons, List.not_mem_nil, or_false] at hx; subst hx; rfl)
    (by intro k x hx d out h; simp only [L_ref10_Leap, List.mem_cons, List.not_mem_nil, or_false] at hx; subst hx; exact (q_ref10_Leap_3 k d).trans h)
    (by intro d out h; obtain ⟨k, hk⟩ := hF d out h; exact ⟨k, (q_ref10_Leap_m k d).trans hk⟩)
def g_ref10_Leap (d : Unit × (((List (Int × Int)) × (Int × (Int × Unit))) × ((Int × Unit) × Unit))) : Option (Unit × ((Int × Unit) × Unit)) := lim fun k => f_ref10_Leap_m (f_ref10_Leap_t k) d
theorem ok_ref10_Leap : FnOk Try.prog ET0 63 pi_ref10_Leap po_ref10_Leap g_ref10_Leap := go_ref10_Leap g_ref10_Leap fun d out h => lim_some h

/- horologe/horologeref05.Of -/
@[reducible] def pi_ref05_Of : PSh := ⟨[], [.mk false [.v (.int .i64)], .mk false [.v (.int .i64)], .mk false [.v (.int .i64)]]⟩
@[reducible] def po_ref05_Of : PSh := ⟨[], [.mk false [.v (.int .i64)]]⟩
@[reducible] def TT_ref05_Of : Type := (((Unit × ((Int × Unit) × ((Int × Unit) × ((Int × Unit) × ((Int × Unit) × Unit))))) → Option (Unit × ((Int × Unit) × Unit))) × Unit)
@[reducible] def sh_ref05_Of_4 : PSh := ⟨[], [.mk false [.v (.int .i64)], .mk false [.v (.int .i64)], .any, .any, .any, .any, .any, .mk false [.v (.int .i64)], .mk false [.v (.int .i64)], .any, .any, .any, .any, .any, .any, .any, .any, .any, .any, .any, .any, .any, .any, .any, .any]⟩
def f_ref05_Of_p4 (T : TT_ref05_Of) (d : Unit × ((Int × Unit) × ((Int × Unit) × ((Int × Unit) × ((Int × Unit) × Unit))))) : Option (Unit × ((Int × Unit) × Unit)) :=
  let x4 : Bool := (decide (d.2.2.2.2.1.1 < d.2.2.1.1))
  bif x4 then (
  (g_ref05_Month ((), ((d.2.1.1, ()), ((d.2.2.2.2.1.1, ()), ())))).bind fun x5 =>
  let x6 : Int := (iadd .i64 d.2.2.2.1.1 x5.2.1.1)
  let x7 : Int := (iadd .i64 d.2.2.2.2.1.1 (1 : Int))
  (T.1 ((), ((d.2.1.1, ()), ((d.2.2.1.1, ()), ((x6, ()), ((x7, ()), ())))))))
  else (
  some ((), ((d.2.2.2.1.1, ()), ())))
def f_ref05_Of_t : Nat → TT_ref05_Of
  | 0 => (fun _ => none, ())
  | k + 1 => (f_ref05_Of_p4 (f_ref05_Of_t k), ())
theorem t_ref05_Of (k : Nat) : f_ref05_Of_t (k + 1) = (f_ref05_Of_p4 (f_ref05_Of_t k), ()) := rfl
def f_ref05_Of_m (T : TT_ref05_Of) (d : Unit × ((Int × Unit) × ((Int × Unit) × ((Int × Unit) × Unit)))) : Option (Unit × ((Int × Unit) × Unit)) :=
  (g_ref05_Start ((), ((d.2.1.1, ()), ()))).bind fun x1 =>
  let x2 : Int := (iadd .i64 x1.2.1.1 d.2.2.2.1.1)
  let x3 : Int := (isub .i64 x2 (1 : Int))
  (T.1 ((), ((d.2.1.1, ()), ((d.2.2.1.1, ()), ((x3, ()), (((1 : Int), ()), ()))))))
def c_ref05_Of : List Nat := []
def L_ref05_Of (k : Nat) : Pts po_ref05_Of.den := [(4, ⟨sh_ref05_Of_4, (f_ref05_Of_t k).1⟩)]
def E_ref05_Of : Env := ((E0.add 62 (typedSem pi_ref05_Start po_ref05_Start g_ref05_Start)).add 65 (typedSem pi_ref05_Month po_ref05_Month g_ref05_Month))
theorem q_ref05_Of_4 (k : Nat) (d : Unit × ((Int × Unit) × ((Int × Unit) × ((Int × Unit) × ((Int × Unit) × Unit))))) : evAt E_ref05_Of (tab (L_ref05_Of k)) c_ref05_Of 4 (bodyOf Try.f64) 0 (finK E_ref05_Of po_ref05_Of [.tmp 6]) (ptSt sh_ref05_Of_4 d) = f_ref05_Of_p4 (f_ref05_Of_t k) d := by kernel_rfl
theorem q_ref05_Of_m (k : Nat) (d : Unit × ((Int × Unit) × ((Int × Unit) × ((Int × Unit) × Unit)))) : evCode E_ref05_Of (tab (L_ref05_Of k)) c_ref05_Of (bodyOf Try.f64) 0 (finK E_ref05_Of po_ref05_Of [.tmp 6]) (startSt pi_ref05_Of 25 d) = f_ref05_Of_m (f_ref05_Of_t k) d := by kernel_rfl
theorem go_ref05_Of (F : Unit × ((Int × Unit) × ((Int × Unit) × ((Int × Unit) × Unit))) → Option (Unit × ((Int × Unit) × Unit))) (hF : ∀ d out, F d = some out → ∃ k, f_ref05_Of_m (f_ref05_Of_t k) d = some out) : FnOk Try.prog ET0 64 pi_ref05_Of po_ref05_Of F :=
  fn_of_body (E := E_ref05_Of) (envOk_add (envOk_add e0_ok (typed_ok ok_ref05_Start)) (typed_ok ok_ref05_Month)) (fn := Try.f64) Try.func64 (by kernel_rfl) (by kernel_rfl) [.tmp 6] (by kernel_rfl) (by kernel_rfl) (by decide) rfl c_ref05_Of L_ref05_Of
    (by intro x hx d; simp only [L_ref05_Of, List.mem_cons, List.not_mem_nil, or_false] at hx; subst hx; rfl)
    (by intro k x hx d out h; simp only [L_ref05_Of, List.mem_cons, List.not_mem_nil, or_false] at hx; subst hx; exact (q_ref05_Of_4 k d).trans h)
    (by intro d out h; obtain ⟨k, hk⟩ := hF d out h; exact ⟨k, (q_ref05_Of_m k d).trans hk⟩)
def g_ref05_Of (d : Unit × ((Int × Unit) × ((Int × Unit) × ((Int × Unit) × Unit)))) : Option (Unit × ((Int × Unit) × Unit)) := lim fun k => f_ref05_Of_m (f_ref05_Of_t k) d
theorem ok_ref05_Of : FnOk Try.prog ET0 64 pi_ref05_Of po_ref05_Of g_ref05_Of := go_ref05_Of g_ref05_Of fun d out h => lim_some h

/- horologe/horologeref26.Leap -/
@[reducible] def pi_ref26_Leap : PSh := ⟨[], [.mk true [.v (.sl (.pair (.int .i64) (.int .i64))), .v (.int .i64), .v (.int .i64)], .mk false [.v (.int .i64)]]⟩
@[reducible] def po_ref26_Leap : PSh := ⟨[], [.mk false [.v (.int .i64)], .mk false [.v (.int .i64)]]⟩
def f_ref26_Leap_m (T : Unit) (d : Unit × (((List (Int × Int)) × (Int × (Int × Unit))) × ((Int × Unit) × Unit))) : Option (Unit × ((Int × Unit) × ((Int × Unit) × Unit))) :=
  (g_ref07_There ((), ((d.2.2.1.1, ()), ()))).bind fun x1 =>
  let x2 : Bool := (!x1.2.1.1)
  bif x2 then (
  some ((), (((0 : Int), ()), (((13 : Int), ()), ()))))
  else (
  (g_ref05_Date ((), ((d.2.2.1.1, ()), ()))).bind fun x3 =>
  (g_ref05_Month ((), ((x3.2.1.1, ()), ((x3.2.2.1.1, ()), ())))).bind fun x4 =>
  (g_ref05_Of ((), ((x3.2.1.1, ()), ((x3.2.2.1.1, ()), ((x4.2.1.1, ()), ()))))).bind fun x5 =>
  (g_ref10_Leap ((), ((d.2.1.1, (d.2.1.2.1, (d.2.1.2.2.1, ()))), ((x5.2.1.1, ()), ())))).bind fun x6 =>
  let x7 : Bool := (decide (x6.2.1.1 < (0 : Int)))
  bif x7 then (
  some ((), (((2 : Int), ()), (((0 : Int), ()), ()))))
  else (
  some ((), ((x6.2.1.1, ()), (((0 : Int), ()), ())))))
def c_ref26_Leap : List Nat := []
def L_ref26_Leap (_ : Nat) : Pts po_ref26_Leap.den := []
def E_ref26_Leap : Env := (((((E0.add 22 (typedSem pi_ref07_There po_ref07_There g_ref07_There)).add 52 (typedSem pi_ref05_Date po_ref05_Date g_ref05_Date)).add 63 (typedSem pi_ref10_Leap po_ref10_Leap g_ref10_Leap)).add 64 (typedSem pi_ref05_Of po_ref05_Of g_ref05_Of)).add 65 (typedSem pi_ref05_Month po_ref05_Month g_ref05_Month))
theorem q_ref26_Leap_m (k : Nat) (d : Unit × (((List (Int × Int)) × (Int × (Int × Unit))) × ((Int × Unit) × Unit))) : evCode E_ref26_Leap (tab (L_ref26_Leap k)) c_ref26_Leap (bodyOf Try.f26) 0 (finK E_ref26_Leap po_ref26_Leap [.tmp 4, .tmp 5]) (startSt pi_ref26_Leap 30 d) = f_ref26_Leap_m () d := by kernel_rfl
def g_ref26_Leap (d : Unit × (((List (Int × Int)) × (Int × (Int × Unit))) × ((Int × Unit) × Unit))) : Option (Unit × ((Int × Unit) × ((Int × Unit) × Unit))) := f_ref26_Leap_m () d
theorem ok_ref26_Leap : FnOk Try.prog ET0 26 pi_ref26_Leap po_ref26_Leap g_ref26_Leap :=
  fn_of_body (E := E_ref26_Leap) (envOk_add (envOk_add (envOk_add (envOk_add (envOk_add e0_ok (typed_ok ok_ref07_There)) (typed_ok ok_ref05_Date)) (typed_ok ok_ref10_Leap)) (typed_ok ok_ref05_Of)) (typed_ok ok_ref05_Month)) (fn := Try.f26) Try.func26 (by kernel_rfl) (by kernel_rfl) [.tmp 4, .tmp 5] (by kernel_rfl) (by kernel_rfl) (by decide) rfl c_ref26_Leap L_ref26_Leap
    (by intro x hx; cases hx) (by intro k x hx; cases hx) (fun d out h => ⟨0, (q_ref26_Leap_m 0 d).trans h⟩)

/- horologe/horologelaw26.NistLeaps -/
@[reducible] def pi_law26_NistLeaps : PSh := ⟨[], [.mk true [.v (.sl (.pair (.int .i64) (.int .i64))), .v (.int .i64), .v (.int .i64)], .mk false [.v (.int .i64)]]⟩
@[reducible] def po_law26_NistLeaps : PSh := ⟨[], [.mk false [.v .bool]]⟩
def f_law26_NistLeaps_m (T : Unit) (d : Unit × (((List (Int × Int)) × (Int × (Int × Unit))) × ((Int × Unit) × Unit))) : Option (Unit × ((Bool × Unit) × Unit)) :=
  (g_law26_alive ((), ())).bind fun x1 =>
  let x2 : Bool := (!x1.2.1.1)
  bif x2 then (
  some ((), ((false, ()), ())))
  else (
  (g_law10_Long ((), ((d.2.1.1, (d.2.1.2.1, (d.2.1.2.2.1, ()))), ()))).bind fun x3 =>
  bif x3.2.1.1 then (
  some ((), ((true, ()), ())))
  else (
  (g_nist_Leap ((), (((none : Option ((List (Int × Int)) × (Int × Int))), ()), ((d.2.2.1.1, ()), ())))).bind fun x4 =>
  let x5 : Bool := (x4.2.1.1 != (0 : Int))
  bif x5 then (
  some ((), ((false, ()), ())))
  else (
  (g_ref07_There ((), ((d.2.2.1.1, ()), ()))).bind fun x6 =>
  let x7 : Bool := (!(x4.2.2.1.1.isNone == x6.2.1.1))
  bif x7 then (
  some ((), ((false, ()), ())))
  else (
  let x8 : Bool := (!x4.2.2.1.1.isNone)
  bif x8 then (
  (g_hnum_Is ((), ((x4.2.2.1.1, ()), (((13 : Int), ()), ())))).bind fun x9 =>
  let x10 : Bool := (!x9.2.1.1)
  bif x10 then (
  some ((), ((false, ()), ())))
  else (
  (g_law10_Made ((), ((d.2.1.1, (d.2.1.2.1, (d.2.1.2.2.1, ()))), ()))).bind fun x11 =>
  let x12 : Bool := (!x11.2.2.2.1.1)
  bif x12 then (
  (g_ref10_Check ((), ((x11.1.1, (x11.2.2.1.1, (x11.2.2.1.2.1, ()))), ()))).bind fun x13 =>
  let x14 : Bool := (x13.2.1.1 != (0 : Int))
  some ((), ((x14, ()), ())))
  else (
  (g_nist_Leap ((), ((x11.2.1.1, ()), ((d.2.2.1.1, ()), ())))).bind fun x15 =>
  (g_ref26_Leap ((), ((x11.1.1, (x11.2.2.1.1, (x11.2.2.1.2.1, ()))), ((d.2.2.1.1, ()), ())))).bind fun x16 =>
  let x17 : Bool := (x15.2.1.1 == x16.2.1.1)
  bif x17 then (
  (g_hnum_Num ((), ((x15.2.2.1.1, ()), ()))).bind fun x18 =>
  let x19 : Bool := (x18.2.1.1 == x16.2.2.1.1)
  some ((), ((x19, ()), ())))
  else (
  some ((), ((false, ()), ()))))))
  else (
  (g_law10_Made ((), ((d.2.1.1, (d.2.1.2.1, (d.2.1.2.2.1, ()))), ()))).bind fun x20 =>
  let x21 : Bool := (!x20.2.2.2.1.1)
  bif x21 then (
  (g_ref10_Check ((), ((x20.1.1, (x20.2.2.1.1, (x20.2.2.1.2.1, ()))), ()))).bind fun x22 =>
  let x23 : Bool := (x22.2.1.1 != (0 : Int))
  some ((), ((x23, ()), ())))
  else (
  (g_nist_Leap ((), ((x20.2.1.1, ()), ((d.2.2.1.1, ()), ())))).bind fun x24 =>
  (g_ref26_Leap ((), ((x20.1.1, (x20.2.2.1.1, (x20.2.2.1.2.1, ()))), ((d.2.2.1.1, ()), ())))).bind fun x25 =>
  let x26 : Bool := (x24.2.1.1 == x25.2.1.1)
  bif x26 then (
  (g_hnum_Num ((), ((x24.2.2.1.1, ()), ()))).bind fun x27 =>
  let x28 : Bool := (x27.2.1.1 == x25.2.2.1.1)
  some ((), ((x28, ()), ())))
  else (
  some ((), ((false, ()), ())))))))))
def c_law26_NistLeaps : List Nat := []
def L_law26_NistLeaps (_ : Nat) : Pts po_law26_NistLeaps.den := []
def E_law26_NistLeaps : Env := (((((((((E0.add 10 (typedSem pi_law26_alive po_law26_alive g_law26_alive)).add 15 (typedSem pi_hnum_Num po_hnum_Num g_hnum_Num)).add 20 (typedSem pi_law10_Long po_law10_Long g_law10_Long)).add 21 (typedSem pi_nist_Leap po_nist_Leap g_nist_Leap)).add 22 (typedSem pi_ref07_There po_ref07_There g_ref07_There)).add 23 (typedSem pi_hnum_Is po_hnum_Is g_hnum_Is)).add 24 (typedSem pi_law10_Made po_law10_Made g_law10_Made)).add 25 (typedSem pi_ref10_Check po_ref10_Check g_ref10_Check)).add 26 (typedSem pi_ref26_Leap po_ref26_Leap g_ref26_Leap))
theorem q_law26_NistLeaps_m (k : Nat) (d : Unit × (((List (Int × Int)) × (Int × (Int × Unit))) × ((Int × Unit) × Unit))) : evCode E_law26_NistLeaps (tab (L_law26_NistLeaps k)) c_law26_NistLeaps (bodyOf Try.f4) 0 (finK E_law26_NistLeaps po_law26_NistLeaps [.tmp 4]) (startSt pi_law26_NistLeaps 71 d) = f_law26_NistLeaps_m () d := by kernel_rfl
def g_law26_NistLeaps (d : Unit × (((List (Int × Int)) × (Int × (Int × Unit))) × ((Int × Unit) × Unit))) : Option (Unit × ((Bool × Unit) × Unit)) := f_law26_NistLeaps_m () d
theorem ok_law26_NistLeaps : FnOk Try.prog ET0 4 pi_law26_NistLeaps po_law26_NistLeaps g_law26_NistLeaps :=
  fn_of_body (E := E_law26_NistLeaps) (envOk_add (envOk_add (envOk_add (envOk_add (envOk_add (envOk_add (envOk_add (envOk_add (envOk_add e0_ok (typed_ok ok_law26_alive)) (typed_ok ok_hnum_Num)) (typed_ok ok_law10_Long)) (typed_ok ok_nist_Leap)) (typed_ok ok_ref07_There)) (typed_ok ok_hnum_Is)) (typed_ok ok_law10_Made)) (typed_ok ok_ref10_Check)) (typed_ok ok_ref26_Leap)) (fn := Try.f4) Try.func4 (by kernel_rfl) (by kernel_rfl) [.tmp 4] (by kernel_rfl) (by kernel_rfl) (by decide) rfl c_law26_NistLeaps L_law26_NistLeaps
    (by intro x hx; cases hx) (by intro k x hx; cases hx) (fun d out h => ⟨0, (q_law26_NistLeaps_m 0 d).trans h⟩)

/- horologe/scan.New[string] -/
@[reducible] def pi_scan_New_string : PSh := ⟨[], [.mk false [.v .str]]⟩
@[reducible] def po_scan_New_string : PSh := ⟨[.var 159 [.v .str, .v (.int .i64), .v .err]], [.mk false [.ref 0 0]]⟩
def f_scan_New_string_m (T : Unit) (d : Unit × ((ByteArray × Unit) × Unit)) : Option (((ByteArray × (Int × ((Option Int) × Unit))) × Unit) × (Unit × Unit)) :=
  some (((d.2.1.1, ((0 : Int), ((none : Option Int), ()))), ()), ((), ()))
def c_scan_New_string : List Nat := []
def L_scan_New_string (_ : Nat) : Pts po_scan_New_string.den := []
def E_scan_New_string : Env := E0
theorem q_scan_New_string_m (k : Nat) (d : Unit × ((ByteArray × Unit) × Unit)) : evCode E_scan_New_string (tab (L_scan_New_string k)) c_scan_New_string (bodyOf Try.f66) 0 (finK E_scan_New_string po_scan_New_string [.tmp 2]) (startSt pi_scan_New_string 6 d) = f_scan_New_string_m () d := by kernel_rfl
def g_scan_New_string (d : Unit × ((ByteArray × Unit) × Unit)) : Option (((ByteArray × (Int × ((Option Int) × Unit))) × Unit) × (Unit × Unit)) := f_scan_New_string_m () d
theorem ok_scan_New_string : FnOk Try.prog ET0 66 pi_scan_New_string po_scan_New_string g_scan_New_string :=
  fn_of_body (E := E_scan_New_string) e0_ok (fn := Try.f66) Try.func66 (by kernel_rfl) (by kernel_rfl) [.tmp 2] (by kernel_rfl) (by kernel_rfl) (by decide) rfl c_scan_New_string L_scan_New_string
    (by intro x hx; cases hx) (by intro k x hx; cases hx) (fun d out h => ⟨0, (q_scan_New_string_m 0 d).trans h⟩)

/- (*horologe/scan.Scanner[string]).rest -/
@[reducible] def pi_scan_Scanner_string_rest : PSh := ⟨[], [.mk false [.v (.nptr (.pair .str (.pair (.int .i64) .err)))]]⟩
@[reducible] def po_scan_Scanner_string_rest : PSh := ⟨[], [.mk false [.v .str]]⟩
def f_scan_Scanner_string_rest_m (T : Unit) (d : Unit × (((Option (ByteArray × (Int × (Option Int)))) × Unit) × Unit)) : Option (Unit × ((ByteArray × Unit) × Unit)) :=
  bif d.2.1.1.isNone then (
  some ((), (((⟨#[]⟩ : ByteArray), ()), ())))
  else (
  d.2.1.1.bind fun x1 =>
  let x2 : Bool := (!x1.2.2.isNone)
  bif x2 then (
  some ((), (((⟨#[]⟩ : ByteArray), ()), ())))
  else (
  d.2.1.1.bind fun x3 =>
  d.2.1.1.bind fun x4 =>
  bif decide ((0 : Int) ≤ x4.2.1) && decide (x4.2.1 ≤ (x3.1.size : Int)) && decide ((x3.1.size : Int) ≤ (x3.1.size : Int)) then (
  let x5 : ByteArray := (x3.1.extract (Int.toNat x4.2.1) (Int.toNat (x3.1.size : Int)))
  some ((), ((x5, ()), ())))
  else none))
def c_scan_Scanner_string_rest : List Nat := []
def L_scan_Scanner_string_rest (_ : Nat) : Pts po_scan_Scanner_string_rest.den := []
def E_scan_Scanner_string_rest : Env := E0
theorem q_scan_Scanner_string_rest_m (k : Nat) (d : Unit × (((Option (ByteArray × (Int × (Option Int)))) × Unit) × Unit)) : evCode E_scan_Scanner_string_rest (tab (L_scan_Scanner_string_rest k)) c_scan_Scanner_string_rest (bodyOf Try.f157) 0 (finK E_scan_Scanner_string_rest po_scan_Scanner_string_rest [.tmp 2]) (startSt pi_scan_Scanner_string_rest 21 d) = f_scan_Scanner_string_rest_m () d := by kernel_rfl
def g_scan_Scanner_string_rest (d : Unit × (((Option (ByteArray × (Int × (Option Int)))) × Unit) × Unit)) : Option (Unit × ((ByteArray × Unit) × Unit)) := f_scan_Scanner_string_rest_m () d
theorem ok_scan_Scanner_string_rest : FnOk Try.prog ET0 157 pi_scan_Scanner_string_rest po_scan_Scanner_string_rest g_scan_Scanner_string_rest :=
  fn_of_body (E := E_scan_Scanner_string_rest) e0_ok (fn := Try.f157) Try.func157 (by kernel_rfl) (by kernel_rfl) [.tmp 2] (by kernel_rfl) (by kernel_rfl) (by decide) rfl c_scan_Scanner_string_rest L_scan_Scanner_string_rest
    (by intro x hx; cases hx) (by intro k x hx; cases hx) (fun d out h => ⟨0, (q_scan_Scanner_string_rest_m 0 d).trans h⟩)

/- (*horologe/scan.Scanner[string]).Peek -/
@[reducible] def pi_scan_Scanner_string_Peek : PSh := ⟨[], [.mk false [.v (.nptr (.pair .str (.pair (.int .i64) .err)))]]⟩
@[reducible] def po_scan_Scanner_string_Peek : PSh := ⟨[], [.mk false [.v (.int .u8)], .mk false [.v .bool]]⟩
def f_scan_Scanner_string_Peek_m (T : Unit) (d : Unit × (((Option (ByteArray × (Int × (Option Int)))) × Unit) × Unit)) : Option (Unit × ((Int × Unit) × ((Bool × Unit) × Unit))) :=
  (g_scan_Scanner_string_rest ((), ((d.2.1.1, ()), ()))).bind fun x1 =>
  let x2 : Bool := (x1.2.1.1.toList == (⟨#[]⟩ : ByteArray).toList)
  bif x2 then (
  some ((), (((0 : Int), ()), ((false, ()), ()))))
  else (
  bif decide ((0 : Int) ≤ (0 : Int)) && decide ((0 : Int) < ((x1.2.1.1.size : Int) : Int)) then (
  let x3 : Int := (bt x1.2.1.1 (0 : Int))
  some ((), ((x3, ()), ((true, ()), ()))))
  else none)
def c_scan_Scanner_string_Peek : List Nat := []
def L_scan_Scanner_string_Peek (_ : Nat) : Pts po_scan_Scanner_string_Peek.den := []
def E_scan_Scanner_string_Peek : Env := (E0.add 157 (typedSem pi_scan_Scanner_string_rest po_scan_Scanner_string_rest g_scan_Scanner_string_rest))
theorem q_scan_Scanner_string_Peek_m (k : Nat) (d : Unit × (((Option (ByteArray × (Int × (Option Int)))) × Unit) × Unit)) : evCode E_scan_Scanner_string_Peek (tab (L_scan_Scanner_string_Peek k)) c_scan_Scanner_string_Peek (bodyOf Try.f124) 0 (finK E_scan_Scanner_string_Peek po_scan_Scanner_string_Peek [.tmp 2, .tmp 3]) (startSt pi_scan_Scanner_string_Peek 11 d) = f_scan_Scanner_string_Peek_m () d := by kernel_rfl
def g_scan_Scanner_string_Peek (d : Unit × (((Option (ByteArray × (Int × (Option Int)))) × Unit) × Unit)) : Option (Unit × ((Int × Unit) × ((Bool × Unit) × Unit))) := f_scan_Scanner_string_Peek_m () d
theorem ok_scan_Scanner_string_Peek : FnOk Try.prog ET0 124 pi_scan_Scanner_string_Peek po_scan_Scanner_string_Peek g_scan_Scanner_string_Peek :=
  fn_of_body (E := E_scan_Scanner_string_Peek) (envOk_add e0_ok (typed_ok ok_scan_Scanner_string_rest)) (fn := Try.f124) Try.func124 (by kernel_rfl) (by kernel_rfl) [.tmp 2, .tmp 3] (by kernel_rfl) (by kernel_rfl) (by decide) rfl c_scan_Scanner_string_Peek L_scan_Scanner_string_Peek
    (by intro x hx; cases hx) (by intro k x hx; cases hx) (fun d out h => ⟨0, (q_scan_Scanner_string_Peek_m 0 d).trans h⟩)

/- strings.Clone -/
@[reducible] def pi_strings_Clone : PSh := ⟨[], [.mk false [.v .str]]⟩
@[reducible] def po_strings_Clone : PSh := ⟨[], [.mk false [.v .str]]⟩
def f_strings_Clone_m (T : Unit) (d : Unit × ((ByteArray × Unit) × Unit)) : Option (Unit × ((ByteArray × Unit) × Unit)) :=
  (g_internal_stringslite_Clone ((), ((d.2.1.1, ()), ()))).bind fun x1 =>
  some ((), ((x1.2.1.1, ()), ()))
def c_strings_Clone : List Nat := []
def L_strings_Clone (_ : Nat) : Pts po_strings_Clone.den := []
def E_strings_Clone : Env := (E0.add 169 (typedSem pi_internal_stringslite_Clone po_internal_stringslite_Clone g_internal_stringslite_Clone))
theorem q_strings_Clone_m (k : Nat) (d : Unit × ((ByteArray × Unit) × Unit)) : evCode E_strings_Clone (tab (L_strings_Clone k)) c_strings_Clone (bodyOf Try.f158) 0 (finK E_strings_Clone po_strings_Clone [.tmp 2]) (startSt pi_strings_Clone 5 d) = f_strings_Clone_m () d := by kernel_rfl
def g_strings_Clone (d : Unit × ((ByteArray × Unit) × Unit)) : Option (Unit × ((ByteArray × Unit) × Unit)) := f_strings_Clone_m () d
theorem ok_strings_Clone : FnOk Try.prog ET0 158 pi_strings_Clone po_strings_Clone g_strings_Clone :=
  fn_of_body (E := E_strings_Clone) (envOk_add e0_ok (typed_ok ok_internal_stringslite_Clone)) (fn := Try.f158) Try.func158 (by kernel_rfl) (by kernel_rfl) [.tmp 2] (by kernel_rfl) (by kernel_rfl) (by decide) rfl c_strings_Clone L_strings_Clone
    (by intro x hx; cases hx) (by intro k x hx; cases hx) (fun d out h => ⟨0, (q_strings_Clone_m 0 d).trans h⟩)
end
end Go.Proofs.Yticfncahnhbhbaa.Ev
