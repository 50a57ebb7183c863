/- Printed by wip/tools/evgen.py. -/
import Derived.Test.YticfncahnhbhbaaEv32
import Derived.Test.YticfncahnhbhbaaShelf
import Derived.Test.YticfncahnhbhbaaEvE
import Derived.Test.YticfncahnhbhbaaProg
import Derived.KernelRfl
set_option maxRecDepth 100000
set_option maxHeartbeats 2000000
set_option linter.unusedVariables false
namespace Go.Proofs.Yticfncahnhbhbaa.Ev
open Go
noncomputable section
def rows0 : List (TypeId × Row) := [
  (2, ⟨.int .i64, 1, 8, (.int .i64), [AV.val (.int .i64) (0 : Int)], none⟩),
  (3, ⟨.int .i64, 1, 8, (.int .i64), [AV.val (.int .i64) (0 : Int)], none⟩),
  (4, ⟨.bool, 1, 1, .bool, [AV.val .bool false], none⟩),
  (5, ⟨.int .u8, 1, 1, (.int .u8), [AV.val (.int .u8) (0 : Int)], none⟩),
  (9, ⟨.str, 1, 16, .str, [AV.val .str ByteArray.empty], none⟩),
  (26, ⟨.iface, 1, 16, .err, [AV.val .err (none : Option Int)], none⟩),
  (30, ⟨.struct [(0, 1, false), (1, 1, false), (2, 1, false), (3, 1, false), (4, 1, false), (5, 1, false), (6, 1, false), (7, 1, false)], 8, 64, (.pair (.int .i64) (.pair (.int .i64) (.pair (.int .i64) (.pair (.int .i64) (.pair (.int .i64) (.pair (.int .i64) (.pair (.int .i64) (.int .i64)))))))), [AV.val (.int .i64) (0 : Int), AV.val (.int .i64) (0 : Int), AV.val (.int .i64) (0 : Int), AV.val (.int .i64) (0 : Int), AV.val (.int .i64) (0 : Int), AV.val (.int .i64) (0 : Int), AV.val (.int .i64) (0 : Int), AV.val (.int .i64) (0 : Int)], some [.int .i64, .int .i64, .int .i64, .int .i64, .int .i64, .int .i64, .int .i64, .int .i64]⟩),
  (38, ⟨.struct [(0, 1, false), (1, 1, false), (2, 1, false), (3, 1, false), (4, 1, false), (5, 1, false), (6, 1, false), (7, 1, false)], 8, 64, (.pair (.int .i64) (.pair (.int .i64) (.pair (.int .i64) (.pair (.int .i64) (.pair (.int .i64) (.pair (.int .i64) (.pair (.int .i64) (.int .i64)))))))), [AV.val (.int .i64) (0 : Int), AV.val (.int .i64) (0 : Int), AV.val (.int .i64) (0 : Int), AV.val (.int .i64) (0 : Int), AV.val (.int .i64) (0 : Int), AV.val (.int .i64) (0 : Int), AV.val (.int .i64) (0 : Int), AV.val (.int .i64) (0 : Int)], some [.int .i64, .int .i64, .int .i64, .int .i64, .int .i64, .int .i64, .int .i64, .int .i64]⟩),
  (52, ⟨.int .i64, 1, 8, (.int .i64), [AV.val (.int .i64) (0 : Int)], none⟩),
  (81, ⟨.slice 5, 1, 24, (.sl (.int .u8)), [AV.nilS], none⟩),
  (109, ⟨.ptr, 1, 8, (.nptr (.pair .str (.pair (.int .i64) .err))), [AV.nilP], none⟩),
  (122, ⟨.struct [(0, 1, false), (1, 1, false)], 2, 40, (.pair (.sl (.int .u8)) .err), [AV.nilS, AV.val .err (none : Option Int)], none⟩),
  (128, ⟨.slice 9, 1, 24, (.sl .str), [AV.nilS], none⟩),
  (129, ⟨.slice 3, 1, 24, (.sl (.int .i64)), [AV.nilS], none⟩),
  (133, ⟨.struct [(0, 1, false), (1, 1, false)], 2, 24, (.pair (.nptr (.pair .str (.pair (.int .i64) .err))) .str), [AV.nilP, AV.val .str ByteArray.empty], none⟩),
  (159, ⟨.struct [(0, 1, false), (1, 1, false), (2, 1, false)], 3, 40, (.pair .str (.pair (.int .i64) .err)), [AV.val .str ByteArray.empty, AV.val (.int .i64) (0 : Int), AV.val .err (none : Option Int)], none⟩),
  (169, ⟨.int .u64, 1, 8, (.int .u64), [AV.val (.int .u64) (0 : Int)], none⟩)]
def ET0 : TypeId := 52
def E0 : Env := ⟨rows0, [], ET0, 0, [], []⟩
theorem e0_ok : EnvOk Try.prog E0 := envOk_rows (by kernel_rfl) (by kernel_rfl) 0
/- strings.IndexByte -/
@[reducible] def pi_strings_IndexByte : PSh := pi_lib_indexByte
@[reducible] def po_strings_IndexByte : PSh := po_lib_indexByte
def g_strings_IndexByte := lib_indexByte
theorem ok_strings_IndexByte : FnOk Try.prog ET0 83 pi_strings_IndexByte po_strings_IndexByte g_strings_IndexByte := lib_indexByte_ok ⟨Try.f83, Try.func83, by kernel_rfl, by kernel_rfl⟩ Try.strings_IndexByte
/- internal/stringslite.Clone -/
@[reducible] def pi_internal_stringslite_Clone : PSh := pi_lib_clone
@[reducible] def po_internal_stringslite_Clone : PSh := po_lib_clone
def g_internal_stringslite_Clone := lib_clone
theorem ok_internal_stringslite_Clone : FnOk Try.prog ET0 169 pi_internal_stringslite_Clone po_internal_stringslite_Clone g_internal_stringslite_Clone := lib_clone_ok ⟨Try.f169, Try.func169, by kernel_rfl, by kernel_rfl⟩ Try.stringslite_Clone

/- horologe/horologenum.Num -/
@[reducible] def pi_hnum_Num : PSh := ⟨[], [.mk false [.v .err]]⟩
@[reducible] def po_hnum_Num : PSh := ⟨[], [.mk false [.v (.int .i64)]]⟩
def f_hnum_Num_m (T : Unit) (d : Unit × (((Option Int) × Unit) × Unit)) : Option (Unit × ((Int × Unit) × Unit)) :=
  bif d.2.1.1.isNone then (
  some ((), (((0 : Int), ()), ())))
  else (
  bif d.2.1.1.isSome then (
  let x1 : Bool := ((d.2.1.1.getD 0) != (0 : Int))
  bif x1 then (
  some ((), (((d.2.1.1.getD 0), ()), ())))
  else (
  some ((), (((-1 : Int), ()), ()))))
  else (
  some ((), (((-1 : Int), ()), ()))))
def c_hnum_Num : List Nat := []
def L_hnum_Num (_ : Nat) : Pts po_hnum_Num.den := []
def E_hnum_Num : Env := E0
theorem q_hnum_Num_m (k : Nat) (d : Unit × (((Option Int) × Unit) × Unit)) : evCode E_hnum_Num (tab (L_hnum_Num k)) c_hnum_Num (bodyOf Try.f15) 0 (finK E_hnum_Num po_hnum_Num [.tmp 2]) (startSt pi_hnum_Num 18 d) = f_hnum_Num_m () d := by kernel_rfl
def g_hnum_Num (d : Unit × (((Option Int) × Unit) × Unit)) : Option (Unit × ((Int × Unit) × Unit)) := f_hnum_Num_m () d
theorem ok_hnum_Num : FnOk Try.prog ET0 15 pi_hnum_Num po_hnum_Num g_hnum_Num :=
  fn_of_body (E := E_hnum_Num) e0_ok (fn := Try.f15) Try.func15 (by kernel_rfl) (by kernel_rfl) [.tmp 2] (by kernel_rfl) (by kernel_rfl) (by decide) rfl c_hnum_Num L_hnum_Num
    (by intro x hx; cases hx) (by intro k x hx; cases hx) (fun d out h => ⟨0, (q_hnum_Num_m 0 d).trans h⟩)

/- horologe/horologelaw08.Document -/
@[reducible] def pi_law08_Document : PSh := ⟨[], [.mk true [.v (.int .i64), .v (.int .i64), .v (.int .i64), .v (.int .i64), .v (.int .i64), .v (.int .i64), .v (.int .i64), .v (.int .i64)]]⟩
@[reducible] def po_law08_Document : PSh := ⟨[], [.mk true [.v (.int .i64), .v (.int .i64), .v (.int .i64), .v (.int .i64), .v (.int .i64), .v (.int .i64), .v (.int .i64), .v (.int .i64)]]⟩
def f_law08_Document_m (T : Unit) (d : Unit × ((Int × (Int × (Int × (Int × (Int × (Int × (Int × (Int × Unit)))))))) × Unit)) : Option (Unit × ((Int × (Int × (Int × (Int × (Int × (Int × (Int × (Int × Unit)))))))) × Unit)) :=
  some ((), ((d.2.1.1, (d.2.1.2.1, (d.2.1.2.2.1, (d.2.1.2.2.2.1, (d.2.1.2.2.2.2.1, (d.2.1.2.2.2.2.2.1, (d.2.1.2.2.2.2.2.2.1, (d.2.1.2.2.2.2.2.2.2.1, ())))))))), ()))
def c_law08_Document : List Nat := []
def L_law08_Document (_ : Nat) : Pts po_law08_Document.den := []
def E_law08_Document : Env := E0
theorem q_law08_Document_m (k : Nat) (d : Unit × ((Int × (Int × (Int × (Int × (Int × (Int × (Int × (Int × Unit)))))))) × Unit)) : evCode E_law08_Document (tab (L_law08_Document k)) c_law08_Document (bodyOf Try.f19) 0 (finK E_law08_Document po_law08_Document [.cell 2 38]) (startSt pi_law08_Document 20 d) = f_law08_Document_m () d := by kernel_rfl
def g_law08_Document (d : Unit × ((Int × (Int × (Int × (Int × (Int × (Int × (Int × (Int × Unit)))))))) × Unit)) : Option (Unit × ((Int × (Int × (Int × (Int × (Int × (Int × (Int × (Int × Unit)))))))) × Unit)) := f_law08_Document_m () d
theorem ok_law08_Document : FnOk Try.prog ET0 19 pi_law08_Document po_law08_Document g_law08_Document :=
  fn_of_body (E := E_law08_Document) e0_ok (fn := Try.f19) Try.func19 (by kernel_rfl) (by kernel_rfl) [.cell 2 38] (by kernel_rfl) (by kernel_rfl) (by decide) rfl c_law08_Document L_law08_Document
    (by intro x hx; cases hx) (by intro k x hx; cases hx) (fun d out h => ⟨0, (q_law08_Document_m 0 d).trans h⟩)

/- horologe/mail.name -/
@[reducible] def pi_mail_name : PSh := ⟨[], [.mk false [.v .str], .mk false [.v (.int .i64)]]⟩
@[reducible] def po_mail_name : PSh := ⟨[], [.mk false [.v .str]]⟩
def f_mail_name_m (T : Unit) (d : Unit × ((ByteArray × Unit) × ((Int × Unit) × Unit))) : Option (Unit × ((ByteArray × Unit) × Unit)) :=
  let x1 : Bool := (decide (d.2.2.1.1 < (1 : Int)))
  bif x1 then (
  some ((), (((⟨#[]⟩ : ByteArray), ()), ())))
  else (
  let x2 : Int := (d.2.1.1.size : Int)
  let x3 : Int := (iquo .i64 x2 (3 : Int))
  let x4 : Bool := (decide (d.2.2.1.1 > x3))
  bif x4 then (
  some ((), (((⟨#[]⟩ : ByteArray), ()), ())))
  else (
  let x5 : Int := (isub .i64 d.2.2.1.1 (1 : Int))
  let x6 : Int := (imul .i64 (3 : Int) x5)
  let x7 : Int := (imul .i64 (3 : Int) d.2.2.1.1)
  bif decide ((0 : Int) ≤ x6) && decide (x6 ≤ x7) && decide (x7 ≤ (d.2.1.1.size : Int)) then (
  let x8 : ByteArray := (d.2.1.1.extract (Int.toNat x6) (Int.toNat x7))
  some ((), ((x8, ()), ())))
  else none))
def c_mail_name : List Nat := []
def L_mail_name (_ : Nat) : Pts po_mail_name.den := []
def E_mail_name : Env := E0
theorem q_mail_name_m (k : Nat) (d : Unit × ((ByteArray × Unit) × ((Int × Unit) × Unit))) : evCode E_mail_name (tab (L_mail_name k)) c_mail_name (bodyOf Try.f86) 0 (finK E_mail_name po_mail_name [.tmp 4]) (startSt pi_mail_name 21 d) = f_mail_name_m () d := by kernel_rfl
def g_mail_name (d : Unit × ((ByteArray × Unit) × ((Int × Unit) × Unit))) : Option (Unit × ((ByteArray × Unit) × Unit)) := f_mail_name_m () d
theorem ok_mail_name : FnOk Try.prog ET0 86 pi_mail_name po_mail_name g_mail_name :=
  fn_of_body (E := E_mail_name) e0_ok (fn := Try.f86) Try.func86 (by kernel_rfl) (by kernel_rfl) [.tmp 4] (by kernel_rfl) (by kernel_rfl) (by decide) rfl c_mail_name L_mail_name
    (by intro x hx; cases hx) (by intro k x hx; cases hx) (fun d out h => ⟨0, (q_mail_name_m 0 d).trans h⟩)

/- horologe/mail.Weekday -/
@[reducible] def pi_mail_Weekday : PSh := ⟨[], [.mk false [.v (.int .i64)]]⟩
@[reducible] def po_mail_Weekday : PSh := ⟨[], [.mk false [.v .str]]⟩
def f_mail_Weekday_m (T : Unit) (d : Unit × ((Int × Unit) × Unit)) : Option (Unit × ((ByteArray × Unit) × Unit)) :=
  (g_mail_name ((), (((⟨#[77, 111, 110, 84, 117, 101, 87, 101, 100, 84, 104, 117, 70, 114, 105, 83, 97, 116, 83, 117, 110]⟩ : ByteArray), ()), ((d.2.1.1, ()), ())))).bind fun x1 =>
  some ((), ((x1.2.1.1, ()), ()))
def c_mail_Weekday : List Nat := []
def L_mail_Weekday (_ : Nat) : Pts po_mail_Weekday.den := []
def E_mail_Weekday : Env := (E0.add 86 (typedSem pi_mail_name po_mail_name g_mail_name))
theorem q_mail_Weekday_m (k : Nat) (d : Unit × ((Int × Unit) × Unit)) : evCode E_mail_Weekday (tab (L_mail_Weekday k)) c_mail_Weekday (bodyOf Try.f36) 0 (finK E_mail_Weekday po_mail_Weekday [.tmp 2]) (startSt pi_mail_Weekday 5 d) = f_mail_Weekday_m () d := by kernel_rfl
def g_mail_Weekday (d : Unit × ((Int × Unit) × Unit)) : Option (Unit × ((ByteArray × Unit) × Unit)) := f_mail_Weekday_m () d
theorem ok_mail_Weekday : FnOk Try.prog ET0 36 pi_mail_Weekday po_mail_Weekday g_mail_Weekday :=
  fn_of_body (E := E_mail_Weekday) (envOk_add e0_ok (typed_ok ok_mail_name)) (fn := Try.f36) Try.func36 (by kernel_rfl) (by kernel_rfl) [.tmp 2] (by kernel_rfl) (by kernel_rfl) (by decide) rfl c_mail_Weekday L_mail_Weekday
    (by intro x hx; cases hx) (by intro k x hx; cases hx) (fun d out h => ⟨0, (q_mail_Weekday_m 0 d).trans h⟩)

/- horologe/mail.Month -/
@[reducible] def pi_mail_Month : PSh := ⟨[], [.mk false [.v (.int .i64)]]⟩
@[reducible] def po_mail_Month : PSh := ⟨[], [.mk false [.v .str]]⟩
def f_mail_Month_m (T : Unit) (d : Unit × ((Int × Unit) × Unit)) : Option (Unit × ((ByteArray × Unit) × Unit)) :=
  (g_mail_name ((), (((⟨#[74, 97, 110, 70, 101, 98, 77, 97, 114, 65, 112, 114, 77, 97, 121, 74, 117, 110, 74, 117, 108, 65, 117, 103, 83, 101, 112, 79, 99, 116, 78, 111, 118, 68, 101, 99]⟩ : ByteArray), ()), ((d.2.1.1, ()), ())))).bind fun x1 =>
  some ((), ((x1.2.1.1, ()), ()))
def c_mail_Month : List Nat := []
def L_mail_Month (_ : Nat) : Pts po_mail_Month.den := []
def E_mail_Month : Env := (E0.add 86 (typedSem pi_mail_name po_mail_name g_mail_name))
theorem q_mail_Month_m (k : Nat) (d : Unit × ((Int × Unit) × Unit)) : evCode E_mail_Month (tab (L_mail_Month k)) c_mail_Month (bodyOf Try.f38) 0 (finK E_mail_Month po_mail_Month [.tmp 2]) (startSt pi_mail_Month 5 d) = f_mail_Month_m () d := by kernel_rfl
def g_mail_Month (d : Unit × ((Int × Unit) × Unit)) : Option (Unit × ((ByteArray × Unit) × Unit)) := f_mail_Month_m () d
theorem ok_mail_Month : FnOk Try.prog ET0 38 pi_mail_Month po_mail_Month g_mail_Month :=
  fn_of_body (E := E_mail_Month) (envOk_add e0_ok (typed_ok ok_mail_name)) (fn := Try.f38) Try.func38 (by kernel_rfl) (by kernel_rfl) [.tmp 2] (by kernel_rfl) (by kernel_rfl) (by decide) rfl c_mail_Month L_mail_Month
    (by intro x hx; cases hx) (by intro k x hx; cases hx) (fun d out h => ⟨0, (q_mail_Month_m 0 d).trans h⟩)

/- horologe/day.floor -/
@[reducible] def pi_day_floor : PSh := ⟨[], [.mk false [.v (.int .i64)], .mk false [.v (.int .i64)]]⟩
@[reducible] def po_day_floor : PSh := ⟨[], [.mk false [.v (.int .i64)]]⟩
def f_day_floor_m (T : Unit) (d : Unit × ((Int × Unit) × ((Int × Unit) × Unit))) : Option (Unit × ((Int × Unit) × Unit)) :=
  bif (d.2.2.1.1 == 0) then (
  none)
  else (
  let x1 : Int := (iquo .i64 d.2.1.1 d.2.2.1.1)
  bif (d.2.2.1.1 == 0) then (
  none)
  else (
  let x2 : Int := (Int.tmod d.2.1.1 d.2.2.1.1)
  let x3 : Bool := (decide (x2 < (0 : Int)))
  bif x3 then (
  let x4 : Int := (isub .i64 x1 (1 : Int))
  some ((), ((x4, ()), ())))
  else (
  some ((), ((x1, ()), ())))))
def c_day_floor : List Nat := []
def L_day_floor (_ : Nat) : Pts po_day_floor.den := []
def E_day_floor : Env := E0
theorem q_day_floor_m (k : Nat) (d : Unit × ((Int × Unit) × ((Int × Unit) × Unit))) : evCode E_day_floor (tab (L_day_floor k)) c_day_floor (bodyOf Try.f95) 0 (finK E_day_floor po_day_floor [.tmp 4]) (startSt pi_day_floor 16 d) = f_day_floor_m () d := by kernel_rfl
def g_day_floor (d : Unit × ((Int × Unit) × ((Int × Unit) × Unit))) : Option (Unit × ((Int × Unit) × Unit)) := f_day_floor_m () d
theorem ok_day_floor : FnOk Try.prog ET0 95 pi_day_floor po_day_floor g_day_floor :=
  fn_of_body (E := E_day_floor) e0_ok (fn := Try.f95) Try.func95 (by kernel_rfl) (by kernel_rfl) [.tmp 4] (by kernel_rfl) (by kernel_rfl) (by decide) rfl c_day_floor L_day_floor
    (by intro x hx; cases hx) (by intro k x hx; cases hx) (fun d out h => ⟨0, (q_day_floor_m 0 d).trans h⟩)

/- horologe/day.number -/
@[reducible] def pi_day_number : PSh := ⟨[], [.mk false [.v (.int .i64)], .mk false [.v (.int .i64)], .mk false [.v (.int .i64)]]⟩
@[reducible] def po_day_number : PSh := ⟨[], [.mk false [.v (.int .i64)]]⟩
def f_day_number_m (T : Unit) (d : Unit × ((Int × Unit) × ((Int × Unit) × ((Int × Unit) × Unit)))) : Option (Unit × ((Int × Unit) × Unit)) :=
  let x1 : Bool := (decide (d.2.2.1.1 ≤ (2 : Int)))
  bif x1 then (
  let x2 : Int := (isub .i64 d.2.1.1 (1 : Int))
  let x3 : Int := (iadd .i64 d.2.2.1.1 (12 : Int))
  (g_day_floor ((), ((x2, ()), (((400 : Int), ()), ())))).bind fun x4 =>
  let x5 : Int := (imul .i64 x4.2.1.1 (400 : Int))
  let x6 : Int := (isub .i64 x2 x5)
  let x7 : Int := (isub .i64 x3 (3 : Int))
  let x8 : Int := (imul .i64 (153 : Int) x7)
  let x9 : Int := (iadd .i64 x8 (2 : Int))
  let x10 : Int := (iquo .i64 x9 (5 : Int))
  let x11 : Int := (iadd .i64 x10 d.2.2.2.1.1)
  let x12 : Int := (isub .i64 x11 (1 : Int))
  let x13 : Int := (imul .i64 x4.2.1.1 (146097 : Int))
  let x14 : Int := (imul .i64 x6 (365 : Int))
  let x15 : Int := (iadd .i64 x13 x14)
  let x16 : Int := (iquo .i64 x6 (4 : Int))
  let x17 : Int := (iadd .i64 x15 x16)
  let x18 : Int := (iquo .i64 x6 (100 : Int))
  let x19 : Int := (isub .i64 x17 x18)
  let x20 : Int := (iadd .i64 x19 x12)
  let x21 : Int := (isub .i64 x20 (719468 : Int))
  some ((), ((x21, ()), ())))
  else (
  (g_day_floor ((), ((d.2.1.1, ()), (((400 : Int), ()), ())))).bind fun x22 =>
  let x23 : Int := (imul .i64 x22.2.1.1 (400 : Int))
  let x24 : Int := (isub .i64 d.2.1.1 x23)
  let x25 : Int := (isub .i64 d.2.2.1.1 (3 : Int))
  let x26 : Int := (imul .i64 (153 : Int) x25)
  let x27 : Int := (iadd .i64 x26 (2 : Int))
  let x28 : Int := (iquo .i64 x27 (5 : Int))
  let x29 : Int := (iadd .i64 x28 d.2.2.2.1.1)
  let x30 : Int := (isub .i64 x29 (1 : Int))
  let x31 : Int := (imul .i64 x22.2.1.1 (146097 : Int))
  let x32 : Int := (imul .i64 x24 (365 : Int))
  let x33 : Int := (iadd .i64 x31 x32)
  let x34 : Int := (iquo .i64 x24 (4 : Int))
  let x35 : Int := (iadd .i64 x33 x34)
  let x36 : Int := (iquo .i64 x24 (100 : Int))
  let x37 : Int := (isub .i64 x35 x36)
  let x38 : Int := (iadd .i64 x37 x30)
  let x39 : Int := (isub .i64 x38 (719468 : Int))
  some ((), ((x39, ()), ())))
def c_day_number : List Nat := []
def L_day_number (_ : Nat) : Pts po_day_number.den := []
def E_day_number : Env := (E0.add 95 (typedSem pi_day_floor po_day_floor g_day_floor))
theorem q_day_number_m (k : Nat) (d : Unit × ((Int × Unit) × ((Int × Unit) × ((Int × Unit) × Unit)))) : evCode E_day_number (tab (L_day_number k)) c_day_number (bodyOf Try.f108) 0 (finK E_day_number po_day_number [.tmp 6]) (startSt pi_day_number 44 d) = f_day_number_m () d := by kernel_rfl
def g_day_number (d : Unit × ((Int × Unit) × ((Int × Unit) × ((Int × Unit) × Unit)))) : Option (Unit × ((Int × Unit) × Unit)) := f_day_number_m () d
theorem ok_day_number : FnOk Try.prog ET0 108 pi_day_number po_day_number g_day_number :=
  fn_of_body (E := E_day_number) (envOk_add e0_ok (typed_ok ok_day_floor)) (fn := Try.f108) Try.func108 (by kernel_rfl) (by kernel_rfl) [.tmp 6] (by kernel_rfl) (by kernel_rfl) (by decide) rfl c_day_number L_day_number
    (by intro x hx; cases hx) (by intro k x hx; cases hx) (fun d out h => ⟨0, (q_day_number_m 0 d).trans h⟩)

/- horologe/day.First -/
@[reducible] def pi_day_First : PSh := ⟨[], []⟩
@[reducible] def po_day_First : PSh := ⟨[], [.mk false [.v (.int .i64)]]⟩
def f_day_First_m (T : Unit) (d : Unit × Unit) : Option (Unit × ((Int × Unit) × Unit)) :=
  (g_day_number ((), (((-9999 : Int), ()), (((1 : Int), ()), (((1 : Int), ()), ()))))).bind fun x1 =>
  some ((), ((x1.2.1.1, ()), ()))
def c_day_First : List Nat := []
def L_day_First (_ : Nat) : Pts po_day_First.den := []
def E_day_First : Env := (E0.add 108 (typedSem pi_day_number po_day_number g_day_number))
theorem q_day_First_m (k : Nat) (d : Unit × Unit) : evCode E_day_First (tab (L_day_First k)) c_day_First (bodyOf Try.f93) 0 (finK E_day_First po_day_First [.tmp 0]) (startSt pi_day_First 2 d) = f_day_First_m () d := by kernel_rfl
def g_day_First (d : Unit × Unit) : Option (Unit × ((Int × Unit) × Unit)) := f_day_First_m () d
theorem ok_day_First : FnOk Try.prog ET0 93 pi_day_First po_day_First g_day_First :=
  fn_of_body (E := E_day_First) (envOk_add e0_ok (typed_ok ok_day_number)) (fn := Try.f93) Try.func93 (by kernel_rfl) (by kernel_rfl) [.tmp 0] (by kernel_rfl) (by kernel_rfl) (by decide) rfl c_day_First L_day_First
    (by intro x hx; cases hx) (by intro k x hx; cases hx) (fun d out h => ⟨0, (q_day_First_m 0 d).trans h⟩)

/- horologe/day.Last -/
@[reducible] def pi_day_Last : PSh := ⟨[], []⟩
@[reducible] def po_day_Last : PSh := ⟨[], [.mk false [.v (.int .i64)]]⟩
def f_day_Last_m (T : Unit) (d : Unit × Unit) : Option (Unit × ((Int × Unit) × Unit)) :=
  (g_day_number ((), (((9999 : Int), ()), (((12 : Int), ()), (((31 : Int), ()), ()))))).bind fun x1 =>
  some ((), ((x1.2.1.1, ()), ()))
def c_day_Last : List Nat := []
def L_day_Last (_ : Nat) : Pts po_day_Last.den := []
def E_day_Last : Env := (E0.add 108 (typedSem pi_day_number po_day_number g_day_number))
theorem q_day_Last_m (k : Nat) (d : Unit × Unit) : evCode E_day_Last (tab (L_day_Last k)) c_day_Last (bodyOf Try.f94) 0 (finK E_day_Last po_day_Last [.tmp 0]) (startSt pi_day_Last 2 d) = f_day_Last_m () d := by kernel_rfl
def g_day_Last (d : Unit × Unit) : Option (Unit × ((Int × Unit) × Unit)) := f_day_Last_m () d
theorem ok_day_Last : FnOk Try.prog ET0 94 pi_day_Last po_day_Last g_day_Last :=
  fn_of_body (E := E_day_Last) (envOk_add e0_ok (typed_ok ok_day_number)) (fn := Try.f94) Try.func94 (by kernel_rfl) (by kernel_rfl) [.tmp 0] (by kernel_rfl) (by kernel_rfl) (by decide) rfl c_day_Last L_day_Last
    (by intro x hx; cases hx) (by intro k x hx; cases hx) (fun d out h => ⟨0, (q_day_Last_m 0 d).trans h⟩)

/- horologe/label.there -/
@[reducible] def pi_label_there : PSh := ⟨[], [.mk false [.v (.int .i64)]]⟩
@[reducible] def po_label_there : PSh := ⟨[], [.mk false [.v .bool]]⟩
def f_label_there_m (T : Unit) (d : Unit × ((Int × Unit) × Unit)) : Option (Unit × ((Bool × Unit) × Unit)) :=
  (g_day_First ((), ())).bind fun x1 =>
  let x2 : Bool := (decide (d.2.1.1 ≥ x1.2.1.1))
  bif x2 then (
  (g_day_Last ((), ())).bind fun x3 =>
  let x4 : Bool := (decide (d.2.1.1 ≤ x3.2.1.1))
  some ((), ((x4, ()), ())))
  else (
  some ((), ((false, ()), ())))
def c_label_there : List Nat := []
def L_label_there (_ : Nat) : Pts po_label_there.den := []
def E_label_there : Env := ((E0.add 93 (typedSem pi_day_First po_day_First g_day_First)).add 94 (typedSem pi_day_Last po_day_Last g_day_Last))
theorem q_label_there_m (k : Nat) (d : Unit × ((Int × Unit) × Unit)) : evCode E_label_there (tab (L_label_there k)) c_label_there (bodyOf Try.f101) 0 (finK E_label_there po_label_there [.tmp 2]) (startSt pi_label_there 11 d) = f_label_there_m () d := by kernel_rfl
def g_label_there (d : Unit × ((Int × Unit) × Unit)) : Option (Unit × ((Bool × Unit) × Unit)) := f_label_there_m () d
theorem ok_label_there : FnOk Try.prog ET0 101 pi_label_there po_label_there g_label_there :=
  fn_of_body (E := E_label_there) (envOk_add (envOk_add e0_ok (typed_ok ok_day_First)) (typed_ok ok_day_Last)) (fn := Try.f101) Try.func101 (by kernel_rfl) (by kernel_rfl) [.tmp 2] (by kernel_rfl) (by kernel_rfl) (by decide) rfl c_label_there L_label_there
    (by intro x hx; cases hx) (by intro k x hx; cases hx) (fun d out h => ⟨0, (q_label_there_m 0 d).trans h⟩)

/- horologe/day.right -/
@[reducible] def pi_day_right : PSh := ⟨[], [.mk false [.v (.int .i64)]]⟩
@[reducible] def po_day_right : PSh := ⟨[], [.mk false [.v .bool]]⟩
def f_day_right_m (T : Unit) (d : Unit × ((Int × Unit) × Unit)) : Option (Unit × ((Bool × Unit) × Unit)) :=
  let x1 : Bool := (decide (d.2.1.1 ≥ (-9999 : Int)))
  bif x1 then (
  let x2 : Bool := (decide (d.2.1.1 ≤ (9999 : Int)))
  some ((), ((x2, ()), ())))
  else (
  some ((), ((false, ()), ())))
def c_day_right : List Nat := []
def L_day_right (_ : Nat) : Pts po_day_right.den := []
def E_day_right : Env := E0
theorem q_day_right_m (k : Nat) (d : Unit × ((Int × Unit) × Unit)) : evCode E_day_right (tab (L_day_right k)) c_day_right (bodyOf Try.f105) 0 (finK E_day_right po_day_right [.tmp 2]) (startSt pi_day_right 9 d) = f_day_right_m () d := by kernel_rfl
def g_day_right (d : Unit × ((Int × Unit) × Unit)) : Option (Unit × ((Bool × Unit) × Unit)) := f_day_right_m () d
theorem ok_day_right : FnOk Try.prog ET0 105 pi_day_right po_day_right g_day_right :=
  fn_of_body (E := E_day_right) e0_ok (fn := Try.f105) Try.func105 (by kernel_rfl) (by kernel_rfl) [.tmp 2] (by kernel_rfl) (by kernel_rfl) (by decide) rfl c_day_right L_day_right
    (by intro x hx; cases hx) (by intro k x hx; cases hx) (fun d out h => ⟨0, (q_day_right_m 0 d).trans h⟩)

/- horologe/day.Leap -/
@[reducible] def pi_day_Leap : PSh := ⟨[], [.mk false [.v (.int .i64)]]⟩
@[reducible] def po_day_Leap : PSh := ⟨[], [.mk false [.v .bool]]⟩
def f_day_Leap_m (T : Unit) (d : Unit × ((Int × Unit) × Unit)) : Option (Unit × ((Bool × Unit) × Unit)) :=
  let x1 : Int := (Int.tmod d.2.1.1 (4 : Int))
  let x2 : Bool := (x1 == (0 : Int))
  bif x2 then (
  let x3 : Int := (Int.tmod d.2.1.1 (100 : Int))
  let x4 : Bool := (x3 != (0 : Int))
  bif x4 then (
  some ((), ((true, ()), ())))
  else (
  let x5 : Int := (Int.tmod d.2.1.1 (400 : Int))
  let x6 : Bool := (x5 == (0 : Int))
  some ((), ((x6, ()), ()))))
  else (
  some ((), ((false, ()), ())))
def c_day_Leap : List Nat := []
def L_day_Leap (_ : Nat) : Pts po_day_Leap.den := []
def E_day_Leap : Env := E0
theorem q_day_Leap_m (k : Nat) (d : Unit × ((Int × Unit) × Unit)) : evCode E_day_Leap (tab (L_day_Leap k)) c_day_Leap (bodyOf Try.f106) 0 (finK E_day_Leap po_day_Leap [.tmp 2]) (startSt pi_day_Leap 16 d) = f_day_Leap_m () d := by kernel_rfl
def g_day_Leap (d : Unit × ((Int × Unit) × Unit)) : Option (Unit × ((Bool × Unit) × Unit)) := f_day_Leap_m () d
theorem ok_day_Leap : FnOk Try.prog ET0 106 pi_day_Leap po_day_Leap g_day_Leap :=
  fn_of_body (E := E_day_Leap) e0_ok (fn := Try.f106) Try.func106 (by kernel_rfl) (by kernel_rfl) [.tmp 2] (by kernel_rfl) (by kernel_rfl) (by decide) rfl c_day_Leap L_day_Leap
    (by intro x hx; cases hx) (by intro k x hx; cases hx) (fun d out h => ⟨0, (q_day_Leap_m 0 d).trans h⟩)

/- horologe/day.Month -/
@[reducible] def pi_day_Month : PSh := ⟨[], [.mk false [.v (.int .i64)], .mk false [.v (.int .i64)]]⟩
@[reducible] def po_day_Month : PSh := ⟨[], [.mk false [.v (.int .i64)], .mk false [.v .err]]⟩
def f_day_Month_m (T : Unit) (d : Unit × ((Int × Unit) × ((Int × Unit) × Unit))) : Option (Unit × ((Int × Unit) × (((Option Int) × Unit) × Unit))) :=
  (g_day_right ((), ((d.2.1.1, ()), ()))).bind fun x1 =>
  let x2 : Bool := (!x1.2.1.1)
  bif x2 then (
  let x3 : (Option Int) := (some (13 : Int))
  some ((), (((0 : Int), ()), ((x3, ()), ()))))
  else (
  let x4 : Bool := (decide (d.2.2.1.1 < (1 : Int)))
  bif x4 then (
  let x5 : (Option Int) := (some (1 : Int))
  some ((), (((0 : Int), ()), ((x5, ()), ()))))
  else (
  let x6 : Bool := (decide (d.2.2.1.1 > (12 : Int)))
  bif x6 then (
  let x7 : (Option Int) := (some (1 : Int))
  some ((), (((0 : Int), ()), ((x7, ()), ()))))
  else (
  let x8 : Bool := (d.2.2.1.1 == (2 : Int))
  bif x8 then (
  (g_day_Leap ((), ((d.2.1.1, ()), ()))).bind fun x9 =>
  bif x9.2.1.1 then (
  some ((), (((29 : Int), ()), (((none : Option Int), ()), ()))))
  else (
  let x10 : Bool := (d.2.2.1.1 == (2 : Int))
  bif x10 then (
  some ((), (((28 : Int), ()), (((none : Option Int), ()), ()))))
  else (
  let x11 : Int := (iquo .i64 d.2.2.1.1 (8 : Int))
  let x12 : Int := (iadd .i64 d.2.2.1.1 x11)
  let x13 : Int := (Int.tmod x12 (2 : Int))
  let x14 : Int := (iadd .i64 (30 : Int) x13)
  some ((), ((x14, ()), (((none : Option Int), ()), ()))))))
  else (
  let x15 : Bool := (d.2.2.1.1 == (2 : Int))
  bif x15 then (
  some ((), (((28 : Int), ()), (((none : Option Int), ()), ()))))
  else (
  let x16 : Int := (iquo .i64 d.2.2.1.1 (8 : Int))
  let x17 : Int := (iadd .i64 d.2.2.1.1 x16)
  let x18 : Int := (Int.tmod x17 (2 : Int))
  let x19 : Int := (iadd .i64 (30 : Int) x18)
  some ((), ((x19, ()), (((none : Option Int), ()), ()))))))))
def c_day_Month : List Nat := []
def L_day_Month (_ : Nat) : Pts po_day_Month.den := []
def E_day_Month : Env := ((E0.add 105 (typedSem pi_day_right po_day_right g_day_right)).add 106 (typedSem pi_day_Leap po_day_Leap g_day_Leap))
theorem q_day_Month_m (k : Nat) (d : Unit × ((Int × Unit) × ((Int × Unit) × Unit))) : evCode E_day_Month (tab (L_day_Month k)) c_day_Month (bodyOf Try.f55) 0 (finK E_day_Month po_day_Month [.tmp 4, .tmp 5]) (startSt pi_day_Month 35 d) = f_day_Month_m () d := by kernel_rfl
def g_day_Month (d : Unit × ((Int × Unit) × ((Int × Unit) × Unit))) : Option (Unit × ((Int × Unit) × (((Option Int) × Unit) × Unit))) := f_day_Month_m () d
theorem ok_day_Month : FnOk Try.prog ET0 55 pi_day_Month po_day_Month g_day_Month :=
  fn_of_body (E := E_day_Month) (envOk_add (envOk_add e0_ok (typed_ok ok_day_right)) (typed_ok ok_day_Leap)) (fn := Try.f55) Try.func55 (by kernel_rfl) (by kernel_rfl) [.tmp 4, .tmp 5] (by kernel_rfl) (by kernel_rfl) (by decide) rfl c_day_Month L_day_Month
    (by intro x hx; cases hx) (by intro k x hx; cases hx) (fun d out h => ⟨0, (q_day_Month_m 0 d).trans h⟩)

/- horologe/day.check -/
@[reducible] def pi_day_check : PSh := ⟨[], [.mk false [.v (.int .i64)], .mk false [.v (.int .i64)], .mk false [.v (.int .i64)]]⟩
@[reducible] def po_day_check : PSh := ⟨[], [.mk false [.v .err]]⟩
def f_day_check_m (T : Unit) (d : Unit × ((Int × Unit) × ((Int × Unit) × ((Int × Unit) × Unit)))) : Option (Unit × (((Option Int) × Unit) × Unit)) :=
  (g_day_Month ((), ((d.2.1.1, ()), ((d.2.2.1.1, ()), ())))).bind fun x1 =>
  let x2 : Bool := (!x1.2.2.1.1.isNone)
  bif x2 then (
  some ((), ((x1.2.2.1.1, ()), ())))
  else (
  let x3 : Bool := (decide (d.2.2.2.1.1 < (1 : Int)))
  bif x3 then (
  let x4 : (Option Int) := (some (1 : Int))
  some ((), ((x4, ()), ())))
  else (
  let x5 : Bool := (decide (d.2.2.2.1.1 > x1.2.1.1))
  bif x5 then (
  let x6 : (Option Int) := (some (1 : Int))
  some ((), ((x6, ()), ())))
  else (
  some ((), (((none : Option Int), ()), ())))))
def c_day_check : List Nat := []
def L_day_check (_ : Nat) : Pts po_day_check.den := []
def E_day_check : Env := (E0.add 55 (typedSem pi_day_Month po_day_Month g_day_Month))
theorem q_day_check_m (k : Nat) (d : Unit × ((Int × Unit) × ((Int × Unit) × ((Int × Unit) × Unit)))) : evCode E_day_check (tab (L_day_check k)) c_day_check (bodyOf Try.f107) 0 (finK E_day_check po_day_check [.tmp 6]) (startSt pi_day_check 28 d) = f_day_check_m () d := by kernel_rfl
def g_day_check (d : Unit × ((Int × Unit) × ((Int × Unit) × ((Int × Unit) × Unit)))) : Option (Unit × (((Option Int) × Unit) × Unit)) := f_day_check_m () d
theorem ok_day_check : FnOk Try.prog ET0 107 pi_day_check po_day_check g_day_check :=
  fn_of_body (E := E_day_check) (envOk_add e0_ok (typed_ok ok_day_Month)) (fn := Try.f107) Try.func107 (by kernel_rfl) (by kernel_rfl) [.tmp 6] (by kernel_rfl) (by kernel_rfl) (by decide) rfl c_day_check L_day_check
    (by intro x hx; cases hx) (by intro k x hx; cases hx) (fun d out h => ⟨0, (q_day_check_m 0 d).trans h⟩)

/- horologe/day.Of -/
@[reducible] def pi_day_Of : PSh := ⟨[], [.mk false [.v (.int .i64)], .mk false [.v (.int .i64)], .mk false [.v (.int .i64)]]⟩
@[reducible] def po_day_Of : PSh := ⟨[], [.mk false [.v (.int .i64)], .mk false [.v .err]]⟩
def f_day_Of_m (T : Unit) (d : Unit × ((Int × Unit) × ((Int × Unit) × ((Int × Unit) × Unit)))) : Option (Unit × ((Int × Unit) × (((Option Int) × Unit) × Unit))) :=
  (g_day_check ((), ((d.2.1.1, ()), ((d.2.2.1.1, ()), ((d.2.2.2.1.1, ()), ()))))).bind fun x1 =>
  let x2 : Bool := (!x1.2.1.1.isNone)
  bif x2 then (
  some ((), (((0 : Int), ()), ((x1.2.1.1, ()), ()))))
  else (
  (g_day_number ((), ((d.2.1.1, ()), ((d.2.2.1.1, ()), ((d.2.2.2.1.1, ()), ()))))).bind fun x3 =>
  some ((), ((x3.2.1.1, ()), (((none : Option Int), ()), ()))))
def c_day_Of : List Nat := []
def L_day_Of (_ : Nat) : Pts po_day_Of.den := []
def E_day_Of : Env := ((E0.add 107 (typedSem pi_day_check po_day_check g_day_check)).add 108 (typedSem pi_day_number po_day_number g_day_number))
theorem q_day_Of_m (k : Nat) (d : Unit × ((Int × Unit) × ((Int × Unit) × ((Int × Unit) × Unit)))) : evCode E_day_Of (tab (L_day_Of k)) c_day_Of (bodyOf Try.f56) 0 (finK E_day_Of po_day_Of [.tmp 6, .tmp 7]) (startSt pi_day_Of 20 d) = f_day_Of_m () d := by kernel_rfl
def g_day_Of (d : Unit × ((Int × Unit) × ((Int × Unit) × ((Int × Unit) × Unit)))) : Option (Unit × ((Int × Unit) × (((Option Int) × Unit) × Unit))) := f_day_Of_m () d
theorem ok_day_Of : FnOk Try.prog ET0 56 pi_day_Of po_day_Of g_day_Of :=
  fn_of_body (E := E_day_Of) (envOk_add (envOk_add e0_ok (typed_ok ok_day_check)) (typed_ok ok_day_number)) (fn := Try.f56) Try.func56 (by kernel_rfl) (by kernel_rfl) [.tmp 6, .tmp 7] (by kernel_rfl) (by kernel_rfl) (by decide) rfl c_day_Of L_day_Of
    (by intro x hx; cases hx) (by intro k x hx; cases hx) (fun d out h => ⟨0, (q_day_Of_m 0 d).trans h⟩)

/- horologe/label.in -/
@[reducible] def pi_label_in : PSh := ⟨[], [.mk false [.v (.int .i64)], .mk false [.v (.int .i64)]]⟩
@[reducible] def po_label_in : PSh := ⟨[], [.mk false [.v .bool]]⟩
def f_label_in_m (T : Unit) (d : Unit × ((Int × Unit) × ((Int × Unit) × Unit))) : Option (Unit × ((Bool × Unit) × Unit)) :=
  let x1 : Bool := (decide (d.2.1.1 ≥ (0 : Int)))
  bif x1 then (
  let x2 : Bool := (decide (d.2.1.1 < d.2.2.1.1))
  some ((), ((x2, ()), ())))
  else (
  some ((), ((false, ()), ())))
def c_label_in : List Nat := []
def L_label_in (_ : Nat) : Pts po_label_in.den := []
def E_label_in : Env := E0
theorem q_label_in_m (k : Nat) (d : Unit × ((Int × Unit) × ((Int × Unit) × Unit))) : evCode E_label_in (tab (L_label_in k)) c_label_in (bodyOf Try.f96) 0 (finK E_label_in po_label_in [.tmp 4]) (startSt pi_label_in 12 d) = f_label_in_m () d := by kernel_rfl
def g_label_in (d : Unit × ((Int × Unit) × ((Int × Unit) × Unit))) : Option (Unit × ((Bool × Unit) × Unit)) := f_label_in_m () d
theorem ok_label_in : FnOk Try.prog ET0 96 pi_label_in po_label_in g_label_in :=
  fn_of_body (E := E_label_in) e0_ok (fn := Try.f96) Try.func96 (by kernel_rfl) (by kernel_rfl) [.tmp 4] (by kernel_rfl) (by kernel_rfl) (by decide) rfl c_label_in L_label_in
    (by intro x hx; cases hx) (by intro k x hx; cases hx) (fun d out h => ⟨0, (q_label_in_m 0 d).trans h⟩)

/- horologe/label.shifts -/
@[reducible] def pi_label_shifts : PSh := ⟨[], [.mk false [.v (.int .i64)]]⟩
@[reducible] def po_label_shifts : PSh := ⟨[], [.mk false [.v .bool]]⟩
def f_label_shifts_m (T : Unit) (d : Unit × ((Int × Unit) × Unit)) : Option (Unit × ((Bool × Unit) × Unit)) :=
  let x1 : Bool := (decide (d.2.1.1 > (-1440 : Int)))
  bif x1 then (
  let x2 : Bool := (decide (d.2.1.1 < (1440 : Int)))
  some ((), ((x2, ()), ())))
  else (
  some ((), ((false, ()), ())))
def c_label_shifts : List Nat := []
def L_label_shifts (_ : Nat) : Pts po_label_shifts.den := []
def E_label_shifts : Env := E0
theorem q_label_shifts_m (k : Nat) (d : Unit × ((Int × Unit) × Unit)) : evCode E_label_shifts (tab (L_label_shifts k)) c_label_shifts (bodyOf Try.f102) 0 (finK E_label_shifts po_label_shifts [.tmp 2]) (startSt pi_label_shifts 9 d) = f_label_shifts_m () d := by kernel_rfl
def g_label_shifts (d : Unit × ((Int × Unit) × Unit)) : Option (Unit × ((Bool × Unit) × Unit)) := f_label_shifts_m () d
theorem ok_label_shifts : FnOk Try.prog ET0 102 pi_label_shifts po_label_shifts g_label_shifts :=
  fn_of_body (E := E_label_shifts) e0_ok (fn := Try.f102) Try.func102 (by kernel_rfl) (by kernel_rfl) [.tmp 2] (by kernel_rfl) (by kernel_rfl) (by decide) rfl c_label_shifts L_label_shifts
    (by intro x hx; cases hx) (by intro k x hx; cases hx) (fun d out h => ⟨0, (q_label_shifts_m 0 d).trans h⟩)

/- (horologe/label.Label).fields -/
@[reducible] def pi_label_Label_fields : PSh := ⟨[], [.mk true [.v (.int .i64), .v (.int .i64), .v (.int .i64), .v (.int .i64), .v (.int .i64), .v (.int .i64), .v (.int .i64), .v (.int .i64)]]⟩
@[reducible] def po_label_Label_fields : PSh := ⟨[], [.mk false [.v .err]]⟩
def f_label_Label_fields_m (T : Unit) (d : Unit × ((Int × (Int × (Int × (Int × (Int × (Int × (Int × (Int × Unit)))))))) × Unit)) : Option (Unit × (((Option Int) × Unit) × Unit)) :=
  (g_day_Of ((), ((d.2.1.1, ()), ((d.2.1.2.1, ()), ((d.2.1.2.2.1, ()), ()))))).bind fun x1 =>
  let x2 : Bool := (!x1.2.2.1.1.isNone)
  bif x2 then (
  some ((), ((x1.2.2.1.1, ()), ())))
  else (
  (g_label_in ((), ((d.2.1.2.2.2.1, ()), (((24 : Int), ()), ())))).bind fun x3 =>
  let x4 : Bool := (!x3.2.1.1)
  bif x4 then (
  let x5 : (Option Int) := (some (1 : Int))
  some ((), ((x5, ()), ())))
  else (
  (g_label_in ((), ((d.2.1.2.2.2.2.1, ()), (((60 : Int), ()), ())))).bind fun x6 =>
  let x7 : Bool := (!x6.2.1.1)
  bif x7 then (
  let x8 : (Option Int) := (some (1 : Int))
  some ((), ((x8, ()), ())))
  else (
  (g_label_in ((), ((d.2.1.2.2.2.2.2.1, ()), (((61 : Int), ()), ())))).bind fun x9 =>
  let x10 : Bool := (!x9.2.1.1)
  bif x10 then (
  let x11 : (Option Int) := (some (1 : Int))
  some ((), ((x11, ()), ())))
  else (
  (g_label_in ((), ((d.2.1.2.2.2.2.2.2.1, ()), (((1000000000 : Int), ()), ())))).bind fun x12 =>
  let x13 : Bool := (!x12.2.1.1)
  bif x13 then (
  let x14 : (Option Int) := (some (1 : Int))
  some ((), ((x14, ()), ())))
  else (
  (g_label_shifts ((), ((d.2.1.2.2.2.2.2.2.2.1, ()), ()))).bind fun x15 =>
  let x16 : Bool := (!x15.2.1.1)
  bif x16 then (
  let x17 : (Option Int) := (some (1 : Int))
  some ((), ((x17, ()), ())))
  else (
  some ((), (((none : Option Int), ()), ()))))))))
def c_label_Label_fields : List Nat := []
def L_label_Label_fields (_ : Nat) : Pts po_label_Label_fields.den := []
def E_label_Label_fields : Env := (((E0.add 56 (typedSem pi_day_Of po_day_Of g_day_Of)).add 96 (typedSem pi_label_in po_label_in g_label_in)).add 102 (typedSem pi_label_shifts po_label_shifts g_label_shifts))
theorem q_label_Label_fields_m (k : Nat) (d : Unit × ((Int × (Int × (Int × (Int × (Int × (Int × (Int × (Int × Unit)))))))) × Unit)) : evCode E_label_Label_fields (tab (L_label_Label_fields k)) c_label_Label_fields (bodyOf Try.f129) 0 (finK E_label_Label_fields po_label_Label_fields [.tmp 2]) (startSt pi_label_Label_fields 47 d) = f_label_Label_fields_m () d := by kernel_rfl
def g_label_Label_fields (d : Unit × ((Int × (Int × (Int × (Int × (Int × (Int × (Int × (Int × Unit)))))))) × Unit)) : Option (Unit × (((Option Int) × Unit) × Unit)) := f_label_Label_fields_m () d
theorem ok_label_Label_fields : FnOk Try.prog ET0 129 pi_label_Label_fields po_label_Label_fields g_label_Label_fields :=
  fn_of_body (E := E_label_Label_fields) (envOk_add (envOk_add (envOk_add e0_ok (typed_ok ok_day_Of)) (typed_ok ok_label_in)) (typed_ok ok_label_shifts)) (fn := Try.f129) Try.func129 (by kernel_rfl) (by kernel_rfl) [.tmp 2] (by kernel_rfl) (by kernel_rfl) (by decide) rfl c_label_Label_fields L_label_Label_fields
    (by intro x hx; cases hx) (by intro k x hx; cases hx) (fun d out h => ⟨0, (q_label_Label_fields_m 0 d).trans h⟩)

/- horologe/num.Div -/
@[reducible] def pi_num_Div : PSh := ⟨[], [.mk false [.v (.int .i64)], .mk false [.v (.int .i64)]]⟩
@[reducible] def po_num_Div : PSh := ⟨[], [.mk false [.v (.int .i64)], .mk false [.v .err]]⟩
def f_num_Div_m (T : Unit) (d : Unit × ((Int × Unit) × ((Int × Unit) × Unit))) : Option (Unit × ((Int × Unit) × (((Option Int) × Unit) × Unit))) :=
  let x1 : Bool := (d.2.2.1.1 == (0 : Int))
  bif x1 then (
  let x2 : (Option Int) := (some (1 : Int))
  some ((), (((0 : Int), ()), ((x2, ()), ()))))
  else (
  let x3 : Bool := (d.2.1.1 == (-9223372036854775808 : Int))
  bif x3 then (
  let x4 : Bool := (d.2.2.1.1 == (-1 : Int))
  bif x4 then (
  let x5 : (Option Int) := (some (5 : Int))
  some ((), (((0 : Int), ()), ((x5, ()), ()))))
  else (
  bif (d.2.2.1.1 == 0) then (
  none)
  else (
  let x6 : Int := (iquo .i64 d.2.1.1 d.2.2.1.1)
  bif (d.2.2.1.1 == 0) then (
  none)
  else (
  let x7 : Int := (Int.tmod d.2.1.1 d.2.2.1.1)
  let x8 : Bool := (x7 != (0 : Int))
  bif x8 then (
  let x9 : Bool := (decide (d.2.1.1 < (0 : Int)))
  let x10 : Bool := (decide (d.2.2.1.1 < (0 : Int)))
  let x11 : Bool := (!(x9 == x10))
  bif x11 then (
  let x12 : Int := (isub .i64 x6 (1 : Int))
  some ((), ((x12, ()), (((none : Option Int), ()), ()))))
  else (
  some ((), ((x6, ()), (((none : Option Int), ()), ())))))
  else (
  some ((), ((x6, ()), (((none : Option Int), ()), ()))))))))
  else (
  bif (d.2.2.1.1 == 0) then (
  none)
  else (
  let x13 : Int := (iquo .i64 d.2.1.1 d.2.2.1.1)
  bif (d.2.2.1.1 == 0) then (
  none)
  else (
  let x14 : Int := (Int.tmod d.2.1.1 d.2.2.1.1)
  let x15 : Bool := (x14 != (0 : Int))
  bif x15 then (
  let x16 : Bool := (decide (d.2.1.1 < (0 : Int)))
  let x17 : Bool := (decide (d.2.2.1.1 < (0 : Int)))
  let x18 : Bool := (!(x16 == x17))
  bif x18 then (
  let x19 : Int := (isub .i64 x13 (1 : Int))
  some ((), ((x19, ()), (((none : Option Int), ()), ()))))
  else (
  some ((), ((x13, ()), (((none : Option Int), ()), ())))))
  else (
  some ((), ((x13, ()), (((none : Option Int), ()), ()))))))))
def c_num_Div : List Nat := []
def L_num_Div (_ : Nat) : Pts po_num_Div.den := []
def E_num_Div : Env := E0
theorem q_num_Div_m (k : Nat) (d : Unit × ((Int × Unit) × ((Int × Unit) × Unit))) : evCode E_num_Div (tab (L_num_Div k)) c_num_Div (bodyOf Try.f148) 0 (finK E_num_Div po_num_Div [.tmp 4, .tmp 5]) (startSt pi_num_Div 36 d) = f_num_Div_m () d := by kernel_rfl
def g_num_Div (d : Unit × ((Int × Unit) × ((Int × Unit) × Unit))) : Option (Unit × ((Int × Unit) × (((Option Int) × Unit) × Unit))) := f_num_Div_m () d
theorem ok_num_Div : FnOk Try.prog ET0 148 pi_num_Div po_num_Div g_num_Div :=
  fn_of_body (E := E_num_Div) e0_ok (fn := Try.f148) Try.func148 (by kernel_rfl) (by kernel_rfl) [.tmp 4, .tmp 5] (by kernel_rfl) (by kernel_rfl) (by decide) rfl c_num_Div L_num_Div
    (by intro x hx; cases hx) (by intro k x hx; cases hx) (fun d out h => ⟨0, (q_num_Div_m 0 d).trans h⟩)

/- horologe/num.Mod -/
@[reducible] def pi_num_Mod : PSh := ⟨[], [.mk false [.v (.int .i64)], .mk false [.v (.int .i64)]]⟩
@[reducible] def po_num_Mod : PSh := ⟨[], [.mk false [.v (.int .i64)], .mk false [.v .err]]⟩
def f_num_Mod_m (T : Unit) (d : Unit × ((Int × Unit) × ((Int × Unit) × Unit))) : Option (Unit × ((Int × Unit) × (((Option Int) × Unit) × Unit))) :=
  let x1 : Bool := (d.2.2.1.1 == (0 : Int))
  bif x1 then (
  let x2 : (Option Int) := (some (1 : Int))
  some ((), (((0 : Int), ()), ((x2, ()), ()))))
  else (
  let x3 : Bool := (d.2.2.1.1 == (-1 : Int))
  bif x3 then (
  some ((), (((0 : Int), ()), (((none : Option Int), ()), ()))))
  else (
  bif (d.2.2.1.1 == 0) then (
  none)
  else (
  let x4 : Int := (Int.tmod d.2.1.1 d.2.2.1.1)
  let x5 : Bool := (x4 != (0 : Int))
  bif x5 then (
  let x6 : Bool := (decide (x4 < (0 : Int)))
  let x7 : Bool := (decide (d.2.2.1.1 < (0 : Int)))
  let x8 : Bool := (!(x6 == x7))
  bif x8 then (
  let x9 : Int := (iadd .i64 x4 d.2.2.1.1)
  some ((), ((x9, ()), (((none : Option Int), ()), ()))))
  else (
  some ((), ((x4, ()), (((none : Option Int), ()), ())))))
  else (
  some ((), ((x4, ()), (((none : Option Int), ()), ())))))))
def c_num_Mod : List Nat := []
def L_num_Mod (_ : Nat) : Pts po_num_Mod.den := []
def E_num_Mod : Env := E0
theorem q_num_Mod_m (k : Nat) (d : Unit × ((Int × Unit) × ((Int × Unit) × Unit))) : evCode E_num_Mod (tab (L_num_Mod k)) c_num_Mod (bodyOf Try.f149) 0 (finK E_num_Mod po_num_Mod [.tmp 4, .tmp 5]) (startSt pi_num_Mod 29 d) = f_num_Mod_m () d := by kernel_rfl
def g_num_Mod (d : Unit × ((Int × Unit) × ((Int × Unit) × Unit))) : Option (Unit × ((Int × Unit) × (((Option Int) × Unit) × Unit))) := f_num_Mod_m () d
theorem ok_num_Mod : FnOk Try.prog ET0 149 pi_num_Mod po_num_Mod g_num_Mod :=
  fn_of_body (E := E_num_Mod) e0_ok (fn := Try.f149) Try.func149 (by kernel_rfl) (by kernel_rfl) [.tmp 4, .tmp 5] (by kernel_rfl) (by kernel_rfl) (by decide) rfl c_num_Mod L_num_Mod
    (by intro x hx; cases hx) (by intro k x hx; cases hx) (fun d out h => ⟨0, (q_num_Mod_m 0 d).trans h⟩)

/- horologe/num.Split -/
@[reducible] def pi_num_Split : PSh := ⟨[], [.mk false [.v (.int .i64)], .mk false [.v (.int .i64)]]⟩
@[reducible] def po_num_Split : PSh := ⟨[], [.mk false [.v (.int .i64)], .mk false [.v (.int .i64)], .mk false [.v .err]]⟩
def f_num_Split_m (T : Unit) (d : Unit × ((Int × Unit) × ((Int × Unit) × Unit))) : Option (Unit × ((Int × Unit) × ((Int × Unit) × (((Option Int) × Unit) × Unit)))) :=
  let x1 : Bool := (decide (d.2.2.1.1 < (1 : Int)))
  bif x1 then (
  let x2 : (Option Int) := (some (1 : Int))
  some ((), (((0 : Int), ()), (((0 : Int), ()), ((x2, ()), ())))))
  else (
  (g_num_Div ((), ((d.2.1.1, ()), ((d.2.2.1.1, ()), ())))).bind fun x3 =>
  let x4 : Bool := (!x3.2.2.1.1.isNone)
  bif x4 then (
  some ((), (((0 : Int), ()), (((0 : Int), ()), ((x3.2.2.1.1, ()), ())))))
  else (
  (g_num_Mod ((), ((d.2.1.1, ()), ((d.2.2.1.1, ()), ())))).bind fun x5 =>
  let x6 : Bool := (!x5.2.2.1.1.isNone)
  bif x6 then (
  some ((), (((0 : Int), ()), (((0 : Int), ()), ((x5.2.2.1.1, ()), ())))))
  else (
  some ((), ((x3.2.1.1, ()), ((x5.2.1.1, ()), (((none : Option Int), ()), ())))))))
def c_num_Split : List Nat := []
def L_num_Split (_ : Nat) : Pts po_num_Split.den := []
def E_num_Split : Env := ((E0.add 148 (typedSem pi_num_Div po_num_Div g_num_Div)).add 149 (typedSem pi_num_Mod po_num_Mod g_num_Mod))
theorem q_num_Split_m (k : Nat) (d : Unit × ((Int × Unit) × ((Int × Unit) × Unit))) : evCode E_num_Split (tab (L_num_Split k)) c_num_Split (bodyOf Try.f103) 0 (finK E_num_Split po_num_Split [.tmp 4, .tmp 5, .tmp 6]) (startSt pi_num_Split 33 d) = f_num_Split_m () d := by kernel_rfl
def g_num_Split (d : Unit × ((Int × Unit) × ((Int × Unit) × Unit))) : Option (Unit × ((Int × Unit) × ((Int × Unit) × (((Option Int) × Unit) × Unit)))) := f_num_Split_m () d
theorem ok_num_Split : FnOk Try.prog ET0 103 pi_num_Split po_num_Split g_num_Split :=
  fn_of_body (E := E_num_Split) (envOk_add (envOk_add e0_ok (typed_ok ok_num_Div)) (typed_ok ok_num_Mod)) (fn := Try.f103) Try.func103 (by kernel_rfl) (by kernel_rfl) [.tmp 4, .tmp 5, .tmp 6] (by kernel_rfl) (by kernel_rfl) (by decide) rfl c_num_Split L_num_Split
    (by intro x hx; cases hx) (by intro k x hx; cases hx) (fun d out h => ⟨0, (q_num_Split_m 0 d).trans h⟩)

/- (horologe/label.Label).place -/
@[reducible] def pi_label_Label_place : PSh := ⟨[], [.mk true [.v (.int .i64), .v (.int .i64), .v (.int .i64), .v (.int .i64), .v (.int .i64), .v (.int .i64), .v (.int .i64), .v (.int .i64)]]⟩
@[reducible] def po_label_Label_place : PSh := ⟨[], [.mk false [.v (.int .i64)], .mk false [.v (.int .i64)], .mk false [.v .err]]⟩
def f_label_Label_place_m (T : Unit) (d : Unit × ((Int × (Int × (Int × (Int × (Int × (Int × (Int × (Int × Unit)))))))) × Unit)) : Option (Unit × ((Int × Unit) × ((Int × Unit) × (((Option Int) × Unit) × Unit)))) :=
  (g_day_Of ((), ((d.2.1.1, ()), ((d.2.1.2.1, ()), ((d.2.1.2.2.1, ()), ()))))).bind fun x1 =>
  let x2 : Bool := (!x1.2.2.1.1.isNone)
  bif x2 then (
  some ((), (((0 : Int), ()), (((0 : Int), ()), ((x1.2.2.1.1, ()), ())))))
  else (
  let x3 : Int := (imul .i64 d.2.1.2.2.2.1 (60 : Int))
  let x4 : Int := (iadd .i64 x3 d.2.1.2.2.2.2.1)
  let x5 : Int := (isub .i64 x4 d.2.1.2.2.2.2.2.2.2.1)
  (g_num_Split ((), ((x5, ()), (((1440 : Int), ()), ())))).bind fun x6 =>
  let x7 : Bool := (!x6.2.2.2.1.1.isNone)
  bif x7 then (
  some ((), (((0 : Int), ()), (((0 : Int), ()), ((x6.2.2.2.1.1, ()), ())))))
  else (
  let x8 : Int := (iadd .i64 x1.2.1.1 x6.2.1.1)
  some ((), ((x8, ()), ((x6.2.2.1.1, ()), (((none : Option Int), ()), ()))))))
def c_label_Label_place : List Nat := []
def L_label_Label_place (_ : Nat) : Pts po_label_Label_place.den := []
def E_label_Label_place : Env := ((E0.add 56 (typedSem pi_day_Of po_day_Of g_day_Of)).add 103 (typedSem pi_num_Split po_num_Split g_num_Split))
theorem q_label_Label_place_m (k : Nat) (d : Unit × ((Int × (Int × (Int × (Int × (Int × (Int × (Int × (Int × Unit)))))))) × Unit)) : evCode E_label_Label_place (tab (L_label_Label_place k)) c_label_Label_place (bodyOf Try.f130) 0 (finK E_label_Label_place po_label_Label_place [.tmp 2, .tmp 3, .tmp 4]) (startSt pi_label_Label_place 43 d) = f_label_Label_place_m () d := by kernel_rfl
def g_label_Label_place (d : Unit × ((Int × (Int × (Int × (Int × (Int × (Int × (Int × (Int × Unit)))))))) × Unit)) : Option (Unit × ((Int × Unit) × ((Int × Unit) × (((Option Int) × Unit) × Unit)))) := f_label_Label_place_m () d
theorem ok_label_Label_place : FnOk Try.prog ET0 130 pi_label_Label_place po_label_Label_place g_label_Label_place :=
  fn_of_body (E := E_label_Label_place) (envOk_add (envOk_add e0_ok (typed_ok ok_day_Of)) (typed_ok ok_num_Split)) (fn := Try.f130) Try.func130 (by kernel_rfl) (by kernel_rfl) [.tmp 2, .tmp 3, .tmp 4] (by kernel_rfl) (by kernel_rfl) (by decide) rfl c_label_Label_place L_label_Label_place
    (by intro x hx; cases hx) (by intro k x hx; cases hx) (fun d out h => ⟨0, (q_label_Label_place_m 0 d).trans h⟩)

/- horologe/label.Check -/
@[reducible] def pi_label_Check : PSh := ⟨[], [.mk true [.v (.int .i64), .v (.int .i64), .v (.int .i64), .v (.int .i64), .v (.int .i64), .v (.int .i64), .v (.int .i64), .v (.int .i64)]]⟩
@[reducible] def po_label_Check : PSh := ⟨[], [.mk false [.v .err]]⟩
def f_label_Check_m (T : Unit) (d : Unit × ((Int × (Int × (Int × (Int × (Int × (Int × (Int × (Int × Unit)))))))) × Unit)) : Option (Unit × (((Option Int) × Unit) × Unit)) :=
  (g_label_Label_fields ((), ((d.2.1.1, (d.2.1.2.1, (d.2.1.2.2.1, (d.2.1.2.2.2.1, (d.2.1.2.2.2.2.1, (d.2.1.2.2.2.2.2.1, (d.2.1.2.2.2.2.2.2.1, (d.2.1.2.2.2.2.2.2.2.1, ())))))))), ()))).bind fun x1 =>
  let x2 : Bool := (!x1.2.1.1.isNone)
  bif x2 then (
  some ((), ((x1.2.1.1, ()), ())))
  else (
  (g_label_Label_place ((), ((d.2.1.1, (d.2.1.2.1, (d.2.1.2.2.1, (d.2.1.2.2.2.1, (d.2.1.2.2.2.2.1, (d.2.1.2.2.2.2.2.1, (d.2.1.2.2.2.2.2.2.1, (d.2.1.2.2.2.2.2.2.2.1, ())))))))), ()))).bind fun x3 =>
  let x4 : Bool := (!x3.2.2.2.1.1.isNone)
  bif x4 then (
  some ((), ((x3.2.2.2.1.1, ()), ())))
  else (
  (g_label_there ((), ((x3.2.1.1, ()), ()))).bind fun x5 =>
  let x6 : Bool := (!x5.2.1.1)
  bif x6 then (
  let x7 : (Option Int) := (some (13 : Int))
  some ((), ((x7, ()), ())))
  else (
  let x8 : Bool := (d.2.1.2.2.2.2.2.1 == (60 : Int))
  bif x8 then (
  let x9 : Bool := (x3.2.2.1.1 != (1439 : Int))
  bif x9 then (
  let x10 : (Option Int) := (some (12 : Int))
  some ((), ((x10, ()), ())))
  else (
  some ((), (((none : Option Int), ()), ()))))
  else (
  some ((), (((none : Option Int), ()), ()))))))
def c_label_Check : List Nat := []
def L_label_Check (_ : Nat) : Pts po_label_Check.den := []
def E_label_Check : Env := (((E0.add 101 (typedSem pi_label_there po_label_there g_label_there)).add 129 (typedSem pi_label_Label_fields po_label_Label_fields g_label_Label_fields)).add 130 (typedSem pi_label_Label_place po_label_Label_place g_label_Label_place))
theorem q_label_Check_m (k : Nat) (d : Unit × ((Int × (Int × (Int × (Int × (Int × (Int × (Int × (Int × Unit)))))))) × Unit)) : evCode E_label_Check (tab (L_label_Check k)) c_label_Check (bodyOf Try.f73) 0 (finK E_label_Check po_label_Check [.tmp 2]) (startSt pi_label_Check 36 d) = f_label_Check_m () d := by kernel_rfl
def g_label_Check (d : Unit × ((Int × (Int × (Int × (Int × (Int × (Int × (Int × (Int × Unit)))))))) × Unit)) : Option (Unit × (((Option Int) × Unit) × Unit)) := f_label_Check_m () d
theorem ok_label_Check : FnOk Try.prog ET0 73 pi_label_Check po_label_Check g_label_Check :=
  fn_of_body (E := E_label_Check) (envOk_add (envOk_add (envOk_add e0_ok (typed_ok ok_label_there)) (typed_ok ok_label_Label_fields)) (typed_ok ok_label_Label_place)) (fn := Try.f73) Try.func73 (by kernel_rfl) (by kernel_rfl) [.tmp 2] (by kernel_rfl) (by kernel_rfl) (by decide) rfl c_label_Check L_label_Check
    (by intro x hx; cases hx) (by intro k x hx; cases hx) (fun d out h => ⟨0, (q_label_Check_m 0 d).trans h⟩)

/- horologe/day.Weekday -/
@[reducible] def pi_day_Weekday : PSh := ⟨[], [.mk false [.v (.int .i64)]]⟩
@[reducible] def po_day_Weekday : PSh := ⟨[], [.mk false [.v (.int .i64)]]⟩
def f_day_Weekday_m (T : Unit) (d : Unit × ((Int × Unit) × Unit)) : Option (Unit × ((Int × Unit) × Unit)) :=
  let x1 : Int := (Int.tmod d.2.1.1 (7 : Int))
  let x2 : Int := (iadd .i64 x1 (3 : Int))
  let x3 : Int := (Int.tmod x2 (7 : Int))
  let x4 : Int := (iadd .i64 x3 (7 : Int))
  let x5 : Int := (Int.tmod x4 (7 : Int))
  let x6 : Int := (iadd .i64 x5 (1 : Int))
  some ((), ((x6, ()), ()))
def c_day_Weekday : List Nat := []
def L_day_Weekday (_ : Nat) : Pts po_day_Weekday.den := []
def E_day_Weekday : Env := E0
theorem q_day_Weekday_m (k : Nat) (d : Unit × ((Int × Unit) × Unit)) : evCode E_day_Weekday (tab (L_day_Weekday k)) c_day_Weekday (bodyOf Try.f131) 0 (finK E_day_Weekday po_day_Weekday [.tmp 2]) (startSt pi_day_Weekday 10 d) = f_day_Weekday_m () d := by kernel_rfl
def g_day_Weekday (d : Unit × ((Int × Unit) × Unit)) : Option (Unit × ((Int × Unit) × Unit)) := f_day_Weekday_m () d
theorem ok_day_Weekday : FnOk Try.prog ET0 131 pi_day_Weekday po_day_Weekday g_day_Weekday :=
  fn_of_body (E := E_day_Weekday) e0_ok (fn := Try.f131) Try.func131 (by kernel_rfl) (by kernel_rfl) [.tmp 2] (by kernel_rfl) (by kernel_rfl) (by decide) rfl c_day_Weekday L_day_Weekday
    (by intro x hx; cases hx) (by intro k x hx; cases hx) (fun d out h => ⟨0, (q_day_Weekday_m 0 d).trans h⟩)

/- horologe/mail.weekday -/
@[reducible] def pi_mail_weekday : PSh := ⟨[], [.mk true [.v (.int .i64), .v (.int .i64), .v (.int .i64), .v (.int .i64), .v (.int .i64), .v (.int .i64), .v (.int .i64), .v (.int .i64)]]⟩
@[reducible] def po_mail_weekday : PSh := ⟨[], [.mk false [.v (.int .i64)], .mk false [.v .err]]⟩
def f_mail_weekday_m (T : Unit) (d : Unit × ((Int × (Int × (Int × (Int × (Int × (Int × (Int × (Int × Unit)))))))) × Unit)) : Option (Unit × ((Int × Unit) × (((Option Int) × Unit) × Unit))) :=
  (g_day_Of ((), ((d.2.1.1, ()), ((d.2.1.2.1, ()), ((d.2.1.2.2.1, ()), ()))))).bind fun x1 =>
  let x2 : Bool := (!x1.2.2.1.1.isNone)
  bif x2 then (
  some ((), (((0 : Int), ()), ((x1.2.2.1.1, ()), ()))))
  else (
  (g_day_Weekday ((), ((x1.2.1.1, ()), ()))).bind fun x3 =>
  some ((), ((x3.2.1.1, ()), (((none : Option Int), ()), ()))))
def c_mail_weekday : List Nat := []
def L_mail_weekday (_ : Nat) : Pts po_mail_weekday.den := []
def E_mail_weekday : Env := ((E0.add 56 (typedSem pi_day_Of po_day_Of g_day_Of)).add 131 (typedSem pi_day_Weekday po_day_Weekday g_day_Weekday))
theorem q_mail_weekday_m (k : Nat) (d : Unit × ((Int × (Int × (Int × (Int × (Int × (Int × (Int × (Int × Unit)))))))) × Unit)) : evCode E_mail_weekday (tab (L_mail_weekday k)) c_mail_weekday (bodyOf Try.f74) 0 (finK E_mail_weekday po_mail_weekday [.tmp 2, .tmp 3]) (startSt pi_mail_weekday 21 d) = f_mail_weekday_m () d := by kernel_rfl
def g_mail_weekday (d : Unit × ((Int × (Int × (Int × (Int × (Int × (Int × (Int × (Int × Unit)))))))) × Unit)) : Option (Unit × ((Int × Unit) × (((Option Int) × Unit) × Unit))) := f_mail_weekday_m () d
theorem ok_mail_weekday : FnOk Try.prog ET0 74 pi_mail_weekday po_mail_weekday g_mail_weekday :=
  fn_of_body (E := E_mail_weekday) (envOk_add (envOk_add e0_ok (typed_ok ok_day_Of)) (typed_ok ok_day_Weekday)) (fn := Try.f74) Try.func74 (by kernel_rfl) (by kernel_rfl) [.tmp 2, .tmp 3] (by kernel_rfl) (by kernel_rfl) (by decide) rfl c_mail_weekday L_mail_weekday
    (by intro x hx; cases hx) (by intro k x hx; cases hx) (fun d out h => ⟨0, (q_mail_weekday_m 0 d).trans h⟩)

/- slices.Reverse[[]byte,byte] -/
@[reducible] def pi_slices_Reverse_byte_byte_io : PSh := ⟨[.row 5 (.int .u8)], [.mk false [.osl 0]]⟩
@[reducible] def po_slices_Reverse_byte_byte_io : PSh := ⟨[.row 5 (.int .u8)], [.mk false [.osl 0]]⟩
@[reducible] def TT_slices_Reverse_byte_byte_io : Type := (((((List Int) × Unit) × (Unit × ((Int × Unit) × ((Int × Unit) × Unit)))) → Option (((List Int) × Unit) × (Unit × Unit))) × Unit)
@[reducible] def sh_slices_Reverse_byte_byte_io_1 : PSh := ⟨[.row 5 (.int .u8)], [.mk false [.osl 0], .any, .mk false [.v (.int .i64)], .mk false [.v (.int .i64)], .any, .any, .any, .any, .any, .any, .any, .any, .any, .any, .any, .any, .any, .any, .any, .any, .any, .any, .any, .any, .any, .any, .any, .any]⟩
def f_slices_Reverse_byte_byte_io_p1 (T : TT_slices_Reverse_byte_byte_io) (d : ((List Int) × Unit) × (Unit × ((Int × Unit) × ((Int × Unit) × Unit)))) : Option (((List Int) × Unit) × (Unit × Unit)) :=
  let x3 : Bool := (decide (d.2.2.1.1 < d.2.2.2.1.1))
  bif x3 then (
  bif decide ((0 : Int) ≤ d.2.2.2.1.1) && decide (d.2.2.2.1.1 < (d.1.1.length : Int)) then (
  bif decide ((0 : Int) ≤ d.2.2.1.1) && decide (d.2.2.1.1 < (d.1.1.length : Int)) then (
  bif decide ((0 : Int) ≤ d.2.2.1.1) && decide (d.2.2.1.1 < (d.1.1.length : Int)) then (
  let x4 : (List Int) := (List.set d.1.1 (Int.toNat d.2.2.1.1) (gd (.int .u8) d.1.1 d.2.2.2.1.1))
  bif decide ((0 : Int) ≤ d.2.2.2.1.1) && decide (d.2.2.2.1.1 < (x4.length : Int)) then (
  let x5 : (List Int) := (List.set x4 (Int.toNat d.2.2.2.1.1) (gd (.int .u8) d.1.1 d.2.2.1.1))
  let x6 : Int := (iadd .i64 d.2.2.1.1 (1 : Int))
  let x7 : Int := (isub .i64 d.2.2.2.1.1 (1 : Int))
  (T.1 ((x5, ()), ((), ((x6, ()), ((x7, ()), ()))))))
  else none)
  else none)
  else none)
  else none)
  else (
  some ((d.1.1, ()), ((), ())))
def f_slices_Reverse_byte_byte_io_t : Nat → TT_slices_Reverse_byte_byte_io
  | 0 => (fun _ => none, ())
  | k + 1 => (f_slices_Reverse_byte_byte_io_p1 (f_slices_Reverse_byte_byte_io_t k), ())
theorem t_slices_Reverse_byte_byte_io (k : Nat) : f_slices_Reverse_byte_byte_io_t (k + 1) = (f_slices_Reverse_byte_byte_io_p1 (f_slices_Reverse_byte_byte_io_t k), ()) := rfl
def f_slices_Reverse_byte_byte_io_m (T : TT_slices_Reverse_byte_byte_io) (d : ((List Int) × Unit) × (Unit × Unit)) : Option (((List Int) × Unit) × (Unit × Unit)) :=
  let x1 : Int := (d.1.1.length : Int)
  let x2 : Int := (isub .i64 x1 (1 : Int))
  (T.1 ((d.1.1, ()), ((), (((0 : Int), ()), ((x2, ()), ())))))
def c_slices_Reverse_byte_byte_io : List Nat := []
def L_slices_Reverse_byte_byte_io (k : Nat) : Pts po_slices_Reverse_byte_byte_io.den := [(1, ⟨sh_slices_Reverse_byte_byte_io_1, (f_slices_Reverse_byte_byte_io_t k).1⟩)]
def E_slices_Reverse_byte_byte_io : Env := (E0.kp [0])
theorem q_slices_Reverse_byte_byte_io_1 (k : Nat) (d : ((List Int) × Unit) × (Unit × ((Int × Unit) × ((Int × Unit) × Unit)))) : evAt E_slices_Reverse_byte_byte_io (tab (L_slices_Reverse_byte_byte_io k)) c_slices_Reverse_byte_byte_io 1 (bodyOf Try.f162) 0 (finKio E_slices_Reverse_byte_byte_io po_slices_Reverse_byte_byte_io [] [(0, none)]) (ptSt sh_slices_Reverse_byte_byte_io_1 d) = f_slices_Reverse_byte_byte_io_p1 (f_slices_Reverse_byte_byte_io_t k) d := by kernel_rfl
theorem q_slices_Reverse_byte_byte_io_m (k : Nat) (d : ((List Int) × Unit) × (Unit × Unit)) : evCode E_slices_Reverse_byte_byte_io (tab (L_slices_Reverse_byte_byte_io k)) c_slices_Reverse_byte_byte_io (bodyOf Try.f162) 0 (finKio E_slices_Reverse_byte_byte_io po_slices_Reverse_byte_byte_io [] [(0, none)]) (startSt pi_slices_Reverse_byte_byte_io 28 d) = f_slices_Reverse_byte_byte_io_m (f_slices_Reverse_byte_byte_io_t k) d := by kernel_rfl
theorem go_slices_Reverse_byte_byte_io (F : ((List Int) × Unit) × (Unit × Unit) → Option (((List Int) × Unit) × (Unit × Unit))) (hF : ∀ d out, F d = some out → ∃ k, f_slices_Reverse_byte_byte_io_m (f_slices_Reverse_byte_byte_io_t k) d = some out) : FnIo Try.prog ET0 162 pi_slices_Reverse_byte_byte_io po_slices_Reverse_byte_byte_io 0 [(0, 0, none)] F :=
  fn_of_bodyIo (E := E_slices_Reverse_byte_byte_io) (envOk_kp e0_ok) (fn := Try.f162) Try.func162 (by kernel_rfl) (by kernel_rfl) [] [(0, none)] [(0, 0, none)] (by kernel_rfl) (by kernel_rfl) (by kernel_rfl) (by kernel_rfl) (by decide) (by decide) c_slices_Reverse_byte_byte_io L_slices_Reverse_byte_byte_io
    (by intro x hx d; simp only [L_slices_Reverse_byte_byte_io, List.mem_cons, List.not_mem_nil, or_false] at hx; subst hx; rfl)
    (by intro k x hx d out h; simp only [L_slices_Reverse_byte_byte_io, List.mem_cons, List.not_mem_nil, or_false] at hx; subst hx; exact (q_slices_Reverse_byte_byte_io_1 k d).trans h)
    (by intro d out h; obtain ⟨k, hk⟩ := hF d out h; exact ⟨k, (q_slices_Reverse_byte_byte_io_m k d).trans hk⟩)
def g_slices_Reverse_byte_byte_io (d : ((List Int) × Unit) × (Unit × Unit)) : Option (((List Int) × Unit) × (Unit × Unit)) := lim fun k => f_slices_Reverse_byte_byte_io_m (f_slices_Reverse_byte_byte_io_t k) d
theorem ok_slices_Reverse_byte_byte_io : FnIo Try.prog ET0 162 pi_slices_Reverse_byte_byte_io po_slices_Reverse_byte_byte_io 0 [(0, 0, none)] g_slices_Reverse_byte_byte_io := go_slices_Reverse_byte_byte_io g_slices_Reverse_byte_byte_io fun d out h => lim_some h

/- horologe/figures.raw -/
@[reducible] def pi_figures_raw : PSh := ⟨[], [.mk false [.v (.int .u64)], .mk false [.v (.int .i64)]]⟩
@[reducible] def po_figures_raw : PSh := ⟨[], [.mk false [.v .str]]⟩
@[reducible] def TT_figures_raw : Type := (((((List Int) × Unit) × ((Int × Unit) × ((Int × Unit) × (Unit × Unit)))) → Option (Unit × ((ByteArray × Unit) × Unit))) × Unit)
@[reducible] def sh_figures_raw_3 : PSh := ⟨[.row 5 (.int .u8)], [.mk false [.v (.int .u64)], .mk false [.v (.int .i64)], .any, .any, .any, .mk false [.osl 0], .any, .any, .any, .any, .any, .any, .any, .any, .any, .any, .any, .any, .any, .any, .any, .any, .any, .any, .any, .any, .any, .any]⟩
def f_figures_raw_p3 (T : TT_figures_raw) (d : ((List Int) × Unit) × ((Int × Unit) × ((Int × Unit) × (Unit × Unit)))) : Option (Unit × ((ByteArray × Unit) × Unit)) :=
  let x1 : Bool := (decide (d.2.1.1 > (0 : Int)))
  bif x1 then (
  let x2 : Int := (Int.tmod d.2.1.1 (10 : Int))
  let x3 : Int := (iconv .u8 x2)
  let x4 : Int := (iadd .u8 (48 : Int) x3)
  let x5 : (List Int) := ([x4] : List Int)
  bif decide (((d.1.1.length + x5.length) * 1 : Nat) ≤ 140737488355328) && decide (d.1.1.length + x5.length ≤ 9223372036854775807) then (
  let x6 : (List Int) := (d.1.1 ++ x5)
  let x7 : Int := (iquo .u64 d.2.1.1 (10 : Int))
  (T.1 ((x6, ()), ((x7, ()), ((d.2.2.1.1, ()), ((), ()))))))
  else none)
  else (
  let x8 : Int := (d.1.1.length : Int)
  let x9 : Int := (if (1 : Int) > d.2.2.1.1 then (1 : Int) else d.2.2.1.1)
  let x10 : Bool := (decide (x8 < x9))
  bif x10 then (
  let x11 : Int := (Int.tmod d.2.1.1 (10 : Int))
  let x12 : Int := (iconv .u8 x11)
  let x13 : Int := (iadd .u8 (48 : Int) x12)
  let x14 : (List Int) := ([x13] : List Int)
  bif decide (((d.1.1.length + x14.length) * 1 : Nat) ≤ 140737488355328) && decide (d.1.1.length + x14.length ≤ 9223372036854775807) then (
  let x15 : (List Int) := (d.1.1 ++ x14)
  let x16 : Int := (iquo .u64 d.2.1.1 (10 : Int))
  (T.1 ((x15, ()), ((x16, ()), ((d.2.2.1.1, ()), ((), ()))))))
  else none)
  else (
  (g_slices_Reverse_byte_byte_io ((d.1.1, ()), ((), ()))).bind fun x17 =>
  let x18 : ByteArray := (strOf x17.1.1)
  some ((), ((x18, ()), ()))))
def f_figures_raw_t : Nat → TT_figures_raw
  | 0 => (fun _ => none, ())
  | k + 1 => (f_figures_raw_p3 (f_figures_raw_t k), ())
theorem t_figures_raw (k : Nat) : f_figures_raw_t (k + 1) = (f_figures_raw_p3 (f_figures_raw_t k), ()) := rfl
def f_figures_raw_m (T : TT_figures_raw) (d : Unit × ((Int × Unit) × ((Int × Unit) × Unit))) : Option (Unit × ((ByteArray × Unit) × Unit)) :=
  (T.1 ((([] : List Int), ()), ((d.2.1.1, ()), ((d.2.2.1.1, ()), ((), ())))))
def c_figures_raw : List Nat := []
def L_figures_raw (k : Nat) : Pts po_figures_raw.den := [(3, ⟨sh_figures_raw_3, (f_figures_raw_t k).1⟩)]
def E_figures_raw : Env := (E0.add 162 (ioSem pi_slices_Reverse_byte_byte_io po_slices_Reverse_byte_byte_io 0 [(0, 0, none)] g_slices_Reverse_byte_byte_io))
theorem q_figures_raw_3 (k : Nat) (d : ((List Int) × Unit) × ((Int × Unit) × ((Int × Unit) × (Unit × Unit)))) : evAt E_figures_raw (tab (L_figures_raw k)) c_figures_raw 3 (bodyOf Try.f141) 0 (finK E_figures_raw po_figures_raw [.tmp 4]) (ptSt sh_figures_raw_3 d) = f_figures_raw_p3 (f_figures_raw_t k) d := by kernel_rfl
theorem q_figures_raw_m (k : Nat) (d : Unit × ((Int × Unit) × ((Int × Unit) × Unit))) : evCode E_figures_raw (tab (L_figures_raw k)) c_figures_raw (bodyOf Try.f141) 0 (finK E_figures_raw po_figures_raw [.tmp 4]) (startSt pi_figures_raw 28 d) = f_figures_raw_m (f_figures_raw_t k) d := by kernel_rfl
theorem go_figures_raw (F : Unit × ((Int × Unit) × ((Int × Unit) × Unit)) → Option (Unit × ((ByteArray × Unit) × Unit))) (hF : ∀ d out, F d = some out → ∃ k, f_figures_raw_m (f_figures_raw_t k) d = some out) : FnOk Try.prog ET0 141 pi_figures_raw po_figures_raw F :=
  fn_of_body (E := E_figures_raw) (envOk_add e0_ok (io_ok ok_slices_Reverse_byte_byte_io)) (fn := Try.f141) Try.func141 (by kernel_rfl) (by kernel_rfl) [.tmp 4] (by kernel_rfl) (by kernel_rfl) (by decide) rfl c_figures_raw L_figures_raw
    (by intro x hx d; simp only [L_figures_raw, List.mem_cons, List.not_mem_nil, or_false] at hx; subst hx; rfl)
    (by intro k x hx d out h; simp only [L_figures_raw, List.mem_cons, List.not_mem_nil, or_false] at hx; subst hx; exact (q_figures_raw_3 k d).trans h)
    (by intro d out h; obtain ⟨k, hk⟩ := hF d out h; exact ⟨k, (q_figures_raw_m k d).trans hk⟩)
def g_figures_raw (d : Unit × ((Int × Unit) × ((Int × Unit) × Unit))) : Option (Unit × ((ByteArray × Unit) × Unit)) := lim fun k => f_figures_raw_m (f_figures_raw_t k) d
theorem ok_figures_raw : FnOk Try.prog ET0 141 pi_figures_raw po_figures_raw g_figures_raw := go_figures_raw g_figures_raw fun d out h => lim_some h

/- horologe/figures.Put -/
@[reducible] def pi_figures_Put : PSh := ⟨[], [.mk false [.v (.int .i64)], .mk false [.v (.int .i64)]]⟩
@[reducible] def po_figures_Put : PSh := ⟨[], [.mk false [.v .str], .mk false [.v .err]]⟩
def f_figures_Put_m (T : Unit) (d : Unit × ((Int × Unit) × ((Int × Unit) × Unit))) : Option (Unit × ((ByteArray × Unit) × (((Option Int) × Unit) × Unit))) :=
  let x1 : Bool := (decide (d.2.2.1.1 < (0 : Int)))
  bif x1 then (
  let x2 : (Option Int) := (some (1 : Int))
  some ((), (((⟨#[]⟩ : ByteArray), ()), ((x2, ()), ()))))
  else (
  let x3 : Bool := (decide (d.2.2.1.1 > (20 : Int)))
  bif x3 then (
  let x4 : (Option Int) := (some (1 : Int))
  some ((), (((⟨#[]⟩ : ByteArray), ()), ((x4, ()), ()))))
  else (
  let x5 : Bool := (decide (d.2.1.1 < (0 : Int)))
  bif x5 then (
  let x6 : Int := (iconv .u64 d.2.1.1)
  let x7 : Int := (ineg .u64 x6)
  (g_figures_raw ((), ((x7, ()), ((d.2.2.1.1, ()), ())))).bind fun x8 =>
  bif fitsS (⟨#[45]⟩ : ByteArray) x8.2.1.1 then (
  let x9 : ByteArray := ((⟨#[45]⟩ : ByteArray) ++ x8.2.1.1)
  some ((), ((x9, ()), (((none : Option Int), ()), ()))))
  else none)
  else (
  let x10 : Int := (iconv .u64 d.2.1.1)
  (g_figures_raw ((), ((x10, ()), ((d.2.2.1.1, ()), ())))).bind fun x11 =>
  some ((), ((x11.2.1.1, ()), (((none : Option Int), ()), ()))))))
def c_figures_Put : List Nat := []
def L_figures_Put (_ : Nat) : Pts po_figures_Put.den := []
def E_figures_Put : Env := (E0.add 141 (typedSem pi_figures_raw po_figures_raw g_figures_raw))
theorem q_figures_Put_m (k : Nat) (d : Unit × ((Int × Unit) × ((Int × Unit) × Unit))) : evCode E_figures_Put (tab (L_figures_Put k)) c_figures_Put (bodyOf Try.f99) 0 (finK E_figures_Put po_figures_Put [.tmp 4, .tmp 5]) (startSt pi_figures_Put 27 d) = f_figures_Put_m () d := by kernel_rfl
def g_figures_Put (d : Unit × ((Int × Unit) × ((Int × Unit) × Unit))) : Option (Unit × ((ByteArray × Unit) × (((Option Int) × Unit) × Unit))) := f_figures_Put_m () d
theorem ok_figures_Put : FnOk Try.prog ET0 99 pi_figures_Put po_figures_Put g_figures_Put :=
  fn_of_body (E := E_figures_Put) (envOk_add e0_ok (typed_ok ok_figures_raw)) (fn := Try.f99) Try.func99 (by kernel_rfl) (by kernel_rfl) [.tmp 4, .tmp 5] (by kernel_rfl) (by kernel_rfl) (by decide) rfl c_figures_Put L_figures_Put
    (by intro x hx; cases hx) (by intro k x hx; cases hx) (fun d out h => ⟨0, (q_figures_Put_m 0 d).trans h⟩)

/- (*horologe/mail.writer).put -/
@[reducible] def pi_mail_writer_put_io : PSh := ⟨[.var 122 [.osl 1, .v .err], .row 5 (.int .u8)], [.mk false [.ref 0 0], .mk false [.v .str], .mk false [.v (.int .i64)], .mk false [.v (.int .i64)]]⟩
@[reducible] def po_mail_writer_put_io : PSh := ⟨[.var 122 [.osl 1, .v .err], .row 5 (.int .u8)], [.mk false [.ref 0 0]]⟩
def f_mail_writer_put_io_m (T : Unit) (d : (((Option Int) × Unit) × ((List Int) × Unit)) × (Unit × ((ByteArray × Unit) × ((Int × Unit) × ((Int × Unit) × Unit))))) : Option ((((Option Int) × Unit) × ((List Int) × Unit)) × (Unit × Unit)) :=
  (g_figures_Put ((), ((d.2.2.2.1.1, ()), ((d.2.2.2.2.1.1, ()), ())))).bind fun x1 =>
  let x2 : Bool := (!x1.2.2.1.1.isNone)
  bif x2 then (
  bif decide (((d.1.2.1.length + (bytesOf d.2.2.1.1).length) * 1 : Nat) ≤ 140737488355328) && decide (d.1.2.1.length + (bytesOf d.2.2.1.1).length ≤ 9223372036854775807) then (
  let x3 : (List Int) := (d.1.2.1 ++ (bytesOf d.2.2.1.1))
  bif decide (((x3.length + (bytesOf x1.2.1.1).length) * 1 : Nat) ≤ 140737488355328) && decide (x3.length + (bytesOf x1.2.1.1).length ≤ 9223372036854775807) then (
  let x4 : (List Int) := (x3 ++ (bytesOf x1.2.1.1))
  some (((x1.2.2.1.1, ()), (x4, ())), ((), ())))
  else none)
  else none)
  else (
  bif decide (((d.1.2.1.length + (bytesOf d.2.2.1.1).length) * 1 : Nat) ≤ 140737488355328) && decide (d.1.2.1.length + (bytesOf d.2.2.1.1).length ≤ 9223372036854775807) then (
  let x5 : (List Int) := (d.1.2.1 ++ (bytesOf d.2.2.1.1))
  bif decide (((x5.length + (bytesOf x1.2.1.1).length) * 1 : Nat) ≤ 140737488355328) && decide (x5.length + (bytesOf x1.2.1.1).length ≤ 9223372036854775807) then (
  let x6 : (List Int) := (x5 ++ (bytesOf x1.2.1.1))
  some (((d.1.1.1, ()), (x6, ())), ((), ())))
  else none)
  else none)
def c_mail_writer_put_io : List Nat := []
def L_mail_writer_put_io (_ : Nat) : Pts po_mail_writer_put_io.den := []
def E_mail_writer_put_io : Env := ((E0.add 99 (typedSem pi_figures_Put po_figures_Put g_figures_Put)).kp [0])
theorem q_mail_writer_put_io_m (k : Nat) (d : (((Option Int) × Unit) × ((List Int) × Unit)) × (Unit × ((ByteArray × Unit) × ((Int × Unit) × ((Int × Unit) × Unit))))) : evCode E_mail_writer_put_io (tab (L_mail_writer_put_io k)) c_mail_writer_put_io (bodyOf Try.f75) 0 (finKio E_mail_writer_put_io po_mail_writer_put_io [] [(0, none)]) (startSt pi_mail_writer_put_io 33 d) = f_mail_writer_put_io_m () d := by kernel_rfl
def g_mail_writer_put_io (d : (((Option Int) × Unit) × ((List Int) × Unit)) × (Unit × ((ByteArray × Unit) × ((Int × Unit) × ((Int × Unit) × Unit))))) : Option ((((Option Int) × Unit) × ((List Int) × Unit)) × (Unit × Unit)) := f_mail_writer_put_io_m () d
theorem ok_mail_writer_put_io : FnIo Try.prog ET0 75 pi_mail_writer_put_io po_mail_writer_put_io 0 [(0, 0, none)] g_mail_writer_put_io :=
  fn_of_bodyIo (E := E_mail_writer_put_io) (envOk_kp (envOk_add e0_ok (typed_ok ok_figures_Put))) (fn := Try.f75) Try.func75 (by kernel_rfl) (by kernel_rfl) [] [(0, none)] [(0, 0, none)] (by kernel_rfl) (by kernel_rfl) (by kernel_rfl) (by kernel_rfl) (by decide) (by decide) c_mail_writer_put_io L_mail_writer_put_io
    (by intro x hx; cases hx) (by intro k x hx; cases hx) (fun d out h => ⟨0, (q_mail_writer_put_io_m 0 d).trans h⟩)

/- horologe/mail.Put -/
@[reducible] def pi_mail_Put : PSh := ⟨[], [.mk true [.v (.int .i64), .v (.int .i64), .v (.int .i64), .v (.int .i64), .v (.int .i64), .v (.int .i64), .v (.int .i64), .v (.int .i64)]]⟩
@[reducible] def po_mail_Put : PSh := ⟨[], [.mk false [.v .str], .mk false [.v .err]]⟩
def f_mail_Put_m (T : Unit) (d : Unit × ((Int × (Int × (Int × (Int × (Int × (Int × (Int × (Int × Unit)))))))) × Unit)) : Option (Unit × ((ByteArray × Unit) × (((Option Int) × Unit) × Unit))) :=
  (g_label_Check ((), ((d.2.1.1, (d.2.1.2.1, (d.2.1.2.2.1, (d.2.1.2.2.2.1, (d.2.1.2.2.2.2.1, (d.2.1.2.2.2.2.2.1, (d.2.1.2.2.2.2.2.2.1, (d.2.1.2.2.2.2.2.2.2.1, ())))))))), ()))).bind fun x1 =>
  let x2 : Bool := (!x1.2.1.1.isNone)
  bif x2 then (
  some ((), (((⟨#[]⟩ : ByteArray), ()), ((x1.2.1.1, ()), ()))))
  else (
  let x3 : Bool := (decide (d.2.1.1 < (1900 : Int)))
  bif x3 then (
  let x4 : (Option Int) := (some (13 : Int))
  some ((), (((⟨#[]⟩ : ByteArray), ()), ((x4, ()), ()))))
  else (
  let x5 : Bool := (d.2.1.2.2.2.2.2.2.1 != (0 : Int))
  bif x5 then (
  let x6 : (Option Int) := (some (1 : Int))
  some ((), (((⟨#[]⟩ : ByteArray), ()), ((x6, ()), ()))))
  else (
  (g_mail_weekday ((), ((d.2.1.1, (d.2.1.2.1, (d.2.1.2.2.1, (d.2.1.2.2.2.1, (d.2.1.2.2.2.2.1, (d.2.1.2.2.2.2.2.1, (d.2.1.2.2.2.2.2.2.1, (d.2.1.2.2.2.2.2.2.2.1, ())))))))), ()))).bind fun x7 =>
  let x8 : Bool := (!x7.2.2.1.1.isNone)
  bif x8 then (
  some ((), (((⟨#[]⟩ : ByteArray), ()), ((x7.2.2.1.1, ()), ()))))
  else (
  (g_mail_Weekday ((), ((x7.2.1.1, ()), ()))).bind fun x9 =>
  bif fitsS x9.2.1.1 (⟨#[44, 32]⟩ : ByteArray) then (
  let x10 : ByteArray := (x9.2.1.1 ++ (⟨#[44, 32]⟩ : ByteArray))
  (g_mail_writer_put_io ((((none : Option Int), ()), (([] : List Int), ())), ((), ((x10, ()), ((d.2.1.2.2.1, ()), (((2 : Int), ()), ())))))).bind fun x11 =>
  (g_mail_Month ((), ((d.2.1.2.1, ()), ()))).bind fun x12 =>
  bif fitsS (⟨#[32]⟩ : ByteArray) x12.2.1.1 then (
  let x13 : ByteArray := ((⟨#[32]⟩ : ByteArray) ++ x12.2.1.1)
  bif fitsS x13 (⟨#[32]⟩ : ByteArray) then (
  let x14 : ByteArray := (x13 ++ (⟨#[32]⟩ : ByteArray))
  (g_mail_writer_put_io (((x11.1.1.1, ()), (x11.1.2.1, ())), ((), ((x14, ()), ((d.2.1.1, ()), (((4 : Int), ()), ())))))).bind fun x15 =>
  (g_mail_writer_put_io (((x15.1.1.1, ()), (x15.1.2.1, ())), ((), (((⟨#[32]⟩ : ByteArray), ()), ((d.2.1.2.2.2.1, ()), (((2 : Int), ()), ())))))).bind fun x16 =>
  (g_mail_writer_put_io (((x16.1.1.1, ()), (x16.1.2.1, ())), ((), (((⟨#[58]⟩ : ByteArray), ()), ((d.2.1.2.2.2.2.1, ()), (((2 : Int), ()), ())))))).bind fun x17 =>
  (g_mail_writer_put_io (((x17.1.1.1, ()), (x17.1.2.1, ())), ((), (((⟨#[58]⟩ : ByteArray), ()), ((d.2.1.2.2.2.2.2.1, ()), (((2 : Int), ()), ())))))).bind fun x18 =>
  let x19 : Bool := (decide (d.2.1.2.2.2.2.2.2.2.1 < (0 : Int)))
  bif x19 then (
  let x20 : Int := (ineg .i64 d.2.1.2.2.2.2.2.2.2.1)
  let x21 : Int := (iquo .i64 x20 (60 : Int))
  (g_mail_writer_put_io (((x18.1.1.1, ()), (x18.1.2.1, ())), ((), (((⟨#[32, 45]⟩ : ByteArray), ()), ((x21, ()), (((2 : Int), ()), ())))))).bind fun x22 =>
  let x23 : Int := (Int.tmod x20 (60 : Int))
  (g_mail_writer_put_io (((x22.1.1.1, ()), (x22.1.2.1, ())), ((), (((⟨#[]⟩ : ByteArray), ()), ((x23, ()), (((2 : Int), ()), ())))))).bind fun x24 =>
  let x25 : ByteArray := (strOf x24.1.2.1)
  some ((), ((x25, ()), ((x24.1.1.1, ()), ()))))
  else (
  let x26 : Int := (iquo .i64 d.2.1.2.2.2.2.2.2.2.1 (60 : Int))
  (g_mail_writer_put_io (((x18.1.1.1, ()), (x18.1.2.1, ())), ((), (((⟨#[32, 43]⟩ : ByteArray), ()), ((x26, ()), (((2 : Int), ()), ())))))).bind fun x27 =>
  let x28 : Int := (Int.tmod d.2.1.2.2.2.2.2.2.2.1 (60 : Int))
  (g_mail_writer_put_io (((x27.1.1.1, ()), (x27.1.2.1, ())), ((), (((⟨#[]⟩ : ByteArray), ()), ((x28, ()), (((2 : Int), ()), ())))))).bind fun x29 =>
  let x30 : ByteArray := (strOf x29.1.2.1)
  some ((), ((x30, ()), ((x29.1.1.1, ()), ())))))
  else none)
  else none)
  else none))))
def c_mail_Put : List Nat := []
def L_mail_Put (_ : Nat) : Pts po_mail_Put.den := []
def E_mail_Put : Env := (((((E0.add 36 (typedSem pi_mail_Weekday po_mail_Weekday g_mail_Weekday)).add 38 (typedSem pi_mail_Month po_mail_Month g_mail_Month)).add 73 (typedSem pi_label_Check po_label_Check g_label_Check)).add 74 (typedSem pi_mail_weekday po_mail_weekday g_mail_weekday)).add 75 (ioSem pi_mail_writer_put_io po_mail_writer_put_io 0 [(0, 0, none)] g_mail_writer_put_io))
theorem q_mail_Put_m (k : Nat) (d : Unit × ((Int × (Int × (Int × (Int × (Int × (Int × (Int × (Int × Unit)))))))) × Unit)) : evCode E_mail_Put (tab (L_mail_Put k)) c_mail_Put (bodyOf Try.f29) 0 (finK E_mail_Put po_mail_Put [.tmp 2, .tmp 3]) (startSt pi_mail_Put 74 d) = f_mail_Put_m () d := by kernel_rfl
def g_mail_Put (d : Unit × ((Int × (Int × (Int × (Int × (Int × (Int × (Int × (Int × Unit)))))))) × Unit)) : Option (Unit × ((ByteArray × Unit) × (((Option Int) × Unit) × Unit))) := f_mail_Put_m () d
theorem ok_mail_Put : FnOk Try.prog ET0 29 pi_mail_Put po_mail_Put g_mail_Put :=
  fn_of_body (E := E_mail_Put) (envOk_add (envOk_add (envOk_add (envOk_add (envOk_add e0_ok (typed_ok ok_mail_Weekday)) (typed_ok ok_mail_Month)) (typed_ok ok_label_Check)) (typed_ok ok_mail_weekday)) (io_ok ok_mail_writer_put_io)) (fn := Try.f29) Try.func29 (by kernel_rfl) (by kernel_rfl) [.tmp 2, .tmp 3] (by kernel_rfl) (by kernel_rfl) (by decide) rfl c_mail_Put L_mail_Put
    (by intro x hx; cases hx) (by intro k x hx; cases hx) (fun d out h => ⟨0, (q_mail_Put_m 0 d).trans h⟩)

/- horologe/scan.New[string] -/
@[reducible] def pi_scan_New_string : PSh := ⟨[], [.mk false [.v .str]]⟩
@[reducible] def po_scan_New_string : PSh := ⟨[.var 159 [.v .str, .v (.int .i64), .v .err]], [.mk false [.ref 0 0]]⟩
def f_scan_New_string_m (T : Unit) (d : Unit × ((ByteArray × Unit) × Unit)) : Option (((ByteArray × (Int × ((Option Int) × Unit))) × Unit) × (Unit × Unit)) :=
  some (((d.2.1.1, ((0 : Int), ((none : Option Int), ()))), ()), ((), ()))
def c_scan_New_string : List Nat := []
def L_scan_New_string (_ : Nat) : Pts po_scan_New_string.den := []
def E_scan_New_string : Env := E0
theorem q_scan_New_string_m (k : Nat) (d : Unit × ((ByteArray × Unit) × Unit)) : evCode E_scan_New_string (tab (L_scan_New_string k)) c_scan_New_string (bodyOf Try.f66) 0 (finK E_scan_New_string po_scan_New_string [.tmp 2]) (startSt pi_scan_New_string 6 d) = f_scan_New_string_m () d := by kernel_rfl
def g_scan_New_string (d : Unit × ((ByteArray × Unit) × Unit)) : Option (((ByteArray × (Int × ((Option Int) × Unit))) × Unit) × (Unit × Unit)) := f_scan_New_string_m () d
theorem ok_scan_New_string : FnOk Try.prog ET0 66 pi_scan_New_string po_scan_New_string g_scan_New_string :=
  fn_of_body (E := E_scan_New_string) e0_ok (fn := Try.f66) Try.func66 (by kernel_rfl) (by kernel_rfl) [.tmp 2] (by kernel_rfl) (by kernel_rfl) (by decide) rfl c_scan_New_string L_scan_New_string
    (by intro x hx; cases hx) (by intro k x hx; cases hx) (fun d out h => ⟨0, (q_scan_New_string_m 0 d).trans h⟩)

/- (*horologe/scan.Scanner[string]).Err -/
@[reducible] def pi_scan_Scanner_string_Err : PSh := ⟨[], [.mk false [.v (.nptr (.pair .str (.pair (.int .i64) .err)))]]⟩
@[reducible] def po_scan_Scanner_string_Err : PSh := ⟨[], [.mk false [.v .err]]⟩
def f_scan_Scanner_string_Err_m (T : Unit) (d : Unit × (((Option (ByteArray × (Int × (Option Int)))) × Unit) × Unit)) : Option (Unit × (((Option Int) × Unit) × Unit)) :=
  bif d.2.1.1.isNone then (
  let x1 : (Option Int) := (some (8 : Int))
  some ((), ((x1, ()), ())))
  else (
  d.2.1.1.bind fun x2 =>
  some ((), ((x2.2.2, ()), ())))
def c_scan_Scanner_string_Err : List Nat := []
def L_scan_Scanner_string_Err (_ : Nat) : Pts po_scan_Scanner_string_Err.den := []
def E_scan_Scanner_string_Err : Env := E0
theorem q_scan_Scanner_string_Err_m (k : Nat) (d : Unit × (((Option (ByteArray × (Int × (Option Int)))) × Unit) × Unit)) : evCode E_scan_Scanner_string_Err (tab (L_scan_Scanner_string_Err k)) c_scan_Scanner_string_Err (bodyOf Try.f126) 0 (finK E_scan_Scanner_string_Err po_scan_Scanner_string_Err [.tmp 2]) (startSt pi_scan_Scanner_string_Err 10 d) = f_scan_Scanner_string_Err_m () d := by kernel_rfl
def g_scan_Scanner_string_Err (d : Unit × (((Option (ByteArray × (Int × (Option Int)))) × Unit) × Unit)) : Option (Unit × (((Option Int) × Unit) × Unit)) := f_scan_Scanner_string_Err_m () d
theorem ok_scan_Scanner_string_Err : FnOk Try.prog ET0 126 pi_scan_Scanner_string_Err po_scan_Scanner_string_Err g_scan_Scanner_string_Err :=
  fn_of_body (E := E_scan_Scanner_string_Err) e0_ok (fn := Try.f126) Try.func126 (by kernel_rfl) (by kernel_rfl) [.tmp 2] (by kernel_rfl) (by kernel_rfl) (by decide) rfl c_scan_Scanner_string_Err L_scan_Scanner_string_Err
    (by intro x hx; cases hx) (by intro k x hx; cases hx) (fun d out h => ⟨0, (q_scan_Scanner_string_Err_m 0 d).trans h⟩)

/- (*horologe/scan.Scanner[string]).rest -/
@[reducible] def pi_scan_Scanner_string_rest : PSh := ⟨[], [.mk false [.v (.nptr (.pair .str (.pair (.int .i64) .err)))]]⟩
@[reducible] def po_scan_Scanner_string_rest : PSh := ⟨[], [.mk false [.v .str]]⟩
def f_scan_Scanner_string_rest_m (T : Unit) (d : Unit × (((Option (ByteArray × (Int × (Option Int)))) × Unit) × Unit)) : Option (Unit × ((ByteArray × Unit) × Unit)) :=
  bif d.2.1.1.isNone then (
  some ((), (((⟨#[]⟩ : ByteArray), ()), ())))
  else (
  d.2.1.1.bind fun x1 =>
  let x2 : Bool := (!x1.2.2.isNone)
  bif x2 then (
  some ((), (((⟨#[]⟩ : ByteArray), ()), ())))
  else (
  d.2.1.1.bind fun x3 =>
  d.2.1.1.bind fun x4 =>
  bif decide ((0 : Int) ≤ x4.2.1) && decide (x4.2.1 ≤ (x3.1.size : Int)) && decide ((x3.1.size : Int) ≤ (x3.1.size : Int)) then (
  let x5 : ByteArray := (x3.1.extract (Int.toNat x4.2.1) (Int.toNat (x3.1.size : Int)))
  some ((), ((x5, ()), ())))
  else none))
def c_scan_Scanner_string_rest : List Nat := []
def L_scan_Scanner_string_rest (_ : Nat) : Pts po_scan_Scanner_string_rest.den := []
def E_scan_Scanner_string_rest : Env := E0
theorem q_scan_Scanner_string_rest_m (k : Nat) (d : Unit × (((Option (ByteArray × (Int × (Option Int)))) × Unit) × Unit)) : evCode E_scan_Scanner_string_rest (tab (L_scan_Scanner_string_rest k)) c_scan_Scanner_string_rest (bodyOf Try.f157) 0 (finK E_scan_Scanner_string_rest po_scan_Scanner_string_rest [.tmp 2]) (startSt pi_scan_Scanner_string_rest 21 d) = f_scan_Scanner_string_rest_m () d := by kernel_rfl
def g_scan_Scanner_string_rest (d : Unit × (((Option (ByteArray × (Int × (Option Int)))) × Unit) × Unit)) : Option (Unit × ((ByteArray × Unit) × Unit)) := f_scan_Scanner_string_rest_m () d
theorem ok_scan_Scanner_string_rest : FnOk Try.prog ET0 157 pi_scan_Scanner_string_rest po_scan_Scanner_string_rest g_scan_Scanner_string_rest :=
  fn_of_body (E := E_scan_Scanner_string_rest) e0_ok (fn := Try.f157) Try.func157 (by kernel_rfl) (by kernel_rfl) [.tmp 2] (by kernel_rfl) (by kernel_rfl) (by decide) rfl c_scan_Scanner_string_rest L_scan_Scanner_string_rest
    (by intro x hx; cases hx) (by intro k x hx; cases hx) (fun d out h => ⟨0, (q_scan_Scanner_string_rest_m 0 d).trans h⟩)

/- (*horologe/scan.Scanner[string]).Left -/
@[reducible] def pi_scan_Scanner_string_Left : PSh := ⟨[], [.mk false [.v (.nptr (.pair .str (.pair (.int .i64) .err)))]]⟩
@[reducible] def po_scan_Scanner_string_Left : PSh := ⟨[], [.mk false [.v (.int .i64)]]⟩
def f_scan_Scanner_string_Left_m (T : Unit) (d : Unit × (((Option (ByteArray × (Int × (Option Int)))) × Unit) × Unit)) : Option (Unit × ((Int × Unit) × Unit)) :=
  (g_scan_Scanner_string_rest ((), ((d.2.1.1, ()), ()))).bind fun x1 =>
  let x2 : Int := (x1.2.1.1.size : Int)
  some ((), ((x2, ()), ()))
def c_scan_Scanner_string_Left : List Nat := []
def L_scan_Scanner_string_Left (_ : Nat) : Pts po_scan_Scanner_string_Left.den := []
def E_scan_Scanner_string_Left : Env := (E0.add 157 (typedSem pi_scan_Scanner_string_rest po_scan_Scanner_string_rest g_scan_Scanner_string_rest))
theorem q_scan_Scanner_string_Left_m (k : Nat) (d : Unit × (((Option (ByteArray × (Int × (Option Int)))) × Unit) × Unit)) : evCode E_scan_Scanner_string_Left (tab (L_scan_Scanner_string_Left k)) c_scan_Scanner_string_Left (bodyOf Try.f127) 0 (finK E_scan_Scanner_string_Left po_scan_Scanner_string_Left [.tmp 2]) (startSt pi_scan_Scanner_string_Left 6 d) = f_scan_Scanner_string_Left_m () d := by kernel_rfl
def g_scan_Scanner_string_Left (d : Unit × (((Option (ByteArray × (Int × (Option Int)))) × Unit) × Unit)) : Option (Unit × ((Int × Unit) × Unit)) := f_scan_Scanner_string_Left_m () d
theorem ok_scan_Scanner_string_Left : FnOk Try.prog ET0 127 pi_scan_Scanner_string_Left po_scan_Scanner_string_Left g_scan_Scanner_string_Left :=
  fn_of_body (E := E_scan_Scanner_string_Left) (envOk_add e0_ok (typed_ok ok_scan_Scanner_string_rest)) (fn := Try.f127) Try.func127 (by kernel_rfl) (by kernel_rfl) [.tmp 2] (by kernel_rfl) (by kernel_rfl) (by decide) rfl c_scan_Scanner_string_Left L_scan_Scanner_string_Left
    (by intro x hx; cases hx) (by intro k x hx; cases hx) (fun d out h => ⟨0, (q_scan_Scanner_string_Left_m 0 d).trans h⟩)

/- (*horologe/scan.Scanner[string]).End -/
@[reducible] def pi_scan_Scanner_string_End : PSh := ⟨[], [.mk false [.v (.nptr (.pair .str (.pair (.int .i64) .err)))]]⟩
@[reducible] def po_scan_Scanner_string_End : PSh := ⟨[], [.mk false [.v .err]]⟩
def f_scan_Scanner_string_End_m (T : Unit) (d : Unit × (((Option (ByteArray × (Int × (Option Int)))) × Unit) × Unit)) : Option (Unit × (((Option Int) × Unit) × Unit)) :=
  (g_scan_Scanner_string_Err ((), ((d.2.1.1, ()), ()))).bind fun x1 =>
  let x2 : Bool := (!x1.2.1.1.isNone)
  bif x2 then (
  some ((), ((x1.2.1.1, ()), ())))
  else (
  (g_scan_Scanner_string_Left ((), ((d.2.1.1, ()), ()))).bind fun x3 =>
  let x4 : Bool := (decide (x3.2.1.1 > (0 : Int)))
  bif x4 then (
  let x5 : (Option Int) := (some (2 : Int))
  some ((), ((x5, ()), ())))
  else (
  some ((), (((none : Option Int), ()), ()))))
def c_scan_Scanner_string_End : List Nat := []
def L_scan_Scanner_string_End (_ : Nat) : Pts po_scan_Scanner_string_End.den := []
def E_scan_Scanner_string_End : Env := ((E0.add 126 (typedSem pi_scan_Scanner_string_Err po_scan_Scanner_string_Err g_scan_Scanner_string_Err)).add 127 (typedSem pi_scan_Scanner_string_Left po_scan_Scanner_string_Left g_scan_Scanner_string_Left))
theorem q_scan_Scanner_string_End_m (k : Nat) (d : Unit × (((Option (ByteArray × (Int × (Option Int)))) × Unit) × Unit)) : evCode E_scan_Scanner_string_End (tab (L_scan_Scanner_string_End k)) c_scan_Scanner_string_End (bodyOf Try.f71) 0 (finK E_scan_Scanner_string_End po_scan_Scanner_string_End [.tmp 2]) (startSt pi_scan_Scanner_string_End 13 d) = f_scan_Scanner_string_End_m () d := by kernel_rfl
def g_scan_Scanner_string_End (d : Unit × (((Option (ByteArray × (Int × (Option Int)))) × Unit) × Unit)) : Option (Unit × (((Option Int) × Unit) × Unit)) := f_scan_Scanner_string_End_m () d
theorem ok_scan_Scanner_string_End : FnOk Try.prog ET0 71 pi_scan_Scanner_string_End po_scan_Scanner_string_End g_scan_Scanner_string_End :=
  fn_of_body (E := E_scan_Scanner_string_End) (envOk_add (envOk_add e0_ok (typed_ok ok_scan_Scanner_string_Err)) (typed_ok ok_scan_Scanner_string_Left)) (fn := Try.f71) Try.func71 (by kernel_rfl) (by kernel_rfl) [.tmp 2] (by kernel_rfl) (by kernel_rfl) (by decide) rfl c_scan_Scanner_string_End L_scan_Scanner_string_End
    (by intro x hx; cases hx) (by intro k x hx; cases hx) (fun d out h => ⟨0, (q_scan_Scanner_string_End_m 0 d).trans h⟩)

/- horologe/mail.remark -/
@[reducible] def pi_mail_remark : PSh := ⟨[], [.mk false [.v .str], .mk false [.v (.int .i64)]]⟩
@[reducible] def po_mail_remark : PSh := ⟨[], [.mk false [.v (.int .i64)]]⟩
@[reducible] def TT_mail_remark : Type := (((Unit × ((ByteArray × Unit) × ((Int × Unit) × ((Int × Unit) × Unit)))) → Option (Unit × ((Int × Unit) × Unit))) × Unit)
@[reducible] def sh_mail_remark_3 : PSh := ⟨[], [.mk false [.v .str], .mk false [.v (.int .i64)], .any, .any, .any, .mk false [.v (.int .i64)], .any, .any, .any, .any, .any, .any, .any, .any, .any, .any, .any, .any, .any, .any, .any, .any, .any, .any, .any, .any, .any, .any, .any, .any, .any]⟩
def f_mail_remark_p3 (T : TT_mail_remark) (d : Unit × ((ByteArray × Unit) × ((Int × Unit) × ((Int × Unit) × Unit)))) : Option (Unit × ((Int × Unit) × Unit)) :=
  let x1 : Int := (d.2.1.1.size : Int)
  let x2 : Bool := (decide (d.2.2.1.1 < x1))
  bif x2 then (
  bif decide ((0 : Int) ≤ d.2.2.1.1) && decide (d.2.2.1.1 < ((d.2.1.1.size : Int) : Int)) then (
  let x3 : Int := (bt d.2.1.1 d.2.2.1.1)
  let x4 : Bool := (x3 == (92 : Int))
  bif x4 then (
  let x5 : Int := (iadd .i64 d.2.2.1.1 (1 : Int))
  let x6 : Bool := (d.2.2.2.1.1 == (0 : Int))
  bif x6 then (
  let x7 : Int := (iadd .i64 x5 (1 : Int))
  some ((), ((x7, ()), ())))
  else (
  let x8 : Int := (iadd .i64 x5 (1 : Int))
  (T.1 ((), ((d.2.1.1, ()), ((x8, ()), ((d.2.2.2.1.1, ()), ())))))))
  else (
  let x9 : Bool := (x3 == (40 : Int))
  bif x9 then (
  let x10 : Int := (iadd .i64 d.2.2.2.1.1 (1 : Int))
  let x11 : Bool := (x10 == (0 : Int))
  bif x11 then (
  let x12 : Int := (iadd .i64 d.2.2.1.1 (1 : Int))
  some ((), ((x12, ()), ())))
  else (
  let x13 : Int := (iadd .i64 d.2.2.1.1 (1 : Int))
  (T.1 ((), ((d.2.1.1, ()), ((x13, ()), ((x10, ()), ())))))))
  else (
  let x14 : Bool := (x3 == (41 : Int))
  bif x14 then (
  let x15 : Int := (isub .i64 d.2.2.2.1.1 (1 : Int))
  let x16 : Bool := (x15 == (0 : Int))
  bif x16 then (
  let x17 : Int := (iadd .i64 d.2.2.1.1 (1 : Int))
  some ((), ((x17, ()), ())))
  else (
  let x18 : Int := (iadd .i64 d.2.2.1.1 (1 : Int))
  (T.1 ((), ((d.2.1.1, ()), ((x18, ()), ((x15, ()), ())))))))
  else (
  let x19 : Bool := (d.2.2.2.1.1 == (0 : Int))
  bif x19 then (
  let x20 : Int := (iadd .i64 d.2.2.1.1 (1 : Int))
  some ((), ((x20, ()), ())))
  else (
  let x21 : Int := (iadd .i64 d.2.2.1.1 (1 : Int))
  (T.1 ((), ((d.2.1.1, ()), ((x21, ()), ((d.2.2.2.1.1, ()), ()))))))))))
  else none)
  else (
  some ((), (((-1 : Int), ()), ())))
def f_mail_remark_t : Nat → TT_mail_remark
  | 0 => (fun _ => none, ())
  | k + 1 => (f_mail_remark_p3 (f_mail_remark_t k), ())
theorem t_mail_remark (k : Nat) : f_mail_remark_t (k + 1) = (f_mail_remark_p3 (f_mail_remark_t k), ()) := rfl
def f_mail_remark_m (T : TT_mail_remark) (d : Unit × ((ByteArray × Unit) × ((Int × Unit) × Unit))) : Option (Unit × ((Int × Unit) × Unit)) :=
  (T.1 ((), ((d.2.1.1, ()), ((d.2.2.1.1, ()), (((0 : Int), ()), ())))))
def c_mail_remark : List Nat := []
def L_mail_remark (k : Nat) : Pts po_mail_remark.den := [(3, ⟨sh_mail_remark_3, (f_mail_remark_t k).1⟩)]
def E_mail_remark : Env := E0
theorem q_mail_remark_3 (k : Nat) (d : Unit × ((ByteArray × Unit) × ((Int × Unit) × ((Int × Unit) × Unit)))) : evAt E_mail_remark (tab (L_mail_remark k)) c_mail_remark 3 (bodyOf Try.f84) 0 (finK E_mail_remark po_mail_remark [.tmp 4]) (ptSt sh_mail_remark_3 d) = f_mail_remark_p3 (f_mail_remark_t k) d := by kernel_rfl
theorem q_mail_remark_m (k : Nat) (d : Unit × ((ByteArray × Unit) × ((Int × Unit) × Unit))) : evCode E_mail_remark (tab (L_mail_remark k)) c_mail_remark (bodyOf Try.f84) 0 (finK E_mail_remark po_mail_remark [.tmp 4]) (startSt pi_mail_remark 31 d) = f_mail_remark_m (f_mail_remark_t k) d := by kernel_rfl
theorem go_mail_remark (F : Unit × ((ByteArray × Unit) × ((Int × Unit) × Unit)) → Option (Unit × ((Int × Unit) × Unit))) (hF : ∀ d out, F d = some out → ∃ k, f_mail_remark_m (f_mail_remark_t k) d = some out) : FnOk Try.prog ET0 84 pi_mail_remark po_mail_remark F :=
  fn_of_body (E := E_mail_remark) e0_ok (fn := Try.f84) Try.func84 (by kernel_rfl) (by kernel_rfl) [.tmp 4] (by kernel_rfl) (by kernel_rfl) (by decide) rfl c_mail_remark L_mail_remark
    (by intro x hx d; simp only [L_mail_remark, List.mem_cons, List.not_mem_nil, or_false] at hx; subst hx; rfl)
    (by intro k x hx d out h; simp only [L_mail_remark, List.mem_cons, List.not_mem_nil, or_false] at hx; subst hx; exact (q_mail_remark_3 k d).trans h)
    (by intro d out h; obtain ⟨k, hk⟩ := hF d out h; exact ⟨k, (q_mail_remark_m k d).trans hk⟩)
def g_mail_remark (d : Unit × ((ByteArray × Unit) × ((Int × Unit) × Unit))) : Option (Unit × ((Int × Unit) × Unit)) := lim fun k => f_mail_remark_m (f_mail_remark_t k) d
theorem ok_mail_remark : FnOk Try.prog ET0 84 pi_mail_remark po_mail_remark g_mail_remark := go_mail_remark g_mail_remark fun d out h => lim_some h

/- horologe/mail.Gap -/
@[reducible] def pi_mail_Gap : PSh := ⟨[], [.mk false [.v .str], .mk false [.v (.int .i64)]]⟩
@[reducible] def po_mail_Gap : PSh := ⟨[], [.mk false [.v (.int .i64)]]⟩
@[reducible] def TT_mail_Gap : Type := (((Unit × ((ByteArray × Unit) × ((Int × Unit) × Unit))) → Option (Unit × ((Int × Unit) × Unit))) × Unit)
@[reducible] def sh_mail_Gap_3 : PSh := ⟨[], [.mk false [.v .str], .mk false [.v (.int .i64)], .any, .any, .any, .any, .any, .any, .any, .any, .any, .any, .any, .any, .any, .any, .any, .any, .any, .any, .any, .any, .any, .any, .any, .any, .any, .any, .any, .any, .any, .any]⟩
def f_mail_Gap_p3 (T : TT_mail_Gap) (d : Unit × ((ByteArray × Unit) × ((Int × Unit) × Unit))) : Option (Unit × ((Int × Unit) × Unit)) :=
  let x1 : Bool := (decide (d.2.2.1.1 ≥ (0 : Int)))
  bif x1 then (
  let x2 : Int := (d.2.1.1.size : Int)
  let x3 : Bool := (decide (d.2.2.1.1 < x2))
  bif x3 then (
  bif decide ((0 : Int) ≤ d.2.2.1.1) && decide (d.2.2.1.1 < ((d.2.1.1.size : Int) : Int)) then (
  let x4 : Int := (bt d.2.1.1 d.2.2.1.1)
  (g_strings_IndexByte ((), (((⟨#[32, 9, 13, 10]⟩ : ByteArray), ()), ((x4, ()), ())))).bind fun x5 =>
  let x6 : Bool := (decide (x5.2.1.1 ≥ (0 : Int)))
  bif x6 then (
  let x7 : Int := (iadd .i64 d.2.2.1.1 (1 : Int))
  (T.1 ((), ((d.2.1.1, ()), ((x7, ()), ())))))
  else (
  bif decide ((0 : Int) ≤ d.2.2.1.1) && decide (d.2.2.1.1 < ((d.2.1.1.size : Int) : Int)) then (
  let x8 : Int := (bt d.2.1.1 d.2.2.1.1)
  let x9 : Bool := (x8 == (40 : Int))
  bif x9 then (
  (g_mail_remark ((), ((d.2.1.1, ()), ((d.2.2.1.1, ()), ())))).bind fun x10 =>
  let x11 : Bool := (decide (x10.2.1.1 < (0 : Int)))
  bif x11 then (
  some ((), (((-1 : Int), ()), ())))
  else (
  (T.1 ((), ((d.2.1.1, ()), ((x10.2.1.1, ()), ()))))))
  else (
  some ((), ((d.2.2.1.1, ()), ()))))
  else none))
  else none)
  else (
  some ((), ((d.2.2.1.1, ()), ()))))
  else (
  some ((), ((d.2.2.1.1, ()), ())))
def f_mail_Gap_t : Nat → TT_mail_Gap
  | 0 => (fun _ => none, ())
  | k + 1 => (f_mail_Gap_p3 (f_mail_Gap_t k), ())
theorem t_mail_Gap (k : Nat) : f_mail_Gap_t (k + 1) = (f_mail_Gap_p3 (f_mail_Gap_t k), ()) := rfl
def f_mail_Gap_m (T : TT_mail_Gap) (d : Unit × ((ByteArray × Unit) × ((Int × Unit) × Unit))) : Option (Unit × ((Int × Unit) × Unit)) :=
  (T.1 ((), ((d.2.1.1, ()), ((d.2.2.1.1, ()), ()))))
def c_mail_Gap : List Nat := []
def L_mail_Gap (k : Nat) : Pts po_mail_Gap.den := [(3, ⟨sh_mail_Gap_3, (f_mail_Gap_t k).1⟩)]
def E_mail_Gap : Env := ((E0.add 83 (typedSem pi_strings_IndexByte po_strings_IndexByte g_strings_IndexByte)).add 84 (typedSem pi_mail_remark po_mail_remark g_mail_remark))
theorem q_mail_Gap_3 (k : Nat) (d : Unit × ((ByteArray × Unit) × ((Int × Unit) × Unit))) : evAt E_mail_Gap (tab (L_mail_Gap k)) c_mail_Gap 3 (bodyOf Try.f34) 0 (finK E_mail_Gap po_mail_Gap [.tmp 4]) (ptSt sh_mail_Gap_3 d) = f_mail_Gap_p3 (f_mail_Gap_t k) d := by kernel_rfl
theorem q_mail_Gap_m (k : Nat) (d : Unit × ((ByteArray × Unit) × ((Int × Unit) × Unit))) : evCode E_mail_Gap (tab (L_mail_Gap k)) c_mail_Gap (bodyOf Try.f34) 0 (finK E_mail_Gap po_mail_Gap [.tmp 4]) (startSt pi_mail_Gap 32 d) = f_mail_Gap_m (f_mail_Gap_t k) d := by kernel_rfl
theorem go_mail_Gap (F : Unit × ((ByteArray × Unit) × ((Int × Unit) × Unit)) → Option (Unit × ((Int × Unit) × Unit))) (hF : ∀ d out, F d = some out → ∃ k, f_mail_Gap_m (f_mail_Gap_t k) d = some out) : FnOk Try.prog ET0 34 pi_mail_Gap po_mail_Gap F :=
  fn_of_body (E := E_mail_Gap) (envOk_add (envOk_add e0_ok (typed_ok ok_strings_IndexByte)) (typed_ok ok_mail_remark)) (fn := Try.f34) Try.func34 (by kernel_rfl) (by kernel_rfl) [.tmp 4] (by kernel_rfl) (by kernel_rfl) (by decide) rfl c_mail_Gap L_mail_Gap
    (by intro x hx d; simp only [L_mail_Gap, List.mem_cons, List.not_mem_nil, or_false] at hx; subst hx; rfl)
    (by intro k x hx d out h; simp only [L_mail_Gap, List.mem_cons, List.not_mem_nil, or_false] at hx; subst hx; exact (q_mail_Gap_3 k d).trans h)
    (by intro d out h; obtain ⟨k, hk⟩ := hF d out h; exact ⟨k, (q_mail_Gap_m k d).trans hk⟩)
def g_mail_Gap (d : Unit × ((ByteArray × Unit) × ((Int × Unit) × Unit))) : Option (Unit × ((Int × Unit) × Unit)) := lim fun k => f_mail_Gap_m (f_mail_Gap_t k) d
theorem ok_mail_Gap : FnOk Try.prog ET0 34 pi_mail_Gap po_mail_Gap g_mail_Gap := go_mail_Gap g_mail_Gap fun d out h => lim_some h

/- (*horologe/scan.Scanner[string]).going -/
@[reducible] def pi_scan_Scanner_string_going : PSh := ⟨[], [.mk false [.v (.nptr (.pair .str (.pair (.int .i64) .err)))]]⟩
@[reducible] def po_scan_Scanner_string_going : PSh := ⟨[], [.mk false [.v .bool]]⟩
def f_scan_Scanner_string_going_m (T : Unit) (d : Unit × (((Option (ByteArray × (Int × (Option Int)))) × Unit) × Unit)) : Option (Unit × ((Bool × Unit) × Unit)) :=
  let x1 : Bool := (!d.2.1.1.isNone)
  bif x1 then (
  d.2.1.1.bind fun x2 =>
  some ((), ((x2.2.2.isNone, ()), ())))
  else (
  some ((), ((false, ()), ())))
def c_scan_Scanner_string_going : List Nat := []
def L_scan_Scanner_string_going (_ : Nat) : Pts po_scan_Scanner_string_going.den := []
def E_scan_Scanner_string_going : Env := E0
theorem q_scan_Scanner_string_going_m (k : Nat) (d : Unit × (((Option (ByteArray × (Int × (Option Int)))) × Unit) × Unit)) : evCode E_scan_Scanner_string_going (tab (L_scan_Scanner_string_going k)) c_scan_Scanner_string_going (bodyOf Try.f138) 0 (finK E_scan_Scanner_string_going po_scan_Scanner_string_going [.tmp 2]) (startSt pi_scan_Scanner_string_going 12 d) = f_scan_Scanner_string_going_m () d := by kernel_rfl
def g_scan_Scanner_string_going (d : Unit × (((Option (ByteArray × (Int × (Option Int)))) × Unit) × Unit)) : Option (Unit × ((Bool × Unit) × Unit)) := f_scan_Scanner_string_going_m () d
theorem ok_scan_Scanner_string_going : FnOk Try.prog ET0 138 pi_scan_Scanner_string_going po_scan_Scanner_string_going g_scan_Scanner_string_going :=
  fn_of_body (E := E_scan_Scanner_string_going) e0_ok (fn := Try.f138) Try.func138 (by kernel_rfl) (by kernel_rfl) [.tmp 2] (by kernel_rfl) (by kernel_rfl) (by decide) rfl c_scan_Scanner_string_going L_scan_Scanner_string_going
    (by intro x hx; cases hx) (by intro k x hx; cases hx) (fun d out h => ⟨0, (q_scan_Scanner_string_going_m 0 d).trans h⟩)

/- (*horologe/scan.Scanner[string]).At -/
@[reducible] def pi_scan_Scanner_string_At : PSh := ⟨[], [.mk false [.v (.nptr (.pair .str (.pair (.int .i64) .err)))]]⟩
@[reducible] def po_scan_Scanner_string_At : PSh := ⟨[], [.mk false [.v (.int .i64)]]⟩
def f_scan_Scanner_string_At_m (T : Unit) (d : Unit × (((Option (ByteArray × (Int × (Option Int)))) × Unit) × Unit)) : Option (Unit × ((Int × Unit) × Unit)) :=
  bif d.2.1.1.isNone then (
  some ((), (((0 : Int), ()), ())))
  else (
  d.2.1.1.bind fun x1 =>
  some ((), ((x1.2.1, ()), ())))
def c_scan_Scanner_string_At : List Nat := []
def L_scan_Scanner_string_At (_ : Nat) : Pts po_scan_Scanner_string_At.den := []
def E_scan_Scanner_string_At : Env := E0
theorem q_scan_Scanner_string_At_m (k : Nat) (d : Unit × (((Option (ByteArray × (Int × (Option Int)))) × Unit) × Unit)) : evCode E_scan_Scanner_string_At (tab (L_scan_Scanner_string_At k)) c_scan_Scanner_string_At (bodyOf Try.f122) 0 (finK E_scan_Scanner_string_At po_scan_Scanner_string_At [.tmp 2]) (startSt pi_scan_Scanner_string_At 9 d) = f_scan_Scanner_string_At_m () d := by kernel_rfl
def g_scan_Scanner_string_At (d : Unit × (((Option (ByteArray × (Int × (Option Int)))) × Unit) × Unit)) : Option (Unit × ((Int × Unit) × Unit)) := f_scan_Scanner_string_At_m () d
theorem ok_scan_Scanner_string_At : FnOk Try.prog ET0 122 pi_scan_Scanner_string_At po_scan_Scanner_string_At g_scan_Scanner_string_At :=
  fn_of_body (E := E_scan_Scanner_string_At) e0_ok (fn := Try.f122) Try.func122 (by kernel_rfl) (by kernel_rfl) [.tmp 2] (by kernel_rfl) (by kernel_rfl) (by decide) rfl c_scan_Scanner_string_At L_scan_Scanner_string_At
    (by intro x hx; cases hx) (by intro k x hx; cases hx) (fun d out h => ⟨0, (q_scan_Scanner_string_At_m 0 d).trans h⟩)

/- strings.Clone -/
@[reducible] def pi_strings_Clone : PSh := ⟨[], [.mk false [.v .str]]⟩
@[reducible] def po_strings_Clone : PSh := ⟨[], [.mk false [.v .str]]⟩
def f_strings_Clone_m (T : Unit) (d : Unit × ((ByteArray × Unit) × Unit)) : Option (Unit × ((ByteArray × Unit) × Unit)) :=
  (g_internal_stringslite_Clone ((), ((d.2.1.1, ()), ()))).bind fun x1 =>
  some ((), ((x1.2.1.1, ()), ()))
def c_strings_Clone : List Nat := []
def L_strings_Clone (_ : Nat) : Pts po_strings_Clone.den := []
def E_strings_Clone : Env := (E0.add 169 (typedSem pi_internal_stringslite_Clone po_internal_stringslite_Clone g_internal_stringslite_Clone))
theorem q_strings_Clone_m (k : Nat) (d : Unit × ((ByteArray × Unit) × Unit)) : evCode E_strings_Clone (tab (L_strings_Clone k)) c_strings_Clone (bodyOf Try.f158) 0 (finK E_strings_Clone po_strings_Clone [.tmp 2]) (startSt pi_strings_Clone 5 d) = f_strings_Clone_m () d := by kernel_rfl
def g_strings_Clone (d : Unit × ((ByteArray × Unit) × Unit)) : Option (Unit × ((ByteArray × Unit) × Unit)) := f_strings_Clone_m () d
theorem ok_strings_Clone : FnOk Try.prog ET0 158 pi_strings_Clone po_strings_Clone g_strings_Clone :=
  fn_of_body (E := E_strings_Clone) (envOk_add e0_ok (typed_ok ok_internal_stringslite_Clone)) (fn := Try.f158) Try.func158 (by kernel_rfl) (by kernel_rfl) [.tmp 2] (by kernel_rfl) (by kernel_rfl) (by decide) rfl c_strings_Clone L_strings_Clone
    (by intro x hx; cases hx) (by intro k x hx; cases hx) (fun d out h => ⟨0, (q_strings_Clone_m 0 d).trans h⟩)

/- horologe/scan.small -/
@[reducible] def pi_scan_small : PSh := ⟨[], [.mk false [.v (.int .u8)]]⟩
@[reducible] def po_scan_small : PSh := ⟨[], [.mk false [.v (.int .u8)]]⟩
def f_scan_small_m (T : Unit) (d : Unit × ((Int × Unit) × Unit)) : Option (Unit × ((Int × Unit) × Unit)) :=
  let x1 : Bool := (decide (d.2.1.1 ≥ (65 : Int)))
  bif x1 then (
  let x2 : Bool := (decide (d.2.1.1 ≤ (90 : Int)))
  bif x2 then (
  let x3 : Int := (isub .u8 d.2.1.1 (65 : Int))
  let x4 : Int := (iadd .u8 x3 (97 : Int))
  some ((), ((x4, ()), ())))
  else (
  some ((), ((d.2.1.1, ()), ()))))
  else (
  some ((), ((d.2.1.1, ()), ())))
def c_scan_small : List Nat := []
def L_scan_small (_ : Nat) : Pts po_scan_small.den := []
def E_scan_small : Env := E0
theorem q_scan_small_m (k : Nat) (d : Unit × ((Int × Unit) × Unit)) : evCode E_scan_small (tab (L_scan_small k)) c_scan_small (bodyOf Try.f176) 0 (finK E_scan_small po_scan_small [.tmp 2]) (startSt pi_scan_small 13 d) = f_scan_small_m () d := by kernel_rfl
def g_scan_small (d : Unit × ((Int × Unit) × Unit)) : Option (Unit × ((Int × Unit) × Unit)) := f_scan_small_m () d
theorem ok_scan_small : FnOk Try.prog ET0 176 pi_scan_small po_scan_small g_scan_small :=
  fn_of_body (E := E_scan_small) e0_ok (fn := Try.f176) Try.func176 (by kernel_rfl) (by kernel_rfl) [.tmp 2] (by kernel_rfl) (by kernel_rfl) (by decide) rfl c_scan_small L_scan_small
    (by intro x hx; cases hx) (by intro k x hx; cases hx) (fun d out h => ⟨0, (q_scan_small_m 0 d).trans h⟩)

/- horologe/scan.alike -/
@[reducible] def pi_scan_alike : PSh := ⟨[], [.mk false [.v .str], .mk false [.v .str]]⟩
@[reducible] def po_scan_alike : PSh := ⟨[], [.mk false [.v .bool]]⟩
@[reducible] def TT_scan_alike : Type := (((Unit × ((ByteArray × Unit) × ((ByteArray × Unit) × ((Int × Unit) × ((Int × Unit) × Unit))))) → Option (Unit × ((Bool × Unit) × Unit))) × Unit)
@[reducible] def sh_scan_alike_3 : PSh := ⟨[], [.mk false [.v .str], .mk false [.v .str], .any, .any, .any, .any, .any, .mk false [.v (.int .i64)], .mk false [.v (.int .i64)], .any, .any, .any, .any, .any, .any, .any, .any, .any, .any, .any, .any]⟩
def f_scan_alike_p3 (T : TT_scan_alike) (d : Unit × ((ByteArray × Unit) × ((ByteArray × Unit) × ((Int × Unit) × ((Int × Unit) × Unit))))) : Option (Unit × ((Bool × Unit) × Unit)) :=
  let x2 : Bool := (decide (d.2.2.2.2.1.1 < d.2.2.2.1.1))
  bif x2 then (
  bif decide ((0 : Int) ≤ d.2.2.2.2.1.1) && decide (d.2.2.2.2.1.1 < ((d.2.1.1.size : Int) : Int)) then (
  let x3 : Int := (bt d.2.1.1 d.2.2.2.2.1.1)
  (g_scan_small ((), ((x3, ()), ()))).bind fun x4 =>
  bif decide ((0 : Int) ≤ d.2.2.2.2.1.1) && decide (d.2.2.2.2.1.1 < ((d.2.2.1.1.size : Int) : Int)) then (
  let x5 : Int := (bt d.2.2.1.1 d.2.2.2.2.1.1)
  (g_scan_small ((), ((x5, ()), ()))).bind fun x6 =>
  let x7 : Bool := (x4.2.1.1 != x6.2.1.1)
  bif x7 then (
  some ((), ((false, ()), ())))
  else (
  let x8 : Int := (iadd .i64 d.2.2.2.2.1.1 (1 : Int))
  (T.1 ((), ((d.2.1.1, ()), ((d.2.2.1.1, ()), ((d.2.2.2.1.1, ()), ((x8, ()), ()))))))))
  else none)
  else none)
  else (
  some ((), ((true, ()), ())))
def f_scan_alike_t : Nat → TT_scan_alike
  | 0 => (fun _ => none, ())
  | k + 1 => (f_scan_alike_p3 (f_scan_alike_t k), ())
theorem t_scan_alike (k : Nat) : f_scan_alike_t (k + 1) = (f_scan_alike_p3 (f_scan_alike_t k), ()) := rfl
def f_scan_alike_m (T : TT_scan_alike) (d : Unit × ((ByteArray × Unit) × ((ByteArray × Unit) × Unit))) : Option (Unit × ((Bool × Unit) × Unit)) :=
  let x1 : Int := (d.2.1.1.size : Int)
  (T.1 ((), ((d.2.1.1, ()), ((d.2.2.1.1, ()), ((x1, ()), (((0 : Int), ()), ()))))))
def c_scan_alike : List Nat := []
def L_scan_alike (k : Nat) : Pts po_scan_alike.den := [(3, ⟨sh_scan_alike_3, (f_scan_alike_t k).1⟩)]
def E_scan_alike : Env := (E0.add 176 (typedSem pi_scan_small po_scan_small g_scan_small))
theorem q_scan_alike_3 (k : Nat) (d : Unit × ((ByteArray × Unit) × ((ByteArray × Unit) × ((Int × Unit) × ((Int × Unit) × Unit))))) : evAt E_scan_alike (tab (L_scan_alike k)) c_scan_alike 3 (bodyOf Try.f170) 0 (finK E_scan_alike po_scan_alike [.tmp 4]) (ptSt sh_scan_alike_3 d) = f_scan_alike_p3 (f_scan_alike_t k) d := by kernel_rfl
theorem q_scan_alike_m (k : Nat) (d : Unit × ((ByteArray × Unit) × ((ByteArray × Unit) × Unit))) : evCode E_scan_alike (tab (L_scan_alike k)) c_scan_alike (bodyOf Try.f170) 0 (finK E_scan_alike po_scan_alike [.tmp 4]) (startSt pi_scan_alike 21 d) = f_scan_alike_m (f_scan_alike_t k) d := by kernel_rfl
theorem go_scan_alike (F : Unit × ((ByteArray × Unit) × ((ByteArray × Unit) × Unit)) → Option (Unit × ((Bool × Unit) × Unit))) (hF : ∀ d out, F d = some out → ∃ k, f_scan_alike_m (f_scan_alike_t k) d = some out) : FnOk Try.prog ET0 170 pi_scan_alike po_scan_alike F :=
  fn_of_body (E := E_scan_alike) (envOk_add e0_ok (typed_ok ok_scan_small)) (fn := Try.f170) Try.func170 (by kernel_rfl) (by kernel_rfl) [.tmp 4] (by kernel_rfl) (by kernel_rfl) (by decide) rfl c_scan_alike L_scan_alike
    (by intro x hx d; simp only [L_scan_alike, List.mem_cons, List.not_mem_nil, or_false] at hx; subst hx; rfl)
    (by intro k x hx d out h; simp only [L_scan_alike, List.mem_cons, List.not_mem_nil, or_false] at hx; subst hx; exact (q_scan_alike_3 k d).trans h)
    (by intro d out h; obtain ⟨k, hk⟩ := hF d out h; exact ⟨k, (q_scan_alike_m k d).trans hk⟩)
def g_scan_alike (d : Unit × ((ByteArray × Unit) × ((ByteArray × Unit) × Unit))) : Option (Unit × ((Bool × Unit) × Unit)) := lim fun k => f_scan_alike_m (f_scan_alike_t k) d
theorem ok_scan_alike : FnOk Try.prog ET0 170 pi_scan_alike po_scan_alike g_scan_alike := go_scan_alike g_scan_alike fun d out h => lim_some h

/- horologe/figures.Is -/
@[reducible] def pi_figures_Is : PSh := ⟨[], [.mk false [.v (.int .u8)]]⟩
@[reducible] def po_figures_Is : PSh := ⟨[], [.mk false [.v .bool]]⟩
def f_figures_Is_m (T : Unit) (d : Unit × ((Int × Unit) × Unit)) : Option (Unit × ((Bool × Unit) × Unit)) :=
  let x1 : Bool := (decide (d.2.1.1 ≥ (48 : Int)))
  bif x1 then (
  let x2 : Bool := (decide (d.2.1.1 ≤ (57 : Int)))
  some ((), ((x2, ()), ())))
  else (
  some ((), ((false, ()), ())))
def c_figures_Is : List Nat := []
def L_figures_Is (_ : Nat) : Pts po_figures_Is.den := []
def E_figures_Is : Env := E0
theorem q_figures_Is_m (k : Nat) (d : Unit × ((Int × Unit) × Unit)) : evCode E_figures_Is (tab (L_figures_Is k)) c_figures_Is (bodyOf Try.f177) 0 (finK E_figures_Is po_figures_Is [.tmp 2]) (startSt pi_figures_Is 9 d) = f_figures_Is_m () d := by kernel_rfl
def g_figures_Is (d : Unit × ((Int × Unit) × Unit)) : Option (Unit × ((Bool × Unit) × Unit)) := f_figures_Is_m () d
theorem ok_figures_Is : FnOk Try.prog ET0 177 pi_figures_Is po_figures_Is g_figures_Is :=
  fn_of_body (E := E_figures_Is) e0_ok (fn := Try.f177) Try.func177 (by kernel_rfl) (by kernel_rfl) [.tmp 2] (by kernel_rfl) (by kernel_rfl) (by decide) rfl c_figures_Is L_figures_Is
    (by intro x hx; cases hx) (by intro k x hx; cases hx) (fun d out h => ⟨0, (q_figures_Is_m 0 d).trans h⟩)

/- horologe/figures.run -/
@[reducible] def pi_figures_run : PSh := ⟨[], [.mk false [.v .str], .mk false [.v (.int .i64)]]⟩
@[reducible] def po_figures_run : PSh := ⟨[], [.mk false [.v (.int .i64)]]⟩
@[reducible] def TT_figures_run : Type := (((Unit × ((ByteArray × Unit) × ((Int × Unit) × ((Int × Unit) × Unit)))) → Option (Unit × ((Int × Unit) × Unit))) × Unit)
@[reducible] def sh_figures_run_3 : PSh := ⟨[], [.mk false [.v .str], .mk false [.v (.int .i64)], .any, .any, .any, .mk false [.v (.int .i64)], .any, .any, .any, .any, .any, .any, .any, .any, .any, .any, .any, .any, .any, .any, .any]⟩
def f_figures_run_p3 (T : TT_figures_run) (d : Unit × ((ByteArray × Unit) × ((Int × Unit) × ((Int × Unit) × Unit)))) : Option (Unit × ((Int × Unit) × Unit)) :=
  let x1 : Int := (d.2.1.1.size : Int)
  let x2 : Int := (if d.2.2.1.1 < x1 then d.2.2.1.1 else x1)
  let x3 : Bool := (decide (d.2.2.2.1.1 < x2))
  bif x3 then (
  bif decide ((0 : Int) ≤ d.2.2.2.1.1) && decide (d.2.2.2.1.1 < ((d.2.1.1.size : Int) : Int)) then (
  let x4 : Int := (bt d.2.1.1 d.2.2.2.1.1)
  (g_figures_Is ((), ((x4, ()), ()))).bind fun x5 =>
  bif x5.2.1.1 then (
  let x6 : Int := (iadd .i64 d.2.2.2.1.1 (1 : Int))
  (T.1 ((), ((d.2.1.1, ()), ((d.2.2.1.1, ()), ((x6, ()), ()))))))
  else (
  some ((), ((d.2.2.2.1.1, ()), ()))))
  else none)
  else (
  some ((), ((d.2.2.2.1.1, ()), ())))
def f_figures_run_t : Nat → TT_figures_run
  | 0 => (fun _ => none, ())
  | k + 1 => (f_figures_run_p3 (f_figures_run_t k), ())
theorem t_figures_run (k : Nat) : f_figures_run_t (k + 1) = (f_figures_run_p3 (f_figures_run_t k), ()) := rfl
def f_figures_run_m (T : TT_figures_run) (d : Unit × ((ByteArray × Unit) × ((Int × Unit) × Unit))) : Option (Unit × ((Int × Unit) × Unit)) :=
  (T.1 ((), ((d.2.1.1, ()), ((d.2.2.1.1, ()), (((0 : Int), ()), ())))))
def c_figures_run : List Nat := []
def L_figures_run (k : Nat) : Pts po_figures_run.den := [(3, ⟨sh_figures_run_3, (f_figures_run_t k).1⟩)]
def E_figures_run : Env := (E0.add 177 (typedSem pi_figures_Is po_figures_Is g_figures_Is))
theorem q_figures_run_3 (k : Nat) (d : Unit × ((ByteArray × Unit) × ((Int × Unit) × ((Int × Unit) × Unit)))) : evAt E_figures_run (tab (L_figures_run k)) c_figures_run 3 (bodyOf Try.f174) 0 (finK E_figures_run po_figures_run [.tmp 4]) (ptSt sh_figures_run_3 d) = f_figures_run_p3 (f_figures_run_t k) d := by kernel_rfl
theorem q_figures_run_m (k : Nat) (d : Unit × ((ByteArray × Unit) × ((Int × Unit) × Unit))) : evCode E_figures_run (tab (L_figures_run k)) c_figures_run (bodyOf Try.f174) 0 (finK E_figures_run po_figures_run [.tmp 4]) (startSt pi_figures_run 21 d) = f_figures_run_m (f_figures_run_t k) d := by kernel_rfl
theorem go_figures_run (F : Unit × ((ByteArray × Unit) × ((Int × Unit) × Unit)) → Option (Unit × ((Int × Unit) × Unit))) (hF : ∀ d out, F d = some out → ∃ k, f_figures_run_m (f_figures_run_t k) d = some out) : FnOk Try.prog ET0 174 pi_figures_run po_figures_run F :=
  fn_of_body (E := E_figures_run) (envOk_add e0_ok (typed_ok ok_figures_Is)) (fn := Try.f174) Try.func174 (by kernel_rfl) (by kernel_rfl) [.tmp 4] (by kernel_rfl) (by kernel_rfl) (by decide) rfl c_figures_run L_figures_run
    (by intro x hx d; simp only [L_figures_run, List.mem_cons, List.not_mem_nil, or_false] at hx; subst hx; rfl)
    (by intro k x hx d out h; simp only [L_figures_run, List.mem_cons, List.not_mem_nil, or_false] at hx; subst hx; exact (q_figures_run_3 k d).trans h)
    (by intro d out h; obtain ⟨k, hk⟩ := hF d out h; exact ⟨k, (q_figures_run_m k d).trans hk⟩)
def g_figures_run (d : Unit × ((ByteArray × Unit) × ((Int × Unit) × Unit))) : Option (Unit × ((Int × Unit) × Unit)) := lim fun k => f_figures_run_m (f_figures_run_t k) d
theorem ok_figures_run : FnOk Try.prog ET0 174 pi_figures_run po_figures_run g_figures_run := go_figures_run g_figures_run fun d out h => lim_some h

/- horologe/figures.value -/
@[reducible] def pi_figures_value : PSh := ⟨[], [.mk false [.v .str], .mk false [.v (.int .u64)]]⟩
@[reducible] def po_figures_value : PSh := ⟨[], [.mk false [.v (.int .u64)], .mk false [.v .err]]⟩
@[reducible] def TT_figures_value : Type := (((Unit × ((ByteArray × Unit) × ((Int × Unit) × ((Int × Unit) × ((Int × Unit) × ((Int × Unit) × Unit)))))) → Option (Unit × ((Int × Unit) × (((Option Int) × Unit) × Unit)))) × Unit)
@[reducible] def sh_figures_value_4 : PSh := ⟨[], [.mk false [.v .str], .mk false [.v (.int .u64)], .any, .any, .any, .any, .mk false [.v (.int .u64)], .any, .any, .any, .mk false [.v (.int .i64)], .mk false [.v (.int .i64)], .any, .any, .any, .any, .any, .any, .any, .any, .any, .any, .any, .any, .any, .any, .any, .any, .any, .any, .any, .any]⟩
def f_figures_value_p4 (T : TT_figures_value) (d : Unit × ((ByteArray × Unit) × ((Int × Unit) × ((Int × Unit) × ((Int × Unit) × ((Int × Unit) × Unit)))))) : Option (Unit × ((Int × Unit) × (((Option Int) × Unit) × Unit))) :=
  let x2 : Bool := (decide (d.2.2.2.2.2.1.1 < d.2.2.2.2.1.1))
  bif x2 then (
  bif decide ((0 : Int) ≤ d.2.2.2.2.2.1.1) && decide (d.2.2.2.2.2.1.1 < ((d.2.1.1.size : Int) : Int)) then (
  let x3 : Int := (bt d.2.1.1 d.2.2.2.2.2.1.1)
  let x4 : Int := (isub .u8 x3 (48 : Int))
  let x5 : Int := (iconv .u64 x4)
  let x6 : Int := (isub .u64 d.2.2.1.1 x5)
  let x7 : Int := (iquo .u64 x6 (10 : Int))
  let x8 : Bool := (decide (d.2.2.2.1.1 > x7))
  bif x8 then (
  let x9 : (Option Int) := (some (5 : Int))
  some ((), (((0 : Int), ()), ((x9, ()), ()))))
  else (
  let x10 : Int := (imul .u64 d.2.2.2.1.1 (10 : Int))
  let x11 : Int := (iadd .u64 x10 x5)
  let x12 : Int := (iadd .i64 d.2.2.2.2.2.1.1 (1 : Int))
  (T.1 ((), ((d.2.1.1, ()), ((d.2.2.1.1, ()), ((x11, ()), ((d.2.2.2.2.1.1, ()), ((x12, ()), ())))))))))
  else none)
  else (
  some ((), ((d.2.2.2.1.1, ()), (((none : Option Int), ()), ()))))
def f_figures_value_t : Nat → TT_figures_value
  | 0 => (fun _ => none, ())
  | k + 1 => (f_figures_value_p4 (f_figures_value_t k), ())
theorem t_figures_value (k : Nat) : f_figures_value_t (k + 1) = (f_figures_value_p4 (f_figures_value_t k), ()) := rfl
def f_figures_value_m (T : TT_figures_value) (d : Unit × ((ByteArray × Unit) × ((Int × Unit) × Unit))) : Option (Unit × ((Int × Unit) × (((Option Int) × Unit) × Unit))) :=
  let x1 : Int := (d.2.1.1.size : Int)
  (T.1 ((), ((d.2.1.1, ()), ((d.2.2.1.1, ()), (((0 : Int), ()), ((x1, ()), (((0 : Int), ()), ())))))))
def c_figures_value : List Nat := []
def L_figures_value (k : Nat) : Pts po_figures_value.den := [(4, ⟨sh_figures_value_4, (f_figures_value_t k).1⟩)]
def E_figures_value : Env := E0
theorem q_figures_value_4 (k : Nat) (d : Unit × ((ByteArray × Unit) × ((Int × Unit) × ((Int × Unit) × ((Int × Unit) × ((Int × Unit) × Unit)))))) : evAt E_figures_value (tab (L_figures_value k)) c_figures_value 4 (bodyOf Try.f175) 0 (finK E_figures_value po_figures_value [.tmp 4, .tmp 5]) (ptSt sh_figures_value_4 d) = f_figures_value_p4 (f_figures_value_t k) d := by kernel_rfl
theorem q_figures_value_m (k : Nat) (d : Unit × ((ByteArray × Unit) × ((Int × Unit) × Unit))) : evCode E_figures_value (tab (L_figures_value k)) c_figures_value (bodyOf Try.f175) 0 (finK E_figures_value po_figures_value [.tmp 4, .tmp 5]) (startSt pi_figures_value 32 d) = f_figures_value_m (f_figures_value_t k) d := by kernel_rfl
theorem go_figures_value (F : Unit × ((ByteArray × Unit) × ((Int × Unit) × Unit)) → Option (Unit × ((Int × Unit) × (((Option Int) × Unit) × Unit)))) (hF : ∀ d out, F d = some out → ∃ k, f_figures_value_m (f_figures_value_t k) d = some out) : FnOk Try.prog ET0 175 pi_figures_value po_figures_value F :=
  fn_of_body (E := E_figures_value) e0_ok (fn := Try.f175) Try.func175 (by kernel_rfl) (by kernel_rfl) [.tmp 4, .tmp 5] (by kernel_rfl) (by kernel_rfl) (by decide) rfl c_figures_value L_figures_value
    (by intro x hx d; simp only [L_figures_value, List.mem_cons, List.not_mem_nil, or_false] at hx; subst hx; rfl)
    (by intro k x hx d out h; simp only [L_figures_value, List.mem_cons, List.not_mem_nil, or_false] at hx; subst hx; exact (q_figures_value_4 k d).trans h)
    (by intro d out h; obtain ⟨k, hk⟩ := hF d out h; exact ⟨k, (q_figures_value_m k d).trans hk⟩)
def g_figures_value (d : Unit × ((ByteArray × Unit) × ((Int × Unit) × Unit))) : Option (Unit × ((Int × Unit) × (((Option Int) × Unit) × Unit))) := lim fun k => f_figures_value_m (f_figures_value_t k) d
theorem ok_figures_value : FnOk Try.prog ET0 175 pi_figures_value po_figures_value g_figures_value := go_figures_value g_figures_value fun d out h => lim_some h

/- horologe/figures.take -/
@[reducible] def pi_figures_take : PSh := ⟨[], [.mk false [.v .str], .mk false [.v (.int .i64)], .mk false [.v (.int .i64)], .mk false [.v (.int .u64)]]⟩
@[reducible] def po_figures_take : PSh := ⟨[], [.mk false [.v (.int .u64)], .mk false [.v (.int .i64)], .mk false [.v .err]]⟩
def f_figures_take_m (T : Unit) (d : Unit × ((ByteArray × Unit) × ((Int × Unit) × ((Int × Unit) × ((Int × Unit) × Unit))))) : Option (Unit × ((Int × Unit) × ((Int × Unit) × (((Option Int) × Unit) × Unit)))) :=
  let x1 : Bool := (decide (d.2.2.1.1 < (1 : Int)))
  bif x1 then (
  let x2 : (Option Int) := (some (1 : Int))
  some ((), (((0 : Int), ()), (((0 : Int), ()), ((x2, ()), ())))))
  else (
  let x3 : Bool := (decide (d.2.2.1.1 > d.2.2.2.1.1))
  bif x3 then (
  let x4 : (Option Int) := (some (1 : Int))
  some ((), (((0 : Int), ()), (((0 : Int), ()), ((x4, ()), ())))))
  else (
  let x5 : Bool := (decide (d.2.2.2.1.1 > (20 : Int)))
  bif x5 then (
  let x6 : (Option Int) := (some (1 : Int))
  some ((), (((0 : Int), ()), (((0 : Int), ()), ((x6, ()), ())))))
  else (
  (g_figures_run ((), ((d.2.1.1, ()), ((d.2.2.2.1.1, ()), ())))).bind fun x7 =>
  let x8 : Bool := (decide (x7.2.1.1 < d.2.2.1.1))
  bif x8 then (
  let x9 : (Option Int) := (some (2 : Int))
  some ((), (((0 : Int), ()), (((0 : Int), ()), ((x9, ()), ())))))
  else (
  bif decide ((0 : Int) ≤ (0 : Int)) && decide ((0 : Int) ≤ x7.2.1.1) && decide (x7.2.1.1 ≤ (d.2.1.1.size : Int)) then (
  let x10 : ByteArray := (d.2.1.1.extract (Int.toNat (0 : Int)) (Int.toNat x7.2.1.1))
  (g_figures_value ((), ((x10, ()), ((d.2.2.2.2.1.1, ()), ())))).bind fun x11 =>
  let x12 : Bool := (!x11.2.2.1.1.isNone)
  bif x12 then (
  some ((), (((0 : Int), ()), (((0 : Int), ()), ((x11.2.2.1.1, ()), ())))))
  else (
  some ((), ((x11.2.1.1, ()), ((x7.2.1.1, ()), (((none : Option Int), ()), ()))))))
  else none))))
def c_figures_take : List Nat := []
def L_figures_take (_ : Nat) : Pts po_figures_take.den := []
def E_figures_take : Env := ((E0.add 174 (typedSem pi_figures_run po_figures_run g_figures_run)).add 175 (typedSem pi_figures_value po_figures_value g_figures_value))
theorem q_figures_take_m (k : Nat) (d : Unit × ((ByteArray × Unit) × ((Int × Unit) × ((Int × Unit) × ((Int × Unit) × Unit))))) : evCode E_figures_take (tab (L_figures_take k)) c_figures_take (bodyOf Try.f168) 0 (finK E_figures_take po_figures_take [.tmp 8, .tmp 9, .tmp 10]) (startSt pi_figures_take 46 d) = f_figures_take_m () d := by kernel_rfl
def g_figures_take (d : Unit × ((ByteArray × Unit) × ((Int × Unit) × ((Int × Unit) × ((Int × Unit) × Unit))))) : Option (Unit × ((Int × Unit) × ((Int × Unit) × (((Option Int) × Unit) × Unit)))) := f_figures_take_m () d
theorem ok_figures_take : FnOk Try.prog ET0 168 pi_figures_take po_figures_take g_figures_take :=
  fn_of_body (E := E_figures_take) (envOk_add (envOk_add e0_ok (typed_ok ok_figures_run)) (typed_ok ok_figures_value)) (fn := Try.f168) Try.func168 (by kernel_rfl) (by kernel_rfl) [.tmp 8, .tmp 9, .tmp 10] (by kernel_rfl) (by kernel_rfl) (by decide) rfl c_figures_take L_figures_take
    (by intro x hx; cases hx) (by intro k x hx; cases hx) (fun d out h => ⟨0, (q_figures_take_m 0 d).trans h⟩)

/- horologe/figures.Take -/
@[reducible] def pi_figures_Take : PSh := ⟨[], [.mk false [.v .str], .mk false [.v (.int .i64)], .mk false [.v (.int .i64)]]⟩
@[reducible] def po_figures_Take : PSh := ⟨[], [.mk false [.v (.int .i64)], .mk false [.v (.int .i64)], .mk false [.v .err]]⟩
def f_figures_Take_m (T : Unit) (d : Unit × ((ByteArray × Unit) × ((Int × Unit) × ((Int × Unit) × Unit)))) : Option (Unit × ((Int × Unit) × ((Int × Unit) × (((Option Int) × Unit) × Unit)))) :=
  (g_figures_take ((), ((d.2.1.1, ()), ((d.2.2.1.1, ()), ((d.2.2.2.1.1, ()), (((9223372036854775807 : Int), ()), ())))))).bind fun x1 =>
  let x2 : Int := (iconv .i64 x1.2.1.1)
  some ((), ((x2, ()), ((x1.2.2.1.1, ()), ((x1.2.2.2.1.1, ()), ()))))
def c_figures_Take : List Nat := []
def L_figures_Take (_ : Nat) : Pts po_figures_Take.den := []
def E_figures_Take : Env := (E0.add 168 (typedSem pi_figures_take po_figures_take g_figures_take))
theorem q_figures_Take_m (k : Nat) (d : Unit × ((ByteArray × Unit) × ((Int × Unit) × ((Int × Unit) × Unit)))) : evCode E_figures_Take (tab (L_figures_Take k)) c_figures_Take (bodyOf Try.f156) 0 (finK E_figures_Take po_figures_Take [.tmp 6, .tmp 7, .tmp 8]) (startSt pi_figures_Take 24 d) = f_figures_Take_m () d := by kernel_rfl
def g_figures_Take (d : Unit × ((ByteArray × Unit) × ((Int × Unit) × ((Int × Unit) × Unit)))) : Option (Unit × ((Int × Unit) × ((Int × Unit) × (((Option Int) × Unit) × Unit)))) := f_figures_Take_m () d
theorem ok_figures_Take : FnOk Try.prog ET0 156 pi_figures_Take po_figures_Take g_figures_Take :=
  fn_of_body (E := E_figures_Take) (envOk_add e0_ok (typed_ok ok_figures_take)) (fn := Try.f156) Try.func156 (by kernel_rfl) (by kernel_rfl) [.tmp 6, .tmp 7, .tmp 8] (by kernel_rfl) (by kernel_rfl) (by decide) rfl c_figures_Take L_figures_Take
    (by intro x hx; cases hx) (by intro k x hx; cases hx) (fun d out h => ⟨0, (q_figures_Take_m 0 d).trans h⟩)

/- horologe/figures.whole -/
@[reducible] def pi_figures_whole : PSh := ⟨[], [.mk false [.v .str], .mk false [.v (.int .i64)], .mk false [.v (.int .i64)], .mk false [.v (.int .u64)]]⟩
@[reducible] def po_figures_whole : PSh := ⟨[], [.mk false [.v (.int .u64)], .mk false [.v .err]]⟩
def f_figures_whole_m (T : Unit) (d : Unit × ((ByteArray × Unit) × ((Int × Unit) × ((Int × Unit) × ((Int × Unit) × Unit))))) : Option (Unit × ((Int × Unit) × (((Option Int) × Unit) × Unit))) :=
  (g_figures_take ((), ((d.2.1.1, ()), ((d.2.2.1.1, ()), ((d.2.2.2.1.1, ()), ((d.2.2.2.2.1.1, ()), ())))))).bind fun x1 =>
  let x2 : Bool := (!x1.2.2.2.1.1.isNone)
  bif x2 then (
  some ((), (((0 : Int), ()), ((x1.2.2.2.1.1, ()), ()))))
  else (
  let x3 : Int := (d.2.1.1.size : Int)
  let x4 : Bool := (decide (x1.2.2.1.1 < x3))
  bif x4 then (
  let x5 : (Option Int) := (some (2 : Int))
  some ((), (((0 : Int), ()), ((x5, ()), ()))))
  else (
  some ((), ((x1.2.1.1, ()), (((none : Option Int), ()), ())))))
def c_figures_whole : List Nat := []
def L_figures_whole (_ : Nat) : Pts po_figures_whole.den := []
def E_figures_whole : Env := (E0.add 168 (typedSem pi_figures_take po_figures_take g_figures_take))
theorem q_figures_whole_m (k : Nat) (d : Unit × ((ByteArray × Unit) × ((Int × Unit) × ((Int × Unit) × ((Int × Unit) × Unit))))) : evCode E_figures_whole (tab (L_figures_whole k)) c_figures_whole (bodyOf Try.f171) 0 (finK E_figures_whole po_figures_whole [.tmp 8, .tmp 9]) (startSt pi_figures_whole 33 d) = f_figures_whole_m () d := by kernel_rfl
def g_figures_whole (d : Unit × ((ByteArray × Unit) × ((Int × Unit) × ((Int × Unit) × ((Int × Unit) × Unit))))) : Option (Unit × ((Int × Unit) × (((Option Int) × Unit) × Unit))) := f_figures_whole_m () d
theorem ok_figures_whole : FnOk Try.prog ET0 171 pi_figures_whole po_figures_whole g_figures_whole :=
  fn_of_body (E := E_figures_whole) (envOk_add e0_ok (typed_ok ok_figures_take)) (fn := Try.f171) Try.func171 (by kernel_rfl) (by kernel_rfl) [.tmp 8, .tmp 9] (by kernel_rfl) (by kernel_rfl) (by decide) rfl c_figures_whole L_figures_whole
    (by intro x hx; cases hx) (by intro k x hx; cases hx) (fun d out h => ⟨0, (q_figures_whole_m 0 d).trans h⟩)

/- horologe/figures.Whole -/
@[reducible] def pi_figures_Whole : PSh := ⟨[], [.mk false [.v .str], .mk false [.v (.int .i64)], .mk false [.v (.int .i64)]]⟩
@[reducible] def po_figures_Whole : PSh := ⟨[], [.mk false [.v (.int .i64)], .mk false [.v .err]]⟩
def f_figures_Whole_m (T : Unit) (d : Unit × ((ByteArray × Unit) × ((Int × Unit) × ((Int × Unit) × Unit)))) : Option (Unit × ((Int × Unit) × (((Option Int) × Unit) × Unit))) :=
  (g_figures_whole ((), ((d.2.1.1, ()), ((d.2.2.1.1, ()), ((d.2.2.2.1.1, ()), (((9223372036854775807 : Int), ()), ())))))).bind fun x1 =>
  let x2 : Int := (iconv .i64 x1.2.1.1)
  some ((), ((x2, ()), ((x1.2.2.1.1, ()), ())))
def c_figures_Whole : List Nat := []
def L_figures_Whole (_ : Nat) : Pts po_figures_Whole.den := []
def E_figures_Whole : Env := (E0.add 171 (typedSem pi_figures_whole po_figures_whole g_figures_whole))
theorem q_figures_Whole_m (k : Nat) (d : Unit × ((ByteArray × Unit) × ((Int × Unit) × ((Int × Unit) × Unit)))) : evCode E_figures_Whole (tab (L_figures_Whole k)) c_figures_Whole (bodyOf Try.f161) 0 (finK E_figures_Whole po_figures_Whole [.tmp 6, .tmp 7]) (startSt pi_figures_Whole 20 d) = f_figures_Whole_m () d := by kernel_rfl
def g_figures_Whole (d : Unit × ((ByteArray × Unit) × ((Int × Unit) × ((Int × Unit) × Unit)))) : Option (Unit × ((Int × Unit) × (((Option Int) × Unit) × Unit))) := f_figures_Whole_m () d
theorem ok_figures_Whole : FnOk Try.prog ET0 161 pi_figures_Whole po_figures_Whole g_figures_Whole :=
  fn_of_body (E := E_figures_Whole) (envOk_add e0_ok (typed_ok ok_figures_whole)) (fn := Try.f161) Try.func161 (by kernel_rfl) (by kernel_rfl) [.tmp 6, .tmp 7] (by kernel_rfl) (by kernel_rfl) (by decide) rfl c_figures_Whole L_figures_Whole
    (by intro x hx; cases hx) (by intro k x hx; cases hx) (fun d out h => ⟨0, (q_figures_Whole_m 0 d).trans h⟩)

/- (*horologe/scan.Scanner[string]).Peek -/
@[reducible] def pi_scan_Scanner_string_Peek : PSh := ⟨[], [.mk false [.v (.nptr (.pair .str (.pair (.int .i64) .err)))]]⟩
@[reducible] def po_scan_Scanner_string_Peek : PSh := ⟨[], [.mk false [.v (.int .u8)], .mk false [.v .bool]]⟩
def f_scan_Scanner_string_Peek_m (T : Unit) (d : Unit × (((Option (ByteArray × (Int × (Option Int)))) × Unit) × Unit)) : Option (Unit × ((Int × Unit) × ((Bool × Unit) × Unit))) :=
  (g_scan_Scanner_string_rest ((), ((d.2.1.1, ()), ()))).bind fun x1 =>
  let x2 : Bool := (x1.2.1.1.toList == (⟨#[]⟩ : ByteArray).toList)
  bif x2 then (
  some ((), (((0 : Int), ()), ((false, ()), ()))))
  else (
  bif decide ((0 : Int) ≤ (0 : Int)) && decide ((0 : Int) < ((x1.2.1.1.size : Int) : Int)) then (
  let x3 : Int := (bt x1.2.1.1 (0 : Int))
  some ((), ((x3, ()), ((true, ()), ()))))
  else none)
def c_scan_Scanner_string_Peek : List Nat := []
def L_scan_Scanner_string_Peek (_ : Nat) : Pts po_scan_Scanner_string_Peek.den := []
def E_scan_Scanner_string_Peek : Env := (E0.add 157 (typedSem pi_scan_Scanner_string_rest po_scan_Scanner_string_rest g_scan_Scanner_string_rest))
theorem q_scan_Scanner_string_Peek_m (k : Nat) (d : Unit × (((Option (ByteArray × (Int × (Option Int)))) × Unit) × Unit)) : evCode E_scan_Scanner_string_Peek (tab (L_scan_Scanner_string_Peek k)) c_scan_Scanner_string_Peek (bodyOf Try.f124) 0 (finK E_scan_Scanner_string_Peek po_scan_Scanner_string_Peek [.tmp 2, .tmp 3]) (startSt pi_scan_Scanner_string_Peek 11 d) = f_scan_Scanner_string_Peek_m () d := by kernel_rfl
def g_scan_Scanner_string_Peek (d : Unit × (((Option (ByteArray × (Int × (Option Int)))) × Unit) × Unit)) : Option (Unit × ((Int × Unit) × ((Bool × Unit) × Unit))) := f_scan_Scanner_string_Peek_m () d
theorem ok_scan_Scanner_string_Peek : FnOk Try.prog ET0 124 pi_scan_Scanner_string_Peek po_scan_Scanner_string_Peek g_scan_Scanner_string_Peek :=
  fn_of_body (E := E_scan_Scanner_string_Peek) (envOk_add e0_ok (typed_ok ok_scan_Scanner_string_rest)) (fn := Try.f124) Try.func124 (by kernel_rfl) (by kernel_rfl) [.tmp 2, .tmp 3] (by kernel_rfl) (by kernel_rfl) (by decide) rfl c_scan_Scanner_string_Peek L_scan_Scanner_string_Peek
    (by intro x hx; cases hx) (by intro k x hx; cases hx) (fun d out h => ⟨0, (q_scan_Scanner_string_Peek_m 0 d).trans h⟩)

/- horologe/mail.great -/
@[reducible] def pi_mail_great : PSh := ⟨[], [.mk false [.v .str]]⟩
@[reducible] def po_mail_great : PSh := ⟨[], [.mk false [.v .str]]⟩
@[reducible] def TT_mail_great : Type := (((((List Int) × Unit) × (Unit × (Unit × ((Int × Unit) × ((Int × Unit) × Unit))))) → Option (Unit × ((ByteArray × Unit) × Unit))) × Unit)
@[reducible] def sh_mail_great_4 : PSh := ⟨[.row 5 (.int .u8)], [.any, .any, .any, .mk false [.osl 0], .any, .any, .any, .any, .mk false [.osl 0], .mk false [.v (.int .i64)], .mk false [.v (.int .i64)], .any, .any, .any, .any, .any, .any, .any, .any, .any, .any, .any, .any, .any, .any, .any, .any, .any, .any, .any]⟩
def f_mail_great_p4 (T : TT_mail_great) (d : ((List Int) × Unit) × (Unit × (Unit × ((Int × Unit) × ((Int × Unit) × Unit))))) : Option (Unit × ((ByteArray × Unit) × Unit)) :=
  let x3 : Bool := (decide (d.2.2.2.2.1.1 < d.2.2.2.1.1))
  bif x3 then (
  bif decide ((0 : Int) ≤ d.2.2.2.2.1.1) && decide (d.2.2.2.2.1.1 < (d.1.1.length : Int)) then (
  let x4 : Bool := (decide ((gd (.int .u8) d.1.1 d.2.2.2.2.1.1) ≥ (97 : Int)))
  bif x4 then (
  let x5 : Bool := (decide ((gd (.int .u8) d.1.1 d.2.2.2.2.1.1) ≤ (122 : Int)))
  bif x5 then (
  let x6 : Int := (isub .u8 (gd (.int .u8) d.1.1 d.2.2.2.2.1.1) (97 : Int))
  let x7 : Int := (iadd .u8 x6 (65 : Int))
  bif decide ((0 : Int) ≤ d.2.2.2.2.1.1) && decide (d.2.2.2.2.1.1 < (d.1.1.length : Int)) then (
  let x8 : (List Int) := (List.set d.1.1 (Int.toNat d.2.2.2.2.1.1) x7)
  let x9 : Int := (iadd .i64 d.2.2.2.2.1.1 (1 : Int))
  (T.1 ((x8, ()), ((), ((), ((d.2.2.2.1.1, ()), ((x9, ()), ())))))))
  else none)
  else (
  let x10 : Int := (iadd .i64 d.2.2.2.2.1.1 (1 : Int))
  (T.1 ((d.1.1, ()), ((), ((), ((d.2.2.2.1.1, ()), ((x10, ()), ()))))))))
  else (
  let x11 : Int := (iadd .i64 d.2.2.2.2.1.1 (1 : Int))
  (T.1 ((d.1.1, ()), ((), ((), ((d.2.2.2.1.1, ()), ((x11, ()), ()))))))))
  else none)
  else (
  let x12 : ByteArray := (strOf d.1.1)
  some ((), ((x12, ()), ())))
def f_mail_great_t : Nat → TT_mail_great
  | 0 => (fun _ => none, ())
  | k + 1 => (f_mail_great_p4 (f_mail_great_t k), ())
theorem t_mail_great (k : Nat) : f_mail_great_t (k + 1) = (f_mail_great_p4 (f_mail_great_t k), ()) := rfl
def f_mail_great_m (T : TT_mail_great) (d : Unit × ((ByteArray × Unit) × Unit)) : Option (Unit × ((ByteArray × Unit) × Unit)) :=
  bif decide ((d.2.1.1.size : Int) ≤ 9223372036854775807) then (
  let x1 : (List Int) := (bytesOf d.2.1.1)
  let x2 : Int := (x1.length : Int)
  (T.1 ((x1, ()), ((), ((), ((x2, ()), (((0 : Int), ()), ())))))))
  else none
def c_mail_great : List Nat := []
def L_mail_great (k : Nat) : Pts po_mail_great.den := [(4, ⟨sh_mail_great_4, (f_mail_great_t k).1⟩)]
def E_mail_great : Env := E0
theorem q_mail_great_4 (k : Nat) (d : ((List Int) × Unit) × (Unit × (Unit × ((Int × Unit) × ((Int × Unit) × Unit))))) : evAt E_mail_great (tab (L_mail_great k)) c_mail_great 4 (bodyOf Try.f80) 0 (finK E_mail_great po_mail_great [.tmp 2]) (ptSt sh_mail_great_4 d) = f_mail_great_p4 (f_mail_great_t k) d := by kernel_rfl
theorem q_mail_great_m (k : Nat) (d : Unit × ((ByteArray × Unit) × Unit)) : evCode E_mail_great (tab (L_mail_great k)) c_mail_great (bodyOf Try.f80) 0 (finK E_mail_great po_mail_great [.tmp 2]) (startSt pi_mail_great 30 d) = f_mail_great_m (f_mail_great_t k) d := by kernel_rfl
theorem go_mail_great (F : Unit × ((ByteArray × Unit) × Unit) → Option (Unit × ((ByteArray × Unit) × Unit))) (hF : ∀ d out, F d = some out → ∃ k, f_mail_great_m (f_mail_great_t k) d = some out) : FnOk Try.prog ET0 80 pi_mail_great po_mail_great F :=
  fn_of_body (E := E_mail_great) e0_ok (fn := Try.f80) Try.func80 (by kernel_rfl) (by kernel_rfl) [.tmp 2] (by kernel_rfl) (by kernel_rfl) (by decide) rfl c_mail_great L_mail_great
    (by intro x hx d; simp only [L_mail_great, List.mem_cons, List.not_mem_nil, or_false] at hx; subst hx; rfl)
    (by intro k x hx d out h; simp only [L_mail_great, List.mem_cons, List.not_mem_nil, or_false] at hx; subst hx; exact (q_mail_great_4 k d).trans h)
    (by intro d out h; obtain ⟨k, hk⟩ := hF d out h; exact ⟨k, (q_mail_great_m k d).trans hk⟩)
def g_mail_great (d : Unit × ((ByteArray × Unit) × Unit)) : Option (Unit × ((ByteArray × Unit) × Unit)) := lim fun k => f_mail_great_m (f_mail_great_t k) d
theorem ok_mail_great : FnOk Try.prog ET0 80 pi_mail_great po_mail_great g_mail_great := go_mail_great g_mail_great fun d out h => lim_some h

/- horologe/mail.Zone -/
@[reducible] def pi_mail_Zone : PSh := ⟨[], [.mk false [.v .str]]⟩
@[reducible] def po_mail_Zone : PSh := ⟨[], [.mk false [.v (.int .i64)], .mk false [.v .bool]]⟩
def f_mail_Zone_m (T : Unit) (d : Unit × ((ByteArray × Unit) × Unit)) : Option (Unit × ((Int × Unit) × ((Bool × Unit) × Unit))) :=
  (g_mail_great ((), ((d.2.1.1, ()), ()))).bind fun x1 =>
  let x2 : Bool := (x1.2.1.1.toList == (⟨#[85, 84]⟩ : ByteArray).toList)
  bif x2 then (
  some ((), (((0 : Int), ()), ((true, ()), ()))))
  else (
  let x3 : Bool := (x1.2.1.1.toList == (⟨#[71, 77, 84]⟩ : ByteArray).toList)
  bif x3 then (
  some ((), (((0 : Int), ()), ((true, ()), ()))))
  else (
  let x4 : Bool := (x1.2.1.1.toList == (⟨#[69, 83, 84]⟩ : ByteArray).toList)
  bif x4 then (
  some ((), (((-300 : Int), ()), ((true, ()), ()))))
  else (
  let x5 : Bool := (x1.2.1.1.toList == (⟨#[67, 68, 84]⟩ : ByteArray).toList)
  bif x5 then (
  some ((), (((-300 : Int), ()), ((true, ()), ()))))
  else (
  let x6 : Bool := (x1.2.1.1.toList == (⟨#[69, 68, 84]⟩ : ByteArray).toList)
  bif x6 then (
  some ((), (((-240 : Int), ()), ((true, ()), ()))))
  else (
  let x7 : Bool := (x1.2.1.1.toList == (⟨#[67, 83, 84]⟩ : ByteArray).toList)
  bif x7 then (
  some ((), (((-360 : Int), ()), ((true, ()), ()))))
  else (
  let x8 : Bool := (x1.2.1.1.toList == (⟨#[77, 68, 84]⟩ : ByteArray).toList)
  bif x8 then (
  some ((), (((-360 : Int), ()), ((true, ()), ()))))
  else (
  let x9 : Bool := (x1.2.1.1.toList == (⟨#[77, 83, 84]⟩ : ByteArray).toList)
  bif x9 then (
  some ((), (((-420 : Int), ()), ((true, ()), ()))))
  else (
  let x10 : Bool := (x1.2.1.1.toList == (⟨#[80, 68, 84]⟩ : ByteArray).toList)
  bif x10 then (
  some ((), (((-420 : Int), ()), ((true, ()), ()))))
  else (
  let x11 : Bool := (x1.2.1.1.toList == (⟨#[80, 83, 84]⟩ : ByteArray).toList)
  bif x11 then (
  some ((), (((-480 : Int), ()), ((true, ()), ()))))
  else (
  let x12 : Bool := (x1.2.1.1.toList == (⟨#[74]⟩ : ByteArray).toList)
  bif x12 then (
  some ((), (((0 : Int), ()), ((false, ()), ()))))
  else (
  let x13 : Int := (x1.2.1.1.size : Int)
  let x14 : Bool := (x13 == (1 : Int))
  bif x14 then (
  bif decide ((0 : Int) ≤ (0 : Int)) && decide ((0 : Int) < ((x1.2.1.1.size : Int) : Int)) then (
  let x15 : Int := (bt x1.2.1.1 (0 : Int))
  let x16 : Bool := (decide (x15 ≥ (65 : Int)))
  bif x16 then (
  bif decide ((0 : Int) ≤ (0 : Int)) && decide ((0 : Int) < ((x1.2.1.1.size : Int) : Int)) then (
  let x17 : Int := (bt x1.2.1.1 (0 : Int))
  let x18 : Bool := (decide (x17 ≤ (90 : Int)))
  some ((), (((0 : Int), ()), ((x18, ()), ()))))
  else none)
  else (
  some ((), (((0 : Int), ()), ((false, ()), ())))))
  else none)
  else (
  some ((), (((0 : Int), ()), ((false, ()), ())))))))))))))))
def c_mail_Zone : List Nat := []
def L_mail_Zone (_ : Nat) : Pts po_mail_Zone.den := []
def E_mail_Zone : Env := (E0.add 80 (typedSem pi_mail_great po_mail_great g_mail_great))
theorem q_mail_Zone_m (k : Nat) (d : Unit × ((ByteArray × Unit) × Unit)) : evCode E_mail_Zone (tab (L_mail_Zone k)) c_mail_Zone (bodyOf Try.f32) 0 (finK E_mail_Zone po_mail_Zone [.tmp 2, .tmp 3]) (startSt pi_mail_Zone 39 d) = f_mail_Zone_m () d := by kernel_rfl
def g_mail_Zone (d : Unit × ((ByteArray × Unit) × Unit)) : Option (Unit × ((Int × Unit) × ((Bool × Unit) × Unit))) := f_mail_Zone_m () d
theorem ok_mail_Zone : FnOk Try.prog ET0 32 pi_mail_Zone po_mail_Zone g_mail_Zone :=
  fn_of_body (E := E_mail_Zone) (envOk_add e0_ok (typed_ok ok_mail_great)) (fn := Try.f32) Try.func32 (by kernel_rfl) (by kernel_rfl) [.tmp 2, .tmp 3] (by kernel_rfl) (by kernel_rfl) (by decide) rfl c_mail_Zone L_mail_Zone
    (by intro x hx; cases hx) (by intro k x hx; cases hx) (fun d out h => ⟨0, (q_mail_Zone_m 0 d).trans h⟩)

/- (*horologe/scan.Scanner[string]).Fail -/
@[reducible] def pi_scan_Scanner_string_Fail_io : PSh := ⟨[.var 159 [.v .str, .v (.int .i64), .v .err]], [.mk false [.ref 0 0], .mk false [.v .err]]⟩
@[reducible] def po_scan_Scanner_string_Fail_io : PSh := ⟨[.var 159 [.v .str, .v (.int .i64), .v .err]], [.mk false [.ref 0 0]]⟩
def f_scan_Scanner_string_Fail_io_m (T : Unit) (d : ((ByteArray × (Int × ((Option Int) × Unit))) × Unit) × (Unit × (((Option Int) × Unit) × Unit))) : Option (((ByteArray × (Int × ((Option Int) × Unit))) × Unit) × (Unit × Unit)) :=
  (g_scan_Scanner_string_going ((), (((some (d.1.1.1, (d.1.1.2.1, d.1.1.2.2.1))), ()), ()))).bind fun x1 =>
  bif x1.2.1.1 then (
  some (((d.1.1.1, (d.1.1.2.1, (d.2.2.1.1, ()))), ()), ((), ())))
  else (
  some (((d.1.1.1, (d.1.1.2.1, (d.1.1.2.2.1, ()))), ()), ((), ())))
def c_scan_Scanner_string_Fail_io : List Nat := []
def L_scan_Scanner_string_Fail_io (_ : Nat) : Pts po_scan_Scanner_string_Fail_io.den := []
def E_scan_Scanner_string_Fail_io : Env := ((E0.add 138 (typedSem pi_scan_Scanner_string_going po_scan_Scanner_string_going g_scan_Scanner_string_going)).kp [0])
theorem q_scan_Scanner_string_Fail_io_m (k : Nat) (d : ((ByteArray × (Int × ((Option Int) × Unit))) × Unit) × (Unit × (((Option Int) × Unit) × Unit))) : evCode E_scan_Scanner_string_Fail_io (tab (L_scan_Scanner_string_Fail_io k)) c_scan_Scanner_string_Fail_io (bodyOf Try.f90) 0 (finKio E_scan_Scanner_string_Fail_io po_scan_Scanner_string_Fail_io [] [(0, none)]) (startSt pi_scan_Scanner_string_Fail_io 10 d) = f_scan_Scanner_string_Fail_io_m () d := by kernel_rfl
def g_scan_Scanner_string_Fail_io (d : ((ByteArray × (Int × ((Option Int) × Unit))) × Unit) × (Unit × (((Option Int) × Unit) × Unit))) : Option (((ByteArray × (Int × ((Option Int) × Unit))) × Unit) × (Unit × Unit)) := f_scan_Scanner_string_Fail_io_m () d
theorem ok_scan_Scanner_string_Fail_io : FnIo Try.prog ET0 90 pi_scan_Scanner_string_Fail_io po_scan_Scanner_string_Fail_io 0 [(0, 0, none)] g_scan_Scanner_string_Fail_io :=
  fn_of_bodyIo (E := E_scan_Scanner_string_Fail_io) (envOk_kp (envOk_add e0_ok (typed_ok ok_scan_Scanner_string_going))) (fn := Try.f90) Try.func90 (by kernel_rfl) (by kernel_rfl) [] [(0, none)] [(0, 0, none)] (by kernel_rfl) (by kernel_rfl) (by kernel_rfl) (by kernel_rfl) (by decide) (by decide) c_scan_Scanner_string_Fail_io L_scan_Scanner_string_Fail_io
    (by intro x hx; cases hx) (by intro k x hx; cases hx) (fun d out h => ⟨0, (q_scan_Scanner_string_Fail_io_m 0 d).trans h⟩)

/- (*horologe/scan.Scanner[string]).take -/
@[reducible] def pi_scan_Scanner_string_take_io : PSh := ⟨[.var 159 [.v .str, .v (.int .i64), .v .err]], [.mk false [.ref 0 0], .mk false [.v (.int .i64)]]⟩
@[reducible] def po_scan_Scanner_string_take_io : PSh := ⟨[.var 159 [.v .str, .v (.int .i64), .v .err]], [.mk false [.v .str], .mk false [.ref 0 0]]⟩
def f_scan_Scanner_string_take_io_m (T : Unit) (d : ((ByteArray × (Int × ((Option Int) × Unit))) × Unit) × (Unit × ((Int × Unit) × Unit))) : Option (((ByteArray × (Int × ((Option Int) × Unit))) × Unit) × ((ByteArray × Unit) × (Unit × Unit))) :=
  (g_scan_Scanner_string_rest ((), (((some (d.1.1.1, (d.1.1.2.1, d.1.1.2.2.1))), ()), ()))).bind fun x1 =>
  bif decide ((0 : Int) ≤ (0 : Int)) && decide ((0 : Int) ≤ d.2.2.1.1) && decide (d.2.2.1.1 ≤ (x1.2.1.1.size : Int)) then (
  let x2 : ByteArray := (x1.2.1.1.extract (Int.toNat (0 : Int)) (Int.toNat d.2.2.1.1))
  let x3 : Bool := (decide (d.2.2.1.1 > (0 : Int)))
  bif x3 then (
  let x4 : Int := (iadd .i64 d.1.1.2.1 d.2.2.1.1)
  (g_strings_Clone ((), ((x2, ()), ()))).bind fun x5 =>
  some (((d.1.1.1, (x4, (d.1.1.2.2.1, ()))), ()), ((x5.2.1.1, ()), ((), ()))))
  else (
  (g_strings_Clone ((), ((x2, ()), ()))).bind fun x6 =>
  some (((d.1.1.1, (d.1.1.2.1, (d.1.1.2.2.1, ()))), ()), ((x6.2.1.1, ()), ((), ())))))
  else none
def c_scan_Scanner_string_take_io : List Nat := []
def L_scan_Scanner_string_take_io (_ : Nat) : Pts po_scan_Scanner_string_take_io.den := []
def E_scan_Scanner_string_take_io : Env := (((E0.add 157 (typedSem pi_scan_Scanner_string_rest po_scan_Scanner_string_rest g_scan_Scanner_string_rest)).add 158 (typedSem pi_strings_Clone po_strings_Clone g_strings_Clone)).kp [0])
theorem q_scan_Scanner_string_take_io_m (k : Nat) (d : ((ByteArray × (Int × ((Option Int) × Unit))) × Unit) × (Unit × ((Int × Unit) × Unit))) : evCode E_scan_Scanner_string_take_io (tab (L_scan_Scanner_string_take_io k)) c_scan_Scanner_string_take_io (bodyOf Try.f125) 0 (finKio E_scan_Scanner_string_take_io po_scan_Scanner_string_take_io [.tmp 4] [(0, none)]) (startSt pi_scan_Scanner_string_take_io 22 d) = f_scan_Scanner_string_take_io_m () d := by kernel_rfl
def g_scan_Scanner_string_take_io (d : ((ByteArray × (Int × ((Option Int) × Unit))) × Unit) × (Unit × ((Int × Unit) × Unit))) : Option (((ByteArray × (Int × ((Option Int) × Unit))) × Unit) × ((ByteArray × Unit) × (Unit × Unit))) := f_scan_Scanner_string_take_io_m () d
theorem ok_scan_Scanner_string_take_io : FnIo Try.prog ET0 125 pi_scan_Scanner_string_take_io po_scan_Scanner_string_take_io 1 [(0, 0, none)] g_scan_Scanner_string_take_io :=
  fn_of_bodyIo (E := E_scan_Scanner_string_take_io) (envOk_kp (envOk_add (envOk_add e0_ok (typed_ok ok_scan_Scanner_string_rest)) (typed_ok ok_strings_Clone))) (fn := Try.f125) Try.func125 (by kernel_rfl) (by kernel_rfl) [.tmp 4] [(0, none)] [(0, 0, none)] (by kernel_rfl) (by kernel_rfl) (by kernel_rfl) (by kernel_rfl) (by decide) (by decide) c_scan_Scanner_string_take_io L_scan_Scanner_string_take_io
    (by intro x hx; cases hx) (by intro k x hx; cases hx) (fun d out h => ⟨0, (q_scan_Scanner_string_take_io_m 0 d).trans h⟩)

/- (*horologe/scan.Scanner[string]).Skip -/
@[reducible] def pi_scan_Scanner_string_Skip_io : PSh := ⟨[.var 159 [.v .str, .v (.int .i64), .v .err]], [.mk false [.ref 0 0], .mk false [.v (.int .i64)]]⟩
@[reducible] def po_scan_Scanner_string_Skip_io : PSh := ⟨[.var 159 [.v .str, .v (.int .i64), .v .err]], [.mk false [.ref 0 0]]⟩
def f_scan_Scanner_string_Skip_io_m (T : Unit) (d : ((ByteArray × (Int × ((Option Int) × Unit))) × Unit) × (Unit × ((Int × Unit) × Unit))) : Option (((ByteArray × (Int × ((Option Int) × Unit))) × Unit) × (Unit × Unit)) :=
  (g_scan_Scanner_string_going ((), (((some (d.1.1.1, (d.1.1.2.1, d.1.1.2.2.1))), ()), ()))).bind fun x1 =>
  let x2 : Bool := (!x1.2.1.1)
  bif x2 then (
  some (((d.1.1.1, (d.1.1.2.1, (d.1.1.2.2.1, ()))), ()), ((), ())))
  else (
  let x3 : Bool := (decide (d.2.2.1.1 < (0 : Int)))
  bif x3 then (
  let x4 : (Option Int) := (some (1 : Int))
  some (((d.1.1.1, (d.1.1.2.1, (x4, ()))), ()), ((), ())))
  else (
  (g_scan_Scanner_string_Left ((), (((some (d.1.1.1, (d.1.1.2.1, d.1.1.2.2.1))), ()), ()))).bind fun x5 =>
  let x6 : Bool := (decide (d.2.2.1.1 > x5.2.1.1))
  bif x6 then (
  let x7 : (Option Int) := (some (4 : Int))
  some (((d.1.1.1, (d.1.1.2.1, (x7, ()))), ()), ((), ())))
  else (
  (g_scan_Scanner_string_take_io (((d.1.1.1, (d.1.1.2.1, (d.1.1.2.2.1, ()))), ()), ((), ((d.2.2.1.1, ()), ())))).bind fun x8 =>
  some (((x8.1.1.1, (x8.1.1.2.1, (x8.1.1.2.2.1, ()))), ()), ((), ())))))
def c_scan_Scanner_string_Skip_io : List Nat := []
def L_scan_Scanner_string_Skip_io (_ : Nat) : Pts po_scan_Scanner_string_Skip_io.den := []
def E_scan_Scanner_string_Skip_io : Env := ((((E0.add 125 (ioSem pi_scan_Scanner_string_take_io po_scan_Scanner_string_take_io 1 [(0, 0, none)] g_scan_Scanner_string_take_io)).add 127 (typedSem pi_scan_Scanner_string_Left po_scan_Scanner_string_Left g_scan_Scanner_string_Left)).add 138 (typedSem pi_scan_Scanner_string_going po_scan_Scanner_string_going g_scan_Scanner_string_going)).kp [0])
theorem q_scan_Scanner_string_Skip_io_m (k : Nat) (d : ((ByteArray × (Int × ((Option Int) × Unit))) × Unit) × (Unit × ((Int × Unit) × Unit))) : evCode E_scan_Scanner_string_Skip_io (tab (L_scan_Scanner_string_Skip_io k)) c_scan_Scanner_string_Skip_io (bodyOf Try.f134) 0 (finKio E_scan_Scanner_string_Skip_io po_scan_Scanner_string_Skip_io [] [(0, none)]) (startSt pi_scan_Scanner_string_Skip_io 27 d) = f_scan_Scanner_string_Skip_io_m () d := by kernel_rfl
def g_scan_Scanner_string_Skip_io (d : ((ByteArray × (Int × ((Option Int) × Unit))) × Unit) × (Unit × ((Int × Unit) × Unit))) : Option (((ByteArray × (Int × ((Option Int) × Unit))) × Unit) × (Unit × Unit)) := f_scan_Scanner_string_Skip_io_m () d
theorem ok_scan_Scanner_string_Skip_io : FnIo Try.prog ET0 134 pi_scan_Scanner_string_Skip_io po_scan_Scanner_string_Skip_io 0 [(0, 0, none)] g_scan_Scanner_string_Skip_io :=
  fn_of_bodyIo (E := E_scan_Scanner_string_Skip_io) (envOk_kp (envOk_add (envOk_add (envOk_add e0_ok (io_ok ok_scan_Scanner_string_take_io)) (typed_ok ok_scan_Scanner_string_Left)) (typed_ok ok_scan_Scanner_string_going))) (fn := Try.f134) Try.func134 (by kernel_rfl) (by kernel_rfl) [] [(0, none)] [(0, 0, none)] (by kernel_rfl) (by kernel_rfl) (by kernel_rfl) (by kernel_rfl) (by decide) (by decide) c_scan_Scanner_string_Skip_io L_scan_Scanner_string_Skip_io
    (by intro x hx; cases hx) (by intro k x hx; cases hx) (fun d out h => ⟨0, (q_scan_Scanner_string_Skip_io_m 0 d).trans h⟩)

/- (horologe/mail.reader).gap -/
@[reducible] def pi_mail_reader_gap_io : PSh := ⟨[.var 159 [.v .str, .v (.int .i64), .v .err]], [.mk true [.ref 0 0, .v .str]]⟩
@[reducible] def po_mail_reader_gap_io : PSh := ⟨[.var 159 [.v .str, .v (.int .i64), .v .err]], [.mk false [.v .bool], .mk false [.ref 0 0]]⟩
def f_mail_reader_gap_io_m (T : Unit) (d : ((ByteArray × (Int × ((Option Int) × Unit))) × Unit) × ((ByteArray × Unit) × Unit)) : Option (((ByteArray × (Int × ((Option Int) × Unit))) × Unit) × ((Bool × Unit) × (Unit × Unit))) :=
  (g_scan_Scanner_string_Err ((), (((some (d.1.1.1, (d.1.1.2.1, d.1.1.2.2.1))), ()), ()))).bind fun x1 =>
  let x2 : Bool := (!x1.2.1.1.isNone)
  bif x2 then (
  some (((d.1.1.1, (d.1.1.2.1, (d.1.1.2.2.1, ()))), ()), ((false, ()), ((), ()))))
  else (
  (g_scan_Scanner_string_At ((), (((some (d.1.1.1, (d.1.1.2.1, d.1.1.2.2.1))), ()), ()))).bind fun x3 =>
  (g_mail_Gap ((), ((d.2.1.1, ()), ((x3.2.1.1, ()), ())))).bind fun x4 =>
  let x5 : Bool := (decide (x4.2.1.1 < (0 : Int)))
  bif x5 then (
  let x6 : (Option Int) := (some (2 : Int))
  (g_scan_Scanner_string_Fail_io (((d.1.1.1, (d.1.1.2.1, (d.1.1.2.2.1, ()))), ()), ((), ((x6, ()), ())))).bind fun x7 =>
  some (((x7.1.1.1, (x7.1.1.2.1, (x7.1.1.2.2.1, ()))), ()), ((false, ()), ((), ()))))
  else (
  (g_scan_Scanner_string_At ((), (((some (d.1.1.1, (d.1.1.2.1, d.1.1.2.2.1))), ()), ()))).bind fun x8 =>
  let x9 : Int := (isub .i64 x4.2.1.1 x8.2.1.1)
  (g_scan_Scanner_string_Skip_io (((d.1.1.1, (d.1.1.2.1, (d.1.1.2.2.1, ()))), ()), ((), ((x9, ()), ())))).bind fun x10 =>
  let x11 : Bool := (decide (x9 > (0 : Int)))
  some (((x10.1.1.1, (x10.1.1.2.1, (x10.1.1.2.2.1, ()))), ()), ((x11, ()), ((), ())))))
def c_mail_reader_gap_io : List Nat := []
def L_mail_reader_gap_io (_ : Nat) : Pts po_mail_reader_gap_io.den := []
def E_mail_reader_gap_io : Env := ((((((E0.add 34 (typedSem pi_mail_Gap po_mail_Gap g_mail_Gap)).add 90 (ioSem pi_scan_Scanner_string_Fail_io po_scan_Scanner_string_Fail_io 0 [(0, 0, none)] g_scan_Scanner_string_Fail_io)).add 122 (typedSem pi_scan_Scanner_string_At po_scan_Scanner_string_At g_scan_Scanner_string_At)).add 126 (typedSem pi_scan_Scanner_string_Err po_scan_Scanner_string_Err g_scan_Scanner_string_Err)).add 134 (ioSem pi_scan_Scanner_string_Skip_io po_scan_Scanner_string_Skip_io 0 [(0, 0, none)] g_scan_Scanner_string_Skip_io)).kp [0])
theorem q_mail_reader_gap_io_m (k : Nat) (d : ((ByteArray × (Int × ((Option Int) × Unit))) × Unit) × ((ByteArray × Unit) × Unit)) : evCode E_mail_reader_gap_io (tab (L_mail_reader_gap_io k)) c_mail_reader_gap_io (bodyOf Try.f87) 0 (finKio E_mail_reader_gap_io po_mail_reader_gap_io [.tmp 2] [(0, some 0)]) (startSt pi_mail_reader_gap_io 32 d) = f_mail_reader_gap_io_m () d := by kernel_rfl
def g_mail_reader_gap_io (d : ((ByteArray × (Int × ((Option Int) × Unit))) × Unit) × ((ByteArray × Unit) × Unit)) : Option (((ByteArray × (Int × ((Option Int) × Unit))) × Unit) × ((Bool × Unit) × (Unit × Unit))) := f_mail_reader_gap_io_m () d
theorem ok_mail_reader_gap_io : FnIo Try.prog ET0 87 pi_mail_reader_gap_io po_mail_reader_gap_io 1 [(0, 0, some 0)] g_mail_reader_gap_io :=
  fn_of_bodyIo (E := E_mail_reader_gap_io) (envOk_kp (envOk_add (envOk_add (envOk_add (envOk_add (envOk_add e0_ok (typed_ok ok_mail_Gap)) (io_ok ok_scan_Scanner_string_Fail_io)) (typed_ok ok_scan_Scanner_string_At)) (typed_ok ok_scan_Scanner_string_Err)) (io_ok ok_scan_Scanner_string_Skip_io))) (fn := Try.f87) Try.func87 (by kernel_rfl) (by kernel_rfl) [.tmp 2] [(0, some 0)] [(0, 0, some 0)] (by kernel_rfl) (by kernel_rfl) (by kernel_rfl) (by kernel_rfl) (by decide) (by decide) c_mail_reader_gap_io L_mail_reader_gap_io
    (by intro x hx; cases hx) (by intro k x hx; cases hx) (fun d out h => ⟨0, (q_mail_reader_gap_io_m 0 d).trans h⟩)

/- (*horologe/scan.Scanner[string]).Fold -/
@[reducible] def pi_scan_Scanner_string_Fold_io : PSh := ⟨[.var 159 [.v .str, .v (.int .i64), .v .err]], [.mk false [.ref 0 0], .mk false [.v .str]]⟩
@[reducible] def po_scan_Scanner_string_Fold_io : PSh := ⟨[.var 159 [.v .str, .v (.int .i64), .v .err]], [.mk false [.v .bool], .mk false [.ref 0 0]]⟩
def f_scan_Scanner_string_Fold_io_m (T : Unit) (d : ((ByteArray × (Int × ((Option Int) × Unit))) × Unit) × (Unit × ((ByteArray × Unit) × Unit))) : Option (((ByteArray × (Int × ((Option Int) × Unit))) × Unit) × ((Bool × Unit) × (Unit × Unit))) :=
  (g_scan_Scanner_string_rest ((), (((some (d.1.1.1, (d.1.1.2.1, d.1.1.2.2.1))), ()), ()))).bind fun x1 =>
  (g_scan_Scanner_string_going ((), (((some (d.1.1.1, (d.1.1.2.1, d.1.1.2.2.1))), ()), ()))).bind fun x2 =>
  let x3 : Bool := (!x2.2.1.1)
  bif x3 then (
  some (((d.1.1.1, (d.1.1.2.1, (d.1.1.2.2.1, ()))), ()), ((false, ()), ((), ()))))
  else (
  let x4 : Int := (x1.2.1.1.size : Int)
  let x5 : Int := (d.2.2.1.1.size : Int)
  let x6 : Bool := (decide (x4 < x5))
  bif x6 then (
  some (((d.1.1.1, (d.1.1.2.1, (d.1.1.2.2.1, ()))), ()), ((false, ()), ((), ()))))
  else (
  let x7 : Int := (d.2.2.1.1.size : Int)
  bif decide ((0 : Int) ≤ (0 : Int)) && decide ((0 : Int) ≤ x7) && decide (x7 ≤ (x1.2.1.1.size : Int)) then (
  let x8 : ByteArray := (x1.2.1.1.extract (Int.toNat (0 : Int)) (Int.toNat x7))
  (g_scan_alike ((), ((x8, ()), ((d.2.2.1.1, ()), ())))).bind fun x9 =>
  let x10 : Bool := (!x9.2.1.1)
  bif x10 then (
  some (((d.1.1.1, (d.1.1.2.1, (d.1.1.2.2.1, ()))), ()), ((false, ()), ((), ()))))
  else (
  let x11 : Int := (d.2.2.1.1.size : Int)
  (g_scan_Scanner_string_take_io (((d.1.1.1, (d.1.1.2.1, (d.1.1.2.2.1, ()))), ()), ((), ((x11, ()), ())))).bind fun x12 =>
  some (((x12.1.1.1, (x12.1.1.2.1, (x12.1.1.2.2.1, ()))), ()), ((true, ()), ((), ())))))
  else none))
def c_scan_Scanner_string_Fold_io : List Nat := []
def L_scan_Scanner_string_Fold_io (_ : Nat) : Pts po_scan_Scanner_string_Fold_io.den := []
def E_scan_Scanner_string_Fold_io : Env := (((((E0.add 125 (ioSem pi_scan_Scanner_string_take_io po_scan_Scanner_string_take_io 1 [(0, 0, none)] g_scan_Scanner_string_take_io)).add 138 (typedSem pi_scan_Scanner_string_going po_scan_Scanner_string_going g_scan_Scanner_string_going)).add 157 (typedSem pi_scan_Scanner_string_rest po_scan_Scanner_string_rest g_scan_Scanner_string_rest)).add 170 (typedSem pi_scan_alike po_scan_alike g_scan_alike)).kp [0])
theorem q_scan_Scanner_string_Fold_io_m (k : Nat) (d : ((ByteArray × (Int × ((Option Int) × Unit))) × Unit) × (Unit × ((ByteArray × Unit) × Unit))) : evCode E_scan_Scanner_string_Fold_io (tab (L_scan_Scanner_string_Fold_io k)) c_scan_Scanner_string_Fold_io (bodyOf Try.f160) 0 (finKio E_scan_Scanner_string_Fold_io po_scan_Scanner_string_Fold_io [.tmp 4] [(0, none)]) (startSt pi_scan_Scanner_string_Fold_io 31 d) = f_scan_Scanner_string_Fold_io_m () d := by kernel_rfl
def g_scan_Scanner_string_Fold_io (d : ((ByteArray × (Int × ((Option Int) × Unit))) × Unit) × (Unit × ((ByteArray × Unit) × Unit))) : Option (((ByteArray × (Int × ((Option Int) × Unit))) × Unit) × ((Bool × Unit) × (Unit × Unit))) := f_scan_Scanner_string_Fold_io_m () d
theorem ok_scan_Scanner_string_Fold_io : FnIo Try.prog ET0 160 pi_scan_Scanner_string_Fold_io po_scan_Scanner_string_Fold_io 1 [(0, 0, none)] g_scan_Scanner_string_Fold_io :=
  fn_of_bodyIo (E := E_scan_Scanner_string_Fold_io) (envOk_kp (envOk_add (envOk_add (envOk_add (envOk_add e0_ok (io_ok ok_scan_Scanner_string_take_io)) (typed_ok ok_scan_Scanner_string_going)) (typed_ok ok_scan_Scanner_string_rest)) (typed_ok ok_scan_alike))) (fn := Try.f160) Try.func160 (by kernel_rfl) (by kernel_rfl) [.tmp 4] [(0, none)] [(0, 0, none)] (by kernel_rfl) (by kernel_rfl) (by kernel_rfl) (by kernel_rfl) (by decide) (by decide) c_scan_Scanner_string_Fold_io L_scan_Scanner_string_Fold_io
    (by intro x hx; cases hx) (by intro k x hx; cases hx) (fun d out h => ⟨0, (q_scan_Scanner_string_Fold_io_m 0 d).trans h⟩)

/- (horologe/mail.reader).one -/
@[reducible] def pi_mail_reader_one_io : PSh := ⟨[.var 159 [.v .str, .v (.int .i64), .v .err]], [.mk true [.ref 0 0, .v .str], .mk false [.v .str]]⟩
@[reducible] def po_mail_reader_one_io : PSh := ⟨[.var 159 [.v .str, .v (.int .i64), .v .err]], [.mk false [.v (.int .i64)], .mk false [.ref 0 0]]⟩
@[reducible] def TT_mail_reader_one_io : Type := (((((ByteArray × (Int × ((Option Int) × Unit))) × ((ByteArray × Unit) × Unit)) × ((ByteArray × Unit) × ((ByteArray × Unit) × (Unit × ((Int × Unit) × Unit))))) → Option (((ByteArray × (Int × ((Option Int) × Unit))) × Unit) × ((Int × Unit) × (Unit × Unit)))) × Unit)
@[reducible] def sh_mail_reader_one_io_3 : PSh := ⟨[.var 159 [.v .str, .v (.int .i64), .v .err], .var 133 [.ref 0 0, .v .str]], [.mk true [.ref 0 0, .v .str], .mk false [.v .str], .mk false [.ref 1 0], .any, .any, .mk false [.v (.int .i64)], .any, .any, .any, .any, .any, .any, .any, .any, .any, .any, .any, .any, .any, .any]⟩
def f_mail_reader_one_io_p3 (T : TT_mail_reader_one_io) (d : ((ByteArray × (Int × ((Option Int) × Unit))) × ((ByteArray × Unit) × Unit)) × ((ByteArray × Unit) × ((ByteArray × Unit) × (Unit × ((Int × Unit) × Unit))))) : Option (((ByteArray × (Int × ((Option Int) × Unit))) × Unit) × ((Int × Unit) × (Unit × Unit))) :=
  let x1 : Int := (d.2.2.1.1.size : Int)
  let x2 : Int := (iquo .i64 x1 (3 : Int))
  let x3 : Bool := (decide (d.2.2.2.2.1.1 ≤ x2))
  bif x3 then (
  (g_mail_name ((), ((d.2.2.1.1, ()), ((d.2.2.2.2.1.1, ()), ())))).bind fun x4 =>
  (g_scan_Scanner_string_Fold_io (((d.1.1.1, (d.1.1.2.1, (d.1.1.2.2.1, ()))), ()), ((), ((x4.2.1.1, ()), ())))).bind fun x5 =>
  bif x5.2.1.1 then (
  some (((x5.1.1.1, (x5.1.1.2.1, (x5.1.1.2.2.1, ()))), ()), ((d.2.2.2.2.1.1, ()), ((), ()))))
  else (
  let x6 : Int := (iadd .i64 d.2.2.2.2.1.1 (1 : Int))
  (T.1 (((x5.1.1.1, (x5.1.1.2.1, (x5.1.1.2.2.1, ()))), ((d.1.2.1.1, ()), ())), ((d.2.1.1, ()), ((d.2.2.1.1, ()), ((), ((x6, ()), ()))))))))
  else (
  some (((d.1.1.1, (d.1.1.2.1, (d.1.1.2.2.1, ()))), ()), (((0 : Int), ()), ((), ()))))
def f_mail_reader_one_io_t : Nat → TT_mail_reader_one_io
  | 0 => (fun _ => none, ())
  | k + 1 => (f_mail_reader_one_io_p3 (f_mail_reader_one_io_t k), ())
theorem t_mail_reader_one_io (k : Nat) : f_mail_reader_one_io_t (k + 1) = (f_mail_reader_one_io_p3 (f_mail_reader_one_io_t k), ()) := rfl
def f_mail_reader_one_io_m (T : TT_mail_reader_one_io) (d : ((ByteArray × (Int × ((Option Int) × Unit))) × Unit) × ((ByteArray × Unit) × ((ByteArray × Unit) × Unit))) : Option (((ByteArray × (Int × ((Option Int) × Unit))) × Unit) × ((Int × Unit) × (Unit × Unit))) :=
  (T.1 (((d.1.1.1, (d.1.1.2.1, (d.1.1.2.2.1, ()))), ((d.2.1.1, ()), ())), ((d.2.1.1, ()), ((d.2.2.1.1, ()), ((), (((1 : Int), ()), ()))))))
def c_mail_reader_one_io : List Nat := []
def L_mail_reader_one_io (k : Nat) : Pts po_mail_reader_one_io.den := [(3, ⟨sh_mail_reader_one_io_3, (f_mail_reader_one_io_t k).1⟩)]
def E_mail_reader_one_io : Env := (((E0.add 86 (typedSem pi_mail_name po_mail_name g_mail_name)).add 160 (ioSem pi_scan_Scanner_string_Fold_io po_scan_Scanner_string_Fold_io 1 [(0, 0, none)] g_scan_Scanner_string_Fold_io)).kp [0])
theorem q_mail_reader_one_io_3 (k : Nat) (d : ((ByteArray × (Int × ((Option Int) × Unit))) × ((ByteArray × Unit) × Unit)) × ((ByteArray × Unit) × ((ByteArray × Unit) × (Unit × ((Int × Unit) × Unit))))) : evAt E_mail_reader_one_io (tab (L_mail_reader_one_io k)) c_mail_reader_one_io 3 (bodyOf Try.f135) 0 (finKio E_mail_reader_one_io po_mail_reader_one_io [.tmp 4] [(0, some 0)]) (ptSt sh_mail_reader_one_io_3 d) = f_mail_reader_one_io_p3 (f_mail_reader_one_io_t k) d := by kernel_rfl
theorem q_mail_reader_one_io_m (k : Nat) (d : ((ByteArray × (Int × ((Option Int) × Unit))) × Unit) × ((ByteArray × Unit) × ((ByteArray × Unit) × Unit))) : evCode E_mail_reader_one_io (tab (L_mail_reader_one_io k)) c_mail_reader_one_io (bodyOf Try.f135) 0 (finKio E_mail_reader_one_io po_mail_reader_one_io [.tmp 4] [(0, some 0)]) (startSt pi_mail_reader_one_io 20 d) = f_mail_reader_one_io_m (f_mail_reader_one_io_t k) d := by kernel_rfl
theorem go_mail_reader_one_io (F : ((ByteArray × (Int × ((Option Int) × Unit))) × Unit) × ((ByteArray × Unit) × ((ByteArray × Unit) × Unit)) → Option (((ByteArray × (Int × ((Option Int) × Unit))) × Unit) × ((Int × Unit) × (Unit × Unit)))) (hF : ∀ d out, F d = some out → ∃ k, f_mail_reader_one_io_m (f_mail_reader_one_io_t k) d = some out) : FnIo Try.prog ET0 135 pi_mail_reader_one_io po_mail_reader_one_io 1 [(0, 0, some 0)] F :=
  fn_of_bodyIo (E := E_mail_reader_one_io) (envOk_kp (envOk_add (envOk_add e0_ok (typed_ok ok_mail_name)) (io_ok ok_scan_Scanner_string_Fold_io))) (fn := Try.f135) Try.func135 (by kernel_rfl) (by kernel_rfl) [.tmp 4] [(0, some 0)] [(0, 0, some 0)] (by kernel_rfl) (by kernel_rfl) (by kernel_rfl) (by kernel_rfl) (by decide) (by decide) c_mail_reader_one_io L_mail_reader_one_io
    (by intro x hx d; simp only [L_mail_reader_one_io, List.mem_cons, List.not_mem_nil, or_false] at hx; subst hx; rfl)
    (by intro k x hx d out h; simp only [L_mail_reader_one_io, List.mem_cons, List.not_mem_nil, or_false] at hx; subst hx; exact (q_mail_reader_one_io_3 k d).trans h)
    (by intro d out h; obtain ⟨k, hk⟩ := hF d out h; exact ⟨k, (q_mail_reader_one_io_m k d).trans hk⟩)
def g_mail_reader_one_io (d : ((ByteArray × (Int × ((Option Int) × Unit))) × Unit) × ((ByteArray × Unit) × ((ByteArray × Unit) × Unit))) : Option (((ByteArray × (Int × ((Option Int) × Unit))) × Unit) × ((Int × Unit) × (Unit × Unit))) := lim fun k => f_mail_reader_one_io_m (f_mail_reader_one_io_t k) d
theorem ok_mail_reader_one_io : FnIo Try.prog ET0 135 pi_mail_reader_one_io po_mail_reader_one_io 1 [(0, 0, some 0)] g_mail_reader_one_io := go_mail_reader_one_io g_mail_reader_one_io fun d out h => lim_some h

/- (*horologe/scan.Scanner[string]).Must -/
@[reducible] def pi_scan_Scanner_string_Must_io : PSh := ⟨[.var 159 [.v .str, .v (.int .i64), .v .err]], [.mk false [.ref 0 0], .mk false [.v .str]]⟩
@[reducible] def po_scan_Scanner_string_Must_io : PSh := ⟨[.var 159 [.v .str, .v (.int .i64), .v .err]], [.mk false [.ref 0 0]]⟩
def f_scan_Scanner_string_Must_io_m (T : Unit) (d : ((ByteArray × (Int × ((Option Int) × Unit))) × Unit) × (Unit × ((ByteArray × Unit) × Unit))) : Option (((ByteArray × (Int × ((Option Int) × Unit))) × Unit) × (Unit × Unit)) :=
  (g_scan_Scanner_string_Fold_io (((d.1.1.1, (d.1.1.2.1, (d.1.1.2.2.1, ()))), ()), ((), ((d.2.2.1.1, ()), ())))).bind fun x1 =>
  let x2 : Bool := (!x1.2.1.1)
  bif x2 then (
  let x3 : (Option Int) := (some (2 : Int))
  (g_scan_Scanner_string_Fail_io (((x1.1.1.1, (x1.1.1.2.1, (x1.1.1.2.2.1, ()))), ()), ((), ((x3, ()), ())))).bind fun x4 =>
  some (((x4.1.1.1, (x4.1.1.2.1, (x4.1.1.2.2.1, ()))), ()), ((), ())))
  else (
  some (((x1.1.1.1, (x1.1.1.2.1, (x1.1.1.2.2.1, ()))), ()), ((), ())))
def c_scan_Scanner_string_Must_io : List Nat := []
def L_scan_Scanner_string_Must_io (_ : Nat) : Pts po_scan_Scanner_string_Must_io.den := []
def E_scan_Scanner_string_Must_io : Env := (((E0.add 90 (ioSem pi_scan_Scanner_string_Fail_io po_scan_Scanner_string_Fail_io 0 [(0, 0, none)] g_scan_Scanner_string_Fail_io)).add 160 (ioSem pi_scan_Scanner_string_Fold_io po_scan_Scanner_string_Fold_io 1 [(0, 0, none)] g_scan_Scanner_string_Fold_io)).kp [0])
theorem q_scan_Scanner_string_Must_io_m (k : Nat) (d : ((ByteArray × (Int × ((Option Int) × Unit))) × Unit) × (Unit × ((ByteArray × Unit) × Unit))) : evCode E_scan_Scanner_string_Must_io (tab (L_scan_Scanner_string_Must_io k)) c_scan_Scanner_string_Must_io (bodyOf Try.f136) 0 (finKio E_scan_Scanner_string_Must_io po_scan_Scanner_string_Must_io [] [(0, none)]) (startSt pi_scan_Scanner_string_Must_io 11 d) = f_scan_Scanner_string_Must_io_m () d := by kernel_rfl
def g_scan_Scanner_string_Must_io (d : ((ByteArray × (Int × ((Option Int) × Unit))) × Unit) × (Unit × ((ByteArray × Unit) × Unit))) : Option (((ByteArray × (Int × ((Option Int) × Unit))) × Unit) × (Unit × Unit)) := f_scan_Scanner_string_Must_io_m () d
theorem ok_scan_Scanner_string_Must_io : FnIo Try.prog ET0 136 pi_scan_Scanner_string_Must_io po_scan_Scanner_string_Must_io 0 [(0, 0, none)] g_scan_Scanner_string_Must_io :=
  fn_of_bodyIo (E := E_scan_Scanner_string_Must_io) (envOk_kp (envOk_add (envOk_add e0_ok (io_ok ok_scan_Scanner_string_Fail_io)) (io_ok ok_scan_Scanner_string_Fold_io))) (fn := Try.f136) Try.func136 (by kernel_rfl) (by kernel_rfl) [] [(0, none)] [(0, 0, none)] (by kernel_rfl) (by kernel_rfl) (by kernel_rfl) (by kernel_rfl) (by decide) (by decide) c_scan_Scanner_string_Must_io L_scan_Scanner_string_Must_io
    (by intro x hx; cases hx) (by intro k x hx; cases hx) (fun d out h => ⟨0, (q_scan_Scanner_string_Must_io_m 0 d).trans h⟩)

/- (horologe/mail.reader).weekday -/
@[reducible] def pi_mail_reader_weekday_io : PSh := ⟨[.var 159 [.v .str, .v (.int .i64), .v .err]], [.mk true [.ref 0 0, .v .str]]⟩
@[reducible] def po_mail_reader_weekday_io : PSh := ⟨[.var 159 [.v .str, .v (.int .i64), .v .err]], [.mk false [.v (.int .i64)], .mk false [.ref 0 0]]⟩
def f_mail_reader_weekday_io_m (T : Unit) (d : ((ByteArray × (Int × ((Option Int) × Unit))) × Unit) × ((ByteArray × Unit) × Unit)) : Option (((ByteArray × (Int × ((Option Int) × Unit))) × Unit) × ((Int × Unit) × (Unit × Unit))) :=
  (g_mail_reader_one_io (((d.1.1.1, (d.1.1.2.1, (d.1.1.2.2.1, ()))), ()), ((d.2.1.1, ()), (((⟨#[77, 111, 110, 84, 117, 101, 87, 101, 100, 84, 104, 117, 70, 114, 105, 83, 97, 116, 83, 117, 110]⟩ : ByteArray), ()), ())))).bind fun x1 =>
  let x2 : Bool := (x1.2.1.1 == (0 : Int))
  bif x2 then (
  some (((x1.1.1.1, (x1.1.1.2.1, (x1.1.1.2.2.1, ()))), ()), (((0 : Int), ()), ((), ()))))
  else (
  (g_mail_reader_gap_io (((x1.1.1.1, (x1.1.1.2.1, (x1.1.1.2.2.1, ()))), ()), ((d.2.1.1, ()), ()))).bind fun x3 =>
  (g_scan_Scanner_string_Must_io (((x3.1.1.1, (x3.1.1.2.1, (x3.1.1.2.2.1, ()))), ()), ((), (((⟨#[44]⟩ : ByteArray), ()), ())))).bind fun x4 =>
  (g_mail_reader_gap_io (((x4.1.1.1, (x4.1.1.2.1, (x4.1.1.2.2.1, ()))), ()), ((d.2.1.1, ()), ()))).bind fun x5 =>
  some (((x5.1.1.1, (x5.1.1.2.1, (x5.1.1.2.2.1, ()))), ()), ((x1.2.1.1, ()), ((), ()))))
def c_mail_reader_weekday_io : List Nat := []
def L_mail_reader_weekday_io (_ : Nat) : Pts po_mail_reader_weekday_io.den := []
def E_mail_reader_weekday_io : Env := ((((E0.add 87 (ioSem pi_mail_reader_gap_io po_mail_reader_gap_io 1 [(0, 0, some 0)] g_mail_reader_gap_io)).add 135 (ioSem pi_mail_reader_one_io po_mail_reader_one_io 1 [(0, 0, some 0)] g_mail_reader_one_io)).add 136 (ioSem pi_scan_Scanner_string_Must_io po_scan_Scanner_string_Must_io 0 [(0, 0, none)] g_scan_Scanner_string_Must_io)).kp [0])
theorem q_mail_reader_weekday_io_m (k : Nat) (d : ((ByteArray × (Int × ((Option Int) × Unit))) × Unit) × ((ByteArray × Unit) × Unit)) : evCode E_mail_reader_weekday_io (tab (L_mail_reader_weekday_io k)) c_mail_reader_weekday_io (bodyOf Try.f88) 0 (finKio E_mail_reader_weekday_io po_mail_reader_weekday_io [.tmp 2] [(0, some 0)]) (startSt pi_mail_reader_weekday_io 16 d) = f_mail_reader_weekday_io_m () d := by kernel_rfl
def g_mail_reader_weekday_io (d : ((ByteArray × (Int × ((Option Int) × Unit))) × Unit) × ((ByteArray × Unit) × Unit)) : Option (((ByteArray × (Int × ((Option Int) × Unit))) × Unit) × ((Int × Unit) × (Unit × Unit))) := f_mail_reader_weekday_io_m () d
theorem ok_mail_reader_weekday_io : FnIo Try.prog ET0 88 pi_mail_reader_weekday_io po_mail_reader_weekday_io 1 [(0, 0, some 0)] g_mail_reader_weekday_io :=
  fn_of_bodyIo (E := E_mail_reader_weekday_io) (envOk_kp (envOk_add (envOk_add (envOk_add e0_ok (io_ok ok_mail_reader_gap_io)) (io_ok ok_mail_reader_one_io)) (io_ok ok_scan_Scanner_string_Must_io))) (fn := Try.f88) Try.func88 (by kernel_rfl) (by kernel_rfl) [.tmp 2] [(0, some 0)] [(0, 0, some 0)] (by kernel_rfl) (by kernel_rfl) (by kernel_rfl) (by kernel_rfl) (by decide) (by decide) c_mail_reader_weekday_io L_mail_reader_weekday_io
    (by intro x hx; cases hx) (by intro k x hx; cases hx) (fun d out h => ⟨0, (q_mail_reader_weekday_io_m 0 d).trans h⟩)

/- (*horologe/scan.Scanner[string]).Figures -/
@[reducible] def pi_scan_Scanner_string_Figures_io : PSh := ⟨[.var 159 [.v .str, .v (.int .i64), .v .err]], [.mk false [.ref 0 0], .mk false [.v (.int .i64)], .mk false [.v (.int .i64)]]⟩
@[reducible] def po_scan_Scanner_string_Figures_io : PSh := ⟨[.var 159 [.v .str, .v (.int .i64), .v .err]], [.mk false [.v (.int .i64)], .mk false [.ref 0 0]]⟩
def f_scan_Scanner_string_Figures_io_m (T : Unit) (d : ((ByteArray × (Int × ((Option Int) × Unit))) × Unit) × (Unit × ((Int × Unit) × ((Int × Unit) × Unit)))) : Option (((ByteArray × (Int × ((Option Int) × Unit))) × Unit) × ((Int × Unit) × (Unit × Unit))) :=
  (g_scan_Scanner_string_going ((), (((some (d.1.1.1, (d.1.1.2.1, d.1.1.2.2.1))), ()), ()))).bind fun x1 =>
  let x2 : Bool := (!x1.2.1.1)
  bif x2 then (
  some (((d.1.1.1, (d.1.1.2.1, (d.1.1.2.2.1, ()))), ()), (((0 : Int), ()), ((), ()))))
  else (
  (g_scan_Scanner_string_rest ((), (((some (d.1.1.1, (d.1.1.2.1, d.1.1.2.2.1))), ()), ()))).bind fun x3 =>
  (g_figures_Take ((), ((x3.2.1.1, ()), ((d.2.2.1.1, ()), ((d.2.2.2.1.1, ()), ()))))).bind fun x4 =>
  let x5 : Bool := (!x4.2.2.2.1.1.isNone)
  bif x5 then (
  some (((d.1.1.1, (d.1.1.2.1, (x4.2.2.2.1.1, ()))), ()), (((0 : Int), ()), ((), ()))))
  else (
  (g_scan_Scanner_string_take_io (((d.1.1.1, (d.1.1.2.1, (d.1.1.2.2.1, ()))), ()), ((), ((x4.2.2.1.1, ()), ())))).bind fun x6 =>
  some (((x6.1.1.1, (x6.1.1.2.1, (x6.1.1.2.2.1, ()))), ()), ((x4.2.1.1, ()), ((), ())))))
def c_scan_Scanner_string_Figures_io : List Nat := []
def L_scan_Scanner_string_Figures_io (_ : Nat) : Pts po_scan_Scanner_string_Figures_io.den := []
def E_scan_Scanner_string_Figures_io : Env := (((((E0.add 125 (ioSem pi_scan_Scanner_string_take_io po_scan_Scanner_string_take_io 1 [(0, 0, none)] g_scan_Scanner_string_take_io)).add 138 (typedSem pi_scan_Scanner_string_going po_scan_Scanner_string_going g_scan_Scanner_string_going)).add 156 (typedSem pi_figures_Take po_figures_Take g_figures_Take)).add 157 (typedSem pi_scan_Scanner_string_rest po_scan_Scanner_string_rest g_scan_Scanner_string_rest)).kp [0])
theorem q_scan_Scanner_string_Figures_io_m (k : Nat) (d : ((ByteArray × (Int × ((Option Int) × Unit))) × Unit) × (Unit × ((Int × Unit) × ((Int × Unit) × Unit)))) : evCode E_scan_Scanner_string_Figures_io (tab (L_scan_Scanner_string_Figures_io k)) c_scan_Scanner_string_Figures_io (bodyOf Try.f121) 0 (finKio E_scan_Scanner_string_Figures_io po_scan_Scanner_string_Figures_io [.tmp 6] [(0, none)]) (startSt pi_scan_Scanner_string_Figures_io 32 d) = f_scan_Scanner_string_Figures_io_m () d := by kernel_rfl
def g_scan_Scanner_string_Figures_io (d : ((ByteArray × (Int × ((Option Int) × Unit))) × Unit) × (Unit × ((Int × Unit) × ((Int × Unit) × Unit)))) : Option (((ByteArray × (Int × ((Option Int) × Unit))) × Unit) × ((Int × Unit) × (Unit × Unit))) := f_scan_Scanner_string_Figures_io_m () d
theorem ok_scan_Scanner_string_Figures_io : FnIo Try.prog ET0 121 pi_scan_Scanner_string_Figures_io po_scan_Scanner_string_Figures_io 1 [(0, 0, none)] g_scan_Scanner_string_Figures_io :=
  fn_of_bodyIo (E := E_scan_Scanner_string_Figures_io) (envOk_kp (envOk_add (envOk_add (envOk_add (envOk_add e0_ok (io_ok ok_scan_Scanner_string_take_io)) (typed_ok ok_scan_Scanner_string_going)) (typed_ok ok_figures_Take)) (typed_ok ok_scan_Scanner_string_rest))) (fn := Try.f121) Try.func121 (by kernel_rfl) (by kernel_rfl) [.tmp 6] [(0, none)] [(0, 0, none)] (by kernel_rfl) (by kernel_rfl) (by kernel_rfl) (by kernel_rfl) (by decide) (by decide) c_scan_Scanner_string_Figures_io L_scan_Scanner_string_Figures_io
    (by intro x hx; cases hx) (by intro k x hx; cases hx) (fun d out h => ⟨0, (q_scan_Scanner_string_Figures_io_m 0 d).trans h⟩)

/- (*horologe/scan.Scanner[string]).Run -/
@[reducible] def pi_scan_Scanner_string_Run_io : PSh := ⟨[.var 159 [.v .str, .v (.int .i64), .v .err]], [.mk false [.ref 0 0], .mk false [.v .str]]⟩
@[reducible] def po_scan_Scanner_string_Run_io : PSh := ⟨[.var 159 [.v .str, .v (.int .i64), .v .err]], [.mk false [.v .str], .mk false [.ref 0 0]]⟩
@[reducible] def TT_scan_Scanner_string_Run_io : Type := (((((ByteArray × (Int × ((Option Int) × Unit))) × Unit) × (Unit × ((ByteArray × Unit) × ((ByteArray × Unit) × ((Int × Unit) × Unit))))) → Option (((ByteArray × (Int × ((Option Int) × Unit))) × Unit) × ((ByteArray × Unit) × (Unit × Unit)))) × Unit)
@[reducible] def sh_scan_Scanner_string_Run_io_4 : PSh := ⟨[.var 159 [.v .str, .v (.int .i64), .v .err]], [.mk false [.ref 0 0], .mk false [.v .str], .any, .any, .any, .mk false [.v .str], .mk false [.v (.int .i64)], .any, .any, .any, .any, .any, .any, .any, .any, .any, .any, .any, .any, .any, .any, .any, .any, .any, .any, .any]⟩
def f_scan_Scanner_string_Run_io_p4 (T : TT_scan_Scanner_string_Run_io) (d : ((ByteArray × (Int × ((Option Int) × Unit))) × Unit) × (Unit × ((ByteArray × Unit) × ((ByteArray × Unit) × ((Int × Unit) × Unit))))) : Option (((ByteArray × (Int × ((Option Int) × Unit))) × Unit) × ((ByteArray × Unit) × (Unit × Unit))) :=
  let x2 : Int := (d.2.2.2.1.1.size : Int)
  let x3 : Bool := (decide (d.2.2.2.2.1.1 < x2))
  bif x3 then (
  bif decide ((0 : Int) ≤ d.2.2.2.2.1.1) && decide (d.2.2.2.2.1.1 < ((d.2.2.2.1.1.size : Int) : Int)) then (
  let x4 : Int := (bt d.2.2.2.1.1 d.2.2.2.2.1.1)
  (g_strings_IndexByte ((), ((d.2.2.1.1, ()), ((x4, ()), ())))).bind fun x5 =>
  let x6 : Bool := (decide (x5.2.1.1 ≥ (0 : Int)))
  bif x6 then (
  let x7 : Int := (iadd .i64 d.2.2.2.2.1.1 (1 : Int))
  (T.1 (((d.1.1.1, (d.1.1.2.1, (d.1.1.2.2.1, ()))), ()), ((), ((d.2.2.1.1, ()), ((d.2.2.2.1.1, ()), ((x7, ()), ())))))))
  else (
  (g_scan_Scanner_string_take_io (((d.1.1.1, (d.1.1.2.1, (d.1.1.2.2.1, ()))), ()), ((), ((d.2.2.2.2.1.1, ()), ())))).bind fun x8 =>
  some (((x8.1.1.1, (x8.1.1.2.1, (x8.1.1.2.2.1, ()))), ()), ((x8.2.1.1, ()), ((), ())))))
  else none)
  else (
  (g_scan_Scanner_string_take_io (((d.1.1.1, (d.1.1.2.1, (d.1.1.2.2.1, ()))), ()), ((), ((d.2.2.2.2.1.1, ()), ())))).bind fun x9 =>
  some (((x9.1.1.1, (x9.1.1.2.1, (x9.1.1.2.2.1, ()))), ()), ((x9.2.1.1, ()), ((), ()))))
def f_scan_Scanner_string_Run_io_t : Nat → TT_scan_Scanner_string_Run_io
  | 0 => (fun _ => none, ())
  | k + 1 => (f_scan_Scanner_string_Run_io_p4 (f_scan_Scanner_string_Run_io_t k), ())
theorem t_scan_Scanner_string_Run_io (k : Nat) : f_scan_Scanner_string_Run_io_t (k + 1) = (f_scan_Scanner_string_Run_io_p4 (f_scan_Scanner_string_Run_io_t k), ()) := rfl
def f_scan_Scanner_string_Run_io_m (T : TT_scan_Scanner_string_Run_io) (d : ((ByteArray × (Int × ((Option Int) × Unit))) × Unit) × (Unit × ((ByteArray × Unit) × Unit))) : Option (((ByteArray × (Int × ((Option Int) × Unit))) × Unit) × ((ByteArray × Unit) × (Unit × Unit))) :=
  (g_scan_Scanner_string_rest ((), (((some (d.1.1.1, (d.1.1.2.1, d.1.1.2.2.1))), ()), ()))).bind fun x1 =>
  (T.1 (((d.1.1.1, (d.1.1.2.1, (d.1.1.2.2.1, ()))), ()), ((), ((d.2.2.1.1, ()), ((x1.2.1.1, ()), (((0 : Int), ()), ()))))))
def c_scan_Scanner_string_Run_io : List Nat := []
def L_scan_Scanner_string_Run_io (k : Nat) : Pts po_scan_Scanner_string_Run_io.den := [(4, ⟨sh_scan_Scanner_string_Run_io_4, (f_scan_Scanner_string_Run_io_t k).1⟩)]
def E_scan_Scanner_string_Run_io : Env := ((((E0.add 83 (typedSem pi_strings_IndexByte po_strings_IndexByte g_strings_IndexByte)).add 125 (ioSem pi_scan_Scanner_string_take_io po_scan_Scanner_string_take_io 1 [(0, 0, none)] g_scan_Scanner_string_take_io)).add 157 (typedSem pi_scan_Scanner_string_rest po_scan_Scanner_string_rest g_scan_Scanner_string_rest)).kp [0])
theorem q_scan_Scanner_string_Run_io_4 (k : Nat) (d : ((ByteArray × (Int × ((Option Int) × Unit))) × Unit) × (Unit × ((ByteArray × Unit) × ((ByteArray × Unit) × ((Int × Unit) × Unit))))) : evAt E_scan_Scanner_string_Run_io (tab (L_scan_Scanner_string_Run_io k)) c_scan_Scanner_string_Run_io 4 (bodyOf Try.f123) 0 (finKio E_scan_Scanner_string_Run_io po_scan_Scanner_string_Run_io [.tmp 4] [(0, none)]) (ptSt sh_scan_Scanner_string_Run_io_4 d) = f_scan_Scanner_string_Run_io_p4 (f_scan_Scanner_string_Run_io_t k) d := by kernel_rfl
theorem q_scan_Scanner_string_Run_io_m (k : Nat) (d : ((ByteArray × (Int × ((Option Int) × Unit))) × Unit) × (Unit × ((ByteArray × Unit) × Unit))) : evCode E_scan_Scanner_string_Run_io (tab (L_scan_Scanner_string_Run_io k)) c_scan_Scanner_string_Run_io (bodyOf Try.f123) 0 (finKio E_scan_Scanner_string_Run_io po_scan_Scanner_string_Run_io [.tmp 4] [(0, none)]) (startSt pi_scan_Scanner_string_Run_io 26 d) = f_scan_Scanner_string_Run_io_m (f_scan_Scanner_string_Run_io_t k) d := by kernel_rfl
theorem go_scan_Scanner_string_Run_io (F : ((ByteArray × (Int × ((Option Int) × Unit))) × Unit) × (Unit × ((ByteArray × Unit) × Unit)) → Option (((ByteArray × (Int × ((Option Int) × Unit))) × Unit) × ((ByteArray × Unit) × (Unit × Unit)))) (hF : ∀ d out, F d = some out → ∃ k, f_scan_Scanner_string_Run_io_m (f_scan_Scanner_string_Run_io_t k) d = some out) : FnIo Try.prog ET0 123 pi_scan_Scanner_string_Run_io po_scan_Scanner_string_Run_io 1 [(0, 0, none)] F :=
  fn_of_bodyIo (E := E_scan_Scanner_string_Run_io) (envOk_kp (envOk_add (envOk_add (envOk_add e0_ok (typed_ok ok_strings_IndexByte)) (io_ok ok_scan_Scanner_string_take_io)) (typed_ok ok_scan_Scanner_string_rest))) (fn := Try.f123) Try.func123 (by kernel_rfl) (by kernel_rfl) [.tmp 4] [(0, none)] [(0, 0, none)] (by kernel_rfl) (by kernel_rfl) (by kernel_rfl) (by kernel_rfl) (by decide) (by decide) c_scan_Scanner_string_Run_io L_scan_Scanner_string_Run_io
    (by intro x hx d; simp only [L_scan_Scanner_string_Run_io, List.mem_cons, List.not_mem_nil, or_false] at hx; subst hx; rfl)
    (by intro k x hx d out h; simp only [L_scan_Scanner_string_Run_io, List.mem_cons, List.not_mem_nil, or_false] at hx; subst hx; exact (q_scan_Scanner_string_Run_io_4 k d).trans h)
    (by intro d out h; obtain ⟨k, hk⟩ := hF d out h; exact ⟨k, (q_scan_Scanner_string_Run_io_m k d).trans hk⟩)
def g_scan_Scanner_string_Run_io (d : ((ByteArray × (Int × ((Option Int) × Unit))) × Unit) × (Unit × ((ByteArray × Unit) × Unit))) : Option (((ByteArray × (Int × ((Option Int) × Unit))) × Unit) × ((ByteArray × Unit) × (Unit × Unit))) := lim fun k => f_scan_Scanner_string_Run_io_m (f_scan_Scanner_string_Run_io_t k) d
theorem ok_scan_Scanner_string_Run_io : FnIo Try.prog ET0 123 pi_scan_Scanner_string_Run_io po_scan_Scanner_string_Run_io 1 [(0, 0, none)] g_scan_Scanner_string_Run_io := go_scan_Scanner_string_Run_io g_scan_Scanner_string_Run_io fun d out h => lim_some h

/- (horologe/mail.reader).year -/
@[reducible] def pi_mail_reader_year_io : PSh := ⟨[.var 159 [.v .str, .v (.int .i64), .v .err]], [.mk true [.ref 0 0, .v .str]]⟩
@[reducible] def po_mail_reader_year_io : PSh := ⟨[.var 159 [.v .str, .v (.int .i64), .v .err]], [.mk false [.v (.int .i64)], .mk false [.ref 0 0]]⟩
def f_mail_reader_year_io_m (T : Unit) (d : ((ByteArray × (Int × ((Option Int) × Unit))) × Unit) × ((ByteArray × Unit) × Unit)) : Option (((ByteArray × (Int × ((Option Int) × Unit))) × Unit) × ((Int × Unit) × (Unit × Unit))) :=
  (g_scan_Scanner_string_Run_io (((d.1.1.1, (d.1.1.2.1, (d.1.1.2.2.1, ()))), ()), ((), (((⟨#[48, 49, 50, 51, 52, 53, 54, 55, 56, 57]⟩ : ByteArray), ()), ())))).bind fun x1 =>
  (g_figures_Whole ((), ((x1.2.1.1, ()), (((2 : Int), ()), (((4 : Int), ()), ()))))).bind fun x2 =>
  let x3 : Bool := (!x2.2.2.1.1.isNone)
  bif x3 then (
  let x4 : (Option Int) := (some (2 : Int))
  (g_scan_Scanner_string_Fail_io (((x1.1.1.1, (x1.1.1.2.1, (x1.1.1.2.2.1, ()))), ()), ((), ((x4, ()), ())))).bind fun x5 =>
  let x6 : Int := (x1.2.1.1.size : Int)
  let x7 : Bool := (x6 == (3 : Int))
  bif x7 then (
  let x8 : Int := (iadd .i64 (1900 : Int) x2.2.1.1)
  some (((x5.1.1.1, (x5.1.1.2.1, (x5.1.1.2.2.1, ()))), ()), ((x8, ()), ((), ()))))
  else (
  let x9 : Int := (x1.2.1.1.size : Int)
  let x10 : Bool := (x9 == (2 : Int))
  bif x10 then (
  let x11 : Bool := (decide (x2.2.1.1 < (50 : Int)))
  bif x11 then (
  let x12 : Int := (iadd .i64 (2000 : Int) x2.2.1.1)
  some (((x5.1.1.1, (x5.1.1.2.1, (x5.1.1.2.2.1, ()))), ()), ((x12, ()), ((), ()))))
  else (
  let x13 : Int := (x1.2.1.1.size : Int)
  let x14 : Bool := (x13 == (2 : Int))
  bif x14 then (
  let x15 : Int := (iadd .i64 (1900 : Int) x2.2.1.1)
  some (((x5.1.1.1, (x5.1.1.2.1, (x5.1.1.2.2.1, ()))), ()), ((x15, ()), ((), ()))))
  else (
  some (((x5.1.1.1, (x5.1.1.2.1, (x5.1.1.2.2.1, ()))), ()), ((x2.2.1.1, ()), ((), ()))))))
  else (
  let x16 : Int := (x1.2.1.1.size : Int)
  let x17 : Bool := (x16 == (2 : Int))
  bif x17 then (
  let x18 : Int := (iadd .i64 (1900 : Int) x2.2.1.1)
  some (((x5.1.1.1, (x5.1.1.2.1, (x5.1.1.2.2.1, ()))), ()), ((x18, ()), ((), ()))))
  else (
  some (((x5.1.1.1, (x5.1.1.2.1, (x5.1.1.2.2.1, ()))), ()), ((x2.2.1.1, ()), ((), ())))))))
  else (
  let x19 : Int := (x1.2.1.1.size : Int)
  let x20 : Bool := (x19 == (3 : Int))
  bif x20 then (
  let x21 : Int := (iadd .i64 (1900 : Int) x2.2.1.1)
  some (((x1.1.1.1, (x1.1.1.2.1, (x1.1.1.2.2.1, ()))), ()), ((x21, ()), ((), ()))))
  else (
  let x22 : Int := (x1.2.1.1.size : Int)
  let x23 : Bool := (x22 == (2 : Int))
  bif x23 then (
  let x24 : Bool := (decide (x2.2.1.1 < (50 : Int)))
  bif x24 then (
  let x25 : Int := (iadd .i64 (2000 : Int) x2.2.1.1)
  some (((x1.1.1.1, (x1.1.1.2.1, (x1.1.1.2.2.1, ()))), ()), ((x25, ()), ((), ()))))
  else (
  let x26 : Int := (x1.2.1.1.size : Int)
  let x27 : Bool := (x26 == (2 : Int))
  bif x27 then (
  let x28 : Int := (iadd .i64 (1900 : Int) x2.2.1.1)
  some (((x1.1.1.1, (x1.1.1.2.1, (x1.1.1.2.2.1, ()))), ()), ((x28, ()), ((), ()))))
  else (
  some (((x1.1.1.1, (x1.1.1.2.1, (x1.1.1.2.2.1, ()))), ()), ((x2.2.1.1, ()), ((), ()))))))
  else (
  let x29 : Int := (x1.2.1.1.size : Int)
  let x30 : Bool := (x29 == (2 : Int))
  bif x30 then (
  let x31 : Int := (iadd .i64 (1900 : Int) x2.2.1.1)
  some (((x1.1.1.1, (x1.1.1.2.1, (x1.1.1.2.2.1, ()))), ()), ((x31, ()), ((), ()))))
  else (
  some (((x1.1.1.1, (x1.1.1.2.1, (x1.1.1.2.2.1, ()))), ()), ((x2.2.1.1, ()), ((), ())))))))
def c_mail_reader_year_io : List Nat := []
def L_mail_reader_year_io (_ : Nat) : Pts po_mail_reader_year_io.den := []
def E_mail_reader_year_io : Env := ((((E0.add 90 (ioSem pi_scan_Scanner_string_Fail_io po_scan_Scanner_string_Fail_io 0 [(0, 0, none)] g_scan_Scanner_string_Fail_io)).add 123 (ioSem pi_scan_Scanner_string_Run_io po_scan_Scanner_string_Run_io 1 [(0, 0, none)] g_scan_Scanner_string_Run_io)).add 161 (typedSem pi_figures_Whole po_figures_Whole g_figures_Whole)).kp [0])
theorem q_mail_reader_year_io_m (k : Nat) (d : ((ByteArray × (Int × ((Option Int) × Unit))) × Unit) × ((ByteArray × Unit) × Unit)) : evCode E_mail_reader_year_io (tab (L_mail_reader_year_io k)) c_mail_reader_year_io (bodyOf Try.f137) 0 (finKio E_mail_reader_year_io po_mail_reader_year_io [.tmp 2] [(0, some 0)]) (startSt pi_mail_reader_year_io 43 d) = f_mail_reader_year_io_m () d := by kernel_rfl
def g_mail_reader_year_io (d : ((ByteArray × (Int × ((Option Int) × Unit))) × Unit) × ((ByteArray × Unit) × Unit)) : Option (((ByteArray × (Int × ((Option Int) × Unit))) × Unit) × ((Int × Unit) × (Unit × Unit))) := f_mail_reader_year_io_m () d
theorem ok_mail_reader_year_io : FnIo Try.prog ET0 137 pi_mail_reader_year_io po_mail_reader_year_io 1 [(0, 0, some 0)] g_mail_reader_year_io :=
  fn_of_bodyIo (E := E_mail_reader_year_io) (envOk_kp (envOk_add (envOk_add (envOk_add e0_ok (io_ok ok_scan_Scanner_string_Fail_io)) (io_ok ok_scan_Scanner_string_Run_io)) (typed_ok ok_figures_Whole))) (fn := Try.f137) Try.func137 (by kernel_rfl) (by kernel_rfl) [.tmp 2] [(0, some 0)] [(0, 0, some 0)] (by kernel_rfl) (by kernel_rfl) (by kernel_rfl) (by kernel_rfl) (by decide) (by decide) c_mail_reader_year_io L_mail_reader_year_io
    (by intro x hx; cases hx) (by intro k x hx; cases hx) (fun d out h => ⟨0, (q_mail_reader_year_io_m 0 d).trans h⟩)

/- (horologe/mail.reader).date -/
@[reducible] def pi_mail_reader_date_io : PSh := ⟨[.var 159 [.v .str, .v (.int .i64), .v .err], .var 30 [.v (.int .i64), .v (.int .i64), .v (.int .i64), .v (.int .i64), .v (.int .i64), .v (.int .i64), .v (.int .i64), .v (.int .i64)]], [.mk true [.ref 0 0, .v .str], .mk false [.ref 1 0]]⟩
@[reducible] def po_mail_reader_date_io : PSh := ⟨[.var 159 [.v .str, .v (.int .i64), .v .err], .var 30 [.v (.int .i64), .v (.int .i64), .v (.int .i64), .v (.int .i64), .v (.int .i64), .v (.int .i64), .v (.int .i64), .v (.int .i64)]], [.mk false [.ref 0 0], .mk false [.ref 1 0]]⟩
def f_mail_reader_date_io_m (T : Unit) (d : ((ByteArray × (Int × ((Option Int) × Unit))) × ((Int × (Int × (Int × (Int × (Int × (Int × (Int × (Int × Unit)))))))) × Unit)) × ((ByteArray × Unit) × (Unit × Unit))) : Option (((ByteArray × (Int × ((Option Int) × Unit))) × ((Int × (Int × (Int × (Int × (Int × (Int × (Int × (Int × Unit)))))))) × Unit)) × (Unit × (Unit × Unit))) :=
  (g_scan_Scanner_string_Figures_io (((d.1.1.1, (d.1.1.2.1, (d.1.1.2.2.1, ()))), ()), ((), (((1 : Int), ()), (((2 : Int), ()), ()))))).bind fun x1 =>
  (g_mail_reader_gap_io (((x1.1.1.1, (x1.1.1.2.1, (x1.1.1.2.2.1, ()))), ()), ((d.2.1.1, ()), ()))).bind fun x2 =>
  (g_mail_reader_one_io (((x2.1.1.1, (x2.1.1.2.1, (x2.1.1.2.2.1, ()))), ()), ((d.2.1.1, ()), (((⟨#[74, 97, 110, 70, 101, 98, 77, 97, 114, 65, 112, 114, 77, 97, 121, 74, 117, 110, 74, 117, 108, 65, 117, 103, 83, 101, 112, 79, 99, 116, 78, 111, 118, 68, 101, 99]⟩ : ByteArray), ()), ())))).bind fun x3 =>
  let x4 : Bool := (x3.2.1.1 == (0 : Int))
  bif x4 then (
  let x5 : (Option Int) := (some (2 : Int))
  (g_scan_Scanner_string_Fail_io (((x3.1.1.1, (x3.1.1.2.1, (x3.1.1.2.2.1, ()))), ()), ((), ((x5, ()), ())))).bind fun x6 =>
  (g_mail_reader_gap_io (((x6.1.1.1, (x6.1.1.2.1, (x6.1.1.2.2.1, ()))), ()), ((d.2.1.1, ()), ()))).bind fun x7 =>
  (g_mail_reader_year_io (((x7.1.1.1, (x7.1.1.2.1, (x7.1.1.2.2.1, ()))), ()), ((d.2.1.1, ()), ()))).bind fun x8 =>
  some (((x8.1.1.1, (x8.1.1.2.1, (x8.1.1.2.2.1, ()))), ((x8.2.1.1, (x3.2.1.1, (x1.2.1.1, (d.1.2.1.2.2.2.1, (d.1.2.1.2.2.2.2.1, (d.1.2.1.2.2.2.2.2.1, (d.1.2.1.2.2.2.2.2.2.1, (d.1.2.1.2.2.2.2.2.2.2.1, ())))))))), ())), ((), ((), ()))))
  else (
  (g_mail_reader_gap_io (((x3.1.1.1, (x3.1.1.2.1, (x3.1.1.2.2.1, ()))), ()), ((d.2.1.1, ()), ()))).bind fun x9 =>
  (g_mail_reader_year_io (((x9.1.1.1, (x9.1.1.2.1, (x9.1.1.2.2.1, ()))), ()), ((d.2.1.1, ()), ()))).bind fun x10 =>
  some (((x10.1.1.1, (x10.1.1.2.1, (x10.1.1.2.2.1, ()))), ((x10.2.1.1, (x3.2.1.1, (x1.2.1.1, (d.1.2.1.2.2.2.1, (d.1.2.1.2.2.2.2.1, (d.1.2.1.2.2.2.2.2.1, (d.1.2.1.2.2.2.2.2.2.1, (d.1.2.1.2.2.2.2.2.2.2.1, ())))))))), ())), ((), ((), ()))))
def c_mail_reader_date_io : List Nat := []
def L_mail_reader_date_io (_ : Nat) : Pts po_mail_reader_date_io.den := []
def E_mail_reader_date_io : Env := ((((((E0.add 87 (ioSem pi_mail_reader_gap_io po_mail_reader_gap_io 1 [(0, 0, some 0)] g_mail_reader_gap_io)).add 90 (ioSem pi_scan_Scanner_string_Fail_io po_scan_Scanner_string_Fail_io 0 [(0, 0, none)] g_scan_Scanner_string_Fail_io)).add 121 (ioSem pi_scan_Scanner_string_Figures_io po_scan_Scanner_string_Figures_io 1 [(0, 0, none)] g_scan_Scanner_string_Figures_io)).add 135 (ioSem pi_mail_reader_one_io po_mail_reader_one_io 1 [(0, 0, some 0)] g_mail_reader_one_io)).add 137 (ioSem pi_mail_reader_year_io po_mail_reader_year_io 1 [(0, 0, some 0)] g_mail_reader_year_io)).kp [0, 1])
theorem q_mail_reader_date_io_m (k : Nat) (d : ((ByteArray × (Int × ((Option Int) × Unit))) × ((Int × (Int × (Int × (Int × (Int × (Int × (Int × (Int × Unit)))))))) × Unit)) × ((ByteArray × Unit) × (Unit × Unit))) : evCode E_mail_reader_date_io (tab (L_mail_reader_date_io k)) c_mail_reader_date_io (bodyOf Try.f89) 0 (finKio E_mail_reader_date_io po_mail_reader_date_io [] [(0, some 0), (1, none)]) (startSt pi_mail_reader_date_io 33 d) = f_mail_reader_date_io_m () d := by kernel_rfl
def g_mail_reader_date_io (d : ((ByteArray × (Int × ((Option Int) × Unit))) × ((Int × (Int × (Int × (Int × (Int × (Int × (Int × (Int × Unit)))))))) × Unit)) × ((ByteArray × Unit) × (Unit × Unit))) : Option (((ByteArray × (Int × ((Option Int) × Unit))) × ((Int × (Int × (Int × (Int × (Int × (Int × (Int × (Int × Unit)))))))) × Unit)) × (Unit × (Unit × Unit))) := f_mail_reader_date_io_m () d
theorem ok_mail_reader_date_io : FnIo Try.prog ET0 89 pi_mail_reader_date_io po_mail_reader_date_io 0 [(0, 0, some 0), (1, 1, none)] g_mail_reader_date_io :=
  fn_of_bodyIo (E := E_mail_reader_date_io) (envOk_kp (envOk_add (envOk_add (envOk_add (envOk_add (envOk_add e0_ok (io_ok ok_mail_reader_gap_io)) (io_ok ok_scan_Scanner_string_Fail_io)) (io_ok ok_scan_Scanner_string_Figures_io)) (io_ok ok_mail_reader_one_io)) (io_ok ok_mail_reader_year_io))) (fn := Try.f89) Try.func89 (by kernel_rfl) (by kernel_rfl) [] [(0, some 0), (1, none)] [(0, 0, some 0), (1, 1, none)] (by kernel_rfl) (by kernel_rfl) (by kernel_rfl) (by kernel_rfl) (by decide) (by decide) c_mail_reader_date_io L_mail_reader_date_io
    (by intro x hx; cases hx) (by intro k x hx; cases hx) (fun d out h => ⟨0, (q_mail_reader_date_io_m 0 d).trans h⟩)

/- (*horologe/scan.Scanner[string]).Take -/
@[reducible] def pi_scan_Scanner_string_Take_io : PSh := ⟨[.var 159 [.v .str, .v (.int .i64), .v .err]], [.mk false [.ref 0 0], .mk false [.v (.int .u8)]]⟩
@[reducible] def po_scan_Scanner_string_Take_io : PSh := ⟨[.var 159 [.v .str, .v (.int .i64), .v .err]], [.mk false [.v .bool], .mk false [.ref 0 0]]⟩
def f_scan_Scanner_string_Take_io_m (T : Unit) (d : ((ByteArray × (Int × ((Option Int) × Unit))) × Unit) × (Unit × ((Int × Unit) × Unit))) : Option (((ByteArray × (Int × ((Option Int) × Unit))) × Unit) × ((Bool × Unit) × (Unit × Unit))) :=
  (g_scan_Scanner_string_Peek ((), (((some (d.1.1.1, (d.1.1.2.1, d.1.1.2.2.1))), ()), ()))).bind fun x1 =>
  let x2 : Bool := (!x1.2.2.1.1)
  bif x2 then (
  some (((d.1.1.1, (d.1.1.2.1, (d.1.1.2.2.1, ()))), ()), ((false, ()), ((), ()))))
  else (
  let x3 : Bool := (x1.2.1.1 != d.2.2.1.1)
  bif x3 then (
  some (((d.1.1.1, (d.1.1.2.1, (d.1.1.2.2.1, ()))), ()), ((false, ()), ((), ()))))
  else (
  (g_scan_Scanner_string_take_io (((d.1.1.1, (d.1.1.2.1, (d.1.1.2.2.1, ()))), ()), ((), (((1 : Int), ()), ())))).bind fun x4 =>
  some (((x4.1.1.1, (x4.1.1.2.1, (x4.1.1.2.2.1, ()))), ()), ((true, ()), ((), ())))))
def c_scan_Scanner_string_Take_io : List Nat := []
def L_scan_Scanner_string_Take_io (_ : Nat) : Pts po_scan_Scanner_string_Take_io.den := []
def E_scan_Scanner_string_Take_io : Env := (((E0.add 124 (typedSem pi_scan_Scanner_string_Peek po_scan_Scanner_string_Peek g_scan_Scanner_string_Peek)).add 125 (ioSem pi_scan_Scanner_string_take_io po_scan_Scanner_string_take_io 1 [(0, 0, none)] g_scan_Scanner_string_take_io)).kp [0])
theorem q_scan_Scanner_string_Take_io_m (k : Nat) (d : ((ByteArray × (Int × ((Option Int) × Unit))) × Unit) × (Unit × ((Int × Unit) × Unit))) : evCode E_scan_Scanner_string_Take_io (tab (L_scan_Scanner_string_Take_io k)) c_scan_Scanner_string_Take_io (bodyOf Try.f70) 0 (finKio E_scan_Scanner_string_Take_io po_scan_Scanner_string_Take_io [.tmp 4] [(0, none)]) (startSt pi_scan_Scanner_string_Take_io 21 d) = f_scan_Scanner_string_Take_io_m () d := by kernel_rfl
def g_scan_Scanner_string_Take_io (d : ((ByteArray × (Int × ((Option Int) × Unit))) × Unit) × (Unit × ((Int × Unit) × Unit))) : Option (((ByteArray × (Int × ((Option Int) × Unit))) × Unit) × ((Bool × Unit) × (Unit × Unit))) := f_scan_Scanner_string_Take_io_m () d
theorem ok_scan_Scanner_string_Take_io : FnIo Try.prog ET0 70 pi_scan_Scanner_string_Take_io po_scan_Scanner_string_Take_io 1 [(0, 0, none)] g_scan_Scanner_string_Take_io :=
  fn_of_bodyIo (E := E_scan_Scanner_string_Take_io) (envOk_kp (envOk_add (envOk_add e0_ok (typed_ok ok_scan_Scanner_string_Peek)) (io_ok ok_scan_Scanner_string_take_io))) (fn := Try.f70) Try.func70 (by kernel_rfl) (by kernel_rfl) [.tmp 4] [(0, none)] [(0, 0, none)] (by kernel_rfl) (by kernel_rfl) (by kernel_rfl) (by kernel_rfl) (by decide) (by decide) c_scan_Scanner_string_Take_io L_scan_Scanner_string_Take_io
    (by intro x hx; cases hx) (by intro k x hx; cases hx) (fun d out h => ⟨0, (q_scan_Scanner_string_Take_io_m 0 d).trans h⟩)

/- (horologe/mail.reader).clock -/
@[reducible] def pi_mail_reader_clock_io : PSh := ⟨[.var 159 [.v .str, .v (.int .i64), .v .err], .var 30 [.v (.int .i64), .v (.int .i64), .v (.int .i64), .v (.int .i64), .v (.int .i64), .v (.int .i64), .v (.int .i64), .v (.int .i64)]], [.mk true [.ref 0 0, .v .str], .mk false [.ref 1 0]]⟩
@[reducible] def po_mail_reader_clock_io : PSh := ⟨[.var 159 [.v .str, .v (.int .i64), .v .err], .var 30 [.v (.int .i64), .v (.int .i64), .v (.int .i64), .v (.int .i64), .v (.int .i64), .v (.int .i64), .v (.int .i64), .v (.int .i64)]], [.mk false [.ref 0 0], .mk false [.ref 1 0]]⟩
def f_mail_reader_clock_io_m (T : Unit) (d : ((ByteArray × (Int × ((Option Int) × Unit))) × ((Int × (Int × (Int × (Int × (Int × (Int × (Int × (Int × Unit)))))))) × Unit)) × ((ByteArray × Unit) × (Unit × Unit))) : Option (((ByteArray × (Int × ((Option Int) × Unit))) × ((Int × (Int × (Int × (Int × (Int × (Int × (Int × (Int × Unit)))))))) × Unit)) × (Unit × (Unit × Unit))) :=
  (g_scan_Scanner_string_Figures_io (((d.1.1.1, (d.1.1.2.1, (d.1.1.2.2.1, ()))), ()), ((), (((2 : Int), ()), (((2 : Int), ()), ()))))).bind fun x1 =>
  (g_mail_reader_gap_io (((x1.1.1.1, (x1.1.1.2.1, (x1.1.1.2.2.1, ()))), ()), ((d.2.1.1, ()), ()))).bind fun x2 =>
  (g_scan_Scanner_string_Must_io (((x2.1.1.1, (x2.1.1.2.1, (x2.1.1.2.2.1, ()))), ()), ((), (((⟨#[58]⟩ : ByteArray), ()), ())))).bind fun x3 =>
  (g_mail_reader_gap_io (((x3.1.1.1, (x3.1.1.2.1, (x3.1.1.2.2.1, ()))), ()), ((d.2.1.1, ()), ()))).bind fun x4 =>
  (g_scan_Scanner_string_Figures_io (((x4.1.1.1, (x4.1.1.2.1, (x4.1.1.2.2.1, ()))), ()), ((), (((2 : Int), ()), (((2 : Int), ()), ()))))).bind fun x5 =>
  (g_mail_reader_gap_io (((x5.1.1.1, (x5.1.1.2.1, (x5.1.1.2.2.1, ()))), ()), ((d.2.1.1, ()), ()))).bind fun x6 =>
  (g_scan_Scanner_string_Take_io (((x6.1.1.1, (x6.1.1.2.1, (x6.1.1.2.2.1, ()))), ()), ((), (((58 : Int), ()), ())))).bind fun x7 =>
  bif x7.2.1.1 then (
  (g_mail_reader_gap_io (((x7.1.1.1, (x7.1.1.2.1, (x7.1.1.2.2.1, ()))), ()), ((d.2.1.1, ()), ()))).bind fun x8 =>
  (g_scan_Scanner_string_Figures_io (((x8.1.1.1, (x8.1.1.2.1, (x8.1.1.2.2.1, ()))), ()), ((), (((2 : Int), ()), (((2 : Int), ()), ()))))).bind fun x9 =>
  (g_mail_reader_gap_io (((x9.1.1.1, (x9.1.1.2.1, (x9.1.1.2.2.1, ()))), ()), ((d.2.1.1, ()), ()))).bind fun x10 =>
  some (((x10.1.1.1, (x10.1.1.2.1, (x10.1.1.2.2.1, ()))), ((d.1.2.1.1, (d.1.2.1.2.1, (d.1.2.1.2.2.1, (x1.2.1.1, (x5.2.1.1, (x9.2.1.1, (d.1.2.1.2.2.2.2.2.2.1, (d.1.2.1.2.2.2.2.2.2.2.1, ())))))))), ())), ((), ((), ()))))
  else (
  some (((x7.1.1.1, (x7.1.1.2.1, (x7.1.1.2.2.1, ()))), ((d.1.2.1.1, (d.1.2.1.2.1, (d.1.2.1.2.2.1, (x1.2.1.1, (x5.2.1.1, (d.1.2.1.2.2.2.2.2.1, (d.1.2.1.2.2.2.2.2.2.1, (d.1.2.1.2.2.2.2.2.2.2.1, ())))))))), ())), ((), ((), ()))))
def c_mail_reader_clock_io : List Nat := []
def L_mail_reader_clock_io (_ : Nat) : Pts po_mail_reader_clock_io.den := []
def E_mail_reader_clock_io : Env := (((((E0.add 70 (ioSem pi_scan_Scanner_string_Take_io po_scan_Scanner_string_Take_io 1 [(0, 0, none)] g_scan_Scanner_string_Take_io)).add 87 (ioSem pi_mail_reader_gap_io po_mail_reader_gap_io 1 [(0, 0, some 0)] g_mail_reader_gap_io)).add 121 (ioSem pi_scan_Scanner_string_Figures_io po_scan_Scanner_string_Figures_io 1 [(0, 0, none)] g_scan_Scanner_string_Figures_io)).add 136 (ioSem pi_scan_Scanner_string_Must_io po_scan_Scanner_string_Must_io 0 [(0, 0, none)] g_scan_Scanner_string_Must_io)).kp [0, 1])
theorem q_mail_reader_clock_io_m (k : Nat) (d : ((ByteArray × (Int × ((Option Int) × Unit))) × ((Int × (Int × (Int × (Int × (Int × (Int × (Int × (Int × Unit)))))))) × Unit)) × ((ByteArray × Unit) × (Unit × Unit))) : evCode E_mail_reader_clock_io (tab (L_mail_reader_clock_io k)) c_mail_reader_clock_io (bodyOf Try.f91) 0 (finKio E_mail_reader_clock_io po_mail_reader_clock_io [] [(0, some 0), (1, none)]) (startSt pi_mail_reader_clock_io 38 d) = f_mail_reader_clock_io_m () d := by kernel_rfl
def g_mail_reader_clock_io (d : ((ByteArray × (Int × ((Option Int) × Unit))) × ((Int × (Int × (Int × (Int × (Int × (Int × (Int × (Int × Unit)))))))) × Unit)) × ((ByteArray × Unit) × (Unit × Unit))) : Option (((ByteArray × (Int × ((Option Int) × Unit))) × ((Int × (Int × (Int × (Int × (Int × (Int × (Int × (Int × Unit)))))))) × Unit)) × (Unit × (Unit × Unit))) := f_mail_reader_clock_io_m () d
theorem ok_mail_reader_clock_io : FnIo Try.prog ET0 91 pi_mail_reader_clock_io po_mail_reader_clock_io 0 [(0, 0, some 0), (1, 1, none)] g_mail_reader_clock_io :=
  fn_of_bodyIo (E := E_mail_reader_clock_io) (envOk_kp (envOk_add (envOk_add (envOk_add (envOk_add e0_ok (io_ok ok_scan_Scanner_string_Take_io)) (io_ok ok_mail_reader_gap_io)) (io_ok ok_scan_Scanner_string_Figures_io)) (io_ok ok_scan_Scanner_string_Must_io))) (fn := Try.f91) Try.func91 (by kernel_rfl) (by kernel_rfl) [] [(0, some 0), (1, none)] [(0, 0, some 0), (1, 1, none)] (by kernel_rfl) (by kernel_rfl) (by kernel_rfl) (by kernel_rfl) (by decide) (by decide) c_mail_reader_clock_io L_mail_reader_clock_io
    (by intro x hx; cases hx) (by intro k x hx; cases hx) (fun d out h => ⟨0, (q_mail_reader_clock_io_m 0 d).trans h⟩)

/- (horologe/mail.reader).zone -/
@[reducible] def pi_mail_reader_zone_io : PSh := ⟨[.var 159 [.v .str, .v (.int .i64), .v .err]], [.mk true [.ref 0 0, .v .str]]⟩
@[reducible] def po_mail_reader_zone_io : PSh := ⟨[.var 159 [.v .str, .v (.int .i64), .v .err]], [.mk false [.v (.int .i64)], .mk false [.v .bool], .mk false [.ref 0 0]]⟩
def f_mail_reader_zone_io_m (T : Unit) (d : ((ByteArray × (Int × ((Option Int) × Unit))) × Unit) × ((ByteArray × Unit) × Unit)) : Option (((ByteArray × (Int × ((Option Int) × Unit))) × Unit) × ((Int × Unit) × ((Bool × Unit) × (Unit × Unit)))) :=
  (g_scan_Scanner_string_Take_io (((d.1.1.1, (d.1.1.2.1, (d.1.1.2.2.1, ()))), ()), ((), (((45 : Int), ()), ())))).bind fun x1 =>
  let x2 : Bool := (!x1.2.1.1)
  bif x2 then (
  (g_scan_Scanner_string_Take_io (((x1.1.1.1, (x1.1.1.2.1, (x1.1.1.2.2.1, ()))), ()), ((), (((43 : Int), ()), ())))).bind fun x3 =>
  let x4 : Bool := (!x3.2.1.1)
  bif x4 then (
  (g_scan_Scanner_string_Run_io (((x3.1.1.1, (x3.1.1.2.1, (x3.1.1.2.2.1, ()))), ()), ((), (((⟨#[65, 66, 67, 68, 69, 70, 71, 72, 73, 74, 75, 76, 77, 78, 79, 80, 81, 82, 83, 84, 85, 86, 87, 88, 89, 90, 97, 98, 99, 100, 101, 102, 103, 104, 105, 106, 107, 108, 109, 110, 111, 112, 113, 114, 115, 116, 117, 118, 119, 120, 121, 122]⟩ : ByteArray), ()), ())))).bind fun x5 =>
  (g_mail_Zone ((), ((x5.2.1.1, ()), ()))).bind fun x6 =>
  let x7 : Bool := (!x6.2.2.1.1)
  bif x7 then (
  let x8 : (Option Int) := (some (2 : Int))
  (g_scan_Scanner_string_Fail_io (((x5.1.1.1, (x5.1.1.2.1, (x5.1.1.2.2.1, ()))), ()), ((), ((x8, ()), ())))).bind fun x9 =>
  some (((x9.1.1.1, (x9.1.1.2.1, (x9.1.1.2.2.1, ()))), ()), ((x6.2.1.1, ()), ((true, ()), ((), ())))))
  else (
  some (((x5.1.1.1, (x5.1.1.2.1, (x5.1.1.2.2.1, ()))), ()), ((x6.2.1.1, ()), ((true, ()), ((), ()))))))
  else (
  (g_scan_Scanner_string_Figures_io (((x3.1.1.1, (x3.1.1.2.1, (x3.1.1.2.2.1, ()))), ()), ((), (((2 : Int), ()), (((2 : Int), ()), ()))))).bind fun x10 =>
  (g_scan_Scanner_string_Figures_io (((x10.1.1.1, (x10.1.1.2.1, (x10.1.1.2.2.1, ()))), ()), ((), (((2 : Int), ()), (((2 : Int), ()), ()))))).bind fun x11 =>
  let x12 : Int := (imul .i64 x10.2.1.1 (60 : Int))
  let x13 : Int := (iadd .i64 x12 x11.2.1.1)
  bif x1.2.1.1 then (
  let x14 : Int := (ineg .i64 x13)
  let x15 : Bool := (decide (x10.2.1.1 < (24 : Int)))
  bif x15 then (
  let x16 : Bool := (decide (x11.2.1.1 < (60 : Int)))
  some (((x11.1.1.1, (x11.1.1.2.1, (x11.1.1.2.2.1, ()))), ()), ((x14, ()), ((x16, ()), ((), ())))))
  else (
  some (((x11.1.1.1, (x11.1.1.2.1, (x11.1.1.2.2.1, ()))), ()), ((x14, ()), ((false, ()), ((), ()))))))
  else (
  let x17 : Bool := (decide (x10.2.1.1 < (24 : Int)))
  bif x17 then (
  let x18 : Bool := (decide (x11.2.1.1 < (60 : Int)))
  some (((x11.1.1.1, (x11.1.1.2.1, (x11.1.1.2.2.1, ()))), ()), ((x13, ()), ((x18, ()), ((), ())))))
  else (
  some (((x11.1.1.1, (x11.1.1.2.1, (x11.1.1.2.2.1, ()))), ()), ((x13, ()), ((false, ()), ((), ()))))))))
  else (
  (g_scan_Scanner_string_Figures_io (((x1.1.1.1, (x1.1.1.2.1, (x1.1.1.2.2.1, ()))), ()), ((), (((2 : Int), ()), (((2 : Int), ()), ()))))).bind fun x19 =>
  (g_scan_Scanner_string_Figures_io (((x19.1.1.1, (x19.1.1.2.1, (x19.1.1.2.2.1, ()))), ()), ((), (((2 : Int), ()), (((2 : Int), ()), ()))))).bind fun x20 =>
  let x21 : Int := (imul .i64 x19.2.1.1 (60 : Int))
  let x22 : Int := (iadd .i64 x21 x20.2.1.1)
  bif x1.2.1.1 then (
  let x23 : Int := (ineg .i64 x22)
  let x24 : Bool := (decide (x19.2.1.1 < (24 : Int)))
  bif x24 then (
  let x25 : Bool := (decide (x20.2.1.1 < (60 : Int)))
  some (((x20.1.1.1, (x20.1.1.2.1, (x20.1.1.2.2.1, ()))), ()), ((x23, ()), ((x25, ()), ((), ())))))
  else (
  some (((x20.1.1.1, (x20.1.1.2.1, (x20.1.1.2.2.1, ()))), ()), ((x23, ()), ((false, ()), ((), ()))))))
  else (
  let x26 : Bool := (decide (x19.2.1.1 < (24 : Int)))
  bif x26 then (
  let x27 : Bool := (decide (x20.2.1.1 < (60 : Int)))
  some (((x20.1.1.1, (x20.1.1.2.1, (x20.1.1.2.2.1, ()))), ()), ((x22, ()), ((x27, ()), ((), ())))))
  else (
  some (((x20.1.1.1, (x20.1.1.2.1, (x20.1.1.2.2.1, ()))), ()), ((x22, ()), ((false, ()), ((), ())))))))
def c_mail_reader_zone_io : List Nat := []
def L_mail_reader_zone_io (_ : Nat) : Pts po_mail_reader_zone_io.den := []
def E_mail_reader_zone_io : Env := ((((((E0.add 32 (typedSem pi_mail_Zone po_mail_Zone g_mail_Zone)).add 70 (ioSem pi_scan_Scanner_string_Take_io po_scan_Scanner_string_Take_io 1 [(0, 0, none)] g_scan_Scanner_string_Take_io)).add 90 (ioSem pi_scan_Scanner_string_Fail_io po_scan_Scanner_string_Fail_io 0 [(0, 0, none)] g_scan_Scanner_string_Fail_io)).add 121 (ioSem pi_scan_Scanner_string_Figures_io po_scan_Scanner_string_Figures_io 1 [(0, 0, none)] g_scan_Scanner_string_Figures_io)).add 123 (ioSem pi_scan_Scanner_string_Run_io po_scan_Scanner_string_Run_io 1 [(0, 0, none)] g_scan_Scanner_string_Run_io)).kp [0])
theorem q_mail_reader_zone_io_m (k : Nat) (d : ((ByteArray × (Int × ((Option Int) × Unit))) × Unit) × ((ByteArray × Unit) × Unit)) : evCode E_mail_reader_zone_io (tab (L_mail_reader_zone_io k)) c_mail_reader_zone_io (bodyOf Try.f92) 0 (finKio E_mail_reader_zone_io po_mail_reader_zone_io [.tmp 2, .tmp 3] [(0, some 0)]) (startSt pi_mail_reader_zone_io 55 d) = f_mail_reader_zone_io_m () d := by kernel_rfl
def g_mail_reader_zone_io (d : ((ByteArray × (Int × ((Option Int) × Unit))) × Unit) × ((ByteArray × Unit) × Unit)) : Option (((ByteArray × (Int × ((Option Int) × Unit))) × Unit) × ((Int × Unit) × ((Bool × Unit) × (Unit × Unit)))) := f_mail_reader_zone_io_m () d
theorem ok_mail_reader_zone_io : FnIo Try.prog ET0 92 pi_mail_reader_zone_io po_mail_reader_zone_io 2 [(0, 0, some 0)] g_mail_reader_zone_io :=
  fn_of_bodyIo (E := E_mail_reader_zone_io) (envOk_kp (envOk_add (envOk_add (envOk_add (envOk_add (envOk_add e0_ok (typed_ok ok_mail_Zone)) (io_ok ok_scan_Scanner_string_Take_io)) (io_ok ok_scan_Scanner_string_Fail_io)) (io_ok ok_scan_Scanner_string_Figures_io)) (io_ok ok_scan_Scanner_string_Run_io))) (fn := Try.f92) Try.func92 (by kernel_rfl) (by kernel_rfl) [.tmp 2, .tmp 3] [(0, some 0)] [(0, 0, some 0)] (by kernel_rfl) (by kernel_rfl) (by kernel_rfl) (by kernel_rfl) (by decide) (by decide) c_mail_reader_zone_io L_mail_reader_zone_io
    (by intro x hx; cases hx) (by intro k x hx; cases hx) (fun d out h => ⟨0, (q_mail_reader_zone_io_m 0 d).trans h⟩)

/- horologe/mail.Parse -/
@[reducible] def pi_mail_Parse : PSh := ⟨[], [.mk false [.v .str]]⟩
@[reducible] def po_mail_Parse : PSh := ⟨[], [.mk true [.v (.int .i64), .v (.int .i64), .v (.int .i64), .v (.int .i64), .v (.int .i64), .v (.int .i64), .v (.int .i64), .v (.int .i64)], .mk false [.v .err]]⟩
@[reducible] def TT_mail_Parse : Type := (((((Int × (Int × (Int × (Int × (Int × (Int × (Int × (Int × Unit)))))))) × ((ByteArray × Unit) × ((ByteArray × (Int × ((Option Int) × Unit))) × ((Int × (Int × (Int × (Int × (Int × (Int × (Int × (Int × Unit)))))))) × Unit)))) × (Unit × (Unit × (Unit × ((Int × Unit) × Unit))))) → Option (Unit × ((Int × (Int × (Int × (Int × (Int × (Int × (Int × (Int × Unit)))))))) × (((Option Int) × Unit) × Unit)))) × Unit)
@[reducible] def sh_mail_Parse_6 : PSh := ⟨[.var 30 [.v (.int .i64), .v (.int .i64), .v (.int .i64), .v (.int .i64), .v (.int .i64), .v (.int .i64), .v (.int .i64), .v (.int .i64)], .var 133 [.ref 2 0, .v .str], .var 159 [.v .str, .v (.int .i64), .v .err], .var 30 [.v (.int .i64), .v (.int .i64), .v (.int .i64), .v (.int .i64), .v (.int .i64), .v (.int .i64), .v (.int .i64), .v (.int .i64)]], [.any, .any, .mk false [.ref 0 0], .any, .mk false [.ref 1 0], .mk false [.ref 3 0], .mk false [.v (.int .i64)], .any, .any, .any, .any, .any, .any, .any, .any, .any, .any, .any, .any, .any, .any, .any, .any, .any, .any, .any, .any, .any, .any, .any, .any, .any, .any, .any, .any, .any, .any, .any, .any, .any, .any, .any, .any, .any, .any, .any, .any, .any, .any, .any, .any, .any, .any, .any, .any, .any, .any, .any, .any, .any, .any, .any, .any, .any, .any, .any, .any, .any, .any, .any, .any, .any, .any, .any, .any, .any, .any, .any, .any, .any, .any, .any, .any, .any, .any]⟩
def f_mail_Parse_p6 (T : TT_mail_Parse) (d : ((Int × (Int × (Int × (Int × (Int × (Int × (Int × (Int × Unit)))))))) × ((ByteArray × Unit) × ((ByteArray × (Int × ((Option Int) × Unit))) × ((Int × (Int × (Int × (Int × (Int × (Int × (Int × (Int × Unit)))))))) × Unit)))) × (Unit × (Unit × (Unit × ((Int × Unit) × Unit))))) : Option (Unit × ((Int × (Int × (Int × (Int × (Int × (Int × (Int × (Int × Unit)))))))) × (((Option Int) × Unit) × Unit))) :=
  (g_mail_reader_clock_io (((d.1.2.2.1.1, (d.1.2.2.1.2.1, (d.1.2.2.1.2.2.1, ()))), ((d.1.2.2.2.1.1, (d.1.2.2.2.1.2.1, (d.1.2.2.2.1.2.2.1, (d.1.2.2.2.1.2.2.2.1, (d.1.2.2.2.1.2.2.2.2.1, (d.1.2.2.2.1.2.2.2.2.2.1, (d.1.2.2.2.1.2.2.2.2.2.2.1, (d.1.2.2.2.1.2.2.2.2.2.2.2.1, ())))))))), ())), ((d.1.2.1.1, ()), ((), ())))).bind fun x9 =>
  (g_mail_reader_zone_io (((x9.1.1.1, (x9.1.1.2.1, (x9.1.1.2.2.1, ()))), ()), ((d.1.2.1.1, ()), ()))).bind fun x10 =>
  (g_mail_reader_gap_io (((x10.1.1.1, (x10.1.1.2.1, (x10.1.1.2.2.1, ()))), ()), ((d.1.2.1.1, ()), ()))).bind fun x11 =>
  (g_scan_Scanner_string_End ((), (((some (x11.1.1.1, (x11.1.1.2.1, x11.1.1.2.2.1))), ()), ()))).bind fun x12 =>
  let x13 : Bool := (!x12.2.1.1.isNone)
  bif x13 then (
  let x14 : (Option Int) := (some (2 : Int))
  some ((), (((0 : Int), ((0 : Int), ((0 : Int), ((0 : Int), ((0 : Int), ((0 : Int), ((0 : Int), ((0 : Int), ())))))))), ((x14, ()), ()))))
  else (
  let x15 : Bool := (!x10.2.2.1.1)
  bif x15 then (
  let x16 : (Option Int) := (some (1 : Int))
  some ((), (((0 : Int), ((0 : Int), ((0 : Int), ((0 : Int), ((0 : Int), ((0 : Int), ((0 : Int), ((0 : Int), ())))))))), ((x16, ()), ()))))
  else (
  let x17 : Bool := (decide (x9.1.2.1.1 < (1900 : Int)))
  bif x17 then (
  let x18 : (Option Int) := (some (13 : Int))
  some ((), (((0 : Int), ((0 : Int), ((0 : Int), ((0 : Int), ((0 : Int), ((0 : Int), ((0 : Int), ((0 : Int), ())))))))), ((x18, ()), ()))))
  else (
  (g_label_Check ((), ((x9.1.2.1.1, (x9.1.2.1.2.1, (x9.1.2.1.2.2.1, (x9.1.2.1.2.2.2.1, (x9.1.2.1.2.2.2.2.1, (x9.1.2.1.2.2.2.2.2.1, (x9.1.2.1.2.2.2.2.2.2.1, (x10.2.1.1, ())))))))), ()))).bind fun x19 =>
  let x20 : Bool := (!x19.2.1.1.isNone)
  bif x20 then (
  some ((), (((0 : Int), ((0 : Int), ((0 : Int), ((0 : Int), ((0 : Int), ((0 : Int), ((0 : Int), ((0 : Int), ())))))))), ((x19.2.1.1, ()), ()))))
  else (
  (g_mail_weekday ((), ((x9.1.2.1.1, (x9.1.2.1.2.1, (x9.1.2.1.2.2.1, (x9.1.2.1.2.2.2.1, (x9.1.2.1.2.2.2.2.1, (x9.1.2.1.2.2.2.2.2.1, (x9.1.2.1.2.2.2.2.2.2.1, (x10.2.1.1, ())))))))), ()))).bind fun x21 =>
  let x22 : Bool := (!x21.2.2.1.1.isNone)
  bif x22 then (
  some ((), (((0 : Int), ((0 : Int), ((0 : Int), ((0 : Int), ((0 : Int), ((0 : Int), ((0 : Int), ((0 : Int), ())))))))), ((x21.2.2.1.1, ()), ()))))
  else (
  let x23 : Bool := (d.2.2.2.2.1.1 != (0 : Int))
  bif x23 then (
  let x24 : Bool := (d.2.2.2.2.1.1 != x21.2.1.1)
  bif x24 then (
  let x25 : (Option Int) := (some (1 : Int))
  some ((), (((0 : Int), ((0 : Int), ((0 : Int), ((0 : Int), ((0 : Int), ((0 : Int), ((0 : Int), ((0 : Int), ())))))))), ((x25, ()), ()))))
  else (
  some ((), ((x9.1.2.1.1, (x9.1.2.1.2.1, (x9.1.2.1.2.2.1, (x9.1.2.1.2.2.2.1, (x9.1.2.1.2.2.2.2.1, (x9.1.2.1.2.2.2.2.2.1, (x9.1.2.1.2.2.2.2.2.2.1, (x10.2.1.1, ())))))))), (((none : Option Int), ()), ())))))
  else (
  some ((), ((x9.1.2.1.1, (x9.1.2.1.2.1, (x9.1.2.1.2.2.1, (x9.1.2.1.2.2.2.1, (x9.1.2.1.2.2.2.2.1, (x9.1.2.1.2.2.2.2.2.1, (x9.1.2.1.2.2.2.2.2.2.1, (x10.2.1.1, ())))))))), (((none : Option Int), ()), ())))))))))
def f_mail_Parse_t : Nat → TT_mail_Parse
  | 0 => (fun _ => none, ())
  | k + 1 => (f_mail_Parse_p6 (f_mail_Parse_t k), ())
theorem t_mail_Parse (k : Nat) : f_mail_Parse_t (k + 1) = (f_mail_Parse_p6 (f_mail_Parse_t k), ()) := rfl
def f_mail_Parse_m (T : TT_mail_Parse) (d : Unit × ((ByteArray × Unit) × Unit)) : Option (Unit × ((Int × (Int × (Int × (Int × (Int × (Int × (Int × (Int × Unit)))))))) × (((Option Int) × Unit) × Unit))) :=
  (g_scan_New_string ((), ((d.2.1.1, ()), ()))).bind fun x1 =>
  (g_mail_reader_gap_io (((x1.1.1.1, (x1.1.1.2.1, (x1.1.1.2.2.1, ()))), ()), ((d.2.1.1, ()), ()))).bind fun x2 =>
  (g_mail_reader_weekday_io (((x2.1.1.1, (x2.1.1.2.1, (x2.1.1.2.2.1, ()))), ()), ((d.2.1.1, ()), ()))).bind fun x3 =>
  (g_mail_reader_date_io (((x3.1.1.1, (x3.1.1.2.1, (x3.1.1.2.2.1, ()))), (((0 : Int), ((0 : Int), ((0 : Int), ((0 : Int), ((0 : Int), ((0 : Int), ((0 : Int), ((0 : Int), ())))))))), ())), ((d.2.1.1, ()), ((), ())))).bind fun x4 =>
  (g_mail_reader_gap_io (((x4.1.1.1, (x4.1.1.2.1, (x4.1.1.2.2.1, ()))), ()), ((d.2.1.1, ()), ()))).bind fun x5 =>
  let x6 : Bool := (!x5.2.1.1)
  bif x6 then (
  let x7 : (Option Int) := (some (2 : Int))
  (g_scan_Scanner_string_Fail_io (((x5.1.1.1, (x5.1.1.2.1, (x5.1.1.2.2.1, ()))), ()), ((), ((x7, ()), ())))).bind fun x8 =>
  (T.1 ((((0 : Int), ((0 : Int), ((0 : Int), ((0 : Int), ((0 : Int), ((0 : Int), ((0 : Int), ((0 : Int), ())))))))), ((d.2.1.1, ()), ((x8.1.1.1, (x8.1.1.2.1, (x8.1.1.2.2.1, ()))), ((x4.1.2.1.1, (x4.1.2.1.2.1, (x4.1.2.1.2.2.1, (x4.1.2.1.2.2.2.1, (x4.1.2.1.2.2.2.2.1, (x4.1.2.1.2.2.2.2.2.1, (x4.1.2.1.2.2.2.2.2.2.1, (x4.1.2.1.2.2.2.2.2.2.2.1, ())))))))), ())))), ((), ((), ((), ((x3.2.1.1, ()), ())))))))
  else (
  (T.1 ((((0 : Int), ((0 : Int), ((0 : Int), ((0 : Int), ((0 : Int), ((0 : Int), ((0 : Int), ((0 : Int), ())))))))), ((d.2.1.1, ()), ((x5.1.1.1, (x5.1.1.2.1, (x5.1.1.2.2.1, ()))), ((x4.1.2.1.1, (x4.1.2.1.2.1, (x4.1.2.1.2.2.1, (x4.1.2.1.2.2.2.1, (x4.1.2.1.2.2.2.2.1, (x4.1.2.1.2.2.2.2.2.1, (x4.1.2.1.2.2.2.2.2.2.1, (x4.1.2.1.2.2.2.2.2.2.2.1, ())))))))), ())))), ((), ((), ((), ((x3.2.1.1, ()), ())))))))
def c_mail_Parse : List Nat := [6]
def L_mail_Parse (k : Nat) : Pts po_mail_Parse.den := [(6, ⟨sh_mail_Parse_6, (f_mail_Parse_t k).1⟩)]
def E_mail_Parse : Env := ((((((((((E0.add 66 (typedSem pi_scan_New_string po_scan_New_string g_scan_New_string)).add 71 (typedSem pi_scan_Scanner_string_End po_scan_Scanner_string_End g_scan_Scanner_string_End)).add 73 (typedSem pi_label_Check po_label_Check g_label_Check)).add 74 (typedSem pi_mail_weekday po_mail_weekday g_mail_weekday)).add 87 (ioSem pi_mail_reader_gap_io po_mail_reader_gap_io 1 [(0, 0, some 0)] g_mail_reader_gap_io)).add 88 (ioSem pi_mail_reader_weekday_io po_mail_reader_weekday_io 1 [(0, 0, some 0)] g_mail_reader_weekday_io)).add 89 (ioSem pi_mail_reader_date_io po_mail_reader_date_io 0 [(0, 0, some 0), (1, 1, none)] g_mail_reader_date_io)).add 90 (ioSem pi_scan_Scanner_string_Fail_io po_scan_Scanner_string_Fail_io 0 [(0, 0, none)] g_scan_Scanner_string_Fail_io)).add 91 (ioSem pi_mail_reader_clock_io po_mail_reader_clock_io 0 [(0, 0, some 0), (1, 1, none)] g_mail_reader_clock_io)).add 92 (ioSem pi_mail_reader_zone_io po_mail_reader_zone_io 2 [(0, 0, some 0)] g_mail_reader_zone_io))
theorem q_mail_Parse_6 (k : Nat) (d : ((Int × (Int × (Int × (Int × (Int × (Int × (Int × (Int × Unit)))))))) × ((ByteArray × Unit) × ((ByteArray × (Int × ((Option Int) × Unit))) × ((Int × (Int × (Int × (Int × (Int × (Int × (Int × (Int × Unit)))))))) × Unit)))) × (Unit × (Unit × (Unit × ((Int × Unit) × Unit))))) : evAt E_mail_Parse (tab (L_mail_Parse k)) c_mail_Parse 6 (bodyOf Try.f40) 0 (finK E_mail_Parse po_mail_Parse [.cell 2 30, .tmp 3]) (ptSt sh_mail_Parse_6 d) = f_mail_Parse_p6 (f_mail_Parse_t k) d := by kernel_rfl
theorem q_mail_Parse_m (k : Nat) (d : Unit × ((ByteArray × Unit) × Unit)) : evCode E_mail_Parse (tab (L_mail_Parse k)) c_mail_Parse (bodyOf Try.f40) 0 (finK E_mail_Parse po_mail_Parse [.cell 2 30, .tmp 3]) (startSt pi_mail_Parse 85 d) = f_mail_Parse_m (f_mail_Parse_t k) d := by kernel_rfl
theorem go_mail_Parse (F : Unit × ((ByteArray × Unit) × Unit) → Option (Unit × ((Int × (Int × (Int × (Int × (Int × (Int × (Int × (Int × Unit)))))))) × (((Option Int) × Unit) × Unit)))) (hF : ∀ d out, F d = some out → ∃ k, f_mail_Parse_m (f_mail_Parse_t k) d = some out) : FnOk Try.prog ET0 40 pi_mail_Parse po_mail_Parse F :=
  fn_of_body (E := E_mail_Parse) (envOk_add (envOk_add (envOk_add (envOk_add (envOk_add (envOk_add (envOk_add (envOk_add (envOk_add (envOk_add e0_ok (typed_ok ok_scan_New_string)) (typed_ok ok_scan_Scanner_string_End)) (typed_ok ok_label_Check)) (typed_ok ok_mail_weekday)) (io_ok ok_mail_reader_gap_io)) (io_ok ok_mail_reader_weekday_io)) (io_ok ok_mail_reader_date_io)) (io_ok ok_scan_Scanner_string_Fail_io)) (io_ok ok_mail_reader_clock_io)) (io_ok ok_mail_reader_zone_io)) (fn := Try.f40) Try.func40 (by kernel_rfl) (by kernel_rfl) [.cell 2 30, .tmp 3] (by kernel_rfl) (by kernel_rfl) (by decide) rfl c_mail_Parse L_mail_Parse
    (by intro x hx d; simp only [L_mail_Parse, List.mem_cons, List.not_mem_nil, or_false] at hx; subst hx; rfl)
    (by intro k x hx d out h; simp only [L_mail_Parse, List.mem_cons, List.not_mem_nil, or_false] at hx; subst hx; exact (q_mail_Parse_6 k d).trans h)
    (by intro d out h; obtain ⟨k, hk⟩ := hF d out h; exact ⟨k, (q_mail_Parse_m k d).trans hk⟩)
def g_mail_Parse (d : Unit × ((ByteArray × Unit) × Unit)) : Option (Unit × ((Int × (Int × (Int × (Int × (Int × (Int × (Int × (Int × Unit)))))))) × (((Option Int) × Unit) × Unit))) := lim fun k => f_mail_Parse_m (f_mail_Parse_t k) d
theorem ok_mail_Parse : FnOk Try.prog ET0 40 pi_mail_Parse po_mail_Parse g_mail_Parse := go_mail_Parse g_mail_Parse fun d out h => lim_some h

/- horologe/horologelaw25.alive -/
@[reducible] def pi_law25_alive : PSh := ⟨[], []⟩
@[reducible] def po_law25_alive : PSh := ⟨[], [.mk false [.v .bool]]⟩
def f_law25_alive_m (T : Unit) (d : Unit × Unit) : Option (Unit × ((Bool × Unit) × Unit)) :=
  (g_mail_Parse ((), (((⟨#[84, 104, 117, 44, 32, 49, 51, 32, 70, 101, 98, 32, 49, 57, 54, 57, 32, 50, 51, 58, 51, 50, 32, 45, 48, 51, 51, 48, 32, 40, 78, 101, 119, 102, 111, 117, 110, 100, 108, 97, 110, 100, 32, 84, 105, 109, 101, 41]⟩ : ByteArray), ()), ()))).bind fun x1 =>
  (g_mail_Put ((), ((x1.2.1.1, (x1.2.1.2.1, (x1.2.1.2.2.1, (x1.2.1.2.2.2.1, (x1.2.1.2.2.2.2.1, (x1.2.1.2.2.2.2.2.1, (x1.2.1.2.2.2.2.2.2.1, (x1.2.1.2.2.2.2.2.2.2.1, ())))))))), ()))).bind fun x2 =>
  bif x1.2.2.1.1.isNone then (
  bif x2.2.2.1.1.isNone then (
  let x3 : Bool := (x1.2.1.2.2.2.2.2.2.2.1 == (-210 : Int))
  bif x3 then (
  let x4 : Bool := (x1.2.1.2.2.1 == (13 : Int))
  bif x4 then (
  let x5 : Bool := (x2.2.1.1.toList == (⟨#[84, 104, 117, 44, 32, 49, 51, 32, 70, 101, 98, 32, 49, 57, 54, 57, 32, 50, 51, 58, 51, 50, 58, 48, 48, 32, 45, 48, 51, 51, 48]⟩ : ByteArray).toList)
  some ((), ((x5, ()), ())))
  else (
  some ((), ((false, ()), ()))))
  else (
  some ((), ((false, ()), ()))))
  else (
  some ((), ((false, ()), ()))))
  else (
  some ((), ((false, ()), ())))
def c_law25_alive : List Nat := []
def L_law25_alive (_ : Nat) : Pts po_law25_alive.den := []
def E_law25_alive : Env := ((E0.add 29 (typedSem pi_mail_Put po_mail_Put g_mail_Put)).add 40 (typedSem pi_mail_Parse po_mail_Parse g_mail_Parse))
theorem q_law25_alive_m (k : Nat) (d : Unit × Unit) : evCode E_law25_alive (tab (L_law25_alive k)) c_law25_alive (bodyOf Try.f28) 0 (finK E_law25_alive po_law25_alive [.tmp 0]) (startSt pi_law25_alive 34 d) = f_law25_alive_m () d := by kernel_rfl
def g_law25_alive (d : Unit × Unit) : Option (Unit × ((Bool × Unit) × Unit)) := f_law25_alive_m () d
theorem ok_law25_alive : FnOk Try.prog ET0 28 pi_law25_alive po_law25_alive g_law25_alive :=
  fn_of_body (E := E_law25_alive) (envOk_add (envOk_add e0_ok (typed_ok ok_mail_Put)) (typed_ok ok_mail_Parse)) (fn := Try.f28) Try.func28 (by kernel_rfl) (by kernel_rfl) [.tmp 0] (by kernel_rfl) (by kernel_rfl) (by decide) rfl c_law25_alive L_law25_alive
    (by intro x hx; cases hx) (by intro k x hx; cases hx) (fun d out h => ⟨0, (q_law25_alive_m 0 d).trans h⟩)

/- horologe/horologeref05.Leap -/
@[reducible] def pi_ref05_Leap : PSh := ⟨[], [.mk false [.v (.int .i64)]]⟩
@[reducible] def po_ref05_Leap : PSh := ⟨[], [.mk false [.v .bool]]⟩
def f_ref05_Leap_m (T : Unit) (d : Unit × ((Int × Unit) × Unit)) : Option (Unit × ((Bool × Unit) × Unit)) :=
  let x1 : Int := (Int.tmod d.2.1.1 (400 : Int))
  let x2 : Bool := (x1 == (0 : Int))
  bif x2 then (
  some ((), ((true, ()), ())))
  else (
  let x3 : Int := (Int.tmod d.2.1.1 (4 : Int))
  let x4 : Bool := (x3 == (0 : Int))
  bif x4 then (
  let x5 : Int := (Int.tmod d.2.1.1 (100 : Int))
  let x6 : Bool := (x5 != (0 : Int))
  some ((), ((x6, ()), ())))
  else (
  some ((), ((false, ()), ()))))
def c_ref05_Leap : List Nat := []
def L_ref05_Leap (_ : Nat) : Pts po_ref05_Leap.den := []
def E_ref05_Leap : Env := E0
theorem q_ref05_Leap_m (k : Nat) (d : Unit × ((Int × Unit) × Unit)) : evCode E_ref05_Leap (tab (L_ref05_Leap k)) c_ref05_Leap (bodyOf Try.f120) 0 (finK E_ref05_Leap po_ref05_Leap [.tmp 2]) (startSt pi_ref05_Leap 14 d) = f_ref05_Leap_m () d := by kernel_rfl
def g_ref05_Leap (d : Unit × ((Int × Unit) × Unit)) : Option (Unit × ((Bool × Unit) × Unit)) := f_ref05_Leap_m () d
theorem ok_ref05_Leap : FnOk Try.prog ET0 120 pi_ref05_Leap po_ref05_Leap g_ref05_Leap :=
  fn_of_body (E := E_ref05_Leap) e0_ok (fn := Try.f120) Try.func120 (by kernel_rfl) (by kernel_rfl) [.tmp 2] (by kernel_rfl) (by kernel_rfl) (by decide) rfl c_ref05_Leap L_ref05_Leap
    (by intro x hx; cases hx) (by intro k x hx; cases hx) (fun d out h => ⟨0, (q_ref05_Leap_m 0 d).trans h⟩)

/- horologe/horologeref05.Days -/
@[reducible] def pi_ref05_Days : PSh := ⟨[], [.mk false [.v (.int .i64)]]⟩
@[reducible] def po_ref05_Days : PSh := ⟨[], [.mk false [.v (.int .i64)]]⟩
def f_ref05_Days_m (T : Unit) (d : Unit × ((Int × Unit) × Unit)) : Option (Unit × ((Int × Unit) × Unit)) :=
  (g_ref05_Leap ((), ((d.2.1.1, ()), ()))).bind fun x1 =>
  bif x1.2.1.1 then (
  some ((), (((366 : Int), ()), ())))
  else (
  some ((), (((365 : Int), ()), ())))
def c_ref05_Days : List Nat := []
def L_ref05_Days (_ : Nat) : Pts po_ref05_Days.den := []
def E_ref05_Days : Env := (E0.add 120 (typedSem pi_ref05_Leap po_ref05_Leap g_ref05_Leap))
theorem q_ref05_Days_m (k : Nat) (d : Unit × ((Int × Unit) × Unit)) : evCode E_ref05_Days (tab (L_ref05_Days k)) c_ref05_Days (bodyOf Try.f104) 0 (finK E_ref05_Days po_ref05_Days [.tmp 2]) (startSt pi_ref05_Days 5 d) = f_ref05_Days_m () d := by kernel_rfl
def g_ref05_Days (d : Unit × ((Int × Unit) × Unit)) : Option (Unit × ((Int × Unit) × Unit)) := f_ref05_Days_m () d
theorem ok_ref05_Days : FnOk Try.prog ET0 104 pi_ref05_Days po_ref05_Days g_ref05_Days :=
  fn_of_body (E := E_ref05_Days) (envOk_add e0_ok (typed_ok ok_ref05_Leap)) (fn := Try.f104) Try.func104 (by kernel_rfl) (by kernel_rfl) [.tmp 2] (by kernel_rfl) (by kernel_rfl) (by decide) rfl c_ref05_Days L_ref05_Days
    (by intro x hx; cases hx) (by intro k x hx; cases hx) (fun d out h => ⟨0, (q_ref05_Days_m 0 d).trans h⟩)

/- horologe/horologeref05.Start -/
@[reducible] def pi_ref05_Start : PSh := ⟨[], [.mk false [.v (.int .i64)]]⟩
@[reducible] def po_ref05_Start : PSh := ⟨[], [.mk false [.v (.int .i64)]]⟩
@[reducible] def TT_ref05_Start : Type := (((Unit × ((Int × Unit) × ((Int × Unit) × Unit))) → Option (Unit × ((Int × Unit) × Unit))) × (((Unit × ((Int × Unit) × ((Int × Unit) × Unit))) → Option (Unit × ((Int × Unit) × Unit))) × (((Unit × ((Int × Unit) × ((Int × Unit) × ((Int × Unit) × Unit)))) → Option (Unit × ((Int × Unit) × Unit))) × Unit)))
@[reducible] def sh_ref05_Start_3 : PSh := ⟨[], [.mk false [.v (.int .i64)], .any, .any, .mk false [.v (.int .i64)], .any, .any, .any, .any, .any, .any, .any, .any, .any, .any, .any, .any, .any, .any, .any, .any, .any, .any, .any, .any, .any, .any, .any]⟩
@[reducible] def sh_ref05_Start_8 : PSh := ⟨[], [.mk false [.v (.int .i64)], .any, .any, .mk false [.v (.int .i64)], .any, .any, .any, .any, .any, .any, .any, .any, .any, .any, .any, .any, .any, .any, .any, .any, .any, .any, .any, .any, .any, .any, .any]⟩
@[reducible] def sh_ref05_Start_14 : PSh := ⟨[], [.mk false [.v (.int .i64)], .any, .any, .mk false [.v (.int .i64)], .mk false [.v (.int .i64)], .any, .any, .any, .any, .any, .any, .any, .any, .any, .any, .any, .any, .any, .any, .any, .any, .any, .any, .any, .any, .any, .any]⟩
def f_ref05_Start_p3 (T : TT_ref05_Start) (d : Unit × ((Int × Unit) × ((Int × Unit) × Unit))) : Option (Unit × ((Int × Unit) × Unit)) :=
  let x1 : Bool := (decide (d.2.1.1 < (1970 : Int)))
  bif x1 then (
  let x2 : Int := (iadd .i64 d.2.1.1 (400 : Int))
  let x3 : Int := (isub .i64 d.2.2.1.1 (146097 : Int))
  (T.1 ((), ((x2, ()), ((x3, ()), ())))))
  else (
  (T.2.1 ((), ((d.2.1.1, ()), ((d.2.2.1.1, ()), ())))))
def f_ref05_Start_p8 (T : TT_ref05_Start) (d : Unit × ((Int × Unit) × ((Int × Unit) × Unit))) : Option (Unit × ((Int × Unit) × Unit)) :=
  let x4 : Bool := (decide (d.2.1.1 ≥ (2370 : Int)))
  bif x4 then (
  let x5 : Int := (isub .i64 d.2.1.1 (400 : Int))
  let x6 : Int := (iadd .i64 d.2.2.1.1 (146097 : Int))
  (T.2.1 ((), ((x5, ()), ((x6, ()), ())))))
  else (
  (T.2.2.1 ((), ((d.2.1.1, ()), ((d.2.2.1.1, ()), (((1970 : Int), ()), ()))))))
def f_ref05_Start_p14 (T : TT_ref05_Start) (d : Unit × ((Int × Unit) × ((Int × Unit) × ((Int × Unit) × Unit)))) : Option (Unit × ((Int × Unit) × Unit)) :=
  let x7 : Bool := (decide (d.2.2.2.1.1 < d.2.1.1))
  bif x7 then (
  (g_ref05_Days ((), ((d.2.2.2.1.1, ()), ()))).bind fun x8 =>
  let x9 : Int := (iadd .i64 d.2.2.1.1 x8.2.1.1)
  let x10 : Int := (iadd .i64 d.2.2.2.1.1 (1 : Int))
  (T.2.2.1 ((), ((d.2.1.1, ()), ((x9, ()), ((x10, ()), ()))))))
  else (
  some ((), ((d.2.2.1.1, ()), ())))
def f_ref05_Start_t : Nat → TT_ref05_Start
  | 0 => (fun _ => none, (fun _ => none, (fun _ => none, ())))
  | k + 1 => (f_ref05_Start_p3 (f_ref05_Start_t k), (f_ref05_Start_p8 (f_ref05_Start_t k), (f_ref05_Start_p14 (f_ref05_Start_t k), ())))
theorem t_ref05_Start (k : Nat) : f_ref05_Start_t (k + 1) = (f_ref05_Start_p3 (f_ref05_Start_t k), (f_ref05_Start_p8 (f_ref05_Start_t k), (f_ref05_Start_p14 (f_ref05_Start_t k), ()))) := rfl
def f_ref05_Start_m (T : TT_ref05_Start) (d : Unit × ((Int × Unit) × Unit)) : Option (Unit × ((Int × Unit) × Unit)) :=
  (T.1 ((), ((d.2.1.1, ()), (((0 : Int), ()), ()))))
def c_ref05_Start : List Nat := []
def L_ref05_Start (k : Nat) : Pts po_ref05_Start.den := [(3, ⟨sh_ref05_Start_3, (f_ref05_Start_t k).1⟩), (8, ⟨sh_ref05_Start_8, (f_ref05_Start_t k).2.1⟩), (14, ⟨sh_ref05_Start_14, (f_ref05_Start_t k).2.2.1⟩)]
def E_ref05_Start : Env := (E0.add 104 (typedSem pi_ref05_Days po_ref05_Days g_ref05_Days))
theorem q_ref05_Start_3 (k : Nat) (d : Unit × ((Int × Unit) × ((Int × Unit) × Unit))) : evAt E_ref05_Start (tab (L_ref05_Start k)) c_ref05_Start 3 (bodyOf Try.f62) 0 (finK E_ref05_Start po_ref05_Start [.tmp 2]) (ptSt sh_ref05_Start_3 d) = f_ref05_Start_p3 (f_ref05_Start_t k) d := by kernel_rfl
theorem q_ref05_Start_8 (k : Nat) (d : Unit × ((Int × Unit) × ((Int × Unit) × Unit))) : evAt E_ref05_Start (tab (L_ref05_Start k)) c_ref05_Start 8 (bodyOf Try.f62) 0 (finK E_ref05_Start po_ref05_Start [.tmp 2]) (ptSt sh_ref05_Start_8 d) = f_ref05_Start_p8 (f_ref05_Start_t k) d := by kernel_rfl
theorem q_ref05_Start_14 (k : Nat) (d : Unit × ((Int × Unit) × ((Int × Unit) × ((Int × Unit) × Unit)))) : evAt E_ref05_Start (tab (L_ref05_Start k)) c_ref05_Start 14 (bodyOf Try.f62) 0 (finK E_ref05_Start po_ref05_Start [.tmp 2]) (ptSt sh_ref05_Start_14 d) = f_ref05_Start_p14 (f_ref05_Start_t k) d := by kernel_rfl
theorem q_ref05_Start_m (k : Nat) (d : Unit × ((Int × Unit) × Unit)) : evCode E_ref05_Start (tab (L_ref05_Start k)) c_ref05_Start (bodyOf Try.f62) 0 (finK E_ref05_Start po_ref05_Start [.tmp 2]) (startSt pi_ref05_Start 27 d) = f_ref05_Start_m (f_ref05_Start_t k) d := by kernel_rfl
theorem go_ref05_Start (F : Unit × ((Int × Unit) × Unit) → Option (Unit × ((Int × Unit) × Unit))) (hF : ∀ d out, F d = some out → ∃ k, f_ref05_Start_m (f_ref05_Start_t k) d = some out) : FnOk Try.prog ET0 62 pi_ref05_Start po_ref05_Start F :=
  fn_of_body (E := E_ref05_Start) (envOk_add e0_ok (typed_ok ok_ref05_Days)) (fn := Try.f62) Try.func62 (by kernel_rfl) (by kernel_rfl) [.tmp 2] (by kernel_rfl) (by kernel_rfl) (by decide) rfl c_ref05_Start L_ref05_Start
    (by intro x hx d; simp only [L_ref05_Start, List.mem_cons, List.not_mem_nil, or_false] at hx; rcases hx with rfl | rfl | rfl; rfl; rfl; rfl)
    (by intro k x hx d out h; simp only [L_ref05_Start, List.mem_cons, List.not_mem_nil, or_false] at hx; rcases hx with rfl | rfl | rfl; exact (q_ref05_Start_3 k d).trans h; exact (q_ref05_Start_8 k d).trans h; exact (q_ref05_Start_14 k d).trans h)
    (by intro d out h; obtain ⟨k, hk⟩ := hF d out h; exact ⟨k, (q_ref05_Start_m k d).trans hk⟩)
def g_ref05_Start (d : Unit × ((Int × Unit) × Unit)) : Option (Unit × ((Int × Unit) × Unit)) := lim fun k => f_ref05_Start_m (f_ref05_Start_t k) d
theorem ok_ref05_Start : FnOk Try.prog ET0 62 pi_ref05_Start po_ref05_Start g_ref05_Start := go_ref05_Start g_ref05_Start fun d out h => lim_some h

/- horologe/horologeref05.First -/
@[reducible] def pi_ref05_First : PSh := ⟨[], []⟩
@[reducible] def po_ref05_First : PSh := ⟨[], [.mk false [.v (.int .i64)]]⟩
def f_ref05_First_m (T : Unit) (d : Unit × Unit) : Option (Unit × ((Int × Unit) × Unit)) :=
  (g_ref05_Start ((), (((-9999 : Int), ()), ()))).bind fun x1 =>
  some ((), ((x1.2.1.1, ()), ()))
def c_ref05_First : List Nat := []
def L_ref05_First (_ : Nat) : Pts po_ref05_First.den := []
def E_ref05_First : Env := (E0.add 62 (typedSem pi_ref05_Start po_ref05_Start g_ref05_Start))
theorem q_ref05_First_m (k : Nat) (d : Unit × Unit) : evCode E_ref05_First (tab (L_ref05_First k)) c_ref05_First (bodyOf Try.f58) 0 (finK E_ref05_First po_ref05_First [.tmp 0]) (startSt pi_ref05_First 2 d) = f_ref05_First_m () d := by kernel_rfl
def g_ref05_First (d : Unit × Unit) : Option (Unit × ((Int × Unit) × Unit)) := f_ref05_First_m () d
theorem ok_ref05_First : FnOk Try.prog ET0 58 pi_ref05_First po_ref05_First g_ref05_First :=
  fn_of_body (E := E_ref05_First) (envOk_add e0_ok (typed_ok ok_ref05_Start)) (fn := Try.f58) Try.func58 (by kernel_rfl) (by kernel_rfl) [.tmp 0] (by kernel_rfl) (by kernel_rfl) (by decide) rfl c_ref05_First L_ref05_First
    (by intro x hx; cases hx) (by intro k x hx; cases hx) (fun d out h => ⟨0, (q_ref05_First_m 0 d).trans h⟩)

/- horologe/horologeref05.Last -/
@[reducible] def pi_ref05_Last : PSh := ⟨[], []⟩
@[reducible] def po_ref05_Last : PSh := ⟨[], [.mk false [.v (.int .i64)]]⟩
def f_ref05_Last_m (T : Unit) (d : Unit × Unit) : Option (Unit × ((Int × Unit) × Unit)) :=
  (g_ref05_Start ((), (((10000 : Int), ()), ()))).bind fun x1 =>
  let x2 : Int := (isub .i64 x1.2.1.1 (1 : Int))
  some ((), ((x2, ()), ()))
def c_ref05_Last : List Nat := []
def L_ref05_Last (_ : Nat) : Pts po_ref05_Last.den := []
def E_ref05_Last : Env := (E0.add 62 (typedSem pi_ref05_Start po_ref05_Start g_ref05_Start))
theorem q_ref05_Last_m (k : Nat) (d : Unit × Unit) : evCode E_ref05_Last (tab (L_ref05_Last k)) c_ref05_Last (bodyOf Try.f59) 0 (finK E_ref05_Last po_ref05_Last [.tmp 0]) (startSt pi_ref05_Last 3 d) = f_ref05_Last_m () d := by kernel_rfl
def g_ref05_Last (d : Unit × Unit) : Option (Unit × ((Int × Unit) × Unit)) := f_ref05_Last_m () d
theorem ok_ref05_Last : FnOk Try.prog ET0 59 pi_ref05_Last po_ref05_Last g_ref05_Last :=
  fn_of_body (E := E_ref05_Last) (envOk_add e0_ok (typed_ok ok_ref05_Start)) (fn := Try.f59) Try.func59 (by kernel_rfl) (by kernel_rfl) [.tmp 0] (by kernel_rfl) (by kernel_rfl) (by decide) rfl c_ref05_Last L_ref05_Last
    (by intro x hx; cases hx) (by intro k x hx; cases hx) (fun d out h => ⟨0, (q_ref05_Last_m 0 d).trans h⟩)

/- horologe/horologeref08.There -/
@[reducible] def pi_ref08_There : PSh := ⟨[], [.mk false [.v (.int .i64)]]⟩
@[reducible] def po_ref08_There : PSh := ⟨[], [.mk false [.v .bool]]⟩
def f_ref08_There_m (T : Unit) (d : Unit × ((Int × Unit) × Unit)) : Option (Unit × ((Bool × Unit) × Unit)) :=
  (g_ref05_First ((), ())).bind fun x1 =>
  let x2 : Bool := (decide (d.2.1.1 ≥ x1.2.1.1))
  bif x2 then (
  (g_ref05_Last ((), ())).bind fun x3 =>
  let x4 : Bool := (decide (d.2.1.1 ≤ x3.2.1.1))
  some ((), ((x4, ()), ())))
  else (
  some ((), ((false, ()), ())))
def c_ref08_There : List Nat := []
def L_ref08_There (_ : Nat) : Pts po_ref08_There.den := []
def E_ref08_There : Env := ((E0.add 58 (typedSem pi_ref05_First po_ref05_First g_ref05_First)).add 59 (typedSem pi_ref05_Last po_ref05_Last g_ref05_Last))
theorem q_ref08_There_m (k : Nat) (d : Unit × ((Int × Unit) × Unit)) : evCode E_ref08_There (tab (L_ref08_There k)) c_ref08_There (bodyOf Try.f51) 0 (finK E_ref08_There po_ref08_There [.tmp 2]) (startSt pi_ref08_There 11 d) = f_ref08_There_m () d := by kernel_rfl
def g_ref08_There (d : Unit × ((Int × Unit) × Unit)) : Option (Unit × ((Bool × Unit) × Unit)) := f_ref08_There_m () d
theorem ok_ref08_There : FnOk Try.prog ET0 51 pi_ref08_There po_ref08_There g_ref08_There :=
  fn_of_body (E := E_ref08_There) (envOk_add (envOk_add e0_ok (typed_ok ok_ref05_First)) (typed_ok ok_ref05_Last)) (fn := Try.f51) Try.func51 (by kernel_rfl) (by kernel_rfl) [.tmp 2] (by kernel_rfl) (by kernel_rfl) (by decide) rfl c_ref08_There L_ref08_There
    (by intro x hx; cases hx) (by intro k x hx; cases hx) (fun d out h => ⟨0, (q_ref08_There_m 0 d).trans h⟩)

/- horologe/horologeref05.Month -/
@[reducible] def pi_ref05_Month : PSh := ⟨[], [.mk false [.v (.int .i64)], .mk false [.v (.int .i64)]]⟩
@[reducible] def po_ref05_Month : PSh := ⟨[], [.mk false [.v (.int .i64)]]⟩
def f_ref05_Month_m (T : Unit) (d : Unit × ((Int × Unit) × ((Int × Unit) × Unit))) : Option (Unit × ((Int × Unit) × Unit)) :=
  let x1 : (List Int) := ([(31 : Int), (28 : Int), (31 : Int), (30 : Int), (31 : Int), (30 : Int), (31 : Int), (31 : Int), (30 : Int), (31 : Int), (30 : Int), (31 : Int)] : List Int)
  let x2 : Bool := (d.2.2.1.1 == (2 : Int))
  bif x2 then (
  (g_ref05_Leap ((), ((d.2.1.1, ()), ()))).bind fun x3 =>
  bif x3.2.1.1 then (
  some ((), (((29 : Int), ()), ())))
  else (
  let x4 : Int := (isub .i64 d.2.2.1.1 (1 : Int))
  bif decide ((0 : Int) ≤ x4) && decide (x4 < (x1.length : Int)) then (
  some ((), (((gd (.int .i64) x1 x4), ()), ())))
  else none))
  else (
  let x5 : Int := (isub .i64 d.2.2.1.1 (1 : Int))
  bif decide ((0 : Int) ≤ x5) && decide (x5 < (x1.length : Int)) then (
  some ((), (((gd (.int .i64) x1 x5), ()), ())))
  else none)
def c_ref05_Month : List Nat := []
def L_ref05_Month (_ : Nat) : Pts po_ref05_Month.den := []
def E_ref05_Month : Env := (E0.add 120 (typedSem pi_ref05_Leap po_ref05_Leap g_ref05_Leap))
theorem q_ref05_Month_m (k : Nat) (d : Unit × ((Int × Unit) × ((Int × Unit) × Unit))) : evCode E_ref05_Month (tab (L_ref05_Month k)) c_ref05_Month (bodyOf Try.f65) 0 (finK E_ref05_Month po_ref05_Month [.tmp 4]) (startSt pi_ref05_Month 18 d) = f_ref05_Month_m () d := by kernel_rfl
def g_ref05_Month (d : Unit × ((Int × Unit) × ((Int × Unit) × Unit))) : Option (Unit × ((Int × Unit) × Unit)) := f_ref05_Month_m () d
theorem ok_ref05_Month : FnOk Try.prog ET0 65 pi_ref05_Month po_ref05_Month g_ref05_Month :=
  fn_of_body (E := E_ref05_Month) (envOk_add e0_ok (typed_ok ok_ref05_Leap)) (fn := Try.f65) Try.func65 (by kernel_rfl) (by kernel_rfl) [.tmp 4] (by kernel_rfl) (by kernel_rfl) (by decide) rfl c_ref05_Month L_ref05_Month
    (by intro x hx; cases hx) (by intro k x hx; cases hx) (fun d out h => ⟨0, (q_ref05_Month_m 0 d).trans h⟩)

/- horologe/horologeref05.Year -/
@[reducible] def pi_ref05_Year : PSh := ⟨[], [.mk false [.v (.int .i64)]]⟩
@[reducible] def po_ref05_Year : PSh := ⟨[], [.mk false [.v .bool]]⟩
def f_ref05_Year_m (T : Unit) (d : Unit × ((Int × Unit) × Unit)) : Option (Unit × ((Bool × Unit) × Unit)) :=
  let x1 : Bool := (decide (d.2.1.1 ≥ (-9999 : Int)))
  bif x1 then (
  let x2 : Bool := (decide (d.2.1.1 ≤ (9999 : Int)))
  some ((), ((x2, ()), ())))
  else (
  some ((), ((false, ()), ())))
def c_ref05_Year : List Nat := []
def L_ref05_Year (_ : Nat) : Pts po_ref05_Year.den := []
def E_ref05_Year : Env := E0
theorem q_ref05_Year_m (k : Nat) (d : Unit × ((Int × Unit) × Unit)) : evCode E_ref05_Year (tab (L_ref05_Year k)) c_ref05_Year (bodyOf Try.f132) 0 (finK E_ref05_Year po_ref05_Year [.tmp 2]) (startSt pi_ref05_Year 9 d) = f_ref05_Year_m () d := by kernel_rfl
def g_ref05_Year (d : Unit × ((Int × Unit) × Unit)) : Option (Unit × ((Bool × Unit) × Unit)) := f_ref05_Year_m () d
theorem ok_ref05_Year : FnOk Try.prog ET0 132 pi_ref05_Year po_ref05_Year g_ref05_Year :=
  fn_of_body (E := E_ref05_Year) e0_ok (fn := Try.f132) Try.func132 (by kernel_rfl) (by kernel_rfl) [.tmp 2] (by kernel_rfl) (by kernel_rfl) (by decide) rfl c_ref05_Year L_ref05_Year
    (by intro x hx; cases hx) (by intro k x hx; cases hx) (fun d out h => ⟨0, (q_ref05_Year_m 0 d).trans h⟩)

/- horologe/horologeref05.Check -/
@[reducible] def pi_ref05_Check : PSh := ⟨[], [.mk false [.v (.int .i64)], .mk false [.v (.int .i64)], .mk false [.v (.int .i64)]]⟩
@[reducible] def po_ref05_Check : PSh := ⟨[], [.mk false [.v (.int .i64)]]⟩
def f_ref05_Check_m (T : Unit) (d : Unit × ((Int × Unit) × ((Int × Unit) × ((Int × Unit) × Unit)))) : Option (Unit × ((Int × Unit) × Unit)) :=
  (g_ref05_Year ((), ((d.2.1.1, ()), ()))).bind fun x1 =>
  let x2 : Bool := (!x1.2.1.1)
  bif x2 then (
  some ((), (((13 : Int), ()), ())))
  else (
  let x3 : Bool := (decide (d.2.2.1.1 < (1 : Int)))
  bif x3 then (
  some ((), (((1 : Int), ()), ())))
  else (
  let x4 : Bool := (decide (d.2.2.1.1 > (12 : Int)))
  bif x4 then (
  some ((), (((1 : Int), ()), ())))
  else (
  let x5 : Bool := (decide (d.2.2.2.1.1 < (1 : Int)))
  bif x5 then (
  some ((), (((1 : Int), ()), ())))
  else (
  (g_ref05_Month ((), ((d.2.1.1, ()), ((d.2.2.1.1, ()), ())))).bind fun x6 =>
  let x7 : Bool := (decide (d.2.2.2.1.1 > x6.2.1.1))
  bif x7 then (
  some ((), (((1 : Int), ()), ())))
  else (
  some ((), (((0 : Int), ()), ())))))))
def c_ref05_Check : List Nat := []
def L_ref05_Check (_ : Nat) : Pts po_ref05_Check.den := []
def E_ref05_Check : Env := ((E0.add 65 (typedSem pi_ref05_Month po_ref05_Month g_ref05_Month)).add 132 (typedSem pi_ref05_Year po_ref05_Year g_ref05_Year))
theorem q_ref05_Check_m (k : Nat) (d : Unit × ((Int × Unit) × ((Int × Unit) × ((Int × Unit) × Unit)))) : evCode E_ref05_Check (tab (L_ref05_Check k)) c_ref05_Check (bodyOf Try.f76) 0 (finK E_ref05_Check po_ref05_Check [.tmp 6]) (startSt pi_ref05_Check 25 d) = f_ref05_Check_m () d := by kernel_rfl
def g_ref05_Check (d : Unit × ((Int × Unit) × ((Int × Unit) × ((Int × Unit) × Unit)))) : Option (Unit × ((Int × Unit) × Unit)) := f_ref05_Check_m () d
theorem ok_ref05_Check : FnOk Try.prog ET0 76 pi_ref05_Check po_ref05_Check g_ref05_Check :=
  fn_of_body (E := E_ref05_Check) (envOk_add (envOk_add e0_ok (typed_ok ok_ref05_Month)) (typed_ok ok_ref05_Year)) (fn := Try.f76) Try.func76 (by kernel_rfl) (by kernel_rfl) [.tmp 6] (by kernel_rfl) (by kernel_rfl) (by decide) rfl c_ref05_Check L_ref05_Check
    (by intro x hx; cases hx) (by intro k x hx; cases hx) (fun d out h => ⟨0, (q_ref05_Check_m 0 d).trans h⟩)

/- horologe/horologeref05.Of -/
@[reducible] def pi_ref05_Of : PSh := ⟨[], [.mk false [.v (.int .i64)], .mk false [.v (.int .i64)], .mk false [.v (.int .i64)]]⟩
@[reducible] def po_ref05_Of : PSh := ⟨[], [.mk false [.v (.int .i64)]]⟩
@[reducible] def TT_ref05_Of : Type := (((Unit × ((Int × Unit) × ((Int × Unit) × ((Int × Unit) × ((Int × Unit) × Unit))))) → Option (Unit × ((Int × Unit) × Unit))) × Unit)
@[reducible] def sh_ref05_Of_4 : PSh := ⟨[], [.mk false [.v (.int .i64)], .mk false [.v (.int .i64)], .any, .any, .any, .any, .any, .mk false [.v (.int .i64)], .mk false [.v (.int .i64)], .any, .any, .any, .any, .any, .any, .any, .any, .any, .any, .any, .any, .any, .any, .any, .any]⟩
def f_ref05_Of_p4 (T : TT_ref05_Of) (d : Unit × ((Int × Unit) × ((Int × Unit) × ((Int × Unit) × ((Int × Unit) × Unit))))) : Option (Unit × ((Int × Unit) × Unit)) :=
  let x4 : Bool := (decide (d.2.2.2.2.1.1 < d.2.2.1.1))
  bif x4 then (
  (g_ref05_Month ((), ((d.2.1.1, ()), ((d.2.2.2.2.1.1, ()), ())))).bind fun x5 =>
  let x6 : Int := (iadd .i64 d.2.2.2.1.1 x5.2.1.1)
  let x7 : Int := (iadd .i64 d.2.2.2.2.1.1 (1 : Int))
  (T.1 ((), ((d.2.1.1, ()), ((d.2.2.1.1, ()), ((x6, ()), ((x7, ()), ())))))))
  else (
  some ((), ((d.2.2.2.1.1, ()), ())))
def f_ref05_Of_t : Nat → TT_ref05_Of
  | 0 => (fun _ => none, ())
  | k + 1 => (f_ref05_Of_p4 (f_ref05_Of_t k), ())
theorem t_ref05_Of (k : Nat) : f_ref05_Of_t (k + 1) = (f_ref05_Of_p4 (f_ref05_Of_t k), ()) := rfl
def f_ref05_Of_m (T : TT_ref05_Of) (d : Unit × ((Int × Unit) × ((Int × Unit) × ((Int × Unit) × Unit)))) : Option (Unit × ((Int × Unit) × Unit)) :=
  (g_ref05_Start ((), ((d.2.1.1, ()), ()))).bind fun x1 =>
  let x2 : Int := (iadd .i64 x1.2.1.1 d.2.2.2.1.1)
  let x3 : Int := (isub .i64 x2 (1 : Int))
  (T.1 ((), ((d.2.1.1, ()), ((d.2.2.1.1, ()), ((x3, ()), (((1 : Int), ()), ()))))))
def c_ref05_Of : List Nat := []
def L_ref05_Of (k : Nat) : Pts po_ref05_Of.den := [(4, ⟨sh_ref05_Of_4, (f_ref05_Of_t k).1⟩)]
def E_ref05_Of : Env := ((E0.add 62 (typedSem pi_ref05_Start po_ref05_Start g_ref05_Start)).add 65 (typedSem pi_ref05_Month po_ref05_Month g_ref05_Month))
theorem q_ref05_Of_4 (k : Nat) (d : Unit × ((Int × Unit) × ((Int × Unit) × ((Int × Unit) × ((Int × Unit) × Unit))))) : evAt E_ref05_Of (tab (L_ref05_Of k)) c_ref05_Of 4 (bodyOf Try.f64) 0 (finK E_ref05_Of po_ref05_Of [.tmp 6]) (ptSt sh_ref05_Of_4 d) = f_ref05_Of_p4 (f_ref05_Of_t k) d := by kernel_rfl
theorem q_ref05_Of_m (k : Nat) (d : Unit × ((Int × Unit) × ((Int × Unit) × ((Int × Unit) × Unit)))) : evCode E_ref05_Of (tab (L_ref05_Of k)) c_ref05_Of (bodyOf Try.f64) 0 (finK E_ref05_Of po_ref05_Of [.tmp 6]) (startSt pi_ref05_Of 25 d) = f_ref05_Of_m (f_ref05_Of_t k) d := by kernel_rfl
theorem go_ref05_Of (F : Unit × ((Int × Unit) × ((Int × Unit) × ((Int × Unit) × Unit))) → Option (Unit × ((Int × Unit) × Unit))) (hF : ∀ d out, F d = some out → ∃ k, f_ref05_Of_m (f_ref05_Of_t k) d = some out) : FnOk Try.prog ET0 64 pi_ref05_Of po_ref05_Of F :=
  fn_of_body (E := E_ref05_Of) (envOk_add (envOk_add e0_ok (typed_ok ok_ref05_Start)) (typed_ok ok_ref05_Month)) (fn := Try.f64) Try.func64 (by kernel_rfl) (by kernel_rfl) [.tmp 6] (by kernel_rfl) (by kernel_rfl) (by decide) rfl c_ref05_Of L_ref05_Of
    (by intro x hx d; simp only [L_ref05_Of, List.mem_cons, List.not_mem_nil, or_false] at hx; subst hx; rfl)
    (by intro k x hx d out h; simp only [L_ref05_Of, List.mem_cons, List.not_mem_nil, or_false] at hx; subst hx; exact (q_ref05_Of_4 k d).trans h)
    (by intro d out h; obtain ⟨k, hk⟩ := hF d out h; exact ⟨k, (q_ref05_Of_m k d).trans hk⟩)
def g_ref05_Of (d : Unit × ((Int × Unit) × ((Int × Unit) × ((Int × Unit) × Unit)))) : Option (Unit × ((Int × Unit) × Unit)) := lim fun k => f_ref05_Of_m (f_ref05_Of_t k) d
theorem ok_ref05_Of : FnOk Try.prog ET0 64 pi_ref05_Of po_ref05_Of g_ref05_Of := go_ref05_Of g_ref05_Of fun d out h => lim_some h

/- horologe/horologeref08.Moment -/
@[reducible] def pi_ref08_Moment : PSh := ⟨[], [.mk true [.v (.int .i64), .v (.int .i64), .v (.int .i64), .v (.int .i64), .v (.int .i64), .v (.int .i64), .v (.int .i64), .v (.int .i64)]]⟩
@[reducible] def po_ref08_Moment : PSh := ⟨[], [.mk false [.v (.int .i64)], .mk false [.v (.int .i64)]]⟩
@[reducible] def TT_ref08_Moment : Type := (((Unit × ((Int × Unit) × ((Int × Unit) × Unit))) → Option (Unit × ((Int × Unit) × ((Int × Unit) × Unit)))) × (((Unit × ((Int × Unit) × ((Int × Unit) × Unit))) → Option (Unit × ((Int × Unit) × ((Int × Unit) × Unit)))) × Unit))
@[reducible] def sh_ref08_Moment_4 : PSh := ⟨[], [.any, .any, .any, .any, .mk false [.v (.int .i64)], .mk false [.v (.int .i64)], .any, .any, .any, .any, .any, .any, .any, .any, .any, .any, .any, .any, .any, .any, .any, .any, .any, .any, .any, .any, .any, .any, .any, .any, .any, .any, .any, .any, .any, .any]⟩
@[reducible] def sh_ref08_Moment_9 : PSh := ⟨[], [.any, .any, .any, .any, .mk false [.v (.int .i64)], .mk false [.v (.int .i64)], .any, .any, .any, .any, .any, .any, .any, .any, .any, .any, .any, .any, .any, .any, .any, .any, .any, .any, .any, .any, .any, .any, .any, .any, .any, .any, .any, .any, .any, .any]⟩
def f_ref08_Moment_p4 (T : TT_ref08_Moment) (d : Unit × ((Int × Unit) × ((Int × Unit) × Unit))) : Option (Unit × ((Int × Unit) × ((Int × Unit) × Unit))) :=
  let x5 : Bool := (decide (d.2.2.1.1 < (0 : Int)))
  bif x5 then (
  let x6 : Int := (iadd .i64 d.2.2.1.1 (1440 : Int))
  let x7 : Int := (isub .i64 d.2.1.1 (1 : Int))
  (T.1 ((), ((x7, ()), ((x6, ()), ())))))
  else (
  (T.2.1 ((), ((d.2.1.1, ()), ((d.2.2.1.1, ()), ())))))
def f_ref08_Moment_p9 (T : TT_ref08_Moment) (d : Unit × ((Int × Unit) × ((Int × Unit) × Unit))) : Option (Unit × ((Int × Unit) × ((Int × Unit) × Unit))) :=
  let x8 : Bool := (decide (d.2.2.1.1 ≥ (1440 : Int)))
  bif x8 then (
  let x9 : Int := (isub .i64 d.2.2.1.1 (1440 : Int))
  let x10 : Int := (iadd .i64 d.2.1.1 (1 : Int))
  (T.2.1 ((), ((x10, ()), ((x9, ()), ())))))
  else (
  some ((), ((d.2.1.1, ()), ((d.2.2.1.1, ()), ()))))
def f_ref08_Moment_t : Nat → TT_ref08_Moment
  | 0 => (fun _ => none, (fun _ => none, ()))
  | k + 1 => (f_ref08_Moment_p4 (f_ref08_Moment_t k), (f_ref08_Moment_p9 (f_ref08_Moment_t k), ()))
theorem t_ref08_Moment (k : Nat) : f_ref08_Moment_t (k + 1) = (f_ref08_Moment_p4 (f_ref08_Moment_t k), (f_ref08_Moment_p9 (f_ref08_Moment_t k), ())) := rfl
def f_ref08_Moment_m (T : TT_ref08_Moment) (d : Unit × ((Int × (Int × (Int × (Int × (Int × (Int × (Int × (Int × Unit)))))))) × Unit)) : Option (Unit × ((Int × Unit) × ((Int × Unit) × Unit))) :=
  (g_ref05_Of ((), ((d.2.1.1, ()), ((d.2.1.2.1, ()), ((d.2.1.2.2.1, ()), ()))))).bind fun x1 =>
  let x2 : Int := (imul .i64 d.2.1.2.2.2.1 (60 : Int))
  let x3 : Int := (iadd .i64 x2 d.2.1.2.2.2.2.1)
  let x4 : Int := (isub .i64 x3 d.2.1.2.2.2.2.2.2.2.1)
  (T.1 ((), ((x1.2.1.1, ()), ((x4, ()), ()))))
def c_ref08_Moment : List Nat := []
def L_ref08_Moment (k : Nat) : Pts po_ref08_Moment.den := [(4, ⟨sh_ref08_Moment_4, (f_ref08_Moment_t k).1⟩), (9, ⟨sh_ref08_Moment_9, (f_ref08_Moment_t k).2.1⟩)]
def E_ref08_Moment : Env := (E0.add 64 (typedSem pi_ref05_Of po_ref05_Of g_ref05_Of))
theorem q_ref08_Moment_4 (k : Nat) (d : Unit × ((Int × Unit) × ((Int × Unit) × Unit))) : evAt E_ref08_Moment (tab (L_ref08_Moment k)) c_ref08_Moment 4 (bodyOf Try.f77) 0 (finK E_ref08_Moment po_ref08_Moment [.tmp 2, .tmp 3]) (ptSt sh_ref08_Moment_4 d) = f_ref08_Moment_p4 (f_ref08_Moment_t k) d := by kernel_rfl
theorem q_ref08_Moment_9 (k : Nat) (d : Unit × ((Int × Unit) × ((Int × Unit) × Unit))) : evAt E_ref08_Moment (tab (L_ref08_Moment k)) c_ref08_Moment 9 (bodyOf Try.f77) 0 (finK E_ref08_Moment po_ref08_Moment [.tmp 2, .tmp 3]) (ptSt sh_ref08_Moment_9 d) = f_ref08_Moment_p9 (f_ref08_Moment_t k) d := by kernel_rfl
theorem q_ref08_Moment_m (k : Nat) (d : Unit × ((Int × (Int × (Int × (Int × (Int × (Int × (Int × (Int × Unit)))))))) × Unit)) : evCode E_ref08_Moment (tab (L_ref08_Moment k)) c_ref08_Moment (bodyOf Try.f77) 0 (finK E_ref08_Moment po_ref08_Moment [.tmp 2, .tmp 3]) (startSt pi_ref08_Moment 36 d) = f_ref08_Moment_m (f_ref08_Moment_t k) d := by kernel_rfl
theorem go_ref08_Moment (F : Unit × ((Int × (Int × (Int × (Int × (Int × (Int × (Int × (Int × Unit)))))))) × Unit) → Option (Unit × ((Int × Unit) × ((Int × Unit) × Unit)))) (hF : ∀ d out, F d = some out → ∃ k, f_ref08_Moment_m (f_ref08_Moment_t k) d = some out) : FnOk Try.prog ET0 77 pi_ref08_Moment po_ref08_Moment F :=
  fn_of_body (E := E_ref08_Moment) (envOk_add e0_ok (typed_ok ok_ref05_Of)) (fn := Try.f77) Try.func77 (by kernel_rfl) (by kernel_rfl) [.tmp 2, .tmp 3] (by kernel_rfl) (by kernel_rfl) (by decide) rfl c_ref08_Moment L_ref08_Moment
    (by intro x hx d; simp only [L_ref08_Moment, List.mem_cons, List.not_mem_nil, or_false] at hx; rcases hx with rfl | rfl; rfl; rfl)
    (by intro k x hx d out h; simp only [L_ref08_Moment, List.mem_cons, List.not_mem_nil, or_false] at hx; rcases hx with rfl | rfl; exact (q_ref08_Moment_4 k d).trans h; exact (q_ref08_Moment_9 k d).trans h)
    (by intro d out h; obtain ⟨k, hk⟩ := hF d out h; exact ⟨k, (q_ref08_Moment_m k d).trans hk⟩)
def g_ref08_Moment (d : Unit × ((Int × (Int × (Int × (Int × (Int × (Int × (Int × (Int × Unit)))))))) × Unit)) : Option (Unit × ((Int × Unit) × ((Int × Unit) × Unit))) := lim fun k => f_ref08_Moment_m (f_ref08_Moment_t k) d
theorem ok_ref08_Moment : FnOk Try.prog ET0 77 pi_ref08_Moment po_ref08_Moment g_ref08_Moment := go_ref08_Moment g_ref08_Moment fun d out h => lim_some h

/- horologe/horologeref08.Check -/
@[reducible] def pi_ref08_Check : PSh := ⟨[], [.mk true [.v (.int .i64), .v (.int .i64), .v (.int .i64), .v (.int .i64), .v (.int .i64), .v (.int .i64), .v (.int .i64), .v (.int .i64)]]⟩
@[reducible] def po_ref08_Check : PSh := ⟨[], [.mk false [.v (.int .i64)]]⟩
def f_ref08_Check_m (T : Unit) (d : Unit × ((Int × (Int × (Int × (Int × (Int × (Int × (Int × (Int × Unit)))))))) × Unit)) : Option (Unit × ((Int × Unit) × Unit)) :=
  (g_ref05_Check ((), ((d.2.1.1, ()), ((d.2.1.2.1, ()), ((d.2.1.2.2.1, ()), ()))))).bind fun x1 =>
  let x2 : Bool := (x1.2.1.1 != (0 : Int))
  bif x2 then (
  some ((), ((x1.2.1.1, ()), ())))
  else (
  let x3 : Bool := (decide (d.2.1.2.2.2.1 < (0 : Int)))
  bif x3 then (
  some ((), (((1 : Int), ()), ())))
  else (
  let x4 : Bool := (decide (d.2.1.2.2.2.1 > (23 : Int)))
  bif x4 then (
  some ((), (((1 : Int), ()), ())))
  else (
  let x5 : Bool := (decide (d.2.1.2.2.2.2.1 < (0 : Int)))
  bif x5 then (
  some ((), (((1 : Int), ()), ())))
  else (
  let x6 : Bool := (decide (d.2.1.2.2.2.2.1 > (59 : Int)))
  bif x6 then (
  some ((), (((1 : Int), ()), ())))
  else (
  let x7 : Bool := (decide (d.2.1.2.2.2.2.2.1 < (0 : Int)))
  bif x7 then (
  some ((), (((1 : Int), ()), ())))
  else (
  let x8 : Bool := (decide (d.2.1.2.2.2.2.2.1 > (60 : Int)))
  bif x8 then (
  some ((), (((1 : Int), ()), ())))
  else (
  let x9 : Bool := (decide (d.2.1.2.2.2.2.2.2.1 < (0 : Int)))
  bif x9 then (
  some ((), (((1 : Int), ()), ())))
  else (
  let x10 : Bool := (decide (d.2.1.2.2.2.2.2.2.1 > (999999999 : Int)))
  bif x10 then (
  some ((), (((1 : Int), ()), ())))
  else (
  let x11 : Bool := (decide (d.2.1.2.2.2.2.2.2.2.1 < (-1439 : Int)))
  bif x11 then (
  some ((), (((1 : Int), ()), ())))
  else (
  let x12 : Bool := (decide (d.2.1.2.2.2.2.2.2.2.1 > (1439 : Int)))
  bif x12 then (
  some ((), (((1 : Int), ()), ())))
  else (
  (g_ref08_Moment ((), ((d.2.1.1, (d.2.1.2.1, (d.2.1.2.2.1, (d.2.1.2.2.2.1, (d.2.1.2.2.2.2.1, (d.2.1.2.2.2.2.2.1, (d.2.1.2.2.2.2.2.2.1, (d.2.1.2.2.2.2.2.2.2.1, ())))))))), ()))).bind fun x13 =>
  (g_ref08_There ((), ((x13.2.1.1, ()), ()))).bind fun x14 =>
  let x15 : Bool := (!x14.2.1.1)
  bif x15 then (
  some ((), (((13 : Int), ()), ())))
  else (
  let x16 : Bool := (d.2.1.2.2.2.2.2.1 == (60 : Int))
  bif x16 then (
  let x17 : Bool := (x13.2.2.1.1 != (1439 : Int))
  bif x17 then (
  some ((), (((12 : Int), ()), ())))
  else (
  some ((), (((0 : Int), ()), ()))))
  else (
  some ((), (((0 : Int), ()), ())))))))))))))))
def c_ref08_Check : List Nat := []
def L_ref08_Check (_ : Nat) : Pts po_ref08_Check.den := []
def E_ref08_Check : Env := (((E0.add 51 (typedSem pi_ref08_There po_ref08_There g_ref08_There)).add 76 (typedSem pi_ref05_Check po_ref05_Check g_ref05_Check)).add 77 (typedSem pi_ref08_Moment po_ref08_Moment g_ref08_Moment))
theorem q_ref08_Check_m (k : Nat) (d : Unit × ((Int × (Int × (Int × (Int × (Int × (Int × (Int × (Int × Unit)))))))) × Unit)) : evCode E_ref08_Check (tab (L_ref08_Check k)) c_ref08_Check (bodyOf Try.f30) 0 (finK E_ref08_Check po_ref08_Check [.tmp 2]) (startSt pi_ref08_Check 77 d) = f_ref08_Check_m () d := by kernel_rfl
def g_ref08_Check (d : Unit × ((Int × (Int × (Int × (Int × (Int × (Int × (Int × (Int × Unit)))))))) × Unit)) : Option (Unit × ((Int × Unit) × Unit)) := f_ref08_Check_m () d
theorem ok_ref08_Check : FnOk Try.prog ET0 30 pi_ref08_Check po_ref08_Check g_ref08_Check :=
  fn_of_body (E := E_ref08_Check) (envOk_add (envOk_add (envOk_add e0_ok (typed_ok ok_ref08_There)) (typed_ok ok_ref05_Check)) (typed_ok ok_ref08_Moment)) (fn := Try.f30) Try.func30 (by kernel_rfl) (by kernel_rfl) [.tmp 2] (by kernel_rfl) (by kernel_rfl) (by decide) rfl c_ref08_Check L_ref08_Check
    (by intro x hx; cases hx) (by intro k x hx; cases hx) (fun d out h => ⟨0, (q_ref08_Check_m 0 d).trans h⟩)

/- horologe/horologeref25.Weekday -/
@[reducible] def pi_ref25_Weekday : PSh := ⟨[], [.mk false [.v (.int .i64)]]⟩
@[reducible] def po_ref25_Weekday : PSh := ⟨[], [.mk false [.v .str]]⟩
def f_ref25_Weekday_m (T : Unit) (d : Unit × ((Int × Unit) × Unit)) : Option (Unit × ((ByteArray × Unit) × Unit)) :=
  let x1 : Bool := (decide (d.2.1.1 < (1 : Int)))
  bif x1 then (
  some ((), (((⟨#[]⟩ : ByteArray), ()), ())))
  else (
  let x2 : Bool := (decide (d.2.1.1 > (7 : Int)))
  bif x2 then (
  some ((), (((⟨#[]⟩ : ByteArray), ()), ())))
  else (
  let x3 : (List ByteArray) := ([(⟨#[77, 111, 110]⟩ : ByteArray), (⟨#[84, 117, 101]⟩ : ByteArray), (⟨#[87, 101, 100]⟩ : ByteArray), (⟨#[84, 104, 117]⟩ : ByteArray), (⟨#[70, 114, 105]⟩ : ByteArray), (⟨#[83, 97, 116]⟩ : ByteArray), (⟨#[83, 117, 110]⟩ : ByteArray)] : List ByteArray)
  let x4 : Int := (isub .i64 d.2.1.1 (1 : Int))
  bif decide ((0 : Int) ≤ x4) && decide (x4 < (x3.length : Int)) then (
  some ((), (((gd .str x3 x4), ()), ())))
  else none))
def c_ref25_Weekday : List Nat := []
def L_ref25_Weekday (_ : Nat) : Pts po_ref25_Weekday.den := []
def E_ref25_Weekday : Env := E0
theorem q_ref25_Weekday_m (k : Nat) (d : Unit × ((Int × Unit) × Unit)) : evCode E_ref25_Weekday (tab (L_ref25_Weekday k)) c_ref25_Weekday (bodyOf Try.f37) 0 (finK E_ref25_Weekday po_ref25_Weekday [.tmp 2]) (startSt pi_ref25_Weekday 14 d) = f_ref25_Weekday_m () d := by kernel_rfl
def g_ref25_Weekday (d : Unit × ((Int × Unit) × Unit)) : Option (Unit × ((ByteArray × Unit) × Unit)) := f_ref25_Weekday_m () d
theorem ok_ref25_Weekday : FnOk Try.prog ET0 37 pi_ref25_Weekday po_ref25_Weekday g_ref25_Weekday :=
  fn_of_body (E := E_ref25_Weekday) e0_ok (fn := Try.f37) Try.func37 (by kernel_rfl) (by kernel_rfl) [.tmp 2] (by kernel_rfl) (by kernel_rfl) (by decide) rfl c_ref25_Weekday L_ref25_Weekday
    (by intro x hx; cases hx) (by intro k x hx; cases hx) (fun d out h => ⟨0, (q_ref25_Weekday_m 0 d).trans h⟩)

/- horologe/horologeref25.Month -/
@[reducible] def pi_ref25_Month : PSh := ⟨[], [.mk false [.v (.int .i64)]]⟩
@[reducible] def po_ref25_Month : PSh := ⟨[], [.mk false [.v .str]]⟩
def f_ref25_Month_m (T : Unit) (d : Unit × ((Int × Unit) × Unit)) : Option (Unit × ((ByteArray × Unit) × Unit)) :=
  let x1 : Bool := (decide (d.2.1.1 < (1 : Int)))
  bif x1 then (
  some ((), (((⟨#[]⟩ : ByteArray), ()), ())))
  else (
  let x2 : Bool := (decide (d.2.1.1 > (12 : Int)))
  bif x2 then (
  some ((), (((⟨#[]⟩ : ByteArray), ()), ())))
  else (
  let x3 : (List ByteArray) := ([(⟨#[74, 97, 110]⟩ : ByteArray), (⟨#[70, 101, 98]⟩ : ByteArray), (⟨#[77, 97, 114]⟩ : ByteArray), (⟨#[65, 112, 114]⟩ : ByteArray), (⟨#[77, 97, 121]⟩ : ByteArray), (⟨#[74, 117, 110]⟩ : ByteArray), (⟨#[74, 117, 108]⟩ : ByteArray), (⟨#[65, 117, 103]⟩ : ByteArray), (⟨#[83, 101, 112]⟩ : ByteArray), (⟨#[79, 99, 116]⟩ : ByteArray), (⟨#[78, 111, 118]⟩ : ByteArray), (⟨#[68, 101, 99]⟩ : ByteArray)] : List ByteArray)
  let x4 : Int := (isub .i64 d.2.1.1 (1 : Int))
  bif decide ((0 : Int) ≤ x4) && decide (x4 < (x3.length : Int)) then (
  some ((), (((gd .str x3 x4), ()), ())))
  else none))
def c_ref25_Month : List Nat := []
def L_ref25_Month (_ : Nat) : Pts po_ref25_Month.den := []
def E_ref25_Month : Env := E0
theorem q_ref25_Month_m (k : Nat) (d : Unit × ((Int × Unit) × Unit)) : evCode E_ref25_Month (tab (L_ref25_Month k)) c_ref25_Month (bodyOf Try.f39) 0 (finK E_ref25_Month po_ref25_Month [.tmp 2]) (startSt pi_ref25_Month 14 d) = f_ref25_Month_m () d := by kernel_rfl
def g_ref25_Month (d : Unit × ((Int × Unit) × Unit)) : Option (Unit × ((ByteArray × Unit) × Unit)) := f_ref25_Month_m () d
theorem ok_ref25_Month : FnOk Try.prog ET0 39 pi_ref25_Month po_ref25_Month g_ref25_Month :=
  fn_of_body (E := E_ref25_Month) e0_ok (fn := Try.f39) Try.func39 (by kernel_rfl) (by kernel_rfl) [.tmp 2] (by kernel_rfl) (by kernel_rfl) (by decide) rfl c_ref25_Month L_ref25_Month
    (by intro x hx; cases hx) (by intro k x hx; cases hx) (fun d out h => ⟨0, (q_ref25_Month_m 0 d).trans h⟩)

/- horologe/horologeref05.Weekday -/
@[reducible] def pi_ref05_Weekday : PSh := ⟨[], [.mk false [.v (.int .i64)]]⟩
@[reducible] def po_ref05_Weekday : PSh := ⟨[], [.mk false [.v (.int .i64)]]⟩
def f_ref05_Weekday_m (T : Unit) (d : Unit × ((Int × Unit) × Unit)) : Option (Unit × ((Int × Unit) × Unit)) :=
  let x1 : Int := (Int.tmod d.2.1.1 (7 : Int))
  let x2 : Bool := (decide (x1 < (0 : Int)))
  bif x2 then (
  let x3 : Int := (iadd .i64 x1 (7 : Int))
  let x4 : (List Int) := ([(4 : Int), (5 : Int), (6 : Int), (7 : Int), (1 : Int), (2 : Int), (3 : Int)] : List Int)
  bif decide ((0 : Int) ≤ x3) && decide (x3 < (x4.length : Int)) then (
  some ((), (((gd (.int .i64) x4 x3), ()), ())))
  else none)
  else (
  let x5 : (List Int) := ([(4 : Int), (5 : Int), (6 : Int), (7 : Int), (1 : Int), (2 : Int), (3 : Int)] : List Int)
  bif decide ((0 : Int) ≤ x1) && decide (x1 < (x5.length : Int)) then (
  some ((), (((gd (.int .i64) x5 x1), ()), ())))
  else none)
def c_ref05_Weekday : List Nat := []
def L_ref05_Weekday (_ : Nat) : Pts po_ref05_Weekday.den := []
def E_ref05_Weekday : Env := E0
theorem q_ref05_Weekday_m (k : Nat) (d : Unit × ((Int × Unit) × Unit)) : evCode E_ref05_Weekday (tab (L_ref05_Weekday k)) c_ref05_Weekday (bodyOf Try.f78) 0 (finK E_ref05_Weekday po_ref05_Weekday [.tmp 2]) (startSt pi_ref05_Weekday 14 d) = f_ref05_Weekday_m () d := by kernel_rfl
def g_ref05_Weekday (d : Unit × ((Int × Unit) × Unit)) : Option (Unit × ((Int × Unit) × Unit)) := f_ref05_Weekday_m () d
theorem ok_ref05_Weekday : FnOk Try.prog ET0 78 pi_ref05_Weekday po_ref05_Weekday g_ref05_Weekday :=
  fn_of_body (E := E_ref05_Weekday) e0_ok (fn := Try.f78) Try.func78 (by kernel_rfl) (by kernel_rfl) [.tmp 2] (by kernel_rfl) (by kernel_rfl) (by decide) rfl c_ref05_Weekday L_ref05_Weekday
    (by intro x hx; cases hx) (by intro k x hx; cases hx) (fun d out h => ⟨0, (q_ref05_Weekday_m 0 d).trans h⟩)

/- horologe/horologeref02.Raw -/
@[reducible] def pi_ref02_Raw : PSh := ⟨[], [.mk false [.v (.int .i64)], .mk false [.v (.int .i64)]]⟩
@[reducible] def po_ref02_Raw : PSh := ⟨[], [.mk false [.v .str]]⟩
@[reducible] def TT_ref02_Raw : Type := (((Unit × ((Int × Unit) × ((Int × Unit) × ((ByteArray × Unit) × Unit)))) → Option (Unit × ((ByteArray × Unit) × Unit))) × (((Unit × ((Int × Unit) × ((ByteArray × Unit) × Unit))) → Option (Unit × ((ByteArray × Unit) × Unit))) × Unit))
@[reducible] def sh_ref02_Raw_3 : PSh := ⟨[], [.mk false [.v (.int .i64)], .mk false [.v (.int .i64)], .any, .any, .any, .mk false [.v .str], .any, .any, .any, .any, .any, .any, .any, .any, .any, .any, .any, .any, .any, .any, .any, .any, .any, .any, .any, .any, .any, .any, .any, .any]⟩
@[reducible] def sh_ref02_Raw_8 : PSh := ⟨[], [.any, .mk false [.v (.int .i64)], .any, .any, .any, .mk false [.v .str], .any, .any, .any, .any, .any, .any, .any, .any, .any, .any, .any, .any, .any, .any, .any, .any, .any, .any, .any, .any, .any, .any, .any, .any]⟩
def f_ref02_Raw_p3 (T : TT_ref02_Raw) (d : Unit × ((Int × Unit) × ((Int × Unit) × ((ByteArray × Unit) × Unit)))) : Option (Unit × ((ByteArray × Unit) × Unit)) :=
  let x1 : Bool := (decide (d.2.1.1 > (0 : Int)))
  bif x1 then (
  let x2 : Int := (Int.tmod d.2.1.1 (10 : Int))
  let x3 : Int := (iadd .i64 (48 : Int) x2)
  let x4 : Int := (iconv .u8 x3)
  let x5 : (List Int) := ([x4] : List Int)
  let x6 : ByteArray := (strOf x5)
  bif fitsS x6 d.2.2.2.1.1 then (
  let x7 : ByteArray := (x6 ++ d.2.2.2.1.1)
  let x8 : Int := (iquo .i64 d.2.1.1 (10 : Int))
  (T.1 ((), ((x8, ()), ((d.2.2.1.1, ()), ((x7, ()), ()))))))
  else none)
  else (
  (T.2.1 ((), ((d.2.2.1.1, ()), ((d.2.2.2.1.1, ()), ())))))
def f_ref02_Raw_p8 (T : TT_ref02_Raw) (d : Unit × ((Int × Unit) × ((ByteArray × Unit) × Unit))) : Option (Unit × ((ByteArray × Unit) × Unit)) :=
  let x9 : Int := (d.2.2.1.1.size : Int)
  let x10 : Bool := (decide (x9 < d.2.1.1))
  bif x10 then (
  bif fitsS (⟨#[48]⟩ : ByteArray) d.2.2.1.1 then (
  let x11 : ByteArray := ((⟨#[48]⟩ : ByteArray) ++ d.2.2.1.1)
  (T.2.1 ((), ((d.2.1.1, ()), ((x11, ()), ())))))
  else none)
  else (
  let x12 : Int := (d.2.2.1.1.size : Int)
  let x13 : Bool := (x12 == (0 : Int))
  bif x13 then (
  bif fitsS (⟨#[48]⟩ : ByteArray) d.2.2.1.1 then (
  let x14 : ByteArray := ((⟨#[48]⟩ : ByteArray) ++ d.2.2.1.1)
  (T.2.1 ((), ((d.2.1.1, ()), ((x14, ()), ())))))
  else none)
  else (
  some ((), ((d.2.2.1.1, ()), ()))))
def f_ref02_Raw_t : Nat → TT_ref02_Raw
  | 0 => (fun _ => none, (fun _ => none, ()))
  | k + 1 => (f_ref02_Raw_p3 (f_ref02_Raw_t k), (f_ref02_Raw_p8 (f_ref02_Raw_t k), ()))
theorem t_ref02_Raw (k : Nat) : f_ref02_Raw_t (k + 1) = (f_ref02_Raw_p3 (f_ref02_Raw_t k), (f_ref02_Raw_p8 (f_ref02_Raw_t k), ())) := rfl
def f_ref02_Raw_m (T : TT_ref02_Raw) (d : Unit × ((Int × Unit) × ((Int × Unit) × Unit))) : Option (Unit × ((ByteArray × Unit) × Unit)) :=
  (T.1 ((), ((d.2.1.1, ()), ((d.2.2.1.1, ()), (((⟨#[]⟩ : ByteArray), ()), ())))))
def c_ref02_Raw : List Nat := []
def L_ref02_Raw (k : Nat) : Pts po_ref02_Raw.den := [(3, ⟨sh_ref02_Raw_3, (f_ref02_Raw_t k).1⟩), (8, ⟨sh_ref02_Raw_8, (f_ref02_Raw_t k).2.1⟩)]
def E_ref02_Raw : Env := E0
theorem q_ref02_Raw_3 (k : Nat) (d : Unit × ((Int × Unit) × ((Int × Unit) × ((ByteArray × Unit) × Unit)))) : evAt E_ref02_Raw (tab (L_ref02_Raw k)) c_ref02_Raw 3 (bodyOf Try.f79) 0 (finK E_ref02_Raw po_ref02_Raw [.tmp 4]) (ptSt sh_ref02_Raw_3 d) = f_ref02_Raw_p3 (f_ref02_Raw_t k) d := by kernel_rfl
theorem q_ref02_Raw_8 (k : Nat) (d : Unit × ((Int × Unit) × ((ByteArray × Unit) × Unit))) : evAt E_ref02_Raw (tab (L_ref02_Raw k)) c_ref02_Raw 8 (bodyOf Try.f79) 0 (finK E_ref02_Raw po_ref02_Raw [.tmp 4]) (ptSt sh_ref02_Raw_8 d) = f_ref02_Raw_p8 (f_ref02_Raw_t k) d := by kernel_rfl
theorem q_ref02_Raw_m (k : Nat) (d : Unit × ((Int × Unit) × ((Int × Unit) × Unit))) : evCode E_ref02_Raw (tab (L_ref02_Raw k)) c_ref02_Raw (bodyOf Try.f79) 0 (finK E_ref02_Raw po_ref02_Raw [.tmp 4]) (startSt pi_ref02_Raw 30 d) = f_ref02_Raw_m (f_ref02_Raw_t k) d := by kernel_rfl
theorem go_ref02_Raw (F : Unit × ((Int × Unit) × ((Int × Unit) × Unit)) → Option (Unit × ((ByteArray × Unit) × Unit))) (hF : ∀ d out, F d = some out → ∃ k, f_ref02_Raw_m (f_ref02_Raw_t k) d = some out) : FnOk Try.prog ET0 79 pi_ref02_Raw po_ref02_Raw F :=
  fn_of_body (E := E_ref02_Raw) e0_ok (fn := Try.f79) Try.func79 (by kernel_rfl) (by kernel_rfl) [.tmp 4] (by kernel_rfl) (by kernel_rfl) (by decide) rfl c_ref02_Raw L_ref02_Raw
    (by intro x hx d; simp only [L_ref02_Raw, List.mem_cons, List.not_mem_nil, or_false] at hx; rcases hx with rfl | rfl; rfl; rfl)
    (by intro k x hx d out h; simp only [L_ref02_Raw, List.mem_cons, List.not_mem_nil, or_false] at hx; rcases hx with rfl | rfl; exact (q_ref02_Raw_3 k d).trans h; exact (q_ref02_Raw_8 k d).trans h)
    (by intro d out h; obtain ⟨k, hk⟩ := hF d out h; exact ⟨k, (q_ref02_Raw_m k d).trans hk⟩)
def g_ref02_Raw (d : Unit × ((Int × Unit) × ((Int × Unit) × Unit))) : Option (Unit × ((ByteArray × Unit) × Unit)) := lim fun k => f_ref02_Raw_m (f_ref02_Raw_t k) d
theorem ok_ref02_Raw : FnOk Try.prog ET0 79 pi_ref02_Raw po_ref02_Raw g_ref02_Raw := go_ref02_Raw g_ref02_Raw fun d out h => lim_some h

/- horologe/horologeref25.Put -/
@[reducible] def pi_ref25_Put : PSh := ⟨[], [.mk true [.v (.int .i64), .v (.int .i64), .v (.int .i64), .v (.int .i64), .v (.int .i64), .v (.int .i64), .v (.int .i64), .v (.int .i64)]]⟩
@[reducible] def po_ref25_Put : PSh := ⟨[], [.mk false [.v .str]]⟩
def f_ref25_Put_m (T : Unit) (d : Unit × ((Int × (Int × (Int × (Int × (Int × (Int × (Int × (Int × Unit)))))))) × Unit)) : Option (Unit × ((ByteArray × Unit) × Unit)) :=
  (g_ref05_Of ((), ((d.2.1.1, ()), ((d.2.1.2.1, ()), ((d.2.1.2.2.1, ()), ()))))).bind fun x1 =>
  (g_ref05_Weekday ((), ((x1.2.1.1, ()), ()))).bind fun x2 =>
  (g_ref25_Weekday ((), ((x2.2.1.1, ()), ()))).bind fun x3 =>
  bif fitsS x3.2.1.1 (⟨#[44, 32]⟩ : ByteArray) then (
  let x4 : ByteArray := (x3.2.1.1 ++ (⟨#[44, 32]⟩ : ByteArray))
  (g_ref02_Raw ((), ((d.2.1.2.2.1, ()), (((2 : Int), ()), ())))).bind fun x5 =>
  bif fitsS x4 x5.2.1.1 then (
  let x6 : ByteArray := (x4 ++ x5.2.1.1)
  bif fitsS x6 (⟨#[32]⟩ : ByteArray) then (
  let x7 : ByteArray := (x6 ++ (⟨#[32]⟩ : ByteArray))
  (g_ref25_Month ((), ((d.2.1.2.1, ()), ()))).bind fun x8 =>
  bif fitsS x7 x8.2.1.1 then (
  let x9 : ByteArray := (x7 ++ x8.2.1.1)
  bif fitsS x9 (⟨#[32]⟩ : ByteArray) then (
  let x10 : ByteArray := (x9 ++ (⟨#[32]⟩ : ByteArray))
  (g_ref02_Raw ((), ((d.2.1.1, ()), (((4 : Int), ()), ())))).bind fun x11 =>
  bif fitsS x10 x11.2.1.1 then (
  let x12 : ByteArray := (x10 ++ x11.2.1.1)
  (g_ref02_Raw ((), ((d.2.1.2.2.2.1, ()), (((2 : Int), ()), ())))).bind fun x13 =>
  bif fitsS (⟨#[32]⟩ : ByteArray) x13.2.1.1 then (
  let x14 : ByteArray := ((⟨#[32]⟩ : ByteArray) ++ x13.2.1.1)
  bif fitsS x14 (⟨#[58]⟩ : ByteArray) then (
  let x15 : ByteArray := (x14 ++ (⟨#[58]⟩ : ByteArray))
  (g_ref02_Raw ((), ((d.2.1.2.2.2.2.1, ()), (((2 : Int), ()), ())))).bind fun x16 =>
  bif fitsS x15 x16.2.1.1 then (
  let x17 : ByteArray := (x15 ++ x16.2.1.1)
  bif fitsS x17 (⟨#[58]⟩ : ByteArray) then (
  let x18 : ByteArray := (x17 ++ (⟨#[58]⟩ : ByteArray))
  (g_ref02_Raw ((), ((d.2.1.2.2.2.2.2.1, ()), (((2 : Int), ()), ())))).bind fun x19 =>
  bif fitsS x18 x19.2.1.1 then (
  let x20 : ByteArray := (x18 ++ x19.2.1.1)
  bif fitsS x12 x20 then (
  let x21 : ByteArray := (x12 ++ x20)
  let x22 : Bool := (decide (d.2.1.2.2.2.2.2.2.2.1 < (0 : Int)))
  bif x22 then (
  let x23 : Int := (isub .i64 (0 : Int) d.2.1.2.2.2.2.2.2.2.1)
  bif fitsS x21 (⟨#[32, 45]⟩ : ByteArray) then (
  let x24 : ByteArray := (x21 ++ (⟨#[32, 45]⟩ : ByteArray))
  let x25 : Int := (iquo .i64 x23 (60 : Int))
  let x26 : Int := (imul .i64 x25 (100 : Int))
  let x27 : Int := (Int.tmod x23 (60 : Int))
  let x28 : Int := (iadd .i64 x26 x27)
  (g_ref02_Raw ((), ((x28, ()), (((4 : Int), ()), ())))).bind fun x29 =>
  bif fitsS x24 x29.2.1.1 then (
  let x30 : ByteArray := (x24 ++ x29.2.1.1)
  some ((), ((x30, ()), ())))
  else none)
  else none)
  else (
  bif fitsS x21 (⟨#[32, 43]⟩ : ByteArray) then (
  let x31 : ByteArray := (x21 ++ (⟨#[32, 43]⟩ : ByteArray))
  let x32 : Int := (iquo .i64 d.2.1.2.2.2.2.2.2.2.1 (60 : Int))
  let x33 : Int := (imul .i64 x32 (100 : Int))
  let x34 : Int := (Int.tmod d.2.1.2.2.2.2.2.2.2.1 (60 : Int))
  let x35 : Int := (iadd .i64 x33 x34)
  (g_ref02_Raw ((), ((x35, ()), (((4 : Int), ()), ())))).bind fun x36 =>
  bif fitsS x31 x36.2.1.1 then (
  let x37 : ByteArray := (x31 ++ x36.2.1.1)
  some ((), ((x37, ()), ())))
  else none)
  else none))
  else none)
  else none)
  else none)
  else none)
  else none)
  else none)
  else none)
  else none)
  else none)
  else none)
  else none)
  else none
def c_ref25_Put : List Nat := []
def L_ref25_Put (_ : Nat) : Pts po_ref25_Put.den := []
def E_ref25_Put : Env := (((((E0.add 37 (typedSem pi_ref25_Weekday po_ref25_Weekday g_ref25_Weekday)).add 39 (typedSem pi_ref25_Month po_ref25_Month g_ref25_Month)).add 64 (typedSem pi_ref05_Of po_ref05_Of g_ref05_Of)).add 78 (typedSem pi_ref05_Weekday po_ref05_Weekday g_ref05_Weekday)).add 79 (typedSem pi_ref02_Raw po_ref02_Raw g_ref02_Raw))
theorem q_ref25_Put_m (k : Nat) (d : Unit × ((Int × (Int × (Int × (Int × (Int × (Int × (Int × (Int × Unit)))))))) × Unit)) : evCode E_ref25_Put (tab (L_ref25_Put k)) c_ref25_Put (bodyOf Try.f31) 0 (finK E_ref25_Put po_ref25_Put [.tmp 2]) (startSt pi_ref25_Put 65 d) = f_ref25_Put_m () d := by kernel_rfl
def g_ref25_Put (d : Unit × ((Int × (Int × (Int × (Int × (Int × (Int × (Int × (Int × Unit)))))))) × Unit)) : Option (Unit × ((ByteArray × Unit) × Unit)) := f_ref25_Put_m () d
theorem ok_ref25_Put : FnOk Try.prog ET0 31 pi_ref25_Put po_ref25_Put g_ref25_Put :=
  fn_of_body (E := E_ref25_Put) (envOk_add (envOk_add (envOk_add (envOk_add (envOk_add e0_ok (typed_ok ok_ref25_Weekday)) (typed_ok ok_ref25_Month)) (typed_ok ok_ref05_Of)) (typed_ok ok_ref05_Weekday)) (typed_ok ok_ref02_Raw)) (fn := Try.f31) Try.func31 (by kernel_rfl) (by kernel_rfl) [.tmp 2] (by kernel_rfl) (by kernel_rfl) (by decide) rfl c_ref25_Put L_ref25_Put
    (by intro x hx; cases hx) (by intro k x hx; cases hx) (fun d out h => ⟨0, (q_ref25_Put_m 0 d).trans h⟩)

/- horologe/horologelaw25.MailPuts -/
@[reducible] def pi_law25_MailPuts : PSh := ⟨[], [.mk true [.v (.int .i64), .v (.int .i64), .v (.int .i64), .v (.int .i64), .v (.int .i64), .v (.int .i64), .v (.int .i64), .v (.int .i64)]]⟩
@[reducible] def po_law25_MailPuts : PSh := ⟨[], [.mk false [.v .bool]]⟩
@[reducible] def TT_law25_MailPuts : Type := (((((Int × (Int × (Int × (Int × (Int × (Int × (Int × (Int × Unit)))))))) × Unit) × ((ByteArray × Unit) × (((Option Int) × Unit) × (Unit × ((Int × Unit) × Unit))))) → Option (Unit × ((Bool × Unit) × Unit))) × Unit)
@[reducible] def sh_law25_MailPuts_9 : PSh := ⟨[.var 38 [.v (.int .i64), .v (.int .i64), .v (.int .i64), .v (.int .i64), .v (.int .i64), .v (.int .i64), .v (.int .i64), .v (.int .i64)]], [.any, .any, .any, .mk false [.v .str], .mk false [.v .err], .mk false [.ref 0 0], .mk false [.v (.int .i64)], .any, .any, .any, .any, .any, .any, .any, .any, .any, .any, .any, .any, .any, .any, .any, .any, .any, .any, .any, .any, .any, .any, .any, .any, .any, .any, .any, .any, .any, .any, .any, .any, .any, .any, .any, .any, .any, .any, .any, .any, .any, .any, .any]⟩
def f_law25_MailPuts_p9 (T : TT_law25_MailPuts) (d : ((Int × (Int × (Int × (Int × (Int × (Int × (Int × (Int × Unit)))))))) × Unit) × ((ByteArray × Unit) × (((Option Int) × Unit) × (Unit × ((Int × Unit) × Unit))))) : Option (Unit × ((Bool × Unit) × Unit)) :=
  let x14 : Bool := (d.2.2.2.2.1.1 != (0 : Int))
  bif x14 then (
  let x15 : Bool := (d.2.1.1.toList == (⟨#[]⟩ : ByteArray).toList)
  bif x15 then (
  (g_hnum_Num ((), ((d.2.2.1.1, ()), ()))).bind fun x16 =>
  let x17 : Bool := (x16.2.1.1 == d.2.2.2.2.1.1)
  some ((), ((x17, ()), ())))
  else (
  some ((), ((false, ()), ()))))
  else (
  bif d.2.2.1.1.isNone then (
  (g_ref25_Put ((), ((d.1.1.1, (d.1.1.2.1, (d.1.1.2.2.1, (d.1.1.2.2.2.1, (d.1.1.2.2.2.2.1, (d.1.1.2.2.2.2.2.1, (d.1.1.2.2.2.2.2.2.1, (d.1.1.2.2.2.2.2.2.2.1, ())))))))), ()))).bind fun x18 =>
  let x19 : Bool := (d.2.1.1.toList == x18.2.1.1.toList)
  some ((), ((x19, ()), ())))
  else (
  some ((), ((false, ()), ()))))
def f_law25_MailPuts_t : Nat → TT_law25_MailPuts
  | 0 => (fun _ => none, ())
  | k + 1 => (f_law25_MailPuts_p9 (f_law25_MailPuts_t k), ())
theorem t_law25_MailPuts (k : Nat) : f_law25_MailPuts_t (k + 1) = (f_law25_MailPuts_p9 (f_law25_MailPuts_t k), ()) := rfl
def f_law25_MailPuts_m (T : TT_law25_MailPuts) (d : Unit × ((Int × (Int × (Int × (Int × (Int × (Int × (Int × (Int × Unit)))))))) × Unit)) : Option (Unit × ((Bool × Unit) × Unit)) :=
  (g_law25_alive ((), ())).bind fun x1 =>
  let x2 : Bool := (!x1.2.1.1)
  bif x2 then (
  some ((), ((false, ()), ())))
  else (
  (g_mail_Put ((), ((d.2.1.1, (d.2.1.2.1, (d.2.1.2.2.1, (d.2.1.2.2.2.1, (d.2.1.2.2.2.2.1, (d.2.1.2.2.2.2.2.1, (d.2.1.2.2.2.2.2.2.1, (d.2.1.2.2.2.2.2.2.2.1, ())))))))), ()))).bind fun x3 =>
  (g_law08_Document ((), ((d.2.1.1, (d.2.1.2.1, (d.2.1.2.2.1, (d.2.1.2.2.2.1, (d.2.1.2.2.2.2.1, (d.2.1.2.2.2.2.2.1, (d.2.1.2.2.2.2.2.2.1, (d.2.1.2.2.2.2.2.2.2.1, ())))))))), ()))).bind fun x4 =>
  (g_ref08_Check ((), ((x4.2.1.1, (x4.2.1.2.1, (x4.2.1.2.2.1, (x4.2.1.2.2.2.1, (x4.2.1.2.2.2.2.1, (x4.2.1.2.2.2.2.2.1, (x4.2.1.2.2.2.2.2.2.1, (x4.2.1.2.2.2.2.2.2.2.1, ())))))))), ()))).bind fun x5 =>
  let x6 : Bool := (x5.2.1.1 == (0 : Int))
  bif x6 then (
  let x7 : Bool := (decide (d.2.1.1 < (1900 : Int)))
  bif x7 then (
  let x8 : Bool := ((13 : Int) == (0 : Int))
  bif x8 then (
  let x9 : Bool := (d.2.1.2.2.2.2.2.2.1 != (0 : Int))
  bif x9 then (
  (T.1 (((x4.2.1.1, (x4.2.1.2.1, (x4.2.1.2.2.1, (x4.2.1.2.2.2.1, (x4.2.1.2.2.2.2.1, (x4.2.1.2.2.2.2.2.1, (x4.2.1.2.2.2.2.2.2.1, (x4.2.1.2.2.2.2.2.2.2.1, ())))))))), ()), ((x3.2.1.1, ()), ((x3.2.2.1.1, ()), ((), (((1 : Int), ()), ())))))))
  else (
  (T.1 (((x4.2.1.1, (x4.2.1.2.1, (x4.2.1.2.2.1, (x4.2.1.2.2.2.1, (x4.2.1.2.2.2.2.1, (x4.2.1.2.2.2.2.2.1, (x4.2.1.2.2.2.2.2.2.1, (x4.2.1.2.2.2.2.2.2.2.1, ())))))))), ()), ((x3.2.1.1, ()), ((x3.2.2.1.1, ()), ((), (((13 : Int), ()), ()))))))))
  else (
  (T.1 (((x4.2.1.1, (x4.2.1.2.1, (x4.2.1.2.2.1, (x4.2.1.2.2.2.1, (x4.2.1.2.2.2.2.1, (x4.2.1.2.2.2.2.2.1, (x4.2.1.2.2.2.2.2.2.1, (x4.2.1.2.2.2.2.2.2.2.1, ())))))))), ()), ((x3.2.1.1, ()), ((x3.2.2.1.1, ()), ((), (((13 : Int), ()), ()))))))))
  else (
  let x10 : Bool := (x5.2.1.1 == (0 : Int))
  bif x10 then (
  let x11 : Bool := (d.2.1.2.2.2.2.2.2.1 != (0 : Int))
  bif x11 then (
  (T.1 (((x4.2.1.1, (x4.2.1.2.1, (x4.2.1.2.2.1, (x4.2.1.2.2.2.1, (x4.2.1.2.2.2.2.1, (x4.2.1.2.2.2.2.2.1, (x4.2.1.2.2.2.2.2.2.1, (x4.2.1.2.2.2.2.2.2.2.1, ())))))))), ()), ((x3.2.1.1, ()), ((x3.2.2.1.1, ()), ((), (((1 : Int), ()), ())))))))
  else (
  (T.1 (((x4.2.1.1, (x4.2.1.2.1, (x4.2.1.2.2.1, (x4.2.1.2.2.2.1, (x4.2.1.2.2.2.2.1, (x4.2.1.2.2.2.2.2.1, (x4.2.1.2.2.2.2.2.2.1, (x4.2.1.2.2.2.2.2.2.2.1, ())))))))), ()), ((x3.2.1.1, ()), ((x3.2.2.1.1, ()), ((), ((x5.2.1.1, ()), ()))))))))
  else (
  (T.1 (((x4.2.1.1, (x4.2.1.2.1, (x4.2.1.2.2.1, (x4.2.1.2.2.2.1, (x4.2.1.2.2.2.2.1, (x4.2.1.2.2.2.2.2.1, (x4.2.1.2.2.2.2.2.2.1, (x4.2.1.2.2.2.2.2.2.2.1, ())))))))), ()), ((x3.2.1.1, ()), ((x3.2.2.1.1, ()), ((), ((x5.2.1.1, ()), ())))))))))
  else (
  let x12 : Bool := (x5.2.1.1 == (0 : Int))
  bif x12 then (
  let x13 : Bool := (d.2.1.2.2.2.2.2.2.1 != (0 : Int))
  bif x13 then (
  (T.1 (((x4.2.1.1, (x4.2.1.2.1, (x4.2.1.2.2.1, (x4.2.1.2.2.2.1, (x4.2.1.2.2.2.2.1, (x4.2.1.2.2.2.2.2.1, (x4.2.1.2.2.2.2.2.2.1, (x4.2.1.2.2.2.2.2.2.2.1, ())))))))), ()), ((x3.2.1.1, ()), ((x3.2.2.1.1, ()), ((), (((1 : Int), ()), ())))))))
  else (
  (T.1 (((x4.2.1.1, (x4.2.1.2.1, (x4.2.1.2.2.1, (x4.2.1.2.2.2.1, (x4.2.1.2.2.2.2.1, (x4.2.1.2.2.2.2.2.1, (x4.2.1.2.2.2.2.2.2.1, (x4.2.1.2.2.2.2.2.2.2.1, ())))))))), ()), ((x3.2.1.1, ()), ((x3.2.2.1.1, ()), ((), ((x5.2.1.1, ()), ()))))))))
  else (
  (T.1 (((x4.2.1.1, (x4.2.1.2.1, (x4.2.1.2.2.1, (x4.2.1.2.2.2.1, (x4.2.1.2.2.2.2.1, (x4.2.1.2.2.2.2.2.1, (x4.2.1.2.2.2.2.2.2.1, (x4.2.1.2.2.2.2.2.2.2.1, ())))))))), ()), ((x3.2.1.1, ()), ((x3.2.2.1.1, ()), ((), ((x5.2.1.1, ()), ())))))))))
def c_law25_MailPuts : List Nat := [9]
def L_law25_MailPuts (k : Nat) : Pts po_law25_MailPuts.den := [(9, ⟨sh_law25_MailPuts_9, (f_law25_MailPuts_t k).1⟩)]
def E_law25_MailPuts : Env := ((((((E0.add 15 (typedSem pi_hnum_Num po_hnum_Num g_hnum_Num)).add 19 (typedSem pi_law08_Document po_law08_Document g_law08_Document)).add 28 (typedSem pi_law25_alive po_law25_alive g_law25_alive)).add 29 (typedSem pi_mail_Put po_mail_Put g_mail_Put)).add 30 (typedSem pi_ref08_Check po_ref08_Check g_ref08_Check)).add 31 (typedSem pi_ref25_Put po_ref25_Put g_ref25_Put))
theorem q_law25_MailPuts_9 (k : Nat) (d : ((Int × (Int × (Int × (Int × (Int × (Int × (Int × (Int × Unit)))))))) × Unit) × ((ByteArray × Unit) × (((Option Int) × Unit) × (Unit × ((Int × Unit) × Unit))))) : evAt E_law25_MailPuts (tab (L_law25_MailPuts k)) c_law25_MailPuts 9 (bodyOf Try.f6) 0 (finK E_law25_MailPuts po_law25_MailPuts [.tmp 2]) (ptSt sh_law25_MailPuts_9 d) = f_law25_MailPuts_p9 (f_law25_MailPuts_t k) d := by kernel_rfl
theorem q_law25_MailPuts_m (k : Nat) (d : Unit × ((Int × (Int × (Int × (Int × (Int × (Int × (Int × (Int × Unit)))))))) × Unit)) : evCode E_law25_MailPuts (tab (L_law25_MailPuts k)) c_law25_MailPuts (bodyOf Try.f6) 0 (finK E_law25_MailPuts po_law25_MailPuts [.tmp 2]) (startSt pi_law25_MailPuts 50 d) = f_law25_MailPuts_m (f_law25_MailPuts_t k) d := by kernel_rfl
theorem go_law25_MailPuts (F : Unit × ((Int × (Int × (Int × (Int × (Int × (Int × (Int × (Int × Unit)))))))) × Unit) → Option (Unit × ((Bool × Unit) × Unit))) (hF : ∀ d out, F d = some out → ∃ k, f_law25_MailPuts_m (f_law25_MailPuts_t k) d = some out) : FnOk Try.prog ET0 6 pi_law25_MailPuts po_law25_MailPuts F :=
  fn_of_body (E := E_law25_MailPuts) (envOk_add (envOk_add (envOk_add (envOk_add (envOk_add (envOk_add e0_ok (typed_ok ok_hnum_Num)) (typed_ok ok_law08_Document)) (typed_ok ok_law25_alive)) (typed_ok ok_mail_Put)) (typed_ok ok_ref08_Check)) (typed_ok ok_ref25_Put)) (fn := Try.f6) Try.func6 (by kernel_rfl) (by kernel_rfl) [.tmp 2] (by kernel_rfl) (by kernel_rfl) (by decide) rfl c_law25_MailPuts L_law25_MailPuts
    (by intro x hx d; simp only [L_law25_MailPuts, List.mem_cons, List.not_mem_nil, or_false] at hx; subst hx; rfl)
    (by intro k x hx d out h; simp only [L_law25_MailPuts, List.mem_cons, List.not_mem_nil, or_false] at hx; subst hx; exact (q_law25_MailPuts_9 k d).trans h)
    (by intro d out h; obtain ⟨k, hk⟩ := hF d out h; exact ⟨k, (q_law25_MailPuts_m k d).trans hk⟩)
def g_law25_MailPuts (d : Unit × ((Int × (Int × (Int × (Int × (Int × (Int × (Int × (Int × Unit)))))))) × Unit)) : Option (Unit × ((Bool × Unit) × Unit)) := lim fun k => f_law25_MailPuts_m (f_law25_MailPuts_t k) d
theorem ok_law25_MailPuts : FnOk Try.prog ET0 6 pi_law25_MailPuts po_law25_MailPuts g_law25_MailPuts := go_law25_MailPuts g_law25_MailPuts fun d out h => lim_some h

/- horologe/horologeref25.letter -/
@[reducible] def pi_ref25_letter : PSh := ⟨[], [.mk false [.v (.int .u8)]]⟩
@[reducible] def po_ref25_letter : PSh := ⟨[], [.mk false [.v .bool]]⟩
def f_ref25_letter_m (T : Unit) (d : Unit × ((Int × Unit) × Unit)) : Option (Unit × ((Bool × Unit) × Unit)) :=
  let x1 : Bool := (decide (d.2.1.1 ≥ (65 : Int)))
  bif x1 then (
  let x2 : Bool := (decide (d.2.1.1 ≤ (90 : Int)))
  bif x2 then (
  some ((), ((true, ()), ())))
  else (
  let x3 : Bool := (decide (d.2.1.1 ≥ (97 : Int)))
  bif x3 then (
  let x4 : Bool := (decide (d.2.1.1 ≤ (122 : Int)))
  some ((), ((x4, ()), ())))
  else (
  some ((), ((false, ()), ())))))
  else (
  let x5 : Bool := (decide (d.2.1.1 ≥ (97 : Int)))
  bif x5 then (
  let x6 : Bool := (decide (d.2.1.1 ≤ (122 : Int)))
  some ((), ((x6, ()), ())))
  else (
  some ((), ((false, ()), ()))))
def c_ref25_letter : List Nat := []
def L_ref25_letter (_ : Nat) : Pts po_ref25_letter.den := []
def E_ref25_letter : Env := E0
theorem q_ref25_letter_m (k : Nat) (d : Unit × ((Int × Unit) × Unit)) : evCode E_ref25_letter (tab (L_ref25_letter k)) c_ref25_letter (bodyOf Try.f81) 0 (finK E_ref25_letter po_ref25_letter [.tmp 2]) (startSt pi_ref25_letter 17 d) = f_ref25_letter_m () d := by kernel_rfl
def g_ref25_letter (d : Unit × ((Int × Unit) × Unit)) : Option (Unit × ((Bool × Unit) × Unit)) := f_ref25_letter_m () d
theorem ok_ref25_letter : FnOk Try.prog ET0 81 pi_ref25_letter po_ref25_letter g_ref25_letter :=
  fn_of_body (E := E_ref25_letter) e0_ok (fn := Try.f81) Try.func81 (by kernel_rfl) (by kernel_rfl) [.tmp 2] (by kernel_rfl) (by kernel_rfl) (by decide) rfl c_ref25_letter L_ref25_letter
    (by intro x hx; cases hx) (by intro k x hx; cases hx) (fun d out h => ⟨0, (q_ref25_letter_m 0 d).trans h⟩)
end
end Go.Proofs.Yticfncahnhbhbaa.Ev
