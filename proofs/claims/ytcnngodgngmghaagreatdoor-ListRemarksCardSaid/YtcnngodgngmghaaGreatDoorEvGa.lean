/- Printed by wip/tools/evgen.py. -/
import Derived.Test.YtcnngodgngmghaaGreatDoorEv32
import Derived.Test.YtcnngodgngmghaaGreatDoorShelf
import Derived.Test.YtcnngodgngmghaaGreatDoorEv41
import Derived.Test.YtcnngodgngmghaaGreatDoorEv43
import Derived.Test.YtcnngodgngmghaaGreatDoorEv42
import Derived.Test.YtcnngodgngmghaaGreatDoorEvE
import Derived.Test.YtcnngodgngmghaaGreatDoorProg
import Derived.KernelRfl
set_option maxRecDepth 100000
set_option maxHeartbeats 2000000
set_option linter.unusedVariables false
namespace Go.Proofs.YtcnngodgngmghaaGreatDoor.Ev
open Go
noncomputable section
abbrev vI : LSh := .v (.int .i64)
abbrev vB : LSh := .v .bool
abbrev vS : LSh := .v .str
abbrev vE : LSh := .v .err
abbrev v8 : LSh := .v (.int .u8)
def rows0 : List (TypeId × Row) := [
  (2, ⟨.int .i64, 1, 8, (.int .i64), [AV.val (.int .i64) (0 : Int)], none⟩),
  (3, ⟨.int .i64, 1, 8, (.int .i64), [AV.val (.int .i64) (0 : Int)], none⟩),
  (5, ⟨.int .u8, 1, 1, (.int .u8), [AV.val (.int .u8) (0 : Int)], none⟩),
  (9, ⟨.str, 1, 16, .str, [AV.val .str ByteArray.empty], none⟩),
  (23, ⟨.ptr, 1, 8, (.nptr (.pair (.sl (.pair (.int .i64) (.int .i64))) (.pair (.int .i64) (.int .i64)))), [AV.nilP], none⟩),
  (25, ⟨.iface, 1, 16, .err, [AV.val .err (none : Option Int)], none⟩),
  (35, ⟨.int .u32, 1, 4, (.int .u32), [AV.val (.int .u32) (0 : Int)], none⟩),
  (36, ⟨.arr 5 35, 5, 20, (.pair (.int .u32) (.pair (.int .u32) (.pair (.int .u32) (.pair (.int .u32) (.int .u32))))), [AV.val (.int .u32) (0 : Int), AV.val (.int .u32) (0 : Int), AV.val (.int .u32) (0 : Int), AV.val (.int .u32) (0 : Int), AV.val (.int .u32) (0 : Int)], some [.int .u32, .int .u32, .int .u32, .int .u32, .int .u32]⟩),
  (42, ⟨.slice 9, 1, 24, (.sl .str), [AV.nilS], none⟩),
  (46, ⟨.slice 70, 1, 24, (.sl (.pair (.int .i64) (.int .i64))), [AV.nilS], none⟩),
  (53, ⟨.arr 20 5, 20, 20, (.pair (.int .u8) (.pair (.int .u8) (.pair (.int .u8) (.pair (.int .u8) (.pair (.int .u8) (.pair (.int .u8) (.pair (.int .u8) (.pair (.int .u8) (.pair (.int .u8) (.pair (.int .u8) (.pair (.int .u8) (.pair (.int .u8) (.pair (.int .u8) (.pair (.int .u8) (.pair (.int .u8) (.pair (.int .u8) (.pair (.int .u8) (.pair (.int .u8) (.pair (.int .u8) (.int .u8)))))))))))))))))))), [AV.val (.int .u8) (0 : Int), AV.val (.int .u8) (0 : Int), AV.val (.int .u8) (0 : Int), AV.val (.int .u8) (0 : Int), AV.val (.int .u8) (0 : Int), AV.val (.int .u8) (0 : Int), AV.val (.int .u8) (0 : Int), AV.val (.int .u8) (0 : Int), AV.val (.int .u8) (0 : Int), AV.val (.int .u8) (0 : Int), AV.val (.int .u8) (0 : Int), AV.val (.int .u8) (0 : Int), AV.val (.int .u8) (0 : Int), AV.val (.int .u8) (0 : Int), AV.val (.int .u8) (0 : Int), AV.val (.int .u8) (0 : Int), AV.val (.int .u8) (0 : Int), AV.val (.int .u8) (0 : Int), AV.val (.int .u8) (0 : Int), AV.val (.int .u8) (0 : Int)], some [.int .u8, .int .u8, .int .u8, .int .u8, .int .u8, .int .u8, .int .u8, .int .u8, .int .u8, .int .u8, .int .u8, .int .u8, .int .u8, .int .u8, .int .u8, .int .u8, .int .u8, .int .u8, .int .u8, .int .u8]⟩),
  (57, ⟨.int .i64, 1, 8, (.int .i64), [AV.val (.int .i64) (0 : Int)], none⟩),
  (63, ⟨.slice 5, 1, 24, (.sl (.int .u8)), [AV.nilS], none⟩),
  (70, ⟨.struct [(0, 1, false), (1, 1, false)], 2, 16, (.pair (.int .i64) (.int .i64)), [AV.val (.int .i64) (0 : Int), AV.val (.int .i64) (0 : Int)], some [.int .i64, .int .i64]⟩),
  (73, ⟨.ptr, 1, 8, (.nptr (.int .i64)), [AV.nilP], none⟩),
  (74, ⟨.ptr, 1, 8, (.nptr (.pair (.int .u32) (.pair (.int .u32) (.pair (.int .u32) (.pair (.int .u32) (.int .u32)))))), [AV.nilP], none⟩),
  (76, ⟨.struct [(0, 1, false), (1, 1, false), (2, 1, false), (3, 1, false)], 4, 48, (.pair (.sl (.pair (.int .i64) (.int .i64))) (.pair (.nptr (.int .i64)) (.pair (.nptr (.int .i64)) (.nptr (.pair (.int .u32) (.pair (.int .u32) (.pair (.int .u32) (.pair (.int .u32) (.int .u32))))))))), [AV.nilS, AV.nilP, AV.nilP, AV.nilP], none⟩),
  (88, ⟨.struct [(0, 1, false), (1, 1, false), (2, 1, false)], 3, 40, (.pair (.sl (.pair (.int .i64) (.int .i64))) (.pair (.int .i64) (.int .i64))), [AV.nilS, AV.val (.int .i64) (0 : Int), AV.val (.int .i64) (0 : Int)], none⟩),
  (91, ⟨.struct [(0, 1, false), (1, 1, false)], 2, 40, (.pair (.sl (.int .u8)) .err), [AV.nilS, AV.val .err (none : Option Int)], none⟩),
  (104, ⟨.int .u64, 1, 8, (.int .u64), [AV.val (.int .u64) (0 : Int)], none⟩),
  (117, ⟨.slice 35, 1, 24, (.sl (.int .u32)), [AV.nilS], none⟩),
  (129, ⟨.int .u64, 1, 8, (.int .u64), [AV.val (.int .u64) (0 : Int)], none⟩),
  (135, ⟨.arr 64 5, 64, 64, (.pair (.int .u8) (.pair (.int .u8) (.pair (.int .u8) (.pair (.int .u8) (.pair (.int .u8) (.pair (.int .u8) (.pair (.int .u8) (.pair (.int .u8) (.pair (.int .u8) (.pair (.int .u8) (.pair (.int .u8) (.pair (.int .u8) (.pair (.int .u8) (.pair (.int .u8) (.pair (.int .u8) (.pair (.int .u8) (.pair (.int .u8) (.pair (.int .u8) (.pair (.int .u8) (.pair (.int .u8) (.pair (.int .u8) (.pair (.int .u8) (.pair (.int .u8) (.pair (.int .u8) (.pair (.int .u8) (.pair (.int .u8) (.pair (.int .u8) (.pair (.int .u8) (.pair (.int .u8) (.pair (.int .u8) (.pair (.int .u8) (.pair (.int .u8) (.pair (.int .u8) (.pair (.int .u8) (.pair (.int .u8) (.pair (.int .u8) (.pair (.int .u8) (.pair (.int .u8) (.pair (.int .u8) (.pair (.int .u8) (.pair (.int .u8) (.pair (.int .u8) (.pair (.int .u8) (.pair (.int .u8) (.pair (.int .u8) (.pair (.int .u8) (.pair (.int .u8) (.pair (.int .u8) (.pair (.int .u8) (.pair (.int .u8) (.pair (.int .u8) (.pair (.int .u8) (.pair (.int .u8) (.pair (.int .u8) (.pair (.int .u8) (.pair (.int .u8) (.pair (.int .u8) (.pair (.int .u8) (.pair (.int .u8) (.pair (.int .u8) (.pair (.int .u8) (.pair (.int .u8) (.pair (.int .u8) (.int .u8)))))))))))))))))))))))))))))))))))))))))))))))))))))))))))))))), [AV.val (.int .u8) (0 : Int), AV.val (.int .u8) (0 : Int), AV.val (.int .u8) (0 : Int), AV.val (.int .u8) (0 : Int), AV.val (.int .u8) (0 : Int), AV.val (.int .u8) (0 : Int), AV.val (.int .u8) (0 : Int), AV.val (.int .u8) (0 : Int), AV.val (.int .u8) (0 : Int), AV.val (.int .u8) (0 : Int), AV.val (.int .u8) (0 : Int), AV.val (.int .u8) (0 : Int), AV.val (.int .u8) (0 : Int), AV.val (.int .u8) (0 : Int), AV.val (.int .u8) (0 : Int), AV.val (.int .u8) (0 : Int), AV.val (.int .u8) (0 : Int), AV.val (.int .u8) (0 : Int), AV.val (.int .u8) (0 : Int), AV.val (.int .u8) (0 : Int), AV.val (.int .u8) (0 : Int), AV.val (.int .u8) (0 : Int), AV.val (.int .u8) (0 : Int), AV.val (.int .u8) (0 : Int), AV.val (.int .u8) (0 : Int), AV.val (.int .u8) (0 : Int), AV.val (.int .u8) (0 : Int), AV.val (.int .u8) (0 : Int), AV.val (.int .u8) (0 : Int), AV.val (.int .u8) (0 : Int), AV.val (.int .u8) (0 : Int), AV.val (.int .u8) (0 : Int), AV.val (.int .u8) (0 : Int), AV.val (.int .u8) (0 : Int), AV.val (.int .u8) (0 : Int), AV.val (.int .u8) (0 : Int), AV.val (.int .u8) (0 : Int), AV.val (.int .u8) (0 : Int), AV.val (.int .u8) (0 : Int), AV.val (.int .u8) (0 : Int), AV.val (.int .u8) (0 : Int), AV.val (.int .u8) (0 : Int), AV.val (.int .u8) (0 : Int), AV.val (.int .u8) (0 : Int), AV.val (.int .u8) (0 : Int), AV.val (.int .u8) (0 : Int), AV.val (.int .u8) (0 : Int), AV.val (.int .u8) (0 : Int), AV.val (.int .u8) (0 : Int), AV.val (.int .u8) (0 : Int), AV.val (.int .u8) (0 : Int), AV.val (.int .u8) (0 : Int), AV.val (.int .u8) (0 : Int), AV.val (.int .u8) (0 : Int), AV.val (.int .u8) (0 : Int), AV.val (.int .u8) (0 : Int), AV.val (.int .u8) (0 : Int), AV.val (.int .u8) (0 : Int), AV.val (.int .u8) (0 : Int), AV.val (.int .u8) (0 : Int), AV.val (.int .u8) (0 : Int), AV.val (.int .u8) (0 : Int), AV.val (.int .u8) (0 : Int), AV.val (.int .u8) (0 : Int)], some [.int .u8, .int .u8, .int .u8, .int .u8, .int .u8, .int .u8, .int .u8, .int .u8, .int .u8, .int .u8, .int .u8, .int .u8, .int .u8, .int .u8, .int .u8, .int .u8, .int .u8, .int .u8, .int .u8, .int .u8, .int .u8, .int .u8, .int .u8, .int .u8, .int .u8, .int .u8, .int .u8, .int .u8, .int .u8, .int .u8, .int .u8, .int .u8, .int .u8, .int .u8, .int .u8, .int .u8, .int .u8, .int .u8, .int .u8, .int .u8, .int .u8, .int .u8, .int .u8, .int .u8, .int .u8, .int .u8, .int .u8, .int .u8, .int .u8, .int .u8, .int .u8, .int .u8, .int .u8, .int .u8, .int .u8, .int .u8, .int .u8, .int .u8, .int .u8, .int .u8, .int .u8, .int .u8, .int .u8, .int .u8]⟩),
  (152, ⟨.arr 80 35, 80, 320, .unit, [AV.val (.int .u32) (0 : Int), AV.val (.int .u32) (0 : Int), AV.val (.int .u32) (0 : Int), AV.val (.int .u32) (0 : Int), AV.val (.int .u32) (0 : Int), AV.val (.int .u32) (0 : Int), AV.val (.int .u32) (0 : Int), AV.val (.int .u32) (0 : Int), AV.val (.int .u32) (0 : Int), AV.val (.int .u32) (0 : Int), AV.val (.int .u32) (0 : Int), AV.val (.int .u32) (0 : Int), AV.val (.int .u32) (0 : Int), AV.val (.int .u32) (0 : Int), AV.val (.int .u32) (0 : Int), AV.val (.int .u32) (0 : Int), AV.val (.int .u32) (0 : Int), AV.val (.int .u32) (0 : Int), AV.val (.int .u32) (0 : Int), AV.val (.int .u32) (0 : Int), AV.val (.int .u32) (0 : Int), AV.val (.int .u32) (0 : Int), AV.val (.int .u32) (0 : Int), AV.val (.int .u32) (0 : Int), AV.val (.int .u32) (0 : Int), AV.val (.int .u32) (0 : Int), AV.val (.int .u32) (0 : Int), AV.val (.int .u32) (0 : Int), AV.val (.int .u32) (0 : Int), AV.val (.int .u32) (0 : Int), AV.val (.int .u32) (0 : Int), AV.val (.int .u32) (0 : Int), AV.val (.int .u32) (0 : Int), AV.val (.int .u32) (0 : Int), AV.val (.int .u32) (0 : Int), AV.val (.int .u32) (0 : Int), AV.val (.int .u32) (0 : Int), AV.val (.int .u32) (0 : Int), AV.val (.int .u32) (0 : Int), AV.val (.int .u32) (0 : Int), AV.val (.int .u32) (0 : Int), AV.val (.int .u32) (0 : Int), AV.val (.int .u32) (0 : Int), AV.val (.int .u32) (0 : Int), AV.val (.int .u32) (0 : Int), AV.val (.int .u32) (0 : Int), AV.val (.int .u32) (0 : Int), AV.val (.int .u32) (0 : Int), AV.val (.int .u32) (0 : Int), AV.val (.int .u32) (0 : Int), AV.val (.int .u32) (0 : Int), AV.val (.int .u32) (0 : Int), AV.val (.int .u32) (0 : Int), AV.val (.int .u32) (0 : Int), AV.val (.int .u32) (0 : Int), AV.val (.int .u32) (0 : Int), AV.val (.int .u32) (0 : Int), AV.val (.int .u32) (0 : Int), AV.val (.int .u32) (0 : Int), AV.val (.int .u32) (0 : Int), AV.val (.int .u32) (0 : Int), AV.val (.int .u32) (0 : Int), AV.val (.int .u32) (0 : Int), AV.val (.int .u32) (0 : Int), AV.val (.int .u32) (0 : Int), AV.val (.int .u32) (0 : Int), AV.val (.int .u32) (0 : Int), AV.val (.int .u32) (0 : Int), AV.val (.int .u32) (0 : Int), AV.val (.int .u32) (0 : Int), AV.val (.int .u32) (0 : Int), AV.val (.int .u32) (0 : Int), AV.val (.int .u32) (0 : Int), AV.val (.int .u32) (0 : Int), AV.val (.int .u32) (0 : Int), AV.val (.int .u32) (0 : Int), AV.val (.int .u32) (0 : Int), AV.val (.int .u32) (0 : Int), AV.val (.int .u32) (0 : Int), AV.val (.int .u32) (0 : Int)], some [.int .u32, .int .u32, .int .u32, .int .u32, .int .u32, .int .u32, .int .u32, .int .u32, .int .u32, .int .u32, .int .u32, .int .u32, .int .u32, .int .u32, .int .u32, .int .u32, .int .u32, .int .u32, .int .u32, .int .u32, .int .u32, .int .u32, .int .u32, .int .u32, .int .u32, .int .u32, .int .u32, .int .u32, .int .u32, .int .u32, .int .u32, .int .u32, .int .u32, .int .u32, .int .u32, .int .u32, .int .u32, .int .u32, .int .u32, .int .u32, .int .u32, .int .u32, .int .u32, .int .u32, .int .u32, .int .u32, .int .u32, .int .u32, .int .u32, .int .u32, .int .u32, .int .u32, .int .u32, .int .u32, .int .u32, .int .u32, .int .u32, .int .u32, .int .u32, .int .u32, .int .u32, .int .u32, .int .u32, .int .u32, .int .u32, .int .u32, .int .u32, .int .u32, .int .u32, .int .u32, .int .u32, .int .u32, .int .u32, .int .u32, .int .u32, .int .u32, .int .u32, .int .u32, .int .u32, .int .u32]⟩),
  (157, ⟨.slice 104, 1, 24, (.sl (.int .u64)), [AV.nilS], none⟩),
  (171, ⟨.ptr, 1, 8, (.nptr (.pair .str (.pair (.int .i64) .err))), [AV.nilP], none⟩),
  (194, ⟨.struct [(0, 1, false), (1, 1, false), (2, 1, false)], 3, 40, (.pair .str (.pair (.int .i64) .err)), [AV.val .str ByteArray.empty, AV.val (.int .i64) (0 : Int), AV.val .err (none : Option Int)], none⟩)]
def ET0 : TypeId := 57
def E0 : Env := ⟨rows0, [], ET0, 0, [], [], []⟩
theorem e0_ok : EnvOk Tryz.prog E0 := envOk_rows (by kernel_rfl) (by kernel_rfl) 0
def gd_i64_i64 (l : List (Int × Int)) (i : Int) : (Int × Int) := gd (.pair (.int .i64) (.int .i64)) l i
/- strings.Split -/
abbrev pi_strings_Split : PSh := pi_lib_split
abbrev po_strings_Split : PSh := po_lib_split
def g_strings_Split := lib_split
theorem ok_strings_Split : FnOk Tryz.prog ET0 59 pi_strings_Split po_strings_Split g_strings_Split := lib_split_ok ⟨Tryz.f59, Tryz.func59, by kernel_rfl, by kernel_rfl⟩ Tryz.strings_Split tab_maxLen
def s_strings_Split := typedSem pi_strings_Split po_strings_Split g_strings_Split
/- strings.Trim -/
abbrev pi_strings_Trim : PSh := pi_lib_trim
abbrev po_strings_Trim : PSh := po_lib_trim
def g_strings_Trim := lib_trim
theorem ok_strings_Trim : FnOk Tryz.prog ET0 86 pi_strings_Trim po_strings_Trim g_strings_Trim := lib_trim_ok ⟨Tryz.f86, Tryz.func86, by kernel_rfl, by kernel_rfl⟩ Tryz.strings_Trim_laid
def s_strings_Trim := typedSem pi_strings_Trim po_strings_Trim g_strings_Trim
/- internal/stringslite.Clone -/
abbrev pi_internal_stringslite_Clone : PSh := pi_lib_clone
abbrev po_internal_stringslite_Clone : PSh := po_lib_clone
def g_internal_stringslite_Clone := lib_clone
theorem ok_internal_stringslite_Clone : FnOk Tryz.prog ET0 181 pi_internal_stringslite_Clone po_internal_stringslite_Clone g_internal_stringslite_Clone := lib_clone_ok ⟨Tryz.f181, Tryz.func181, by kernel_rfl, by kernel_rfl⟩ Tryz.stringslite_Clone
def s_internal_stringslite_Clone := typedSem pi_internal_stringslite_Clone po_internal_stringslite_Clone g_internal_stringslite_Clone
/- strings.IndexByte -/
abbrev pi_strings_IndexByte : PSh := pi_lib_indexByte
abbrev po_strings_IndexByte : PSh := po_lib_indexByte
def g_strings_IndexByte := lib_indexByte
theorem ok_strings_IndexByte : FnOk Tryz.prog ET0 149 pi_strings_IndexByte po_strings_IndexByte g_strings_IndexByte := lib_indexByte_ok ⟨Tryz.f149, Tryz.func149, by kernel_rfl, by kernel_rfl⟩ Tryz.strings_IndexByte
def s_strings_IndexByte := typedSem pi_strings_IndexByte po_strings_IndexByte g_strings_IndexByte
/- strings.ToLower -/
abbrev pi_strings_ToLower : PSh := pi_lib_toLower
abbrev po_strings_ToLower : PSh := po_lib_toLower
def g_strings_ToLower := lib_toLower
theorem ok_strings_ToLower : FnOk Tryz.prog ET0 148 pi_strings_ToLower po_strings_ToLower g_strings_ToLower := lib_toLower_ok ⟨Tryz.f148, Tryz.func148, by kernel_rfl, by kernel_rfl⟩ Tryz.strings_ToLower_ascii
def s_strings_ToLower := typedSem pi_strings_ToLower po_strings_ToLower g_strings_ToLower

abbrev pi_slices_Clone_leap_Row_leap_Row : PSh := ⟨[], [.mk false [.v (.sl (.pair (.int .i64) (.int .i64)))]]⟩
abbrev po_slices_Clone_leap_Row_leap_Row : PSh := ⟨[.row 70 (.pair (.int .i64) (.int .i64))], [.mk false [.osl 0]]⟩
def f_slices_Clone_leap_Row_leap_Row_m (T : Unit) (d : Unit × (((List (Int × Int)) × Unit) × Unit)) : Option (((List (Int × Int)) × Unit) × (Unit × Unit)) :=
  bif d.2.1.1.isEmpty then (
  agree (
  some ((([] : List (Int × Int)), ()), ((), ()))) (
  let x1 : (List (Int × Int)) := ([] : List (Int × Int))
  bif decide (((x1.length + d.2.1.1.length) * 16 : Nat) ≤ 140737488355328) && decide (x1.length + d.2.1.1.length ≤ 9223372036854775807) then (
  let x2 : (List (Int × Int)) := (x1 ++ d.2.1.1)
  some ((x2, ()), ((), ())))
  else none))
  else (
  let x3 : (List (Int × Int)) := ([] : List (Int × Int))
  bif decide (((x3.length + d.2.1.1.length) * 16 : Nat) ≤ 140737488355328) && decide (x3.length + d.2.1.1.length ≤ 9223372036854775807) then (
  let x4 : (List (Int × Int)) := (x3 ++ d.2.1.1)
  some ((x4, ()), ((), ())))
  else none)
def g_slices_Clone_leap_Row_leap_Row (d : Unit × (((List (Int × Int)) × Unit) × Unit)) : Option (((List (Int × Int)) × Unit) × (Unit × Unit)) := f_slices_Clone_leap_Row_leap_Row_m () d
theorem ok_slices_Clone_leap_Row_leap_Row : FnOk Tryz.prog ET0 57 pi_slices_Clone_leap_Row_leap_Row po_slices_Clone_leap_Row_leap_Row g_slices_Clone_leap_Row_leap_Row :=
 fn0 (E := E0) (pi := pi_slices_Clone_leap_Row_leap_Row) (po := po_slices_Clone_leap_Row_leap_Row) e0_ok (fn := Tryz.f57) Tryz.func57 (by kernel_rfl) (by kernel_rfl) [.tmp 2] (by kernel_rfl) rfl rfl rfl [] fun d => by kernel_rfl
def s_slices_Clone_leap_Row_leap_Row := typedSem pi_slices_Clone_leap_Row_leap_Row po_slices_Clone_leap_Row_leap_Row g_slices_Clone_leap_Row_leap_Row

abbrev pi_leap_Table_list : PSh := ⟨[], [.mk false [.v (.nptr (.pair (.sl (.pair (.int .i64) (.int .i64))) (.pair (.int .i64) (.int .i64))))]]⟩
abbrev po_leap_Table_list : PSh := ⟨[], [.mk false [.v (.sl (.pair (.int .i64) (.int .i64)))]]⟩
def f_leap_Table_list_m (T : Unit) (d : Unit × (((Option ((List (Int × Int)) × (Int × Int))) × Unit) × Unit)) : Option (Unit × (((List (Int × Int)) × Unit) × Unit)) :=
  bif d.2.1.1.isNone then (
  some ((), ((([] : List (Int × Int)), ()), ())))
  else (
  d.2.1.1.bind fun x1 =>
  some ((), ((x1.1, ()), ())))
def g_leap_Table_list (d : Unit × (((Option ((List (Int × Int)) × (Int × Int))) × Unit) × Unit)) : Option (Unit × (((List (Int × Int)) × Unit) × Unit)) := f_leap_Table_list_m () d
theorem ok_leap_Table_list : FnOk Tryz.prog ET0 68 pi_leap_Table_list po_leap_Table_list g_leap_Table_list :=
 fn0 (E := E0) (pi := pi_leap_Table_list) (po := po_leap_Table_list) e0_ok (fn := Tryz.f68) Tryz.func68 (by kernel_rfl) (by kernel_rfl) [.tmp 2] (by kernel_rfl) rfl rfl rfl [] fun d => by kernel_rfl
def s_leap_Table_list := typedSem pi_leap_Table_list po_leap_Table_list g_leap_Table_list

abbrev pi_leap_Table_Rows : PSh := ⟨[], [.mk false [.v (.nptr (.pair (.sl (.pair (.int .i64) (.int .i64))) (.pair (.int .i64) (.int .i64))))]]⟩
abbrev po_leap_Table_Rows : PSh := ⟨[.row 70 (.pair (.int .i64) (.int .i64))], [.mk false [.osl 0]]⟩
def f_leap_Table_Rows_m (T : Unit) (d : Unit × (((Option ((List (Int × Int)) × (Int × Int))) × Unit) × Unit)) : Option (((List (Int × Int)) × Unit) × (Unit × Unit)) :=
  (g_leap_Table_list ((), d.2)).bind fun x1 =>
  (g_slices_Clone_leap_Row_leap_Row ((), x1.2)).bind fun x2 =>
  some (x2.1, ((), ()))
def g_leap_Table_Rows (d : Unit × (((Option ((List (Int × Int)) × (Int × Int))) × Unit) × Unit)) : Option (((List (Int × Int)) × Unit) × (Unit × Unit)) := f_leap_Table_Rows_m () d
theorem ok_leap_Table_Rows : FnOk Tryz.prog ET0 34 pi_leap_Table_Rows po_leap_Table_Rows g_leap_Table_Rows :=
 fn0 (E := ((E0.add 57 s_slices_Clone_leap_Row_leap_Row).add 68 s_leap_Table_list)) (pi := pi_leap_Table_Rows) (po := po_leap_Table_Rows) (envOk_add (envOk_add e0_ok (typed_ok ok_slices_Clone_leap_Row_leap_Row)) (typed_ok ok_leap_Table_list)) (fn := Tryz.f34) Tryz.func34 (by kernel_rfl) (by kernel_rfl) [.tmp 2] (by kernel_rfl) rfl rfl rfl [] fun d => by kernel_rfl
def s_leap_Table_Rows := typedSem pi_leap_Table_Rows po_leap_Table_Rows g_leap_Table_Rows

abbrev pi_leap_Table_Updated : PSh := ⟨[], [.mk false [.v (.nptr (.pair (.sl (.pair (.int .i64) (.int .i64))) (.pair (.int .i64) (.int .i64))))]]⟩
abbrev po_leap_Table_Updated : PSh := ⟨[], [.mk false [vI]]⟩
def f_leap_Table_Updated_m (T : Unit) (d : Unit × (((Option ((List (Int × Int)) × (Int × Int))) × Unit) × Unit)) : Option (Unit × ((Int × Unit) × Unit)) :=
  bif d.2.1.1.isNone then (
  some ((), (((0 : Int), ()), ())))
  else (
  d.2.1.1.bind fun x1 =>
  some ((), ((x1.2.1, ()), ())))
def g_leap_Table_Updated (d : Unit × (((Option ((List (Int × Int)) × (Int × Int))) × Unit) × Unit)) : Option (Unit × ((Int × Unit) × Unit)) := f_leap_Table_Updated_m () d
theorem ok_leap_Table_Updated : FnOk Tryz.prog ET0 35 pi_leap_Table_Updated po_leap_Table_Updated g_leap_Table_Updated :=
 fn0 (E := E0) (pi := pi_leap_Table_Updated) (po := po_leap_Table_Updated) e0_ok (fn := Tryz.f35) Tryz.func35 (by kernel_rfl) (by kernel_rfl) [.tmp 2] (by kernel_rfl) rfl rfl rfl [] fun d => by kernel_rfl
def s_leap_Table_Updated := typedSem pi_leap_Table_Updated po_leap_Table_Updated g_leap_Table_Updated

abbrev pi_leap_Table_Expires : PSh := ⟨[], [.mk false [.v (.nptr (.pair (.sl (.pair (.int .i64) (.int .i64))) (.pair (.int .i64) (.int .i64))))]]⟩
abbrev po_leap_Table_Expires : PSh := ⟨[], [.mk false [vI]]⟩
def f_leap_Table_Expires_m (T : Unit) (d : Unit × (((Option ((List (Int × Int)) × (Int × Int))) × Unit) × Unit)) : Option (Unit × ((Int × Unit) × Unit)) :=
  bif d.2.1.1.isNone then (
  some ((), (((0 : Int), ()), ())))
  else (
  d.2.1.1.bind fun x1 =>
  some ((), ((x1.2.2, ()), ())))
def g_leap_Table_Expires (d : Unit × (((Option ((List (Int × Int)) × (Int × Int))) × Unit) × Unit)) : Option (Unit × ((Int × Unit) × Unit)) := f_leap_Table_Expires_m () d
theorem ok_leap_Table_Expires : FnOk Tryz.prog ET0 36 pi_leap_Table_Expires po_leap_Table_Expires g_leap_Table_Expires :=
 fn0 (E := E0) (pi := pi_leap_Table_Expires) (po := po_leap_Table_Expires) e0_ok (fn := Tryz.f36) Tryz.func36 (by kernel_rfl) (by kernel_rfl) [.tmp 2] (by kernel_rfl) rfl rfl rfl [] fun d => by kernel_rfl
def s_leap_Table_Expires := typedSem pi_leap_Table_Expires po_leap_Table_Expires g_leap_Table_Expires

abbrev pi_slices_Reverse_byte_byte_io : PSh := ⟨[.row 5 (.int .u8)], [.mk false [.osl 0]]⟩
abbrev po_slices_Reverse_byte_byte_io : PSh := ⟨[.row 5 (.int .u8)], [.mk false [.osl 0]]⟩
abbrev TT_slices_Reverse_byte_byte_io : Type := (((((List Int) × Unit) × (Unit × ((Int × Unit) × ((Int × Unit) × Unit)))) → Option (((List Int) × Unit) × (Unit × Unit))) × Unit)
abbrev sh_slices_Reverse_byte_byte_io_1 : PSh := ⟨[.row 5 (.int .u8)], [.mk false [.osl 0], .any, .mk false [vI], .mk false [vI]] ++ anyN 24⟩
def f_slices_Reverse_byte_byte_io_p1 (T : TT_slices_Reverse_byte_byte_io) (d : ((List Int) × Unit) × (Unit × ((Int × Unit) × ((Int × Unit) × Unit)))) : Option (((List Int) × Unit) × (Unit × Unit)) :=
  let x3 : Bool := (decide (d.2.2.1.1 < d.2.2.2.1.1))
  bif x3 then (
  bif decide ((0 : Int) ≤ d.2.2.2.1.1) && decide (d.2.2.2.1.1 < (d.1.1.length : Int)) then (
  bif decide ((0 : Int) ≤ d.2.2.1.1) && decide (d.2.2.1.1 < (d.1.1.length : Int)) then (
  bif decide ((0 : Int) ≤ d.2.2.1.1) && decide (d.2.2.1.1 < (d.1.1.length : Int)) then (
  let x4 : (List Int) := (List.set d.1.1 (Int.toNat d.2.2.1.1) (gd (.int .u8) d.1.1 d.2.2.2.1.1))
  bif decide ((0 : Int) ≤ d.2.2.2.1.1) && decide (d.2.2.2.1.1 < (x4.length : Int)) then (
  let x5 : (List Int) := (List.set x4 (Int.toNat d.2.2.2.1.1) (gd (.int .u8) d.1.1 d.2.2.1.1))
  let x6 : Int := (iadd .i64 d.2.2.1.1 (1 : Int))
  let x7 : Int := (isub .i64 d.2.2.2.1.1 (1 : Int))
  (T.1 ((x5, ()), ((), ((x6, ()), ((x7, ()), ()))))))
  else none)
  else none)
  else none)
  else none)
  else (
  some (d.1, ((), ())))
def f_slices_Reverse_byte_byte_io_t : Nat → TT_slices_Reverse_byte_byte_io
  | 0 => (fun _ => none, ())
  | k + 1 => (f_slices_Reverse_byte_byte_io_p1 (f_slices_Reverse_byte_byte_io_t k), ())
theorem t_slices_Reverse_byte_byte_io (k : Nat) : f_slices_Reverse_byte_byte_io_t (k + 1) = (f_slices_Reverse_byte_byte_io_p1 (f_slices_Reverse_byte_byte_io_t k), ()) := rfl
def f_slices_Reverse_byte_byte_io_m (T : TT_slices_Reverse_byte_byte_io) (d : ((List Int) × Unit) × (Unit × Unit)) : Option (((List Int) × Unit) × (Unit × Unit)) :=
  let x1 : Int := (d.1.1.length : Int)
  let x2 : Int := (isub .i64 x1 (1 : Int))
  (T.1 (d.1, ((), (((0 : Int), ()), ((x2, ()), ())))))
def g_slices_Reverse_byte_byte_io (d : ((List Int) × Unit) × (Unit × Unit)) : Option (((List Int) × Unit) × (Unit × Unit)) := lim fun k => f_slices_Reverse_byte_byte_io_m (f_slices_Reverse_byte_byte_io_t k) d
theorem ok_slices_Reverse_byte_byte_io : FnIo Tryz.prog ET0 134 pi_slices_Reverse_byte_byte_io po_slices_Reverse_byte_byte_io 0 [(0, 0, none)] g_slices_Reverse_byte_byte_io :=
 fnLio (E := (E0.kp [0])) (pi := pi_slices_Reverse_byte_byte_io) (po := po_slices_Reverse_byte_byte_io) (envOk_kp e0_ok) (fn := Tryz.f134) Tryz.func134 (by kernel_rfl) (by kernel_rfl) [] [(0, none)] [(0, 0, none)] (by kernel_rfl) rfl rfl rfl rfl rfl [] (fun k => [(1, ⟨sh_slices_Reverse_byte_byte_io_1, (f_slices_Reverse_byte_byte_io_t k).1⟩)]) (fun _ => [])
 (.intro (fun _ => rfl) trivial) (fun k => (.intro (fun d => by kernel_rfl) trivial)) trivial (fun k => trivial) (fun k d => f_slices_Reverse_byte_byte_io_m (f_slices_Reverse_byte_byte_io_t k) d) (fun k d => by kernel_rfl)
def s_slices_Reverse_byte_byte_io := ioSem pi_slices_Reverse_byte_byte_io po_slices_Reverse_byte_byte_io 0 [(0, 0, none)] g_slices_Reverse_byte_byte_io

abbrev pi_figures_raw : PSh := ⟨[], [.mk false [.v (.int .u64)], .mk false [vI]]⟩
abbrev po_figures_raw : PSh := ⟨[], [.mk false [vS]]⟩
abbrev TT_figures_raw : Type := (((((List Int) × Unit) × ((Int × Unit) × ((Int × Unit) × (Unit × Unit)))) → Option (Unit × ((ByteArray × Unit) × Unit))) × Unit)
abbrev sh_figures_raw_3 : PSh := ⟨[.row 5 (.int .u8)], [.mk false [.v (.int .u64)], .mk false [vI], .any, .any, .any, .mk false [.osl 0]] ++ anyN 22⟩
def f_figures_raw_p3 (T : TT_figures_raw) (d : ((List Int) × Unit) × ((Int × Unit) × ((Int × Unit) × (Unit × Unit)))) : Option (Unit × ((ByteArray × Unit) × Unit)) :=
  let x1 : Bool := (decide (d.2.1.1 > (0 : Int)))
  bif x1 then (
  let x2 : Int := (Int.tmod d.2.1.1 (10 : Int))
  let x3 : Int := (iconv .u8 x2)
  let x4 : Int := (iadd .u8 (48 : Int) x3)
  let x5 : (List Int) := ([x4] : List Int)
  bif decide (((d.1.1.length + x5.length) * 1 : Nat) ≤ 140737488355328) && decide (d.1.1.length + x5.length ≤ 9223372036854775807) then (
  let x6 : (List Int) := (d.1.1 ++ x5)
  let x7 : Int := (iquo .u64 d.2.1.1 (10 : Int))
  (T.1 ((x6, ()), ((x7, ()), (d.2.2.1, ((), ()))))))
  else none)
  else (
  let x8 : Int := (d.1.1.length : Int)
  let x9 : Int := (if (1 : Int) > d.2.2.1.1 then (1 : Int) else d.2.2.1.1)
  let x10 : Bool := (decide (x8 < x9))
  bif x10 then (
  let x11 : Int := (Int.tmod d.2.1.1 (10 : Int))
  let x12 : Int := (iconv .u8 x11)
  let x13 : Int := (iadd .u8 (48 : Int) x12)
  let x14 : (List Int) := ([x13] : List Int)
  bif decide (((d.1.1.length + x14.length) * 1 : Nat) ≤ 140737488355328) && decide (d.1.1.length + x14.length ≤ 9223372036854775807) then (
  let x15 : (List Int) := (d.1.1 ++ x14)
  let x16 : Int := (iquo .u64 d.2.1.1 (10 : Int))
  (T.1 ((x15, ()), ((x16, ()), (d.2.2.1, ((), ()))))))
  else none)
  else (
  (g_slices_Reverse_byte_byte_io (d.1, ((), ()))).bind fun x17 =>
  let x18 : ByteArray := (strOf x17.1.1)
  some ((), ((x18, ()), ()))))
def f_figures_raw_t : Nat → TT_figures_raw
  | 0 => (fun _ => none, ())
  | k + 1 => (f_figures_raw_p3 (f_figures_raw_t k), ())
theorem t_figures_raw (k : Nat) : f_figures_raw_t (k + 1) = (f_figures_raw_p3 (f_figures_raw_t k), ()) := rfl
def f_figures_raw_m (T : TT_figures_raw) (d : Unit × ((Int × Unit) × ((Int × Unit) × Unit))) : Option (Unit × ((ByteArray × Unit) × Unit)) :=
  (T.1 ((([] : List Int), ()), (d.2.1, (d.2.2.1, ((), ())))))
def g_figures_raw (d : Unit × ((Int × Unit) × ((Int × Unit) × Unit))) : Option (Unit × ((ByteArray × Unit) × Unit)) := lim fun k => f_figures_raw_m (f_figures_raw_t k) d
theorem ok_figures_raw : FnOk Tryz.prog ET0 94 pi_figures_raw po_figures_raw g_figures_raw :=
 fnL (E := (E0.add 134 s_slices_Reverse_byte_byte_io)) (pi := pi_figures_raw) (po := po_figures_raw) (envOk_add e0_ok (io_ok ok_slices_Reverse_byte_byte_io)) (fn := Tryz.f94) Tryz.func94 (by kernel_rfl) (by kernel_rfl) [.tmp 4] (by kernel_rfl) rfl rfl rfl [] (fun k => [(3, ⟨sh_figures_raw_3, (f_figures_raw_t k).1⟩)]) (fun _ => [])
 (.intro (fun _ => rfl) trivial) (fun k => (.intro (fun d => by kernel_rfl) trivial)) trivial (fun k => trivial) (fun k d => f_figures_raw_m (f_figures_raw_t k) d) (fun k d => by kernel_rfl)
def s_figures_raw := typedSem pi_figures_raw po_figures_raw g_figures_raw

abbrev pi_figures_Put : PSh := ⟨[], [.mk false [vI], .mk false [vI]]⟩
abbrev po_figures_Put : PSh := ⟨[], [.mk false [vS], .mk false [vE]]⟩
def f_figures_Put_m (T : Unit) (d : Unit × ((Int × Unit) × ((Int × Unit) × Unit))) : Option (Unit × ((ByteArray × Unit) × (((Option Int) × Unit) × Unit))) :=
  let x1 : Bool := (decide (d.2.2.1.1 < (0 : Int)))
  bif x1 then (
  let x2 : (Option Int) := (some (1 : Int))
  some ((), (((⟨#[]⟩ : ByteArray), ()), ((x2, ()), ()))))
  else (
  let x3 : Bool := (decide (d.2.2.1.1 > (20 : Int)))
  bif x3 then (
  let x4 : (Option Int) := (some (1 : Int))
  some ((), (((⟨#[]⟩ : ByteArray), ()), ((x4, ()), ()))))
  else (
  let x5 : Bool := (decide (d.2.1.1 < (0 : Int)))
  bif x5 then (
  let x6 : Int := (iconv .u64 d.2.1.1)
  let x7 : Int := (ineg .u64 x6)
  (g_figures_raw ((), ((x7, ()), d.2.2))).bind fun x8 =>
  bif fitsS (⟨#[45]⟩ : ByteArray) x8.2.1.1 then (
  let x9 : ByteArray := ((⟨#[45]⟩ : ByteArray) ++ x8.2.1.1)
  some ((), ((x9, ()), (((none : Option Int), ()), ()))))
  else none)
  else (
  let x10 : Int := (iconv .u64 d.2.1.1)
  (g_figures_raw ((), ((x10, ()), d.2.2))).bind fun x11 =>
  some ((), (x11.2.1, (((none : Option Int), ()), ()))))))
def g_figures_Put (d : Unit × ((Int × Unit) × ((Int × Unit) × Unit))) : Option (Unit × ((ByteArray × Unit) × (((Option Int) × Unit) × Unit))) := f_figures_Put_m () d
theorem ok_figures_Put : FnOk Tryz.prog ET0 69 pi_figures_Put po_figures_Put g_figures_Put :=
 fn0 (E := (E0.add 94 s_figures_raw)) (pi := pi_figures_Put) (po := po_figures_Put) (envOk_add e0_ok (typed_ok ok_figures_raw)) (fn := Tryz.f69) Tryz.func69 (by kernel_rfl) (by kernel_rfl) [.tmp 4, .tmp 5] (by kernel_rfl) rfl rfl rfl [] fun d => by kernel_rfl
def s_figures_Put := typedSem pi_figures_Put po_figures_Put g_figures_Put

abbrev pi_mjd_zero : PSh := ⟨[], [.mk false [vI]]⟩
abbrev po_mjd_zero : PSh := ⟨[], [.mk false [vI], .mk false [vE]]⟩
def f_mjd_zero_m (T : Unit) (d : Unit × ((Int × Unit) × Unit)) : Option (Unit × ((Int × Unit) × (((Option Int) × Unit) × Unit))) :=
  let x1 : Bool := (d.2.1.1 == (1 : Int))
  bif x1 then (
  some ((), (((40587 : Int), ()), (((none : Option Int), ()), ()))))
  else (
  let x2 : Bool := (d.2.1.1 == (2 : Int))
  bif x2 then (
  some ((), (((2440588 : Int), ()), (((none : Option Int), ()), ()))))
  else (
  let x3 : Bool := (d.2.1.1 == (3 : Int))
  bif x3 then (
  some ((), (((25567 : Int), ()), (((none : Option Int), ()), ()))))
  else (
  let x4 : Bool := (d.2.1.1 == (4 : Int))
  bif x4 then (
  some ((), (((-3657 : Int), ()), (((none : Option Int), ()), ()))))
  else (
  let x5 : (Option Int) := (some (11 : Int))
  some ((), (((0 : Int), ()), ((x5, ()), ())))))))
def g_mjd_zero (d : Unit × ((Int × Unit) × Unit)) : Option (Unit × ((Int × Unit) × (((Option Int) × Unit) × Unit))) := f_mjd_zero_m () d
theorem ok_mjd_zero : FnOk Tryz.prog ET0 95 pi_mjd_zero po_mjd_zero g_mjd_zero :=
 fn0 (E := E0) (pi := pi_mjd_zero) (po := po_mjd_zero) e0_ok (fn := Tryz.f95) Tryz.func95 (by kernel_rfl) (by kernel_rfl) [.tmp 2, .tmp 3] (by kernel_rfl) rfl rfl rfl [] fun d => by kernel_rfl
def s_mjd_zero := typedSem pi_mjd_zero po_mjd_zero g_mjd_zero

abbrev pi_day_floor : PSh := ⟨[], [.mk false [vI], .mk false [vI]]⟩
abbrev po_day_floor : PSh := ⟨[], [.mk false [vI]]⟩
def f_day_floor_m (T : Unit) (d : Unit × ((Int × Unit) × ((Int × Unit) × Unit))) : Option (Unit × ((Int × Unit) × Unit)) :=
  bif (d.2.2.1.1 == 0) then (
  none)
  else (
  let x1 : Int := (iquo .i64 d.2.1.1 d.2.2.1.1)
  bif (d.2.2.1.1 == 0) then (
  none)
  else (
  let x2 : Int := (Int.tmod d.2.1.1 d.2.2.1.1)
  let x3 : Bool := (decide (x2 < (0 : Int)))
  bif x3 then (
  let x4 : Int := (isub .i64 x1 (1 : Int))
  some ((), ((x4, ()), ())))
  else (
  some ((), ((x1, ()), ())))))
def g_day_floor (d : Unit × ((Int × Unit) × ((Int × Unit) × Unit))) : Option (Unit × ((Int × Unit) × Unit)) := f_day_floor_m () d
theorem ok_day_floor : FnOk Tryz.prog ET0 107 pi_day_floor po_day_floor g_day_floor :=
 fn0 (E := E0) (pi := pi_day_floor) (po := po_day_floor) e0_ok (fn := Tryz.f107) Tryz.func107 (by kernel_rfl) (by kernel_rfl) [.tmp 4] (by kernel_rfl) rfl rfl rfl [] fun d => by kernel_rfl
def s_day_floor := typedSem pi_day_floor po_day_floor g_day_floor

abbrev pi_day_number : PSh := ⟨[], [.mk false [vI], .mk false [vI], .mk false [vI]]⟩
abbrev po_day_number : PSh := ⟨[], [.mk false [vI]]⟩
def f_day_number_m (T : Unit) (d : Unit × ((Int × Unit) × ((Int × Unit) × ((Int × Unit) × Unit)))) : Option (Unit × ((Int × Unit) × Unit)) :=
  let x1 : Bool := (decide (d.2.2.1.1 ≤ (2 : Int)))
  bif x1 then (
  let x2 : Int := (isub .i64 d.2.1.1 (1 : Int))
  let x3 : Int := (iadd .i64 d.2.2.1.1 (12 : Int))
  (g_day_floor ((), ((x2, ()), (((400 : Int), ()), ())))).bind fun x4 =>
  let x5 : Int := (imul .i64 x4.2.1.1 (400 : Int))
  let x6 : Int := (isub .i64 x2 x5)
  let x7 : Int := (isub .i64 x3 (3 : Int))
  let x8 : Int := (imul .i64 (153 : Int) x7)
  let x9 : Int := (iadd .i64 x8 (2 : Int))
  let x10 : Int := (iquo .i64 x9 (5 : Int))
  let x11 : Int := (iadd .i64 x10 d.2.2.2.1.1)
  let x12 : Int := (isub .i64 x11 (1 : Int))
  let x13 : Int := (imul .i64 x4.2.1.1 (146097 : Int))
  let x14 : Int := (imul .i64 x6 (365 : Int))
  let x15 : Int := (iadd .i64 x13 x14)
  let x16 : Int := (iquo .i64 x6 (4 : Int))
  let x17 : Int := (iadd .i64 x15 x16)
  let x18 : Int := (iquo .i64 x6 (100 : Int))
  let x19 : Int := (isub .i64 x17 x18)
  let x20 : Int := (iadd .i64 x19 x12)
  let x21 : Int := (isub .i64 x20 (719468 : Int))
  some ((), ((x21, ()), ())))
  else (
  (g_day_floor ((), (d.2.1, (((400 : Int), ()), ())))).bind fun x22 =>
  let x23 : Int := (imul .i64 x22.2.1.1 (400 : Int))
  let x24 : Int := (isub .i64 d.2.1.1 x23)
  let x25 : Int := (isub .i64 d.2.2.1.1 (3 : Int))
  let x26 : Int := (imul .i64 (153 : Int) x25)
  let x27 : Int := (iadd .i64 x26 (2 : Int))
  let x28 : Int := (iquo .i64 x27 (5 : Int))
  let x29 : Int := (iadd .i64 x28 d.2.2.2.1.1)
  let x30 : Int := (isub .i64 x29 (1 : Int))
  let x31 : Int := (imul .i64 x22.2.1.1 (146097 : Int))
  let x32 : Int := (imul .i64 x24 (365 : Int))
  let x33 : Int := (iadd .i64 x31 x32)
  let x34 : Int := (iquo .i64 x24 (4 : Int))
  let x35 : Int := (iadd .i64 x33 x34)
  let x36 : Int := (iquo .i64 x24 (100 : Int))
  let x37 : Int := (isub .i64 x35 x36)
  let x38 : Int := (iadd .i64 x37 x30)
  let x39 : Int := (isub .i64 x38 (719468 : Int))
  some ((), ((x39, ()), ())))
def g_day_number (d : Unit × ((Int × Unit) × ((Int × Unit) × ((Int × Unit) × Unit)))) : Option (Unit × ((Int × Unit) × Unit)) := f_day_number_m () d
theorem ok_day_number : FnOk Tryz.prog ET0 135 pi_day_number po_day_number g_day_number :=
 fn0 (E := (E0.add 107 s_day_floor)) (pi := pi_day_number) (po := po_day_number) (envOk_add e0_ok (typed_ok ok_day_floor)) (fn := Tryz.f135) Tryz.func135 (by kernel_rfl) (by kernel_rfl) [.tmp 6] (by kernel_rfl) rfl rfl rfl [] fun d => by kernel_rfl
def s_day_number := typedSem pi_day_number po_day_number g_day_number

abbrev pi_day_First : PSh := ⟨[], []⟩
abbrev po_day_First : PSh := ⟨[], [.mk false [vI]]⟩
def f_day_First_m (T : Unit) (d : Unit × Unit) : Option (Unit × ((Int × Unit) × Unit)) :=
  (g_day_number ((), (((-9999 : Int), ()), (((1 : Int), ()), (((1 : Int), ()), ()))))).bind fun x1 =>
  some ((), x1.2)
def g_day_First (d : Unit × Unit) : Option (Unit × ((Int × Unit) × Unit)) := f_day_First_m () d
theorem ok_day_First : FnOk Tryz.prog ET0 105 pi_day_First po_day_First g_day_First :=
 fn0 (E := (E0.add 135 s_day_number)) (pi := pi_day_First) (po := po_day_First) (envOk_add e0_ok (typed_ok ok_day_number)) (fn := Tryz.f105) Tryz.func105 (by kernel_rfl) (by kernel_rfl) [.tmp 0] (by kernel_rfl) rfl rfl rfl [] fun d => by kernel_rfl
def s_day_First := typedSem pi_day_First po_day_First g_day_First

abbrev pi_day_Last : PSh := ⟨[], []⟩
abbrev po_day_Last : PSh := ⟨[], [.mk false [vI]]⟩
def f_day_Last_m (T : Unit) (d : Unit × Unit) : Option (Unit × ((Int × Unit) × Unit)) :=
  (g_day_number ((), (((9999 : Int), ()), (((12 : Int), ()), (((31 : Int), ()), ()))))).bind fun x1 =>
  some ((), x1.2)
def g_day_Last (d : Unit × Unit) : Option (Unit × ((Int × Unit) × Unit)) := f_day_Last_m () d
theorem ok_day_Last : FnOk Tryz.prog ET0 106 pi_day_Last po_day_Last g_day_Last :=
 fn0 (E := (E0.add 135 s_day_number)) (pi := pi_day_Last) (po := po_day_Last) (envOk_add e0_ok (typed_ok ok_day_number)) (fn := Tryz.f106) Tryz.func106 (by kernel_rfl) (by kernel_rfl) [.tmp 0] (by kernel_rfl) rfl rfl rfl [] fun d => by kernel_rfl
def s_day_Last := typedSem pi_day_Last po_day_Last g_day_Last

abbrev pi_mjd_there : PSh := ⟨[], [.mk false [vI]]⟩
abbrev po_mjd_there : PSh := ⟨[], [.mk false [vB]]⟩
def f_mjd_there_m (T : Unit) (d : Unit × ((Int × Unit) × Unit)) : Option (Unit × ((Bool × Unit) × Unit)) :=
  (g_day_First ((), ())).bind fun x1 =>
  let x2 : Bool := (decide (d.2.1.1 ≥ x1.2.1.1))
  bif x2 then (
  (g_day_Last ((), ())).bind fun x3 =>
  let x4 : Bool := (decide (d.2.1.1 ≤ x3.2.1.1))
  some ((), ((x4, ()), ())))
  else (
  some ((), ((false, ()), ())))
def g_mjd_there (d : Unit × ((Int × Unit) × Unit)) : Option (Unit × ((Bool × Unit) × Unit)) := f_mjd_there_m () d
theorem ok_mjd_there : FnOk Tryz.prog ET0 96 pi_mjd_there po_mjd_there g_mjd_there :=
 fn0 (E := ((E0.add 105 s_day_First).add 106 s_day_Last)) (pi := pi_mjd_there) (po := po_mjd_there) (envOk_add (envOk_add e0_ok (typed_ok ok_day_First)) (typed_ok ok_day_Last)) (fn := Tryz.f96) Tryz.func96 (by kernel_rfl) (by kernel_rfl) [.tmp 2] (by kernel_rfl) rfl rfl rfl [] fun d => by kernel_rfl
def s_mjd_there := typedSem pi_mjd_there po_mjd_there g_mjd_there

abbrev pi_mjd_Count : PSh := ⟨[], [.mk false [vI], .mk false [vI]]⟩
abbrev po_mjd_Count : PSh := ⟨[], [.mk false [vI], .mk false [vE]]⟩
def f_mjd_Count_m (T : Unit) (d : Unit × ((Int × Unit) × ((Int × Unit) × Unit))) : Option (Unit × ((Int × Unit) × (((Option Int) × Unit) × Unit))) :=
  (g_mjd_zero ((), (d.2.1, ()))).bind fun x1 =>
  let x2 : Bool := (!x1.2.2.1.1.isNone)
  bif x2 then (
  some ((), (((0 : Int), ()), x1.2.2)))
  else (
  (g_mjd_there ((), d.2.2)).bind fun x3 =>
  let x4 : Bool := (!x3.2.1.1)
  bif x4 then (
  let x5 : (Option Int) := (some (13 : Int))
  some ((), (((0 : Int), ()), ((x5, ()), ()))))
  else (
  let x6 : Int := (iadd .i64 d.2.2.1.1 x1.2.1.1)
  some ((), ((x6, ()), (((none : Option Int), ()), ())))))
def g_mjd_Count (d : Unit × ((Int × Unit) × ((Int × Unit) × Unit))) : Option (Unit × ((Int × Unit) × (((Option Int) × Unit) × Unit))) := f_mjd_Count_m () d
theorem ok_mjd_Count : FnOk Tryz.prog ET0 70 pi_mjd_Count po_mjd_Count g_mjd_Count :=
 fn0 (E := ((E0.add 95 s_mjd_zero).add 96 s_mjd_there)) (pi := pi_mjd_Count) (po := po_mjd_Count) (envOk_add (envOk_add e0_ok (typed_ok ok_mjd_zero)) (typed_ok ok_mjd_there)) (fn := Tryz.f70) Tryz.func70 (by kernel_rfl) (by kernel_rfl) [.tmp 4, .tmp 5] (by kernel_rfl) rfl rfl rfl [] fun d => by kernel_rfl
def s_mjd_Count := typedSem pi_mjd_Count po_mjd_Count g_mjd_Count

abbrev pi_octets_Size_u32 : PSh := ⟨[], []⟩
abbrev po_octets_Size_u32 : PSh := ⟨[], [.mk false [vI]]⟩
abbrev TT_octets_Size_u32 : Type := (((Unit × ((Int × Unit) × ((Int × Unit) × Unit))) → Option (Unit × ((Int × Unit) × Unit))) × Unit)
abbrev sh_octets_Size_u32_4 : PSh := ⟨[], [.any, .mk false [vI], .mk false [.v (.int .u32)]] ++ anyN 11⟩
def f_octets_Size_u32_p4 (T : TT_octets_Size_u32) (d : Unit × ((Int × Unit) × ((Int × Unit) × Unit))) : Option (Unit × ((Int × Unit) × Unit)) :=
  let x3 : Bool := (decide (d.2.2.1.1 > (0 : Int)))
  bif x3 then (
  let x4 : Int := (iadd .i64 d.2.1.1 (1 : Int))
  let x5 : Int := (iconv .u64 d.2.2.1.1)
  let x6 : Int := (ishr .u64 x5 (8 : Int))
  let x7 : Int := (iconv .u32 x6)
  (T.1 ((), ((x4, ()), ((x7, ()), ())))))
  else (
  some ((), (d.2.1, ())))
def f_octets_Size_u32_t : Nat → TT_octets_Size_u32
  | 0 => (fun _ => none, ())
  | k + 1 => (f_octets_Size_u32_p4 (f_octets_Size_u32_t k), ())
theorem t_octets_Size_u32 (k : Nat) : f_octets_Size_u32_t (k + 1) = (f_octets_Size_u32_p4 (f_octets_Size_u32_t k), ()) := rfl
def f_octets_Size_u32_m (T : TT_octets_Size_u32) (d : Unit × Unit) : Option (Unit × ((Int × Unit) × Unit)) :=
  let x1 : Int := (iconv .u32 (0 : Int))
  let x2 : Int := (inot .u32 x1)
  (T.1 ((), (((0 : Int), ()), ((x2, ()), ()))))
def g_octets_Size_u32 (d : Unit × Unit) : Option (Unit × ((Int × Unit) × Unit)) := lim fun k => f_octets_Size_u32_m (f_octets_Size_u32_t k) d
theorem ok_octets_Size_u32 : FnOk Tryz.prog ET0 91 pi_octets_Size_u32 po_octets_Size_u32 g_octets_Size_u32 :=
 fnL (E := E0) (pi := pi_octets_Size_u32) (po := po_octets_Size_u32) e0_ok (fn := Tryz.f91) Tryz.func91 (by kernel_rfl) (by kernel_rfl) [.tmp 0] (by kernel_rfl) rfl rfl rfl [] (fun k => [(4, ⟨sh_octets_Size_u32_4, (f_octets_Size_u32_t k).1⟩)]) (fun _ => [])
 (.intro (fun _ => rfl) trivial) (fun k => (.intro (fun d => by kernel_rfl) trivial)) trivial (fun k => trivial) (fun k d => f_octets_Size_u32_m (f_octets_Size_u32_t k) d) (fun k d => by kernel_rfl)
def s_octets_Size_u32 := typedSem pi_octets_Size_u32 po_octets_Size_u32 g_octets_Size_u32

abbrev pi_slices_Clone_byte_byte : PSh := ⟨[], [.mk false [.v (.sl (.int .u8))]]⟩
abbrev po_slices_Clone_byte_byte : PSh := ⟨[.row 5 (.int .u8)], [.mk false [.osl 0]]⟩
def f_slices_Clone_byte_byte_m (T : Unit) (d : Unit × (((List Int) × Unit) × Unit)) : Option (((List Int) × Unit) × (Unit × Unit)) :=
  bif d.2.1.1.isEmpty then (
  agree (
  some ((([] : List Int), ()), ((), ()))) (
  let x1 : (List Int) := ([] : List Int)
  bif decide (((x1.length + d.2.1.1.length) * 1 : Nat) ≤ 140737488355328) && decide (x1.length + d.2.1.1.length ≤ 9223372036854775807) then (
  let x2 : (List Int) := (x1 ++ d.2.1.1)
  some ((x2, ()), ((), ())))
  else none))
  else (
  let x3 : (List Int) := ([] : List Int)
  bif decide (((x3.length + d.2.1.1.length) * 1 : Nat) ≤ 140737488355328) && decide (x3.length + d.2.1.1.length ≤ 9223372036854775807) then (
  let x4 : (List Int) := (x3 ++ d.2.1.1)
  some ((x4, ()), ((), ())))
  else none)
def g_slices_Clone_byte_byte (d : Unit × (((List Int) × Unit) × Unit)) : Option (((List Int) × Unit) × (Unit × Unit)) := f_slices_Clone_byte_byte_m () d
theorem ok_slices_Clone_byte_byte : FnOk Tryz.prog ET0 92 pi_slices_Clone_byte_byte po_slices_Clone_byte_byte g_slices_Clone_byte_byte :=
 fn0 (E := E0) (pi := pi_slices_Clone_byte_byte) (po := po_slices_Clone_byte_byte) e0_ok (fn := Tryz.f92) Tryz.func92 (by kernel_rfl) (by kernel_rfl) [.tmp 2] (by kernel_rfl) rfl rfl rfl [] fun d => by kernel_rfl
def s_slices_Clone_byte_byte := typedSem pi_slices_Clone_byte_byte po_slices_Clone_byte_byte g_slices_Clone_byte_byte

abbrev pi_octets_Put_u32 : PSh := ⟨[], [.mk false [.v (.sl (.int .u8))], .mk false [.v (.sl (.int .u32))]]⟩
abbrev po_octets_Put_u32 : PSh := ⟨[.row 5 (.int .u8)], [.mk false [.osl 0]]⟩
abbrev TT_octets_Put_u32 : Type := (((((List Int) × Unit) × ((Int × Unit) × (Unit × (((List Int) × Unit) × ((Int × Unit) × ((Int × Unit) × Unit)))))) → Option (((List Int) × Unit) × (Unit × Unit))) × (((((List Int) × Unit) × ((Int × Unit) × (Unit × ((Int × Unit) × ((Int × Unit) × (((List Int) × Unit) × ((Int × Unit) × ((Int × Unit) × Unit)))))))) → Option (((List Int) × Unit) × (Unit × Unit))) × Unit))
abbrev sh_octets_Put_u32_5 : PSh := ⟨[.row 5 (.int .u8)], [.any, .any, .any, .any, .any, .mk false [vI], .mk false [.osl 0], .any, .any, .any, .any, .any, .any, .mk false [.v (.sl (.int .u32))], .mk false [vI], .mk false [vI]] ++ anyN 20⟩
abbrev sh_octets_Put_u32_11 : PSh := ⟨[.row 5 (.int .u8)], [.any, .any, .any, .any, .any, .mk false [vI], .mk false [.osl 0], .any, .mk false [.v (.int .u32)], .mk false [vI], .any, .any, .any, .mk false [.v (.sl (.int .u32))], .mk false [vI], .mk false [vI]] ++ anyN 20⟩
def f_octets_Put_u32_p5 (T : TT_octets_Put_u32) (d : ((List Int) × Unit) × ((Int × Unit) × (Unit × (((List Int) × Unit) × ((Int × Unit) × ((Int × Unit) × Unit)))))) : Option (((List Int) × Unit) × (Unit × Unit)) :=
  let x4 : Bool := (decide (d.2.2.2.2.2.1.1 < d.2.2.2.2.1.1))
  bif x4 then (
  bif decide ((0 : Int) ≤ d.2.2.2.2.2.1.1) && decide (d.2.2.2.2.2.1.1 < (d.2.2.2.1.1.length : Int)) then (
  let x5 : Int := (isub .i64 d.2.1.1 (1 : Int))
  (T.2.1 (d.1, (d.2.1, ((), (((gd (.int .u32) d.2.2.2.1.1 d.2.2.2.2.2.1.1), ()), ((x5, ()), d.2.2.2)))))))
  else none)
  else (
  some (d.1, ((), ())))
def f_octets_Put_u32_p11 (T : TT_octets_Put_u32) (d : ((List Int) × Unit) × ((Int × Unit) × (Unit × ((Int × Unit) × ((Int × Unit) × (((List Int) × Unit) × ((Int × Unit) × ((Int × Unit) × Unit)))))))) : Option (((List Int) × Unit) × (Unit × Unit)) :=
  let x6 : Bool := (decide (d.2.2.2.2.1.1 ≥ (0 : Int)))
  bif x6 then (
  let x7 : Int := (iconv .u64 d.2.2.2.1.1)
  let x8 : Int := (imul .i64 (8 : Int) d.2.2.2.2.1.1)
  bif decide (x8 < 0) then (
  none)
  else (
  let x9 : Int := (ishr .u64 x7 x8)
  let x10 : Int := (iconv .u8 x9)
  let x11 : (List Int) := ([x10] : List Int)
  bif decide (((d.1.1.length + x11.length) * 1 : Nat) ≤ 140737488355328) && decide (d.1.1.length + x11.length ≤ 9223372036854775807) then (
  let x12 : (List Int) := (d.1.1 ++ x11)
  let x13 : Int := (isub .i64 d.2.2.2.2.1.1 (1 : Int))
  (T.2.1 ((x12, ()), (d.2.1, ((), (d.2.2.2.1, ((x13, ()), d.2.2.2.2.2)))))))
  else none))
  else (
  let x14 : Int := (iadd .i64 d.2.2.2.2.2.2.2.1.1 (1 : Int))
  (T.1 (d.1, (d.2.1, ((), (d.2.2.2.2.2.1, (d.2.2.2.2.2.2.1, ((x14, ()), ()))))))))
def f_octets_Put_u32_t : Nat → TT_octets_Put_u32
  | 0 => (fun _ => none, (fun _ => none, ()))
  | k + 1 => (f_octets_Put_u32_p5 (f_octets_Put_u32_t k), (f_octets_Put_u32_p11 (f_octets_Put_u32_t k), ()))
theorem t_octets_Put_u32 (k : Nat) : f_octets_Put_u32_t (k + 1) = (f_octets_Put_u32_p5 (f_octets_Put_u32_t k), (f_octets_Put_u32_p11 (f_octets_Put_u32_t k), ())) := rfl
def f_octets_Put_u32_m (T : TT_octets_Put_u32) (d : Unit × (((List Int) × Unit) × (((List Int) × Unit) × Unit))) : Option (((List Int) × Unit) × (Unit × Unit)) :=
  (g_octets_Size_u32 ((), ())).bind fun x1 =>
  (g_slices_Clone_byte_byte ((), (d.2.1, ()))).bind fun x2 =>
  let x3 : Int := (d.2.2.1.1.length : Int)
  (T.1 (x2.1, (x1.2.1, ((), (d.2.2.1, ((x3, ()), (((0 : Int), ()), ())))))))
def g_octets_Put_u32 (d : Unit × (((List Int) × Unit) × (((List Int) × Unit) × Unit))) : Option (((List Int) × Unit) × (Unit × Unit)) := lim fun k => f_octets_Put_u32_m (f_octets_Put_u32_t k) d
theorem ok_octets_Put_u32 : FnOk Tryz.prog ET0 62 pi_octets_Put_u32 po_octets_Put_u32 g_octets_Put_u32 :=
 fnL (E := ((E0.add 91 s_octets_Size_u32).add 92 s_slices_Clone_byte_byte)) (pi := pi_octets_Put_u32) (po := po_octets_Put_u32) (envOk_add (envOk_add e0_ok (typed_ok ok_octets_Size_u32)) (typed_ok ok_slices_Clone_byte_byte)) (fn := Tryz.f62) Tryz.func62 (by kernel_rfl) (by kernel_rfl) [.tmp 4] (by kernel_rfl) rfl rfl rfl [] (fun k => [(5, ⟨sh_octets_Put_u32_5, (f_octets_Put_u32_t k).1⟩), (11, ⟨sh_octets_Put_u32_11, (f_octets_Put_u32_t k).2.1⟩)]) (fun _ => [])
 (.intro (fun _ => rfl) (.intro (fun _ => rfl) trivial)) (fun k => (.intro (fun d => by kernel_rfl) (.intro (fun d => by kernel_rfl) trivial))) trivial (fun k => trivial) (fun k d => f_octets_Put_u32_m (f_octets_Put_u32_t k) d) (fun k d => by kernel_rfl)
def s_octets_Put_u32 := typedSem pi_octets_Put_u32 po_octets_Put_u32 g_octets_Put_u32

abbrev pi_sha1_From : PSh := ⟨[], [.mk true [.v (.int .u32), .v (.int .u32), .v (.int .u32), .v (.int .u32), .v (.int .u32)]]⟩
abbrev po_sha1_From : PSh := ⟨[], [.mk true [v8, v8, v8, v8, v8, v8, v8, v8, v8, v8, v8, v8, v8, v8, v8, v8, v8, v8, v8, v8]]⟩
def f_sha1_From_m (T : Unit) (d : Unit × ((Int × (Int × (Int × (Int × (Int × Unit))))) × Unit)) : Option (Unit × ((Int × (Int × (Int × (Int × (Int × (Int × (Int × (Int × (Int × (Int × (Int × (Int × (Int × (Int × (Int × (Int × (Int × (Int × (Int × (Int × Unit)))))))))))))))))))) × Unit)) :=
  let x1 : (Int × (Int × (Int × (Int × Int)))) := (d.2.1.1, (d.2.1.2.1, (d.2.1.2.2.1, (d.2.1.2.2.2.1, d.2.1.2.2.2.2.1))))
  let x2 : (List Int) := ([x1.1, x1.2.1, x1.2.2.1, x1.2.2.2.1, x1.2.2.2.2] : List Int)
  (g_octets_Put_u32 ((), ((([] : List Int), ()), ((x2, ()), ())))).bind fun x3 =>
  bif decide ((20 : Int) ≤ x3.1.1.length) then (
  let x4 : (Int × (Int × (Int × (Int × (Int × (Int × (Int × (Int × (Int × (Int × (Int × (Int × (Int × (Int × (Int × (Int × (Int × (Int × (Int × Int))))))))))))))))))) := ((gd (.int .u8) x3.1.1 (0 : Int)), ((gd (.int .u8) x3.1.1 (1 : Int)), ((gd (.int .u8) x3.1.1 (2 : Int)), ((gd (.int .u8) x3.1.1 (3 : Int)), ((gd (.int .u8) x3.1.1 (4 : Int)), ((gd (.int .u8) x3.1.1 (5 : Int)), ((gd (.int .u8) x3.1.1 (6 : Int)), ((gd (.int .u8) x3.1.1 (7 : Int)), ((gd (.int .u8) x3.1.1 (8 : Int)), ((gd (.int .u8) x3.1.1 (9 : Int)), ((gd (.int .u8) x3.1.1 (10 : Int)), ((gd (.int .u8) x3.1.1 (11 : Int)), ((gd (.int .u8) x3.1.1 (12 : Int)), ((gd (.int .u8) x3.1.1 (13 : Int)), ((gd (.int .u8) x3.1.1 (14 : Int)), ((gd (.int .u8) x3.1.1 (15 : Int)), ((gd (.int .u8) x3.1.1 (16 : Int)), ((gd (.int .u8) x3.1.1 (17 : Int)), ((gd (.int .u8) x3.1.1 (18 : Int)), (gd (.int .u8) x3.1.1 (19 : Int)))))))))))))))))))))
  some ((), ((x4.1, (x4.2.1, (x4.2.2.1, (x4.2.2.2.1, (x4.2.2.2.2.1, (x4.2.2.2.2.2.1, (x4.2.2.2.2.2.2.1, (x4.2.2.2.2.2.2.2.1, (x4.2.2.2.2.2.2.2.2.1, (x4.2.2.2.2.2.2.2.2.2.1, (x4.2.2.2.2.2.2.2.2.2.2.1, (x4.2.2.2.2.2.2.2.2.2.2.2.1, (x4.2.2.2.2.2.2.2.2.2.2.2.2.1, (x4.2.2.2.2.2.2.2.2.2.2.2.2.2.1, (x4.2.2.2.2.2.2.2.2.2.2.2.2.2.2.1, (x4.2.2.2.2.2.2.2.2.2.2.2.2.2.2.2.1, (x4.2.2.2.2.2.2.2.2.2.2.2.2.2.2.2.2.1, (x4.2.2.2.2.2.2.2.2.2.2.2.2.2.2.2.2.2.1, (x4.2.2.2.2.2.2.2.2.2.2.2.2.2.2.2.2.2.2.1, (x4.2.2.2.2.2.2.2.2.2.2.2.2.2.2.2.2.2.2.2, ())))))))))))))))))))), ())))
  else none
def g_sha1_From (d : Unit × ((Int × (Int × (Int × (Int × (Int × Unit))))) × Unit)) : Option (Unit × ((Int × (Int × (Int × (Int × (Int × (Int × (Int × (Int × (Int × (Int × (Int × (Int × (Int × (Int × (Int × (Int × (Int × (Int × (Int × (Int × Unit)))))))))))))))))))) × Unit)) := f_sha1_From_m () d
theorem ok_sha1_From : FnOk Tryz.prog ET0 30 pi_sha1_From po_sha1_From g_sha1_From :=
 fn0 (E := ((E0.add 62 s_octets_Put_u32).fr [(3, [1]), (5, [4])])) (pi := pi_sha1_From) (po := po_sha1_From) (envOk_fr (envOk_add e0_ok (typed_ok ok_octets_Put_u32))) (fn := Tryz.f30) Tryz.func30 (by kernel_rfl) (by kernel_rfl) [.cell 2 53] (by kernel_rfl) rfl rfl rfl [] fun d => by kernel_rfl
def s_sha1_From := typedSem pi_sha1_From po_sha1_From g_sha1_From

abbrev pi_sha1_begin : PSh := ⟨[], []⟩
abbrev po_sha1_begin : PSh := ⟨[], [.mk true [.v (.int .u32), .v (.int .u32), .v (.int .u32), .v (.int .u32), .v (.int .u32)]]⟩
def f_sha1_begin_m (T : Unit) (d : Unit × Unit) : Option (Unit × ((Int × (Int × (Int × (Int × (Int × Unit))))) × Unit)) :=
  some ((), (((1732584193 : Int), ((4023233417 : Int), ((2562383102 : Int), ((271733878 : Int), ((3285377520 : Int), ()))))), ()))
def g_sha1_begin (d : Unit × Unit) : Option (Unit × ((Int × (Int × (Int × (Int × (Int × Unit))))) × Unit)) := f_sha1_begin_m () d
theorem ok_sha1_begin : FnOk Tryz.prog ET0 72 pi_sha1_begin po_sha1_begin g_sha1_begin :=
 fn0 (E := E0) (pi := pi_sha1_begin) (po := po_sha1_begin) e0_ok (fn := Tryz.f72) Tryz.func72 (by kernel_rfl) (by kernel_rfl) [.cell 0 36] (by kernel_rfl) rfl rfl rfl [] fun d => by kernel_rfl
def s_sha1_begin := typedSem pi_sha1_begin po_sha1_begin g_sha1_begin

abbrev pi_slices_Chunk_byte_byte : PSh := ⟨[], [.mk false [.v (.sl (.int .u8))], .mk false [vI]]⟩
abbrev po_slices_Chunk_byte_byte : PSh := ⟨[.var 63 [.v (.sl (.int .u8))], .var 3 [vI]], [.mk false [.fn 97 [0, 1]]]⟩
def f_slices_Chunk_byte_byte_m (T : Unit) (d : Unit × (((List Int) × Unit) × ((Int × Unit) × Unit))) : Option ((((List Int) × Unit) × ((Int × Unit) × Unit)) × (Unit × Unit)) :=
  let x1 : Bool := (decide (d.2.2.1.1 < (1 : Int)))
  bif x1 then (
  none)
  else (
  some (d.2, ((), ())))
def g_slices_Chunk_byte_byte (d : Unit × (((List Int) × Unit) × ((Int × Unit) × Unit))) : Option ((((List Int) × Unit) × ((Int × Unit) × Unit)) × (Unit × Unit)) := f_slices_Chunk_byte_byte_m () d
theorem ok_slices_Chunk_byte_byte : FnOk Tryz.prog ET0 73 pi_slices_Chunk_byte_byte po_slices_Chunk_byte_byte g_slices_Chunk_byte_byte :=
 fn0 (E := E0) (pi := pi_slices_Chunk_byte_byte) (po := po_slices_Chunk_byte_byte) e0_ok (fn := Tryz.f73) Tryz.func73 (by kernel_rfl) (by kernel_rfl) [.tmp 4] (by kernel_rfl) rfl rfl rfl [] fun d => by kernel_rfl
def s_slices_Chunk_byte_byte := typedSem pi_slices_Chunk_byte_byte po_slices_Chunk_byte_byte g_slices_Chunk_byte_byte

abbrev pi_math_bits_RotateLeft32 : PSh := ⟨[], [.mk false [.v (.int .u32)], .mk false [vI]]⟩
abbrev po_math_bits_RotateLeft32 : PSh := ⟨[], [.mk false [.v (.int .u32)]]⟩
def f_math_bits_RotateLeft32_m (T : Unit) (d : Unit × ((Int × Unit) × ((Int × Unit) × Unit))) : Option (Unit × ((Int × Unit) × Unit)) :=
  let x1 : Int := (iconv .u64 d.2.2.1.1)
  let x2 : Int := (iand .u64 x1 (31 : Int))
  bif decide (x2 < 0) then (
  none)
  else (
  let x3 : Int := (ishl .u32 d.2.1.1 x2)
  let x4 : Int := (isub .u64 (32 : Int) x2)
  bif decide (x4 < 0) then (
  none)
  else (
  let x5 : Int := (ishr .u32 d.2.1.1 x4)
  let x6 : Int := (ior .u32 x3 x5)
  some ((), ((x6, ()), ()))))
def g_math_bits_RotateLeft32 (d : Unit × ((Int × Unit) × ((Int × Unit) × Unit))) : Option (Unit × ((Int × Unit) × Unit)) := f_math_bits_RotateLeft32_m () d
theorem ok_math_bits_RotateLeft32 : FnOk Tryz.prog ET0 100 pi_math_bits_RotateLeft32 po_math_bits_RotateLeft32 g_math_bits_RotateLeft32 :=
 fn0 (E := E0) (pi := pi_math_bits_RotateLeft32) (po := po_math_bits_RotateLeft32) e0_ok (fn := Tryz.f100) Tryz.func100 (by kernel_rfl) (by kernel_rfl) [.tmp 4] (by kernel_rfl) rfl rfl rfl [] fun d => by kernel_rfl
def s_math_bits_RotateLeft32 := typedSem pi_math_bits_RotateLeft32 po_math_bits_RotateLeft32 g_math_bits_RotateLeft32

abbrev pi_sha1_schedule : PSh := ⟨[], [.mk true [v8, v8, v8, v8, v8, v8, v8, v8, v8, v8, v8, v8, v8, v8, v8, v8, v8, v8, v8, v8, v8, v8, v8, v8, v8, v8, v8, v8, v8, v8, v8, v8, v8, v8, v8, v8, v8, v8, v8, v8, v8, v8, v8, v8, v8, v8, v8, v8, v8, v8, v8, v8, v8, v8, v8, v8, v8, v8, v8, v8, v8, v8, v8, v8]]⟩
abbrev po_sha1_schedule : PSh := ⟨[], [.mk true [.v (.int .u32), .v (.int .u32), .v (.int .u32), .v (.int .u32), .v (.int .u32), .v (.int .u32), .v (.int .u32), .v (.int .u32), .v (.int .u32), .v (.int .u32), .v (.int .u32), .v (.int .u32), .v (.int .u32), .v (.int .u32), .v (.int .u32), .v (.int .u32), .v (.int .u32), .v (.int .u32), .v (.int .u32), .v (.int .u32), .v (.int .u32), .v (.int .u32), .v (.int .u32), .v (.int .u32), .v (.int .u32), .v (.int .u32), .v (.int .u32), .v (.int .u32), .v (.int .u32), .v (.int .u32), .v (.int .u32), .v (.int .u32), .v (.int .u32), .v (.int .u32), .v (.int .u32), .v (.int .u32), .v (.int .u32), .v (.int .u32), .v (.int .u32), .v (.int .u32), .v (.int .u32), .v (.int .u32), .v (.int .u32), .v (.int .u32), .v (.int .u32), .v (.int .u32), .v (.int .u32), .v (.int .u32), .v (.int .u32), .v (.int .u32), .v (.int .u32), .v (.int .u32), .v (.int .u32), .v (.int .u32), .v (.int .u32), .v (.int .u32), .v (.int .u32), .v (.int .u32), .v (.int .u32), .v (.int .u32), .v (.int .u32), .v (.int .u32), .v (.int .u32), .v (.int .u32), .v (.int .u32), .v (.int .u32), .v (.int .u32), .v (.int .u32), .v (.int .u32), .v (.int .u32), .v (.int .u32), .v (.int .u32), .v (.int .u32), .v (.int .u32), .v (.int .u32), .v (.int .u32), .v (.int .u32), .v (.int .u32), .v (.int .u32), .v (.int .u32)]]⟩
abbrev TT_sha1_schedule : Type := (((((List Int) × ((List Int) × ((List Int) × Unit))) × (Unit × (Unit × (Unit × ((Int × Unit) × Unit))))) → Option (Unit × ((Int × (Int × (Int × (Int × (Int × (Int × (Int × (Int × (Int × (Int × (Int × (Int × (Int × (Int × (Int × (Int × (Int × (Int × (Int × (Int × (Int × (Int × (Int × (Int × (Int × (Int × (Int × (Int × (Int × (Int × (Int × (Int × (Int × (Int × (Int × (Int × (Int × (Int × (Int × (Int × (Int × (Int × (Int × (Int × (Int × (Int × (Int × (Int × (Int × (Int × (Int × (Int × (Int × (Int × (Int × (Int × (Int × (Int × (Int × (Int × (Int × (Int × (Int × (Int × (Int × (Int × (Int × (Int × (Int × (Int × (Int × (Int × (Int × (Int × (Int × (Int × (Int × (Int × (Int × (Int × Unit)))))))))))))))))))))))))))))))))))))))))))))))))))))))))))))))))))))))))))))))) × Unit))) × Unit)
abbrev sh_sha1_schedule_4 : PSh := ⟨[.row 135 (.int .u8), .row 152 (.int .u32), .row 152 (.int .u32)], [.any, .mk false [.opt 0], .mk false [.opt 1], .mk false [.opt 2], .any, .any, .mk false [vI]] ++ anyN 57⟩
def f_sha1_schedule_p4 (T : TT_sha1_schedule) (d : ((List Int) × ((List Int) × ((List Int) × Unit))) × (Unit × (Unit × (Unit × ((Int × Unit) × Unit))))) : Option (Unit × ((Int × (Int × (Int × (Int × (Int × (Int × (Int × (Int × (Int × (Int × (Int × (Int × (Int × (Int × (Int × (Int × (Int × (Int × (Int × (Int × (Int × (Int × (Int × (Int × (Int × (Int × (Int × (Int × (Int × (Int × (Int × (Int × (Int × (Int × (Int × (Int × (Int × (Int × (Int × (Int × (Int × (Int × (Int × (Int × (Int × (Int × (Int × (Int × (Int × (Int × (Int × (Int × (Int × (Int × (Int × (Int × (Int × (Int × (Int × (Int × (Int × (Int × (Int × (Int × (Int × (Int × (Int × (Int × (Int × (Int × (Int × (Int × (Int × (Int × (Int × (Int × (Int × (Int × (Int × (Int × Unit)))))))))))))))))))))))))))))))))))))))))))))))))))))))))))))))))))))))))))))))) × Unit)) :=
  let x4 : Bool := (decide (d.2.2.2.2.1.1 < (80 : Int)))
  bif x4 then (
  let x5 : Bool := (decide (d.2.2.2.2.1.1 < (16 : Int)))
  bif x5 then (
  let x6 : Int := (imul .i64 (4 : Int) d.2.2.2.2.1.1)
  bif decide ((0 : Int) ≤ x6) && decide (x6 < (64 : Int)) && decide (x6 < (d.1.1.length : Int)) then (
  let x7 : Int := (iconv .u32 (gd (.int .u8) d.1.1 x6))
  let x8 : Int := (ishl .u32 x7 (24 : Int))
  let x9 : Int := (iadd .i64 x6 (1 : Int))
  bif decide ((0 : Int) ≤ x9) && decide (x9 < (64 : Int)) && decide (x9 < (d.1.1.length : Int)) then (
  let x10 : Int := (iconv .u32 (gd (.int .u8) d.1.1 x9))
  let x11 : Int := (ishl .u32 x10 (16 : Int))
  let x12 : Int := (ior .u32 x8 x11)
  let x13 : Int := (iadd .i64 x6 (2 : Int))
  bif decide ((0 : Int) ≤ x13) && decide (x13 < (64 : Int)) && decide (x13 < (d.1.1.length : Int)) then (
  let x14 : Int := (iconv .u32 (gd (.int .u8) d.1.1 x13))
  let x15 : Int := (ishl .u32 x14 (8 : Int))
  let x16 : Int := (ior .u32 x12 x15)
  let x17 : Int := (iadd .i64 x6 (3 : Int))
  bif decide ((0 : Int) ≤ x17) && decide (x17 < (64 : Int)) && decide (x17 < (d.1.1.length : Int)) then (
  let x18 : Int := (iconv .u32 (gd (.int .u8) d.1.1 x17))
  let x19 : Int := (ior .u32 x16 x18)
  bif decide ((0 : Int) ≤ d.2.2.2.2.1.1) && decide (d.2.2.2.2.1.1 < (80 : Int)) && decide (d.2.2.2.2.1.1 < (d.1.2.2.1.length : Int)) then (
  let x20 : (List Int) := (List.set d.1.2.2.1 (Int.toNat d.2.2.2.2.1.1) x19)
  let x21 : Int := (iadd .i64 d.2.2.2.2.1.1 (1 : Int))
  (T.1 ((d.1.1, (d.1.2.1, (x20, ()))), ((), ((), ((), ((x21, ()), ())))))))
  else none)
  else none)
  else none)
  else none)
  else none)
  else (
  let x22 : Int := (isub .i64 d.2.2.2.2.1.1 (3 : Int))
  bif decide ((0 : Int) ≤ x22) && decide (x22 < (80 : Int)) && decide (x22 < (d.1.2.2.1.length : Int)) then (
  let x23 : Int := (isub .i64 d.2.2.2.2.1.1 (8 : Int))
  bif decide ((0 : Int) ≤ x23) && decide (x23 < (80 : Int)) && decide (x23 < (d.1.2.2.1.length : Int)) then (
  let x24 : Int := (ixor .u32 (gd (.int .u32) d.1.2.2.1 x22) (gd (.int .u32) d.1.2.2.1 x23))
  let x25 : Int := (isub .i64 d.2.2.2.2.1.1 (14 : Int))
  bif decide ((0 : Int) ≤ x25) && decide (x25 < (80 : Int)) && decide (x25 < (d.1.2.2.1.length : Int)) then (
  let x26 : Int := (ixor .u32 x24 (gd (.int .u32) d.1.2.2.1 x25))
  let x27 : Int := (isub .i64 d.2.2.2.2.1.1 (16 : Int))
  bif decide ((0 : Int) ≤ x27) && decide (x27 < (80 : Int)) && decide (x27 < (d.1.2.2.1.length : Int)) then (
  let x28 : Int := (ixor .u32 x26 (gd (.int .u32) d.1.2.2.1 x27))
  (g_math_bits_RotateLeft32 ((), ((x28, ()), (((1 : Int), ()), ())))).bind fun x29 =>
  bif decide ((0 : Int) ≤ d.2.2.2.2.1.1) && decide (d.2.2.2.2.1.1 < (80 : Int)) && decide (d.2.2.2.2.1.1 < (d.1.2.2.1.length : Int)) then (
  let x30 : (List Int) := (List.set d.1.2.2.1 (Int.toNat d.2.2.2.2.1.1) x29.2.1.1)
  let x31 : Int := (iadd .i64 d.2.2.2.2.1.1 (1 : Int))
  (T.1 ((d.1.1, (d.1.2.1, (x30, ()))), ((), ((), ((), ((x31, ()), ())))))))
  else none)
  else none)
  else none)
  else none)
  else none))
  else (
  bif decide ((80 : Int) ≤ (d.1.2.2.1.length : Int)) then (
  bif decide ((d.1.2.1.length : Int) = (80 : Int)) then (
  let x32 : (List Int) := ([(gd (.int .u32) d.1.2.2.1 (0 : Int)), (gd (.int .u32) d.1.2.2.1 (1 : Int)), (gd (.int .u32) d.1.2.2.1 (2 : Int)), (gd (.int .u32) d.1.2.2.1 (3 : Int)), (gd (.int .u32) d.1.2.2.1 (4 : Int)), (gd (.int .u32) d.1.2.2.1 (5 : Int)), (gd (.int .u32) d.1.2.2.1 (6 : Int)), (gd (.int .u32) d.1.2.2.1 (7 : Int)), (gd (.int .u32) d.1.2.2.1 (8 : Int)), (gd (.int .u32) d.1.2.2.1 (9 : Int)), (gd (.int .u32) d.1.2.2.1 (10 : Int)), (gd (.int .u32) d.1.2.2.1 (11 : Int)), (gd (.int .u32) d.1.2.2.1 (12 : Int)), (gd (.int .u32) d.1.2.2.1 (13 : Int)), (gd (.int .u32) d.1.2.2.1 (14 : Int)), (gd (.int .u32) d.1.2.2.1 (15 : Int)), (gd (.int .u32) d.1.2.2.1 (16 : Int)), (gd (.int .u32) d.1.2.2.1 (17 : Int)), (gd (.int .u32) d.1.2.2.1 (18 : Int)), (gd (.int .u32) d.1.2.2.1 (19 : Int)), (gd (.int .u32) d.1.2.2.1 (20 : Int)), (gd (.int .u32) d.1.2.2.1 (21 : Int)), (gd (.int .u32) d.1.2.2.1 (22 : Int)), (gd (.int .u32) d.1.2.2.1 (23 : Int)), (gd (.int .u32) d.1.2.2.1 (24 : Int)), (gd (.int .u32) d.1.2.2.1 (25 : Int)), (gd (.int .u32) d.1.2.2.1 (26 : Int)), (gd (.int .u32) d.1.2.2.1 (27 : Int)), (gd (.int .u32) d.1.2.2.1 (28 : Int)), (gd (.int .u32) d.1.2.2.1 (29 : Int)), (gd (.int .u32) d.1.2.2.1 (30 : Int)), (gd (.int .u32) d.1.2.2.1 (31 : Int)), (gd (.int .u32) d.1.2.2.1 (32 : Int)), (gd (.int .u32) d.1.2.2.1 (33 : Int)), (gd (.int .u32) d.1.2.2.1 (34 : Int)), (gd (.int .u32) d.1.2.2.1 (35 : Int)), (gd (.int .u32) d.1.2.2.1 (36 : Int)), (gd (.int .u32) d.1.2.2.1 (37 : Int)), (gd (.int .u32) d.1.2.2.1 (38 : Int)), (gd (.int .u32) d.1.2.2.1 (39 : Int)), (gd (.int .u32) d.1.2.2.1 (40 : Int)), (gd (.int .u32) d.1.2.2.1 (41 : Int)), (gd (.int .u32) d.1.2.2.1 (42 : Int)), (gd (.int .u32) d.1.2.2.1 (43 : Int)), (gd (.int .u32) d.1.2.2.1 (44 : Int)), (gd (.int .u32) d.1.2.2.1 (45 : Int)), (gd (.int .u32) d.1.2.2.1 (46 : Int)), (gd (.int .u32) d.1.2.2.1 (47 : Int)), (gd (.int .u32) d.1.2.2.1 (48 : Int)), (gd (.int .u32) d.1.2.2.1 (49 : Int)), (gd (.int .u32) d.1.2.2.1 (50 : Int)), (gd (.int .u32) d.1.2.2.1 (51 : Int)), (gd (.int .u32) d.1.2.2.1 (52 : Int)), (gd (.int .u32) d.1.2.2.1 (53 : Int)), (gd (.int .u32) d.1.2.2.1 (54 : Int)), (gd (.int .u32) d.1.2.2.1 (55 : Int)), (gd (.int .u32) d.1.2.2.1 (56 : Int)), (gd (.int .u32) d.1.2.2.1 (57 : Int)), (gd (.int .u32) d.1.2.2.1 (58 : Int)), (gd (.int .u32) d.1.2.2.1 (59 : Int)), (gd (.int .u32) d.1.2.2.1 (60 : Int)), (gd (.int .u32) d.1.2.2.1 (61 : Int)), (gd (.int .u32) d.1.2.2.1 (62 : Int)), (gd (.int .u32) d.1.2.2.1 (63 : Int)), (gd (.int .u32) d.1.2.2.1 (64 : Int)), (gd (.int .u32) d.1.2.2.1 (65 : Int)), (gd (.int .u32) d.1.2.2.1 (66 : Int)), (gd (.int .u32) d.1.2.2.1 (67 : Int)), (gd (.int .u32) d.1.2.2.1 (68 : Int)), (gd (.int .u32) d.1.2.2.1 (69 : Int)), (gd (.int .u32) d.1.2.2.1 (70 : Int)), (gd (.int .u32) d.1.2.2.1 (71 : Int)), (gd (.int .u32) d.1.2.2.1 (72 : Int)), (gd (.int .u32) d.1.2.2.1 (73 : Int)), (gd (.int .u32) d.1.2.2.1 (74 : Int)), (gd (.int .u32) d.1.2.2.1 (75 : Int)), (gd (.int .u32) d.1.2.2.1 (76 : Int)), (gd (.int .u32) d.1.2.2.1 (77 : Int)), (gd (.int .u32) d.1.2.2.1 (78 : Int)), (gd (.int .u32) d.1.2.2.1 (79 : Int))] : List Int)
  some ((), (((gd (.int .u32) x32 (0 : Int)), ((gd (.int .u32) x32 (1 : Int)), ((gd (.int .u32) x32 (2 : Int)), ((gd (.int .u32) x32 (3 : Int)), ((gd (.int .u32) x32 (4 : Int)), ((gd (.int .u32) x32 (5 : Int)), ((gd (.int .u32) x32 (6 : Int)), ((gd (.int .u32) x32 (7 : Int)), ((gd (.int .u32) x32 (8 : Int)), ((gd (.int .u32) x32 (9 : Int)), ((gd (.int .u32) x32 (10 : Int)), ((gd (.int .u32) x32 (11 : Int)), ((gd (.int .u32) x32 (12 : Int)), ((gd (.int .u32) x32 (13 : Int)), ((gd (.int .u32) x32 (14 : Int)), ((gd (.int .u32) x32 (15 : Int)), ((gd (.int .u32) x32 (16 : Int)), ((gd (.int .u32) x32 (17 : Int)), ((gd (.int .u32) x32 (18 : Int)), ((gd (.int .u32) x32 (19 : Int)), ((gd (.int .u32) x32 (20 : Int)), ((gd (.int .u32) x32 (21 : Int)), ((gd (.int .u32) x32 (22 : Int)), ((gd (.int .u32) x32 (23 : Int)), ((gd (.int .u32) x32 (24 : Int)), ((gd (.int .u32) x32 (25 : Int)), ((gd (.int .u32) x32 (26 : Int)), ((gd (.int .u32) x32 (27 : Int)), ((gd (.int .u32) x32 (28 : Int)), ((gd (.int .u32) x32 (29 : Int)), ((gd (.int .u32) x32 (30 : Int)), ((gd (.int .u32) x32 (31 : Int)), ((gd (.int .u32) x32 (32 : Int)), ((gd (.int .u32) x32 (33 : Int)), ((gd (.int .u32) x32 (34 : Int)), ((gd (.int .u32) x32 (35 : Int)), ((gd (.int .u32) x32 (36 : Int)), ((gd (.int .u32) x32 (37 : Int)), ((gd (.int .u32) x32 (38 : Int)), ((gd (.int .u32) x32 (39 : Int)), ((gd (.int .u32) x32 (40 : Int)), ((gd (.int .u32) x32 (41 : Int)), ((gd (.int .u32) x32 (42 : Int)), ((gd (.int .u32) x32 (43 : Int)), ((gd (.int .u32) x32 (44 : Int)), ((gd (.int .u32) x32 (45 : Int)), ((gd (.int .u32) x32 (46 : Int)), ((gd (.int .u32) x32 (47 : Int)), ((gd (.int .u32) x32 (48 : Int)), ((gd (.int .u32) x32 (49 : Int)), ((gd (.int .u32) x32 (50 : Int)), ((gd (.int .u32) x32 (51 : Int)), ((gd (.int .u32) x32 (52 : Int)), ((gd (.int .u32) x32 (53 : Int)), ((gd (.int .u32) x32 (54 : Int)), ((gd (.int .u32) x32 (55 : Int)), ((gd (.int .u32) x32 (56 : Int)), ((gd (.int .u32) x32 (57 : Int)), ((gd (.int .u32) x32 (58 : Int)), ((gd (.int .u32) x32 (59 : Int)), ((gd (.int .u32) x32 (60 : Int)), ((gd (.int .u32) x32 (61 : Int)), ((gd (.int .u32) x32 (62 : Int)), ((gd (.int .u32) x32 (63 : Int)), ((gd (.int .u32) x32 (64 : Int)), ((gd (.int .u32) x32 (65 : Int)), ((gd (.int .u32) x32 (66 : Int)), ((gd (.int .u32) x32 (67 : Int)), ((gd (.int .u32) x32 (68 : Int)), ((gd (.int .u32) x32 (69 : Int)), ((gd (.int .u32) x32 (70 : Int)), ((gd (.int .u32) x32 (71 : Int)), ((gd (.int .u32) x32 (72 : Int)), ((gd (.int .u32) x32 (73 : Int)), ((gd (.int .u32) x32 (74 : Int)), ((gd (.int .u32) x32 (75 : Int)), ((gd (.int .u32) x32 (76 : Int)), ((gd (.int .u32) x32 (77 : Int)), ((gd (.int .u32) x32 (78 : Int)), ((gd (.int .u32) x32 (79 : Int)), ())))))))))))))))))))))))))))))))))))))))))))))))))))))))))))))))))))))))))))))))), ())))
  else none)
  else none)
def f_sha1_schedule_t : Nat → TT_sha1_schedule
  | 0 => (fun _ => none, ())
  | k + 1 => (f_sha1_schedule_p4 (f_sha1_schedule_t k), ())
theorem t_sha1_schedule (k : Nat) : f_sha1_schedule_t (k + 1) = (f_sha1_schedule_p4 (f_sha1_schedule_t k), ()) := rfl
def f_sha1_schedule_m (T : TT_sha1_schedule) (d : Unit × ((Int × (Int × (Int × (Int × (Int × (Int × (Int × (Int × (Int × (Int × (Int × (Int × (Int × (Int × (Int × (Int × (Int × (Int × (Int × (Int × (Int × (Int × (Int × (Int × (Int × (Int × (Int × (Int × (Int × (Int × (Int × (Int × (Int × (Int × (Int × (Int × (Int × (Int × (Int × (Int × (Int × (Int × (Int × (Int × (Int × (Int × (Int × (Int × (Int × (Int × (Int × (Int × (Int × (Int × (Int × (Int × (Int × (Int × (Int × (Int × (Int × (Int × (Int × (Int × Unit)))))))))))))))))))))))))))))))))))))))))))))))))))))))))))))))) × Unit)) : Option (Unit × ((Int × (Int × (Int × (Int × (Int × (Int × (Int × (Int × (Int × (Int × (Int × (Int × (Int × (Int × (Int × (Int × (Int × (Int × (Int × (Int × (Int × (Int × (Int × (Int × (Int × (Int × (Int × (Int × (Int × (Int × (Int × (Int × (Int × (Int × (Int × (Int × (Int × (Int × (Int × (Int × (Int × (Int × (Int × (Int × (Int × (Int × (Int × (Int × (Int × (Int × (Int × (Int × (Int × (Int × (Int × (Int × (Int × (Int × (Int × (Int × (Int × (Int × (Int × (Int × (Int × (Int × (Int × (Int × (Int × (Int × (Int × (Int × (Int × (Int × (Int × (Int × (Int × (Int × (Int × (Int × Unit)))))))))))))))))))))))))))))))))))))))))))))))))))))))))))))))))))))))))))))))) × Unit)) :=
  let x1 : (List Int) := ([d.2.1.1, d.2.1.2.1, d.2.1.2.2.1, d.2.1.2.2.2.1, d.2.1.2.2.2.2.1, d.2.1.2.2.2.2.2.1, d.2.1.2.2.2.2.2.2.1, d.2.1.2.2.2.2.2.2.2.1, d.2.1.2.2.2.2.2.2.2.2.1, d.2.1.2.2.2.2.2.2.2.2.2.1, d.2.1.2.2.2.2.2.2.2.2.2.2.1, d.2.1.2.2.2.2.2.2.2.2.2.2.2.1, d.2.1.2.2.2.2.2.2.2.2.2.2.2.2.1, d.2.1.2.2.2.2.2.2.2.2.2.2.2.2.2.1, d.2.1.2.2.2.2.2.2.2.2.2.2.2.2.2.2.1, d.2.1.2.2.2.2.2.2.2.2.2.2.2.2.2.2.2.1, d.2.1.2.2.2.2.2.2.2.2.2.2.2.2.2.2.2.2.1, d.2.1.2.2.2.2.2.2.2.2.2.2.2.2.2.2.2.2.2.1, d.2.1.2.2.2.2.2.2.2.2.2.2.2.2.2.2.2.2.2.2.1, d.2.1.2.2.2.2.2.2.2.2.2.2.2.2.2.2.2.2.2.2.2.1, d.2.1.2.2.2.2.2.2.2.2.2.2.2.2.2.2.2.2.2.2.2.2.1, d.2.1.2.2.2.2.2.2.2.2.2.2.2.2.2.2.2.2.2.2.2.2.2.1, d.2.1.2.2.2.2.2.2.2.2.2.2.2.2.2.2.2.2.2.2.2.2.2.2.1, d.2.1.2.2.2.2.2.2.2.2.2.2.2.2.2.2.2.2.2.2.2.2.2.2.2.1, d.2.1.2.2.2.2.2.2.2.2.2.2.2.2.2.2.2.2.2.2.2.2.2.2.2.2.1, d.2.1.2.2.2.2.2.2.2.2.2.2.2.2.2.2.2.2.2.2.2.2.2.2.2.2.2.1, d.2.1.2.2.2.2.2.2.2.2.2.2.2.2.2.2.2.2.2.2.2.2.2.2.2.2.2.2.1, d.2.1.2.2.2.2.2.2.2.2.2.2.2.2.2.2.2.2.2.2.2.2.2.2.2.2.2.2.2.1, d.2.1.2.2.2.2.2.2.2.2.2.2.2.2.2.2.2.2.2.2.2.2.2.2.2.2.2.2.2.2.1, d.2.1.2.2.2.2.2.2.2.2.2.2.2.2.2.2.2.2.2.2.2.2.2.2.2.2.2.2.2.2.2.1, d.2.1.2.2.2.2.2.2.2.2.2.2.2.2.2.2.2.2.2.2.2.2.2.2.2.2.2.2.2.2.2.2.1, d.2.1.2.2.2.2.2.2.2.2.2.2.2.2.2.2.2.2.2.2.2.2.2.2.2.2.2.2.2.2.2.2.2.1, d.2.1.2.2.2.2.2.2.2.2.2.2.2.2.2.2.2.2.2.2.2.2.2.2.2.2.2.2.2.2.2.2.2.2.1, d.2.1.2.2.2.2.2.2.2.2.2.2.2.2.2.2.2.2.2.2.2.2.2.2.2.2.2.2.2.2.2.2.2.2.2.1, d.2.1.2.2.2.2.2.2.2.2.2.2.2.2.2.2.2.2.2.2.2.2.2.2.2.2.2.2.2.2.2.2.2.2.2.2.1, d.2.1.2.2.2.2.2.2.2.2.2.2.2.2.2.2.2.2.2.2.2.2.2.2.2.2.2.2.2.2.2.2.2.2.2.2.2.1, d.2.1.2.2.2.2.2.2.2.2.2.2.2.2.2.2.2.2.2.2.2.2.2.2.2.2.2.2.2.2.2.2.2.2.2.2.2.2.1, d.2.1.2.2.2.2.2.2.2.2.2.2.2.2.2.2.2.2.2.2.2.2.2.2.2.2.2.2.2.2.2.2.2.2.2.2.2.2.2.1, d.2.1.2.2.2.2.2.2.2.2.2.2.2.2.2.2.2.2.2.2.2.2.2.2.2.2.2.2.2.2.2.2.2.2.2.2.2.2.2.2.1, d.2.1.2.2.2.2.2.2.2.2.2.2.2.2.2.2.2.2.2.2.2.2.2.2.2.2.2.2.2.2.2.2.2.2.2.2.2.2.2.2.2.1, d.2.1.2.2.2.2.2.2.2.2.2.2.2.2.2.2.2.2.2.2.2.2.2.2.2.2.2.2.2.2.2.2.2.2.2.2.2.2.2.2.2.2.1, d.2.1.2.2.2.2.2.2.2.2.2.2.2.2.2.2.2.2.2.2.2.2.2.2.2.2.2.2.2.2.2.2.2.2.2.2.2.2.2.2.2.2.2.1, d.2.1.2.2.2.2.2.2.2.2.2.2.2.2.2.2.2.2.2.2.2.2.2.2.2.2.2.2.2.2.2.2.2.2.2.2.2.2.2.2.2.2.2.2.1, d.2.1.2.2.2.2.2.2.2.2.2.2.2.2.2.2.2.2.2.2.2.2.2.2.2.2.2.2.2.2.2.2.2.2.2.2.2.2.2.2.2.2.2.2.2.1, d.2.1.2.2.2.2.2.2.2.2.2.2.2.2.2.2.2.2.2.2.2.2.2.2.2.2.2.2.2.2.2.2.2.2.2.2.2.2.2.2.2.2.2.2.2.2.1, d.2.1.2.2.2.2.2.2.2.2.2.2.2.2.2.2.2.2.2.2.2.2.2.2.2.2.2.2.2.2.2.2.2.2.2.2.2.2.2.2.2.2.2.2.2.2.2.1, d.2.1.2.2.2.2.2.2.2.2.2.2.2.2.2.2.2.2.2.2.2.2.2.2.2.2.2.2.2.2.2.2.2.2.2.2.2.2.2.2.2.2.2.2.2.2.2.2.1, d.2.1.2.2.2.2.2.2.2.2.2.2.2.2.2.2.2.2.2.2.2.2.2.2.2.2.2.2.2.2.2.2.2.2.2.2.2.2.2.2.2.2.2.2.2.2.2.2.2.1, d.2.1.2.2.2.2.2.2.2.2.2.2.2.2.2.2.2.2.2.2.2.2.2.2.2.2.2.2.2.2.2.2.2.2.2.2.2.2.2.2.2.2.2.2.2.2.2.2.2.2.1, d.2.1.2.2.2.2.2.2.2.2.2.2.2.2.2.2.2.2.2.2.2.2.2.2.2.2.2.2.2.2.2.2.2.2.2.2.2.2.2.2.2.2.2.2.2.2.2.2.2.2.2.1, d.2.1.2.2.2.2.2.2.2.2.2.2.2.2.2.2.2.2.2.2.2.2.2.2.2.2.2.2.2.2.2.2.2.2.2.2.2.2.2.2.2.2.2.2.2.2.2.2.2.2.2.2.1, d.2.1.2.2.2.2.2.2.2.2.2.2.2.2.2.2.2.2.2.2.2.2.2.2.2.2.2.2.2.2.2.2.2.2.2.2.2.2.2.2.2.2.2.2.2.2.2.2.2.2.2.2.2.1, d.2.1.2.2.2.2.2.2.2.2.2.2.2.2.2.2.2.2.2.2.2.2.2.2.2.2.2.2.2.2.2.2.2.2.2.2.2.2.2.2.2.2.2.2.2.2.2.2.2.2.2.2.2.2.1, d.2.1.2.2.2.2.2.2.2.2.2.2.2.2.2.2.2.2.2.2.2.2.2.2.2.2.2.2.2.2.2.2.2.2.2.2.2.2.2.2.2.2.2.2.2.2.2.2.2.2.2.2.2.2.2.1, d.2.1.2.2.2.2.2.2.2.2.2.2.2.2.2.2.2.2.2.2.2.2.2.2.2.2.2.2.2.2.2.2.2.2.2.2.2.2.2.2.2.2.2.2.2.2.2.2.2.2.2.2.2.2.2.2.1, d.2.1.2.2.2.2.2.2.2.2.2.2.2.2.2.2.2.2.2.2.2.2.2.2.2.2.2.2.2.2.2.2.2.2.2.2.2.2.2.2.2.2.2.2.2.2.2.2.2.2.2.2.2.2.2.2.2.1, d.2.1.2.2.2.2.2.2.2.2.2.2.2.2.2.2.2.2.2.2.2.2.2.2.2.2.2.2.2.2.2.2.2.2.2.2.2.2.2.2.2.2.2.2.2.2.2.2.2.2.2.2.2.2.2.2.2.2.1, d.2.1.2.2.2.2.2.2.2.2.2.2.2.2.2.2.2.2.2.2.2.2.2.2.2.2.2.2.2.2.2.2.2.2.2.2.2.2.2.2.2.2.2.2.2.2.2.2.2.2.2.2.2.2.2.2.2.2.2.1, d.2.1.2.2.2.2.2.2.2.2.2.2.2.2.2.2.2.2.2.2.2.2.2.2.2.2.2.2.2.2.2.2.2.2.2.2.2.2.2.2.2.2.2.2.2.2.2.2.2.2.2.2.2.2.2.2.2.2.2.2.1, d.2.1.2.2.2.2.2.2.2.2.2.2.2.2.2.2.2.2.2.2.2.2.2.2.2.2.2.2.2.2.2.2.2.2.2.2.2.2.2.2.2.2.2.2.2.2.2.2.2.2.2.2.2.2.2.2.2.2.2.2.2.1, d.2.1.2.2.2.2.2.2.2.2.2.2.2.2.2.2.2.2.2.2.2.2.2.2.2.2.2.2.2.2.2.2.2.2.2.2.2.2.2.2.2.2.2.2.2.2.2.2.2.2.2.2.2.2.2.2.2.2.2.2.2.2.1, d.2.1.2.2.2.2.2.2.2.2.2.2.2.2.2.2.2.2.2.2.2.2.2.2.2.2.2.2.2.2.2.2.2.2.2.2.2.2.2.2.2.2.2.2.2.2.2.2.2.2.2.2.2.2.2.2.2.2.2.2.2.2.2.1, d.2.1.2.2.2.2.2.2.2.2.2.2.2.2.2.2.2.2.2.2.2.2.2.2.2.2.2.2.2.2.2.2.2.2.2.2.2.2.2.2.2.2.2.2.2.2.2.2.2.2.2.2.2.2.2.2.2.2.2.2.2.2.2.2.1, d.2.1.2.2.2.2.2.2.2.2.2.2.2.2.2.2.2.2.2.2.2.2.2.2.2.2.2.2.2.2.2.2.2.2.2.2.2.2.2.2.2.2.2.2.2.2.2.2.2.2.2.2.2.2.2.2.2.2.2.2.2.2.2.2.2.1] : List Int)
  let x2 : (List Int) := (List.replicate 80 (0 : Int))
  let x3 : (List Int) := (List.replicate 80 (0 : Int))
  (T.1 ((x1, (x2, (x3, ()))), ((), ((), ((), (((0 : Int), ()), ()))))))
def g_sha1_schedule (d : Unit × ((Int × (Int × (Int × (Int × (Int × (Int × (Int × (Int × (Int × (Int × (Int × (Int × (Int × (Int × (Int × (Int × (Int × (Int × (Int × (Int × (Int × (Int × (Int × (Int × (Int × (Int × (Int × (Int × (Int × (Int × (Int × (Int × (Int × (Int × (Int × (Int × (Int × (Int × (Int × (Int × (Int × (Int × (Int × (Int × (Int × (Int × (Int × (Int × (Int × (Int × (Int × (Int × (Int × (Int × (Int × (Int × (Int × (Int × (Int × (Int × (Int × (Int × (Int × (Int × Unit)))))))))))))))))))))))))))))))))))))))))))))))))))))))))))))))) × Unit)) : Option (Unit × ((Int × (Int × (Int × (Int × (Int × (Int × (Int × (Int × (Int × (Int × (Int × (Int × (Int × (Int × (Int × (Int × (Int × (Int × (Int × (Int × (Int × (Int × (Int × (Int × (Int × (Int × (Int × (Int × (Int × (Int × (Int × (Int × (Int × (Int × (Int × (Int × (Int × (Int × (Int × (Int × (Int × (Int × (Int × (Int × (Int × (Int × (Int × (Int × (Int × (Int × (Int × (Int × (Int × (Int × (Int × (Int × (Int × (Int × (Int × (Int × (Int × (Int × (Int × (Int × (Int × (Int × (Int × (Int × (Int × (Int × (Int × (Int × (Int × (Int × (Int × (Int × (Int × (Int × (Int × (Int × Unit)))))))))))))))))))))))))))))))))))))))))))))))))))))))))))))))))))))))))))))))) × Unit)) := lim fun k => f_sha1_schedule_m (f_sha1_schedule_t k) d
theorem ok_sha1_schedule : FnOk Tryz.prog ET0 98 pi_sha1_schedule po_sha1_schedule g_sha1_schedule :=
 fnL (E := (E0.add 100 s_math_bits_RotateLeft32)) (pi := pi_sha1_schedule) (po := po_sha1_schedule) (envOk_add e0_ok (typed_ok ok_math_bits_RotateLeft32)) (fn := Tryz.f98) Tryz.func98 (by kernel_rfl) (by kernel_rfl) [.cell 2 152] (by kernel_rfl) rfl rfl rfl [] (fun k => [(4, ⟨sh_sha1_schedule_4, (f_sha1_schedule_t k).1⟩)]) (fun _ => [])
 (.intro (fun _ => rfl) trivial) (fun k => (.intro (fun d => by kernel_rfl) trivial)) trivial (fun k => trivial) (fun k d => f_sha1_schedule_m (f_sha1_schedule_t k) d) (fun k d => by kernel_rfl)
def s_sha1_schedule := typedSem pi_sha1_schedule po_sha1_schedule g_sha1_schedule

abbrev pi_sha1_mix : PSh := ⟨[], [.mk false [vI], .mk false [.v (.int .u32)], .mk false [.v (.int .u32)], .mk false [.v (.int .u32)]]⟩
abbrev po_sha1_mix : PSh := ⟨[], [.mk false [.v (.int .u32)], .mk false [.v (.int .u32)]]⟩
def f_sha1_mix_m (T : Unit) (d : Unit × ((Int × Unit) × ((Int × Unit) × ((Int × Unit) × ((Int × Unit) × Unit))))) : Option (Unit × ((Int × Unit) × ((Int × Unit) × Unit))) :=
  let x1 : Int := (iquo .i64 d.2.1.1 (20 : Int))
  let x2 : Bool := (x1 == (0 : Int))
  bif x2 then (
  let x3 : Int := (ixor .u32 d.2.2.2.1.1 d.2.2.2.2.1.1)
  let x4 : Int := (iand .u32 d.2.2.1.1 x3)
  let x5 : Int := (ixor .u32 d.2.2.2.2.1.1 x4)
  some ((), ((x5, ()), (((1518500249 : Int), ()), ()))))
  else (
  let x6 : Bool := (x1 == (1 : Int))
  bif x6 then (
  let x7 : Int := (ixor .u32 d.2.2.1.1 d.2.2.2.1.1)
  let x8 : Int := (ixor .u32 x7 d.2.2.2.2.1.1)
  some ((), ((x8, ()), (((1859775393 : Int), ()), ()))))
  else (
  let x9 : Bool := (x1 == (2 : Int))
  bif x9 then (
  let x10 : Int := (iand .u32 d.2.2.1.1 d.2.2.2.1.1)
  let x11 : Int := (ior .u32 d.2.2.1.1 d.2.2.2.1.1)
  let x12 : Int := (iand .u32 d.2.2.2.2.1.1 x11)
  let x13 : Int := (ior .u32 x10 x12)
  some ((), ((x13, ()), (((2400959708 : Int), ()), ()))))
  else (
  let x14 : Int := (ixor .u32 d.2.2.1.1 d.2.2.2.1.1)
  let x15 : Int := (ixor .u32 x14 d.2.2.2.2.1.1)
  some ((), ((x15, ()), (((3395469782 : Int), ()), ()))))))
def g_sha1_mix (d : Unit × ((Int × Unit) × ((Int × Unit) × ((Int × Unit) × ((Int × Unit) × Unit))))) : Option (Unit × ((Int × Unit) × ((Int × Unit) × Unit))) := f_sha1_mix_m () d
theorem ok_sha1_mix : FnOk Tryz.prog ET0 99 pi_sha1_mix po_sha1_mix g_sha1_mix :=
 fn0 (E := E0) (pi := pi_sha1_mix) (po := po_sha1_mix) e0_ok (fn := Tryz.f99) Tryz.func99 (by kernel_rfl) (by kernel_rfl) [.tmp 8, .tmp 9] (by kernel_rfl) rfl rfl rfl [] fun d => by kernel_rfl
def s_sha1_mix := typedSem pi_sha1_mix po_sha1_mix g_sha1_mix

abbrev pi_sha1_Step : PSh := ⟨[], [.mk true [.v (.int .u32), .v (.int .u32), .v (.int .u32), .v (.int .u32), .v (.int .u32)], .mk true [v8, v8, v8, v8, v8, v8, v8, v8, v8, v8, v8, v8, v8, v8, v8, v8, v8, v8, v8, v8, v8, v8, v8, v8, v8, v8, v8, v8, v8, v8, v8, v8, v8, v8, v8, v8, v8, v8, v8, v8, v8, v8, v8, v8, v8, v8, v8, v8, v8, v8, v8, v8, v8, v8, v8, v8, v8, v8, v8, v8, v8, v8, v8, v8]]⟩
abbrev po_sha1_Step : PSh := ⟨[], [.mk true [.v (.int .u32), .v (.int .u32), .v (.int .u32), .v (.int .u32), .v (.int .u32)]]⟩
abbrev TT_sha1_Step : Type := (((((Int × (Int × (Int × (Int × (Int × Unit))))) × ((Int × (Int × (Int × (Int × (Int × Unit))))) × ((Int × (Int × (Int × (Int × (Int × Unit))))) × Unit))) × (Unit × (Unit × (Unit × ((Int × (Int × (Int × (Int × (Int × (Int × (Int × (Int × (Int × (Int × (Int × (Int × (Int × (Int × (Int × (Int × (Int × (Int × (Int × (Int × (Int × (Int × (Int × (Int × (Int × (Int × (Int × (Int × (Int × (Int × (Int × (Int × (Int × (Int × (Int × (Int × (Int × (Int × (Int × (Int × (Int × (Int × (Int × (Int × (Int × (Int × (Int × (Int × (Int × (Int × (Int × (Int × (Int × (Int × (Int × (Int × (Int × (Int × (Int × (Int × (Int × (Int × (Int × (Int × (Int × (Int × (Int × (Int × (Int × (Int × (Int × (Int × (Int × (Int × (Int × (Int × (Int × (Int × (Int × (Int × Unit)))))))))))))))))))))))))))))))))))))))))))))))))))))))))))))))))))))))))))))))) × ((Int × Unit) × Unit)))))) → Option (Unit × ((Int × (Int × (Int × (Int × (Int × Unit))))) × Unit))) × (((((Int × (Int × (Int × (Int × (Int × Unit))))) × ((Int × (Int × (Int × (Int × (Int × Unit))))) × ((Int × (Int × (Int × (Int × (Int × Unit))))) × Unit))) × (Unit × (Unit × (Unit × ((Int × Unit) × Unit))))) → Option (Unit × ((Int × (Int × (Int × (Int × (Int × Unit))))) × Unit))) × (((((Int × (Int × (Int × (Int × (Int × Unit))))) × ((Int × (Int × (Int × (Int × (Int × Unit))))) × ((Int × (Int × (Int × (Int × (Int × Unit))))) × Unit))) × (Unit × (Unit × (Unit × ((Int × Unit) × Unit))))) → Option (Unit × ((Int × (Int × (Int × (Int × (Int × Unit))))) × Unit))) × Unit)))
abbrev sh_sha1_Step_4 : PSh := ⟨[.var 36 [.v (.int .u32), .v (.int .u32), .v (.int .u32), .v (.int .u32), .v (.int .u32)], .var 36 [.v (.int .u32), .v (.int .u32), .v (.int .u32), .v (.int .u32), .v (.int .u32)], .var 36 [.v (.int .u32), .v (.int .u32), .v (.int .u32), .v (.int .u32), .v (.int .u32)]], [.any, .any, .mk false [.ref 0 0], .any, .mk false [.ref 1 0], .mk false [.ref 2 0], .any, .any, .any, .any, .any, .any, .any, .mk true [.v (.int .u32), .v (.int .u32), .v (.int .u32), .v (.int .u32), .v (.int .u32), .v (.int .u32), .v (.int .u32), .v (.int .u32), .v (.int .u32), .v (.int .u32), .v (.int .u32), .v (.int .u32), .v (.int .u32), .v (.int .u32), .v (.int .u32), .v (.int .u32), .v (.int .u32), .v (.int .u32), .v (.int .u32), .v (.int .u32), .v (.int .u32), .v (.int .u32), .v (.int .u32), .v (.int .u32), .v (.int .u32), .v (.int .u32), .v (.int .u32), .v (.int .u32), .v (.int .u32), .v (.int .u32), .v (.int .u32), .v (.int .u32), .v (.int .u32), .v (.int .u32), .v (.int .u32), .v (.int .u32), .v (.int .u32), .v (.int .u32), .v (.int .u32), .v (.int .u32), .v (.int .u32), .v (.int .u32), .v (.int .u32), .v (.int .u32), .v (.int .u32), .v (.int .u32), .v (.int .u32), .v (.int .u32), .v (.int .u32), .v (.int .u32), .v (.int .u32), .v (.int .u32), .v (.int .u32), .v (.int .u32), .v (.int .u32), .v (.int .u32), .v (.int .u32), .v (.int .u32), .v (.int .u32), .v (.int .u32), .v (.int .u32), .v (.int .u32), .v (.int .u32), .v (.int .u32), .v (.int .u32), .v (.int .u32), .v (.int .u32), .v (.int .u32), .v (.int .u32), .v (.int .u32), .v (.int .u32), .v (.int .u32), .v (.int .u32), .v (.int .u32), .v (.int .u32), .v (.int .u32), .v (.int .u32), .v (.int .u32), .v (.int .u32), .v (.int .u32)], .mk false [vI]] ++ anyN 50⟩
abbrev sh_sha1_Step_12 : PSh := ⟨[.var 36 [.v (.int .u32), .v (.int .u32), .v (.int .u32), .v (.int .u32), .v (.int .u32)], .var 36 [.v (.int .u32), .v (.int .u32), .v (.int .u32), .v (.int .u32), .v (.int .u32)], .var 36 [.v (.int .u32), .v (.int .u32), .v (.int .u32), .v (.int .u32), .v (.int .u32)]], [.any, .any, .mk false [.ref 0 0], .any, .mk false [.ref 1 0], .mk false [.ref 2 0], .any, .any, .any, .any, .any, .any, .any, .any, .any, .any, .any, .any, .any, .any, .any, .any, .any, .any, .any, .any, .any, .any, .any, .any, .any, .any, .any, .any, .any, .any, .any, .any, .any, .any, .any, .any, .any, .any, .any, .any, .any, .any, .any, .any, .any, .any, .mk false [vI]] ++ anyN 12⟩
abbrev sh_sha1_Step_15 : PSh := ⟨[.var 36 [.v (.int .u32), .v (.int .u32), .v (.int .u32), .v (.int .u32), .v (.int .u32)], .var 36 [.v (.int .u32), .v (.int .u32), .v (.int .u32), .v (.int .u32), .v (.int .u32)], .var 36 [.v (.int .u32), .v (.int .u32), .v (.int .u32), .v (.int .u32), .v (.int .u32)]], [.any, .any, .mk false [.ref 0 0], .any, .mk false [.ref 1 0], .mk false [.ref 2 0], .any, .any, .any, .any, .any, .any, .any, .any, .any, .any, .any, .any, .any, .any, .any, .any, .any, .any, .any, .any, .any, .any, .any, .any, .any, .any, .any, .any, .any, .any, .any, .any, .any, .any, .any, .any, .any, .any, .any, .any, .any, .any, .any, .any, .any, .any, .mk false [vI]] ++ anyN 12⟩
def f_sha1_Step_p4 (T : TT_sha1_Step) (d : ((Int × (Int × (Int × (Int × (Int × Unit))))) × ((Int × (Int × (Int × (Int × (Int × Unit))))) × ((Int × (Int × (Int × (Int × (Int × Unit))))) × Unit))) × (Unit × (Unit × (Unit × ((Int × (Int × (Int × (Int × (Int × (Int × (Int × (Int × (Int × (Int × (Int × (Int × (Int × (Int × (Int × (Int × (Int × (Int × (Int × (Int × (Int × (Int × (Int × (Int × (Int × (Int × (Int × (Int × (Int × (Int × (Int × (Int × (Int × (Int × (Int × (Int × (Int × (Int × (Int × (Int × (Int × (Int × (Int × (Int × (Int × (Int × (Int × (Int × (Int × (Int × (Int × (Int × (Int × (Int × (Int × (Int × (Int × (Int × (Int × (Int × (Int × (Int × (Int × (Int × (Int × (Int × (Int × (Int × (Int × (Int × (Int × (Int × (Int × (Int × (Int × (Int × (Int × (Int × (Int × (Int × Unit)))))))))))))))))))))))))))))))))))))))))))))))))))))))))))))))))))))))))))))))) × ((Int × Unit) × Unit)))))) : Option (Unit × ((Int × (Int × (Int × (Int × (Int × Unit))))) × Unit)) :=
  let x3 : Bool := (decide (d.2.2.2.2.2.1.1 < (80 : Int)))
  bif x3 then (
  bif decide ((0 : Int) ≤ d.2.2.2.2.2.1.1) && decide (d.2.2.2.2.2.1.1 < (80 : Int)) then (
  (g_sha1_mix ((), (d.2.2.2.2.2.1, ((d.1.2.2.1.2.1, ()), ((d.1.2.2.1.2.2.1, ()), ((d.1.2.2.1.2.2.2.1, ()), ())))))).bind fun x4 =>
  (g_math_bits_RotateLeft32 ((), ((d.1.2.2.1.1, ()), (((5 : Int), ()), ())))).bind fun x5 =>
  let x6 : Int := (iadd .u32 x5.2.1.1 x4.2.1.1)
  let x7 : Int := (iadd .u32 x6 d.1.2.2.1.2.2.2.2.1)
  let x8 : Int := (iadd .u32 x7 x4.2.2.1.1)
  let x9 : Int := (iadd .u32 x8 (gd (.int .u32) ([d.2.2.2.2.1.1, d.2.2.2.2.1.2.1, d.2.2.2.2.1.2.2.1, d.2.2.2.2.1.2.2.2.1, d.2.2.2.2.1.2.2.2.2.1, d.2.2.2.2.1.2.2.2.2.2.1, d.2.2.2.2.1.2.2.2.2.2.2.1, d.2.2.2.2.1.2.2.2.2.2.2.2.1, d.2.2.2.2.1.2.2.2.2.2.2.2.2.1, d.2.2.2.2.1.2.2.2.2.2.2.2.2.2.1, d.2.2.2.2.1.2.2.2.2.2.2.2.2.2.2.1, d.2.2.2.2.1.2.2.2.2.2.2.2.2.2.2.2.1, d.2.2.2.2.1.2.2.2.2.2.2.2.2.2.2.2.2.1, d.2.2.2.2.1.2.2.2.2.2.2.2.2.2.2.2.2.2.1, d.2.2.2.2.1.2.2.2.2.2.2.2.2.2.2.2.2.2.2.1, d.2.2.2.2.1.2.2.2.2.2.2.2.2.2.2.2.2.2.2.2.1, d.2.2.2.2.1.2.2.2.2.2.2.2.2.2.2.2.2.2.2.2.2.1, d.2.2.2.2.1.2.2.2.2.2.2.2.2.2.2.2.2.2.2.2.2.2.1, d.2.2.2.2.1.2.2.2.2.2.2.2.2.2.2.2.2.2.2.2.2.2.2.1, d.2.2.2.2.1.2.2.2.2.2.2.2.2.2.2.2.2.2.2.2.2.2.2.2.1, d.2.2.2.2.1.2.2.2.2.2.2.2.2.2.2.2.2.2.2.2.2.2.2.2.2.1, d.2.2.2.2.1.2.2.2.2.2.2.2.2.2.2.2.2.2.2.2.2.2.2.2.2.2.1, d.2.2.2.2.1.2.2.2.2.2.2.2.2.2.2.2.2.2.2.2.2.2.2.2.2.2.2.1, d.2.2.2.2.1.2.2.2.2.2.2.2.2.2.2.2.2.2.2.2.2.2.2.2.2.2.2.2.1, d.2.2.2.2.1.2.2.2.2.2.2.2.2.2.2.2.2.2.2.2.2.2.2.2.2.2.2.2.2.1, d.2.2.2.2.1.2.2.2.2.2.2.2.2.2.2.2.2.2.2.2.2.2.2.2.2.2.2.2.2.2.1, d.2.2.2.2.1.2.2.2.2.2.2.2.2.2.2.2.2.2.2.2.2.2.2.2.2.2.2.2.2.2.2.1, d.2.2.2.2.1.2.2.2.2.2.2.2.2.2.2.2.2.2.2.2.2.2.2.2.2.2.2.2.2.2.2.2.1, d.2.2.2.2.1.2.2.2.2.2.2.2.2.2.2.2.2.2.2.2.2.2.2.2.2.2.2.2.2.2.2.2.2.1, d.2.2.2.2.1.2.2.2.2.2.2.2.2.2.2.2.2.2.2.2.2.2.2.2.2.2.2.2.2.2.2.2.2.2.1, d.2.2.2.2.1.2.2.2.2.2.2.2.2.2.2.2.2.2.2.2.2.2.2.2.2.2.2.2.2.2.2.2.2.2.2.1, d.2.2.2.2.1.2.2.2.2.2.2.2.2.2.2.2.2.2.2.2.2.2.2.2.2.2.2.2.2.2.2.2.2.2.2.2.1, d.2.2.2.2.1.2.2.2.2.2.2.2.2.2.2.2.2.2.2.2.2.2.2.2.2.2.2.2.2.2.2.2.2.2.2.2.2.1, d.2.2.2.2.1.2.2.2.2.2.2.2.2.2.2.2.2.2.2.2.2.2.2.2.2.2.2.2.2.2.2.2.2.2.2.2.2.2.1, d.2.2.2.2.1.2.2.2.2.2.2.2.2.2.2.2.2.2.2.2.2.2.2.2.2.2.2.2.2.2.2.2.2.2.2.2.2.2.2.1, d.2.2.2.2.1.2.2.2.2.2.2.2.2.2.2.2.2.2.2.2.2.2.2.2.2.2.2.2.2.2.2.2.2.2.2.2.2.2.2.2.1, d.2.2.2.2.1.2.2.2.2.2.2.2.2.2.2.2.2.2.2.2.2.2.2.2.2.2.2.2.2.2.2.2.2.2.2.2.2.2.2.2.2.1, d.2.2.2.2.1.2.2.2.2.2.2.2.2.2.2.2.2.2.2.2.2.2.2.2.2.2.2.2.2.2.2.2.2.2.2.2.2.2.2.2.2.2.1, d.2.2.2.2.1.2.2.2.2.2.2.2.2.2.2.2.2.2.2.2.2.2.2.2.2.2.2.2.2.2.2.2.2.2.2.2.2.2.2.2.2.2.2.1, d.2.2.2.2.1.2.2.2.2.2.2.2.2.2.2.2.2.2.2.2.2.2.2.2.2.2.2.2.2.2.2.2.2.2.2.2.2.2.2.2.2.2.2.2.1, d.2.2.2.2.1.2.2.2.2.2.2.2.2.2.2.2.2.2.2.2.2.2.2.2.2.2.2.2.2.2.2.2.2.2.2.2.2.2.2.2.2.2.2.2.2.1, d.2.2.2.2.1.2.2.2.2.2.2.2.2.2.2.2.2.2.2.2.2.2.2.2.2.2.2.2.2.2.2.2.2.2.2.2.2.2.2.2.2.2.2.2.2.2.1, d.2.2.2.2.1.2.2.2.2.2.2.2.2.2.2.2.2.2.2.2.2.2.2.2.2.2.2.2.2.2.2.2.2.2.2.2.2.2.2.2.2.2.2.2.2.2.2.1, d.2.2.2.2.1.2.2.2.2.2.2.2.2.2.2.2.2.2.2.2.2.2.2.2.2.2.2.2.2.2.2.2.2.2.2.2.2.2.2.2.2.2.2.2.2.2.2.2.1, d.2.2.2.2.1.2.2.2.2.2.2.2.2.2.2.2.2.2.2.2.2.2.2.2.2.2.2.2.2.2.2.2.2.2.2.2.2.2.2.2.2.2.2.2.2.2.2.2.2.1, d.2.2.2.2.1.2.2.2.2.2.2.2.2.2.2.2.2.2.2.2.2.2.2.2.2.2.2.2.2.2.2.2.2.2.2.2.2.2.2.2.2.2.2.2.2.2.2.2.2.2.1, d.2.2.2.2.1.2.2.2.2.2.2.2.2.2.2.2.2.2.2.2.2.2.2.2.2.2.2.2.2.2.2.2.2.2.2.2.2.2.2.2.2.2.2.2.2.2.2.2.2.2.2.1, d.2.2.2.2.1.2.2.2.2.2.2.2.2.2.2.2.2.2.2.2.2.2.2.2.2.2.2.2.2.2.2.2.2.2.2.2.2.2.2.2.2.2.2.2.2.2.2.2.2.2.2.2.1, d.2.2.2.2.1.2.2.2.2.2.2.2.2.2.2.2.2.2.2.2.2.2.2.2.2.2.2.2.2.2.2.2.2.2.2.2.2.2.2.2.2.2.2.2.2.2.2.2.2.2.2.2.2.1, d.2.2.2.2.1.2.2.2.2.2.2.2.2.2.2.2.2.2.2.2.2.2.2.2.2.2.2.2.2.2.2.2.2.2.2.2.2.2.2.2.2.2.2.2.2.2.2.2.2.2.2.2.2.2.1, d.2.2.2.2.1.2.2.2.2.2.2.2.2.2.2.2.2.2.2.2.2.2.2.2.2.2.2.2.2.2.2.2.2.2.2.2.2.2.2.2.2.2.2.2.2.2.2.2.2.2.2.2.2.2.2.1, d.2.2.2.2.1.2.2.2.2.2.2.2.2.2.2.2.2.2.2.2.2.2.2.2.2.2.2.2.2.2.2.2.2.2.2.2.2.2.2.2.2.2.2.2.2.2.2.2.2.2.2.2.2.2.2.2.1, d.2.2.2.2.1.2.2.2.2.2.2.2.2.2.2.2.2.2.2.2.2.2.2.2.2.2.2.2.2.2.2.2.2.2.2.2.2.2.2.2.2.2.2.2.2.2.2.2.2.2.2.2.2.2.2.2.2.1, d.2.2.2.2.1.2.2.2.2.2.2.2.2.2.2.2.2.2.2.2.2.2.2.2.2.2.2.2.2.2.2.2.2.2.2.2.2.2.2.2.2.2.2.2.2.2.2.2.2.2.2.2.2.2.2.2.2.2.1, d.2.2.2.2.1.2.2.2.2.2.2.2.2.2.2.2.2.2.2.2.2.2.2.2.2.2.2.2.2.2.2.2.2.2.2.2.2.2.2.2.2.2.2.2.2.2.2.2.2.2.2.2.2.2.2.2.2.2.2.1, d.2.2.2.2.1.2.2.2.2.2.2.2.2.2.2.2.2.2.2.2.2.2.2.2.2.2.2.2.2.2.2.2.2.2.2.2.2.2.2.2.2.2.2.2.2.2.2.2.2.2.2.2.2.2.2.2.2.2.2.2.1, d.2.2.2.2.1.2.2.2.2.2.2.2.2.2.2.2.2.2.2.2.2.2.2.2.2.2.2.2.2.2.2.2.2.2.2.2.2.2.2.2.2.2.2.2.2.2.2.2.2.2.2.2.2.2.2.2.2.2.2.2.2.1, d.2.2.2.2.1.2.2.2.2.2.2.2.2.2.2.2.2.2.2.2.2.2.2.2.2.2.2.2.2.2.2.2.2.2.2.2.2.2.2.2.2.2.2.2.2.2.2.2.2.2.2.2.2.2.2.2.2.2.2.2.2.2.1, d.2.2.2.2.1.2.2.2.2.2.2.2.2.2.2.2.2.2.2.2.2.2.2.2.2.2.2.2.2.2.2.2.2.2.2.2.2.2.2.2.2.2.2.2.2.2.2.2.2.2.2.2.2.2.2.2.2.2.2.2.2.2.2.1, d.2.2.2.2.1.2.2.2.2.2.2.2.2.2.2.2.2.2.2.2.2.2.2.2.2.2.2.2.2.2.2.2.2.2.2.2.2.2.2.2.2.2.2.2.2.2.2.2.2.2.2.2.2.2.2.2.2.2.2.2.2.2.2.2.1, d.2.2.2.2.1.2.2.2.2.2.2.2.2.2.2.2.2.2.2.2.2.2.2.2.2.2.2.2.2.2.2.2.2.2.2.2.2.2.2.2.2.2.2.2.2.2.2.2.2.2.2.2.2.2.2.2.2.2.2.2.2.2.2.2.2.1, d.2.2.2.2.1.2.2.2.2.2.2.2.2.2.2.2.2.2.2.2.2.2.2.2.2.2.2.2.2.2.2.2.2.2.2.2.2.2.2.2.2.2.2.2.2.2.2.2.2.2.2.2.2.2.2.2.2.2.2.2.2.2.2.2.2.2.1, d.2.2.2.2.1.2.2.2.2.2.2.2.2.2.2.2.2.2.2.2.2.2.2.2.2.2.2.2.2.2.2.2.2.2.2.2.2.2.2.2.2.2.2.2.2.2.2.2.2.2.2.2.2.2.2.2.2.2.2.2.2.2.2.2.2.2.2.1, d.2.2.2.2.1.2.2.2.2.2.2.2.2.2.2.2.2.2.2.2.2.2.2.2.2.2.2.2.2.2.2.2.2.2.2.2.2.2.2.2.2.2.2.2.2.2.2.2.2.2.2.2.2.2.2.2.2.2.2.2.2.2.2.2.2.2.2.2.1, d.2.2.2.2.1.2.2.2.2.2.2.2.2.2.2.2.2.2.2.2.2.2.2.2.2.2.2.2.2.2.2.2.2.2.2.2.2.2.2.2.2.2.2.2.2.2.2.2.2.2.2.2.2.2.2.2.2.2.2.2.2.2.2.2.2.2.2.2.2.1, d.2.2.2.2.1.2.2.2.2.2.2.2.2.2.2.2.2.2.2.2.2.2.2.2.2.2.2.2.2.2.2.2.2.2.2.2.2.2.2.2.2.2.2.2.2.2.2.2.2.2.2.2.2.2.2.2.2.2.2.2.2.2.2.2.2.2.2.2.2.2.1, d.2.2.2.2.1.2.2.2.2.2.2.2.2.2.2.2.2.2.2.2.2.2.2.2.2.2.2.2.2.2.2.2.2.2.2.2.2.2.2.2.2.2.2.2.2.2.2.2.2.2.2.2.2.2.2.2.2.2.2.2.2.2.2.2.2.2.2.2.2.2.2.1, d.2.2.2.2.1.2.2.2.2.2.2.2.2.2.2.2.2.2.2.2.2.2.2.2.2.2.2.2.2.2.2.2.2.2.2.2.2.2.2.2.2.2.2.2.2.2.2.2.2.2.2.2.2.2.2.2.2.2.2.2.2.2.2.2.2.2.2.2.2.2.2.2.1, d.2.2.2.2.1.2.2.2.2.2.2.2.2.2.2.2.2.2.2.2.2.2.2.2.2.2.2.2.2.2.2.2.2.2.2.2.2.2.2.2.2.2.2.2.2.2.2.2.2.2.2.2.2.2.2.2.2.2.2.2.2.2.2.2.2.2.2.2.2.2.2.2.2.1, d.2.2.2.2.1.2.2.2.2.2.2.2.2.2.2.2.2.2.2.2.2.2.2.2.2.2.2.2.2.2.2.2.2.2.2.2.2.2.2.2.2.2.2.2.2.2.2.2.2.2.2.2.2.2.2.2.2.2.2.2.2.2.2.2.2.2.2.2.2.2.2.2.2.2.1, d.2.2.2.2.1.2.2.2.2.2.2.2.2.2.2.2.2.2.2.2.2.2.2.2.2.2.2.2.2.2.2.2.2.2.2.2.2.2.2.2.2.2.2.2.2.2.2.2.2.2.2.2.2.2.2.2.2.2.2.2.2.2.2.2.2.2.2.2.2.2.2.2.2.2.2.1, d.2.2.2.2.1.2.2.2.2.2.2.2.2.2.2.2.2.2.2.2.2.2.2.2.2.2.2.2.2.2.2.2.2.2.2.2.2.2.2.2.2.2.2.2.2.2.2.2.2.2.2.2.2.2.2.2.2.2.2.2.2.2.2.2.2.2.2.2.2.2.2.2.2.2.2.2.1, d.2.2.2.2.1.2.2.2.2.2.2.2.2.2.2.2.2.2.2.2.2.2.2.2.2.2.2.2.2.2.2.2.2.2.2.2.2.2.2.2.2.2.2.2.2.2.2.2.2.2.2.2.2.2.2.2.2.2.2.2.2.2.2.2.2.2.2.2.2.2.2.2.2.2.2.2.2.1, d.2.2.2.2.1.2.2.2.2.2.2.2.2.2.2.2.2.2.2.2.2.2.2.2.2.2.2.2.2.2.2.2.2.2.2.2.2.2.2.2.2.2.2.2.2.2.2.2.2.2.2.2.2.2.2.2.2.2.2.2.2.2.2.2.2.2.2.2.2.2.2.2.2.2.2.2.2.2.1, d.2.2.2.2.1.2.2.2.2.2.2.2.2.2.2.2.2.2.2.2.2.2.2.2.2.2.2.2.2.2.2.2.2.2.2.2.2.2.2.2.2.2.2.2.2.2.2.2.2.2.2.2.2.2.2.2.2.2.2.2.2.2.2.2.2.2.2.2.2.2.2.2.2.2.2.2.2.2.2.1, d.2.2.2.2.1.2.2.2.2.2.2.2.2.2.2.2.2.2.2.2.2.2.2.2.2.2.2.2.2.2.2.2.2.2.2.2.2.2.2.2.2.2.2.2.2.2.2.2.2.2.2.2.2.2.2.2.2.2.2.2.2.2.2.2.2.2.2.2.2.2.2.2.2.2.2.2.2.2.2.2.1, d.2.2.2.2.1.2.2.2.2.2.2.2.2.2.2.2.2.2.2.2.2.2.2.2.2.2.2.2.2.2.2.2.2.2.2.2.2.2.2.2.2.2.2.2.2.2.2.2.2.2.2.2.2.2.2.2.2.2.2.2.2.2.2.2.2.2.2.2.2.2.2.2.2.2.2.2.2.2.2.2.2.1, d.2.2.2.2.1.2.2.2.2.2.2.2.2.2.2.2.2.2.2.2.2.2.2.2.2.2.2.2.2.2.2.2.2.2.2.2.2.2.2.2.2.2.2.2.2.2.2.2.2.2.2.2.2.2.2.2.2.2.2.2.2.2.2.2.2.2.2.2.2.2.2.2.2.2.2.2.2.2.2.2.2.2.1, d.2.2.2.2.1.2.2.2.2.2.2.2.2.2.2.2.2.2.2.2.2.2.2.2.2.2.2.2.2.2.2.2.2.2.2.2.2.2.2.2.2.2.2.2.2.2.2.2.2.2.2.2.2.2.2.2.2.2.2.2.2.2.2.2.2.2.2.2.2.2.2.2.2.2.2.2.2.2.2.2.2.2.2.1, d.2.2.2.2.1.2.2.2.2.2.2.2.2.2.2.2.2.2.2.2.2.2.2.2.2.2.2.2.2.2.2.2.2.2.2.2.2.2.2.2.2.2.2.2.2.2.2.2.2.2.2.2.2.2.2.2.2.2.2.2.2.2.2.2.2.2.2.2.2.2.2.2.2.2.2.2.2.2.2.2.2.2.2.2.1] : List Int) d.2.2.2.2.2.1.1))
  (g_math_bits_RotateLeft32 ((), ((d.1.2.2.1.2.1, ()), (((30 : Int), ()), ())))).bind fun x10 =>
  let x11 : Int := (iadd .i64 d.2.2.2.2.2.1.1 (1 : Int))
  (T.1 ((d.1.1, (d.1.2.1, ((x9, (d.1.2.2.1.1, (x10.2.1.1, (d.1.2.2.1.2.2.1, (d.1.2.2.1.2.2.2.1, ()))))), ()))), ((), ((), ((), (d.2.2.2.2.1, ((x11, ()), ()))))))))
  else none)
  else (
  (T.2.1 (d.1, ((), ((), ((), (((0 : Int), ()), ())))))))
def f_sha1_Step_p12 (T : TT_sha1_Step) (d : ((Int × (Int × (Int × (Int × (Int × Unit))))) × ((Int × (Int × (Int × (Int × (Int × Unit))))) × ((Int × (Int × (Int × (Int × (Int × Unit))))) × Unit))) × (Unit × (Unit × (Unit × ((Int × Unit) × Unit))))) : Option (Unit × ((Int × (Int × (Int × (Int × (Int × Unit))))) × Unit)) :=
  let x12 : Bool := (decide (d.2.2.2.2.1.1 < (5 : Int)))
  bif x12 then (
  bif decide ((0 : Int) ≤ d.2.2.2.2.1.1) && decide (d.2.2.2.2.1.1 < (5 : Int)) then (
  bif decide (d.2.2.2.2.1.1 = (0 : Int)) then (
  bif decide ((0 : Int) ≤ d.2.2.2.2.1.1) && decide (d.2.2.2.2.1.1 < (5 : Int)) then (
  bif decide (d.2.2.2.2.1.1 = (0 : Int)) then (
  let x37 : Int := (iadd .u32 d.1.2.2.1.1 d.1.1.1)
  bif decide ((0 : Int) ≤ d.2.2.2.2.1.1) && decide (d.2.2.2.2.1.1 < (5 : Int)) then (
  bif decide (d.2.2.2.2.1.1 = (0 : Int)) then (
  (T.2.2.1 ((d.1.1, (d.1.2.1, ((x37, d.1.2.2.1.2), ()))), ((), ((), ((), d.2.2.2.2))))))
  else (
  bif decide (d.2.2.2.2.1.1 = (1 : Int)) then (
  (T.2.2.1 ((d.1.1, (d.1.2.1, ((d.1.2.2.1.1, (x37, d.1.2.2.1.2.2)), ()))), ((), ((), ((), d.2.2.2.2))))))
  else (
  bif decide (d.2.2.2.2.1.1 = (2 : Int)) then (
  (T.2.2.1 ((d.1.1, (d.1.2.1, ((d.1.2.2.1.1, (d.1.2.2.1.2.1, (x37, d.1.2.2.1.2.2.2))), ()))), ((), ((), ((), d.2.2.2.2))))))
  else (
  bif decide (d.2.2.2.2.1.1 = (3 : Int)) then (
  (T.2.2.1 ((d.1.1, (d.1.2.1, ((d.1.2.2.1.1, (d.1.2.2.1.2.1, (d.1.2.2.1.2.2.1, (x37, d.1.2.2.1.2.2.2.2)))), ()))), ((), ((), ((), d.2.2.2.2))))))
  else (
  bif decide (d.2.2.2.2.1.1 = (4 : Int)) then (
  (T.2.2.1 ((d.1.1, (d.1.2.1, ((d.1.2.2.1.1, (d.1.2.2.1.2.1, (d.1.2.2.1.2.2.1, (d.1.2.2.1.2.2.2.1, (x37, ()))))), ()))), ((), ((), ((), d.2.2.2.2))))))
  else (
  none))))))
  else none)
  else (
  bif decide (d.2.2.2.2.1.1 = (1 : Int)) then (
  let x36 : Int := (iadd .u32 d.1.2.2.1.1 d.1.1.2.1)
  bif decide ((0 : Int) ≤ d.2.2.2.2.1.1) && decide (d.2.2.2.2.1.1 < (5 : Int)) then (
  bif decide (d.2.2.2.2.1.1 = (0 : Int)) then (
  (T.2.2.1 ((d.1.1, (d.1.2.1, ((x36, d.1.2.2.1.2), ()))), ((), ((), ((), d.2.2.2.2))))))
  else (
  bif decide (d.2.2.2.2.1.1 = (1 : Int)) then (
  (T.2.2.1 ((d.1.1, (d.1.2.1, ((d.1.2.2.1.1, (x36, d.1.2.2.1.2.2)), ()))), ((), ((), ((), d.2.2.2.2))))))
  else (
  bif decide (d.2.2.2.2.1.1 = (2 : Int)) then (
  (T.2.2.1 ((d.1.1, (d.1.2.1, ((d.1.2.2.1.1, (d.1.2.2.1.2.1, (x36, d.1.2.2.1.2.2.2))), ()))), ((), ((), ((), d.2.2.2.2))))))
  else (
  bif decide (d.2.2.2.2.1.1 = (3 : Int)) then (
  (T.2.2.1 ((d.1.1, (d.1.2.1, ((d.1.2.2.1.1, (d.1.2.2.1.2.1, (d.1.2.2.1.2.2.1, (x36, d.1.2.2.1.2.2.2.2)))), ()))), ((), ((), ((), d.2.2.2.2))))))
  else (
  bif decide (d.2.2.2.2.1.1 = (4 : Int)) then (
  (T.2.2.1 ((d.1.1, (d.1.2.1, ((d.1.2.2.1.1, (d.1.2.2.1.2.1, (d.1.2.2.1.2.2.1, (d.1.2.2.1.2.2.2.1, (x36, ()))))), ()))), ((), ((), ((), d.2.2.2.2))))))
  else (
  none))))))
  else none)
  else (
  bif decide (d.2.2.2.2.1.1 = (2 : Int)) then (
  let x35 : Int := (iadd .u32 d.1.2.2.1.1 d.1.1.2.2.1)
  bif decide ((0 : Int) ≤ d.2.2.2.2.1.1) && decide (d.2.2.2.2.1.1 < (5 : Int)) then (
  bif decide (d.2.2.2.2.1.1 = (0 : Int)) then (
  (T.2.2.1 ((d.1.1, (d.1.2.1, ((x35, d.1.2.2.1.2), ()))), ((), ((), ((), d.2.2.2.2))))))
  else (
  bif decide (d.2.2.2.2.1.1 = (1 : Int)) then (
  (T.2.2.1 ((d.1.1, (d.1.2.1, ((d.1.2.2.1.1, (x35, d.1.2.2.1.2.2)), ()))), ((), ((), ((), d.2.2.2.2))))))
  else (
  bif decide (d.2.2.2.2.1.1 = (2 : Int)) then (
  (T.2.2.1 ((d.1.1, (d.1.2.1, ((d.1.2.2.1.1, (d.1.2.2.1.2.1, (x35, d.1.2.2.1.2.2.2))), ()))), ((), ((), ((), d.2.2.2.2))))))
  else (
  bif decide (d.2.2.2.2.1.1 = (3 : Int)) then (
  (T.2.2.1 ((d.1.1, (d.1.2.1, ((d.1.2.2.1.1, (d.1.2.2.1.2.1, (d.1.2.2.1.2.2.1, (x35, d.1.2.2.1.2.2.2.2)))), ()))), ((), ((), ((), d.2.2.2.2))))))
  else (
  bif decide (d.2.2.2.2.1.1 = (4 : Int)) then (
  (T.2.2.1 ((d.1.1, (d.1.2.1, ((d.1.2.2.1.1, (d.1.2.2.1.2.1, (d.1.2.2.1.2.2.1, (d.1.2.2.1.2.2.2.1, (x35, ()))))), ()))), ((), ((), ((), d.2.2.2.2))))))
  else (
  none))))))
  else none)
  else (
  bif decide (d.2.2.2.2.1.1 = (3 : Int)) then (
  let x34 : Int := (iadd .u32 d.1.2.2.1.1 d.1.1.2.2.2.1)
  bif decide ((0 : Int) ≤ d.2.2.2.2.1.1) && decide (d.2.2.2.2.1.1 < (5 : Int)) then (
  bif decide (d.2.2.2.2.1.1 = (0 : Int)) then (
  (T.2.2.1 ((d.1.1, (d.1.2.1, ((x34, d.1.2.2.1.2), ()))), ((), ((), ((), d.2.2.2.2))))))
  else (
  bif decide (d.2.2.2.2.1.1 = (1 : Int)) then (
  (T.2.2.1 ((d.1.1, (d.1.2.1, ((d.1.2.2.1.1, (x34, d.1.2.2.1.2.2)), ()))), ((), ((), ((), d.2.2.2.2))))))
  else (
  bif decide (d.2.2.2.2.1.1 = (2 : Int)) then (
  (T.2.2.1 ((d.1.1, (d.1.2.1, ((d.1.2.2.1.1, (d.1.2.2.1.2.1, (x34, d.1.2.2.1.2.2.2))), ()))), ((), ((), ((), d.2.2.2.2))))))
  else (
  bif decide (d.2.2.2.2.1.1 = (3 : Int)) then (
  (T.2.2.1 ((d.1.1, (d.1.2.1, ((d.1.2.2.1.1, (d.1.2.2.1.2.1, (d.1.2.2.1.2.2.1, (x34, d.1.2.2.1.2.2.2.2)))), ()))), ((), ((), ((), d.2.2.2.2))))))
  else (
  bif decide (d.2.2.2.2.1.1 = (4 : Int)) then (
  (T.2.2.1 ((d.1.1, (d.1.2.1, ((d.1.2.2.1.1, (d.1.2.2.1.2.1, (d.1.2.2.1.2.2.1, (d.1.2.2.1.2.2.2.1, (x34, ()))))), ()))), ((), ((), ((), d.2.2.2.2))))))
  else (
  none))))))
  else none)
  else (
  bif decide (d.2.2.2.2.1.1 = (4 : Int)) then (
  let x33 : Int := (iadd .u32 d.1.2.2.1.1 d.1.1.2.2.2.2.1)
  bif decide ((0 : Int) ≤ d.2.2.2.2.1.1) && decide (d.2.2.2.2.1.1 < (5 : Int)) then (
  bif decide (d.2.2.2.2.1.1 = (0 : Int)) then (
  (T.2.2.1 ((d.1.1, (d.1.2.1, ((x33, d.1.2.2.1.2), ()))), ((), ((), ((), d.2.2.2.2))))))
  else (
  bif decide (d.2.2.2.2.1.1 = (1 : Int)) then (
  (T.2.2.1 ((d.1.1, (d.1.2.1, ((d.1.2.2.1.1, (x33, d.1.2.2.1.2.2)), ()))), ((), ((), ((), d.2.2.2.2))))))
  else (
  bif decide (d.2.2.2.2.1.1 = (2 : Int)) then (
  (T.2.2.1 ((d.1.1, (d.1.2.1, ((d.1.2.2.1.1, (d.1.2.2.1.2.1, (x33, d.1.2.2.1.2.2.2))), ()))), ((), ((), ((), d.2.2.2.2))))))
  else (
  bif decide (d.2.2.2.2.1.1 = (3 : Int)) then (
  (T.2.2.1 ((d.1.1, (d.1.2.1, ((d.1.2.2.1.1, (d.1.2.2.1.2.1, (d.1.2.2.1.2.2.1, (x33, d.1.2.2.1.2.2.2.2)))), ()))), ((), ((), ((), d.2.2.2.2))))))
  else (
  bif decide (d.2.2.2.2.1.1 = (4 : Int)) then (
  (T.2.2.1 ((d.1.1, (d.1.2.1, ((d.1.2.2.1.1, (d.1.2.2.1.2.1, (d.1.2.2.1.2.2.1, (d.1.2.2.1.2.2.2.1, (x33, ()))))), ()))), ((), ((), ((), d.2.2.2.2))))))
  else (
  none))))))
  else none)
  else (
  none))))))
  else none)
  else (
  bif decide (d.2.2.2.2.1.1 = (1 : Int)) then (
  bif decide ((0 : Int) ≤ d.2.2.2.2.1.1) && decide (d.2.2.2.2.1.1 < (5 : Int)) then (
  bif decide (d.2.2.2.2.1.1 = (0 : Int)) then (
  let x32 : Int := (iadd .u32 d.1.2.2.1.2.1 d.1.1.1)
  bif decide ((0 : Int) ≤ d.2.2.2.2.1.1) && decide (d.2.2.2.2.1.1 < (5 : Int)) then (
  bif decide (d.2.2.2.2.1.1 = (0 : Int)) then (
  (T.2.2.1 ((d.1.1, (d.1.2.1, ((x32, d.1.2.2.1.2), ()))), ((), ((), ((), d.2.2.2.2))))))
  else (
  bif decide (d.2.2.2.2.1.1 = (1 : Int)) then (
  (T.2.2.1 ((d.1.1, (d.1.2.1, ((d.1.2.2.1.1, (x32, d.1.2.2.1.2.2)), ()))), ((), ((), ((), d.2.2.2.2))))))
  else (
  bif decide (d.2.2.2.2.1.1 = (2 : Int)) then (
  (T.2.2.1 ((d.1.1, (d.1.2.1, ((d.1.2.2.1.1, (d.1.2.2.1.2.1, (x32, d.1.2.2.1.2.2.2))), ()))), ((), ((), ((), d.2.2.2.2))))))
  else (
  bif decide (d.2.2.2.2.1.1 = (3 : Int)) then (
  (T.2.2.1 ((d.1.1, (d.1.2.1, ((d.1.2.2.1.1, (d.1.2.2.1.2.1, (d.1.2.2.1.2.2.1, (x32, d.1.2.2.1.2.2.2.2)))), ()))), ((), ((), ((), d.2.2.2.2))))))
  else (
  bif decide (d.2.2.2.2.1.1 = (4 : Int)) then (
  (T.2.2.1 ((d.1.1, (d.1.2.1, ((d.1.2.2.1.1, (d.1.2.2.1.2.1, (d.1.2.2.1.2.2.1, (d.1.2.2.1.2.2.2.1, (x32, ()))))), ()))), ((), ((), ((), d.2.2.2.2))))))
  else (
  none))))))
  else none)
  else (
  bif decide (d.2.2.2.2.1.1 = (1 : Int)) then (
  let x31 : Int := (iadd .u32 d.1.2.2.1.2.1 d.1.1.2.1)
  bif decide ((0 : Int) ≤ d.2.2.2.2.1.1) && decide (d.2.2.2.2.1.1 < (5 : Int)) then (
  bif decide (d.2.2.2.2.1.1 = (0 : Int)) then (
  (T.2.2.1 ((d.1.1, (d.1.2.1, ((x31, d.1.2.2.1.2), ()))), ((), ((), ((), d.2.2.2.2))))))
  else (
  bif decide (d.2.2.2.2.1.1 = (1 : Int)) then (
  (T.2.2.1 ((d.1.1, (d.1.2.1, ((d.1.2.2.1.1, (x31, d.1.2.2.1.2.2)), ()))), ((), ((), ((), d.2.2.2.2))))))
  else (
  bif decide (d.2.2.2.2.1.1 = (2 : Int)) then (
  (T.2.2.1 ((d.1.1, (d.1.2.1, ((d.1.2.2.1.1, (d.1.2.2.1.2.1, (x31, d.1.2.2.1.2.2.2))), ()))), ((), ((), ((), d.2.2.2.2))))))
  else (
  bif decide (d.2.2.2.2.1.1 = (3 : Int)) then (
  (T.2.2.1 ((d.1.1, (d.1.2.1, ((d.1.2.2.1.1, (d.1.2.2.1.2.1, (d.1.2.2.1.2.2.1, (x31, d.1.2.2.1.2.2.2.2)))), ()))), ((), ((), ((), d.2.2.2.2))))))
  else (
  bif decide (d.2.2.2.2.1.1 = (4 : Int)) then (
  (T.2.2.1 ((d.1.1, (d.1.2.1, ((d.1.2.2.1.1, (d.1.2.2.1.2.1, (d.1.2.2.1.2.2.1, (d.1.2.2.1.2.2.2.1, (x31, ()))))), ()))), ((), ((), ((), d.2.2.2.2))))))
  else (
  none))))))
  else none)
  else (
  bif decide (d.2.2.2.2.1.1 = (2 : Int)) then (
  let x30 : Int := (iadd .u32 d.1.2.2.1.2.1 d.1.1.2.2.1)
  bif decide ((0 : Int) ≤ d.2.2.2.2.1.1) && decide (d.2.2.2.2.1.1 < (5 : Int)) then (
  bif decide (d.2.2.2.2.1.1 = (0 : Int)) then (
  (T.2.2.1 ((d.1.1, (d.1.2.1, ((x30, d.1.2.2.1.2), ()))), ((), ((), ((), d.2.2.2.2))))))
  else (
  bif decide (d.2.2.2.2.1.1 = (1 : Int)) then (
  (T.2.2.1 ((d.1.1, (d.1.2.1, ((d.1.2.2.1.1, (x30, d.1.2.2.1.2.2)), ()))), ((), ((), ((), d.2.2.2.2))))))
  else (
  bif decide (d.2.2.2.2.1.1 = (2 : Int)) then (
  (T.2.2.1 ((d.1.1, (d.1.2.1, ((d.1.2.2.1.1, (d.1.2.2.1.2.1, (x30, d.1.2.2.1.2.2.2))), ()))), ((), ((), ((), d.2.2.2.2))))))
  else (
  bif decide (d.2.2.2.2.1.1 = (3 : Int)) then (
  (T.2.2.1 ((d.1.1, (d.1.2.1, ((d.1.2.2.1.1, (d.1.2.2.1.2.1, (d.1.2.2.1.2.2.1, (x30, d.1.2.2.1.2.2.2.2)))), ()))), ((), ((), ((), d.2.2.2.2))))))
  else (
  bif decide (d.2.2.2.2.1.1 = (4 : Int)) then (
  (T.2.2.1 ((d.1.1, (d.1.2.1, ((d.1.2.2.1.1, (d.1.2.2.1.2.1, (d.1.2.2.1.2.2.1, (d.1.2.2.1.2.2.2.1, (x30, ()))))), ()))), ((), ((), ((), d.2.2.2.2))))))
  else (
  none))))))
  else none)
  else (
  bif decide (d.2.2.2.2.1.1 = (3 : Int)) then (
  let x29 : Int := (iadd .u32 d.1.2.2.1.2.1 d.1.1.2.2.2.1)
  bif decide ((0 : Int) ≤ d.2.2.2.2.1.1) && decide (d.2.2.2.2.1.1 < (5 : Int)) then (
  bif decide (d.2.2.2.2.1.1 = (0 : Int)) then (
  (T.2.2.1 ((d.1.1, (d.1.2.1, ((x29, d.1.2.2.1.2), ()))), ((), ((), ((), d.2.2.2.2))))))
  else (
  bif decide (d.2.2.2.2.1.1 = (1 : Int)) then (
  (T.2.2.1 ((d.1.1, (d.1.2.1, ((d.1.2.2.1.1, (x29, d.1.2.2.1.2.2)), ()))), ((), ((), ((), d.2.2.2.2))))))
  else (
  bif decide (d.2.2.2.2.1.1 = (2 : Int)) then (
  (T.2.2.1 ((d.1.1, (d.1.2.1, ((d.1.2.2.1.1, (d.1.2.2.1.2.1, (x29, d.1.2.2.1.2.2.2))), ()))), ((), ((), ((), d.2.2.2.2))))))
  else (
  bif decide (d.2.2.2.2.1.1 = (3 : Int)) then (
  (T.2.2.1 ((d.1.1, (d.1.2.1, ((d.1.2.2.1.1, (d.1.2.2.1.2.1, (d.1.2.2.1.2.2.1, (x29, d.1.2.2.1.2.2.2.2)))), ()))), ((), ((), ((), d.2.2.2.2))))))
  else (
  bif decide (d.2.2.2.2.1.1 = (4 : Int)) then (
  (T.2.2.1 ((d.1.1, (d.1.2.1, ((d.1.2.2.1.1, (d.1.2.2.1.2.1, (d.1.2.2.1.2.2.1, (d.1.2.2.1.2.2.2.1, (x29, ()))))), ()))), ((), ((), ((), d.2.2.2.2))))))
  else (
  none))))))
  else none)
  else (
  bif decide (d.2.2.2.2.1.1 = (4 : Int)) then (
  let x28 : Int := (iadd .u32 d.1.2.2.1.2.1 d.1.1.2.2.2.2.1)
  bif decide ((0 : Int) ≤ d.2.2.2.2.1.1) && decide (d.2.2.2.2.1.1 < (5 : Int)) then (
  bif decide (d.2.2.2.2.1.1 = (0 : Int)) then (
  (T.2.2.1 ((d.1.1, (d.1.2.1, ((x28, d.1.2.2.1.2), ()))), ((), ((), ((), d.2.2.2.2))))))
  else (
  bif decide (d.2.2.2.2.1.1 = (1 : Int)) then (
  (T.2.2.1 ((d.1.1, (d.1.2.1, ((d.1.2.2.1.1, (x28, d.1.2.2.1.2.2)), ()))), ((), ((), ((), d.2.2.2.2))))))
  else (
  bif decide (d.2.2.2.2.1.1 = (2 : Int)) then (
  (T.2.2.1 ((d.1.1, (d.1.2.1, ((d.1.2.2.1.1, (d.1.2.2.1.2.1, (x28, d.1.2.2.1.2.2.2))), ()))), ((), ((), ((), d.2.2.2.2))))))
  else (
  bif decide (d.2.2.2.2.1.1 = (3 : Int)) then (
  (T.2.2.1 ((d.1.1, (d.1.2.1, ((d.1.2.2.1.1, (d.1.2.2.1.2.1, (d.1.2.2.1.2.2.1, (x28, d.1.2.2.1.2.2.2.2)))), ()))), ((), ((), ((), d.2.2.2.2))))))
  else (
  bif decide (d.2.2.2.2.1.1 = (4 : Int)) then (
  (T.2.2.1 ((d.1.1, (d.1.2.1, ((d.1.2.2.1.1, (d.1.2.2.1.2.1, (d.1.2.2.1.2.2.1, (d.1.2.2.1.2.2.2.1, (x28, ()))))), ()))), ((), ((), ((), d.2.2.2.2))))))
  else (
  none))))))
  else none)
  else (
  none))))))
  else none)
  else (
  bif decide (d.2.2.2.2.1.1 = (2 : Int)) then (
  bif decide ((0 : Int) ≤ d.2.2.2.2.1.1) && decide (d.2.2.2.2.1.1 < (5 : Int)) then (
  bif decide (d.2.2.2.2.1.1 = (0 : Int)) then (
  let x27 : Int := (iadd .u32 d.1.2.2.1.2.2.1 d.1.1.1)
  bif decide ((0 : Int) ≤ d.2.2.2.2.1.1) && decide (d.2.2.2.2.1.1 < (5 : Int)) then (
  bif decide (d.2.2.2.2.1.1 = (0 : Int)) then (
  (T.2.2.1 ((d.1.1, (d.1.2.1, ((x27, d.1.2.2.1.2), ()))), ((), ((), ((), d.2.2.2.2))))))
  else (
  bif decide (d.2.2.2.2.1.1 = (1 : Int)) then (
  (T.2.2.1 ((d.1.1, (d.1.2.1, ((d.1.2.2.1.1, (x27, d.1.2.2.1.2.2)), ()))), ((), ((), ((), d.2.2.2.2))))))
  else (
  bif decide (d.2.2.2.2.1.1 = (2 : Int)) then (
  (T.2.2.1 ((d.1.1, (d.1.2.1, ((d.1.2.2.1.1, (d.1.2.2.1.2.1, (x27, d.1.2.2.1.2.2.2))), ()))), ((), ((), ((), d.2.2.2.2))))))
  else (
  bif decide (d.2.2.2.2.1.1 = (3 : Int)) then (
  (T.2.2.1 ((d.1.1, (d.1.2.1, ((d.1.2.2.1.1, (d.1.2.2.1.2.1, (d.1.2.2.1.2.2.1, (x27, d.1.2.2.1.2.2.2.2)))), ()))), ((), ((), ((), d.2.2.2.2))))))
  else (
  bif decide (d.2.2.2.2.1.1 = (4 : Int)) then (
  (T.2.2.1 ((d.1.1, (d.1.2.1, ((d.1.2.2.1.1, (d.1.2.2.1.2.1, (d.1.2.2.1.2.2.1, (d.1.2.2.1.2.2.2.1, (x27, ()))))), ()))), ((), ((), ((), d.2.2.2.2))))))
  else (
  none))))))
  else none)
  else (
  bif decide (d.2.2.2.2.1.1 = (1 : Int)) then (
  let x26 : Int := (iadd .u32 d.1.2.2.1.2.2.1 d.1.1.2.1)
  bif decide ((0 : Int) ≤ d.2.2.2.2.1.1) && decide (d.2.2.2.2.1.1 < (5 : Int)) then (
  bif decide (d.2.2.2.2.1.1 = (0 : Int)) then (
  (T.2.2.1 ((d.1.1, (d.1.2.1, ((x26, d.1.2.2.1.2), ()))), ((), ((), ((), d.2.2.2.2))))))
  else (
  bif decide (d.2.2.2.2.1.1 = (1 : Int)) then (
  (T.2.2.1 ((d.1.1, (d.1.2.1, ((d.1.2.2.1.1, (x26, d.1.2.2.1.2.2)), ()))), ((), ((), ((), d.2.2.2.2))))))
  else (
  bif decide (d.2.2.2.2.1.1 = (2 : Int)) then (
  (T.2.2.1 ((d.1.1, (d.1.2.1, ((d.1.2.2.1.1, (d.1.2.2.1.2.1, (x26, d.1.2.2.1.2.2.2))), ()))), ((), ((), ((), d.2.2.2.2))))))
  else (
  bif decide (d.2.2.2.2.1.1 = (3 : Int)) then (
  (T.2.2.1 ((d.1.1, (d.1.2.1, ((d.1.2.2.1.1, (d.1.2.2.1.2.1, (d.1.2.2.1.2.2.1, (x26, d.1.2.2.1.2.2.2.2)))), ()))), ((), ((), ((), d.2.2.2.2))))))
  else (
  bif decide (d.2.2.2.2.1.1 = (4 : Int)) then (
  (T.2.2.1 ((d.1.1, (d.1.2.1, ((d.1.2.2.1.1, (d.1.2.2.1.2.1, (d.1.2.2.1.2.2.1, (d.1.2.2.1.2.2.2.1, (x26, ()))))), ()))), ((), ((), ((), d.2.2.2.2))))))
  else (
  none))))))
  else none)
  else (
  bif decide (d.2.2.2.2.1.1 = (2 : Int)) then (
  let x25 : Int := (iadd .u32 d.1.2.2.1.2.2.1 d.1.1.2.2.1)
  bif decide ((0 : Int) ≤ d.2.2.2.2.1.1) && decide (d.2.2.2.2.1.1 < (5 : Int)) then (
  bif decide (d.2.2.2.2.1.1 = (0 : Int)) then (
  (T.2.2.1 ((d.1.1, (d.1.2.1, ((x25, d.1.2.2.1.2), ()))), ((), ((), ((), d.2.2.2.2))))))
  else (
  bif decide (d.2.2.2.2.1.1 = (1 : Int)) then (
  (T.2.2.1 ((d.1.1, (d.1.2.1, ((d.1.2.2.1.1, (x25, d.1.2.2.1.2.2)), ()))), ((), ((), ((), d.2.2.2.2))))))
  else (
  bif decide (d.2.2.2.2.1.1 = (2 : Int)) then (
  (T.2.2.1 ((d.1.1, (d.1.2.1, ((d.1.2.2.1.1, (d.1.2.2.1.2.1, (x25, d.1.2.2.1.2.2.2))), ()))), ((), ((), ((), d.2.2.2.2))))))
  else (
  bif decide (d.2.2.2.2.1.1 = (3 : Int)) then (
  (T.2.2.1 ((d.1.1, (d.1.2.1, ((d.1.2.2.1.1, (d.1.2.2.1.2.1, (d.1.2.2.1.2.2.1, (x25, d.1.2.2.1.2.2.2.2)))), ()))), ((), ((), ((), d.2.2.2.2))))))
  else (
  bif decide (d.2.2.2.2.1.1 = (4 : Int)) then (
  (T.2.2.1 ((d.1.1, (d.1.2.1, ((d.1.2.2.1.1, (d.1.2.2.1.2.1, (d.1.2.2.1.2.2.1, (d.1.2.2.1.2.2.2.1, (x25, ()))))), ()))), ((), ((), ((), d.2.2.2.2))))))
  else (
  none))))))
  else none)
  else (
  bif decide (d.2.2.2.2.1.1 = (3 : Int)) then (
  let x24 : Int := (iadd .u32 d.1.2.2.1.2.2.1 d.1.1.2.2.2.1)
  bif decide ((0 : Int) ≤ d.2.2.2.2.1.1) && decide (d.2.2.2.2.1.1 < (5 : Int)) then (
  bif decide (d.2.2.2.2.1.1 = (0 : Int)) then (
  (T.2.2.1 ((d.1.1, (d.1.2.1, ((x24, d.1.2.2.1.2), ()))), ((), ((), ((), d.2.2.2.2))))))
  else (
  bif decide (d.2.2.2.2.1.1 = (1 : Int)) then (
  (T.2.2.1 ((d.1.1, (d.1.2.1, ((d.1.2.2.1.1, (x24, d.1.2.2.1.2.2)), ()))), ((), ((), ((), d.2.2.2.2))))))
  else (
  bif decide (d.2.2.2.2.1.1 = (2 : Int)) then (
  (T.2.2.1 ((d.1.1, (d.1.2.1, ((d.1.2.2.1.1, (d.1.2.2.1.2.1, (x24, d.1.2.2.1.2.2.2))), ()))), ((), ((), ((), d.2.2.2.2))))))
  else (
  bif decide (d.2.2.2.2.1.1 = (3 : Int)) then (
  (T.2.2.1 ((d.1.1, (d.1.2.1, ((d.1.2.2.1.1, (d.1.2.2.1.2.1, (d.1.2.2.1.2.2.1, (x24, d.1.2.2.1.2.2.2.2)))), ()))), ((), ((), ((), d.2.2.2.2))))))
  else (
  bif decide (d.2.2.2.2.1.1 = (4 : Int)) then (
  (T.2.2.1 ((d.1.1, (d.1.2.1, ((d.1.2.2.1.1, (d.1.2.2.1.2.1, (d.1.2.2.1.2.2.1, (d.1.2.2.1.2.2.2.1, (x24, ()))))), ()))), ((), ((), ((), d.2.2.2.2))))))
  else (
  none))))))
  else none)
  else (
  bif decide (d.2.2.2.2.1.1 = (4 : Int)) then (
  let x23 : Int := (iadd .u32 d.1.2.2.1.2.2.1 d.1.1.2.2.2.2.1)
  bif decide ((0 : Int) ≤ d.2.2.2.2.1.1) && decide (d.2.2.2.2.1.1 < (5 : Int)) then (
  bif decide (d.2.2.2.2.1.1 = (0 : Int)) then (
  (T.2.2.1 ((d.1.1, (d.1.2.1, ((x23, d.1.2.2.1.2), ()))), ((), ((), ((), d.2.2.2.2))))))
  else (
  bif decide (d.2.2.2.2.1.1 = (1 : Int)) then (
  (T.2.2.1 ((d.1.1, (d.1.2.1, ((d.1.2.2.1.1, (x23, d.1.2.2.1.2.2)), ()))), ((), ((), ((), d.2.2.2.2))))))
  else (
  bif decide (d.2.2.2.2.1.1 = (2 : Int)) then (
  (T.2.2.1 ((d.1.1, (d.1.2.1, ((d.1.2.2.1.1, (d.1.2.2.1.2.1, (x23, d.1.2.2.1.2.2.2))), ()))), ((), ((), ((), d.2.2.2.2))))))
  else (
  bif decide (d.2.2.2.2.1.1 = (3 : Int)) then (
  (T.2.2.1 ((d.1.1, (d.1.2.1, ((d.1.2.2.1.1, (d.1.2.2.1.2.1, (d.1.2.2.1.2.2.1, (x23, d.1.2.2.1.2.2.2.2)))), ()))), ((), ((), ((), d.2.2.2.2))))))
  else (
  bif decide (d.2.2.2.2.1.1 = (4 : Int)) then (
  (T.2.2.1 ((d.1.1, (d.1.2.1, ((d.1.2.2.1.1, (d.1.2.2.1.2.1, (d.1.2.2.1.2.2.1, (d.1.2.2.1.2.2.2.1, (x23, ()))))), ()))), ((), ((), ((), d.2.2.2.2))))))
  else (
  none))))))
  else none)
  else (
  none))))))
  else none)
  else (
  bif decide (d.2.2.2.2.1.1 = (3 : Int)) then (
  bif decide ((0 : Int) ≤ d.2.2.2.2.1.1) && decide (d.2.2.2.2.1.1 < (5 : Int)) then (
  bif decide (d.2.2.2.2.1.1 = (0 : Int)) then (
  let x22 : Int := (iadd .u32 d.1.2.2.1.2.2.2.1 d.1.1.1)
  bif decide ((0 : Int) ≤ d.2.2.2.2.1.1) && decide (d.2.2.2.2.1.1 < (5 : Int)) then (
  bif decide (d.2.2.2.2.1.1 = (0 : Int)) then (
  (T.2.2.1 ((d.1.1, (d.1.2.1, ((x22, d.1.2.2.1.2), ()))), ((), ((), ((), d.2.2.2.2))))))
  else (
  bif decide (d.2.2.2.2.1.1 = (1 : Int)) then (
  (T.2.2.1 ((d.1.1, (d.1.2.1, ((d.1.2.2.1.1, (x22, d.1.2.2.1.2.2)), ()))), ((), ((), ((), d.2.2.2.2))))))
  else (
  bif decide (d.2.2.2.2.1.1 = (2 : Int)) then (
  (T.2.2.1 ((d.1.1, (d.1.2.1, ((d.1.2.2.1.1, (d.1.2.2.1.2.1, (x22, d.1.2.2.1.2.2.2))), ()))), ((), ((), ((), d.2.2.2.2))))))
  else (
  bif decide (d.2.2.2.2.1.1 = (3 : Int)) then (
  (T.2.2.1 ((d.1.1, (d.1.2.1, ((d.1.2.2.1.1, (d.1.2.2.1.2.1, (d.1.2.2.1.2.2.1, (x22, d.1.2.2.1.2.2.2.2)))), ()))), ((), ((), ((), d.2.2.2.2))))))
  else (
  bif decide (d.2.2.2.2.1.1 = (4 : Int)) then (
  (T.2.2.1 ((d.1.1, (d.1.2.1, ((d.1.2.2.1.1, (d.1.2.2.1.2.1, (d.1.2.2.1.2.2.1, (d.1.2.2.1.2.2.2.1, (x22, ()))))), ()))), ((), ((), ((), d.2.2.2.2))))))
  else (
  none))))))
  else none)
  else (
  bif decide (d.2.2.2.2.1.1 = (1 : Int)) then (
  let x21 : Int := (iadd .u32 d.1.2.2.1.2.2.2.1 d.1.1.2.1)
  bif decide ((0 : Int) ≤ d.2.2.2.2.1.1) && decide (d.2.2.2.2.1.1 < (5 : Int)) then (
  bif decide (d.2.2.2.2.1.1 = (0 : Int)) then (
  (T.2.2.1 ((d.1.1, (d.1.2.1, ((x21, d.1.2.2.1.2), ()))), ((), ((), ((), d.2.2.2.2))))))
  else (
  bif decide (d.2.2.2.2.1.1 = (1 : Int)) then (
  (T.2.2.1 ((d.1.1, (d.1.2.1, ((d.1.2.2.1.1, (x21, d.1.2.2.1.2.2)), ()))), ((), ((), ((), d.2.2.2.2))))))
  else (
  bif decide (d.2.2.2.2.1.1 = (2 : Int)) then (
  (T.2.2.1 ((d.1.1, (d.1.2.1, ((d.1.2.2.1.1, (d.1.2.2.1.2.1, (x21, d.1.2.2.1.2.2.2))), ()))), ((), ((), ((), d.2.2.2.2))))))
  else (
  bif decide (d.2.2.2.2.1.1 = (3 : Int)) then (
  (T.2.2.1 ((d.1.1, (d.1.2.1, ((d.1.2.2.1.1, (d.1.2.2.1.2.1, (d.1.2.2.1.2.2.1, (x21, d.1.2.2.1.2.2.2.2)))), ()))), ((), ((), ((), d.2.2.2.2))))))
  else (
  bif decide (d.2.2.2.2.1.1 = (4 : Int)) then (
  (T.2.2.1 ((d.1.1, (d.1.2.1, ((d.1.2.2.1.1, (d.1.2.2.1.2.1, (d.1.2.2.1.2.2.1, (d.1.2.2.1.2.2.2.1, (x21, ()))))), ()))), ((), ((), ((), d.2.2.2.2))))))
  else (
  none))))))
  else none)
  else (
  bif decide (d.2.2.2.2.1.1 = (2 : Int)) then (
  let x20 : Int := (iadd .u32 d.1.2.2.1.2.2.2.1 d.1.1.2.2.1)
  bif decide ((0 : Int) ≤ d.2.2.2.2.1.1) && decide (d.2.2.2.2.1.1 < (5 : Int)) then (
  bif decide (d.2.2.2.2.1.1 = (0 : Int)) then (
  (T.2.2.1 ((d.1.1, (d.1.2.1, ((x20, d.1.2.2.1.2), ()))), ((), ((), ((), d.2.2.2.2))))))
  else (
  bif decide (d.2.2.2.2.1.1 = (1 : Int)) then (
  (T.2.2.1 ((d.1.1, (d.1.2.1, ((d.1.2.2.1.1, (x20, d.1.2.2.1.2.2)), ()))), ((), ((), ((), d.2.2.2.2))))))
  else (
  bif decide (d.2.2.2.2.1.1 = (2 : Int)) then (
  (T.2.2.1 ((d.1.1, (d.1.2.1, ((d.1.2.2.1.1, (d.1.2.2.1.2.1, (x20, d.1.2.2.1.2.2.2))), ()))), ((), ((), ((), d.2.2.2.2))))))
  else (
  bif decide (d.2.2.2.2.1.1 = (3 : Int)) then (
  (T.2.2.1 ((d.1.1, (d.1.2.1, ((d.1.2.2.1.1, (d.1.2.2.1.2.1, (d.1.2.2.1.2.2.1, (x20, d.1.2.2.1.2.2.2.2)))), ()))), ((), ((), ((), d.2.2.2.2))))))
  else (
  bif decide (d.2.2.2.2.1.1 = (4 : Int)) then (
  (T.2.2.1 ((d.1.1, (d.1.2.1, ((d.1.2.2.1.1, (d.1.2.2.1.2.1, (d.1.2.2.1.2.2.1, (d.1.2.2.1.2.2.2.1, (x20, ()))))), ()))), ((), ((), ((), d.2.2.2.2))))))
  else (
  none))))))
  else none)
  else (
  bif decide (d.2.2.2.2.1.1 = (3 : Int)) then (
  let x19 : Int := (iadd .u32 d.1.2.2.1.2.2.2.1 d.1.1.2.2.2.1)
  bif decide ((0 : Int) ≤ d.2.2.2.2.1.1) && decide (d.2.2.2.2.1.1 < (5 : Int)) then (
  bif decide (d.2.2.2.2.1.1 = (0 : Int)) then (
  (T.2.2.1 ((d.1.1, (d.1.2.1, ((x19, d.1.2.2.1.2), ()))), ((), ((), ((), d.2.2.2.2))))))
  else (
  bif decide (d.2.2.2.2.1.1 = (1 : Int)) then (
  (T.2.2.1 ((d.1.1, (d.1.2.1, ((d.1.2.2.1.1, (x19, d.1.2.2.1.2.2)), ()))), ((), ((), ((), d.2.2.2.2))))))
  else (
  bif decide (d.2.2.2.2.1.1 = (2 : Int)) then (
  (T.2.2.1 ((d.1.1, (d.1.2.1, ((d.1.2.2.1.1, (d.1.2.2.1.2.1, (x19, d.1.2.2.1.2.2.2))), ()))), ((), ((), ((), d.2.2.2.2))))))
  else (
  bif decide (d.2.2.2.2.1.1 = (3 : Int)) then (
  (T.2.2.1 ((d.1.1, (d.1.2.1, ((d.1.2.2.1.1, (d.1.2.2.1.2.1, (d.1.2.2.1.2.2.1, (x19, d.1.2.2.1.2.2.2.2)))), ()))), ((), ((), ((), d.2.2.2.2))))))
  else (
  bif decide (d.2.2.2.2.1.1 = (4 : Int)) then (
  (T.2.2.1 ((d.1.1, (d.1.2.1, ((d.1.2.2.1.1, (d.1.2.2.1.2.1, (d.1.2.2.1.2.2.1, (d.1.2.2.1.2.2.2.1, (x19, ()))))), ()))), ((), ((), ((), d.2.2.2.2))))))
  else (
  none))))))
  else none)
  else (
  bif decide (d.2.2.2.2.1.1 = (4 : Int)) then (
  let x18 : Int := (iadd .u32 d.1.2.2.1.2.2.2.1 d.1.1.2.2.2.2.1)
  bif decide ((0 : Int) ≤ d.2.2.2.2.1.1) && decide (d.2.2.2.2.1.1 < (5 : Int)) then (
  bif decide (d.2.2.2.2.1.1 = (0 : Int)) then (
  (T.2.2.1 ((d.1.1, (d.1.2.1, ((x18, d.1.2.2.1.2), ()))), ((), ((), ((), d.2.2.2.2))))))
  else (
  bif decide (d.2.2.2.2.1.1 = (1 : Int)) then (
  (T.2.2.1 ((d.1.1, (d.1.2.1, ((d.1.2.2.1.1, (x18, d.1.2.2.1.2.2)), ()))), ((), ((), ((), d.2.2.2.2))))))
  else (
  bif decide (d.2.2.2.2.1.1 = (2 : Int)) then (
  (T.2.2.1 ((d.1.1, (d.1.2.1, ((d.1.2.2.1.1, (d.1.2.2.1.2.1, (x18, d.1.2.2.1.2.2.2))), ()))), ((), ((), ((), d.2.2.2.2))))))
  else (
  bif decide (d.2.2.2.2.1.1 = (3 : Int)) then (
  (T.2.2.1 ((d.1.1, (d.1.2.1, ((d.1.2.2.1.1, (d.1.2.2.1.2.1, (d.1.2.2.1.2.2.1, (x18, d.1.2.2.1.2.2.2.2)))), ()))), ((), ((), ((), d.2.2.2.2))))))
  else (
  bif decide (d.2.2.2.2.1.1 = (4 : Int)) then (
  (T.2.2.1 ((d.1.1, (d.1.2.1, ((d.1.2.2.1.1, (d.1.2.2.1.2.1, (d.1.2.2.1.2.2.1, (d.1.2.2.1.2.2.2.1, (x18, ()))))), ()))), ((), ((), ((), d.2.2.2.2))))))
  else (
  none))))))
  else none)
  else (
  none))))))
  else none)
  else (
  bif decide (d.2.2.2.2.1.1 = (4 : Int)) then (
  bif decide ((0 : Int) ≤ d.2.2.2.2.1.1) && decide (d.2.2.2.2.1.1 < (5 : Int)) then (
  bif decide (d.2.2.2.2.1.1 = (0 : Int)) then (
  let x17 : Int := (iadd .u32 d.1.2.2.1.2.2.2.2.1 d.1.1.1)
  bif decide ((0 : Int) ≤ d.2.2.2.2.1.1) && decide (d.2.2.2.2.1.1 < (5 : Int)) then (
  bif decide (d.2.2.2.2.1.1 = (0 : Int)) then (
  (T.2.2.1 ((d.1.1, (d.1.2.1, ((x17, d.1.2.2.1.2), ()))), ((), ((), ((), d.2.2.2.2))))))
  else (
  bif decide (d.2.2.2.2.1.1 = (1 : Int)) then (
  (T.2.2.1 ((d.1.1, (d.1.2.1, ((d.1.2.2.1.1, (x17, d.1.2.2.1.2.2)), ()))), ((), ((), ((), d.2.2.2.2))))))
  else (
  bif decide (d.2.2.2.2.1.1 = (2 : Int)) then (
  (T.2.2.1 ((d.1.1, (d.1.2.1, ((d.1.2.2.1.1, (d.1.2.2.1.2.1, (x17, d.1.2.2.1.2.2.2))), ()))), ((), ((), ((), d.2.2.2.2))))))
  else (
  bif decide (d.2.2.2.2.1.1 = (3 : Int)) then (
  (T.2.2.1 ((d.1.1, (d.1.2.1, ((d.1.2.2.1.1, (d.1.2.2.1.2.1, (d.1.2.2.1.2.2.1, (x17, d.1.2.2.1.2.2.2.2)))), ()))), ((), ((), ((), d.2.2.2.2))))))
  else (
  bif decide (d.2.2.2.2.1.1 = (4 : Int)) then (
  (T.2.2.1 ((d.1.1, (d.1.2.1, ((d.1.2.2.1.1, (d.1.2.2.1.2.1, (d.1.2.2.1.2.2.1, (d.1.2.2.1.2.2.2.1, (x17, ()))))), ()))), ((), ((), ((), d.2.2.2.2))))))
  else (
  none))))))
  else none)
  else (
  bif decide (d.2.2.2.2.1.1 = (1 : Int)) then (
  let x16 : Int := (iadd .u32 d.1.2.2.1.2.2.2.2.1 d.1.1.2.1)
  bif decide ((0 : Int) ≤ d.2.2.2.2.1.1) && decide (d.2.2.2.2.1.1 < (5 : Int)) then (
  bif decide (d.2.2.2.2.1.1 = (0 : Int)) then (
  (T.2.2.1 ((d.1.1, (d.1.2.1, ((x16, d.1.2.2.1.2), ()))), ((), ((), ((), d.2.2.2.2))))))
  else (
  bif decide (d.2.2.2.2.1.1 = (1 : Int)) then (
  (T.2.2.1 ((d.1.1, (d.1.2.1, ((d.1.2.2.1.1, (x16, d.1.2.2.1.2.2)), ()))), ((), ((), ((), d.2.2.2.2))))))
  else (
  bif decide (d.2.2.2.2.1.1 = (2 : Int)) then (
  (T.2.2.1 ((d.1.1, (d.1.2.1, ((d.1.2.2.1.1, (d.1.2.2.1.2.1, (x16, d.1.2.2.1.2.2.2))), ()))), ((), ((), ((), d.2.2.2.2))))))
  else (
  bif decide (d.2.2.2.2.1.1 = (3 : Int)) then (
  (T.2.2.1 ((d.1.1, (d.1.2.1, ((d.1.2.2.1.1, (d.1.2.2.1.2.1, (d.1.2.2.1.2.2.1, (x16, d.1.2.2.1.2.2.2.2)))), ()))), ((), ((), ((), d.2.2.2.2))))))
  else (
  bif decide (d.2.2.2.2.1.1 = (4 : Int)) then (
  (T.2.2.1 ((d.1.1, (d.1.2.1, ((d.1.2.2.1.1, (d.1.2.2.1.2.1, (d.1.2.2.1.2.2.1, (d.1.2.2.1.2.2.2.1, (x16, ()))))), ()))), ((), ((), ((), d.2.2.2.2))))))
  else (
  none))))))
  else none)
  else (
  bif decide (d.2.2.2.2.1.1 = (2 : Int)) then (
  let x15 : Int := (iadd .u32 d.1.2.2.1.2.2.2.2.1 d.1.1.2.2.1)
  bif decide ((0 : Int) ≤ d.2.2.2.2.1.1) && decide (d.2.2.2.2.1.1 < (5 : Int)) then (
  bif decide (d.2.2.2.2.1.1 = (0 : Int)) then (
  (T.2.2.1 ((d.1.1, (d.1.2.1, ((x15, d.1.2.2.1.2), ()))), ((), ((), ((), d.2.2.2.2))))))
  else (
  bif decide (d.2.2.2.2.1.1 = (1 : Int)) then (
  (T.2.2.1 ((d.1.1, (d.1.2.1, ((d.1.2.2.1.1, (x15, d.1.2.2.1.2.2)), ()))), ((), ((), ((), d.2.2.2.2))))))
  else (
  bif decide (d.2.2.2.2.1.1 = (2 : Int)) then (
  (T.2.2.1 ((d.1.1, (d.1.2.1, ((d.1.2.2.1.1, (d.1.2.2.1.2.1, (x15, d.1.2.2.1.2.2.2))), ()))), ((), ((), ((), d.2.2.2.2))))))
  else (
  bif decide (d.2.2.2.2.1.1 = (3 : Int)) then (
  (T.2.2.1 ((d.1.1, (d.1.2.1, ((d.1.2.2.1.1, (d.1.2.2.1.2.1, (d.1.2.2.1.2.2.1, (x15, d.1.2.2.1.2.2.2.2)))), ()))), ((), ((), ((), d.2.2.2.2))))))
  else (
  bif decide (d.2.2.2.2.1.1 = (4 : Int)) then (
  (T.2.2.1 ((d.1.1, (d.1.2.1, ((d.1.2.2.1.1, (d.1.2.2.1.2.1, (d.1.2.2.1.2.2.1, (d.1.2.2.1.2.2.2.1, (x15, ()))))), ()))), ((), ((), ((), d.2.2.2.2))))))
  else (
  none))))))
  else none)
  else (
  bif decide (d.2.2.2.2.1.1 = (3 : Int)) then (
  let x14 : Int := (iadd .u32 d.1.2.2.1.2.2.2.2.1 d.1.1.2.2.2.1)
  bif decide ((0 : Int) ≤ d.2.2.2.2.1.1) && decide (d.2.2.2.2.1.1 < (5 : Int)) then (
  bif decide (d.2.2.2.2.1.1 = (0 : Int)) then (
  (T.2.2.1 ((d.1.1, (d.1.2.1, ((x14, d.1.2.2.1.2), ()))), ((), ((), ((), d.2.2.2.2))))))
  else (
  bif decide (d.2.2.2.2.1.1 = (1 : Int)) then (
  (T.2.2.1 ((d.1.1, (d.1.2.1, ((d.1.2.2.1.1, (x14, d.1.2.2.1.2.2)), ()))), ((), ((), ((), d.2.2.2.2))))))
  else (
  bif decide (d.2.2.2.2.1.1 = (2 : Int)) then (
  (T.2.2.1 ((d.1.1, (d.1.2.1, ((d.1.2.2.1.1, (d.1.2.2.1.2.1, (x14, d.1.2.2.1.2.2.2))), ()))), ((), ((), ((), d.2.2.2.2))))))
  else (
  bif decide (d.2.2.2.2.1.1 = (3 : Int)) then (
  (T.2.2.1 ((d.1.1, (d.1.2.1, ((d.1.2.2.1.1, (d.1.2.2.1.2.1, (d.1.2.2.1.2.2.1, (x14, d.1.2.2.1.2.2.2.2)))), ()))), ((), ((), ((), d.2.2.2.2))))))
  else (
  bif decide (d.2.2.2.2.1.1 = (4 : Int)) then (
  (T.2.2.1 ((d.1.1, (d.1.2.1, ((d.1.2.2.1.1, (d.1.2.2.1.2.1, (d.1.2.2.1.2.2.1, (d.1.2.2.1.2.2.2.1, (x14, ()))))), ()))), ((), ((), ((), d.2.2.2.2))))))
  else (
  none))))))
  else none)
  else (
  bif decide (d.2.2.2.2.1.1 = (4 : Int)) then (
  let x13 : Int := (iadd .u32 d.1.2.2.1.2.2.2.2.1 d.1.1.2.2.2.2.1)
  bif decide ((0 : Int) ≤ d.2.2.2.2.1.1) && decide (d.2.2.2.2.1.1 < (5 : Int)) then (
  bif decide (d.2.2.2.2.1.1 = (0 : Int)) then (
  (T.2.2.1 ((d.1.1, (d.1.2.1, ((x13, d.1.2.2.1.2), ()))), ((), ((), ((), d.2.2.2.2))))))
  else (
  bif decide (d.2.2.2.2.1.1 = (1 : Int)) then (
  (T.2.2.1 ((d.1.1, (d.1.2.1, ((d.1.2.2.1.1, (x13, d.1.2.2.1.2.2)), ()))), ((), ((), ((), d.2.2.2.2))))))
  else (
  bif decide (d.2.2.2.2.1.1 = (2 : Int)) then (
  (T.2.2.1 ((d.1.1, (d.1.2.1, ((d.1.2.2.1.1, (d.1.2.2.1.2.1, (x13, d.1.2.2.1.2.2.2))), ()))), ((), ((), ((), d.2.2.2.2))))))
  else (
  bif decide (d.2.2.2.2.1.1 = (3 : Int)) then (
  (T.2.2.1 ((d.1.1, (d.1.2.1, ((d.1.2.2.1.1, (d.1.2.2.1.2.1, (d.1.2.2.1.2.2.1, (x13, d.1.2.2.1.2.2.2.2)))), ()))), ((), ((), ((), d.2.2.2.2))))))
  else (
  bif decide (d.2.2.2.2.1.1 = (4 : Int)) then (
  (T.2.2.1 ((d.1.1, (d.1.2.1, ((d.1.2.2.1.1, (d.1.2.2.1.2.1, (d.1.2.2.1.2.2.1, (d.1.2.2.1.2.2.2.1, (x13, ()))))), ()))), ((), ((), ((), d.2.2.2.2))))))
  else (
  none))))))
  else none)
  else (
  none))))))
  else none)
  else (
  none))))))
  else none)
  else (
  some ((), d.1.2.2))
def f_sha1_Step_p15 (T : TT_sha1_Step) (d : ((Int × (Int × (Int × (Int × (Int × Unit))))) × ((Int × (Int × (Int × (Int × (Int × Unit))))) × ((Int × (Int × (Int × (Int × (Int × Unit))))) × Unit))) × (Unit × (Unit × (Unit × ((Int × Unit) × Unit))))) : Option (Unit × ((Int × (Int × (Int × (Int × (Int × Unit))))) × Unit)) :=
  let x38 : Int := (iadd .i64 d.2.2.2.2.1.1 (1 : Int))
  (T.2.1 (d.1, ((), ((), ((), ((x38, ()), ()))))))
def f_sha1_Step_t : Nat → TT_sha1_Step
  | 0 => (fun _ => none, (fun _ => none, (fun _ => none, ())))
  | k + 1 => (f_sha1_Step_p4 (f_sha1_Step_t k), (f_sha1_Step_p12 (f_sha1_Step_t k), (f_sha1_Step_p15 (f_sha1_Step_t k), ())))
theorem t_sha1_Step (k : Nat) : f_sha1_Step_t (k + 1) = (f_sha1_Step_p4 (f_sha1_Step_t k), (f_sha1_Step_p12 (f_sha1_Step_t k), (f_sha1_Step_p15 (f_sha1_Step_t k), ()))) := rfl
def f_sha1_Step_m (T : TT_sha1_Step) (d : Unit × ((Int × (Int × (Int × (Int × (Int × Unit))))) × ((Int × (Int × (Int × (Int × (Int × (Int × (Int × (Int × (Int × (Int × (Int × (Int × (Int × (Int × (Int × (Int × (Int × (Int × (Int × (Int × (Int × (Int × (Int × (Int × (Int × (Int × (Int × (Int × (Int × (Int × (Int × (Int × (Int × (Int × (Int × (Int × (Int × (Int × (Int × (Int × (Int × (Int × (Int × (Int × (Int × (Int × (Int × (Int × (Int × (Int × (Int × (Int × (Int × (Int × (Int × (Int × (Int × (Int × (Int × (Int × (Int × (Int × (Int × (Int × Unit)))))))))))))))))))))))))))))))))))))))))))))))))))))))))))))))) × Unit))) : Option (Unit × ((Int × (Int × (Int × (Int × (Int × Unit))))) × Unit)) :=
  let x1 : (List Int) := ([d.2.2.1.1, d.2.2.1.2.1, d.2.2.1.2.2.1, d.2.2.1.2.2.2.1, d.2.2.1.2.2.2.2.1, d.2.2.1.2.2.2.2.2.1, d.2.2.1.2.2.2.2.2.2.1, d.2.2.1.2.2.2.2.2.2.2.1, d.2.2.1.2.2.2.2.2.2.2.2.1, d.2.2.1.2.2.2.2.2.2.2.2.2.1, d.2.2.1.2.2.2.2.2.2.2.2.2.2.1, d.2.2.1.2.2.2.2.2.2.2.2.2.2.2.1, d.2.2.1.2.2.2.2.2.2.2.2.2.2.2.2.1, d.2.2.1.2.2.2.2.2.2.2.2.2.2.2.2.2.1, d.2.2.1.2.2.2.2.2.2.2.2.2.2.2.2.2.2.1, d.2.2.1.2.2.2.2.2.2.2.2.2.2.2.2.2.2.2.1, d.2.2.1.2.2.2.2.2.2.2.2.2.2.2.2.2.2.2.2.1, d.2.2.1.2.2.2.2.2.2.2.2.2.2.2.2.2.2.2.2.2.1, d.2.2.1.2.2.2.2.2.2.2.2.2.2.2.2.2.2.2.2.2.2.1, d.2.2.1.2.2.2.2.2.2.2.2.2.2.2.2.2.2.2.2.2.2.2.1, d.2.2.1.2.2.2.2.2.2.2.2.2.2.2.2.2.2.2.2.2.2.2.2.1, d.2.2.1.2.2.2.2.2.2.2.2.2.2.2.2.2.2.2.2.2.2.2.2.2.1, d.2.2.1.2.2.2.2.2.2.2.2.2.2.2.2.2.2.2.2.2.2.2.2.2.2.1, d.2.2.1.2.2.2.2.2.2.2.2.2.2.2.2.2.2.2.2.2.2.2.2.2.2.2.1, d.2.2.1.2.2.2.2.2.2.2.2.2.2.2.2.2.2.2.2.2.2.2.2.2.2.2.2.1, d.2.2.1.2.2.2.2.2.2.2.2.2.2.2.2.2.2.2.2.2.2.2.2.2.2.2.2.2.1, d.2.2.1.2.2.2.2.2.2.2.2.2.2.2.2.2.2.2.2.2.2.2.2.2.2.2.2.2.2.1, d.2.2.1.2.2.2.2.2.2.2.2.2.2.2.2.2.2.2.2.2.2.2.2.2.2.2.2.2.2.2.1, d.2.2.1.2.2.2.2.2.2.2.2.2.2.2.2.2.2.2.2.2.2.2.2.2.2.2.2.2.2.2.2.1, d.2.2.1.2.2.2.2.2.2.2.2.2.2.2.2.2.2.2.2.2.2.2.2.2.2.2.2.2.2.2.2.2.1, d.2.2.1.2.2.2.2.2.2.2.2.2.2.2.2.2.2.2.2.2.2.2.2.2.2.2.2.2.2.2.2.2.2.1, d.2.2.1.2.2.2.2.2.2.2.2.2.2.2.2.2.2.2.2.2.2.2.2.2.2.2.2.2.2.2.2.2.2.2.1, d.2.2.1.2.2.2.2.2.2.2.2.2.2.2.2.2.2.2.2.2.2.2.2.2.2.2.2.2.2.2.2.2.2.2.2.1, d.2.2.1.2.2.2.2.2.2.2.2.2.2.2.2.2.2.2.2.2.2.2.2.2.2.2.2.2.2.2.2.2.2.2.2.2.1, d.2.2.1.2.2.2.2.2.2.2.2.2.2.2.2.2.2.2.2.2.2.2.2.2.2.2.2.2.2.2.2.2.2.2.2.2.2.1, d.2.2.1.2.2.2.2.2.2.2.2.2.2.2.2.2.2.2.2.2.2.2.2.2.2.2.2.2.2.2.2.2.2.2.2.2.2.2.1, d.2.2.1.2.2.2.2.2.2.2.2.2.2.2.2.2.2.2.2.2.2.2.2.2.2.2.2.2.2.2.2.2.2.2.2.2.2.2.2.1, d.2.2.1.2.2.2.2.2.2.2.2.2.2.2.2.2.2.2.2.2.2.2.2.2.2.2.2.2.2.2.2.2.2.2.2.2.2.2.2.2.1, d.2.2.1.2.2.2.2.2.2.2.2.2.2.2.2.2.2.2.2.2.2.2.2.2.2.2.2.2.2.2.2.2.2.2.2.2.2.2.2.2.2.1, d.2.2.1.2.2.2.2.2.2.2.2.2.2.2.2.2.2.2.2.2.2.2.2.2.2.2.2.2.2.2.2.2.2.2.2.2.2.2.2.2.2.2.1, d.2.2.1.2.2.2.2.2.2.2.2.2.2.2.2.2.2.2.2.2.2.2.2.2.2.2.2.2.2.2.2.2.2.2.2.2.2.2.2.2.2.2.2.1, d.2.2.1.2.2.2.2.2.2.2.2.2.2.2.2.2.2.2.2.2.2.2.2.2.2.2.2.2.2.2.2.2.2.2.2.2.2.2.2.2.2.2.2.2.1, d.2.2.1.2.2.2.2.2.2.2.2.2.2.2.2.2.2.2.2.2.2.2.2.2.2.2.2.2.2.2.2.2.2.2.2.2.2.2.2.2.2.2.2.2.2.1, d.2.2.1.2.2.2.2.2.2.2.2.2.2.2.2.2.2.2.2.2.2.2.2.2.2.2.2.2.2.2.2.2.2.2.2.2.2.2.2.2.2.2.2.2.2.2.1, d.2.2.1.2.2.2.2.2.2.2.2.2.2.2.2.2.2.2.2.2.2.2.2.2.2.2.2.2.2.2.2.2.2.2.2.2.2.2.2.2.2.2.2.2.2.2.2.1, d.2.2.1.2.2.2.2.2.2.2.2.2.2.2.2.2.2.2.2.2.2.2.2.2.2.2.2.2.2.2.2.2.2.2.2.2.2.2.2.2.2.2.2.2.2.2.2.2.1, d.2.2.1.2.2.2.2.2.2.2.2.2.2.2.2.2.2.2.2.2.2.2.2.2.2.2.2.2.2.2.2.2.2.2.2.2.2.2.2.2.2.2.2.2.2.2.2.2.2.1, d.2.2.1.2.2.2.2.2.2.2.2.2.2.2.2.2.2.2.2.2.2.2.2.2.2.2.2.2.2.2.2.2.2.2.2.2.2.2.2.2.2.2.2.2.2.2.2.2.2.2.1, d.2.2.1.2.2.2.2.2.2.2.2.2.2.2.2.2.2.2.2.2.2.2.2.2.2.2.2.2.2.2.2.2.2.2.2.2.2.2.2.2.2.2.2.2.2.2.2.2.2.2.2.1, d.2.2.1.2.2.2.2.2.2.2.2.2.2.2.2.2.2.2.2.2.2.2.2.2.2.2.2.2.2.2.2.2.2.2.2.2.2.2.2.2.2.2.2.2.2.2.2.2.2.2.2.2.1, d.2.2.1.2.2.2.2.2.2.2.2.2.2.2.2.2.2.2.2.2.2.2.2.2.2.2.2.2.2.2.2.2.2.2.2.2.2.2.2.2.2.2.2.2.2.2.2.2.2.2.2.2.2.1, d.2.2.1.2.2.2.2.2.2.2.2.2.2.2.2.2.2.2.2.2.2.2.2.2.2.2.2.2.2.2.2.2.2.2.2.2.2.2.2.2.2.2.2.2.2.2.2.2.2.2.2.2.2.2.1, d.2.2.1.2.2.2.2.2.2.2.2.2.2.2.2.2.2.2.2.2.2.2.2.2.2.2.2.2.2.2.2.2.2.2.2.2.2.2.2.2.2.2.2.2.2.2.2.2.2.2.2.2.2.2.2.1, d.2.2.1.2.2.2.2.2.2.2.2.2.2.2.2.2.2.2.2.2.2.2.2.2.2.2.2.2.2.2.2.2.2.2.2.2.2.2.2.2.2.2.2.2.2.2.2.2.2.2.2.2.2.2.2.2.1, d.2.2.1.2.2.2.2.2.2.2.2.2.2.2.2.2.2.2.2.2.2.2.2.2.2.2.2.2.2.2.2.2.2.2.2.2.2.2.2.2.2.2.2.2.2.2.2.2.2.2.2.2.2.2.2.2.2.1, d.2.2.1.2.2.2.2.2.2.2.2.2.2.2.2.2.2.2.2.2.2.2.2.2.2.2.2.2.2.2.2.2.2.2.2.2.2.2.2.2.2.2.2.2.2.2.2.2.2.2.2.2.2.2.2.2.2.2.1, d.2.2.1.2.2.2.2.2.2.2.2.2.2.2.2.2.2.2.2.2.2.2.2.2.2.2.2.2.2.2.2.2.2.2.2.2.2.2.2.2.2.2.2.2.2.2.2.2.2.2.2.2.2.2.2.2.2.2.2.1, d.2.2.1.2.2.2.2.2.2.2.2.2.2.2.2.2.2.2.2.2.2.2.2.2.2.2.2.2.2.2.2.2.2.2.2.2.2.2.2.2.2.2.2.2.2.2.2.2.2.2.2.2.2.2.2.2.2.2.2.2.1, d.2.2.1.2.2.2.2.2.2.2.2.2.2.2.2.2.2.2.2.2.2.2.2.2.2.2.2.2.2.2.2.2.2.2.2.2.2.2.2.2.2.2.2.2.2.2.2.2.2.2.2.2.2.2.2.2.2.2.2.2.2.1, d.2.2.1.2.2.2.2.2.2.2.2.2.2.2.2.2.2.2.2.2.2.2.2.2.2.2.2.2.2.2.2.2.2.2.2.2.2.2.2.2.2.2.2.2.2.2.2.2.2.2.2.2.2.2.2.2.2.2.2.2.2.2.1, d.2.2.1.2.2.2.2.2.2.2.2.2.2.2.2.2.2.2.2.2.2.2.2.2.2.2.2.2.2.2.2.2.2.2.2.2.2.2.2.2.2.2.2.2.2.2.2.2.2.2.2.2.2.2.2.2.2.2.2.2.2.2.2.1, d.2.2.1.2.2.2.2.2.2.2.2.2.2.2.2.2.2.2.2.2.2.2.2.2.2.2.2.2.2.2.2.2.2.2.2.2.2.2.2.2.2.2.2.2.2.2.2.2.2.2.2.2.2.2.2.2.2.2.2.2.2.2.2.2.1, d.2.2.1.2.2.2.2.2.2.2.2.2.2.2.2.2.2.2.2.2.2.2.2.2.2.2.2.2.2.2.2.2.2.2.2.2.2.2.2.2.2.2.2.2.2.2.2.2.2.2.2.2.2.2.2.2.2.2.2.2.2.2.2.2.2.1, d.2.2.1.2.2.2.2.2.2.2.2.2.2.2.2.2.2.2.2.2.2.2.2.2.2.2.2.2.2.2.2.2.2.2.2.2.2.2.2.2.2.2.2.2.2.2.2.2.2.2.2.2.2.2.2.2.2.2.2.2.2.2.2.2.2.2.1] : List Int)
  bif decide ((64 : Int) ≤ (x1.length : Int)) then (
  (g_sha1_schedule ((), (((gd (.int .u8) x1 (0 : Int)), ((gd (.int .u8) x1 (1 : Int)), ((gd (.int .u8) x1 (2 : Int)), ((gd (.int .u8) x1 (3 : Int)), ((gd (.int .u8) x1 (4 : Int)), ((gd (.int .u8) x1 (5 : Int)), ((gd (.int .u8) x1 (6 : Int)), ((gd (.int .u8) x1 (7 : Int)), ((gd (.int .u8) x1 (8 : Int)), ((gd (.int .u8) x1 (9 : Int)), ((gd (.int .u8) x1 (10 : Int)), ((gd (.int .u8) x1 (11 : Int)), ((gd (.int .u8) x1 (12 : Int)), ((gd (.int .u8) x1 (13 : Int)), ((gd (.int .u8) x1 (14 : Int)), ((gd (.int .u8) x1 (15 : Int)), ((gd (.int .u8) x1 (16 : Int)), ((gd (.int .u8) x1 (17 : Int)), ((gd (.int .u8) x1 (18 : Int)), ((gd (.int .u8) x1 (19 : Int)), ((gd (.int .u8) x1 (20 : Int)), ((gd (.int .u8) x1 (21 : Int)), ((gd (.int .u8) x1 (22 : Int)), ((gd (.int .u8) x1 (23 : Int)), ((gd (.int .u8) x1 (24 : Int)), ((gd (.int .u8) x1 (25 : Int)), ((gd (.int .u8) x1 (26 : Int)), ((gd (.int .u8) x1 (27 : Int)), ((gd (.int .u8) x1 (28 : Int)), ((gd (.int .u8) x1 (29 : Int)), ((gd (.int .u8) x1 (30 : Int)), ((gd (.int .u8) x1 (31 : Int)), ((gd (.int .u8) x1 (32 : Int)), ((gd (.int .u8) x1 (33 : Int)), ((gd (.int .u8) x1 (34 : Int)), ((gd (.int .u8) x1 (35 : Int)), ((gd (.int .u8) x1 (36 : Int)), ((gd (.int .u8) x1 (37 : Int)), ((gd (.int .u8) x1 (38 : Int)), ((gd (.int .u8) x1 (39 : Int)), ((gd (.int .u8) x1 (40 : Int)), ((gd (.int .u8) x1 (41 : Int)), ((gd (.int .u8) x1 (42 : Int)), ((gd (.int .u8) x1 (43 : Int)), ((gd (.int .u8) x1 (44 : Int)), ((gd (.int .u8) x1 (45 : Int)), ((gd (.int .u8) x1 (46 : Int)), ((gd (.int .u8) x1 (47 : Int)), ((gd (.int .u8) x1 (48 : Int)), ((gd (.int .u8) x1 (49 : Int)), ((gd (.int .u8) x1 (50 : Int)), ((gd (.int .u8) x1 (51 : Int)), ((gd (.int .u8) x1 (52 : Int)), ((gd (.int .u8) x1 (53 : Int)), ((gd (.int .u8) x1 (54 : Int)), ((gd (.int .u8) x1 (55 : Int)), ((gd (.int .u8) x1 (56 : Int)), ((gd (.int .u8) x1 (57 : Int)), ((gd (.int .u8) x1 (58 : Int)), ((gd (.int .u8) x1 (59 : Int)), ((gd (.int .u8) x1 (60 : Int)), ((gd (.int .u8) x1 (61 : Int)), ((gd (.int .u8) x1 (62 : Int)), ((gd (.int .u8) x1 (63 : Int)), ())))))))))))))))))))))))))))))))))))))))))))))))))))))))))))))))), ()))).bind fun x2 =>
  (T.1 ((d.2.1, (((0 : Int), ((0 : Int), ((0 : Int), ((0 : Int), ((0 : Int), ()))))), (d.2.1, ()))), ((), ((), ((), (x2.2.1, (((0 : Int), ()), ()))))))))
  else none
def g_sha1_Step (d : Unit × ((Int × (Int × (Int × (Int × (Int × Unit))))) × ((Int × (Int × (Int × (Int × (Int × (Int × (Int × (Int × (Int × (Int × (Int × (Int × (Int × (Int × (Int × (Int × (Int × (Int × (Int × (Int × (Int × (Int × (Int × (Int × (Int × (Int × (Int × (Int × (Int × (Int × (Int × (Int × (Int × (Int × (Int × (Int × (Int × (Int × (Int × (Int × (Int × (Int × (Int × (Int × (Int × (Int × (Int × (Int × (Int × (Int × (Int × (Int × (Int × (Int × (Int × (Int × (Int × (Int × (Int × (Int × (Int × (Int × (Int × (Int × Unit)))))))))))))))))))))))))))))))))))))))))))))))))))))))))))))))) × Unit))) : Option (Unit × ((Int × (Int × (Int × (Int × (Int × Unit))))) × Unit)) := lim fun k => f_sha1_Step_m (f_sha1_Step_t k) d
theorem ok_sha1_Step : FnOk Tryz.prog ET0 74 pi_sha1_Step po_sha1_Step g_sha1_Step :=
 fnL (E := (((E0.add 98 s_sha1_schedule).add 99 s_sha1_mix).add 100 s_math_bits_RotateLeft32)) (pi := pi_sha1_Step) (po := po_sha1_Step) (envOk_add (envOk_add (envOk_add e0_ok (typed_ok ok_sha1_schedule)) (typed_ok ok_sha1_mix)) (typed_ok ok_math_bits_RotateLeft32)) (fn := Tryz.f74) Tryz.func74 (by kernel_rfl) (by kernel_rfl) [.cell 4 36] (by kernel_rfl) rfl rfl rfl [15] (fun k => [(4, ⟨sh_sha1_Step_4, (f_sha1_Step_t k).1⟩), (12, ⟨sh_sha1_Step_12, (f_sha1_Step_t k).2.1⟩), (15, ⟨sh_sha1_Step_15, (f_sha1_Step_t k).2.2.1⟩)]) (fun _ => [])
 (.intro (fun _ => rfl) (.intro (fun _ => rfl) (.intro (fun _ => rfl) trivial))) (fun k => (.intro (fun d => by kernel_rfl) (.intro (fun d => by kernel_rfl) (.intro (fun d => by kernel_rfl) trivial)))) trivial (fun k => trivial) (fun k d => f_sha1_Step_m (f_sha1_Step_t k) d) (fun k d => by kernel_rfl)
def s_sha1_Step := typedSem pi_sha1_Step po_sha1_Step g_sha1_Step

abbrev pi_sha1_Blocks : PSh := ⟨[], [.mk false [vI]]⟩
abbrev po_sha1_Blocks : PSh := ⟨[], [.mk false [vI]]⟩
def f_sha1_Blocks_m (T : Unit) (d : Unit × ((Int × Unit) × Unit)) : Option (Unit × ((Int × Unit) × Unit)) :=
  let x1 : Bool := (decide (d.2.1.1 < (0 : Int)))
  bif x1 then (
  some ((), (((0 : Int), ()), ())))
  else (
  let x2 : Int := (iquo .i64 d.2.1.1 (64 : Int))
  let x3 : Int := (Int.tmod d.2.1.1 (64 : Int))
  let x4 : Int := (iadd .i64 x3 (1 : Int))
  let x5 : Int := (iadd .i64 x4 (8 : Int))
  let x6 : Bool := (decide (x5 > (64 : Int)))
  bif x6 then (
  let x7 : Int := (iadd .i64 x2 (1 : Int))
  let x8 : Int := (iadd .i64 x7 (1 : Int))
  some ((), ((x8, ()), ())))
  else (
  let x9 : Int := (iadd .i64 x2 (1 : Int))
  some ((), ((x9, ()), ()))))
def g_sha1_Blocks (d : Unit × ((Int × Unit) × Unit)) : Option (Unit × ((Int × Unit) × Unit)) := f_sha1_Blocks_m () d
theorem ok_sha1_Blocks : FnOk Tryz.prog ET0 75 pi_sha1_Blocks po_sha1_Blocks g_sha1_Blocks :=
 fn0 (E := E0) (pi := pi_sha1_Blocks) (po := po_sha1_Blocks) e0_ok (fn := Tryz.f75) Tryz.func75 (by kernel_rfl) (by kernel_rfl) [.tmp 2] (by kernel_rfl) rfl rfl rfl [] fun d => by kernel_rfl
def s_sha1_Blocks := typedSem pi_sha1_Blocks po_sha1_Blocks g_sha1_Blocks

abbrev pi_octets_Size_u64 : PSh := ⟨[], []⟩
abbrev po_octets_Size_u64 : PSh := ⟨[], [.mk false [vI]]⟩
abbrev TT_octets_Size_u64 : Type := (((Unit × ((Int × Unit) × ((Int × Unit) × Unit))) → Option (Unit × ((Int × Unit) × Unit))) × Unit)
abbrev sh_octets_Size_u64_4 : PSh := ⟨[], [.any, .mk false [vI], .mk false [.v (.int .u64)]] ++ anyN 9⟩
def f_octets_Size_u64_p4 (T : TT_octets_Size_u64) (d : Unit × ((Int × Unit) × ((Int × Unit) × Unit))) : Option (Unit × ((Int × Unit) × Unit)) :=
  let x3 : Bool := (decide (d.2.2.1.1 > (0 : Int)))
  bif x3 then (
  let x4 : Int := (iadd .i64 d.2.1.1 (1 : Int))
  let x5 : Int := (ishr .u64 d.2.2.1.1 (8 : Int))
  (T.1 ((), ((x4, ()), ((x5, ()), ())))))
  else (
  some ((), (d.2.1, ())))
def f_octets_Size_u64_t : Nat → TT_octets_Size_u64
  | 0 => (fun _ => none, ())
  | k + 1 => (f_octets_Size_u64_p4 (f_octets_Size_u64_t k), ())
theorem t_octets_Size_u64 (k : Nat) : f_octets_Size_u64_t (k + 1) = (f_octets_Size_u64_p4 (f_octets_Size_u64_t k), ()) := rfl
def f_octets_Size_u64_m (T : TT_octets_Size_u64) (d : Unit × Unit) : Option (Unit × ((Int × Unit) × Unit)) :=
  let x1 : Int := (iconv .u64 (0 : Int))
  let x2 : Int := (inot .u64 x1)
  (T.1 ((), (((0 : Int), ()), ((x2, ()), ()))))
def g_octets_Size_u64 (d : Unit × Unit) : Option (Unit × ((Int × Unit) × Unit)) := lim fun k => f_octets_Size_u64_m (f_octets_Size_u64_t k) d
theorem ok_octets_Size_u64 : FnOk Tryz.prog ET0 101 pi_octets_Size_u64 po_octets_Size_u64 g_octets_Size_u64 :=
 fnL (E := E0) (pi := pi_octets_Size_u64) (po := po_octets_Size_u64) e0_ok (fn := Tryz.f101) Tryz.func101 (by kernel_rfl) (by kernel_rfl) [.tmp 0] (by kernel_rfl) rfl rfl rfl [] (fun k => [(4, ⟨sh_octets_Size_u64_4, (f_octets_Size_u64_t k).1⟩)]) (fun _ => [])
 (.intro (fun _ => rfl) trivial) (fun k => (.intro (fun d => by kernel_rfl) trivial)) trivial (fun k => trivial) (fun k d => f_octets_Size_u64_m (f_octets_Size_u64_t k) d) (fun k d => by kernel_rfl)
def s_octets_Size_u64 := typedSem pi_octets_Size_u64 po_octets_Size_u64 g_octets_Size_u64

abbrev pi_octets_Put_u64 : PSh := ⟨[], [.mk false [.v (.sl (.int .u8))], .mk false [.v (.sl (.int .u64))]]⟩
abbrev po_octets_Put_u64 : PSh := ⟨[.row 5 (.int .u8)], [.mk false [.osl 0]]⟩
abbrev TT_octets_Put_u64 : Type := (((((List Int) × Unit) × ((Int × Unit) × (Unit × (((List Int) × Unit) × ((Int × Unit) × ((Int × Unit) × Unit)))))) → Option (((List Int) × Unit) × (Unit × Unit))) × (((((List Int) × Unit) × ((Int × Unit) × (Unit × ((Int × Unit) × ((Int × Unit) × (((List Int) × Unit) × ((Int × Unit) × ((Int × Unit) × Unit)))))))) → Option (((List Int) × Unit) × (Unit × Unit))) × Unit))
abbrev sh_octets_Put_u64_5 : PSh := ⟨[.row 5 (.int .u8)], [.any, .any, .any, .any, .any, .mk false [vI], .mk false [.osl 0], .any, .any, .any, .any, .any, .any, .mk false [.v (.sl (.int .u64))], .mk false [vI], .mk false [vI]] ++ anyN 19⟩
abbrev sh_octets_Put_u64_11 : PSh := ⟨[.row 5 (.int .u8)], [.any, .any, .any, .any, .any, .mk false [vI], .mk false [.osl 0], .any, .mk false [.v (.int .u64)], .mk false [vI], .any, .any, .any, .mk false [.v (.sl (.int .u64))], .mk false [vI], .mk false [vI]] ++ anyN 19⟩
def f_octets_Put_u64_p5 (T : TT_octets_Put_u64) (d : ((List Int) × Unit) × ((Int × Unit) × (Unit × (((List Int) × Unit) × ((Int × Unit) × ((Int × Unit) × Unit)))))) : Option (((List Int) × Unit) × (Unit × Unit)) :=
  let x4 : Bool := (decide (d.2.2.2.2.2.1.1 < d.2.2.2.2.1.1))
  bif x4 then (
  bif decide ((0 : Int) ≤ d.2.2.2.2.2.1.1) && decide (d.2.2.2.2.2.1.1 < (d.2.2.2.1.1.length : Int)) then (
  let x5 : Int := (isub .i64 d.2.1.1 (1 : Int))
  (T.2.1 (d.1, (d.2.1, ((), (((gd (.int .u64) d.2.2.2.1.1 d.2.2.2.2.2.1.1), ()), ((x5, ()), d.2.2.2)))))))
  else none)
  else (
  some (d.1, ((), ())))
def f_octets_Put_u64_p11 (T : TT_octets_Put_u64) (d : ((List Int) × Unit) × ((Int × Unit) × (Unit × ((Int × Unit) × ((Int × Unit) × (((List Int) × Unit) × ((Int × Unit) × ((Int × Unit) × Unit)))))))) : Option (((List Int) × Unit) × (Unit × Unit)) :=
  let x6 : Bool := (decide (d.2.2.2.2.1.1 ≥ (0 : Int)))
  bif x6 then (
  let x7 : Int := (imul .i64 (8 : Int) d.2.2.2.2.1.1)
  bif decide (x7 < 0) then (
  none)
  else (
  let x8 : Int := (ishr .u64 d.2.2.2.1.1 x7)
  let x9 : Int := (iconv .u8 x8)
  let x10 : (List Int) := ([x9] : List Int)
  bif decide (((d.1.1.length + x10.length) * 1 : Nat) ≤ 140737488355328) && decide (d.1.1.length + x10.length ≤ 9223372036854775807) then (
  let x11 : (List Int) := (d.1.1 ++ x10)
  let x12 : Int := (isub .i64 d.2.2.2.2.1.1 (1 : Int))
  (T.2.1 ((x11, ()), (d.2.1, ((), (d.2.2.2.1, ((x12, ()), d.2.2.2.2.2)))))))
  else none))
  else (
  let x13 : Int := (iadd .i64 d.2.2.2.2.2.2.2.1.1 (1 : Int))
  (T.1 (d.1, (d.2.1, ((), (d.2.2.2.2.2.1, (d.2.2.2.2.2.2.1, ((x13, ()), ()))))))))
def f_octets_Put_u64_t : Nat → TT_octets_Put_u64
  | 0 => (fun _ => none, (fun _ => none, ()))
  | k + 1 => (f_octets_Put_u64_p5 (f_octets_Put_u64_t k), (f_octets_Put_u64_p11 (f_octets_Put_u64_t k), ()))
theorem t_octets_Put_u64 (k : Nat) : f_octets_Put_u64_t (k + 1) = (f_octets_Put_u64_p5 (f_octets_Put_u64_t k), (f_octets_Put_u64_p11 (f_octets_Put_u64_t k), ())) := rfl
def f_octets_Put_u64_m (T : TT_octets_Put_u64) (d : Unit × (((List Int) × Unit) × (((List Int) × Unit) × Unit))) : Option (((List Int) × Unit) × (Unit × Unit)) :=
  (g_octets_Size_u64 ((), ())).bind fun x1 =>
  (g_slices_Clone_byte_byte ((), (d.2.1, ()))).bind fun x2 =>
  let x3 : Int := (d.2.2.1.1.length : Int)
  (T.1 (x2.1, (x1.2.1, ((), (d.2.2.1, ((x3, ()), (((0 : Int), ()), ())))))))
def g_octets_Put_u64 (d : Unit × (((List Int) × Unit) × (((List Int) × Unit) × Unit))) : Option (((List Int) × Unit) × (Unit × Unit)) := lim fun k => f_octets_Put_u64_m (f_octets_Put_u64_t k) d
theorem ok_octets_Put_u64 : FnOk Tryz.prog ET0 76 pi_octets_Put_u64 po_octets_Put_u64 g_octets_Put_u64 :=
 fnL (E := ((E0.add 92 s_slices_Clone_byte_byte).add 101 s_octets_Size_u64)) (pi := pi_octets_Put_u64) (po := po_octets_Put_u64) (envOk_add (envOk_add e0_ok (typed_ok ok_slices_Clone_byte_byte)) (typed_ok ok_octets_Size_u64)) (fn := Tryz.f76) Tryz.func76 (by kernel_rfl) (by kernel_rfl) [.tmp 4] (by kernel_rfl) rfl rfl rfl [] (fun k => [(5, ⟨sh_octets_Put_u64_5, (f_octets_Put_u64_t k).1⟩), (11, ⟨sh_octets_Put_u64_11, (f_octets_Put_u64_t k).2.1⟩)]) (fun _ => [])
 (.intro (fun _ => rfl) (.intro (fun _ => rfl) trivial)) (fun k => (.intro (fun d => by kernel_rfl) (.intro (fun d => by kernel_rfl) trivial))) trivial (fun k => trivial) (fun k d => f_octets_Put_u64_m (f_octets_Put_u64_t k) d) (fun k d => by kernel_rfl)
def s_octets_Put_u64 := typedSem pi_octets_Put_u64 po_octets_Put_u64 g_octets_Put_u64

/- slices.Chunk[[]byte,byte]$1 -/
abbrev TY_slices_Chunk_byte_byte_1 : Type := (((Unit × (((Option (List Int)) × Unit) × (((Option Int) × Unit) × ((Int × Unit) × Unit)))) → Option (List (List Int))) × Unit)
abbrev sh_slices_Chunk_byte_byte_1_1 : PSh := ⟨[], [.any, .mk false [.v (.nptr (.sl (.int .u8)))], .mk false [.v (.nptr (.int .i64))], .any, .mk false [vI]] ++ anyN 26⟩
def f_slices_Chunk_byte_byte_1_p1 (T : TY_slices_Chunk_byte_byte_1) (d : Unit × (((Option (List Int)) × Unit) × (((Option Int) × Unit) × ((Int × Unit) × Unit)))) : Option (List (List Int)) :=
  d.2.1.1.bind fun x1 =>
  let x2 : Int := (x1.length : Int)
  let x3 : Bool := (decide (d.2.2.2.1.1 < x2))
  bif x3 then (
  d.2.2.1.1.bind fun x4 =>
  d.2.1.1.bind fun x5 =>
  bif decide ((0 : Int) ≤ d.2.2.2.1.1) && decide (d.2.2.2.1.1 ≤ (x5.length : Int)) && decide ((x5.length : Int) ≤ (x5.length : Int)) then (
  let x6 : (List Int) := (List.drop (Int.toNat d.2.2.2.1.1) (List.take (Int.toNat (x5.length : Int)) x5))
  let x7 : Int := (x6.length : Int)
  let x8 : Int := (if x7 < x4 then x7 else x4)
  d.2.1.1.bind fun x9 =>
  let x10 : Int := (iadd .i64 d.2.2.2.1.1 x8)
  let x11 : Int := (iadd .i64 d.2.2.2.1.1 x8)
  bif decide ((0 : Int) ≤ d.2.2.2.1.1) && decide (d.2.2.2.1.1 ≤ x10) && decide (x10 ≤ x11) && decide (x11 ≤ (x9.length : Int)) then (
  let x12 : (List Int) := (List.drop (Int.toNat d.2.2.2.1.1) (List.take (Int.toNat x10) x9))
  (some ([] : List (List Int))).bind fun (x13 : List (List Int)) =>
  bif x13.isEmpty then (
  (d.2.2.1.1.bind fun x15 =>
  let x16 : Int := (iadd .i64 d.2.2.2.1.1 x15)
  (T.1 ((), ((d.2.1.1, ()), ((d.2.2.1.1, ()), ((x16, ()), ())))))).bind fun (x14 : List (List Int)) =>
  some (x12 :: x14))
  else none)
  else none)
  else none)
  else (
  some ([] : List (List Int)))
def f_slices_Chunk_byte_byte_1_t : Nat → TY_slices_Chunk_byte_byte_1
  | 0 => (fun _ => none, ())
  | k + 1 => (f_slices_Chunk_byte_byte_1_p1 (f_slices_Chunk_byte_byte_1_t k), ())
theorem t_slices_Chunk_byte_byte_1 (k : Nat) : f_slices_Chunk_byte_byte_1_t (k + 1) = (f_slices_Chunk_byte_byte_1_p1 (f_slices_Chunk_byte_byte_1_t k), ()) := rfl
def f_slices_Chunk_byte_byte_1_m (T : TY_slices_Chunk_byte_byte_1) (d : ((List Int) × (Int × Unit))) : Option (List (List Int)) :=
  (T.1 ((), (((some d.1), ()), (((some d.2.1), ()), (((0 : Int), ()), ())))))
def L_slices_Chunk_byte_byte_1 (k : Nat) : Pts (List (List Int)) := [(1, ⟨sh_slices_Chunk_byte_byte_1_1, (f_slices_Chunk_byte_byte_1_t k).1⟩)]
def F_slices_Chunk_byte_byte_1 (d : ((List Int) × (Int × Unit))) : Option (List (List Int)) := lim fun k => f_slices_Chunk_byte_byte_1_m (f_slices_Chunk_byte_byte_1_t k) d
def sq_slices_Chunk_byte_byte_1 : SeqSem := ⟨[(63, (.sl (.int .u8))), (3, (.int .i64))], [false, false], (.sl (.int .u8)), F_slices_Chunk_byte_byte_1⟩
def E_slices_Chunk_byte_byte_1 : Env := E0
theorem q_slices_Chunk_byte_byte_1_1 (k : Nat) (d : Unit × (((Option (List Int)) × Unit) × (((Option Int) × Unit) × ((Int × Unit) × Unit)))) : evAtY E_slices_Chunk_byte_byte_1 (.sl (.int .u8)) (tabY (L_slices_Chunk_byte_byte_1 k)) 1 (bodyOf Tryz.f97) 0 finY (ptSt sh_slices_Chunk_byte_byte_1_1 d) = f_slices_Chunk_byte_byte_1_p1 (f_slices_Chunk_byte_byte_1_t k) d := by kernel_rfl
theorem q_slices_Chunk_byte_byte_1_m (k : Nat) (d : ((List Int) × (Int × Unit))) : evCodeY E_slices_Chunk_byte_byte_1 (.sl (.int .u8)) (tabY (L_slices_Chunk_byte_byte_1 k)) (bodyOf Tryz.f97) 0 finY (startY sq_slices_Chunk_byte_byte_1.ts sq_slices_Chunk_byte_byte_1.wr 31 d) = f_slices_Chunk_byte_byte_1_m (f_slices_Chunk_byte_byte_1_t k) d := by kernel_rfl
theorem okq_slices_Chunk_byte_byte_1 : SeqOk Tryz.prog ET0 97 sq_slices_Chunk_byte_byte_1 := by
  refine seq_of_body (E := E_slices_Chunk_byte_byte_1) e0_ok rfl rfl (fn := Tryz.f97) Tryz.func97 (by kernel_rfl) (by kernel_rfl) (by kernel_rfl) (by kernel_rfl) L_slices_Chunk_byte_byte_1 ?_ ?_ ?_ (by intro d l h; obtain ⟨k, hk⟩ := lim_some h; exact ⟨k, (q_slices_Chunk_byte_byte_1_m k d).trans hk⟩)
  · intro x hx d
    rcases List.mem_cons.1 hx with rfl | hx
    · rfl
    ·
      cases hx
  · intro k x hx
    rcases List.mem_cons.1 hx with rfl | hx
    · rfl
    ·
      cases hx
  · intro k x hx d out h
    rcases List.mem_cons.1 hx with rfl | hx
    · exact (q_slices_Chunk_byte_byte_1_1 k d).trans h
    ·
      cases hx

abbrev pi_sha1_Sum : PSh := ⟨[], [.mk false [.v (.sl (.int .u8))]]⟩
abbrev po_sha1_Sum : PSh := ⟨[], [.mk true [v8, v8, v8, v8, v8, v8, v8, v8, v8, v8, v8, v8, v8, v8, v8, v8, v8, v8, v8, v8]]⟩
abbrev TT_sha1_Sum : Type := ((List (List Int) → (((Int × (Int × (Int × (Int × (Int × (Int × (Int × (Int × (Int × (Int × (Int × (Int × (Int × (Int × (Int × (Int × (Int × (Int × (Int × (Int × Unit)))))))))))))))))))) × ((Int × (Int × (Int × (Int × (Int × Unit))))) × Unit)) × (((List Int) × Unit) × (Unit × (Unit × ((Int × Unit) × Unit))))) → Option (Unit × ((Int × (Int × (Int × (Int × (Int × (Int × (Int × (Int × (Int × (Int × (Int × (Int × (Int × (Int × (Int × (Int × (Int × (Int × (Int × (Int × Unit)))))))))))))))))))) × Unit))) × ((List (List Int) → (((Int × (Int × (Int × (Int × (Int × (Int × (Int × (Int × (Int × (Int × (Int × (Int × (Int × (Int × (Int × (Int × (Int × (Int × (Int × (Int × Unit)))))))))))))))))))) × ((Int × (Int × (Int × (Int × (Int × Unit))))) × Unit)) × (Unit × (Unit × Unit))) → Option (Unit × ((Int × (Int × (Int × (Int × (Int × (Int × (Int × (Int × (Int × (Int × (Int × (Int × (Int × (Int × (Int × (Int × (Int × (Int × (Int × (Int × Unit)))))))))))))))))))) × Unit))) × Unit))
abbrev sh_sha1_Sum_5 : PSh := ⟨[.var 53 [v8, v8, v8, v8, v8, v8, v8, v8, v8, v8, v8, v8, v8, v8, v8, v8, v8, v8, v8, v8], .var 36 [.v (.int .u32), .v (.int .u32), .v (.int .u32), .v (.int .u32), .v (.int .u32)]], [.mk false [.v (.sl (.int .u8))], .any, .mk false [.ref 0 0], .mk false [.ref 1 0], .mk false [vI]] ++ anyN 55⟩
abbrev sh_sha1_Sum_12 : PSh := ⟨[.var 53 [v8, v8, v8, v8, v8, v8, v8, v8, v8, v8, v8, v8, v8, v8, v8, v8, v8, v8, v8, v8], .var 36 [.v (.int .u32), .v (.int .u32), .v (.int .u32), .v (.int .u32), .v (.int .u32)]], [.any, .any, .mk false [.ref 0 0], .mk false [.ref 1 0]] ++ anyN 56⟩
def f_sha1_Sum_p5 (T : TT_sha1_Sum) (l : List (List Int)) (d : ((Int × (Int × (Int × (Int × (Int × (Int × (Int × (Int × (Int × (Int × (Int × (Int × (Int × (Int × (Int × (Int × (Int × (Int × (Int × (Int × Unit)))))))))))))))))))) × ((Int × (Int × (Int × (Int × (Int × Unit))))) × Unit)) × (((List Int) × Unit) × (Unit × (Unit × ((Int × Unit) × Unit))))) : Option (Unit × ((Int × (Int × (Int × (Int × (Int × (Int × (Int × (Int × (Int × (Int × (Int × (Int × (Int × (Int × (Int × (Int × (Int × (Int × (Int × (Int × Unit)))))))))))))))))))) × Unit)) :=
  bif l.isEmpty then (
  let x8 : Int := (d.2.1.1.length : Int)
  (g_sha1_Blocks ((), ((x8, ()), ()))).bind fun x9 =>
  let x10 : Int := (iquo .i64 d.2.2.2.2.1.1 (64 : Int))
  let x11 : Int := (isub .i64 x9.2.1.1 x10)
  let x12 : Int := (imul .i64 x11 (64 : Int))
  let x13 : Int := (isub .i64 x12 (8 : Int))
  bif decide ((0 : Int) ≤ x13) && decide (x13 ≤ x13) && decide (x13 * (1 : Int) ≤ 140737488355328) && decide (x13 ≤ 9223372036854775807) then (
  let x14 : (List Int) := (List.replicate (Int.toNat x13) (0 : Int))
  bif decide ((0 : Int) ≤ d.2.2.2.2.1.1) && decide (d.2.2.2.2.1.1 ≤ (d.2.1.1.length : Int)) && decide ((d.2.1.1.length : Int) ≤ (d.2.1.1.length : Int)) then (
  let x15 : (List Int) := (List.drop (Int.toNat d.2.2.2.2.1.1) (List.take (Int.toNat (d.2.1.1.length : Int)) d.2.1.1))
  bif decide ((0 : Int) < (x14.length : Int)) then (
  let x16 : (List Int) := (cpL x14 (Int.toNat (0 : Int)) x15)
  let x17 : Int := ((min x15.length (x14.length - (Int.toNat (0 : Int))) : Nat) : Int)
  let x18 : Int := (d.2.1.1.length : Int)
  let x19 : Int := (isub .i64 x18 d.2.2.2.2.1.1)
  bif decide ((0 : Int) ≤ x19) && decide (x19 < (x16.length : Int)) then (
  let x20 : (List Int) := (List.set x16 (Int.toNat x19) (128 : Int))
  let x21 : Int := (d.2.1.1.length : Int)
  let x22 : Int := (iconv .u64 x21)
  let x23 : Int := (imul .u64 x22 (8 : Int))
  let x24 : (List Int) := ([x23] : List Int)
  (g_octets_Put_u64 ((), ((x20, ()), ((x24, ()), ())))).bind fun x25 =>
  (g_slices_Chunk_byte_byte ((), (x25.1, (((64 : Int), ()), ())))).bind fun x26 =>
  (F_slices_Chunk_byte_byte_1 (x26.1.1.1, (x26.1.2.1.1, ()))).bind fun x27 =>
  (T.2.1 x27 (d.1, ((), ((), ())))))
  else none)
  else none)
  else none)
  else none)
  else (
  let x28 : (List Int) := (gd (.sl (.int .u8)) l (0 : Int))
  bif decide ((64 : Int) ≤ x28.length) then (
  let x29 : (Int × (Int × (Int × (Int × (Int × (Int × (Int × (Int × (Int × (Int × (Int × (Int × (Int × (Int × (Int × (Int × (Int × (Int × (Int × (Int × (Int × (Int × (Int × (Int × (Int × (Int × (Int × (Int × (Int × (Int × (Int × (Int × (Int × (Int × (Int × (Int × (Int × (Int × (Int × (Int × (Int × (Int × (Int × (Int × (Int × (Int × (Int × (Int × (Int × (Int × (Int × (Int × (Int × (Int × (Int × (Int × (Int × (Int × (Int × (Int × (Int × (Int × (Int × Int))))))))))))))))))))))))))))))))))))))))))))))))))))))))))))))) := ((gd (.int .u8) x28 (0 : Int)), ((gd (.int .u8) x28 (1 : Int)), ((gd (.int .u8) x28 (2 : Int)), ((gd (.int .u8) x28 (3 : Int)), ((gd (.int .u8) x28 (4 : Int)), ((gd (.int .u8) x28 (5 : Int)), ((gd (.int .u8) x28 (6 : Int)), ((gd (.int .u8) x28 (7 : Int)), ((gd (.int .u8) x28 (8 : Int)), ((gd (.int .u8) x28 (9 : Int)), ((gd (.int .u8) x28 (10 : Int)), ((gd (.int .u8) x28 (11 : Int)), ((gd (.int .u8) x28 (12 : Int)), ((gd (.int .u8) x28 (13 : Int)), ((gd (.int .u8) x28 (14 : Int)), ((gd (.int .u8) x28 (15 : Int)), ((gd (.int .u8) x28 (16 : Int)), ((gd (.int .u8) x28 (17 : Int)), ((gd (.int .u8) x28 (18 : Int)), ((gd (.int .u8) x28 (19 : Int)), ((gd (.int .u8) x28 (20 : Int)), ((gd (.int .u8) x28 (21 : Int)), ((gd (.int .u8) x28 (22 : Int)), ((gd (.int .u8) x28 (23 : Int)), ((gd (.int .u8) x28 (24 : Int)), ((gd (.int .u8) x28 (25 : Int)), ((gd (.int .u8) x28 (26 : Int)), ((gd (.int .u8) x28 (27 : Int)), ((gd (.int .u8) x28 (28 : Int)), ((gd (.int .u8) x28 (29 : Int)), ((gd (.int .u8) x28 (30 : Int)), ((gd (.int .u8) x28 (31 : Int)), ((gd (.int .u8) x28 (32 : Int)), ((gd (.int .u8) x28 (33 : Int)), ((gd (.int .u8) x28 (34 : Int)), ((gd (.int .u8) x28 (35 : Int)), ((gd (.int .u8) x28 (36 : Int)), ((gd (.int .u8) x28 (37 : Int)), ((gd (.int .u8) x28 (38 : Int)), ((gd (.int .u8) x28 (39 : Int)), ((gd (.int .u8) x28 (40 : Int)), ((gd (.int .u8) x28 (41 : Int)), ((gd (.int .u8) x28 (42 : Int)), ((gd (.int .u8) x28 (43 : Int)), ((gd (.int .u8) x28 (44 : Int)), ((gd (.int .u8) x28 (45 : Int)), ((gd (.int .u8) x28 (46 : Int)), ((gd (.int .u8) x28 (47 : Int)), ((gd (.int .u8) x28 (48 : Int)), ((gd (.int .u8) x28 (49 : Int)), ((gd (.int .u8) x28 (50 : Int)), ((gd (.int .u8) x28 (51 : Int)), ((gd (.int .u8) x28 (52 : Int)), ((gd (.int .u8) x28 (53 : Int)), ((gd (.int .u8) x28 (54 : Int)), ((gd (.int .u8) x28 (55 : Int)), ((gd (.int .u8) x28 (56 : Int)), ((gd (.int .u8) x28 (57 : Int)), ((gd (.int .u8) x28 (58 : Int)), ((gd (.int .u8) x28 (59 : Int)), ((gd (.int .u8) x28 (60 : Int)), ((gd (.int .u8) x28 (61 : Int)), ((gd (.int .u8) x28 (62 : Int)), (gd (.int .u8) x28 (63 : Int)))))))))))))))))))))))))))))))))))))))))))))))))))))))))))))))))
  (g_sha1_Step ((), (d.1.2.1, ((x29.1, (x29.2.1, (x29.2.2.1, (x29.2.2.2.1, (x29.2.2.2.2.1, (x29.2.2.2.2.2.1, (x29.2.2.2.2.2.2.1, (x29.2.2.2.2.2.2.2.1, (x29.2.2.2.2.2.2.2.2.1, (x29.2.2.2.2.2.2.2.2.2.1, (x29.2.2.2.2.2.2.2.2.2.2.1, (x29.2.2.2.2.2.2.2.2.2.2.2.1, (x29.2.2.2.2.2.2.2.2.2.2.2.2.1, (x29.2.2.2.2.2.2.2.2.2.2.2.2.2.1, (x29.2.2.2.2.2.2.2.2.2.2.2.2.2.2.1, (x29.2.2.2.2.2.2.2.2.2.2.2.2.2.2.2.1, (x29.2.2.2.2.2.2.2.2.2.2.2.2.2.2.2.2.1, (x29.2.2.2.2.2.2.2.2.2.2.2.2.2.2.2.2.2.1, (x29.2.2.2.2.2.2.2.2.2.2.2.2.2.2.2.2.2.2.1, (x29.2.2.2.2.2.2.2.2.2.2.2.2.2.2.2.2.2.2.2.1, (x29.2.2.2.2.2.2.2.2.2.2.2.2.2.2.2.2.2.2.2.2.1, (x29.2.2.2.2.2.2.2.2.2.2.2.2.2.2.2.2.2.2.2.2.2.1, (x29.2.2.2.2.2.2.2.2.2.2.2.2.2.2.2.2.2.2.2.2.2.2.1, (x29.2.2.2.2.2.2.2.2.2.2.2.2.2.2.2.2.2.2.2.2.2.2.2.1, (x29.2.2.2.2.2.2.2.2.2.2.2.2.2.2.2.2.2.2.2.2.2.2.2.2.1, (x29.2.2.2.2.2.2.2.2.2.2.2.2.2.2.2.2.2.2.2.2.2.2.2.2.2.1, (x29.2.2.2.2.2.2.2.2.2.2.2.2.2.2.2.2.2.2.2.2.2.2.2.2.2.2.1, (x29.2.2.2.2.2.2.2.2.2.2.2.2.2.2.2.2.2.2.2.2.2.2.2.2.2.2.2.1, (x29.2.2.2.2.2.2.2.2.2.2.2.2.2.2.2.2.2.2.2.2.2.2.2.2.2.2.2.2.1, (x29.2.2.2.2.2.2.2.2.2.2.2.2.2.2.2.2.2.2.2.2.2.2.2.2.2.2.2.2.2.1, (x29.2.2.2.2.2.2.2.2.2.2.2.2.2.2.2.2.2.2.2.2.2.2.2.2.2.2.2.2.2.2.1, (x29.2.2.2.2.2.2.2.2.2.2.2.2.2.2.2.2.2.2.2.2.2.2.2.2.2.2.2.2.2.2.2.1, (x29.2.2.2.2.2.2.2.2.2.2.2.2.2.2.2.2.2.2.2.2.2.2.2.2.2.2.2.2.2.2.2.2.1, (x29.2.2.2.2.2.2.2.2.2.2.2.2.2.2.2.2.2.2.2.2.2.2.2.2.2.2.2.2.2.2.2.2.2.1, (x29.2.2.2.2.2.2.2.2.2.2.2.2.2.2.2.2.2.2.2.2.2.2.2.2.2.2.2.2.2.2.2.2.2.2.1, (x29.2.2.2.2.2.2.2.2.2.2.2.2.2.2.2.2.2.2.2.2.2.2.2.2.2.2.2.2.2.2.2.2.2.2.2.1, (x29.2.2.2.2.2.2.2.2.2.2.2.2.2.2.2.2.2.2.2.2.2.2.2.2.2.2.2.2.2.2.2.2.2.2.2.2.1, (x29.2.2.2.2.2.2.2.2.2.2.2.2.2.2.2.2.2.2.2.2.2.2.2.2.2.2.2.2.2.2.2.2.2.2.2.2.2.1, (x29.2.2.2.2.2.2.2.2.2.2.2.2.2.2.2.2.2.2.2.2.2.2.2.2.2.2.2.2.2.2.2.2.2.2.2.2.2.2.1, (x29.2.2.2.2.2.2.2.2.2.2.2.2.2.2.2.2.2.2.2.2.2.2.2.2.2.2.2.2.2.2.2.2.2.2.2.2.2.2.2.1, (x29.2.2.2.2.2.2.2.2.2.2.2.2.2.2.2.2.2.2.2.2.2.2.2.2.2.2.2.2.2.2.2.2.2.2.2.2.2.2.2.2.1, (x29.2.2.2.2.2.2.2.2.2.2.2.2.2.2.2.2.2.2.2.2.2.2.2.2.2.2.2.2.2.2.2.2.2.2.2.2.2.2.2.2.2.1, (x29.2.2.2.2.2.2.2.2.2.2.2.2.2.2.2.2.2.2.2.2.2.2.2.2.2.2.2.2.2.2.2.2.2.2.2.2.2.2.2.2.2.2.1, (x29.2.2.2.2.2.2.2.2.2.2.2.2.2.2.2.2.2.2.2.2.2.2.2.2.2.2.2.2.2.2.2.2.2.2.2.2.2.2.2.2.2.2.2.1, (x29.2.2.2.2.2.2.2.2.2.2.2.2.2.2.2.2.2.2.2.2.2.2.2.2.2.2.2.2.2.2.2.2.2.2.2.2.2.2.2.2.2.2.2.2.1, (x29.2.2.2.2.2.2.2.2.2.2.2.2.2.2.2.2.2.2.2.2.2.2.2.2.2.2.2.2.2.2.2.2.2.2.2.2.2.2.2.2.2.2.2.2.2.1, (x29.2.2.2.2.2.2.2.2.2.2.2.2.2.2.2.2.2.2.2.2.2.2.2.2.2.2.2.2.2.2.2.2.2.2.2.2.2.2.2.2.2.2.2.2.2.2.1, (x29.2.2.2.2.2.2.2.2.2.2.2.2.2.2.2.2.2.2.2.2.2.2.2.2.2.2.2.2.2.2.2.2.2.2.2.2.2.2.2.2.2.2.2.2.2.2.2.1, (x29.2.2.2.2.2.2.2.2.2.2.2.2.2.2.2.2.2.2.2.2.2.2.2.2.2.2.2.2.2.2.2.2.2.2.2.2.2.2.2.2.2.2.2.2.2.2.2.2.1, (x29.2.2.2.2.2.2.2.2.2.2.2.2.2.2.2.2.2.2.2.2.2.2.2.2.2.2.2.2.2.2.2.2.2.2.2.2.2.2.2.2.2.2.2.2.2.2.2.2.2.1, (x29.2.2.2.2.2.2.2.2.2.2.2.2.2.2.2.2.2.2.2.2.2.2.2.2.2.2.2.2.2.2.2.2.2.2.2.2.2.2.2.2.2.2.2.2.2.2.2.2.2.2.1, (x29.2.2.2.2.2.2.2.2.2.2.2.2.2.2.2.2.2.2.2.2.2.2.2.2.2.2.2.2.2.2.2.2.2.2.2.2.2.2.2.2.2.2.2.2.2.2.2.2.2.2.2.1, (x29.2.2.2.2.2.2.2.2.2.2.2.2.2.2.2.2.2.2.2.2.2.2.2.2.2.2.2.2.2.2.2.2.2.2.2.2.2.2.2.2.2.2.2.2.2.2.2.2.2.2.2.2.1, (x29.2.2.2.2.2.2.2.2.2.2.2.2.2.2.2.2.2.2.2.2.2.2.2.2.2.2.2.2.2.2.2.2.2.2.2.2.2.2.2.2.2.2.2.2.2.2.2.2.2.2.2.2.2.1, (x29.2.2.2.2.2.2.2.2.2.2.2.2.2.2.2.2.2.2.2.2.2.2.2.2.2.2.2.2.2.2.2.2.2.2.2.2.2.2.2.2.2.2.2.2.2.2.2.2.2.2.2.2.2.2.1, (x29.2.2.2.2.2.2.2.2.2.2.2.2.2.2.2.2.2.2.2.2.2.2.2.2.2.2.2.2.2.2.2.2.2.2.2.2.2.2.2.2.2.2.2.2.2.2.2.2.2.2.2.2.2.2.2.1, (x29.2.2.2.2.2.2.2.2.2.2.2.2.2.2.2.2.2.2.2.2.2.2.2.2.2.2.2.2.2.2.2.2.2.2.2.2.2.2.2.2.2.2.2.2.2.2.2.2.2.2.2.2.2.2.2.2.1, (x29.2.2.2.2.2.2.2.2.2.2.2.2.2.2.2.2.2.2.2.2.2.2.2.2.2.2.2.2.2.2.2.2.2.2.2.2.2.2.2.2.2.2.2.2.2.2.2.2.2.2.2.2.2.2.2.2.2.1, (x29.2.2.2.2.2.2.2.2.2.2.2.2.2.2.2.2.2.2.2.2.2.2.2.2.2.2.2.2.2.2.2.2.2.2.2.2.2.2.2.2.2.2.2.2.2.2.2.2.2.2.2.2.2.2.2.2.2.2.1, (x29.2.2.2.2.2.2.2.2.2.2.2.2.2.2.2.2.2.2.2.2.2.2.2.2.2.2.2.2.2.2.2.2.2.2.2.2.2.2.2.2.2.2.2.2.2.2.2.2.2.2.2.2.2.2.2.2.2.2.2.1, (x29.2.2.2.2.2.2.2.2.2.2.2.2.2.2.2.2.2.2.2.2.2.2.2.2.2.2.2.2.2.2.2.2.2.2.2.2.2.2.2.2.2.2.2.2.2.2.2.2.2.2.2.2.2.2.2.2.2.2.2.2.1, (x29.2.2.2.2.2.2.2.2.2.2.2.2.2.2.2.2.2.2.2.2.2.2.2.2.2.2.2.2.2.2.2.2.2.2.2.2.2.2.2.2.2.2.2.2.2.2.2.2.2.2.2.2.2.2.2.2.2.2.2.2.2.1, (x29.2.2.2.2.2.2.2.2.2.2.2.2.2.2.2.2.2.2.2.2.2.2.2.2.2.2.2.2.2.2.2.2.2.2.2.2.2.2.2.2.2.2.2.2.2.2.2.2.2.2.2.2.2.2.2.2.2.2.2.2.2.2.1, (x29.2.2.2.2.2.2.2.2.2.2.2.2.2.2.2.2.2.2.2.2.2.2.2.2.2.2.2.2.2.2.2.2.2.2.2.2.2.2.2.2.2.2.2.2.2.2.2.2.2.2.2.2.2.2.2.2.2.2.2.2.2.2.2, ())))))))))))))))))))))))))))))))))))))))))))))))))))))))))))))))), ())))).bind fun x30 =>
  (T.1 (List.drop 1 l) ((d.1.1, x30.2), (d.2.1, ((), ((), d.2.2.2.2))))))
  else none)
def f_sha1_Sum_p12 (T : TT_sha1_Sum) (l : List (List Int)) (d : ((Int × (Int × (Int × (Int × (Int × (Int × (Int × (Int × (Int × (Int × (Int × (Int × (Int × (Int × (Int × (Int × (Int × (Int × (Int × (Int × Unit)))))))))))))))))))) × ((Int × (Int × (Int × (Int × (Int × Unit))))) × Unit)) × (Unit × (Unit × Unit))) : Option (Unit × ((Int × (Int × (Int × (Int × (Int × (Int × (Int × (Int × (Int × (Int × (Int × (Int × (Int × (Int × (Int × (Int × (Int × (Int × (Int × (Int × Unit)))))))))))))))))))) × Unit)) :=
  bif l.isEmpty then (
  (g_sha1_From ((), d.1.2)).bind fun x31 =>
  some ((), x31.2))
  else (
  let x32 : (List Int) := (gd (.sl (.int .u8)) l (0 : Int))
  bif decide ((64 : Int) ≤ x32.length) then (
  let x33 : (Int × (Int × (Int × (Int × (Int × (Int × (Int × (Int × (Int × (Int × (Int × (Int × (Int × (Int × (Int × (Int × (Int × (Int × (Int × (Int × (Int × (Int × (Int × (Int × (Int × (Int × (Int × (Int × (Int × (Int × (Int × (Int × (Int × (Int × (Int × (Int × (Int × (Int × (Int × (Int × (Int × (Int × (Int × (Int × (Int × (Int × (Int × (Int × (Int × (Int × (Int × (Int × (Int × (Int × (Int × (Int × (Int × (Int × (Int × (Int × (Int × (Int × (Int × Int))))))))))))))))))))))))))))))))))))))))))))))))))))))))))))))) := ((gd (.int .u8) x32 (0 : Int)), ((gd (.int .u8) x32 (1 : Int)), ((gd (.int .u8) x32 (2 : Int)), ((gd (.int .u8) x32 (3 : Int)), ((gd (.int .u8) x32 (4 : Int)), ((gd (.int .u8) x32 (5 : Int)), ((gd (.int .u8) x32 (6 : Int)), ((gd (.int .u8) x32 (7 : Int)), ((gd (.int .u8) x32 (8 : Int)), ((gd (.int .u8) x32 (9 : Int)), ((gd (.int .u8) x32 (10 : Int)), ((gd (.int .u8) x32 (11 : Int)), ((gd (.int .u8) x32 (12 : Int)), ((gd (.int .u8) x32 (13 : Int)), ((gd (.int .u8) x32 (14 : Int)), ((gd (.int .u8) x32 (15 : Int)), ((gd (.int .u8) x32 (16 : Int)), ((gd (.int .u8) x32 (17 : Int)), ((gd (.int .u8) x32 (18 : Int)), ((gd (.int .u8) x32 (19 : Int)), ((gd (.int .u8) x32 (20 : Int)), ((gd (.int .u8) x32 (21 : Int)), ((gd (.int .u8) x32 (22 : Int)), ((gd (.int .u8) x32 (23 : Int)), ((gd (.int .u8) x32 (24 : Int)), ((gd (.int .u8) x32 (25 : Int)), ((gd (.int .u8) x32 (26 : Int)), ((gd (.int .u8) x32 (27 : Int)), ((gd (.int .u8) x32 (28 : Int)), ((gd (.int .u8) x32 (29 : Int)), ((gd (.int .u8) x32 (30 : Int)), ((gd (.int .u8) x32 (31 : Int)), ((gd (.int .u8) x32 (32 : Int)), ((gd (.int .u8) x32 (33 : Int)), ((gd (.int .u8) x32 (34 : Int)), ((gd (.int .u8) x32 (35 : Int)), ((gd (.int .u8) x32 (36 : Int)), ((gd (.int .u8) x32 (37 : Int)), ((gd (.int .u8) x32 (38 : Int)), ((gd (.int .u8) x32 (39 : Int)), ((gd (.int .u8) x32 (40 : Int)), ((gd (.int .u8) x32 (41 : Int)), ((gd (.int .u8) x32 (42 : Int)), ((gd (.int .u8) x32 (43 : Int)), ((gd (.int .u8) x32 (44 : Int)), ((gd (.int .u8) x32 (45 : Int)), ((gd (.int .u8) x32 (46 : Int)), ((gd (.int .u8) x32 (47 : Int)), ((gd (.int .u8) x32 (48 : Int)), ((gd (.int .u8) x32 (49 : Int)), ((gd (.int .u8) x32 (50 : Int)), ((gd (.int .u8) x32 (51 : Int)), ((gd (.int .u8) x32 (52 : Int)), ((gd (.int .u8) x32 (53 : Int)), ((gd (.int .u8) x32 (54 : Int)), ((gd (.int .u8) x32 (55 : Int)), ((gd (.int .u8) x32 (56 : Int)), ((gd (.int .u8) x32 (57 : Int)), ((gd (.int .u8) x32 (58 : Int)), ((gd (.int .u8) x32 (59 : Int)), ((gd (.int .u8) x32 (60 : Int)), ((gd (.int .u8) x32 (61 : Int)), ((gd (.int .u8) x32 (62 : Int)), (gd (.int .u8) x32 (63 : Int)))))))))))))))))))))))))))))))))))))))))))))))))))))))))))))))))
  (g_sha1_Step ((), (d.1.2.1, ((x33.1, (x33.2.1, (x33.2.2.1, (x33.2.2.2.1, (x33.2.2.2.2.1, (x33.2.2.2.2.2.1, (x33.2.2.2.2.2.2.1, (x33.2.2.2.2.2.2.2.1, (x33.2.2.2.2.2.2.2.2.1, (x33.2.2.2.2.2.2.2.2.2.1, (x33.2.2.2.2.2.2.2.2.2.2.1, (x33.2.2.2.2.2.2.2.2.2.2.2.1, (x33.2.2.2.2.2.2.2.2.2.2.2.2.1, (x33.2.2.2.2.2.2.2.2.2.2.2.2.2.1, (x33.2.2.2.2.2.2.2.2.2.2.2.2.2.2.1, (x33.2.2.2.2.2.2.2.2.2.2.2.2.2.2.2.1, (x33.2.2.2.2.2.2.2.2.2.2.2.2.2.2.2.2.1, (x33.2.2.2.2.2.2.2.2.2.2.2.2.2.2.2.2.2.1, (x33.2.2.2.2.2.2.2.2.2.2.2.2.2.2.2.2.2.2.1, (x33.2.2.2.2.2.2.2.2.2.2.2.2.2.2.2.2.2.2.2.1, (x33.2.2.2.2.2.2.2.2.2.2.2.2.2.2.2.2.2.2.2.2.1, (x33.2.2.2.2.2.2.2.2.2.2.2.2.2.2.2.2.2.2.2.2.2.1, (x33.2.2.2.2.2.2.2.2.2.2.2.2.2.2.2.2.2.2.2.2.2.2.1, (x33.2.2.2.2.2.2.2.2.2.2.2.2.2.2.2.2.2.2.2.2.2.2.2.1, (x33.2.2.2.2.2.2.2.2.2.2.2.2.2.2.2.2.2.2.2.2.2.2.2.2.1, (x33.2.2.2.2.2.2.2.2.2.2.2.2.2.2.2.2.2.2.2.2.2.2.2.2.2.1, (x33.2.2.2.2.2.2.2.2.2.2.2.2.2.2.2.2.2.2.2.2.2.2.2.2.2.2.1, (x33.2.2.2.2.2.2.2.2.2.2.2.2.2.2.2.2.2.2.2.2.2.2.2.2.2.2.2.1, (x33.2.2.2.2.2.2.2.2.2.2.2.2.2.2.2.2.2.2.2.2.2.2.2.2.2.2.2.2.1, (x33.2.2.2.2.2.2.2.2.2.2.2.2.2.2.2.2.2.2.2.2.2.2.2.2.2.2.2.2.2.1, (x33.2.2.2.2.2.2.2.2.2.2.2.2.2.2.2.2.2.2.2.2.2.2.2.2.2.2.2.2.2.2.1, (x33.2.2.2.2.2.2.2.2.2.2.2.2.2.2.2.2.2.2.2.2.2.2.2.2.2.2.2.2.2.2.2.1, (x33.2.2.2.2.2.2.2.2.2.2.2.2.2.2.2.2.2.2.2.2.2.2.2.2.2.2.2.2.2.2.2.2.1, (x33.2.2.2.2.2.2.2.2.2.2.2.2.2.2.2.2.2.2.2.2.2.2.2.2.2.2.2.2.2.2.2.2.2.1, (x33.2.2.2.2.2.2.2.2.2.2.2.2.2.2.2.2.2.2.2.2.2.2.2.2.2.2.2.2.2.2.2.2.2.2.1, (x33.2.2.2.2.2.2.2.2.2.2.2.2.2.2.2.2.2.2.2.2.2.2.2.2.2.2.2.2.2.2.2.2.2.2.2.1, (x33.2.2.2.2.2.2.2.2.2.2.2.2.2.2.2.2.2.2.2.2.2.2.2.2.2.2.2.2.2.2.2.2.2.2.2.2.1, (x33.2.2.2.2.2.2.2.2.2.2.2.2.2.2.2.2.2.2.2.2.2.2.2.2.2.2.2.2.2.2.2.2.2.2.2.2.2.1, (x33.2.2.2.2.2.2.2.2.2.2.2.2.2.2.2.2.2.2.2.2.2.2.2.2.2.2.2.2.2.2.2.2.2.2.2.2.2.2.1, (x33.2.2.2.2.2.2.2.2.2.2.2.2.2.2.2.2.2.2.2.2.2.2.2.2.2.2.2.2.2.2.2.2.2.2.2.2.2.2.2.1, (x33.2.2.2.2.2.2.2.2.2.2.2.2.2.2.2.2.2.2.2.2.2.2.2.2.2.2.2.2.2.2.2.2.2.2.2.2.2.2.2.2.1, (x33.2.2.2.2.2.2.2.2.2.2.2.2.2.2.2.2.2.2.2.2.2.2.2.2.2.2.2.2.2.2.2.2.2.2.2.2.2.2.2.2.2.1, (x33.2.2.2.2.2.2.2.2.2.2.2.2.2.2.2.2.2.2.2.2.2.2.2.2.2.2.2.2.2.2.2.2.2.2.2.2.2.2.2.2.2.2.1, (x33.2.2.2.2.2.2.2.2.2.2.2.2.2.2.2.2.2.2.2.2.2.2.2.2.2.2.2.2.2.2.2.2.2.2.2.2.2.2.2.2.2.2.2.1, (x33.2.2.2.2.2.2.2.2.2.2.2.2.2.2.2.2.2.2.2.2.2.2.2.2.2.2.2.2.2.2.2.2.2.2.2.2.2.2.2.2.2.2.2.2.1, (x33.2.2.2.2.2.2.2.2.2.2.2.2.2.2.2.2.2.2.2.2.2.2.2.2.2.2.2.2.2.2.2.2.2.2.2.2.2.2.2.2.2.2.2.2.2.1, (x33.2.2.2.2.2.2.2.2.2.2.2.2.2.2.2.2.2.2.2.2.2.2.2.2.2.2.2.2.2.2.2.2.2.2.2.2.2.2.2.2.2.2.2.2.2.2.1, (x33.2.2.2.2.2.2.2.2.2.2.2.2.2.2.2.2.2.2.2.2.2.2.2.2.2.2.2.2.2.2.2.2.2.2.2.2.2.2.2.2.2.2.2.2.2.2.2.1, (x33.2.2.2.2.2.2.2.2.2.2.2.2.2.2.2.2.2.2.2.2.2.2.2.2.2.2.2.2.2.2.2.2.2.2.2.2.2.2.2.2.2.2.2.2.2.2.2.2.1, (x33.2.2.2.2.2.2.2.2.2.2.2.2.2.2.2.2.2.2.2.2.2.2.2.2.2.2.2.2.2.2.2.2.2.2.2.2.2.2.2.2.2.2.2.2.2.2.2.2.2.1, (x33.2.2.2.2.2.2.2.2.2.2.2.2.2.2.2.2.2.2.2.2.2.2.2.2.2.2.2.2.2.2.2.2.2.2.2.2.2.2.2.2.2.2.2.2.2.2.2.2.2.2.1, (x33.2.2.2.2.2.2.2.2.2.2.2.2.2.2.2.2.2.2.2.2.2.2.2.2.2.2.2.2.2.2.2.2.2.2.2.2.2.2.2.2.2.2.2.2.2.2.2.2.2.2.2.1, (x33.2.2.2.2.2.2.2.2.2.2.2.2.2.2.2.2.2.2.2.2.2.2.2.2.2.2.2.2.2.2.2.2.2.2.2.2.2.2.2.2.2.2.2.2.2.2.2.2.2.2.2.2.1, (x33.2.2.2.2.2.2.2.2.2.2.2.2.2.2.2.2.2.2.2.2.2.2.2.2.2.2.2.2.2.2.2.2.2.2.2.2.2.2.2.2.2.2.2.2.2.2.2.2.2.2.2.2.2.1, (x33.2.2.2.2.2.2.2.2.2.2.2.2.2.2.2.2.2.2.2.2.2.2.2.2.2.2.2.2.2.2.2.2.2.2.2.2.2.2.2.2.2.2.2.2.2.2.2.2.2.2.2.2.2.2.1, (x33.2.2.2.2.2.2.2.2.2.2.2.2.2.2.2.2.2.2.2.2.2.2.2.2.2.2.2.2.2.2.2.2.2.2.2.2.2.2.2.2.2.2.2.2.2.2.2.2.2.2.2.2.2.2.2.1, (x33.2.2.2.2.2.2.2.2.2.2.2.2.2.2.2.2.2.2.2.2.2.2.2.2.2.2.2.2.2.2.2.2.2.2.2.2.2.2.2.2.2.2.2.2.2.2.2.2.2.2.2.2.2.2.2.2.1, (x33.2.2.2.2.2.2.2.2.2.2.2.2.2.2.2.2.2.2.2.2.2.2.2.2.2.2.2.2.2.2.2.2.2.2.2.2.2.2.2.2.2.2.2.2.2.2.2.2.2.2.2.2.2.2.2.2.2.1, (x33.2.2.2.2.2.2.2.2.2.2.2.2.2.2.2.2.2.2.2.2.2.2.2.2.2.2.2.2.2.2.2.2.2.2.2.2.2.2.2.2.2.2.2.2.2.2.2.2.2.2.2.2.2.2.2.2.2.2.1, (x33.2.2.2.2.2.2.2.2.2.2.2.2.2.2.2.2.2.2.2.2.2.2.2.2.2.2.2.2.2.2.2.2.2.2.2.2.2.2.2.2.2.2.2.2.2.2.2.2.2.2.2.2.2.2.2.2.2.2.2.1, (x33.2.2.2.2.2.2.2.2.2.2.2.2.2.2.2.2.2.2.2.2.2.2.2.2.2.2.2.2.2.2.2.2.2.2.2.2.2.2.2.2.2.2.2.2.2.2.2.2.2.2.2.2.2.2.2.2.2.2.2.2.1, (x33.2.2.2.2.2.2.2.2.2.2.2.2.2.2.2.2.2.2.2.2.2.2.2.2.2.2.2.2.2.2.2.2.2.2.2.2.2.2.2.2.2.2.2.2.2.2.2.2.2.2.2.2.2.2.2.2.2.2.2.2.2.1, (x33.2.2.2.2.2.2.2.2.2.2.2.2.2.2.2.2.2.2.2.2.2.2.2.2.2.2.2.2.2.2.2.2.2.2.2.2.2.2.2.2.2.2.2.2.2.2.2.2.2.2.2.2.2.2.2.2.2.2.2.2.2.2.1, (x33.2.2.2.2.2.2.2.2.2.2.2.2.2.2.2.2.2.2.2.2.2.2.2.2.2.2.2.2.2.2.2.2.2.2.2.2.2.2.2.2.2.2.2.2.2.2.2.2.2.2.2.2.2.2.2.2.2.2.2.2.2.2.2, ())))))))))))))))))))))))))))))))))))))))))))))))))))))))))))))))), ())))).bind fun x34 =>
  (T.2.1 (List.drop 1 l) ((d.1.1, x34.2), ((), ((), ())))))
  else none)
def f_sha1_Sum_t : Nat → TT_sha1_Sum
  | 0 => (fun _ _ => none, (fun _ _ => none, ()))
  | k + 1 => (f_sha1_Sum_p5 (f_sha1_Sum_t k), (f_sha1_Sum_p12 (f_sha1_Sum_t k), ()))
theorem t_sha1_Sum (k : Nat) : f_sha1_Sum_t (k + 1) = (f_sha1_Sum_p5 (f_sha1_Sum_t k), (f_sha1_Sum_p12 (f_sha1_Sum_t k), ())) := rfl
def f_sha1_Sum_m (T : TT_sha1_Sum) (d : Unit × (((List Int) × Unit) × Unit)) : Option (Unit × ((Int × (Int × (Int × (Int × (Int × (Int × (Int × (Int × (Int × (Int × (Int × (Int × (Int × (Int × (Int × (Int × (Int × (Int × (Int × (Int × Unit)))))))))))))))))))) × Unit)) :=
  (g_sha1_begin ((), ())).bind fun x1 =>
  let x2 : Int := (d.2.1.1.length : Int)
  let x3 : Int := (iquo .i64 x2 (64 : Int))
  let x4 : Int := (imul .i64 x3 (64 : Int))
  bif decide ((0 : Int) ≤ (0 : Int)) && decide ((0 : Int) ≤ x4) && decide (x4 ≤ (d.2.1.1.length : Int)) then (
  let x5 : (List Int) := (List.drop (Int.toNat (0 : Int)) (List.take (Int.toNat x4) d.2.1.1))
  (g_slices_Chunk_byte_byte ((), ((x5, ()), (((64 : Int), ()), ())))).bind fun x6 =>
  (F_slices_Chunk_byte_byte_1 (x6.1.1.1, (x6.1.2.1.1, ()))).bind fun x7 =>
  (T.1 x7 ((((0 : Int), ((0 : Int), ((0 : Int), ((0 : Int), ((0 : Int), ((0 : Int), ((0 : Int), ((0 : Int), ((0 : Int), ((0 : Int), ((0 : Int), ((0 : Int), ((0 : Int), ((0 : Int), ((0 : Int), ((0 : Int), ((0 : Int), ((0 : Int), ((0 : Int), ((0 : Int), ())))))))))))))))))))), x1.2), (d.2.1, ((), ((), ((x4, ()), ())))))))
  else none
def g_sha1_Sum (d : Unit × (((List Int) × Unit) × Unit)) : Option (Unit × ((Int × (Int × (Int × (Int × (Int × (Int × (Int × (Int × (Int × (Int × (Int × (Int × (Int × (Int × (Int × (Int × (Int × (Int × (Int × (Int × Unit)))))))))))))))))))) × Unit)) := lim fun k => f_sha1_Sum_m (f_sha1_Sum_t k) d
theorem ok_sha1_Sum : FnOk Tryz.prog ET0 41 pi_sha1_Sum po_sha1_Sum g_sha1_Sum :=
 fnL (E := ((((((((E0.add 30 s_sha1_From).add 72 s_sha1_begin).add 73 s_slices_Chunk_byte_byte).add 74 s_sha1_Step).add 75 s_sha1_Blocks).add 76 s_octets_Put_u64).sq 97 sq_slices_Chunk_byte_byte_1).fr [(51, [50])])) (pi := pi_sha1_Sum) (po := po_sha1_Sum) (envOk_fr (envOk_sq (envOk_add (envOk_add (envOk_add (envOk_add (envOk_add (envOk_add e0_ok (typed_ok ok_sha1_From)) (typed_ok ok_sha1_begin)) (typed_ok ok_slices_Chunk_byte_byte)) (typed_ok ok_sha1_Step)) (typed_ok ok_sha1_Blocks)) (typed_ok ok_octets_Put_u64)) okq_slices_Chunk_byte_byte_1)) (fn := Tryz.f41) Tryz.func41 (by kernel_rfl) (by kernel_rfl) [.cell 2 53] (by kernel_rfl) rfl rfl rfl [] (fun _ => []) (fun k => [(5, ⟨(sh_sha1_Sum_5, (.sl (.int .u8))), (f_sha1_Sum_t k).1⟩), (12, ⟨(sh_sha1_Sum_12, (.sl (.int .u8))), (f_sha1_Sum_t k).2.1⟩)])
 trivial (fun k => trivial) (.intro (fun _ _ => rfl) (.intro (fun _ _ => rfl) trivial)) (fun k => (.intro (fun l d => by kernel_rfl) (.intro (fun l d => by kernel_rfl) trivial))) (fun k d => f_sha1_Sum_m (f_sha1_Sum_t k) d) (fun k d => by kernel_rfl)
def s_sha1_Sum := typedSem pi_sha1_Sum po_sha1_Sum g_sha1_Sum

abbrev pi_leaplist_writer_put_io : PSh := ⟨[.var 91 [.osl 1, vE], .row 5 (.int .u8)], [.mk false [.ref 0 0], .mk false [vI], .mk false [vS]]⟩
abbrev po_leaplist_writer_put_io : PSh := ⟨[.var 91 [.osl 1, vE], .row 5 (.int .u8)], [.mk false [.ref 0 0]]⟩
def f_leaplist_writer_put_io_m (T : Unit) (d : (((Option Int) × Unit) × ((List Int) × Unit)) × (Unit × ((Int × Unit) × ((ByteArray × Unit) × Unit)))) : Option ((((Option Int) × Unit) × ((List Int) × Unit)) × (Unit × Unit)) :=
  (g_figures_Put ((), (d.2.2.1, (((0 : Int), ()), ())))).bind fun x1 =>
  let x2 : Bool := (!x1.2.2.1.1.isNone)
  bif x2 then (
  bif decide (((d.1.2.1.length + (bytesOf x1.2.1.1).length) * 1 : Nat) ≤ 140737488355328) && decide (d.1.2.1.length + (bytesOf x1.2.1.1).length ≤ 9223372036854775807) then (
  let x3 : (List Int) := (d.1.2.1 ++ (bytesOf x1.2.1.1))
  bif decide (((x3.length + (bytesOf d.2.2.2.1.1).length) * 1 : Nat) ≤ 140737488355328) && decide (x3.length + (bytesOf d.2.2.2.1.1).length ≤ 9223372036854775807) then (
  let x4 : (List Int) := (x3 ++ (bytesOf d.2.2.2.1.1))
  some ((x1.2.2.1, (x4, ())), ((), ())))
  else none)
  else none)
  else (
  bif decide (((d.1.2.1.length + (bytesOf x1.2.1.1).length) * 1 : Nat) ≤ 140737488355328) && decide (d.1.2.1.length + (bytesOf x1.2.1.1).length ≤ 9223372036854775807) then (
  let x5 : (List Int) := (d.1.2.1 ++ (bytesOf x1.2.1.1))
  bif decide (((x5.length + (bytesOf d.2.2.2.1.1).length) * 1 : Nat) ≤ 140737488355328) && decide (x5.length + (bytesOf d.2.2.2.1.1).length ≤ 9223372036854775807) then (
  let x6 : (List Int) := (x5 ++ (bytesOf d.2.2.2.1.1))
  some ((d.1.1, (x6, ())), ((), ())))
  else none)
  else none)
def g_leaplist_writer_put_io (d : (((Option Int) × Unit) × ((List Int) × Unit)) × (Unit × ((Int × Unit) × ((ByteArray × Unit) × Unit)))) : Option ((((Option Int) × Unit) × ((List Int) × Unit)) × (Unit × Unit)) := f_leaplist_writer_put_io_m () d
theorem ok_leaplist_writer_put_io : FnIo Tryz.prog ET0 38 pi_leaplist_writer_put_io po_leaplist_writer_put_io 0 [(0, 0, none)] g_leaplist_writer_put_io :=
 fn0io (E := ((E0.add 69 s_figures_Put).kp [0])) (pi := pi_leaplist_writer_put_io) (po := po_leaplist_writer_put_io) (envOk_kp (envOk_add e0_ok (typed_ok ok_figures_Put))) (fn := Tryz.f38) Tryz.func38 (by kernel_rfl) (by kernel_rfl) [] [(0, none)] [(0, 0, none)] (by kernel_rfl) rfl rfl rfl rfl rfl [] fun d => by kernel_rfl
def s_leaplist_writer_put_io := ioSem pi_leaplist_writer_put_io po_leaplist_writer_put_io 0 [(0, 0, none)] g_leaplist_writer_put_io

abbrev pi_leaplist_writer_row_io : PSh := ⟨[.var 91 [.osl 1, vE], .row 5 (.int .u8)], [.mk false [.ref 0 0], .mk true [vI, vI], .mk false [vS], .mk false [vS]]⟩
abbrev po_leaplist_writer_row_io : PSh := ⟨[.var 91 [.osl 1, vE], .row 5 (.int .u8)], [.mk false [.ref 0 0]]⟩
def f_leaplist_writer_row_io_m (T : Unit) (d : (((Option Int) × Unit) × ((List Int) × Unit)) × (Unit × ((Int × (Int × Unit)) × ((ByteArray × Unit) × ((ByteArray × Unit) × Unit))))) : Option ((((Option Int) × Unit) × ((List Int) × Unit)) × (Unit × Unit)) :=
  (g_mjd_Count ((), (((3 : Int), ()), ((d.2.2.1.1, ()), ())))).bind fun x1 =>
  let x2 : Bool := (!x1.2.2.1.1.isNone)
  bif x2 then (
  let x3 : Int := (imul .i64 x1.2.1.1 (86400 : Int))
  (g_leaplist_writer_put_io ((x1.2.2.1, d.1.2), ((), ((x3, ()), (d.2.2.2.1, ()))))).bind fun x4 =>
  (g_leaplist_writer_put_io (x4.1, ((), (d.2.2.1.2, d.2.2.2.2)))).bind fun x5 =>
  some (x5.1, ((), ())))
  else (
  let x6 : Int := (imul .i64 x1.2.1.1 (86400 : Int))
  (g_leaplist_writer_put_io (d.1, ((), ((x6, ()), (d.2.2.2.1, ()))))).bind fun x7 =>
  (g_leaplist_writer_put_io (x7.1, ((), (d.2.2.1.2, d.2.2.2.2)))).bind fun x8 =>
  some (x8.1, ((), ())))
def g_leaplist_writer_row_io (d : (((Option Int) × Unit) × ((List Int) × Unit)) × (Unit × ((Int × (Int × Unit)) × ((ByteArray × Unit) × ((ByteArray × Unit) × Unit))))) : Option ((((Option Int) × Unit) × ((List Int) × Unit)) × (Unit × Unit)) := f_leaplist_writer_row_io_m () d
theorem ok_leaplist_writer_row_io : FnIo Tryz.prog ET0 39 pi_leaplist_writer_row_io po_leaplist_writer_row_io 0 [(0, 0, none)] g_leaplist_writer_row_io :=
 fn0io (E := (((E0.add 38 s_leaplist_writer_put_io).add 70 s_mjd_Count).kp [0])) (pi := pi_leaplist_writer_row_io) (po := po_leaplist_writer_row_io) (envOk_kp (envOk_add (envOk_add e0_ok (io_ok ok_leaplist_writer_put_io)) (typed_ok ok_mjd_Count))) (fn := Tryz.f39) Tryz.func39 (by kernel_rfl) (by kernel_rfl) [] [(0, none)] [(0, 0, none)] (by kernel_rfl) rfl rfl rfl rfl rfl [] fun d => by kernel_rfl
def s_leaplist_writer_row_io := ioSem pi_leaplist_writer_row_io po_leaplist_writer_row_io 0 [(0, 0, none)] g_leaplist_writer_row_io

abbrev pi_leaplist_Digest : PSh := ⟨[], [.mk false [.v (.nptr (.pair (.sl (.pair (.int .i64) (.int .i64))) (.pair (.int .i64) (.int .i64))))]]⟩
abbrev po_leaplist_Digest : PSh := ⟨[], [.mk true [v8, v8, v8, v8, v8, v8, v8, v8, v8, v8, v8, v8, v8, v8, v8, v8, v8, v8, v8, v8], .mk false [vE]]⟩
abbrev TT_leaplist_Digest : Type := (((((Int × (Int × (Int × (Int × (Int × (Int × (Int × (Int × (Int × (Int × (Int × (Int × (Int × (Int × (Int × (Int × (Int × (Int × (Int × (Int × Unit)))))))))))))))))))) × (((Option Int) × Unit) × ((List Int) × ((List (Int × Int)) × Unit)))) × (Unit × (Unit × (Unit × ((Int × Unit) × ((Int × Unit) × Unit)))))) → Option (Unit × ((Int × (Int × (Int × (Int × (Int × (Int × (Int × (Int × (Int × (Int × (Int × (Int × (Int × (Int × (Int × (Int × (Int × (Int × (Int × (Int × Unit)))))))))))))))))))) × (((Option Int) × Unit) × Unit)))) × Unit)
abbrev sh_leaplist_Digest_9 : PSh := ⟨[.var 53 [v8, v8, v8, v8, v8, v8, v8, v8, v8, v8, v8, v8, v8, v8, v8, v8, v8, v8, v8, v8], .var 91 [.osl 2, vE], .row 5 (.int .u8), .row 70 (.pair (.int .i64) (.int .i64))], [.any, .any, .mk false [.ref 0 0], .any, .mk false [.ref 1 0], .any, .any, .any, .any, .any, .any, .any, .any, .any, .any, .any, .any, .any, .mk false [.osl 3], .mk false [vI], .mk false [vI]] ++ anyN 15⟩
def f_leaplist_Digest_p9 (T : TT_leaplist_Digest) (d : ((Int × (Int × (Int × (Int × (Int × (Int × (Int × (Int × (Int × (Int × (Int × (Int × (Int × (Int × (Int × (Int × (Int × (Int × (Int × (Int × Unit)))))))))))))))))))) × (((Option Int) × Unit) × ((List Int) × ((List (Int × Int)) × Unit)))) × (Unit × (Unit × (Unit × ((Int × Unit) × ((Int × Unit) × Unit)))))) : Option (Unit × ((Int × (Int × (Int × (Int × (Int × (Int × (Int × (Int × (Int × (Int × (Int × (Int × (Int × (Int × (Int × (Int × (Int × (Int × (Int × (Int × Unit)))))))))))))))))))) × (((Option Int) × Unit) × Unit))) :=
  let x8 : Bool := (decide (d.2.2.2.2.2.1.1 < d.2.2.2.2.1.1))
  bif x8 then (
  bif decide ((0 : Int) ≤ d.2.2.2.2.2.1.1) && decide (d.2.2.2.2.2.1.1 < (d.1.2.2.2.1.length : Int)) then (
  let x9 : (Int × Int) := (gd_i64_i64 d.1.2.2.2.1 d.2.2.2.2.2.1.1)
  (g_leaplist_writer_row_io ((d.1.2.1, (d.1.2.2.1, ())), ((), ((x9.1, (x9.2, ())), (((⟨#[]⟩ : ByteArray), ()), (((⟨#[]⟩ : ByteArray), ()), ())))))).bind fun x10 =>
  let x11 : Int := (iadd .i64 d.2.2.2.2.2.1.1 (1 : Int))
  (T.1 ((d.1.1, (x10.1.1, (x10.1.2.1, d.1.2.2.2))), ((), ((), ((), (d.2.2.2.2.1, ((x11, ()), ()))))))))
  else none)
  else (
  let x12 : Bool := (!d.1.2.1.1.isNone)
  bif x12 then (
  some ((), (((0 : Int), ((0 : Int), ((0 : Int), ((0 : Int), ((0 : Int), ((0 : Int), ((0 : Int), ((0 : Int), ((0 : Int), ((0 : Int), ((0 : Int), ((0 : Int), ((0 : Int), ((0 : Int), ((0 : Int), ((0 : Int), ((0 : Int), ((0 : Int), ((0 : Int), ((0 : Int), ())))))))))))))))))))), (d.1.2.1, ()))))
  else (
  (g_sha1_Sum ((), ((d.1.2.2.1, ()), ()))).bind fun x13 =>
  some ((), (x13.2.1, (((none : Option Int), ()), ())))))
def f_leaplist_Digest_t : Nat → TT_leaplist_Digest
  | 0 => (fun _ => none, ())
  | k + 1 => (f_leaplist_Digest_p9 (f_leaplist_Digest_t k), ())
theorem t_leaplist_Digest (k : Nat) : f_leaplist_Digest_t (k + 1) = (f_leaplist_Digest_p9 (f_leaplist_Digest_t k), ()) := rfl
def f_leaplist_Digest_m (T : TT_leaplist_Digest) (d : Unit × (((Option ((List (Int × Int)) × (Int × Int))) × Unit) × Unit)) : Option (Unit × ((Int × (Int × (Int × (Int × (Int × (Int × (Int × (Int × (Int × (Int × (Int × (Int × (Int × (Int × (Int × (Int × (Int × (Int × (Int × (Int × Unit)))))))))))))))))))) × (((Option Int) × Unit) × Unit))) :=
  bif d.2.1.1.isNone then (
  let x1 : (Option Int) := (some (8 : Int))
  some ((), (((0 : Int), ((0 : Int), ((0 : Int), ((0 : Int), ((0 : Int), ((0 : Int), ((0 : Int), ((0 : Int), ((0 : Int), ((0 : Int), ((0 : Int), ((0 : Int), ((0 : Int), ((0 : Int), ((0 : Int), ((0 : Int), ((0 : Int), ((0 : Int), ((0 : Int), ((0 : Int), ())))))))))))))))))))), ((x1, ()), ()))))
  else (
  (g_leap_Table_Updated ((), d.2)).bind fun x2 =>
  (g_leaplist_writer_put_io ((((none : Option Int), ()), (([] : List Int), ())), ((), (x2.2.1, (((⟨#[]⟩ : ByteArray), ()), ()))))).bind fun x3 =>
  (g_leap_Table_Expires ((), d.2)).bind fun x4 =>
  (g_leaplist_writer_put_io (x3.1, ((), (x4.2.1, (((⟨#[]⟩ : ByteArray), ()), ()))))).bind fun x5 =>
  (g_leap_Table_Rows ((), d.2)).bind fun x6 =>
  let x7 : Int := (x6.1.1.length : Int)
  (T.1 ((((0 : Int), ((0 : Int), ((0 : Int), ((0 : Int), ((0 : Int), ((0 : Int), ((0 : Int), ((0 : Int), ((0 : Int), ((0 : Int), ((0 : Int), ((0 : Int), ((0 : Int), ((0 : Int), ((0 : Int), ((0 : Int), ((0 : Int), ((0 : Int), ((0 : Int), ((0 : Int), ())))))))))))))))))))), (x5.1.1, (x5.1.2.1, x6.1))), ((), ((), ((), ((x7, ()), (((0 : Int), ()), ()))))))))
def g_leaplist_Digest (d : Unit × (((Option ((List (Int × Int)) × (Int × Int))) × Unit) × Unit)) : Option (Unit × ((Int × (Int × (Int × (Int × (Int × (Int × (Int × (Int × (Int × (Int × (Int × (Int × (Int × (Int × (Int × (Int × (Int × (Int × (Int × (Int × Unit)))))))))))))))))))) × (((Option Int) × Unit) × Unit))) := lim fun k => f_leaplist_Digest_m (f_leaplist_Digest_t k) d
theorem ok_leaplist_Digest : FnOk Tryz.prog ET0 18 pi_leaplist_Digest po_leaplist_Digest g_leaplist_Digest :=
 fnL (E := ((((((E0.add 34 s_leap_Table_Rows).add 35 s_leap_Table_Updated).add 36 s_leap_Table_Expires).add 38 s_leaplist_writer_put_io).add 39 s_leaplist_writer_row_io).add 41 s_sha1_Sum)) (pi := pi_leaplist_Digest) (po := po_leaplist_Digest) (envOk_add (envOk_add (envOk_add (envOk_add (envOk_add (envOk_add e0_ok (typed_ok ok_leap_Table_Rows)) (typed_ok ok_leap_Table_Updated)) (typed_ok ok_leap_Table_Expires)) (io_ok ok_leaplist_writer_put_io)) (io_ok ok_leaplist_writer_row_io)) (typed_ok ok_sha1_Sum)) (fn := Tryz.f18) Tryz.func18 (by kernel_rfl) (by kernel_rfl) [.cell 2 53, .tmp 3] (by kernel_rfl) rfl rfl rfl [] (fun k => [(9, ⟨sh_leaplist_Digest_9, (f_leaplist_Digest_t k).1⟩)]) (fun _ => [])
 (.intro (fun _ => rfl) trivial) (fun k => (.intro (fun d => by kernel_rfl) trivial)) trivial (fun k => trivial) (fun k d => f_leaplist_Digest_m (f_leaplist_Digest_t k) d) (fun k d => by kernel_rfl)
def s_leaplist_Digest := typedSem pi_leaplist_Digest po_leaplist_Digest g_leaplist_Digest

abbrev pi_day_Date : PSh := ⟨[], [.mk false [vI]]⟩
abbrev po_day_Date : PSh := ⟨[], [.mk false [vI], .mk false [vI], .mk false [vI], .mk false [vE]]⟩
def f_day_Date_m (T : Unit) (d : Unit × ((Int × Unit) × Unit)) : Option (Unit × ((Int × Unit) × ((Int × Unit) × ((Int × Unit) × (((Option Int) × Unit) × Unit))))) :=
  (g_day_First ((), ())).bind fun x1 =>
  let x2 : Bool := (decide (d.2.1.1 < x1.2.1.1))
  bif x2 then (
  let x3 : (Option Int) := (some (13 : Int))
  some ((), (((0 : Int), ()), (((0 : Int), ()), (((0 : Int), ()), ((x3, ()), ()))))))
  else (
  (g_day_Last ((), ())).bind fun x4 =>
  let x5 : Bool := (decide (d.2.1.1 > x4.2.1.1))
  bif x5 then (
  let x6 : (Option Int) := (some (13 : Int))
  some ((), (((0 : Int), ()), (((0 : Int), ()), (((0 : Int), ()), ((x6, ()), ()))))))
  else (
  let x7 : Int := (iadd .i64 d.2.1.1 (719468 : Int))
  (g_day_floor ((), ((x7, ()), (((146097 : Int), ()), ())))).bind fun x8 =>
  let x9 : Int := (iadd .i64 d.2.1.1 (719468 : Int))
  let x10 : Int := (imul .i64 x8.2.1.1 (146097 : Int))
  let x11 : Int := (isub .i64 x9 x10)
  let x12 : Int := (iquo .i64 x11 (1460 : Int))
  let x13 : Int := (isub .i64 x11 x12)
  let x14 : Int := (iquo .i64 x11 (36524 : Int))
  let x15 : Int := (iadd .i64 x13 x14)
  let x16 : Int := (iquo .i64 x11 (146096 : Int))
  let x17 : Int := (isub .i64 x15 x16)
  let x18 : Int := (iquo .i64 x17 (365 : Int))
  let x19 : Int := (imul .i64 (365 : Int) x18)
  let x20 : Int := (iquo .i64 x18 (4 : Int))
  let x21 : Int := (iadd .i64 x19 x20)
  let x22 : Int := (iquo .i64 x18 (100 : Int))
  let x23 : Int := (isub .i64 x21 x22)
  let x24 : Int := (isub .i64 x11 x23)
  let x25 : Int := (imul .i64 (5 : Int) x24)
  let x26 : Int := (iadd .i64 x25 (2 : Int))
  let x27 : Int := (iquo .i64 x26 (153 : Int))
  let x28 : Int := (imul .i64 (153 : Int) x27)
  let x29 : Int := (iadd .i64 x28 (2 : Int))
  let x30 : Int := (iquo .i64 x29 (5 : Int))
  let x31 : Int := (isub .i64 x24 x30)
  let x32 : Int := (iadd .i64 x31 (1 : Int))
  let x33 : Int := (imul .i64 x8.2.1.1 (400 : Int))
  let x34 : Int := (iadd .i64 x18 x33)
  let x35 : Int := (iadd .i64 x27 (3 : Int))
  let x36 : Bool := (decide (x35 > (12 : Int)))
  bif x36 then (
  let x37 : Int := (isub .i64 x35 (12 : Int))
  let x38 : Int := (iadd .i64 x34 (1 : Int))
  some ((), ((x38, ()), ((x37, ()), ((x32, ()), (((none : Option Int), ()), ()))))))
  else (
  some ((), ((x34, ()), ((x35, ()), ((x32, ()), (((none : Option Int), ()), ()))))))))
def g_day_Date (d : Unit × ((Int × Unit) × Unit)) : Option (Unit × ((Int × Unit) × ((Int × Unit) × ((Int × Unit) × (((Option Int) × Unit) × Unit))))) := f_day_Date_m () d
theorem ok_day_Date : FnOk Tryz.prog ET0 81 pi_day_Date po_day_Date g_day_Date :=
 fn0 (E := (((E0.add 105 s_day_First).add 106 s_day_Last).add 107 s_day_floor)) (pi := pi_day_Date) (po := po_day_Date) (envOk_add (envOk_add (envOk_add e0_ok (typed_ok ok_day_First)) (typed_ok ok_day_Last)) (typed_ok ok_day_floor)) (fn := Tryz.f81) Tryz.func81 (by kernel_rfl) (by kernel_rfl) [.tmp 2, .tmp 3, .tmp 4, .tmp 5] (by kernel_rfl) rfl rfl rfl [] fun d => by kernel_rfl
def s_day_Date := typedSem pi_day_Date po_day_Date g_day_Date

abbrev pi_leap_Row_dated : PSh := ⟨[], [.mk true [vI, vI]]⟩
abbrev po_leap_Row_dated : PSh := ⟨[], [.mk false [vB]]⟩
def f_leap_Row_dated_m (T : Unit) (d : Unit × ((Int × (Int × Unit)) × Unit)) : Option (Unit × ((Bool × Unit) × Unit)) :=
  (g_day_Date ((), ((d.2.1.1, ()), ()))).bind fun x1 =>
  bif x1.2.2.2.2.1.1.isNone then (
  let x2 : Bool := (decide (x1.2.1.1 ≥ (1900 : Int)))
  some ((), ((x2, ()), ())))
  else (
  some ((), ((false, ()), ())))
def g_leap_Row_dated (d : Unit × ((Int × (Int × Unit)) × Unit)) : Option (Unit × ((Bool × Unit) × Unit)) := f_leap_Row_dated_m () d
theorem ok_leap_Row_dated : FnOk Tryz.prog ET0 51 pi_leap_Row_dated po_leap_Row_dated g_leap_Row_dated :=
 fn0 (E := (E0.add 81 s_day_Date)) (pi := pi_leap_Row_dated) (po := po_leap_Row_dated) (envOk_add e0_ok (typed_ok ok_day_Date)) (fn := Tryz.f51) Tryz.func51 (by kernel_rfl) (by kernel_rfl) [.tmp 2] (by kernel_rfl) rfl rfl rfl [] fun d => by kernel_rfl
def s_leap_Row_dated := typedSem pi_leap_Row_dated po_leap_Row_dated g_leap_Row_dated

abbrev pi_leap_New_1 : PSh := ⟨[], [.mk true [vI, vI]]⟩
abbrev po_leap_New_1 : PSh := ⟨[], [.mk false [vB]]⟩
def f_leap_New_1_m (T : Unit) (d : Unit × ((Int × (Int × Unit)) × Unit)) : Option (Unit × ((Bool × Unit) × Unit)) :=
  (g_leap_Row_dated ((), d.2)).bind fun x1 =>
  let x2 : Bool := (!x1.2.1.1)
  some ((), ((x2, ()), ()))
def g_leap_New_1 (d : Unit × ((Int × (Int × Unit)) × Unit)) : Option (Unit × ((Bool × Unit) × Unit)) := f_leap_New_1_m () d
theorem ok_leap_New_1 : FnOk Tryz.prog ET0 50 pi_leap_New_1 po_leap_New_1 g_leap_New_1 :=
 fn0 (E := (E0.add 51 s_leap_Row_dated)) (pi := pi_leap_New_1) (po := po_leap_New_1) (envOk_add e0_ok (typed_ok ok_leap_Row_dated)) (fn := Tryz.f50) Tryz.func50 (by kernel_rfl) (by kernel_rfl) [.tmp 2] (by kernel_rfl) rfl rfl rfl [] fun d => by kernel_rfl
def s_leap_New_1 := typedSem pi_leap_New_1 po_leap_New_1 g_leap_New_1

abbrev pi_leap_Row_may : PSh := ⟨[], [.mk true [vI, vI]]⟩
abbrev po_leap_Row_may : PSh := ⟨[], [.mk false [vB]]⟩
def f_leap_Row_may_m (T : Unit) (d : Unit × ((Int × (Int × Unit)) × Unit)) : Option (Unit × ((Bool × Unit) × Unit)) :=
  (g_day_Date ((), ((d.2.1.1, ()), ()))).bind fun x1 =>
  bif x1.2.2.2.2.1.1.isNone then (
  let x2 : Bool := (x1.2.2.2.1.1 == (1 : Int))
  bif x2 then (
  let x3 : Bool := (decide (d.2.1.2.1 ≥ (0 : Int)))
  bif x3 then (
  let x4 : Bool := (decide (d.2.1.2.1 ≤ (1000 : Int)))
  some ((), ((x4, ()), ())))
  else (
  some ((), ((false, ()), ()))))
  else (
  some ((), ((false, ()), ()))))
  else (
  some ((), ((false, ()), ())))
def g_leap_Row_may (d : Unit × ((Int × (Int × Unit)) × Unit)) : Option (Unit × ((Bool × Unit) × Unit)) := f_leap_Row_may_m () d
theorem ok_leap_Row_may : FnOk Tryz.prog ET0 53 pi_leap_Row_may po_leap_Row_may g_leap_Row_may :=
 fn0 (E := (E0.add 81 s_day_Date)) (pi := pi_leap_Row_may) (po := po_leap_Row_may) (envOk_add e0_ok (typed_ok ok_day_Date)) (fn := Tryz.f53) Tryz.func53 (by kernel_rfl) (by kernel_rfl) [.tmp 2] (by kernel_rfl) rfl rfl rfl [] fun d => by kernel_rfl
def s_leap_Row_may := typedSem pi_leap_Row_may po_leap_Row_may g_leap_Row_may

abbrev pi_leap_New_2 : PSh := ⟨[], [.mk true [vI, vI]]⟩
abbrev po_leap_New_2 : PSh := ⟨[], [.mk false [vB]]⟩
def f_leap_New_2_m (T : Unit) (d : Unit × ((Int × (Int × Unit)) × Unit)) : Option (Unit × ((Bool × Unit) × Unit)) :=
  (g_leap_Row_may ((), d.2)).bind fun x1 =>
  let x2 : Bool := (!x1.2.1.1)
  some ((), ((x2, ()), ()))
def g_leap_New_2 (d : Unit × ((Int × (Int × Unit)) × Unit)) : Option (Unit × ((Bool × Unit) × Unit)) := f_leap_New_2_m () d
theorem ok_leap_New_2 : FnOk Tryz.prog ET0 52 pi_leap_New_2 po_leap_New_2 g_leap_New_2 :=
 fn0 (E := (E0.add 53 s_leap_Row_may)) (pi := pi_leap_New_2) (po := po_leap_New_2) (envOk_add e0_ok (typed_ok ok_leap_Row_may)) (fn := Tryz.f52) Tryz.func52 (by kernel_rfl) (by kernel_rfl) [.tmp 2] (by kernel_rfl) rfl rfl rfl [] fun d => by kernel_rfl
def s_leap_New_2 := typedSem pi_leap_New_2 po_leap_New_2 g_leap_New_2

abbrev pi_leap_time : PSh := ⟨[], [.mk false [vI]]⟩
abbrev po_leap_time : PSh := ⟨[], [.mk false [vB]]⟩
def f_leap_time_m (T : Unit) (d : Unit × ((Int × Unit) × Unit)) : Option (Unit × ((Bool × Unit) × Unit)) :=
  let x1 : Bool := (decide (d.2.1.1 ≥ (0 : Int)))
  bif x1 then (
  let x2 : Bool := (decide (d.2.1.1 ≤ (1099511627776 : Int)))
  some ((), ((x2, ()), ())))
  else (
  some ((), ((false, ()), ())))
def g_leap_time (d : Unit × ((Int × Unit) × Unit)) : Option (Unit × ((Bool × Unit) × Unit)) := f_leap_time_m () d
theorem ok_leap_time : FnOk Tryz.prog ET0 55 pi_leap_time po_leap_time g_leap_time :=
 fn0 (E := E0) (pi := pi_leap_time) (po := po_leap_time) e0_ok (fn := Tryz.f55) Tryz.func55 (by kernel_rfl) (by kernel_rfl) [.tmp 2] (by kernel_rfl) rfl rfl rfl [] fun d => by kernel_rfl
def s_leap_time := typedSem pi_leap_time po_leap_time g_leap_time

abbrev pi_leap_Row_follows : PSh := ⟨[], [.mk true [vI, vI], .mk true [vI, vI]]⟩
abbrev po_leap_Row_follows : PSh := ⟨[], [.mk false [vB]]⟩
def f_leap_Row_follows_m (T : Unit) (d : Unit × ((Int × (Int × Unit)) × ((Int × (Int × Unit)) × Unit))) : Option (Unit × ((Bool × Unit) × Unit)) :=
  let x1 : Int := (isub .i64 d.2.1.2.1 d.2.2.1.2.1)
  let x2 : Bool := (decide (d.2.1.1 > d.2.2.1.1))
  bif x2 then (
  let x3 : Bool := (x1 == (1 : Int))
  bif x3 then (
  some ((), ((true, ()), ())))
  else (
  let x4 : Bool := (x1 == (-1 : Int))
  some ((), ((x4, ()), ()))))
  else (
  some ((), ((false, ()), ())))
def g_leap_Row_follows (d : Unit × ((Int × (Int × Unit)) × ((Int × (Int × Unit)) × Unit))) : Option (Unit × ((Bool × Unit) × Unit)) := f_leap_Row_follows_m () d
theorem ok_leap_Row_follows : FnOk Tryz.prog ET0 83 pi_leap_Row_follows po_leap_Row_follows g_leap_Row_follows :=
 fn0 (E := E0) (pi := pi_leap_Row_follows) (po := po_leap_Row_follows) e0_ok (fn := Tryz.f83) Tryz.func83 (by kernel_rfl) (by kernel_rfl) [.tmp 4] (by kernel_rfl) rfl rfl rfl [] fun d => by kernel_rfl
def s_leap_Row_follows := typedSem pi_leap_Row_follows po_leap_Row_follows g_leap_Row_follows

abbrev pi_leap_rise : PSh := ⟨[], [.mk false [.v (.sl (.pair (.int .i64) (.int .i64)))]]⟩
abbrev po_leap_rise : PSh := ⟨[], [.mk false [vB]]⟩
abbrev TT_leap_rise : Type := (((Unit × (((List (Int × Int)) × Unit) × ((Int × Unit) × Unit))) → Option (Unit × ((Bool × Unit) × Unit))) × Unit)
abbrev sh_leap_rise_3 : PSh := ⟨[], [.mk false [.v (.sl (.pair (.int .i64) (.int .i64)))], .any, .any, .mk false [vI]] ++ anyN 17⟩
def f_leap_rise_p3 (T : TT_leap_rise) (d : Unit × (((List (Int × Int)) × Unit) × ((Int × Unit) × Unit))) : Option (Unit × ((Bool × Unit) × Unit)) :=
  let x1 : Int := (d.2.1.1.length : Int)
  let x2 : Bool := (decide (d.2.2.1.1 < x1))
  bif x2 then (
  bif decide ((0 : Int) ≤ d.2.2.1.1) && decide (d.2.2.1.1 < (d.2.1.1.length : Int)) then (
  let x3 : Int := (isub .i64 d.2.2.1.1 (1 : Int))
  bif decide ((0 : Int) ≤ x3) && decide (x3 < (d.2.1.1.length : Int)) then (
  (g_leap_Row_follows ((), (((gd_i64_i64 d.2.1.1 d.2.2.1.1).1, ((gd_i64_i64 d.2.1.1 d.2.2.1.1).2, ())), (((gd_i64_i64 d.2.1.1 x3).1, ((gd_i64_i64 d.2.1.1 x3).2, ())), ())))).bind fun x4 =>
  let x5 : Bool := (!x4.2.1.1)
  bif x5 then (
  some ((), ((false, ()), ())))
  else (
  let x6 : Int := (iadd .i64 d.2.2.1.1 (1 : Int))
  (T.1 ((), (d.2.1, ((x6, ()), ()))))))
  else none)
  else none)
  else (
  some ((), ((true, ()), ())))
def f_leap_rise_t : Nat → TT_leap_rise
  | 0 => (fun _ => none, ())
  | k + 1 => (f_leap_rise_p3 (f_leap_rise_t k), ())
theorem t_leap_rise (k : Nat) : f_leap_rise_t (k + 1) = (f_leap_rise_p3 (f_leap_rise_t k), ()) := rfl
def f_leap_rise_m (T : TT_leap_rise) (d : Unit × (((List (Int × Int)) × Unit) × Unit)) : Option (Unit × ((Bool × Unit) × Unit)) :=
  (T.1 ((), (d.2.1, (((1 : Int), ()), ()))))
def g_leap_rise (d : Unit × (((List (Int × Int)) × Unit) × Unit)) : Option (Unit × ((Bool × Unit) × Unit)) := lim fun k => f_leap_rise_m (f_leap_rise_t k) d
theorem ok_leap_rise : FnOk Tryz.prog ET0 56 pi_leap_rise po_leap_rise g_leap_rise :=
 fnL (E := (E0.add 83 s_leap_Row_follows)) (pi := pi_leap_rise) (po := po_leap_rise) (envOk_add e0_ok (typed_ok ok_leap_Row_follows)) (fn := Tryz.f56) Tryz.func56 (by kernel_rfl) (by kernel_rfl) [.tmp 2] (by kernel_rfl) rfl rfl rfl [] (fun k => [(3, ⟨sh_leap_rise_3, (f_leap_rise_t k).1⟩)]) (fun _ => [])
 (.intro (fun _ => rfl) trivial) (fun k => (.intro (fun d => by kernel_rfl) trivial)) trivial (fun k => trivial) (fun k d => f_leap_rise_m (f_leap_rise_t k) d) (fun k d => by kernel_rfl)
def s_leap_rise := typedSem pi_leap_rise po_leap_rise g_leap_rise

abbrev pi_slices_IndexFunc_leap_Row_leap_Row_leap_New_1 : PSh := ⟨[], [.mk false [.v (.sl (.pair (.int .i64) (.int .i64)))], .mk false [.fn 50 []]]⟩
abbrev po_slices_IndexFunc_leap_Row_leap_Row_leap_New_1 : PSh := ⟨[], [.mk false [vI]]⟩
abbrev TT_slices_IndexFunc_leap_Row_leap_Row_leap_New_1 : Type := (((Unit × (((List (Int × Int)) × Unit) × (Unit × ((Int × Unit) × ((Int × Unit) × Unit))))) → Option (Unit × ((Int × Unit) × Unit))) × Unit)
abbrev sh_slices_IndexFunc_leap_Row_leap_Row_leap_New_1_3 : PSh := ⟨[], [.mk false [.v (.sl (.pair (.int .i64) (.int .i64)))], .mk false [.fn 50 []], .any, .any, .any, .any, .any, .mk false [vI], .mk false [vI]] ++ anyN 10⟩
def f_slices_IndexFunc_leap_Row_leap_Row_leap_New_1_p3 (T : TT_slices_IndexFunc_leap_Row_leap_Row_leap_New_1) (d : Unit × (((List (Int × Int)) × Unit) × (Unit × ((Int × Unit) × ((Int × Unit) × Unit))))) : Option (Unit × ((Int × Unit) × Unit)) :=
  let x2 : Bool := (decide (d.2.2.2.2.1.1 < d.2.2.2.1.1))
  bif x2 then (
  bif decide ((0 : Int) ≤ d.2.2.2.2.1.1) && decide (d.2.2.2.2.1.1 < (d.2.1.1.length : Int)) then (
  (g_leap_New_1 ((), (((gd_i64_i64 d.2.1.1 d.2.2.2.2.1.1).1, ((gd_i64_i64 d.2.1.1 d.2.2.2.2.1.1).2, ())), ()))).bind fun x3 =>
  bif x3.2.1.1 then (
  some ((), d.2.2.2.2))
  else (
  let x4 : Int := (iadd .i64 d.2.2.2.2.1.1 (1 : Int))
  (T.1 ((), (d.2.1, ((), (d.2.2.2.1, ((x4, ()), ()))))))))
  else none)
  else (
  some ((), (((-1 : Int), ()), ())))
def f_slices_IndexFunc_leap_Row_leap_Row_leap_New_1_t : Nat → TT_slices_IndexFunc_leap_Row_leap_Row_leap_New_1
  | 0 => (fun _ => none, ())
  | k + 1 => (f_slices_IndexFunc_leap_Row_leap_Row_leap_New_1_p3 (f_slices_IndexFunc_leap_Row_leap_Row_leap_New_1_t k), ())
theorem t_slices_IndexFunc_leap_Row_leap_Row_leap_New_1 (k : Nat) : f_slices_IndexFunc_leap_Row_leap_Row_leap_New_1_t (k + 1) = (f_slices_IndexFunc_leap_Row_leap_Row_leap_New_1_p3 (f_slices_IndexFunc_leap_Row_leap_Row_leap_New_1_t k), ()) := rfl
def f_slices_IndexFunc_leap_Row_leap_Row_leap_New_1_m (T : TT_slices_IndexFunc_leap_Row_leap_Row_leap_New_1) (d : Unit × (((List (Int × Int)) × Unit) × (Unit × Unit))) : Option (Unit × ((Int × Unit) × Unit)) :=
  let x1 : Int := (d.2.1.1.length : Int)
  (T.1 ((), (d.2.1, ((), ((x1, ()), (((0 : Int), ()), ()))))))
def g_slices_IndexFunc_leap_Row_leap_Row_leap_New_1 (d : Unit × (((List (Int × Int)) × Unit) × (Unit × Unit))) : Option (Unit × ((Int × Unit) × Unit)) := lim fun k => f_slices_IndexFunc_leap_Row_leap_Row_leap_New_1_m (f_slices_IndexFunc_leap_Row_leap_Row_leap_New_1_t k) d
theorem ok_slices_IndexFunc_leap_Row_leap_Row_leap_New_1 : FnOk Tryz.prog ET0 82 pi_slices_IndexFunc_leap_Row_leap_Row_leap_New_1 po_slices_IndexFunc_leap_Row_leap_Row_leap_New_1 g_slices_IndexFunc_leap_Row_leap_Row_leap_New_1 :=
 fnL (E := (E0.add 50 s_leap_New_1)) (pi := pi_slices_IndexFunc_leap_Row_leap_Row_leap_New_1) (po := po_slices_IndexFunc_leap_Row_leap_Row_leap_New_1) (envOk_add e0_ok (typed_ok ok_leap_New_1)) (fn := Tryz.f82) Tryz.func82 (by kernel_rfl) (by kernel_rfl) [.tmp 4] (by kernel_rfl) rfl rfl rfl [] (fun k => [(3, ⟨sh_slices_IndexFunc_leap_Row_leap_Row_leap_New_1_3, (f_slices_IndexFunc_leap_Row_leap_Row_leap_New_1_t k).1⟩)]) (fun _ => [])
 (.intro (fun _ => rfl) trivial) (fun k => (.intro (fun d => by kernel_rfl) trivial)) trivial (fun k => trivial) (fun k d => f_slices_IndexFunc_leap_Row_leap_Row_leap_New_1_m (f_slices_IndexFunc_leap_Row_leap_Row_leap_New_1_t k) d) (fun k d => by kernel_rfl)
def s_slices_IndexFunc_leap_Row_leap_Row_leap_New_1 := typedSem pi_slices_IndexFunc_leap_Row_leap_Row_leap_New_1 po_slices_IndexFunc_leap_Row_leap_Row_leap_New_1 g_slices_IndexFunc_leap_Row_leap_Row_leap_New_1

abbrev pi_slices_ContainsFunc_leap_Row_leap_Row_leap_New_1 : PSh := ⟨[], [.mk false [.v (.sl (.pair (.int .i64) (.int .i64)))], .mk false [.fn 50 []]]⟩
abbrev po_slices_ContainsFunc_leap_Row_leap_Row_leap_New_1 : PSh := ⟨[], [.mk false [vB]]⟩
def f_slices_ContainsFunc_leap_Row_leap_Row_leap_New_1_m (T : Unit) (d : Unit × (((List (Int × Int)) × Unit) × (Unit × Unit))) : Option (Unit × ((Bool × Unit) × Unit)) :=
  (g_slices_IndexFunc_leap_Row_leap_Row_leap_New_1 ((), (d.2.1, ((), ())))).bind fun x1 =>
  let x2 : Bool := (decide (x1.2.1.1 ≥ (0 : Int)))
  some ((), ((x2, ()), ()))
def g_slices_ContainsFunc_leap_Row_leap_Row_leap_New_1 (d : Unit × (((List (Int × Int)) × Unit) × (Unit × Unit))) : Option (Unit × ((Bool × Unit) × Unit)) := f_slices_ContainsFunc_leap_Row_leap_Row_leap_New_1_m () d
theorem ok_slices_ContainsFunc_leap_Row_leap_Row_leap_New_1 : FnOk Tryz.prog ET0 54 pi_slices_ContainsFunc_leap_Row_leap_Row_leap_New_1 po_slices_ContainsFunc_leap_Row_leap_Row_leap_New_1 g_slices_ContainsFunc_leap_Row_leap_Row_leap_New_1 :=
 fn0 (E := (E0.add 82 s_slices_IndexFunc_leap_Row_leap_Row_leap_New_1)) (pi := pi_slices_ContainsFunc_leap_Row_leap_Row_leap_New_1) (po := po_slices_ContainsFunc_leap_Row_leap_Row_leap_New_1) (envOk_add e0_ok (typed_ok ok_slices_IndexFunc_leap_Row_leap_Row_leap_New_1)) (fn := Tryz.f54) Tryz.func54 (by kernel_rfl) (by kernel_rfl) [.tmp 4] (by kernel_rfl) rfl rfl rfl [] fun d => by kernel_rfl
def s_slices_ContainsFunc_leap_Row_leap_Row_leap_New_1 := typedSem pi_slices_ContainsFunc_leap_Row_leap_Row_leap_New_1 po_slices_ContainsFunc_leap_Row_leap_Row_leap_New_1 g_slices_ContainsFunc_leap_Row_leap_Row_leap_New_1

abbrev pi_slices_IndexFunc_leap_Row_leap_Row_leap_New_2 : PSh := ⟨[], [.mk false [.v (.sl (.pair (.int .i64) (.int .i64)))], .mk false [.fn 52 []]]⟩
abbrev po_slices_IndexFunc_leap_Row_leap_Row_leap_New_2 : PSh := ⟨[], [.mk false [vI]]⟩
abbrev TT_slices_IndexFunc_leap_Row_leap_Row_leap_New_2 : Type := (((Unit × (((List (Int × Int)) × Unit) × (Unit × ((Int × Unit) × ((Int × Unit) × Unit))))) → Option (Unit × ((Int × Unit) × Unit))) × Unit)
abbrev sh_slices_IndexFunc_leap_Row_leap_Row_leap_New_2_3 : PSh := ⟨[], [.mk false [.v (.sl (.pair (.int .i64) (.int .i64)))], .mk false [.fn 52 []], .any, .any, .any, .any, .any, .mk false [vI], .mk false [vI]] ++ anyN 10⟩
def f_slices_IndexFunc_leap_Row_leap_Row_leap_New_2_p3 (T : TT_slices_IndexFunc_leap_Row_leap_Row_leap_New_2) (d : Unit × (((List (Int × Int)) × Unit) × (Unit × ((Int × Unit) × ((Int × Unit) × Unit))))) : Option (Unit × ((Int × Unit) × Unit)) :=
  let x2 : Bool := (decide (d.2.2.2.2.1.1 < d.2.2.2.1.1))
  bif x2 then (
  bif decide ((0 : Int) ≤ d.2.2.2.2.1.1) && decide (d.2.2.2.2.1.1 < (d.2.1.1.length : Int)) then (
  (g_leap_New_2 ((), (((gd_i64_i64 d.2.1.1 d.2.2.2.2.1.1).1, ((gd_i64_i64 d.2.1.1 d.2.2.2.2.1.1).2, ())), ()))).bind fun x3 =>
  bif x3.2.1.1 then (
  some ((), d.2.2.2.2))
  else (
  let x4 : Int := (iadd .i64 d.2.2.2.2.1.1 (1 : Int))
  (T.1 ((), (d.2.1, ((), (d.2.2.2.1, ((x4, ()), ()))))))))
  else none)
  else (
  some ((), (((-1 : Int), ()), ())))
def f_slices_IndexFunc_leap_Row_leap_Row_leap_New_2_t : Nat → TT_slices_IndexFunc_leap_Row_leap_Row_leap_New_2
  | 0 => (fun _ => none, ())
  | k + 1 => (f_slices_IndexFunc_leap_Row_leap_Row_leap_New_2_p3 (f_slices_IndexFunc_leap_Row_leap_Row_leap_New_2_t k), ())
theorem t_slices_IndexFunc_leap_Row_leap_Row_leap_New_2 (k : Nat) : f_slices_IndexFunc_leap_Row_leap_Row_leap_New_2_t (k + 1) = (f_slices_IndexFunc_leap_Row_leap_Row_leap_New_2_p3 (f_slices_IndexFunc_leap_Row_leap_Row_leap_New_2_t k), ()) := rfl
def f_slices_IndexFunc_leap_Row_leap_Row_leap_New_2_m (T : TT_slices_IndexFunc_leap_Row_leap_Row_leap_New_2) (d : Unit × (((List (Int × Int)) × Unit) × (Unit × Unit))) : Option (Unit × ((Int × Unit) × Unit)) :=
  let x1 : Int := (d.2.1.1.length : Int)
  (T.1 ((), (d.2.1, ((), ((x1, ()), (((0 : Int), ()), ()))))))
def g_slices_IndexFunc_leap_Row_leap_Row_leap_New_2 (d : Unit × (((List (Int × Int)) × Unit) × (Unit × Unit))) : Option (Unit × ((Int × Unit) × Unit)) := lim fun k => f_slices_IndexFunc_leap_Row_leap_Row_leap_New_2_m (f_slices_IndexFunc_leap_Row_leap_Row_leap_New_2_t k) d
theorem ok_slices_IndexFunc_leap_Row_leap_Row_leap_New_2 : FnOk Tryz.prog ET0 82 pi_slices_IndexFunc_leap_Row_leap_Row_leap_New_2 po_slices_IndexFunc_leap_Row_leap_Row_leap_New_2 g_slices_IndexFunc_leap_Row_leap_Row_leap_New_2 :=
 fnL (E := (E0.add 52 s_leap_New_2)) (pi := pi_slices_IndexFunc_leap_Row_leap_Row_leap_New_2) (po := po_slices_IndexFunc_leap_Row_leap_Row_leap_New_2) (envOk_add e0_ok (typed_ok ok_leap_New_2)) (fn := Tryz.f82) Tryz.func82 (by kernel_rfl) (by kernel_rfl) [.tmp 4] (by kernel_rfl) rfl rfl rfl [] (fun k => [(3, ⟨sh_slices_IndexFunc_leap_Row_leap_Row_leap_New_2_3, (f_slices_IndexFunc_leap_Row_leap_Row_leap_New_2_t k).1⟩)]) (fun _ => [])
 (.intro (fun _ => rfl) trivial) (fun k => (.intro (fun d => by kernel_rfl) trivial)) trivial (fun k => trivial) (fun k d => f_slices_IndexFunc_leap_Row_leap_Row_leap_New_2_m (f_slices_IndexFunc_leap_Row_leap_Row_leap_New_2_t k) d) (fun k d => by kernel_rfl)
def s_slices_IndexFunc_leap_Row_leap_Row_leap_New_2 := typedSem pi_slices_IndexFunc_leap_Row_leap_Row_leap_New_2 po_slices_IndexFunc_leap_Row_leap_Row_leap_New_2 g_slices_IndexFunc_leap_Row_leap_Row_leap_New_2

abbrev pi_slices_ContainsFunc_leap_Row_leap_Row_leap_New_2 : PSh := ⟨[], [.mk false [.v (.sl (.pair (.int .i64) (.int .i64)))], .mk false [.fn 52 []]]⟩
abbrev po_slices_ContainsFunc_leap_Row_leap_Row_leap_New_2 : PSh := ⟨[], [.mk false [vB]]⟩
def f_slices_ContainsFunc_leap_Row_leap_Row_leap_New_2_m (T : Unit) (d : Unit × (((List (Int × Int)) × Unit) × (Unit × Unit))) : Option (Unit × ((Bool × Unit) × Unit)) :=
  (g_slices_IndexFunc_leap_Row_leap_Row_leap_New_2 ((), (d.2.1, ((), ())))).bind fun x1 =>
  let x2 : Bool := (decide (x1.2.1.1 ≥ (0 : Int)))
  some ((), ((x2, ()), ()))
def g_slices_ContainsFunc_leap_Row_leap_Row_leap_New_2 (d : Unit × (((List (Int × Int)) × Unit) × (Unit × Unit))) : Option (Unit × ((Bool × Unit) × Unit)) := f_slices_ContainsFunc_leap_Row_leap_Row_leap_New_2_m () d
theorem ok_slices_ContainsFunc_leap_Row_leap_Row_leap_New_2 : FnOk Tryz.prog ET0 54 pi_slices_ContainsFunc_leap_Row_leap_Row_leap_New_2 po_slices_ContainsFunc_leap_Row_leap_Row_leap_New_2 g_slices_ContainsFunc_leap_Row_leap_Row_leap_New_2 :=
 fn0 (E := (E0.add 82 s_slices_IndexFunc_leap_Row_leap_Row_leap_New_2)) (pi := pi_slices_ContainsFunc_leap_Row_leap_Row_leap_New_2) (po := po_slices_ContainsFunc_leap_Row_leap_Row_leap_New_2) (envOk_add e0_ok (typed_ok ok_slices_IndexFunc_leap_Row_leap_Row_leap_New_2)) (fn := Tryz.f54) Tryz.func54 (by kernel_rfl) (by kernel_rfl) [.tmp 4] (by kernel_rfl) rfl rfl rfl [] fun d => by kernel_rfl
def s_slices_ContainsFunc_leap_Row_leap_Row_leap_New_2 := typedSem pi_slices_ContainsFunc_leap_Row_leap_Row_leap_New_2 po_slices_ContainsFunc_leap_Row_leap_Row_leap_New_2 g_slices_ContainsFunc_leap_Row_leap_Row_leap_New_2

abbrev pi_leap_New : PSh := ⟨[], [.mk false [.v (.sl (.pair (.int .i64) (.int .i64)))], .mk false [vI], .mk false [vI]]⟩
abbrev po_leap_New : PSh := ⟨[], [.mk false [.v (.nptr (.pair (.sl (.pair (.int .i64) (.int .i64))) (.pair (.int .i64) (.int .i64))))], .mk false [vE]]⟩
def f_leap_New_m (T : Unit) (d : Unit × (((List (Int × Int)) × Unit) × ((Int × Unit) × ((Int × Unit) × Unit)))) : Option (Unit × (((Option ((List (Int × Int)) × (Int × Int))) × Unit) × (((Option Int) × Unit) × Unit))) :=
  let x1 : Int := (d.2.1.1.length : Int)
  let x2 : Bool := (x1 == (0 : Int))
  bif x2 then (
  let x3 : (Option Int) := (some (8 : Int))
  some ((), (((none : Option ((List (Int × Int)) × (Int × Int))), ()), ((x3, ()), ()))))
  else (
  let x4 : Int := (d.2.1.1.length : Int)
  let x5 : Bool := (decide (x4 > (256 : Int)))
  bif x5 then (
  let x6 : (Option Int) := (some (3 : Int))
  some ((), (((none : Option ((List (Int × Int)) × (Int × Int))), ()), ((x6, ()), ()))))
  else (
  (g_slices_ContainsFunc_leap_Row_leap_Row_leap_New_1 ((), (d.2.1, ((), ())))).bind fun x7 =>
  bif x7.2.1.1 then (
  let x8 : (Option Int) := (some (13 : Int))
  some ((), (((none : Option ((List (Int × Int)) × (Int × Int))), ()), ((x8, ()), ()))))
  else (
  (g_slices_ContainsFunc_leap_Row_leap_Row_leap_New_2 ((), (d.2.1, ((), ())))).bind fun x9 =>
  bif x9.2.1.1 then (
  let x10 : (Option Int) := (some (1 : Int))
  some ((), (((none : Option ((List (Int × Int)) × (Int × Int))), ()), ((x10, ()), ()))))
  else (
  (g_leap_time ((), (d.2.2.1, ()))).bind fun x11 =>
  let x12 : Bool := (!x11.2.1.1)
  bif x12 then (
  let x13 : (Option Int) := (some (1 : Int))
  some ((), (((none : Option ((List (Int × Int)) × (Int × Int))), ()), ((x13, ()), ()))))
  else (
  (g_leap_time ((), d.2.2.2)).bind fun x14 =>
  let x15 : Bool := (!x14.2.1.1)
  bif x15 then (
  let x16 : (Option Int) := (some (1 : Int))
  some ((), (((none : Option ((List (Int × Int)) × (Int × Int))), ()), ((x16, ()), ()))))
  else (
  (g_leap_rise ((), (d.2.1, ()))).bind fun x17 =>
  let x18 : Bool := (!x17.2.1.1)
  bif x18 then (
  let x19 : (Option Int) := (some (6 : Int))
  some ((), (((none : Option ((List (Int × Int)) × (Int × Int))), ()), ((x19, ()), ()))))
  else (
  (g_slices_Clone_leap_Row_leap_Row ((), (d.2.1, ()))).bind fun x20 =>
  some ((), (((some (x20.1.1, (d.2.2.1.1, d.2.2.2.1.1))), ()), (((none : Option Int), ()), ()))))))))))
def g_leap_New (d : Unit × (((List (Int × Int)) × Unit) × ((Int × Unit) × ((Int × Unit) × Unit)))) : Option (Unit × (((Option ((List (Int × Int)) × (Int × Int))) × Unit) × (((Option Int) × Unit) × Unit))) := f_leap_New_m () d
theorem ok_leap_New : FnOk Tryz.prog ET0 26 pi_leap_New po_leap_New g_leap_New :=
 fn0 (E := ((((E0.add 54 (altSem pi_slices_ContainsFunc_leap_Row_leap_Row_leap_New_1 (s_slices_ContainsFunc_leap_Row_leap_Row_leap_New_1) (s_slices_ContainsFunc_leap_Row_leap_Row_leap_New_2))).add 55 s_leap_time).add 56 s_leap_rise).add 57 s_slices_Clone_leap_Row_leap_Row)) (pi := pi_leap_New) (po := po_leap_New) (envOk_add (envOk_add (envOk_add (envOk_add e0_ok (alt_ok ((typed_ok ok_slices_ContainsFunc_leap_Row_leap_Row_leap_New_1)) ((typed_ok ok_slices_ContainsFunc_leap_Row_leap_Row_leap_New_2)))) (typed_ok ok_leap_time)) (typed_ok ok_leap_rise)) (typed_ok ok_slices_Clone_leap_Row_leap_Row)) (fn := Tryz.f26) Tryz.func26 (by kernel_rfl) (by kernel_rfl) [.tmp 6, .tmp 7] (by kernel_rfl) rfl rfl rfl [] fun d => by kernel_rfl
def s_leap_New := typedSem pi_leap_New po_leap_New g_leap_New

abbrev pi_internal_stringslite_HasSuffix : PSh := ⟨[], [.mk false [vS], .mk false [vS]]⟩
abbrev po_internal_stringslite_HasSuffix : PSh := ⟨[], [.mk false [vB]]⟩
def f_internal_stringslite_HasSuffix_m (T : Unit) (d : Unit × ((ByteArray × Unit) × ((ByteArray × Unit) × Unit))) : Option (Unit × ((Bool × Unit) × Unit)) :=
  let x1 : Int := (d.2.1.1.size : Int)
  let x2 : Int := (d.2.2.1.1.size : Int)
  let x3 : Bool := (decide (x1 ≥ x2))
  bif x3 then (
  let x4 : Int := (d.2.1.1.size : Int)
  let x5 : Int := (d.2.2.1.1.size : Int)
  let x6 : Int := (isub .i64 x4 x5)
  bif decide ((0 : Int) ≤ x6) && decide (x6 ≤ (d.2.1.1.size : Int)) && decide ((d.2.1.1.size : Int) ≤ (d.2.1.1.size : Int)) then (
  let x7 : ByteArray := (d.2.1.1.extract (Int.toNat x6) (Int.toNat (d.2.1.1.size : Int)))
  let x8 : Bool := (x7.toList == d.2.2.1.1.toList)
  some ((), ((x8, ()), ())))
  else none)
  else (
  some ((), ((false, ()), ())))
def g_internal_stringslite_HasSuffix (d : Unit × ((ByteArray × Unit) × ((ByteArray × Unit) × Unit))) : Option (Unit × ((Bool × Unit) × Unit)) := f_internal_stringslite_HasSuffix_m () d
theorem ok_internal_stringslite_HasSuffix : FnOk Tryz.prog ET0 111 pi_internal_stringslite_HasSuffix po_internal_stringslite_HasSuffix g_internal_stringslite_HasSuffix :=
 fn0 (E := E0) (pi := pi_internal_stringslite_HasSuffix) (po := po_internal_stringslite_HasSuffix) e0_ok (fn := Tryz.f111) Tryz.func111 (by kernel_rfl) (by kernel_rfl) [.tmp 4] (by kernel_rfl) rfl rfl rfl [] fun d => by kernel_rfl
def s_internal_stringslite_HasSuffix := typedSem pi_internal_stringslite_HasSuffix po_internal_stringslite_HasSuffix g_internal_stringslite_HasSuffix

abbrev pi_internal_stringslite_TrimSuffix : PSh := ⟨[], [.mk false [vS], .mk false [vS]]⟩
abbrev po_internal_stringslite_TrimSuffix : PSh := ⟨[], [.mk false [vS]]⟩
def f_internal_stringslite_TrimSuffix_m (T : Unit) (d : Unit × ((ByteArray × Unit) × ((ByteArray × Unit) × Unit))) : Option (Unit × ((ByteArray × Unit) × Unit)) :=
  (g_internal_stringslite_HasSuffix ((), d.2)).bind fun x1 =>
  bif x1.2.1.1 then (
  let x2 : Int := (d.2.1.1.size : Int)
  let x3 : Int := (d.2.2.1.1.size : Int)
  let x4 : Int := (isub .i64 x2 x3)
  bif decide ((0 : Int) ≤ (0 : Int)) && decide ((0 : Int) ≤ x4) && decide (x4 ≤ (d.2.1.1.size : Int)) then (
  let x5 : ByteArray := (d.2.1.1.extract (Int.toNat (0 : Int)) (Int.toNat x4))
  some ((), ((x5, ()), ())))
  else none)
  else (
  some ((), (d.2.1, ())))
def g_internal_stringslite_TrimSuffix (d : Unit × ((ByteArray × Unit) × ((ByteArray × Unit) × Unit))) : Option (Unit × ((ByteArray × Unit) × Unit)) := f_internal_stringslite_TrimSuffix_m () d
theorem ok_internal_stringslite_TrimSuffix : FnOk Tryz.prog ET0 85 pi_internal_stringslite_TrimSuffix po_internal_stringslite_TrimSuffix g_internal_stringslite_TrimSuffix :=
 fn0 (E := (E0.add 111 s_internal_stringslite_HasSuffix)) (pi := pi_internal_stringslite_TrimSuffix) (po := po_internal_stringslite_TrimSuffix) (envOk_add e0_ok (typed_ok ok_internal_stringslite_HasSuffix)) (fn := Tryz.f85) Tryz.func85 (by kernel_rfl) (by kernel_rfl) [.tmp 4] (by kernel_rfl) rfl rfl rfl [] fun d => by kernel_rfl
def s_internal_stringslite_TrimSuffix := typedSem pi_internal_stringslite_TrimSuffix po_internal_stringslite_TrimSuffix g_internal_stringslite_TrimSuffix

abbrev pi_strings_TrimSuffix : PSh := ⟨[], [.mk false [vS], .mk false [vS]]⟩
abbrev po_strings_TrimSuffix : PSh := ⟨[], [.mk false [vS]]⟩
def f_strings_TrimSuffix_m (T : Unit) (d : Unit × ((ByteArray × Unit) × ((ByteArray × Unit) × Unit))) : Option (Unit × ((ByteArray × Unit) × Unit)) :=
  (g_internal_stringslite_TrimSuffix ((), d.2)).bind fun x1 =>
  some ((), x1.2)
def g_strings_TrimSuffix (d : Unit × ((ByteArray × Unit) × ((ByteArray × Unit) × Unit))) : Option (Unit × ((ByteArray × Unit) × Unit)) := f_strings_TrimSuffix_m () d
theorem ok_strings_TrimSuffix : FnOk Tryz.prog ET0 60 pi_strings_TrimSuffix po_strings_TrimSuffix g_strings_TrimSuffix :=
 fn0 (E := (E0.add 85 s_internal_stringslite_TrimSuffix)) (pi := pi_strings_TrimSuffix) (po := po_strings_TrimSuffix) (envOk_add e0_ok (typed_ok ok_internal_stringslite_TrimSuffix)) (fn := Tryz.f60) Tryz.func60 (by kernel_rfl) (by kernel_rfl) [.tmp 4] (by kernel_rfl) rfl rfl rfl [] fun d => by kernel_rfl
def s_strings_TrimSuffix := typedSem pi_strings_TrimSuffix po_strings_TrimSuffix g_strings_TrimSuffix

abbrev pi_internal_stringslite_HasPrefix : PSh := ⟨[], [.mk false [vS], .mk false [vS]]⟩
abbrev po_internal_stringslite_HasPrefix : PSh := ⟨[], [.mk false [vB]]⟩
def f_internal_stringslite_HasPrefix_m (T : Unit) (d : Unit × ((ByteArray × Unit) × ((ByteArray × Unit) × Unit))) : Option (Unit × ((Bool × Unit) × Unit)) :=
  let x1 : Int := (d.2.1.1.size : Int)
  let x2 : Int := (d.2.2.1.1.size : Int)
  let x3 : Bool := (decide (x1 ≥ x2))
  bif x3 then (
  let x4 : Int := (d.2.2.1.1.size : Int)
  bif decide ((0 : Int) ≤ (0 : Int)) && decide ((0 : Int) ≤ x4) && decide (x4 ≤ (d.2.1.1.size : Int)) then (
  let x5 : ByteArray := (d.2.1.1.extract (Int.toNat (0 : Int)) (Int.toNat x4))
  let x6 : Bool := (x5.toList == d.2.2.1.1.toList)
  some ((), ((x6, ()), ())))
  else none)
  else (
  some ((), ((false, ()), ())))
def g_internal_stringslite_HasPrefix (d : Unit × ((ByteArray × Unit) × ((ByteArray × Unit) × Unit))) : Option (Unit × ((Bool × Unit) × Unit)) := f_internal_stringslite_HasPrefix_m () d
theorem ok_internal_stringslite_HasPrefix : FnOk Tryz.prog ET0 119 pi_internal_stringslite_HasPrefix po_internal_stringslite_HasPrefix g_internal_stringslite_HasPrefix :=
 fn0 (E := E0) (pi := pi_internal_stringslite_HasPrefix) (po := po_internal_stringslite_HasPrefix) e0_ok (fn := Tryz.f119) Tryz.func119 (by kernel_rfl) (by kernel_rfl) [.tmp 4] (by kernel_rfl) rfl rfl rfl [] fun d => by kernel_rfl
def s_internal_stringslite_HasPrefix := typedSem pi_internal_stringslite_HasPrefix po_internal_stringslite_HasPrefix g_internal_stringslite_HasPrefix

abbrev pi_strings_HasPrefix : PSh := ⟨[], [.mk false [vS], .mk false [vS]]⟩
abbrev po_strings_HasPrefix : PSh := ⟨[], [.mk false [vB]]⟩
def f_strings_HasPrefix_m (T : Unit) (d : Unit × ((ByteArray × Unit) × ((ByteArray × Unit) × Unit))) : Option (Unit × ((Bool × Unit) × Unit)) :=
  (g_internal_stringslite_HasPrefix ((), d.2)).bind fun x1 =>
  some ((), x1.2)
def g_strings_HasPrefix (d : Unit × ((ByteArray × Unit) × ((ByteArray × Unit) × Unit))) : Option (Unit × ((Bool × Unit) × Unit)) := f_strings_HasPrefix_m () d
theorem ok_strings_HasPrefix : FnOk Tryz.prog ET0 87 pi_strings_HasPrefix po_strings_HasPrefix g_strings_HasPrefix :=
 fn0 (E := (E0.add 119 s_internal_stringslite_HasPrefix)) (pi := pi_strings_HasPrefix) (po := po_strings_HasPrefix) (envOk_add e0_ok (typed_ok ok_internal_stringslite_HasPrefix)) (fn := Tryz.f87) Tryz.func87 (by kernel_rfl) (by kernel_rfl) [.tmp 4] (by kernel_rfl) rfl rfl rfl [] fun d => by kernel_rfl
def s_strings_HasPrefix := typedSem pi_strings_HasPrefix po_strings_HasPrefix g_strings_HasPrefix

abbrev pi_scan_New_string : PSh := ⟨[], [.mk false [vS]]⟩
abbrev po_scan_New_string : PSh := ⟨[.var 194 [vS, vI, vE]], [.mk false [.ref 0 0]]⟩
def f_scan_New_string_m (T : Unit) (d : Unit × ((ByteArray × Unit) × Unit)) : Option (((ByteArray × (Int × ((Option Int) × Unit))) × Unit) × (Unit × Unit)) :=
  some (((d.2.1.1, ((0 : Int), ((none : Option Int), ()))), ()), ((), ()))
def g_scan_New_string (d : Unit × ((ByteArray × Unit) × Unit)) : Option (((ByteArray × (Int × ((Option Int) × Unit))) × Unit) × (Unit × Unit)) := f_scan_New_string_m () d
theorem ok_scan_New_string : FnOk Tryz.prog ET0 120 pi_scan_New_string po_scan_New_string g_scan_New_string :=
 fn0 (E := E0) (pi := pi_scan_New_string) (po := po_scan_New_string) e0_ok (fn := Tryz.f120) Tryz.func120 (by kernel_rfl) (by kernel_rfl) [.tmp 2] (by kernel_rfl) rfl rfl rfl [] fun d => by kernel_rfl
def s_scan_New_string := typedSem pi_scan_New_string po_scan_New_string g_scan_New_string

abbrev pi_scan_Scanner_string_rest : PSh := ⟨[], [.mk false [.v (.nptr (.pair .str (.pair (.int .i64) .err)))]]⟩
abbrev po_scan_Scanner_string_rest : PSh := ⟨[], [.mk false [vS]]⟩
def f_scan_Scanner_string_rest_m (T : Unit) (d : Unit × (((Option (ByteArray × (Int × (Option Int)))) × Unit) × Unit)) : Option (Unit × ((ByteArray × Unit) × Unit)) :=
  bif d.2.1.1.isNone then (
  some ((), (((⟨#[]⟩ : ByteArray), ()), ())))
  else (
  d.2.1.1.bind fun x1 =>
  let x2 : Bool := (!x1.2.2.isNone)
  bif x2 then (
  some ((), (((⟨#[]⟩ : ByteArray), ()), ())))
  else (
  d.2.1.1.bind fun x3 =>
  d.2.1.1.bind fun x4 =>
  bif decide ((0 : Int) ≤ x4.2.1) && decide (x4.2.1 ≤ (x3.1.size : Int)) && decide ((x3.1.size : Int) ≤ (x3.1.size : Int)) then (
  let x5 : ByteArray := (x3.1.extract (Int.toNat x4.2.1) (Int.toNat (x3.1.size : Int)))
  some ((), ((x5, ()), ())))
  else none))
def g_scan_Scanner_string_rest (d : Unit × (((Option (ByteArray × (Int × (Option Int)))) × Unit) × Unit)) : Option (Unit × ((ByteArray × Unit) × Unit)) := f_scan_Scanner_string_rest_m () d
theorem ok_scan_Scanner_string_rest : FnOk Tryz.prog ET0 146 pi_scan_Scanner_string_rest po_scan_Scanner_string_rest g_scan_Scanner_string_rest :=
 fn0 (E := E0) (pi := pi_scan_Scanner_string_rest) (po := po_scan_Scanner_string_rest) e0_ok (fn := Tryz.f146) Tryz.func146 (by kernel_rfl) (by kernel_rfl) [.tmp 2] (by kernel_rfl) rfl rfl rfl [] fun d => by kernel_rfl
def s_scan_Scanner_string_rest := typedSem pi_scan_Scanner_string_rest po_scan_Scanner_string_rest g_scan_Scanner_string_rest

abbrev pi_strings_Clone : PSh := ⟨[], [.mk false [vS]]⟩
abbrev po_strings_Clone : PSh := ⟨[], [.mk false [vS]]⟩
def f_strings_Clone_m (T : Unit) (d : Unit × ((ByteArray × Unit) × Unit)) : Option (Unit × ((ByteArray × Unit) × Unit)) :=
  (g_internal_stringslite_Clone ((), d.2)).bind fun x1 =>
  some ((), x1.2)
def g_strings_Clone (d : Unit × ((ByteArray × Unit) × Unit)) : Option (Unit × ((ByteArray × Unit) × Unit)) := f_strings_Clone_m () d
theorem ok_strings_Clone : FnOk Tryz.prog ET0 164 pi_strings_Clone po_strings_Clone g_strings_Clone :=
 fn0 (E := (E0.add 181 s_internal_stringslite_Clone)) (pi := pi_strings_Clone) (po := po_strings_Clone) (envOk_add e0_ok (typed_ok ok_internal_stringslite_Clone)) (fn := Tryz.f164) Tryz.func164 (by kernel_rfl) (by kernel_rfl) [.tmp 2] (by kernel_rfl) rfl rfl rfl [] fun d => by kernel_rfl
def s_strings_Clone := typedSem pi_strings_Clone po_strings_Clone g_strings_Clone

abbrev pi_scan_Scanner_string_going : PSh := ⟨[], [.mk false [.v (.nptr (.pair .str (.pair (.int .i64) .err)))]]⟩
abbrev po_scan_Scanner_string_going : PSh := ⟨[], [.mk false [vB]]⟩
def f_scan_Scanner_string_going_m (T : Unit) (d : Unit × (((Option (ByteArray × (Int × (Option Int)))) × Unit) × Unit)) : Option (Unit × ((Bool × Unit) × Unit)) :=
  let x1 : Bool := (!d.2.1.1.isNone)
  bif x1 then (
  d.2.1.1.bind fun x2 =>
  some ((), ((x2.2.2.isNone, ()), ())))
  else (
  some ((), ((false, ()), ())))
def g_scan_Scanner_string_going (d : Unit × (((Option (ByteArray × (Int × (Option Int)))) × Unit) × Unit)) : Option (Unit × ((Bool × Unit) × Unit)) := f_scan_Scanner_string_going_m () d
theorem ok_scan_Scanner_string_going : FnOk Tryz.prog ET0 144 pi_scan_Scanner_string_going po_scan_Scanner_string_going g_scan_Scanner_string_going :=
 fn0 (E := E0) (pi := pi_scan_Scanner_string_going) (po := po_scan_Scanner_string_going) e0_ok (fn := Tryz.f144) Tryz.func144 (by kernel_rfl) (by kernel_rfl) [.tmp 2] (by kernel_rfl) rfl rfl rfl [] fun d => by kernel_rfl
def s_scan_Scanner_string_going := typedSem pi_scan_Scanner_string_going po_scan_Scanner_string_going g_scan_Scanner_string_going

abbrev pi_figures_Is : PSh := ⟨[], [.mk false [v8]]⟩
abbrev po_figures_Is : PSh := ⟨[], [.mk false [vB]]⟩
def f_figures_Is_m (T : Unit) (d : Unit × ((Int × Unit) × Unit)) : Option (Unit × ((Bool × Unit) × Unit)) :=
  let x1 : Bool := (decide (d.2.1.1 ≥ (48 : Int)))
  bif x1 then (
  let x2 : Bool := (decide (d.2.1.1 ≤ (57 : Int)))
  some ((), ((x2, ()), ())))
  else (
  some ((), ((false, ()), ())))
def g_figures_Is (d : Unit × ((Int × Unit) × Unit)) : Option (Unit × ((Bool × Unit) × Unit)) := f_figures_Is_m () d
theorem ok_figures_Is : FnOk Tryz.prog ET0 192 pi_figures_Is po_figures_Is g_figures_Is :=
 fn0 (E := E0) (pi := pi_figures_Is) (po := po_figures_Is) e0_ok (fn := Tryz.f192) Tryz.func192 (by kernel_rfl) (by kernel_rfl) [.tmp 2] (by kernel_rfl) rfl rfl rfl [] fun d => by kernel_rfl
def s_figures_Is := typedSem pi_figures_Is po_figures_Is g_figures_Is

abbrev pi_figures_run : PSh := ⟨[], [.mk false [vS], .mk false [vI]]⟩
abbrev po_figures_run : PSh := ⟨[], [.mk false [vI]]⟩
abbrev TT_figures_run : Type := (((Unit × ((ByteArray × Unit) × ((Int × Unit) × ((Int × Unit) × Unit)))) → Option (Unit × ((Int × Unit) × Unit))) × Unit)
abbrev sh_figures_run_3 : PSh := ⟨[], [.mk false [vS], .mk false [vI], .any, .any, .any, .mk false [vI]] ++ anyN 15⟩
def f_figures_run_p3 (T : TT_figures_run) (d : Unit × ((ByteArray × Unit) × ((Int × Unit) × ((Int × Unit) × Unit)))) : Option (Unit × ((Int × Unit) × Unit)) :=
  let x1 : Int := (d.2.1.1.size : Int)
  let x2 : Int := (if d.2.2.1.1 < x1 then d.2.2.1.1 else x1)
  let x3 : Bool := (decide (d.2.2.2.1.1 < x2))
  bif x3 then (
  bif decide ((0 : Int) ≤ d.2.2.2.1.1) && decide (d.2.2.2.1.1 < ((d.2.1.1.size : Int) : Int)) then (
  let x4 : Int := (bt d.2.1.1 d.2.2.2.1.1)
  (g_figures_Is ((), ((x4, ()), ()))).bind fun x5 =>
  bif x5.2.1.1 then (
  let x6 : Int := (iadd .i64 d.2.2.2.1.1 (1 : Int))
  (T.1 ((), (d.2.1, (d.2.2.1, ((x6, ()), ()))))))
  else (
  some ((), d.2.2.2)))
  else none)
  else (
  some ((), d.2.2.2))
def f_figures_run_t : Nat → TT_figures_run
  | 0 => (fun _ => none, ())
  | k + 1 => (f_figures_run_p3 (f_figures_run_t k), ())
theorem t_figures_run (k : Nat) : f_figures_run_t (k + 1) = (f_figures_run_p3 (f_figures_run_t k), ()) := rfl
def f_figures_run_m (T : TT_figures_run) (d : Unit × ((ByteArray × Unit) × ((Int × Unit) × Unit))) : Option (Unit × ((Int × Unit) × Unit)) :=
  (T.1 ((), (d.2.1, (d.2.2.1, (((0 : Int), ()), ())))))
def g_figures_run (d : Unit × ((ByteArray × Unit) × ((Int × Unit) × Unit))) : Option (Unit × ((Int × Unit) × Unit)) := lim fun k => f_figures_run_m (f_figures_run_t k) d
theorem ok_figures_run : FnOk Tryz.prog ET0 179 pi_figures_run po_figures_run g_figures_run :=
 fnL (E := (E0.add 192 s_figures_Is)) (pi := pi_figures_run) (po := po_figures_run) (envOk_add e0_ok (typed_ok ok_figures_Is)) (fn := Tryz.f179) Tryz.func179 (by kernel_rfl) (by kernel_rfl) [.tmp 4] (by kernel_rfl) rfl rfl rfl [] (fun k => [(3, ⟨sh_figures_run_3, (f_figures_run_t k).1⟩)]) (fun _ => [])
 (.intro (fun _ => rfl) trivial) (fun k => (.intro (fun d => by kernel_rfl) trivial)) trivial (fun k => trivial) (fun k d => f_figures_run_m (f_figures_run_t k) d) (fun k d => by kernel_rfl)
def s_figures_run := typedSem pi_figures_run po_figures_run g_figures_run

abbrev pi_figures_value : PSh := ⟨[], [.mk false [vS], .mk false [.v (.int .u64)]]⟩
abbrev po_figures_value : PSh := ⟨[], [.mk false [.v (.int .u64)], .mk false [vE]]⟩
abbrev TT_figures_value : Type := (((Unit × ((ByteArray × Unit) × ((Int × Unit) × ((Int × Unit) × ((Int × Unit) × ((Int × Unit) × Unit)))))) → Option (Unit × ((Int × Unit) × (((Option Int) × Unit) × Unit)))) × Unit)
abbrev sh_figures_value_4 : PSh := ⟨[], [.mk false [vS], .mk false [.v (.int .u64)], .any, .any, .any, .any, .mk false [.v (.int .u64)], .any, .any, .any, .mk false [vI], .mk false [vI]] ++ anyN 20⟩
def f_figures_value_p4 (T : TT_figures_value) (d : Unit × ((ByteArray × Unit) × ((Int × Unit) × ((Int × Unit) × ((Int × Unit) × ((Int × Unit) × Unit)))))) : Option (Unit × ((Int × Unit) × (((Option Int) × Unit) × Unit))) :=
  let x2 : Bool := (decide (d.2.2.2.2.2.1.1 < d.2.2.2.2.1.1))
  bif x2 then (
  bif decide ((0 : Int) ≤ d.2.2.2.2.2.1.1) && decide (d.2.2.2.2.2.1.1 < ((d.2.1.1.size : Int) : Int)) then (
  let x3 : Int := (bt d.2.1.1 d.2.2.2.2.2.1.1)
  let x4 : Int := (isub .u8 x3 (48 : Int))
  let x5 : Int := (iconv .u64 x4)
  let x6 : Int := (isub .u64 d.2.2.1.1 x5)
  let x7 : Int := (iquo .u64 x6 (10 : Int))
  let x8 : Bool := (decide (d.2.2.2.1.1 > x7))
  bif x8 then (
  let x9 : (Option Int) := (some (5 : Int))
  some ((), (((0 : Int), ()), ((x9, ()), ()))))
  else (
  let x10 : Int := (imul .u64 d.2.2.2.1.1 (10 : Int))
  let x11 : Int := (iadd .u64 x10 x5)
  let x12 : Int := (iadd .i64 d.2.2.2.2.2.1.1 (1 : Int))
  (T.1 ((), (d.2.1, (d.2.2.1, ((x11, ()), (d.2.2.2.2.1, ((x12, ()), ())))))))))
  else none)
  else (
  some ((), (d.2.2.2.1, (((none : Option Int), ()), ()))))
def f_figures_value_t : Nat → TT_figures_value
  | 0 => (fun _ => none, ())
  | k + 1 => (f_figures_value_p4 (f_figures_value_t k), ())
theorem t_figures_value (k : Nat) : f_figures_value_t (k + 1) = (f_figures_value_p4 (f_figures_value_t k), ()) := rfl
def f_figures_value_m (T : TT_figures_value) (d : Unit × ((ByteArray × Unit) × ((Int × Unit) × Unit))) : Option (Unit × ((Int × Unit) × (((Option Int) × Unit) × Unit))) :=
  let x1 : Int := (d.2.1.1.size : Int)
  (T.1 ((), (d.2.1, (d.2.2.1, (((0 : Int), ()), ((x1, ()), (((0 : Int), ()), ())))))))
def g_figures_value (d : Unit × ((ByteArray × Unit) × ((Int × Unit) × Unit))) : Option (Unit × ((Int × Unit) × (((Option Int) × Unit) × Unit))) := lim fun k => f_figures_value_m (f_figures_value_t k) d
theorem ok_figures_value : FnOk Tryz.prog ET0 180 pi_figures_value po_figures_value g_figures_value :=
 fnL (E := E0) (pi := pi_figures_value) (po := po_figures_value) e0_ok (fn := Tryz.f180) Tryz.func180 (by kernel_rfl) (by kernel_rfl) [.tmp 4, .tmp 5] (by kernel_rfl) rfl rfl rfl [] (fun k => [(4, ⟨sh_figures_value_4, (f_figures_value_t k).1⟩)]) (fun _ => [])
 (.intro (fun _ => rfl) trivial) (fun k => (.intro (fun d => by kernel_rfl) trivial)) trivial (fun k => trivial) (fun k d => f_figures_value_m (f_figures_value_t k) d) (fun k d => by kernel_rfl)
def s_figures_value := typedSem pi_figures_value po_figures_value g_figures_value

abbrev pi_figures_take : PSh := ⟨[], [.mk false [vS], .mk false [vI], .mk false [vI], .mk false [.v (.int .u64)]]⟩
abbrev po_figures_take : PSh := ⟨[], [.mk false [.v (.int .u64)], .mk false [vI], .mk false [vE]]⟩
def f_figures_take_m (T : Unit) (d : Unit × ((ByteArray × Unit) × ((Int × Unit) × ((Int × Unit) × ((Int × Unit) × Unit))))) : Option (Unit × ((Int × Unit) × ((Int × Unit) × (((Option Int) × Unit) × Unit)))) :=
  let x1 : Bool := (decide (d.2.2.1.1 < (1 : Int)))
  bif x1 then (
  let x2 : (Option Int) := (some (1 : Int))
  some ((), (((0 : Int), ()), (((0 : Int), ()), ((x2, ()), ())))))
  else (
  let x3 : Bool := (decide (d.2.2.1.1 > d.2.2.2.1.1))
  bif x3 then (
  let x4 : (Option Int) := (some (1 : Int))
  some ((), (((0 : Int), ()), (((0 : Int), ()), ((x4, ()), ())))))
  else (
  let x5 : Bool := (decide (d.2.2.2.1.1 > (20 : Int)))
  bif x5 then (
  let x6 : (Option Int) := (some (1 : Int))
  some ((), (((0 : Int), ()), (((0 : Int), ()), ((x6, ()), ())))))
  else (
  (g_figures_run ((), (d.2.1, (d.2.2.2.1, ())))).bind fun x7 =>
  let x8 : Bool := (decide (x7.2.1.1 < d.2.2.1.1))
  bif x8 then (
  let x9 : (Option Int) := (some (2 : Int))
  some ((), (((0 : Int), ()), (((0 : Int), ()), ((x9, ()), ())))))
  else (
  bif decide ((0 : Int) ≤ (0 : Int)) && decide ((0 : Int) ≤ x7.2.1.1) && decide (x7.2.1.1 ≤ (d.2.1.1.size : Int)) then (
  let x10 : ByteArray := (d.2.1.1.extract (Int.toNat (0 : Int)) (Int.toNat x7.2.1.1))
  (g_figures_value ((), ((x10, ()), d.2.2.2.2))).bind fun x11 =>
  let x12 : Bool := (!x11.2.2.1.1.isNone)
  bif x12 then (
  some ((), (((0 : Int), ()), (((0 : Int), ()), x11.2.2))))
  else (
  some ((), (x11.2.1, (x7.2.1, (((none : Option Int), ()), ()))))))
  else none))))
def g_figures_take (d : Unit × ((ByteArray × Unit) × ((Int × Unit) × ((Int × Unit) × ((Int × Unit) × Unit))))) : Option (Unit × ((Int × Unit) × ((Int × Unit) × (((Option Int) × Unit) × Unit)))) := f_figures_take_m () d
theorem ok_figures_take : FnOk Tryz.prog ET0 163 pi_figures_take po_figures_take g_figures_take :=
 fn0 (E := ((E0.add 179 s_figures_run).add 180 s_figures_value)) (pi := pi_figures_take) (po := po_figures_take) (envOk_add (envOk_add e0_ok (typed_ok ok_figures_run)) (typed_ok ok_figures_value)) (fn := Tryz.f163) Tryz.func163 (by kernel_rfl) (by kernel_rfl) [.tmp 8, .tmp 9, .tmp 10] (by kernel_rfl) rfl rfl rfl [] fun d => by kernel_rfl
def s_figures_take := typedSem pi_figures_take po_figures_take g_figures_take

abbrev pi_figures_Take : PSh := ⟨[], [.mk false [vS], .mk false [vI], .mk false [vI]]⟩
abbrev po_figures_Take : PSh := ⟨[], [.mk false [vI], .mk false [vI], .mk false [vE]]⟩
def f_figures_Take_m (T : Unit) (d : Unit × ((ByteArray × Unit) × ((Int × Unit) × ((Int × Unit) × Unit)))) : Option (Unit × ((Int × Unit) × ((Int × Unit) × (((Option Int) × Unit) × Unit)))) :=
  (g_figures_take ((), (d.2.1, (d.2.2.1, (d.2.2.2.1, (((9223372036854775807 : Int), ()), ())))))).bind fun x1 =>
  let x2 : Int := (iconv .i64 x1.2.1.1)
  some ((), ((x2, ()), x1.2.2))
def g_figures_Take (d : Unit × ((ByteArray × Unit) × ((Int × Unit) × ((Int × Unit) × Unit)))) : Option (Unit × ((Int × Unit) × ((Int × Unit) × (((Option Int) × Unit) × Unit)))) := f_figures_Take_m () d
theorem ok_figures_Take : FnOk Tryz.prog ET0 145 pi_figures_Take po_figures_Take g_figures_Take :=
 fn0 (E := (E0.add 163 s_figures_take)) (pi := pi_figures_Take) (po := po_figures_Take) (envOk_add e0_ok (typed_ok ok_figures_take)) (fn := Tryz.f145) Tryz.func145 (by kernel_rfl) (by kernel_rfl) [.tmp 6, .tmp 7, .tmp 8] (by kernel_rfl) rfl rfl rfl [] fun d => by kernel_rfl
def s_figures_Take := typedSem pi_figures_Take po_figures_Take g_figures_Take

abbrev pi_scan_Scanner_string_Left : PSh := ⟨[], [.mk false [.v (.nptr (.pair .str (.pair (.int .i64) .err)))]]⟩
abbrev po_scan_Scanner_string_Left : PSh := ⟨[], [.mk false [vI]]⟩
def f_scan_Scanner_string_Left_m (T : Unit) (d : Unit × (((Option (ByteArray × (Int × (Option Int)))) × Unit) × Unit)) : Option (Unit × ((Int × Unit) × Unit)) :=
  (g_scan_Scanner_string_rest ((), d.2)).bind fun x1 =>
  let x2 : Int := (x1.2.1.1.size : Int)
  some ((), ((x2, ()), ()))
def g_scan_Scanner_string_Left (d : Unit × (((Option (ByteArray × (Int × (Option Int)))) × Unit) × Unit)) : Option (Unit × ((Int × Unit) × Unit)) := f_scan_Scanner_string_Left_m () d
theorem ok_scan_Scanner_string_Left : FnOk Tryz.prog ET0 130 pi_scan_Scanner_string_Left po_scan_Scanner_string_Left g_scan_Scanner_string_Left :=
 fn0 (E := (E0.add 146 s_scan_Scanner_string_rest)) (pi := pi_scan_Scanner_string_Left) (po := po_scan_Scanner_string_Left) (envOk_add e0_ok (typed_ok ok_scan_Scanner_string_rest)) (fn := Tryz.f130) Tryz.func130 (by kernel_rfl) (by kernel_rfl) [.tmp 2] (by kernel_rfl) rfl rfl rfl [] fun d => by kernel_rfl
def s_scan_Scanner_string_Left := typedSem pi_scan_Scanner_string_Left po_scan_Scanner_string_Left g_scan_Scanner_string_Left

abbrev pi_scan_Scanner_string_Err : PSh := ⟨[], [.mk false [.v (.nptr (.pair .str (.pair (.int .i64) .err)))]]⟩
abbrev po_scan_Scanner_string_Err : PSh := ⟨[], [.mk false [vE]]⟩
def f_scan_Scanner_string_Err_m (T : Unit) (d : Unit × (((Option (ByteArray × (Int × (Option Int)))) × Unit) × Unit)) : Option (Unit × (((Option Int) × Unit) × Unit)) :=
  bif d.2.1.1.isNone then (
  let x1 : (Option Int) := (some (8 : Int))
  some ((), ((x1, ()), ())))
  else (
  d.2.1.1.bind fun x2 =>
  some ((), ((x2.2.2, ()), ())))
def g_scan_Scanner_string_Err (d : Unit × (((Option (ByteArray × (Int × (Option Int)))) × Unit) × Unit)) : Option (Unit × (((Option Int) × Unit) × Unit)) := f_scan_Scanner_string_Err_m () d
theorem ok_scan_Scanner_string_Err : FnOk Tryz.prog ET0 151 pi_scan_Scanner_string_Err po_scan_Scanner_string_Err g_scan_Scanner_string_Err :=
 fn0 (E := E0) (pi := pi_scan_Scanner_string_Err) (po := po_scan_Scanner_string_Err) e0_ok (fn := Tryz.f151) Tryz.func151 (by kernel_rfl) (by kernel_rfl) [.tmp 2] (by kernel_rfl) rfl rfl rfl [] fun d => by kernel_rfl
def s_scan_Scanner_string_Err := typedSem pi_scan_Scanner_string_Err po_scan_Scanner_string_Err g_scan_Scanner_string_Err

abbrev pi_scan_Scanner_string_End : PSh := ⟨[], [.mk false [.v (.nptr (.pair .str (.pair (.int .i64) .err)))]]⟩
abbrev po_scan_Scanner_string_End : PSh := ⟨[], [.mk false [vE]]⟩
def f_scan_Scanner_string_End_m (T : Unit) (d : Unit × (((Option (ByteArray × (Int × (Option Int)))) × Unit) × Unit)) : Option (Unit × (((Option Int) × Unit) × Unit)) :=
  (g_scan_Scanner_string_Err ((), d.2)).bind fun x1 =>
  let x2 : Bool := (!x1.2.1.1.isNone)
  bif x2 then (
  some ((), x1.2))
  else (
  (g_scan_Scanner_string_Left ((), d.2)).bind fun x3 =>
  let x4 : Bool := (decide (x3.2.1.1 > (0 : Int)))
  bif x4 then (
  let x5 : (Option Int) := (some (2 : Int))
  some ((), ((x5, ()), ())))
  else (
  some ((), (((none : Option Int), ()), ()))))
def g_scan_Scanner_string_End (d : Unit × (((Option (ByteArray × (Int × (Option Int)))) × Unit) × Unit)) : Option (Unit × (((Option Int) × Unit) × Unit)) := f_scan_Scanner_string_End_m () d
theorem ok_scan_Scanner_string_End : FnOk Tryz.prog ET0 131 pi_scan_Scanner_string_End po_scan_Scanner_string_End g_scan_Scanner_string_End :=
 fn0 (E := ((E0.add 130 s_scan_Scanner_string_Left).add 151 s_scan_Scanner_string_Err)) (pi := pi_scan_Scanner_string_End) (po := po_scan_Scanner_string_End) (envOk_add (envOk_add e0_ok (typed_ok ok_scan_Scanner_string_Left)) (typed_ok ok_scan_Scanner_string_Err)) (fn := Tryz.f131) Tryz.func131 (by kernel_rfl) (by kernel_rfl) [.tmp 2] (by kernel_rfl) rfl rfl rfl [] fun d => by kernel_rfl
def s_scan_Scanner_string_End := typedSem pi_scan_Scanner_string_End po_scan_Scanner_string_End g_scan_Scanner_string_End

abbrev pi_scan_Scanner_string_take_io : PSh := ⟨[.var 194 [vS, vI, vE]], [.mk false [.ref 0 0], .mk false [vI]]⟩
abbrev po_scan_Scanner_string_take_io : PSh := ⟨[.var 194 [vS, vI, vE]], [.mk false [vS], .mk false [.ref 0 0]]⟩
def f_scan_Scanner_string_take_io_m (T : Unit) (d : ((ByteArray × (Int × ((Option Int) × Unit))) × Unit) × (Unit × ((Int × Unit) × Unit))) : Option (((ByteArray × (Int × ((Option Int) × Unit))) × Unit) × ((ByteArray × Unit) × (Unit × Unit))) :=
  (g_scan_Scanner_string_rest ((), (((some (d.1.1.1, (d.1.1.2.1, d.1.1.2.2.1))), ()), ()))).bind fun x1 =>
  bif decide ((0 : Int) ≤ (0 : Int)) && decide ((0 : Int) ≤ d.2.2.1.1) && decide (d.2.2.1.1 ≤ (x1.2.1.1.size : Int)) then (
  let x2 : ByteArray := (x1.2.1.1.extract (Int.toNat (0 : Int)) (Int.toNat d.2.2.1.1))
  let x3 : Bool := (decide (d.2.2.1.1 > (0 : Int)))
  bif x3 then (
  let x4 : Int := (iadd .i64 d.1.1.2.1 d.2.2.1.1)
  (g_strings_Clone ((), ((x2, ()), ()))).bind fun x5 =>
  some (((d.1.1.1, (x4, d.1.1.2.2)), ()), (x5.2.1, ((), ()))))
  else (
  (g_strings_Clone ((), ((x2, ()), ()))).bind fun x6 =>
  some (d.1, (x6.2.1, ((), ())))))
  else none
def g_scan_Scanner_string_take_io (d : ((ByteArray × (Int × ((Option Int) × Unit))) × Unit) × (Unit × ((Int × Unit) × Unit))) : Option (((ByteArray × (Int × ((Option Int) × Unit))) × Unit) × ((ByteArray × Unit) × (Unit × Unit))) := f_scan_Scanner_string_take_io_m () d
theorem ok_scan_Scanner_string_take_io : FnIo Tryz.prog ET0 147 pi_scan_Scanner_string_take_io po_scan_Scanner_string_take_io 1 [(0, 0, none)] g_scan_Scanner_string_take_io :=
 fn0io (E := (((E0.add 146 s_scan_Scanner_string_rest).add 164 s_strings_Clone).kp [0])) (pi := pi_scan_Scanner_string_take_io) (po := po_scan_Scanner_string_take_io) (envOk_kp (envOk_add (envOk_add e0_ok (typed_ok ok_scan_Scanner_string_rest)) (typed_ok ok_strings_Clone))) (fn := Tryz.f147) Tryz.func147 (by kernel_rfl) (by kernel_rfl) [.tmp 4] [(0, none)] [(0, 0, none)] (by kernel_rfl) rfl rfl rfl rfl rfl [] fun d => by kernel_rfl
def s_scan_Scanner_string_take_io := ioSem pi_scan_Scanner_string_take_io po_scan_Scanner_string_take_io 1 [(0, 0, none)] g_scan_Scanner_string_take_io

abbrev pi_scan_Scanner_string_Run_io : PSh := ⟨[.var 194 [vS, vI, vE]], [.mk false [.ref 0 0], .mk false [vS]]⟩
abbrev po_scan_Scanner_string_Run_io : PSh := ⟨[.var 194 [vS, vI, vE]], [.mk false [vS], .mk false [.ref 0 0]]⟩
abbrev TT_scan_Scanner_string_Run_io : Type := (((((ByteArray × (Int × ((Option Int) × Unit))) × Unit) × (Unit × ((ByteArray × Unit) × ((ByteArray × Unit) × ((Int × Unit) × Unit))))) → Option (((ByteArray × (Int × ((Option Int) × Unit))) × Unit) × ((ByteArray × Unit) × (Unit × Unit)))) × Unit)
abbrev sh_scan_Scanner_string_Run_io_4 : PSh := ⟨[.var 194 [vS, vI, vE]], [.mk false [.ref 0 0], .mk false [vS], .any, .any, .any, .mk false [vS], .mk false [vI]] ++ anyN 19⟩
def f_scan_Scanner_string_Run_io_p4 (T : TT_scan_Scanner_string_Run_io) (d : ((ByteArray × (Int × ((Option Int) × Unit))) × Unit) × (Unit × ((ByteArray × Unit) × ((ByteArray × Unit) × ((Int × Unit) × Unit))))) : Option (((ByteArray × (Int × ((Option Int) × Unit))) × Unit) × ((ByteArray × Unit) × (Unit × Unit))) :=
  let x2 : Int := (d.2.2.2.1.1.size : Int)
  let x3 : Bool := (decide (d.2.2.2.2.1.1 < x2))
  bif x3 then (
  bif decide ((0 : Int) ≤ d.2.2.2.2.1.1) && decide (d.2.2.2.2.1.1 < ((d.2.2.2.1.1.size : Int) : Int)) then (
  let x4 : Int := (bt d.2.2.2.1.1 d.2.2.2.2.1.1)
  (g_strings_IndexByte ((), (d.2.2.1, ((x4, ()), ())))).bind fun x5 =>
  let x6 : Bool := (decide (x5.2.1.1 ≥ (0 : Int)))
  bif x6 then (
  let x7 : Int := (iadd .i64 d.2.2.2.2.1.1 (1 : Int))
  (T.1 (d.1, ((), (d.2.2.1, (d.2.2.2.1, ((x7, ()), ())))))))
  else (
  (g_scan_Scanner_string_take_io (d.1, ((), d.2.2.2.2))).bind fun x8 =>
  some (x8.1, (x8.2.1, ((), ())))))
  else none)
  else (
  (g_scan_Scanner_string_take_io (d.1, ((), d.2.2.2.2))).bind fun x9 =>
  some (x9.1, (x9.2.1, ((), ()))))
def f_scan_Scanner_string_Run_io_t : Nat → TT_scan_Scanner_string_Run_io
  | 0 => (fun _ => none, ())
  | k + 1 => (f_scan_Scanner_string_Run_io_p4 (f_scan_Scanner_string_Run_io_t k), ())
theorem t_scan_Scanner_string_Run_io (k : Nat) : f_scan_Scanner_string_Run_io_t (k + 1) = (f_scan_Scanner_string_Run_io_p4 (f_scan_Scanner_string_Run_io_t k), ()) := rfl
def f_scan_Scanner_string_Run_io_m (T : TT_scan_Scanner_string_Run_io) (d : ((ByteArray × (Int × ((Option Int) × Unit))) × Unit) × (Unit × ((ByteArray × Unit) × Unit))) : Option (((ByteArray × (Int × ((Option Int) × Unit))) × Unit) × ((ByteArray × Unit) × (Unit × Unit))) :=
  (g_scan_Scanner_string_rest ((), (((some (d.1.1.1, (d.1.1.2.1, d.1.1.2.2.1))), ()), ()))).bind fun x1 =>
  (T.1 (d.1, ((), (d.2.2.1, (x1.2.1, (((0 : Int), ()), ()))))))
def g_scan_Scanner_string_Run_io (d : ((ByteArray × (Int × ((Option Int) × Unit))) × Unit) × (Unit × ((ByteArray × Unit) × Unit))) : Option (((ByteArray × (Int × ((Option Int) × Unit))) × Unit) × ((ByteArray × Unit) × (Unit × Unit))) := lim fun k => f_scan_Scanner_string_Run_io_m (f_scan_Scanner_string_Run_io_t k) d
theorem ok_scan_Scanner_string_Run_io : FnIo Tryz.prog ET0 127 pi_scan_Scanner_string_Run_io po_scan_Scanner_string_Run_io 1 [(0, 0, none)] g_scan_Scanner_string_Run_io :=
 fnLio (E := ((((E0.add 146 s_scan_Scanner_string_rest).add 147 s_scan_Scanner_string_take_io).add 149 s_strings_IndexByte).kp [0])) (pi := pi_scan_Scanner_string_Run_io) (po := po_scan_Scanner_string_Run_io) (envOk_kp (envOk_add (envOk_add (envOk_add e0_ok (typed_ok ok_scan_Scanner_string_rest)) (io_ok ok_scan_Scanner_string_take_io)) (typed_ok ok_strings_IndexByte))) (fn := Tryz.f127) Tryz.func127 (by kernel_rfl) (by kernel_rfl) [.tmp 4] [(0, none)] [(0, 0, none)] (by kernel_rfl) rfl rfl rfl rfl rfl [] (fun k => [(4, ⟨sh_scan_Scanner_string_Run_io_4, (f_scan_Scanner_string_Run_io_t k).1⟩)]) (fun _ => [])
 (.intro (fun _ => rfl) trivial) (fun k => (.intro (fun d => by kernel_rfl) trivial)) trivial (fun k => trivial) (fun k d => f_scan_Scanner_string_Run_io_m (f_scan_Scanner_string_Run_io_t k) d) (fun k d => by kernel_rfl)
def s_scan_Scanner_string_Run_io := ioSem pi_scan_Scanner_string_Run_io po_scan_Scanner_string_Run_io 1 [(0, 0, none)] g_scan_Scanner_string_Run_io

abbrev pi_scan_Scanner_string_Fail_io : PSh := ⟨[.var 194 [vS, vI, vE]], [.mk false [.ref 0 0], .mk false [vE]]⟩
abbrev po_scan_Scanner_string_Fail_io : PSh := ⟨[.var 194 [vS, vI, vE]], [.mk false [.ref 0 0]]⟩
def f_scan_Scanner_string_Fail_io_m (T : Unit) (d : ((ByteArray × (Int × ((Option Int) × Unit))) × Unit) × (Unit × (((Option Int) × Unit) × Unit))) : Option (((ByteArray × (Int × ((Option Int) × Unit))) × Unit) × (Unit × Unit)) :=
  (g_scan_Scanner_string_going ((), (((some (d.1.1.1, (d.1.1.2.1, d.1.1.2.2.1))), ()), ()))).bind fun x1 =>
  bif x1.2.1.1 then (
  some (((d.1.1.1, (d.1.1.2.1, d.2.2.1)), ()), ((), ())))
  else (
  some (d.1, ((), ())))
def g_scan_Scanner_string_Fail_io (d : ((ByteArray × (Int × ((Option Int) × Unit))) × Unit) × (Unit × (((Option Int) × Unit) × Unit))) : Option (((ByteArray × (Int × ((Option Int) × Unit))) × Unit) × (Unit × Unit)) := f_scan_Scanner_string_Fail_io_m () d
theorem ok_scan_Scanner_string_Fail_io : FnIo Tryz.prog ET0 143 pi_scan_Scanner_string_Fail_io po_scan_Scanner_string_Fail_io 0 [(0, 0, none)] g_scan_Scanner_string_Fail_io :=
 fn0io (E := ((E0.add 144 s_scan_Scanner_string_going).kp [0])) (pi := pi_scan_Scanner_string_Fail_io) (po := po_scan_Scanner_string_Fail_io) (envOk_kp (envOk_add e0_ok (typed_ok ok_scan_Scanner_string_going))) (fn := Tryz.f143) Tryz.func143 (by kernel_rfl) (by kernel_rfl) [] [(0, none)] [(0, 0, none)] (by kernel_rfl) rfl rfl rfl rfl rfl [] fun d => by kernel_rfl
def s_scan_Scanner_string_Fail_io := ioSem pi_scan_Scanner_string_Fail_io po_scan_Scanner_string_Fail_io 0 [(0, 0, none)] g_scan_Scanner_string_Fail_io

abbrev pi_leaplist_gap_io : PSh := ⟨[.var 194 [vS, vI, vE]], [.mk false [.ref 0 0]]⟩
abbrev po_leaplist_gap_io : PSh := ⟨[.var 194 [vS, vI, vE]], [.mk false [.ref 0 0]]⟩
def f_leaplist_gap_io_m (T : Unit) (d : ((ByteArray × (Int × ((Option Int) × Unit))) × Unit) × (Unit × Unit)) : Option (((ByteArray × (Int × ((Option Int) × Unit))) × Unit) × (Unit × Unit)) :=
  (g_scan_Scanner_string_Run_io (d.1, ((), (((⟨#[32, 9]⟩ : ByteArray), ()), ())))).bind fun x1 =>
  let x2 : Bool := (x1.2.1.1.toList == (⟨#[]⟩ : ByteArray).toList)
  bif x2 then (
  let x3 : (Option Int) := (some (2 : Int))
  (g_scan_Scanner_string_Fail_io (x1.1, ((), ((x3, ()), ())))).bind fun x4 =>
  some (x4.1, ((), ())))
  else (
  some (x1.1, ((), ())))
def g_leaplist_gap_io (d : ((ByteArray × (Int × ((Option Int) × Unit))) × Unit) × (Unit × Unit)) : Option (((ByteArray × (Int × ((Option Int) × Unit))) × Unit) × (Unit × Unit)) := f_leaplist_gap_io_m () d
theorem ok_leaplist_gap_io : FnIo Tryz.prog ET0 121 pi_leaplist_gap_io po_leaplist_gap_io 0 [(0, 0, none)] g_leaplist_gap_io :=
 fn0io (E := (((E0.add 127 s_scan_Scanner_string_Run_io).add 143 s_scan_Scanner_string_Fail_io).kp [0])) (pi := pi_leaplist_gap_io) (po := po_leaplist_gap_io) (envOk_kp (envOk_add (envOk_add e0_ok (io_ok ok_scan_Scanner_string_Run_io)) (io_ok ok_scan_Scanner_string_Fail_io))) (fn := Tryz.f121) Tryz.func121 (by kernel_rfl) (by kernel_rfl) [] [(0, none)] [(0, 0, none)] (by kernel_rfl) rfl rfl rfl rfl rfl [] fun d => by kernel_rfl
def s_leaplist_gap_io := ioSem pi_leaplist_gap_io po_leaplist_gap_io 0 [(0, 0, none)] g_leaplist_gap_io

abbrev pi_leaplist_word_io : PSh := ⟨[.var 194 [vS, vI, vE]], [.mk false [.ref 0 0]]⟩
abbrev po_leaplist_word_io : PSh := ⟨[.var 194 [vS, vI, vE]], [.mk false [.v (.int .u32)], .mk false [.ref 0 0]]⟩
abbrev TT_leaplist_word_io : Type := (((((ByteArray × (Int × ((Option Int) × Unit))) × Unit) × (Unit × ((ByteArray × Unit) × ((Int × Unit) × ((Int × Unit) × ((Int × Unit) × Unit)))))) → Option (((ByteArray × (Int × ((Option Int) × Unit))) × Unit) × ((Int × Unit) × (Unit × Unit)))) × Unit)
abbrev sh_leaplist_word_io_9 : PSh := ⟨[.var 194 [vS, vI, vE]], [.mk false [.ref 0 0], .any, .any, .mk false [vS], .mk false [.v (.int .u32)], .any, .any, .any, .any, .any, .any, .any, .any, .any, .any, .any, .any, .any, .any, .any, .mk false [vI], .mk false [vI]] ++ anyN 12⟩
def f_leaplist_word_io_p9 (T : TT_leaplist_word_io) (d : ((ByteArray × (Int × ((Option Int) × Unit))) × Unit) × (Unit × ((ByteArray × Unit) × ((Int × Unit) × ((Int × Unit) × ((Int × Unit) × Unit)))))) : Option (((ByteArray × (Int × ((Option Int) × Unit))) × Unit) × ((Int × Unit) × (Unit × Unit))) :=
  let x11 : Bool := (decide (d.2.2.2.2.2.1.1 < d.2.2.2.2.1.1))
  bif x11 then (
  let x12 : Int := (ishl .u32 d.2.2.2.1.1 (4 : Int))
  bif decide ((0 : Int) ≤ d.2.2.2.2.2.1.1) && decide (d.2.2.2.2.2.1.1 < ((d.2.2.1.1.size : Int) : Int)) then (
  let x13 : Int := (bt d.2.2.1.1 d.2.2.2.2.2.1.1)
  (g_strings_IndexByte ((), (((⟨#[48, 49, 50, 51, 52, 53, 54, 55, 56, 57, 97, 98, 99, 100, 101, 102]⟩ : ByteArray), ()), ((x13, ()), ())))).bind fun x14 =>
  let x15 : Int := (iconv .u32 x14.2.1.1)
  let x16 : Int := (ior .u32 x12 x15)
  let x17 : Int := (iadd .i64 d.2.2.2.2.2.1.1 (1 : Int))
  (T.1 (d.1, ((), (d.2.2.1, ((x16, ()), (d.2.2.2.2.1, ((x17, ()), ()))))))))
  else none)
  else (
  some (d.1, (d.2.2.2.1, ((), ()))))
def f_leaplist_word_io_t : Nat → TT_leaplist_word_io
  | 0 => (fun _ => none, ())
  | k + 1 => (f_leaplist_word_io_p9 (f_leaplist_word_io_t k), ())
theorem t_leaplist_word_io (k : Nat) : f_leaplist_word_io_t (k + 1) = (f_leaplist_word_io_p9 (f_leaplist_word_io_t k), ()) := rfl
def f_leaplist_word_io_m (T : TT_leaplist_word_io) (d : ((ByteArray × (Int × ((Option Int) × Unit))) × Unit) × (Unit × Unit)) : Option (((ByteArray × (Int × ((Option Int) × Unit))) × Unit) × ((Int × Unit) × (Unit × Unit))) :=
  (g_scan_Scanner_string_Run_io (d.1, ((), (((⟨#[48, 49, 50, 51, 52, 53, 54, 55, 56, 57, 97, 98, 99, 100, 101, 102, 65, 66, 67, 68, 69, 70]⟩ : ByteArray), ()), ())))).bind fun x1 =>
  (g_strings_ToLower ((), (x1.2.1, ()))).bind fun x2 =>
  let x3 : Bool := (x2.2.1.1.toList == (⟨#[]⟩ : ByteArray).toList)
  bif x3 then (
  let x4 : (Option Int) := (some (2 : Int))
  (g_scan_Scanner_string_Fail_io (x1.1, ((), ((x4, ()), ())))).bind fun x5 =>
  some (x5.1, (((0 : Int), ()), ((), ()))))
  else (
  let x6 : Int := (x2.2.1.1.size : Int)
  let x7 : Bool := (decide (x6 > (8 : Int)))
  bif x7 then (
  let x8 : (Option Int) := (some (2 : Int))
  (g_scan_Scanner_string_Fail_io (x1.1, ((), ((x8, ()), ())))).bind fun x9 =>
  some (x9.1, (((0 : Int), ()), ((), ()))))
  else (
  let x10 : Int := (x2.2.1.1.size : Int)
  (T.1 (x1.1, ((), (x2.2.1, (((0 : Int), ()), ((x10, ()), (((0 : Int), ()), ())))))))))
def g_leaplist_word_io (d : ((ByteArray × (Int × ((Option Int) × Unit))) × Unit) × (Unit × Unit)) : Option (((ByteArray × (Int × ((Option Int) × Unit))) × Unit) × ((Int × Unit) × (Unit × Unit))) := lim fun k => f_leaplist_word_io_m (f_leaplist_word_io_t k) d
theorem ok_leaplist_word_io : FnIo Tryz.prog ET0 125 pi_leaplist_word_io po_leaplist_word_io 1 [(0, 0, none)] g_leaplist_word_io :=
 fnLio (E := (((((E0.add 127 s_scan_Scanner_string_Run_io).add 143 s_scan_Scanner_string_Fail_io).add 148 s_strings_ToLower).add 149 s_strings_IndexByte).kp [0])) (pi := pi_leaplist_word_io) (po := po_leaplist_word_io) (envOk_kp (envOk_add (envOk_add (envOk_add (envOk_add e0_ok (io_ok ok_scan_Scanner_string_Run_io)) (io_ok ok_scan_Scanner_string_Fail_io)) (typed_ok ok_strings_ToLower)) (typed_ok ok_strings_IndexByte))) (fn := Tryz.f125) Tryz.func125 (by kernel_rfl) (by kernel_rfl) [.tmp 2] [(0, none)] [(0, 0, none)] (by kernel_rfl) rfl rfl rfl rfl rfl [] (fun k => [(9, ⟨sh_leaplist_word_io_9, (f_leaplist_word_io_t k).1⟩)]) (fun _ => [])
 (.intro (fun _ => rfl) trivial) (fun k => (.intro (fun d => by kernel_rfl) trivial)) trivial (fun k => trivial) (fun k d => f_leaplist_word_io_m (f_leaplist_word_io_t k) d) (fun k d => by kernel_rfl)
def s_leaplist_word_io := ioSem pi_leaplist_word_io po_leaplist_word_io 1 [(0, 0, none)] g_leaplist_word_io

abbrev pi_leaplist_end_io : PSh := ⟨[.var 194 [vS, vI, vE]], [.mk false [.ref 0 0]]⟩
abbrev po_leaplist_end_io : PSh := ⟨[.var 194 [vS, vI, vE]], [.mk false [vE], .mk false [.ref 0 0]]⟩
def f_leaplist_end_io_m (T : Unit) (d : ((ByteArray × (Int × ((Option Int) × Unit))) × Unit) × (Unit × Unit)) : Option (((ByteArray × (Int × ((Option Int) × Unit))) × Unit) × (((Option Int) × Unit) × (Unit × Unit))) :=
  (g_scan_Scanner_string_Run_io (d.1, ((), (((⟨#[32, 9]⟩ : ByteArray), ()), ())))).bind fun x1 =>
  (g_scan_Scanner_string_End ((), (((some (x1.1.1.1, (x1.1.1.2.1, x1.1.1.2.2.1))), ()), ()))).bind fun x2 =>
  some (x1.1, (x2.2.1, ((), ())))
def g_leaplist_end_io (d : ((ByteArray × (Int × ((Option Int) × Unit))) × Unit) × (Unit × Unit)) : Option (((ByteArray × (Int × ((Option Int) × Unit))) × Unit) × (((Option Int) × Unit) × (Unit × Unit))) := f_leaplist_end_io_m () d
theorem ok_leaplist_end_io : FnIo Tryz.prog ET0 123 pi_leaplist_end_io po_leaplist_end_io 1 [(0, 0, none)] g_leaplist_end_io :=
 fn0io (E := (((E0.add 127 s_scan_Scanner_string_Run_io).add 131 s_scan_Scanner_string_End).kp [0])) (pi := pi_leaplist_end_io) (po := po_leaplist_end_io) (envOk_kp (envOk_add (envOk_add e0_ok (io_ok ok_scan_Scanner_string_Run_io)) (typed_ok ok_scan_Scanner_string_End))) (fn := Tryz.f123) Tryz.func123 (by kernel_rfl) (by kernel_rfl) [.tmp 2] [(0, none)] [(0, 0, none)] (by kernel_rfl) rfl rfl rfl rfl rfl [] fun d => by kernel_rfl
def s_leaplist_end_io := ioSem pi_leaplist_end_io po_leaplist_end_io 1 [(0, 0, none)] g_leaplist_end_io

abbrev pi_scan_Scanner_string_Peek : PSh := ⟨[], [.mk false [.v (.nptr (.pair .str (.pair (.int .i64) .err)))]]⟩
abbrev po_scan_Scanner_string_Peek : PSh := ⟨[], [.mk false [v8], .mk false [vB]]⟩
def f_scan_Scanner_string_Peek_m (T : Unit) (d : Unit × (((Option (ByteArray × (Int × (Option Int)))) × Unit) × Unit)) : Option (Unit × ((Int × Unit) × ((Bool × Unit) × Unit))) :=
  (g_scan_Scanner_string_rest ((), d.2)).bind fun x1 =>
  let x2 : Bool := (x1.2.1.1.toList == (⟨#[]⟩ : ByteArray).toList)
  bif x2 then (
  some ((), (((0 : Int), ()), ((false, ()), ()))))
  else (
  bif decide ((0 : Int) ≤ (0 : Int)) && decide ((0 : Int) < ((x1.2.1.1.size : Int) : Int)) then (
  let x3 : Int := (bt x1.2.1.1 (0 : Int))
  some ((), ((x3, ()), ((true, ()), ()))))
  else none)
def g_scan_Scanner_string_Peek (d : Unit × (((Option (ByteArray × (Int × (Option Int)))) × Unit) × Unit)) : Option (Unit × ((Int × Unit) × ((Bool × Unit) × Unit))) := f_scan_Scanner_string_Peek_m () d
theorem ok_scan_Scanner_string_Peek : FnOk Tryz.prog ET0 150 pi_scan_Scanner_string_Peek po_scan_Scanner_string_Peek g_scan_Scanner_string_Peek :=
 fn0 (E := (E0.add 146 s_scan_Scanner_string_rest)) (pi := pi_scan_Scanner_string_Peek) (po := po_scan_Scanner_string_Peek) (envOk_add e0_ok (typed_ok ok_scan_Scanner_string_rest)) (fn := Tryz.f150) Tryz.func150 (by kernel_rfl) (by kernel_rfl) [.tmp 2, .tmp 3] (by kernel_rfl) rfl rfl rfl [] fun d => by kernel_rfl
def s_scan_Scanner_string_Peek := typedSem pi_scan_Scanner_string_Peek po_scan_Scanner_string_Peek g_scan_Scanner_string_Peek

abbrev pi_mjd_Day : PSh := ⟨[], [.mk false [vI], .mk false [vI]]⟩
abbrev po_mjd_Day : PSh := ⟨[], [.mk false [vI], .mk false [vE]]⟩
def f_mjd_Day_m (T : Unit) (d : Unit × ((Int × Unit) × ((Int × Unit) × Unit))) : Option (Unit × ((Int × Unit) × (((Option Int) × Unit) × Unit))) :=
  (g_mjd_zero ((), (d.2.1, ()))).bind fun x1 =>
  let x2 : Bool := (!x1.2.2.1.1.isNone)
  bif x2 then (
  some ((), (((0 : Int), ()), x1.2.2)))
  else (
  (g_day_First ((), ())).bind fun x3 =>
  let x4 : Int := (iadd .i64 x3.2.1.1 x1.2.1.1)
  let x5 : Bool := (decide (d.2.2.1.1 < x4))
  bif x5 then (
  let x6 : (Option Int) := (some (13 : Int))
  some ((), (((0 : Int), ()), ((x6, ()), ()))))
  else (
  (g_day_Last ((), ())).bind fun x7 =>
  let x8 : Int := (iadd .i64 x7.2.1.1 x1.2.1.1)
  let x9 : Bool := (decide (d.2.2.1.1 > x8))
  bif x9 then (
  let x10 : (Option Int) := (some (13 : Int))
  some ((), (((0 : Int), ()), ((x10, ()), ()))))
  else (
  let x11 : Int := (isub .i64 d.2.2.1.1 x1.2.1.1)
  some ((), ((x11, ()), (((none : Option Int), ()), ()))))))
def g_mjd_Day (d : Unit × ((Int × Unit) × ((Int × Unit) × Unit))) : Option (Unit × ((Int × Unit) × (((Option Int) × Unit) × Unit))) := f_mjd_Day_m () d
theorem ok_mjd_Day : FnOk Tryz.prog ET0 152 pi_mjd_Day po_mjd_Day g_mjd_Day :=
 fn0 (E := (((E0.add 95 s_mjd_zero).add 105 s_day_First).add 106 s_day_Last)) (pi := pi_mjd_Day) (po := po_mjd_Day) (envOk_add (envOk_add (envOk_add e0_ok (typed_ok ok_mjd_zero)) (typed_ok ok_day_First)) (typed_ok ok_day_Last)) (fn := Tryz.f152) Tryz.func152 (by kernel_rfl) (by kernel_rfl) [.tmp 4, .tmp 5] (by kernel_rfl) rfl rfl rfl [] fun d => by kernel_rfl
def s_mjd_Day := typedSem pi_mjd_Day po_mjd_Day g_mjd_Day

abbrev pi_leaplist_first : PSh := ⟨[], [.mk false [vI]]⟩
abbrev po_leaplist_first : PSh := ⟨[], [.mk false [vI], .mk false [vE]]⟩
def f_leaplist_first_m (T : Unit) (d : Unit × ((Int × Unit) × Unit)) : Option (Unit × ((Int × Unit) × (((Option Int) × Unit) × Unit))) :=
  let x1 : Int := (Int.tmod d.2.1.1 (86400 : Int))
  let x2 : Bool := (x1 != (0 : Int))
  bif x2 then (
  let x3 : (Option Int) := (some (1 : Int))
  some ((), (((0 : Int), ()), ((x3, ()), ()))))
  else (
  (g_mjd_Day ((), (((3 : Int), ()), (((0 : Int), ()), ())))).bind fun x4 =>
  let x5 : Int := (iquo .i64 d.2.1.1 (86400 : Int))
  let x6 : Int := (iadd .i64 x4.2.1.1 x5)
  some ((), ((x6, ()), x4.2.2)))
def g_leaplist_first (d : Unit × ((Int × Unit) × Unit)) : Option (Unit × ((Int × Unit) × (((Option Int) × Unit) × Unit))) := f_leaplist_first_m () d
theorem ok_leaplist_first : FnOk Tryz.prog ET0 132 pi_leaplist_first po_leaplist_first g_leaplist_first :=
 fn0 (E := (E0.add 152 s_mjd_Day)) (pi := pi_leaplist_first) (po := po_leaplist_first) (envOk_add e0_ok (typed_ok ok_mjd_Day)) (fn := Tryz.f132) Tryz.func132 (by kernel_rfl) (by kernel_rfl) [.tmp 2, .tmp 3] (by kernel_rfl) rfl rfl rfl [] fun d => by kernel_rfl
def s_leaplist_first := typedSem pi_leaplist_first po_leaplist_first g_leaplist_first

abbrev pi_scan_Scanner_string_Figures_io : PSh := ⟨[.var 194 [vS, vI, vE]], [.mk false [.ref 0 0], .mk false [vI], .mk false [vI]]⟩
abbrev po_scan_Scanner_string_Figures_io : PSh := ⟨[.var 194 [vS, vI, vE]], [.mk false [vI], .mk false [.ref 0 0]]⟩
def f_scan_Scanner_string_Figures_io_m (T : Unit) (d : ((ByteArray × (Int × ((Option Int) × Unit))) × Unit) × (Unit × ((Int × Unit) × ((Int × Unit) × Unit)))) : Option (((ByteArray × (Int × ((Option Int) × Unit))) × Unit) × ((Int × Unit) × (Unit × Unit))) :=
  (g_scan_Scanner_string_going ((), (((some (d.1.1.1, (d.1.1.2.1, d.1.1.2.2.1))), ()), ()))).bind fun x1 =>
  let x2 : Bool := (!x1.2.1.1)
  bif x2 then (
  some (d.1, (((0 : Int), ()), ((), ()))))
  else (
  (g_scan_Scanner_string_rest ((), (((some (d.1.1.1, (d.1.1.2.1, d.1.1.2.2.1))), ()), ()))).bind fun x3 =>
  (g_figures_Take ((), (x3.2.1, d.2.2))).bind fun x4 =>
  let x5 : Bool := (!x4.2.2.2.1.1.isNone)
  bif x5 then (
  some (((d.1.1.1, (d.1.1.2.1, x4.2.2.2.1)), ()), (((0 : Int), ()), ((), ()))))
  else (
  (g_scan_Scanner_string_take_io (d.1, ((), (x4.2.2.1, ())))).bind fun x6 =>
  some (x6.1, (x4.2.1, ((), ())))))
def g_scan_Scanner_string_Figures_io (d : ((ByteArray × (Int × ((Option Int) × Unit))) × Unit) × (Unit × ((Int × Unit) × ((Int × Unit) × Unit)))) : Option (((ByteArray × (Int × ((Option Int) × Unit))) × Unit) × ((Int × Unit) × (Unit × Unit))) := f_scan_Scanner_string_Figures_io_m () d
theorem ok_scan_Scanner_string_Figures_io : FnIo Tryz.prog ET0 122 pi_scan_Scanner_string_Figures_io po_scan_Scanner_string_Figures_io 1 [(0, 0, none)] g_scan_Scanner_string_Figures_io :=
 fn0io (E := (((((E0.add 144 s_scan_Scanner_string_going).add 145 s_figures_Take).add 146 s_scan_Scanner_string_rest).add 147 s_scan_Scanner_string_take_io).kp [0])) (pi := pi_scan_Scanner_string_Figures_io) (po := po_scan_Scanner_string_Figures_io) (envOk_kp (envOk_add (envOk_add (envOk_add (envOk_add e0_ok (typed_ok ok_scan_Scanner_string_going)) (typed_ok ok_figures_Take)) (typed_ok ok_scan_Scanner_string_rest)) (io_ok ok_scan_Scanner_string_take_io))) (fn := Tryz.f122) Tryz.func122 (by kernel_rfl) (by kernel_rfl) [.tmp 6] [(0, none)] [(0, 0, none)] (by kernel_rfl) rfl rfl rfl rfl rfl [] fun d => by kernel_rfl
def s_scan_Scanner_string_Figures_io := ioSem pi_scan_Scanner_string_Figures_io po_scan_Scanner_string_Figures_io 1 [(0, 0, none)] g_scan_Scanner_string_Figures_io

abbrev pi_scan_Scanner_string_Take_io : PSh := ⟨[.var 194 [vS, vI, vE]], [.mk false [.ref 0 0], .mk false [v8]]⟩
abbrev po_scan_Scanner_string_Take_io : PSh := ⟨[.var 194 [vS, vI, vE]], [.mk false [vB], .mk false [.ref 0 0]]⟩
def f_scan_Scanner_string_Take_io_m (T : Unit) (d : ((ByteArray × (Int × ((Option Int) × Unit))) × Unit) × (Unit × ((Int × Unit) × Unit))) : Option (((ByteArray × (Int × ((Option Int) × Unit))) × Unit) × ((Bool × Unit) × (Unit × Unit))) :=
  (g_scan_Scanner_string_Peek ((), (((some (d.1.1.1, (d.1.1.2.1, d.1.1.2.2.1))), ()), ()))).bind fun x1 =>
  let x2 : Bool := (!x1.2.2.1.1)
  bif x2 then (
  some (d.1, ((false, ()), ((), ()))))
  else (
  let x3 : Bool := (x1.2.1.1 != d.2.2.1.1)
  bif x3 then (
  some (d.1, ((false, ()), ((), ()))))
  else (
  (g_scan_Scanner_string_take_io (d.1, ((), (((1 : Int), ()), ())))).bind fun x4 =>
  some (x4.1, ((true, ()), ((), ())))))
def g_scan_Scanner_string_Take_io (d : ((ByteArray × (Int × ((Option Int) × Unit))) × Unit) × (Unit × ((Int × Unit) × Unit))) : Option (((ByteArray × (Int × ((Option Int) × Unit))) × Unit) × ((Bool × Unit) × (Unit × Unit))) := f_scan_Scanner_string_Take_io_m () d
theorem ok_scan_Scanner_string_Take_io : FnIo Tryz.prog ET0 128 pi_scan_Scanner_string_Take_io po_scan_Scanner_string_Take_io 1 [(0, 0, none)] g_scan_Scanner_string_Take_io :=
 fn0io (E := (((E0.add 147 s_scan_Scanner_string_take_io).add 150 s_scan_Scanner_string_Peek).kp [0])) (pi := pi_scan_Scanner_string_Take_io) (po := po_scan_Scanner_string_Take_io) (envOk_kp (envOk_add (envOk_add e0_ok (io_ok ok_scan_Scanner_string_take_io)) (typed_ok ok_scan_Scanner_string_Peek))) (fn := Tryz.f128) Tryz.func128 (by kernel_rfl) (by kernel_rfl) [.tmp 4] [(0, none)] [(0, 0, none)] (by kernel_rfl) rfl rfl rfl rfl rfl [] fun d => by kernel_rfl
def s_scan_Scanner_string_Take_io := ioSem pi_scan_Scanner_string_Take_io po_scan_Scanner_string_Take_io 1 [(0, 0, none)] g_scan_Scanner_string_Take_io

abbrev pi_scan_Scanner_string_Skip_io : PSh := ⟨[.var 194 [vS, vI, vE]], [.mk false [.ref 0 0], .mk false [vI]]⟩
abbrev po_scan_Scanner_string_Skip_io : PSh := ⟨[.var 194 [vS, vI, vE]], [.mk false [.ref 0 0]]⟩
def f_scan_Scanner_string_Skip_io_m (T : Unit) (d : ((ByteArray × (Int × ((Option Int) × Unit))) × Unit) × (Unit × ((Int × Unit) × Unit))) : Option (((ByteArray × (Int × ((Option Int) × Unit))) × Unit) × (Unit × Unit)) :=
  (g_scan_Scanner_string_going ((), (((some (d.1.1.1, (d.1.1.2.1, d.1.1.2.2.1))), ()), ()))).bind fun x1 =>
  let x2 : Bool := (!x1.2.1.1)
  bif x2 then (
  some (d.1, ((), ())))
  else (
  let x3 : Bool := (decide (d.2.2.1.1 < (0 : Int)))
  bif x3 then (
  let x4 : (Option Int) := (some (1 : Int))
  some (((d.1.1.1, (d.1.1.2.1, (x4, ()))), ()), ((), ())))
  else (
  (g_scan_Scanner_string_Left ((), (((some (d.1.1.1, (d.1.1.2.1, d.1.1.2.2.1))), ()), ()))).bind fun x5 =>
  let x6 : Bool := (decide (d.2.2.1.1 > x5.2.1.1))
  bif x6 then (
  let x7 : (Option Int) := (some (4 : Int))
  some (((d.1.1.1, (d.1.1.2.1, (x7, ()))), ()), ((), ())))
  else (
  (g_scan_Scanner_string_take_io (d.1, ((), d.2.2))).bind fun x8 =>
  some (x8.1, ((), ())))))
def g_scan_Scanner_string_Skip_io (d : ((ByteArray × (Int × ((Option Int) × Unit))) × Unit) × (Unit × ((Int × Unit) × Unit))) : Option (((ByteArray × (Int × ((Option Int) × Unit))) × Unit) × (Unit × Unit)) := f_scan_Scanner_string_Skip_io_m () d
theorem ok_scan_Scanner_string_Skip_io : FnIo Tryz.prog ET0 129 pi_scan_Scanner_string_Skip_io po_scan_Scanner_string_Skip_io 0 [(0, 0, none)] g_scan_Scanner_string_Skip_io :=
 fn0io (E := ((((E0.add 130 s_scan_Scanner_string_Left).add 144 s_scan_Scanner_string_going).add 147 s_scan_Scanner_string_take_io).kp [0])) (pi := pi_scan_Scanner_string_Skip_io) (po := po_scan_Scanner_string_Skip_io) (envOk_kp (envOk_add (envOk_add (envOk_add e0_ok (typed_ok ok_scan_Scanner_string_Left)) (typed_ok ok_scan_Scanner_string_going)) (io_ok ok_scan_Scanner_string_take_io))) (fn := Tryz.f129) Tryz.func129 (by kernel_rfl) (by kernel_rfl) [] [(0, none)] [(0, 0, none)] (by kernel_rfl) rfl rfl rfl rfl rfl [] fun d => by kernel_rfl
def s_scan_Scanner_string_Skip_io := ioSem pi_scan_Scanner_string_Skip_io po_scan_Scanner_string_Skip_io 0 [(0, 0, none)] g_scan_Scanner_string_Skip_io

abbrev pi_scan_Scanner_string_End_io : PSh := ⟨[.var 194 [vS, vI, vE]], [.mk false [.ref 0 0]]⟩
abbrev po_scan_Scanner_string_End_io : PSh := ⟨[.var 194 [vS, vI, vE]], [.mk false [vE], .mk false [.ref 0 0]]⟩
def f_scan_Scanner_string_End_io_m (T : Unit) (d : ((ByteArray × (Int × ((Option Int) × Unit))) × Unit) × (Unit × Unit)) : Option (((ByteArray × (Int × ((Option Int) × Unit))) × Unit) × (((Option Int) × Unit) × (Unit × Unit))) :=
  (g_scan_Scanner_string_Err ((), (((some (d.1.1.1, (d.1.1.2.1, d.1.1.2.2.1))), ()), ()))).bind fun x1 =>
  let x2 : Bool := (!x1.2.1.1.isNone)
  bif x2 then (
  some (d.1, (x1.2.1, ((), ()))))
  else (
  (g_scan_Scanner_string_Left ((), (((some (d.1.1.1, (d.1.1.2.1, d.1.1.2.2.1))), ()), ()))).bind fun x3 =>
  let x4 : Bool := (decide (x3.2.1.1 > (0 : Int)))
  bif x4 then (
  let x5 : (Option Int) := (some (2 : Int))
  some (d.1, ((x5, ()), ((), ()))))
  else (
  some (d.1, (((none : Option Int), ()), ((), ())))))
def g_scan_Scanner_string_End_io (d : ((ByteArray × (Int × ((Option Int) × Unit))) × Unit) × (Unit × Unit)) : Option (((ByteArray × (Int × ((Option Int) × Unit))) × Unit) × (((Option Int) × Unit) × (Unit × Unit))) := f_scan_Scanner_string_End_io_m () d
theorem ok_scan_Scanner_string_End_io : FnIo Tryz.prog ET0 131 pi_scan_Scanner_string_End_io po_scan_Scanner_string_End_io 1 [(0, 0, none)] g_scan_Scanner_string_End_io :=
 fn0io (E := (((E0.add 130 s_scan_Scanner_string_Left).add 151 s_scan_Scanner_string_Err).kp [0])) (pi := pi_scan_Scanner_string_End_io) (po := po_scan_Scanner_string_End_io) (envOk_kp (envOk_add (envOk_add e0_ok (typed_ok ok_scan_Scanner_string_Left)) (typed_ok ok_scan_Scanner_string_Err))) (fn := Tryz.f131) Tryz.func131 (by kernel_rfl) (by kernel_rfl) [.tmp 2] [(0, none)] [(0, 0, none)] (by kernel_rfl) rfl rfl rfl rfl rfl [] fun d => by kernel_rfl
def s_scan_Scanner_string_End_io := ioSem pi_scan_Scanner_string_End_io po_scan_Scanner_string_End_io 1 [(0, 0, none)] g_scan_Scanner_string_End_io

abbrev pi_scan_Scanner_string_Left_io : PSh := ⟨[.var 194 [vS, vI, vE]], [.mk false [.ref 0 0]]⟩
abbrev po_scan_Scanner_string_Left_io : PSh := ⟨[.var 194 [vS, vI, vE]], [.mk false [vI], .mk false [.ref 0 0]]⟩
def f_scan_Scanner_string_Left_io_m (T : Unit) (d : ((ByteArray × (Int × ((Option Int) × Unit))) × Unit) × (Unit × Unit)) : Option (((ByteArray × (Int × ((Option Int) × Unit))) × Unit) × ((Int × Unit) × (Unit × Unit))) :=
  (g_scan_Scanner_string_rest ((), (((some (d.1.1.1, (d.1.1.2.1, d.1.1.2.2.1))), ()), ()))).bind fun x1 =>
  let x2 : Int := (x1.2.1.1.size : Int)
  some (d.1, ((x2, ()), ((), ())))
def g_scan_Scanner_string_Left_io (d : ((ByteArray × (Int × ((Option Int) × Unit))) × Unit) × (Unit × Unit)) : Option (((ByteArray × (Int × ((Option Int) × Unit))) × Unit) × ((Int × Unit) × (Unit × Unit))) := f_scan_Scanner_string_Left_io_m () d
theorem ok_scan_Scanner_string_Left_io : FnIo Tryz.prog ET0 130 pi_scan_Scanner_string_Left_io po_scan_Scanner_string_Left_io 1 [(0, 0, none)] g_scan_Scanner_string_Left_io :=
 fn0io (E := ((E0.add 146 s_scan_Scanner_string_rest).kp [0])) (pi := pi_scan_Scanner_string_Left_io) (po := po_scan_Scanner_string_Left_io) (envOk_kp (envOk_add e0_ok (typed_ok ok_scan_Scanner_string_rest))) (fn := Tryz.f130) Tryz.func130 (by kernel_rfl) (by kernel_rfl) [.tmp 2] [(0, none)] [(0, 0, none)] (by kernel_rfl) rfl rfl rfl rfl rfl [] fun d => by kernel_rfl
def s_scan_Scanner_string_Left_io := ioSem pi_scan_Scanner_string_Left_io po_scan_Scanner_string_Left_io 1 [(0, 0, none)] g_scan_Scanner_string_Left_io

abbrev pi_leaplist_reader_sum_io : PSh := ⟨[.var 76 [.osl 1, .v (.nptr (.int .i64)), .v (.nptr (.int .i64)), .v (.nptr (.pair (.int .u32) (.pair (.int .u32) (.pair (.int .u32) (.pair (.int .u32) (.int .u32))))))], .row 70 (.pair (.int .i64) (.int .i64))], [.mk false [.ref 0 0], .mk false [vS]]⟩
abbrev po_leaplist_reader_sum_io : PSh := ⟨[.var 76 [.osl 1, .v (.nptr (.int .i64)), .v (.nptr (.int .i64)), .v (.nptr (.pair (.int .u32) (.pair (.int .u32) (.pair (.int .u32) (.pair (.int .u32) (.int .u32))))))], .row 70 (.pair (.int .i64) (.int .i64))], [.mk false [vE], .mk false [.ref 0 0]]⟩
abbrev TT_leaplist_reader_sum_io : Type := ((((((Option Int) × ((Option Int) × ((Option (Int × (Int × (Int × (Int × Int))))) × Unit))) × ((List (Int × Int)) × ((ByteArray × (Int × ((Option Int) × Unit))) × ((Int × (Int × (Int × (Int × (Int × Unit))))) × Unit)))) × (Unit × (Unit × (Unit × ((Int × Unit) × Unit))))) → Option ((((Option Int) × ((Option Int) × ((Option (Int × (Int × (Int × (Int × Int))))) × Unit))) × ((List (Int × Int)) × Unit)) × (((Option Int) × Unit) × (Unit × Unit)))) × Unit)
abbrev sh_leaplist_reader_sum_io_5 : PSh := ⟨[.var 76 [.osl 1, .v (.nptr (.int .i64)), .v (.nptr (.int .i64)), .v (.nptr (.pair (.int .u32) (.pair (.int .u32) (.pair (.int .u32) (.pair (.int .u32) (.int .u32))))))], .row 70 (.pair (.int .i64) (.int .i64)), .var 194 [vS, vI, vE], .var 36 [.v (.int .u32), .v (.int .u32), .v (.int .u32), .v (.int .u32), .v (.int .u32)]], [.mk false [.ref 0 0], .any, .any, .any, .any, .mk false [.ref 2 0], .mk false [.ref 3 0], .any, .any, .any, .any, .mk false [vI]] ++ anyN 19⟩
def f_leaplist_reader_sum_io_p5 (T : TT_leaplist_reader_sum_io) (d : (((Option Int) × ((Option Int) × ((Option (Int × (Int × (Int × (Int × Int))))) × Unit))) × ((List (Int × Int)) × ((ByteArray × (Int × ((Option Int) × Unit))) × ((Int × (Int × (Int × (Int × (Int × Unit))))) × Unit)))) × (Unit × (Unit × (Unit × ((Int × Unit) × Unit))))) : Option ((((Option Int) × ((Option Int) × ((Option (Int × (Int × (Int × (Int × Int))))) × Unit))) × ((List (Int × Int)) × Unit)) × (((Option Int) × Unit) × (Unit × Unit))) :=
  let x2 : Bool := (decide (d.2.2.2.2.1.1 < (5 : Int)))
  bif x2 then (
  (g_leaplist_gap_io ((d.1.2.2.1, ()), ((), ()))).bind fun x3 =>
  (g_leaplist_word_io (x3.1, ((), ()))).bind fun x4 =>
  bif decide ((0 : Int) ≤ d.2.2.2.2.1.1) && decide (d.2.2.2.2.1.1 < (5 : Int)) then (
  bif decide (d.2.2.2.2.1.1 = (0 : Int)) then (
  let x9 : Int := (iadd .i64 d.2.2.2.2.1.1 (1 : Int))
  (T.1 ((d.1.1, (d.1.2.1, (x4.1.1, ((x4.2.1.1, d.1.2.2.2.1.2), ())))), ((), ((), ((), ((x9, ()), ())))))))
  else (
  bif decide (d.2.2.2.2.1.1 = (1 : Int)) then (
  let x8 : Int := (iadd .i64 d.2.2.2.2.1.1 (1 : Int))
  (T.1 ((d.1.1, (d.1.2.1, (x4.1.1, ((d.1.2.2.2.1.1, (x4.2.1.1, d.1.2.2.2.1.2.2)), ())))), ((), ((), ((), ((x8, ()), ())))))))
  else (
  bif decide (d.2.2.2.2.1.1 = (2 : Int)) then (
  let x7 : Int := (iadd .i64 d.2.2.2.2.1.1 (1 : Int))
  (T.1 ((d.1.1, (d.1.2.1, (x4.1.1, ((d.1.2.2.2.1.1, (d.1.2.2.2.1.2.1, (x4.2.1.1, d.1.2.2.2.1.2.2.2))), ())))), ((), ((), ((), ((x7, ()), ())))))))
  else (
  bif decide (d.2.2.2.2.1.1 = (3 : Int)) then (
  let x6 : Int := (iadd .i64 d.2.2.2.2.1.1 (1 : Int))
  (T.1 ((d.1.1, (d.1.2.1, (x4.1.1, ((d.1.2.2.2.1.1, (d.1.2.2.2.1.2.1, (d.1.2.2.2.1.2.2.1, (x4.2.1.1, d.1.2.2.2.1.2.2.2.2)))), ())))), ((), ((), ((), ((x6, ()), ())))))))
  else (
  bif decide (d.2.2.2.2.1.1 = (4 : Int)) then (
  let x5 : Int := (iadd .i64 d.2.2.2.2.1.1 (1 : Int))
  (T.1 ((d.1.1, (d.1.2.1, (x4.1.1, ((d.1.2.2.2.1.1, (d.1.2.2.2.1.2.1, (d.1.2.2.2.1.2.2.1, (d.1.2.2.2.1.2.2.2.1, x4.2.1)))), ())))), ((), ((), ((), ((x5, ()), ())))))))
  else (
  none))))))
  else none)
  else (
  (g_leaplist_end_io ((d.1.2.2.1, ()), ((), ()))).bind fun x10 =>
  let x11 : Bool := (!x10.2.1.1.isNone)
  bif x11 then (
  some ((d.1.1, (d.1.2.1, ())), (x10.2.1, ((), ()))))
  else (
  let x12 : Bool := (!d.1.1.2.2.1.isNone)
  bif x12 then (
  let x13 : (Option Int) := (some (2 : Int))
  some ((d.1.1, (d.1.2.1, ())), ((x13, ()), ((), ()))))
  else (
  some (((d.1.1.1, (d.1.1.2.1, ((some (d.1.2.2.2.1.1, (d.1.2.2.2.1.2.1, (d.1.2.2.2.1.2.2.1, (d.1.2.2.2.1.2.2.2.1, d.1.2.2.2.1.2.2.2.2.1))))), ()))), (d.1.2.1, ())), (((none : Option Int), ()), ((), ()))))))
def f_leaplist_reader_sum_io_t : Nat → TT_leaplist_reader_sum_io
  | 0 => (fun _ => none, ())
  | k + 1 => (f_leaplist_reader_sum_io_p5 (f_leaplist_reader_sum_io_t k), ())
theorem t_leaplist_reader_sum_io (k : Nat) : f_leaplist_reader_sum_io_t (k + 1) = (f_leaplist_reader_sum_io_p5 (f_leaplist_reader_sum_io_t k), ()) := rfl
def f_leaplist_reader_sum_io_m (T : TT_leaplist_reader_sum_io) (d : (((Option Int) × ((Option Int) × ((Option (Int × (Int × (Int × (Int × Int))))) × Unit))) × ((List (Int × Int)) × Unit)) × (Unit × ((ByteArray × Unit) × Unit))) : Option ((((Option Int) × ((Option Int) × ((Option (Int × (Int × (Int × (Int × Int))))) × Unit))) × ((List (Int × Int)) × Unit)) × (((Option Int) × Unit) × (Unit × Unit))) :=
  (g_scan_New_string ((), d.2.2)).bind fun x1 =>
  (T.1 ((d.1.1, (d.1.2.1, (x1.1.1, (((0 : Int), ((0 : Int), ((0 : Int), ((0 : Int), ((0 : Int), ()))))), ())))), ((), ((), ((), (((0 : Int), ()), ()))))))
def g_leaplist_reader_sum_io (d : (((Option Int) × ((Option Int) × ((Option (Int × (Int × (Int × (Int × Int))))) × Unit))) × ((List (Int × Int)) × Unit)) × (Unit × ((ByteArray × Unit) × Unit))) : Option ((((Option Int) × ((Option Int) × ((Option (Int × (Int × (Int × (Int × Int))))) × Unit))) × ((List (Int × Int)) × Unit)) × (((Option Int) × Unit) × (Unit × Unit))) := lim fun k => f_leaplist_reader_sum_io_m (f_leaplist_reader_sum_io_t k) d
theorem ok_leaplist_reader_sum_io : FnIo Tryz.prog ET0 89 pi_leaplist_reader_sum_io po_leaplist_reader_sum_io 1 [(0, 0, none)] g_leaplist_reader_sum_io :=
 fnLio (E := ((((((E0.add 120 s_scan_New_string).add 121 s_leaplist_gap_io).add 123 s_leaplist_end_io).add 125 s_leaplist_word_io).add 126 (inlSem E0 (bodyOf Tryz.f126) 2 Tryz.f126.ntmps 16 [.tmp 4])).kp [0])) (pi := pi_leaplist_reader_sum_io) (po := po_leaplist_reader_sum_io) (envOk_kp (envOk_add (envOk_add (envOk_add (envOk_add (envOk_add e0_ok (typed_ok ok_scan_New_string)) (io_ok ok_leaplist_gap_io)) (io_ok ok_leaplist_end_io)) (io_ok ok_leaplist_word_io)) (inl_ok e0_ok (fn := Tryz.f126) Tryz.func126 (by kernel_rfl) (by kernel_rfl) (by kernel_rfl)))) (fn := Tryz.f89) Tryz.func89 (by kernel_rfl) (by kernel_rfl) [.tmp 4] [(0, none)] [(0, 0, none)] (by kernel_rfl) rfl rfl rfl rfl rfl [] (fun k => [(5, ⟨sh_leaplist_reader_sum_io_5, (f_leaplist_reader_sum_io_t k).1⟩)]) (fun _ => [])
 (.intro (fun _ => rfl) trivial) (fun k => (.intro (fun d => by kernel_rfl) trivial)) trivial (fun k => trivial) (fun k d => f_leaplist_reader_sum_io_m (f_leaplist_reader_sum_io_t k) d) (fun k d => by kernel_rfl)
def s_leaplist_reader_sum_io := ioSem pi_leaplist_reader_sum_io po_leaplist_reader_sum_io 1 [(0, 0, none)] g_leaplist_reader_sum_io

abbrev pi_leaplist_reader_row_io : PSh := ⟨[.var 76 [.osl 1, .v (.nptr (.int .i64)), .v (.nptr (.int .i64)), .v (.nptr (.pair (.int .u32) (.pair (.int .u32) (.pair (.int .u32) (.pair (.int .u32) (.int .u32))))))], .row 70 (.pair (.int .i64) (.int .i64))], [.mk false [.ref 0 0], .mk false [vS]]⟩
abbrev po_leaplist_reader_row_io : PSh := ⟨[.var 76 [.osl 1, .v (.nptr (.int .i64)), .v (.nptr (.int .i64)), .v (.nptr (.pair (.int .u32) (.pair (.int .u32) (.pair (.int .u32) (.pair (.int .u32) (.int .u32))))))], .row 70 (.pair (.int .i64) (.int .i64))], [.mk false [vE], .mk false [.ref 0 0]]⟩
def f_leaplist_reader_row_io_m (T : Unit) (d : (((Option Int) × ((Option Int) × ((Option (Int × (Int × (Int × (Int × Int))))) × Unit))) × ((List (Int × Int)) × Unit)) × (Unit × ((ByteArray × Unit) × Unit))) : Option ((((Option Int) × ((Option Int) × ((Option (Int × (Int × (Int × (Int × Int))))) × Unit))) × ((List (Int × Int)) × Unit)) × (((Option Int) × Unit) × (Unit × Unit))) :=
  (g_scan_New_string ((), d.2.2)).bind fun x1 =>
  (g_scan_Scanner_string_Run_io (x1.1, ((), (((⟨#[32, 9]⟩ : ByteArray), ()), ())))).bind fun x2 =>
  (g_scan_Scanner_string_Figures_io (x2.1, ((), (((1 : Int), ()), (((13 : Int), ()), ()))))).bind fun x3 =>
  (g_leaplist_gap_io (x3.1, ((), ()))).bind fun x4 =>
  (g_scan_Scanner_string_Figures_io (x4.1, ((), (((1 : Int), ()), (((4 : Int), ()), ()))))).bind fun x5 =>
  (g_scan_Scanner_string_Run_io (x5.1, ((), (((⟨#[32, 9]⟩ : ByteArray), ()), ())))).bind fun x6 =>
  let x7 : Bool := (!(x6.2.1.1.toList == (⟨#[]⟩ : ByteArray).toList))
  bif x7 then (
  (g_scan_Scanner_string_Take_io (x6.1, ((), (((35 : Int), ()), ())))).bind fun x8 =>
  bif x8.2.1.1 then (
  (g_scan_Scanner_string_Left ((), (((some (x8.1.1.1, (x8.1.1.2.1, x8.1.1.2.2.1))), ()), ()))).bind fun x9 =>
  (g_scan_Scanner_string_Skip_io (x8.1, ((), x9.2))).bind fun x10 =>
  (g_scan_Scanner_string_End ((), (((some (x10.1.1.1, (x10.1.1.2.1, x10.1.1.2.2.1))), ()), ()))).bind fun x11 =>
  let x12 : Bool := (!x11.2.1.1.isNone)
  bif x12 then (
  some (d.1, (x11.2.1, ((), ()))))
  else (
  (g_leaplist_first ((), (x3.2.1, ()))).bind fun x13 =>
  let x14 : Bool := (!x13.2.2.1.1.isNone)
  bif x14 then (
  some (d.1, (x13.2.2.1, ((), ()))))
  else (
  let x15 : (List (Int × Int)) := ([(x13.2.1.1, x5.2.1.1)] : List (Int × Int))
  bif decide (((d.1.2.1.length + x15.length) * 16 : Nat) ≤ 140737488355328) && decide (d.1.2.1.length + x15.length ≤ 9223372036854775807) then (
  let x16 : (List (Int × Int)) := (d.1.2.1 ++ x15)
  some ((d.1.1, (x16, ())), (((none : Option Int), ()), ((), ()))))
  else none)))
  else (
  (g_scan_Scanner_string_End ((), (((some (x8.1.1.1, (x8.1.1.2.1, x8.1.1.2.2.1))), ()), ()))).bind fun x17 =>
  let x18 : Bool := (!x17.2.1.1.isNone)
  bif x18 then (
  some (d.1, (x17.2.1, ((), ()))))
  else (
  (g_leaplist_first ((), (x3.2.1, ()))).bind fun x19 =>
  let x20 : Bool := (!x19.2.2.1.1.isNone)
  bif x20 then (
  some (d.1, (x19.2.2.1, ((), ()))))
  else (
  let x21 : (List (Int × Int)) := ([(x19.2.1.1, x5.2.1.1)] : List (Int × Int))
  bif decide (((d.1.2.1.length + x21.length) * 16 : Nat) ≤ 140737488355328) && decide (d.1.2.1.length + x21.length ≤ 9223372036854775807) then (
  let x22 : (List (Int × Int)) := (d.1.2.1 ++ x21)
  some ((d.1.1, (x22, ())), (((none : Option Int), ()), ((), ()))))
  else none))))
  else (
  (g_scan_Scanner_string_End ((), (((some (x6.1.1.1, (x6.1.1.2.1, x6.1.1.2.2.1))), ()), ()))).bind fun x23 =>
  let x24 : Bool := (!x23.2.1.1.isNone)
  bif x24 then (
  some (d.1, (x23.2.1, ((), ()))))
  else (
  (g_leaplist_first ((), (x3.2.1, ()))).bind fun x25 =>
  let x26 : Bool := (!x25.2.2.1.1.isNone)
  bif x26 then (
  some (d.1, (x25.2.2.1, ((), ()))))
  else (
  let x27 : (List (Int × Int)) := ([(x25.2.1.1, x5.2.1.1)] : List (Int × Int))
  bif decide (((d.1.2.1.length + x27.length) * 16 : Nat) ≤ 140737488355328) && decide (d.1.2.1.length + x27.length ≤ 9223372036854775807) then (
  let x28 : (List (Int × Int)) := (d.1.2.1 ++ x27)
  some ((d.1.1, (x28, ())), (((none : Option Int), ()), ((), ()))))
  else none)))
def g_leaplist_reader_row_io (d : (((Option Int) × ((Option Int) × ((Option (Int × (Int × (Int × (Int × Int))))) × Unit))) × ((List (Int × Int)) × Unit)) × (Unit × ((ByteArray × Unit) × Unit))) : Option ((((Option Int) × ((Option Int) × ((Option (Int × (Int × (Int × (Int × Int))))) × Unit))) × ((List (Int × Int)) × Unit)) × (((Option Int) × Unit) × (Unit × Unit))) := f_leaplist_reader_row_io_m () d
theorem ok_leaplist_reader_row_io : FnIo Tryz.prog ET0 90 pi_leaplist_reader_row_io po_leaplist_reader_row_io 1 [(0, 0, none)] g_leaplist_reader_row_io :=
 fn0io (E := ((((((((((E0.add 120 s_scan_New_string).add 121 s_leaplist_gap_io).add 122 s_scan_Scanner_string_Figures_io).add 127 s_scan_Scanner_string_Run_io).add 128 s_scan_Scanner_string_Take_io).add 129 s_scan_Scanner_string_Skip_io).add 130 s_scan_Scanner_string_Left).add 131 s_scan_Scanner_string_End).add 132 s_leaplist_first).kp [0])) (pi := pi_leaplist_reader_row_io) (po := po_leaplist_reader_row_io) (envOk_kp (envOk_add (envOk_add (envOk_add (envOk_add (envOk_add (envOk_add (envOk_add (envOk_add (envOk_add e0_ok (typed_ok ok_scan_New_string)) (io_ok ok_leaplist_gap_io)) (io_ok ok_scan_Scanner_string_Figures_io)) (io_ok ok_scan_Scanner_string_Run_io)) (io_ok ok_scan_Scanner_string_Take_io)) (io_ok ok_scan_Scanner_string_Skip_io)) (typed_ok ok_scan_Scanner_string_Left)) (typed_ok ok_scan_Scanner_string_End)) (typed_ok ok_leaplist_first))) (fn := Tryz.f90) Tryz.func90 (by kernel_rfl) (by kernel_rfl) [.tmp 4] [(0, none)] [(0, 0, none)] (by kernel_rfl) rfl rfl rfl rfl rfl [] fun d => by kernel_rfl
def s_leaplist_reader_row_io := ioSem pi_leaplist_reader_row_io po_leaplist_reader_row_io 1 [(0, 0, none)] g_leaplist_reader_row_io
end
end Go.Proofs.YtcnngodgngmghaaGreatDoor.Ev
