/- Printed by wip/tools/evgen.py. -/
import Derived.Test.YtodnllhjikeafaaGreatDoorEv32
import Derived.Test.YtodnllhjikeafaaGreatDoorShelf
import Derived.Test.YtodnllhjikeafaaGreatDoorEv40
import Derived.Test.YtodnllhjikeafaaGreatDoorEvE
import Derived.Test.YtodnllhjikeafaaGreatDoorProg
import Derived.KernelRfl
set_option maxRecDepth 100000
set_option maxHeartbeats 2000000
set_option linter.unusedVariables false
namespace Go.Proofs.YtodnllhjikeafaaGreatDoor.Ev
open Go
noncomputable section
@[reducible] def vI : LSh := .v (.int .i64)
@[reducible] def vB : LSh := .v .bool
@[reducible] def vS : LSh := .v .str
@[reducible] def vE : LSh := .v .err
@[reducible] def v8 : LSh := .v (.int .u8)
def rows0 : List (TypeId × Row) := [
  (2, ⟨.int .i64, 1, 8, (.int .i64), [AV.val (.int .i64) (0 : Int)], none⟩),
  (3, ⟨.int .i64, 1, 8, (.int .i64), [AV.val (.int .i64) (0 : Int)], none⟩),
  (4, ⟨.bool, 1, 1, .bool, [AV.val .bool false], none⟩),
  (5, ⟨.int .u8, 1, 1, (.int .u8), [AV.val (.int .u8) (0 : Int)], none⟩),
  (9, ⟨.str, 1, 16, .str, [AV.val .str ByteArray.empty], none⟩),
  (22, ⟨.slice 5, 1, 24, (.sl (.int .u8)), [AV.nilS], none⟩),
  (29, ⟨.iface, 1, 16, .err, [AV.val .err (none : Option Int)], none⟩),
  (35, ⟨.ptr, 1, 8, (.nptr (.pair (.pair (.int .i64) (.pair (.int .i64) (.pair (.int .i64) (.pair (.int .i64) (.pair (.pair (.int .u8) (.pair (.int .u8) (.pair (.int .u8) (.int .u8)))) (.pair (.int .i64) (.pair (.int .i64) (.pair (.int .i64) (.pair (.int .i64) (.pair (.int .i64) (.int .i64))))))))))) (.pair (.nptr (.pair (.sl (.pair (.int .i64) (.int .i64))) (.pair (.int .i64) (.int .i64)))) (.pair (.nptr (.pair (.pair (.sl (.int .i64)) (.pair (.sl (.int .i64)) (.pair (.sl (.pair (.int .i64) (.pair .bool .str))) (.pair (.sl (.pair (.int .i64) (.int .i64))) (.pair .bool (.pair .str (.pair .str (.pair (.int .i64) (.pair (.int .i64) (.pair (.pair (.int .i64) (.pair (.int .i64) (.pair (.int .i64) (.pair (.int .i64) (.int .i64))))) (.pair (.int .i64) (.pair (.int .i64) (.pair (.int .i64) (.pair (.int .i64) (.int .i64))))))))))))))) (.pair (.int .i64) (.pair .bool .str)))) (.pair (.int .i64) (.int .i64)))))), [AV.nilP], none⟩),
  (37, ⟨.int .u64, 1, 8, (.int .u64), [AV.val (.int .u64) (0 : Int)], none⟩),
  (38, ⟨.int .i8, 1, 1, (.int .i8), [AV.val (.int .i8) (0 : Int)], none⟩),
  (39, ⟨.int .u16, 1, 2, (.int .u16), [AV.val (.int .u16) (0 : Int)], none⟩),
  (41, ⟨.struct [(0, 1, false), (1, 1, false)], 2, 4, (.pair (.int .u16) (.int .u16)), [AV.val (.int .u16) (0 : Int), AV.val (.int .u16) (0 : Int)], some [.int .u16, .int .u16]⟩),
  (42, ⟨.arr 4 5, 4, 4, (.pair (.int .u8) (.pair (.int .u8) (.pair (.int .u8) (.int .u8)))), [AV.val (.int .u8) (0 : Int), AV.val (.int .u8) (0 : Int), AV.val (.int .u8) (0 : Int), AV.val (.int .u8) (0 : Int)], some [.int .u8, .int .u8, .int .u8, .int .u8]⟩),
  (43, ⟨.int .u32, 1, 4, (.int .u32), [AV.val (.int .u32) (0 : Int)], none⟩),
  (45, ⟨.struct [(0, 1, false), (1, 1, false)], 2, 8, (.pair (.int .u32) (.int .u32)), [AV.val (.int .u32) (0 : Int), AV.val (.int .u32) (0 : Int)], some [.int .u32, .int .u32]⟩),
  (47, ⟨.struct [(0, 1, false), (1, 1, false), (2, 1, false), (3, 1, false), (4, 1, false), (5, 1, false), (6, 2, true), (8, 2, true), (10, 4, true), (14, 2, true), (16, 2, true), (18, 2, true), (20, 2, true)], 22, 72, (.pair (.int .i64) (.pair (.int .i64) (.pair (.int .i64) (.pair (.int .u8) (.pair (.int .i8) (.pair (.int .i8) (.pair (.pair (.int .u16) (.int .u16)) (.pair (.pair (.int .u16) (.int .u16)) (.pair (.pair (.int .u8) (.pair (.int .u8) (.pair (.int .u8) (.int .u8)))) (.pair (.pair (.int .u32) (.int .u32)) (.pair (.pair (.int .u32) (.int .u32)) (.pair (.pair (.int .u32) (.int .u32)) (.pair (.int .u32) (.int .u32)))))))))))))), [AV.val (.int .i64) (0 : Int), AV.val (.int .i64) (0 : Int), AV.val (.int .i64) (0 : Int), AV.val (.int .u8) (0 : Int), AV.val (.int .i8) (0 : Int), AV.val (.int .i8) (0 : Int), AV.val (.int .u16) (0 : Int), AV.val (.int .u16) (0 : Int), AV.val (.int .u16) (0 : Int), AV.val (.int .u16) (0 : Int), AV.val (.int .u8) (0 : Int), AV.val (.int .u8) (0 : Int), AV.val (.int .u8) (0 : Int), AV.val (.int .u8) (0 : Int), AV.val (.int .u32) (0 : Int), AV.val (.int .u32) (0 : Int), AV.val (.int .u32) (0 : Int), AV.val (.int .u32) (0 : Int), AV.val (.int .u32) (0 : Int), AV.val (.int .u32) (0 : Int), AV.val (.int .u32) (0 : Int), AV.val (.int .u32) (0 : Int)], some [.int .i64, .int .i64, .int .i64, .int .u8, .int .i8, .int .i8, .int .u16, .int .u16, .int .u16, .int .u16, .int .u8, .int .u8, .int .u8, .int .u8, .int .u32, .int .u32, .int .u32, .int .u32, .int .u32, .int .u32, .int .u32, .int .u32]⟩),
  (52, ⟨.int .i64, 1, 8, (.int .i64), [AV.val (.int .i64) (0 : Int)], none⟩),
  (59, ⟨.struct [(0, 1, false), (1, 1, false), (2, 1, false), (3, 1, false), (4, 4, true), (8, 1, false), (9, 1, false), (10, 1, false), (11, 1, false), (12, 1, false), (13, 1, false)], 14, 88, (.pair (.int .i64) (.pair (.int .i64) (.pair (.int .i64) (.pair (.int .i64) (.pair (.pair (.int .u8) (.pair (.int .u8) (.pair (.int .u8) (.int .u8)))) (.pair (.int .i64) (.pair (.int .i64) (.pair (.int .i64) (.pair (.int .i64) (.pair (.int .i64) (.int .i64))))))))))), [AV.val (.int .i64) (0 : Int), AV.val (.int .i64) (0 : Int), AV.val (.int .i64) (0 : Int), AV.val (.int .i64) (0 : Int), AV.val (.int .u8) (0 : Int), AV.val (.int .u8) (0 : Int), AV.val (.int .u8) (0 : Int), AV.val (.int .u8) (0 : Int), AV.val (.int .i64) (0 : Int), AV.val (.int .i64) (0 : Int), AV.val (.int .i64) (0 : Int), AV.val (.int .i64) (0 : Int), AV.val (.int .i64) (0 : Int), AV.val (.int .i64) (0 : Int)], some [.int .i64, .int .i64, .int .i64, .int .i64, .int .u8, .int .u8, .int .u8, .int .u8, .int .i64, .int .i64, .int .i64, .int .i64, .int .i64, .int .i64]⟩),
  (65, ⟨.ptr, 1, 8, (.nptr (.pair (.sl (.pair (.int .i64) (.int .i64))) (.pair (.int .i64) (.int .i64)))), [AV.nilP], none⟩),
  (68, ⟨.struct [(0, 14, true), (14, 1, false), (15, 1, false), (16, 1, false), (17, 1, false)], 18, 120, (.pair (.pair (.int .i64) (.pair (.int .i64) (.pair (.int .i64) (.pair (.int .i64) (.pair (.pair (.int .u8) (.pair (.int .u8) (.pair (.int .u8) (.int .u8)))) (.pair (.int .i64) (.pair (.int .i64) (.pair (.int .i64) (.pair (.int .i64) (.pair (.int .i64) (.int .i64))))))))))) (.pair (.nptr (.pair (.sl (.pair (.int .i64) (.int .i64))) (.pair (.int .i64) (.int .i64)))) (.pair (.nptr (.pair (.pair (.sl (.int .i64)) (.pair (.sl (.int .i64)) (.pair (.sl (.pair (.int .i64) (.pair .bool .str))) (.pair (.sl (.pair (.int .i64) (.int .i64))) (.pair .bool (.pair .str (.pair .str (.pair (.int .i64) (.pair (.int .i64) (.pair (.pair (.int .i64) (.pair (.int .i64) (.pair (.int .i64) (.pair (.int .i64) (.int .i64))))) (.pair (.int .i64) (.pair (.int .i64) (.pair (.int .i64) (.pair (.int .i64) (.int .i64))))))))))))))) (.pair (.int .i64) (.pair .bool .str)))) (.pair (.int .i64) (.int .i64))))), [AV.val (.int .i64) (0 : Int), AV.val (.int .i64) (0 : Int), AV.val (.int .i64) (0 : Int), AV.val (.int .i64) (0 : Int), AV.val (.int .u8) (0 : Int), AV.val (.int .u8) (0 : Int), AV.val (.int .u8) (0 : Int), AV.val (.int .u8) (0 : Int), AV.val (.int .i64) (0 : Int), AV.val (.int .i64) (0 : Int), AV.val (.int .i64) (0 : Int), AV.val (.int .i64) (0 : Int), AV.val (.int .i64) (0 : Int), AV.val (.int .i64) (0 : Int), AV.nilP, AV.nilP, AV.val (.int .i64) (0 : Int), AV.val (.int .i64) (0 : Int)], none⟩),
  (73, ⟨.ptr, 1, 8, (.nptr (.pair (.int .u32) (.int .u32))), [AV.nilP], none⟩),
  (74, ⟨.arr 4 73, 4, 32, (.pair (.nptr (.pair (.int .u32) (.int .u32))) (.pair (.nptr (.pair (.int .u32) (.int .u32))) (.pair (.nptr (.pair (.int .u32) (.int .u32))) (.nptr (.pair (.int .u32) (.int .u32)))))), [AV.nilP, AV.nilP, AV.nilP, AV.nilP], none⟩),
  (84, ⟨.slice 9, 1, 24, (.sl .str), [AV.nilS], none⟩),
  (87, ⟨.slice 128, 1, 24, (.sl (.pair (.int .u16) (.sl (.int .u8)))), [AV.nilS], none⟩),
  (89, ⟨.struct [(0, 1, false), (1, 1, false)], 2, 48, (.pair (.sl (.pair (.int .u16) (.sl (.int .u8)))) (.sl (.int .u8))), [AV.nilS, AV.nilS], none⟩),
  (92, ⟨.slice 133, 1, 24, (.sl (.pair (.int .u16) (.sl (.int .u8)))), [AV.nilS], none⟩),
  (94, ⟨.struct [(0, 1, false), (1, 1, false)], 2, 48, (.pair (.sl (.pair (.int .u16) (.sl (.int .u8)))) (.sl (.int .u8))), [AV.nilS, AV.nilS], none⟩),
  (106, ⟨.int .u64, 1, 8, (.int .u64), [AV.val (.int .u64) (0 : Int)], none⟩),
  (128, ⟨.struct [(0, 1, false), (1, 1, false)], 2, 32, (.pair (.int .u16) (.sl (.int .u8))), [AV.val (.int .u16) (0 : Int), AV.nilS], none⟩),
  (133, ⟨.struct [(0, 1, false), (1, 1, false)], 2, 32, (.pair (.int .u16) (.sl (.int .u8))), [AV.val (.int .u16) (0 : Int), AV.nilS], none⟩),
  (135, ⟨.slice 141, 1, 24, (.sl (.pair (.int .i64) (.int .i64))), [AV.nilS], none⟩),
  (137, ⟨.struct [(0, 1, false), (1, 1, false), (2, 1, false)], 3, 40, (.pair (.sl (.pair (.int .i64) (.int .i64))) (.pair (.int .i64) (.int .i64))), [AV.nilS, AV.val (.int .i64) (0 : Int), AV.val (.int .i64) (0 : Int)], none⟩),
  (141, ⟨.struct [(0, 1, false), (1, 1, false)], 2, 16, (.pair (.int .i64) (.int .i64)), [AV.val (.int .i64) (0 : Int), AV.val (.int .i64) (0 : Int)], some [.int .i64, .int .i64]⟩),
  (149, ⟨.slice 39, 1, 24, (.sl (.int .u16)), [AV.nilS], none⟩),
  (152, ⟨.slice 43, 1, 24, (.sl (.int .u32)), [AV.nilS], none⟩),
  (160, ⟨.slice 3, 1, 24, (.sl (.int .i64)), [AV.nilS], none⟩)]
def ET0 : TypeId := 52
def E0 : Env := ⟨rows0, [], ET0, 0, [], [], []⟩
theorem e0_ok : EnvOk Tryz.prog E0 := envOk_rows (by kernel_rfl) (by kernel_rfl) 0
def gd_i64_i64 (l : List (Int × Int)) (i : Int) : (Int × Int) := gd (.pair (.int .i64) (.int .i64)) l i
/- strings.TrimRight -/
@[reducible] def pi_strings_TrimRight : PSh := pi_lib_trimRight
@[reducible] def po_strings_TrimRight : PSh := po_lib_trimRight
def g_strings_TrimRight := lib_trimRight
theorem ok_strings_TrimRight : FnOk Tryz.prog ET0 34 pi_strings_TrimRight po_strings_TrimRight g_strings_TrimRight := lib_trimRight_ok ⟨Tryz.f34, Tryz.func34, by kernel_rfl, by kernel_rfl⟩ Tryz.strings_TrimRight_one
/- strings.Index -/
@[reducible] def pi_strings_Index : PSh := pi_lib_index
@[reducible] def po_strings_Index : PSh := po_lib_index
def g_strings_Index := lib_index
theorem ok_strings_Index : FnOk Tryz.prog ET0 82 pi_strings_Index po_strings_Index g_strings_Index := lib_index_ok ⟨Tryz.f82, Tryz.func82, by kernel_rfl, by kernel_rfl⟩ Tryz.strings_Index_one

@[reducible] def pi_octets_from : PSh := ⟨[], [.mk false [.v (.sl (.int .u8))], .mk false [vI], .mk false [vI]]⟩
@[reducible] def po_octets_from : PSh := ⟨[], [.mk false [.v (.sl (.int .u8))], .mk false [vE]]⟩
def f_octets_from_m (T : Unit) (d : Unit × (((List Int) × Unit) × ((Int × Unit) × ((Int × Unit) × Unit)))) : Option (Unit × (((List Int) × Unit) × (((Option Int) × Unit) × Unit))) :=
  let x1 : Bool := (decide (d.2.2.1.1 < (0 : Int)))
  bif x1 then (
  let x2 : (Option Int) := (some (1 : Int))
  some ((), ((([] : List Int), ()), ((x2, ()), ()))))
  else (
  let x3 : Int := (d.2.1.1.length : Int)
  let x4 : Bool := (decide (d.2.2.1.1 > x3))
  bif x4 then (
  let x5 : (Option Int) := (some (1 : Int))
  some ((), ((([] : List Int), ()), ((x5, ()), ()))))
  else (
  let x6 : Bool := (decide (d.2.2.2.1.1 < (0 : Int)))
  bif x6 then (
  let x7 : (Option Int) := (some (1 : Int))
  some ((), ((([] : List Int), ()), ((x7, ()), ()))))
  else (
  let x8 : Int := (d.2.1.1.length : Int)
  let x9 : Int := (isub .i64 x8 d.2.2.1.1)
  let x10 : Bool := (decide (d.2.2.2.1.1 > x9))
  bif x10 then (
  let x11 : (Option Int) := (some (4 : Int))
  some ((), ((([] : List Int), ()), ((x11, ()), ()))))
  else (
  let x12 : Int := (iadd .i64 d.2.2.1.1 d.2.2.2.1.1)
  bif decide ((0 : Int) ≤ d.2.2.1.1) && decide (d.2.2.1.1 ≤ x12) && decide (x12 ≤ (d.2.1.1.length : Int)) then (
  let x13 : (List Int) := (List.drop (Int.toNat d.2.2.1.1) (List.take (Int.toNat x12) d.2.1.1))
  some ((), ((x13, ()), (((none : Option Int), ()), ()))))
  else none))))
def g_octets_from (d : Unit × (((List Int) × Unit) × ((Int × Unit) × ((Int × Unit) × Unit)))) : Option (Unit × (((List Int) × Unit) × (((Option Int) × Unit) × Unit))) := f_octets_from_m () d
theorem ok_octets_from : FnOk Tryz.prog ET0 49 pi_octets_from po_octets_from g_octets_from :=
  fn0 (E := E0) e0_ok (fn := Tryz.f49) Tryz.func49 (by kernel_rfl) (by kernel_rfl) [.tmp 6, .tmp 7] (by kernel_rfl) rfl rfl rfl [] fun d => by kernel_rfl

@[reducible] def pi_slices_Clone_byte_byte : PSh := ⟨[], [.mk false [.v (.sl (.int .u8))]]⟩
@[reducible] def po_slices_Clone_byte_byte : PSh := ⟨[.row 5 (.int .u8)], [.mk false [.osl 0]]⟩
def f_slices_Clone_byte_byte_m (T : Unit) (d : Unit × (((List Int) × Unit) × Unit)) : Option (((List Int) × Unit) × (Unit × Unit)) :=
  bif d.2.1.1.isEmpty then (
  agree (
  some ((([] : List Int), ()), ((), ()))) (
  let x1 : (List Int) := ([] : List Int)
  bif decide (((x1.length + d.2.1.1.length) * 1 : Nat) ≤ 140737488355328) && decide (x1.length + d.2.1.1.length ≤ 9223372036854775807) then (
  let x2 : (List Int) := (x1 ++ d.2.1.1)
  some ((x2, ()), ((), ())))
  else none))
  else (
  let x3 : (List Int) := ([] : List Int)
  bif decide (((x3.length + d.2.1.1.length) * 1 : Nat) ≤ 140737488355328) && decide (x3.length + d.2.1.1.length ≤ 9223372036854775807) then (
  let x4 : (List Int) := (x3 ++ d.2.1.1)
  some ((x4, ()), ((), ())))
  else none)
def g_slices_Clone_byte_byte (d : Unit × (((List Int) × Unit) × Unit)) : Option (((List Int) × Unit) × (Unit × Unit)) := f_slices_Clone_byte_byte_m () d
theorem ok_slices_Clone_byte_byte : FnOk Tryz.prog ET0 50 pi_slices_Clone_byte_byte po_slices_Clone_byte_byte g_slices_Clone_byte_byte :=
  fn0 (E := E0) e0_ok (fn := Tryz.f50) Tryz.func50 (by kernel_rfl) (by kernel_rfl) [.tmp 2] (by kernel_rfl) rfl rfl rfl [] fun d => by kernel_rfl

@[reducible] def pi_octets_Cut : PSh := ⟨[], [.mk false [.v (.sl (.int .u8))], .mk false [vI], .mk false [vI]]⟩
@[reducible] def po_octets_Cut : PSh := ⟨[.row 5 (.int .u8)], [.mk false [.osl 0], .mk false [vE]]⟩
def f_octets_Cut_m (T : Unit) (d : Unit × (((List Int) × Unit) × ((Int × Unit) × ((Int × Unit) × Unit)))) : Option (((List Int) × Unit) × (Unit × (((Option Int) × Unit) × Unit))) :=
  (g_octets_from ((), d.2)).bind fun x1 =>
  let x2 : Bool := (!x1.2.2.1.1.isNone)
  bif x2 then (
  some ((([] : List Int), ()), ((), x1.2.2)))
  else (
  (g_slices_Clone_byte_byte ((), (x1.2.1, ()))).bind fun x3 =>
  some (x3.1, ((), (((none : Option Int), ()), ()))))
def g_octets_Cut (d : Unit × (((List Int) × Unit) × ((Int × Unit) × ((Int × Unit) × Unit)))) : Option (((List Int) × Unit) × (Unit × (((Option Int) × Unit) × Unit))) := f_octets_Cut_m () d
theorem ok_octets_Cut : FnOk Tryz.prog ET0 28 pi_octets_Cut po_octets_Cut g_octets_Cut :=
  fn0 (E := ((E0.add 49 (typedSem pi_octets_from po_octets_from g_octets_from)).add 50 (typedSem pi_slices_Clone_byte_byte po_slices_Clone_byte_byte g_slices_Clone_byte_byte))) (envOk_add (envOk_add e0_ok (typed_ok ok_octets_from)) (typed_ok ok_slices_Clone_byte_byte)) (fn := Tryz.f28) Tryz.func28 (by kernel_rfl) (by kernel_rfl) [.tmp 6, .tmp 7] (by kernel_rfl) rfl rfl rfl [] fun d => by kernel_rfl

@[reducible] def pi_octets_Size_u8 : PSh := ⟨[], []⟩
@[reducible] def po_octets_Size_u8 : PSh := ⟨[], [.mk false [vI]]⟩
@[reducible] def TT_octets_Size_u8 : Type := (((Unit × ((Int × Unit) × ((Int × Unit) × Unit))) → Option (Unit × ((Int × Unit) × Unit))) × Unit)
@[reducible] def sh_octets_Size_u8_4 : PSh := ⟨[], [.any, .mk false [vI], .mk false [v8], .any, .any, .any, .any, .any, .any, .any, .any, .any, .any, .any]⟩
def f_octets_Size_u8_p4 (T : TT_octets_Size_u8) (d : Unit × ((Int × Unit) × ((Int × Unit) × Unit))) : Option (Unit × ((Int × Unit) × Unit)) :=
  let x3 : Bool := (decide (d.2.2.1.1 > (0 : Int)))
  bif x3 then (
  let x4 : Int := (iadd .i64 d.2.1.1 (1 : Int))
  let x5 : Int := (iconv .u64 d.2.2.1.1)
  let x6 : Int := (ishr .u64 x5 (8 : Int))
  let x7 : Int := (iconv .u8 x6)
  (T.1 ((), ((x4, ()), ((x7, ()), ())))))
  else (
  some ((), (d.2.1, ())))
def f_octets_Size_u8_t : Nat → TT_octets_Size_u8
  | 0 => (fun _ => none, ())
  | k + 1 => (f_octets_Size_u8_p4 (f_octets_Size_u8_t k), ())
theorem t_octets_Size_u8 (k : Nat) : f_octets_Size_u8_t (k + 1) = (f_octets_Size_u8_p4 (f_octets_Size_u8_t k), ()) := rfl
def f_octets_Size_u8_m (T : TT_octets_Size_u8) (d : Unit × Unit) : Option (Unit × ((Int × Unit) × Unit)) :=
  let x1 : Int := (iconv .u8 (0 : Int))
  let x2 : Int := (inot .u8 x1)
  (T.1 ((), (((0 : Int), ()), ((x2, ()), ()))))
def c_octets_Size_u8 : List Nat := []
def L_octets_Size_u8 (k : Nat) : Pts po_octets_Size_u8.den := [(4, ⟨sh_octets_Size_u8_4, (f_octets_Size_u8_t k).1⟩)]
def R_octets_Size_u8 (_ : Nat) : PtsR po_octets_Size_u8.den := []
def E_octets_Size_u8 : Env := E0
theorem q_octets_Size_u8_4 (k : Nat) (d : sh_octets_Size_u8_4.den) : evAt E_octets_Size_u8 (tb (L_octets_Size_u8 k) (R_octets_Size_u8 k)) c_octets_Size_u8 4 (bodyOf Tryz.f74) 0 (finK E_octets_Size_u8 po_octets_Size_u8 [.tmp 0]) (ptSt sh_octets_Size_u8_4 d) = f_octets_Size_u8_p4 (f_octets_Size_u8_t k) d := by kernel_rfl
theorem q_octets_Size_u8_m (k : Nat) (d : pi_octets_Size_u8.den) : evCode E_octets_Size_u8 (tb (L_octets_Size_u8 k) (R_octets_Size_u8 k)) c_octets_Size_u8 (bodyOf Tryz.f74) 0 (finK E_octets_Size_u8 po_octets_Size_u8 [.tmp 0]) (startSt pi_octets_Size_u8 14 d) = f_octets_Size_u8_m (f_octets_Size_u8_t k) d := by kernel_rfl
def g_octets_Size_u8 (d : Unit × Unit) : Option (Unit × ((Int × Unit) × Unit)) := lim fun k => f_octets_Size_u8_m (f_octets_Size_u8_t k) d
theorem ok_octets_Size_u8 : FnOk Tryz.prog ET0 74 pi_octets_Size_u8 po_octets_Size_u8 g_octets_Size_u8 :=
  fn_of_body (E := E_octets_Size_u8) e0_ok (fn := Tryz.f74) Tryz.func74 (by kernel_rfl) (by kernel_rfl) [.tmp 0] (by kernel_rfl) (by kernel_rfl) (by decide) rfl c_octets_Size_u8 L_octets_Size_u8 R_octets_Size_u8
    (by intro x hx d; simp only [L_octets_Size_u8, List.mem_cons, List.not_mem_nil, or_false] at hx; subst hx; rfl)
    (by intro k x hx d out h; simp only [L_octets_Size_u8, List.mem_cons, List.not_mem_nil, or_false] at hx; subst hx; exact (q_octets_Size_u8_4 k d).trans h)
    (by intro x hx; cases hx)
    (by intro k x hx; cases hx)
    (by intro d out h; obtain ⟨k, hk⟩ := lim_some h; exact ⟨k, (q_octets_Size_u8_m k d).trans hk⟩)

@[reducible] def pi_octets_word_u8 : PSh := ⟨[], [.mk false [.v (.sl (.int .u8))]]⟩
@[reducible] def po_octets_word_u8 : PSh := ⟨[], [.mk false [v8]]⟩
@[reducible] def TT_octets_word_u8 : Type := (((Unit × ((Int × Unit) × (((List Int) × Unit) × ((Int × Unit) × ((Int × Unit) × Unit))))) → Option (Unit × ((Int × Unit) × Unit))) × Unit)
@[reducible] def sh_octets_word_u8_4 : PSh := ⟨[], [.any, .any, .any, .mk false [.v (.int .u64)], .any, .any, .mk false [.v (.sl (.int .u8))], .mk false [vI], .mk false [vI], .any, .any, .any, .any, .any, .any, .any, .any, .any, .any, .any]⟩
def f_octets_word_u8_p4 (T : TT_octets_word_u8) (d : Unit × ((Int × Unit) × (((List Int) × Unit) × ((Int × Unit) × ((Int × Unit) × Unit))))) : Option (Unit × ((Int × Unit) × Unit)) :=
  let x2 : Bool := (decide (d.2.2.2.2.1.1 < d.2.2.2.1.1))
  bif x2 then (
  bif decide ((0 : Int) ≤ d.2.2.2.2.1.1) && decide (d.2.2.2.2.1.1 < (d.2.2.1.1.length : Int)) then (
  let x3 : Int := (ishl .u64 d.2.1.1 (8 : Int))
  let x4 : Int := (iconv .u64 (gd (.int .u8) d.2.2.1.1 d.2.2.2.2.1.1))
  let x5 : Int := (ior .u64 x3 x4)
  let x6 : Int := (iadd .i64 d.2.2.2.2.1.1 (1 : Int))
  (T.1 ((), ((x5, ()), (d.2.2.1, (d.2.2.2.1, ((x6, ()), ())))))))
  else none)
  else (
  let x7 : Int := (iconv .u8 d.2.1.1)
  some ((), ((x7, ()), ())))
def f_octets_word_u8_t : Nat → TT_octets_word_u8
  | 0 => (fun _ => none, ())
  | k + 1 => (f_octets_word_u8_p4 (f_octets_word_u8_t k), ())
theorem t_octets_word_u8 (k : Nat) : f_octets_word_u8_t (k + 1) = (f_octets_word_u8_p4 (f_octets_word_u8_t k), ()) := rfl
def f_octets_word_u8_m (T : TT_octets_word_u8) (d : Unit × (((List Int) × Unit) × Unit)) : Option (Unit × ((Int × Unit) × Unit)) :=
  let x1 : Int := (d.2.1.1.length : Int)
  (T.1 ((), (((0 : Int), ()), (d.2.1, ((x1, ()), (((0 : Int), ()), ()))))))
def c_octets_word_u8 : List Nat := []
def L_octets_word_u8 (k : Nat) : Pts po_octets_word_u8.den := [(4, ⟨sh_octets_word_u8_4, (f_octets_word_u8_t k).1⟩)]
def R_octets_word_u8 (_ : Nat) : PtsR po_octets_word_u8.den := []
def E_octets_word_u8 : Env := E0
theorem q_octets_word_u8_4 (k : Nat) (d : sh_octets_word_u8_4.den) : evAt E_octets_word_u8 (tb (L_octets_word_u8 k) (R_octets_word_u8 k)) c_octets_word_u8 4 (bodyOf Tryz.f75) 0 (finK E_octets_word_u8 po_octets_word_u8 [.tmp 2]) (ptSt sh_octets_word_u8_4 d) = f_octets_word_u8_p4 (f_octets_word_u8_t k) d := by kernel_rfl
theorem q_octets_word_u8_m (k : Nat) (d : pi_octets_word_u8.den) : evCode E_octets_word_u8 (tb (L_octets_word_u8 k) (R_octets_word_u8 k)) c_octets_word_u8 (bodyOf Tryz.f75) 0 (finK E_octets_word_u8 po_octets_word_u8 [.tmp 2]) (startSt pi_octets_word_u8 20 d) = f_octets_word_u8_m (f_octets_word_u8_t k) d := by kernel_rfl
def g_octets_word_u8 (d : Unit × (((List Int) × Unit) × Unit)) : Option (Unit × ((Int × Unit) × Unit)) := lim fun k => f_octets_word_u8_m (f_octets_word_u8_t k) d
theorem ok_octets_word_u8 : FnOk Tryz.prog ET0 75 pi_octets_word_u8 po_octets_word_u8 g_octets_word_u8 :=
  fn_of_body (E := E_octets_word_u8) e0_ok (fn := Tryz.f75) Tryz.func75 (by kernel_rfl) (by kernel_rfl) [.tmp 2] (by kernel_rfl) (by kernel_rfl) (by decide) rfl c_octets_word_u8 L_octets_word_u8 R_octets_word_u8
    (by intro x hx d; simp only [L_octets_word_u8, List.mem_cons, List.not_mem_nil, or_false] at hx; subst hx; rfl)
    (by intro k x hx d out h; simp only [L_octets_word_u8, List.mem_cons, List.not_mem_nil, or_false] at hx; subst hx; exact (q_octets_word_u8_4 k d).trans h)
    (by intro x hx; cases hx)
    (by intro k x hx; cases hx)
    (by intro d out h; obtain ⟨k, hk⟩ := lim_some h; exact ⟨k, (q_octets_word_u8_m k d).trans hk⟩)

@[reducible] def pi_octets_Get_u8 : PSh := ⟨[], [.mk false [.v (.sl (.int .u8))], .mk false [vI]]⟩
@[reducible] def po_octets_Get_u8 : PSh := ⟨[], [.mk false [v8], .mk false [vE]]⟩
def f_octets_Get_u8_m (T : Unit) (d : Unit × (((List Int) × Unit) × ((Int × Unit) × Unit))) : Option (Unit × ((Int × Unit) × (((Option Int) × Unit) × Unit))) :=
  (g_octets_Size_u8 ((), ())).bind fun x1 =>
  (g_octets_from ((), (d.2.1, (d.2.2.1, x1.2)))).bind fun x2 =>
  let x3 : Bool := (!x2.2.2.1.1.isNone)
  bif x3 then (
  some ((), (((0 : Int), ()), x2.2.2)))
  else (
  (g_octets_word_u8 ((), (x2.2.1, ()))).bind fun x4 =>
  some ((), (x4.2.1, (((none : Option Int), ()), ()))))
def g_octets_Get_u8 (d : Unit × (((List Int) × Unit) × ((Int × Unit) × Unit))) : Option (Unit × ((Int × Unit) × (((Option Int) × Unit) × Unit))) := f_octets_Get_u8_m () d
theorem ok_octets_Get_u8 : FnOk Tryz.prog ET0 51 pi_octets_Get_u8 po_octets_Get_u8 g_octets_Get_u8 :=
  fn0 (E := (((E0.add 49 (typedSem pi_octets_from po_octets_from g_octets_from)).add 74 (typedSem pi_octets_Size_u8 po_octets_Size_u8 g_octets_Size_u8)).add 75 (typedSem pi_octets_word_u8 po_octets_word_u8 g_octets_word_u8))) (envOk_add (envOk_add (envOk_add e0_ok (typed_ok ok_octets_from)) (typed_ok ok_octets_Size_u8)) (typed_ok ok_octets_word_u8)) (fn := Tryz.f51) Tryz.func51 (by kernel_rfl) (by kernel_rfl) [.tmp 4, .tmp 5] (by kernel_rfl) rfl rfl rfl [] fun d => by kernel_rfl

@[reducible] def pi_head_First : PSh := ⟨[], [.mk false [.v (.sl (.int .u8))]]⟩
@[reducible] def po_head_First : PSh := ⟨[], [.mk false [vI], .mk false [vI], .mk false [vI], .mk false [vE]]⟩
def f_head_First_m (T : Unit) (d : Unit × (((List Int) × Unit) × Unit)) : Option (Unit × ((Int × Unit) × ((Int × Unit) × ((Int × Unit) × (((Option Int) × Unit) × Unit))))) :=
  (g_octets_Get_u8 ((), (d.2.1, (((0 : Int), ()), ())))).bind fun x1 =>
  let x2 : Bool := (!x1.2.2.1.1.isNone)
  bif x2 then (
  some ((), (((0 : Int), ()), (((0 : Int), ()), (((0 : Int), ()), x1.2.2)))))
  else (
  let x3 : Int := (ishr .u8 x1.2.1.1 (6 : Int))
  let x4 : Int := (iconv .i64 x3)
  let x5 : Int := (ishr .u8 x1.2.1.1 (3 : Int))
  let x6 : Int := (iand .u8 x5 (7 : Int))
  let x7 : Int := (iconv .i64 x6)
  let x8 : Int := (iand .u8 x1.2.1.1 (7 : Int))
  let x9 : Int := (iconv .i64 x8)
  some ((), ((x4, ()), ((x7, ()), ((x9, ()), (((none : Option Int), ()), ()))))))
def g_head_First (d : Unit × (((List Int) × Unit) × Unit)) : Option (Unit × ((Int × Unit) × ((Int × Unit) × ((Int × Unit) × (((Option Int) × Unit) × Unit))))) := f_head_First_m () d
theorem ok_head_First : FnOk Tryz.prog ET0 29 pi_head_First po_head_First g_head_First :=
  fn0 (E := (E0.add 51 (typedSem pi_octets_Get_u8 po_octets_Get_u8 g_octets_Get_u8))) (envOk_add e0_ok (typed_ok ok_octets_Get_u8)) (fn := Tryz.f29) Tryz.func29 (by kernel_rfl) (by kernel_rfl) [.tmp 2, .tmp 3, .tmp 4, .tmp 5] (by kernel_rfl) rfl rfl rfl [] fun d => by kernel_rfl

@[reducible] def pi_octets_Size_u16 : PSh := ⟨[], []⟩
@[reducible] def po_octets_Size_u16 : PSh := ⟨[], [.mk false [vI]]⟩
@[reducible] def TT_octets_Size_u16 : Type := (((Unit × ((Int × Unit) × ((Int × Unit) × Unit))) → Option (Unit × ((Int × Unit) × Unit))) × Unit)
@[reducible] def sh_octets_Size_u16_4 : PSh := ⟨[], [.any, .mk false [vI], .mk false [.v (.int .u16)], .any, .any, .any, .any, .any, .any, .any, .any, .any, .any, .any]⟩
def f_octets_Size_u16_p4 (T : TT_octets_Size_u16) (d : Unit × ((Int × Unit) × ((Int × Unit) × Unit))) : Option (Unit × ((Int × Unit) × Unit)) :=
  let x3 : Bool := (decide (d.2.2.1.1 > (0 : Int)))
  bif x3 then (
  let x4 : Int := (iadd .i64 d.2.1.1 (1 : Int))
  let x5 : Int := (iconv .u64 d.2.2.1.1)
  let x6 : Int := (ishr .u64 x5 (8 : Int))
  let x7 : Int := (iconv .u16 x6)
  (T.1 ((), ((x4, ()), ((x7, ()), ())))))
  else (
  some ((), (d.2.1, ())))
def f_octets_Size_u16_t : Nat → TT_octets_Size_u16
  | 0 => (fun _ => none, ())
  | k + 1 => (f_octets_Size_u16_p4 (f_octets_Size_u16_t k), ())
theorem t_octets_Size_u16 (k : Nat) : f_octets_Size_u16_t (k + 1) = (f_octets_Size_u16_p4 (f_octets_Size_u16_t k), ()) := rfl
def f_octets_Size_u16_m (T : TT_octets_Size_u16) (d : Unit × Unit) : Option (Unit × ((Int × Unit) × Unit)) :=
  let x1 : Int := (iconv .u16 (0 : Int))
  let x2 : Int := (inot .u16 x1)
  (T.1 ((), (((0 : Int), ()), ((x2, ()), ()))))
def c_octets_Size_u16 : List Nat := []
def L_octets_Size_u16 (k : Nat) : Pts po_octets_Size_u16.den := [(4, ⟨sh_octets_Size_u16_4, (f_octets_Size_u16_t k).1⟩)]
def R_octets_Size_u16 (_ : Nat) : PtsR po_octets_Size_u16.den := []
def E_octets_Size_u16 : Env := E0
theorem q_octets_Size_u16_4 (k : Nat) (d : sh_octets_Size_u16_4.den) : evAt E_octets_Size_u16 (tb (L_octets_Size_u16 k) (R_octets_Size_u16 k)) c_octets_Size_u16 4 (bodyOf Tryz.f77) 0 (finK E_octets_Size_u16 po_octets_Size_u16 [.tmp 0]) (ptSt sh_octets_Size_u16_4 d) = f_octets_Size_u16_p4 (f_octets_Size_u16_t k) d := by kernel_rfl
theorem q_octets_Size_u16_m (k : Nat) (d : pi_octets_Size_u16.den) : evCode E_octets_Size_u16 (tb (L_octets_Size_u16 k) (R_octets_Size_u16 k)) c_octets_Size_u16 (bodyOf Tryz.f77) 0 (finK E_octets_Size_u16 po_octets_Size_u16 [.tmp 0]) (startSt pi_octets_Size_u16 14 d) = f_octets_Size_u16_m (f_octets_Size_u16_t k) d := by kernel_rfl
def g_octets_Size_u16 (d : Unit × Unit) : Option (Unit × ((Int × Unit) × Unit)) := lim fun k => f_octets_Size_u16_m (f_octets_Size_u16_t k) d
theorem ok_octets_Size_u16 : FnOk Tryz.prog ET0 77 pi_octets_Size_u16 po_octets_Size_u16 g_octets_Size_u16 :=
  fn_of_body (E := E_octets_Size_u16) e0_ok (fn := Tryz.f77) Tryz.func77 (by kernel_rfl) (by kernel_rfl) [.tmp 0] (by kernel_rfl) (by kernel_rfl) (by decide) rfl c_octets_Size_u16 L_octets_Size_u16 R_octets_Size_u16
    (by intro x hx d; simp only [L_octets_Size_u16, List.mem_cons, List.not_mem_nil, or_false] at hx; subst hx; rfl)
    (by intro k x hx d out h; simp only [L_octets_Size_u16, List.mem_cons, List.not_mem_nil, or_false] at hx; subst hx; exact (q_octets_Size_u16_4 k d).trans h)
    (by intro x hx; cases hx)
    (by intro k x hx; cases hx)
    (by intro d out h; obtain ⟨k, hk⟩ := lim_some h; exact ⟨k, (q_octets_Size_u16_m k d).trans hk⟩)

@[reducible] def pi_slices_Chunk_byte_byte : PSh := ⟨[], [.mk false [.v (.sl (.int .u8))], .mk false [vI]]⟩
@[reducible] def po_slices_Chunk_byte_byte : PSh := ⟨[.var 22 [.v (.sl (.int .u8))], .var 3 [vI]], [.mk false [.fn 101 [0, 1]]]⟩
def f_slices_Chunk_byte_byte_m (T : Unit) (d : Unit × (((List Int) × Unit) × ((Int × Unit) × Unit))) : Option ((((List Int) × Unit) × ((Int × Unit) × Unit)) × (Unit × Unit)) :=
  let x1 : Bool := (decide (d.2.2.1.1 < (1 : Int)))
  bif x1 then (
  none)
  else (
  some (d.2, ((), ())))
def g_slices_Chunk_byte_byte (d : Unit × (((List Int) × Unit) × ((Int × Unit) × Unit))) : Option ((((List Int) × Unit) × ((Int × Unit) × Unit)) × (Unit × Unit)) := f_slices_Chunk_byte_byte_m () d
theorem ok_slices_Chunk_byte_byte : FnOk Tryz.prog ET0 94 pi_slices_Chunk_byte_byte po_slices_Chunk_byte_byte g_slices_Chunk_byte_byte :=
  fn0 (E := E0) e0_ok (fn := Tryz.f94) Tryz.func94 (by kernel_rfl) (by kernel_rfl) [.tmp 4] (by kernel_rfl) rfl rfl rfl [] fun d => by kernel_rfl

@[reducible] def pi_octets_word_u16 : PSh := ⟨[], [.mk false [.v (.sl (.int .u8))]]⟩
@[reducible] def po_octets_word_u16 : PSh := ⟨[], [.mk false [.v (.int .u16)]]⟩
@[reducible] def TT_octets_word_u16 : Type := (((Unit × ((Int × Unit) × (((List Int) × Unit) × ((Int × Unit) × ((Int × Unit) × Unit))))) → Option (Unit × ((Int × Unit) × Unit))) × Unit)
@[reducible] def sh_octets_word_u16_4 : PSh := ⟨[], [.any, .any, .any, .mk false [.v (.int .u64)], .any, .any, .mk false [.v (.sl (.int .u8))], .mk false [vI], .mk false [vI], .any, .any, .any, .any, .any, .any, .any, .any, .any, .any, .any]⟩
def f_octets_word_u16_p4 (T : TT_octets_word_u16) (d : Unit × ((Int × Unit) × (((List Int) × Unit) × ((Int × Unit) × ((Int × Unit) × Unit))))) : Option (Unit × ((Int × Unit) × Unit)) :=
  let x2 : Bool := (decide (d.2.2.2.2.1.1 < d.2.2.2.1.1))
  bif x2 then (
  bif decide ((0 : Int) ≤ d.2.2.2.2.1.1) && decide (d.2.2.2.2.1.1 < (d.2.2.1.1.length : Int)) then (
  let x3 : Int := (ishl .u64 d.2.1.1 (8 : Int))
  let x4 : Int := (iconv .u64 (gd (.int .u8) d.2.2.1.1 d.2.2.2.2.1.1))
  let x5 : Int := (ior .u64 x3 x4)
  let x6 : Int := (iadd .i64 d.2.2.2.2.1.1 (1 : Int))
  (T.1 ((), ((x5, ()), (d.2.2.1, (d.2.2.2.1, ((x6, ()), ())))))))
  else none)
  else (
  let x7 : Int := (iconv .u16 d.2.1.1)
  some ((), ((x7, ()), ())))
def f_octets_word_u16_t : Nat → TT_octets_word_u16
  | 0 => (fun _ => none, ())
  | k + 1 => (f_octets_word_u16_p4 (f_octets_word_u16_t k), ())
theorem t_octets_word_u16 (k : Nat) : f_octets_word_u16_t (k + 1) = (f_octets_word_u16_p4 (f_octets_word_u16_t k), ()) := rfl
def f_octets_word_u16_m (T : TT_octets_word_u16) (d : Unit × (((List Int) × Unit) × Unit)) : Option (Unit × ((Int × Unit) × Unit)) :=
  let x1 : Int := (d.2.1.1.length : Int)
  (T.1 ((), (((0 : Int), ()), (d.2.1, ((x1, ()), (((0 : Int), ()), ()))))))
def c_octets_word_u16 : List Nat := []
def L_octets_word_u16 (k : Nat) : Pts po_octets_word_u16.den := [(4, ⟨sh_octets_word_u16_4, (f_octets_word_u16_t k).1⟩)]
def R_octets_word_u16 (_ : Nat) : PtsR po_octets_word_u16.den := []
def E_octets_word_u16 : Env := E0
theorem q_octets_word_u16_4 (k : Nat) (d : sh_octets_word_u16_4.den) : evAt E_octets_word_u16 (tb (L_octets_word_u16 k) (R_octets_word_u16 k)) c_octets_word_u16 4 (bodyOf Tryz.f95) 0 (finK E_octets_word_u16 po_octets_word_u16 [.tmp 2]) (ptSt sh_octets_word_u16_4 d) = f_octets_word_u16_p4 (f_octets_word_u16_t k) d := by kernel_rfl
theorem q_octets_word_u16_m (k : Nat) (d : pi_octets_word_u16.den) : evCode E_octets_word_u16 (tb (L_octets_word_u16 k) (R_octets_word_u16 k)) c_octets_word_u16 (bodyOf Tryz.f95) 0 (finK E_octets_word_u16 po_octets_word_u16 [.tmp 2]) (startSt pi_octets_word_u16 20 d) = f_octets_word_u16_m (f_octets_word_u16_t k) d := by kernel_rfl
def g_octets_word_u16 (d : Unit × (((List Int) × Unit) × Unit)) : Option (Unit × ((Int × Unit) × Unit)) := lim fun k => f_octets_word_u16_m (f_octets_word_u16_t k) d
theorem ok_octets_word_u16 : FnOk Tryz.prog ET0 95 pi_octets_word_u16 po_octets_word_u16 g_octets_word_u16 :=
  fn_of_body (E := E_octets_word_u16) e0_ok (fn := Tryz.f95) Tryz.func95 (by kernel_rfl) (by kernel_rfl) [.tmp 2] (by kernel_rfl) (by kernel_rfl) (by decide) rfl c_octets_word_u16 L_octets_word_u16 R_octets_word_u16
    (by intro x hx d; simp only [L_octets_word_u16, List.mem_cons, List.not_mem_nil, or_false] at hx; subst hx; rfl)
    (by intro k x hx d out h; simp only [L_octets_word_u16, List.mem_cons, List.not_mem_nil, or_false] at hx; subst hx; exact (q_octets_word_u16_4 k d).trans h)
    (by intro x hx; cases hx)
    (by intro k x hx; cases hx)
    (by intro d out h; obtain ⟨k, hk⟩ := lim_some h; exact ⟨k, (q_octets_word_u16_m k d).trans hk⟩)

/- slices.Chunk[[]byte,byte]$1 -/
@[reducible] def TY_slices_Chunk_byte_byte_1 : Type := (((Unit × (((Option (List Int)) × Unit) × (((Option Int) × Unit) × ((Int × Unit) × Unit)))) → Option (List (List Int))) × Unit)
@[reducible] def sh_slices_Chunk_byte_byte_1_1 : PSh := ⟨[], [.any, .mk false [.v (.nptr (.sl (.int .u8)))], .mk false [.v (.nptr (.int .i64))], .any, .mk false [vI], .any, .any, .any, .any, .any, .any, .any, .any, .any, .any, .any, .any, .any, .any, .any, .any, .any, .any, .any, .any, .any, .any, .any, .any, .any, .any]⟩
def f_slices_Chunk_byte_byte_1_p1 (T : TY_slices_Chunk_byte_byte_1) (d : Unit × (((Option (List Int)) × Unit) × (((Option Int) × Unit) × ((Int × Unit) × Unit)))) : Option (List (List Int)) :=
  d.2.1.1.bind fun x1 =>
  let x2 : Int := (x1.length : Int)
  let x3 : Bool := (decide (d.2.2.2.1.1 < x2))
  bif x3 then (
  d.2.2.1.1.bind fun x4 =>
  d.2.1.1.bind fun x5 =>
  bif decide ((0 : Int) ≤ d.2.2.2.1.1) && decide (d.2.2.2.1.1 ≤ (x5.length : Int)) && decide ((x5.length : Int) ≤ (x5.length : Int)) then (
  let x6 : (List Int) := (List.drop (Int.toNat d.2.2.2.1.1) (List.take (Int.toNat (x5.length : Int)) x5))
  let x7 : Int := (x6.length : Int)
  let x8 : Int := (if x7 < x4 then x7 else x4)
  d.2.1.1.bind fun x9 =>
  let x10 : Int := (iadd .i64 d.2.2.2.1.1 x8)
  let x11 : Int := (iadd .i64 d.2.2.2.1.1 x8)
  bif decide ((0 : Int) ≤ d.2.2.2.1.1) && decide (d.2.2.2.1.1 ≤ x10) && decide (x10 ≤ x11) && decide (x11 ≤ (x9.length : Int)) then (
  let x12 : (List Int) := (List.drop (Int.toNat d.2.2.2.1.1) (List.take (Int.toNat x10) x9))
  (some ([] : List (List Int))).bind fun (x13 : List (List Int)) =>
  bif x13.isEmpty then (
  (d.2.2.1.1.bind fun x15 =>
  let x16 : Int := (iadd .i64 d.2.2.2.1.1 x15)
  (T.1 ((), ((d.2.1.1, ()), ((d.2.2.1.1, ()), ((x16, ()), ())))))).bind fun (x14 : List (List Int)) =>
  some (x12 :: x14))
  else none)
  else none)
  else none)
  else (
  some ([] : List (List Int)))
def f_slices_Chunk_byte_byte_1_t : Nat → TY_slices_Chunk_byte_byte_1
  | 0 => (fun _ => none, ())
  | k + 1 => (f_slices_Chunk_byte_byte_1_p1 (f_slices_Chunk_byte_byte_1_t k), ())
theorem t_slices_Chunk_byte_byte_1 (k : Nat) : f_slices_Chunk_byte_byte_1_t (k + 1) = (f_slices_Chunk_byte_byte_1_p1 (f_slices_Chunk_byte_byte_1_t k), ()) := rfl
def f_slices_Chunk_byte_byte_1_m (T : TY_slices_Chunk_byte_byte_1) (d : ((List Int) × (Int × Unit))) : Option (List (List Int)) :=
  (T.1 ((), (((some d.1), ()), (((some d.2.1), ()), (((0 : Int), ()), ())))))
def L_slices_Chunk_byte_byte_1 (k : Nat) : Pts (List (List Int)) := [(1, ⟨sh_slices_Chunk_byte_byte_1_1, (f_slices_Chunk_byte_byte_1_t k).1⟩)]
def F_slices_Chunk_byte_byte_1 (d : ((List Int) × (Int × Unit))) : Option (List (List Int)) := lim fun k => f_slices_Chunk_byte_byte_1_m (f_slices_Chunk_byte_byte_1_t k) d
def sq_slices_Chunk_byte_byte_1 : SeqSem := ⟨[(22, (.sl (.int .u8))), (3, (.int .i64))], [false, false], (.sl (.int .u8)), F_slices_Chunk_byte_byte_1⟩
def E_slices_Chunk_byte_byte_1 : Env := E0
theorem q_slices_Chunk_byte_byte_1_1 (k : Nat) (d : Unit × (((Option (List Int)) × Unit) × (((Option Int) × Unit) × ((Int × Unit) × Unit)))) : evAtY E_slices_Chunk_byte_byte_1 (.sl (.int .u8)) (tabY (L_slices_Chunk_byte_byte_1 k)) 1 (bodyOf Tryz.f101) 0 finY (ptSt sh_slices_Chunk_byte_byte_1_1 d) = f_slices_Chunk_byte_byte_1_p1 (f_slices_Chunk_byte_byte_1_t k) d := by kernel_rfl
theorem q_slices_Chunk_byte_byte_1_m (k : Nat) (d : ((List Int) × (Int × Unit))) : evCodeY E_slices_Chunk_byte_byte_1 (.sl (.int .u8)) (tabY (L_slices_Chunk_byte_byte_1 k)) (bodyOf Tryz.f101) 0 finY (startY sq_slices_Chunk_byte_byte_1.ts sq_slices_Chunk_byte_byte_1.wr 31 d) = f_slices_Chunk_byte_byte_1_m (f_slices_Chunk_byte_byte_1_t k) d := by kernel_rfl
theorem okq_slices_Chunk_byte_byte_1 : SeqOk Tryz.prog ET0 101 sq_slices_Chunk_byte_byte_1 := by
  refine seq_of_body (E := E_slices_Chunk_byte_byte_1) e0_ok rfl rfl (fn := Tryz.f101) Tryz.func101 (by kernel_rfl) (by kernel_rfl) (by kernel_rfl) (by kernel_rfl) L_slices_Chunk_byte_byte_1 ?_ ?_ ?_ (by intro d l h; obtain ⟨k, hk⟩ := lim_some h; exact ⟨k, (q_slices_Chunk_byte_byte_1_m k d).trans hk⟩)
  · intro x hx d
    rcases List.mem_cons.1 hx with rfl | hx
    · rfl
    ·
      cases hx
  · intro k x hx
    rcases List.mem_cons.1 hx with rfl | hx
    · rfl
    ·
      cases hx
  · intro k x hx d out h
    rcases List.mem_cons.1 hx with rfl | hx
    · exact (q_slices_Chunk_byte_byte_1_1 k d).trans h
    ·
      cases hx

@[reducible] def pi_octets_List_u16 : PSh := ⟨[], [.mk false [.v (.sl (.int .u8))], .mk false [vI], .mk false [vI]]⟩
@[reducible] def po_octets_List_u16 : PSh := ⟨[.row 39 (.int .u16)], [.mk false [.osl 0], .mk false [vE]]⟩
@[reducible] def TT_octets_List_u16 : Type := ((List (List Int) → ((Unit × ((List Int) × Unit)) × (Unit × Unit)) → Option (((List Int) × Unit) × (Unit × (((Option Int) × Unit) × Unit)))) × Unit)
@[reducible] def sh_octets_List_u16_10 : PSh := ⟨[.var 149 [.osl 1], .row 39 (.int .u16)], [.any, .any, .any, .any, .any, .any, .any, .any, .any, .mk false [.ref 0 0], .any, .any, .any, .any, .any, .any, .any, .any, .any, .any, .any, .any, .any, .any, .any, .any, .any, .any, .any, .any, .any, .any, .any, .any, .any, .any, .any, .any, .any, .any, .any, .any, .any, .any, .any, .any, .any, .any, .any, .any, .any, .any, .any]⟩
def f_octets_List_u16_p10 (T : TT_octets_List_u16) (l : List (List Int)) (d : (Unit × ((List Int) × Unit)) × (Unit × Unit)) : Option (((List Int) × Unit) × (Unit × (((Option Int) × Unit) × Unit))) :=
  bif l.isEmpty then (
  some (d.1.2, ((), (((none : Option Int), ()), ()))))
  else (
  let x19 : (List Int) := (gd (.sl (.int .u8)) l (0 : Int))
  (g_octets_word_u16 ((), ((x19, ()), ()))).bind fun x20 =>
  let x21 : (List Int) := ([x20.2.1.1] : List Int)
  bif decide (((d.1.2.1.length + x21.length) * 2 : Nat) ≤ 140737488355328) && decide (d.1.2.1.length + x21.length ≤ 9223372036854775807) then (
  let x22 : (List Int) := (d.1.2.1 ++ x21)
  (T.1 (List.drop 1 l) (((), (x22, ())), ((), ()))))
  else none)
def f_octets_List_u16_t : Nat → TT_octets_List_u16
  | 0 => (fun _ _ => none, ())
  | k + 1 => (f_octets_List_u16_p10 (f_octets_List_u16_t k), ())
theorem t_octets_List_u16 (k : Nat) : f_octets_List_u16_t (k + 1) = (f_octets_List_u16_p10 (f_octets_List_u16_t k), ()) := rfl
def f_octets_List_u16_m (T : TT_octets_List_u16) (d : Unit × (((List Int) × Unit) × ((Int × Unit) × ((Int × Unit) × Unit)))) : Option (((List Int) × Unit) × (Unit × (((Option Int) × Unit) × Unit))) :=
  (g_octets_Size_u16 ((), ())).bind fun x1 =>
  let x2 : Bool := (decide (d.2.2.1.1 < (0 : Int)))
  bif x2 then (
  let x3 : (Option Int) := (some (1 : Int))
  some ((([] : List Int), ()), ((), ((x3, ()), ()))))
  else (
  let x4 : Int := (d.2.1.1.length : Int)
  let x5 : Bool := (decide (d.2.2.1.1 > x4))
  bif x5 then (
  let x6 : (Option Int) := (some (1 : Int))
  some ((([] : List Int), ()), ((), ((x6, ()), ()))))
  else (
  let x7 : Bool := (decide (d.2.2.2.1.1 < (0 : Int)))
  bif x7 then (
  let x8 : (Option Int) := (some (1 : Int))
  some ((([] : List Int), ()), ((), ((x8, ()), ()))))
  else (
  let x9 : Int := (d.2.1.1.length : Int)
  let x10 : Int := (isub .i64 x9 d.2.2.1.1)
  bif (x1.2.1.1 == 0) then (
  none)
  else (
  let x11 : Int := (iquo .i64 x10 x1.2.1.1)
  let x12 : Bool := (decide (d.2.2.2.1.1 > x11))
  bif x12 then (
  let x13 : (Option Int) := (some (4 : Int))
  some ((([] : List Int), ()), ((), ((x13, ()), ()))))
  else (
  let x14 : Int := (imul .i64 d.2.2.2.1.1 x1.2.1.1)
  let x15 : Int := (iadd .i64 d.2.2.1.1 x14)
  bif decide ((0 : Int) ≤ d.2.2.1.1) && decide (d.2.2.1.1 ≤ x15) && decide (x15 ≤ (d.2.1.1.length : Int)) then (
  let x16 : (List Int) := (List.drop (Int.toNat d.2.2.1.1) (List.take (Int.toNat x15) d.2.1.1))
  (g_slices_Chunk_byte_byte ((), ((x16, ()), x1.2))).bind fun x17 =>
  (F_slices_Chunk_byte_byte_1 (x17.1.1.1, (x17.1.2.1.1, ()))).bind fun x18 =>
  (T.1 x18 (((), (([] : List Int), ())), ((), ()))))
  else none)))))
def c_octets_List_u16 : List Nat := []
def L_octets_List_u16 (_ : Nat) : Pts po_octets_List_u16.den := []
def R_octets_List_u16 (k : Nat) : PtsR po_octets_List_u16.den := [(10, ⟨(sh_octets_List_u16_10, (.sl (.int .u8))), (f_octets_List_u16_t k).1⟩)]
def E_octets_List_u16 : Env := ((((E0.add 77 (typedSem pi_octets_Size_u16 po_octets_Size_u16 g_octets_Size_u16)).add 94 (typedSem pi_slices_Chunk_byte_byte po_slices_Chunk_byte_byte g_slices_Chunk_byte_byte)).add 95 (typedSem pi_octets_word_u16 po_octets_word_u16 g_octets_word_u16)).sq 101 sq_slices_Chunk_byte_byte_1)
theorem q_octets_List_u16_10 (k : Nat) (l : List (List Int)) (d : sh_octets_List_u16_10.den) : evAtR E_octets_List_u16 (tb (L_octets_List_u16 k) (R_octets_List_u16 k)) c_octets_List_u16 10 (bodyOf Tryz.f76) 0 (finK E_octets_List_u16 po_octets_List_u16 [.tmp 6, .tmp 7]) (.sl (.int .u8)) l (ptSt sh_octets_List_u16_10 d) = f_octets_List_u16_p10 (f_octets_List_u16_t k) l d := by kernel_rfl
theorem q_octets_List_u16_m (k : Nat) (d : pi_octets_List_u16.den) : evCode E_octets_List_u16 (tb (L_octets_List_u16 k) (R_octets_List_u16 k)) c_octets_List_u16 (bodyOf Tryz.f76) 0 (finK E_octets_List_u16 po_octets_List_u16 [.tmp 6, .tmp 7]) (startSt pi_octets_List_u16 53 d) = f_octets_List_u16_m (f_octets_List_u16_t k) d := by kernel_rfl
def g_octets_List_u16 (d : Unit × (((List Int) × Unit) × ((Int × Unit) × ((Int × Unit) × Unit)))) : Option (((List Int) × Unit) × (Unit × (((Option Int) × Unit) × Unit))) := lim fun k => f_octets_List_u16_m (f_octets_List_u16_t k) d
theorem ok_octets_List_u16 : FnOk Tryz.prog ET0 76 pi_octets_List_u16 po_octets_List_u16 g_octets_List_u16 :=
  fn_of_body (E := E_octets_List_u16) (envOk_sq (envOk_add (envOk_add (envOk_add e0_ok (typed_ok ok_octets_Size_u16)) (typed_ok ok_slices_Chunk_byte_byte)) (typed_ok ok_octets_word_u16)) okq_slices_Chunk_byte_byte_1) (fn := Tryz.f76) Tryz.func76 (by kernel_rfl) (by kernel_rfl) [.tmp 6, .tmp 7] (by kernel_rfl) (by kernel_rfl) (by decide) rfl c_octets_List_u16 L_octets_List_u16 R_octets_List_u16
    (by intro x hx; cases hx)
    (by intro k x hx; cases hx)
    (by intro x hx l d; simp only [R_octets_List_u16, List.mem_cons, List.not_mem_nil, or_false] at hx; subst hx; rfl)
    (by intro k x hx l d out h; simp only [R_octets_List_u16, List.mem_cons, List.not_mem_nil, or_false] at hx; subst hx; exact (q_octets_List_u16_10 k l d).trans h)
    (by intro d out h; obtain ⟨k, hk⟩ := lim_some h; exact ⟨k, (q_octets_List_u16_m k d).trans hk⟩)

@[reducible] def pi_stamp_two_u16 : PSh := ⟨[], [.mk false [.v (.sl (.int .u8))]]⟩
@[reducible] def po_stamp_two_u16 : PSh := ⟨[], [.mk false [.v (.int .u16)], .mk false [.v (.int .u16)], .mk false [vE]]⟩
def f_stamp_two_u16_m (T : Unit) (d : Unit × (((List Int) × Unit) × Unit)) : Option (Unit × ((Int × Unit) × ((Int × Unit) × (((Option Int) × Unit) × Unit)))) :=
  (g_octets_List_u16 ((), (d.2.1, (((0 : Int), ()), (((2 : Int), ()), ()))))).bind fun x1 =>
  let x2 : Bool := (!x1.2.2.1.1.isNone)
  bif x2 then (
  let x3 : (Option Int) := (some (2 : Int))
  some ((), (((0 : Int), ()), (((0 : Int), ()), ((x3, ()), ())))))
  else (
  let x4 : Int := (d.2.1.1.length : Int)
  (g_octets_Size_u16 ((), ())).bind fun x5 =>
  let x6 : Int := (imul .i64 (2 : Int) x5.2.1.1)
  let x7 : Bool := (x4 != x6)
  bif x7 then (
  let x8 : (Option Int) := (some (2 : Int))
  some ((), (((0 : Int), ()), (((0 : Int), ()), ((x8, ()), ())))))
  else (
  bif decide ((0 : Int) ≤ (0 : Int)) && decide ((0 : Int) < (x1.1.1.length : Int)) then (
  bif decide ((0 : Int) ≤ (1 : Int)) && decide ((1 : Int) < (x1.1.1.length : Int)) then (
  some ((), (((gd (.int .u16) x1.1.1 (0 : Int)), ()), (((gd (.int .u16) x1.1.1 (1 : Int)), ()), (((none : Option Int), ()), ())))))
  else none)
  else none))
def g_stamp_two_u16 (d : Unit × (((List Int) × Unit) × Unit)) : Option (Unit × ((Int × Unit) × ((Int × Unit) × (((Option Int) × Unit) × Unit)))) := f_stamp_two_u16_m () d
theorem ok_stamp_two_u16 : FnOk Tryz.prog ET0 52 pi_stamp_two_u16 po_stamp_two_u16 g_stamp_two_u16 :=
  fn0 (E := ((E0.add 76 (typedSem pi_octets_List_u16 po_octets_List_u16 g_octets_List_u16)).add 77 (typedSem pi_octets_Size_u16 po_octets_Size_u16 g_octets_Size_u16))) (envOk_add (envOk_add e0_ok (typed_ok ok_octets_List_u16)) (typed_ok ok_octets_Size_u16)) (fn := Tryz.f52) Tryz.func52 (by kernel_rfl) (by kernel_rfl) [.tmp 2, .tmp 3, .tmp 4] (by kernel_rfl) rfl rfl rfl [] fun d => by kernel_rfl

@[reducible] def pi_stamp_ParseShort : PSh := ⟨[], [.mk false [.v (.sl (.int .u8))]]⟩
@[reducible] def po_stamp_ParseShort : PSh := ⟨[], [.mk true [.v (.int .u16), .v (.int .u16)], .mk false [vE]]⟩
def f_stamp_ParseShort_m (T : Unit) (d : Unit × (((List Int) × Unit) × Unit)) : Option (Unit × ((Int × (Int × Unit)) × (((Option Int) × Unit) × Unit))) :=
  (g_stamp_two_u16 ((), d.2)).bind fun x1 =>
  some ((), ((x1.2.1.1, x1.2.2.1), x1.2.2.2))
def g_stamp_ParseShort (d : Unit × (((List Int) × Unit) × Unit)) : Option (Unit × ((Int × (Int × Unit)) × (((Option Int) × Unit) × Unit))) := f_stamp_ParseShort_m () d
theorem ok_stamp_ParseShort : FnOk Tryz.prog ET0 30 pi_stamp_ParseShort po_stamp_ParseShort g_stamp_ParseShort :=
  fn0 (E := (E0.add 52 (typedSem pi_stamp_two_u16 po_stamp_two_u16 g_stamp_two_u16))) (envOk_add e0_ok (typed_ok ok_stamp_two_u16)) (fn := Tryz.f30) Tryz.func30 (by kernel_rfl) (by kernel_rfl) [.cell 2 41, .tmp 3] (by kernel_rfl) rfl rfl rfl [] fun d => by kernel_rfl

@[reducible] def pi_head_Head_longs : PSh := ⟨[], [.mk false [.v (.nptr (.pair (.int .i64) (.pair (.int .i64) (.pair (.int .i64) (.pair (.int .u8) (.pair (.int .i8) (.pair (.int .i8) (.pair (.pair (.int .u16) (.int .u16)) (.pair (.pair (.int .u16) (.int .u16)) (.pair (.pair (.int .u8) (.pair (.int .u8) (.pair (.int .u8) (.int .u8)))) (.pair (.pair (.int .u32) (.int .u32)) (.pair (.pair (.int .u32) (.int .u32)) (.pair (.pair (.int .u32) (.int .u32)) (.pair (.int .u32) (.int .u32)))))))))))))))]]⟩
@[reducible] def po_head_Head_longs : PSh := ⟨[], [.mk true [.v (.nptr (.pair (.int .u32) (.int .u32))), .v (.nptr (.pair (.int .u32) (.int .u32))), .v (.nptr (.pair (.int .u32) (.int .u32))), .v (.nptr (.pair (.int .u32) (.int .u32)))]]⟩
def f_head_Head_longs_m (T : Unit) (d : Unit × (((Option (Int × (Int × (Int × (Int × (Int × (Int × ((Int × Int) × ((Int × Int) × ((Int × (Int × (Int × Int))) × ((Int × Int) × ((Int × Int) × ((Int × Int) × (Int × Int)))))))))))))) × Unit) × Unit)) : Option (Unit × (((Option (Int × Int)) × ((Option (Int × Int)) × ((Option (Int × Int)) × ((Option (Int × Int)) × Unit)))) × Unit)) :=
  d.2.1.1.bind fun x1 =>
  d.2.1.1.bind fun x2 =>
  d.2.1.1.bind fun x3 =>
  d.2.1.1.bind fun x4 =>
  some ((), (((some x1.2.2.2.2.2.2.2.2.2.1), ((some x2.2.2.2.2.2.2.2.2.2.2.1), ((some x3.2.2.2.2.2.2.2.2.2.2.2.1), ((some x4.2.2.2.2.2.2.2.2.2.2.2.2), ())))), ()))
def g_head_Head_longs (d : Unit × (((Option (Int × (Int × (Int × (Int × (Int × (Int × ((Int × Int) × ((Int × Int) × ((Int × (Int × (Int × Int))) × ((Int × Int) × ((Int × Int) × ((Int × Int) × (Int × Int)))))))))))))) × Unit) × Unit)) : Option (Unit × (((Option (Int × Int)) × ((Option (Int × Int)) × ((Option (Int × Int)) × ((Option (Int × Int)) × Unit)))) × Unit)) := f_head_Head_longs_m () d
theorem ok_head_Head_longs : FnOk Tryz.prog ET0 31 pi_head_Head_longs po_head_Head_longs g_head_Head_longs :=
  fn0 (E := E0) e0_ok (fn := Tryz.f31) Tryz.func31 (by kernel_rfl) (by kernel_rfl) [.cell 2 74] (by kernel_rfl) rfl rfl rfl [] fun d => by kernel_rfl

@[reducible] def pi_octets_Size_u32 : PSh := ⟨[], []⟩
@[reducible] def po_octets_Size_u32 : PSh := ⟨[], [.mk false [vI]]⟩
@[reducible] def TT_octets_Size_u32 : Type := (((Unit × ((Int × Unit) × ((Int × Unit) × Unit))) → Option (Unit × ((Int × Unit) × Unit))) × Unit)
@[reducible] def sh_octets_Size_u32_4 : PSh := ⟨[], [.any, .mk false [vI], .mk false [.v (.int .u32)], .any, .any, .any, .any, .any, .any, .any, .any, .any, .any, .any]⟩
def f_octets_Size_u32_p4 (T : TT_octets_Size_u32) (d : Unit × ((Int × Unit) × ((Int × Unit) × Unit))) : Option (Unit × ((Int × Unit) × Unit)) :=
  let x3 : Bool := (decide (d.2.2.1.1 > (0 : Int)))
  bif x3 then (
  let x4 : Int := (iadd .i64 d.2.1.1 (1 : Int))
  let x5 : Int := (iconv .u64 d.2.2.1.1)
  let x6 : Int := (ishr .u64 x5 (8 : Int))
  let x7 : Int := (iconv .u32 x6)
  (T.1 ((), ((x4, ()), ((x7, ()), ())))))
  else (
  some ((), (d.2.1, ())))
def f_octets_Size_u32_t : Nat → TT_octets_Size_u32
  | 0 => (fun _ => none, ())
  | k + 1 => (f_octets_Size_u32_p4 (f_octets_Size_u32_t k), ())
theorem t_octets_Size_u32 (k : Nat) : f_octets_Size_u32_t (k + 1) = (f_octets_Size_u32_p4 (f_octets_Size_u32_t k), ()) := rfl
def f_octets_Size_u32_m (T : TT_octets_Size_u32) (d : Unit × Unit) : Option (Unit × ((Int × Unit) × Unit)) :=
  let x1 : Int := (iconv .u32 (0 : Int))
  let x2 : Int := (inot .u32 x1)
  (T.1 ((), (((0 : Int), ()), ((x2, ()), ()))))
def c_octets_Size_u32 : List Nat := []
def L_octets_Size_u32 (k : Nat) : Pts po_octets_Size_u32.den := [(4, ⟨sh_octets_Size_u32_4, (f_octets_Size_u32_t k).1⟩)]
def R_octets_Size_u32 (_ : Nat) : PtsR po_octets_Size_u32.den := []
def E_octets_Size_u32 : Env := E0
theorem q_octets_Size_u32_4 (k : Nat) (d : sh_octets_Size_u32_4.den) : evAt E_octets_Size_u32 (tb (L_octets_Size_u32 k) (R_octets_Size_u32 k)) c_octets_Size_u32 4 (bodyOf Tryz.f79) 0 (finK E_octets_Size_u32 po_octets_Size_u32 [.tmp 0]) (ptSt sh_octets_Size_u32_4 d) = f_octets_Size_u32_p4 (f_octets_Size_u32_t k) d := by kernel_rfl
theorem q_octets_Size_u32_m (k : Nat) (d : pi_octets_Size_u32.den) : evCode E_octets_Size_u32 (tb (L_octets_Size_u32 k) (R_octets_Size_u32 k)) c_octets_Size_u32 (bodyOf Tryz.f79) 0 (finK E_octets_Size_u32 po_octets_Size_u32 [.tmp 0]) (startSt pi_octets_Size_u32 14 d) = f_octets_Size_u32_m (f_octets_Size_u32_t k) d := by kernel_rfl
def g_octets_Size_u32 (d : Unit × Unit) : Option (Unit × ((Int × Unit) × Unit)) := lim fun k => f_octets_Size_u32_m (f_octets_Size_u32_t k) d
theorem ok_octets_Size_u32 : FnOk Tryz.prog ET0 79 pi_octets_Size_u32 po_octets_Size_u32 g_octets_Size_u32 :=
  fn_of_body (E := E_octets_Size_u32) e0_ok (fn := Tryz.f79) Tryz.func79 (by kernel_rfl) (by kernel_rfl) [.tmp 0] (by kernel_rfl) (by kernel_rfl) (by decide) rfl c_octets_Size_u32 L_octets_Size_u32 R_octets_Size_u32
    (by intro x hx d; simp only [L_octets_Size_u32, List.mem_cons, List.not_mem_nil, or_false] at hx; subst hx; rfl)
    (by intro k x hx d out h; simp only [L_octets_Size_u32, List.mem_cons, List.not_mem_nil, or_false] at hx; subst hx; exact (q_octets_Size_u32_4 k d).trans h)
    (by intro x hx; cases hx)
    (by intro k x hx; cases hx)
    (by intro d out h; obtain ⟨k, hk⟩ := lim_some h; exact ⟨k, (q_octets_Size_u32_m k d).trans hk⟩)

@[reducible] def pi_octets_word_u32 : PSh := ⟨[], [.mk false [.v (.sl (.int .u8))]]⟩
@[reducible] def po_octets_word_u32 : PSh := ⟨[], [.mk false [.v (.int .u32)]]⟩
@[reducible] def TT_octets_word_u32 : Type := (((Unit × ((Int × Unit) × (((List Int) × Unit) × ((Int × Unit) × ((Int × Unit) × Unit))))) → Option (Unit × ((Int × Unit) × Unit))) × Unit)
@[reducible] def sh_octets_word_u32_4 : PSh := ⟨[], [.any, .any, .any, .mk false [.v (.int .u64)], .any, .any, .mk false [.v (.sl (.int .u8))], .mk false [vI], .mk false [vI], .any, .any, .any, .any, .any, .any, .any, .any, .any, .any, .any]⟩
def f_octets_word_u32_p4 (T : TT_octets_word_u32) (d : Unit × ((Int × Unit) × (((List Int) × Unit) × ((Int × Unit) × ((Int × Unit) × Unit))))) : Option (Unit × ((Int × Unit) × Unit)) :=
  let x2 : Bool := (decide (d.2.2.2.2.1.1 < d.2.2.2.1.1))
  bif x2 then (
  bif decide ((0 : Int) ≤ d.2.2.2.2.1.1) && decide (d.2.2.2.2.1.1 < (d.2.2.1.1.length : Int)) then (
  let x3 : Int := (ishl .u64 d.2.1.1 (8 : Int))
  let x4 : Int := (iconv .u64 (gd (.int .u8) d.2.2.1.1 d.2.2.2.2.1.1))
  let x5 : Int := (ior .u64 x3 x4)
  let x6 : Int := (iadd .i64 d.2.2.2.2.1.1 (1 : Int))
  (T.1 ((), ((x5, ()), (d.2.2.1, (d.2.2.2.1, ((x6, ()), ())))))))
  else none)
  else (
  let x7 : Int := (iconv .u32 d.2.1.1)
  some ((), ((x7, ()), ())))
def f_octets_word_u32_t : Nat → TT_octets_word_u32
  | 0 => (fun _ => none, ())
  | k + 1 => (f_octets_word_u32_p4 (f_octets_word_u32_t k), ())
theorem t_octets_word_u32 (k : Nat) : f_octets_word_u32_t (k + 1) = (f_octets_word_u32_p4 (f_octets_word_u32_t k), ()) := rfl
def f_octets_word_u32_m (T : TT_octets_word_u32) (d : Unit × (((List Int) × Unit) × Unit)) : Option (Unit × ((Int × Unit) × Unit)) :=
  let x1 : Int := (d.2.1.1.length : Int)
  (T.1 ((), (((0 : Int), ()), (d.2.1, ((x1, ()), (((0 : Int), ()), ()))))))
def c_octets_word_u32 : List Nat := []
def L_octets_word_u32 (k : Nat) : Pts po_octets_word_u32.den := [(4, ⟨sh_octets_word_u32_4, (f_octets_word_u32_t k).1⟩)]
def R_octets_word_u32 (_ : Nat) : PtsR po_octets_word_u32.den := []
def E_octets_word_u32 : Env := E0
theorem q_octets_word_u32_4 (k : Nat) (d : sh_octets_word_u32_4.den) : evAt E_octets_word_u32 (tb (L_octets_word_u32 k) (R_octets_word_u32 k)) c_octets_word_u32 4 (bodyOf Tryz.f96) 0 (finK E_octets_word_u32 po_octets_word_u32 [.tmp 2]) (ptSt sh_octets_word_u32_4 d) = f_octets_word_u32_p4 (f_octets_word_u32_t k) d := by kernel_rfl
theorem q_octets_word_u32_m (k : Nat) (d : pi_octets_word_u32.den) : evCode E_octets_word_u32 (tb (L_octets_word_u32 k) (R_octets_word_u32 k)) c_octets_word_u32 (bodyOf Tryz.f96) 0 (finK E_octets_word_u32 po_octets_word_u32 [.tmp 2]) (startSt pi_octets_word_u32 20 d) = f_octets_word_u32_m (f_octets_word_u32_t k) d := by kernel_rfl
def g_octets_word_u32 (d : Unit × (((List Int) × Unit) × Unit)) : Option (Unit × ((Int × Unit) × Unit)) := lim fun k => f_octets_word_u32_m (f_octets_word_u32_t k) d
theorem ok_octets_word_u32 : FnOk Tryz.prog ET0 96 pi_octets_word_u32 po_octets_word_u32 g_octets_word_u32 :=
  fn_of_body (E := E_octets_word_u32) e0_ok (fn := Tryz.f96) Tryz.func96 (by kernel_rfl) (by kernel_rfl) [.tmp 2] (by kernel_rfl) (by kernel_rfl) (by decide) rfl c_octets_word_u32 L_octets_word_u32 R_octets_word_u32
    (by intro x hx d; simp only [L_octets_word_u32, List.mem_cons, List.not_mem_nil, or_false] at hx; subst hx; rfl)
    (by intro k x hx d out h; simp only [L_octets_word_u32, List.mem_cons, List.not_mem_nil, or_false] at hx; subst hx; exact (q_octets_word_u32_4 k d).trans h)
    (by intro x hx; cases hx)
    (by intro k x hx; cases hx)
    (by intro d out h; obtain ⟨k, hk⟩ := lim_some h; exact ⟨k, (q_octets_word_u32_m k d).trans hk⟩)

@[reducible] def pi_octets_List_u32 : PSh := ⟨[], [.mk false [.v (.sl (.int .u8))], .mk false [vI], .mk false [vI]]⟩
@[reducible] def po_octets_List_u32 : PSh := ⟨[.row 43 (.int .u32)], [.mk false [.osl 0], .mk false [vE]]⟩
@[reducible] def TT_octets_List_u32 : Type := ((List (List Int) → ((Unit × ((List Int) × Unit)) × (Unit × Unit)) → Option (((List Int) × Unit) × (Unit × (((Option Int) × Unit) × Unit)))) × Unit)
@[reducible] def sh_octets_List_u32_10 : PSh := ⟨[.var 152 [.osl 1], .row 43 (.int .u32)], [.any, .any, .any, .any, .any, .any, .any, .any, .any, .mk false [.ref 0 0], .any, .any, .any, .any, .any, .any, .any, .any, .any, .any, .any, .any, .any, .any, .any, .any, .any, .any, .any, .any, .any, .any, .any, .any, .any, .any, .any, .any, .any, .any, .any, .any, .any, .any, .any, .any, .any, .any, .any, .any, .any, .any, .any]⟩
def f_octets_List_u32_p10 (T : TT_octets_List_u32) (l : List (List Int)) (d : (Unit × ((List Int) × Unit)) × (Unit × Unit)) : Option (((List Int) × Unit) × (Unit × (((Option Int) × Unit) × Unit))) :=
  bif l.isEmpty then (
  some (d.1.2, ((), (((none : Option Int), ()), ()))))
  else (
  let x19 : (List Int) := (gd (.sl (.int .u8)) l (0 : Int))
  (g_octets_word_u32 ((), ((x19, ()), ()))).bind fun x20 =>
  let x21 : (List Int) := ([x20.2.1.1] : List Int)
  bif decide (((d.1.2.1.length + x21.length) * 4 : Nat) ≤ 140737488355328) && decide (d.1.2.1.length + x21.length ≤ 9223372036854775807) then (
  let x22 : (List Int) := (d.1.2.1 ++ x21)
  (T.1 (List.drop 1 l) (((), (x22, ())), ((), ()))))
  else none)
def f_octets_List_u32_t : Nat → TT_octets_List_u32
  | 0 => (fun _ _ => none, ())
  | k + 1 => (f_octets_List_u32_p10 (f_octets_List_u32_t k), ())
theorem t_octets_List_u32 (k : Nat) : f_octets_List_u32_t (k + 1) = (f_octets_List_u32_p10 (f_octets_List_u32_t k), ()) := rfl
def f_octets_List_u32_m (T : TT_octets_List_u32) (d : Unit × (((List Int) × Unit) × ((Int × Unit) × ((Int × Unit) × Unit)))) : Option (((List Int) × Unit) × (Unit × (((Option Int) × Unit) × Unit))) :=
  (g_octets_Size_u32 ((), ())).bind fun x1 =>
  let x2 : Bool := (decide (d.2.2.1.1 < (0 : Int)))
  bif x2 then (
  let x3 : (Option Int) := (some (1 : Int))
  some ((([] : List Int), ()), ((), ((x3, ()), ()))))
  else (
  let x4 : Int := (d.2.1.1.length : Int)
  let x5 : Bool := (decide (d.2.2.1.1 > x4))
  bif x5 then (
  let x6 : (Option Int) := (some (1 : Int))
  some ((([] : List Int), ()), ((), ((x6, ()), ()))))
  else (
  let x7 : Bool := (decide (d.2.2.2.1.1 < (0 : Int)))
  bif x7 then (
  let x8 : (Option Int) := (some (1 : Int))
  some ((([] : List Int), ()), ((), ((x8, ()), ()))))
  else (
  let x9 : Int := (d.2.1.1.length : Int)
  let x10 : Int := (isub .i64 x9 d.2.2.1.1)
  bif (x1.2.1.1 == 0) then (
  none)
  else (
  let x11 : Int := (iquo .i64 x10 x1.2.1.1)
  let x12 : Bool := (decide (d.2.2.2.1.1 > x11))
  bif x12 then (
  let x13 : (Option Int) := (some (4 : Int))
  some ((([] : List Int), ()), ((), ((x13, ()), ()))))
  else (
  let x14 : Int := (imul .i64 d.2.2.2.1.1 x1.2.1.1)
  let x15 : Int := (iadd .i64 d.2.2.1.1 x14)
  bif decide ((0 : Int) ≤ d.2.2.1.1) && decide (d.2.2.1.1 ≤ x15) && decide (x15 ≤ (d.2.1.1.length : Int)) then (
  let x16 : (List Int) := (List.drop (Int.toNat d.2.2.1.1) (List.take (Int.toNat x15) d.2.1.1))
  (g_slices_Chunk_byte_byte ((), ((x16, ()), x1.2))).bind fun x17 =>
  (F_slices_Chunk_byte_byte_1 (x17.1.1.1, (x17.1.2.1.1, ()))).bind fun x18 =>
  (T.1 x18 (((), (([] : List Int), ())), ((), ()))))
  else none)))))
def c_octets_List_u32 : List Nat := []
def L_octets_List_u32 (_ : Nat) : Pts po_octets_List_u32.den := []
def R_octets_List_u32 (k : Nat) : PtsR po_octets_List_u32.den := [(10, ⟨(sh_octets_List_u32_10, (.sl (.int .u8))), (f_octets_List_u32_t k).1⟩)]
def E_octets_List_u32 : Env := ((((E0.add 79 (typedSem pi_octets_Size_u32 po_octets_Size_u32 g_octets_Size_u32)).add 94 (typedSem pi_slices_Chunk_byte_byte po_slices_Chunk_byte_byte g_slices_Chunk_byte_byte)).add 96 (typedSem pi_octets_word_u32 po_octets_word_u32 g_octets_word_u32)).sq 101 sq_slices_Chunk_byte_byte_1)
theorem q_octets_List_u32_10 (k : Nat) (l : List (List Int)) (d : sh_octets_List_u32_10.den) : evAtR E_octets_List_u32 (tb (L_octets_List_u32 k) (R_octets_List_u32 k)) c_octets_List_u32 10 (bodyOf Tryz.f78) 0 (finK E_octets_List_u32 po_octets_List_u32 [.tmp 6, .tmp 7]) (.sl (.int .u8)) l (ptSt sh_octets_List_u32_10 d) = f_octets_List_u32_p10 (f_octets_List_u32_t k) l d := by kernel_rfl
theorem q_octets_List_u32_m (k : Nat) (d : pi_octets_List_u32.den) : evCode E_octets_List_u32 (tb (L_octets_List_u32 k) (R_octets_List_u32 k)) c_octets_List_u32 (bodyOf Tryz.f78) 0 (finK E_octets_List_u32 po_octets_List_u32 [.tmp 6, .tmp 7]) (startSt pi_octets_List_u32 53 d) = f_octets_List_u32_m (f_octets_List_u32_t k) d := by kernel_rfl
def g_octets_List_u32 (d : Unit × (((List Int) × Unit) × ((Int × Unit) × ((Int × Unit) × Unit)))) : Option (((List Int) × Unit) × (Unit × (((Option Int) × Unit) × Unit))) := lim fun k => f_octets_List_u32_m (f_octets_List_u32_t k) d
theorem ok_octets_List_u32 : FnOk Tryz.prog ET0 78 pi_octets_List_u32 po_octets_List_u32 g_octets_List_u32 :=
  fn_of_body (E := E_octets_List_u32) (envOk_sq (envOk_add (envOk_add (envOk_add e0_ok (typed_ok ok_octets_Size_u32)) (typed_ok ok_slices_Chunk_byte_byte)) (typed_ok ok_octets_word_u32)) okq_slices_Chunk_byte_byte_1) (fn := Tryz.f78) Tryz.func78 (by kernel_rfl) (by kernel_rfl) [.tmp 6, .tmp 7] (by kernel_rfl) (by kernel_rfl) (by decide) rfl c_octets_List_u32 L_octets_List_u32 R_octets_List_u32
    (by intro x hx; cases hx)
    (by intro k x hx; cases hx)
    (by intro x hx l d; simp only [R_octets_List_u32, List.mem_cons, List.not_mem_nil, or_false] at hx; subst hx; rfl)
    (by intro k x hx l d out h; simp only [R_octets_List_u32, List.mem_cons, List.not_mem_nil, or_false] at hx; subst hx; exact (q_octets_List_u32_10 k l d).trans h)
    (by intro d out h; obtain ⟨k, hk⟩ := lim_some h; exact ⟨k, (q_octets_List_u32_m k d).trans hk⟩)

@[reducible] def pi_stamp_two_u32 : PSh := ⟨[], [.mk false [.v (.sl (.int .u8))]]⟩
@[reducible] def po_stamp_two_u32 : PSh := ⟨[], [.mk false [.v (.int .u32)], .mk false [.v (.int .u32)], .mk false [vE]]⟩
def f_stamp_two_u32_m (T : Unit) (d : Unit × (((List Int) × Unit) × Unit)) : Option (Unit × ((Int × Unit) × ((Int × Unit) × (((Option Int) × Unit) × Unit)))) :=
  (g_octets_List_u32 ((), (d.2.1, (((0 : Int), ()), (((2 : Int), ()), ()))))).bind fun x1 =>
  let x2 : Bool := (!x1.2.2.1.1.isNone)
  bif x2 then (
  let x3 : (Option Int) := (some (2 : Int))
  some ((), (((0 : Int), ()), (((0 : Int), ()), ((x3, ()), ())))))
  else (
  let x4 : Int := (d.2.1.1.length : Int)
  (g_octets_Size_u32 ((), ())).bind fun x5 =>
  let x6 : Int := (imul .i64 (2 : Int) x5.2.1.1)
  let x7 : Bool := (x4 != x6)
  bif x7 then (
  let x8 : (Option Int) := (some (2 : Int))
  some ((), (((0 : Int), ()), (((0 : Int), ()), ((x8, ()), ())))))
  else (
  bif decide ((0 : Int) ≤ (0 : Int)) && decide ((0 : Int) < (x1.1.1.length : Int)) then (
  bif decide ((0 : Int) ≤ (1 : Int)) && decide ((1 : Int) < (x1.1.1.length : Int)) then (
  some ((), (((gd (.int .u32) x1.1.1 (0 : Int)), ()), (((gd (.int .u32) x1.1.1 (1 : Int)), ()), (((none : Option Int), ()), ())))))
  else none)
  else none))
def g_stamp_two_u32 (d : Unit × (((List Int) × Unit) × Unit)) : Option (Unit × ((Int × Unit) × ((Int × Unit) × (((Option Int) × Unit) × Unit)))) := f_stamp_two_u32_m () d
theorem ok_stamp_two_u32 : FnOk Tryz.prog ET0 53 pi_stamp_two_u32 po_stamp_two_u32 g_stamp_two_u32 :=
  fn0 (E := ((E0.add 78 (typedSem pi_octets_List_u32 po_octets_List_u32 g_octets_List_u32)).add 79 (typedSem pi_octets_Size_u32 po_octets_Size_u32 g_octets_Size_u32))) (envOk_add (envOk_add e0_ok (typed_ok ok_octets_List_u32)) (typed_ok ok_octets_Size_u32)) (fn := Tryz.f53) Tryz.func53 (by kernel_rfl) (by kernel_rfl) [.tmp 2, .tmp 3, .tmp 4] (by kernel_rfl) rfl rfl rfl [] fun d => by kernel_rfl

@[reducible] def pi_stamp_Parse : PSh := ⟨[], [.mk false [.v (.sl (.int .u8))]]⟩
@[reducible] def po_stamp_Parse : PSh := ⟨[], [.mk true [.v (.int .u32), .v (.int .u32)], .mk false [vE]]⟩
def f_stamp_Parse_m (T : Unit) (d : Unit × (((List Int) × Unit) × Unit)) : Option (Unit × ((Int × (Int × Unit)) × (((Option Int) × Unit) × Unit))) :=
  (g_stamp_two_u32 ((), d.2)).bind fun x1 =>
  some ((), ((x1.2.1.1, x1.2.2.1), x1.2.2.2))
def g_stamp_Parse (d : Unit × (((List Int) × Unit) × Unit)) : Option (Unit × ((Int × (Int × Unit)) × (((Option Int) × Unit) × Unit))) := f_stamp_Parse_m () d
theorem ok_stamp_Parse : FnOk Tryz.prog ET0 32 pi_stamp_Parse po_stamp_Parse g_stamp_Parse :=
  fn0 (E := (E0.add 53 (typedSem pi_stamp_two_u32 po_stamp_two_u32 g_stamp_two_u32))) (envOk_add e0_ok (typed_ok ok_stamp_two_u32)) (fn := Tryz.f32) Tryz.func32 (by kernel_rfl) (by kernel_rfl) [.cell 2 45, .tmp 3] (by kernel_rfl) rfl rfl rfl [] fun d => by kernel_rfl

@[reducible] def pi_head_Head_longs_io : PSh := ⟨[.var 47 [vI, vI, vI, v8, .v (.int .i8), .v (.int .i8), .v (.int .u16), .v (.int .u16), .v (.int .u16), .v (.int .u16), v8, v8, v8, v8, .v (.int .u32), .v (.int .u32), .v (.int .u32), .v (.int .u32), .v (.int .u32), .v (.int .u32), .v (.int .u32), .v (.int .u32)]], [.mk false [.ref 0 0]]⟩
@[reducible] def po_head_Head_longs_io : PSh := ⟨[.var 47 [vI, vI, vI, v8, .v (.int .i8), .v (.int .i8), .v (.int .u16), .v (.int .u16), .v (.int .u16), .v (.int .u16), v8, v8, v8, v8, .v (.int .u32), .v (.int .u32), .v (.int .u32), .v (.int .u32), .v (.int .u32), .v (.int .u32), .v (.int .u32), .v (.int .u32)]], [.mk true [.ref 0 14, .ref 0 16, .ref 0 18, .ref 0 20], .mk false [.ref 0 0]]⟩
def f_head_Head_longs_io_m (T : Unit) (d : ((Int × (Int × (Int × (Int × (Int × (Int × (Int × (Int × (Int × (Int × (Int × (Int × (Int × (Int × (Int × (Int × (Int × (Int × (Int × (Int × (Int × (Int × Unit)))))))))))))))))))))) × Unit) × (Unit × Unit)) : Option (((Int × (Int × (Int × (Int × (Int × (Int × (Int × (Int × (Int × (Int × (Int × (Int × (Int × (Int × (Int × (Int × (Int × (Int × (Int × (Int × (Int × (Int × Unit)))))))))))))))))))))) × Unit) × (Unit × (Unit × Unit))) :=
  some (d.1, ((), ((), ())))
def c_head_Head_longs_io : List Nat := []
def L_head_Head_longs_io (_ : Nat) : Pts po_head_Head_longs_io.den := []
def R_head_Head_longs_io (_ : Nat) : PtsR po_head_Head_longs_io.den := []
def E_head_Head_longs_io : Env := (E0.kp [0])
theorem q_head_Head_longs_io_m (k : Nat) (d : pi_head_Head_longs_io.den) : evCode E_head_Head_longs_io (tb (L_head_Head_longs_io k) (R_head_Head_longs_io k)) c_head_Head_longs_io (bodyOf Tryz.f31) 0 (finKio E_head_Head_longs_io po_head_Head_longs_io [.cell 2 74] [(0, none)]) (startSt pi_head_Head_longs_io 16 d) = f_head_Head_longs_io_m () d := by kernel_rfl
def g_head_Head_longs_io (d : ((Int × (Int × (Int × (Int × (Int × (Int × (Int × (Int × (Int × (Int × (Int × (Int × (Int × (Int × (Int × (Int × (Int × (Int × (Int × (Int × (Int × (Int × Unit)))))))))))))))))))))) × Unit) × (Unit × Unit)) : Option (((Int × (Int × (Int × (Int × (Int × (Int × (Int × (Int × (Int × (Int × (Int × (Int × (Int × (Int × (Int × (Int × (Int × (Int × (Int × (Int × (Int × (Int × Unit)))))))))))))))))))))) × Unit) × (Unit × (Unit × Unit))) := f_head_Head_longs_io_m () d
theorem ok_head_Head_longs_io : FnIo Tryz.prog ET0 31 pi_head_Head_longs_io po_head_Head_longs_io 1 [(0, 0, none)] g_head_Head_longs_io :=
  fn_of_bodyIo (E := E_head_Head_longs_io) (envOk_kp e0_ok) (fn := Tryz.f31) Tryz.func31 (by kernel_rfl) (by kernel_rfl) [.cell 2 74] [(0, none)] [(0, 0, none)] (by kernel_rfl) (by kernel_rfl) (by kernel_rfl) (by kernel_rfl) (by decide) (by decide) c_head_Head_longs_io L_head_Head_longs_io R_head_Head_longs_io
    (by intro x hx; cases hx) (by intro k x hx; cases hx) (by intro x hx; cases hx) (by intro k x hx; cases hx) (fun d out h => ⟨0, (q_head_Head_longs_io_m 0 d).trans h⟩)

@[reducible] def pi_head_Parse : PSh := ⟨[], [.mk false [.v (.sl (.int .u8))]]⟩
@[reducible] def po_head_Parse : PSh := ⟨[], [.mk true [vI, vI, vI, v8, .v (.int .i8), .v (.int .i8), .v (.int .u16), .v (.int .u16), .v (.int .u16), .v (.int .u16), v8, v8, v8, v8, .v (.int .u32), .v (.int .u32), .v (.int .u32), .v (.int .u32), .v (.int .u32), .v (.int .u32), .v (.int .u32), .v (.int .u32)], .mk false [vE]]⟩
@[reducible] def TT_head_Parse : Type := (((((Int × (Int × (Int × (Int × (Int × (Int × (Int × (Int × (Int × (Int × (Int × (Int × (Int × (Int × (Int × (Int × (Int × (Int × (Int × (Int × (Int × (Int × Unit)))))))))))))))))))))) × ((Int × (Int × (Int × (Int × (Int × (Int × (Int × (Int × (Int × (Int × (Int × (Int × (Int × (Int × (Int × (Int × (Int × (Int × (Int × (Int × (Int × (Int × Unit)))))))))))))))))))))) × Unit)) × (Unit × (((List Int) × Unit) × (Unit × (Unit × ((Int × Unit) × Unit)))))) → Option (Unit × ((Int × (Int × (Int × (Int × (Int × (Int × (Int × (Int × (Int × (Int × (Int × (Int × (Int × (Int × (Int × (Int × (Int × (Int × (Int × (Int × (Int × (Int × Unit)))))))))))))))))))))) × (((Option Int) × Unit) × Unit)))) × (((((Int × (Int × (Int × (Int × (Int × (Int × (Int × (Int × (Int × (Int × (Int × (Int × (Int × (Int × (Int × (Int × (Int × (Int × (Int × (Int × (Int × (Int × Unit)))))))))))))))))))))) × ((Int × (Int × (Int × (Int × (Int × (Int × (Int × (Int × (Int × (Int × (Int × (Int × (Int × (Int × (Int × (Int × (Int × (Int × (Int × (Int × (Int × (Int × Unit)))))))))))))))))))))) × Unit)) × (Unit × (((List Int) × Unit) × (((Option Int) × Unit) × (Unit × (Unit × ((Int × Unit) × Unit))))))) → Option (Unit × ((Int × (Int × (Int × (Int × (Int × (Int × (Int × (Int × (Int × (Int × (Int × (Int × (Int × (Int × (Int × (Int × (Int × (Int × (Int × (Int × (Int × (Int × Unit)))))))))))))))))))))) × (((Option Int) × Unit) × Unit)))) × Unit))
@[reducible] def sh_head_Parse_22 : PSh := ⟨[.var 47 [vI, vI, vI, v8, .v (.int .i8), .v (.int .i8), .v (.int .u16), .v (.int .u16), .v (.int .u16), .v (.int .u16), v8, v8, v8, v8, .v (.int .u32), .v (.int .u32), .v (.int .u32), .v (.int .u32), .v (.int .u32), .v (.int .u32), .v (.int .u32), .v (.int .u32)], .var 47 [vI, vI, vI, v8, .v (.int .i8), .v (.int .i8), .v (.int .u16), .v (.int .u16), .v (.int .u16), .v (.int .u16), v8, v8, v8, v8, .v (.int .u32), .v (.int .u32), .v (.int .u32), .v (.int .u32), .v (.int .u32), .v (.int .u32), .v (.int .u32), .v (.int .u32)]], [.any, .any, .mk false [.ref 0 0], .any, .mk false [.v (.sl (.int .u8))], .any, .mk false [.ref 1 0], .any, .any, .any, .any, .any, .any, .any, .any, .any, .any, .any, .any, .any, .any, .any, .any, .any, .any, .any, .any, .any, .any, .any, .any, .any, .any, .any, .any, .any, .any, .any, .any, .any, .any, .any, .any, .any, .any, .any, .any, .any, .any, .any, .any, .any, .any, .any, .any, .any, .any, .any, .any, .any, .any, .any, .any, .any, .any, .any, .any, .any, .any, .any, .any, .any, .any, .mk true [.ref 1 14, .ref 1 16, .ref 1 18, .ref 1 20], .mk false [vI], .any, .any, .any, .any, .any, .any, .any, .any, .any, .any, .any, .any, .any, .any, .any, .any, .any, .any, .any, .any, .any, .any, .any, .any]⟩
@[reducible] def sh_head_Parse_27 : PSh := ⟨[.var 47 [vI, vI, vI, v8, .v (.int .i8), .v (.int .i8), .v (.int .u16), .v (.int .u16), .v (.int .u16), .v (.int .u16), v8, v8, v8, v8, .v (.int .u32), .v (.int .u32), .v (.int .u32), .v (.int .u32), .v (.int .u32), .v (.int .u32), .v (.int .u32), .v (.int .u32)], .var 47 [vI, vI, vI, v8, .v (.int .i8), .v (.int .i8), .v (.int .u16), .v (.int .u16), .v (.int .u16), .v (.int .u16), v8, v8, v8, v8, .v (.int .u32), .v (.int .u32), .v (.int .u32), .v (.int .u32), .v (.int .u32), .v (.int .u32), .v (.int .u32), .v (.int .u32)]], [.any, .any, .mk false [.ref 0 0], .any, .mk false [.v (.sl (.int .u8))], .mk false [vE], .mk false [.ref 1 0], .any, .any, .any, .any, .any, .any, .any, .any, .any, .any, .any, .any, .any, .any, .any, .any, .any, .any, .any, .any, .any, .any, .any, .any, .any, .any, .any, .any, .any, .any, .any, .any, .any, .any, .any, .any, .any, .any, .any, .any, .any, .any, .any, .any, .any, .any, .any, .any, .any, .any, .any, .any, .any, .any, .any, .any, .any, .any, .any, .any, .any, .any, .any, .any, .any, .any, .mk true [.ref 1 14, .ref 1 16, .ref 1 18, .ref 1 20], .mk false [vI], .any, .any, .any, .any, .any, .any, .any, .any, .any, .any, .any, .any, .any, .any, .any, .any, .any, .any, .any, .any, .any, .any, .any, .any]⟩
def f_head_Parse_p22 (T : TT_head_Parse) (d : ((Int × (Int × (Int × (Int × (Int × (Int × (Int × (Int × (Int × (Int × (Int × (Int × (Int × (Int × (Int × (Int × (Int × (Int × (Int × (Int × (Int × (Int × Unit)))))))))))))))))))))) × ((Int × (Int × (Int × (Int × (Int × (Int × (Int × (Int × (Int × (Int × (Int × (Int × (Int × (Int × (Int × (Int × (Int × (Int × (Int × (Int × (Int × (Int × Unit)))))))))))))))))))))) × Unit)) × (Unit × (((List Int) × Unit) × (Unit × (Unit × ((Int × Unit) × Unit)))))) : Option (Unit × ((Int × (Int × (Int × (Int × (Int × (Int × (Int × (Int × (Int × (Int × (Int × (Int × (Int × (Int × (Int × (Int × (Int × (Int × (Int × (Int × (Int × (Int × Unit)))))))))))))))))))))) × (((Option Int) × Unit) × Unit))) :=
  let x16 : Bool := (decide (d.2.2.2.2.2.1.1 < (4 : Int)))
  bif x16 then (
  bif decide ((0 : Int) ≤ d.2.2.2.2.2.1.1) && decide (d.2.2.2.2.2.1.1 < (4 : Int)) then (
  bif decide (d.2.2.2.2.2.1.1 = (0 : Int)) then (
  let x38 : Int := (imul .i64 (8 : Int) d.2.2.2.2.2.1.1)
  let x39 : Int := (iadd .i64 (16 : Int) x38)
  let x40 : Int := (iadd .i64 d.2.2.2.2.2.1.1 (1 : Int))
  let x41 : Int := (imul .i64 (8 : Int) x40)
  let x42 : Int := (iadd .i64 (16 : Int) x41)
  bif decide ((0 : Int) ≤ x39) && decide (x39 ≤ x42) && decide (x42 ≤ (d.2.2.1.1.length : Int)) then (
  let x43 : (List Int) := (List.drop (Int.toNat x39) (List.take (Int.toNat x42) d.2.2.1.1))
  (g_stamp_Parse ((), ((x43, ()), ()))).bind fun x44 =>
  (T.2.1 ((d.1.1, ((d.1.2.1.1, (d.1.2.1.2.1, (d.1.2.1.2.2.1, (d.1.2.1.2.2.2.1, (d.1.2.1.2.2.2.2.1, (d.1.2.1.2.2.2.2.2.1, (d.1.2.1.2.2.2.2.2.2.1, (d.1.2.1.2.2.2.2.2.2.2.1, (d.1.2.1.2.2.2.2.2.2.2.2.1, (d.1.2.1.2.2.2.2.2.2.2.2.2.1, (d.1.2.1.2.2.2.2.2.2.2.2.2.2.1, (d.1.2.1.2.2.2.2.2.2.2.2.2.2.2.1, (d.1.2.1.2.2.2.2.2.2.2.2.2.2.2.2.1, (d.1.2.1.2.2.2.2.2.2.2.2.2.2.2.2.2.1, (x44.2.1.1, (x44.2.1.2.1, d.1.2.1.2.2.2.2.2.2.2.2.2.2.2.2.2.2.2.2)))))))))))))))), ())), ((), (d.2.2.1, (x44.2.2.1, ((), ((), d.2.2.2.2.2))))))))
  else none)
  else (
  bif decide (d.2.2.2.2.2.1.1 = (1 : Int)) then (
  let x31 : Int := (imul .i64 (8 : Int) d.2.2.2.2.2.1.1)
  let x32 : Int := (iadd .i64 (16 : Int) x31)
  let x33 : Int := (iadd .i64 d.2.2.2.2.2.1.1 (1 : Int))
  let x34 : Int := (imul .i64 (8 : Int) x33)
  let x35 : Int := (iadd .i64 (16 : Int) x34)
  bif decide ((0 : Int) ≤ x32) && decide (x32 ≤ x35) && decide (x35 ≤ (d.2.2.1.1.length : Int)) then (
  let x36 : (List Int) := (List.drop (Int.toNat x32) (List.take (Int.toNat x35) d.2.2.1.1))
  (g_stamp_Parse ((), ((x36, ()), ()))).bind fun x37 =>
  (T.2.1 ((d.1.1, ((d.1.2.1.1, (d.1.2.1.2.1, (d.1.2.1.2.2.1, (d.1.2.1.2.2.2.1, (d.1.2.1.2.2.2.2.1, (d.1.2.1.2.2.2.2.2.1, (d.1.2.1.2.2.2.2.2.2.1, (d.1.2.1.2.2.2.2.2.2.2.1, (d.1.2.1.2.2.2.2.2.2.2.2.1, (d.1.2.1.2.2.2.2.2.2.2.2.2.1, (d.1.2.1.2.2.2.2.2.2.2.2.2.2.1, (d.1.2.1.2.2.2.2.2.2.2.2.2.2.2.1, (d.1.2.1.2.2.2.2.2.2.2.2.2.2.2.2.1, (d.1.2.1.2.2.2.2.2.2.2.2.2.2.2.2.2.1, (d.1.2.1.2.2.2.2.2.2.2.2.2.2.2.2.2.2.1, (d.1.2.1.2.2.2.2.2.2.2.2.2.2.2.2.2.2.2.1, (x37.2.1.1, (x37.2.1.2.1, d.1.2.1.2.2.2.2.2.2.2.2.2.2.2.2.2.2.2.2.2.2)))))))))))))))))), ())), ((), (d.2.2.1, (x37.2.2.1, ((), ((), d.2.2.2.2.2))))))))
  else none)
  else (
  bif decide (d.2.2.2.2.2.1.1 = (2 : Int)) then (
  let x24 : Int := (imul .i64 (8 : Int) d.2.2.2.2.2.1.1)
  let x25 : Int := (iadd .i64 (16 : Int) x24)
  let x26 : Int := (iadd .i64 d.2.2.2.2.2.1.1 (1 : Int))
  let x27 : Int := (imul .i64 (8 : Int) x26)
  let x28 : Int := (iadd .i64 (16 : Int) x27)
  bif decide ((0 : Int) ≤ x25) && decide (x25 ≤ x28) && decide (x28 ≤ (d.2.2.1.1.length : Int)) then (
  let x29 : (List Int) := (List.drop (Int.toNat x25) (List.take (Int.toNat x28) d.2.2.1.1))
  (g_stamp_Parse ((), ((x29, ()), ()))).bind fun x30 =>
  (T.2.1 ((d.1.1, ((d.1.2.1.1, (d.1.2.1.2.1, (d.1.2.1.2.2.1, (d.1.2.1.2.2.2.1, (d.1.2.1.2.2.2.2.1, (d.1.2.1.2.2.2.2.2.1, (d.1.2.1.2.2.2.2.2.2.1, (d.1.2.1.2.2.2.2.2.2.2.1, (d.1.2.1.2.2.2.2.2.2.2.2.1, (d.1.2.1.2.2.2.2.2.2.2.2.2.1, (d.1.2.1.2.2.2.2.2.2.2.2.2.2.1, (d.1.2.1.2.2.2.2.2.2.2.2.2.2.2.1, (d.1.2.1.2.2.2.2.2.2.2.2.2.2.2.2.1, (d.1.2.1.2.2.2.2.2.2.2.2.2.2.2.2.2.1, (d.1.2.1.2.2.2.2.2.2.2.2.2.2.2.2.2.2.1, (d.1.2.1.2.2.2.2.2.2.2.2.2.2.2.2.2.2.2.1, (d.1.2.1.2.2.2.2.2.2.2.2.2.2.2.2.2.2.2.2.1, (d.1.2.1.2.2.2.2.2.2.2.2.2.2.2.2.2.2.2.2.2.1, (x30.2.1.1, (x30.2.1.2.1, d.1.2.1.2.2.2.2.2.2.2.2.2.2.2.2.2.2.2.2.2.2.2.2)))))))))))))))))))), ())), ((), (d.2.2.1, (x30.2.2.1, ((), ((), d.2.2.2.2.2))))))))
  else none)
  else (
  bif decide (d.2.2.2.2.2.1.1 = (3 : Int)) then (
  let x17 : Int := (imul .i64 (8 : Int) d.2.2.2.2.2.1.1)
  let x18 : Int := (iadd .i64 (16 : Int) x17)
  let x19 : Int := (iadd .i64 d.2.2.2.2.2.1.1 (1 : Int))
  let x20 : Int := (imul .i64 (8 : Int) x19)
  let x21 : Int := (iadd .i64 (16 : Int) x20)
  bif decide ((0 : Int) ≤ x18) && decide (x18 ≤ x21) && decide (x21 ≤ (d.2.2.1.1.length : Int)) then (
  let x22 : (List Int) := (List.drop (Int.toNat x18) (List.take (Int.toNat x21) d.2.2.1.1))
  (g_stamp_Parse ((), ((x22, ()), ()))).bind fun x23 =>
  (T.2.1 ((d.1.1, ((d.1.2.1.1, (d.1.2.1.2.1, (d.1.2.1.2.2.1, (d.1.2.1.2.2.2.1, (d.1.2.1.2.2.2.2.1, (d.1.2.1.2.2.2.2.2.1, (d.1.2.1.2.2.2.2.2.2.1, (d.1.2.1.2.2.2.2.2.2.2.1, (d.1.2.1.2.2.2.2.2.2.2.2.1, (d.1.2.1.2.2.2.2.2.2.2.2.2.1, (d.1.2.1.2.2.2.2.2.2.2.2.2.2.1, (d.1.2.1.2.2.2.2.2.2.2.2.2.2.2.1, (d.1.2.1.2.2.2.2.2.2.2.2.2.2.2.2.1, (d.1.2.1.2.2.2.2.2.2.2.2.2.2.2.2.2.1, (d.1.2.1.2.2.2.2.2.2.2.2.2.2.2.2.2.2.1, (d.1.2.1.2.2.2.2.2.2.2.2.2.2.2.2.2.2.2.1, (d.1.2.1.2.2.2.2.2.2.2.2.2.2.2.2.2.2.2.2.1, (d.1.2.1.2.2.2.2.2.2.2.2.2.2.2.2.2.2.2.2.2.1, (d.1.2.1.2.2.2.2.2.2.2.2.2.2.2.2.2.2.2.2.2.2.1, (d.1.2.1.2.2.2.2.2.2.2.2.2.2.2.2.2.2.2.2.2.2.2.1, x23.2.1)))))))))))))))))))), ())), ((), (d.2.2.1, (x23.2.2.1, ((), ((), d.2.2.2.2.2))))))))
  else none)
  else (
  none)))))
  else none)
  else (
  some ((), (d.1.2.1, (((none : Option Int), ()), ()))))
def f_head_Parse_p27 (T : TT_head_Parse) (d : ((Int × (Int × (Int × (Int × (Int × (Int × (Int × (Int × (Int × (Int × (Int × (Int × (Int × (Int × (Int × (Int × (Int × (Int × (Int × (Int × (Int × (Int × Unit)))))))))))))))))))))) × ((Int × (Int × (Int × (Int × (Int × (Int × (Int × (Int × (Int × (Int × (Int × (Int × (Int × (Int × (Int × (Int × (Int × (Int × (Int × (Int × (Int × (Int × Unit)))))))))))))))))))))) × Unit)) × (Unit × (((List Int) × Unit) × (((Option Int) × Unit) × (Unit × (Unit × ((Int × Unit) × Unit))))))) : Option (Unit × ((Int × (Int × (Int × (Int × (Int × (Int × (Int × (Int × (Int × (Int × (Int × (Int × (Int × (Int × (Int × (Int × (Int × (Int × (Int × (Int × (Int × (Int × Unit)))))))))))))))))))))) × (((Option Int) × Unit) × Unit))) :=
  let x45 : Bool := (!d.2.2.2.1.1.isNone)
  bif x45 then (
  some ((), (((0 : Int), ((0 : Int), ((0 : Int), ((0 : Int), ((0 : Int), ((0 : Int), ((0 : Int), ((0 : Int), ((0 : Int), ((0 : Int), ((0 : Int), ((0 : Int), ((0 : Int), ((0 : Int), ((0 : Int), ((0 : Int), ((0 : Int), ((0 : Int), ((0 : Int), ((0 : Int), ((0 : Int), ((0 : Int), ())))))))))))))))))))))), (d.2.2.2.1, ()))))
  else (
  let x46 : Int := (iadd .i64 d.2.2.2.2.2.2.1.1 (1 : Int))
  (T.1 (d.1, ((), (d.2.2.1, ((), ((), ((x46, ()), ()))))))))
def f_head_Parse_t : Nat → TT_head_Parse
  | 0 => (fun _ => none, (fun _ => none, ()))
  | k + 1 => (f_head_Parse_p22 (f_head_Parse_t k), (f_head_Parse_p27 (f_head_Parse_t k), ()))
theorem t_head_Parse (k : Nat) : f_head_Parse_t (k + 1) = (f_head_Parse_p22 (f_head_Parse_t k), (f_head_Parse_p27 (f_head_Parse_t k), ())) := rfl
def f_head_Parse_m (T : TT_head_Parse) (d : Unit × (((List Int) × Unit) × Unit)) : Option (Unit × ((Int × (Int × (Int × (Int × (Int × (Int × (Int × (Int × (Int × (Int × (Int × (Int × (Int × (Int × (Int × (Int × (Int × (Int × (Int × (Int × (Int × (Int × Unit)))))))))))))))))))))) × (((Option Int) × Unit) × Unit))) :=
  (g_octets_Cut ((), (d.2.1, (((0 : Int), ()), (((48 : Int), ()), ()))))).bind fun x1 =>
  let x2 : Bool := (!x1.2.2.1.1.isNone)
  bif x2 then (
  some ((), (((0 : Int), ((0 : Int), ((0 : Int), ((0 : Int), ((0 : Int), ((0 : Int), ((0 : Int), ((0 : Int), ((0 : Int), ((0 : Int), ((0 : Int), ((0 : Int), ((0 : Int), ((0 : Int), ((0 : Int), ((0 : Int), ((0 : Int), ((0 : Int), ((0 : Int), ((0 : Int), ((0 : Int), ((0 : Int), ())))))))))))))))))))))), x1.2.2)))
  else (
  (g_head_First ((), (x1.1, ()))).bind fun x3 =>
  let x4 : Bool := (!x3.2.2.2.2.1.1.isNone)
  bif x4 then (
  some ((), (((0 : Int), ((0 : Int), ((0 : Int), ((0 : Int), ((0 : Int), ((0 : Int), ((0 : Int), ((0 : Int), ((0 : Int), ((0 : Int), ((0 : Int), ((0 : Int), ((0 : Int), ((0 : Int), ((0 : Int), ((0 : Int), ((0 : Int), ((0 : Int), ((0 : Int), ((0 : Int), ((0 : Int), ((0 : Int), ())))))))))))))))))))))), x3.2.2.2.2)))
  else (
  bif decide ((0 : Int) ≤ (1 : Int)) && decide ((1 : Int) < (x1.1.1.length : Int)) then (
  bif decide ((0 : Int) ≤ (2 : Int)) && decide ((2 : Int) < (x1.1.1.length : Int)) then (
  let x5 : Int := (iconv .i8 (gd (.int .u8) x1.1.1 (2 : Int)))
  bif decide ((0 : Int) ≤ (3 : Int)) && decide ((3 : Int) < (x1.1.1.length : Int)) then (
  let x6 : Int := (iconv .i8 (gd (.int .u8) x1.1.1 (3 : Int)))
  bif decide ((8 : Int) ≤ (x1.1.1.length : Int)) then (
  let x7 : (List Int) := (List.drop (Int.toNat (4 : Int)) (List.take (Int.toNat (8 : Int)) x1.1.1))
  (g_stamp_ParseShort ((), ((x7, ()), ()))).bind fun x8 =>
  let x9 : Bool := (!x8.2.2.1.1.isNone)
  bif x9 then (
  some ((), (((0 : Int), ((0 : Int), ((0 : Int), ((0 : Int), ((0 : Int), ((0 : Int), ((0 : Int), ((0 : Int), ((0 : Int), ((0 : Int), ((0 : Int), ((0 : Int), ((0 : Int), ((0 : Int), ((0 : Int), ((0 : Int), ((0 : Int), ((0 : Int), ((0 : Int), ((0 : Int), ((0 : Int), ((0 : Int), ())))))))))))))))))))))), x8.2.2)))
  else (
  bif decide ((12 : Int) ≤ (x1.1.1.length : Int)) then (
  let x10 : (List Int) := (List.drop (Int.toNat (8 : Int)) (List.take (Int.toNat (12 : Int)) x1.1.1))
  (g_stamp_ParseShort ((), ((x10, ()), ()))).bind fun x11 =>
  let x12 : Bool := (!x11.2.2.1.1.isNone)
  bif x12 then (
  some ((), (((0 : Int), ((0 : Int), ((0 : Int), ((0 : Int), ((0 : Int), ((0 : Int), ((0 : Int), ((0 : Int), ((0 : Int), ((0 : Int), ((0 : Int), ((0 : Int), ((0 : Int), ((0 : Int), ((0 : Int), ((0 : Int), ((0 : Int), ((0 : Int), ((0 : Int), ((0 : Int), ((0 : Int), ((0 : Int), ())))))))))))))))))))))), x11.2.2)))
  else (
  bif decide ((16 : Int) ≤ (x1.1.1.length : Int)) then (
  let x13 : (List Int) := (List.drop (Int.toNat (12 : Int)) (List.take (Int.toNat (16 : Int)) x1.1.1))
  bif decide ((4 : Int) ≤ x13.length) then (
  let x14 : (Int × (Int × (Int × Int))) := ((gd (.int .u8) x13 (0 : Int)), ((gd (.int .u8) x13 (1 : Int)), ((gd (.int .u8) x13 (2 : Int)), (gd (.int .u8) x13 (3 : Int)))))
  (g_head_Head_longs_io (((x3.2.1.1, (x3.2.2.1.1, (x3.2.2.2.1.1, ((gd (.int .u8) x1.1.1 (1 : Int)), (x5, (x6, (x8.2.1.1, (x8.2.1.2.1, (x11.2.1.1, (x11.2.1.2.1, (x14.1, (x14.2.1, (x14.2.2.1, (x14.2.2.2, ((0 : Int), ((0 : Int), ((0 : Int), ((0 : Int), ((0 : Int), ((0 : Int), ((0 : Int), ((0 : Int), ())))))))))))))))))))))), ()), ((), ()))).bind fun x15 =>
  (T.1 ((((0 : Int), ((0 : Int), ((0 : Int), ((0 : Int), ((0 : Int), ((0 : Int), ((0 : Int), ((0 : Int), ((0 : Int), ((0 : Int), ((0 : Int), ((0 : Int), ((0 : Int), ((0 : Int), ((0 : Int), ((0 : Int), ((0 : Int), ((0 : Int), ((0 : Int), ((0 : Int), ((0 : Int), ((0 : Int), ())))))))))))))))))))))), x15.1), ((), (x1.1, ((), ((), (((0 : Int), ()), ()))))))))
  else none)
  else none))
  else none))
  else none)
  else none)
  else none)
  else none))
def c_head_Parse : List Nat := [27]
def L_head_Parse (k : Nat) : Pts po_head_Parse.den := [(22, ⟨sh_head_Parse_22, (f_head_Parse_t k).1⟩), (27, ⟨sh_head_Parse_27, (f_head_Parse_t k).2.1⟩)]
def R_head_Parse (_ : Nat) : PtsR po_head_Parse.den := []
def E_head_Parse : Env := ((((((E0.add 28 (typedSem pi_octets_Cut po_octets_Cut g_octets_Cut)).add 29 (typedSem pi_head_First po_head_First g_head_First)).add 30 (typedSem pi_stamp_ParseShort po_stamp_ParseShort g_stamp_ParseShort)).add 31 (ioSem pi_head_Head_longs_io po_head_Head_longs_io 1 [(0, 0, none)] g_head_Head_longs_io)).add 32 (typedSem pi_stamp_Parse po_stamp_Parse g_stamp_Parse)).fr [(48, [47])])
theorem q_head_Parse_22 (k : Nat) (d : sh_head_Parse_22.den) : evAt E_head_Parse (tb (L_head_Parse k) (R_head_Parse k)) c_head_Parse 22 (bodyOf Tryz.f13) 0 (finK E_head_Parse po_head_Parse [.cell 2 47, .tmp 3]) (ptSt sh_head_Parse_22 d) = f_head_Parse_p22 (f_head_Parse_t k) d := by kernel_rfl
theorem q_head_Parse_27 (k : Nat) (d : sh_head_Parse_27.den) : evAt E_head_Parse (tb (L_head_Parse k) (R_head_Parse k)) c_head_Parse 27 (bodyOf Tryz.f13) 0 (finK E_head_Parse po_head_Parse [.cell 2 47, .tmp 3]) (ptSt sh_head_Parse_27 d) = f_head_Parse_p27 (f_head_Parse_t k) d := by kernel_rfl
theorem q_head_Parse_m (k : Nat) (d : pi_head_Parse.den) : evCode E_head_Parse (tb (L_head_Parse k) (R_head_Parse k)) c_head_Parse (bodyOf Tryz.f13) 0 (finK E_head_Parse po_head_Parse [.cell 2 47, .tmp 3]) (startSt pi_head_Parse 99 d) = f_head_Parse_m (f_head_Parse_t k) d := by kernel_rfl
def g_head_Parse (d : Unit × (((List Int) × Unit) × Unit)) : Option (Unit × ((Int × (Int × (Int × (Int × (Int × (Int × (Int × (Int × (Int × (Int × (Int × (Int × (Int × (Int × (Int × (Int × (Int × (Int × (Int × (Int × (Int × (Int × Unit)))))))))))))))))))))) × (((Option Int) × Unit) × Unit))) := lim fun k => f_head_Parse_m (f_head_Parse_t k) d
theorem ok_head_Parse : FnOk Tryz.prog ET0 13 pi_head_Parse po_head_Parse g_head_Parse :=
  fn_of_body (E := E_head_Parse) (envOk_fr (envOk_add (envOk_add (envOk_add (envOk_add (envOk_add e0_ok (typed_ok ok_octets_Cut)) (typed_ok ok_head_First)) (typed_ok ok_stamp_ParseShort)) (io_ok ok_head_Head_longs_io)) (typed_ok ok_stamp_Parse))) (fn := Tryz.f13) Tryz.func13 (by kernel_rfl) (by kernel_rfl) [.cell 2 47, .tmp 3] (by kernel_rfl) (by kernel_rfl) (by decide) rfl c_head_Parse L_head_Parse R_head_Parse
    (by intro x hx d; simp only [L_head_Parse, List.mem_cons, List.not_mem_nil, or_false] at hx; rcases hx with rfl | rfl; rfl; rfl)
    (by intro k x hx d out h; simp only [L_head_Parse, List.mem_cons, List.not_mem_nil, or_false] at hx; rcases hx with rfl | rfl; exact (q_head_Parse_22 k d).trans h; exact (q_head_Parse_27 k d).trans h)
    (by intro x hx; cases hx)
    (by intro k x hx; cases hx)
    (by intro d out h; obtain ⟨k, hk⟩ := lim_some h; exact ⟨k, (q_head_Parse_m k d).trans hk⟩)

@[reducible] def pi_answer_Mode : PSh := ⟨[], [.mk false [vI], .mk false [vI]]⟩
@[reducible] def po_answer_Mode : PSh := ⟨[], [.mk false [vI], .mk false [vB]]⟩
def f_answer_Mode_m (T : Unit) (d : Unit × ((Int × Unit) × ((Int × Unit) × Unit))) : Option (Unit × ((Int × Unit) × ((Bool × Unit) × Unit))) :=
  let x1 : Bool := (decide (d.2.1.1 < (1 : Int)))
  bif x1 then (
  some ((), (((0 : Int), ()), ((false, ()), ()))))
  else (
  let x2 : Bool := (decide (d.2.1.1 > (4 : Int)))
  bif x2 then (
  some ((), (((0 : Int), ()), ((false, ()), ()))))
  else (
  let x3 : Bool := (d.2.2.1.1 == (3 : Int))
  bif x3 then (
  some ((), (((4 : Int), ()), ((true, ()), ()))))
  else (
  let x4 : Bool := (d.2.2.1.1 == (0 : Int))
  bif x4 then (
  let x5 : Bool := (d.2.1.1 == (1 : Int))
  bif x5 then (
  some ((), (((4 : Int), ()), ((true, ()), ()))))
  else (
  let x6 : Bool := (d.2.2.1.1 == (1 : Int))
  bif x6 then (
  some ((), (((2 : Int), ()), ((true, ()), ()))))
  else (
  some ((), (((0 : Int), ()), ((false, ()), ()))))))
  else (
  let x7 : Bool := (d.2.2.1.1 == (1 : Int))
  bif x7 then (
  some ((), (((2 : Int), ()), ((true, ()), ()))))
  else (
  some ((), (((0 : Int), ()), ((false, ()), ()))))))))
def g_answer_Mode (d : Unit × ((Int × Unit) × ((Int × Unit) × Unit))) : Option (Unit × ((Int × Unit) × ((Bool × Unit) × Unit))) := f_answer_Mode_m () d
theorem ok_answer_Mode : FnOk Tryz.prog ET0 19 pi_answer_Mode po_answer_Mode g_answer_Mode :=
  fn0 (E := E0) e0_ok (fn := Tryz.f19) Tryz.func19 (by kernel_rfl) (by kernel_rfl) [.tmp 4, .tmp 5] (by kernel_rfl) rfl rfl rfl [] fun d => by kernel_rfl

@[reducible] def pi_ext_known : PSh := ⟨[], [.mk false [vI]]⟩
@[reducible] def po_ext_known : PSh := ⟨[], [.mk false [vB]]⟩
def f_ext_known_m (T : Unit) (d : Unit × ((Int × Unit) × Unit)) : Option (Unit × ((Bool × Unit) × Unit)) :=
  let x1 : Bool := (decide (d.2.1.1 ≥ (1 : Int)))
  bif x1 then (
  let x2 : Bool := (decide (d.2.1.1 ≤ (4 : Int)))
  some ((), ((x2, ()), ())))
  else (
  some ((), ((false, ()), ())))
def g_ext_known (d : Unit × ((Int × Unit) × Unit)) : Option (Unit × ((Bool × Unit) × Unit)) := f_ext_known_m () d
theorem ok_ext_known : FnOk Tryz.prog ET0 60 pi_ext_known po_ext_known g_ext_known :=
  fn0 (E := E0) e0_ok (fn := Tryz.f60) Tryz.func60 (by kernel_rfl) (by kernel_rfl) [.tmp 2] (by kernel_rfl) rfl rfl rfl [] fun d => by kernel_rfl

@[reducible] def pi_ext_long : PSh := ⟨[], [.mk false [vI]]⟩
@[reducible] def po_ext_long : PSh := ⟨[], [.mk false [vB]]⟩
def f_ext_long_m (T : Unit) (d : Unit × ((Int × Unit) × Unit)) : Option (Unit × ((Bool × Unit) × Unit)) :=
  let x1 : Bool := (decide (d.2.1.1 ≥ (16 : Int)))
  bif x1 then (
  let x2 : Int := (Int.tmod d.2.1.1 (4 : Int))
  let x3 : Bool := (x2 == (0 : Int))
  some ((), ((x3, ()), ())))
  else (
  some ((), ((false, ()), ())))
def g_ext_long (d : Unit × ((Int × Unit) × Unit)) : Option (Unit × ((Bool × Unit) × Unit)) := f_ext_long_m () d
theorem ok_ext_long : FnOk Tryz.prog ET0 86 pi_ext_long po_ext_long g_ext_long :=
  fn0 (E := E0) e0_ok (fn := Tryz.f86) Tryz.func86 (by kernel_rfl) (by kernel_rfl) [.tmp 2] (by kernel_rfl) rfl rfl rfl [] fun d => by kernel_rfl

@[reducible] def pi_ext_field : PSh := ⟨[], [.mk false [.v (.sl (.int .u8))]]⟩
@[reducible] def po_ext_field : PSh := ⟨[.row 5 (.int .u8)], [.mk true [.v (.int .u16), .osl 0], .mk false [.v (.sl (.int .u8))], .mk false [vE]]⟩
def f_ext_field_m (T : Unit) (d : Unit × (((List Int) × Unit) × Unit)) : Option (((List Int) × Unit) × ((Int × Unit) × (((List Int) × Unit) × (((Option Int) × Unit) × Unit)))) :=
  (g_octets_List_u16 ((), (d.2.1, (((0 : Int), ()), (((2 : Int), ()), ()))))).bind fun x1 =>
  let x2 : Bool := (!x1.2.2.1.1.isNone)
  bif x2 then (
  some ((([] : List Int), ()), (((0 : Int), ()), ((([] : List Int), ()), x1.2.2))))
  else (
  bif decide ((0 : Int) ≤ (1 : Int)) && decide ((1 : Int) < (x1.1.1.length : Int)) then (
  let x3 : Int := (iconv .i64 (gd (.int .u16) x1.1.1 (1 : Int)))
  (g_ext_long ((), ((x3, ()), ()))).bind fun x4 =>
  let x5 : Bool := (!x4.2.1.1)
  bif x5 then (
  let x6 : (Option Int) := (some (2 : Int))
  some ((([] : List Int), ()), (((0 : Int), ()), ((([] : List Int), ()), ((x6, ()), ())))))
  else (
  let x7 : Int := (d.2.1.1.length : Int)
  let x8 : Bool := (decide (x3 > x7))
  bif x8 then (
  let x9 : (Option Int) := (some (2 : Int))
  some ((([] : List Int), ()), (((0 : Int), ()), ((([] : List Int), ()), ((x9, ()), ())))))
  else (
  bif decide ((0 : Int) ≤ (0 : Int)) && decide ((0 : Int) < (x1.1.1.length : Int)) then (
  bif decide ((4 : Int) ≤ x3) && decide (x3 ≤ (d.2.1.1.length : Int)) then (
  let x10 : (List Int) := (List.drop (Int.toNat (4 : Int)) (List.take (Int.toNat x3) d.2.1.1))
  (g_slices_Clone_byte_byte ((), ((x10, ()), ()))).bind fun x11 =>
  bif decide ((0 : Int) ≤ x3) && decide (x3 ≤ (d.2.1.1.length : Int)) && decide ((d.2.1.1.length : Int) ≤ (d.2.1.1.length : Int)) then (
  let x12 : (List Int) := (List.drop (Int.toNat x3) (List.take (Int.toNat (d.2.1.1.length : Int)) d.2.1.1))
  some (x11.1, (((gd (.int .u16) x1.1.1 (0 : Int)), ()), ((x12, ()), (((none : Option Int), ()), ())))))
  else none)
  else none)
  else none)))
  else none)
def g_ext_field (d : Unit × (((List Int) × Unit) × Unit)) : Option (((List Int) × Unit) × ((Int × Unit) × (((List Int) × Unit) × (((Option Int) × Unit) × Unit)))) := f_ext_field_m () d
theorem ok_ext_field : FnOk Tryz.prog ET0 61 pi_ext_field po_ext_field g_ext_field :=
  fn0 (E := (((E0.add 50 (typedSem pi_slices_Clone_byte_byte po_slices_Clone_byte_byte g_slices_Clone_byte_byte)).add 76 (typedSem pi_octets_List_u16 po_octets_List_u16 g_octets_List_u16)).add 86 (typedSem pi_ext_long po_ext_long g_ext_long))) (envOk_add (envOk_add (envOk_add e0_ok (typed_ok ok_slices_Clone_byte_byte)) (typed_ok ok_octets_List_u16)) (typed_ok ok_ext_long)) (fn := Tryz.f61) Tryz.func61 (by kernel_rfl) (by kernel_rfl) [.cell 2 128, .tmp 3, .tmp 4] (by kernel_rfl) rfl rfl rfl [] fun d => by kernel_rfl

@[reducible] def pi_ext_may : PSh := ⟨[], [.mk false [vI], .mk false [vI]]⟩
@[reducible] def po_ext_may : PSh := ⟨[], [.mk false [vB]]⟩
def f_ext_may_m (T : Unit) (d : Unit × ((Int × Unit) × ((Int × Unit) × Unit))) : Option (Unit × ((Bool × Unit) × Unit)) :=
  let x1 : Bool := (d.2.2.1.1 == (0 : Int))
  bif x1 then (
  some ((), ((true, ()), ())))
  else (
  let x2 : Bool := (decide (d.2.1.1 < (3 : Int)))
  bif x2 then (
  let x3 : Bool := (d.2.2.1.1 == (12 : Int))
  some ((), ((x3, ()), ())))
  else (
  let x4 : Bool := (d.2.1.1 == (3 : Int))
  bif x4 then (
  let x5 : Bool := (d.2.2.1.1 == (12 : Int))
  bif x5 then (
  some ((), ((true, ()), ())))
  else (
  let x6 : Bool := (d.2.2.1.1 == (20 : Int))
  bif x6 then (
  some ((), ((true, ()), ())))
  else (
  let x7 : Bool := (d.2.2.1.1 == (24 : Int))
  some ((), ((x7, ()), ())))))
  else (
  let x8 : Bool := (d.2.2.1.1 == (4 : Int))
  bif x8 then (
  some ((), ((true, ()), ())))
  else (
  let x9 : Bool := (d.2.2.1.1 == (20 : Int))
  bif x9 then (
  some ((), ((true, ()), ())))
  else (
  let x10 : Bool := (d.2.2.1.1 == (24 : Int))
  some ((), ((x10, ()), ())))))))
def g_ext_may (d : Unit × ((Int × Unit) × ((Int × Unit) × Unit))) : Option (Unit × ((Bool × Unit) × Unit)) := f_ext_may_m () d
theorem ok_ext_may : FnOk Tryz.prog ET0 62 pi_ext_may po_ext_may g_ext_may :=
  fn0 (E := E0) e0_ok (fn := Tryz.f62) Tryz.func62 (by kernel_rfl) (by kernel_rfl) [.tmp 4] (by kernel_rfl) rfl rfl rfl [] fun d => by kernel_rfl

@[reducible] def pi_ext_Walk : PSh := ⟨[], [.mk false [vI], .mk false [.v (.sl (.int .u8))]]⟩
@[reducible] def po_ext_Walk : PSh := ⟨[.row 128 (.pair (.int .u16) (.sl (.int .u8))), .row 5 (.int .u8)], [.mk true [.osl 0, .osl 1], .mk false [vE]]⟩
@[reducible] def TT_ext_Walk : Type := ((((Unit × ((List (Int × (List Int))) × ((List Int) × (Unit × ((List (Int × (List Int))) × ((List Int) × Unit)))))) × ((Int × Unit) × (((List Int) × Unit) × (Unit × (Unit × Unit))))) → Option (((List (Int × (List Int))) × ((List Int) × Unit)) × (Unit × (((Option Int) × Unit) × Unit)))) × Unit)
@[reducible] def sh_ext_Walk_8 : PSh := ⟨[.var 89 [.osl 1, .osl 2], .row 128 (.pair (.int .u16) (.sl (.int .u8))), .row 5 (.int .u8), .var 89 [.osl 4, .osl 5], .row 128 (.pair (.int .u16) (.sl (.int .u8))), .row 5 (.int .u8)], [.mk false [vI], .mk false [.v (.sl (.int .u8))], .any, .any, .mk false [.ref 0 0], .any, .mk false [.ref 3 0], .any, .any, .any, .any, .any, .any, .any, .any, .any, .any, .any, .any, .any, .any, .any, .any, .any, .any, .any, .any, .any, .any, .any, .any, .any, .any, .any, .any, .any, .any, .any, .any, .any, .any, .any, .any, .any, .any, .any, .any, .any, .any, .any, .any, .any, .any, .any, .any, .any, .any]⟩
def f_ext_Walk_p8 (T : TT_ext_Walk) (d : (Unit × ((List (Int × (List Int))) × ((List Int) × (Unit × ((List (Int × (List Int))) × ((List Int) × Unit)))))) × ((Int × Unit) × (((List Int) × Unit) × (Unit × (Unit × Unit))))) : Option (((List (Int × (List Int))) × ((List Int) × Unit)) × (Unit × (((Option Int) × Unit) × Unit))) :=
  let x7 : Bool := (d.2.1.1 == (4 : Int))
  bif x7 then (
  let x8 : Int := (d.2.2.1.1.length : Int)
  let x9 : Bool := (decide (x8 > (24 : Int)))
  bif x9 then (
  (g_ext_field ((), (d.2.2.1, ()))).bind fun x10 =>
  let x11 : Bool := (!x10.2.2.2.1.1.isNone)
  bif x11 then (
  some ((([] : List (Int × (List Int))), (([] : List Int), ())), ((), x10.2.2.2)))
  else (
  let x12 : (List (Int × (List Int))) := ([(x10.2.1.1, x10.1.1)] : List (Int × (List Int)))
  bif decide (((d.1.2.2.2.2.1.length + x12.length) * 32 : Nat) ≤ 140737488355328) && decide (d.1.2.2.2.2.1.length + x12.length ≤ 9223372036854775807) then (
  let x13 : (List (Int × (List Int))) := (d.1.2.2.2.2.1 ++ x12)
  (T.1 (((), (d.1.2.1, (d.1.2.2.1, ((), (x13, d.1.2.2.2.2.2))))), (d.2.1, (x10.2.2.1, ((), ((), ())))))))
  else none))
  else (
  let x14 : Int := (d.2.2.1.1.length : Int)
  (g_ext_may ((), (d.2.1, ((x14, ()), ())))).bind fun x15 =>
  let x16 : Bool := (!x15.2.1.1)
  bif x16 then (
  let x17 : (Option Int) := (some (2 : Int))
  some ((([] : List (Int × (List Int))), (([] : List Int), ())), ((), ((x17, ()), ()))))
  else (
  (g_slices_Clone_byte_byte ((), (d.2.2.1, ()))).bind fun x18 =>
  some ((d.1.2.2.2.2.1, x18.1), ((), (((none : Option Int), ()), ()))))))
  else (
  let x19 : Int := (d.2.2.1.1.length : Int)
  (g_ext_may ((), (d.2.1, ((x19, ()), ())))).bind fun x20 =>
  let x21 : Bool := (!x20.2.1.1)
  bif x21 then (
  let x22 : (Option Int) := (some (2 : Int))
  some ((([] : List (Int × (List Int))), (([] : List Int), ())), ((), ((x22, ()), ()))))
  else (
  (g_slices_Clone_byte_byte ((), (d.2.2.1, ()))).bind fun x23 =>
  some ((d.1.2.2.2.2.1, x23.1), ((), (((none : Option Int), ()), ())))))
def f_ext_Walk_t : Nat → TT_ext_Walk
  | 0 => (fun _ => none, ())
  | k + 1 => (f_ext_Walk_p8 (f_ext_Walk_t k), ())
theorem t_ext_Walk (k : Nat) : f_ext_Walk_t (k + 1) = (f_ext_Walk_p8 (f_ext_Walk_t k), ()) := rfl
def f_ext_Walk_m (T : TT_ext_Walk) (d : Unit × ((Int × Unit) × (((List Int) × Unit) × Unit))) : Option (((List (Int × (List Int))) × ((List Int) × Unit)) × (Unit × (((Option Int) × Unit) × Unit))) :=
  (g_ext_known ((), (d.2.1, ()))).bind fun x1 =>
  let x2 : Bool := (!x1.2.1.1)
  bif x2 then (
  let x3 : (Option Int) := (some (11 : Int))
  some ((([] : List (Int × (List Int))), (([] : List Int), ())), ((), ((x3, ()), ()))))
  else (
  let x4 : Int := (d.2.2.1.1.length : Int)
  let x5 : Bool := (decide (x4 > (65487 : Int)))
  bif x5 then (
  let x6 : (Option Int) := (some (3 : Int))
  some ((([] : List (Int × (List Int))), (([] : List Int), ())), ((), ((x6, ()), ()))))
  else (
  (T.1 (((), (([] : List (Int × (List Int))), (([] : List Int), ((), (([] : List (Int × (List Int))), (([] : List Int), ())))))), (d.2.1, (d.2.2.1, ((), ((), ()))))))))
def c_ext_Walk : List Nat := []
def L_ext_Walk (k : Nat) : Pts po_ext_Walk.den := [(8, ⟨sh_ext_Walk_8, (f_ext_Walk_t k).1⟩)]
def R_ext_Walk (_ : Nat) : PtsR po_ext_Walk.den := []
def E_ext_Walk : Env := (((((E0.add 50 (typedSem pi_slices_Clone_byte_byte po_slices_Clone_byte_byte g_slices_Clone_byte_byte)).add 60 (typedSem pi_ext_known po_ext_known g_ext_known)).add 61 (typedSem pi_ext_field po_ext_field g_ext_field)).add 62 (typedSem pi_ext_may po_ext_may g_ext_may)).fr [(42, [41])])
theorem q_ext_Walk_8 (k : Nat) (d : sh_ext_Walk_8.den) : evAt E_ext_Walk (tb (L_ext_Walk k) (R_ext_Walk k)) c_ext_Walk 8 (bodyOf Tryz.f37) 0 (finK E_ext_Walk po_ext_Walk [.cell 4 89, .tmp 5]) (ptSt sh_ext_Walk_8 d) = f_ext_Walk_p8 (f_ext_Walk_t k) d := by kernel_rfl
theorem q_ext_Walk_m (k : Nat) (d : pi_ext_Walk.den) : evCode E_ext_Walk (tb (L_ext_Walk k) (R_ext_Walk k)) c_ext_Walk (bodyOf Tryz.f37) 0 (finK E_ext_Walk po_ext_Walk [.cell 4 89, .tmp 5]) (startSt pi_ext_Walk 57 d) = f_ext_Walk_m (f_ext_Walk_t k) d := by kernel_rfl
def g_ext_Walk (d : Unit × ((Int × Unit) × (((List Int) × Unit) × Unit))) : Option (((List (Int × (List Int))) × ((List Int) × Unit)) × (Unit × (((Option Int) × Unit) × Unit))) := lim fun k => f_ext_Walk_m (f_ext_Walk_t k) d
theorem ok_ext_Walk : FnOk Tryz.prog ET0 37 pi_ext_Walk po_ext_Walk g_ext_Walk :=
  fn_of_body (E := E_ext_Walk) (envOk_fr (envOk_add (envOk_add (envOk_add (envOk_add e0_ok (typed_ok ok_slices_Clone_byte_byte)) (typed_ok ok_ext_known)) (typed_ok ok_ext_field)) (typed_ok ok_ext_may))) (fn := Tryz.f37) Tryz.func37 (by kernel_rfl) (by kernel_rfl) [.cell 4 89, .tmp 5] (by kernel_rfl) (by kernel_rfl) (by decide) rfl c_ext_Walk L_ext_Walk R_ext_Walk
    (by intro x hx d; simp only [L_ext_Walk, List.mem_cons, List.not_mem_nil, or_false] at hx; subst hx; rfl)
    (by intro k x hx d out h; simp only [L_ext_Walk, List.mem_cons, List.not_mem_nil, or_false] at hx; subst hx; exact (q_ext_Walk_8 k d).trans h)
    (by intro x hx; cases hx)
    (by intro k x hx; cases hx)
    (by intro d out h; obtain ⟨k, hk⟩ := lim_some h; exact ⟨k, (q_ext_Walk_m k d).trans hk⟩)

@[reducible] def pi_answer_Ask : PSh := ⟨[], [.mk false [.v (.sl (.int .u8))]]⟩
@[reducible] def po_answer_Ask : PSh := ⟨[], [.mk true [vI, vI, vI, v8, .v (.int .i8), .v (.int .i8), .v (.int .u16), .v (.int .u16), .v (.int .u16), .v (.int .u16), v8, v8, v8, v8, .v (.int .u32), .v (.int .u32), .v (.int .u32), .v (.int .u32), .v (.int .u32), .v (.int .u32), .v (.int .u32), .v (.int .u32)], .mk false [vE]]⟩
def f_answer_Ask_m (T : Unit) (d : Unit × (((List Int) × Unit) × Unit)) : Option (Unit × ((Int × (Int × (Int × (Int × (Int × (Int × (Int × (Int × (Int × (Int × (Int × (Int × (Int × (Int × (Int × (Int × (Int × (Int × (Int × (Int × (Int × (Int × Unit)))))))))))))))))))))) × (((Option Int) × Unit) × Unit))) :=
  let x1 : Int := (d.2.1.1.length : Int)
  let x2 : Bool := (decide (x1 > (65535 : Int)))
  bif x2 then (
  let x3 : (Option Int) := (some (3 : Int))
  some ((), (((0 : Int), ((0 : Int), ((0 : Int), ((0 : Int), ((0 : Int), ((0 : Int), ((0 : Int), ((0 : Int), ((0 : Int), ((0 : Int), ((0 : Int), ((0 : Int), ((0 : Int), ((0 : Int), ((0 : Int), ((0 : Int), ((0 : Int), ((0 : Int), ((0 : Int), ((0 : Int), ((0 : Int), ((0 : Int), ())))))))))))))))))))))), ((x3, ()), ()))))
  else (
  (g_head_Parse ((), d.2)).bind fun x4 =>
  let x5 : Bool := (!x4.2.2.1.1.isNone)
  bif x5 then (
  some ((), (((0 : Int), ((0 : Int), ((0 : Int), ((0 : Int), ((0 : Int), ((0 : Int), ((0 : Int), ((0 : Int), ((0 : Int), ((0 : Int), ((0 : Int), ((0 : Int), ((0 : Int), ((0 : Int), ((0 : Int), ((0 : Int), ((0 : Int), ((0 : Int), ((0 : Int), ((0 : Int), ((0 : Int), ((0 : Int), ())))))))))))))))))))))), x4.2.2)))
  else (
  let x6 : Bool := (decide (x4.2.1.2.1 < (1 : Int)))
  bif x6 then (
  let x7 : (Option Int) := (some (11 : Int))
  some ((), (((0 : Int), ((0 : Int), ((0 : Int), ((0 : Int), ((0 : Int), ((0 : Int), ((0 : Int), ((0 : Int), ((0 : Int), ((0 : Int), ((0 : Int), ((0 : Int), ((0 : Int), ((0 : Int), ((0 : Int), ((0 : Int), ((0 : Int), ((0 : Int), ((0 : Int), ((0 : Int), ((0 : Int), ((0 : Int), ())))))))))))))))))))))), ((x7, ()), ()))))
  else (
  let x8 : Bool := (decide (x4.2.1.2.1 > (4 : Int)))
  bif x8 then (
  let x9 : (Option Int) := (some (11 : Int))
  some ((), (((0 : Int), ((0 : Int), ((0 : Int), ((0 : Int), ((0 : Int), ((0 : Int), ((0 : Int), ((0 : Int), ((0 : Int), ((0 : Int), ((0 : Int), ((0 : Int), ((0 : Int), ((0 : Int), ((0 : Int), ((0 : Int), ((0 : Int), ((0 : Int), ((0 : Int), ((0 : Int), ((0 : Int), ((0 : Int), ())))))))))))))))))))))), ((x9, ()), ()))))
  else (
  (g_answer_Mode ((), ((x4.2.1.2.1, ()), ((x4.2.1.2.2.1, ()), ())))).bind fun x10 =>
  let x11 : Bool := (!x10.2.2.1.1)
  bif x11 then (
  let x12 : (Option Int) := (some (14 : Int))
  some ((), (((0 : Int), ((0 : Int), ((0 : Int), ((0 : Int), ((0 : Int), ((0 : Int), ((0 : Int), ((0 : Int), ((0 : Int), ((0 : Int), ((0 : Int), ((0 : Int), ((0 : Int), ((0 : Int), ((0 : Int), ((0 : Int), ((0 : Int), ((0 : Int), ((0 : Int), ((0 : Int), ((0 : Int), ((0 : Int), ())))))))))))))))))))))), ((x12, ()), ()))))
  else (
  bif decide ((48 : Int) ≤ (d.2.1.1.length : Int)) && decide ((d.2.1.1.length : Int) ≤ (d.2.1.1.length : Int)) then (
  let x13 : (List Int) := (List.drop (Int.toNat (48 : Int)) (List.take (Int.toNat (d.2.1.1.length : Int)) d.2.1.1))
  (g_ext_Walk ((), ((x4.2.1.2.1, ()), ((x13, ()), ())))).bind fun x14 =>
  let x15 : Bool := (!x14.2.2.1.1.isNone)
  bif x15 then (
  some ((), (((0 : Int), ((0 : Int), ((0 : Int), ((0 : Int), ((0 : Int), ((0 : Int), ((0 : Int), ((0 : Int), ((0 : Int), ((0 : Int), ((0 : Int), ((0 : Int), ((0 : Int), ((0 : Int), ((0 : Int), ((0 : Int), ((0 : Int), ((0 : Int), ((0 : Int), ((0 : Int), ((0 : Int), ((0 : Int), ())))))))))))))))))))))), x14.2.2)))
  else (
  some ((), (x4.2.1, (((none : Option Int), ()), ())))))
  else none)))))
def g_answer_Ask (d : Unit × (((List Int) × Unit) × Unit)) : Option (Unit × ((Int × (Int × (Int × (Int × (Int × (Int × (Int × (Int × (Int × (Int × (Int × (Int × (Int × (Int × (Int × (Int × (Int × (Int × (Int × (Int × (Int × (Int × Unit)))))))))))))))))))))) × (((Option Int) × Unit) × Unit))) := f_answer_Ask_m () d
theorem ok_answer_Ask : FnOk Tryz.prog ET0 18 pi_answer_Ask po_answer_Ask g_answer_Ask :=
  fn0 (E := (((E0.add 13 (typedSem pi_head_Parse po_head_Parse g_head_Parse)).add 19 (typedSem pi_answer_Mode po_answer_Mode g_answer_Mode)).add 37 (typedSem pi_ext_Walk po_ext_Walk g_ext_Walk))) (envOk_add (envOk_add (envOk_add e0_ok (typed_ok ok_head_Parse)) (typed_ok ok_answer_Mode)) (typed_ok ok_ext_Walk)) (fn := Tryz.f18) Tryz.func18 (by kernel_rfl) (by kernel_rfl) [.cell 2 47, .tmp 3] (by kernel_rfl) rfl rfl rfl [] fun d => by kernel_rfl

@[reducible] def pi_config_Default : PSh := ⟨[], []⟩
@[reducible] def po_config_Default : PSh := ⟨[], [.mk true [vI, vI, vI, vI, v8, v8, v8, v8, vI, vI, vI, vI, vI, vI]]⟩
def f_config_Default_m (T : Unit) (d : Unit × Unit) : Option (Unit × ((Int × (Int × (Int × (Int × (Int × (Int × (Int × (Int × (Int × (Int × (Int × (Int × (Int × (Int × Unit)))))))))))))) × Unit)) :=
  let x1 : (List Int) := ([(76 : Int), (79 : Int), (67 : Int), (76 : Int)] : List Int)
  bif !Nat.beq x1.length 0 then (
  bif decide ((4 : Int) ≤ x1.length) then (
  let x2 : (Int × (Int × (Int × Int))) := ((gd (.int .u8) x1 (0 : Int)), ((gd (.int .u8) x1 (1 : Int)), ((gd (.int .u8) x1 (2 : Int)), (gd (.int .u8) x1 (3 : Int)))))
  some ((), (((1 : Int), ((1000 : Int), ((64 : Int), ((2 : Int), (x2.1, (x2.2.1, (x2.2.2.1, (x2.2.2.2, ((-20 : Int), ((6 : Int), ((0 : Int), ((10 : Int), ((500 : Int), ((0 : Int), ())))))))))))))), ())))
  else none)
  else none
def g_config_Default (d : Unit × Unit) : Option (Unit × ((Int × (Int × (Int × (Int × (Int × (Int × (Int × (Int × (Int × (Int × (Int × (Int × (Int × (Int × Unit)))))))))))))) × Unit)) := f_config_Default_m () d
theorem ok_config_Default : FnOk Tryz.prog ET0 27 pi_config_Default po_config_Default g_config_Default :=
  fn0 (E := (E0.fr [(3, [2])])) (envOk_fr e0_ok) (fn := Tryz.f27) Tryz.func27 (by kernel_rfl) (by kernel_rfl) [.cell 0 59] (by kernel_rfl) rfl rfl rfl [] fun d => by kernel_rfl

@[reducible] def pi_config_Store_Settings : PSh := ⟨[], [.mk false [.v (.nptr (.pair (.pair (.int .i64) (.pair (.int .i64) (.pair (.int .i64) (.pair (.int .i64) (.pair (.pair (.int .u8) (.pair (.int .u8) (.pair (.int .u8) (.int .u8)))) (.pair (.int .i64) (.pair (.int .i64) (.pair (.int .i64) (.pair (.int .i64) (.pair (.int .i64) (.int .i64))))))))))) (.pair (.nptr (.pair (.sl (.pair (.int .i64) (.int .i64))) (.pair (.int .i64) (.int .i64)))) (.pair (.nptr (.pair (.pair (.sl (.int .i64)) (.pair (.sl (.int .i64)) (.pair (.sl (.pair (.int .i64) (.pair .bool .str))) (.pair (.sl (.pair (.int .i64) (.int .i64))) (.pair .bool (.pair .str (.pair .str (.pair (.int .i64) (.pair (.int .i64) (.pair (.pair (.int .i64) (.pair (.int .i64) (.pair (.int .i64) (.pair (.int .i64) (.int .i64))))) (.pair (.int .i64) (.pair (.int .i64) (.pair (.int .i64) (.pair (.int .i64) (.int .i64))))))))))))))) (.pair (.int .i64) (.pair .bool .str)))) (.pair (.int .i64) (.int .i64))))))]]⟩
@[reducible] def po_config_Store_Settings : PSh := ⟨[], [.mk true [vI, vI, vI, vI, v8, v8, v8, v8, vI, vI, vI, vI, vI, vI]]⟩
def f_config_Store_Settings_m (T : Unit) (d : Unit × (((Option ((Int × (Int × (Int × (Int × ((Int × (Int × (Int × Int))) × (Int × (Int × (Int × (Int × (Int × Int)))))))))) × ((Option ((List (Int × Int)) × (Int × Int))) × ((Option (((List Int) × ((List Int) × ((List (Int × (Bool × ByteArray))) × ((List (Int × Int)) × (Bool × (ByteArray × (ByteArray × (Int × (Int × ((Int × (Int × (Int × (Int × Int)))) × (Int × (Int × (Int × (Int × Int)))))))))))))) × (Int × (Bool × ByteArray)))) × (Int × Int))))) × Unit) × Unit)) : Option (Unit × ((Int × (Int × (Int × (Int × (Int × (Int × (Int × (Int × (Int × (Int × (Int × (Int × (Int × (Int × Unit)))))))))))))) × Unit)) :=
  bif d.2.1.1.isNone then (
  (g_config_Default ((), ())).bind fun x1 =>
  some ((), x1.2))
  else (
  d.2.1.1.bind fun x2 =>
  some ((), ((x2.1.1, (x2.1.2.1, (x2.1.2.2.1, (x2.1.2.2.2.1, (x2.1.2.2.2.2.1.1, (x2.1.2.2.2.2.1.2.1, (x2.1.2.2.2.2.1.2.2.1, (x2.1.2.2.2.2.1.2.2.2, (x2.1.2.2.2.2.2.1, (x2.1.2.2.2.2.2.2.1, (x2.1.2.2.2.2.2.2.2.1, (x2.1.2.2.2.2.2.2.2.2.1, (x2.1.2.2.2.2.2.2.2.2.2.1, (x2.1.2.2.2.2.2.2.2.2.2.2, ())))))))))))))), ())))
def g_config_Store_Settings (d : Unit × (((Option ((Int × (Int × (Int × (Int × ((Int × (Int × (Int × Int))) × (Int × (Int × (Int × (Int × (Int × Int)))))))))) × ((Option ((List (Int × Int)) × (Int × Int))) × ((Option (((List Int) × ((List Int) × ((List (Int × (Bool × ByteArray))) × ((List (Int × Int)) × (Bool × (ByteArray × (ByteArray × (Int × (Int × ((Int × (Int × (Int × (Int × Int)))) × (Int × (Int × (Int × (Int × Int)))))))))))))) × (Int × (Bool × ByteArray)))) × (Int × Int))))) × Unit) × Unit)) : Option (Unit × ((Int × (Int × (Int × (Int × (Int × (Int × (Int × (Int × (Int × (Int × (Int × (Int × (Int × (Int × Unit)))))))))))))) × Unit)) := f_config_Store_Settings_m () d
theorem ok_config_Store_Settings : FnOk Tryz.prog ET0 23 pi_config_Store_Settings po_config_Store_Settings g_config_Store_Settings :=
  fn0 (E := (E0.add 27 (typedSem pi_config_Default po_config_Default g_config_Default))) (envOk_add e0_ok (typed_ok ok_config_Default)) (fn := Tryz.f23) Tryz.func23 (by kernel_rfl) (by kernel_rfl) [.cell 2 59] (by kernel_rfl) rfl rfl rfl [] fun d => by kernel_rfl

@[reducible] def pi_steady_Split : PSh := ⟨[], [.mk false [.v (.int .u64)]]⟩
@[reducible] def po_steady_Split : PSh := ⟨[], [.mk false [vI], .mk false [vI]]⟩
def f_steady_Split_m (T : Unit) (d : Unit × ((Int × Unit) × Unit)) : Option (Unit × ((Int × Unit) × ((Int × Unit) × Unit))) :=
  let x1 : Int := (iquo .u64 d.2.1.1 (1000000000 : Int))
  let x2 : Int := (iconv .i64 x1)
  let x3 : Int := (Int.tmod d.2.1.1 (1000000000 : Int))
  let x4 : Int := (iconv .i64 x3)
  some ((), ((x2, ()), ((x4, ()), ())))
def g_steady_Split (d : Unit × ((Int × Unit) × Unit)) : Option (Unit × ((Int × Unit) × ((Int × Unit) × Unit))) := f_steady_Split_m () d
theorem ok_steady_Split : FnOk Tryz.prog ET0 43 pi_steady_Split po_steady_Split g_steady_Split :=
  fn0 (E := E0) e0_ok (fn := Tryz.f43) Tryz.func43 (by kernel_rfl) (by kernel_rfl) [.tmp 2, .tmp 3] (by kernel_rfl) rfl rfl rfl [] fun d => by kernel_rfl

@[reducible] def pi_num_Add : PSh := ⟨[], [.mk false [vI], .mk false [vI]]⟩
@[reducible] def po_num_Add : PSh := ⟨[], [.mk false [vI], .mk false [vE]]⟩
def f_num_Add_m (T : Unit) (d : Unit × ((Int × Unit) × ((Int × Unit) × Unit))) : Option (Unit × ((Int × Unit) × (((Option Int) × Unit) × Unit))) :=
  let x1 : Int := (iadd .i64 d.2.1.1 d.2.2.1.1)
  let x2 : Bool := (decide (d.2.2.1.1 > (0 : Int)))
  bif x2 then (
  let x3 : Bool := (decide (x1 < d.2.1.1))
  bif x3 then (
  let x4 : (Option Int) := (some (5 : Int))
  some ((), (((0 : Int), ()), ((x4, ()), ()))))
  else (
  let x5 : Bool := (decide (d.2.2.1.1 < (0 : Int)))
  bif x5 then (
  let x6 : Bool := (decide (x1 > d.2.1.1))
  bif x6 then (
  let x7 : (Option Int) := (some (5 : Int))
  some ((), (((0 : Int), ()), ((x7, ()), ()))))
  else (
  some ((), ((x1, ()), (((none : Option Int), ()), ())))))
  else (
  some ((), ((x1, ()), (((none : Option Int), ()), ()))))))
  else (
  let x8 : Bool := (decide (d.2.2.1.1 < (0 : Int)))
  bif x8 then (
  let x9 : Bool := (decide (x1 > d.2.1.1))
  bif x9 then (
  let x10 : (Option Int) := (some (5 : Int))
  some ((), (((0 : Int), ()), ((x10, ()), ()))))
  else (
  some ((), ((x1, ()), (((none : Option Int), ()), ())))))
  else (
  some ((), ((x1, ()), (((none : Option Int), ()), ())))))
def g_num_Add (d : Unit × ((Int × Unit) × ((Int × Unit) × Unit))) : Option (Unit × ((Int × Unit) × (((Option Int) × Unit) × Unit))) := f_num_Add_m () d
theorem ok_num_Add : FnOk Tryz.prog ET0 89 pi_num_Add po_num_Add g_num_Add :=
  fn0 (E := E0) e0_ok (fn := Tryz.f89) Tryz.func89 (by kernel_rfl) (by kernel_rfl) [.tmp 4, .tmp 5] (by kernel_rfl) rfl rfl rfl [] fun d => by kernel_rfl

@[reducible] def pi_stamp_FromPosix : PSh := ⟨[], [.mk false [vI]]⟩
@[reducible] def po_stamp_FromPosix : PSh := ⟨[], [.mk false [vI], .mk false [vE]]⟩
def f_stamp_FromPosix_m (T : Unit) (d : Unit × ((Int × Unit) × Unit)) : Option (Unit × ((Int × Unit) × (((Option Int) × Unit) × Unit))) :=
  (g_num_Add ((), (d.2.1, (((2208988800 : Int), ()), ())))).bind fun x1 =>
  some ((), x1.2)
def g_stamp_FromPosix (d : Unit × ((Int × Unit) × Unit)) : Option (Unit × ((Int × Unit) × (((Option Int) × Unit) × Unit))) := f_stamp_FromPosix_m () d
theorem ok_stamp_FromPosix : FnOk Tryz.prog ET0 66 pi_stamp_FromPosix po_stamp_FromPosix g_stamp_FromPosix :=
  fn0 (E := (E0.add 89 (typedSem pi_num_Add po_num_Add g_num_Add))) (envOk_add e0_ok (typed_ok ok_num_Add)) (fn := Tryz.f66) Tryz.func66 (by kernel_rfl) (by kernel_rfl) [.tmp 2, .tmp 3] (by kernel_rfl) rfl rfl rfl [] fun d => by kernel_rfl

@[reducible] def pi_steady_Seconds : PSh := ⟨[], [.mk false [.v (.int .u64)]]⟩
@[reducible] def po_steady_Seconds : PSh := ⟨[], [.mk false [vI]]⟩
def f_steady_Seconds_m (T : Unit) (d : Unit × ((Int × Unit) × Unit)) : Option (Unit × ((Int × Unit) × Unit)) :=
  (g_steady_Split ((), d.2)).bind fun x1 =>
  (g_stamp_FromPosix ((), (x1.2.1, ()))).bind fun x2 =>
  let x3 : Bool := (!x2.2.2.1.1.isNone)
  bif x3 then (
  some ((), (((0 : Int), ()), ())))
  else (
  some ((), (x2.2.1, ())))
def g_steady_Seconds (d : Unit × ((Int × Unit) × Unit)) : Option (Unit × ((Int × Unit) × Unit)) := f_steady_Seconds_m () d
theorem ok_steady_Seconds : FnOk Tryz.prog ET0 42 pi_steady_Seconds po_steady_Seconds g_steady_Seconds :=
  fn0 (E := ((E0.add 43 (typedSem pi_steady_Split po_steady_Split g_steady_Split)).add 66 (typedSem pi_stamp_FromPosix po_stamp_FromPosix g_stamp_FromPosix))) (envOk_add (envOk_add e0_ok (typed_ok ok_steady_Split)) (typed_ok ok_stamp_FromPosix)) (fn := Tryz.f42) Tryz.func42 (by kernel_rfl) (by kernel_rfl) [.tmp 2] (by kernel_rfl) rfl rfl rfl [] fun d => by kernel_rfl

@[reducible] def pi_stamp_right : PSh := ⟨[], [.mk false [vI]]⟩
@[reducible] def po_stamp_right : PSh := ⟨[], [.mk false [vB]]⟩
def f_stamp_right_m (T : Unit) (d : Unit × ((Int × Unit) × Unit)) : Option (Unit × ((Bool × Unit) × Unit)) :=
  let x1 : Bool := (decide (d.2.1.1 ≥ (0 : Int)))
  bif x1 then (
  let x2 : Bool := (decide (d.2.1.1 < (1000000000 : Int)))
  some ((), ((x2, ()), ())))
  else (
  some ((), ((false, ()), ())))
def g_stamp_right (d : Unit × ((Int × Unit) × Unit)) : Option (Unit × ((Bool × Unit) × Unit)) := f_stamp_right_m () d
theorem ok_stamp_right : FnOk Tryz.prog ET0 70 pi_stamp_right po_stamp_right g_stamp_right :=
  fn0 (E := E0) e0_ok (fn := Tryz.f70) Tryz.func70 (by kernel_rfl) (by kernel_rfl) [.tmp 2] (by kernel_rfl) rfl rfl rfl [] fun d => by kernel_rfl

@[reducible] def pi_stamp_Fraction : PSh := ⟨[], [.mk false [vI]]⟩
@[reducible] def po_stamp_Fraction : PSh := ⟨[], [.mk false [.v (.int .u32)], .mk false [vE]]⟩
def f_stamp_Fraction_m (T : Unit) (d : Unit × ((Int × Unit) × Unit)) : Option (Unit × ((Int × Unit) × (((Option Int) × Unit) × Unit))) :=
  (g_stamp_right ((), d.2)).bind fun x1 =>
  let x2 : Bool := (!x1.2.1.1)
  bif x2 then (
  let x3 : (Option Int) := (some (1 : Int))
  some ((), (((0 : Int), ()), ((x3, ()), ()))))
  else (
  let x4 : Int := (iconv .u64 d.2.1.1)
  let x5 : Int := (ishl .u64 x4 (32 : Int))
  let x6 : Int := (iadd .u64 x5 (1000000000 : Int))
  let x7 : Int := (isub .u64 x6 (1 : Int))
  let x8 : Int := (iquo .u64 x7 (1000000000 : Int))
  let x9 : Int := (iconv .u32 x8)
  some ((), ((x9, ()), (((none : Option Int), ()), ()))))
def g_stamp_Fraction (d : Unit × ((Int × Unit) × Unit)) : Option (Unit × ((Int × Unit) × (((Option Int) × Unit) × Unit))) := f_stamp_Fraction_m () d
theorem ok_stamp_Fraction : FnOk Tryz.prog ET0 87 pi_stamp_Fraction po_stamp_Fraction g_stamp_Fraction :=
  fn0 (E := (E0.add 70 (typedSem pi_stamp_right po_stamp_right g_stamp_right))) (envOk_add e0_ok (typed_ok ok_stamp_right)) (fn := Tryz.f87) Tryz.func87 (by kernel_rfl) (by kernel_rfl) [.tmp 2, .tmp 3] (by kernel_rfl) rfl rfl rfl [] fun d => by kernel_rfl

@[reducible] def pi_era_Fold_u32 : PSh := ⟨[], [.mk false [vI]]⟩
@[reducible] def po_era_Fold_u32 : PSh := ⟨[], [.mk false [.v (.int .u32)]]⟩
def f_era_Fold_u32_m (T : Unit) (d : Unit × ((Int × Unit) × Unit)) : Option (Unit × ((Int × Unit) × Unit)) :=
  let x1 : Int := (iconv .u32 d.2.1.1)
  some ((), ((x1, ()), ()))
def g_era_Fold_u32 (d : Unit × ((Int × Unit) × Unit)) : Option (Unit × ((Int × Unit) × Unit)) := f_era_Fold_u32_m () d
theorem ok_era_Fold_u32 : FnOk Tryz.prog ET0 88 pi_era_Fold_u32 po_era_Fold_u32 g_era_Fold_u32 :=
  fn0 (E := E0) e0_ok (fn := Tryz.f88) Tryz.func88 (by kernel_rfl) (by kernel_rfl) [.tmp 2] (by kernel_rfl) rfl rfl rfl [] fun d => by kernel_rfl

@[reducible] def pi_stamp_Of : PSh := ⟨[], [.mk false [vI], .mk false [vI]]⟩
@[reducible] def po_stamp_Of : PSh := ⟨[], [.mk true [.v (.int .u32), .v (.int .u32)], .mk false [vE]]⟩
def f_stamp_Of_m (T : Unit) (d : Unit × ((Int × Unit) × ((Int × Unit) × Unit))) : Option (Unit × ((Int × (Int × Unit)) × (((Option Int) × Unit) × Unit))) :=
  (g_stamp_Fraction ((), d.2.2)).bind fun x1 =>
  let x2 : Bool := (!x1.2.2.1.1.isNone)
  bif x2 then (
  some ((), (((0 : Int), ((0 : Int), ())), x1.2.2)))
  else (
  (g_era_Fold_u32 ((), (d.2.1, ()))).bind fun x3 =>
  some ((), ((x3.2.1.1, x1.2.1), (((none : Option Int), ()), ()))))
def g_stamp_Of (d : Unit × ((Int × Unit) × ((Int × Unit) × Unit))) : Option (Unit × ((Int × (Int × Unit)) × (((Option Int) × Unit) × Unit))) := f_stamp_Of_m () d
theorem ok_stamp_Of : FnOk Tryz.prog ET0 65 pi_stamp_Of po_stamp_Of g_stamp_Of :=
  fn0 (E := ((E0.add 87 (typedSem pi_stamp_Fraction po_stamp_Fraction g_stamp_Fraction)).add 88 (typedSem pi_era_Fold_u32 po_era_Fold_u32 g_era_Fold_u32))) (envOk_add (envOk_add e0_ok (typed_ok ok_stamp_Fraction)) (typed_ok ok_era_Fold_u32)) (fn := Tryz.f65) Tryz.func65 (by kernel_rfl) (by kernel_rfl) [.cell 4 45, .tmp 5] (by kernel_rfl) rfl rfl rfl [] fun d => by kernel_rfl

@[reducible] def pi_steady_Stamp : PSh := ⟨[], [.mk false [.v (.int .u64)]]⟩
@[reducible] def po_steady_Stamp : PSh := ⟨[], [.mk true [.v (.int .u32), .v (.int .u32)]]⟩
def f_steady_Stamp_m (T : Unit) (d : Unit × ((Int × Unit) × Unit)) : Option (Unit × ((Int × (Int × Unit)) × Unit)) :=
  (g_steady_Split ((), d.2)).bind fun x1 =>
  (g_steady_Seconds ((), d.2)).bind fun x2 =>
  (g_stamp_Of ((), (x2.2.1, x1.2.2))).bind fun x3 =>
  let x4 : Bool := (!x3.2.2.1.1.isNone)
  bif x4 then (
  some ((), (((0 : Int), ((0 : Int), ())), ())))
  else (
  some ((), (x3.2.1, ())))
def g_steady_Stamp (d : Unit × ((Int × Unit) × Unit)) : Option (Unit × ((Int × (Int × Unit)) × Unit)) := f_steady_Stamp_m () d
theorem ok_steady_Stamp : FnOk Tryz.prog ET0 39 pi_steady_Stamp po_steady_Stamp g_steady_Stamp :=
  fn0 (E := (((E0.add 42 (typedSem pi_steady_Seconds po_steady_Seconds g_steady_Seconds)).add 43 (typedSem pi_steady_Split po_steady_Split g_steady_Split)).add 65 (typedSem pi_stamp_Of po_stamp_Of g_stamp_Of))) (envOk_add (envOk_add (envOk_add e0_ok (typed_ok ok_steady_Seconds)) (typed_ok ok_steady_Split)) (typed_ok ok_stamp_Of)) (fn := Tryz.f39) Tryz.func39 (by kernel_rfl) (by kernel_rfl) [.cell 2 45] (by kernel_rfl) rfl rfl rfl [] fun d => by kernel_rfl

@[reducible] def pi_answer_begin : PSh := ⟨[], [.mk false [.v (.nptr (.pair (.pair (.int .i64) (.pair (.int .i64) (.pair (.int .i64) (.pair (.int .i64) (.pair (.pair (.int .u8) (.pair (.int .u8) (.pair (.int .u8) (.int .u8)))) (.pair (.int .i64) (.pair (.int .i64) (.pair (.int .i64) (.pair (.int .i64) (.pair (.int .i64) (.int .i64))))))))))) (.pair (.nptr (.pair (.sl (.pair (.int .i64) (.int .i64))) (.pair (.int .i64) (.int .i64)))) (.pair (.nptr (.pair (.pair (.sl (.int .i64)) (.pair (.sl (.int .i64)) (.pair (.sl (.pair (.int .i64) (.pair .bool .str))) (.pair (.sl (.pair (.int .i64) (.int .i64))) (.pair .bool (.pair .str (.pair .str (.pair (.int .i64) (.pair (.int .i64) (.pair (.pair (.int .i64) (.pair (.int .i64) (.pair (.int .i64) (.pair (.int .i64) (.int .i64))))) (.pair (.int .i64) (.pair (.int .i64) (.pair (.int .i64) (.pair (.int .i64) (.int .i64))))))))))))))) (.pair (.int .i64) (.pair .bool .str)))) (.pair (.int .i64) (.int .i64))))))], .mk false [.v (.sl (.int .u8))], .mk false [.v (.int .u64)], .mk false [.v (.int .u64)]]⟩
@[reducible] def po_answer_begin : PSh := ⟨[], [.mk true [vI, vI, vI, v8, .v (.int .i8), .v (.int .i8), .v (.int .u16), .v (.int .u16), .v (.int .u16), .v (.int .u16), v8, v8, v8, v8, .v (.int .u32), .v (.int .u32), .v (.int .u32), .v (.int .u32), .v (.int .u32), .v (.int .u32), .v (.int .u32), .v (.int .u32)], .mk false [vE]]⟩
def f_answer_begin_m (T : Unit) (d : Unit × (((Option ((Int × (Int × (Int × (Int × ((Int × (Int × (Int × Int))) × (Int × (Int × (Int × (Int × (Int × Int)))))))))) × ((Option ((List (Int × Int)) × (Int × Int))) × ((Option (((List Int) × ((List Int) × ((List (Int × (Bool × ByteArray))) × ((List (Int × Int)) × (Bool × (ByteArray × (ByteArray × (Int × (Int × ((Int × (Int × (Int × (Int × Int)))) × (Int × (Int × (Int × (Int × Int)))))))))))))) × (Int × (Bool × ByteArray)))) × (Int × Int))))) × Unit) × (((List Int) × Unit) × ((Int × Unit) × ((Int × Unit) × Unit))))) : Option (Unit × ((Int × (Int × (Int × (Int × (Int × (Int × (Int × (Int × (Int × (Int × (Int × (Int × (Int × (Int × (Int × (Int × (Int × (Int × (Int × (Int × (Int × (Int × Unit)))))))))))))))))))))) × (((Option Int) × Unit) × Unit))) :=
  bif d.2.1.1.isNone then (
  let x1 : (Option Int) := (some (8 : Int))
  some ((), (((0 : Int), ((0 : Int), ((0 : Int), ((0 : Int), ((0 : Int), ((0 : Int), ((0 : Int), ((0 : Int), ((0 : Int), ((0 : Int), ((0 : Int), ((0 : Int), ((0 : Int), ((0 : Int), ((0 : Int), ((0 : Int), ((0 : Int), ((0 : Int), ((0 : Int), ((0 : Int), ((0 : Int), ((0 : Int), ())))))))))))))))))))))), ((x1, ()), ()))))
  else (
  (g_answer_Ask ((), (d.2.2.1, ()))).bind fun x2 =>
  let x3 : Bool := (!x2.2.2.1.1.isNone)
  bif x3 then (
  some ((), (((0 : Int), ((0 : Int), ((0 : Int), ((0 : Int), ((0 : Int), ((0 : Int), ((0 : Int), ((0 : Int), ((0 : Int), ((0 : Int), ((0 : Int), ((0 : Int), ((0 : Int), ((0 : Int), ((0 : Int), ((0 : Int), ((0 : Int), ((0 : Int), ((0 : Int), ((0 : Int), ((0 : Int), ((0 : Int), ())))))))))))))))))))))), x2.2.2)))
  else (
  let x4 : Bool := (decide (d.2.2.2.2.1.1 < d.2.2.2.1.1))
  bif x4 then (
  let x5 : (Option Int) := (some (6 : Int))
  some ((), (((0 : Int), ((0 : Int), ((0 : Int), ((0 : Int), ((0 : Int), ((0 : Int), ((0 : Int), ((0 : Int), ((0 : Int), ((0 : Int), ((0 : Int), ((0 : Int), ((0 : Int), ((0 : Int), ((0 : Int), ((0 : Int), ((0 : Int), ((0 : Int), ((0 : Int), ((0 : Int), ((0 : Int), ((0 : Int), ())))))))))))))))))))))), ((x5, ()), ()))))
  else (
  (g_answer_Mode ((), ((x2.2.1.2.1, ()), ((x2.2.1.2.2.1, ()), ())))).bind fun x6 =>
  (g_config_Store_Settings ((), (d.2.1, ()))).bind fun x7 =>
  let x8 : Int := (iconv .i8 x7.2.1.2.2.2.2.2.2.2.2.1)
  (g_steady_Stamp ((), (d.2.2.2.1, ()))).bind fun x9 =>
  (g_steady_Stamp ((), d.2.2.2.2)).bind fun x10 =>
  some ((), (((0 : Int), (x2.2.1.2.1, (x6.2.1.1, ((0 : Int), (x2.2.1.2.2.2.2.1, (x8, ((0 : Int), ((0 : Int), ((0 : Int), ((0 : Int), ((0 : Int), ((0 : Int), ((0 : Int), ((0 : Int), ((0 : Int), ((0 : Int), (x2.2.1.2.2.2.2.2.2.2.2.2.2.2.2.2.2.2.2.2.2.2.2.1, (x2.2.1.2.2.2.2.2.2.2.2.2.2.2.2.2.2.2.2.2.2.2.2.2.1, (x9.2.1.1, (x9.2.1.2.1, x10.2.1)))))))))))))))))))), (((none : Option Int), ()), ()))))))
def g_answer_begin (d : Unit × (((Option ((Int × (Int × (Int × (Int × ((Int × (Int × (Int × Int))) × (Int × (Int × (Int × (Int × (Int × Int)))))))))) × ((Option ((List (Int × Int)) × (Int × Int))) × ((Option (((List Int) × ((List Int) × ((List (Int × (Bool × ByteArray))) × ((List (Int × Int)) × (Bool × (ByteArray × (ByteArray × (Int × (Int × ((Int × (Int × (Int × (Int × Int)))) × (Int × (Int × (Int × (Int × Int)))))))))))))) × (Int × (Bool × ByteArray)))) × (Int × Int))))) × Unit) × (((List Int) × Unit) × ((Int × Unit) × ((Int × Unit) × Unit))))) : Option (Unit × ((Int × (Int × (Int × (Int × (Int × (Int × (Int × (Int × (Int × (Int × (Int × (Int × (Int × (Int × (Int × (Int × (Int × (Int × (Int × (Int × (Int × (Int × Unit)))))))))))))))))))))) × (((Option Int) × Unit) × Unit))) := f_answer_begin_m () d
theorem ok_answer_begin : FnOk Tryz.prog ET0 22 pi_answer_begin po_answer_begin g_answer_begin :=
  fn0 (E := ((((E0.add 18 (typedSem pi_answer_Ask po_answer_Ask g_answer_Ask)).add 19 (typedSem pi_answer_Mode po_answer_Mode g_answer_Mode)).add 23 (typedSem pi_config_Store_Settings po_config_Store_Settings g_config_Store_Settings)).add 39 (typedSem pi_steady_Stamp po_steady_Stamp g_steady_Stamp))) (envOk_add (envOk_add (envOk_add (envOk_add e0_ok (typed_ok ok_answer_Ask)) (typed_ok ok_answer_Mode)) (typed_ok ok_config_Store_Settings)) (typed_ok ok_steady_Stamp)) (fn := Tryz.f22) Tryz.func22 (by kernel_rfl) (by kernel_rfl) [.cell 8 47, .tmp 9] (by kernel_rfl) rfl rfl rfl [] fun d => by kernel_rfl

@[reducible] def pi_config_Store_Table : PSh := ⟨[], [.mk false [.v (.nptr (.pair (.pair (.int .i64) (.pair (.int .i64) (.pair (.int .i64) (.pair (.int .i64) (.pair (.pair (.int .u8) (.pair (.int .u8) (.pair (.int .u8) (.int .u8)))) (.pair (.int .i64) (.pair (.int .i64) (.pair (.int .i64) (.pair (.int .i64) (.pair (.int .i64) (.int .i64))))))))))) (.pair (.nptr (.pair (.sl (.pair (.int .i64) (.int .i64))) (.pair (.int .i64) (.int .i64)))) (.pair (.nptr (.pair (.pair (.sl (.int .i64)) (.pair (.sl (.int .i64)) (.pair (.sl (.pair (.int .i64) (.pair .bool .str))) (.pair (.sl (.pair (.int .i64) (.int .i64))) (.pair .bool (.pair .str (.pair .str (.pair (.int .i64) (.pair (.int .i64) (.pair (.pair (.int .i64) (.pair (.int .i64) (.pair (.int .i64) (.pair (.int .i64) (.int .i64))))) (.pair (.int .i64) (.pair (.int .i64) (.pair (.int .i64) (.pair (.int .i64) (.int .i64))))))))))))))) (.pair (.int .i64) (.pair .bool .str)))) (.pair (.int .i64) (.int .i64))))))]]⟩
@[reducible] def po_config_Store_Table : PSh := ⟨[], [.mk false [.v (.nptr (.pair (.sl (.pair (.int .i64) (.int .i64))) (.pair (.int .i64) (.int .i64))))]]⟩
def f_config_Store_Table_m (T : Unit) (d : Unit × (((Option ((Int × (Int × (Int × (Int × ((Int × (Int × (Int × Int))) × (Int × (Int × (Int × (Int × (Int × Int)))))))))) × ((Option ((List (Int × Int)) × (Int × Int))) × ((Option (((List Int) × ((List Int) × ((List (Int × (Bool × ByteArray))) × ((List (Int × Int)) × (Bool × (ByteArray × (ByteArray × (Int × (Int × ((Int × (Int × (Int × (Int × Int)))) × (Int × (Int × (Int × (Int × Int)))))))))))))) × (Int × (Bool × ByteArray)))) × (Int × Int))))) × Unit) × Unit)) : Option (Unit × (((Option ((List (Int × Int)) × (Int × Int))) × Unit) × Unit)) :=
  bif d.2.1.1.isNone then (
  some ((), (((none : Option ((List (Int × Int)) × (Int × Int))), ()), ())))
  else (
  d.2.1.1.bind fun x1 =>
  some ((), ((x1.2.1, ()), ())))
def g_config_Store_Table (d : Unit × (((Option ((Int × (Int × (Int × (Int × ((Int × (Int × (Int × Int))) × (Int × (Int × (Int × (Int × (Int × Int)))))))))) × ((Option ((List (Int × Int)) × (Int × Int))) × ((Option (((List Int) × ((List Int) × ((List (Int × (Bool × ByteArray))) × ((List (Int × Int)) × (Bool × (ByteArray × (ByteArray × (Int × (Int × ((Int × (Int × (Int × (Int × Int)))) × (Int × (Int × (Int × (Int × Int)))))))))))))) × (Int × (Bool × ByteArray)))) × (Int × Int))))) × Unit) × Unit)) : Option (Unit × (((Option ((List (Int × Int)) × (Int × Int))) × Unit) × Unit)) := f_config_Store_Table_m () d
theorem ok_config_Store_Table : FnOk Tryz.prog ET0 40 pi_config_Store_Table po_config_Store_Table g_config_Store_Table :=
  fn0 (E := E0) e0_ok (fn := Tryz.f40) Tryz.func40 (by kernel_rfl) (by kernel_rfl) [.tmp 2] (by kernel_rfl) rfl rfl rfl [] fun d => by kernel_rfl

@[reducible] def pi_leap_Table_Expired : PSh := ⟨[], [.mk false [.v (.nptr (.pair (.sl (.pair (.int .i64) (.int .i64))) (.pair (.int .i64) (.int .i64))))], .mk false [vI]]⟩
@[reducible] def po_leap_Table_Expired : PSh := ⟨[], [.mk false [vB]]⟩
def f_leap_Table_Expired_m (T : Unit) (d : Unit × (((Option ((List (Int × Int)) × (Int × Int))) × Unit) × ((Int × Unit) × Unit))) : Option (Unit × ((Bool × Unit) × Unit)) :=
  bif d.2.1.1.isNone then (
  some ((), ((true, ()), ())))
  else (
  d.2.1.1.bind fun x1 =>
  let x2 : Bool := (decide (d.2.2.1.1 ≥ x1.2.2))
  some ((), ((x2, ()), ())))
def g_leap_Table_Expired (d : Unit × (((Option ((List (Int × Int)) × (Int × Int))) × Unit) × ((Int × Unit) × Unit))) : Option (Unit × ((Bool × Unit) × Unit)) := f_leap_Table_Expired_m () d
theorem ok_leap_Table_Expired : FnOk Tryz.prog ET0 41 pi_leap_Table_Expired po_leap_Table_Expired g_leap_Table_Expired :=
  fn0 (E := E0) e0_ok (fn := Tryz.f41) Tryz.func41 (by kernel_rfl) (by kernel_rfl) [.tmp 4] (by kernel_rfl) rfl rfl rfl [] fun d => by kernel_rfl

@[reducible] def pi_leap_Table_list : PSh := ⟨[], [.mk false [.v (.nptr (.pair (.sl (.pair (.int .i64) (.int .i64))) (.pair (.int .i64) (.int .i64))))]]⟩
@[reducible] def po_leap_Table_list : PSh := ⟨[], [.mk false [.v (.sl (.pair (.int .i64) (.int .i64)))]]⟩
def f_leap_Table_list_m (T : Unit) (d : Unit × (((Option ((List (Int × Int)) × (Int × Int))) × Unit) × Unit)) : Option (Unit × (((List (Int × Int)) × Unit) × Unit)) :=
  bif d.2.1.1.isNone then (
  some ((), ((([] : List (Int × Int)), ()), ())))
  else (
  d.2.1.1.bind fun x1 =>
  some ((), ((x1.1, ()), ())))
def g_leap_Table_list (d : Unit × (((Option ((List (Int × Int)) × (Int × Int))) × Unit) × Unit)) : Option (Unit × (((List (Int × Int)) × Unit) × Unit)) := f_leap_Table_list_m () d
theorem ok_leap_Table_list : FnOk Tryz.prog ET0 92 pi_leap_Table_list po_leap_Table_list g_leap_Table_list :=
  fn0 (E := E0) e0_ok (fn := Tryz.f92) Tryz.func92 (by kernel_rfl) (by kernel_rfl) [.tmp 2] (by kernel_rfl) rfl rfl rfl [] fun d => by kernel_rfl

@[reducible] def pi_leap_Table_Len : PSh := ⟨[], [.mk false [.v (.nptr (.pair (.sl (.pair (.int .i64) (.int .i64))) (.pair (.int .i64) (.int .i64))))]]⟩
@[reducible] def po_leap_Table_Len : PSh := ⟨[], [.mk false [vI]]⟩
def f_leap_Table_Len_m (T : Unit) (d : Unit × (((Option ((List (Int × Int)) × (Int × Int))) × Unit) × Unit)) : Option (Unit × ((Int × Unit) × Unit)) :=
  (g_leap_Table_list ((), d.2)).bind fun x1 =>
  let x2 : Int := (x1.2.1.1.length : Int)
  some ((), ((x2, ()), ()))
def g_leap_Table_Len (d : Unit × (((Option ((List (Int × Int)) × (Int × Int))) × Unit) × Unit)) : Option (Unit × ((Int × Unit) × Unit)) := f_leap_Table_Len_m () d
theorem ok_leap_Table_Len : FnOk Tryz.prog ET0 90 pi_leap_Table_Len po_leap_Table_Len g_leap_Table_Len :=
  fn0 (E := (E0.add 92 (typedSem pi_leap_Table_list po_leap_Table_list g_leap_Table_list))) (envOk_add e0_ok (typed_ok ok_leap_Table_list)) (fn := Tryz.f90) Tryz.func90 (by kernel_rfl) (by kernel_rfl) [.tmp 2] (by kernel_rfl) rfl rfl rfl [] fun d => by kernel_rfl

@[reducible] def pi_leap_Table_Row : PSh := ⟨[], [.mk false [.v (.nptr (.pair (.sl (.pair (.int .i64) (.int .i64))) (.pair (.int .i64) (.int .i64))))], .mk false [vI]]⟩
@[reducible] def po_leap_Table_Row : PSh := ⟨[], [.mk true [vI, vI], .mk false [vB]]⟩
def f_leap_Table_Row_m (T : Unit) (d : Unit × (((Option ((List (Int × Int)) × (Int × Int))) × Unit) × ((Int × Unit) × Unit))) : Option (Unit × ((Int × (Int × Unit)) × ((Bool × Unit) × Unit))) :=
  let x1 : Bool := (decide (d.2.2.1.1 < (0 : Int)))
  bif x1 then (
  some ((), (((0 : Int), ((0 : Int), ())), ((false, ()), ()))))
  else (
  (g_leap_Table_Len ((), (d.2.1, ()))).bind fun x2 =>
  let x3 : Bool := (decide (d.2.2.1.1 ≥ x2.2.1.1))
  bif x3 then (
  some ((), (((0 : Int), ((0 : Int), ())), ((false, ()), ()))))
  else (
  d.2.1.1.bind fun x4 =>
  bif decide ((0 : Int) ≤ d.2.2.1.1) && decide (d.2.2.1.1 < (x4.1.length : Int)) then (
  some ((), (((gd_i64_i64 x4.1 d.2.2.1.1).1, ((gd_i64_i64 x4.1 d.2.2.1.1).2, ())), ((true, ()), ()))))
  else none))
def g_leap_Table_Row (d : Unit × (((Option ((List (Int × Int)) × (Int × Int))) × Unit) × ((Int × Unit) × Unit))) : Option (Unit × ((Int × (Int × Unit)) × ((Bool × Unit) × Unit))) := f_leap_Table_Row_m () d
theorem ok_leap_Table_Row : FnOk Tryz.prog ET0 67 pi_leap_Table_Row po_leap_Table_Row g_leap_Table_Row :=
  fn0 (E := (E0.add 90 (typedSem pi_leap_Table_Len po_leap_Table_Len g_leap_Table_Len))) (envOk_add e0_ok (typed_ok ok_leap_Table_Len)) (fn := Tryz.f67) Tryz.func67 (by kernel_rfl) (by kernel_rfl) [.cell 4 141, .tmp 5] (by kernel_rfl) rfl rfl rfl [] fun d => by kernel_rfl

@[reducible] def pi_leap_Table_behind_1 : PSh := ⟨[], [.mk true [vI, vI], .mk false [vI]]⟩
@[reducible] def po_leap_Table_behind_1 : PSh := ⟨[], [.mk false [vI]]⟩
def f_leap_Table_behind_1_m (T : Unit) (d : Unit × ((Int × (Int × Unit)) × ((Int × Unit) × Unit))) : Option (Unit × ((Int × Unit) × Unit)) :=
  let x1 : Bool := (decide (d.2.1.1 < d.2.2.1.1))
  bif x1 then (
  some ((), (((-1 : Int), ()), ())))
  else (
  let x2 : Bool := (decide (d.2.1.1 > d.2.2.1.1))
  bif x2 then (
  some ((), (((1 : Int), ()), ())))
  else (
  some ((), (((0 : Int), ()), ()))))
def g_leap_Table_behind_1 (d : Unit × ((Int × (Int × Unit)) × ((Int × Unit) × Unit))) : Option (Unit × ((Int × Unit) × Unit)) := f_leap_Table_behind_1_m () d
theorem ok_leap_Table_behind_1 : FnOk Tryz.prog ET0 93 pi_leap_Table_behind_1 po_leap_Table_behind_1 g_leap_Table_behind_1 :=
  fn0 (E := E0) e0_ok (fn := Tryz.f93) Tryz.func93 (by kernel_rfl) (by kernel_rfl) [.tmp 4] (by kernel_rfl) rfl rfl rfl [] fun d => by kernel_rfl

@[reducible] def pi_slices_BinarySearchFunc_leap_Row_leap_Row_i64_leap_Table_behind_1 : PSh := ⟨[], [.mk false [.v (.sl (.pair (.int .i64) (.int .i64)))], .mk false [vI], .mk false [.fn 93 []]]⟩
@[reducible] def po_slices_BinarySearchFunc_leap_Row_leap_Row_i64_leap_Table_behind_1 : PSh := ⟨[], [.mk false [vI], .mk false [vB]]⟩
@[reducible] def TT_slices_BinarySearchFunc_leap_Row_leap_Row_i64_leap_Table_behind_1 : Type := (((Unit × (((List (Int × Int)) × Unit) × ((Int × Unit) × (Unit × ((Int × Unit) × ((Int × Unit) × ((Int × Unit) × Unit))))))) → Option (Unit × ((Int × Unit) × ((Bool × Unit) × Unit)))) × Unit)
@[reducible] def sh_slices_BinarySearchFunc_leap_Row_leap_Row_i64_leap_Table_behind_1_4 : PSh := ⟨[], [.mk false [.v (.sl (.pair (.int .i64) (.int .i64)))], .mk false [vI], .mk false [.fn 93 []], .any, .any, .any, .any, .any, .mk false [vI], .mk false [vI], .mk false [vI], .any, .any, .any, .any, .any, .any, .any, .any, .any, .any, .any, .any, .any, .any, .any, .any, .any, .any, .any, .any, .any, .any, .any, .any, .any, .any, .any, .any, .any, .any, .any, .any, .any, .any, .any, .any, .any, .any]⟩
def f_slices_BinarySearchFunc_leap_Row_leap_Row_i64_leap_Table_behind_1_p4 (T : TT_slices_BinarySearchFunc_leap_Row_leap_Row_i64_leap_Table_behind_1) (d : Unit × (((List (Int × Int)) × Unit) × ((Int × Unit) × (Unit × ((Int × Unit) × ((Int × Unit) × ((Int × Unit) × Unit))))))) : Option (Unit × ((Int × Unit) × ((Bool × Unit) × Unit))) :=
  let x2 : Bool := (decide (d.2.2.2.2.2.1.1 < d.2.2.2.2.2.2.1.1))
  bif x2 then (
  let x3 : Int := (iadd .i64 d.2.2.2.2.2.1.1 d.2.2.2.2.2.2.1.1)
  let x4 : Int := (iconv .u64 x3)
  let x5 : Int := (ishr .u64 x4 (1 : Int))
  let x6 : Int := (iconv .i64 x5)
  bif decide ((0 : Int) ≤ x6) && decide (x6 < (d.2.1.1.length : Int)) then (
  (g_leap_Table_behind_1 ((), (((gd_i64_i64 d.2.1.1 x6).1, ((gd_i64_i64 d.2.1.1 x6).2, ())), (d.2.2.1, ())))).bind fun x7 =>
  let x8 : Bool := (decide (x7.2.1.1 < (0 : Int)))
  bif x8 then (
  let x9 : Int := (iadd .i64 x6 (1 : Int))
  (T.1 ((), (d.2.1, (d.2.2.1, ((), (d.2.2.2.2.1, ((x9, ()), d.2.2.2.2.2.2))))))))
  else (
  (T.1 ((), (d.2.1, (d.2.2.1, ((), (d.2.2.2.2.1, (d.2.2.2.2.2.1, ((x6, ()), ()))))))))))
  else none)
  else (
  let x10 : Bool := (decide (d.2.2.2.2.2.1.1 < d.2.2.2.2.1.1))
  bif x10 then (
  bif decide ((0 : Int) ≤ d.2.2.2.2.2.1.1) && decide (d.2.2.2.2.2.1.1 < (d.2.1.1.length : Int)) then (
  (g_leap_Table_behind_1 ((), (((gd_i64_i64 d.2.1.1 d.2.2.2.2.2.1.1).1, ((gd_i64_i64 d.2.1.1 d.2.2.2.2.2.1.1).2, ())), (d.2.2.1, ())))).bind fun x11 =>
  let x12 : Bool := (x11.2.1.1 == (0 : Int))
  some ((), (d.2.2.2.2.2.1, ((x12, ()), ()))))
  else none)
  else (
  some ((), (d.2.2.2.2.2.1, ((false, ()), ())))))
def f_slices_BinarySearchFunc_leap_Row_leap_Row_i64_leap_Table_behind_1_t : Nat → TT_slices_BinarySearchFunc_leap_Row_leap_Row_i64_leap_Table_behind_1
  | 0 => (fun _ => none, ())
  | k + 1 => (f_slices_BinarySearchFunc_leap_Row_leap_Row_i64_leap_Table_behind_1_p4 (f_slices_BinarySearchFunc_leap_Row_leap_Row_i64_leap_Table_behind_1_t k), ())
theorem t_slices_BinarySearchFunc_leap_Row_leap_Row_i64_leap_Table_behind_1 (k : Nat) : f_slices_BinarySearchFunc_leap_Row_leap_Row_i64_leap_Table_behind_1_t (k + 1) = (f_slices_BinarySearchFunc_leap_Row_leap_Row_i64_leap_Table_behind_1_p4 (f_slices_BinarySearchFunc_leap_Row_leap_Row_i64_leap_Table_behind_1_t k), ()) := rfl
def f_slices_BinarySearchFunc_leap_Row_leap_Row_i64_leap_Table_behind_1_m (T : TT_slices_BinarySearchFunc_leap_Row_leap_Row_i64_leap_Table_behind_1) (d : Unit × (((List (Int × Int)) × Unit) × ((Int × Unit) × (Unit × Unit)))) : Option (Unit × ((Int × Unit) × ((Bool × Unit) × Unit))) :=
  let x1 : Int := (d.2.1.1.length : Int)
  (T.1 ((), (d.2.1, (d.2.2.1, ((), ((x1, ()), (((0 : Int), ()), ((x1, ()), ()))))))))
def c_slices_BinarySearchFunc_leap_Row_leap_Row_i64_leap_Table_behind_1 : List Nat := []
def L_slices_BinarySearchFunc_leap_Row_leap_Row_i64_leap_Table_behind_1 (k : Nat) : Pts po_slices_BinarySearchFunc_leap_Row_leap_Row_i64_leap_Table_behind_1.den := [(4, ⟨sh_slices_BinarySearchFunc_leap_Row_leap_Row_i64_leap_Table_behind_1_4, (f_slices_BinarySearchFunc_leap_Row_leap_Row_i64_leap_Table_behind_1_t k).1⟩)]
def R_slices_BinarySearchFunc_leap_Row_leap_Row_i64_leap_Table_behind_1 (_ : Nat) : PtsR po_slices_BinarySearchFunc_leap_Row_leap_Row_i64_leap_Table_behind_1.den := []
def E_slices_BinarySearchFunc_leap_Row_leap_Row_i64_leap_Table_behind_1 : Env := (E0.add 93 (typedSem pi_leap_Table_behind_1 po_leap_Table_behind_1 g_leap_Table_behind_1))
theorem q_slices_BinarySearchFunc_leap_Row_leap_Row_i64_leap_Table_behind_1_4 (k : Nat) (d : sh_slices_BinarySearchFunc_leap_Row_leap_Row_i64_leap_Table_behind_1_4.den) : evAt E_slices_BinarySearchFunc_leap_Row_leap_Row_i64_leap_Table_behind_1 (tb (L_slices_BinarySearchFunc_leap_Row_leap_Row_i64_leap_Table_behind_1 k) (R_slices_BinarySearchFunc_leap_Row_leap_Row_i64_leap_Table_behind_1 k)) c_slices_BinarySearchFunc_leap_Row_leap_Row_i64_leap_Table_behind_1 4 (bodyOf Tryz.f91) 0 (finK E_slices_BinarySearchFunc_leap_Row_leap_Row_i64_leap_Table_behind_1 po_slices_BinarySearchFunc_leap_Row_leap_Row_i64_leap_Table_behind_1 [.tmp 6, .tmp 7]) (ptSt sh_slices_BinarySearchFunc_leap_Row_leap_Row_i64_leap_Table_behind_1_4 d) = f_slices_BinarySearchFunc_leap_Row_leap_Row_i64_leap_Table_behind_1_p4 (f_slices_BinarySearchFunc_leap_Row_leap_Row_i64_leap_Table_behind_1_t k) d := by kernel_rfl
theorem q_slices_BinarySearchFunc_leap_Row_leap_Row_i64_leap_Table_behind_1_m (k : Nat) (d : pi_slices_BinarySearchFunc_leap_Row_leap_Row_i64_leap_Table_behind_1.den) : evCode E_slices_BinarySearchFunc_leap_Row_leap_Row_i64_leap_Table_behind_1 (tb (L_slices_BinarySearchFunc_leap_Row_leap_Row_i64_leap_Table_behind_1 k) (R_slices_BinarySearchFunc_leap_Row_leap_Row_i64_leap_Table_behind_1 k)) c_slices_BinarySearchFunc_leap_Row_leap_Row_i64_leap_Table_behind_1 (bodyOf Tryz.f91) 0 (finK E_slices_BinarySearchFunc_leap_Row_leap_Row_i64_leap_Table_behind_1 po_slices_BinarySearchFunc_leap_Row_leap_Row_i64_leap_Table_behind_1 [.tmp 6, .tmp 7]) (startSt pi_slices_BinarySearchFunc_leap_Row_leap_Row_i64_leap_Table_behind_1 49 d) = f_slices_BinarySearchFunc_leap_Row_leap_Row_i64_leap_Table_behind_1_m (f_slices_BinarySearchFunc_leap_Row_leap_Row_i64_leap_Table_behind_1_t k) d := by kernel_rfl
def g_slices_BinarySearchFunc_leap_Row_leap_Row_i64_leap_Table_behind_1 (d : Unit × (((List (Int × Int)) × Unit) × ((Int × Unit) × (Unit × Unit)))) : Option (Unit × ((Int × Unit) × ((Bool × Unit) × Unit))) := lim fun k => f_slices_BinarySearchFunc_leap_Row_leap_Row_i64_leap_Table_behind_1_m (f_slices_BinarySearchFunc_leap_Row_leap_Row_i64_leap_Table_behind_1_t k) d
theorem ok_slices_BinarySearchFunc_leap_Row_leap_Row_i64_leap_Table_behind_1 : FnOk Tryz.prog ET0 91 pi_slices_BinarySearchFunc_leap_Row_leap_Row_i64_leap_Table_behind_1 po_slices_BinarySearchFunc_leap_Row_leap_Row_i64_leap_Table_behind_1 g_slices_BinarySearchFunc_leap_Row_leap_Row_i64_leap_Table_behind_1 :=
  fn_of_body (E := E_slices_BinarySearchFunc_leap_Row_leap_Row_i64_leap_Table_behind_1) (envOk_add e0_ok (typed_ok ok_leap_Table_behind_1)) (fn := Tryz.f91) Tryz.func91 (by kernel_rfl) (by kernel_rfl) [.tmp 6, .tmp 7] (by kernel_rfl) (by kernel_rfl) (by decide) rfl c_slices_BinarySearchFunc_leap_Row_leap_Row_i64_leap_Table_behind_1 L_slices_BinarySearchFunc_leap_Row_leap_Row_i64_leap_Table_behind_1 R_slices_BinarySearchFunc_leap_Row_leap_Row_i64_leap_Table_behind_1
    (by intro x hx d; simp only [L_slices_BinarySearchFunc_leap_Row_leap_Row_i64_leap_Table_behind_1, List.mem_cons, List.not_mem_nil, or_false] at hx; subst hx; rfl)
    (by intro k x hx d out h; simp only [L_slices_BinarySearchFunc_leap_Row_leap_Row_i64_leap_Table_behind_1, List.mem_cons, List.not_mem_nil, or_false] at hx; subst hx; exact (q_slices_BinarySearchFunc_leap_Row_leap_Row_i64_leap_Table_behind_1_4 k d).trans h)
    (by intro x hx; cases hx)
    (by intro k x hx; cases hx)
    (by intro d out h; obtain ⟨k, hk⟩ := lim_some h; exact ⟨k, (q_slices_BinarySearchFunc_leap_Row_leap_Row_i64_leap_Table_behind_1_m k d).trans hk⟩)

@[reducible] def pi_leap_Table_behind : PSh := ⟨[], [.mk false [.v (.nptr (.pair (.sl (.pair (.int .i64) (.int .i64))) (.pair (.int .i64) (.int .i64))))], .mk false [vI]]⟩
@[reducible] def po_leap_Table_behind : PSh := ⟨[], [.mk false [vI]]⟩
def f_leap_Table_behind_m (T : Unit) (d : Unit × (((Option ((List (Int × Int)) × (Int × Int))) × Unit) × ((Int × Unit) × Unit))) : Option (Unit × ((Int × Unit) × Unit)) :=
  (g_leap_Table_list ((), (d.2.1, ()))).bind fun x1 =>
  (g_slices_BinarySearchFunc_leap_Row_leap_Row_i64_leap_Table_behind_1 ((), (x1.2.1, (d.2.2.1, ((), ()))))).bind fun x2 =>
  bif x2.2.2.1.1 then (
  let x3 : Int := (iadd .i64 x2.2.1.1 (1 : Int))
  some ((), ((x3, ()), ())))
  else (
  some ((), (x2.2.1, ())))
def g_leap_Table_behind (d : Unit × (((Option ((List (Int × Int)) × (Int × Int))) × Unit) × ((Int × Unit) × Unit))) : Option (Unit × ((Int × Unit) × Unit)) := f_leap_Table_behind_m () d
theorem ok_leap_Table_behind : FnOk Tryz.prog ET0 68 pi_leap_Table_behind po_leap_Table_behind g_leap_Table_behind :=
  fn0 (E := ((E0.add 91 (typedSem pi_slices_BinarySearchFunc_leap_Row_leap_Row_i64_leap_Table_behind_1 po_slices_BinarySearchFunc_leap_Row_leap_Row_i64_leap_Table_behind_1 g_slices_BinarySearchFunc_leap_Row_leap_Row_i64_leap_Table_behind_1)).add 92 (typedSem pi_leap_Table_list po_leap_Table_list g_leap_Table_list))) (envOk_add (envOk_add e0_ok (typed_ok ok_slices_BinarySearchFunc_leap_Row_leap_Row_i64_leap_Table_behind_1)) (typed_ok ok_leap_Table_list)) (fn := Tryz.f68) Tryz.func68 (by kernel_rfl) (by kernel_rfl) [.tmp 4] (by kernel_rfl) rfl rfl rfl [] fun d => by kernel_rfl

@[reducible] def pi_leap_Table_change : PSh := ⟨[], [.mk false [.v (.nptr (.pair (.sl (.pair (.int .i64) (.int .i64))) (.pair (.int .i64) (.int .i64))))], .mk false [vI]]⟩
@[reducible] def po_leap_Table_change : PSh := ⟨[], [.mk false [vI]]⟩
def f_leap_Table_change_m (T : Unit) (d : Unit × (((Option ((List (Int × Int)) × (Int × Int))) × Unit) × ((Int × Unit) × Unit))) : Option (Unit × ((Int × Unit) × Unit)) :=
  let x1 : Int := (isub .i64 d.2.2.1.1 (1 : Int))
  (g_leap_Table_Row ((), (d.2.1, ((x1, ()), ())))).bind fun x2 =>
  let x3 : Bool := (!x2.2.2.1.1)
  bif x3 then (
  some ((), (((0 : Int), ()), ())))
  else (
  d.2.1.1.bind fun x4 =>
  bif decide ((0 : Int) ≤ d.2.2.1.1) && decide (d.2.2.1.1 < (x4.1.length : Int)) then (
  let x5 : Int := (isub .i64 (gd_i64_i64 x4.1 d.2.2.1.1).2 x2.2.1.2.1)
  some ((), ((x5, ()), ())))
  else none)
def g_leap_Table_change (d : Unit × (((Option ((List (Int × Int)) × (Int × Int))) × Unit) × ((Int × Unit) × Unit))) : Option (Unit × ((Int × Unit) × Unit)) := f_leap_Table_change_m () d
theorem ok_leap_Table_change : FnOk Tryz.prog ET0 69 pi_leap_Table_change po_leap_Table_change g_leap_Table_change :=
  fn0 (E := (E0.add 67 (typedSem pi_leap_Table_Row po_leap_Table_Row g_leap_Table_Row))) (envOk_add e0_ok (typed_ok ok_leap_Table_Row)) (fn := Tryz.f69) Tryz.func69 (by kernel_rfl) (by kernel_rfl) [.tmp 4] (by kernel_rfl) rfl rfl rfl [] fun d => by kernel_rfl

@[reducible] def pi_leap_Table_Leap : PSh := ⟨[], [.mk false [.v (.nptr (.pair (.sl (.pair (.int .i64) (.int .i64))) (.pair (.int .i64) (.int .i64))))], .mk false [vI]]⟩
@[reducible] def po_leap_Table_Leap : PSh := ⟨[], [.mk false [vI]]⟩
def f_leap_Table_Leap_m (T : Unit) (d : Unit × (((Option ((List (Int × Int)) × (Int × Int))) × Unit) × ((Int × Unit) × Unit))) : Option (Unit × ((Int × Unit) × Unit)) :=
  (g_leap_Table_behind ((), d.2)).bind fun x1 =>
  (g_leap_Table_Row ((), (d.2.1, x1.2))).bind fun x2 =>
  let x3 : Bool := (!x2.2.2.1.1)
  bif x3 then (
  some ((), (((0 : Int), ()), ())))
  else (
  let x4 : Int := (isub .i64 x2.2.1.1 (1 : Int))
  let x5 : Bool := (x4 != d.2.2.1.1)
  bif x5 then (
  some ((), (((0 : Int), ()), ())))
  else (
  (g_leap_Table_behind ((), d.2)).bind fun x6 =>
  (g_leap_Table_change ((), (d.2.1, x6.2))).bind fun x7 =>
  some ((), x7.2)))
def g_leap_Table_Leap (d : Unit × (((Option ((List (Int × Int)) × (Int × Int))) × Unit) × ((Int × Unit) × Unit))) : Option (Unit × ((Int × Unit) × Unit)) := f_leap_Table_Leap_m () d
theorem ok_leap_Table_Leap : FnOk Tryz.prog ET0 44 pi_leap_Table_Leap po_leap_Table_Leap g_leap_Table_Leap :=
  fn0 (E := (((E0.add 67 (typedSem pi_leap_Table_Row po_leap_Table_Row g_leap_Table_Row)).add 68 (typedSem pi_leap_Table_behind po_leap_Table_behind g_leap_Table_behind)).add 69 (typedSem pi_leap_Table_change po_leap_Table_change g_leap_Table_change))) (envOk_add (envOk_add (envOk_add e0_ok (typed_ok ok_leap_Table_Row)) (typed_ok ok_leap_Table_behind)) (typed_ok ok_leap_Table_change)) (fn := Tryz.f44) Tryz.func44 (by kernel_rfl) (by kernel_rfl) [.tmp 4] (by kernel_rfl) rfl rfl rfl [] fun d => by kernel_rfl

@[reducible] def pi_answer_Sign : PSh := ⟨[], [.mk false [.v (.nptr (.pair (.pair (.int .i64) (.pair (.int .i64) (.pair (.int .i64) (.pair (.int .i64) (.pair (.pair (.int .u8) (.pair (.int .u8) (.pair (.int .u8) (.int .u8)))) (.pair (.int .i64) (.pair (.int .i64) (.pair (.int .i64) (.pair (.int .i64) (.pair (.int .i64) (.int .i64))))))))))) (.pair (.nptr (.pair (.sl (.pair (.int .i64) (.int .i64))) (.pair (.int .i64) (.int .i64)))) (.pair (.nptr (.pair (.pair (.sl (.int .i64)) (.pair (.sl (.int .i64)) (.pair (.sl (.pair (.int .i64) (.pair .bool .str))) (.pair (.sl (.pair (.int .i64) (.int .i64))) (.pair .bool (.pair .str (.pair .str (.pair (.int .i64) (.pair (.int .i64) (.pair (.pair (.int .i64) (.pair (.int .i64) (.pair (.int .i64) (.pair (.int .i64) (.int .i64))))) (.pair (.int .i64) (.pair (.int .i64) (.pair (.int .i64) (.pair (.int .i64) (.int .i64))))))))))))))) (.pair (.int .i64) (.pair .bool .str)))) (.pair (.int .i64) (.int .i64))))))], .mk false [.v (.int .u64)]]⟩
@[reducible] def po_answer_Sign : PSh := ⟨[], [.mk false [vI]]⟩
def f_answer_Sign_m (T : Unit) (d : Unit × (((Option ((Int × (Int × (Int × (Int × ((Int × (Int × (Int × Int))) × (Int × (Int × (Int × (Int × (Int × Int)))))))))) × ((Option ((List (Int × Int)) × (Int × Int))) × ((Option (((List Int) × ((List Int) × ((List (Int × (Bool × ByteArray))) × ((List (Int × Int)) × (Bool × (ByteArray × (ByteArray × (Int × (Int × ((Int × (Int × (Int × (Int × Int)))) × (Int × (Int × (Int × (Int × Int)))))))))))))) × (Int × (Bool × ByteArray)))) × (Int × Int))))) × Unit) × ((Int × Unit) × Unit))) : Option (Unit × ((Int × Unit) × Unit)) :=
  (g_config_Store_Table ((), (d.2.1, ()))).bind fun x1 =>
  (g_steady_Seconds ((), d.2.2)).bind fun x2 =>
  (g_leap_Table_Expired ((), (x1.2.1, x2.2))).bind fun x3 =>
  bif x3.2.1.1 then (
  some ((), (((3 : Int), ()), ())))
  else (
  (g_steady_Split ((), d.2.2)).bind fun x4 =>
  let x5 : Int := (iquo .i64 x4.2.1.1 (86400 : Int))
  (g_leap_Table_Leap ((), (x1.2.1, ((x5, ()), ())))).bind fun x6 =>
  let x7 : Int := (iadd .i64 x6.2.1.1 (3 : Int))
  let x8 : Int := (Int.tmod x7 (3 : Int))
  some ((), ((x8, ()), ())))
def g_answer_Sign (d : Unit × (((Option ((Int × (Int × (Int × (Int × ((Int × (Int × (Int × Int))) × (Int × (Int × (Int × (Int × (Int × Int)))))))))) × ((Option ((List (Int × Int)) × (Int × Int))) × ((Option (((List Int) × ((List Int) × ((List (Int × (Bool × ByteArray))) × ((List (Int × Int)) × (Bool × (ByteArray × (ByteArray × (Int × (Int × ((Int × (Int × (Int × (Int × Int)))) × (Int × (Int × (Int × (Int × Int)))))))))))))) × (Int × (Bool × ByteArray)))) × (Int × Int))))) × Unit) × ((Int × Unit) × Unit))) : Option (Unit × ((Int × Unit) × Unit)) := f_answer_Sign_m () d
theorem ok_answer_Sign : FnOk Tryz.prog ET0 24 pi_answer_Sign po_answer_Sign g_answer_Sign :=
  fn0 (E := (((((E0.add 40 (typedSem pi_config_Store_Table po_config_Store_Table g_config_Store_Table)).add 41 (typedSem pi_leap_Table_Expired po_leap_Table_Expired g_leap_Table_Expired)).add 42 (typedSem pi_steady_Seconds po_steady_Seconds g_steady_Seconds)).add 43 (typedSem pi_steady_Split po_steady_Split g_steady_Split)).add 44 (typedSem pi_leap_Table_Leap po_leap_Table_Leap g_leap_Table_Leap))) (envOk_add (envOk_add (envOk_add (envOk_add (envOk_add e0_ok (typed_ok ok_config_Store_Table)) (typed_ok ok_leap_Table_Expired)) (typed_ok ok_steady_Seconds)) (typed_ok ok_steady_Split)) (typed_ok ok_leap_Table_Leap)) (fn := Tryz.f24) Tryz.func24 (by kernel_rfl) (by kernel_rfl) [.tmp 4] (by kernel_rfl) rfl rfl rfl [] fun d => by kernel_rfl

@[reducible] def pi_stamp_ShortOf : PSh := ⟨[], [.mk false [vI], .mk false [vI]]⟩
@[reducible] def po_stamp_ShortOf : PSh := ⟨[], [.mk true [.v (.int .u16), .v (.int .u16)], .mk false [vE]]⟩
def f_stamp_ShortOf_m (T : Unit) (d : Unit × ((Int × Unit) × ((Int × Unit) × Unit))) : Option (Unit × ((Int × (Int × Unit)) × (((Option Int) × Unit) × Unit))) :=
  let x1 : Bool := (decide (d.2.1.1 < (0 : Int)))
  bif x1 then (
  let x2 : (Option Int) := (some (1 : Int))
  some ((), (((0 : Int), ((0 : Int), ())), ((x2, ()), ()))))
  else (
  let x3 : Bool := (decide (d.2.1.1 > (65535 : Int)))
  bif x3 then (
  let x4 : (Option Int) := (some (1 : Int))
  some ((), (((0 : Int), ((0 : Int), ())), ((x4, ()), ()))))
  else (
  (g_stamp_right ((), d.2.2)).bind fun x5 =>
  let x6 : Bool := (!x5.2.1.1)
  bif x6 then (
  let x7 : (Option Int) := (some (1 : Int))
  some ((), (((0 : Int), ((0 : Int), ())), ((x7, ()), ()))))
  else (
  let x8 : Int := (iconv .u16 d.2.1.1)
  let x9 : Int := (iconv .u64 d.2.2.1.1)
  let x10 : Int := (ishl .u64 x9 (16 : Int))
  let x11 : Int := (iquo .u64 x10 (1000000000 : Int))
  let x12 : Int := (iconv .u16 x11)
  some ((), ((x8, (x12, ())), (((none : Option Int), ()), ()))))))
def g_stamp_ShortOf (d : Unit × ((Int × Unit) × ((Int × Unit) × Unit))) : Option (Unit × ((Int × (Int × Unit)) × (((Option Int) × Unit) × Unit))) := f_stamp_ShortOf_m () d
theorem ok_stamp_ShortOf : FnOk Tryz.prog ET0 45 pi_stamp_ShortOf po_stamp_ShortOf g_stamp_ShortOf :=
  fn0 (E := (E0.add 70 (typedSem pi_stamp_right po_stamp_right g_stamp_right))) (envOk_add e0_ok (typed_ok ok_stamp_right)) (fn := Tryz.f45) Tryz.func45 (by kernel_rfl) (by kernel_rfl) [.cell 4 41, .tmp 5] (by kernel_rfl) rfl rfl rfl [] fun d => by kernel_rfl

@[reducible] def pi_answer_span : PSh := ⟨[], [.mk false [vI]]⟩
@[reducible] def po_answer_span : PSh := ⟨[], [.mk true [.v (.int .u16), .v (.int .u16)], .mk false [vE]]⟩
def f_answer_span_m (T : Unit) (d : Unit × ((Int × Unit) × Unit)) : Option (Unit × ((Int × (Int × Unit)) × (((Option Int) × Unit) × Unit))) :=
  let x1 : Int := (iquo .i64 d.2.1.1 (1000 : Int))
  let x2 : Int := (Int.tmod d.2.1.1 (1000 : Int))
  let x3 : Int := (imul .i64 x2 (1000000 : Int))
  (g_stamp_ShortOf ((), ((x1, ()), ((x3, ()), ())))).bind fun x4 =>
  some ((), x4.2)
def g_answer_span (d : Unit × ((Int × Unit) × Unit)) : Option (Unit × ((Int × (Int × Unit)) × (((Option Int) × Unit) × Unit))) := f_answer_span_m () d
theorem ok_answer_span : FnOk Tryz.prog ET0 25 pi_answer_span po_answer_span g_answer_span :=
  fn0 (E := (E0.add 45 (typedSem pi_stamp_ShortOf po_stamp_ShortOf g_stamp_ShortOf))) (envOk_add e0_ok (typed_ok ok_stamp_ShortOf)) (fn := Tryz.f25) Tryz.func25 (by kernel_rfl) (by kernel_rfl) [.cell 2 41, .tmp 3] (by kernel_rfl) rfl rfl rfl [] fun d => by kernel_rfl

@[reducible] def pi_head_in : PSh := ⟨[], [.mk false [vI], .mk false [vI]]⟩
@[reducible] def po_head_in : PSh := ⟨[], [.mk false [vB]]⟩
def f_head_in_m (T : Unit) (d : Unit × ((Int × Unit) × ((Int × Unit) × Unit))) : Option (Unit × ((Bool × Unit) × Unit)) :=
  let x1 : Bool := (decide (d.2.1.1 ≥ (0 : Int)))
  bif x1 then (
  let x2 : Bool := (decide (d.2.1.1 ≤ d.2.2.1.1))
  some ((), ((x2, ()), ())))
  else (
  some ((), ((false, ()), ())))
def g_head_in (d : Unit × ((Int × Unit) × ((Int × Unit) × Unit))) : Option (Unit × ((Bool × Unit) × Unit)) := f_head_in_m () d
theorem ok_head_in : FnOk Tryz.prog ET0 71 pi_head_in po_head_in g_head_in :=
  fn0 (E := E0) e0_ok (fn := Tryz.f71) Tryz.func71 (by kernel_rfl) (by kernel_rfl) [.tmp 4] (by kernel_rfl) rfl rfl rfl [] fun d => by kernel_rfl

@[reducible] def pi_head_Check : PSh := ⟨[], [.mk true [vI, vI, vI, v8, .v (.int .i8), .v (.int .i8), .v (.int .u16), .v (.int .u16), .v (.int .u16), .v (.int .u16), v8, v8, v8, v8, .v (.int .u32), .v (.int .u32), .v (.int .u32), .v (.int .u32), .v (.int .u32), .v (.int .u32), .v (.int .u32), .v (.int .u32)]]⟩
@[reducible] def po_head_Check : PSh := ⟨[], [.mk false [vE]]⟩
def f_head_Check_m (T : Unit) (d : Unit × ((Int × (Int × (Int × (Int × (Int × (Int × (Int × (Int × (Int × (Int × (Int × (Int × (Int × (Int × (Int × (Int × (Int × (Int × (Int × (Int × (Int × (Int × Unit)))))))))))))))))))))) × Unit)) : Option (Unit × (((Option Int) × Unit) × Unit)) :=
  (g_head_in ((), ((d.2.1.1, ()), (((3 : Int), ()), ())))).bind fun x1 =>
  let x2 : Bool := (!x1.2.1.1)
  bif x2 then (
  let x3 : (Option Int) := (some (1 : Int))
  some ((), ((x3, ()), ())))
  else (
  (g_head_in ((), ((d.2.1.2.1, ()), (((7 : Int), ()), ())))).bind fun x4 =>
  let x5 : Bool := (!x4.2.1.1)
  bif x5 then (
  let x6 : (Option Int) := (some (1 : Int))
  some ((), ((x6, ()), ())))
  else (
  (g_head_in ((), ((d.2.1.2.2.1, ()), (((7 : Int), ()), ())))).bind fun x7 =>
  let x8 : Bool := (!x7.2.1.1)
  bif x8 then (
  let x9 : (Option Int) := (some (1 : Int))
  some ((), ((x9, ()), ())))
  else (
  some ((), (((none : Option Int), ()), ())))))
def g_head_Check (d : Unit × ((Int × (Int × (Int × (Int × (Int × (Int × (Int × (Int × (Int × (Int × (Int × (Int × (Int × (Int × (Int × (Int × (Int × (Int × (Int × (Int × (Int × (Int × Unit)))))))))))))))))))))) × Unit)) : Option (Unit × (((Option Int) × Unit) × Unit)) := f_head_Check_m () d
theorem ok_head_Check : FnOk Tryz.prog ET0 46 pi_head_Check po_head_Check g_head_Check :=
  fn0 (E := (E0.add 71 (typedSem pi_head_in po_head_in g_head_in))) (envOk_add e0_ok (typed_ok ok_head_in)) (fn := Tryz.f46) Tryz.func46 (by kernel_rfl) (by kernel_rfl) [.tmp 2] (by kernel_rfl) rfl rfl rfl [] fun d => by kernel_rfl

@[reducible] def pi_octets_Put_u16 : PSh := ⟨[], [.mk false [.v (.sl (.int .u8))], .mk false [.v (.sl (.int .u16))]]⟩
@[reducible] def po_octets_Put_u16 : PSh := ⟨[.row 5 (.int .u8)], [.mk false [.osl 0]]⟩
@[reducible] def TT_octets_Put_u16 : Type := (((((List Int) × Unit) × ((Int × Unit) × (Unit × (((List Int) × Unit) × ((Int × Unit) × ((Int × Unit) × Unit)))))) → Option (((List Int) × Unit) × (Unit × Unit))) × (((((List Int) × Unit) × ((Int × Unit) × (Unit × ((Int × Unit) × ((Int × Unit) × (((List Int) × Unit) × ((Int × Unit) × ((Int × Unit) × Unit)))))))) → Option (((List Int) × Unit) × (Unit × Unit))) × Unit))
@[reducible] def sh_octets_Put_u16_5 : PSh := ⟨[.row 5 (.int .u8)], [.any, .any, .any, .any, .any, .mk false [vI], .mk false [.osl 0], .any, .any, .any, .any, .any, .any, .mk false [.v (.sl (.int .u16))], .mk false [vI], .mk false [vI], .any, .any, .any, .any, .any, .any, .any, .any, .any, .any, .any, .any, .any, .any, .any, .any, .any, .any, .any, .any]⟩
@[reducible] def sh_octets_Put_u16_11 : PSh := ⟨[.row 5 (.int .u8)], [.any, .any, .any, .any, .any, .mk false [vI], .mk false [.osl 0], .any, .mk false [.v (.int .u16)], .mk false [vI], .any, .any, .any, .mk false [.v (.sl (.int .u16))], .mk false [vI], .mk false [vI], .any, .any, .any, .any, .any, .any, .any, .any, .any, .any, .any, .any, .any, .any, .any, .any, .any, .any, .any, .any]⟩
def f_octets_Put_u16_p5 (T : TT_octets_Put_u16) (d : ((List Int) × Unit) × ((Int × Unit) × (Unit × (((List Int) × Unit) × ((Int × Unit) × ((Int × Unit) × Unit)))))) : Option (((List Int) × Unit) × (Unit × Unit)) :=
  let x4 : Bool := (decide (d.2.2.2.2.2.1.1 < d.2.2.2.2.1.1))
  bif x4 then (
  bif decide ((0 : Int) ≤ d.2.2.2.2.2.1.1) && decide (d.2.2.2.2.2.1.1 < (d.2.2.2.1.1.length : Int)) then (
  let x5 : Int := (isub .i64 d.2.1.1 (1 : Int))
  (T.2.1 (d.1, (d.2.1, ((), (((gd (.int .u16) d.2.2.2.1.1 d.2.2.2.2.2.1.1), ()), ((x5, ()), d.2.2.2)))))))
  else none)
  else (
  some (d.1, ((), ())))
def f_octets_Put_u16_p11 (T : TT_octets_Put_u16) (d : ((List Int) × Unit) × ((Int × Unit) × (Unit × ((Int × Unit) × ((Int × Unit) × (((List Int) × Unit) × ((Int × Unit) × ((Int × Unit) × Unit)))))))) : Option (((List Int) × Unit) × (Unit × Unit)) :=
  let x6 : Bool := (decide (d.2.2.2.2.1.1 ≥ (0 : Int)))
  bif x6 then (
  let x7 : Int := (iconv .u64 d.2.2.2.1.1)
  let x8 : Int := (imul .i64 (8 : Int) d.2.2.2.2.1.1)
  bif decide (x8 < 0) then (
  none)
  else (
  let x9 : Int := (ishr .u64 x7 x8)
  let x10 : Int := (iconv .u8 x9)
  let x11 : (List Int) := ([x10] : List Int)
  bif decide (((d.1.1.length + x11.length) * 1 : Nat) ≤ 140737488355328) && decide (d.1.1.length + x11.length ≤ 9223372036854775807) then (
  let x12 : (List Int) := (d.1.1 ++ x11)
  let x13 : Int := (isub .i64 d.2.2.2.2.1.1 (1 : Int))
  (T.2.1 ((x12, ()), (d.2.1, ((), (d.2.2.2.1, ((x13, ()), d.2.2.2.2.2)))))))
  else none))
  else (
  let x14 : Int := (iadd .i64 d.2.2.2.2.2.2.2.1.1 (1 : Int))
  (T.1 (d.1, (d.2.1, ((), (d.2.2.2.2.2.1, (d.2.2.2.2.2.2.1, ((x14, ()), ()))))))))
def f_octets_Put_u16_t : Nat → TT_octets_Put_u16
  | 0 => (fun _ => none, (fun _ => none, ()))
  | k + 1 => (f_octets_Put_u16_p5 (f_octets_Put_u16_t k), (f_octets_Put_u16_p11 (f_octets_Put_u16_t k), ()))
theorem t_octets_Put_u16 (k : Nat) : f_octets_Put_u16_t (k + 1) = (f_octets_Put_u16_p5 (f_octets_Put_u16_t k), (f_octets_Put_u16_p11 (f_octets_Put_u16_t k), ())) := rfl
def f_octets_Put_u16_m (T : TT_octets_Put_u16) (d : Unit × (((List Int) × Unit) × (((List Int) × Unit) × Unit))) : Option (((List Int) × Unit) × (Unit × Unit)) :=
  (g_octets_Size_u16 ((), ())).bind fun x1 =>
  (g_slices_Clone_byte_byte ((), (d.2.1, ()))).bind fun x2 =>
  let x3 : Int := (d.2.2.1.1.length : Int)
  (T.1 (x2.1, (x1.2.1, ((), (d.2.2.1, ((x3, ()), (((0 : Int), ()), ())))))))
def c_octets_Put_u16 : List Nat := []
def L_octets_Put_u16 (k : Nat) : Pts po_octets_Put_u16.den := [(5, ⟨sh_octets_Put_u16_5, (f_octets_Put_u16_t k).1⟩), (11, ⟨sh_octets_Put_u16_11, (f_octets_Put_u16_t k).2.1⟩)]
def R_octets_Put_u16 (_ : Nat) : PtsR po_octets_Put_u16.den := []
def E_octets_Put_u16 : Env := ((E0.add 50 (typedSem pi_slices_Clone_byte_byte po_slices_Clone_byte_byte g_slices_Clone_byte_byte)).add 77 (typedSem pi_octets_Size_u16 po_octets_Size_u16 g_octets_Size_u16))
theorem q_octets_Put_u16_5 (k : Nat) (d : sh_octets_Put_u16_5.den) : evAt E_octets_Put_u16 (tb (L_octets_Put_u16 k) (R_octets_Put_u16 k)) c_octets_Put_u16 5 (bodyOf Tryz.f72) 0 (finK E_octets_Put_u16 po_octets_Put_u16 [.tmp 4]) (ptSt sh_octets_Put_u16_5 d) = f_octets_Put_u16_p5 (f_octets_Put_u16_t k) d := by kernel_rfl
theorem q_octets_Put_u16_11 (k : Nat) (d : sh_octets_Put_u16_11.den) : evAt E_octets_Put_u16 (tb (L_octets_Put_u16 k) (R_octets_Put_u16 k)) c_octets_Put_u16 11 (bodyOf Tryz.f72) 0 (finK E_octets_Put_u16 po_octets_Put_u16 [.tmp 4]) (ptSt sh_octets_Put_u16_11 d) = f_octets_Put_u16_p11 (f_octets_Put_u16_t k) d := by kernel_rfl
theorem q_octets_Put_u16_m (k : Nat) (d : pi_octets_Put_u16.den) : evCode E_octets_Put_u16 (tb (L_octets_Put_u16 k) (R_octets_Put_u16 k)) c_octets_Put_u16 (bodyOf Tryz.f72) 0 (finK E_octets_Put_u16 po_octets_Put_u16 [.tmp 4]) (startSt pi_octets_Put_u16 36 d) = f_octets_Put_u16_m (f_octets_Put_u16_t k) d := by kernel_rfl
def g_octets_Put_u16 (d : Unit × (((List Int) × Unit) × (((List Int) × Unit) × Unit))) : Option (((List Int) × Unit) × (Unit × Unit)) := lim fun k => f_octets_Put_u16_m (f_octets_Put_u16_t k) d
theorem ok_octets_Put_u16 : FnOk Tryz.prog ET0 72 pi_octets_Put_u16 po_octets_Put_u16 g_octets_Put_u16 :=
  fn_of_body (E := E_octets_Put_u16) (envOk_add (envOk_add e0_ok (typed_ok ok_slices_Clone_byte_byte)) (typed_ok ok_octets_Size_u16)) (fn := Tryz.f72) Tryz.func72 (by kernel_rfl) (by kernel_rfl) [.tmp 4] (by kernel_rfl) (by kernel_rfl) (by decide) rfl c_octets_Put_u16 L_octets_Put_u16 R_octets_Put_u16
    (by intro x hx d; simp only [L_octets_Put_u16, List.mem_cons, List.not_mem_nil, or_false] at hx; rcases hx with rfl | rfl; rfl; rfl)
    (by intro k x hx d out h; simp only [L_octets_Put_u16, List.mem_cons, List.not_mem_nil, or_false] at hx; rcases hx with rfl | rfl; exact (q_octets_Put_u16_5 k d).trans h; exact (q_octets_Put_u16_11 k d).trans h)
    (by intro x hx; cases hx)
    (by intro k x hx; cases hx)
    (by intro d out h; obtain ⟨k, hk⟩ := lim_some h; exact ⟨k, (q_octets_Put_u16_m k d).trans hk⟩)

@[reducible] def pi_stamp_ShortBytes : PSh := ⟨[], [.mk true [.v (.int .u16), .v (.int .u16)]]⟩
@[reducible] def po_stamp_ShortBytes : PSh := ⟨[.row 5 (.int .u8)], [.mk false [.osl 0]]⟩
def f_stamp_ShortBytes_m (T : Unit) (d : Unit × ((Int × (Int × Unit)) × Unit)) : Option (((List Int) × Unit) × (Unit × Unit)) :=
  let x1 : (List Int) := ([d.2.1.1, d.2.1.2.1] : List Int)
  (g_octets_Put_u16 ((), ((([] : List Int), ()), ((x1, ()), ())))).bind fun x2 =>
  some (x2.1, ((), ()))
def g_stamp_ShortBytes (d : Unit × ((Int × (Int × Unit)) × Unit)) : Option (((List Int) × Unit) × (Unit × Unit)) := f_stamp_ShortBytes_m () d
theorem ok_stamp_ShortBytes : FnOk Tryz.prog ET0 47 pi_stamp_ShortBytes po_stamp_ShortBytes g_stamp_ShortBytes :=
  fn0 (E := (E0.add 72 (typedSem pi_octets_Put_u16 po_octets_Put_u16 g_octets_Put_u16))) (envOk_add e0_ok (typed_ok ok_octets_Put_u16)) (fn := Tryz.f47) Tryz.func47 (by kernel_rfl) (by kernel_rfl) [.tmp 2] (by kernel_rfl) rfl rfl rfl [] fun d => by kernel_rfl

@[reducible] def pi_octets_Put_u32 : PSh := ⟨[], [.mk false [.v (.sl (.int .u8))], .mk false [.v (.sl (.int .u32))]]⟩
@[reducible] def po_octets_Put_u32 : PSh := ⟨[.row 5 (.int .u8)], [.mk false [.osl 0]]⟩
@[reducible] def TT_octets_Put_u32 : Type := (((((List Int) × Unit) × ((Int × Unit) × (Unit × (((List Int) × Unit) × ((Int × Unit) × ((Int × Unit) × Unit)))))) → Option (((List Int) × Unit) × (Unit × Unit))) × (((((List Int) × Unit) × ((Int × Unit) × (Unit × ((Int × Unit) × ((Int × Unit) × (((List Int) × Unit) × ((Int × Unit) × ((Int × Unit) × Unit)))))))) → Option (((List Int) × Unit) × (Unit × Unit))) × Unit))
@[reducible] def sh_octets_Put_u32_5 : PSh := ⟨[.row 5 (.int .u8)], [.any, .any, .any, .any, .any, .mk false [vI], .mk false [.osl 0], .any, .any, .any, .any, .any, .any, .mk false [.v (.sl (.int .u32))], .mk false [vI], .mk false [vI], .any, .any, .any, .any, .any, .any, .any, .any, .any, .any, .any, .any, .any, .any, .any, .any, .any, .any, .any, .any]⟩
@[reducible] def sh_octets_Put_u32_11 : PSh := ⟨[.row 5 (.int .u8)], [.any, .any, .any, .any, .any, .mk false [vI], .mk false [.osl 0], .any, .mk false [.v (.int .u32)], .mk false [vI], .any, .any, .any, .mk false [.v (.sl (.int .u32))], .mk false [vI], .mk false [vI], .any, .any, .any, .any, .any, .any, .any, .any, .any, .any, .any, .any, .any, .any, .any, .any, .any, .any, .any, .any]⟩
def f_octets_Put_u32_p5 (T : TT_octets_Put_u32) (d : ((List Int) × Unit) × ((Int × Unit) × (Unit × (((List Int) × Unit) × ((Int × Unit) × ((Int × Unit) × Unit)))))) : Option (((List Int) × Unit) × (Unit × Unit)) :=
  let x4 : Bool := (decide (d.2.2.2.2.2.1.1 < d.2.2.2.2.1.1))
  bif x4 then (
  bif decide ((0 : Int) ≤ d.2.2.2.2.2.1.1) && decide (d.2.2.2.2.2.1.1 < (d.2.2.2.1.1.length : Int)) then (
  let x5 : Int := (isub .i64 d.2.1.1 (1 : Int))
  (T.2.1 (d.1, (d.2.1, ((), (((gd (.int .u32) d.2.2.2.1.1 d.2.2.2.2.2.1.1), ()), ((x5, ()), d.2.2.2)))))))
  else none)
  else (
  some (d.1, ((), ())))
def f_octets_Put_u32_p11 (T : TT_octets_Put_u32) (d : ((List Int) × Unit) × ((Int × Unit) × (Unit × ((Int × Unit) × ((Int × Unit) × (((List Int) × Unit) × ((Int × Unit) × ((Int × Unit) × Unit)))))))) : Option (((List Int) × Unit) × (Unit × Unit)) :=
  let x6 : Bool := (decide (d.2.2.2.2.1.1 ≥ (0 : Int)))
  bif x6 then (
  let x7 : Int := (iconv .u64 d.2.2.2.1.1)
  let x8 : Int := (imul .i64 (8 : Int) d.2.2.2.2.1.1)
  bif decide (x8 < 0) then (
  none)
  else (
  let x9 : Int := (ishr .u64 x7 x8)
  let x10 : Int := (iconv .u8 x9)
  let x11 : (List Int) := ([x10] : List Int)
  bif decide (((d.1.1.length + x11.length) * 1 : Nat) ≤ 140737488355328) && decide (d.1.1.length + x11.length ≤ 9223372036854775807) then (
  let x12 : (List Int) := (d.1.1 ++ x11)
  let x13 : Int := (isub .i64 d.2.2.2.2.1.1 (1 : Int))
  (T.2.1 ((x12, ()), (d.2.1, ((), (d.2.2.2.1, ((x13, ()), d.2.2.2.2.2)))))))
  else none))
  else (
  let x14 : Int := (iadd .i64 d.2.2.2.2.2.2.2.1.1 (1 : Int))
  (T.1 (d.1, (d.2.1, ((), (d.2.2.2.2.2.1, (d.2.2.2.2.2.2.1, ((x14, ()), ()))))))))
def f_octets_Put_u32_t : Nat → TT_octets_Put_u32
  | 0 => (fun _ => none, (fun _ => none, ()))
  | k + 1 => (f_octets_Put_u32_p5 (f_octets_Put_u32_t k), (f_octets_Put_u32_p11 (f_octets_Put_u32_t k), ()))
theorem t_octets_Put_u32 (k : Nat) : f_octets_Put_u32_t (k + 1) = (f_octets_Put_u32_p5 (f_octets_Put_u32_t k), (f_octets_Put_u32_p11 (f_octets_Put_u32_t k), ())) := rfl
def f_octets_Put_u32_m (T : TT_octets_Put_u32) (d : Unit × (((List Int) × Unit) × (((List Int) × Unit) × Unit))) : Option (((List Int) × Unit) × (Unit × Unit)) :=
  (g_octets_Size_u32 ((), ())).bind fun x1 =>
  (g_slices_Clone_byte_byte ((), (d.2.1, ()))).bind fun x2 =>
  let x3 : Int := (d.2.2.1.1.length : Int)
  (T.1 (x2.1, (x1.2.1, ((), (d.2.2.1, ((x3, ()), (((0 : Int), ()), ())))))))
def c_octets_Put_u32 : List Nat := []
def L_octets_Put_u32 (k : Nat) : Pts po_octets_Put_u32.den := [(5, ⟨sh_octets_Put_u32_5, (f_octets_Put_u32_t k).1⟩), (11, ⟨sh_octets_Put_u32_11, (f_octets_Put_u32_t k).2.1⟩)]
def R_octets_Put_u32 (_ : Nat) : PtsR po_octets_Put_u32.den := []
def E_octets_Put_u32 : Env := ((E0.add 50 (typedSem pi_slices_Clone_byte_byte po_slices_Clone_byte_byte g_slices_Clone_byte_byte)).add 79 (typedSem pi_octets_Size_u32 po_octets_Size_u32 g_octets_Size_u32))
theorem q_octets_Put_u32_5 (k : Nat) (d : sh_octets_Put_u32_5.den) : evAt E_octets_Put_u32 (tb (L_octets_Put_u32 k) (R_octets_Put_u32 k)) c_octets_Put_u32 5 (bodyOf Tryz.f73) 0 (finK E_octets_Put_u32 po_octets_Put_u32 [.tmp 4]) (ptSt sh_octets_Put_u32_5 d) = f_octets_Put_u32_p5 (f_octets_Put_u32_t k) d := by kernel_rfl
theorem q_octets_Put_u32_11 (k : Nat) (d : sh_octets_Put_u32_11.den) : evAt E_octets_Put_u32 (tb (L_octets_Put_u32 k) (R_octets_Put_u32 k)) c_octets_Put_u32 11 (bodyOf Tryz.f73) 0 (finK E_octets_Put_u32 po_octets_Put_u32 [.tmp 4]) (ptSt sh_octets_Put_u32_11 d) = f_octets_Put_u32_p11 (f_octets_Put_u32_t k) d := by kernel_rfl
theorem q_octets_Put_u32_m (k : Nat) (d : pi_octets_Put_u32.den) : evCode E_octets_Put_u32 (tb (L_octets_Put_u32 k) (R_octets_Put_u32 k)) c_octets_Put_u32 (bodyOf Tryz.f73) 0 (finK E_octets_Put_u32 po_octets_Put_u32 [.tmp 4]) (startSt pi_octets_Put_u32 36 d) = f_octets_Put_u32_m (f_octets_Put_u32_t k) d := by kernel_rfl
def g_octets_Put_u32 (d : Unit × (((List Int) × Unit) × (((List Int) × Unit) × Unit))) : Option (((List Int) × Unit) × (Unit × Unit)) := lim fun k => f_octets_Put_u32_m (f_octets_Put_u32_t k) d
theorem ok_octets_Put_u32 : FnOk Tryz.prog ET0 73 pi_octets_Put_u32 po_octets_Put_u32 g_octets_Put_u32 :=
  fn_of_body (E := E_octets_Put_u32) (envOk_add (envOk_add e0_ok (typed_ok ok_slices_Clone_byte_byte)) (typed_ok ok_octets_Size_u32)) (fn := Tryz.f73) Tryz.func73 (by kernel_rfl) (by kernel_rfl) [.tmp 4] (by kernel_rfl) (by kernel_rfl) (by decide) rfl c_octets_Put_u32 L_octets_Put_u32 R_octets_Put_u32
    (by intro x hx d; simp only [L_octets_Put_u32, List.mem_cons, List.not_mem_nil, or_false] at hx; rcases hx with rfl | rfl; rfl; rfl)
    (by intro k x hx d out h; simp only [L_octets_Put_u32, List.mem_cons, List.not_mem_nil, or_false] at hx; rcases hx with rfl | rfl; exact (q_octets_Put_u32_5 k d).trans h; exact (q_octets_Put_u32_11 k d).trans h)
    (by intro x hx; cases hx)
    (by intro k x hx; cases hx)
    (by intro d out h; obtain ⟨k, hk⟩ := lim_some h; exact ⟨k, (q_octets_Put_u32_m k d).trans hk⟩)

@[reducible] def pi_stamp_Bytes : PSh := ⟨[], [.mk true [.v (.int .u32), .v (.int .u32)]]⟩
@[reducible] def po_stamp_Bytes : PSh := ⟨[.row 5 (.int .u8)], [.mk false [.osl 0]]⟩
def f_stamp_Bytes_m (T : Unit) (d : Unit × ((Int × (Int × Unit)) × Unit)) : Option (((List Int) × Unit) × (Unit × Unit)) :=
  let x1 : (List Int) := ([d.2.1.1, d.2.1.2.1] : List Int)
  (g_octets_Put_u32 ((), ((([] : List Int), ()), ((x1, ()), ())))).bind fun x2 =>
  some (x2.1, ((), ()))
def g_stamp_Bytes (d : Unit × ((Int × (Int × Unit)) × Unit)) : Option (((List Int) × Unit) × (Unit × Unit)) := f_stamp_Bytes_m () d
theorem ok_stamp_Bytes : FnOk Tryz.prog ET0 48 pi_stamp_Bytes po_stamp_Bytes g_stamp_Bytes :=
  fn0 (E := (E0.add 73 (typedSem pi_octets_Put_u32 po_octets_Put_u32 g_octets_Put_u32))) (envOk_add e0_ok (typed_ok ok_octets_Put_u32)) (fn := Tryz.f48) Tryz.func48 (by kernel_rfl) (by kernel_rfl) [.tmp 2] (by kernel_rfl) rfl rfl rfl [] fun d => by kernel_rfl

@[reducible] def pi_head_Put : PSh := ⟨[], [.mk true [vI, vI, vI, v8, .v (.int .i8), .v (.int .i8), .v (.int .u16), .v (.int .u16), .v (.int .u16), .v (.int .u16), v8, v8, v8, v8, .v (.int .u32), .v (.int .u32), .v (.int .u32), .v (.int .u32), .v (.int .u32), .v (.int .u32), .v (.int .u32), .v (.int .u32)]]⟩
@[reducible] def po_head_Put : PSh := ⟨[.row 5 (.int .u8)], [.mk false [.osl 0], .mk false [vE]]⟩
@[reducible] def TT_head_Put : Type := (((((List Int) × Unit) × (Unit × (((Option (Int × Int)) × ((Option (Int × Int)) × ((Option (Int × Int)) × ((Option (Int × Int)) × Unit)))) × ((Int × Unit) × Unit)))) → Option (((List Int) × Unit) × (Unit × (((Option Int) × Unit) × Unit)))) × Unit)
@[reducible] def sh_head_Put_10 : PSh := ⟨[.row 5 (.int .u8)], [.any, .any, .any, .any, .any, .mk false [.osl 0], .any, .any, .any, .any, .any, .any, .any, .any, .any, .any, .any, .any, .any, .any, .any, .any, .any, .any, .any, .any, .any, .any, .any, .any, .any, .any, .any, .any, .any, .any, .any, .any, .any, .any, .any, .any, .any, .any, .any, .any, .mk true [.v (.nptr (.pair (.int .u32) (.int .u32))), .v (.nptr (.pair (.int .u32) (.int .u32))), .v (.nptr (.pair (.int .u32) (.int .u32))), .v (.nptr (.pair (.int .u32) (.int .u32)))], .mk false [vI], .any, .any, .any, .any, .any, .any, .any, .any, .any, .any]⟩
def f_head_Put_p10 (T : TT_head_Put) (d : ((List Int) × Unit) × (Unit × (((Option (Int × Int)) × ((Option (Int × Int)) × ((Option (Int × Int)) × ((Option (Int × Int)) × Unit)))) × ((Int × Unit) × Unit)))) : Option (((List Int) × Unit) × (Unit × (((Option Int) × Unit) × Unit))) :=
  let x19 : Bool := (decide (d.2.2.2.1.1 < (4 : Int)))
  bif x19 then (
  bif decide ((0 : Int) ≤ d.2.2.2.1.1) && decide (d.2.2.2.1.1 < (4 : Int)) then (
  bif decide (d.2.2.2.1.1 = (0 : Int)) then (
  d.2.2.1.1.bind fun x32 =>
  (g_stamp_Bytes ((), ((x32.1, (x32.2, ())), ()))).bind fun x33 =>
  bif decide (((d.1.1.length + x33.1.1.length) * 1 : Nat) ≤ 140737488355328) && decide (d.1.1.length + x33.1.1.length ≤ 9223372036854775807) then (
  let x34 : (List Int) := (d.1.1 ++ x33.1.1)
  let x35 : Int := (iadd .i64 d.2.2.2.1.1 (1 : Int))
  (T.1 ((x34, ()), ((), (d.2.2.1, ((x35, ()), ()))))))
  else none)
  else (
  bif decide (d.2.2.2.1.1 = (1 : Int)) then (
  d.2.2.1.2.1.bind fun x28 =>
  (g_stamp_Bytes ((), ((x28.1, (x28.2, ())), ()))).bind fun x29 =>
  bif decide (((d.1.1.length + x29.1.1.length) * 1 : Nat) ≤ 140737488355328) && decide (d.1.1.length + x29.1.1.length ≤ 9223372036854775807) then (
  let x30 : (List Int) := (d.1.1 ++ x29.1.1)
  let x31 : Int := (iadd .i64 d.2.2.2.1.1 (1 : Int))
  (T.1 ((x30, ()), ((), (d.2.2.1, ((x31, ()), ()))))))
  else none)
  else (
  bif decide (d.2.2.2.1.1 = (2 : Int)) then (
  d.2.2.1.2.2.1.bind fun x24 =>
  (g_stamp_Bytes ((), ((x24.1, (x24.2, ())), ()))).bind fun x25 =>
  bif decide (((d.1.1.length + x25.1.1.length) * 1 : Nat) ≤ 140737488355328) && decide (d.1.1.length + x25.1.1.length ≤ 9223372036854775807) then (
  let x26 : (List Int) := (d.1.1 ++ x25.1.1)
  let x27 : Int := (iadd .i64 d.2.2.2.1.1 (1 : Int))
  (T.1 ((x26, ()), ((), (d.2.2.1, ((x27, ()), ()))))))
  else none)
  else (
  bif decide (d.2.2.2.1.1 = (3 : Int)) then (
  d.2.2.1.2.2.2.1.bind fun x20 =>
  (g_stamp_Bytes ((), ((x20.1, (x20.2, ())), ()))).bind fun x21 =>
  bif decide (((d.1.1.length + x21.1.1.length) * 1 : Nat) ≤ 140737488355328) && decide (d.1.1.length + x21.1.1.length ≤ 9223372036854775807) then (
  let x22 : (List Int) := (d.1.1 ++ x21.1.1)
  let x23 : Int := (iadd .i64 d.2.2.2.1.1 (1 : Int))
  (T.1 ((x22, ()), ((), (d.2.2.1, ((x23, ()), ()))))))
  else none)
  else (
  none)))))
  else none)
  else (
  some (d.1, ((), (((none : Option Int), ()), ()))))
def f_head_Put_t : Nat → TT_head_Put
  | 0 => (fun _ => none, ())
  | k + 1 => (f_head_Put_p10 (f_head_Put_t k), ())
theorem t_head_Put (k : Nat) : f_head_Put_t (k + 1) = (f_head_Put_p10 (f_head_Put_t k), ()) := rfl
def f_head_Put_m (T : TT_head_Put) (d : Unit × ((Int × (Int × (Int × (Int × (Int × (Int × (Int × (Int × (Int × (Int × (Int × (Int × (Int × (Int × (Int × (Int × (Int × (Int × (Int × (Int × (Int × (Int × Unit)))))))))))))))))))))) × Unit)) : Option (((List Int) × Unit) × (Unit × (((Option Int) × Unit) × Unit))) :=
  (g_head_Check ((), d.2)).bind fun x1 =>
  let x2 : Bool := (!x1.2.1.1.isNone)
  bif x2 then (
  some ((([] : List Int), ()), ((), x1.2)))
  else (
  let x3 : Int := (ishl .i64 d.2.1.1 (6 : Int))
  let x4 : Int := (ishl .i64 d.2.1.2.1 (3 : Int))
  let x5 : Int := (ior .i64 x3 x4)
  let x6 : Int := (ior .i64 x5 d.2.1.2.2.1)
  let x7 : Int := (iconv .u8 x6)
  let x8 : Int := (iconv .u8 d.2.1.2.2.2.2.1)
  let x9 : Int := (iconv .u8 d.2.1.2.2.2.2.2.1)
  let x10 : (List Int) := ([x7, d.2.1.2.2.2.1, x8, x9] : List Int)
  (g_stamp_ShortBytes ((), ((d.2.1.2.2.2.2.2.2.1, (d.2.1.2.2.2.2.2.2.2.1, ())), ()))).bind fun x11 =>
  bif decide (((x10.length + x11.1.1.length) * 1 : Nat) ≤ 140737488355328) && decide (x10.length + x11.1.1.length ≤ 9223372036854775807) then (
  let x12 : (List Int) := (x10 ++ x11.1.1)
  (g_stamp_ShortBytes ((), ((d.2.1.2.2.2.2.2.2.2.2.1, (d.2.1.2.2.2.2.2.2.2.2.2.1, ())), ()))).bind fun x13 =>
  bif decide (((x12.length + x13.1.1.length) * 1 : Nat) ≤ 140737488355328) && decide (x12.length + x13.1.1.length ≤ 9223372036854775807) then (
  let x14 : (List Int) := (x12 ++ x13.1.1)
  let x15 : (Int × (Int × (Int × (Int × (Int × (Int × ((Int × Int) × ((Int × Int) × ((Int × (Int × (Int × Int))) × ((Int × Int) × ((Int × Int) × ((Int × Int) × (Int × Int))))))))))))) := (d.2.1.1, (d.2.1.2.1, (d.2.1.2.2.1, (d.2.1.2.2.2.1, (d.2.1.2.2.2.2.1, (d.2.1.2.2.2.2.2.1, ((d.2.1.2.2.2.2.2.2.1, d.2.1.2.2.2.2.2.2.2.1), ((d.2.1.2.2.2.2.2.2.2.2.1, d.2.1.2.2.2.2.2.2.2.2.2.1), ((d.2.1.2.2.2.2.2.2.2.2.2.2.1, (d.2.1.2.2.2.2.2.2.2.2.2.2.2.1, (d.2.1.2.2.2.2.2.2.2.2.2.2.2.2.1, d.2.1.2.2.2.2.2.2.2.2.2.2.2.2.2.1))), ((d.2.1.2.2.2.2.2.2.2.2.2.2.2.2.2.2.1, d.2.1.2.2.2.2.2.2.2.2.2.2.2.2.2.2.2.1), ((d.2.1.2.2.2.2.2.2.2.2.2.2.2.2.2.2.2.2.1, d.2.1.2.2.2.2.2.2.2.2.2.2.2.2.2.2.2.2.2.1), ((d.2.1.2.2.2.2.2.2.2.2.2.2.2.2.2.2.2.2.2.2.1, d.2.1.2.2.2.2.2.2.2.2.2.2.2.2.2.2.2.2.2.2.2.1), (d.2.1.2.2.2.2.2.2.2.2.2.2.2.2.2.2.2.2.2.2.2.2.1, d.2.1.2.2.2.2.2.2.2.2.2.2.2.2.2.2.2.2.2.2.2.2.2.1)))))))))))))
  let x16 : (List Int) := ([x15.2.2.2.2.2.2.2.2.1.1, x15.2.2.2.2.2.2.2.2.1.2.1, x15.2.2.2.2.2.2.2.2.1.2.2.1, x15.2.2.2.2.2.2.2.2.1.2.2.2] : List Int)
  bif decide (((x14.length + x16.length) * 1 : Nat) ≤ 140737488355328) && decide (x14.length + x16.length ≤ 9223372036854775807) then (
  let x17 : (List Int) := (x14 ++ x16)
  (g_head_Head_longs ((), (((some x15), ()), ()))).bind fun x18 =>
  (T.1 ((x17, ()), ((), (x18.2.1, (((0 : Int), ()), ()))))))
  else none)
  else none)
  else none)
def c_head_Put : List Nat := []
def L_head_Put (k : Nat) : Pts po_head_Put.den := [(10, ⟨sh_head_Put_10, (f_head_Put_t k).1⟩)]
def R_head_Put (_ : Nat) : PtsR po_head_Put.den := []
def E_head_Put : Env := (((((E0.add 31 (typedSem pi_head_Head_longs po_head_Head_longs g_head_Head_longs)).add 46 (typedSem pi_head_Check po_head_Check g_head_Check)).add 47 (typedSem pi_stamp_ShortBytes po_stamp_ShortBytes g_stamp_ShortBytes)).add 48 (typedSem pi_stamp_Bytes po_stamp_Bytes g_stamp_Bytes)).fr [(44, [43])])
theorem q_head_Put_10 (k : Nat) (d : sh_head_Put_10.den) : evAt E_head_Put (tb (L_head_Put k) (R_head_Put k)) c_head_Put 10 (bodyOf Tryz.f26) 0 (finK E_head_Put po_head_Put [.tmp 2, .tmp 3]) (ptSt sh_head_Put_10 d) = f_head_Put_p10 (f_head_Put_t k) d := by kernel_rfl
theorem q_head_Put_m (k : Nat) (d : pi_head_Put.den) : evCode E_head_Put (tb (L_head_Put k) (R_head_Put k)) c_head_Put (bodyOf Tryz.f26) 0 (finK E_head_Put po_head_Put [.tmp 2, .tmp 3]) (startSt pi_head_Put 58 d) = f_head_Put_m (f_head_Put_t k) d := by kernel_rfl
def g_head_Put (d : Unit × ((Int × (Int × (Int × (Int × (Int × (Int × (Int × (Int × (Int × (Int × (Int × (Int × (Int × (Int × (Int × (Int × (Int × (Int × (Int × (Int × (Int × (Int × Unit)))))))))))))))))))))) × Unit)) : Option (((List Int) × Unit) × (Unit × (((Option Int) × Unit) × Unit))) := lim fun k => f_head_Put_m (f_head_Put_t k) d
theorem ok_head_Put : FnOk Tryz.prog ET0 26 pi_head_Put po_head_Put g_head_Put :=
  fn_of_body (E := E_head_Put) (envOk_fr (envOk_add (envOk_add (envOk_add (envOk_add e0_ok (typed_ok ok_head_Head_longs)) (typed_ok ok_head_Check)) (typed_ok ok_stamp_ShortBytes)) (typed_ok ok_stamp_Bytes))) (fn := Tryz.f26) Tryz.func26 (by kernel_rfl) (by kernel_rfl) [.tmp 2, .tmp 3] (by kernel_rfl) (by kernel_rfl) (by decide) rfl c_head_Put L_head_Put R_head_Put
    (by intro x hx d; simp only [L_head_Put, List.mem_cons, List.not_mem_nil, or_false] at hx; subst hx; rfl)
    (by intro k x hx d out h; simp only [L_head_Put, List.mem_cons, List.not_mem_nil, or_false] at hx; subst hx; exact (q_head_Put_10 k d).trans h)
    (by intro x hx; cases hx)
    (by intro k x hx; cases hx)
    (by intro d out h; obtain ⟨k, hk⟩ := lim_some h; exact ⟨k, (q_head_Put_m k d).trans hk⟩)

@[reducible] def pi_answer_Reply : PSh := ⟨[], [.mk false [.v (.nptr (.pair (.pair (.int .i64) (.pair (.int .i64) (.pair (.int .i64) (.pair (.int .i64) (.pair (.pair (.int .u8) (.pair (.int .u8) (.pair (.int .u8) (.int .u8)))) (.pair (.int .i64) (.pair (.int .i64) (.pair (.int .i64) (.pair (.int .i64) (.pair (.int .i64) (.int .i64))))))))))) (.pair (.nptr (.pair (.sl (.pair (.int .i64) (.int .i64))) (.pair (.int .i64) (.int .i64)))) (.pair (.nptr (.pair (.pair (.sl (.int .i64)) (.pair (.sl (.int .i64)) (.pair (.sl (.pair (.int .i64) (.pair .bool .str))) (.pair (.sl (.pair (.int .i64) (.int .i64))) (.pair .bool (.pair .str (.pair .str (.pair (.int .i64) (.pair (.int .i64) (.pair (.pair (.int .i64) (.pair (.int .i64) (.pair (.int .i64) (.pair (.int .i64) (.int .i64))))) (.pair (.int .i64) (.pair (.int .i64) (.pair (.int .i64) (.pair (.int .i64) (.int .i64))))))))))))))) (.pair (.int .i64) (.pair .bool .str)))) (.pair (.int .i64) (.int .i64))))))], .mk false [.v (.sl (.int .u8))], .mk false [.v (.int .u64)], .mk false [.v (.int .u64)]]⟩
@[reducible] def po_answer_Reply : PSh := ⟨[.row 5 (.int .u8)], [.mk false [.osl 0], .mk false [vE]]⟩
def f_answer_Reply_m (T : Unit) (d : Unit × (((Option ((Int × (Int × (Int × (Int × ((Int × (Int × (Int × Int))) × (Int × (Int × (Int × (Int × (Int × Int)))))))))) × ((Option ((List (Int × Int)) × (Int × Int))) × ((Option (((List Int) × ((List Int) × ((List (Int × (Bool × ByteArray))) × ((List (Int × Int)) × (Bool × (ByteArray × (ByteArray × (Int × (Int × ((Int × (Int × (Int × (Int × Int)))) × (Int × (Int × (Int × (Int × Int)))))))))))))) × (Int × (Bool × ByteArray)))) × (Int × Int))))) × Unit) × (((List Int) × Unit) × ((Int × Unit) × ((Int × Unit) × Unit))))) : Option (((List Int) × Unit) × (Unit × (((Option Int) × Unit) × Unit))) :=
  (g_answer_begin ((), d.2)).bind fun x1 =>
  let x2 : Bool := (!x1.2.2.1.1.isNone)
  bif x2 then (
  some ((([] : List Int), ()), ((), x1.2.2)))
  else (
  (g_config_Store_Settings ((), (d.2.1, ()))).bind fun x3 =>
  (g_answer_Sign ((), (d.2.1, d.2.2.2.2))).bind fun x4 =>
  let x5 : Int := (iconv .u8 x3.2.1.2.2.2.1)
  let x6 : Bool := (x4.2.1.1 == (3 : Int))
  bif x6 then (
  (g_answer_span ((), ((x3.2.1.2.2.2.2.2.2.2.2.2.2.1, ()), ()))).bind fun x7 =>
  let x8 : Bool := (!x7.2.2.1.1.isNone)
  bif x8 then (
  some ((([] : List Int), ()), ((), x7.2.2)))
  else (
  (g_answer_span ((), ((x3.2.1.2.2.2.2.2.2.2.2.2.2.2.1, ()), ()))).bind fun x9 =>
  let x10 : Bool := (!x9.2.2.1.1.isNone)
  bif x10 then (
  some ((([] : List Int), ()), ((), x9.2.2)))
  else (
  (g_head_Put ((), ((x4.2.1.1, (x1.2.1.2.1, (x1.2.1.2.2.1, ((16 : Int), (x1.2.1.2.2.2.2.1, (x1.2.1.2.2.2.2.2.1, (x7.2.1.1, (x7.2.1.2.1, (x9.2.1.1, (x9.2.1.2.1, (x3.2.1.2.2.2.2.1, (x3.2.1.2.2.2.2.2.1, (x3.2.1.2.2.2.2.2.2.1, (x3.2.1.2.2.2.2.2.2.2.1, (x1.2.1.2.2.2.2.2.2.2.2.2.2.2.2.2.2.2.2.2.2.1, ((0 : Int), x1.2.1.2.2.2.2.2.2.2.2.2.2.2.2.2.2.2.2)))))))))))))))), ()))).bind fun x11 =>
  some (x11.1, ((), x11.2.2)))))
  else (
  (g_answer_span ((), ((x3.2.1.2.2.2.2.2.2.2.2.2.2.1, ()), ()))).bind fun x12 =>
  let x13 : Bool := (!x12.2.2.1.1.isNone)
  bif x13 then (
  some ((([] : List Int), ()), ((), x12.2.2)))
  else (
  (g_answer_span ((), ((x3.2.1.2.2.2.2.2.2.2.2.2.2.2.1, ()), ()))).bind fun x14 =>
  let x15 : Bool := (!x14.2.2.1.1.isNone)
  bif x15 then (
  some ((([] : List Int), ()), ((), x14.2.2)))
  else (
  (g_head_Put ((), ((x4.2.1.1, (x1.2.1.2.1, (x1.2.1.2.2.1, (x5, (x1.2.1.2.2.2.2.1, (x1.2.1.2.2.2.2.2.1, (x12.2.1.1, (x12.2.1.2.1, (x14.2.1.1, (x14.2.1.2.1, (x3.2.1.2.2.2.2.1, (x3.2.1.2.2.2.2.2.1, (x3.2.1.2.2.2.2.2.2.1, (x3.2.1.2.2.2.2.2.2.2.1, (x1.2.1.2.2.2.2.2.2.2.2.2.2.2.2.2.2.2.2.2.2.1, ((0 : Int), x1.2.1.2.2.2.2.2.2.2.2.2.2.2.2.2.2.2.2)))))))))))))))), ()))).bind fun x16 =>
  some (x16.1, ((), x16.2.2))))))
def g_answer_Reply (d : Unit × (((Option ((Int × (Int × (Int × (Int × ((Int × (Int × (Int × Int))) × (Int × (Int × (Int × (Int × (Int × Int)))))))))) × ((Option ((List (Int × Int)) × (Int × Int))) × ((Option (((List Int) × ((List Int) × ((List (Int × (Bool × ByteArray))) × ((List (Int × Int)) × (Bool × (ByteArray × (ByteArray × (Int × (Int × ((Int × (Int × (Int × (Int × Int)))) × (Int × (Int × (Int × (Int × Int)))))))))))))) × (Int × (Bool × ByteArray)))) × (Int × Int))))) × Unit) × (((List Int) × Unit) × ((Int × Unit) × ((Int × Unit) × Unit))))) : Option (((List Int) × Unit) × (Unit × (((Option Int) × Unit) × Unit))) := f_answer_Reply_m () d
theorem ok_answer_Reply : FnOk Tryz.prog ET0 11 pi_answer_Reply po_answer_Reply g_answer_Reply :=
  fn0 (E := (((((E0.add 22 (typedSem pi_answer_begin po_answer_begin g_answer_begin)).add 23 (typedSem pi_config_Store_Settings po_config_Store_Settings g_config_Store_Settings)).add 24 (typedSem pi_answer_Sign po_answer_Sign g_answer_Sign)).add 25 (typedSem pi_answer_span po_answer_span g_answer_span)).add 26 (typedSem pi_head_Put po_head_Put g_head_Put))) (envOk_add (envOk_add (envOk_add (envOk_add (envOk_add e0_ok (typed_ok ok_answer_begin)) (typed_ok ok_config_Store_Settings)) (typed_ok ok_answer_Sign)) (typed_ok ok_answer_span)) (typed_ok ok_head_Put)) (fn := Tryz.f11) Tryz.func11 (by kernel_rfl) (by kernel_rfl) [.tmp 8, .tmp 9] (by kernel_rfl) rfl rfl rfl [] fun d => by kernel_rfl

@[reducible] def pi_config_New : PSh := ⟨[], []⟩
@[reducible] def po_config_New : PSh := ⟨[], [.mk false [.v (.nptr (.pair (.pair (.int .i64) (.pair (.int .i64) (.pair (.int .i64) (.pair (.int .i64) (.pair (.pair (.int .u8) (.pair (.int .u8) (.pair (.int .u8) (.int .u8)))) (.pair (.int .i64) (.pair (.int .i64) (.pair (.int .i64) (.pair (.int .i64) (.pair (.int .i64) (.int .i64))))))))))) (.pair (.nptr (.pair (.sl (.pair (.int .i64) (.int .i64))) (.pair (.int .i64) (.int .i64)))) (.pair (.nptr (.pair (.pair (.sl (.int .i64)) (.pair (.sl (.int .i64)) (.pair (.sl (.pair (.int .i64) (.pair .bool .str))) (.pair (.sl (.pair (.int .i64) (.int .i64))) (.pair .bool (.pair .str (.pair .str (.pair (.int .i64) (.pair (.int .i64) (.pair (.pair (.int .i64) (.pair (.int .i64) (.pair (.int .i64) (.pair (.int .i64) (.int .i64))))) (.pair (.int .i64) (.pair (.int .i64) (.pair (.int .i64) (.pair (.int .i64) (.int .i64))))))))))))))) (.pair (.int .i64) (.pair .bool .str)))) (.pair (.int .i64) (.int .i64))))))]]⟩
def f_config_New_m (T : Unit) (d : Unit × Unit) : Option (Unit × (((Option ((Int × (Int × (Int × (Int × ((Int × (Int × (Int × Int))) × (Int × (Int × (Int × (Int × (Int × Int)))))))))) × ((Option ((List (Int × Int)) × (Int × Int))) × ((Option (((List Int) × ((List Int) × ((List (Int × (Bool × ByteArray))) × ((List (Int × Int)) × (Bool × (ByteArray × (ByteArray × (Int × (Int × ((Int × (Int × (Int × (Int × Int)))) × (Int × (Int × (Int × (Int × Int)))))))))))))) × (Int × (Bool × ByteArray)))) × (Int × Int))))) × Unit) × Unit)) :=
  (g_config_Default ((), ())).bind fun x1 =>
  some ((), (((some ((x1.2.1.1, (x1.2.1.2.1, (x1.2.1.2.2.1, (x1.2.1.2.2.2.1, ((x1.2.1.2.2.2.2.1, (x1.2.1.2.2.2.2.2.1, (x1.2.1.2.2.2.2.2.2.1, x1.2.1.2.2.2.2.2.2.2.1))), (x1.2.1.2.2.2.2.2.2.2.2.1, (x1.2.1.2.2.2.2.2.2.2.2.2.1, (x1.2.1.2.2.2.2.2.2.2.2.2.2.1, (x1.2.1.2.2.2.2.2.2.2.2.2.2.2.1, (x1.2.1.2.2.2.2.2.2.2.2.2.2.2.2.1, x1.2.1.2.2.2.2.2.2.2.2.2.2.2.2.2.1)))))))))), ((none : Option ((List (Int × Int)) × (Int × Int))), ((none : Option (((List Int) × ((List Int) × ((List (Int × (Bool × ByteArray))) × ((List (Int × Int)) × (Bool × (ByteArray × (ByteArray × (Int × (Int × ((Int × (Int × (Int × (Int × Int)))) × (Int × (Int × (Int × (Int × Int)))))))))))))) × (Int × (Bool × ByteArray)))), ((0 : Int), (0 : Int)))))), ()), ()))
def g_config_New (d : Unit × Unit) : Option (Unit × (((Option ((Int × (Int × (Int × (Int × ((Int × (Int × (Int × Int))) × (Int × (Int × (Int × (Int × (Int × Int)))))))))) × ((Option ((List (Int × Int)) × (Int × Int))) × ((Option (((List Int) × ((List Int) × ((List (Int × (Bool × ByteArray))) × ((List (Int × Int)) × (Bool × (ByteArray × (ByteArray × (Int × (Int × ((Int × (Int × (Int × (Int × Int)))) × (Int × (Int × (Int × (Int × Int)))))))))))))) × (Int × (Bool × ByteArray)))) × (Int × Int))))) × Unit) × Unit)) := f_config_New_m () d
theorem ok_config_New : FnOk Tryz.prog ET0 12 pi_config_New po_config_New g_config_New :=
  fn0 (E := (E0.add 27 (typedSem pi_config_Default po_config_Default g_config_Default))) (envOk_add e0_ok (typed_ok ok_config_Default)) (fn := Tryz.f12) Tryz.func12 (by kernel_rfl) (by kernel_rfl) [.tmp 0] (by kernel_rfl) rfl rfl rfl [] fun d => by kernel_rfl

@[reducible] def pi_law37_alive : PSh := ⟨[], []⟩
@[reducible] def po_law37_alive : PSh := ⟨[], [.mk false [vB]]⟩
def f_law37_alive_m (T : Unit) (d : Unit × Unit) : Option (Unit × ((Bool × Unit) × Unit)) :=
  bif decide ((0 : Int) ≤ (48 : Int)) && decide ((48 : Int) ≤ (48 : Int)) && decide ((48 : Int) * (1 : Int) ≤ 140737488355328) && decide ((48 : Int) ≤ 9223372036854775807) then (
  let x1 : (List Int) := (List.replicate (Int.toNat (48 : Int)) (0 : Int))
  bif decide ((0 : Int) ≤ (0 : Int)) && decide ((0 : Int) < (x1.length : Int)) then (
  let x2 : (List Int) := (List.set x1 (Int.toNat (0 : Int)) (35 : Int))
  (g_config_New ((), ())).bind fun x3 =>
  (g_answer_Reply ((), (x3.2.1, ((x2, ()), (((5 : Int), ()), (((5 : Int), ()), ())))))).bind fun x4 =>
  bif x4.2.2.1.1.isNone then (
  let x5 : Int := (x4.1.1.length : Int)
  let x6 : Bool := (x5 == (48 : Int))
  bif x6 then (
  bif decide ((0 : Int) ≤ (0 : Int)) && decide ((0 : Int) < (x4.1.1.length : Int)) then (
  let x7 : Bool := ((gd (.int .u8) x4.1.1 (0 : Int)) == (228 : Int))
  bif x7 then (
  bif decide ((0 : Int) ≤ (1 : Int)) && decide ((1 : Int) < (x4.1.1.length : Int)) then (
  let x8 : Bool := ((gd (.int .u8) x4.1.1 (1 : Int)) == (16 : Int))
  some ((), ((x8, ()), ())))
  else none)
  else (
  some ((), ((false, ()), ()))))
  else none)
  else (
  some ((), ((false, ()), ()))))
  else (
  some ((), ((false, ()), ()))))
  else none)
  else none
def g_law37_alive (d : Unit × Unit) : Option (Unit × ((Bool × Unit) × Unit)) := f_law37_alive_m () d
theorem ok_law37_alive : FnOk Tryz.prog ET0 4 pi_law37_alive po_law37_alive g_law37_alive :=
  fn0 (E := ((E0.add 11 (typedSem pi_answer_Reply po_answer_Reply g_answer_Reply)).add 12 (typedSem pi_config_New po_config_New g_config_New))) (envOk_add (envOk_add e0_ok (typed_ok ok_answer_Reply)) (typed_ok ok_config_New)) (fn := Tryz.f4) Tryz.func4 (by kernel_rfl) (by kernel_rfl) [.tmp 0] (by kernel_rfl) rfl rfl rfl [] fun d => by kernel_rfl

@[reducible] def pi_law37_Long : PSh := ⟨[], [.mk false [.v (.sl (.int .u8))]]⟩
@[reducible] def po_law37_Long : PSh := ⟨[], [.mk false [vB]]⟩
def f_law37_Long_m (T : Unit) (d : Unit × (((List Int) × Unit) × Unit)) : Option (Unit × ((Bool × Unit) × Unit)) :=
  let x1 : Int := (d.2.1.1.length : Int)
  let x2 : Bool := (decide (x1 > (1000 : Int)))
  bif x2 then (
  let x3 : Int := (d.2.1.1.length : Int)
  let x4 : Bool := (decide (x3 ≤ (65535 : Int)))
  bif x4 then (
  some ((), ((true, ()), ())))
  else (
  let x5 : Int := (d.2.1.1.length : Int)
  let x6 : Bool := (decide (x5 > (66000 : Int)))
  some ((), ((x6, ()), ()))))
  else (
  let x7 : Int := (d.2.1.1.length : Int)
  let x8 : Bool := (decide (x7 > (66000 : Int)))
  some ((), ((x8, ()), ())))
def g_law37_Long (d : Unit × (((List Int) × Unit) × Unit)) : Option (Unit × ((Bool × Unit) × Unit)) := f_law37_Long_m () d
theorem ok_law37_Long : FnOk Tryz.prog ET0 5 pi_law37_Long po_law37_Long g_law37_Long :=
  fn0 (E := E0) e0_ok (fn := Tryz.f5) Tryz.func5 (by kernel_rfl) (by kernel_rfl) [.tmp 2] (by kernel_rfl) rfl rfl rfl [] fun d => by kernel_rfl

@[reducible] def pi_refid_coded : PSh := ⟨[], [.mk false [v8]]⟩
@[reducible] def po_refid_coded : PSh := ⟨[], [.mk false [vB]]⟩
def f_refid_coded_m (T : Unit) (d : Unit × ((Int × Unit) × Unit)) : Option (Unit × ((Bool × Unit) × Unit)) :=
  let x1 : Bool := (decide (d.2.1.1 ≥ (33 : Int)))
  bif x1 then (
  let x2 : Bool := (decide (d.2.1.1 ≤ (126 : Int)))
  bif x2 then (
  let x3 : Bool := (d.2.1.1 != (46 : Int))
  some ((), ((x3, ()), ())))
  else (
  some ((), ((false, ()), ()))))
  else (
  some ((), ((false, ()), ())))
def g_refid_coded (d : Unit × ((Int × Unit) × Unit)) : Option (Unit × ((Bool × Unit) × Unit)) := f_refid_coded_m () d
theorem ok_refid_coded : FnOk Tryz.prog ET0 59 pi_refid_coded po_refid_coded g_refid_coded :=
  fn0 (E := E0) e0_ok (fn := Tryz.f59) Tryz.func59 (by kernel_rfl) (by kernel_rfl) [.tmp 2] (by kernel_rfl) rfl rfl rfl [] fun d => by kernel_rfl

@[reducible] def pi_refid_Code : PSh := ⟨[], [.mk false [vS]]⟩
@[reducible] def po_refid_Code : PSh := ⟨[], [.mk true [v8, v8, v8, v8], .mk false [vE]]⟩
@[reducible] def TT_refid_Code : Type := (((((Int × (Int × (Int × (Int × Unit)))) × ((Int × (Int × (Int × (Int × Unit)))) × Unit)) × ((ByteArray × Unit) × (Unit × (Unit × ((Int × Unit) × ((Int × Unit) × Unit)))))) → Option (Unit × ((Int × (Int × (Int × (Int × Unit)))) × (((Option Int) × Unit) × Unit)))) × Unit)
@[reducible] def sh_refid_Code_7 : PSh := ⟨[.var 42 [v8, v8, v8, v8], .var 42 [v8, v8, v8, v8]], [.mk false [vS], .any, .mk false [.ref 0 0], .any, .mk false [.ref 1 0], .any, .any, .any, .any, .any, .any, .any, .any, .any, .any, .any, .any, .mk false [vI], .mk false [vI], .any, .any, .any, .any, .any, .any, .any, .any, .any, .any, .any, .any, .any, .any, .any, .any]⟩
def f_refid_Code_p7 (T : TT_refid_Code) (d : ((Int × (Int × (Int × (Int × Unit)))) × ((Int × (Int × (Int × (Int × Unit)))) × Unit)) × ((ByteArray × Unit) × (Unit × (Unit × ((Int × Unit) × ((Int × Unit) × Unit)))))) : Option (Unit × ((Int × (Int × (Int × (Int × Unit)))) × (((Option Int) × Unit) × Unit))) :=
  let x8 : Bool := (decide (d.2.2.2.2.2.1.1 < d.2.2.2.2.1.1))
  bif x8 then (
  bif decide ((0 : Int) ≤ d.2.2.2.2.2.1.1) && decide (d.2.2.2.2.2.1.1 < ((d.2.1.1.size : Int) : Int)) then (
  let x9 : Int := (bt d.2.1.1 d.2.2.2.2.2.1.1)
  (g_refid_coded ((), ((x9, ()), ()))).bind fun x10 =>
  let x11 : Bool := (!x10.2.1.1)
  bif x11 then (
  let x12 : (Option Int) := (some (2 : Int))
  some ((), (((0 : Int), ((0 : Int), ((0 : Int), ((0 : Int), ())))), ((x12, ()), ()))))
  else (
  bif decide ((0 : Int) ≤ d.2.2.2.2.2.1.1) && decide (d.2.2.2.2.2.1.1 < ((d.2.1.1.size : Int) : Int)) then (
  let x13 : Int := (bt d.2.1.1 d.2.2.2.2.2.1.1)
  bif decide ((0 : Int) ≤ d.2.2.2.2.2.1.1) && decide (d.2.2.2.2.2.1.1 < (4 : Int)) then (
  bif decide (d.2.2.2.2.2.1.1 = (0 : Int)) then (
  let x17 : Int := (iadd .i64 d.2.2.2.2.2.1.1 (1 : Int))
  (T.1 ((d.1.1, ((x13, d.1.2.1.2), ())), (d.2.1, ((), ((), (d.2.2.2.2.1, ((x17, ()), ()))))))))
  else (
  bif decide (d.2.2.2.2.2.1.1 = (1 : Int)) then (
  let x16 : Int := (iadd .i64 d.2.2.2.2.2.1.1 (1 : Int))
  (T.1 ((d.1.1, ((d.1.2.1.1, (x13, d.1.2.1.2.2)), ())), (d.2.1, ((), ((), (d.2.2.2.2.1, ((x16, ()), ()))))))))
  else (
  bif decide (d.2.2.2.2.2.1.1 = (2 : Int)) then (
  let x15 : Int := (iadd .i64 d.2.2.2.2.2.1.1 (1 : Int))
  (T.1 ((d.1.1, ((d.1.2.1.1, (d.1.2.1.2.1, (x13, d.1.2.1.2.2.2))), ())), (d.2.1, ((), ((), (d.2.2.2.2.1, ((x15, ()), ()))))))))
  else (
  bif decide (d.2.2.2.2.2.1.1 = (3 : Int)) then (
  let x14 : Int := (iadd .i64 d.2.2.2.2.2.1.1 (1 : Int))
  (T.1 ((d.1.1, ((d.1.2.1.1, (d.1.2.1.2.1, (d.1.2.1.2.2.1, (x13, ())))), ())), (d.2.1, ((), ((), (d.2.2.2.2.1, ((x14, ()), ()))))))))
  else (
  none)))))
  else none)
  else none))
  else none)
  else (
  some ((), (d.1.2.1, (((none : Option Int), ()), ()))))
def f_refid_Code_t : Nat → TT_refid_Code
  | 0 => (fun _ => none, ())
  | k + 1 => (f_refid_Code_p7 (f_refid_Code_t k), ())
theorem t_refid_Code (k : Nat) : f_refid_Code_t (k + 1) = (f_refid_Code_p7 (f_refid_Code_t k), ()) := rfl
def f_refid_Code_m (T : TT_refid_Code) (d : Unit × ((ByteArray × Unit) × Unit)) : Option (Unit × ((Int × (Int × (Int × (Int × Unit)))) × (((Option Int) × Unit) × Unit))) :=
  let x1 : Int := (d.2.1.1.size : Int)
  let x2 : Bool := (decide (x1 < (1 : Int)))
  bif x2 then (
  let x3 : (Option Int) := (some (2 : Int))
  some ((), (((0 : Int), ((0 : Int), ((0 : Int), ((0 : Int), ())))), ((x3, ()), ()))))
  else (
  let x4 : Int := (d.2.1.1.size : Int)
  let x5 : Bool := (decide (x4 > (4 : Int)))
  bif x5 then (
  let x6 : (Option Int) := (some (2 : Int))
  some ((), (((0 : Int), ((0 : Int), ((0 : Int), ((0 : Int), ())))), ((x6, ()), ()))))
  else (
  let x7 : Int := (d.2.1.1.size : Int)
  (T.1 ((((0 : Int), ((0 : Int), ((0 : Int), ((0 : Int), ())))), (((0 : Int), ((0 : Int), ((0 : Int), ((0 : Int), ())))), ())), (d.2.1, ((), ((), ((x7, ()), (((0 : Int), ()), ())))))))))
def c_refid_Code : List Nat := []
def L_refid_Code (k : Nat) : Pts po_refid_Code.den := [(7, ⟨sh_refid_Code_7, (f_refid_Code_t k).1⟩)]
def R_refid_Code (_ : Nat) : PtsR po_refid_Code.den := []
def E_refid_Code : Env := (E0.add 59 (typedSem pi_refid_coded po_refid_coded g_refid_coded))
theorem q_refid_Code_7 (k : Nat) (d : sh_refid_Code_7.den) : evAt E_refid_Code (tb (L_refid_Code k) (R_refid_Code k)) c_refid_Code 7 (bodyOf Tryz.f35) 0 (finK E_refid_Code po_refid_Code [.cell 2 42, .tmp 3]) (ptSt sh_refid_Code_7 d) = f_refid_Code_p7 (f_refid_Code_t k) d := by kernel_rfl
theorem q_refid_Code_m (k : Nat) (d : pi_refid_Code.den) : evCode E_refid_Code (tb (L_refid_Code k) (R_refid_Code k)) c_refid_Code (bodyOf Tryz.f35) 0 (finK E_refid_Code po_refid_Code [.cell 2 42, .tmp 3]) (startSt pi_refid_Code 35 d) = f_refid_Code_m (f_refid_Code_t k) d := by kernel_rfl
def g_refid_Code (d : Unit × ((ByteArray × Unit) × Unit)) : Option (Unit × ((Int × (Int × (Int × (Int × Unit)))) × (((Option Int) × Unit) × Unit))) := lim fun k => f_refid_Code_m (f_refid_Code_t k) d
theorem ok_refid_Code : FnOk Tryz.prog ET0 35 pi_refid_Code po_refid_Code g_refid_Code :=
  fn_of_body (E := E_refid_Code) (envOk_add e0_ok (typed_ok ok_refid_coded)) (fn := Tryz.f35) Tryz.func35 (by kernel_rfl) (by kernel_rfl) [.cell 2 42, .tmp 3] (by kernel_rfl) (by kernel_rfl) (by decide) rfl c_refid_Code L_refid_Code R_refid_Code
    (by intro x hx d; simp only [L_refid_Code, List.mem_cons, List.not_mem_nil, or_false] at hx; subst hx; rfl)
    (by intro k x hx d out h; simp only [L_refid_Code, List.mem_cons, List.not_mem_nil, or_false] at hx; subst hx; exact (q_refid_Code_7 k d).trans h)
    (by intro x hx; cases hx)
    (by intro k x hx; cases hx)
    (by intro d out h; obtain ⟨k, hk⟩ := lim_some h; exact ⟨k, (q_refid_Code_m k d).trans hk⟩)

@[reducible] def pi_refid_Name : PSh := ⟨[], [.mk true [v8, v8, v8, v8]]⟩
@[reducible] def po_refid_Name : PSh := ⟨[], [.mk false [vS], .mk false [vB]]⟩
def f_refid_Name_m (T : Unit) (d : Unit × ((Int × (Int × (Int × (Int × Unit)))) × Unit)) : Option (Unit × ((ByteArray × Unit) × ((Bool × Unit) × Unit))) :=
  let x1 : (Int × (Int × (Int × Int))) := (d.2.1.1, (d.2.1.2.1, (d.2.1.2.2.1, d.2.1.2.2.2.1)))
  let x2 : (List Int) := ([x1.1, x1.2.1, x1.2.2.1, x1.2.2.2] : List Int)
  let x3 : ByteArray := (strOf x2)
  (g_strings_TrimRight ((), ((x3, ()), (((⟨#[0]⟩ : ByteArray), ()), ())))).bind fun x4 =>
  (g_refid_Code ((), x4.2)).bind fun x5 =>
  let x6 : Bool := (!x5.2.2.1.1.isNone)
  bif x6 then (
  some ((), (((⟨#[]⟩ : ByteArray), ()), ((false, ()), ()))))
  else (
  some ((), (x4.2.1, ((true, ()), ()))))
def g_refid_Name (d : Unit × ((Int × (Int × (Int × (Int × Unit)))) × Unit)) : Option (Unit × ((ByteArray × Unit) × ((Bool × Unit) × Unit))) := f_refid_Name_m () d
theorem ok_refid_Name : FnOk Tryz.prog ET0 15 pi_refid_Name po_refid_Name g_refid_Name :=
  fn0 (E := (((E0.add 34 (typedSem pi_strings_TrimRight po_strings_TrimRight g_strings_TrimRight)).add 35 (typedSem pi_refid_Code po_refid_Code g_refid_Code)).fr [(7, [1])])) (envOk_fr (envOk_add (envOk_add e0_ok (typed_ok ok_strings_TrimRight)) (typed_ok ok_refid_Code))) (fn := Tryz.f15) Tryz.func15 (by kernel_rfl) (by kernel_rfl) [.tmp 2, .tmp 3] (by kernel_rfl) rfl rfl rfl [] fun d => by kernel_rfl

@[reducible] def pi_strings_splitSeq : PSh := ⟨[], [.mk false [vS], .mk false [vS], .mk false [vI]]⟩
@[reducible] def po_strings_splitSeq : PSh := ⟨[.var 9 [vS], .var 9 [vS], .var 3 [vI]], [.mk false [.fn 80 [0, 1, 2]]]⟩
def f_strings_splitSeq_m (T : Unit) (d : Unit × ((ByteArray × Unit) × ((ByteArray × Unit) × ((Int × Unit) × Unit)))) : Option (((ByteArray × Unit) × ((ByteArray × Unit) × ((Int × Unit) × Unit))) × (Unit × Unit)) :=
  some ((d.2.2.1, (d.2.1, d.2.2.2)), ((), ()))
def g_strings_splitSeq (d : Unit × ((ByteArray × Unit) × ((ByteArray × Unit) × ((Int × Unit) × Unit)))) : Option (((ByteArray × Unit) × ((ByteArray × Unit) × ((Int × Unit) × Unit))) × (Unit × Unit)) := f_strings_splitSeq_m () d
theorem ok_strings_splitSeq : FnOk Tryz.prog ET0 54 pi_strings_splitSeq po_strings_splitSeq g_strings_splitSeq :=
  fn0 (E := E0) e0_ok (fn := Tryz.f54) Tryz.func54 (by kernel_rfl) (by kernel_rfl) [.tmp 6] (by kernel_rfl) rfl rfl rfl [] fun d => by kernel_rfl

@[reducible] def pi_strings_SplitSeq : PSh := ⟨[], [.mk false [vS], .mk false [vS]]⟩
@[reducible] def po_strings_SplitSeq : PSh := ⟨[.var 9 [vS], .var 9 [vS], .var 3 [vI]], [.mk false [.fn 80 [0, 1, 2]]]⟩
def f_strings_SplitSeq_m (T : Unit) (d : Unit × ((ByteArray × Unit) × ((ByteArray × Unit) × Unit))) : Option (((ByteArray × Unit) × ((ByteArray × Unit) × ((Int × Unit) × Unit))) × (Unit × Unit)) :=
  (g_strings_splitSeq ((), (d.2.1, (d.2.2.1, (((0 : Int), ()), ()))))).bind fun x1 =>
  some (x1.1, ((), ()))
def g_strings_SplitSeq (d : Unit × ((ByteArray × Unit) × ((ByteArray × Unit) × Unit))) : Option (((ByteArray × Unit) × ((ByteArray × Unit) × ((Int × Unit) × Unit))) × (Unit × Unit)) := f_strings_SplitSeq_m () d
theorem ok_strings_SplitSeq : FnOk Tryz.prog ET0 33 pi_strings_SplitSeq po_strings_SplitSeq g_strings_SplitSeq :=
  fn0 (E := (E0.add 54 (typedSem pi_strings_splitSeq po_strings_splitSeq g_strings_splitSeq))) (envOk_add e0_ok (typed_ok ok_strings_splitSeq)) (fn := Tryz.f33) Tryz.func33 (by kernel_rfl) (by kernel_rfl) [.tmp 4] (by kernel_rfl) rfl rfl rfl [] fun d => by kernel_rfl

/- strings.splitSeq$1 -/
@[reducible] def TY_strings_splitSeq_1 : Type := (((((ByteArray × Unit) × Unit) × (Unit × Unit)) → Option (List ByteArray)) × (((((ByteArray × Unit) × Unit) × (((Option ByteArray) × Unit) × (Unit × (((Option Int) × Unit) × Unit)))) → Option (List ByteArray)) × Unit))
@[reducible] def sh_strings_splitSeq_1_3 : PSh := ⟨[.var 9 [vS]], [.any, .any, .mk false [.ref 0 0], .any, .any, .any, .any, .any, .any, .any, .any, .any, .any, .any, .any, .any, .any, .any, .any, .any, .any, .any, .any, .any, .any, .any, .any, .any, .any, .any, .any, .any, .any, .any, .any, .any, .any, .any, .any, .any, .any, .any, .any, .any, .any, .any, .any, .any, .any, .any, .any, .any]⟩
@[reducible] def sh_strings_splitSeq_1_10 : PSh := ⟨[.var 9 [vS]], [.any, .mk false [.v (.nptr .str)], .mk false [.ref 0 0], .mk false [.v (.nptr (.int .i64))], .any, .any, .any, .any, .any, .any, .any, .any, .any, .any, .any, .any, .any, .any, .any, .any, .any, .any, .any, .any, .any, .any, .any, .any, .any, .any, .any, .any, .any, .any, .any, .any, .any, .any, .any, .any, .any, .any, .any, .any, .any, .any, .any, .any, .any, .any, .any, .any]⟩
def f_strings_splitSeq_1_p3 (T : TY_strings_splitSeq_1) (d : ((ByteArray × Unit) × Unit) × (Unit × Unit)) : Option (List ByteArray) :=
  let x4 : Int := (d.1.1.1.size : Int)
  let x5 : Bool := (decide (x4 > (0 : Int)))
  bif x5 then (
  none)
  else (
  some ([] : List ByteArray))
def f_strings_splitSeq_1_p10 (T : TY_strings_splitSeq_1) (d : ((ByteArray × Unit) × Unit) × (((Option ByteArray) × Unit) × (Unit × (((Option Int) × Unit) × Unit)))) : Option (List ByteArray) :=
  d.2.1.1.bind fun x6 =>
  (g_strings_Index ((), ((d.1.1.1, ()), ((x6, ()), ())))).bind fun x7 =>
  let x8 : Bool := (decide (x7.2.1.1 < (0 : Int)))
  bif x8 then (
  (some ([] : List ByteArray)).bind fun (x9 : List ByteArray) =>
  bif x9.isEmpty then (
  (some ([] : List ByteArray)).bind fun (x10 : List ByteArray) =>
  some (d.1.1.1 :: x10))
  else none)
  else (
  d.2.2.2.1.1.bind fun x11 =>
  let x12 : Int := (iadd .i64 x7.2.1.1 x11)
  bif decide ((0 : Int) ≤ (0 : Int)) && decide ((0 : Int) ≤ x12) && decide (x12 ≤ (d.1.1.1.size : Int)) then (
  let x13 : ByteArray := (d.1.1.1.extract (Int.toNat (0 : Int)) (Int.toNat x12))
  (some ([] : List ByteArray)).bind fun (x14 : List ByteArray) =>
  bif x14.isEmpty then (
  (d.2.1.1.bind fun x16 =>
  let x17 : Int := (x16.size : Int)
  let x18 : Int := (iadd .i64 x7.2.1.1 x17)
  bif decide ((0 : Int) ≤ x18) && decide (x18 ≤ (d.1.1.1.size : Int)) && decide ((d.1.1.1.size : Int) ≤ (d.1.1.1.size : Int)) then (
  let x19 : ByteArray := (d.1.1.1.extract (Int.toNat x18) (Int.toNat (d.1.1.1.size : Int)))
  (T.2.1 (((x19, ()), ()), ((d.2.1.1, ()), ((), ((d.2.2.2.1.1, ()), ()))))))
  else none).bind fun (x15 : List ByteArray) =>
  some (x13 :: x15))
  else none)
  else none)
def f_strings_splitSeq_1_t : Nat → TY_strings_splitSeq_1
  | 0 => (fun _ => none, (fun _ => none, ()))
  | k + 1 => (f_strings_splitSeq_1_p3 (f_strings_splitSeq_1_t k), (f_strings_splitSeq_1_p10 (f_strings_splitSeq_1_t k), ()))
theorem t_strings_splitSeq_1 (k : Nat) : f_strings_splitSeq_1_t (k + 1) = (f_strings_splitSeq_1_p3 (f_strings_splitSeq_1_t k), (f_strings_splitSeq_1_p10 (f_strings_splitSeq_1_t k), ())) := rfl
def f_strings_splitSeq_1_m (T : TY_strings_splitSeq_1) (d : (ByteArray × (ByteArray × (Int × Unit)))) : Option (List ByteArray) :=
  (some d.1).bind fun x1 =>
  let x2 : Int := (x1.size : Int)
  let x3 : Bool := (x2 == (0 : Int))
  bif x3 then (
  (T.1 (((d.2.1, ()), ()), ((), ()))))
  else (
  (T.2.1 (((d.2.1, ()), ()), (((some d.1), ()), ((), (((some d.2.2.1), ()), ()))))))
def L_strings_splitSeq_1 (k : Nat) : Pts (List ByteArray) := [(3, ⟨sh_strings_splitSeq_1_3, (f_strings_splitSeq_1_t k).1⟩), (10, ⟨sh_strings_splitSeq_1_10, (f_strings_splitSeq_1_t k).2.1⟩)]
def F_strings_splitSeq_1 (d : (ByteArray × (ByteArray × (Int × Unit)))) : Option (List ByteArray) := lim fun k => f_strings_splitSeq_1_m (f_strings_splitSeq_1_t k) d
def sq_strings_splitSeq_1 : SeqSem := ⟨[(9, .str), (9, .str), (3, (.int .i64))], [false, true, false], .str, F_strings_splitSeq_1⟩
def E_strings_splitSeq_1 : Env := (E0.add 82 (typedSem pi_strings_Index po_strings_Index g_strings_Index))
theorem q_strings_splitSeq_1_3 (k : Nat) (d : ((ByteArray × Unit) × Unit) × (Unit × Unit)) : evAtY E_strings_splitSeq_1 .str (tabY (L_strings_splitSeq_1 k)) 3 (bodyOf Tryz.f80) 0 finY (ptSt sh_strings_splitSeq_1_3 d) = f_strings_splitSeq_1_p3 (f_strings_splitSeq_1_t k) d := by kernel_rfl
theorem q_strings_splitSeq_1_10 (k : Nat) (d : ((ByteArray × Unit) × Unit) × (((Option ByteArray) × Unit) × (Unit × (((Option Int) × Unit) × Unit)))) : evAtY E_strings_splitSeq_1 .str (tabY (L_strings_splitSeq_1 k)) 10 (bodyOf Tryz.f80) 0 finY (ptSt sh_strings_splitSeq_1_10 d) = f_strings_splitSeq_1_p10 (f_strings_splitSeq_1_t k) d := by kernel_rfl
theorem q_strings_splitSeq_1_m (k : Nat) (d : (ByteArray × (ByteArray × (Int × Unit)))) : evCodeY E_strings_splitSeq_1 .str (tabY (L_strings_splitSeq_1 k)) (bodyOf Tryz.f80) 0 finY (startY sq_strings_splitSeq_1.ts sq_strings_splitSeq_1.wr 52 d) = f_strings_splitSeq_1_m (f_strings_splitSeq_1_t k) d := by kernel_rfl
theorem okq_strings_splitSeq_1 : SeqOk Tryz.prog ET0 80 sq_strings_splitSeq_1 := by
  refine seq_of_body (E := E_strings_splitSeq_1) (envOk_add e0_ok (typed_ok ok_strings_Index)) rfl rfl (fn := Tryz.f80) Tryz.func80 (by kernel_rfl) (by kernel_rfl) (by kernel_rfl) (by kernel_rfl) L_strings_splitSeq_1 ?_ ?_ ?_ (by intro d l h; obtain ⟨k, hk⟩ := lim_some h; exact ⟨k, (q_strings_splitSeq_1_m k d).trans hk⟩)
  · intro x hx d
    rcases List.mem_cons.1 hx with rfl | hx
    · rfl
    ·
      rcases List.mem_cons.1 hx with rfl | hx
      · rfl
      ·
        cases hx
  · intro k x hx
    rcases List.mem_cons.1 hx with rfl | hx
    · rfl
    ·
      rcases List.mem_cons.1 hx with rfl | hx
      · rfl
      ·
        cases hx
  · intro k x hx d out h
    rcases List.mem_cons.1 hx with rfl | hx
    · exact (q_strings_splitSeq_1_3 k d).trans h
    ·
      rcases List.mem_cons.1 hx with rfl | hx
      · exact (q_strings_splitSeq_1_10 k d).trans h
      ·
        cases hx

@[reducible] def pi_refid_Refuses : PSh := ⟨[], [.mk true [v8, v8, v8, v8]]⟩
@[reducible] def po_refid_Refuses : PSh := ⟨[], [.mk false [vB]]⟩
@[reducible] def TT_refid_Refuses : Type := ((List ByteArray → (((Bool × Unit) × ((ByteArray × Unit) × Unit)) × (Unit × (Unit × Unit))) → Option (Unit × ((Bool × Unit) × Unit))) × Unit)
@[reducible] def sh_refid_Refuses_4 : PSh := ⟨[.var 4 [vB], .var 9 [vS]], [.any, .any, .mk false [.ref 0 0], .mk false [.ref 1 0], .any, .any, .any, .any, .any, .any, .any, .any, .any, .any, .any, .any]⟩
def f_refid_Refuses_p4 (T : TT_refid_Refuses) (l : List ByteArray) (d : ((Bool × Unit) × ((ByteArray × Unit) × Unit)) × (Unit × (Unit × Unit))) : Option (Unit × ((Bool × Unit) × Unit)) :=
  bif l.isEmpty then (
  some ((), ((false, ()), ())))
  else (
  let x4 : ByteArray := (gd .str l (0 : Int))
  let x5 : Bool := (x4.toList == d.1.2.1.1.toList)
  bif x5 then (
  some ((), ((true, ()), ())))
  else (
  (T.1 (List.drop 1 l) (d.1, ((), ((), ()))))))
def f_refid_Refuses_t : Nat → TT_refid_Refuses
  | 0 => (fun _ _ => none, ())
  | k + 1 => (f_refid_Refuses_p4 (f_refid_Refuses_t k), ())
theorem t_refid_Refuses (k : Nat) : f_refid_Refuses_t (k + 1) = (f_refid_Refuses_p4 (f_refid_Refuses_t k), ()) := rfl
def f_refid_Refuses_m (T : TT_refid_Refuses) (d : Unit × ((Int × (Int × (Int × (Int × Unit)))) × Unit)) : Option (Unit × ((Bool × Unit) × Unit)) :=
  (g_refid_Name ((), d.2)).bind fun x1 =>
  (g_strings_SplitSeq ((), (((⟨#[65, 67, 83, 84, 32, 65, 85, 84, 72, 32, 65, 85, 84, 79, 32, 66, 67, 83, 84, 32, 67, 82, 89, 80, 32, 68, 69, 78, 89, 32, 68, 82, 79, 80, 32, 82, 83, 84, 82, 32, 73, 78, 73, 84, 32, 77, 67, 83, 84, 32, 78, 75, 69, 89, 32, 82, 65, 84, 69, 32, 82, 77, 79, 84, 32, 83, 84, 69, 80]⟩ : ByteArray), ()), (((⟨#[32]⟩ : ByteArray), ()), ())))).bind fun x2 =>
  (F_strings_splitSeq_1 (x2.1.1.1, (x2.1.2.1.1, (x2.1.2.2.1.1, ())))).bind fun x3 =>
  (T.1 x3 (((false, ()), (x1.2.1, ())), ((), ((), ()))))
def c_refid_Refuses : List Nat := []
def L_refid_Refuses (_ : Nat) : Pts po_refid_Refuses.den := []
def R_refid_Refuses (k : Nat) : PtsR po_refid_Refuses.den := [(4, ⟨(sh_refid_Refuses_4, .str), (f_refid_Refuses_t k).1⟩)]
def E_refid_Refuses : Env := (((E0.add 15 (typedSem pi_refid_Name po_refid_Name g_refid_Name)).add 33 (typedSem pi_strings_SplitSeq po_strings_SplitSeq g_strings_SplitSeq)).sq 80 sq_strings_splitSeq_1)
theorem q_refid_Refuses_4 (k : Nat) (l : List ByteArray) (d : sh_refid_Refuses_4.den) : evAtR E_refid_Refuses (tb (L_refid_Refuses k) (R_refid_Refuses k)) c_refid_Refuses 4 (bodyOf Tryz.f14) 0 (finK E_refid_Refuses po_refid_Refuses [.cell 2 4]) .str l (ptSt sh_refid_Refuses_4 d) = f_refid_Refuses_p4 (f_refid_Refuses_t k) l d := by kernel_rfl
theorem q_refid_Refuses_m (k : Nat) (d : pi_refid_Refuses.den) : evCode E_refid_Refuses (tb (L_refid_Refuses k) (R_refid_Refuses k)) c_refid_Refuses (bodyOf Tryz.f14) 0 (finK E_refid_Refuses po_refid_Refuses [.cell 2 4]) (startSt pi_refid_Refuses 16 d) = f_refid_Refuses_m (f_refid_Refuses_t k) d := by kernel_rfl
def g_refid_Refuses (d : Unit × ((Int × (Int × (Int × (Int × Unit)))) × Unit)) : Option (Unit × ((Bool × Unit) × Unit)) := lim fun k => f_refid_Refuses_m (f_refid_Refuses_t k) d
theorem ok_refid_Refuses : FnOk Tryz.prog ET0 14 pi_refid_Refuses po_refid_Refuses g_refid_Refuses :=
  fn_of_body (E := E_refid_Refuses) (envOk_sq (envOk_add (envOk_add e0_ok (typed_ok ok_refid_Name)) (typed_ok ok_strings_SplitSeq)) okq_strings_splitSeq_1) (fn := Tryz.f14) Tryz.func14 (by kernel_rfl) (by kernel_rfl) [.cell 2 4] (by kernel_rfl) (by kernel_rfl) (by decide) rfl c_refid_Refuses L_refid_Refuses R_refid_Refuses
    (by intro x hx; cases hx)
    (by intro k x hx; cases hx)
    (by intro x hx l d; simp only [R_refid_Refuses, List.mem_cons, List.not_mem_nil, or_false] at hx; subst hx; rfl)
    (by intro k x hx l d out h; simp only [R_refid_Refuses, List.mem_cons, List.not_mem_nil, or_false] at hx; subst hx; exact (q_refid_Refuses_4 k l d).trans h)
    (by intro d out h; obtain ⟨k, hk⟩ := lim_some h; exact ⟨k, (q_refid_Refuses_m k d).trans hk⟩)

@[reducible] def pi_answer_Told : PSh := ⟨[], [.mk false [.v (.sl (.int .u8))]]⟩
@[reducible] def po_answer_Told : PSh := ⟨[], [.mk false [vS], .mk false [vB]]⟩
def f_answer_Told_m (T : Unit) (d : Unit × (((List Int) × Unit) × Unit)) : Option (Unit × ((ByteArray × Unit) × ((Bool × Unit) × Unit))) :=
  (g_head_Parse ((), d.2)).bind fun x1 =>
  let x2 : Bool := (!x1.2.2.1.1.isNone)
  bif x2 then (
  some ((), (((⟨#[]⟩ : ByteArray), ()), ((false, ()), ()))))
  else (
  let x3 : Bool := (x1.2.1.2.2.2.1 != (0 : Int))
  bif x3 then (
  some ((), (((⟨#[]⟩ : ByteArray), ()), ((false, ()), ()))))
  else (
  (g_refid_Refuses ((), ((x1.2.1.2.2.2.2.2.2.2.2.2.2.1, (x1.2.1.2.2.2.2.2.2.2.2.2.2.2.1, (x1.2.1.2.2.2.2.2.2.2.2.2.2.2.2.1, (x1.2.1.2.2.2.2.2.2.2.2.2.2.2.2.2.1, ())))), ()))).bind fun x4 =>
  let x5 : Bool := (!x4.2.1.1)
  bif x5 then (
  some ((), (((⟨#[]⟩ : ByteArray), ()), ((false, ()), ()))))
  else (
  (g_refid_Name ((), ((x1.2.1.2.2.2.2.2.2.2.2.2.2.1, (x1.2.1.2.2.2.2.2.2.2.2.2.2.2.1, (x1.2.1.2.2.2.2.2.2.2.2.2.2.2.2.1, (x1.2.1.2.2.2.2.2.2.2.2.2.2.2.2.2.1, ())))), ()))).bind fun x6 =>
  some ((), x6.2))))
def g_answer_Told (d : Unit × (((List Int) × Unit) × Unit)) : Option (Unit × ((ByteArray × Unit) × ((Bool × Unit) × Unit))) := f_answer_Told_m () d
theorem ok_answer_Told : FnOk Tryz.prog ET0 6 pi_answer_Told po_answer_Told g_answer_Told :=
  fn0 (E := (((E0.add 13 (typedSem pi_head_Parse po_head_Parse g_head_Parse)).add 14 (typedSem pi_refid_Refuses po_refid_Refuses g_refid_Refuses)).add 15 (typedSem pi_refid_Name po_refid_Name g_refid_Name))) (envOk_add (envOk_add (envOk_add e0_ok (typed_ok ok_head_Parse)) (typed_ok ok_refid_Refuses)) (typed_ok ok_refid_Name)) (fn := Tryz.f6) Tryz.func6 (by kernel_rfl) (by kernel_rfl) [.tmp 2, .tmp 3] (by kernel_rfl) rfl rfl rfl [] fun d => by kernel_rfl

@[reducible] def pi_ref30_Code : PSh := ⟨[], [.mk false [vS]]⟩
@[reducible] def po_ref30_Code : PSh := ⟨[], [.mk true [v8, v8, v8, v8], .mk false [vI]]⟩
@[reducible] def TT_ref30_Code : Type := (((((Int × (Int × (Int × (Int × Unit)))) × ((Int × (Int × (Int × (Int × Unit)))) × Unit)) × ((ByteArray × Unit) × (Unit × (Unit × ((Int × Unit) × Unit))))) → Option (Unit × ((Int × (Int × (Int × (Int × Unit)))) × ((Int × Unit) × Unit)))) × Unit)
@[reducible] def sh_ref30_Code_7 : PSh := ⟨[.var 42 [v8, v8, v8, v8], .var 42 [v8, v8, v8, v8]], [.mk false [vS], .any, .mk false [.ref 0 0], .any, .mk false [.ref 1 0], .mk false [vI], .any, .any, .any, .any, .any, .any, .any, .any, .any, .any, .any, .any, .any, .any, .any, .any, .any, .any, .any, .any, .any, .any, .any, .any, .any, .any, .any, .any, .any, .any, .any, .any, .any, .any, .any, .any, .any, .any, .any]⟩
def f_ref30_Code_p7 (T : TT_ref30_Code) (d : ((Int × (Int × (Int × (Int × Unit)))) × ((Int × (Int × (Int × (Int × Unit)))) × Unit)) × ((ByteArray × Unit) × (Unit × (Unit × ((Int × Unit) × Unit))))) : Option (Unit × ((Int × (Int × (Int × (Int × Unit)))) × ((Int × Unit) × Unit))) :=
  let x5 : Int := (d.2.1.1.size : Int)
  let x6 : Bool := (decide (d.2.2.2.2.1.1 < x5))
  bif x6 then (
  bif decide ((0 : Int) ≤ d.2.2.2.2.1.1) && decide (d.2.2.2.2.1.1 < ((d.2.1.1.size : Int) : Int)) then (
  let x7 : Int := (bt d.2.1.1 d.2.2.2.2.1.1)
  let x8 : Bool := (decide (x7 < (33 : Int)))
  bif x8 then (
  some ((), (((0 : Int), ((0 : Int), ((0 : Int), ((0 : Int), ())))), (((2 : Int), ()), ()))))
  else (
  bif decide ((0 : Int) ≤ d.2.2.2.2.1.1) && decide (d.2.2.2.2.1.1 < ((d.2.1.1.size : Int) : Int)) then (
  let x9 : Int := (bt d.2.1.1 d.2.2.2.2.1.1)
  let x10 : Bool := (decide (x9 > (126 : Int)))
  bif x10 then (
  some ((), (((0 : Int), ((0 : Int), ((0 : Int), ((0 : Int), ())))), (((2 : Int), ()), ()))))
  else (
  bif decide ((0 : Int) ≤ d.2.2.2.2.1.1) && decide (d.2.2.2.2.1.1 < ((d.2.1.1.size : Int) : Int)) then (
  let x11 : Int := (bt d.2.1.1 d.2.2.2.2.1.1)
  let x12 : Bool := (x11 == (46 : Int))
  bif x12 then (
  some ((), (((0 : Int), ((0 : Int), ((0 : Int), ((0 : Int), ())))), (((2 : Int), ()), ()))))
  else (
  bif decide ((0 : Int) ≤ d.2.2.2.2.1.1) && decide (d.2.2.2.2.1.1 < ((d.2.1.1.size : Int) : Int)) then (
  let x13 : Int := (bt d.2.1.1 d.2.2.2.2.1.1)
  bif decide ((0 : Int) ≤ d.2.2.2.2.1.1) && decide (d.2.2.2.2.1.1 < (4 : Int)) then (
  bif decide (d.2.2.2.2.1.1 = (0 : Int)) then (
  let x17 : Int := (iadd .i64 d.2.2.2.2.1.1 (1 : Int))
  (T.1 ((d.1.1, ((x13, d.1.2.1.2), ())), (d.2.1, ((), ((), ((x17, ()), ())))))))
  else (
  bif decide (d.2.2.2.2.1.1 = (1 : Int)) then (
  let x16 : Int := (iadd .i64 d.2.2.2.2.1.1 (1 : Int))
  (T.1 ((d.1.1, ((d.1.2.1.1, (x13, d.1.2.1.2.2)), ())), (d.2.1, ((), ((), ((x16, ()), ())))))))
  else (
  bif decide (d.2.2.2.2.1.1 = (2 : Int)) then (
  let x15 : Int := (iadd .i64 d.2.2.2.2.1.1 (1 : Int))
  (T.1 ((d.1.1, ((d.1.2.1.1, (d.1.2.1.2.1, (x13, d.1.2.1.2.2.2))), ())), (d.2.1, ((), ((), ((x15, ()), ())))))))
  else (
  bif decide (d.2.2.2.2.1.1 = (3 : Int)) then (
  let x14 : Int := (iadd .i64 d.2.2.2.2.1.1 (1 : Int))
  (T.1 ((d.1.1, ((d.1.2.1.1, (d.1.2.1.2.1, (d.1.2.1.2.2.1, (x13, ())))), ())), (d.2.1, ((), ((), ((x14, ()), ())))))))
  else (
  none)))))
  else none)
  else none))
  else none))
  else none))
  else none)
  else (
  some ((), (d.1.2.1, (((0 : Int), ()), ()))))
def f_ref30_Code_t : Nat → TT_ref30_Code
  | 0 => (fun _ => none, ())
  | k + 1 => (f_ref30_Code_p7 (f_ref30_Code_t k), ())
theorem t_ref30_Code (k : Nat) : f_ref30_Code_t (k + 1) = (f_ref30_Code_p7 (f_ref30_Code_t k), ()) := rfl
def f_ref30_Code_m (T : TT_ref30_Code) (d : Unit × ((ByteArray × Unit) × Unit)) : Option (Unit × ((Int × (Int × (Int × (Int × Unit)))) × ((Int × Unit) × Unit))) :=
  let x1 : Int := (d.2.1.1.size : Int)
  let x2 : Bool := (x1 == (0 : Int))
  bif x2 then (
  some ((), (((0 : Int), ((0 : Int), ((0 : Int), ((0 : Int), ())))), (((2 : Int), ()), ()))))
  else (
  let x3 : Int := (d.2.1.1.size : Int)
  let x4 : Bool := (decide (x3 > (4 : Int)))
  bif x4 then (
  some ((), (((0 : Int), ((0 : Int), ((0 : Int), ((0 : Int), ())))), (((2 : Int), ()), ()))))
  else (
  (T.1 ((((0 : Int), ((0 : Int), ((0 : Int), ((0 : Int), ())))), (((0 : Int), ((0 : Int), ((0 : Int), ((0 : Int), ())))), ())), (d.2.1, ((), ((), (((0 : Int), ()), ()))))))))
def c_ref30_Code : List Nat := []
def L_ref30_Code (k : Nat) : Pts po_ref30_Code.den := [(7, ⟨sh_ref30_Code_7, (f_ref30_Code_t k).1⟩)]
def R_ref30_Code (_ : Nat) : PtsR po_ref30_Code.den := []
def E_ref30_Code : Env := E0
theorem q_ref30_Code_7 (k : Nat) (d : sh_ref30_Code_7.den) : evAt E_ref30_Code (tb (L_ref30_Code k) (R_ref30_Code k)) c_ref30_Code 7 (bodyOf Tryz.f36) 0 (finK E_ref30_Code po_ref30_Code [.cell 2 42, .tmp 3]) (ptSt sh_ref30_Code_7 d) = f_ref30_Code_p7 (f_ref30_Code_t k) d := by kernel_rfl
theorem q_ref30_Code_m (k : Nat) (d : pi_ref30_Code.den) : evCode E_ref30_Code (tb (L_ref30_Code k) (R_ref30_Code k)) c_ref30_Code (bodyOf Tryz.f36) 0 (finK E_ref30_Code po_ref30_Code [.cell 2 42, .tmp 3]) (startSt pi_ref30_Code 45 d) = f_ref30_Code_m (f_ref30_Code_t k) d := by kernel_rfl
def g_ref30_Code (d : Unit × ((ByteArray × Unit) × Unit)) : Option (Unit × ((Int × (Int × (Int × (Int × Unit)))) × ((Int × Unit) × Unit))) := lim fun k => f_ref30_Code_m (f_ref30_Code_t k) d
theorem ok_ref30_Code : FnOk Tryz.prog ET0 36 pi_ref30_Code po_ref30_Code g_ref30_Code :=
  fn_of_body (E := E_ref30_Code) e0_ok (fn := Tryz.f36) Tryz.func36 (by kernel_rfl) (by kernel_rfl) [.cell 2 42, .tmp 3] (by kernel_rfl) (by kernel_rfl) (by decide) rfl c_ref30_Code L_ref30_Code R_ref30_Code
    (by intro x hx d; simp only [L_ref30_Code, List.mem_cons, List.not_mem_nil, or_false] at hx; subst hx; rfl)
    (by intro k x hx d out h; simp only [L_ref30_Code, List.mem_cons, List.not_mem_nil, or_false] at hx; subst hx; exact (q_ref30_Code_7 k d).trans h)
    (by intro x hx; cases hx)
    (by intro k x hx; cases hx)
    (by intro d out h; obtain ⟨k, hk⟩ := lim_some h; exact ⟨k, (q_ref30_Code_m k d).trans hk⟩)

@[reducible] def pi_ref30_Refuses : PSh := ⟨[], [.mk true [v8, v8, v8, v8]]⟩
@[reducible] def po_ref30_Refuses : PSh := ⟨[], [.mk false [vB]]⟩
@[reducible] def TT_ref30_Refuses : Type := (((((Int × (Int × (Int × (Int × Unit)))) × ((List ByteArray) × Unit)) × (Unit × (Unit × ((Int × Unit) × ((Int × Unit) × Unit))))) → Option (Unit × ((Bool × Unit) × Unit))) × Unit)
@[reducible] def sh_ref30_Refuses_3 : PSh := ⟨[.var 42 [v8, v8, v8, v8], .row 9 .str], [.any, .mk false [.ref 0 0], .any, .any, .any, .any, .any, .mk false [.osl 1], .mk false [vI], .mk false [vI], .any, .any, .any, .any, .any, .any, .any, .any, .any, .any, .any, .any]⟩
def f_ref30_Refuses_p3 (T : TT_ref30_Refuses) (d : ((Int × (Int × (Int × (Int × Unit)))) × ((List ByteArray) × Unit)) × (Unit × (Unit × ((Int × Unit) × ((Int × Unit) × Unit))))) : Option (Unit × ((Bool × Unit) × Unit)) :=
  let x3 : Bool := (decide (d.2.2.2.2.1.1 < d.2.2.2.1.1))
  bif x3 then (
  bif decide ((0 : Int) ≤ d.2.2.2.2.1.1) && decide (d.2.2.2.2.1.1 < (d.1.2.1.length : Int)) then (
  (g_ref30_Code ((), (((gd .str d.1.2.1 d.2.2.2.2.1.1), ()), ()))).bind fun x4 =>
  let x5 : Bool := ((x4.2.1.1 == d.1.1.1) && ((x4.2.1.2.1 == d.1.1.2.1) && ((x4.2.1.2.2.1 == d.1.1.2.2.1) && ((x4.2.1.2.2.2.1 == d.1.1.2.2.2.1) && true))))
  bif x5 then (
  some ((), ((true, ()), ())))
  else (
  let x6 : Int := (iadd .i64 d.2.2.2.2.1.1 (1 : Int))
  (T.1 (d.1, ((), ((), (d.2.2.2.1, ((x6, ()), ()))))))))
  else none)
  else (
  some ((), ((false, ()), ())))
def f_ref30_Refuses_t : Nat → TT_ref30_Refuses
  | 0 => (fun _ => none, ())
  | k + 1 => (f_ref30_Refuses_p3 (f_ref30_Refuses_t k), ())
theorem t_ref30_Refuses (k : Nat) : f_ref30_Refuses_t (k + 1) = (f_ref30_Refuses_p3 (f_ref30_Refuses_t k), ()) := rfl
def f_ref30_Refuses_m (T : TT_ref30_Refuses) (d : Unit × ((Int × (Int × (Int × (Int × Unit)))) × Unit)) : Option (Unit × ((Bool × Unit) × Unit)) :=
  let x1 : (List ByteArray) := ([(⟨#[65, 67, 83, 84]⟩ : ByteArray), (⟨#[65, 85, 84, 72]⟩ : ByteArray), (⟨#[65, 85, 84, 79]⟩ : ByteArray), (⟨#[66, 67, 83, 84]⟩ : ByteArray), (⟨#[67, 82, 89, 80]⟩ : ByteArray), (⟨#[68, 69, 78, 89]⟩ : ByteArray), (⟨#[68, 82, 79, 80]⟩ : ByteArray), (⟨#[82, 83, 84, 82]⟩ : ByteArray), (⟨#[73, 78, 73, 84]⟩ : ByteArray), (⟨#[77, 67, 83, 84]⟩ : ByteArray), (⟨#[78, 75, 69, 89]⟩ : ByteArray), (⟨#[82, 65, 84, 69]⟩ : ByteArray), (⟨#[82, 77, 79, 84]⟩ : ByteArray), (⟨#[83, 84, 69, 80]⟩ : ByteArray)] : List ByteArray)
  let x2 : Int := (x1.length : Int)
  (T.1 ((d.2.1, (x1, ())), ((), ((), ((x2, ()), (((0 : Int), ()), ()))))))
def c_ref30_Refuses : List Nat := []
def L_ref30_Refuses (k : Nat) : Pts po_ref30_Refuses.den := [(3, ⟨sh_ref30_Refuses_3, (f_ref30_Refuses_t k).1⟩)]
def R_ref30_Refuses (_ : Nat) : PtsR po_ref30_Refuses.den := []
def E_ref30_Refuses : Env := (E0.add 36 (typedSem pi_ref30_Code po_ref30_Code g_ref30_Code))
theorem q_ref30_Refuses_3 (k : Nat) (d : sh_ref30_Refuses_3.den) : evAt E_ref30_Refuses (tb (L_ref30_Refuses k) (R_ref30_Refuses k)) c_ref30_Refuses 3 (bodyOf Tryz.f16) 0 (finK E_ref30_Refuses po_ref30_Refuses [.tmp 2]) (ptSt sh_ref30_Refuses_3 d) = f_ref30_Refuses_p3 (f_ref30_Refuses_t k) d := by kernel_rfl
theorem q_ref30_Refuses_m (k : Nat) (d : pi_ref30_Refuses.den) : evCode E_ref30_Refuses (tb (L_ref30_Refuses k) (R_ref30_Refuses k)) c_ref30_Refuses (bodyOf Tryz.f16) 0 (finK E_ref30_Refuses po_ref30_Refuses [.tmp 2]) (startSt pi_ref30_Refuses 22 d) = f_ref30_Refuses_m (f_ref30_Refuses_t k) d := by kernel_rfl
def g_ref30_Refuses (d : Unit × ((Int × (Int × (Int × (Int × Unit)))) × Unit)) : Option (Unit × ((Bool × Unit) × Unit)) := lim fun k => f_ref30_Refuses_m (f_ref30_Refuses_t k) d
theorem ok_ref30_Refuses : FnOk Tryz.prog ET0 16 pi_ref30_Refuses po_ref30_Refuses g_ref30_Refuses :=
  fn_of_body (E := E_ref30_Refuses) (envOk_add e0_ok (typed_ok ok_ref30_Code)) (fn := Tryz.f16) Tryz.func16 (by kernel_rfl) (by kernel_rfl) [.tmp 2] (by kernel_rfl) (by kernel_rfl) (by decide) rfl c_ref30_Refuses L_ref30_Refuses R_ref30_Refuses
    (by intro x hx d; simp only [L_ref30_Refuses, List.mem_cons, List.not_mem_nil, or_false] at hx; subst hx; rfl)
    (by intro k x hx d out h; simp only [L_ref30_Refuses, List.mem_cons, List.not_mem_nil, or_false] at hx; subst hx; exact (q_ref30_Refuses_3 k d).trans h)
    (by intro x hx; cases hx)
    (by intro k x hx; cases hx)
    (by intro d out h; obtain ⟨k, hk⟩ := lim_some h; exact ⟨k, (q_ref30_Refuses_m k d).trans hk⟩)

@[reducible] def pi_ref30_Name : PSh := ⟨[], [.mk true [v8, v8, v8, v8]]⟩
@[reducible] def po_ref30_Name : PSh := ⟨[], [.mk false [vS], .mk false [vB]]⟩
@[reducible] def TT_ref30_Name : Type := (((Unit × (((Option (Int × (Int × (Int × Int)))) × Unit) × ((Int × Unit) × Unit))) → Option (Unit × ((ByteArray × Unit) × ((Bool × Unit) × Unit)))) × Unit)
@[reducible] def sh_ref30_Name_3 : PSh := ⟨[], [.any, .mk false [.v (.nptr (.pair (.int .u8) (.pair (.int .u8) (.pair (.int .u8) (.int .u8)))))], .any, .any, .mk false [vI], .any, .any, .any, .any, .any, .any, .any, .any, .any, .any, .any, .any, .any, .any, .any, .any, .any, .any, .any, .any, .any, .any, .any]⟩
def f_ref30_Name_p3 (T : TT_ref30_Name) (d : Unit × (((Option (Int × (Int × (Int × Int)))) × Unit) × ((Int × Unit) × Unit))) : Option (Unit × ((ByteArray × Unit) × ((Bool × Unit) × Unit))) :=
  let x1 : Bool := (decide (d.2.2.1.1 ≤ (4 : Int)))
  bif x1 then (
  d.2.1.1.bind fun x2 =>
  bif decide ((0 : Int) ≤ (0 : Int)) && decide ((0 : Int) ≤ d.2.2.1.1) && decide (d.2.2.1.1 ≤ (4 : Int)) then (
  let x3 : (List Int) := (List.drop (Int.toNat (0 : Int)) (List.take (Int.toNat d.2.2.1.1) ([x2.1, x2.2.1, x2.2.2.1, x2.2.2.2] : List Int)))
  let x4 : ByteArray := (strOf x3)
  (g_ref30_Code ((), ((x4, ()), ()))).bind fun x5 =>
  let x6 : Bool := (x5.2.2.1.1 == (0 : Int))
  bif x6 then (
  d.2.1.1.bind fun x7 =>
  let x8 : Bool := ((x5.2.1.1 == x7.1) && ((x5.2.1.2.1 == x7.2.1) && ((x5.2.1.2.2.1 == x7.2.2.1) && ((x5.2.1.2.2.2.1 == x7.2.2.2) && true))))
  bif x8 then (
  some ((), ((x4, ()), ((true, ()), ()))))
  else (
  let x9 : Int := (iadd .i64 d.2.2.1.1 (1 : Int))
  (T.1 ((), (d.2.1, ((x9, ()), ()))))))
  else (
  let x10 : Int := (iadd .i64 d.2.2.1.1 (1 : Int))
  (T.1 ((), (d.2.1, ((x10, ()), ()))))))
  else none)
  else (
  some ((), (((⟨#[]⟩ : ByteArray), ()), ((false, ()), ()))))
def f_ref30_Name_t : Nat → TT_ref30_Name
  | 0 => (fun _ => none, ())
  | k + 1 => (f_ref30_Name_p3 (f_ref30_Name_t k), ())
theorem t_ref30_Name (k : Nat) : f_ref30_Name_t (k + 1) = (f_ref30_Name_p3 (f_ref30_Name_t k), ()) := rfl
def f_ref30_Name_m (T : TT_ref30_Name) (d : Unit × ((Int × (Int × (Int × (Int × Unit)))) × Unit)) : Option (Unit × ((ByteArray × Unit) × ((Bool × Unit) × Unit))) :=
  (T.1 ((), (((some (d.2.1.1, (d.2.1.2.1, (d.2.1.2.2.1, d.2.1.2.2.2.1)))), ()), (((1 : Int), ()), ()))))
def c_ref30_Name : List Nat := []
def L_ref30_Name (k : Nat) : Pts po_ref30_Name.den := [(3, ⟨sh_ref30_Name_3, (f_ref30_Name_t k).1⟩)]
def R_ref30_Name (_ : Nat) : PtsR po_ref30_Name.den := []
def E_ref30_Name : Env := ((E0.add 36 (typedSem pi_ref30_Code po_ref30_Code g_ref30_Code)).fr [(13, [1])])
theorem q_ref30_Name_3 (k : Nat) (d : sh_ref30_Name_3.den) : evAt E_ref30_Name (tb (L_ref30_Name k) (R_ref30_Name k)) c_ref30_Name 3 (bodyOf Tryz.f17) 0 (finK E_ref30_Name po_ref30_Name [.tmp 2, .tmp 3]) (ptSt sh_ref30_Name_3 d) = f_ref30_Name_p3 (f_ref30_Name_t k) d := by kernel_rfl
theorem q_ref30_Name_m (k : Nat) (d : pi_ref30_Name.den) : evCode E_ref30_Name (tb (L_ref30_Name k) (R_ref30_Name k)) c_ref30_Name (bodyOf Tryz.f17) 0 (finK E_ref30_Name po_ref30_Name [.tmp 2, .tmp 3]) (startSt pi_ref30_Name 28 d) = f_ref30_Name_m (f_ref30_Name_t k) d := by kernel_rfl
def g_ref30_Name (d : Unit × ((Int × (Int × (Int × (Int × Unit)))) × Unit)) : Option (Unit × ((ByteArray × Unit) × ((Bool × Unit) × Unit))) := lim fun k => f_ref30_Name_m (f_ref30_Name_t k) d
theorem ok_ref30_Name : FnOk Tryz.prog ET0 17 pi_ref30_Name po_ref30_Name g_ref30_Name :=
  fn_of_body (E := E_ref30_Name) (envOk_fr (envOk_add e0_ok (typed_ok ok_ref30_Code))) (fn := Tryz.f17) Tryz.func17 (by kernel_rfl) (by kernel_rfl) [.tmp 2, .tmp 3] (by kernel_rfl) (by kernel_rfl) (by decide) rfl c_ref30_Name L_ref30_Name R_ref30_Name
    (by intro x hx d; simp only [L_ref30_Name, List.mem_cons, List.not_mem_nil, or_false] at hx; subst hx; rfl)
    (by intro k x hx d out h; simp only [L_ref30_Name, List.mem_cons, List.not_mem_nil, or_false] at hx; subst hx; exact (q_ref30_Name_3 k d).trans h)
    (by intro x hx; cases hx)
    (by intro k x hx; cases hx)
    (by intro d out h; obtain ⟨k, hk⟩ := lim_some h; exact ⟨k, (q_ref30_Name_m k d).trans hk⟩)

@[reducible] def pi_ref37_Told : PSh := ⟨[], [.mk false [.v (.sl (.int .u8))]]⟩
@[reducible] def po_ref37_Told : PSh := ⟨[], [.mk false [vS], .mk false [vB]]⟩
def f_ref37_Told_m (T : Unit) (d : Unit × (((List Int) × Unit) × Unit)) : Option (Unit × ((ByteArray × Unit) × ((Bool × Unit) × Unit))) :=
  let x1 : Int := (d.2.1.1.length : Int)
  let x2 : Bool := (decide (x1 < (48 : Int)))
  bif x2 then (
  some ((), (((⟨#[]⟩ : ByteArray), ()), ((false, ()), ()))))
  else (
  bif decide ((0 : Int) ≤ (1 : Int)) && decide ((1 : Int) < (d.2.1.1.length : Int)) then (
  let x3 : Bool := ((gd (.int .u8) d.2.1.1 (1 : Int)) != (0 : Int))
  bif x3 then (
  some ((), (((⟨#[]⟩ : ByteArray), ()), ((false, ()), ()))))
  else (
  bif decide ((0 : Int) ≤ (12 : Int)) && decide ((12 : Int) < (d.2.1.1.length : Int)) then (
  bif decide ((0 : Int) ≤ (13 : Int)) && decide ((13 : Int) < (d.2.1.1.length : Int)) then (
  bif decide ((0 : Int) ≤ (14 : Int)) && decide ((14 : Int) < (d.2.1.1.length : Int)) then (
  bif decide ((0 : Int) ≤ (15 : Int)) && decide ((15 : Int) < (d.2.1.1.length : Int)) then (
  (g_ref30_Refuses ((), (((gd (.int .u8) d.2.1.1 (12 : Int)), ((gd (.int .u8) d.2.1.1 (13 : Int)), ((gd (.int .u8) d.2.1.1 (14 : Int)), ((gd (.int .u8) d.2.1.1 (15 : Int)), ())))), ()))).bind fun x4 =>
  let x5 : Bool := (!x4.2.1.1)
  bif x5 then (
  some ((), (((⟨#[]⟩ : ByteArray), ()), ((false, ()), ()))))
  else (
  bif decide ((0 : Int) ≤ (12 : Int)) && decide ((12 : Int) < (d.2.1.1.length : Int)) then (
  bif decide ((0 : Int) ≤ (13 : Int)) && decide ((13 : Int) < (d.2.1.1.length : Int)) then (
  bif decide ((0 : Int) ≤ (14 : Int)) && decide ((14 : Int) < (d.2.1.1.length : Int)) then (
  bif decide ((0 : Int) ≤ (15 : Int)) && decide ((15 : Int) < (d.2.1.1.length : Int)) then (
  (g_ref30_Name ((), (((gd (.int .u8) d.2.1.1 (12 : Int)), ((gd (.int .u8) d.2.1.1 (13 : Int)), ((gd (.int .u8) d.2.1.1 (14 : Int)), ((gd (.int .u8) d.2.1.1 (15 : Int)), ())))), ()))).bind fun x6 =>
  some ((), x6.2))
  else none)
  else none)
  else none)
  else none))
  else none)
  else none)
  else none)
  else none))
  else none)
def g_ref37_Told (d : Unit × (((List Int) × Unit) × Unit)) : Option (Unit × ((ByteArray × Unit) × ((Bool × Unit) × Unit))) := f_ref37_Told_m () d
theorem ok_ref37_Told : FnOk Tryz.prog ET0 7 pi_ref37_Told po_ref37_Told g_ref37_Told :=
  fn0 (E := ((E0.add 16 (typedSem pi_ref30_Refuses po_ref30_Refuses g_ref30_Refuses)).add 17 (typedSem pi_ref30_Name po_ref30_Name g_ref30_Name))) (envOk_add (envOk_add e0_ok (typed_ok ok_ref30_Refuses)) (typed_ok ok_ref30_Name)) (fn := Tryz.f7) Tryz.func7 (by kernel_rfl) (by kernel_rfl) [.tmp 2, .tmp 3] (by kernel_rfl) rfl rfl rfl [] fun d => by kernel_rfl

@[reducible] def pi_hnum_Num : PSh := ⟨[], [.mk false [vE]]⟩
@[reducible] def po_hnum_Num : PSh := ⟨[], [.mk false [vI]]⟩
def f_hnum_Num_m (T : Unit) (d : Unit × (((Option Int) × Unit) × Unit)) : Option (Unit × ((Int × Unit) × Unit)) :=
  bif d.2.1.1.isNone then (
  some ((), (((0 : Int), ()), ())))
  else (
  bif d.2.1.1.isSome then (
  let x1 : Bool := ((d.2.1.1.getD 0) != (0 : Int))
  bif x1 then (
  some ((), (((d.2.1.1.getD 0), ()), ())))
  else (
  some ((), (((-1 : Int), ()), ()))))
  else (
  some ((), (((-1 : Int), ()), ()))))
def g_hnum_Num (d : Unit × (((Option Int) × Unit) × Unit)) : Option (Unit × ((Int × Unit) × Unit)) := f_hnum_Num_m () d
theorem ok_hnum_Num : FnOk Tryz.prog ET0 8 pi_hnum_Num po_hnum_Num g_hnum_Num :=
  fn0 (E := E0) e0_ok (fn := Tryz.f8) Tryz.func8 (by kernel_rfl) (by kernel_rfl) [.tmp 2] (by kernel_rfl) rfl rfl rfl [] fun d => by kernel_rfl

@[reducible] def pi_answer_Match : PSh := ⟨[], [.mk false [.v (.sl (.int .u8))], .mk false [.v (.sl (.int .u8))]]⟩
@[reducible] def po_answer_Match : PSh := ⟨[], [.mk false [vE]]⟩
def f_answer_Match_m (T : Unit) (d : Unit × (((List Int) × Unit) × (((List Int) × Unit) × Unit))) : Option (Unit × (((Option Int) × Unit) × Unit)) :=
  (g_answer_Ask ((), (d.2.1, ()))).bind fun x1 =>
  let x2 : Bool := (!x1.2.2.1.1.isNone)
  bif x2 then (
  some ((), x1.2.2))
  else (
  (g_head_Parse ((), d.2.2)).bind fun x3 =>
  let x4 : Bool := (!x3.2.2.1.1.isNone)
  bif x4 then (
  some ((), x3.2.2))
  else (
  (g_answer_Mode ((), ((x1.2.1.2.1, ()), ((x1.2.1.2.2.1, ()), ())))).bind fun x5 =>
  let x6 : Bool := (x3.2.1.2.1 != x1.2.1.2.1)
  bif x6 then (
  let x7 : (Option Int) := (some (14 : Int))
  some ((), ((x7, ()), ())))
  else (
  let x8 : Bool := (x3.2.1.2.2.1 != x5.2.1.1)
  bif x8 then (
  let x9 : (Option Int) := (some (14 : Int))
  some ((), ((x9, ()), ())))
  else (
  let x10 : Bool := (!((x3.2.1.2.2.2.2.2.2.2.2.2.2.2.2.2.2.2.2.1 == x1.2.1.2.2.2.2.2.2.2.2.2.2.2.2.2.2.2.2.2.2.2.2.1) && ((x3.2.1.2.2.2.2.2.2.2.2.2.2.2.2.2.2.2.2.2.1 == x1.2.1.2.2.2.2.2.2.2.2.2.2.2.2.2.2.2.2.2.2.2.2.2.1) && true)))
  bif x10 then (
  let x11 : (Option Int) := (some (14 : Int))
  some ((), ((x11, ()), ())))
  else (
  some ((), (((none : Option Int), ()), ())))))))
def g_answer_Match (d : Unit × (((List Int) × Unit) × (((List Int) × Unit) × Unit))) : Option (Unit × (((Option Int) × Unit) × Unit)) := f_answer_Match_m () d
theorem ok_answer_Match : FnOk Tryz.prog ET0 9 pi_answer_Match po_answer_Match g_answer_Match :=
  fn0 (E := (((E0.add 13 (typedSem pi_head_Parse po_head_Parse g_head_Parse)).add 18 (typedSem pi_answer_Ask po_answer_Ask g_answer_Ask)).add 19 (typedSem pi_answer_Mode po_answer_Mode g_answer_Mode))) (envOk_add (envOk_add (envOk_add e0_ok (typed_ok ok_head_Parse)) (typed_ok ok_answer_Ask)) (typed_ok ok_answer_Mode)) (fn := Tryz.f9) Tryz.func9 (by kernel_rfl) (by kernel_rfl) [.tmp 4] (by kernel_rfl) rfl rfl rfl [] fun d => by kernel_rfl

@[reducible] def pi_ref37_Mode : PSh := ⟨[], [.mk false [vI], .mk false [vI]]⟩
@[reducible] def po_ref37_Mode : PSh := ⟨[], [.mk false [vI], .mk false [vB]]⟩
def f_ref37_Mode_m (T : Unit) (d : Unit × ((Int × Unit) × ((Int × Unit) × Unit))) : Option (Unit × ((Int × Unit) × ((Bool × Unit) × Unit))) :=
  let x1 : Bool := (decide (d.2.1.1 < (1 : Int)))
  bif x1 then (
  some ((), (((0 : Int), ()), ((false, ()), ()))))
  else (
  let x2 : Bool := (decide (d.2.1.1 > (4 : Int)))
  bif x2 then (
  some ((), (((0 : Int), ()), ((false, ()), ()))))
  else (
  let x3 : Bool := (d.2.2.1.1 == (1 : Int))
  bif x3 then (
  some ((), (((2 : Int), ()), ((true, ()), ()))))
  else (
  let x4 : Bool := (d.2.2.1.1 == (3 : Int))
  bif x4 then (
  some ((), (((4 : Int), ()), ((true, ()), ()))))
  else (
  let x5 : Bool := (d.2.2.1.1 == (0 : Int))
  bif x5 then (
  let x6 : Bool := (d.2.1.1 == (1 : Int))
  bif x6 then (
  some ((), (((4 : Int), ()), ((true, ()), ()))))
  else (
  some ((), (((0 : Int), ()), ((false, ()), ())))))
  else (
  some ((), (((0 : Int), ()), ((false, ()), ()))))))))
def g_ref37_Mode (d : Unit × ((Int × Unit) × ((Int × Unit) × Unit))) : Option (Unit × ((Int × Unit) × ((Bool × Unit) × Unit))) := f_ref37_Mode_m () d
theorem ok_ref37_Mode : FnOk Tryz.prog ET0 21 pi_ref37_Mode po_ref37_Mode g_ref37_Mode :=
  fn0 (E := E0) e0_ok (fn := Tryz.f21) Tryz.func21 (by kernel_rfl) (by kernel_rfl) [.tmp 4, .tmp 5] (by kernel_rfl) rfl rfl rfl [] fun d => by kernel_rfl

@[reducible] def pi_ref03_Value : PSh := ⟨[], [.mk false [.v (.sl (.int .u8))]]⟩
@[reducible] def po_ref03_Value : PSh := ⟨[], [.mk false [.v (.int .u64)]]⟩
@[reducible] def TT_ref03_Value : Type := (((Unit × (((List Int) × Unit) × ((Int × Unit) × ((Int × Unit) × Unit)))) → Option (Unit × ((Int × Unit) × Unit))) × Unit)
@[reducible] def sh_ref03_Value_4 : PSh := ⟨[], [.mk false [.v (.sl (.int .u8))], .any, .any, .mk false [.v (.int .u64)], .mk false [vI], .any, .any, .any, .any, .any, .any, .any, .any, .any, .any, .any, .any, .any, .any, .any]⟩
def f_ref03_Value_p4 (T : TT_ref03_Value) (d : Unit × (((List Int) × Unit) × ((Int × Unit) × ((Int × Unit) × Unit)))) : Option (Unit × ((Int × Unit) × Unit)) :=
  let x1 : Int := (d.2.1.1.length : Int)
  let x2 : Bool := (decide (d.2.2.2.1.1 < x1))
  bif x2 then (
  let x3 : Int := (imul .u64 d.2.2.1.1 (256 : Int))
  bif decide ((0 : Int) ≤ d.2.2.2.1.1) && decide (d.2.2.2.1.1 < (d.2.1.1.length : Int)) then (
  let x4 : Int := (iconv .u64 (gd (.int .u8) d.2.1.1 d.2.2.2.1.1))
  let x5 : Int := (iadd .u64 x3 x4)
  let x6 : Int := (iadd .i64 d.2.2.2.1.1 (1 : Int))
  (T.1 ((), (d.2.1, ((x5, ()), ((x6, ()), ()))))))
  else none)
  else (
  some ((), (d.2.2.1, ())))
def f_ref03_Value_t : Nat → TT_ref03_Value
  | 0 => (fun _ => none, ())
  | k + 1 => (f_ref03_Value_p4 (f_ref03_Value_t k), ())
theorem t_ref03_Value (k : Nat) : f_ref03_Value_t (k + 1) = (f_ref03_Value_p4 (f_ref03_Value_t k), ()) := rfl
def f_ref03_Value_m (T : TT_ref03_Value) (d : Unit × (((List Int) × Unit) × Unit)) : Option (Unit × ((Int × Unit) × Unit)) :=
  (T.1 ((), (d.2.1, (((0 : Int), ()), (((0 : Int), ()), ())))))
def c_ref03_Value : List Nat := []
def L_ref03_Value (k : Nat) : Pts po_ref03_Value.den := [(4, ⟨sh_ref03_Value_4, (f_ref03_Value_t k).1⟩)]
def R_ref03_Value (_ : Nat) : PtsR po_ref03_Value.den := []
def E_ref03_Value : Env := E0
theorem q_ref03_Value_4 (k : Nat) (d : sh_ref03_Value_4.den) : evAt E_ref03_Value (tb (L_ref03_Value k) (R_ref03_Value k)) c_ref03_Value 4 (bodyOf Tryz.f63) 0 (finK E_ref03_Value po_ref03_Value [.tmp 2]) (ptSt sh_ref03_Value_4 d) = f_ref03_Value_p4 (f_ref03_Value_t k) d := by kernel_rfl
theorem q_ref03_Value_m (k : Nat) (d : pi_ref03_Value.den) : evCode E_ref03_Value (tb (L_ref03_Value k) (R_ref03_Value k)) c_ref03_Value (bodyOf Tryz.f63) 0 (finK E_ref03_Value po_ref03_Value [.tmp 2]) (startSt pi_ref03_Value 20 d) = f_ref03_Value_m (f_ref03_Value_t k) d := by kernel_rfl
def g_ref03_Value (d : Unit × (((List Int) × Unit) × Unit)) : Option (Unit × ((Int × Unit) × Unit)) := lim fun k => f_ref03_Value_m (f_ref03_Value_t k) d
theorem ok_ref03_Value : FnOk Tryz.prog ET0 63 pi_ref03_Value po_ref03_Value g_ref03_Value :=
  fn_of_body (E := E_ref03_Value) e0_ok (fn := Tryz.f63) Tryz.func63 (by kernel_rfl) (by kernel_rfl) [.tmp 2] (by kernel_rfl) (by kernel_rfl) (by decide) rfl c_ref03_Value L_ref03_Value R_ref03_Value
    (by intro x hx d; simp only [L_ref03_Value, List.mem_cons, List.not_mem_nil, or_false] at hx; subst hx; rfl)
    (by intro k x hx d out h; simp only [L_ref03_Value, List.mem_cons, List.not_mem_nil, or_false] at hx; subst hx; exact (q_ref03_Value_4 k d).trans h)
    (by intro x hx; cases hx)
    (by intro k x hx; cases hx)
    (by intro d out h; obtain ⟨k, hk⟩ := lim_some h; exact ⟨k, (q_ref03_Value_m k d).trans hk⟩)

@[reducible] def pi_ref29_seal : PSh := ⟨[], [.mk false [vI], .mk false [vI]]⟩
@[reducible] def po_ref29_seal : PSh := ⟨[], [.mk false [vB]]⟩
@[reducible] def TT_ref29_seal : Type := (((((List Int) × Unit) × ((Int × Unit) × (Unit × ((Int × Unit) × Unit)))) → Option (Unit × ((Bool × Unit) × Unit))) × Unit)
@[reducible] def sh_ref29_seal_8 : PSh := ⟨[.row 3 (.int .i64)], [.any, .mk false [vI], .any, .any, .any, .mk false [.osl 0], .mk false [vI], .any, .any, .any, .any, .any, .any, .any, .any, .any, .any, .any, .any, .any, .any, .any, .any, .any, .any, .any]⟩
def f_ref29_seal_p8 (T : TT_ref29_seal) (d : ((List Int) × Unit) × ((Int × Unit) × (Unit × ((Int × Unit) × Unit)))) : Option (Unit × ((Bool × Unit) × Unit)) :=
  let x8 : Int := (d.1.1.length : Int)
  let x9 : Bool := (decide (d.2.2.2.1.1 < x8))
  bif x9 then (
  bif decide ((0 : Int) ≤ d.2.2.2.1.1) && decide (d.2.2.2.1.1 < (d.1.1.length : Int)) then (
  let x10 : Bool := ((gd (.int .i64) d.1.1 d.2.2.2.1.1) == d.2.1.1)
  bif x10 then (
  some ((), ((true, ()), ())))
  else (
  let x11 : Int := (iadd .i64 d.2.2.2.1.1 (1 : Int))
  (T.1 (d.1, (d.2.1, ((), ((x11, ()), ())))))))
  else none)
  else (
  some ((), ((false, ()), ())))
def f_ref29_seal_t : Nat → TT_ref29_seal
  | 0 => (fun _ => none, ())
  | k + 1 => (f_ref29_seal_p8 (f_ref29_seal_t k), ())
theorem t_ref29_seal (k : Nat) : f_ref29_seal_t (k + 1) = (f_ref29_seal_p8 (f_ref29_seal_t k), ()) := rfl
def f_ref29_seal_m (T : TT_ref29_seal) (d : Unit × ((Int × Unit) × ((Int × Unit) × Unit))) : Option (Unit × ((Bool × Unit) × Unit)) :=
  let x1 : (List Int) := ([(0 : Int), (4 : Int), (20 : Int), (24 : Int)] : List Int)
  let x2 : Bool := (decide (d.2.1.1 ≤ (2 : Int)))
  bif x2 then (
  let x3 : (List Int) := ([(0 : Int), (12 : Int)] : List Int)
  let x4 : Bool := (d.2.1.1 == (3 : Int))
  bif x4 then (
  let x5 : (List Int) := ([(0 : Int), (12 : Int), (20 : Int), (24 : Int)] : List Int)
  (T.1 ((x5, ()), (d.2.2.1, ((), (((0 : Int), ()), ()))))))
  else (
  (T.1 ((x3, ()), (d.2.2.1, ((), (((0 : Int), ()), ())))))))
  else (
  let x6 : Bool := (d.2.1.1 == (3 : Int))
  bif x6 then (
  let x7 : (List Int) := ([(0 : Int), (12 : Int), (20 : Int), (24 : Int)] : List Int)
  (T.1 ((x7, ()), (d.2.2.1, ((), (((0 : Int), ()), ()))))))
  else (
  (T.1 ((x1, ()), (d.2.2.1, ((), (((0 : Int), ()), ())))))))
def c_ref29_seal : List Nat := []
def L_ref29_seal (k : Nat) : Pts po_ref29_seal.den := [(8, ⟨sh_ref29_seal_8, (f_ref29_seal_t k).1⟩)]
def R_ref29_seal (_ : Nat) : PtsR po_ref29_seal.den := []
def E_ref29_seal : Env := E0
theorem q_ref29_seal_8 (k : Nat) (d : sh_ref29_seal_8.den) : evAt E_ref29_seal (tb (L_ref29_seal k) (R_ref29_seal k)) c_ref29_seal 8 (bodyOf Tryz.f64) 0 (finK E_ref29_seal po_ref29_seal [.tmp 4]) (ptSt sh_ref29_seal_8 d) = f_ref29_seal_p8 (f_ref29_seal_t k) d := by kernel_rfl
theorem q_ref29_seal_m (k : Nat) (d : pi_ref29_seal.den) : evCode E_ref29_seal (tb (L_ref29_seal k) (R_ref29_seal k)) c_ref29_seal (bodyOf Tryz.f64) 0 (finK E_ref29_seal po_ref29_seal [.tmp 4]) (startSt pi_ref29_seal 26 d) = f_ref29_seal_m (f_ref29_seal_t k) d := by kernel_rfl
def g_ref29_seal (d : Unit × ((Int × Unit) × ((Int × Unit) × Unit))) : Option (Unit × ((Bool × Unit) × Unit)) := lim fun k => f_ref29_seal_m (f_ref29_seal_t k) d
theorem ok_ref29_seal : FnOk Tryz.prog ET0 64 pi_ref29_seal po_ref29_seal g_ref29_seal :=
  fn_of_body (E := E_ref29_seal) e0_ok (fn := Tryz.f64) Tryz.func64 (by kernel_rfl) (by kernel_rfl) [.tmp 4] (by kernel_rfl) (by kernel_rfl) (by decide) rfl c_ref29_seal L_ref29_seal R_ref29_seal
    (by intro x hx d; simp only [L_ref29_seal, List.mem_cons, List.not_mem_nil, or_false] at hx; subst hx; rfl)
    (by intro k x hx d out h; simp only [L_ref29_seal, List.mem_cons, List.not_mem_nil, or_false] at hx; subst hx; exact (q_ref29_seal_8 k d).trans h)
    (by intro x hx; cases hx)
    (by intro k x hx; cases hx)
    (by intro d out h; obtain ⟨k, hk⟩ := lim_some h; exact ⟨k, (q_ref29_seal_m k d).trans hk⟩)

@[reducible] def pi_ref29_Walk : PSh := ⟨[], [.mk false [vI], .mk false [.v (.sl (.int .u8))]]⟩
@[reducible] def po_ref29_Walk : PSh := ⟨[.row 133 (.pair (.int .u16) (.sl (.int .u8)))], [.mk true [.osl 0, .v (.sl (.int .u8))], .mk false [vI]]⟩
@[reducible] def TT_ref29_Walk : Type := ((((Unit × ((List (Int × (List Int))) × ((List Int) × (Unit × ((List (Int × (List Int))) × ((List Int) × Unit)))))) × ((Int × Unit) × (((List Int) × Unit) × (Unit × (Unit × ((Int × Unit) × Unit)))))) → Option (((List (Int × (List Int))) × Unit) × (((List Int) × Unit) × ((Int × Unit) × Unit)))) × Unit)
@[reducible] def sh_ref29_Walk_11 : PSh := ⟨[.var 94 [.osl 1, .osl 2], .row 133 (.pair (.int .u16) (.sl (.int .u8))), .row 5 (.int .u8), .var 94 [.osl 4, .osl 5], .row 133 (.pair (.int .u16) (.sl (.int .u8))), .row 5 (.int .u8)], [.mk false [vI], .mk false [.v (.sl (.int .u8))], .any, .any, .mk false [.ref 0 0], .any, .mk false [.ref 3 0], .mk false [vI], .any, .any, .any, .any, .any, .any, .any, .any, .any, .any, .any, .any, .any, .any, .any, .any, .any, .any, .any, .any, .any, .any, .any, .any, .any, .any, .any, .any, .any, .any, .any, .any, .any, .any, .any, .any, .any, .any, .any, .any, .any, .any, .any, .any, .any, .any, .any, .any, .any, .any, .any, .any, .any, .any, .any, .any, .any, .any, .any, .any, .any, .any, .any, .any, .any, .any, .any, .any, .any, .any, .any, .any, .any, .any, .any, .any, .any, .any, .any, .any]⟩
def f_ref29_Walk_p11 (T : TT_ref29_Walk) (d : (Unit × ((List (Int × (List Int))) × ((List Int) × (Unit × ((List (Int × (List Int))) × ((List Int) × Unit)))))) × ((Int × Unit) × (((List Int) × Unit) × (Unit × (Unit × ((Int × Unit) × Unit)))))) : Option (((List (Int × (List Int))) × Unit) × (((List Int) × Unit) × ((Int × Unit) × Unit))) :=
  let x11 : Int := (d.2.2.1.1.length : Int)
  let x12 : Int := (isub .i64 x11 d.2.2.2.2.2.1.1)
  let x13 : Bool := (decide (x12 > (24 : Int)))
  bif x13 then (
  let x14 : Int := (iadd .i64 d.2.2.2.2.2.1.1 (2 : Int))
  let x15 : Int := (iadd .i64 d.2.2.2.2.2.1.1 (4 : Int))
  bif decide ((0 : Int) ≤ x14) && decide (x14 ≤ x15) && decide (x15 ≤ (d.2.2.1.1.length : Int)) then (
  let x16 : (List Int) := (List.drop (Int.toNat x14) (List.take (Int.toNat x15) d.2.2.1.1))
  (g_ref03_Value ((), ((x16, ()), ()))).bind fun x17 =>
  let x18 : Int := (iconv .i64 x17.2.1.1)
  let x19 : Bool := (decide (x18 < (16 : Int)))
  bif x19 then (
  some ((([] : List (Int × (List Int))), ()), ((([] : List Int), ()), (((2 : Int), ()), ()))))
  else (
  let x20 : Int := (Int.tmod x18 (4 : Int))
  let x21 : Bool := (x20 != (0 : Int))
  bif x21 then (
  some ((([] : List (Int × (List Int))), ()), ((([] : List Int), ()), (((2 : Int), ()), ()))))
  else (
  let x22 : Int := (iadd .i64 d.2.2.2.2.2.1.1 x18)
  let x23 : Int := (d.2.2.1.1.length : Int)
  let x24 : Bool := (decide (x22 > x23))
  bif x24 then (
  some ((([] : List (Int × (List Int))), ()), ((([] : List Int), ()), (((2 : Int), ()), ()))))
  else (
  let x25 : Int := (iadd .i64 d.2.2.2.2.2.1.1 (2 : Int))
  bif decide ((0 : Int) ≤ d.2.2.2.2.2.1.1) && decide (d.2.2.2.2.2.1.1 ≤ x25) && decide (x25 ≤ (d.2.2.1.1.length : Int)) then (
  let x26 : (List Int) := (List.drop (Int.toNat d.2.2.2.2.2.1.1) (List.take (Int.toNat x25) d.2.2.1.1))
  (g_ref03_Value ((), ((x26, ()), ()))).bind fun x27 =>
  let x28 : Int := (iconv .u16 x27.2.1.1)
  let x29 : Int := (iadd .i64 d.2.2.2.2.2.1.1 (4 : Int))
  let x30 : Int := (iadd .i64 d.2.2.2.2.2.1.1 x18)
  bif decide ((0 : Int) ≤ x29) && decide (x29 ≤ x30) && decide (x30 ≤ (d.2.2.1.1.length : Int)) then (
  let x31 : (List Int) := (List.drop (Int.toNat x29) (List.take (Int.toNat x30) d.2.2.1.1))
  let x32 : (List (Int × (List Int))) := ([(x28, x31)] : List (Int × (List Int)))
  bif decide (((d.1.2.2.2.2.1.length + x32.length) * 32 : Nat) ≤ 140737488355328) && decide (d.1.2.2.2.2.1.length + x32.length ≤ 9223372036854775807) then (
  let x33 : (List (Int × (List Int))) := (d.1.2.2.2.2.1 ++ x32)
  let x34 : Int := (iadd .i64 d.2.2.2.2.2.1.1 x18)
  (T.1 (((), (d.1.2.1, (d.1.2.2.1, ((), (x33, d.1.2.2.2.2.2))))), (d.2.1, (d.2.2.1, ((), ((), ((x34, ()), ()))))))))
  else none)
  else none)
  else none))))
  else none)
  else (
  let x35 : Int := (d.2.2.1.1.length : Int)
  let x36 : Int := (isub .i64 x35 d.2.2.2.2.2.1.1)
  (g_ref29_seal ((), (d.2.1, ((x36, ()), ())))).bind fun x37 =>
  let x38 : Bool := (!x37.2.1.1)
  bif x38 then (
  some ((([] : List (Int × (List Int))), ()), ((([] : List Int), ()), (((2 : Int), ()), ()))))
  else (
  bif decide ((0 : Int) ≤ d.2.2.2.2.2.1.1) && decide (d.2.2.2.2.2.1.1 ≤ (d.2.2.1.1.length : Int)) && decide ((d.2.2.1.1.length : Int) ≤ (d.2.2.1.1.length : Int)) then (
  let x39 : (List Int) := (List.drop (Int.toNat d.2.2.2.2.2.1.1) (List.take (Int.toNat (d.2.2.1.1.length : Int)) d.2.2.1.1))
  some ((d.1.2.2.2.2.1, ()), ((x39, ()), (((0 : Int), ()), ()))))
  else none))
def f_ref29_Walk_t : Nat → TT_ref29_Walk
  | 0 => (fun _ => none, ())
  | k + 1 => (f_ref29_Walk_p11 (f_ref29_Walk_t k), ())
theorem t_ref29_Walk (k : Nat) : f_ref29_Walk_t (k + 1) = (f_ref29_Walk_p11 (f_ref29_Walk_t k), ()) := rfl
def f_ref29_Walk_m (T : TT_ref29_Walk) (d : Unit × ((Int × Unit) × (((List Int) × Unit) × Unit))) : Option (((List (Int × (List Int))) × Unit) × (((List Int) × Unit) × ((Int × Unit) × Unit))) :=
  let x1 : Bool := (decide (d.2.1.1 < (1 : Int)))
  bif x1 then (
  some ((([] : List (Int × (List Int))), ()), ((([] : List Int), ()), (((11 : Int), ()), ()))))
  else (
  let x2 : Bool := (decide (d.2.1.1 > (4 : Int)))
  bif x2 then (
  some ((([] : List (Int × (List Int))), ()), ((([] : List Int), ()), (((11 : Int), ()), ()))))
  else (
  let x3 : Int := (d.2.2.1.1.length : Int)
  let x4 : Bool := (decide (x3 > (65487 : Int)))
  bif x4 then (
  some ((([] : List (Int × (List Int))), ()), ((([] : List Int), ()), (((3 : Int), ()), ()))))
  else (
  let x5 : Bool := (d.2.1.1 == (4 : Int))
  bif x5 then (
  (T.1 (((), (([] : List (Int × (List Int))), (([] : List Int), ((), (([] : List (Int × (List Int))), (([] : List Int), ())))))), (d.2.1, (d.2.2.1, ((), ((), (((0 : Int), ()), ()))))))))
  else (
  let x6 : Int := (d.2.2.1.1.length : Int)
  let x7 : Int := (isub .i64 x6 (0 : Int))
  (g_ref29_seal ((), (d.2.1, ((x7, ()), ())))).bind fun x8 =>
  let x9 : Bool := (!x8.2.1.1)
  bif x9 then (
  some ((([] : List (Int × (List Int))), ()), ((([] : List Int), ()), (((2 : Int), ()), ()))))
  else (
  bif decide ((0 : Int) ≤ (0 : Int)) && decide ((0 : Int) ≤ (d.2.2.1.1.length : Int)) && decide ((d.2.2.1.1.length : Int) ≤ (d.2.2.1.1.length : Int)) then (
  let x10 : (List Int) := (List.drop (Int.toNat (0 : Int)) (List.take (Int.toNat (d.2.2.1.1.length : Int)) d.2.2.1.1))
  some ((([] : List (Int × (List Int))), ()), ((x10, ()), (((0 : Int), ()), ()))))
  else none)))))
def c_ref29_Walk : List Nat := []
def L_ref29_Walk (k : Nat) : Pts po_ref29_Walk.den := [(11, ⟨sh_ref29_Walk_11, (f_ref29_Walk_t k).1⟩)]
def R_ref29_Walk (_ : Nat) : PtsR po_ref29_Walk.den := []
def E_ref29_Walk : Env := ((E0.add 63 (typedSem pi_ref03_Value po_ref03_Value g_ref03_Value)).add 64 (typedSem pi_ref29_seal po_ref29_seal g_ref29_seal))
theorem q_ref29_Walk_11 (k : Nat) (d : sh_ref29_Walk_11.den) : evAt E_ref29_Walk (tb (L_ref29_Walk k) (R_ref29_Walk k)) c_ref29_Walk 11 (bodyOf Tryz.f38) 0 (finK E_ref29_Walk po_ref29_Walk [.cell 4 94, .tmp 5]) (ptSt sh_ref29_Walk_11 d) = f_ref29_Walk_p11 (f_ref29_Walk_t k) d := by kernel_rfl
theorem q_ref29_Walk_m (k : Nat) (d : pi_ref29_Walk.den) : evCode E_ref29_Walk (tb (L_ref29_Walk k) (R_ref29_Walk k)) c_ref29_Walk (bodyOf Tryz.f38) 0 (finK E_ref29_Walk po_ref29_Walk [.cell 4 94, .tmp 5]) (startSt pi_ref29_Walk 88 d) = f_ref29_Walk_m (f_ref29_Walk_t k) d := by kernel_rfl
def g_ref29_Walk (d : Unit × ((Int × Unit) × (((List Int) × Unit) × Unit))) : Option (((List (Int × (List Int))) × Unit) × (((List Int) × Unit) × ((Int × Unit) × Unit))) := lim fun k => f_ref29_Walk_m (f_ref29_Walk_t k) d
theorem ok_ref29_Walk : FnOk Tryz.prog ET0 38 pi_ref29_Walk po_ref29_Walk g_ref29_Walk :=
  fn_of_body (E := E_ref29_Walk) (envOk_add (envOk_add e0_ok (typed_ok ok_ref03_Value)) (typed_ok ok_ref29_seal)) (fn := Tryz.f38) Tryz.func38 (by kernel_rfl) (by kernel_rfl) [.cell 4 94, .tmp 5] (by kernel_rfl) (by kernel_rfl) (by decide) rfl c_ref29_Walk L_ref29_Walk R_ref29_Walk
    (by intro x hx d; simp only [L_ref29_Walk, List.mem_cons, List.not_mem_nil, or_false] at hx; subst hx; rfl)
    (by intro k x hx d out h; simp only [L_ref29_Walk, List.mem_cons, List.not_mem_nil, or_false] at hx; subst hx; exact (q_ref29_Walk_11 k d).trans h)
    (by intro x hx; cases hx)
    (by intro k x hx; cases hx)
    (by intro d out h; obtain ⟨k, hk⟩ := lim_some h; exact ⟨k, (q_ref29_Walk_m k d).trans hk⟩)

@[reducible] def pi_ref37_Ask : PSh := ⟨[], [.mk false [.v (.sl (.int .u8))]]⟩
@[reducible] def po_ref37_Ask : PSh := ⟨[], [.mk false [vI]]⟩
def f_ref37_Ask_m (T : Unit) (d : Unit × (((List Int) × Unit) × Unit)) : Option (Unit × ((Int × Unit) × Unit)) :=
  let x1 : Int := (d.2.1.1.length : Int)
  let x2 : Bool := (decide (x1 > (65535 : Int)))
  bif x2 then (
  some ((), (((3 : Int), ()), ())))
  else (
  let x3 : Int := (d.2.1.1.length : Int)
  let x4 : Bool := (decide (x3 < (48 : Int)))
  bif x4 then (
  some ((), (((4 : Int), ()), ())))
  else (
  bif decide ((0 : Int) ≤ (0 : Int)) && decide ((0 : Int) < (d.2.1.1.length : Int)) then (
  let x5 : Int := (iconv .i64 (gd (.int .u8) d.2.1.1 (0 : Int)))
  let x6 : Int := (iquo .i64 x5 (8 : Int))
  let x7 : Int := (Int.tmod x6 (8 : Int))
  let x8 : Bool := (decide (x7 < (1 : Int)))
  bif x8 then (
  some ((), (((11 : Int), ()), ())))
  else (
  let x9 : Bool := (decide (x7 > (4 : Int)))
  bif x9 then (
  some ((), (((11 : Int), ()), ())))
  else (
  bif decide ((0 : Int) ≤ (0 : Int)) && decide ((0 : Int) < (d.2.1.1.length : Int)) then (
  let x10 : Int := (iconv .i64 (gd (.int .u8) d.2.1.1 (0 : Int)))
  let x11 : Int := (Int.tmod x10 (8 : Int))
  (g_ref37_Mode ((), ((x7, ()), ((x11, ()), ())))).bind fun x12 =>
  let x13 : Bool := (!x12.2.2.1.1)
  bif x13 then (
  some ((), (((14 : Int), ()), ())))
  else (
  bif decide ((48 : Int) ≤ (d.2.1.1.length : Int)) && decide ((d.2.1.1.length : Int) ≤ (d.2.1.1.length : Int)) then (
  let x14 : (List Int) := (List.drop (Int.toNat (48 : Int)) (List.take (Int.toNat (d.2.1.1.length : Int)) d.2.1.1))
  (g_ref29_Walk ((), ((x7, ()), ((x14, ()), ())))).bind fun x15 =>
  some ((), x15.2.2))
  else none))
  else none)))
  else none))
def g_ref37_Ask (d : Unit × (((List Int) × Unit) × Unit)) : Option (Unit × ((Int × Unit) × Unit)) := f_ref37_Ask_m () d
theorem ok_ref37_Ask : FnOk Tryz.prog ET0 20 pi_ref37_Ask po_ref37_Ask g_ref37_Ask :=
  fn0 (E := ((E0.add 21 (typedSem pi_ref37_Mode po_ref37_Mode g_ref37_Mode)).add 38 (typedSem pi_ref29_Walk po_ref29_Walk g_ref29_Walk))) (envOk_add (envOk_add e0_ok (typed_ok ok_ref37_Mode)) (typed_ok ok_ref29_Walk)) (fn := Tryz.f20) Tryz.func20 (by kernel_rfl) (by kernel_rfl) [.tmp 2] (by kernel_rfl) rfl rfl rfl [] fun d => by kernel_rfl

@[reducible] def pi_ref37_Match : PSh := ⟨[], [.mk false [.v (.sl (.int .u8))], .mk false [.v (.sl (.int .u8))]]⟩
@[reducible] def po_ref37_Match : PSh := ⟨[], [.mk false [vI]]⟩
def f_ref37_Match_m (T : Unit) (d : Unit × (((List Int) × Unit) × (((List Int) × Unit) × Unit))) : Option (Unit × ((Int × Unit) × Unit)) :=
  (g_ref37_Ask ((), (d.2.1, ()))).bind fun x1 =>
  let x2 : Bool := (x1.2.1.1 != (0 : Int))
  bif x2 then (
  some ((), x1.2))
  else (
  let x3 : Int := (d.2.2.1.1.length : Int)
  let x4 : Bool := (decide (x3 < (48 : Int)))
  bif x4 then (
  some ((), (((4 : Int), ()), ())))
  else (
  bif decide ((0 : Int) ≤ (0 : Int)) && decide ((0 : Int) < (d.2.1.1.length : Int)) then (
  let x5 : Int := (iconv .i64 (gd (.int .u8) d.2.1.1 (0 : Int)))
  let x6 : Int := (iquo .i64 x5 (8 : Int))
  let x7 : Int := (Int.tmod x6 (8 : Int))
  bif decide ((0 : Int) ≤ (0 : Int)) && decide ((0 : Int) < (d.2.1.1.length : Int)) then (
  let x8 : Int := (iconv .i64 (gd (.int .u8) d.2.1.1 (0 : Int)))
  let x9 : Int := (Int.tmod x8 (8 : Int))
  (g_ref37_Mode ((), ((x7, ()), ((x9, ()), ())))).bind fun x10 =>
  bif decide ((0 : Int) ≤ (0 : Int)) && decide ((0 : Int) < (d.2.2.1.1.length : Int)) then (
  let x11 : Int := (iconv .i64 (gd (.int .u8) d.2.2.1.1 (0 : Int)))
  let x12 : Int := (Int.tmod x11 (64 : Int))
  let x13 : Int := (imul .i64 x7 (8 : Int))
  let x14 : Int := (iadd .i64 x13 x10.2.1.1)
  let x15 : Bool := (x12 != x14)
  bif x15 then (
  some ((), (((14 : Int), ()), ())))
  else (
  bif decide ((32 : Int) ≤ (d.2.2.1.1.length : Int)) then (
  let x16 : (List Int) := (List.drop (Int.toNat (24 : Int)) (List.take (Int.toNat (32 : Int)) d.2.2.1.1))
  let x17 : ByteArray := (strOf x16)
  bif decide ((48 : Int) ≤ (d.2.1.1.length : Int)) then (
  let x18 : (List Int) := (List.drop (Int.toNat (40 : Int)) (List.take (Int.toNat (48 : Int)) d.2.1.1))
  let x19 : ByteArray := (strOf x18)
  let x20 : Bool := (!(x17.toList == x19.toList))
  bif x20 then (
  some ((), (((14 : Int), ()), ())))
  else (
  some ((), (((0 : Int), ()), ()))))
  else none)
  else none))
  else none)
  else none)
  else none))
def g_ref37_Match (d : Unit × (((List Int) × Unit) × (((List Int) × Unit) × Unit))) : Option (Unit × ((Int × Unit) × Unit)) := f_ref37_Match_m () d
theorem ok_ref37_Match : FnOk Tryz.prog ET0 10 pi_ref37_Match po_ref37_Match g_ref37_Match :=
  fn0 (E := ((E0.add 20 (typedSem pi_ref37_Ask po_ref37_Ask g_ref37_Ask)).add 21 (typedSem pi_ref37_Mode po_ref37_Mode g_ref37_Mode))) (envOk_add (envOk_add e0_ok (typed_ok ok_ref37_Ask)) (typed_ok ok_ref37_Mode)) (fn := Tryz.f10) Tryz.func10 (by kernel_rfl) (by kernel_rfl) [.tmp 4] (by kernel_rfl) rfl rfl rfl [] fun d => by kernel_rfl

@[reducible] def pi_law37_AnswerMatches : PSh := ⟨[], [.mk false [.v (.sl (.int .u8))], .mk false [.v (.sl (.int .u8))]]⟩
@[reducible] def po_law37_AnswerMatches : PSh := ⟨[], [.mk false [vB]]⟩
def f_law37_AnswerMatches_m (T : Unit) (d : Unit × (((List Int) × Unit) × (((List Int) × Unit) × Unit))) : Option (Unit × ((Bool × Unit) × Unit)) :=
  (g_law37_alive ((), ())).bind fun x1 =>
  let x2 : Bool := (!x1.2.1.1)
  bif x2 then (
  some ((), ((false, ()), ())))
  else (
  (g_law37_Long ((), (d.2.1, ()))).bind fun x3 =>
  bif x3.2.1.1 then (
  some ((), ((true, ()), ())))
  else (
  (g_law37_Long ((), d.2.2)).bind fun x4 =>
  bif x4.2.1.1 then (
  some ((), ((true, ()), ())))
  else (
  (g_answer_Told ((), d.2.2)).bind fun x5 =>
  (g_ref37_Told ((), d.2.2)).bind fun x6 =>
  (g_answer_Match ((), d.2)).bind fun x7 =>
  (g_hnum_Num ((), x7.2)).bind fun x8 =>
  (g_ref37_Match ((), d.2)).bind fun x9 =>
  let x10 : Bool := (x8.2.1.1 == x9.2.1.1)
  bif x10 then (
  let x11 : Bool := (x5.2.1.1.toList == x6.2.1.1.toList)
  bif x11 then (
  let x12 : Bool := (x5.2.2.1.1 == x6.2.2.1.1)
  some ((), ((x12, ()), ())))
  else (
  some ((), ((false, ()), ()))))
  else (
  some ((), ((false, ()), ()))))))
def g_law37_AnswerMatches (d : Unit × (((List Int) × Unit) × (((List Int) × Unit) × Unit))) : Option (Unit × ((Bool × Unit) × Unit)) := f_law37_AnswerMatches_m () d
theorem ok_law37_AnswerMatches : FnOk Tryz.prog ET0 3 pi_law37_AnswerMatches po_law37_AnswerMatches g_law37_AnswerMatches :=
  fn0 (E := (((((((E0.add 4 (typedSem pi_law37_alive po_law37_alive g_law37_alive)).add 5 (typedSem pi_law37_Long po_law37_Long g_law37_Long)).add 6 (typedSem pi_answer_Told po_answer_Told g_answer_Told)).add 7 (typedSem pi_ref37_Told po_ref37_Told g_ref37_Told)).add 8 (typedSem pi_hnum_Num po_hnum_Num g_hnum_Num)).add 9 (typedSem pi_answer_Match po_answer_Match g_answer_Match)).add 10 (typedSem pi_ref37_Match po_ref37_Match g_ref37_Match))) (envOk_add (envOk_add (envOk_add (envOk_add (envOk_add (envOk_add (envOk_add e0_ok (typed_ok ok_law37_alive)) (typed_ok ok_law37_Long)) (typed_ok ok_answer_Told)) (typed_ok ok_ref37_Told)) (typed_ok ok_hnum_Num)) (typed_ok ok_answer_Match)) (typed_ok ok_ref37_Match)) (fn := Tryz.f3) Tryz.func3 (by kernel_rfl) (by kernel_rfl) [.tmp 4] (by kernel_rfl) rfl rfl rfl [] fun d => by kernel_rfl
end
end Go.Proofs.YtodnllhjikeafaaGreatDoor.Ev
