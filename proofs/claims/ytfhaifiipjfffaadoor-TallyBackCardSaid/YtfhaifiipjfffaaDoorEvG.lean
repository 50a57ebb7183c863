/- Printed by wip/tools/evgen.py. -/
import Derived.Test.YtfhaifiipjfffaaDoorEv32
import Derived.Test.YtfhaifiipjfffaaDoorShelf
import Derived.Test.YtfhaifiipjfffaaDoorEv40
import Derived.Test.YtfhaifiipjfffaaDoorEv41
import Derived.Test.YtfhaifiipjfffaaDoorEvE
import Derived.Test.YtfhaifiipjfffaaDoorProg
import Derived.KernelRfl
set_option maxRecDepth 100000
set_option maxHeartbeats 2000000
set_option linter.unusedVariables false
namespace Go.Proofs.YtfhaifiipjfffaaDoor.Ev
open Go
noncomputable section
@[reducible] def vI : LSh := .v (.int .i64)
@[reducible] def vB : LSh := .v .bool
@[reducible] def vS : LSh := .v .str
@[reducible] def vE : LSh := .v .err
@[reducible] def v8 : LSh := .v (.int .u8)
def rows0 : List (TypeId × Row) := [
  (2, ⟨.int .i64, 1, 8, (.int .i64), [AV.val (.int .i64) (0 : Int)], none⟩),
  (3, ⟨.int .i64, 1, 8, (.int .i64), [AV.val (.int .i64) (0 : Int)], none⟩),
  (4, ⟨.bool, 1, 1, .bool, [AV.val .bool false], none⟩),
  (5, ⟨.int .u8, 1, 1, (.int .u8), [AV.val (.int .u8) (0 : Int)], none⟩),
  (9, ⟨.str, 1, 16, .str, [AV.val .str ByteArray.empty], none⟩),
  (22, ⟨.slice 29, 1, 24, (.sl (.pair (.int .i64) (.int .i64))), [AV.nilS], none⟩),
  (23, ⟨.slice 3, 1, 24, (.sl (.int .i64)), [AV.nilS], none⟩),
  (25, ⟨.ptr, 1, 8, (.nptr (.pair (.int .i64) (.pair (.int .i64) (.pair (.int .i64) (.pair (.int .i64) (.pair (.int .i64) (.pair (.int .i64) (.pair (.int .i64) (.pair (.int .i64) (.pair (.int .i64) (.pair (.int .i64) (.pair (.int .i64) (.int .i64))))))))))))), [AV.nilP], none⟩),
  (27, ⟨.arr 12 2, 12, 96, (.pair (.int .i64) (.pair (.int .i64) (.pair (.int .i64) (.pair (.int .i64) (.pair (.int .i64) (.pair (.int .i64) (.pair (.int .i64) (.pair (.int .i64) (.pair (.int .i64) (.pair (.int .i64) (.pair (.int .i64) (.int .i64)))))))))))), [AV.val (.int .i64) (0 : Int), AV.val (.int .i64) (0 : Int), AV.val (.int .i64) (0 : Int), AV.val (.int .i64) (0 : Int), AV.val (.int .i64) (0 : Int), AV.val (.int .i64) (0 : Int), AV.val (.int .i64) (0 : Int), AV.val (.int .i64) (0 : Int), AV.val (.int .i64) (0 : Int), AV.val (.int .i64) (0 : Int), AV.val (.int .i64) (0 : Int), AV.val (.int .i64) (0 : Int)], some [.int .i64, .int .i64, .int .i64, .int .i64, .int .i64, .int .i64, .int .i64, .int .i64, .int .i64, .int .i64, .int .i64, .int .i64]⟩),
  (29, ⟨.struct [(0, 1, false), (1, 1, false)], 2, 16, (.pair (.int .i64) (.int .i64)), [AV.val (.int .i64) (0 : Int), AV.val (.int .i64) (0 : Int)], some [.int .i64, .int .i64]⟩),
  (34, ⟨.iface, 1, 16, .err, [AV.val .err (none : Option Int)], none⟩),
  (51, ⟨.struct [(0, 12, true)], 12, 96, (.pair (.int .i64) (.pair (.int .i64) (.pair (.int .i64) (.pair (.int .i64) (.pair (.int .i64) (.pair (.int .i64) (.pair (.int .i64) (.pair (.int .i64) (.pair (.int .i64) (.pair (.int .i64) (.pair (.int .i64) (.int .i64)))))))))))), [AV.val (.int .i64) (0 : Int), AV.val (.int .i64) (0 : Int), AV.val (.int .i64) (0 : Int), AV.val (.int .i64) (0 : Int), AV.val (.int .i64) (0 : Int), AV.val (.int .i64) (0 : Int), AV.val (.int .i64) (0 : Int), AV.val (.int .i64) (0 : Int), AV.val (.int .i64) (0 : Int), AV.val (.int .i64) (0 : Int), AV.val (.int .i64) (0 : Int), AV.val (.int .i64) (0 : Int)], some [.int .i64, .int .i64, .int .i64, .int .i64, .int .i64, .int .i64, .int .i64, .int .i64, .int .i64, .int .i64, .int .i64, .int .i64]⟩),
  (53, ⟨.slice 75, 1, 24, (.sl (.int .u64)), [AV.nilS], none⟩),
  (55, ⟨.struct [(0, 1, false), (1, 1, false)], 2, 32, (.pair .bool (.sl (.int .u64))), [AV.val .bool false, AV.nilS], none⟩),
  (58, ⟨.int .i64, 1, 8, (.int .i64), [AV.val (.int .i64) (0 : Int)], none⟩),
  (62, ⟨.slice 2, 1, 24, (.sl (.int .i64)), [AV.nilS], none⟩),
  (64, ⟨.slice 9, 1, 24, (.sl .str), [AV.nilS], none⟩),
  (69, ⟨.arr 12 9, 12, 192, (.pair .str (.pair .str (.pair .str (.pair .str (.pair .str (.pair .str (.pair .str (.pair .str (.pair .str (.pair .str (.pair .str .str))))))))))), [AV.val .str ByteArray.empty, AV.val .str ByteArray.empty, AV.val .str ByteArray.empty, AV.val .str ByteArray.empty, AV.val .str ByteArray.empty, AV.val .str ByteArray.empty, AV.val .str ByteArray.empty, AV.val .str ByteArray.empty, AV.val .str ByteArray.empty, AV.val .str ByteArray.empty, AV.val .str ByteArray.empty, AV.val .str ByteArray.empty], some [.str, .str, .str, .str, .str, .str, .str, .str, .str, .str, .str, .str]⟩),
  (75, ⟨.int .u64, 1, 8, (.int .u64), [AV.val (.int .u64) (0 : Int)], none⟩),
  (79, ⟨.slice 5, 1, 24, (.sl (.int .u8)), [AV.nilS], none⟩)]
def ET0 : TypeId := 58
def E0 : Env := ⟨rows0, [], ET0, 0, [], [], []⟩
theorem e0_ok : EnvOk Tryd.prog E0 := envOk_rows (by kernel_rfl) (by kernel_rfl) 0
def gd_i64_i64 (l : List (Int × Int)) (i : Int) : (Int × Int) := gd (.pair (.int .i64) (.int .i64)) l i
/- strings.Fields -/
@[reducible] def pi_strings_Fields : PSh := pi_lib_fields
@[reducible] def po_strings_Fields : PSh := po_lib_fields
def g_strings_Fields := lib_fields
theorem ok_strings_Fields : FnOk Tryd.prog ET0 33 pi_strings_Fields po_strings_Fields g_strings_Fields := lib_fields_ok ⟨Tryd.f33, Tryd.func33, by kernel_rfl, by kernel_rfl⟩ Tryd.strings_Fields tab_space
/- strconv.FormatInt -/
@[reducible] def pi_strconv_FormatInt : PSh := pi_lib_formatInt
@[reducible] def po_strconv_FormatInt : PSh := po_lib_formatInt
def g_strconv_FormatInt := lib_formatInt
theorem ok_strconv_FormatInt : FnOk Tryd.prog ET0 26 pi_strconv_FormatInt po_strconv_FormatInt g_strconv_FormatInt := lib_formatInt_ok ⟨Tryd.f26, Tryd.func26, by kernel_rfl, by kernel_rfl⟩ Tryd.strconv_FormatInt_10 tab_pow10
/- strings.Join -/
@[reducible] def pi_strings_Join : PSh := pi_lib_join
@[reducible] def po_strings_Join : PSh := po_lib_join
def g_strings_Join := lib_join
theorem ok_strings_Join : FnOk Tryd.prog ET0 27 pi_strings_Join po_strings_Join g_strings_Join := lib_join_ok ⟨Tryd.f27, Tryd.func27, by kernel_rfl, by kernel_rfl⟩ Tryd.strings_Join_none Tryd.strings_Join
/- strings.Split -/
@[reducible] def pi_strings_Split : PSh := pi_lib_split
@[reducible] def po_strings_Split : PSh := po_lib_split
def g_strings_Split := lib_split
theorem ok_strings_Split : FnOk Tryd.prog ET0 30 pi_strings_Split po_strings_Split g_strings_Split := lib_split_ok ⟨Tryd.f30, Tryd.func30, by kernel_rfl, by kernel_rfl⟩ Tryd.strings_Split tab_maxLen
/- strings.Trim -/
@[reducible] def pi_strings_Trim : PSh := pi_lib_trim
@[reducible] def po_strings_Trim : PSh := po_lib_trim
def g_strings_Trim := lib_trim
theorem ok_strings_Trim : FnOk Tryd.prog ET0 44 pi_strings_Trim po_strings_Trim g_strings_Trim := lib_trim_ok ⟨Tryd.f44, Tryd.func44, by kernel_rfl, by kernel_rfl⟩ Tryd.strings_Trim_laid

@[reducible] def pi_tally_New : PSh := ⟨[], []⟩
@[reducible] def po_tally_New : PSh := ⟨[.var 51 [vI, vI, vI, vI, vI, vI, vI, vI, vI, vI, vI, vI]], [.mk false [.ref 0 0]]⟩
def f_tally_New_m (T : Unit) (d : Unit × Unit) : Option (((Int × (Int × (Int × (Int × (Int × (Int × (Int × (Int × (Int × (Int × (Int × (Int × Unit)))))))))))) × Unit) × (Unit × Unit)) :=
  some ((((0 : Int), ((0 : Int), ((0 : Int), ((0 : Int), ((0 : Int), ((0 : Int), ((0 : Int), ((0 : Int), ((0 : Int), ((0 : Int), ((0 : Int), ((0 : Int), ())))))))))))), ()), ((), ()))
def g_tally_New (d : Unit × Unit) : Option (((Int × (Int × (Int × (Int × (Int × (Int × (Int × (Int × (Int × (Int × (Int × (Int × Unit)))))))))))) × Unit) × (Unit × Unit)) := f_tally_New_m () d
theorem ok_tally_New : FnOk Tryd.prog ET0 6 pi_tally_New po_tally_New g_tally_New :=
  fn0 (E := E0) e0_ok (fn := Tryd.f6) Tryd.func6 (by kernel_rfl) (by kernel_rfl) [.tmp 0] (by kernel_rfl) rfl rfl rfl [] fun d => by kernel_rfl

@[reducible] def pi_tally_known : PSh := ⟨[], [.mk false [vI]]⟩
@[reducible] def po_tally_known : PSh := ⟨[], [.mk false [vB]]⟩
def f_tally_known_m (T : Unit) (d : Unit × ((Int × Unit) × Unit)) : Option (Unit × ((Bool × Unit) × Unit)) :=
  let x1 : Bool := (decide (d.2.1.1 ≥ (1 : Int)))
  bif x1 then (
  let x2 : Bool := (decide (d.2.1.1 ≤ (12 : Int)))
  some ((), ((x2, ()), ())))
  else (
  some ((), ((false, ()), ())))
def g_tally_known (d : Unit × ((Int × Unit) × Unit)) : Option (Unit × ((Bool × Unit) × Unit)) := f_tally_known_m () d
theorem ok_tally_known : FnOk Tryd.prog ET0 23 pi_tally_known po_tally_known g_tally_known :=
  fn0 (E := E0) e0_ok (fn := Tryd.f23) Tryd.func23 (by kernel_rfl) (by kernel_rfl) [.tmp 2] (by kernel_rfl) rfl rfl rfl [] fun d => by kernel_rfl

@[reducible] def pi_num_Add : PSh := ⟨[], [.mk false [vI], .mk false [vI]]⟩
@[reducible] def po_num_Add : PSh := ⟨[], [.mk false [vI], .mk false [vE]]⟩
def f_num_Add_m (T : Unit) (d : Unit × ((Int × Unit) × ((Int × Unit) × Unit))) : Option (Unit × ((Int × Unit) × (((Option Int) × Unit) × Unit))) :=
  let x1 : Int := (iadd .i64 d.2.1.1 d.2.2.1.1)
  let x2 : Bool := (decide (d.2.2.1.1 > (0 : Int)))
  bif x2 then (
  let x3 : Bool := (decide (x1 < d.2.1.1))
  bif x3 then (
  let x4 : (Option Int) := (some (5 : Int))
  some ((), (((0 : Int), ()), ((x4, ()), ()))))
  else (
  let x5 : Bool := (decide (d.2.2.1.1 < (0 : Int)))
  bif x5 then (
  let x6 : Bool := (decide (x1 > d.2.1.1))
  bif x6 then (
  let x7 : (Option Int) := (some (5 : Int))
  some ((), (((0 : Int), ()), ((x7, ()), ()))))
  else (
  some ((), ((x1, ()), (((none : Option Int), ()), ())))))
  else (
  some ((), ((x1, ()), (((none : Option Int), ()), ()))))))
  else (
  let x8 : Bool := (decide (d.2.2.1.1 < (0 : Int)))
  bif x8 then (
  let x9 : Bool := (decide (x1 > d.2.1.1))
  bif x9 then (
  let x10 : (Option Int) := (some (5 : Int))
  some ((), (((0 : Int), ()), ((x10, ()), ()))))
  else (
  some ((), ((x1, ()), (((none : Option Int), ()), ())))))
  else (
  some ((), ((x1, ()), (((none : Option Int), ()), ())))))
def g_num_Add (d : Unit × ((Int × Unit) × ((Int × Unit) × Unit))) : Option (Unit × ((Int × Unit) × (((Option Int) × Unit) × Unit))) := f_num_Add_m () d
theorem ok_num_Add : FnOk Tryd.prog ET0 24 pi_num_Add po_num_Add g_num_Add :=
  fn0 (E := E0) e0_ok (fn := Tryd.f24) Tryd.func24 (by kernel_rfl) (by kernel_rfl) [.tmp 4, .tmp 5] (by kernel_rfl) rfl rfl rfl [] fun d => by kernel_rfl

@[reducible] def pi_tally_Tally_Add : PSh := ⟨[], [.mk false [.v (.nptr (.pair (.int .i64) (.pair (.int .i64) (.pair (.int .i64) (.pair (.int .i64) (.pair (.int .i64) (.pair (.int .i64) (.pair (.int .i64) (.pair (.int .i64) (.pair (.int .i64) (.pair (.int .i64) (.pair (.int .i64) (.int .i64)))))))))))))], .mk false [vI], .mk false [vI]]⟩
@[reducible] def po_tally_Tally_Add : PSh := ⟨[], [.mk false [vE]]⟩
@[reducible] def TT_tally_Tally_Add : Type := (((Unit × (((Option (Int × (Int × (Int × (Int × (Int × (Int × (Int × (Int × (Int × (Int × (Int × Int)))))))))))) × Unit) × ((Int × Unit) × ((Int × Unit) × (((Option Int) × Unit) × Unit))))) → Option (Unit × (((Option Int) × Unit) × Unit))) × Unit)
@[reducible] def sh_tally_Tally_Add_8 : PSh := ⟨[], [.mk false [.v (.nptr (.pair (.int .i64) (.pair (.int .i64) (.pair (.int .i64) (.pair (.int .i64) (.pair (.int .i64) (.pair (.int .i64) (.pair (.int .i64) (.pair (.int .i64) (.pair (.int .i64) (.pair (.int .i64) (.pair (.int .i64) (.int .i64)))))))))))))], .mk false [vI], .any, .any, .any, .any, .any, .mk false [vI], .mk false [vE], .any, .any, .any, .any, .any, .any, .any, .any, .any, .any, .any, .any, .any, .any, .any, .any, .any, .any, .any, .any, .any, .any, .any, .any, .any, .any, .any, .any, .any, .any, .any, .any, .any, .any, .any]⟩
def f_tally_Tally_Add_p8 (T : TT_tally_Tally_Add) (d : Unit × (((Option (Int × (Int × (Int × (Int × (Int × (Int × (Int × (Int × (Int × (Int × (Int × Int)))))))))))) × Unit) × ((Int × Unit) × ((Int × Unit) × (((Option Int) × Unit) × Unit))))) : Option (Unit × (((Option Int) × Unit) × Unit)) :=
  let x21 : Bool := (!d.2.2.2.2.1.1.isNone)
  bif x21 then (
  some ((), d.2.2.2.2))
  else (
  let x22 : Int := (isub .i64 d.2.2.1.1 (1 : Int))
  d.2.1.1.bind fun x23 =>
  bif decide ((0 : Int) ≤ x22) && decide (x22 < (12 : Int)) then (
  bif decide (x22 = (0 : Int)) then (
  none)
  else (
  bif decide (x22 = (1 : Int)) then (
  none)
  else (
  bif decide (x22 = (2 : Int)) then (
  none)
  else (
  bif decide (x22 = (3 : Int)) then (
  none)
  else (
  bif decide (x22 = (4 : Int)) then (
  none)
  else (
  bif decide (x22 = (5 : Int)) then (
  none)
  else (
  bif decide (x22 = (6 : Int)) then (
  none)
  else (
  bif decide (x22 = (7 : Int)) then (
  none)
  else (
  bif decide (x22 = (8 : Int)) then (
  none)
  else (
  bif decide (x22 = (9 : Int)) then (
  none)
  else (
  bif decide (x22 = (10 : Int)) then (
  none)
  else (
  bif decide (x22 = (11 : Int)) then (
  none)
  else (
  none)))))))))))))
  else none)
def f_tally_Tally_Add_t : Nat → TT_tally_Tally_Add
  | 0 => (fun _ => none, ())
  | k + 1 => (f_tally_Tally_Add_p8 (f_tally_Tally_Add_t k), ())
theorem t_tally_Tally_Add (k : Nat) : f_tally_Tally_Add_t (k + 1) = (f_tally_Tally_Add_p8 (f_tally_Tally_Add_t k), ()) := rfl
def f_tally_Tally_Add_m (T : TT_tally_Tally_Add) (d : Unit × (((Option (Int × (Int × (Int × (Int × (Int × (Int × (Int × (Int × (Int × (Int × (Int × Int)))))))))))) × Unit) × ((Int × Unit) × ((Int × Unit) × Unit)))) : Option (Unit × (((Option Int) × Unit) × Unit)) :=
  bif d.2.1.1.isNone then (
  let x1 : (Option Int) := (some (8 : Int))
  some ((), ((x1, ()), ())))
  else (
  (g_tally_known ((), (d.2.2.1, ()))).bind fun x2 =>
  let x3 : Bool := (!x2.2.1.1)
  bif x3 then (
  let x4 : (Option Int) := (some (11 : Int))
  some ((), ((x4, ()), ())))
  else (
  let x5 : Bool := (decide (d.2.2.2.1.1 < (0 : Int)))
  bif x5 then (
  let x6 : (Option Int) := (some (1 : Int))
  some ((), ((x6, ()), ())))
  else (
  let x7 : Int := (isub .i64 d.2.2.1.1 (1 : Int))
  d.2.1.1.bind fun x8 =>
  bif decide ((0 : Int) ≤ x7) && decide (x7 < (12 : Int)) then (
  bif decide (x7 = (0 : Int)) then (
  (g_num_Add ((), ((x8.1, ()), d.2.2.2))).bind fun x20 =>
  (T.1 ((), (d.2.1, (d.2.2.1, x20.2)))))
  else (
  bif decide (x7 = (1 : Int)) then (
  (g_num_Add ((), ((x8.2.1, ()), d.2.2.2))).bind fun x19 =>
  (T.1 ((), (d.2.1, (d.2.2.1, x19.2)))))
  else (
  bif decide (x7 = (2 : Int)) then (
  (g_num_Add ((), ((x8.2.2.1, ()), d.2.2.2))).bind fun x18 =>
  (T.1 ((), (d.2.1, (d.2.2.1, x18.2)))))
  else (
  bif decide (x7 = (3 : Int)) then (
  (g_num_Add ((), ((x8.2.2.2.1, ()), d.2.2.2))).bind fun x17 =>
  (T.1 ((), (d.2.1, (d.2.2.1, x17.2)))))
  else (
  bif decide (x7 = (4 : Int)) then (
  (g_num_Add ((), ((x8.2.2.2.2.1, ()), d.2.2.2))).bind fun x16 =>
  (T.1 ((), (d.2.1, (d.2.2.1, x16.2)))))
  else (
  bif decide (x7 = (5 : Int)) then (
  (g_num_Add ((), ((x8.2.2.2.2.2.1, ()), d.2.2.2))).bind fun x15 =>
  (T.1 ((), (d.2.1, (d.2.2.1, x15.2)))))
  else (
  bif decide (x7 = (6 : Int)) then (
  (g_num_Add ((), ((x8.2.2.2.2.2.2.1, ()), d.2.2.2))).bind fun x14 =>
  (T.1 ((), (d.2.1, (d.2.2.1, x14.2)))))
  else (
  bif decide (x7 = (7 : Int)) then (
  (g_num_Add ((), ((x8.2.2.2.2.2.2.2.1, ()), d.2.2.2))).bind fun x13 =>
  (T.1 ((), (d.2.1, (d.2.2.1, x13.2)))))
  else (
  bif decide (x7 = (8 : Int)) then (
  (g_num_Add ((), ((x8.2.2.2.2.2.2.2.2.1, ()), d.2.2.2))).bind fun x12 =>
  (T.1 ((), (d.2.1, (d.2.2.1, x12.2)))))
  else (
  bif decide (x7 = (9 : Int)) then (
  (g_num_Add ((), ((x8.2.2.2.2.2.2.2.2.2.1, ()), d.2.2.2))).bind fun x11 =>
  (T.1 ((), (d.2.1, (d.2.2.1, x11.2)))))
  else (
  bif decide (x7 = (10 : Int)) then (
  (g_num_Add ((), ((x8.2.2.2.2.2.2.2.2.2.2.1, ()), d.2.2.2))).bind fun x10 =>
  (T.1 ((), (d.2.1, (d.2.2.1, x10.2)))))
  else (
  bif decide (x7 = (11 : Int)) then (
  (g_num_Add ((), ((x8.2.2.2.2.2.2.2.2.2.2.2, ()), d.2.2.2))).bind fun x9 =>
  (T.1 ((), (d.2.1, (d.2.2.1, x9.2)))))
  else (
  none)))))))))))))
  else none)))
def c_tally_Tally_Add : List Nat := [8]
def L_tally_Tally_Add (k : Nat) : Pts po_tally_Tally_Add.den := [(8, ⟨sh_tally_Tally_Add_8, (f_tally_Tally_Add_t k).1⟩)]
def R_tally_Tally_Add (_ : Nat) : PtsR po_tally_Tally_Add.den := []
def E_tally_Tally_Add : Env := ((E0.add 23 (typedSem pi_tally_known po_tally_known g_tally_known)).add 24 (typedSem pi_num_Add po_num_Add g_num_Add))
theorem q_tally_Tally_Add_8 (k : Nat) (d : sh_tally_Tally_Add_8.den) : evAt E_tally_Tally_Add (tb (L_tally_Tally_Add k) (R_tally_Tally_Add k)) c_tally_Tally_Add 8 (bodyOf Tryd.f10) 0 (finK E_tally_Tally_Add po_tally_Tally_Add [.tmp 6]) (ptSt sh_tally_Tally_Add_8 d) = f_tally_Tally_Add_p8 (f_tally_Tally_Add_t k) d := by kernel_rfl
theorem q_tally_Tally_Add_m (k : Nat) (d : pi_tally_Tally_Add.den) : evCode E_tally_Tally_Add (tb (L_tally_Tally_Add k) (R_tally_Tally_Add k)) c_tally_Tally_Add (bodyOf Tryd.f10) 0 (finK E_tally_Tally_Add po_tally_Tally_Add [.tmp 6]) (startSt pi_tally_Tally_Add 44 d) = f_tally_Tally_Add_m (f_tally_Tally_Add_t k) d := by kernel_rfl
def g_tally_Tally_Add (d : Unit × (((Option (Int × (Int × (Int × (Int × (Int × (Int × (Int × (Int × (Int × (Int × (Int × Int)))))))))))) × Unit) × ((Int × Unit) × ((Int × Unit) × Unit)))) : Option (Unit × (((Option Int) × Unit) × Unit)) := lim fun k => f_tally_Tally_Add_m (f_tally_Tally_Add_t k) d
theorem ok_tally_Tally_Add : FnOk Tryd.prog ET0 10 pi_tally_Tally_Add po_tally_Tally_Add g_tally_Tally_Add :=
  fn_of_body (E := E_tally_Tally_Add) (envOk_add (envOk_add e0_ok (typed_ok ok_tally_known)) (typed_ok ok_num_Add)) (fn := Tryd.f10) Tryd.func10 (by kernel_rfl) (by kernel_rfl) [.tmp 6] (by kernel_rfl) (by kernel_rfl) (by decide) rfl c_tally_Tally_Add L_tally_Tally_Add R_tally_Tally_Add
    (by intro x hx d; simp only [L_tally_Tally_Add, List.mem_cons, List.not_mem_nil, or_false] at hx; subst hx; rfl)
    (by intro k x hx d out h; simp only [L_tally_Tally_Add, List.mem_cons, List.not_mem_nil, or_false] at hx; subst hx; exact (q_tally_Tally_Add_8 k d).trans h)
    (by intro x hx; cases hx)
    (by intro k x hx; cases hx)
    (by intro d out h; obtain ⟨k, hk⟩ := lim_some h; exact ⟨k, (q_tally_Tally_Add_m k d).trans hk⟩)

@[reducible] def pi_tally_Tally_All : PSh := ⟨[], [.mk false [.v (.nptr (.pair (.int .i64) (.pair (.int .i64) (.pair (.int .i64) (.pair (.int .i64) (.pair (.int .i64) (.pair (.int .i64) (.pair (.int .i64) (.pair (.int .i64) (.pair (.int .i64) (.pair (.int .i64) (.pair (.int .i64) (.int .i64)))))))))))))]]⟩
@[reducible] def po_tally_Tally_All : PSh := ⟨[], [.mk true [vI, vI, vI, vI, vI, vI, vI, vI, vI, vI, vI, vI]]⟩
def f_tally_Tally_All_m (T : Unit) (d : Unit × (((Option (Int × (Int × (Int × (Int × (Int × (Int × (Int × (Int × (Int × (Int × (Int × Int)))))))))))) × Unit) × Unit)) : Option (Unit × ((Int × (Int × (Int × (Int × (Int × (Int × (Int × (Int × (Int × (Int × (Int × (Int × Unit)))))))))))) × Unit)) :=
  bif d.2.1.1.isNone then (
  some ((), (((0 : Int), ((0 : Int), ((0 : Int), ((0 : Int), ((0 : Int), ((0 : Int), ((0 : Int), ((0 : Int), ((0 : Int), ((0 : Int), ((0 : Int), ((0 : Int), ())))))))))))), ())))
  else (
  d.2.1.1.bind fun x1 =>
  some ((), ((x1.1, (x1.2.1, (x1.2.2.1, (x1.2.2.2.1, (x1.2.2.2.2.1, (x1.2.2.2.2.2.1, (x1.2.2.2.2.2.2.1, (x1.2.2.2.2.2.2.2.1, (x1.2.2.2.2.2.2.2.2.1, (x1.2.2.2.2.2.2.2.2.2.1, (x1.2.2.2.2.2.2.2.2.2.2.1, (x1.2.2.2.2.2.2.2.2.2.2.2, ())))))))))))), ())))
def g_tally_Tally_All (d : Unit × (((Option (Int × (Int × (Int × (Int × (Int × (Int × (Int × (Int × (Int × (Int × (Int × Int)))))))))))) × Unit) × Unit)) : Option (Unit × ((Int × (Int × (Int × (Int × (Int × (Int × (Int × (Int × (Int × (Int × (Int × (Int × Unit)))))))))))) × Unit)) := f_tally_Tally_All_m () d
theorem ok_tally_Tally_All : FnOk Tryd.prog ET0 11 pi_tally_Tally_All po_tally_Tally_All g_tally_Tally_All :=
  fn0 (E := E0) e0_ok (fn := Tryd.f11) Tryd.func11 (by kernel_rfl) (by kernel_rfl) [.cell 2 27] (by kernel_rfl) rfl rfl rfl [] fun d => by kernel_rfl

@[reducible] def pi_tally_Tally_Count : PSh := ⟨[], [.mk false [.v (.nptr (.pair (.int .i64) (.pair (.int .i64) (.pair (.int .i64) (.pair (.int .i64) (.pair (.int .i64) (.pair (.int .i64) (.pair (.int .i64) (.pair (.int .i64) (.pair (.int .i64) (.pair (.int .i64) (.pair (.int .i64) (.int .i64)))))))))))))], .mk false [vI]]⟩
@[reducible] def po_tally_Tally_Count : PSh := ⟨[], [.mk false [vI]]⟩
def f_tally_Tally_Count_m (T : Unit) (d : Unit × (((Option (Int × (Int × (Int × (Int × (Int × (Int × (Int × (Int × (Int × (Int × (Int × Int)))))))))))) × Unit) × ((Int × Unit) × Unit))) : Option (Unit × ((Int × Unit) × Unit)) :=
  (g_tally_known ((), d.2.2)).bind fun x1 =>
  let x2 : Bool := (!x1.2.1.1)
  bif x2 then (
  some ((), (((0 : Int), ()), ())))
  else (
  (g_tally_Tally_All ((), (d.2.1, ()))).bind fun x3 =>
  let x4 : Int := (isub .i64 d.2.2.1.1 (1 : Int))
  bif decide ((0 : Int) ≤ x4) && decide (x4 < (12 : Int)) then (
  bif decide (x4 = (0 : Int)) then (
  some ((), ((x3.2.1.1, ()), ())))
  else (
  bif decide (x4 = (1 : Int)) then (
  some ((), ((x3.2.1.2.1, ()), ())))
  else (
  bif decide (x4 = (2 : Int)) then (
  some ((), ((x3.2.1.2.2.1, ()), ())))
  else (
  bif decide (x4 = (3 : Int)) then (
  some ((), ((x3.2.1.2.2.2.1, ()), ())))
  else (
  bif decide (x4 = (4 : Int)) then (
  some ((), ((x3.2.1.2.2.2.2.1, ()), ())))
  else (
  bif decide (x4 = (5 : Int)) then (
  some ((), ((x3.2.1.2.2.2.2.2.1, ()), ())))
  else (
  bif decide (x4 = (6 : Int)) then (
  some ((), ((x3.2.1.2.2.2.2.2.2.1, ()), ())))
  else (
  bif decide (x4 = (7 : Int)) then (
  some ((), ((x3.2.1.2.2.2.2.2.2.2.1, ()), ())))
  else (
  bif decide (x4 = (8 : Int)) then (
  some ((), ((x3.2.1.2.2.2.2.2.2.2.2.1, ()), ())))
  else (
  bif decide (x4 = (9 : Int)) then (
  some ((), ((x3.2.1.2.2.2.2.2.2.2.2.2.1, ()), ())))
  else (
  bif decide (x4 = (10 : Int)) then (
  some ((), ((x3.2.1.2.2.2.2.2.2.2.2.2.2.1, ()), ())))
  else (
  bif decide (x4 = (11 : Int)) then (
  some ((), (x3.2.1.2.2.2.2.2.2.2.2.2.2.2, ())))
  else (
  none)))))))))))))
  else none)
def g_tally_Tally_Count (d : Unit × (((Option (Int × (Int × (Int × (Int × (Int × (Int × (Int × (Int × (Int × (Int × (Int × Int)))))))))))) × Unit) × ((Int × Unit) × Unit))) : Option (Unit × ((Int × Unit) × Unit)) := f_tally_Tally_Count_m () d
theorem ok_tally_Tally_Count : FnOk Tryd.prog ET0 13 pi_tally_Tally_Count po_tally_Tally_Count g_tally_Tally_Count :=
  fn0 (E := ((E0.add 11 (typedSem pi_tally_Tally_All po_tally_Tally_All g_tally_Tally_All)).add 23 (typedSem pi_tally_known po_tally_known g_tally_known))) (envOk_add (envOk_add e0_ok (typed_ok ok_tally_Tally_All)) (typed_ok ok_tally_known)) (fn := Tryd.f13) Tryd.func13 (by kernel_rfl) (by kernel_rfl) [.tmp 4] (by kernel_rfl) rfl rfl rfl [] fun d => by kernel_rfl

@[reducible] def pi_tally_Name : PSh := ⟨[], [.mk false [vI]]⟩
@[reducible] def po_tally_Name : PSh := ⟨[], [.mk false [vS]]⟩
def f_tally_Name_m (T : Unit) (d : Unit × ((Int × Unit) × Unit)) : Option (Unit × ((ByteArray × Unit) × Unit)) :=
  (g_tally_known ((), d.2)).bind fun x1 =>
  let x2 : Bool := (!x1.2.1.1)
  bif x2 then (
  some ((), (((⟨#[]⟩ : ByteArray), ()), ())))
  else (
  (g_strings_Fields ((), (((⟨#[108, 111, 97, 100, 101, 100, 32, 114, 101, 102, 117, 115, 101, 100, 32, 114, 101, 97, 100, 32, 98, 97, 99, 107, 32, 119, 111, 114, 100, 32, 108, 105, 110, 101, 32, 114, 101, 112, 108, 121, 32, 107, 105, 115, 115, 32, 108, 105, 109, 105, 116, 101, 100, 32, 111, 100, 100, 32, 115, 116, 114, 97, 110, 103, 101, 32, 105, 100, 108, 101]⟩ : ByteArray), ()), ()))).bind fun x3 =>
  let x4 : Int := (isub .i64 d.2.1.1 (1 : Int))
  bif decide ((0 : Int) ≤ x4) && decide (x4 < (x3.2.1.1.length : Int)) then (
  some ((), (((gd .str x3.2.1.1 x4), ()), ())))
  else none)
def g_tally_Name (d : Unit × ((Int × Unit) × Unit)) : Option (Unit × ((ByteArray × Unit) × Unit)) := f_tally_Name_m () d
theorem ok_tally_Name : FnOk Tryd.prog ET0 19 pi_tally_Name po_tally_Name g_tally_Name :=
  fn0 (E := ((E0.add 23 (typedSem pi_tally_known po_tally_known g_tally_known)).add 33 (typedSem pi_strings_Fields po_strings_Fields g_strings_Fields))) (envOk_add (envOk_add e0_ok (typed_ok ok_tally_known)) (typed_ok ok_strings_Fields)) (fn := Tryd.f19) Tryd.func19 (by kernel_rfl) (by kernel_rfl) [.tmp 2] (by kernel_rfl) rfl rfl rfl [] fun d => by kernel_rfl

@[reducible] def pi_tally_Tally_Add_io : PSh := ⟨[.var 51 [vI, vI, vI, vI, vI, vI, vI, vI, vI, vI, vI, vI]], [.mk false [.ref 0 0], .mk false [vI], .mk false [vI]]⟩
@[reducible] def po_tally_Tally_Add_io : PSh := ⟨[.var 51 [vI, vI, vI, vI, vI, vI, vI, vI, vI, vI, vI, vI]], [.mk false [vE], .mk false [.ref 0 0]]⟩
@[reducible] def TT_tally_Tally_Add_io : Type := (((((Int × (Int × (Int × (Int × (Int × (Int × (Int × (Int × (Int × (Int × (Int × (Int × Unit)))))))))))) × Unit) × (Unit × ((Int × Unit) × ((Int × Unit) × (((Option Int) × Unit) × Unit))))) → Option (((Int × (Int × (Int × (Int × (Int × (Int × (Int × (Int × (Int × (Int × (Int × (Int × Unit)))))))))))) × Unit) × (((Option Int) × Unit) × (Unit × Unit)))) × (((((Int × (Int × (Int × (Int × (Int × (Int × (Int × (Int × (Int × (Int × (Int × (Int × Unit)))))))))))) × Unit) × (Unit × Unit)) → Option (((Int × (Int × (Int × (Int × (Int × (Int × (Int × (Int × (Int × (Int × (Int × (Int × Unit)))))))))))) × Unit) × (((Option Int) × Unit) × (Unit × Unit)))) × (((((Int × (Int × (Int × (Int × (Int × (Int × (Int × (Int × (Int × (Int × (Int × (Int × Unit)))))))))))) × Unit) × (Unit × (((Option Int) × Unit) × Unit))) → Option (((Int × (Int × (Int × (Int × (Int × (Int × (Int × (Int × (Int × (Int × (Int × (Int × Unit)))))))))))) × Unit) × (((Option Int) × Unit) × (Unit × Unit)))) × Unit)))
@[reducible] def sh_tally_Tally_Add_io_8 : PSh := ⟨[.var 51 [vI, vI, vI, vI, vI, vI, vI, vI, vI, vI, vI, vI]], [.mk false [.ref 0 0], .mk false [vI], .any, .any, .any, .any, .any, .mk false [vI], .mk false [vE], .any, .any, .any, .any, .any, .any, .any, .any, .any, .any, .any, .any, .any, .any, .any, .any, .any, .any, .any, .any, .any, .any, .any, .any, .any, .any, .any, .any, .any, .any, .any, .any, .any, .any, .any]⟩
@[reducible] def sh_tally_Tally_Add_io_12 : PSh := ⟨[.var 51 [vI, vI, vI, vI, vI, vI, vI, vI, vI, vI, vI, vI]], [.mk false [.ref 0 0], .any, .any, .any, .any, .any, .any, .any, .any, .any, .any, .any, .any, .any, .any, .any, .any, .any, .any, .any, .any, .any, .any, .any, .any, .any, .any, .any, .any, .any, .any, .any, .any, .any, .any, .any, .any, .any, .any, .any, .any, .any, .any, .any]⟩
@[reducible] def sh_tally_Tally_Add_io_13 : PSh := ⟨[.var 51 [vI, vI, vI, vI, vI, vI, vI, vI, vI, vI, vI, vI]], [.mk false [.ref 0 0], .any, .any, .any, .any, .any, .mk false [vE], .any, .any, .any, .any, .any, .any, .any, .any, .any, .any, .any, .any, .any, .any, .any, .any, .any, .any, .any, .any, .any, .any, .any, .any, .any, .any, .any, .any, .any, .any, .any, .any, .any, .any, .any, .any, .any]⟩
def f_tally_Tally_Add_io_p8 (T : TT_tally_Tally_Add_io) (d : ((Int × (Int × (Int × (Int × (Int × (Int × (Int × (Int × (Int × (Int × (Int × (Int × Unit)))))))))))) × Unit) × (Unit × ((Int × Unit) × ((Int × Unit) × (((Option Int) × Unit) × Unit))))) : Option (((Int × (Int × (Int × (Int × (Int × (Int × (Int × (Int × (Int × (Int × (Int × (Int × Unit)))))))))))) × Unit) × (((Option Int) × Unit) × (Unit × Unit))) :=
  let x19 : Bool := (!d.2.2.2.2.1.1.isNone)
  bif x19 then (
  some (d.1, (d.2.2.2.2.1, ((), ()))))
  else (
  let x20 : Int := (isub .i64 d.2.2.1.1 (1 : Int))
  bif decide ((0 : Int) ≤ x20) && decide (x20 < (12 : Int)) then (
  bif decide (x20 = (0 : Int)) then (
  (T.2.1 (((d.2.2.2.1.1, d.1.1.2), ()), ((), ()))))
  else (
  bif decide (x20 = (1 : Int)) then (
  (T.2.1 (((d.1.1.1, (d.2.2.2.1.1, d.1.1.2.2)), ()), ((), ()))))
  else (
  bif decide (x20 = (2 : Int)) then (
  (T.2.1 (((d.1.1.1, (d.1.1.2.1, (d.2.2.2.1.1, d.1.1.2.2.2))), ()), ((), ()))))
  else (
  bif decide (x20 = (3 : Int)) then (
  (T.2.1 (((d.1.1.1, (d.1.1.2.1, (d.1.1.2.2.1, (d.2.2.2.1.1, d.1.1.2.2.2.2)))), ()), ((), ()))))
  else (
  bif decide (x20 = (4 : Int)) then (
  (T.2.1 (((d.1.1.1, (d.1.1.2.1, (d.1.1.2.2.1, (d.1.1.2.2.2.1, (d.2.2.2.1.1, d.1.1.2.2.2.2.2))))), ()), ((), ()))))
  else (
  bif decide (x20 = (5 : Int)) then (
  (T.2.1 (((d.1.1.1, (d.1.1.2.1, (d.1.1.2.2.1, (d.1.1.2.2.2.1, (d.1.1.2.2.2.2.1, (d.2.2.2.1.1, d.1.1.2.2.2.2.2.2)))))), ()), ((), ()))))
  else (
  bif decide (x20 = (6 : Int)) then (
  (T.2.1 (((d.1.1.1, (d.1.1.2.1, (d.1.1.2.2.1, (d.1.1.2.2.2.1, (d.1.1.2.2.2.2.1, (d.1.1.2.2.2.2.2.1, (d.2.2.2.1.1, d.1.1.2.2.2.2.2.2.2))))))), ()), ((), ()))))
  else (
  bif decide (x20 = (7 : Int)) then (
  (T.2.1 (((d.1.1.1, (d.1.1.2.1, (d.1.1.2.2.1, (d.1.1.2.2.2.1, (d.1.1.2.2.2.2.1, (d.1.1.2.2.2.2.2.1, (d.1.1.2.2.2.2.2.2.1, (d.2.2.2.1.1, d.1.1.2.2.2.2.2.2.2.2)))))))), ()), ((), ()))))
  else (
  bif decide (x20 = (8 : Int)) then (
  (T.2.1 (((d.1.1.1, (d.1.1.2.1, (d.1.1.2.2.1, (d.1.1.2.2.2.1, (d.1.1.2.2.2.2.1, (d.1.1.2.2.2.2.2.1, (d.1.1.2.2.2.2.2.2.1, (d.1.1.2.2.2.2.2.2.2.1, (d.2.2.2.1.1, d.1.1.2.2.2.2.2.2.2.2.2))))))))), ()), ((), ()))))
  else (
  bif decide (x20 = (9 : Int)) then (
  (T.2.1 (((d.1.1.1, (d.1.1.2.1, (d.1.1.2.2.1, (d.1.1.2.2.2.1, (d.1.1.2.2.2.2.1, (d.1.1.2.2.2.2.2.1, (d.1.1.2.2.2.2.2.2.1, (d.1.1.2.2.2.2.2.2.2.1, (d.1.1.2.2.2.2.2.2.2.2.1, (d.2.2.2.1.1, d.1.1.2.2.2.2.2.2.2.2.2.2)))))))))), ()), ((), ()))))
  else (
  bif decide (x20 = (10 : Int)) then (
  (T.2.1 (((d.1.1.1, (d.1.1.2.1, (d.1.1.2.2.1, (d.1.1.2.2.2.1, (d.1.1.2.2.2.2.1, (d.1.1.2.2.2.2.2.1, (d.1.1.2.2.2.2.2.2.1, (d.1.1.2.2.2.2.2.2.2.1, (d.1.1.2.2.2.2.2.2.2.2.1, (d.1.1.2.2.2.2.2.2.2.2.2.1, (d.2.2.2.1.1, d.1.1.2.2.2.2.2.2.2.2.2.2.2))))))))))), ()), ((), ()))))
  else (
  bif decide (x20 = (11 : Int)) then (
  (T.2.1 (((d.1.1.1, (d.1.1.2.1, (d.1.1.2.2.1, (d.1.1.2.2.2.1, (d.1.1.2.2.2.2.1, (d.1.1.2.2.2.2.2.1, (d.1.1.2.2.2.2.2.2.1, (d.1.1.2.2.2.2.2.2.2.1, (d.1.1.2.2.2.2.2.2.2.2.1, (d.1.1.2.2.2.2.2.2.2.2.2.1, (d.1.1.2.2.2.2.2.2.2.2.2.2.1, d.2.2.2.1))))))))))), ()), ((), ()))))
  else (
  none)))))))))))))
  else none)
def f_tally_Tally_Add_io_p12 (T : TT_tally_Tally_Add_io) (d : ((Int × (Int × (Int × (Int × (Int × (Int × (Int × (Int × (Int × (Int × (Int × (Int × Unit)))))))))))) × Unit) × (Unit × Unit)) : Option (((Int × (Int × (Int × (Int × (Int × (Int × (Int × (Int × (Int × (Int × (Int × (Int × Unit)))))))))))) × Unit) × (((Option Int) × Unit) × (Unit × Unit))) :=
  (T.2.2.1 (d.1, ((), (((none : Option Int), ()), ()))))
def f_tally_Tally_Add_io_p13 (T : TT_tally_Tally_Add_io) (d : ((Int × (Int × (Int × (Int × (Int × (Int × (Int × (Int × (Int × (Int × (Int × (Int × Unit)))))))))))) × Unit) × (Unit × (((Option Int) × Unit) × Unit))) : Option (((Int × (Int × (Int × (Int × (Int × (Int × (Int × (Int × (Int × (Int × (Int × (Int × Unit)))))))))))) × Unit) × (((Option Int) × Unit) × (Unit × Unit))) :=
  some (d.1, (d.2.2.1, ((), ())))
def f_tally_Tally_Add_io_t : Nat → TT_tally_Tally_Add_io
  | 0 => (fun _ => none, (fun _ => none, (fun _ => none, ())))
  | k + 1 => (f_tally_Tally_Add_io_p8 (f_tally_Tally_Add_io_t k), (f_tally_Tally_Add_io_p12 (f_tally_Tally_Add_io_t k), (f_tally_Tally_Add_io_p13 (f_tally_Tally_Add_io_t k), ())))
theorem t_tally_Tally_Add_io (k : Nat) : f_tally_Tally_Add_io_t (k + 1) = (f_tally_Tally_Add_io_p8 (f_tally_Tally_Add_io_t k), (f_tally_Tally_Add_io_p12 (f_tally_Tally_Add_io_t k), (f_tally_Tally_Add_io_p13 (f_tally_Tally_Add_io_t k), ()))) := rfl
def f_tally_Tally_Add_io_m (T : TT_tally_Tally_Add_io) (d : ((Int × (Int × (Int × (Int × (Int × (Int × (Int × (Int × (Int × (Int × (Int × (Int × Unit)))))))))))) × Unit) × (Unit × ((Int × Unit) × ((Int × Unit) × Unit)))) : Option (((Int × (Int × (Int × (Int × (Int × (Int × (Int × (Int × (Int × (Int × (Int × (Int × Unit)))))))))))) × Unit) × (((Option Int) × Unit) × (Unit × Unit))) :=
  (g_tally_known ((), (d.2.2.1, ()))).bind fun x1 =>
  let x2 : Bool := (!x1.2.1.1)
  bif x2 then (
  let x3 : (Option Int) := (some (11 : Int))
  some (d.1, ((x3, ()), ((), ()))))
  else (
  let x4 : Bool := (decide (d.2.2.2.1.1 < (0 : Int)))
  bif x4 then (
  let x5 : (Option Int) := (some (1 : Int))
  some (d.1, ((x5, ()), ((), ()))))
  else (
  let x6 : Int := (isub .i64 d.2.2.1.1 (1 : Int))
  bif decide ((0 : Int) ≤ x6) && decide (x6 < (12 : Int)) then (
  bif decide (x6 = (0 : Int)) then (
  (g_num_Add ((), ((d.1.1.1, ()), d.2.2.2))).bind fun x18 =>
  (T.1 (d.1, ((), (d.2.2.1, x18.2)))))
  else (
  bif decide (x6 = (1 : Int)) then (
  (g_num_Add ((), ((d.1.1.2.1, ()), d.2.2.2))).bind fun x17 =>
  (T.1 (d.1, ((), (d.2.2.1, x17.2)))))
  else (
  bif decide (x6 = (2 : Int)) then (
  (g_num_Add ((), ((d.1.1.2.2.1, ()), d.2.2.2))).bind fun x16 =>
  (T.1 (d.1, ((), (d.2.2.1, x16.2)))))
  else (
  bif decide (x6 = (3 : Int)) then (
  (g_num_Add ((), ((d.1.1.2.2.2.1, ()), d.2.2.2))).bind fun x15 =>
  (T.1 (d.1, ((), (d.2.2.1, x15.2)))))
  else (
  bif decide (x6 = (4 : Int)) then (
  (g_num_Add ((), ((d.1.1.2.2.2.2.1, ()), d.2.2.2))).bind fun x14 =>
  (T.1 (d.1, ((), (d.2.2.1, x14.2)))))
  else (
  bif decide (x6 = (5 : Int)) then (
  (g_num_Add ((), ((d.1.1.2.2.2.2.2.1, ()), d.2.2.2))).bind fun x13 =>
  (T.1 (d.1, ((), (d.2.2.1, x13.2)))))
  else (
  bif decide (x6 = (6 : Int)) then (
  (g_num_Add ((), ((d.1.1.2.2.2.2.2.2.1, ()), d.2.2.2))).bind fun x12 =>
  (T.1 (d.1, ((), (d.2.2.1, x12.2)))))
  else (
  bif decide (x6 = (7 : Int)) then (
  (g_num_Add ((), ((d.1.1.2.2.2.2.2.2.2.1, ()), d.2.2.2))).bind fun x11 =>
  (T.1 (d.1, ((), (d.2.2.1, x11.2)))))
  else (
  bif decide (x6 = (8 : Int)) then (
  (g_num_Add ((), ((d.1.1.2.2.2.2.2.2.2.2.1, ()), d.2.2.2))).bind fun x10 =>
  (T.1 (d.1, ((), (d.2.2.1, x10.2)))))
  else (
  bif decide (x6 = (9 : Int)) then (
  (g_num_Add ((), ((d.1.1.2.2.2.2.2.2.2.2.2.1, ()), d.2.2.2))).bind fun x9 =>
  (T.1 (d.1, ((), (d.2.2.1, x9.2)))))
  else (
  bif decide (x6 = (10 : Int)) then (
  (g_num_Add ((), ((d.1.1.2.2.2.2.2.2.2.2.2.2.1, ()), d.2.2.2))).bind fun x8 =>
  (T.1 (d.1, ((), (d.2.2.1, x8.2)))))
  else (
  bif decide (x6 = (11 : Int)) then (
  (g_num_Add ((), (d.1.1.2.2.2.2.2.2.2.2.2.2.2, d.2.2.2))).bind fun x7 =>
  (T.1 (d.1, ((), (d.2.2.1, x7.2)))))
  else (
  none)))))))))))))
  else none))
def c_tally_Tally_Add_io : List Nat := [8, 12, 13]
def L_tally_Tally_Add_io (k : Nat) : Pts po_tally_Tally_Add_io.den := [(8, ⟨sh_tally_Tally_Add_io_8, (f_tally_Tally_Add_io_t k).1⟩), (12, ⟨sh_tally_Tally_Add_io_12, (f_tally_Tally_Add_io_t k).2.1⟩), (13, ⟨sh_tally_Tally_Add_io_13, (f_tally_Tally_Add_io_t k).2.2.1⟩)]
def R_tally_Tally_Add_io (_ : Nat) : PtsR po_tally_Tally_Add_io.den := []
def E_tally_Tally_Add_io : Env := (((E0.add 23 (typedSem pi_tally_known po_tally_known g_tally_known)).add 24 (typedSem pi_num_Add po_num_Add g_num_Add)).kp [0])
theorem q_tally_Tally_Add_io_8 (k : Nat) (d : sh_tally_Tally_Add_io_8.den) : evAt E_tally_Tally_Add_io (tb (L_tally_Tally_Add_io k) (R_tally_Tally_Add_io k)) c_tally_Tally_Add_io 8 (bodyOf Tryd.f10) 0 (finKio E_tally_Tally_Add_io po_tally_Tally_Add_io [.tmp 6] [(0, none)]) (ptSt sh_tally_Tally_Add_io_8 d) = f_tally_Tally_Add_io_p8 (f_tally_Tally_Add_io_t k) d := by kernel_rfl
theorem q_tally_Tally_Add_io_12 (k : Nat) (d : sh_tally_Tally_Add_io_12.den) : evAt E_tally_Tally_Add_io (tb (L_tally_Tally_Add_io k) (R_tally_Tally_Add_io k)) c_tally_Tally_Add_io 12 (bodyOf Tryd.f10) 0 (finKio E_tally_Tally_Add_io po_tally_Tally_Add_io [.tmp 6] [(0, none)]) (ptSt sh_tally_Tally_Add_io_12 d) = f_tally_Tally_Add_io_p12 (f_tally_Tally_Add_io_t k) d := by kernel_rfl
theorem q_tally_Tally_Add_io_13 (k : Nat) (d : sh_tally_Tally_Add_io_13.den) : evAt E_tally_Tally_Add_io (tb (L_tally_Tally_Add_io k) (R_tally_Tally_Add_io k)) c_tally_Tally_Add_io 13 (bodyOf Tryd.f10) 0 (finKio E_tally_Tally_Add_io po_tally_Tally_Add_io [.tmp 6] [(0, none)]) (ptSt sh_tally_Tally_Add_io_13 d) = f_tally_Tally_Add_io_p13 (f_tally_Tally_Add_io_t k) d := by kernel_rfl
theorem q_tally_Tally_Add_io_m (k : Nat) (d : pi_tally_Tally_Add_io.den) : evCode E_tally_Tally_Add_io (tb (L_tally_Tally_Add_io k) (R_tally_Tally_Add_io k)) c_tally_Tally_Add_io (bodyOf Tryd.f10) 0 (finKio E_tally_Tally_Add_io po_tally_Tally_Add_io [.tmp 6] [(0, none)]) (startSt pi_tally_Tally_Add_io 44 d) = f_tally_Tally_Add_io_m (f_tally_Tally_Add_io_t k) d := by kernel_rfl
def g_tally_Tally_Add_io (d : ((Int × (Int × (Int × (Int × (Int × (Int × (Int × (Int × (Int × (Int × (Int × (Int × Unit)))))))))))) × Unit) × (Unit × ((Int × Unit) × ((Int × Unit) × Unit)))) : Option (((Int × (Int × (Int × (Int × (Int × (Int × (Int × (Int × (Int × (Int × (Int × (Int × Unit)))))))))))) × Unit) × (((Option Int) × Unit) × (Unit × Unit))) := lim fun k => f_tally_Tally_Add_io_m (f_tally_Tally_Add_io_t k) d
theorem ok_tally_Tally_Add_io : FnIo Tryd.prog ET0 10 pi_tally_Tally_Add_io po_tally_Tally_Add_io 1 [(0, 0, none)] g_tally_Tally_Add_io :=
  fn_of_bodyIo (E := E_tally_Tally_Add_io) (envOk_kp (envOk_add (envOk_add e0_ok (typed_ok ok_tally_known)) (typed_ok ok_num_Add))) (fn := Tryd.f10) Tryd.func10 (by kernel_rfl) (by kernel_rfl) [.tmp 6] [(0, none)] [(0, 0, none)] (by kernel_rfl) (by kernel_rfl) (by kernel_rfl) (by kernel_rfl) (by decide) (by decide) c_tally_Tally_Add_io L_tally_Tally_Add_io R_tally_Tally_Add_io
    (by intro x hx d; simp only [L_tally_Tally_Add_io, List.mem_cons, List.not_mem_nil, or_false] at hx; rcases hx with rfl | rfl | rfl; rfl; rfl; rfl)
    (by intro k x hx d out h; simp only [L_tally_Tally_Add_io, List.mem_cons, List.not_mem_nil, or_false] at hx; rcases hx with rfl | rfl | rfl; exact (q_tally_Tally_Add_io_8 k d).trans h; exact (q_tally_Tally_Add_io_12 k d).trans h; exact (q_tally_Tally_Add_io_13 k d).trans h)
    (by intro x hx; cases hx)
    (by intro k x hx; cases hx)
    (by intro d out h; obtain ⟨k, hk⟩ := lim_some h; exact ⟨k, (q_tally_Tally_Add_io_m k d).trans hk⟩)

@[reducible] def pi_law32_alive : PSh := ⟨[], []⟩
@[reducible] def po_law32_alive : PSh := ⟨[], [.mk false [vB]]⟩
def f_law32_alive_m (T : Unit) (d : Unit × Unit) : Option (Unit × ((Bool × Unit) × Unit)) :=
  (g_tally_New ((), ())).bind fun x1 =>
  (g_tally_Tally_Add_io (x1.1, ((), (((7 : Int), ()), (((5 : Int), ()), ()))))).bind fun x2 =>
  let x3 : Bool := (!x2.2.1.1.isNone)
  bif x3 then (
  some ((), ((false, ()), ())))
  else (
  (g_tally_Tally_Count ((), (((some (x2.1.1.1, (x2.1.1.2.1, (x2.1.1.2.2.1, (x2.1.1.2.2.2.1, (x2.1.1.2.2.2.2.1, (x2.1.1.2.2.2.2.2.1, (x2.1.1.2.2.2.2.2.2.1, (x2.1.1.2.2.2.2.2.2.2.1, (x2.1.1.2.2.2.2.2.2.2.2.1, (x2.1.1.2.2.2.2.2.2.2.2.2.1, (x2.1.1.2.2.2.2.2.2.2.2.2.2.1, x2.1.1.2.2.2.2.2.2.2.2.2.2.2.1)))))))))))), ()), (((7 : Int), ()), ())))).bind fun x4 =>
  let x5 : Bool := (x4.2.1.1 == (5 : Int))
  bif x5 then (
  (g_tally_Tally_Count ((), (((some (x2.1.1.1, (x2.1.1.2.1, (x2.1.1.2.2.1, (x2.1.1.2.2.2.1, (x2.1.1.2.2.2.2.1, (x2.1.1.2.2.2.2.2.1, (x2.1.1.2.2.2.2.2.2.1, (x2.1.1.2.2.2.2.2.2.2.1, (x2.1.1.2.2.2.2.2.2.2.2.1, (x2.1.1.2.2.2.2.2.2.2.2.2.1, (x2.1.1.2.2.2.2.2.2.2.2.2.2.1, x2.1.1.2.2.2.2.2.2.2.2.2.2.2.1)))))))))))), ()), (((8 : Int), ()), ())))).bind fun x6 =>
  let x7 : Bool := (x6.2.1.1 == (0 : Int))
  bif x7 then (
  (g_tally_Name ((), (((12 : Int), ()), ()))).bind fun x8 =>
  let x9 : Bool := (x8.2.1.1.toList == (⟨#[105, 100, 108, 101]⟩ : ByteArray).toList)
  some ((), ((x9, ()), ())))
  else (
  some ((), ((false, ()), ()))))
  else (
  some ((), ((false, ()), ()))))
def g_law32_alive (d : Unit × Unit) : Option (Unit × ((Bool × Unit) × Unit)) := f_law32_alive_m () d
theorem ok_law32_alive : FnOk Tryd.prog ET0 5 pi_law32_alive po_law32_alive g_law32_alive :=
  fn0 (E := ((((E0.add 6 (typedSem pi_tally_New po_tally_New g_tally_New)).add 10 (ioSem pi_tally_Tally_Add_io po_tally_Tally_Add_io 1 [(0, 0, none)] g_tally_Tally_Add_io)).add 13 (typedSem pi_tally_Tally_Count po_tally_Tally_Count g_tally_Tally_Count)).add 19 (typedSem pi_tally_Name po_tally_Name g_tally_Name))) (envOk_add (envOk_add (envOk_add (envOk_add e0_ok (typed_ok ok_tally_New)) (io_ok ok_tally_Tally_Add_io)) (typed_ok ok_tally_Tally_Count)) (typed_ok ok_tally_Name)) (fn := Tryd.f5) Tryd.func5 (by kernel_rfl) (by kernel_rfl) [.tmp 0] (by kernel_rfl) rfl rfl rfl [] fun d => by kernel_rfl

@[reducible] def pi_ref01_Of : PSh := ⟨[], [.mk false [vI]]⟩
@[reducible] def po_ref01_Of : PSh := ⟨[.row 75 (.int .u64)], [.mk true [vB, .osl 0]]⟩
@[reducible] def TT_ref01_Of : Type := (((((Bool × Unit) × ((List Int) × ((List Int) × Unit))) × ((Int × Unit) × (Unit × (Unit × ((Bool × Unit) × Unit))))) → Option (((List Int) × Unit) × ((Bool × Unit) × Unit))) × Unit)
@[reducible] def sh_ref01_Of_4 : PSh := ⟨[.var 55 [vB, .osl 1], .row 75 (.int .u64), .row 75 (.int .u64)], [.mk false [vI], .any, .mk false [.ref 0 0], .mk false [.osl 2], .mk false [vB], .any, .any, .any, .any, .any, .any, .any, .any, .any, .any, .any, .any, .any, .any, .any, .any, .any, .any, .any, .any, .any]⟩
def f_ref01_Of_p4 (T : TT_ref01_Of) (d : ((Bool × Unit) × ((List Int) × ((List Int) × Unit))) × ((Int × Unit) × (Unit × (Unit × ((Bool × Unit) × Unit))))) : Option (((List Int) × Unit) × ((Bool × Unit) × Unit)) :=
  let x2 : Bool := (d.2.1.1 != (0 : Int))
  bif x2 then (
  let x3 : Int := (Int.tmod d.2.1.1 (65536 : Int))
  let x4 : Bool := (decide (x3 < (0 : Int)))
  bif x4 then (
  let x5 : Int := (isub .i64 (0 : Int) x3)
  let x6 : Int := (iconv .u64 x5)
  let x7 : (List Int) := ([x6] : List Int)
  bif decide (((d.1.2.2.1.length + x7.length) * 8 : Nat) ≤ 140737488355328) && decide (d.1.2.2.1.length + x7.length ≤ 9223372036854775807) then (
  let x8 : (List Int) := (d.1.2.2.1 ++ x7)
  let x9 : Int := (iquo .i64 d.2.1.1 (65536 : Int))
  (T.1 ((d.1.1, (d.1.2.1, (x8, ()))), ((x9, ()), ((), ((), d.2.2.2.2))))))
  else none)
  else (
  let x10 : Int := (iconv .u64 x3)
  let x11 : (List Int) := ([x10] : List Int)
  bif decide (((d.1.2.2.1.length + x11.length) * 8 : Nat) ≤ 140737488355328) && decide (d.1.2.2.1.length + x11.length ≤ 9223372036854775807) then (
  let x12 : (List Int) := (d.1.2.2.1 ++ x11)
  let x13 : Int := (iquo .i64 d.2.1.1 (65536 : Int))
  (T.1 ((d.1.1, (d.1.2.1, (x12, ()))), ((x13, ()), ((), ((), d.2.2.2.2))))))
  else none))
  else (
  some (d.1.2.2, d.2.2.2.2))
def f_ref01_Of_t : Nat → TT_ref01_Of
  | 0 => (fun _ => none, ())
  | k + 1 => (f_ref01_Of_p4 (f_ref01_Of_t k), ())
theorem t_ref01_Of (k : Nat) : f_ref01_Of_t (k + 1) = (f_ref01_Of_p4 (f_ref01_Of_t k), ()) := rfl
def f_ref01_Of_m (T : TT_ref01_Of) (d : Unit × ((Int × Unit) × Unit)) : Option (((List Int) × Unit) × ((Bool × Unit) × Unit)) :=
  let x1 : Bool := (decide (d.2.1.1 < (0 : Int)))
  (T.1 (((false, ()), (([] : List Int), (([] : List Int), ()))), (d.2.1, ((), ((), ((x1, ()), ()))))))
def c_ref01_Of : List Nat := []
def L_ref01_Of (k : Nat) : Pts po_ref01_Of.den := [(4, ⟨sh_ref01_Of_4, (f_ref01_Of_t k).1⟩)]
def R_ref01_Of (_ : Nat) : PtsR po_ref01_Of.den := []
def E_ref01_Of : Env := E0
theorem q_ref01_Of_4 (k : Nat) (d : sh_ref01_Of_4.den) : evAt E_ref01_Of (tb (L_ref01_Of k) (R_ref01_Of k)) c_ref01_Of 4 (bodyOf Tryd.f22) 0 (finK E_ref01_Of po_ref01_Of [.cell 2 55]) (ptSt sh_ref01_Of_4 d) = f_ref01_Of_p4 (f_ref01_Of_t k) d := by kernel_rfl
theorem q_ref01_Of_m (k : Nat) (d : pi_ref01_Of.den) : evCode E_ref01_Of (tb (L_ref01_Of k) (R_ref01_Of k)) c_ref01_Of (bodyOf Tryd.f22) 0 (finK E_ref01_Of po_ref01_Of [.cell 2 55]) (startSt pi_ref01_Of 26 d) = f_ref01_Of_m (f_ref01_Of_t k) d := by kernel_rfl
def g_ref01_Of (d : Unit × ((Int × Unit) × Unit)) : Option (((List Int) × Unit) × ((Bool × Unit) × Unit)) := lim fun k => f_ref01_Of_m (f_ref01_Of_t k) d
theorem ok_ref01_Of : FnOk Tryd.prog ET0 22 pi_ref01_Of po_ref01_Of g_ref01_Of :=
  fn_of_body (E := E_ref01_Of) e0_ok (fn := Tryd.f22) Tryd.func22 (by kernel_rfl) (by kernel_rfl) [.cell 2 55] (by kernel_rfl) (by kernel_rfl) (by decide) rfl c_ref01_Of L_ref01_Of R_ref01_Of
    (by intro x hx d; simp only [L_ref01_Of, List.mem_cons, List.not_mem_nil, or_false] at hx; subst hx; rfl)
    (by intro k x hx d out h; simp only [L_ref01_Of, List.mem_cons, List.not_mem_nil, or_false] at hx; subst hx; exact (q_ref01_Of_4 k d).trans h)
    (by intro x hx; cases hx)
    (by intro k x hx; cases hx)
    (by intro d out h; obtain ⟨k, hk⟩ := lim_some h; exact ⟨k, (q_ref01_Of_m k d).trans hk⟩)

@[reducible] def pi_ref01_digit : PSh := ⟨[], [.mk false [.v (.sl (.int .u64))], .mk false [vI]]⟩
@[reducible] def po_ref01_digit : PSh := ⟨[], [.mk false [.v (.int .u64)]]⟩
def f_ref01_digit_m (T : Unit) (d : Unit × (((List Int) × Unit) × ((Int × Unit) × Unit))) : Option (Unit × ((Int × Unit) × Unit)) :=
  let x1 : Int := (d.2.1.1.length : Int)
  let x2 : Bool := (decide (d.2.2.1.1 < x1))
  bif x2 then (
  bif decide ((0 : Int) ≤ d.2.2.1.1) && decide (d.2.2.1.1 < (d.2.1.1.length : Int)) then (
  some ((), (((gd (.int .u64) d.2.1.1 d.2.2.1.1), ()), ())))
  else none)
  else (
  some ((), (((0 : Int), ()), ())))
def g_ref01_digit (d : Unit × (((List Int) × Unit) × ((Int × Unit) × Unit))) : Option (Unit × ((Int × Unit) × Unit)) := f_ref01_digit_m () d
theorem ok_ref01_digit : FnOk Tryd.prog ET0 48 pi_ref01_digit po_ref01_digit g_ref01_digit :=
  fn0 (E := E0) e0_ok (fn := Tryd.f48) Tryd.func48 (by kernel_rfl) (by kernel_rfl) [.tmp 4] (by kernel_rfl) rfl rfl rfl [] fun d => by kernel_rfl

@[reducible] def pi_ref01_less : PSh := ⟨[], [.mk false [.v (.sl (.int .u64))], .mk false [.v (.sl (.int .u64))]]⟩
@[reducible] def po_ref01_less : PSh := ⟨[], [.mk false [vB]]⟩
@[reducible] def TT_ref01_less : Type := (((Unit × (((List Int) × Unit) × (((List Int) × Unit) × ((Int × Unit) × Unit)))) → Option (Unit × ((Bool × Unit) × Unit))) × Unit)
@[reducible] def sh_ref01_less_3 : PSh := ⟨[], [.mk false [.v (.sl (.int .u64))], .mk false [.v (.sl (.int .u64))], .any, .any, .any, .mk false [vI], .any, .any, .any, .any, .any, .any, .any, .any, .any, .any, .any, .any, .any, .any, .any, .any, .any, .any, .any, .any, .any, .any, .any, .any]⟩
def f_ref01_less_p3 (T : TT_ref01_less) (d : Unit × (((List Int) × Unit) × (((List Int) × Unit) × ((Int × Unit) × Unit)))) : Option (Unit × ((Bool × Unit) × Unit)) :=
  let x5 : Bool := (decide (d.2.2.2.1.1 ≥ (0 : Int)))
  bif x5 then (
  (g_ref01_digit ((), (d.2.1, d.2.2.2))).bind fun x6 =>
  (g_ref01_digit ((), d.2.2)).bind fun x7 =>
  let x8 : Bool := (x6.2.1.1 != x7.2.1.1)
  bif x8 then (
  (g_ref01_digit ((), (d.2.1, d.2.2.2))).bind fun x9 =>
  (g_ref01_digit ((), d.2.2)).bind fun x10 =>
  let x11 : Bool := (decide (x9.2.1.1 < x10.2.1.1))
  some ((), ((x11, ()), ())))
  else (
  let x12 : Int := (isub .i64 d.2.2.2.1.1 (1 : Int))
  (T.1 ((), (d.2.1, (d.2.2.1, ((x12, ()), ())))))))
  else (
  some ((), ((false, ()), ())))
def f_ref01_less_t : Nat → TT_ref01_less
  | 0 => (fun _ => none, ())
  | k + 1 => (f_ref01_less_p3 (f_ref01_less_t k), ())
theorem t_ref01_less (k : Nat) : f_ref01_less_t (k + 1) = (f_ref01_less_p3 (f_ref01_less_t k), ()) := rfl
def f_ref01_less_m (T : TT_ref01_less) (d : Unit × (((List Int) × Unit) × (((List Int) × Unit) × Unit))) : Option (Unit × ((Bool × Unit) × Unit)) :=
  let x1 : Int := (d.2.1.1.length : Int)
  let x2 : Int := (d.2.2.1.1.length : Int)
  let x3 : Int := (if x2 > x1 then x2 else x1)
  let x4 : Int := (isub .i64 x3 (1 : Int))
  (T.1 ((), (d.2.1, (d.2.2.1, ((x4, ()), ())))))
def c_ref01_less : List Nat := []
def L_ref01_less (k : Nat) : Pts po_ref01_less.den := [(3, ⟨sh_ref01_less_3, (f_ref01_less_t k).1⟩)]
def R_ref01_less (_ : Nat) : PtsR po_ref01_less.den := []
def E_ref01_less : Env := (E0.add 48 (typedSem pi_ref01_digit po_ref01_digit g_ref01_digit))
theorem q_ref01_less_3 (k : Nat) (d : sh_ref01_less_3.den) : evAt E_ref01_less (tb (L_ref01_less k) (R_ref01_less k)) c_ref01_less 3 (bodyOf Tryd.f36) 0 (finK E_ref01_less po_ref01_less [.tmp 4]) (ptSt sh_ref01_less_3 d) = f_ref01_less_p3 (f_ref01_less_t k) d := by kernel_rfl
theorem q_ref01_less_m (k : Nat) (d : pi_ref01_less.den) : evCode E_ref01_less (tb (L_ref01_less k) (R_ref01_less k)) c_ref01_less (bodyOf Tryd.f36) 0 (finK E_ref01_less po_ref01_less [.tmp 4]) (startSt pi_ref01_less 30 d) = f_ref01_less_m (f_ref01_less_t k) d := by kernel_rfl
def g_ref01_less (d : Unit × (((List Int) × Unit) × (((List Int) × Unit) × Unit))) : Option (Unit × ((Bool × Unit) × Unit)) := lim fun k => f_ref01_less_m (f_ref01_less_t k) d
theorem ok_ref01_less : FnOk Tryd.prog ET0 36 pi_ref01_less po_ref01_less g_ref01_less :=
  fn_of_body (E := E_ref01_less) (envOk_add e0_ok (typed_ok ok_ref01_digit)) (fn := Tryd.f36) Tryd.func36 (by kernel_rfl) (by kernel_rfl) [.tmp 4] (by kernel_rfl) (by kernel_rfl) (by decide) rfl c_ref01_less L_ref01_less R_ref01_less
    (by intro x hx d; simp only [L_ref01_less, List.mem_cons, List.not_mem_nil, or_false] at hx; subst hx; rfl)
    (by intro k x hx d out h; simp only [L_ref01_less, List.mem_cons, List.not_mem_nil, or_false] at hx; subst hx; exact (q_ref01_less_3 k d).trans h)
    (by intro x hx; cases hx)
    (by intro k x hx; cases hx)
    (by intro d out h; obtain ⟨k, hk⟩ := lim_some h; exact ⟨k, (q_ref01_less_m k d).trans hk⟩)

@[reducible] def pi_ref01_Less : PSh := ⟨[], [.mk true [vB, .v (.sl (.int .u64))], .mk true [vB, .v (.sl (.int .u64))]]⟩
@[reducible] def po_ref01_Less : PSh := ⟨[], [.mk false [vB]]⟩
def f_ref01_Less_m (T : Unit) (d : Unit × ((Bool × ((List Int) × Unit)) × ((Bool × ((List Int) × Unit)) × Unit))) : Option (Unit × ((Bool × Unit) × Unit)) :=
  let x1 : Bool := (!(d.2.1.1 == d.2.2.1.1))
  bif x1 then (
  some ((), ((d.2.1.1, ()), ())))
  else (
  bif d.2.1.1 then (
  (g_ref01_less ((), (d.2.2.1.2, (d.2.1.2, ())))).bind fun x2 =>
  some ((), x2.2))
  else (
  (g_ref01_less ((), (d.2.1.2, (d.2.2.1.2, ())))).bind fun x3 =>
  some ((), x3.2)))
def g_ref01_Less (d : Unit × ((Bool × ((List Int) × Unit)) × ((Bool × ((List Int) × Unit)) × Unit))) : Option (Unit × ((Bool × Unit) × Unit)) := f_ref01_Less_m () d
theorem ok_ref01_Less : FnOk Tryd.prog ET0 34 pi_ref01_Less po_ref01_Less g_ref01_Less :=
  fn0 (E := (E0.add 36 (typedSem pi_ref01_less po_ref01_less g_ref01_less))) (envOk_add e0_ok (typed_ok ok_ref01_less)) (fn := Tryd.f34) Tryd.func34 (by kernel_rfl) (by kernel_rfl) [.tmp 4] (by kernel_rfl) rfl rfl rfl [] fun d => by kernel_rfl

@[reducible] def pi_ref01_Small : PSh := ⟨[], [.mk true [vB, .v (.sl (.int .u64))]]⟩
@[reducible] def po_ref01_Small : PSh := ⟨[], [.mk false [vI], .mk false [vI]]⟩
@[reducible] def TT_ref01_Small : Type := (((((Bool × ((List Int) × Unit)) × Unit) × (Unit × ((Int × Unit) × ((Int × Unit) × Unit)))) → Option (Unit × ((Int × Unit) × ((Int × Unit) × Unit)))) × Unit)
@[reducible] def sh_ref01_Small_8 : PSh := ⟨[.var 55 [vB, .v (.sl (.int .u64))]], [.any, .mk false [.ref 0 0], .any, .any, .any, .any, .mk false [vI], .mk false [vI], .any, .any, .any, .any, .any, .any, .any, .any, .any, .any, .any, .any, .any, .any, .any, .any, .any, .any, .any, .any, .any, .any, .any, .any, .any, .any, .any, .any, .any, .any, .any, .any, .any, .any, .any, .any, .any, .any, .any]⟩
def f_ref01_Small_p8 (T : TT_ref01_Small) (d : ((Bool × ((List Int) × Unit)) × Unit) × (Unit × ((Int × Unit) × ((Int × Unit) × Unit)))) : Option (Unit × ((Int × Unit) × ((Int × Unit) × Unit))) :=
  let x7 : Bool := (decide (d.2.2.2.1.1 ≥ (0 : Int)))
  bif x7 then (
  let x8 : Int := (imul .i64 d.2.2.1.1 (65536 : Int))
  bif d.1.1.1 then (
  bif decide ((0 : Int) ≤ d.2.2.2.1.1) && decide (d.2.2.2.1.1 < (d.1.1.2.1.length : Int)) then (
  let x9 : Int := (iconv .i64 (gd (.int .u64) d.1.1.2.1 d.2.2.2.1.1))
  let x10 : Int := (isub .i64 x8 x9)
  let x11 : Int := (isub .i64 d.2.2.2.1.1 (1 : Int))
  (T.1 (d.1, ((), ((x10, ()), ((x11, ()), ()))))))
  else none)
  else (
  bif decide ((0 : Int) ≤ d.2.2.2.1.1) && decide (d.2.2.2.1.1 < (d.1.1.2.1.length : Int)) then (
  let x12 : Int := (iconv .i64 (gd (.int .u64) d.1.1.2.1 d.2.2.2.1.1))
  let x13 : Int := (iadd .i64 x8 x12)
  let x14 : Int := (isub .i64 d.2.2.2.1.1 (1 : Int))
  (T.1 (d.1, ((), ((x13, ()), ((x14, ()), ()))))))
  else none))
  else (
  some ((), (d.2.2.1, (((0 : Int), ()), ()))))
def f_ref01_Small_t : Nat → TT_ref01_Small
  | 0 => (fun _ => none, ())
  | k + 1 => (f_ref01_Small_p8 (f_ref01_Small_t k), ())
theorem t_ref01_Small (k : Nat) : f_ref01_Small_t (k + 1) = (f_ref01_Small_p8 (f_ref01_Small_t k), ()) := rfl
def f_ref01_Small_m (T : TT_ref01_Small) (d : Unit × ((Bool × ((List Int) × Unit)) × Unit)) : Option (Unit × ((Int × Unit) × ((Int × Unit) × Unit))) :=
  (g_ref01_Of ((), (((-9223372036854775808 : Int), ()), ()))).bind fun x1 =>
  (g_ref01_Of ((), (((9223372036854775807 : Int), ()), ()))).bind fun x2 =>
  (g_ref01_Less ((), (d.2.1, ((x1.2.1.1, x1.1), ())))).bind fun x3 =>
  bif x3.2.1.1 then (
  some ((), (((0 : Int), ()), (((5 : Int), ()), ()))))
  else (
  (g_ref01_Less ((), ((x2.2.1.1, x2.1), d.2))).bind fun x4 =>
  bif x4.2.1.1 then (
  some ((), (((0 : Int), ()), (((5 : Int), ()), ()))))
  else (
  let x5 : Int := (d.2.1.2.1.length : Int)
  let x6 : Int := (isub .i64 x5 (1 : Int))
  (T.1 (d.2, ((), (((0 : Int), ()), ((x6, ()), ())))))))
def c_ref01_Small : List Nat := []
def L_ref01_Small (k : Nat) : Pts po_ref01_Small.den := [(8, ⟨sh_ref01_Small_8, (f_ref01_Small_t k).1⟩)]
def R_ref01_Small (_ : Nat) : PtsR po_ref01_Small.den := []
def E_ref01_Small : Env := ((E0.add 22 (typedSem pi_ref01_Of po_ref01_Of g_ref01_Of)).add 34 (typedSem pi_ref01_Less po_ref01_Less g_ref01_Less))
theorem q_ref01_Small_8 (k : Nat) (d : sh_ref01_Small_8.den) : evAt E_ref01_Small (tb (L_ref01_Small k) (R_ref01_Small k)) c_ref01_Small 8 (bodyOf Tryd.f20) 0 (finK E_ref01_Small po_ref01_Small [.tmp 2, .tmp 3]) (ptSt sh_ref01_Small_8 d) = f_ref01_Small_p8 (f_ref01_Small_t k) d := by kernel_rfl
theorem q_ref01_Small_m (k : Nat) (d : pi_ref01_Small.den) : evCode E_ref01_Small (tb (L_ref01_Small k) (R_ref01_Small k)) c_ref01_Small (bodyOf Tryd.f20) 0 (finK E_ref01_Small po_ref01_Small [.tmp 2, .tmp 3]) (startSt pi_ref01_Small 47 d) = f_ref01_Small_m (f_ref01_Small_t k) d := by kernel_rfl
def g_ref01_Small (d : Unit × ((Bool × ((List Int) × Unit)) × Unit)) : Option (Unit × ((Int × Unit) × ((Int × Unit) × Unit))) := lim fun k => f_ref01_Small_m (f_ref01_Small_t k) d
theorem ok_ref01_Small : FnOk Tryd.prog ET0 20 pi_ref01_Small po_ref01_Small g_ref01_Small :=
  fn_of_body (E := E_ref01_Small) (envOk_add (envOk_add e0_ok (typed_ok ok_ref01_Of)) (typed_ok ok_ref01_Less)) (fn := Tryd.f20) Tryd.func20 (by kernel_rfl) (by kernel_rfl) [.tmp 2, .tmp 3] (by kernel_rfl) (by kernel_rfl) (by decide) rfl c_ref01_Small L_ref01_Small R_ref01_Small
    (by intro x hx d; simp only [L_ref01_Small, List.mem_cons, List.not_mem_nil, or_false] at hx; subst hx; rfl)
    (by intro k x hx d out h; simp only [L_ref01_Small, List.mem_cons, List.not_mem_nil, or_false] at hx; subst hx; exact (q_ref01_Small_8 k d).trans h)
    (by intro x hx; cases hx)
    (by intro k x hx; cases hx)
    (by intro d out h; obtain ⟨k, hk⟩ := lim_some h; exact ⟨k, (q_ref01_Small_m k d).trans hk⟩)

@[reducible] def pi_ref01_plus : PSh := ⟨[], [.mk false [.v (.sl (.int .u64))], .mk false [.v (.sl (.int .u64))]]⟩
@[reducible] def po_ref01_plus : PSh := ⟨[.row 75 (.int .u64)], [.mk false [.osl 0]]⟩
@[reducible] def TT_ref01_plus : Type := (((((List Int) × Unit) × (((List Int) × Unit) × (((List Int) × Unit) × (Unit × ((Int × Unit) × ((Int × Unit) × Unit)))))) → Option (((List Int) × Unit) × (Unit × Unit))) × Unit)
@[reducible] def sh_ref01_plus_5 : PSh := ⟨[.row 75 (.int .u64)], [.mk false [.v (.sl (.int .u64))], .mk false [.v (.sl (.int .u64))], .any, .any, .any, .mk false [.osl 0], .mk false [.v (.int .u64)], .mk false [vI], .any, .any, .any, .any, .any, .any, .any, .any, .any, .any, .any, .any, .any, .any, .any, .any, .any, .any, .any, .any, .any, .any, .any, .any, .any, .any, .any, .any, .any, .any, .any, .any, .any, .any]⟩
def f_ref01_plus_p5 (T : TT_ref01_plus) (d : ((List Int) × Unit) × (((List Int) × Unit) × (((List Int) × Unit) × (Unit × ((Int × Unit) × ((Int × Unit) × Unit)))))) : Option (((List Int) × Unit) × (Unit × Unit)) :=
  let x1 : Int := (d.2.1.1.length : Int)
  let x2 : Bool := (decide (d.2.2.2.2.2.1.1 < x1))
  bif x2 then (
  (g_ref01_digit ((), (d.2.1, d.2.2.2.2.2))).bind fun x3 =>
  (g_ref01_digit ((), (d.2.2.1, d.2.2.2.2.2))).bind fun x4 =>
  let x5 : Int := (iadd .u64 x3.2.1.1 x4.2.1.1)
  let x6 : Int := (iadd .u64 x5 d.2.2.2.2.1.1)
  let x7 : Int := (Int.tmod x6 (65536 : Int))
  let x8 : (List Int) := ([x7] : List Int)
  bif decide (((d.1.1.length + x8.length) * 8 : Nat) ≤ 140737488355328) && decide (d.1.1.length + x8.length ≤ 9223372036854775807) then (
  let x9 : (List Int) := (d.1.1 ++ x8)
  let x10 : Int := (iquo .u64 x6 (65536 : Int))
  let x11 : Int := (iadd .i64 d.2.2.2.2.2.1.1 (1 : Int))
  (T.1 ((x9, ()), (d.2.1, (d.2.2.1, ((), ((x10, ()), ((x11, ()), ()))))))))
  else none)
  else (
  let x12 : Int := (d.2.2.1.1.length : Int)
  let x13 : Bool := (decide (d.2.2.2.2.2.1.1 < x12))
  bif x13 then (
  (g_ref01_digit ((), (d.2.1, d.2.2.2.2.2))).bind fun x14 =>
  (g_ref01_digit ((), (d.2.2.1, d.2.2.2.2.2))).bind fun x15 =>
  let x16 : Int := (iadd .u64 x14.2.1.1 x15.2.1.1)
  let x17 : Int := (iadd .u64 x16 d.2.2.2.2.1.1)
  let x18 : Int := (Int.tmod x17 (65536 : Int))
  let x19 : (List Int) := ([x18] : List Int)
  bif decide (((d.1.1.length + x19.length) * 8 : Nat) ≤ 140737488355328) && decide (d.1.1.length + x19.length ≤ 9223372036854775807) then (
  let x20 : (List Int) := (d.1.1 ++ x19)
  let x21 : Int := (iquo .u64 x17 (65536 : Int))
  let x22 : Int := (iadd .i64 d.2.2.2.2.2.1.1 (1 : Int))
  (T.1 ((x20, ()), (d.2.1, (d.2.2.1, ((), ((x21, ()), ((x22, ()), ()))))))))
  else none)
  else (
  let x23 : Bool := (decide (d.2.2.2.2.1.1 > (0 : Int)))
  bif x23 then (
  (g_ref01_digit ((), (d.2.1, d.2.2.2.2.2))).bind fun x24 =>
  (g_ref01_digit ((), (d.2.2.1, d.2.2.2.2.2))).bind fun x25 =>
  let x26 : Int := (iadd .u64 x24.2.1.1 x25.2.1.1)
  let x27 : Int := (iadd .u64 x26 d.2.2.2.2.1.1)
  let x28 : Int := (Int.tmod x27 (65536 : Int))
  let x29 : (List Int) := ([x28] : List Int)
  bif decide (((d.1.1.length + x29.length) * 8 : Nat) ≤ 140737488355328) && decide (d.1.1.length + x29.length ≤ 9223372036854775807) then (
  let x30 : (List Int) := (d.1.1 ++ x29)
  let x31 : Int := (iquo .u64 x27 (65536 : Int))
  let x32 : Int := (iadd .i64 d.2.2.2.2.2.1.1 (1 : Int))
  (T.1 ((x30, ()), (d.2.1, (d.2.2.1, ((), ((x31, ()), ((x32, ()), ()))))))))
  else none)
  else (
  some (d.1, ((), ())))))
def f_ref01_plus_t : Nat → TT_ref01_plus
  | 0 => (fun _ => none, ())
  | k + 1 => (f_ref01_plus_p5 (f_ref01_plus_t k), ())
theorem t_ref01_plus (k : Nat) : f_ref01_plus_t (k + 1) = (f_ref01_plus_p5 (f_ref01_plus_t k), ()) := rfl
def f_ref01_plus_m (T : TT_ref01_plus) (d : Unit × (((List Int) × Unit) × (((List Int) × Unit) × Unit))) : Option (((List Int) × Unit) × (Unit × Unit)) :=
  (T.1 ((([] : List Int), ()), (d.2.1, (d.2.2.1, ((), (((0 : Int), ()), (((0 : Int), ()), ())))))))
def c_ref01_plus : List Nat := []
def L_ref01_plus (k : Nat) : Pts po_ref01_plus.den := [(5, ⟨sh_ref01_plus_5, (f_ref01_plus_t k).1⟩)]
def R_ref01_plus (_ : Nat) : PtsR po_ref01_plus.den := []
def E_ref01_plus : Env := (E0.add 48 (typedSem pi_ref01_digit po_ref01_digit g_ref01_digit))
theorem q_ref01_plus_5 (k : Nat) (d : sh_ref01_plus_5.den) : evAt E_ref01_plus (tb (L_ref01_plus k) (R_ref01_plus k)) c_ref01_plus 5 (bodyOf Tryd.f35) 0 (finK E_ref01_plus po_ref01_plus [.tmp 4]) (ptSt sh_ref01_plus_5 d) = f_ref01_plus_p5 (f_ref01_plus_t k) d := by kernel_rfl
theorem q_ref01_plus_m (k : Nat) (d : pi_ref01_plus.den) : evCode E_ref01_plus (tb (L_ref01_plus k) (R_ref01_plus k)) c_ref01_plus (bodyOf Tryd.f35) 0 (finK E_ref01_plus po_ref01_plus [.tmp 4]) (startSt pi_ref01_plus 42 d) = f_ref01_plus_m (f_ref01_plus_t k) d := by kernel_rfl
def g_ref01_plus (d : Unit × (((List Int) × Unit) × (((List Int) × Unit) × Unit))) : Option (((List Int) × Unit) × (Unit × Unit)) := lim fun k => f_ref01_plus_m (f_ref01_plus_t k) d
theorem ok_ref01_plus : FnOk Tryd.prog ET0 35 pi_ref01_plus po_ref01_plus g_ref01_plus :=
  fn_of_body (E := E_ref01_plus) (envOk_add e0_ok (typed_ok ok_ref01_digit)) (fn := Tryd.f35) Tryd.func35 (by kernel_rfl) (by kernel_rfl) [.tmp 4] (by kernel_rfl) (by kernel_rfl) (by decide) rfl c_ref01_plus L_ref01_plus R_ref01_plus
    (by intro x hx d; simp only [L_ref01_plus, List.mem_cons, List.not_mem_nil, or_false] at hx; subst hx; rfl)
    (by intro k x hx d out h; simp only [L_ref01_plus, List.mem_cons, List.not_mem_nil, or_false] at hx; subst hx; exact (q_ref01_plus_5 k d).trans h)
    (by intro x hx; cases hx)
    (by intro k x hx; cases hx)
    (by intro d out h; obtain ⟨k, hk⟩ := lim_some h; exact ⟨k, (q_ref01_plus_m k d).trans hk⟩)

@[reducible] def pi_ref01_cut : PSh := ⟨[], [.mk false [.v (.sl (.int .u64))]]⟩
@[reducible] def po_ref01_cut : PSh := ⟨[], [.mk false [.v (.sl (.int .u64))]]⟩
@[reducible] def TT_ref01_cut : Type := (((Unit × (((List Int) × Unit) × Unit)) → Option (Unit × (((List Int) × Unit) × Unit))) × Unit)
@[reducible] def sh_ref01_cut_2 : PSh := ⟨[], [.mk false [.v (.sl (.int .u64))], .any, .any, .any, .any, .any, .any, .any, .any, .any, .any, .any, .any, .any, .any, .any, .any, .any, .any, .any, .any]⟩
def f_ref01_cut_p2 (T : TT_ref01_cut) (d : Unit × (((List Int) × Unit) × Unit)) : Option (Unit × (((List Int) × Unit) × Unit)) :=
  let x1 : Int := (d.2.1.1.length : Int)
  let x2 : Bool := (decide (x1 > (0 : Int)))
  bif x2 then (
  let x3 : Int := (d.2.1.1.length : Int)
  let x4 : Int := (isub .i64 x3 (1 : Int))
  bif decide ((0 : Int) ≤ x4) && decide (x4 < (d.2.1.1.length : Int)) then (
  let x5 : Bool := ((gd (.int .u64) d.2.1.1 x4) == (0 : Int))
  bif x5 then (
  let x6 : Int := (d.2.1.1.length : Int)
  let x7 : Int := (isub .i64 x6 (1 : Int))
  bif decide ((0 : Int) ≤ (0 : Int)) && decide ((0 : Int) ≤ x7) && decide (x7 ≤ (d.2.1.1.length : Int)) then (
  let x8 : (List Int) := (List.drop (Int.toNat (0 : Int)) (List.take (Int.toNat x7) d.2.1.1))
  (T.1 ((), ((x8, ()), ()))))
  else none)
  else (
  some ((), d.2)))
  else none)
  else (
  some ((), d.2))
def f_ref01_cut_t : Nat → TT_ref01_cut
  | 0 => (fun _ => none, ())
  | k + 1 => (f_ref01_cut_p2 (f_ref01_cut_t k), ())
theorem t_ref01_cut (k : Nat) : f_ref01_cut_t (k + 1) = (f_ref01_cut_p2 (f_ref01_cut_t k), ()) := rfl
def f_ref01_cut_m (T : TT_ref01_cut) (d : Unit × (((List Int) × Unit) × Unit)) : Option (Unit × (((List Int) × Unit) × Unit)) :=
  (T.1 ((), d.2))
def c_ref01_cut : List Nat := []
def L_ref01_cut (k : Nat) : Pts po_ref01_cut.den := [(2, ⟨sh_ref01_cut_2, (f_ref01_cut_t k).1⟩)]
def R_ref01_cut (_ : Nat) : PtsR po_ref01_cut.den := []
def E_ref01_cut : Env := E0
theorem q_ref01_cut_2 (k : Nat) (d : sh_ref01_cut_2.den) : evAt E_ref01_cut (tb (L_ref01_cut k) (R_ref01_cut k)) c_ref01_cut 2 (bodyOf Tryd.f49) 0 (finK E_ref01_cut po_ref01_cut [.tmp 2]) (ptSt sh_ref01_cut_2 d) = f_ref01_cut_p2 (f_ref01_cut_t k) d := by kernel_rfl
theorem q_ref01_cut_m (k : Nat) (d : pi_ref01_cut.den) : evCode E_ref01_cut (tb (L_ref01_cut k) (R_ref01_cut k)) c_ref01_cut (bodyOf Tryd.f49) 0 (finK E_ref01_cut po_ref01_cut [.tmp 2]) (startSt pi_ref01_cut 21 d) = f_ref01_cut_m (f_ref01_cut_t k) d := by kernel_rfl
def g_ref01_cut (d : Unit × (((List Int) × Unit) × Unit)) : Option (Unit × (((List Int) × Unit) × Unit)) := lim fun k => f_ref01_cut_m (f_ref01_cut_t k) d
theorem ok_ref01_cut : FnOk Tryd.prog ET0 49 pi_ref01_cut po_ref01_cut g_ref01_cut :=
  fn_of_body (E := E_ref01_cut) e0_ok (fn := Tryd.f49) Tryd.func49 (by kernel_rfl) (by kernel_rfl) [.tmp 2] (by kernel_rfl) (by kernel_rfl) (by decide) rfl c_ref01_cut L_ref01_cut R_ref01_cut
    (by intro x hx d; simp only [L_ref01_cut, List.mem_cons, List.not_mem_nil, or_false] at hx; subst hx; rfl)
    (by intro k x hx d out h; simp only [L_ref01_cut, List.mem_cons, List.not_mem_nil, or_false] at hx; subst hx; exact (q_ref01_cut_2 k d).trans h)
    (by intro x hx; cases hx)
    (by intro k x hx; cases hx)
    (by intro d out h; obtain ⟨k, hk⟩ := lim_some h; exact ⟨k, (q_ref01_cut_m k d).trans hk⟩)

@[reducible] def pi_ref01_minus : PSh := ⟨[], [.mk false [.v (.sl (.int .u64))], .mk false [.v (.sl (.int .u64))]]⟩
@[reducible] def po_ref01_minus : PSh := ⟨[], [.mk false [.v (.sl (.int .u64))]]⟩
@[reducible] def TT_ref01_minus : Type := (((((List Int) × Unit) × (((List Int) × Unit) × (((List Int) × Unit) × (Unit × ((Int × Unit) × ((Int × Unit) × Unit)))))) → Option (Unit × (((List Int) × Unit) × Unit))) × Unit)
@[reducible] def sh_ref01_minus_5 : PSh := ⟨[.row 75 (.int .u64)], [.mk false [.v (.sl (.int .u64))], .mk false [.v (.sl (.int .u64))], .any, .any, .any, .mk false [.osl 0], .mk false [.v (.int .u64)], .mk false [vI], .any, .any, .any, .any, .any, .any, .any, .any, .any, .any, .any, .any, .any, .any, .any, .any, .any, .any, .any, .any, .any, .any, .any, .any, .any, .any, .any]⟩
def f_ref01_minus_p5 (T : TT_ref01_minus) (d : ((List Int) × Unit) × (((List Int) × Unit) × (((List Int) × Unit) × (Unit × ((Int × Unit) × ((Int × Unit) × Unit)))))) : Option (Unit × (((List Int) × Unit) × Unit)) :=
  let x1 : Int := (d.2.1.1.length : Int)
  let x2 : Bool := (decide (d.2.2.2.2.2.1.1 < x1))
  bif x2 then (
  (g_ref01_digit ((), (d.2.1, d.2.2.2.2.2))).bind fun x3 =>
  let x4 : Int := (iadd .u64 (65536 : Int) x3.2.1.1)
  (g_ref01_digit ((), (d.2.2.1, d.2.2.2.2.2))).bind fun x5 =>
  let x6 : Int := (isub .u64 x4 x5.2.1.1)
  let x7 : Int := (isub .u64 x6 d.2.2.2.2.1.1)
  let x8 : Int := (Int.tmod x7 (65536 : Int))
  let x9 : (List Int) := ([x8] : List Int)
  bif decide (((d.1.1.length + x9.length) * 8 : Nat) ≤ 140737488355328) && decide (d.1.1.length + x9.length ≤ 9223372036854775807) then (
  let x10 : (List Int) := (d.1.1 ++ x9)
  let x11 : Int := (iquo .u64 x7 (65536 : Int))
  let x12 : Int := (isub .u64 (1 : Int) x11)
  let x13 : Int := (iadd .i64 d.2.2.2.2.2.1.1 (1 : Int))
  (T.1 ((x10, ()), (d.2.1, (d.2.2.1, ((), ((x12, ()), ((x13, ()), ()))))))))
  else none)
  else (
  (g_ref01_cut ((), (d.1, ()))).bind fun x14 =>
  some ((), x14.2))
def f_ref01_minus_t : Nat → TT_ref01_minus
  | 0 => (fun _ => none, ())
  | k + 1 => (f_ref01_minus_p5 (f_ref01_minus_t k), ())
theorem t_ref01_minus (k : Nat) : f_ref01_minus_t (k + 1) = (f_ref01_minus_p5 (f_ref01_minus_t k), ()) := rfl
def f_ref01_minus_m (T : TT_ref01_minus) (d : Unit × (((List Int) × Unit) × (((List Int) × Unit) × Unit))) : Option (Unit × (((List Int) × Unit) × Unit)) :=
  (T.1 ((([] : List Int), ()), (d.2.1, (d.2.2.1, ((), (((0 : Int), ()), (((0 : Int), ()), ())))))))
def c_ref01_minus : List Nat := []
def L_ref01_minus (k : Nat) : Pts po_ref01_minus.den := [(5, ⟨sh_ref01_minus_5, (f_ref01_minus_t k).1⟩)]
def R_ref01_minus (_ : Nat) : PtsR po_ref01_minus.den := []
def E_ref01_minus : Env := (((E0.add 48 (typedSem pi_ref01_digit po_ref01_digit g_ref01_digit)).add 49 (typedSem pi_ref01_cut po_ref01_cut g_ref01_cut)).fr [(34, [33])])
theorem q_ref01_minus_5 (k : Nat) (d : sh_ref01_minus_5.den) : evAt E_ref01_minus (tb (L_ref01_minus k) (R_ref01_minus k)) c_ref01_minus 5 (bodyOf Tryd.f37) 0 (finK E_ref01_minus po_ref01_minus [.tmp 4]) (ptSt sh_ref01_minus_5 d) = f_ref01_minus_p5 (f_ref01_minus_t k) d := by kernel_rfl
theorem q_ref01_minus_m (k : Nat) (d : pi_ref01_minus.den) : evCode E_ref01_minus (tb (L_ref01_minus k) (R_ref01_minus k)) c_ref01_minus (bodyOf Tryd.f37) 0 (finK E_ref01_minus po_ref01_minus [.tmp 4]) (startSt pi_ref01_minus 35 d) = f_ref01_minus_m (f_ref01_minus_t k) d := by kernel_rfl
def g_ref01_minus (d : Unit × (((List Int) × Unit) × (((List Int) × Unit) × Unit))) : Option (Unit × (((List Int) × Unit) × Unit)) := lim fun k => f_ref01_minus_m (f_ref01_minus_t k) d
theorem ok_ref01_minus : FnOk Tryd.prog ET0 37 pi_ref01_minus po_ref01_minus g_ref01_minus :=
  fn_of_body (E := E_ref01_minus) (envOk_fr (envOk_add (envOk_add e0_ok (typed_ok ok_ref01_digit)) (typed_ok ok_ref01_cut))) (fn := Tryd.f37) Tryd.func37 (by kernel_rfl) (by kernel_rfl) [.tmp 4] (by kernel_rfl) (by kernel_rfl) (by decide) rfl c_ref01_minus L_ref01_minus R_ref01_minus
    (by intro x hx d; simp only [L_ref01_minus, List.mem_cons, List.not_mem_nil, or_false] at hx; subst hx; rfl)
    (by intro k x hx d out h; simp only [L_ref01_minus, List.mem_cons, List.not_mem_nil, or_false] at hx; subst hx; exact (q_ref01_minus_5 k d).trans h)
    (by intro x hx; cases hx)
    (by intro k x hx; cases hx)
    (by intro d out h; obtain ⟨k, hk⟩ := lim_some h; exact ⟨k, (q_ref01_minus_m k d).trans hk⟩)

@[reducible] def pi_ref01_Plus : PSh := ⟨[], [.mk true [vB, .v (.sl (.int .u64))], .mk true [vB, .v (.sl (.int .u64))]]⟩
@[reducible] def po_ref01_Plus : PSh := ⟨[], [.mk true [vB, .v (.sl (.int .u64))]]⟩
def f_ref01_Plus_m (T : Unit) (d : Unit × ((Bool × ((List Int) × Unit)) × ((Bool × ((List Int) × Unit)) × Unit))) : Option (Unit × ((Bool × ((List Int) × Unit)) × Unit)) :=
  let x1 : Bool := (d.2.1.1 == d.2.2.1.1)
  bif x1 then (
  (g_ref01_plus ((), (d.2.1.2, (d.2.2.1.2, ())))).bind fun x2 =>
  some ((), ((d.2.1.1, x2.1), ())))
  else (
  (g_ref01_less ((), (d.2.1.2, (d.2.2.1.2, ())))).bind fun x3 =>
  bif x3.2.1.1 then (
  (g_ref01_minus ((), (d.2.2.1.2, (d.2.1.2, ())))).bind fun x4 =>
  some ((), ((d.2.2.1.1, x4.2.1), ())))
  else (
  (g_ref01_minus ((), (d.2.1.2, (d.2.2.1.2, ())))).bind fun x5 =>
  bif d.2.1.1 then (
  let x6 : Int := (x5.2.1.1.length : Int)
  let x7 : Bool := (decide (x6 > (0 : Int)))
  some ((), ((x7, x5.2.1), ())))
  else (
  some ((), ((false, x5.2.1), ())))))
def g_ref01_Plus (d : Unit × ((Bool × ((List Int) × Unit)) × ((Bool × ((List Int) × Unit)) × Unit))) : Option (Unit × ((Bool × ((List Int) × Unit)) × Unit)) := f_ref01_Plus_m () d
theorem ok_ref01_Plus : FnOk Tryd.prog ET0 21 pi_ref01_Plus po_ref01_Plus g_ref01_Plus :=
  fn0 (E := (((E0.add 35 (typedSem pi_ref01_plus po_ref01_plus g_ref01_plus)).add 36 (typedSem pi_ref01_less po_ref01_less g_ref01_less)).add 37 (typedSem pi_ref01_minus po_ref01_minus g_ref01_minus))) (envOk_add (envOk_add (envOk_add e0_ok (typed_ok ok_ref01_plus)) (typed_ok ok_ref01_less)) (typed_ok ok_ref01_minus)) (fn := Tryd.f21) Tryd.func21 (by kernel_rfl) (by kernel_rfl) [.cell 4 55] (by kernel_rfl) rfl rfl rfl [] fun d => by kernel_rfl

@[reducible] def pi_ref32_Add : PSh := ⟨[], [.mk true [vI, vI, vI, vI, vI, vI, vI, vI, vI, vI, vI, vI], .mk false [vI], .mk false [vI]]⟩
@[reducible] def po_ref32_Add : PSh := ⟨[], [.mk true [vI, vI, vI, vI, vI, vI, vI, vI, vI, vI, vI, vI], .mk false [vI]]⟩
@[reducible] def TT_ref32_Add : Type := (((((Int × (Int × (Int × (Int × (Int × (Int × (Int × (Int × (Int × (Int × (Int × (Int × Unit)))))))))))) × ((Int × (Int × (Int × (Int × (Int × (Int × (Int × (Int × (Int × (Int × (Int × (Int × Unit)))))))))))) × Unit)) × ((Int × Unit) × (Unit × (Unit × ((Int × Unit) × ((Int × Unit) × Unit)))))) → Option (Unit × ((Int × (Int × (Int × (Int × (Int × (Int × (Int × (Int × (Int × (Int × (Int × (Int × Unit)))))))))))) × ((Int × Unit) × Unit)))) × (((((Int × (Int × (Int × (Int × (Int × (Int × (Int × (Int × (Int × (Int × (Int × (Int × Unit)))))))))))) × ((Int × (Int × (Int × (Int × (Int × (Int × (Int × (Int × (Int × (Int × (Int × (Int × Unit)))))))))))) × Unit)) × (Unit × (Unit × Unit))) → Option (Unit × ((Int × (Int × (Int × (Int × (Int × (Int × (Int × (Int × (Int × (Int × (Int × (Int × Unit)))))))))))) × ((Int × Unit) × Unit)))) × (((((Int × (Int × (Int × (Int × (Int × (Int × (Int × (Int × (Int × (Int × (Int × (Int × Unit)))))))))))) × Unit) × (Unit × ((Int × Unit) × Unit))) → Option (Unit × ((Int × (Int × (Int × (Int × (Int × (Int × (Int × (Int × (Int × (Int × (Int × (Int × Unit)))))))))))) × ((Int × Unit) × Unit)))) × Unit)))
@[reducible] def sh_ref32_Add_7 : PSh := ⟨[.var 27 [vI, vI, vI, vI, vI, vI, vI, vI, vI, vI, vI, vI], .var 27 [vI, vI, vI, vI, vI, vI, vI, vI, vI, vI, vI, vI]], [.any, .mk false [vI], .any, .mk false [.ref 0 0], .any, .any, .mk false [.ref 1 0], .any, .mk false [vI], .mk false [vI], .any, .any, .any, .any, .any, .any, .any, .any, .any, .any, .any, .any, .any, .any, .any, .any, .any, .any, .any, .any, .any, .any, .any, .any, .any, .any, .any, .any, .any, .any, .any]⟩
@[reducible] def sh_ref32_Add_11 : PSh := ⟨[.var 27 [vI, vI, vI, vI, vI, vI, vI, vI, vI, vI, vI, vI], .var 27 [vI, vI, vI, vI, vI, vI, vI, vI, vI, vI, vI, vI]], [.any, .any, .any, .mk false [.ref 0 0], .any, .any, .mk false [.ref 1 0], .any, .any, .any, .any, .any, .any, .any, .any, .any, .any, .any, .any, .any, .any, .any, .any, .any, .any, .any, .any, .any, .any, .any, .any, .any, .any, .any, .any, .any, .any, .any, .any, .any, .any]⟩
@[reducible] def sh_ref32_Add_12 : PSh := ⟨[.var 27 [vI, vI, vI, vI, vI, vI, vI, vI, vI, vI, vI, vI]], [.any, .any, .any, .any, .any, .any, .mk false [.ref 0 0], .mk false [vI], .any, .any, .any, .any, .any, .any, .any, .any, .any, .any, .any, .any, .any, .any, .any, .any, .any, .any, .any, .any, .any, .any, .any, .any, .any, .any, .any, .any, .any, .any, .any, .any, .any]⟩
def f_ref32_Add_p7 (T : TT_ref32_Add) (d : ((Int × (Int × (Int × (Int × (Int × (Int × (Int × (Int × (Int × (Int × (Int × (Int × Unit)))))))))))) × ((Int × (Int × (Int × (Int × (Int × (Int × (Int × (Int × (Int × (Int × (Int × (Int × Unit)))))))))))) × Unit)) × ((Int × Unit) × (Unit × (Unit × ((Int × Unit) × ((Int × Unit) × Unit)))))) : Option (Unit × ((Int × (Int × (Int × (Int × (Int × (Int × (Int × (Int × (Int × (Int × (Int × (Int × Unit)))))))))))) × ((Int × Unit) × Unit))) :=
  let x53 : Bool := (d.2.2.2.2.2.1.1 != (0 : Int))
  bif x53 then (
  some ((), (d.1.1, d.2.2.2.2.2)))
  else (
  let x54 : Int := (isub .i64 d.2.1.1 (1 : Int))
  bif decide ((0 : Int) ≤ x54) && decide (x54 < (12 : Int)) then (
  bif decide (x54 = (0 : Int)) then (
  (T.2.1 (((d.2.2.2.2.1.1, d.1.1.2), d.1.2), ((), ((), ())))))
  else (
  bif decide (x54 = (1 : Int)) then (
  (T.2.1 (((d.1.1.1, (d.2.2.2.2.1.1, d.1.1.2.2)), d.1.2), ((), ((), ())))))
  else (
  bif decide (x54 = (2 : Int)) then (
  (T.2.1 (((d.1.1.1, (d.1.1.2.1, (d.2.2.2.2.1.1, d.1.1.2.2.2))), d.1.2), ((), ((), ())))))
  else (
  bif decide (x54 = (3 : Int)) then (
  (T.2.1 (((d.1.1.1, (d.1.1.2.1, (d.1.1.2.2.1, (d.2.2.2.2.1.1, d.1.1.2.2.2.2)))), d.1.2), ((), ((), ())))))
  else (
  bif decide (x54 = (4 : Int)) then (
  (T.2.1 (((d.1.1.1, (d.1.1.2.1, (d.1.1.2.2.1, (d.1.1.2.2.2.1, (d.2.2.2.2.1.1, d.1.1.2.2.2.2.2))))), d.1.2), ((), ((), ())))))
  else (
  bif decide (x54 = (5 : Int)) then (
  (T.2.1 (((d.1.1.1, (d.1.1.2.1, (d.1.1.2.2.1, (d.1.1.2.2.2.1, (d.1.1.2.2.2.2.1, (d.2.2.2.2.1.1, d.1.1.2.2.2.2.2.2)))))), d.1.2), ((), ((), ())))))
  else (
  bif decide (x54 = (6 : Int)) then (
  (T.2.1 (((d.1.1.1, (d.1.1.2.1, (d.1.1.2.2.1, (d.1.1.2.2.2.1, (d.1.1.2.2.2.2.1, (d.1.1.2.2.2.2.2.1, (d.2.2.2.2.1.1, d.1.1.2.2.2.2.2.2.2))))))), d.1.2), ((), ((), ())))))
  else (
  bif decide (x54 = (7 : Int)) then (
  (T.2.1 (((d.1.1.1, (d.1.1.2.1, (d.1.1.2.2.1, (d.1.1.2.2.2.1, (d.1.1.2.2.2.2.1, (d.1.1.2.2.2.2.2.1, (d.1.1.2.2.2.2.2.2.1, (d.2.2.2.2.1.1, d.1.1.2.2.2.2.2.2.2.2)))))))), d.1.2), ((), ((), ())))))
  else (
  bif decide (x54 = (8 : Int)) then (
  (T.2.1 (((d.1.1.1, (d.1.1.2.1, (d.1.1.2.2.1, (d.1.1.2.2.2.1, (d.1.1.2.2.2.2.1, (d.1.1.2.2.2.2.2.1, (d.1.1.2.2.2.2.2.2.1, (d.1.1.2.2.2.2.2.2.2.1, (d.2.2.2.2.1.1, d.1.1.2.2.2.2.2.2.2.2.2))))))))), d.1.2), ((), ((), ())))))
  else (
  bif decide (x54 = (9 : Int)) then (
  (T.2.1 (((d.1.1.1, (d.1.1.2.1, (d.1.1.2.2.1, (d.1.1.2.2.2.1, (d.1.1.2.2.2.2.1, (d.1.1.2.2.2.2.2.1, (d.1.1.2.2.2.2.2.2.1, (d.1.1.2.2.2.2.2.2.2.1, (d.1.1.2.2.2.2.2.2.2.2.1, (d.2.2.2.2.1.1, d.1.1.2.2.2.2.2.2.2.2.2.2)))))))))), d.1.2), ((), ((), ())))))
  else (
  bif decide (x54 = (10 : Int)) then (
  (T.2.1 (((d.1.1.1, (d.1.1.2.1, (d.1.1.2.2.1, (d.1.1.2.2.2.1, (d.1.1.2.2.2.2.1, (d.1.1.2.2.2.2.2.1, (d.1.1.2.2.2.2.2.2.1, (d.1.1.2.2.2.2.2.2.2.1, (d.1.1.2.2.2.2.2.2.2.2.1, (d.1.1.2.2.2.2.2.2.2.2.2.1, (d.2.2.2.2.1.1, d.1.1.2.2.2.2.2.2.2.2.2.2.2))))))))))), d.1.2), ((), ((), ())))))
  else (
  bif decide (x54 = (11 : Int)) then (
  (T.2.1 (((d.1.1.1, (d.1.1.2.1, (d.1.1.2.2.1, (d.1.1.2.2.2.1, (d.1.1.2.2.2.2.1, (d.1.1.2.2.2.2.2.1, (d.1.1.2.2.2.2.2.2.1, (d.1.1.2.2.2.2.2.2.2.1, (d.1.1.2.2.2.2.2.2.2.2.1, (d.1.1.2.2.2.2.2.2.2.2.2.1, (d.1.1.2.2.2.2.2.2.2.2.2.2.1, d.2.2.2.2.1))))))))))), d.1.2), ((), ((), ())))))
  else (
  none)))))))))))))
  else none)
def f_ref32_Add_p11 (T : TT_ref32_Add) (d : ((Int × (Int × (Int × (Int × (Int × (Int × (Int × (Int × (Int × (Int × (Int × (Int × Unit)))))))))))) × ((Int × (Int × (Int × (Int × (Int × (Int × (Int × (Int × (Int × (Int × (Int × (Int × Unit)))))))))))) × Unit)) × (Unit × (Unit × Unit))) : Option (Unit × ((Int × (Int × (Int × (Int × (Int × (Int × (Int × (Int × (Int × (Int × (Int × (Int × Unit)))))))))))) × ((Int × Unit) × Unit))) :=
  (T.2.2.1 ((d.1.1, ()), ((), (((0 : Int), ()), ()))))
def f_ref32_Add_p12 (T : TT_ref32_Add) (d : ((Int × (Int × (Int × (Int × (Int × (Int × (Int × (Int × (Int × (Int × (Int × (Int × Unit)))))))))))) × Unit) × (Unit × ((Int × Unit) × Unit))) : Option (Unit × ((Int × (Int × (Int × (Int × (Int × (Int × (Int × (Int × (Int × (Int × (Int × (Int × Unit)))))))))))) × ((Int × Unit) × Unit))) :=
  some ((), (d.1.1, d.2.2))
def f_ref32_Add_t : Nat → TT_ref32_Add
  | 0 => (fun _ => none, (fun _ => none, (fun _ => none, ())))
  | k + 1 => (f_ref32_Add_p7 (f_ref32_Add_t k), (f_ref32_Add_p11 (f_ref32_Add_t k), (f_ref32_Add_p12 (f_ref32_Add_t k), ())))
theorem t_ref32_Add (k : Nat) : f_ref32_Add_t (k + 1) = (f_ref32_Add_p7 (f_ref32_Add_t k), (f_ref32_Add_p11 (f_ref32_Add_t k), (f_ref32_Add_p12 (f_ref32_Add_t k), ()))) := rfl
def f_ref32_Add_m (T : TT_ref32_Add) (d : Unit × ((Int × (Int × (Int × (Int × (Int × (Int × (Int × (Int × (Int × (Int × (Int × (Int × Unit)))))))))))) × ((Int × Unit) × ((Int × Unit) × Unit)))) : Option (Unit × ((Int × (Int × (Int × (Int × (Int × (Int × (Int × (Int × (Int × (Int × (Int × (Int × Unit)))))))))))) × ((Int × Unit) × Unit))) :=
  let x1 : Bool := (decide (d.2.2.1.1 < (1 : Int)))
  bif x1 then (
  some ((), (d.2.1, (((11 : Int), ()), ()))))
  else (
  let x2 : Bool := (decide (d.2.2.1.1 > (12 : Int)))
  bif x2 then (
  some ((), (d.2.1, (((11 : Int), ()), ()))))
  else (
  let x3 : Bool := (decide (d.2.2.2.1.1 < (0 : Int)))
  bif x3 then (
  some ((), (d.2.1, (((1 : Int), ()), ()))))
  else (
  let x4 : Int := (isub .i64 d.2.2.1.1 (1 : Int))
  bif decide ((0 : Int) ≤ x4) && decide (x4 < (12 : Int)) then (
  bif decide (x4 = (0 : Int)) then (
  (g_ref01_Of ((), ((d.2.1.1, ()), ()))).bind fun x49 =>
  (g_ref01_Of ((), d.2.2.2)).bind fun x50 =>
  (g_ref01_Plus ((), ((x49.2.1.1, x49.1), ((x50.2.1.1, x50.1), ())))).bind fun x51 =>
  (g_ref01_Small ((), x51.2)).bind fun x52 =>
  (T.1 ((d.2.1, (((0 : Int), ((0 : Int), ((0 : Int), ((0 : Int), ((0 : Int), ((0 : Int), ((0 : Int), ((0 : Int), ((0 : Int), ((0 : Int), ((0 : Int), ((0 : Int), ())))))))))))), ())), (d.2.2.1, ((), ((), x52.2))))))
  else (
  bif decide (x4 = (1 : Int)) then (
  (g_ref01_Of ((), ((d.2.1.2.1, ()), ()))).bind fun x45 =>
  (g_ref01_Of ((), d.2.2.2)).bind fun x46 =>
  (g_ref01_Plus ((), ((x45.2.1.1, x45.1), ((x46.2.1.1, x46.1), ())))).bind fun x47 =>
  (g_ref01_Small ((), x47.2)).bind fun x48 =>
  (T.1 ((d.2.1, (((0 : Int), ((0 : Int), ((0 : Int), ((0 : Int), ((0 : Int), ((0 : Int), ((0 : Int), ((0 : Int), ((0 : Int), ((0 : Int), ((0 : Int), ((0 : Int), ())))))))))))), ())), (d.2.2.1, ((), ((), x48.2))))))
  else (
  bif decide (x4 = (2 : Int)) then (
  (g_ref01_Of ((), ((d.2.1.2.2.1, ()), ()))).bind fun x41 =>
  (g_ref01_Of ((), d.2.2.2)).bind fun x42 =>
  (g_ref01_Plus ((), ((x41.2.1.1, x41.1), ((x42.2.1.1, x42.1), ())))).bind fun x43 =>
  (g_ref01_Small ((), x43.2)).bind fun x44 =>
  (T.1 ((d.2.1, (((0 : Int), ((0 : Int), ((0 : Int), ((0 : Int), ((0 : Int), ((0 : Int), ((0 : Int), ((0 : Int), ((0 : Int), ((0 : Int), ((0 : Int), ((0 : Int), ())))))))))))), ())), (d.2.2.1, ((), ((), x44.2))))))
  else (
  bif decide (x4 = (3 : Int)) then (
  (g_ref01_Of ((), ((d.2.1.2.2.2.1, ()), ()))).bind fun x37 =>
  (g_ref01_Of ((), d.2.2.2)).bind fun x38 =>
  (g_ref01_Plus ((), ((x37.2.1.1, x37.1), ((x38.2.1.1, x38.1), ())))).bind fun x39 =>
  (g_ref01_Small ((), x39.2)).bind fun x40 =>
  (T.1 ((d.2.1, (((0 : Int), ((0 : Int), ((0 : Int), ((0 : Int), ((0 : Int), ((0 : Int), ((0 : Int), ((0 : Int), ((0 : Int), ((0 : Int), ((0 : Int), ((0 : Int), ())))))))))))), ())), (d.2.2.1, ((), ((), x40.2))))))
  else (
  bif decide (x4 = (4 : Int)) then (
  (g_ref01_Of ((), ((d.2.1.2.2.2.2.1, ()), ()))).bind fun x33 =>
  (g_ref01_Of ((), d.2.2.2)).bind fun x34 =>
  (g_ref01_Plus ((), ((x33.2.1.1, x33.1), ((x34.2.1.1, x34.1), ())))).bind fun x35 =>
  (g_ref01_Small ((), x35.2)).bind fun x36 =>
  (T.1 ((d.2.1, (((0 : Int), ((0 : Int), ((0 : Int), ((0 : Int), ((0 : Int), ((0 : Int), ((0 : Int), ((0 : Int), ((0 : Int), ((0 : Int), ((0 : Int), ((0 : Int), ())))))))))))), ())), (d.2.2.1, ((), ((), x36.2))))))
  else (
  bif decide (x4 = (5 : Int)) then (
  (g_ref01_Of ((), ((d.2.1.2.2.2.2.2.1, ()), ()))).bind fun x29 =>
  (g_ref01_Of ((), d.2.2.2)).bind fun x30 =>
  (g_ref01_Plus ((), ((x29.2.1.1, x29.1), ((x30.2.1.1, x30.1), ())))).bind fun x31 =>
  (g_ref01_Small ((), x31.2)).bind fun x32 =>
  (T.1 ((d.2.1, (((0 : Int), ((0 : Int), ((0 : Int), ((0 : Int), ((0 : Int), ((0 : Int), ((0 : Int), ((0 : Int), ((0 : Int), ((0 : Int), ((0 : Int), ((0 : Int), ())))))))))))), ())), (d.2.2.1, ((), ((), x32.2))))))
  else (
  bif decide (x4 = (6 : Int)) then (
  (g_ref01_Of ((), ((d.2.1.2.2.2.2.2.2.1, ()), ()))).bind fun x25 =>
  (g_ref01_Of ((), d.2.2.2)).bind fun x26 =>
  (g_ref01_Plus ((), ((x25.2.1.1, x25.1), ((x26.2.1.1, x26.1), ())))).bind fun x27 =>
  (g_ref01_Small ((), x27.2)).bind fun x28 =>
  (T.1 ((d.2.1, (((0 : Int), ((0 : Int), ((0 : Int), ((0 : Int), ((0 : Int), ((0 : Int), ((0 : Int), ((0 : Int), ((0 : Int), ((0 : Int), ((0 : Int), ((0 : Int), ())))))))))))), ())), (d.2.2.1, ((), ((), x28.2))))))
  else (
  bif decide (x4 = (7 : Int)) then (
  (g_ref01_Of ((), ((d.2.1.2.2.2.2.2.2.2.1, ()), ()))).bind fun x21 =>
  (g_ref01_Of ((), d.2.2.2)).bind fun x22 =>
  (g_ref01_Plus ((), ((x21.2.1.1, x21.1), ((x22.2.1.1, x22.1), ())))).bind fun x23 =>
  (g_ref01_Small ((), x23.2)).bind fun x24 =>
  (T.1 ((d.2.1, (((0 : Int), ((0 : Int), ((0 : Int), ((0 : Int), ((0 : Int), ((0 : Int), ((0 : Int), ((0 : Int), ((0 : Int), ((0 : Int), ((0 : Int), ((0 : Int), ())))))))))))), ())), (d.2.2.1, ((), ((), x24.2))))))
  else (
  bif decide (x4 = (8 : Int)) then (
  (g_ref01_Of ((), ((d.2.1.2.2.2.2.2.2.2.2.1, ()), ()))).bind fun x17 =>
  (g_ref01_Of ((), d.2.2.2)).bind fun x18 =>
  (g_ref01_Plus ((), ((x17.2.1.1, x17.1), ((x18.2.1.1, x18.1), ())))).bind fun x19 =>
  (g_ref01_Small ((), x19.2)).bind fun x20 =>
  (T.1 ((d.2.1, (((0 : Int), ((0 : Int), ((0 : Int), ((0 : Int), ((0 : Int), ((0 : Int), ((0 : Int), ((0 : Int), ((0 : Int), ((0 : Int), ((0 : Int), ((0 : Int), ())))))))))))), ())), (d.2.2.1, ((), ((), x20.2))))))
  else (
  bif decide (x4 = (9 : Int)) then (
  (g_ref01_Of ((), ((d.2.1.2.2.2.2.2.2.2.2.2.1, ()), ()))).bind fun x13 =>
  (g_ref01_Of ((), d.2.2.2)).bind fun x14 =>
  (g_ref01_Plus ((), ((x13.2.1.1, x13.1), ((x14.2.1.1, x14.1), ())))).bind fun x15 =>
  (g_ref01_Small ((), x15.2)).bind fun x16 =>
  (T.1 ((d.2.1, (((0 : Int), ((0 : Int), ((0 : Int), ((0 : Int), ((0 : Int), ((0 : Int), ((0 : Int), ((0 : Int), ((0 : Int), ((0 : Int), ((0 : Int), ((0 : Int), ())))))))))))), ())), (d.2.2.1, ((), ((), x16.2))))))
  else (
  bif decide (x4 = (10 : Int)) then (
  (g_ref01_Of ((), ((d.2.1.2.2.2.2.2.2.2.2.2.2.1, ()), ()))).bind fun x9 =>
  (g_ref01_Of ((), d.2.2.2)).bind fun x10 =>
  (g_ref01_Plus ((), ((x9.2.1.1, x9.1), ((x10.2.1.1, x10.1), ())))).bind fun x11 =>
  (g_ref01_Small ((), x11.2)).bind fun x12 =>
  (T.1 ((d.2.1, (((0 : Int), ((0 : Int), ((0 : Int), ((0 : Int), ((0 : Int), ((0 : Int), ((0 : Int), ((0 : Int), ((0 : Int), ((0 : Int), ((0 : Int), ((0 : Int), ())))))))))))), ())), (d.2.2.1, ((), ((), x12.2))))))
  else (
  bif decide (x4 = (11 : Int)) then (
  (g_ref01_Of ((), (d.2.1.2.2.2.2.2.2.2.2.2.2.2, ()))).bind fun x5 =>
  (g_ref01_Of ((), d.2.2.2)).bind fun x6 =>
  (g_ref01_Plus ((), ((x5.2.1.1, x5.1), ((x6.2.1.1, x6.1), ())))).bind fun x7 =>
  (g_ref01_Small ((), x7.2)).bind fun x8 =>
  (T.1 ((d.2.1, (((0 : Int), ((0 : Int), ((0 : Int), ((0 : Int), ((0 : Int), ((0 : Int), ((0 : Int), ((0 : Int), ((0 : Int), ((0 : Int), ((0 : Int), ((0 : Int), ())))))))))))), ())), (d.2.2.1, ((), ((), x8.2))))))
  else (
  none)))))))))))))
  else none)))
def c_ref32_Add : List Nat := [7, 11, 12]
def L_ref32_Add (k : Nat) : Pts po_ref32_Add.den := [(7, ⟨sh_ref32_Add_7, (f_ref32_Add_t k).1⟩), (11, ⟨sh_ref32_Add_11, (f_ref32_Add_t k).2.1⟩), (12, ⟨sh_ref32_Add_12, (f_ref32_Add_t k).2.2.1⟩)]
def R_ref32_Add (_ : Nat) : PtsR po_ref32_Add.den := []
def E_ref32_Add : Env := ((((E0.add 20 (typedSem pi_ref01_Small po_ref01_Small g_ref01_Small)).add 21 (typedSem pi_ref01_Plus po_ref01_Plus g_ref01_Plus)).add 22 (typedSem pi_ref01_Of po_ref01_Of g_ref01_Of)).fr [(28, [25, 27])])
theorem q_ref32_Add_7 (k : Nat) (d : sh_ref32_Add_7.den) : evAt E_ref32_Add (tb (L_ref32_Add k) (R_ref32_Add k)) c_ref32_Add 7 (bodyOf Tryd.f7) 0 (finK E_ref32_Add po_ref32_Add [.cell 6 27, .tmp 7]) (ptSt sh_ref32_Add_7 d) = f_ref32_Add_p7 (f_ref32_Add_t k) d := by kernel_rfl
theorem q_ref32_Add_11 (k : Nat) (d : sh_ref32_Add_11.den) : evAt E_ref32_Add (tb (L_ref32_Add k) (R_ref32_Add k)) c_ref32_Add 11 (bodyOf Tryd.f7) 0 (finK E_ref32_Add po_ref32_Add [.cell 6 27, .tmp 7]) (ptSt sh_ref32_Add_11 d) = f_ref32_Add_p11 (f_ref32_Add_t k) d := by kernel_rfl
theorem q_ref32_Add_12 (k : Nat) (d : sh_ref32_Add_12.den) : evAt E_ref32_Add (tb (L_ref32_Add k) (R_ref32_Add k)) c_ref32_Add 12 (bodyOf Tryd.f7) 0 (finK E_ref32_Add po_ref32_Add [.cell 6 27, .tmp 7]) (ptSt sh_ref32_Add_12 d) = f_ref32_Add_p12 (f_ref32_Add_t k) d := by kernel_rfl
theorem q_ref32_Add_m (k : Nat) (d : pi_ref32_Add.den) : evCode E_ref32_Add (tb (L_ref32_Add k) (R_ref32_Add k)) c_ref32_Add (bodyOf Tryd.f7) 0 (finK E_ref32_Add po_ref32_Add [.cell 6 27, .tmp 7]) (startSt pi_ref32_Add 41 d) = f_ref32_Add_m (f_ref32_Add_t k) d := by kernel_rfl
def g_ref32_Add (d : Unit × ((Int × (Int × (Int × (Int × (Int × (Int × (Int × (Int × (Int × (Int × (Int × (Int × Unit)))))))))))) × ((Int × Unit) × ((Int × Unit) × Unit)))) : Option (Unit × ((Int × (Int × (Int × (Int × (Int × (Int × (Int × (Int × (Int × (Int × (Int × (Int × Unit)))))))))))) × ((Int × Unit) × Unit))) := lim fun k => f_ref32_Add_m (f_ref32_Add_t k) d
theorem ok_ref32_Add : FnOk Tryd.prog ET0 7 pi_ref32_Add po_ref32_Add g_ref32_Add :=
  fn_of_body (E := E_ref32_Add) (envOk_fr (envOk_add (envOk_add (envOk_add e0_ok (typed_ok ok_ref01_Small)) (typed_ok ok_ref01_Plus)) (typed_ok ok_ref01_Of))) (fn := Tryd.f7) Tryd.func7 (by kernel_rfl) (by kernel_rfl) [.cell 6 27, .tmp 7] (by kernel_rfl) (by kernel_rfl) (by decide) rfl c_ref32_Add L_ref32_Add R_ref32_Add
    (by intro x hx d; simp only [L_ref32_Add, List.mem_cons, List.not_mem_nil, or_false] at hx; rcases hx with rfl | rfl | rfl; rfl; rfl; rfl)
    (by intro k x hx d out h; simp only [L_ref32_Add, List.mem_cons, List.not_mem_nil, or_false] at hx; rcases hx with rfl | rfl | rfl; exact (q_ref32_Add_7 k d).trans h; exact (q_ref32_Add_11 k d).trans h; exact (q_ref32_Add_12 k d).trans h)
    (by intro x hx; cases hx)
    (by intro k x hx; cases hx)
    (by intro d out h; obtain ⟨k, hk⟩ := lim_some h; exact ⟨k, (q_ref32_Add_m k d).trans hk⟩)

@[reducible] def pi_tally_Tally_Copy : PSh := ⟨[], [.mk false [.v (.nptr (.pair (.int .i64) (.pair (.int .i64) (.pair (.int .i64) (.pair (.int .i64) (.pair (.int .i64) (.pair (.int .i64) (.pair (.int .i64) (.pair (.int .i64) (.pair (.int .i64) (.pair (.int .i64) (.pair (.int .i64) (.int .i64)))))))))))))]]⟩
@[reducible] def po_tally_Tally_Copy : PSh := ⟨[], [.mk false [.v (.nptr (.pair (.int .i64) (.pair (.int .i64) (.pair (.int .i64) (.pair (.int .i64) (.pair (.int .i64) (.pair (.int .i64) (.pair (.int .i64) (.pair (.int .i64) (.pair (.int .i64) (.pair (.int .i64) (.pair (.int .i64) (.int .i64)))))))))))))]]⟩
def f_tally_Tally_Copy_m (T : Unit) (d : Unit × (((Option (Int × (Int × (Int × (Int × (Int × (Int × (Int × (Int × (Int × (Int × (Int × Int)))))))))))) × Unit) × Unit)) : Option (Unit × (((Option (Int × (Int × (Int × (Int × (Int × (Int × (Int × (Int × (Int × (Int × (Int × Int)))))))))))) × Unit) × Unit)) :=
  bif d.2.1.1.isNone then (
  some ((), (((none : Option (Int × (Int × (Int × (Int × (Int × (Int × (Int × (Int × (Int × (Int × (Int × Int)))))))))))), ()), ())))
  else (
  d.2.1.1.bind fun x1 =>
  some ((), (((some x1), ()), ())))
def g_tally_Tally_Copy (d : Unit × (((Option (Int × (Int × (Int × (Int × (Int × (Int × (Int × (Int × (Int × (Int × (Int × Int)))))))))))) × Unit) × Unit)) : Option (Unit × (((Option (Int × (Int × (Int × (Int × (Int × (Int × (Int × (Int × (Int × (Int × (Int × Int)))))))))))) × Unit) × Unit)) := f_tally_Tally_Copy_m () d
theorem ok_tally_Tally_Copy : FnOk Tryd.prog ET0 8 pi_tally_Tally_Copy po_tally_Tally_Copy g_tally_Tally_Copy :=
  fn0 (E := E0) e0_ok (fn := Tryd.f8) Tryd.func8 (by kernel_rfl) (by kernel_rfl) [.tmp 2] (by kernel_rfl) rfl rfl rfl [] fun d => by kernel_rfl

@[reducible] def pi_hnum_Num : PSh := ⟨[], [.mk false [vE]]⟩
@[reducible] def po_hnum_Num : PSh := ⟨[], [.mk false [vI]]⟩
def f_hnum_Num_m (T : Unit) (d : Unit × (((Option Int) × Unit) × Unit)) : Option (Unit × ((Int × Unit) × Unit)) :=
  bif d.2.1.1.isNone then (
  some ((), (((0 : Int), ()), ())))
  else (
  bif d.2.1.1.isSome then (
  let x1 : Bool := ((d.2.1.1.getD 0) != (0 : Int))
  bif x1 then (
  some ((), (((d.2.1.1.getD 0), ()), ())))
  else (
  some ((), (((-1 : Int), ()), ()))))
  else (
  some ((), (((-1 : Int), ()), ()))))
def g_hnum_Num (d : Unit × (((Option Int) × Unit) × Unit)) : Option (Unit × ((Int × Unit) × Unit)) := f_hnum_Num_m () d
theorem ok_hnum_Num : FnOk Tryd.prog ET0 9 pi_hnum_Num po_hnum_Num g_hnum_Num :=
  fn0 (E := E0) e0_ok (fn := Tryd.f9) Tryd.func9 (by kernel_rfl) (by kernel_rfl) [.tmp 2] (by kernel_rfl) rfl rfl rfl [] fun d => by kernel_rfl

@[reducible] def pi_tally_Same : PSh := ⟨[], [.mk false [.v (.nptr (.pair (.int .i64) (.pair (.int .i64) (.pair (.int .i64) (.pair (.int .i64) (.pair (.int .i64) (.pair (.int .i64) (.pair (.int .i64) (.pair (.int .i64) (.pair (.int .i64) (.pair (.int .i64) (.pair (.int .i64) (.int .i64)))))))))))))], .mk false [.v (.nptr (.pair (.int .i64) (.pair (.int .i64) (.pair (.int .i64) (.pair (.int .i64) (.pair (.int .i64) (.pair (.int .i64) (.pair (.int .i64) (.pair (.int .i64) (.pair (.int .i64) (.pair (.int .i64) (.pair (.int .i64) (.int .i64)))))))))))))]]⟩
@[reducible] def po_tally_Same : PSh := ⟨[], [.mk false [vB]]⟩
def f_tally_Same_m (T : Unit) (d : Unit × (((Option (Int × (Int × (Int × (Int × (Int × (Int × (Int × (Int × (Int × (Int × (Int × Int)))))))))))) × Unit) × (((Option (Int × (Int × (Int × (Int × (Int × (Int × (Int × (Int × (Int × (Int × (Int × Int)))))))))))) × Unit) × Unit))) : Option (Unit × ((Bool × Unit) × Unit)) :=
  bif d.2.1.1.isNone then (
  bif d.2.1.1.isNone then (
  some ((), ((d.2.2.1.1.isNone, ()), ())))
  else (
  some ((), ((false, ()), ()))))
  else (
  bif d.2.2.1.1.isNone then (
  bif d.2.1.1.isNone then (
  some ((), ((d.2.2.1.1.isNone, ()), ())))
  else (
  some ((), ((false, ()), ()))))
  else (
  d.2.1.1.bind fun x1 =>
  d.2.2.1.1.bind fun x2 =>
  let x3 : Bool := ((x1.1 == x2.1) && ((x1.2.1 == x2.2.1) && ((x1.2.2.1 == x2.2.2.1) && ((x1.2.2.2.1 == x2.2.2.2.1) && ((x1.2.2.2.2.1 == x2.2.2.2.2.1) && ((x1.2.2.2.2.2.1 == x2.2.2.2.2.2.1) && ((x1.2.2.2.2.2.2.1 == x2.2.2.2.2.2.2.1) && ((x1.2.2.2.2.2.2.2.1 == x2.2.2.2.2.2.2.2.1) && ((x1.2.2.2.2.2.2.2.2.1 == x2.2.2.2.2.2.2.2.2.1) && ((x1.2.2.2.2.2.2.2.2.2.1 == x2.2.2.2.2.2.2.2.2.2.1) && ((x1.2.2.2.2.2.2.2.2.2.2.1 == x2.2.2.2.2.2.2.2.2.2.2.1) && ((x1.2.2.2.2.2.2.2.2.2.2.2 == x2.2.2.2.2.2.2.2.2.2.2.2) && true))))))))))))
  some ((), ((x3, ()), ()))))
def g_tally_Same (d : Unit × (((Option (Int × (Int × (Int × (Int × (Int × (Int × (Int × (Int × (Int × (Int × (Int × Int)))))))))))) × Unit) × (((Option (Int × (Int × (Int × (Int × (Int × (Int × (Int × (Int × (Int × (Int × (Int × Int)))))))))))) × Unit) × Unit))) : Option (Unit × ((Bool × Unit) × Unit)) := f_tally_Same_m () d
theorem ok_tally_Same : FnOk Tryd.prog ET0 12 pi_tally_Same po_tally_Same g_tally_Same :=
  fn0 (E := E0) e0_ok (fn := Tryd.f12) Tryd.func12 (by kernel_rfl) (by kernel_rfl) [.tmp 4] (by kernel_rfl) rfl rfl rfl [] fun d => by kernel_rfl

@[reducible] def pi_num_Sum : PSh := ⟨[], [.mk false [.v (.sl (.int .i64))]]⟩
@[reducible] def po_num_Sum : PSh := ⟨[], [.mk false [vI], .mk false [vE]]⟩
@[reducible] def TT_num_Sum : Type := (((Unit × ((Int × Unit) × (((List Int) × Unit) × ((Int × Unit) × ((Int × Unit) × Unit))))) → Option (Unit × ((Int × Unit) × (((Option Int) × Unit) × Unit)))) × Unit)
@[reducible] def sh_num_Sum_4 : PSh := ⟨[], [.any, .any, .any, .any, .mk false [vI], .any, .any, .any, .any, .mk false [.v (.sl (.int .i64))], .mk false [vI], .mk false [vI], .any, .any, .any, .any, .any, .any, .any, .any, .any, .any, .any, .any, .any, .any, .any]⟩
def f_num_Sum_p4 (T : TT_num_Sum) (d : Unit × ((Int × Unit) × (((List Int) × Unit) × ((Int × Unit) × ((Int × Unit) × Unit))))) : Option (Unit × ((Int × Unit) × (((Option Int) × Unit) × Unit))) :=
  let x2 : Bool := (decide (d.2.2.2.2.1.1 < d.2.2.2.1.1))
  bif x2 then (
  bif decide ((0 : Int) ≤ d.2.2.2.2.1.1) && decide (d.2.2.2.2.1.1 < (d.2.2.1.1.length : Int)) then (
  (g_num_Add ((), (d.2.1, (((gd (.int .i64) d.2.2.1.1 d.2.2.2.2.1.1), ()), ())))).bind fun x3 =>
  let x4 : Bool := (!x3.2.2.1.1.isNone)
  bif x4 then (
  some ((), (((0 : Int), ()), x3.2.2)))
  else (
  let x5 : Int := (iadd .i64 d.2.2.2.2.1.1 (1 : Int))
  (T.1 ((), (x3.2.1, (d.2.2.1, (d.2.2.2.1, ((x5, ()), ()))))))))
  else none)
  else (
  some ((), (d.2.1, (((none : Option Int), ()), ()))))
def f_num_Sum_t : Nat → TT_num_Sum
  | 0 => (fun _ => none, ())
  | k + 1 => (f_num_Sum_p4 (f_num_Sum_t k), ())
theorem t_num_Sum (k : Nat) : f_num_Sum_t (k + 1) = (f_num_Sum_p4 (f_num_Sum_t k), ()) := rfl
def f_num_Sum_m (T : TT_num_Sum) (d : Unit × (((List Int) × Unit) × Unit)) : Option (Unit × ((Int × Unit) × (((Option Int) × Unit) × Unit))) :=
  let x1 : Int := (d.2.1.1.length : Int)
  (T.1 ((), (((0 : Int), ()), (d.2.1, ((x1, ()), (((0 : Int), ()), ()))))))
def c_num_Sum : List Nat := []
def L_num_Sum (k : Nat) : Pts po_num_Sum.den := [(4, ⟨sh_num_Sum_4, (f_num_Sum_t k).1⟩)]
def R_num_Sum (_ : Nat) : PtsR po_num_Sum.den := []
def E_num_Sum : Env := (E0.add 24 (typedSem pi_num_Add po_num_Add g_num_Add))
theorem q_num_Sum_4 (k : Nat) (d : sh_num_Sum_4.den) : evAt E_num_Sum (tb (L_num_Sum k) (R_num_Sum k)) c_num_Sum 4 (bodyOf Tryd.f25) 0 (finK E_num_Sum po_num_Sum [.tmp 2, .tmp 3]) (ptSt sh_num_Sum_4 d) = f_num_Sum_p4 (f_num_Sum_t k) d := by kernel_rfl
theorem q_num_Sum_m (k : Nat) (d : pi_num_Sum.den) : evCode E_num_Sum (tb (L_num_Sum k) (R_num_Sum k)) c_num_Sum (bodyOf Tryd.f25) 0 (finK E_num_Sum po_num_Sum [.tmp 2, .tmp 3]) (startSt pi_num_Sum 27 d) = f_num_Sum_m (f_num_Sum_t k) d := by kernel_rfl
def g_num_Sum (d : Unit × (((List Int) × Unit) × Unit)) : Option (Unit × ((Int × Unit) × (((Option Int) × Unit) × Unit))) := lim fun k => f_num_Sum_m (f_num_Sum_t k) d
theorem ok_num_Sum : FnOk Tryd.prog ET0 25 pi_num_Sum po_num_Sum g_num_Sum :=
  fn_of_body (E := E_num_Sum) (envOk_add e0_ok (typed_ok ok_num_Add)) (fn := Tryd.f25) Tryd.func25 (by kernel_rfl) (by kernel_rfl) [.tmp 2, .tmp 3] (by kernel_rfl) (by kernel_rfl) (by decide) rfl c_num_Sum L_num_Sum R_num_Sum
    (by intro x hx d; simp only [L_num_Sum, List.mem_cons, List.not_mem_nil, or_false] at hx; subst hx; rfl)
    (by intro k x hx d out h; simp only [L_num_Sum, List.mem_cons, List.not_mem_nil, or_false] at hx; subst hx; exact (q_num_Sum_4 k d).trans h)
    (by intro x hx; cases hx)
    (by intro k x hx; cases hx)
    (by intro d out h; obtain ⟨k, hk⟩ := lim_some h; exact ⟨k, (q_num_Sum_m k d).trans hk⟩)

@[reducible] def pi_tally_Tally_Sum : PSh := ⟨[], [.mk false [.v (.nptr (.pair (.int .i64) (.pair (.int .i64) (.pair (.int .i64) (.pair (.int .i64) (.pair (.int .i64) (.pair (.int .i64) (.pair (.int .i64) (.pair (.int .i64) (.pair (.int .i64) (.pair (.int .i64) (.pair (.int .i64) (.int .i64)))))))))))))], .mk false [.v (.sl (.int .i64))]]⟩
@[reducible] def po_tally_Tally_Sum : PSh := ⟨[], [.mk false [vI], .mk false [vE]]⟩
@[reducible] def TT_tally_Tally_Sum : Type := (((((List Int) × Unit) × (((Option (Int × (Int × (Int × (Int × (Int × (Int × (Int × (Int × (Int × (Int × (Int × Int)))))))))))) × Unit) × (Unit × (((List Int) × Unit) × ((Int × Unit) × ((Int × Unit) × Unit)))))) → Option (Unit × ((Int × Unit) × (((Option Int) × Unit) × Unit)))) × Unit)
@[reducible] def sh_tally_Tally_Sum_7 : PSh := ⟨[.row 2 (.int .i64)], [.mk false [.v (.nptr (.pair (.int .i64) (.pair (.int .i64) (.pair (.int .i64) (.pair (.int .i64) (.pair (.int .i64) (.pair (.int .i64) (.pair (.int .i64) (.pair (.int .i64) (.pair (.int .i64) (.pair (.int .i64) (.pair (.int .i64) (.int .i64)))))))))))))], .any, .any, .any, .any, .any, .mk false [.osl 0], .any, .any, .any, .any, .any, .mk false [.v (.sl (.int .i64))], .mk false [vI], .mk false [vI], .any, .any, .any, .any, .any, .any, .any, .any, .any, .any, .any, .any, .any, .any, .any, .any, .any, .any]⟩
def f_tally_Tally_Sum_p7 (T : TT_tally_Tally_Sum) (d : ((List Int) × Unit) × (((Option (Int × (Int × (Int × (Int × (Int × (Int × (Int × (Int × (Int × (Int × (Int × Int)))))))))))) × Unit) × (Unit × (((List Int) × Unit) × ((Int × Unit) × ((Int × Unit) × Unit)))))) : Option (Unit × ((Int × Unit) × (((Option Int) × Unit) × Unit))) :=
  let x3 : Bool := (decide (d.2.2.2.2.2.1.1 < d.2.2.2.2.1.1))
  bif x3 then (
  bif decide ((0 : Int) ≤ d.2.2.2.2.2.1.1) && decide (d.2.2.2.2.2.1.1 < (d.2.2.2.1.1.length : Int)) then (
  (g_tally_known ((), (((gd (.int .i64) d.2.2.2.1.1 d.2.2.2.2.2.1.1), ()), ()))).bind fun x4 =>
  let x5 : Bool := (!x4.2.1.1)
  bif x5 then (
  let x6 : (Option Int) := (some (11 : Int))
  some ((), (((0 : Int), ()), ((x6, ()), ()))))
  else (
  (g_tally_Tally_Count ((), (d.2.1, (((gd (.int .i64) d.2.2.2.1.1 d.2.2.2.2.2.1.1), ()), ())))).bind fun x7 =>
  let x8 : (List Int) := ([x7.2.1.1] : List Int)
  bif decide (((d.1.1.length + x8.length) * 8 : Nat) ≤ 140737488355328) && decide (d.1.1.length + x8.length ≤ 9223372036854775807) then (
  let x9 : (List Int) := (d.1.1 ++ x8)
  let x10 : Int := (iadd .i64 d.2.2.2.2.2.1.1 (1 : Int))
  (T.1 ((x9, ()), (d.2.1, ((), (d.2.2.2.1, (d.2.2.2.2.1, ((x10, ()), ()))))))))
  else none))
  else none)
  else (
  (g_num_Sum ((), (d.1, ()))).bind fun x11 =>
  some ((), x11.2))
def f_tally_Tally_Sum_t : Nat → TT_tally_Tally_Sum
  | 0 => (fun _ => none, ())
  | k + 1 => (f_tally_Tally_Sum_p7 (f_tally_Tally_Sum_t k), ())
theorem t_tally_Tally_Sum (k : Nat) : f_tally_Tally_Sum_t (k + 1) = (f_tally_Tally_Sum_p7 (f_tally_Tally_Sum_t k), ()) := rfl
def f_tally_Tally_Sum_m (T : TT_tally_Tally_Sum) (d : Unit × (((Option (Int × (Int × (Int × (Int × (Int × (Int × (Int × (Int × (Int × (Int × (Int × Int)))))))))))) × Unit) × (((List Int) × Unit) × Unit))) : Option (Unit × ((Int × Unit) × (((Option Int) × Unit) × Unit))) :=
  bif d.2.1.1.isNone then (
  let x1 : (Option Int) := (some (8 : Int))
  some ((), (((0 : Int), ()), ((x1, ()), ()))))
  else (
  let x2 : Int := (d.2.2.1.1.length : Int)
  (T.1 ((([] : List Int), ()), (d.2.1, ((), (d.2.2.1, ((x2, ()), (((0 : Int), ()), ()))))))))
def c_tally_Tally_Sum : List Nat := []
def L_tally_Tally_Sum (k : Nat) : Pts po_tally_Tally_Sum.den := [(7, ⟨sh_tally_Tally_Sum_7, (f_tally_Tally_Sum_t k).1⟩)]
def R_tally_Tally_Sum (_ : Nat) : PtsR po_tally_Tally_Sum.den := []
def E_tally_Tally_Sum : Env := (((E0.add 13 (typedSem pi_tally_Tally_Count po_tally_Tally_Count g_tally_Tally_Count)).add 23 (typedSem pi_tally_known po_tally_known g_tally_known)).add 25 (typedSem pi_num_Sum po_num_Sum g_num_Sum))
theorem q_tally_Tally_Sum_7 (k : Nat) (d : sh_tally_Tally_Sum_7.den) : evAt E_tally_Tally_Sum (tb (L_tally_Tally_Sum k) (R_tally_Tally_Sum k)) c_tally_Tally_Sum 7 (bodyOf Tryd.f14) 0 (finK E_tally_Tally_Sum po_tally_Tally_Sum [.tmp 4, .tmp 5]) (ptSt sh_tally_Tally_Sum_7 d) = f_tally_Tally_Sum_p7 (f_tally_Tally_Sum_t k) d := by kernel_rfl
theorem q_tally_Tally_Sum_m (k : Nat) (d : pi_tally_Tally_Sum.den) : evCode E_tally_Tally_Sum (tb (L_tally_Tally_Sum k) (R_tally_Tally_Sum k)) c_tally_Tally_Sum (bodyOf Tryd.f14) 0 (finK E_tally_Tally_Sum po_tally_Tally_Sum [.tmp 4, .tmp 5]) (startSt pi_tally_Tally_Sum 33 d) = f_tally_Tally_Sum_m (f_tally_Tally_Sum_t k) d := by kernel_rfl
def g_tally_Tally_Sum (d : Unit × (((Option (Int × (Int × (Int × (Int × (Int × (Int × (Int × (Int × (Int × (Int × (Int × Int)))))))))))) × Unit) × (((List Int) × Unit) × Unit))) : Option (Unit × ((Int × Unit) × (((Option Int) × Unit) × Unit))) := lim fun k => f_tally_Tally_Sum_m (f_tally_Tally_Sum_t k) d
theorem ok_tally_Tally_Sum : FnOk Tryd.prog ET0 14 pi_tally_Tally_Sum po_tally_Tally_Sum g_tally_Tally_Sum :=
  fn_of_body (E := E_tally_Tally_Sum) (envOk_add (envOk_add (envOk_add e0_ok (typed_ok ok_tally_Tally_Count)) (typed_ok ok_tally_known)) (typed_ok ok_num_Sum)) (fn := Tryd.f14) Tryd.func14 (by kernel_rfl) (by kernel_rfl) [.tmp 4, .tmp 5] (by kernel_rfl) (by kernel_rfl) (by decide) rfl c_tally_Tally_Sum L_tally_Tally_Sum R_tally_Tally_Sum
    (by intro x hx d; simp only [L_tally_Tally_Sum, List.mem_cons, List.not_mem_nil, or_false] at hx; subst hx; rfl)
    (by intro k x hx d out h; simp only [L_tally_Tally_Sum, List.mem_cons, List.not_mem_nil, or_false] at hx; subst hx; exact (q_tally_Tally_Sum_7 k d).trans h)
    (by intro x hx; cases hx)
    (by intro k x hx; cases hx)
    (by intro d out h; obtain ⟨k, hk⟩ := lim_some h; exact ⟨k, (q_tally_Tally_Sum_m k d).trans hk⟩)

@[reducible] def pi_ref32_Sum : PSh := ⟨[], [.mk true [vI, vI, vI, vI, vI, vI, vI, vI, vI, vI, vI, vI], .mk false [.v (.sl (.int .i64))]]⟩
@[reducible] def po_ref32_Sum : PSh := ⟨[], [.mk false [vI], .mk false [vI]]⟩
@[reducible] def TT_ref32_Sum : Type := (((((Int × (Int × (Int × (Int × (Int × (Int × (Int × (Int × (Int × (Int × (Int × (Int × Unit)))))))))))) × ((Bool × ((List Int) × Unit)) × Unit)) × (((List Int) × Unit) × (Unit × (Unit × ((Int × Unit) × Unit))))) → Option (Unit × ((Int × Unit) × ((Int × Unit) × Unit)))) × (((((Int × (Int × (Int × (Int × (Int × (Int × (Int × (Int × (Int × (Int × (Int × (Int × Unit)))))))))))) × ((Bool × ((List Int) × Unit)) × Unit)) × (((List Int) × Unit) × (Unit × (Unit × ((Int × Unit) × Unit))))) → Option (Unit × ((Int × Unit) × ((Int × Unit) × Unit)))) × Unit))
@[reducible] def sh_ref32_Sum_4 : PSh := ⟨[.var 27 [vI, vI, vI, vI, vI, vI, vI, vI, vI, vI, vI, vI], .var 55 [vB, .v (.sl (.int .u64))]], [.any, .mk false [.v (.sl (.int .i64))], .mk false [.ref 0 0], .any, .any, .any, .mk false [.ref 1 0], .mk false [vI], .any, .any, .any, .any, .any, .any, .any, .any, .any, .any, .any, .any, .any, .any, .any, .any, .any, .any, .any, .any, .any, .any, .any, .any, .any, .any, .any, .any, .any, .any, .any, .any, .any]⟩
@[reducible] def sh_ref32_Sum_7 : PSh := ⟨[.var 27 [vI, vI, vI, vI, vI, vI, vI, vI, vI, vI, vI, vI], .var 55 [vB, .v (.sl (.int .u64))]], [.any, .mk false [.v (.sl (.int .i64))], .mk false [.ref 0 0], .any, .any, .any, .mk false [.ref 1 0], .mk false [vI], .any, .any, .any, .any, .any, .any, .any, .any, .any, .any, .any, .any, .any, .any, .any, .any, .any, .any, .any, .any, .any, .any, .any, .any, .any, .any, .any, .any, .any, .any, .any, .any, .any]⟩
def f_ref32_Sum_p4 (T : TT_ref32_Sum) (d : ((Int × (Int × (Int × (Int × (Int × (Int × (Int × (Int × (Int × (Int × (Int × (Int × Unit)))))))))))) × ((Bool × ((List Int) × Unit)) × Unit)) × (((List Int) × Unit) × (Unit × (Unit × ((Int × Unit) × Unit))))) : Option (Unit × ((Int × Unit) × ((Int × Unit) × Unit))) :=
  let x2 : Int := (d.2.1.1.length : Int)
  let x3 : Bool := (decide (d.2.2.2.2.1.1 < x2))
  bif x3 then (
  bif decide ((0 : Int) ≤ d.2.2.2.2.1.1) && decide (d.2.2.2.2.1.1 < (d.2.1.1.length : Int)) then (
  let x4 : Bool := (decide ((gd (.int .i64) d.2.1.1 d.2.2.2.2.1.1) < (1 : Int)))
  bif x4 then (
  some ((), (((0 : Int), ()), (((11 : Int), ()), ()))))
  else (
  bif decide ((0 : Int) ≤ d.2.2.2.2.1.1) && decide (d.2.2.2.2.1.1 < (d.2.1.1.length : Int)) then (
  let x5 : Bool := (decide ((gd (.int .i64) d.2.1.1 d.2.2.2.2.1.1) > (12 : Int)))
  bif x5 then (
  some ((), (((0 : Int), ()), (((11 : Int), ()), ()))))
  else (
  bif decide ((0 : Int) ≤ d.2.2.2.2.1.1) && decide (d.2.2.2.2.1.1 < (d.2.1.1.length : Int)) then (
  let x6 : Int := (isub .i64 (gd (.int .i64) d.2.1.1 d.2.2.2.2.1.1) (1 : Int))
  bif decide ((0 : Int) ≤ x6) && decide (x6 < (12 : Int)) then (
  bif decide (x6 = (0 : Int)) then (
  (g_ref01_Of ((), ((d.1.1.1, ()), ()))).bind fun x29 =>
  (g_ref01_Plus ((), (d.1.2.1, ((x29.2.1.1, x29.1), ())))).bind fun x30 =>
  (T.2.1 ((d.1.1, x30.2), (d.2.1, ((), ((), d.2.2.2.2))))))
  else (
  bif decide (x6 = (1 : Int)) then (
  (g_ref01_Of ((), ((d.1.1.2.1, ()), ()))).bind fun x27 =>
  (g_ref01_Plus ((), (d.1.2.1, ((x27.2.1.1, x27.1), ())))).bind fun x28 =>
  (T.2.1 ((d.1.1, x28.2), (d.2.1, ((), ((), d.2.2.2.2))))))
  else (
  bif decide (x6 = (2 : Int)) then (
  (g_ref01_Of ((), ((d.1.1.2.2.1, ()), ()))).bind fun x25 =>
  (g_ref01_Plus ((), (d.1.2.1, ((x25.2.1.1, x25.1), ())))).bind fun x26 =>
  (T.2.1 ((d.1.1, x26.2), (d.2.1, ((), ((), d.2.2.2.2))))))
  else (
  bif decide (x6 = (3 : Int)) then (
  (g_ref01_Of ((), ((d.1.1.2.2.2.1, ()), ()))).bind fun x23 =>
  (g_ref01_Plus ((), (d.1.2.1, ((x23.2.1.1, x23.1), ())))).bind fun x24 =>
  (T.2.1 ((d.1.1, x24.2), (d.2.1, ((), ((), d.2.2.2.2))))))
  else (
  bif decide (x6 = (4 : Int)) then (
  (g_ref01_Of ((), ((d.1.1.2.2.2.2.1, ()), ()))).bind fun x21 =>
  (g_ref01_Plus ((), (d.1.2.1, ((x21.2.1.1, x21.1), ())))).bind fun x22 =>
  (T.2.1 ((d.1.1, x22.2), (d.2.1, ((), ((), d.2.2.2.2))))))
  else (
  bif decide (x6 = (5 : Int)) then (
  (g_ref01_Of ((), ((d.1.1.2.2.2.2.2.1, ()), ()))).bind fun x19 =>
  (g_ref01_Plus ((), (d.1.2.1, ((x19.2.1.1, x19.1), ())))).bind fun x20 =>
  (T.2.1 ((d.1.1, x20.2), (d.2.1, ((), ((), d.2.2.2.2))))))
  else (
  bif decide (x6 = (6 : Int)) then (
  (g_ref01_Of ((), ((d.1.1.2.2.2.2.2.2.1, ()), ()))).bind fun x17 =>
  (g_ref01_Plus ((), (d.1.2.1, ((x17.2.1.1, x17.1), ())))).bind fun x18 =>
  (T.2.1 ((d.1.1, x18.2), (d.2.1, ((), ((), d.2.2.2.2))))))
  else (
  bif decide (x6 = (7 : Int)) then (
  (g_ref01_Of ((), ((d.1.1.2.2.2.2.2.2.2.1, ()), ()))).bind fun x15 =>
  (g_ref01_Plus ((), (d.1.2.1, ((x15.2.1.1, x15.1), ())))).bind fun x16 =>
  (T.2.1 ((d.1.1, x16.2), (d.2.1, ((), ((), d.2.2.2.2))))))
  else (
  bif decide (x6 = (8 : Int)) then (
  (g_ref01_Of ((), ((d.1.1.2.2.2.2.2.2.2.2.1, ()), ()))).bind fun x13 =>
  (g_ref01_Plus ((), (d.1.2.1, ((x13.2.1.1, x13.1), ())))).bind fun x14 =>
  (T.2.1 ((d.1.1, x14.2), (d.2.1, ((), ((), d.2.2.2.2))))))
  else (
  bif decide (x6 = (9 : Int)) then (
  (g_ref01_Of ((), ((d.1.1.2.2.2.2.2.2.2.2.2.1, ()), ()))).bind fun x11 =>
  (g_ref01_Plus ((), (d.1.2.1, ((x11.2.1.1, x11.1), ())))).bind fun x12 =>
  (T.2.1 ((d.1.1, x12.2), (d.2.1, ((), ((), d.2.2.2.2))))))
  else (
  bif decide (x6 = (10 : Int)) then (
  (g_ref01_Of ((), ((d.1.1.2.2.2.2.2.2.2.2.2.2.1, ()), ()))).bind fun x9 =>
  (g_ref01_Plus ((), (d.1.2.1, ((x9.2.1.1, x9.1), ())))).bind fun x10 =>
  (T.2.1 ((d.1.1, x10.2), (d.2.1, ((), ((), d.2.2.2.2))))))
  else (
  bif decide (x6 = (11 : Int)) then (
  (g_ref01_Of ((), (d.1.1.2.2.2.2.2.2.2.2.2.2.2, ()))).bind fun x7 =>
  (g_ref01_Plus ((), (d.1.2.1, ((x7.2.1.1, x7.1), ())))).bind fun x8 =>
  (T.2.1 ((d.1.1, x8.2), (d.2.1, ((), ((), d.2.2.2.2))))))
  else (
  none)))))))))))))
  else none)
  else none))
  else none))
  else none)
  else (
  (g_ref01_Small ((), d.1.2)).bind fun x31 =>
  some ((), x31.2))
def f_ref32_Sum_p7 (T : TT_ref32_Sum) (d : ((Int × (Int × (Int × (Int × (Int × (Int × (Int × (Int × (Int × (Int × (Int × (Int × Unit)))))))))))) × ((Bool × ((List Int) × Unit)) × Unit)) × (((List Int) × Unit) × (Unit × (Unit × ((Int × Unit) × Unit))))) : Option (Unit × ((Int × Unit) × ((Int × Unit) × Unit))) :=
  let x32 : Int := (iadd .i64 d.2.2.2.2.1.1 (1 : Int))
  (T.1 (d.1, (d.2.1, ((), ((), ((x32, ()), ()))))))
def f_ref32_Sum_t : Nat → TT_ref32_Sum
  | 0 => (fun _ => none, (fun _ => none, ()))
  | k + 1 => (f_ref32_Sum_p4 (f_ref32_Sum_t k), (f_ref32_Sum_p7 (f_ref32_Sum_t k), ()))
theorem t_ref32_Sum (k : Nat) : f_ref32_Sum_t (k + 1) = (f_ref32_Sum_p4 (f_ref32_Sum_t k), (f_ref32_Sum_p7 (f_ref32_Sum_t k), ())) := rfl
def f_ref32_Sum_m (T : TT_ref32_Sum) (d : Unit × ((Int × (Int × (Int × (Int × (Int × (Int × (Int × (Int × (Int × (Int × (Int × (Int × Unit)))))))))))) × (((List Int) × Unit) × Unit))) : Option (Unit × ((Int × Unit) × ((Int × Unit) × Unit))) :=
  (g_ref01_Of ((), (((0 : Int), ()), ()))).bind fun x1 =>
  (T.1 ((d.2.1, ((x1.2.1.1, x1.1), ())), (d.2.2.1, ((), ((), (((0 : Int), ()), ()))))))
def c_ref32_Sum : List Nat := [7]
def L_ref32_Sum (k : Nat) : Pts po_ref32_Sum.den := [(4, ⟨sh_ref32_Sum_4, (f_ref32_Sum_t k).1⟩), (7, ⟨sh_ref32_Sum_7, (f_ref32_Sum_t k).2.1⟩)]
def R_ref32_Sum (_ : Nat) : PtsR po_ref32_Sum.den := []
def E_ref32_Sum : Env := ((((E0.add 20 (typedSem pi_ref01_Small po_ref01_Small g_ref01_Small)).add 21 (typedSem pi_ref01_Plus po_ref01_Plus g_ref01_Plus)).add 22 (typedSem pi_ref01_Of po_ref01_Of g_ref01_Of)).fr [(36, [35]), (1000007, [1000006])])
theorem q_ref32_Sum_4 (k : Nat) (d : sh_ref32_Sum_4.den) : evAt E_ref32_Sum (tb (L_ref32_Sum k) (R_ref32_Sum k)) c_ref32_Sum 4 (bodyOf Tryd.f15) 0 (finK E_ref32_Sum po_ref32_Sum [.tmp 4, .tmp 5]) (ptSt sh_ref32_Sum_4 d) = f_ref32_Sum_p4 (f_ref32_Sum_t k) d := by kernel_rfl
theorem q_ref32_Sum_7 (k : Nat) (d : sh_ref32_Sum_7.den) : evAt E_ref32_Sum (tb (L_ref32_Sum k) (R_ref32_Sum k)) c_ref32_Sum 7 (bodyOf Tryd.f15) 0 (finK E_ref32_Sum po_ref32_Sum [.tmp 4, .tmp 5]) (ptSt sh_ref32_Sum_7 d) = f_ref32_Sum_p7 (f_ref32_Sum_t k) d := by kernel_rfl
theorem q_ref32_Sum_m (k : Nat) (d : pi_ref32_Sum.den) : evCode E_ref32_Sum (tb (L_ref32_Sum k) (R_ref32_Sum k)) c_ref32_Sum (bodyOf Tryd.f15) 0 (finK E_ref32_Sum po_ref32_Sum [.tmp 4, .tmp 5]) (startSt pi_ref32_Sum 41 d) = f_ref32_Sum_m (f_ref32_Sum_t k) d := by kernel_rfl
def g_ref32_Sum (d : Unit × ((Int × (Int × (Int × (Int × (Int × (Int × (Int × (Int × (Int × (Int × (Int × (Int × Unit)))))))))))) × (((List Int) × Unit) × Unit))) : Option (Unit × ((Int × Unit) × ((Int × Unit) × Unit))) := lim fun k => f_ref32_Sum_m (f_ref32_Sum_t k) d
theorem ok_ref32_Sum : FnOk Tryd.prog ET0 15 pi_ref32_Sum po_ref32_Sum g_ref32_Sum :=
  fn_of_body (E := E_ref32_Sum) (envOk_fr (envOk_add (envOk_add (envOk_add e0_ok (typed_ok ok_ref01_Small)) (typed_ok ok_ref01_Plus)) (typed_ok ok_ref01_Of))) (fn := Tryd.f15) Tryd.func15 (by kernel_rfl) (by kernel_rfl) [.tmp 4, .tmp 5] (by kernel_rfl) (by kernel_rfl) (by decide) rfl c_ref32_Sum L_ref32_Sum R_ref32_Sum
    (by intro x hx d; simp only [L_ref32_Sum, List.mem_cons, List.not_mem_nil, or_false] at hx; rcases hx with rfl | rfl; rfl; rfl)
    (by intro k x hx d out h; simp only [L_ref32_Sum, List.mem_cons, List.not_mem_nil, or_false] at hx; rcases hx with rfl | rfl; exact (q_ref32_Sum_4 k d).trans h; exact (q_ref32_Sum_7 k d).trans h)
    (by intro x hx; cases hx)
    (by intro k x hx; cases hx)
    (by intro d out h; obtain ⟨k, hk⟩ := lim_some h; exact ⟨k, (q_ref32_Sum_m k d).trans hk⟩)

@[reducible] def pi_tally_Tally_Text : PSh := ⟨[], [.mk false [.v (.nptr (.pair (.int .i64) (.pair (.int .i64) (.pair (.int .i64) (.pair (.int .i64) (.pair (.int .i64) (.pair (.int .i64) (.pair (.int .i64) (.pair (.int .i64) (.pair (.int .i64) (.pair (.int .i64) (.pair (.int .i64) (.int .i64)))))))))))))]]⟩
@[reducible] def po_tally_Tally_Text : PSh := ⟨[], [.mk false [vS]]⟩
@[reducible] def TT_tally_Tally_Text : Type := (((((List ByteArray) × Unit) × (Unit × ((Int × (Int × (Int × (Int × (Int × (Int × (Int × (Int × (Int × (Int × (Int × (Int × Unit)))))))))))) × ((Int × Unit) × Unit)))) → Option (Unit × ((ByteArray × Unit) × Unit))) × (((((List ByteArray) × Unit) × (Unit × ((Int × Unit) × ((Int × Unit) × ((Int × (Int × (Int × (Int × (Int × (Int × (Int × (Int × (Int × (Int × (Int × (Int × Unit)))))))))))) × ((Int × Unit) × Unit)))))) → Option (Unit × ((ByteArray × Unit) × Unit))) × Unit))
@[reducible] def sh_tally_Tally_Text_7 : PSh := ⟨[.row 9 .str], [.any, .any, .any, .mk false [.osl 0], .any, .any, .any, .any, .any, .any, .any, .mk true [vI, vI, vI, vI, vI, vI, vI, vI, vI, vI, vI, vI], .mk false [vI], .any, .any, .any, .any, .any, .any, .any, .any, .any, .any, .any, .any, .any, .any]⟩
@[reducible] def sh_tally_Tally_Text_11 : PSh := ⟨[.row 9 .str], [.any, .any, .any, .mk false [.osl 0], .mk false [vI], .mk false [vI], .any, .any, .any, .any, .any, .mk true [vI, vI, vI, vI, vI, vI, vI, vI, vI, vI, vI, vI], .mk false [vI], .any, .any, .any, .any, .any, .any, .any, .any, .any, .any, .any, .any, .any, .any]⟩
def f_tally_Tally_Text_p7 (T : TT_tally_Tally_Text) (d : ((List ByteArray) × Unit) × (Unit × ((Int × (Int × (Int × (Int × (Int × (Int × (Int × (Int × (Int × (Int × (Int × (Int × Unit)))))))))))) × ((Int × Unit) × Unit)))) : Option (Unit × ((ByteArray × Unit) × Unit)) :=
  let x2 : Bool := (decide (d.2.2.2.1.1 < (12 : Int)))
  bif x2 then (
  bif decide ((0 : Int) ≤ d.2.2.2.1.1) && decide (d.2.2.2.1.1 < (12 : Int)) then (
  bif decide (d.2.2.2.1.1 = (0 : Int)) then (
  (T.2.1 (d.1, ((), (d.2.2.2.1, ((d.2.2.1.1, ()), d.2.2))))))
  else (
  bif decide (d.2.2.2.1.1 = (1 : Int)) then (
  (T.2.1 (d.1, ((), (d.2.2.2.1, ((d.2.2.1.2.1, ()), d.2.2))))))
  else (
  bif decide (d.2.2.2.1.1 = (2 : Int)) then (
  (T.2.1 (d.1, ((), (d.2.2.2.1, ((d.2.2.1.2.2.1, ()), d.2.2))))))
  else (
  bif decide (d.2.2.2.1.1 = (3 : Int)) then (
  (T.2.1 (d.1, ((), (d.2.2.2.1, ((d.2.2.1.2.2.2.1, ()), d.2.2))))))
  else (
  bif decide (d.2.2.2.1.1 = (4 : Int)) then (
  (T.2.1 (d.1, ((), (d.2.2.2.1, ((d.2.2.1.2.2.2.2.1, ()), d.2.2))))))
  else (
  bif decide (d.2.2.2.1.1 = (5 : Int)) then (
  (T.2.1 (d.1, ((), (d.2.2.2.1, ((d.2.2.1.2.2.2.2.2.1, ()), d.2.2))))))
  else (
  bif decide (d.2.2.2.1.1 = (6 : Int)) then (
  (T.2.1 (d.1, ((), (d.2.2.2.1, ((d.2.2.1.2.2.2.2.2.2.1, ()), d.2.2))))))
  else (
  bif decide (d.2.2.2.1.1 = (7 : Int)) then (
  (T.2.1 (d.1, ((), (d.2.2.2.1, ((d.2.2.1.2.2.2.2.2.2.2.1, ()), d.2.2))))))
  else (
  bif decide (d.2.2.2.1.1 = (8 : Int)) then (
  (T.2.1 (d.1, ((), (d.2.2.2.1, ((d.2.2.1.2.2.2.2.2.2.2.2.1, ()), d.2.2))))))
  else (
  bif decide (d.2.2.2.1.1 = (9 : Int)) then (
  (T.2.1 (d.1, ((), (d.2.2.2.1, ((d.2.2.1.2.2.2.2.2.2.2.2.2.1, ()), d.2.2))))))
  else (
  bif decide (d.2.2.2.1.1 = (10 : Int)) then (
  (T.2.1 (d.1, ((), (d.2.2.2.1, ((d.2.2.1.2.2.2.2.2.2.2.2.2.2.1, ()), d.2.2))))))
  else (
  bif decide (d.2.2.2.1.1 = (11 : Int)) then (
  (T.2.1 (d.1, ((), (d.2.2.2.1, (d.2.2.1.2.2.2.2.2.2.2.2.2.2.2, d.2.2))))))
  else (
  none)))))))))))))
  else none)
  else (
  (g_strings_Join ((), (d.1, (((⟨#[]⟩ : ByteArray), ()), ())))).bind fun x3 =>
  some ((), x3.2))
def f_tally_Tally_Text_p11 (T : TT_tally_Tally_Text) (d : ((List ByteArray) × Unit) × (Unit × ((Int × Unit) × ((Int × Unit) × ((Int × (Int × (Int × (Int × (Int × (Int × (Int × (Int × (Int × (Int × (Int × (Int × Unit)))))))))))) × ((Int × Unit) × Unit)))))) : Option (Unit × ((ByteArray × Unit) × Unit)) :=
  let x4 : Int := (iadd .i64 d.2.2.1.1 (1 : Int))
  (g_tally_Name ((), ((x4, ()), ()))).bind fun x5 =>
  (g_strconv_FormatInt ((), (d.2.2.2.1, (((10 : Int), ()), ())))).bind fun x6 =>
  let x7 : (List ByteArray) := ([x5.2.1.1, (⟨#[32]⟩ : ByteArray), x6.2.1.1, (⟨#[10]⟩ : ByteArray)] : List ByteArray)
  bif decide (((d.1.1.length + x7.length) * 16 : Nat) ≤ 140737488355328) && decide (d.1.1.length + x7.length ≤ 9223372036854775807) then (
  let x8 : (List ByteArray) := (d.1.1 ++ x7)
  let x9 : Int := (iadd .i64 d.2.2.2.2.2.1.1 (1 : Int))
  (T.1 ((x8, ()), ((), (d.2.2.2.2.1, ((x9, ()), ()))))))
  else none
def f_tally_Tally_Text_t : Nat → TT_tally_Tally_Text
  | 0 => (fun _ => none, (fun _ => none, ()))
  | k + 1 => (f_tally_Tally_Text_p7 (f_tally_Tally_Text_t k), (f_tally_Tally_Text_p11 (f_tally_Tally_Text_t k), ()))
theorem t_tally_Tally_Text (k : Nat) : f_tally_Tally_Text_t (k + 1) = (f_tally_Tally_Text_p7 (f_tally_Tally_Text_t k), (f_tally_Tally_Text_p11 (f_tally_Tally_Text_t k), ())) := rfl
def f_tally_Tally_Text_m (T : TT_tally_Tally_Text) (d : Unit × (((Option (Int × (Int × (Int × (Int × (Int × (Int × (Int × (Int × (Int × (Int × (Int × Int)))))))))))) × Unit) × Unit)) : Option (Unit × ((ByteArray × Unit) × Unit)) :=
  bif d.2.1.1.isNone then (
  some ((), (((⟨#[]⟩ : ByteArray), ()), ())))
  else (
  d.2.1.1.bind fun x1 =>
  (T.1 ((([] : List ByteArray), ()), ((), ((x1.1, (x1.2.1, (x1.2.2.1, (x1.2.2.2.1, (x1.2.2.2.2.1, (x1.2.2.2.2.2.1, (x1.2.2.2.2.2.2.1, (x1.2.2.2.2.2.2.2.1, (x1.2.2.2.2.2.2.2.2.1, (x1.2.2.2.2.2.2.2.2.2.1, (x1.2.2.2.2.2.2.2.2.2.2.1, (x1.2.2.2.2.2.2.2.2.2.2.2, ())))))))))))), (((0 : Int), ()), ()))))))
def c_tally_Tally_Text : List Nat := [11]
def L_tally_Tally_Text (k : Nat) : Pts po_tally_Tally_Text.den := [(7, ⟨sh_tally_Tally_Text_7, (f_tally_Tally_Text_t k).1⟩), (11, ⟨sh_tally_Tally_Text_11, (f_tally_Tally_Text_t k).2.1⟩)]
def R_tally_Tally_Text (_ : Nat) : PtsR po_tally_Tally_Text.den := []
def E_tally_Tally_Text : Env := (((E0.add 19 (typedSem pi_tally_Name po_tally_Name g_tally_Name)).add 26 (typedSem pi_strconv_FormatInt po_strconv_FormatInt g_strconv_FormatInt)).add 27 (typedSem pi_strings_Join po_strings_Join g_strings_Join))
theorem q_tally_Tally_Text_7 (k : Nat) (d : sh_tally_Tally_Text_7.den) : evAt E_tally_Tally_Text (tb (L_tally_Tally_Text k) (R_tally_Tally_Text k)) c_tally_Tally_Text 7 (bodyOf Tryd.f16) 0 (finK E_tally_Tally_Text po_tally_Tally_Text [.tmp 2]) (ptSt sh_tally_Tally_Text_7 d) = f_tally_Tally_Text_p7 (f_tally_Tally_Text_t k) d := by kernel_rfl
theorem q_tally_Tally_Text_11 (k : Nat) (d : sh_tally_Tally_Text_11.den) : evAt E_tally_Tally_Text (tb (L_tally_Tally_Text k) (R_tally_Tally_Text k)) c_tally_Tally_Text 11 (bodyOf Tryd.f16) 0 (finK E_tally_Tally_Text po_tally_Tally_Text [.tmp 2]) (ptSt sh_tally_Tally_Text_11 d) = f_tally_Tally_Text_p11 (f_tally_Tally_Text_t k) d := by kernel_rfl
theorem q_tally_Tally_Text_m (k : Nat) (d : pi_tally_Tally_Text.den) : evCode E_tally_Tally_Text (tb (L_tally_Tally_Text k) (R_tally_Tally_Text k)) c_tally_Tally_Text (bodyOf Tryd.f16) 0 (finK E_tally_Tally_Text po_tally_Tally_Text [.tmp 2]) (startSt pi_tally_Tally_Text 27 d) = f_tally_Tally_Text_m (f_tally_Tally_Text_t k) d := by kernel_rfl
def g_tally_Tally_Text (d : Unit × (((Option (Int × (Int × (Int × (Int × (Int × (Int × (Int × (Int × (Int × (Int × (Int × Int)))))))))))) × Unit) × Unit)) : Option (Unit × ((ByteArray × Unit) × Unit)) := lim fun k => f_tally_Tally_Text_m (f_tally_Tally_Text_t k) d
theorem ok_tally_Tally_Text : FnOk Tryd.prog ET0 16 pi_tally_Tally_Text po_tally_Tally_Text g_tally_Tally_Text :=
  fn_of_body (E := E_tally_Tally_Text) (envOk_add (envOk_add (envOk_add e0_ok (typed_ok ok_tally_Name)) (typed_ok ok_strconv_FormatInt)) (typed_ok ok_strings_Join)) (fn := Tryd.f16) Tryd.func16 (by kernel_rfl) (by kernel_rfl) [.tmp 2] (by kernel_rfl) (by kernel_rfl) (by decide) rfl c_tally_Tally_Text L_tally_Tally_Text R_tally_Tally_Text
    (by intro x hx d; simp only [L_tally_Tally_Text, List.mem_cons, List.not_mem_nil, or_false] at hx; rcases hx with rfl | rfl; rfl; rfl)
    (by intro k x hx d out h; simp only [L_tally_Tally_Text, List.mem_cons, List.not_mem_nil, or_false] at hx; rcases hx with rfl | rfl; exact (q_tally_Tally_Text_7 k d).trans h; exact (q_tally_Tally_Text_11 k d).trans h)
    (by intro x hx; cases hx)
    (by intro k x hx; cases hx)
    (by intro d out h; obtain ⟨k, hk⟩ := lim_some h; exact ⟨k, (q_tally_Tally_Text_m k d).trans hk⟩)

@[reducible] def pi_ref32_Names : PSh := ⟨[], []⟩
@[reducible] def po_ref32_Names : PSh := ⟨[.row 9 .str], [.mk false [.osl 0]]⟩
def f_ref32_Names_m (T : Unit) (d : Unit × Unit) : Option (((List ByteArray) × Unit) × (Unit × Unit)) :=
  let x1 : (List ByteArray) := ([(⟨#[108, 111, 97, 100, 101, 100]⟩ : ByteArray), (⟨#[114, 101, 102, 117, 115, 101, 100]⟩ : ByteArray), (⟨#[114, 101, 97, 100]⟩ : ByteArray), (⟨#[98, 97, 99, 107]⟩ : ByteArray), (⟨#[119, 111, 114, 100]⟩ : ByteArray), (⟨#[108, 105, 110, 101]⟩ : ByteArray), (⟨#[114, 101, 112, 108, 121]⟩ : ByteArray), (⟨#[107, 105, 115, 115]⟩ : ByteArray), (⟨#[108, 105, 109, 105, 116, 101, 100]⟩ : ByteArray), (⟨#[111, 100, 100]⟩ : ByteArray), (⟨#[115, 116, 114, 97, 110, 103, 101]⟩ : ByteArray), (⟨#[105, 100, 108, 101]⟩ : ByteArray)] : List ByteArray)
  some ((x1, ()), ((), ()))
def g_ref32_Names (d : Unit × Unit) : Option (((List ByteArray) × Unit) × (Unit × Unit)) := f_ref32_Names_m () d
theorem ok_ref32_Names : FnOk Tryd.prog ET0 28 pi_ref32_Names po_ref32_Names g_ref32_Names :=
  fn0 (E := E0) e0_ok (fn := Tryd.f28) Tryd.func28 (by kernel_rfl) (by kernel_rfl) [.tmp 0] (by kernel_rfl) rfl rfl rfl [] fun d => by kernel_rfl

@[reducible] def pi_ref02_Raw : PSh := ⟨[], [.mk false [vI], .mk false [vI]]⟩
@[reducible] def po_ref02_Raw : PSh := ⟨[], [.mk false [vS]]⟩
@[reducible] def TT_ref02_Raw : Type := (((Unit × ((Int × Unit) × ((Int × Unit) × ((ByteArray × Unit) × Unit)))) → Option (Unit × ((ByteArray × Unit) × Unit))) × (((Unit × ((Int × Unit) × ((ByteArray × Unit) × Unit))) → Option (Unit × ((ByteArray × Unit) × Unit))) × Unit))
@[reducible] def sh_ref02_Raw_3 : PSh := ⟨[], [.mk false [vI], .mk false [vI], .any, .any, .any, .mk false [vS], .any, .any, .any, .any, .any, .any, .any, .any, .any, .any, .any, .any, .any, .any, .any, .any, .any, .any, .any, .any, .any, .any, .any, .any]⟩
@[reducible] def sh_ref02_Raw_8 : PSh := ⟨[], [.any, .mk false [vI], .any, .any, .any, .mk false [vS], .any, .any, .any, .any, .any, .any, .any, .any, .any, .any, .any, .any, .any, .any, .any, .any, .any, .any, .any, .any, .any, .any, .any, .any]⟩
def f_ref02_Raw_p3 (T : TT_ref02_Raw) (d : Unit × ((Int × Unit) × ((Int × Unit) × ((ByteArray × Unit) × Unit)))) : Option (Unit × ((ByteArray × Unit) × Unit)) :=
  let x1 : Bool := (decide (d.2.1.1 > (0 : Int)))
  bif x1 then (
  let x2 : Int := (Int.tmod d.2.1.1 (10 : Int))
  let x3 : Int := (iadd .i64 (48 : Int) x2)
  let x4 : Int := (iconv .u8 x3)
  let x5 : (List Int) := ([x4] : List Int)
  let x6 : ByteArray := (strOf x5)
  bif fitsS x6 d.2.2.2.1.1 then (
  let x7 : ByteArray := (x6 ++ d.2.2.2.1.1)
  let x8 : Int := (iquo .i64 d.2.1.1 (10 : Int))
  (T.1 ((), ((x8, ()), (d.2.2.1, ((x7, ()), ()))))))
  else none)
  else (
  (T.2.1 ((), d.2.2)))
def f_ref02_Raw_p8 (T : TT_ref02_Raw) (d : Unit × ((Int × Unit) × ((ByteArray × Unit) × Unit))) : Option (Unit × ((ByteArray × Unit) × Unit)) :=
  let x9 : Int := (d.2.2.1.1.size : Int)
  let x10 : Bool := (decide (x9 < d.2.1.1))
  bif x10 then (
  bif fitsS (⟨#[48]⟩ : ByteArray) d.2.2.1.1 then (
  let x11 : ByteArray := ((⟨#[48]⟩ : ByteArray) ++ d.2.2.1.1)
  (T.2.1 ((), (d.2.1, ((x11, ()), ())))))
  else none)
  else (
  let x12 : Int := (d.2.2.1.1.size : Int)
  let x13 : Bool := (x12 == (0 : Int))
  bif x13 then (
  bif fitsS (⟨#[48]⟩ : ByteArray) d.2.2.1.1 then (
  let x14 : ByteArray := ((⟨#[48]⟩ : ByteArray) ++ d.2.2.1.1)
  (T.2.1 ((), (d.2.1, ((x14, ()), ())))))
  else none)
  else (
  some ((), d.2.2)))
def f_ref02_Raw_t : Nat → TT_ref02_Raw
  | 0 => (fun _ => none, (fun _ => none, ()))
  | k + 1 => (f_ref02_Raw_p3 (f_ref02_Raw_t k), (f_ref02_Raw_p8 (f_ref02_Raw_t k), ()))
theorem t_ref02_Raw (k : Nat) : f_ref02_Raw_t (k + 1) = (f_ref02_Raw_p3 (f_ref02_Raw_t k), (f_ref02_Raw_p8 (f_ref02_Raw_t k), ())) := rfl
def f_ref02_Raw_m (T : TT_ref02_Raw) (d : Unit × ((Int × Unit) × ((Int × Unit) × Unit))) : Option (Unit × ((ByteArray × Unit) × Unit)) :=
  (T.1 ((), (d.2.1, (d.2.2.1, (((⟨#[]⟩ : ByteArray), ()), ())))))
def c_ref02_Raw : List Nat := []
def L_ref02_Raw (k : Nat) : Pts po_ref02_Raw.den := [(3, ⟨sh_ref02_Raw_3, (f_ref02_Raw_t k).1⟩), (8, ⟨sh_ref02_Raw_8, (f_ref02_Raw_t k).2.1⟩)]
def R_ref02_Raw (_ : Nat) : PtsR po_ref02_Raw.den := []
def E_ref02_Raw : Env := E0
theorem q_ref02_Raw_3 (k : Nat) (d : sh_ref02_Raw_3.den) : evAt E_ref02_Raw (tb (L_ref02_Raw k) (R_ref02_Raw k)) c_ref02_Raw 3 (bodyOf Tryd.f29) 0 (finK E_ref02_Raw po_ref02_Raw [.tmp 4]) (ptSt sh_ref02_Raw_3 d) = f_ref02_Raw_p3 (f_ref02_Raw_t k) d := by kernel_rfl
theorem q_ref02_Raw_8 (k : Nat) (d : sh_ref02_Raw_8.den) : evAt E_ref02_Raw (tb (L_ref02_Raw k) (R_ref02_Raw k)) c_ref02_Raw 8 (bodyOf Tryd.f29) 0 (finK E_ref02_Raw po_ref02_Raw [.tmp 4]) (ptSt sh_ref02_Raw_8 d) = f_ref02_Raw_p8 (f_ref02_Raw_t k) d := by kernel_rfl
theorem q_ref02_Raw_m (k : Nat) (d : pi_ref02_Raw.den) : evCode E_ref02_Raw (tb (L_ref02_Raw k) (R_ref02_Raw k)) c_ref02_Raw (bodyOf Tryd.f29) 0 (finK E_ref02_Raw po_ref02_Raw [.tmp 4]) (startSt pi_ref02_Raw 30 d) = f_ref02_Raw_m (f_ref02_Raw_t k) d := by kernel_rfl
def g_ref02_Raw (d : Unit × ((Int × Unit) × ((Int × Unit) × Unit))) : Option (Unit × ((ByteArray × Unit) × Unit)) := lim fun k => f_ref02_Raw_m (f_ref02_Raw_t k) d
theorem ok_ref02_Raw : FnOk Tryd.prog ET0 29 pi_ref02_Raw po_ref02_Raw g_ref02_Raw :=
  fn_of_body (E := E_ref02_Raw) e0_ok (fn := Tryd.f29) Tryd.func29 (by kernel_rfl) (by kernel_rfl) [.tmp 4] (by kernel_rfl) (by kernel_rfl) (by decide) rfl c_ref02_Raw L_ref02_Raw R_ref02_Raw
    (by intro x hx d; simp only [L_ref02_Raw, List.mem_cons, List.not_mem_nil, or_false] at hx; rcases hx with rfl | rfl; rfl; rfl)
    (by intro k x hx d out h; simp only [L_ref02_Raw, List.mem_cons, List.not_mem_nil, or_false] at hx; rcases hx with rfl | rfl; exact (q_ref02_Raw_3 k d).trans h; exact (q_ref02_Raw_8 k d).trans h)
    (by intro x hx; cases hx)
    (by intro k x hx; cases hx)
    (by intro d out h; obtain ⟨k, hk⟩ := lim_some h; exact ⟨k, (q_ref02_Raw_m k d).trans hk⟩)

@[reducible] def pi_ref32_Text : PSh := ⟨[], [.mk true [vI, vI, vI, vI, vI, vI, vI, vI, vI, vI, vI, vI]]⟩
@[reducible] def po_ref32_Text : PSh := ⟨[], [.mk false [vS]]⟩
@[reducible] def TT_ref32_Text : Type := (((((Int × (Int × (Int × (Int × (Int × (Int × (Int × (Int × (Int × (Int × (Int × (Int × Unit)))))))))))) × ((List ByteArray) × Unit)) × (Unit × ((ByteArray × Unit) × (Unit × ((Int × Unit) × Unit))))) → Option (Unit × ((ByteArray × Unit) × Unit))) × (((((Int × (Int × (Int × (Int × (Int × (Int × (Int × (Int × (Int × (Int × (Int × (Int × Unit)))))))))))) × ((List ByteArray) × Unit)) × (Unit × ((ByteArray × Unit) × (Unit × ((Int × Unit) × Unit))))) → Option (Unit × ((ByteArray × Unit) × Unit))) × Unit))
@[reducible] def sh_ref32_Text_5 : PSh := ⟨[.var 27 [vI, vI, vI, vI, vI, vI, vI, vI, vI, vI, vI, vI], .row 9 .str], [.any, .mk false [.ref 0 0], .any, .mk false [vS], .mk false [.osl 1], .mk false [vI], .any, .any, .any, .any, .any, .any, .any, .any, .any, .any, .any, .any, .any, .any, .any, .any, .any, .any, .any]⟩
@[reducible] def sh_ref32_Text_8 : PSh := ⟨[.var 27 [vI, vI, vI, vI, vI, vI, vI, vI, vI, vI, vI, vI], .row 9 .str], [.any, .mk false [.ref 0 0], .any, .mk false [vS], .mk false [.osl 1], .mk false [vI], .any, .any, .any, .any, .any, .any, .any, .any, .any, .any, .any, .any, .any, .any, .any, .any, .any, .any, .any]⟩
def f_ref32_Text_p5 (T : TT_ref32_Text) (d : ((Int × (Int × (Int × (Int × (Int × (Int × (Int × (Int × (Int × (Int × (Int × (Int × Unit)))))))))))) × ((List ByteArray) × Unit)) × (Unit × ((ByteArray × Unit) × (Unit × ((Int × Unit) × Unit))))) : Option (Unit × ((ByteArray × Unit) × Unit)) :=
  let x2 : Bool := (decide (d.2.2.2.2.1.1 < (12 : Int)))
  bif x2 then (
  bif decide ((0 : Int) ≤ d.2.2.2.2.1.1) && decide (d.2.2.2.2.1.1 < (d.1.2.1.length : Int)) then (
  bif fitsS (gd .str d.1.2.1 d.2.2.2.2.1.1) (⟨#[32]⟩ : ByteArray) then (
  let x3 : ByteArray := ((gd .str d.1.2.1 d.2.2.2.2.1.1) ++ (⟨#[32]⟩ : ByteArray))
  bif decide ((0 : Int) ≤ d.2.2.2.2.1.1) && decide (d.2.2.2.2.1.1 < (12 : Int)) then (
  bif decide (d.2.2.2.2.1.1 = (0 : Int)) then (
  (g_ref02_Raw ((), ((d.1.1.1, ()), (((1 : Int), ()), ())))).bind fun x48 =>
  bif fitsS x3 x48.2.1.1 then (
  let x49 : ByteArray := (x3 ++ x48.2.1.1)
  bif fitsS x49 (⟨#[10]⟩ : ByteArray) then (
  let x50 : ByteArray := (x49 ++ (⟨#[10]⟩ : ByteArray))
  bif fitsS d.2.2.1.1 x50 then (
  let x51 : ByteArray := (d.2.2.1.1 ++ x50)
  (T.2.1 (d.1, ((), ((x51, ()), ((), d.2.2.2.2))))))
  else none)
  else none)
  else none)
  else (
  bif decide (d.2.2.2.2.1.1 = (1 : Int)) then (
  (g_ref02_Raw ((), ((d.1.1.2.1, ()), (((1 : Int), ()), ())))).bind fun x44 =>
  bif fitsS x3 x44.2.1.1 then (
  let x45 : ByteArray := (x3 ++ x44.2.1.1)
  bif fitsS x45 (⟨#[10]⟩ : ByteArray) then (
  let x46 : ByteArray := (x45 ++ (⟨#[10]⟩ : ByteArray))
  bif fitsS d.2.2.1.1 x46 then (
  let x47 : ByteArray := (d.2.2.1.1 ++ x46)
  (T.2.1 (d.1, ((), ((x47, ()), ((), d.2.2.2.2))))))
  else none)
  else none)
  else none)
  else (
  bif decide (d.2.2.2.2.1.1 = (2 : Int)) then (
  (g_ref02_Raw ((), ((d.1.1.2.2.1, ()), (((1 : Int), ()), ())))).bind fun x40 =>
  bif fitsS x3 x40.2.1.1 then (
  let x41 : ByteArray := (x3 ++ x40.2.1.1)
  bif fitsS x41 (⟨#[10]⟩ : ByteArray) then (
  let x42 : ByteArray := (x41 ++ (⟨#[10]⟩ : ByteArray))
  bif fitsS d.2.2.1.1 x42 then (
  let x43 : ByteArray := (d.2.2.1.1 ++ x42)
  (T.2.1 (d.1, ((), ((x43, ()), ((), d.2.2.2.2))))))
  else none)
  else none)
  else none)
  else (
  bif decide (d.2.2.2.2.1.1 = (3 : Int)) then (
  (g_ref02_Raw ((), ((d.1.1.2.2.2.1, ()), (((1 : Int), ()), ())))).bind fun x36 =>
  bif fitsS x3 x36.2.1.1 then (
  let x37 : ByteArray := (x3 ++ x36.2.1.1)
  bif fitsS x37 (⟨#[10]⟩ : ByteArray) then (
  let x38 : ByteArray := (x37 ++ (⟨#[10]⟩ : ByteArray))
  bif fitsS d.2.2.1.1 x38 then (
  let x39 : ByteArray := (d.2.2.1.1 ++ x38)
  (T.2.1 (d.1, ((), ((x39, ()), ((), d.2.2.2.2))))))
  else none)
  else none)
  else none)
  else (
  bif decide (d.2.2.2.2.1.1 = (4 : Int)) then (
  (g_ref02_Raw ((), ((d.1.1.2.2.2.2.1, ()), (((1 : Int), ()), ())))).bind fun x32 =>
  bif fitsS x3 x32.2.1.1 then (
  let x33 : ByteArray := (x3 ++ x32.2.1.1)
  bif fitsS x33 (⟨#[10]⟩ : ByteArray) then (
  let x34 : ByteArray := (x33 ++ (⟨#[10]⟩ : ByteArray))
  bif fitsS d.2.2.1.1 x34 then (
  let x35 : ByteArray := (d.2.2.1.1 ++ x34)
  (T.2.1 (d.1, ((), ((x35, ()), ((), d.2.2.2.2))))))
  else none)
  else none)
  else none)
  else (
  bif decide (d.2.2.2.2.1.1 = (5 : Int)) then (
  (g_ref02_Raw ((), ((d.1.1.2.2.2.2.2.1, ()), (((1 : Int), ()), ())))).bind fun x28 =>
  bif fitsS x3 x28.2.1.1 then (
  let x29 : ByteArray := (x3 ++ x28.2.1.1)
  bif fitsS x29 (⟨#[10]⟩ : ByteArray) then (
  let x30 : ByteArray := (x29 ++ (⟨#[10]⟩ : ByteArray))
  bif fitsS d.2.2.1.1 x30 then (
  let x31 : ByteArray := (d.2.2.1.1 ++ x30)
  (T.2.1 (d.1, ((), ((x31, ()), ((), d.2.2.2.2))))))
  else none)
  else none)
  else none)
  else (
  bif decide (d.2.2.2.2.1.1 = (6 : Int)) then (
  (g_ref02_Raw ((), ((d.1.1.2.2.2.2.2.2.1, ()), (((1 : Int), ()), ())))).bind fun x24 =>
  bif fitsS x3 x24.2.1.1 then (
  let x25 : ByteArray := (x3 ++ x24.2.1.1)
  bif fitsS x25 (⟨#[10]⟩ : ByteArray) then (
  let x26 : ByteArray := (x25 ++ (⟨#[10]⟩ : ByteArray))
  bif fitsS d.2.2.1.1 x26 then (
  let x27 : ByteArray := (d.2.2.1.1 ++ x26)
  (T.2.1 (d.1, ((), ((x27, ()), ((), d.2.2.2.2))))))
  else none)
  else none)
  else none)
  else (
  bif decide (d.2.2.2.2.1.1 = (7 : Int)) then (
  (g_ref02_Raw ((), ((d.1.1.2.2.2.2.2.2.2.1, ()), (((1 : Int), ()), ())))).bind fun x20 =>
  bif fitsS x3 x20.2.1.1 then (
  let x21 : ByteArray := (x3 ++ x20.2.1.1)
  bif fitsS x21 (⟨#[10]⟩ : ByteArray) then (
  let x22 : ByteArray := (x21 ++ (⟨#[10]⟩ : ByteArray))
  bif fitsS d.2.2.1.1 x22 then (
  let x23 : ByteArray := (d.2.2.1.1 ++ x22)
  (T.2.1 (d.1, ((), ((x23, ()), ((), d.2.2.2.2))))))
  else none)
  else none)
  else none)
  else (
  bif decide (d.2.2.2.2.1.1 = (8 : Int)) then (
  (g_ref02_Raw ((), ((d.1.1.2.2.2.2.2.2.2.2.1, ()), (((1 : Int), ()), ())))).bind fun x16 =>
  bif fitsS x3 x16.2.1.1 then (
  let x17 : ByteArray := (x3 ++ x16.2.1.1)
  bif fitsS x17 (⟨#[10]⟩ : ByteArray) then (
  let x18 : ByteArray := (x17 ++ (⟨#[10]⟩ : ByteArray))
  bif fitsS d.2.2.1.1 x18 then (
  let x19 : ByteArray := (d.2.2.1.1 ++ x18)
  (T.2.1 (d.1, ((), ((x19, ()), ((), d.2.2.2.2))))))
  else none)
  else none)
  else none)
  else (
  bif decide (d.2.2.2.2.1.1 = (9 : Int)) then (
  (g_ref02_Raw ((), ((d.1.1.2.2.2.2.2.2.2.2.2.1, ()), (((1 : Int), ()), ())))).bind fun x12 =>
  bif fitsS x3 x12.2.1.1 then (
  let x13 : ByteArray := (x3 ++ x12.2.1.1)
  bif fitsS x13 (⟨#[10]⟩ : ByteArray) then (
  let x14 : ByteArray := (x13 ++ (⟨#[10]⟩ : ByteArray))
  bif fitsS d.2.2.1.1 x14 then (
  let x15 : ByteArray := (d.2.2.1.1 ++ x14)
  (T.2.1 (d.1, ((), ((x15, ()), ((), d.2.2.2.2))))))
  else none)
  else none)
  else none)
  else (
  bif decide (d.2.2.2.2.1.1 = (10 : Int)) then (
  (g_ref02_Raw ((), ((d.1.1.2.2.2.2.2.2.2.2.2.2.1, ()), (((1 : Int), ()), ())))).bind fun x8 =>
  bif fitsS x3 x8.2.1.1 then (
  let x9 : ByteArray := (x3 ++ x8.2.1.1)
  bif fitsS x9 (⟨#[10]⟩ : ByteArray) then (
  let x10 : ByteArray := (x9 ++ (⟨#[10]⟩ : ByteArray))
  bif fitsS d.2.2.1.1 x10 then (
  let x11 : ByteArray := (d.2.2.1.1 ++ x10)
  (T.2.1 (d.1, ((), ((x11, ()), ((), d.2.2.2.2))))))
  else none)
  else none)
  else none)
  else (
  bif decide (d.2.2.2.2.1.1 = (11 : Int)) then (
  (g_ref02_Raw ((), (d.1.1.2.2.2.2.2.2.2.2.2.2.2, (((1 : Int), ()), ())))).bind fun x4 =>
  bif fitsS x3 x4.2.1.1 then (
  let x5 : ByteArray := (x3 ++ x4.2.1.1)
  bif fitsS x5 (⟨#[10]⟩ : ByteArray) then (
  let x6 : ByteArray := (x5 ++ (⟨#[10]⟩ : ByteArray))
  bif fitsS d.2.2.1.1 x6 then (
  let x7 : ByteArray := (d.2.2.1.1 ++ x6)
  (T.2.1 (d.1, ((), ((x7, ()), ((), d.2.2.2.2))))))
  else none)
  else none)
  else none)
  else (
  none)))))))))))))
  else none)
  else none)
  else none)
  else (
  some ((), (d.2.2.1, ())))
def f_ref32_Text_p8 (T : TT_ref32_Text) (d : ((Int × (Int × (Int × (Int × (Int × (Int × (Int × (Int × (Int × (Int × (Int × (Int × Unit)))))))))))) × ((List ByteArray) × Unit)) × (Unit × ((ByteArray × Unit) × (Unit × ((Int × Unit) × Unit))))) : Option (Unit × ((ByteArray × Unit) × Unit)) :=
  let x52 : Int := (iadd .i64 d.2.2.2.2.1.1 (1 : Int))
  (T.1 (d.1, ((), (d.2.2.1, ((), ((x52, ()), ()))))))
def f_ref32_Text_t : Nat → TT_ref32_Text
  | 0 => (fun _ => none, (fun _ => none, ()))
  | k + 1 => (f_ref32_Text_p5 (f_ref32_Text_t k), (f_ref32_Text_p8 (f_ref32_Text_t k), ()))
theorem t_ref32_Text (k : Nat) : f_ref32_Text_t (k + 1) = (f_ref32_Text_p5 (f_ref32_Text_t k), (f_ref32_Text_p8 (f_ref32_Text_t k), ())) := rfl
def f_ref32_Text_m (T : TT_ref32_Text) (d : Unit × ((Int × (Int × (Int × (Int × (Int × (Int × (Int × (Int × (Int × (Int × (Int × (Int × Unit)))))))))))) × Unit)) : Option (Unit × ((ByteArray × Unit) × Unit)) :=
  (g_ref32_Names ((), ())).bind fun x1 =>
  (T.1 ((d.2.1, x1.1), ((), (((⟨#[]⟩ : ByteArray), ()), ((), (((0 : Int), ()), ()))))))
def c_ref32_Text : List Nat := [8]
def L_ref32_Text (k : Nat) : Pts po_ref32_Text.den := [(5, ⟨sh_ref32_Text_5, (f_ref32_Text_t k).1⟩), (8, ⟨sh_ref32_Text_8, (f_ref32_Text_t k).2.1⟩)]
def R_ref32_Text (_ : Nat) : PtsR po_ref32_Text.den := []
def E_ref32_Text : Env := ((E0.add 28 (typedSem pi_ref32_Names po_ref32_Names g_ref32_Names)).add 29 (typedSem pi_ref02_Raw po_ref02_Raw g_ref02_Raw))
theorem q_ref32_Text_5 (k : Nat) (d : sh_ref32_Text_5.den) : evAt E_ref32_Text (tb (L_ref32_Text k) (R_ref32_Text k)) c_ref32_Text 5 (bodyOf Tryd.f17) 0 (finK E_ref32_Text po_ref32_Text [.tmp 2]) (ptSt sh_ref32_Text_5 d) = f_ref32_Text_p5 (f_ref32_Text_t k) d := by kernel_rfl
theorem q_ref32_Text_8 (k : Nat) (d : sh_ref32_Text_8.den) : evAt E_ref32_Text (tb (L_ref32_Text k) (R_ref32_Text k)) c_ref32_Text 8 (bodyOf Tryd.f17) 0 (finK E_ref32_Text po_ref32_Text [.tmp 2]) (ptSt sh_ref32_Text_8 d) = f_ref32_Text_p8 (f_ref32_Text_t k) d := by kernel_rfl
theorem q_ref32_Text_m (k : Nat) (d : pi_ref32_Text.den) : evCode E_ref32_Text (tb (L_ref32_Text k) (R_ref32_Text k)) c_ref32_Text (bodyOf Tryd.f17) 0 (finK E_ref32_Text po_ref32_Text [.tmp 2]) (startSt pi_ref32_Text 25 d) = f_ref32_Text_m (f_ref32_Text_t k) d := by kernel_rfl
def g_ref32_Text (d : Unit × ((Int × (Int × (Int × (Int × (Int × (Int × (Int × (Int × (Int × (Int × (Int × (Int × Unit)))))))))))) × Unit)) : Option (Unit × ((ByteArray × Unit) × Unit)) := lim fun k => f_ref32_Text_m (f_ref32_Text_t k) d
theorem ok_ref32_Text : FnOk Tryd.prog ET0 17 pi_ref32_Text po_ref32_Text g_ref32_Text :=
  fn_of_body (E := E_ref32_Text) (envOk_add (envOk_add e0_ok (typed_ok ok_ref32_Names)) (typed_ok ok_ref02_Raw)) (fn := Tryd.f17) Tryd.func17 (by kernel_rfl) (by kernel_rfl) [.tmp 2] (by kernel_rfl) (by kernel_rfl) (by decide) rfl c_ref32_Text L_ref32_Text R_ref32_Text
    (by intro x hx d; simp only [L_ref32_Text, List.mem_cons, List.not_mem_nil, or_false] at hx; rcases hx with rfl | rfl; rfl; rfl)
    (by intro k x hx d out h; simp only [L_ref32_Text, List.mem_cons, List.not_mem_nil, or_false] at hx; rcases hx with rfl | rfl; exact (q_ref32_Text_5 k d).trans h; exact (q_ref32_Text_8 k d).trans h)
    (by intro x hx; cases hx)
    (by intro k x hx; cases hx)
    (by intro d out h; obtain ⟨k, hk⟩ := lim_some h; exact ⟨k, (q_ref32_Text_m k d).trans hk⟩)

@[reducible] def pi_tally_Tally_Copy_io : PSh := ⟨[.var 51 [vI, vI, vI, vI, vI, vI, vI, vI, vI, vI, vI, vI]], [.mk false [.ref 0 0]]⟩
@[reducible] def po_tally_Tally_Copy_io : PSh := ⟨[.var 51 [vI, vI, vI, vI, vI, vI, vI, vI, vI, vI, vI, vI], .var 51 [vI, vI, vI, vI, vI, vI, vI, vI, vI, vI, vI, vI]], [.mk false [.ref 0 0], .mk false [.ref 1 0]]⟩
def f_tally_Tally_Copy_io_m (T : Unit) (d : ((Int × (Int × (Int × (Int × (Int × (Int × (Int × (Int × (Int × (Int × (Int × (Int × Unit)))))))))))) × Unit) × (Unit × Unit)) : Option (((Int × (Int × (Int × (Int × (Int × (Int × (Int × (Int × (Int × (Int × (Int × (Int × Unit)))))))))))) × ((Int × (Int × (Int × (Int × (Int × (Int × (Int × (Int × (Int × (Int × (Int × (Int × Unit)))))))))))) × Unit)) × (Unit × (Unit × Unit))) :=
  some ((d.1.1, d.1), ((), ((), ())))
def c_tally_Tally_Copy_io : List Nat := []
def L_tally_Tally_Copy_io (_ : Nat) : Pts po_tally_Tally_Copy_io.den := []
def R_tally_Tally_Copy_io (_ : Nat) : PtsR po_tally_Tally_Copy_io.den := []
def E_tally_Tally_Copy_io : Env := (E0.kp [0])
theorem q_tally_Tally_Copy_io_m (k : Nat) (d : pi_tally_Tally_Copy_io.den) : evCode E_tally_Tally_Copy_io (tb (L_tally_Tally_Copy_io k) (R_tally_Tally_Copy_io k)) c_tally_Tally_Copy_io (bodyOf Tryd.f8) 0 (finKio E_tally_Tally_Copy_io po_tally_Tally_Copy_io [.tmp 2] [(0, none)]) (startSt pi_tally_Tally_Copy_io 11 d) = f_tally_Tally_Copy_io_m () d := by kernel_rfl
def g_tally_Tally_Copy_io (d : ((Int × (Int × (Int × (Int × (Int × (Int × (Int × (Int × (Int × (Int × (Int × (Int × Unit)))))))))))) × Unit) × (Unit × Unit)) : Option (((Int × (Int × (Int × (Int × (Int × (Int × (Int × (Int × (Int × (Int × (Int × (Int × Unit)))))))))))) × ((Int × (Int × (Int × (Int × (Int × (Int × (Int × (Int × (Int × (Int × (Int × (Int × Unit)))))))))))) × Unit)) × (Unit × (Unit × Unit))) := f_tally_Tally_Copy_io_m () d
theorem ok_tally_Tally_Copy_io : FnIo Tryd.prog ET0 8 pi_tally_Tally_Copy_io po_tally_Tally_Copy_io 1 [(1, 0, none)] g_tally_Tally_Copy_io :=
  fn_of_bodyIo (E := E_tally_Tally_Copy_io) (envOk_kp e0_ok) (fn := Tryd.f8) Tryd.func8 (by kernel_rfl) (by kernel_rfl) [.tmp 2] [(0, none)] [(1, 0, none)] (by kernel_rfl) (by kernel_rfl) (by kernel_rfl) (by kernel_rfl) (by decide) (by decide) c_tally_Tally_Copy_io L_tally_Tally_Copy_io R_tally_Tally_Copy_io
    (by intro x hx; cases hx) (by intro k x hx; cases hx) (by intro x hx; cases hx) (by intro k x hx; cases hx) (fun d out h => ⟨0, (q_tally_Tally_Copy_io_m 0 d).trans h⟩)

@[reducible] def pi_law32_TallyPlays : PSh := ⟨[], [.mk false [.v (.sl (.pair (.int .i64) (.int .i64)))], .mk false [.v (.sl (.int .i64))]]⟩
@[reducible] def po_law32_TallyPlays : PSh := ⟨[], [.mk false [vB]]⟩
@[reducible] def TT_law32_TallyPlays : Type := (((((Int × (Int × (Int × (Int × (Int × (Int × (Int × (Int × (Int × (Int × (Int × (Int × Unit)))))))))))) × ((Int × (Int × (Int × (Int × (Int × (Int × (Int × (Int × (Int × (Int × (Int × (Int × Unit)))))))))))) × Unit)) × (((List Int) × Unit) × (Unit × (Unit × (((List (Int × Int)) × Unit) × ((Int × Unit) × ((Int × Unit) × Unit))))))) → Option (Unit × ((Bool × Unit) × Unit))) × (((((Int × (Int × (Int × (Int × (Int × (Int × (Int × (Int × (Int × (Int × (Int × (Int × Unit)))))))))))) × ((Int × (Int × (Int × (Int × (Int × (Int × (Int × (Int × (Int × (Int × (Int × (Int × Unit)))))))))))) × ((Int × (Int × Unit)) × Unit))) × (((List Int) × Unit) × (Unit × (Unit × (Unit × ((Int × Unit) × (((List (Int × Int)) × Unit) × ((Int × Unit) × ((Int × Unit) × Unit))))))))) → Option (Unit × ((Bool × Unit) × Unit))) × Unit))
@[reducible] def sh_law32_TallyPlays_14 : PSh := ⟨[.var 51 [vI, vI, vI, vI, vI, vI, vI, vI, vI, vI, vI, vI], .var 27 [vI, vI, vI, vI, vI, vI, vI, vI, vI, vI, vI, vI]], [.any, .mk false [.v (.sl (.int .i64))], .any, .any, .any, .mk false [.ref 0 0], .mk false [.ref 1 0], .any, .any, .any, .any, .any, .any, .any, .any, .any, .any, .any, .any, .any, .any, .any, .any, .any, .any, .any, .any, .any, .any, .any, .any, .mk false [.v (.sl (.pair (.int .i64) (.int .i64)))], .mk false [vI], .mk false [vI], .any, .any, .any, .any, .any, .any, .any, .any, .any, .any, .any, .any, .any, .any, .any, .any, .any, .any, .any, .any, .any, .any, .any, .any, .any, .any, .any, .any, .any, .any, .any, .any, .any, .any, .any, .any, .any, .any, .any, .any, .any, .any, .any, .any, .any, .any, .any, .any, .any, .any, .any, .any, .any, .any, .any, .any, .any, .any, .any, .any, .any, .any, .any, .any, .any, .any, .any, .any, .any, .any, .any, .any, .any, .any, .any, .any, .any, .any, .any, .any, .any, .any, .any, .any, .any, .any, .any, .any, .any, .any, .any, .any, .any]⟩
@[reducible] def sh_law32_TallyPlays_26 : PSh := ⟨[.var 51 [vI, vI, vI, vI, vI, vI, vI, vI, vI, vI, vI, vI], .var 27 [vI, vI, vI, vI, vI, vI, vI, vI, vI, vI, vI, vI], .var 29 [vI, vI]], [.any, .mk false [.v (.sl (.int .i64))], .any, .any, .any, .mk false [.ref 0 0], .mk false [.ref 1 0], .any, .mk false [.ref 2 0], .any, .any, .any, .mk false [vI], .any, .any, .any, .any, .any, .any, .any, .any, .any, .any, .any, .any, .any, .any, .any, .any, .any, .any, .mk false [.v (.sl (.pair (.int .i64) (.int .i64)))], .mk false [vI], .mk false [vI], .any, .any, .any, .any, .any, .any, .any, .any, .any, .any, .any, .any, .any, .any, .any, .any, .any, .any, .any, .any, .any, .any, .any, .any, .any, .any, .any, .any, .any, .any, .any, .any, .any, .any, .any, .any, .any, .any, .any, .any, .any, .any, .any, .any, .any, .any, .any, .any, .any, .any, .any, .any, .any, .any, .any, .any, .any, .any, .any, .any, .any, .any, .any, .any, .any, .any, .any, .any, .any, .any, .any, .any, .any, .any, .any, .any, .any, .any, .any, .any, .any, .any, .any, .any, .any, .any, .any, .any, .any, .any, .any, .any, .any]⟩
def f_law32_TallyPlays_p14 (T : TT_law32_TallyPlays) (d : ((Int × (Int × (Int × (Int × (Int × (Int × (Int × (Int × (Int × (Int × (Int × (Int × Unit)))))))))))) × ((Int × (Int × (Int × (Int × (Int × (Int × (Int × (Int × (Int × (Int × (Int × (Int × Unit)))))))))))) × Unit)) × (((List Int) × Unit) × (Unit × (Unit × (((List (Int × Int)) × Unit) × ((Int × Unit) × ((Int × Unit) × Unit))))))) : Option (Unit × ((Bool × Unit) × Unit)) :=
  let x9 : Bool := (decide (d.2.2.2.2.2.2.1.1 < d.2.2.2.2.2.1.1))
  bif x9 then (
  bif decide ((0 : Int) ≤ d.2.2.2.2.2.2.1.1) && decide (d.2.2.2.2.2.2.1.1 < (d.2.2.2.2.1.1.length : Int)) then (
  (g_ref32_Add ((), (d.1.2.1, (((gd_i64_i64 d.2.2.2.2.1.1 d.2.2.2.2.2.2.1.1).1, ()), (((gd_i64_i64 d.2.2.2.2.1.1 d.2.2.2.2.2.2.1.1).2, ()), ()))))).bind fun x10 =>
  (g_tally_Tally_Copy_io ((d.1.1, ()), ((), ()))).bind fun x11 =>
  (g_tally_Tally_Add_io (x11.1.2, ((), (((gd_i64_i64 d.2.2.2.2.1.1 d.2.2.2.2.2.2.1.1).1, ()), (((gd_i64_i64 d.2.2.2.2.1.1 d.2.2.2.2.2.2.1.1).2, ()), ()))))).bind fun x12 =>
  (g_hnum_Num ((), (x12.2.1, ()))).bind fun x13 =>
  let x14 : Bool := (x13.2.1.1 != x10.2.2.1.1)
  bif x14 then (
  some ((), ((false, ()), ())))
  else (
  (g_tally_Tally_All ((), (((some (x11.1.1.1, (x11.1.1.2.1, (x11.1.1.2.2.1, (x11.1.1.2.2.2.1, (x11.1.1.2.2.2.2.1, (x11.1.1.2.2.2.2.2.1, (x11.1.1.2.2.2.2.2.2.1, (x11.1.1.2.2.2.2.2.2.2.1, (x11.1.1.2.2.2.2.2.2.2.2.1, (x11.1.1.2.2.2.2.2.2.2.2.2.1, (x11.1.1.2.2.2.2.2.2.2.2.2.2.1, x11.1.1.2.2.2.2.2.2.2.2.2.2.2.1)))))))))))), ()), ()))).bind fun x15 =>
  let x16 : Bool := (!((x15.2.1.1 == d.1.2.1.1) && ((x15.2.1.2.1 == d.1.2.1.2.1) && ((x15.2.1.2.2.1 == d.1.2.1.2.2.1) && ((x15.2.1.2.2.2.1 == d.1.2.1.2.2.2.1) && ((x15.2.1.2.2.2.2.1 == d.1.2.1.2.2.2.2.1) && ((x15.2.1.2.2.2.2.2.1 == d.1.2.1.2.2.2.2.2.1) && ((x15.2.1.2.2.2.2.2.2.1 == d.1.2.1.2.2.2.2.2.2.1) && ((x15.2.1.2.2.2.2.2.2.2.1 == d.1.2.1.2.2.2.2.2.2.2.1) && ((x15.2.1.2.2.2.2.2.2.2.2.1 == d.1.2.1.2.2.2.2.2.2.2.2.1) && ((x15.2.1.2.2.2.2.2.2.2.2.2.1 == d.1.2.1.2.2.2.2.2.2.2.2.2.1) && ((x15.2.1.2.2.2.2.2.2.2.2.2.2.1 == d.1.2.1.2.2.2.2.2.2.2.2.2.2.1) && ((x15.2.1.2.2.2.2.2.2.2.2.2.2.2.1 == d.1.2.1.2.2.2.2.2.2.2.2.2.2.2.1) && true)))))))))))))
  bif x16 then (
  some ((), ((false, ()), ())))
  else (
  (g_tally_Same ((), (((some (x11.1.1.1, (x11.1.1.2.1, (x11.1.1.2.2.1, (x11.1.1.2.2.2.1, (x11.1.1.2.2.2.2.1, (x11.1.1.2.2.2.2.2.1, (x11.1.1.2.2.2.2.2.2.1, (x11.1.1.2.2.2.2.2.2.2.1, (x11.1.1.2.2.2.2.2.2.2.2.1, (x11.1.1.2.2.2.2.2.2.2.2.2.1, (x11.1.1.2.2.2.2.2.2.2.2.2.2.1, x11.1.1.2.2.2.2.2.2.2.2.2.2.2.1)))))))))))), ()), (((some (x12.1.1.1, (x12.1.1.2.1, (x12.1.1.2.2.1, (x12.1.1.2.2.2.1, (x12.1.1.2.2.2.2.1, (x12.1.1.2.2.2.2.2.1, (x12.1.1.2.2.2.2.2.2.1, (x12.1.1.2.2.2.2.2.2.2.1, (x12.1.1.2.2.2.2.2.2.2.2.1, (x12.1.1.2.2.2.2.2.2.2.2.2.1, (x12.1.1.2.2.2.2.2.2.2.2.2.2.1, x12.1.1.2.2.2.2.2.2.2.2.2.2.2.1)))))))))))), ()), ())))).bind fun x17 =>
  let x18 : Bool := ((x10.2.1.1 == d.1.2.1.1) && ((x10.2.1.2.1 == d.1.2.1.2.1) && ((x10.2.1.2.2.1 == d.1.2.1.2.2.1) && ((x10.2.1.2.2.2.1 == d.1.2.1.2.2.2.1) && ((x10.2.1.2.2.2.2.1 == d.1.2.1.2.2.2.2.1) && ((x10.2.1.2.2.2.2.2.1 == d.1.2.1.2.2.2.2.2.1) && ((x10.2.1.2.2.2.2.2.2.1 == d.1.2.1.2.2.2.2.2.2.1) && ((x10.2.1.2.2.2.2.2.2.2.1 == d.1.2.1.2.2.2.2.2.2.2.1) && ((x10.2.1.2.2.2.2.2.2.2.2.1 == d.1.2.1.2.2.2.2.2.2.2.2.1) && ((x10.2.1.2.2.2.2.2.2.2.2.2.1 == d.1.2.1.2.2.2.2.2.2.2.2.2.1) && ((x10.2.1.2.2.2.2.2.2.2.2.2.2.1 == d.1.2.1.2.2.2.2.2.2.2.2.2.2.1) && ((x10.2.1.2.2.2.2.2.2.2.2.2.2.2.1 == d.1.2.1.2.2.2.2.2.2.2.2.2.2.2.1) && true))))))))))))
  let x19 : Bool := (!(x17.2.1.1 == x18))
  bif x19 then (
  some ((), ((false, ()), ())))
  else (
  let x20 : Bool := (decide ((gd_i64_i64 d.2.2.2.2.1.1 d.2.2.2.2.2.2.1.1).1 ≥ (1 : Int)))
  bif x20 then (
  let x21 : Bool := (decide ((gd_i64_i64 d.2.2.2.2.1.1 d.2.2.2.2.2.2.1.1).1 ≤ (12 : Int)))
  bif x21 then (
  let x22 : Int := (isub .i64 (gd_i64_i64 d.2.2.2.2.1.1 d.2.2.2.2.2.2.1.1).1 (1 : Int))
  bif decide ((0 : Int) ≤ x22) && decide (x22 < (12 : Int)) then (
  bif decide (x22 = (0 : Int)) then (
  (T.2.1 ((x12.1.1, (x10.2.1, (((gd_i64_i64 d.2.2.2.2.1.1 d.2.2.2.2.2.2.1.1).1, ((gd_i64_i64 d.2.2.2.2.1.1 d.2.2.2.2.2.2.1.1).2, ())), ()))), (d.2.1, ((), ((), ((), ((x10.2.1.1, ()), d.2.2.2.2))))))))
  else (
  bif decide (x22 = (1 : Int)) then (
  (T.2.1 ((x12.1.1, (x10.2.1, (((gd_i64_i64 d.2.2.2.2.1.1 d.2.2.2.2.2.2.1.1).1, ((gd_i64_i64 d.2.2.2.2.1.1 d.2.2.2.2.2.2.1.1).2, ())), ()))), (d.2.1, ((), ((), ((), ((x10.2.1.2.1, ()), d.2.2.2.2))))))))
  else (
  bif decide (x22 = (2 : Int)) then (
  (T.2.1 ((x12.1.1, (x10.2.1, (((gd_i64_i64 d.2.2.2.2.1.1 d.2.2.2.2.2.2.1.1).1, ((gd_i64_i64 d.2.2.2.2.1.1 d.2.2.2.2.2.2.1.1).2, ())), ()))), (d.2.1, ((), ((), ((), ((x10.2.1.2.2.1, ()), d.2.2.2.2))))))))
  else (
  bif decide (x22 = (3 : Int)) then (
  (T.2.1 ((x12.1.1, (x10.2.1, (((gd_i64_i64 d.2.2.2.2.1.1 d.2.2.2.2.2.2.1.1).1, ((gd_i64_i64 d.2.2.2.2.1.1 d.2.2.2.2.2.2.1.1).2, ())), ()))), (d.2.1, ((), ((), ((), ((x10.2.1.2.2.2.1, ()), d.2.2.2.2))))))))
  else (
  bif decide (x22 = (4 : Int)) then (
  (T.2.1 ((x12.1.1, (x10.2.1, (((gd_i64_i64 d.2.2.2.2.1.1 d.2.2.2.2.2.2.1.1).1, ((gd_i64_i64 d.2.2.2.2.1.1 d.2.2.2.2.2.2.1.1).2, ())), ()))), (d.2.1, ((), ((), ((), ((x10.2.1.2.2.2.2.1, ()), d.2.2.2.2))))))))
  else (
  bif decide (x22 = (5 : Int)) then (
  (T.2.1 ((x12.1.1, (x10.2.1, (((gd_i64_i64 d.2.2.2.2.1.1 d.2.2.2.2.2.2.1.1).1, ((gd_i64_i64 d.2.2.2.2.1.1 d.2.2.2.2.2.2.1.1).2, ())), ()))), (d.2.1, ((), ((), ((), ((x10.2.1.2.2.2.2.2.1, ()), d.2.2.2.2))))))))
  else (
  bif decide (x22 = (6 : Int)) then (
  (T.2.1 ((x12.1.1, (x10.2.1, (((gd_i64_i64 d.2.2.2.2.1.1 d.2.2.2.2.2.2.1.1).1, ((gd_i64_i64 d.2.2.2.2.1.1 d.2.2.2.2.2.2.1.1).2, ())), ()))), (d.2.1, ((), ((), ((), ((x10.2.1.2.2.2.2.2.2.1, ()), d.2.2.2.2))))))))
  else (
  bif decide (x22 = (7 : Int)) then (
  (T.2.1 ((x12.1.1, (x10.2.1, (((gd_i64_i64 d.2.2.2.2.1.1 d.2.2.2.2.2.2.1.1).1, ((gd_i64_i64 d.2.2.2.2.1.1 d.2.2.2.2.2.2.1.1).2, ())), ()))), (d.2.1, ((), ((), ((), ((x10.2.1.2.2.2.2.2.2.2.1, ()), d.2.2.2.2))))))))
  else (
  bif decide (x22 = (8 : Int)) then (
  (T.2.1 ((x12.1.1, (x10.2.1, (((gd_i64_i64 d.2.2.2.2.1.1 d.2.2.2.2.2.2.1.1).1, ((gd_i64_i64 d.2.2.2.2.1.1 d.2.2.2.2.2.2.1.1).2, ())), ()))), (d.2.1, ((), ((), ((), ((x10.2.1.2.2.2.2.2.2.2.2.1, ()), d.2.2.2.2))))))))
  else (
  bif decide (x22 = (9 : Int)) then (
  (T.2.1 ((x12.1.1, (x10.2.1, (((gd_i64_i64 d.2.2.2.2.1.1 d.2.2.2.2.2.2.1.1).1, ((gd_i64_i64 d.2.2.2.2.1.1 d.2.2.2.2.2.2.1.1).2, ())), ()))), (d.2.1, ((), ((), ((), ((x10.2.1.2.2.2.2.2.2.2.2.2.1, ()), d.2.2.2.2))))))))
  else (
  bif decide (x22 = (10 : Int)) then (
  (T.2.1 ((x12.1.1, (x10.2.1, (((gd_i64_i64 d.2.2.2.2.1.1 d.2.2.2.2.2.2.1.1).1, ((gd_i64_i64 d.2.2.2.2.1.1 d.2.2.2.2.2.2.1.1).2, ())), ()))), (d.2.1, ((), ((), ((), ((x10.2.1.2.2.2.2.2.2.2.2.2.2.1, ()), d.2.2.2.2))))))))
  else (
  bif decide (x22 = (11 : Int)) then (
  (T.2.1 ((x12.1.1, (x10.2.1, (((gd_i64_i64 d.2.2.2.2.1.1 d.2.2.2.2.2.2.1.1).1, ((gd_i64_i64 d.2.2.2.2.1.1 d.2.2.2.2.2.2.1.1).2, ())), ()))), (d.2.1, ((), ((), ((), (x10.2.1.2.2.2.2.2.2.2.2.2.2.2, d.2.2.2.2))))))))
  else (
  none)))))))))))))
  else none)
  else (
  (T.2.1 ((x12.1.1, (x10.2.1, (((gd_i64_i64 d.2.2.2.2.1.1 d.2.2.2.2.2.2.1.1).1, ((gd_i64_i64 d.2.2.2.2.1.1 d.2.2.2.2.2.2.1.1).2, ())), ()))), (d.2.1, ((), ((), ((), (((0 : Int), ()), d.2.2.2.2)))))))))
  else (
  (T.2.1 ((x12.1.1, (x10.2.1, (((gd_i64_i64 d.2.2.2.2.1.1 d.2.2.2.2.2.2.1.1).1, ((gd_i64_i64 d.2.2.2.2.1.1 d.2.2.2.2.2.2.1.1).2, ())), ()))), (d.2.1, ((), ((), ((), (((0 : Int), ()), d.2.2.2.2))))))))))))
  else none)
  else (
  (g_tally_Tally_Sum ((), (((some (d.1.1.1, (d.1.1.2.1, (d.1.1.2.2.1, (d.1.1.2.2.2.1, (d.1.1.2.2.2.2.1, (d.1.1.2.2.2.2.2.1, (d.1.1.2.2.2.2.2.2.1, (d.1.1.2.2.2.2.2.2.2.1, (d.1.1.2.2.2.2.2.2.2.2.1, (d.1.1.2.2.2.2.2.2.2.2.2.1, (d.1.1.2.2.2.2.2.2.2.2.2.2.1, d.1.1.2.2.2.2.2.2.2.2.2.2.2.1)))))))))))), ()), (d.2.1, ())))).bind fun x23 =>
  (g_ref32_Sum ((), (d.1.2.1, (d.2.1, ())))).bind fun x24 =>
  let x25 : Bool := (x23.2.1.1 == x24.2.1.1)
  bif x25 then (
  (g_hnum_Num ((), x23.2.2)).bind fun x26 =>
  let x27 : Bool := (x26.2.1.1 == x24.2.2.1.1)
  bif x27 then (
  (g_tally_Tally_All ((), (((some (d.1.1.1, (d.1.1.2.1, (d.1.1.2.2.1, (d.1.1.2.2.2.1, (d.1.1.2.2.2.2.1, (d.1.1.2.2.2.2.2.1, (d.1.1.2.2.2.2.2.2.1, (d.1.1.2.2.2.2.2.2.2.1, (d.1.1.2.2.2.2.2.2.2.2.1, (d.1.1.2.2.2.2.2.2.2.2.2.1, (d.1.1.2.2.2.2.2.2.2.2.2.2.1, d.1.1.2.2.2.2.2.2.2.2.2.2.2.1)))))))))))), ()), ()))).bind fun x28 =>
  let x29 : Bool := ((x28.2.1.1 == d.1.2.1.1) && ((x28.2.1.2.1 == d.1.2.1.2.1) && ((x28.2.1.2.2.1 == d.1.2.1.2.2.1) && ((x28.2.1.2.2.2.1 == d.1.2.1.2.2.2.1) && ((x28.2.1.2.2.2.2.1 == d.1.2.1.2.2.2.2.1) && ((x28.2.1.2.2.2.2.2.1 == d.1.2.1.2.2.2.2.2.1) && ((x28.2.1.2.2.2.2.2.2.1 == d.1.2.1.2.2.2.2.2.2.1) && ((x28.2.1.2.2.2.2.2.2.2.1 == d.1.2.1.2.2.2.2.2.2.2.1) && ((x28.2.1.2.2.2.2.2.2.2.2.1 == d.1.2.1.2.2.2.2.2.2.2.2.1) && ((x28.2.1.2.2.2.2.2.2.2.2.2.1 == d.1.2.1.2.2.2.2.2.2.2.2.2.1) && ((x28.2.1.2.2.2.2.2.2.2.2.2.2.1 == d.1.2.1.2.2.2.2.2.2.2.2.2.2.1) && ((x28.2.1.2.2.2.2.2.2.2.2.2.2.2.1 == d.1.2.1.2.2.2.2.2.2.2.2.2.2.2.1) && true))))))))))))
  bif x29 then (
  (g_tally_Tally_Text ((), (((some (d.1.1.1, (d.1.1.2.1, (d.1.1.2.2.1, (d.1.1.2.2.2.1, (d.1.1.2.2.2.2.1, (d.1.1.2.2.2.2.2.1, (d.1.1.2.2.2.2.2.2.1, (d.1.1.2.2.2.2.2.2.2.1, (d.1.1.2.2.2.2.2.2.2.2.1, (d.1.1.2.2.2.2.2.2.2.2.2.1, (d.1.1.2.2.2.2.2.2.2.2.2.2.1, d.1.1.2.2.2.2.2.2.2.2.2.2.2.1)))))))))))), ()), ()))).bind fun x30 =>
  (g_ref32_Text ((), d.1.2)).bind fun x31 =>
  let x32 : Bool := (x30.2.1.1.toList == x31.2.1.1.toList)
  some ((), ((x32, ()), ())))
  else (
  some ((), ((false, ()), ()))))
  else (
  some ((), ((false, ()), ()))))
  else (
  some ((), ((false, ()), ()))))
def f_law32_TallyPlays_p26 (T : TT_law32_TallyPlays) (d : ((Int × (Int × (Int × (Int × (Int × (Int × (Int × (Int × (Int × (Int × (Int × (Int × Unit)))))))))))) × ((Int × (Int × (Int × (Int × (Int × (Int × (Int × (Int × (Int × (Int × (Int × (Int × Unit)))))))))))) × ((Int × (Int × Unit)) × Unit))) × (((List Int) × Unit) × (Unit × (Unit × (Unit × ((Int × Unit) × (((List (Int × Int)) × Unit) × ((Int × Unit) × ((Int × Unit) × Unit))))))))) : Option (Unit × ((Bool × Unit) × Unit)) :=
  (g_tally_Tally_Count ((), (((some (d.1.1.1, (d.1.1.2.1, (d.1.1.2.2.1, (d.1.1.2.2.2.1, (d.1.1.2.2.2.2.1, (d.1.1.2.2.2.2.2.1, (d.1.1.2.2.2.2.2.2.1, (d.1.1.2.2.2.2.2.2.2.1, (d.1.1.2.2.2.2.2.2.2.2.1, (d.1.1.2.2.2.2.2.2.2.2.2.1, (d.1.1.2.2.2.2.2.2.2.2.2.2.1, d.1.1.2.2.2.2.2.2.2.2.2.2.2.1)))))))))))), ()), ((d.1.2.2.1.1, ()), ())))).bind fun x33 =>
  let x34 : Bool := (x33.2.1.1 != d.2.2.2.2.2.1.1)
  bif x34 then (
  some ((), ((false, ()), ())))
  else (
  let x35 : Int := (iadd .i64 d.2.2.2.2.2.2.2.2.1.1 (1 : Int))
  (T.1 ((d.1.1, (d.1.2.1, ())), (d.2.1, ((), ((), (d.2.2.2.2.2.2.1, (d.2.2.2.2.2.2.2.1, ((x35, ()), ())))))))))
def f_law32_TallyPlays_t : Nat → TT_law32_TallyPlays
  | 0 => (fun _ => none, (fun _ => none, ()))
  | k + 1 => (f_law32_TallyPlays_p14 (f_law32_TallyPlays_t k), (f_law32_TallyPlays_p26 (f_law32_TallyPlays_t k), ()))
theorem t_law32_TallyPlays (k : Nat) : f_law32_TallyPlays_t (k + 1) = (f_law32_TallyPlays_p14 (f_law32_TallyPlays_t k), (f_law32_TallyPlays_p26 (f_law32_TallyPlays_t k), ())) := rfl
def f_law32_TallyPlays_m (T : TT_law32_TallyPlays) (d : Unit × (((List (Int × Int)) × Unit) × (((List Int) × Unit) × Unit))) : Option (Unit × ((Bool × Unit) × Unit)) :=
  (g_law32_alive ((), ())).bind fun x1 =>
  let x2 : Bool := (!x1.2.1.1)
  bif x2 then (
  some ((), ((false, ()), ())))
  else (
  let x3 : Int := (d.2.1.1.length : Int)
  let x4 : Bool := (decide (x3 > (60 : Int)))
  bif x4 then (
  some ((), ((true, ()), ())))
  else (
  let x5 : Int := (d.2.2.1.1.length : Int)
  let x6 : Bool := (decide (x5 > (60 : Int)))
  bif x6 then (
  some ((), ((true, ()), ())))
  else (
  (g_tally_New ((), ())).bind fun x7 =>
  let x8 : Int := (d.2.1.1.length : Int)
  (T.1 ((x7.1.1, (((0 : Int), ((0 : Int), ((0 : Int), ((0 : Int), ((0 : Int), ((0 : Int), ((0 : Int), ((0 : Int), ((0 : Int), ((0 : Int), ((0 : Int), ((0 : Int), ())))))))))))), ())), (d.2.2.1, ((), ((), (d.2.1, ((x8, ()), (((0 : Int), ()), ())))))))))))
def c_law32_TallyPlays : List Nat := [26]
def L_law32_TallyPlays (k : Nat) : Pts po_law32_TallyPlays.den := [(14, ⟨sh_law32_TallyPlays_14, (f_law32_TallyPlays_t k).1⟩), (26, ⟨sh_law32_TallyPlays_26, (f_law32_TallyPlays_t k).2.1⟩)]
def R_law32_TallyPlays (_ : Nat) : PtsR po_law32_TallyPlays.den := []
def E_law32_TallyPlays : Env := (((((((((((((E0.add 5 (typedSem pi_law32_alive po_law32_alive g_law32_alive)).add 6 (typedSem pi_tally_New po_tally_New g_tally_New)).add 7 (typedSem pi_ref32_Add po_ref32_Add g_ref32_Add)).add 8 (ioSem pi_tally_Tally_Copy_io po_tally_Tally_Copy_io 1 [(1, 0, none)] g_tally_Tally_Copy_io)).add 9 (typedSem pi_hnum_Num po_hnum_Num g_hnum_Num)).add 10 (ioSem pi_tally_Tally_Add_io po_tally_Tally_Add_io 1 [(0, 0, none)] g_tally_Tally_Add_io)).add 11 (typedSem pi_tally_Tally_All po_tally_Tally_All g_tally_Tally_All)).add 12 (typedSem pi_tally_Same po_tally_Same g_tally_Same)).add 13 (typedSem pi_tally_Tally_Count po_tally_Tally_Count g_tally_Tally_Count)).add 14 (typedSem pi_tally_Tally_Sum po_tally_Tally_Sum g_tally_Tally_Sum)).add 15 (typedSem pi_ref32_Sum po_ref32_Sum g_ref32_Sum)).add 16 (typedSem pi_tally_Tally_Text po_tally_Tally_Text g_tally_Tally_Text)).add 17 (typedSem pi_ref32_Text po_ref32_Text g_ref32_Text))
theorem q_law32_TallyPlays_14 (k : Nat) (d : sh_law32_TallyPlays_14.den) : evAt E_law32_TallyPlays (tb (L_law32_TallyPlays k) (R_law32_TallyPlays k)) c_law32_TallyPlays 14 (bodyOf Tryd.f3) 0 (finK E_law32_TallyPlays po_law32_TallyPlays [.tmp 4]) (ptSt sh_law32_TallyPlays_14 d) = f_law32_TallyPlays_p14 (f_law32_TallyPlays_t k) d := by kernel_rfl
theorem q_law32_TallyPlays_26 (k : Nat) (d : sh_law32_TallyPlays_26.den) : evAt E_law32_TallyPlays (tb (L_law32_TallyPlays k) (R_law32_TallyPlays k)) c_law32_TallyPlays 26 (bodyOf Tryd.f3) 0 (finK E_law32_TallyPlays po_law32_TallyPlays [.tmp 4]) (ptSt sh_law32_TallyPlays_26 d) = f_law32_TallyPlays_p26 (f_law32_TallyPlays_t k) d := by kernel_rfl
theorem q_law32_TallyPlays_m (k : Nat) (d : pi_law32_TallyPlays.den) : evCode E_law32_TallyPlays (tb (L_law32_TallyPlays k) (R_law32_TallyPlays k)) c_law32_TallyPlays (bodyOf Tryd.f3) 0 (finK E_law32_TallyPlays po_law32_TallyPlays [.tmp 4]) (startSt pi_law32_TallyPlays 127 d) = f_law32_TallyPlays_m (f_law32_TallyPlays_t k) d := by kernel_rfl
def g_law32_TallyPlays (d : Unit × (((List (Int × Int)) × Unit) × (((List Int) × Unit) × Unit))) : Option (Unit × ((Bool × Unit) × Unit)) := lim fun k => f_law32_TallyPlays_m (f_law32_TallyPlays_t k) d
theorem ok_law32_TallyPlays : FnOk Tryd.prog ET0 3 pi_law32_TallyPlays po_law32_TallyPlays g_law32_TallyPlays :=
  fn_of_body (E := E_law32_TallyPlays) (envOk_add (envOk_add (envOk_add (envOk_add (envOk_add (envOk_add (envOk_add (envOk_add (envOk_add (envOk_add (envOk_add (envOk_add (envOk_add e0_ok (typed_ok ok_law32_alive)) (typed_ok ok_tally_New)) (typed_ok ok_ref32_Add)) (io_ok ok_tally_Tally_Copy_io)) (typed_ok ok_hnum_Num)) (io_ok ok_tally_Tally_Add_io)) (typed_ok ok_tally_Tally_All)) (typed_ok ok_tally_Same)) (typed_ok ok_tally_Tally_Count)) (typed_ok ok_tally_Tally_Sum)) (typed_ok ok_ref32_Sum)) (typed_ok ok_tally_Tally_Text)) (typed_ok ok_ref32_Text)) (fn := Tryd.f3) Tryd.func3 (by kernel_rfl) (by kernel_rfl) [.tmp 4] (by kernel_rfl) (by kernel_rfl) (by decide) rfl c_law32_TallyPlays L_law32_TallyPlays R_law32_TallyPlays
    (by intro x hx d; simp only [L_law32_TallyPlays, List.mem_cons, List.not_mem_nil, or_false] at hx; rcases hx with rfl | rfl; rfl; rfl)
    (by intro k x hx d out h; simp only [L_law32_TallyPlays, List.mem_cons, List.not_mem_nil, or_false] at hx; rcases hx with rfl | rfl; exact (q_law32_TallyPlays_14 k d).trans h; exact (q_law32_TallyPlays_26 k d).trans h)
    (by intro x hx; cases hx)
    (by intro k x hx; cases hx)
    (by intro d out h; obtain ⟨k, hk⟩ := lim_some h; exact ⟨k, (q_law32_TallyPlays_m k d).trans hk⟩)

@[reducible] def pi_internal_stringslite_HasPrefix : PSh := ⟨[], [.mk false [vS], .mk false [vS]]⟩
@[reducible] def po_internal_stringslite_HasPrefix : PSh := ⟨[], [.mk false [vB]]⟩
def f_internal_stringslite_HasPrefix_m (T : Unit) (d : Unit × ((ByteArray × Unit) × ((ByteArray × Unit) × Unit))) : Option (Unit × ((Bool × Unit) × Unit)) :=
  let x1 : Int := (d.2.1.1.size : Int)
  let x2 : Int := (d.2.2.1.1.size : Int)
  let x3 : Bool := (decide (x1 ≥ x2))
  bif x3 then (
  let x4 : Int := (d.2.2.1.1.size : Int)
  bif decide ((0 : Int) ≤ (0 : Int)) && decide ((0 : Int) ≤ x4) && decide (x4 ≤ (d.2.1.1.size : Int)) then (
  let x5 : ByteArray := (d.2.1.1.extract (Int.toNat (0 : Int)) (Int.toNat x4))
  let x6 : Bool := (x5.toList == d.2.2.1.1.toList)
  some ((), ((x6, ()), ())))
  else none)
  else (
  some ((), ((false, ()), ())))
def g_internal_stringslite_HasPrefix (d : Unit × ((ByteArray × Unit) × ((ByteArray × Unit) × Unit))) : Option (Unit × ((Bool × Unit) × Unit)) := f_internal_stringslite_HasPrefix_m () d
theorem ok_internal_stringslite_HasPrefix : FnOk Tryd.prog ET0 80 pi_internal_stringslite_HasPrefix po_internal_stringslite_HasPrefix g_internal_stringslite_HasPrefix :=
  fn0 (E := E0) e0_ok (fn := Tryd.f80) Tryd.func80 (by kernel_rfl) (by kernel_rfl) [.tmp 4] (by kernel_rfl) rfl rfl rfl [] fun d => by kernel_rfl

@[reducible] def pi_internal_stringslite_CutPrefix : PSh := ⟨[], [.mk false [vS], .mk false [vS]]⟩
@[reducible] def po_internal_stringslite_CutPrefix : PSh := ⟨[], [.mk false [vS], .mk false [vB]]⟩
def f_internal_stringslite_CutPrefix_m (T : Unit) (d : Unit × ((ByteArray × Unit) × ((ByteArray × Unit) × Unit))) : Option (Unit × ((ByteArray × Unit) × ((Bool × Unit) × Unit))) :=
  (g_internal_stringslite_HasPrefix ((), d.2)).bind fun x1 =>
  let x2 : Bool := (!x1.2.1.1)
  bif x2 then (
  some ((), (d.2.1, ((false, ()), ()))))
  else (
  let x3 : Int := (d.2.2.1.1.size : Int)
  bif decide ((0 : Int) ≤ x3) && decide (x3 ≤ (d.2.1.1.size : Int)) && decide ((d.2.1.1.size : Int) ≤ (d.2.1.1.size : Int)) then (
  let x4 : ByteArray := (d.2.1.1.extract (Int.toNat x3) (Int.toNat (d.2.1.1.size : Int)))
  some ((), ((x4, ()), ((true, ()), ()))))
  else none)
def g_internal_stringslite_CutPrefix (d : Unit × ((ByteArray × Unit) × ((ByteArray × Unit) × Unit))) : Option (Unit × ((ByteArray × Unit) × ((Bool × Unit) × Unit))) := f_internal_stringslite_CutPrefix_m () d
theorem ok_internal_stringslite_CutPrefix : FnOk Tryd.prog ET0 59 pi_internal_stringslite_CutPrefix po_internal_stringslite_CutPrefix g_internal_stringslite_CutPrefix :=
  fn0 (E := (E0.add 80 (typedSem pi_internal_stringslite_HasPrefix po_internal_stringslite_HasPrefix g_internal_stringslite_HasPrefix))) (envOk_add e0_ok (typed_ok ok_internal_stringslite_HasPrefix)) (fn := Tryd.f59) Tryd.func59 (by kernel_rfl) (by kernel_rfl) [.tmp 4, .tmp 5] (by kernel_rfl) rfl rfl rfl [] fun d => by kernel_rfl

@[reducible] def pi_strings_CutPrefix : PSh := ⟨[], [.mk false [vS], .mk false [vS]]⟩
@[reducible] def po_strings_CutPrefix : PSh := ⟨[], [.mk false [vS], .mk false [vB]]⟩
def f_strings_CutPrefix_m (T : Unit) (d : Unit × ((ByteArray × Unit) × ((ByteArray × Unit) × Unit))) : Option (Unit × ((ByteArray × Unit) × ((Bool × Unit) × Unit))) :=
  (g_internal_stringslite_CutPrefix ((), d.2)).bind fun x1 =>
  some ((), x1.2)
def g_strings_CutPrefix (d : Unit × ((ByteArray × Unit) × ((ByteArray × Unit) × Unit))) : Option (Unit × ((ByteArray × Unit) × ((Bool × Unit) × Unit))) := f_strings_CutPrefix_m () d
theorem ok_strings_CutPrefix : FnOk Tryd.prog ET0 43 pi_strings_CutPrefix po_strings_CutPrefix g_strings_CutPrefix :=
  fn0 (E := (E0.add 59 (typedSem pi_internal_stringslite_CutPrefix po_internal_stringslite_CutPrefix g_internal_stringslite_CutPrefix))) (envOk_add e0_ok (typed_ok ok_internal_stringslite_CutPrefix)) (fn := Tryd.f43) Tryd.func43 (by kernel_rfl) (by kernel_rfl) [.tmp 4, .tmp 5] (by kernel_rfl) rfl rfl rfl [] fun d => by kernel_rfl

@[reducible] def pi_tally_count : PSh := ⟨[], [.mk false [vS], .mk false [vI]]⟩
@[reducible] def po_tally_count : PSh := ⟨[], [.mk false [vS], .mk false [vB]]⟩
def f_tally_count_m (T : Unit) (d : Unit × ((ByteArray × Unit) × ((Int × Unit) × Unit))) : Option (Unit × ((ByteArray × Unit) × ((Bool × Unit) × Unit))) :=
  (g_tally_Name ((), d.2.2)).bind fun x1 =>
  bif fitsS x1.2.1.1 (⟨#[32]⟩ : ByteArray) then (
  let x2 : ByteArray := (x1.2.1.1 ++ (⟨#[32]⟩ : ByteArray))
  (g_strings_CutPrefix ((), (d.2.1, ((x2, ()), ())))).bind fun x3 =>
  let x4 : Bool := (!x3.2.2.1.1)
  bif x4 then (
  some ((), (((⟨#[]⟩ : ByteArray), ()), ((false, ()), ()))))
  else (
  let x5 : Bool := (x3.2.1.1.toList == (⟨#[]⟩ : ByteArray).toList)
  bif x5 then (
  some ((), (((⟨#[]⟩ : ByteArray), ()), ((false, ()), ()))))
  else (
  let x6 : Int := (x3.2.1.1.size : Int)
  let x7 : Bool := (decide (x6 > (19 : Int)))
  bif x7 then (
  some ((), (((⟨#[]⟩ : ByteArray), ()), ((false, ()), ()))))
  else (
  (g_strings_Trim ((), (x3.2.1, (((⟨#[48, 49, 50, 51, 52, 53, 54, 55, 56, 57]⟩ : ByteArray), ()), ())))).bind fun x8 =>
  let x9 : Bool := (!(x8.2.1.1.toList == (⟨#[]⟩ : ByteArray).toList))
  bif x9 then (
  some ((), (((⟨#[]⟩ : ByteArray), ()), ((false, ()), ()))))
  else (
  let x10 : Int := (x3.2.1.1.size : Int)
  let x11 : Bool := (decide (x10 > (1 : Int)))
  bif x11 then (
  bif decide ((0 : Int) ≤ (0 : Int)) && decide ((0 : Int) < ((x3.2.1.1.size : Int) : Int)) then (
  let x12 : Int := (bt x3.2.1.1 (0 : Int))
  let x13 : Bool := (x12 == (48 : Int))
  bif x13 then (
  some ((), (((⟨#[]⟩ : ByteArray), ()), ((false, ()), ()))))
  else (
  some ((), (x3.2.1, ((true, ()), ())))))
  else none)
  else (
  some ((), (x3.2.1, ((true, ()), ())))))))))
  else none
def g_tally_count (d : Unit × ((ByteArray × Unit) × ((Int × Unit) × Unit))) : Option (Unit × ((ByteArray × Unit) × ((Bool × Unit) × Unit))) := f_tally_count_m () d
theorem ok_tally_count : FnOk Tryd.prog ET0 31 pi_tally_count po_tally_count g_tally_count :=
  fn0 (E := (((E0.add 19 (typedSem pi_tally_Name po_tally_Name g_tally_Name)).add 43 (typedSem pi_strings_CutPrefix po_strings_CutPrefix g_strings_CutPrefix)).add 44 (typedSem pi_strings_Trim po_strings_Trim g_strings_Trim))) (envOk_add (envOk_add (envOk_add e0_ok (typed_ok ok_tally_Name)) (typed_ok ok_strings_CutPrefix)) (typed_ok ok_strings_Trim)) (fn := Tryd.f31) Tryd.func31 (by kernel_rfl) (by kernel_rfl) [.tmp 4, .tmp 5] (by kernel_rfl) rfl rfl rfl [] fun d => by kernel_rfl

@[reducible] def pi_figures_Is : PSh := ⟨[], [.mk false [v8]]⟩
@[reducible] def po_figures_Is : PSh := ⟨[], [.mk false [vB]]⟩
def f_figures_Is_m (T : Unit) (d : Unit × ((Int × Unit) × Unit)) : Option (Unit × ((Bool × Unit) × Unit)) :=
  let x1 : Bool := (decide (d.2.1.1 ≥ (48 : Int)))
  bif x1 then (
  let x2 : Bool := (decide (d.2.1.1 ≤ (57 : Int)))
  some ((), ((x2, ()), ())))
  else (
  some ((), ((false, ()), ())))
def g_figures_Is (d : Unit × ((Int × Unit) × Unit)) : Option (Unit × ((Bool × Unit) × Unit)) := f_figures_Is_m () d
theorem ok_figures_Is : FnOk Tryd.prog ET0 97 pi_figures_Is po_figures_Is g_figures_Is :=
  fn0 (E := E0) e0_ok (fn := Tryd.f97) Tryd.func97 (by kernel_rfl) (by kernel_rfl) [.tmp 2] (by kernel_rfl) rfl rfl rfl [] fun d => by kernel_rfl

@[reducible] def pi_figures_run : PSh := ⟨[], [.mk false [vS], .mk false [vI]]⟩
@[reducible] def po_figures_run : PSh := ⟨[], [.mk false [vI]]⟩
@[reducible] def TT_figures_run : Type := (((Unit × ((ByteArray × Unit) × ((Int × Unit) × ((Int × Unit) × Unit)))) → Option (Unit × ((Int × Unit) × Unit))) × Unit)
@[reducible] def sh_figures_run_3 : PSh := ⟨[], [.mk false [vS], .mk false [vI], .any, .any, .any, .mk false [vI], .any, .any, .any, .any, .any, .any, .any, .any, .any, .any, .any, .any, .any, .any, .any]⟩
def f_figures_run_p3 (T : TT_figures_run) (d : Unit × ((ByteArray × Unit) × ((Int × Unit) × ((Int × Unit) × Unit)))) : Option (Unit × ((Int × Unit) × Unit)) :=
  let x1 : Int := (d.2.1.1.size : Int)
  let x2 : Int := (if d.2.2.1.1 < x1 then d.2.2.1.1 else x1)
  let x3 : Bool := (decide (d.2.2.2.1.1 < x2))
  bif x3 then (
  bif decide ((0 : Int) ≤ d.2.2.2.1.1) && decide (d.2.2.2.1.1 < ((d.2.1.1.size : Int) : Int)) then (
  let x4 : Int := (bt d.2.1.1 d.2.2.2.1.1)
  (g_figures_Is ((), ((x4, ()), ()))).bind fun x5 =>
  bif x5.2.1.1 then (
  let x6 : Int := (iadd .i64 d.2.2.2.1.1 (1 : Int))
  (T.1 ((), (d.2.1, (d.2.2.1, ((x6, ()), ()))))))
  else (
  some ((), d.2.2.2)))
  else none)
  else (
  some ((), d.2.2.2))
def f_figures_run_t : Nat → TT_figures_run
  | 0 => (fun _ => none, ())
  | k + 1 => (f_figures_run_p3 (f_figures_run_t k), ())
theorem t_figures_run (k : Nat) : f_figures_run_t (k + 1) = (f_figures_run_p3 (f_figures_run_t k), ()) := rfl
def f_figures_run_m (T : TT_figures_run) (d : Unit × ((ByteArray × Unit) × ((Int × Unit) × Unit))) : Option (Unit × ((Int × Unit) × Unit)) :=
  (T.1 ((), (d.2.1, (d.2.2.1, (((0 : Int), ()), ())))))
def c_figures_run : List Nat := []
def L_figures_run (k : Nat) : Pts po_figures_run.den := [(3, ⟨sh_figures_run_3, (f_figures_run_t k).1⟩)]
def R_figures_run (_ : Nat) : PtsR po_figures_run.den := []
def E_figures_run : Env := (E0.add 97 (typedSem pi_figures_Is po_figures_Is g_figures_Is))
theorem q_figures_run_3 (k : Nat) (d : sh_figures_run_3.den) : evAt E_figures_run (tb (L_figures_run k) (R_figures_run k)) c_figures_run 3 (bodyOf Tryd.f84) 0 (finK E_figures_run po_figures_run [.tmp 4]) (ptSt sh_figures_run_3 d) = f_figures_run_p3 (f_figures_run_t k) d := by kernel_rfl
theorem q_figures_run_m (k : Nat) (d : pi_figures_run.den) : evCode E_figures_run (tb (L_figures_run k) (R_figures_run k)) c_figures_run (bodyOf Tryd.f84) 0 (finK E_figures_run po_figures_run [.tmp 4]) (startSt pi_figures_run 21 d) = f_figures_run_m (f_figures_run_t k) d := by kernel_rfl
def g_figures_run (d : Unit × ((ByteArray × Unit) × ((Int × Unit) × Unit))) : Option (Unit × ((Int × Unit) × Unit)) := lim fun k => f_figures_run_m (f_figures_run_t k) d
theorem ok_figures_run : FnOk Tryd.prog ET0 84 pi_figures_run po_figures_run g_figures_run :=
  fn_of_body (E := E_figures_run) (envOk_add e0_ok (typed_ok ok_figures_Is)) (fn := Tryd.f84) Tryd.func84 (by kernel_rfl) (by kernel_rfl) [.tmp 4] (by kernel_rfl) (by kernel_rfl) (by decide) rfl c_figures_run L_figures_run R_figures_run
    (by intro x hx d; simp only [L_figures_run, List.mem_cons, List.not_mem_nil, or_false] at hx; subst hx; rfl)
    (by intro k x hx d out h; simp only [L_figures_run, List.mem_cons, List.not_mem_nil, or_false] at hx; subst hx; exact (q_figures_run_3 k d).trans h)
    (by intro x hx; cases hx)
    (by intro k x hx; cases hx)
    (by intro d out h; obtain ⟨k, hk⟩ := lim_some h; exact ⟨k, (q_figures_run_m k d).trans hk⟩)

@[reducible] def pi_figures_value : PSh := ⟨[], [.mk false [vS], .mk false [.v (.int .u64)]]⟩
@[reducible] def po_figures_value : PSh := ⟨[], [.mk false [.v (.int .u64)], .mk false [vE]]⟩
@[reducible] def TT_figures_value : Type := (((Unit × ((ByteArray × Unit) × ((Int × Unit) × ((Int × Unit) × ((Int × Unit) × ((Int × Unit) × Unit)))))) → Option (Unit × ((Int × Unit) × (((Option Int) × Unit) × Unit)))) × Unit)
@[reducible] def sh_figures_value_4 : PSh := ⟨[], [.mk false [vS], .mk false [.v (.int .u64)], .any, .any, .any, .any, .mk false [.v (.int .u64)], .any, .any, .any, .mk false [vI], .mk false [vI], .any, .any, .any, .any, .any, .any, .any, .any, .any, .any, .any, .any, .any, .any, .any, .any, .any, .any, .any, .any]⟩
def f_figures_value_p4 (T : TT_figures_value) (d : Unit × ((ByteArray × Unit) × ((Int × Unit) × ((Int × Unit) × ((Int × Unit) × ((Int × Unit) × Unit)))))) : Option (Unit × ((Int × Unit) × (((Option Int) × Unit) × Unit))) :=
  let x2 : Bool := (decide (d.2.2.2.2.2.1.1 < d.2.2.2.2.1.1))
  bif x2 then (
  bif decide ((0 : Int) ≤ d.2.2.2.2.2.1.1) && decide (d.2.2.2.2.2.1.1 < ((d.2.1.1.size : Int) : Int)) then (
  let x3 : Int := (bt d.2.1.1 d.2.2.2.2.2.1.1)
  let x4 : Int := (isub .u8 x3 (48 : Int))
  let x5 : Int := (iconv .u64 x4)
  let x6 : Int := (isub .u64 d.2.2.1.1 x5)
  let x7 : Int := (iquo .u64 x6 (10 : Int))
  let x8 : Bool := (decide (d.2.2.2.1.1 > x7))
  bif x8 then (
  let x9 : (Option Int) := (some (5 : Int))
  some ((), (((0 : Int), ()), ((x9, ()), ()))))
  else (
  let x10 : Int := (imul .u64 d.2.2.2.1.1 (10 : Int))
  let x11 : Int := (iadd .u64 x10 x5)
  let x12 : Int := (iadd .i64 d.2.2.2.2.2.1.1 (1 : Int))
  (T.1 ((), (d.2.1, (d.2.2.1, ((x11, ()), (d.2.2.2.2.1, ((x12, ()), ())))))))))
  else none)
  else (
  some ((), (d.2.2.2.1, (((none : Option Int), ()), ()))))
def f_figures_value_t : Nat → TT_figures_value
  | 0 => (fun _ => none, ())
  | k + 1 => (f_figures_value_p4 (f_figures_value_t k), ())
theorem t_figures_value (k : Nat) : f_figures_value_t (k + 1) = (f_figures_value_p4 (f_figures_value_t k), ()) := rfl
def f_figures_value_m (T : TT_figures_value) (d : Unit × ((ByteArray × Unit) × ((Int × Unit) × Unit))) : Option (Unit × ((Int × Unit) × (((Option Int) × Unit) × Unit))) :=
  let x1 : Int := (d.2.1.1.size : Int)
  (T.1 ((), (d.2.1, (d.2.2.1, (((0 : Int), ()), ((x1, ()), (((0 : Int), ()), ())))))))
def c_figures_value : List Nat := []
def L_figures_value (k : Nat) : Pts po_figures_value.den := [(4, ⟨sh_figures_value_4, (f_figures_value_t k).1⟩)]
def R_figures_value (_ : Nat) : PtsR po_figures_value.den := []
def E_figures_value : Env := E0
theorem q_figures_value_4 (k : Nat) (d : sh_figures_value_4.den) : evAt E_figures_value (tb (L_figures_value k) (R_figures_value k)) c_figures_value 4 (bodyOf Tryd.f85) 0 (finK E_figures_value po_figures_value [.tmp 4, .tmp 5]) (ptSt sh_figures_value_4 d) = f_figures_value_p4 (f_figures_value_t k) d := by kernel_rfl
theorem q_figures_value_m (k : Nat) (d : pi_figures_value.den) : evCode E_figures_value (tb (L_figures_value k) (R_figures_value k)) c_figures_value (bodyOf Tryd.f85) 0 (finK E_figures_value po_figures_value [.tmp 4, .tmp 5]) (startSt pi_figures_value 32 d) = f_figures_value_m (f_figures_value_t k) d := by kernel_rfl
def g_figures_value (d : Unit × ((ByteArray × Unit) × ((Int × Unit) × Unit))) : Option (Unit × ((Int × Unit) × (((Option Int) × Unit) × Unit))) := lim fun k => f_figures_value_m (f_figures_value_t k) d
theorem ok_figures_value : FnOk Tryd.prog ET0 85 pi_figures_value po_figures_value g_figures_value :=
  fn_of_body (E := E_figures_value) e0_ok (fn := Tryd.f85) Tryd.func85 (by kernel_rfl) (by kernel_rfl) [.tmp 4, .tmp 5] (by kernel_rfl) (by kernel_rfl) (by decide) rfl c_figures_value L_figures_value R_figures_value
    (by intro x hx d; simp only [L_figures_value, List.mem_cons, List.not_mem_nil, or_false] at hx; subst hx; rfl)
    (by intro k x hx d out h; simp only [L_figures_value, List.mem_cons, List.not_mem_nil, or_false] at hx; subst hx; exact (q_figures_value_4 k d).trans h)
    (by intro x hx; cases hx)
    (by intro k x hx; cases hx)
    (by intro d out h; obtain ⟨k, hk⟩ := lim_some h; exact ⟨k, (q_figures_value_m k d).trans hk⟩)

@[reducible] def pi_figures_take : PSh := ⟨[], [.mk false [vS], .mk false [vI], .mk false [vI], .mk false [.v (.int .u64)]]⟩
@[reducible] def po_figures_take : PSh := ⟨[], [.mk false [.v (.int .u64)], .mk false [vI], .mk false [vE]]⟩
def f_figures_take_m (T : Unit) (d : Unit × ((ByteArray × Unit) × ((Int × Unit) × ((Int × Unit) × ((Int × Unit) × Unit))))) : Option (Unit × ((Int × Unit) × ((Int × Unit) × (((Option Int) × Unit) × Unit)))) :=
  let x1 : Bool := (decide (d.2.2.1.1 < (1 : Int)))
  bif x1 then (
  let x2 : (Option Int) := (some (1 : Int))
  some ((), (((0 : Int), ()), (((0 : Int), ()), ((x2, ()), ())))))
  else (
  let x3 : Bool := (decide (d.2.2.1.1 > d.2.2.2.1.1))
  bif x3 then (
  let x4 : (Option Int) := (some (1 : Int))
  some ((), (((0 : Int), ()), (((0 : Int), ()), ((x4, ()), ())))))
  else (
  let x5 : Bool := (decide (d.2.2.2.1.1 > (20 : Int)))
  bif x5 then (
  let x6 : (Option Int) := (some (1 : Int))
  some ((), (((0 : Int), ()), (((0 : Int), ()), ((x6, ()), ())))))
  else (
  (g_figures_run ((), (d.2.1, (d.2.2.2.1, ())))).bind fun x7 =>
  let x8 : Bool := (decide (x7.2.1.1 < d.2.2.1.1))
  bif x8 then (
  let x9 : (Option Int) := (some (2 : Int))
  some ((), (((0 : Int), ()), (((0 : Int), ()), ((x9, ()), ())))))
  else (
  bif decide ((0 : Int) ≤ (0 : Int)) && decide ((0 : Int) ≤ x7.2.1.1) && decide (x7.2.1.1 ≤ (d.2.1.1.size : Int)) then (
  let x10 : ByteArray := (d.2.1.1.extract (Int.toNat (0 : Int)) (Int.toNat x7.2.1.1))
  (g_figures_value ((), ((x10, ()), d.2.2.2.2))).bind fun x11 =>
  let x12 : Bool := (!x11.2.2.1.1.isNone)
  bif x12 then (
  some ((), (((0 : Int), ()), (((0 : Int), ()), x11.2.2))))
  else (
  some ((), (x11.2.1, (x7.2.1, (((none : Option Int), ()), ()))))))
  else none))))
def g_figures_take (d : Unit × ((ByteArray × Unit) × ((Int × Unit) × ((Int × Unit) × ((Int × Unit) × Unit))))) : Option (Unit × ((Int × Unit) × ((Int × Unit) × (((Option Int) × Unit) × Unit)))) := f_figures_take_m () d
theorem ok_figures_take : FnOk Tryd.prog ET0 67 pi_figures_take po_figures_take g_figures_take :=
  fn0 (E := ((E0.add 84 (typedSem pi_figures_run po_figures_run g_figures_run)).add 85 (typedSem pi_figures_value po_figures_value g_figures_value))) (envOk_add (envOk_add e0_ok (typed_ok ok_figures_run)) (typed_ok ok_figures_value)) (fn := Tryd.f67) Tryd.func67 (by kernel_rfl) (by kernel_rfl) [.tmp 8, .tmp 9, .tmp 10] (by kernel_rfl) rfl rfl rfl [] fun d => by kernel_rfl

@[reducible] def pi_figures_whole : PSh := ⟨[], [.mk false [vS], .mk false [vI], .mk false [vI], .mk false [.v (.int .u64)]]⟩
@[reducible] def po_figures_whole : PSh := ⟨[], [.mk false [.v (.int .u64)], .mk false [vE]]⟩
def f_figures_whole_m (T : Unit) (d : Unit × ((ByteArray × Unit) × ((Int × Unit) × ((Int × Unit) × ((Int × Unit) × Unit))))) : Option (Unit × ((Int × Unit) × (((Option Int) × Unit) × Unit))) :=
  (g_figures_take ((), d.2)).bind fun x1 =>
  let x2 : Bool := (!x1.2.2.2.1.1.isNone)
  bif x2 then (
  some ((), (((0 : Int), ()), x1.2.2.2)))
  else (
  let x3 : Int := (d.2.1.1.size : Int)
  let x4 : Bool := (decide (x1.2.2.1.1 < x3))
  bif x4 then (
  let x5 : (Option Int) := (some (2 : Int))
  some ((), (((0 : Int), ()), ((x5, ()), ()))))
  else (
  some ((), (x1.2.1, (((none : Option Int), ()), ())))))
def g_figures_whole (d : Unit × ((ByteArray × Unit) × ((Int × Unit) × ((Int × Unit) × ((Int × Unit) × Unit))))) : Option (Unit × ((Int × Unit) × (((Option Int) × Unit) × Unit))) := f_figures_whole_m () d
theorem ok_figures_whole : FnOk Tryd.prog ET0 45 pi_figures_whole po_figures_whole g_figures_whole :=
  fn0 (E := (E0.add 67 (typedSem pi_figures_take po_figures_take g_figures_take))) (envOk_add e0_ok (typed_ok ok_figures_take)) (fn := Tryd.f45) Tryd.func45 (by kernel_rfl) (by kernel_rfl) [.tmp 8, .tmp 9] (by kernel_rfl) rfl rfl rfl [] fun d => by kernel_rfl

@[reducible] def pi_figures_Whole : PSh := ⟨[], [.mk false [vS], .mk false [vI], .mk false [vI]]⟩
@[reducible] def po_figures_Whole : PSh := ⟨[], [.mk false [vI], .mk false [vE]]⟩
def f_figures_Whole_m (T : Unit) (d : Unit × ((ByteArray × Unit) × ((Int × Unit) × ((Int × Unit) × Unit)))) : Option (Unit × ((Int × Unit) × (((Option Int) × Unit) × Unit))) :=
  (g_figures_whole ((), (d.2.1, (d.2.2.1, (d.2.2.2.1, (((9223372036854775807 : Int), ()), ())))))).bind fun x1 =>
  let x2 : Int := (iconv .i64 x1.2.1.1)
  some ((), ((x2, ()), x1.2.2))
def g_figures_Whole (d : Unit × ((ByteArray × Unit) × ((Int × Unit) × ((Int × Unit) × Unit)))) : Option (Unit × ((Int × Unit) × (((Option Int) × Unit) × Unit))) := f_figures_Whole_m () d
theorem ok_figures_Whole : FnOk Tryd.prog ET0 32 pi_figures_Whole po_figures_Whole g_figures_Whole :=
  fn0 (E := (E0.add 45 (typedSem pi_figures_whole po_figures_whole g_figures_whole))) (envOk_add e0_ok (typed_ok ok_figures_whole)) (fn := Tryd.f32) Tryd.func32 (by kernel_rfl) (by kernel_rfl) [.tmp 6, .tmp 7] (by kernel_rfl) rfl rfl rfl [] fun d => by kernel_rfl

@[reducible] def pi_tally_Parse : PSh := ⟨[], [.mk false [vS]]⟩
@[reducible] def po_tally_Parse : PSh := ⟨[], [.mk false [.v (.nptr (.pair (.int .i64) (.pair (.int .i64) (.pair (.int .i64) (.pair (.int .i64) (.pair (.int .i64) (.pair (.int .i64) (.pair (.int .i64) (.pair (.int .i64) (.pair (.int .i64) (.pair (.int .i64) (.pair (.int .i64) (.int .i64)))))))))))))], .mk false [vE]]⟩
@[reducible] def TT_tally_Parse : Type := (((((ByteArray × (ByteArray × (ByteArray × (ByteArray × (ByteArray × (ByteArray × (ByteArray × (ByteArray × (ByteArray × (ByteArray × (ByteArray × (ByteArray × Unit)))))))))))) × Unit) × (Unit × (((List ByteArray) × Unit) × ((Int × Unit) × ((Int × Unit) × Unit))))) → Option (Unit × (((Option (Int × (Int × (Int × (Int × (Int × (Int × (Int × (Int × (Int × (Int × (Int × Int)))))))))))) × Unit) × (((Option Int) × Unit) × Unit)))) × (((((ByteArray × (ByteArray × (ByteArray × (ByteArray × (ByteArray × (ByteArray × (ByteArray × (ByteArray × (ByteArray × (ByteArray × (ByteArray × (ByteArray × Unit)))))))))))) × Unit) × (Unit × (((List ByteArray) × Unit) × ((Int × Unit) × ((Int × Unit) × Unit))))) → Option (Unit × (((Option (Int × (Int × (Int × (Int × (Int × (Int × (Int × (Int × (Int × (Int × (Int × Int)))))))))))) × Unit) × (((Option Int) × Unit) × Unit)))) × (((((Int × (Int × (Int × (Int × (Int × (Int × (Int × (Int × (Int × (Int × (Int × (Int × Unit)))))))))))) × Unit) × (Unit × ((ByteArray × (ByteArray × (ByteArray × (ByteArray × (ByteArray × (ByteArray × (ByteArray × (ByteArray × (ByteArray × (ByteArray × (ByteArray × (ByteArray × Unit)))))))))))) × ((Int × Unit) × Unit)))) → Option (Unit × (((Option (Int × (Int × (Int × (Int × (Int × (Int × (Int × (Int × (Int × (Int × (Int × Int)))))))))))) × Unit) × (((Option Int) × Unit) × Unit)))) × (((((Int × (Int × (Int × (Int × (Int × (Int × (Int × (Int × (Int × (Int × (Int × (Int × Unit)))))))))))) × Unit) × (Unit × ((Int × Unit) × ((ByteArray × Unit) × ((ByteArray × (ByteArray × (ByteArray × (ByteArray × (ByteArray × (ByteArray × (ByteArray × (ByteArray × (ByteArray × (ByteArray × (ByteArray × (ByteArray × Unit)))))))))))) × ((Int × Unit) × Unit)))))) → Option (Unit × (((Option (Int × (Int × (Int × (Int × (Int × (Int × (Int × (Int × (Int × (Int × (Int × Int)))))))))))) × Unit) × (((Option Int) × Unit) × Unit)))) × Unit))))
@[reducible] def sh_tally_Parse_8 : PSh := ⟨[.var 69 [vS, vS, vS, vS, vS, vS, vS, vS, vS, vS, vS, vS]], [.any, .any, .any, .any, .any, .mk false [.ref 0 0], .any, .any, .any, .any, .any, .any, .any, .any, .any, .any, .any, .any, .any, .any, .any, .any, .any, .any, .any, .any, .any, .any, .mk false [.v (.sl .str)], .mk false [vI], .mk false [vI], .any, .any, .any, .any, .any, .any, .any, .any, .any, .any, .any, .any, .any, .any, .any, .any, .any, .any, .any, .any, .any, .any, .any, .any, .any, .any, .any, .any, .any, .any, .any, .any, .any, .any, .any, .any, .any, .any, .any, .any]⟩
@[reducible] def sh_tally_Parse_11 : PSh := ⟨[.var 69 [vS, vS, vS, vS, vS, vS, vS, vS, vS, vS, vS, vS]], [.any, .any, .any, .any, .any, .mk false [.ref 0 0], .any, .any, .any, .any, .any, .any, .any, .any, .any, .any, .any, .any, .any, .any, .any, .any, .any, .any, .any, .any, .any, .any, .mk false [.v (.sl .str)], .mk false [vI], .mk false [vI], .any, .any, .any, .any, .any, .any, .any, .any, .any, .any, .any, .any, .any, .any, .any, .any, .any, .any, .any, .any, .any, .any, .any, .any, .any, .any, .any, .any, .any, .any, .any, .any, .any, .any, .any, .any, .any, .any, .any, .any]⟩
@[reducible] def sh_tally_Parse_20 : PSh := ⟨[.var 51 [vI, vI, vI, vI, vI, vI, vI, vI, vI, vI, vI, vI]], [.any, .any, .any, .any, .any, .any, .any, .any, .any, .any, .mk false [.ref 0 0], .any, .any, .any, .any, .any, .any, .any, .any, .any, .any, .any, .any, .any, .any, .any, .any, .any, .any, .any, .any, .any, .any, .any, .any, .any, .any, .any, .any, .any, .any, .any, .any, .any, .any, .any, .any, .any, .any, .any, .mk true [vS, vS, vS, vS, vS, vS, vS, vS, vS, vS, vS, vS], .mk false [vI], .any, .any, .any, .any, .any, .any, .any, .any, .any, .any, .any, .any, .any, .any, .any, .any, .any, .any, .any]⟩
@[reducible] def sh_tally_Parse_24 : PSh := ⟨[.var 51 [vI, vI, vI, vI, vI, vI, vI, vI, vI, vI, vI, vI]], [.any, .any, .any, .any, .any, .any, .any, .any, .any, .any, .mk false [.ref 0 0], .mk false [vI], .mk false [vS], .any, .any, .any, .any, .any, .any, .any, .any, .any, .any, .any, .any, .any, .any, .any, .any, .any, .any, .any, .any, .any, .any, .any, .any, .any, .any, .any, .any, .any, .any, .any, .any, .any, .any, .any, .any, .any, .mk true [vS, vS, vS, vS, vS, vS, vS, vS, vS, vS, vS, vS], .mk false [vI], .any, .any, .any, .any, .any, .any, .any, .any, .any, .any, .any, .any, .any, .any, .any, .any, .any, .any, .any]⟩
def f_tally_Parse_p8 (T : TT_tally_Parse) (d : ((ByteArray × (ByteArray × (ByteArray × (ByteArray × (ByteArray × (ByteArray × (ByteArray × (ByteArray × (ByteArray × (ByteArray × (ByteArray × (ByteArray × Unit)))))))))))) × Unit) × (Unit × (((List ByteArray) × Unit) × ((Int × Unit) × ((Int × Unit) × Unit))))) : Option (Unit × (((Option (Int × (Int × (Int × (Int × (Int × (Int × (Int × (Int × (Int × (Int × (Int × Int)))))))))))) × Unit) × (((Option Int) × Unit) × Unit))) :=
  let x9 : Bool := (decide (d.2.2.2.2.1.1 < d.2.2.2.1.1))
  bif x9 then (
  bif decide ((0 : Int) ≤ d.2.2.2.2.1.1) && decide (d.2.2.2.2.1.1 < (d.2.2.1.1.length : Int)) then (
  let x10 : Int := (iadd .i64 d.2.2.2.2.1.1 (1 : Int))
  (g_tally_count ((), (((gd .str d.2.2.1.1 d.2.2.2.2.1.1), ()), ((x10, ()), ())))).bind fun x11 =>
  let x12 : Bool := (!x11.2.2.1.1)
  bif x12 then (
  let x13 : (Option Int) := (some (2 : Int))
  some ((), (((none : Option (Int × (Int × (Int × (Int × (Int × (Int × (Int × (Int × (Int × (Int × (Int × Int)))))))))))), ()), ((x13, ()), ()))))
  else (
  bif decide ((0 : Int) ≤ d.2.2.2.2.1.1) && decide (d.2.2.2.2.1.1 < (12 : Int)) then (
  bif decide (d.2.2.2.2.1.1 = (0 : Int)) then (
  (T.2.1 (((x11.2.1.1, d.1.1.2), ()), ((), d.2.2))))
  else (
  bif decide (d.2.2.2.2.1.1 = (1 : Int)) then (
  (T.2.1 (((d.1.1.1, (x11.2.1.1, d.1.1.2.2)), ()), ((), d.2.2))))
  else (
  bif decide (d.2.2.2.2.1.1 = (2 : Int)) then (
  (T.2.1 (((d.1.1.1, (d.1.1.2.1, (x11.2.1.1, d.1.1.2.2.2))), ()), ((), d.2.2))))
  else (
  bif decide (d.2.2.2.2.1.1 = (3 : Int)) then (
  (T.2.1 (((d.1.1.1, (d.1.1.2.1, (d.1.1.2.2.1, (x11.2.1.1, d.1.1.2.2.2.2)))), ()), ((), d.2.2))))
  else (
  bif decide (d.2.2.2.2.1.1 = (4 : Int)) then (
  (T.2.1 (((d.1.1.1, (d.1.1.2.1, (d.1.1.2.2.1, (d.1.1.2.2.2.1, (x11.2.1.1, d.1.1.2.2.2.2.2))))), ()), ((), d.2.2))))
  else (
  bif decide (d.2.2.2.2.1.1 = (5 : Int)) then (
  (T.2.1 (((d.1.1.1, (d.1.1.2.1, (d.1.1.2.2.1, (d.1.1.2.2.2.1, (d.1.1.2.2.2.2.1, (x11.2.1.1, d.1.1.2.2.2.2.2.2)))))), ()), ((), d.2.2))))
  else (
  bif decide (d.2.2.2.2.1.1 = (6 : Int)) then (
  (T.2.1 (((d.1.1.1, (d.1.1.2.1, (d.1.1.2.2.1, (d.1.1.2.2.2.1, (d.1.1.2.2.2.2.1, (d.1.1.2.2.2.2.2.1, (x11.2.1.1, d.1.1.2.2.2.2.2.2.2))))))), ()), ((), d.2.2))))
  else (
  bif decide (d.2.2.2.2.1.1 = (7 : Int)) then (
  (T.2.1 (((d.1.1.1, (d.1.1.2.1, (d.1.1.2.2.1, (d.1.1.2.2.2.1, (d.1.1.2.2.2.2.1, (d.1.1.2.2.2.2.2.1, (d.1.1.2.2.2.2.2.2.1, (x11.2.1.1, d.1.1.2.2.2.2.2.2.2.2)))))))), ()), ((), d.2.2))))
  else (
  bif decide (d.2.2.2.2.1.1 = (8 : Int)) then (
  (T.2.1 (((d.1.1.1, (d.1.1.2.1, (d.1.1.2.2.1, (d.1.1.2.2.2.1, (d.1.1.2.2.2.2.1, (d.1.1.2.2.2.2.2.1, (d.1.1.2.2.2.2.2.2.1, (d.1.1.2.2.2.2.2.2.2.1, (x11.2.1.1, d.1.1.2.2.2.2.2.2.2.2.2))))))))), ()), ((), d.2.2))))
  else (
  bif decide (d.2.2.2.2.1.1 = (9 : Int)) then (
  (T.2.1 (((d.1.1.1, (d.1.1.2.1, (d.1.1.2.2.1, (d.1.1.2.2.2.1, (d.1.1.2.2.2.2.1, (d.1.1.2.2.2.2.2.1, (d.1.1.2.2.2.2.2.2.1, (d.1.1.2.2.2.2.2.2.2.1, (d.1.1.2.2.2.2.2.2.2.2.1, (x11.2.1.1, d.1.1.2.2.2.2.2.2.2.2.2.2)))))))))), ()), ((), d.2.2))))
  else (
  bif decide (d.2.2.2.2.1.1 = (10 : Int)) then (
  (T.2.1 (((d.1.1.1, (d.1.1.2.1, (d.1.1.2.2.1, (d.1.1.2.2.2.1, (d.1.1.2.2.2.2.1, (d.1.1.2.2.2.2.2.1, (d.1.1.2.2.2.2.2.2.1, (d.1.1.2.2.2.2.2.2.2.1, (d.1.1.2.2.2.2.2.2.2.2.1, (d.1.1.2.2.2.2.2.2.2.2.2.1, (x11.2.1.1, d.1.1.2.2.2.2.2.2.2.2.2.2.2))))))))))), ()), ((), d.2.2))))
  else (
  bif decide (d.2.2.2.2.1.1 = (11 : Int)) then (
  (T.2.1 (((d.1.1.1, (d.1.1.2.1, (d.1.1.2.2.1, (d.1.1.2.2.2.1, (d.1.1.2.2.2.2.1, (d.1.1.2.2.2.2.2.1, (d.1.1.2.2.2.2.2.2.1, (d.1.1.2.2.2.2.2.2.2.1, (d.1.1.2.2.2.2.2.2.2.2.1, (d.1.1.2.2.2.2.2.2.2.2.2.1, (d.1.1.2.2.2.2.2.2.2.2.2.2.1, x11.2.1))))))))))), ()), ((), d.2.2))))
  else (
  none)))))))))))))
  else none))
  else none)
  else (
  (g_tally_New ((), ())).bind fun x14 =>
  (T.2.2.1 (x14.1, ((), (d.1.1, (((0 : Int), ()), ()))))))
def f_tally_Parse_p11 (T : TT_tally_Parse) (d : ((ByteArray × (ByteArray × (ByteArray × (ByteArray × (ByteArray × (ByteArray × (ByteArray × (ByteArray × (ByteArray × (ByteArray × (ByteArray × (ByteArray × Unit)))))))))))) × Unit) × (Unit × (((List ByteArray) × Unit) × ((Int × Unit) × ((Int × Unit) × Unit))))) : Option (Unit × (((Option (Int × (Int × (Int × (Int × (Int × (Int × (Int × (Int × (Int × (Int × (Int × Int)))))))))))) × Unit) × (((Option Int) × Unit) × Unit))) :=
  let x15 : Int := (iadd .i64 d.2.2.2.2.1.1 (1 : Int))
  (T.1 (d.1, ((), (d.2.2.1, (d.2.2.2.1, ((x15, ()), ()))))))
def f_tally_Parse_p20 (T : TT_tally_Parse) (d : ((Int × (Int × (Int × (Int × (Int × (Int × (Int × (Int × (Int × (Int × (Int × (Int × Unit)))))))))))) × Unit) × (Unit × ((ByteArray × (ByteArray × (ByteArray × (ByteArray × (ByteArray × (ByteArray × (ByteArray × (ByteArray × (ByteArray × (ByteArray × (ByteArray × (ByteArray × Unit)))))))))))) × ((Int × Unit) × Unit)))) : Option (Unit × (((Option (Int × (Int × (Int × (Int × (Int × (Int × (Int × (Int × (Int × (Int × (Int × Int)))))))))))) × Unit) × (((Option Int) × Unit) × Unit))) :=
  let x16 : Bool := (decide (d.2.2.2.1.1 < (12 : Int)))
  bif x16 then (
  bif decide ((0 : Int) ≤ d.2.2.2.1.1) && decide (d.2.2.2.1.1 < (12 : Int)) then (
  bif decide (d.2.2.2.1.1 = (0 : Int)) then (
  (T.2.2.2.1 (d.1, ((), (d.2.2.2.1, ((d.2.2.1.1, ()), d.2.2))))))
  else (
  bif decide (d.2.2.2.1.1 = (1 : Int)) then (
  (T.2.2.2.1 (d.1, ((), (d.2.2.2.1, ((d.2.2.1.2.1, ()), d.2.2))))))
  else (
  bif decide (d.2.2.2.1.1 = (2 : Int)) then (
  (T.2.2.2.1 (d.1, ((), (d.2.2.2.1, ((d.2.2.1.2.2.1, ()), d.2.2))))))
  else (
  bif decide (d.2.2.2.1.1 = (3 : Int)) then (
  (T.2.2.2.1 (d.1, ((), (d.2.2.2.1, ((d.2.2.1.2.2.2.1, ()), d.2.2))))))
  else (
  bif decide (d.2.2.2.1.1 = (4 : Int)) then (
  (T.2.2.2.1 (d.1, ((), (d.2.2.2.1, ((d.2.2.1.2.2.2.2.1, ()), d.2.2))))))
  else (
  bif decide (d.2.2.2.1.1 = (5 : Int)) then (
  (T.2.2.2.1 (d.1, ((), (d.2.2.2.1, ((d.2.2.1.2.2.2.2.2.1, ()), d.2.2))))))
  else (
  bif decide (d.2.2.2.1.1 = (6 : Int)) then (
  (T.2.2.2.1 (d.1, ((), (d.2.2.2.1, ((d.2.2.1.2.2.2.2.2.2.1, ()), d.2.2))))))
  else (
  bif decide (d.2.2.2.1.1 = (7 : Int)) then (
  (T.2.2.2.1 (d.1, ((), (d.2.2.2.1, ((d.2.2.1.2.2.2.2.2.2.2.1, ()), d.2.2))))))
  else (
  bif decide (d.2.2.2.1.1 = (8 : Int)) then (
  (T.2.2.2.1 (d.1, ((), (d.2.2.2.1, ((d.2.2.1.2.2.2.2.2.2.2.2.1, ()), d.2.2))))))
  else (
  bif decide (d.2.2.2.1.1 = (9 : Int)) then (
  (T.2.2.2.1 (d.1, ((), (d.2.2.2.1, ((d.2.2.1.2.2.2.2.2.2.2.2.2.1, ()), d.2.2))))))
  else (
  bif decide (d.2.2.2.1.1 = (10 : Int)) then (
  (T.2.2.2.1 (d.1, ((), (d.2.2.2.1, ((d.2.2.1.2.2.2.2.2.2.2.2.2.2.1, ()), d.2.2))))))
  else (
  bif decide (d.2.2.2.1.1 = (11 : Int)) then (
  (T.2.2.2.1 (d.1, ((), (d.2.2.2.1, (d.2.2.1.2.2.2.2.2.2.2.2.2.2.2, d.2.2))))))
  else (
  none)))))))))))))
  else none)
  else (
  some ((), (((some (d.1.1.1, (d.1.1.2.1, (d.1.1.2.2.1, (d.1.1.2.2.2.1, (d.1.1.2.2.2.2.1, (d.1.1.2.2.2.2.2.1, (d.1.1.2.2.2.2.2.2.1, (d.1.1.2.2.2.2.2.2.2.1, (d.1.1.2.2.2.2.2.2.2.2.1, (d.1.1.2.2.2.2.2.2.2.2.2.1, (d.1.1.2.2.2.2.2.2.2.2.2.2.1, d.1.1.2.2.2.2.2.2.2.2.2.2.2.1)))))))))))), ()), (((none : Option Int), ()), ()))))
def f_tally_Parse_p24 (T : TT_tally_Parse) (d : ((Int × (Int × (Int × (Int × (Int × (Int × (Int × (Int × (Int × (Int × (Int × (Int × Unit)))))))))))) × Unit) × (Unit × ((Int × Unit) × ((ByteArray × Unit) × ((ByteArray × (ByteArray × (ByteArray × (ByteArray × (ByteArray × (ByteArray × (ByteArray × (ByteArray × (ByteArray × (ByteArray × (ByteArray × (ByteArray × Unit)))))))))))) × ((Int × Unit) × Unit)))))) : Option (Unit × (((Option (Int × (Int × (Int × (Int × (Int × (Int × (Int × (Int × (Int × (Int × (Int × Int)))))))))))) × Unit) × (((Option Int) × Unit) × Unit))) :=
  (g_figures_Whole ((), (d.2.2.2.1, (((1 : Int), ()), (((19 : Int), ()), ()))))).bind fun x17 =>
  let x18 : Bool := (!x17.2.2.1.1.isNone)
  bif x18 then (
  some ((), (((none : Option (Int × (Int × (Int × (Int × (Int × (Int × (Int × (Int × (Int × (Int × (Int × Int)))))))))))), ()), x17.2.2)))
  else (
  bif decide ((0 : Int) ≤ d.2.2.1.1) && decide (d.2.2.1.1 < (12 : Int)) then (
  bif decide (d.2.2.1.1 = (0 : Int)) then (
  let x30 : Int := (iadd .i64 d.2.2.2.2.2.1.1 (1 : Int))
  (T.2.2.1 (((x17.2.1.1, d.1.1.2), ()), ((), (d.2.2.2.2.1, ((x30, ()), ()))))))
  else (
  bif decide (d.2.2.1.1 = (1 : Int)) then (
  let x29 : Int := (iadd .i64 d.2.2.2.2.2.1.1 (1 : Int))
  (T.2.2.1 (((d.1.1.1, (x17.2.1.1, d.1.1.2.2)), ()), ((), (d.2.2.2.2.1, ((x29, ()), ()))))))
  else (
  bif decide (d.2.2.1.1 = (2 : Int)) then (
  let x28 : Int := (iadd .i64 d.2.2.2.2.2.1.1 (1 : Int))
  (T.2.2.1 (((d.1.1.1, (d.1.1.2.1, (x17.2.1.1, d.1.1.2.2.2))), ()), ((), (d.2.2.2.2.1, ((x28, ()), ()))))))
  else (
  bif decide (d.2.2.1.1 = (3 : Int)) then (
  let x27 : Int := (iadd .i64 d.2.2.2.2.2.1.1 (1 : Int))
  (T.2.2.1 (((d.1.1.1, (d.1.1.2.1, (d.1.1.2.2.1, (x17.2.1.1, d.1.1.2.2.2.2)))), ()), ((), (d.2.2.2.2.1, ((x27, ()), ()))))))
  else (
  bif decide (d.2.2.1.1 = (4 : Int)) then (
  let x26 : Int := (iadd .i64 d.2.2.2.2.2.1.1 (1 : Int))
  (T.2.2.1 (((d.1.1.1, (d.1.1.2.1, (d.1.1.2.2.1, (d.1.1.2.2.2.1, (x17.2.1.1, d.1.1.2.2.2.2.2))))), ()), ((), (d.2.2.2.2.1, ((x26, ()), ()))))))
  else (
  bif decide (d.2.2.1.1 = (5 : Int)) then (
  let x25 : Int := (iadd .i64 d.2.2.2.2.2.1.1 (1 : Int))
  (T.2.2.1 (((d.1.1.1, (d.1.1.2.1, (d.1.1.2.2.1, (d.1.1.2.2.2.1, (d.1.1.2.2.2.2.1, (x17.2.1.1, d.1.1.2.2.2.2.2.2)))))), ()), ((), (d.2.2.2.2.1, ((x25, ()), ()))))))
  else (
  bif decide (d.2.2.1.1 = (6 : Int)) then (
  let x24 : Int := (iadd .i64 d.2.2.2.2.2.1.1 (1 : Int))
  (T.2.2.1 (((d.1.1.1, (d.1.1.2.1, (d.1.1.2.2.1, (d.1.1.2.2.2.1, (d.1.1.2.2.2.2.1, (d.1.1.2.2.2.2.2.1, (x17.2.1.1, d.1.1.2.2.2.2.2.2.2))))))), ()), ((), (d.2.2.2.2.1, ((x24, ()), ()))))))
  else (
  bif decide (d.2.2.1.1 = (7 : Int)) then (
  let x23 : Int := (iadd .i64 d.2.2.2.2.2.1.1 (1 : Int))
  (T.2.2.1 (((d.1.1.1, (d.1.1.2.1, (d.1.1.2.2.1, (d.1.1.2.2.2.1, (d.1.1.2.2.2.2.1, (d.1.1.2.2.2.2.2.1, (d.1.1.2.2.2.2.2.2.1, (x17.2.1.1, d.1.1.2.2.2.2.2.2.2.2)))))))), ()), ((), (d.2.2.2.2.1, ((x23, ()), ()))))))
  else (
  bif decide (d.2.2.1.1 = (8 : Int)) then (
  let x22 : Int := (iadd .i64 d.2.2.2.2.2.1.1 (1 : Int))
  (T.2.2.1 (((d.1.1.1, (d.1.1.2.1, (d.1.1.2.2.1, (d.1.1.2.2.2.1, (d.1.1.2.2.2.2.1, (d.1.1.2.2.2.2.2.1, (d.1.1.2.2.2.2.2.2.1, (d.1.1.2.2.2.2.2.2.2.1, (x17.2.1.1, d.1.1.2.2.2.2.2.2.2.2.2))))))))), ()), ((), (d.2.2.2.2.1, ((x22, ()), ()))))))
  else (
  bif decide (d.2.2.1.1 = (9 : Int)) then (
  let x21 : Int := (iadd .i64 d.2.2.2.2.2.1.1 (1 : Int))
  (T.2.2.1 (((d.1.1.1, (d.1.1.2.1, (d.1.1.2.2.1, (d.1.1.2.2.2.1, (d.1.1.2.2.2.2.1, (d.1.1.2.2.2.2.2.1, (d.1.1.2.2.2.2.2.2.1, (d.1.1.2.2.2.2.2.2.2.1, (d.1.1.2.2.2.2.2.2.2.2.1, (x17.2.1.1, d.1.1.2.2.2.2.2.2.2.2.2.2)))))))))), ()), ((), (d.2.2.2.2.1, ((x21, ()), ()))))))
  else (
  bif decide (d.2.2.1.1 = (10 : Int)) then (
  let x20 : Int := (iadd .i64 d.2.2.2.2.2.1.1 (1 : Int))
  (T.2.2.1 (((d.1.1.1, (d.1.1.2.1, (d.1.1.2.2.1, (d.1.1.2.2.2.1, (d.1.1.2.2.2.2.1, (d.1.1.2.2.2.2.2.1, (d.1.1.2.2.2.2.2.2.1, (d.1.1.2.2.2.2.2.2.2.1, (d.1.1.2.2.2.2.2.2.2.2.1, (d.1.1.2.2.2.2.2.2.2.2.2.1, (x17.2.1.1, d.1.1.2.2.2.2.2.2.2.2.2.2.2))))))))))), ()), ((), (d.2.2.2.2.1, ((x20, ()), ()))))))
  else (
  bif decide (d.2.2.1.1 = (11 : Int)) then (
  let x19 : Int := (iadd .i64 d.2.2.2.2.2.1.1 (1 : Int))
  (T.2.2.1 (((d.1.1.1, (d.1.1.2.1, (d.1.1.2.2.1, (d.1.1.2.2.2.1, (d.1.1.2.2.2.2.1, (d.1.1.2.2.2.2.2.1, (d.1.1.2.2.2.2.2.2.1, (d.1.1.2.2.2.2.2.2.2.1, (d.1.1.2.2.2.2.2.2.2.2.1, (d.1.1.2.2.2.2.2.2.2.2.2.1, (d.1.1.2.2.2.2.2.2.2.2.2.2.1, x17.2.1))))))))))), ()), ((), (d.2.2.2.2.1, ((x19, ()), ()))))))
  else (
  none)))))))))))))
  else none)
def f_tally_Parse_t : Nat → TT_tally_Parse
  | 0 => (fun _ => none, (fun _ => none, (fun _ => none, (fun _ => none, ()))))
  | k + 1 => (f_tally_Parse_p8 (f_tally_Parse_t k), (f_tally_Parse_p11 (f_tally_Parse_t k), (f_tally_Parse_p20 (f_tally_Parse_t k), (f_tally_Parse_p24 (f_tally_Parse_t k), ()))))
theorem t_tally_Parse (k : Nat) : f_tally_Parse_t (k + 1) = (f_tally_Parse_p8 (f_tally_Parse_t k), (f_tally_Parse_p11 (f_tally_Parse_t k), (f_tally_Parse_p20 (f_tally_Parse_t k), (f_tally_Parse_p24 (f_tally_Parse_t k), ())))) := rfl
def f_tally_Parse_m (T : TT_tally_Parse) (d : Unit × ((ByteArray × Unit) × Unit)) : Option (Unit × (((Option (Int × (Int × (Int × (Int × (Int × (Int × (Int × (Int × (Int × (Int × (Int × Int)))))))))))) × Unit) × (((Option Int) × Unit) × Unit))) :=
  (g_strings_Split ((), (d.2.1, (((⟨#[10]⟩ : ByteArray), ()), ())))).bind fun x1 =>
  let x2 : Int := (x1.2.1.1.length : Int)
  let x3 : Bool := (x2 != (13 : Int))
  bif x3 then (
  let x4 : (Option Int) := (some (2 : Int))
  some ((), (((none : Option (Int × (Int × (Int × (Int × (Int × (Int × (Int × (Int × (Int × (Int × (Int × Int)))))))))))), ()), ((x4, ()), ()))))
  else (
  bif decide ((0 : Int) ≤ (12 : Int)) && decide ((12 : Int) < (x1.2.1.1.length : Int)) then (
  let x5 : Bool := (!((gd .str x1.2.1.1 (12 : Int)).toList == (⟨#[]⟩ : ByteArray).toList))
  bif x5 then (
  let x6 : (Option Int) := (some (2 : Int))
  some ((), (((none : Option (Int × (Int × (Int × (Int × (Int × (Int × (Int × (Int × (Int × (Int × (Int × Int)))))))))))), ()), ((x6, ()), ()))))
  else (
  bif decide ((0 : Int) ≤ (0 : Int)) && decide ((12 : Int) ≤ (x1.2.1.1.length : Int)) then (
  let x7 : (List ByteArray) := (List.drop (Int.toNat (0 : Int)) (List.take (Int.toNat (12 : Int)) x1.2.1.1))
  let x8 : Int := (x7.length : Int)
  (T.1 (((ByteArray.empty, (ByteArray.empty, (ByteArray.empty, (ByteArray.empty, (ByteArray.empty, (ByteArray.empty, (ByteArray.empty, (ByteArray.empty, (ByteArray.empty, (ByteArray.empty, (ByteArray.empty, (ByteArray.empty, ())))))))))))), ()), ((), ((x7, ()), ((x8, ()), (((0 : Int), ()), ())))))))
  else none))
  else none)
def c_tally_Parse : List Nat := [11, 24]
def L_tally_Parse (k : Nat) : Pts po_tally_Parse.den := [(8, ⟨sh_tally_Parse_8, (f_tally_Parse_t k).1⟩), (11, ⟨sh_tally_Parse_11, (f_tally_Parse_t k).2.1⟩), (20, ⟨sh_tally_Parse_20, (f_tally_Parse_t k).2.2.1⟩), (24, ⟨sh_tally_Parse_24, (f_tally_Parse_t k).2.2.2.1⟩)]
def R_tally_Parse (_ : Nat) : PtsR po_tally_Parse.den := []
def E_tally_Parse : Env := ((((E0.add 6 (typedSem pi_tally_New po_tally_New g_tally_New)).add 30 (typedSem pi_strings_Split po_strings_Split g_strings_Split)).add 31 (typedSem pi_tally_count po_tally_count g_tally_count)).add 32 (typedSem pi_figures_Whole po_figures_Whole g_figures_Whole))
theorem q_tally_Parse_8 (k : Nat) (d : sh_tally_Parse_8.den) : evAt E_tally_Parse (tb (L_tally_Parse k) (R_tally_Parse k)) c_tally_Parse 8 (bodyOf Tryd.f18) 0 (finK E_tally_Parse po_tally_Parse [.tmp 2, .tmp 3]) (ptSt sh_tally_Parse_8 d) = f_tally_Parse_p8 (f_tally_Parse_t k) d := by kernel_rfl
theorem q_tally_Parse_11 (k : Nat) (d : sh_tally_Parse_11.den) : evAt E_tally_Parse (tb (L_tally_Parse k) (R_tally_Parse k)) c_tally_Parse 11 (bodyOf Tryd.f18) 0 (finK E_tally_Parse po_tally_Parse [.tmp 2, .tmp 3]) (ptSt sh_tally_Parse_11 d) = f_tally_Parse_p11 (f_tally_Parse_t k) d := by kernel_rfl
theorem q_tally_Parse_20 (k : Nat) (d : sh_tally_Parse_20.den) : evAt E_tally_Parse (tb (L_tally_Parse k) (R_tally_Parse k)) c_tally_Parse 20 (bodyOf Tryd.f18) 0 (finK E_tally_Parse po_tally_Parse [.tmp 2, .tmp 3]) (ptSt sh_tally_Parse_20 d) = f_tally_Parse_p20 (f_tally_Parse_t k) d := by kernel_rfl
theorem q_tally_Parse_24 (k : Nat) (d : sh_tally_Parse_24.den) : evAt E_tally_Parse (tb (L_tally_Parse k) (R_tally_Parse k)) c_tally_Parse 24 (bodyOf Tryd.f18) 0 (finK E_tally_Parse po_tally_Parse [.tmp 2, .tmp 3]) (ptSt sh_tally_Parse_24 d) = f_tally_Parse_p24 (f_tally_Parse_t k) d := by kernel_rfl
theorem q_tally_Parse_m (k : Nat) (d : pi_tally_Parse.den) : evCode E_tally_Parse (tb (L_tally_Parse k) (R_tally_Parse k)) c_tally_Parse (bodyOf Tryd.f18) 0 (finK E_tally_Parse po_tally_Parse [.tmp 2, .tmp 3]) (startSt pi_tally_Parse 71 d) = f_tally_Parse_m (f_tally_Parse_t k) d := by kernel_rfl
def g_tally_Parse (d : Unit × ((ByteArray × Unit) × Unit)) : Option (Unit × (((Option (Int × (Int × (Int × (Int × (Int × (Int × (Int × (Int × (Int × (Int × (Int × Int)))))))))))) × Unit) × (((Option Int) × Unit) × Unit))) := lim fun k => f_tally_Parse_m (f_tally_Parse_t k) d
theorem ok_tally_Parse : FnOk Tryd.prog ET0 18 pi_tally_Parse po_tally_Parse g_tally_Parse :=
  fn_of_body (E := E_tally_Parse) (envOk_add (envOk_add (envOk_add (envOk_add e0_ok (typed_ok ok_tally_New)) (typed_ok ok_strings_Split)) (typed_ok ok_tally_count)) (typed_ok ok_figures_Whole)) (fn := Tryd.f18) Tryd.func18 (by kernel_rfl) (by kernel_rfl) [.tmp 2, .tmp 3] (by kernel_rfl) (by kernel_rfl) (by decide) rfl c_tally_Parse L_tally_Parse R_tally_Parse
    (by intro x hx d; simp only [L_tally_Parse, List.mem_cons, List.not_mem_nil, or_false] at hx; rcases hx with rfl | rfl | rfl | rfl; rfl; rfl; rfl; rfl)
    (by intro k x hx d out h; simp only [L_tally_Parse, List.mem_cons, List.not_mem_nil, or_false] at hx; rcases hx with rfl | rfl | rfl | rfl; exact (q_tally_Parse_8 k d).trans h; exact (q_tally_Parse_11 k d).trans h; exact (q_tally_Parse_20 k d).trans h; exact (q_tally_Parse_24 k d).trans h)
    (by intro x hx; cases hx)
    (by intro k x hx; cases hx)
    (by intro d out h; obtain ⟨k, hk⟩ := lim_some h; exact ⟨k, (q_tally_Parse_m k d).trans hk⟩)

@[reducible] def pi_law32_TallyBack : PSh := ⟨[], [.mk false [.v (.sl (.pair (.int .i64) (.int .i64)))], .mk false [vS]]⟩
@[reducible] def po_law32_TallyBack : PSh := ⟨[], [.mk false [vB]]⟩
@[reducible] def TT_law32_TallyBack : Type := (((((Int × (Int × (Int × (Int × (Int × (Int × (Int × (Int × (Int × (Int × (Int × (Int × Unit)))))))))))) × Unit) × ((ByteArray × Unit) × (Unit × (((List (Int × Int)) × Unit) × ((Int × Unit) × ((Int × Unit) × Unit)))))) → Option (Unit × ((Bool × Unit) × Unit))) × (((((Int × (Int × (Int × (Int × (Int × (Int × (Int × (Int × (Int × (Int × (Int × (Int × Unit)))))))))))) × ((Int × (Int × (Int × (Int × (Int × (Int × (Int × (Int × (Int × (Int × (Int × (Int × Unit)))))))))))) × Unit)) × ((ByteArray × Unit) × (Unit × (Unit × (((List (Int × Int)) × Unit) × ((Int × Unit) × ((Int × Unit) × ((Int × (Int × (Int × (Int × (Int × (Int × (Int × (Int × (Int × (Int × (Int × (Int × Unit)))))))))))) × ((Int × Unit) × Unit))))))))) → Option (Unit × ((Bool × Unit) × Unit))) × (((((Int × (Int × (Int × (Int × (Int × (Int × (Int × (Int × (Int × (Int × (Int × (Int × Unit)))))))))))) × ((Int × (Int × (Int × (Int × (Int × (Int × (Int × (Int × (Int × (Int × (Int × (Int × Unit)))))))))))) × Unit)) × ((ByteArray × Unit) × (Unit × (Unit × ((Int × Unit) × ((Int × Unit) × (((List (Int × Int)) × Unit) × ((Int × Unit) × ((Int × Unit) × ((Int × (Int × (Int × (Int × (Int × (Int × (Int × (Int × (Int × (Int × (Int × (Int × Unit)))))))))))) × ((Int × Unit) × Unit))))))))))) → Option (Unit × ((Bool × Unit) × Unit))) × (((((Int × (Int × (Int × (Int × (Int × (Int × (Int × (Int × (Int × (Int × (Int × (Int × Unit)))))))))))) × ((Int × (Int × (Int × (Int × (Int × (Int × (Int × (Int × (Int × (Int × (Int × (Int × Unit)))))))))))) × Unit)) × ((ByteArray × Unit) × (Unit × (Unit × (((List (Int × Int)) × Unit) × ((Int × Unit) × ((Int × Unit) × ((Int × (Int × (Int × (Int × (Int × (Int × (Int × (Int × (Int × (Int × (Int × (Int × Unit)))))))))))) × ((Int × Unit) × ((Bool × Unit) × Unit)))))))))) → Option (Unit × ((Bool × Unit) × Unit))) × Unit))))
@[reducible] def sh_law32_TallyBack_13 : PSh := ⟨[.var 51 [vI, vI, vI, vI, vI, vI, vI, vI, vI, vI, vI, vI]], [.any, .mk false [vS], .any, .any, .any, .mk false [.ref 0 0], .any, .any, .any, .any, .any, .any, .any, .any, .any, .any, .any, .any, .any, .any, .any, .any, .any, .any, .any, .any, .any, .mk false [.v (.sl (.pair (.int .i64) (.int .i64)))], .mk false [vI], .mk false [vI], .any, .any, .any, .any, .any, .any, .any, .any, .any, .any, .any, .any, .any, .any, .any, .any, .any, .any, .any, .any, .any, .any, .any, .any, .any, .any, .any, .any, .any, .any, .any, .any, .any, .any, .any, .any, .any, .any, .any, .any, .any, .any, .any, .any, .any, .any, .any, .any, .any, .any, .any, .any, .any, .any, .any, .any, .any, .any, .any]⟩
@[reducible] def sh_law32_TallyBack_21 : PSh := ⟨[.var 51 [vI, vI, vI, vI, vI, vI, vI, vI, vI, vI, vI, vI], .var 27 [vI, vI, vI, vI, vI, vI, vI, vI, vI, vI, vI, vI]], [.any, .mk false [vS], .any, .any, .any, .mk false [.ref 0 0], .any, .any, .mk false [.ref 1 0], .any, .any, .any, .any, .any, .any, .any, .any, .any, .any, .any, .any, .any, .any, .any, .any, .any, .any, .mk false [.v (.sl (.pair (.int .i64) (.int .i64)))], .mk false [vI], .mk false [vI], .any, .any, .any, .any, .any, .any, .any, .any, .any, .any, .any, .any, .mk true [vI, vI, vI, vI, vI, vI, vI, vI, vI, vI, vI, vI], .mk false [vI], .any, .any, .any, .any, .any, .any, .any, .any, .any, .any, .any, .any, .any, .any, .any, .any, .any, .any, .any, .any, .any, .any, .any, .any, .any, .any, .any, .any, .any, .any, .any, .any, .any, .any, .any, .any, .any, .any, .any, .any, .any, .any, .any, .any, .any]⟩
@[reducible] def sh_law32_TallyBack_25 : PSh := ⟨[.var 51 [vI, vI, vI, vI, vI, vI, vI, vI, vI, vI, vI, vI], .var 27 [vI, vI, vI, vI, vI, vI, vI, vI, vI, vI, vI, vI]], [.any, .mk false [vS], .any, .any, .any, .mk false [.ref 0 0], .any, .any, .mk false [.ref 1 0], .mk false [vI], .mk false [vI], .any, .any, .any, .any, .any, .any, .any, .any, .any, .any, .any, .any, .any, .any, .any, .any, .mk false [.v (.sl (.pair (.int .i64) (.int .i64)))], .mk false [vI], .mk false [vI], .any, .any, .any, .any, .any, .any, .any, .any, .any, .any, .any, .any, .mk true [vI, vI, vI, vI, vI, vI, vI, vI, vI, vI, vI, vI], .mk false [vI], .any, .any, .any, .any, .any, .any, .any, .any, .any, .any, .any, .any, .any, .any, .any, .any, .any, .any, .any, .any, .any, .any, .any, .any, .any, .any, .any, .any, .any, .any, .any, .any, .any, .any, .any, .any, .any, .any, .any, .any, .any, .any, .any, .any, .any]⟩
@[reducible] def sh_law32_TallyBack_26 : PSh := ⟨[.var 51 [vI, vI, vI, vI, vI, vI, vI, vI, vI, vI, vI, vI], .var 27 [vI, vI, vI, vI, vI, vI, vI, vI, vI, vI, vI, vI]], [.any, .mk false [vS], .any, .any, .any, .mk false [.ref 0 0], .any, .any, .mk false [.ref 1 0], .any, .any, .any, .any, .any, .any, .any, .any, .any, .any, .any, .any, .any, .any, .any, .any, .any, .any, .mk false [.v (.sl (.pair (.int .i64) (.int .i64)))], .mk false [vI], .mk false [vI], .any, .any, .any, .any, .any, .any, .any, .any, .any, .any, .any, .any, .mk true [vI, vI, vI, vI, vI, vI, vI, vI, vI, vI, vI, vI], .mk false [vI], .any, .any, .any, .any, .any, .any, .any, .mk false [vB], .any, .any, .any, .any, .any, .any, .any, .any, .any, .any, .any, .any, .any, .any, .any, .any, .any, .any, .any, .any, .any, .any, .any, .any, .any, .any, .any, .any, .any, .any, .any, .any, .any, .any, .any, .any, .any]⟩
def f_law32_TallyBack_p13 (T : TT_law32_TallyBack) (d : ((Int × (Int × (Int × (Int × (Int × (Int × (Int × (Int × (Int × (Int × (Int × (Int × Unit)))))))))))) × Unit) × ((ByteArray × Unit) × (Unit × (((List (Int × Int)) × Unit) × ((Int × Unit) × ((Int × Unit) × Unit)))))) : Option (Unit × ((Bool × Unit) × Unit)) :=
  let x9 : Bool := (decide (d.2.2.2.2.2.1.1 < d.2.2.2.2.1.1))
  bif x9 then (
  bif decide ((0 : Int) ≤ d.2.2.2.2.2.1.1) && decide (d.2.2.2.2.2.1.1 < (d.2.2.2.1.1.length : Int)) then (
  (g_tally_Tally_All ((), (((some (d.1.1.1, (d.1.1.2.1, (d.1.1.2.2.1, (d.1.1.2.2.2.1, (d.1.1.2.2.2.2.1, (d.1.1.2.2.2.2.2.1, (d.1.1.2.2.2.2.2.2.1, (d.1.1.2.2.2.2.2.2.2.1, (d.1.1.2.2.2.2.2.2.2.2.1, (d.1.1.2.2.2.2.2.2.2.2.2.1, (d.1.1.2.2.2.2.2.2.2.2.2.2.1, d.1.1.2.2.2.2.2.2.2.2.2.2.2.1)))))))))))), ()), ()))).bind fun x10 =>
  (g_tally_Tally_Add_io (d.1, ((), (((gd_i64_i64 d.2.2.2.1.1 d.2.2.2.2.2.1.1).1, ()), (((gd_i64_i64 d.2.2.2.1.1 d.2.2.2.2.2.1.1).2, ()), ()))))).bind fun x11 =>
  (g_tally_Tally_All ((), (((some (x11.1.1.1, (x11.1.1.2.1, (x11.1.1.2.2.1, (x11.1.1.2.2.2.1, (x11.1.1.2.2.2.2.1, (x11.1.1.2.2.2.2.2.1, (x11.1.1.2.2.2.2.2.2.1, (x11.1.1.2.2.2.2.2.2.2.1, (x11.1.1.2.2.2.2.2.2.2.2.1, (x11.1.1.2.2.2.2.2.2.2.2.2.1, (x11.1.1.2.2.2.2.2.2.2.2.2.2.1, x11.1.1.2.2.2.2.2.2.2.2.2.2.2.1)))))))))))), ()), ()))).bind fun x12 =>
  (T.2.1 ((x11.1.1, x10.2), (d.2.1, ((), ((), (d.2.2.2.1, (d.2.2.2.2.1, (d.2.2.2.2.2.1, (x12.2.1, (((0 : Int), ()), ())))))))))))
  else none)
  else (
  (g_tally_Tally_Text ((), (((some (d.1.1.1, (d.1.1.2.1, (d.1.1.2.2.1, (d.1.1.2.2.2.1, (d.1.1.2.2.2.2.1, (d.1.1.2.2.2.2.2.1, (d.1.1.2.2.2.2.2.2.1, (d.1.1.2.2.2.2.2.2.2.1, (d.1.1.2.2.2.2.2.2.2.2.1, (d.1.1.2.2.2.2.2.2.2.2.2.1, (d.1.1.2.2.2.2.2.2.2.2.2.2.1, d.1.1.2.2.2.2.2.2.2.2.2.2.2.1)))))))))))), ()), ()))).bind fun x13 =>
  (g_tally_Parse ((), x13.2)).bind fun x14 =>
  let x15 : Bool := (!x14.2.2.1.1.isNone)
  bif x15 then (
  some ((), ((false, ()), ())))
  else (
  (g_tally_Same ((), (((some (d.1.1.1, (d.1.1.2.1, (d.1.1.2.2.1, (d.1.1.2.2.2.1, (d.1.1.2.2.2.2.1, (d.1.1.2.2.2.2.2.1, (d.1.1.2.2.2.2.2.2.1, (d.1.1.2.2.2.2.2.2.2.1, (d.1.1.2.2.2.2.2.2.2.2.1, (d.1.1.2.2.2.2.2.2.2.2.2.1, (d.1.1.2.2.2.2.2.2.2.2.2.2.1, d.1.1.2.2.2.2.2.2.2.2.2.2.2.1)))))))))))), ()), (x14.2.1, ())))).bind fun x16 =>
  let x17 : Bool := (!x16.2.1.1)
  bif x17 then (
  some ((), ((false, ()), ())))
  else (
  (g_tally_Parse ((), (d.2.1, ()))).bind fun x18 =>
  let x19 : Bool := (!x18.2.2.1.1.isNone)
  bif x19 then (
  bif x18.2.1.1.isNone then (
  some ((), ((true, ()), ())))
  else (
  bif x18.2.2.1.1.isNone then (
  (g_tally_Tally_Text ((), (x18.2.1, ()))).bind fun x20 =>
  let x21 : Bool := (x20.2.1.1.toList == d.2.1.1.toList)
  some ((), ((x21, ()), ())))
  else (
  some ((), ((false, ()), ())))))
  else (
  bif x18.2.2.1.1.isNone then (
  (g_tally_Tally_Text ((), (x18.2.1, ()))).bind fun x22 =>
  let x23 : Bool := (x22.2.1.1.toList == d.2.1.1.toList)
  some ((), ((x23, ()), ())))
  else (
  some ((), ((false, ()), ())))))))
def f_law32_TallyBack_p21 (T : TT_law32_TallyBack) (d : ((Int × (Int × (Int × (Int × (Int × (Int × (Int × (Int × (Int × (Int × (Int × (Int × Unit)))))))))))) × ((Int × (Int × (Int × (Int × (Int × (Int × (Int × (Int × (Int × (Int × (Int × (Int × Unit)))))))))))) × Unit)) × ((ByteArray × Unit) × (Unit × (Unit × (((List (Int × Int)) × Unit) × ((Int × Unit) × ((Int × Unit) × ((Int × (Int × (Int × (Int × (Int × (Int × (Int × (Int × (Int × (Int × (Int × (Int × Unit)))))))))))) × ((Int × Unit) × Unit))))))))) : Option (Unit × ((Bool × Unit) × Unit)) :=
  let x24 : Bool := (decide (d.2.2.2.2.2.2.2.2.1.1 < (12 : Int)))
  bif x24 then (
  bif decide ((0 : Int) ≤ d.2.2.2.2.2.2.2.2.1.1) && decide (d.2.2.2.2.2.2.2.2.1.1 < (12 : Int)) then (
  bif decide (d.2.2.2.2.2.2.2.2.1.1 = (0 : Int)) then (
  (T.2.2.1 (d.1, (d.2.1, ((), ((), (d.2.2.2.2.2.2.2.2.1, ((d.2.2.2.2.2.2.2.1.1, ()), d.2.2.2.2))))))))
  else (
  bif decide (d.2.2.2.2.2.2.2.2.1.1 = (1 : Int)) then (
  (T.2.2.1 (d.1, (d.2.1, ((), ((), (d.2.2.2.2.2.2.2.2.1, ((d.2.2.2.2.2.2.2.1.2.1, ()), d.2.2.2.2))))))))
  else (
  bif decide (d.2.2.2.2.2.2.2.2.1.1 = (2 : Int)) then (
  (T.2.2.1 (d.1, (d.2.1, ((), ((), (d.2.2.2.2.2.2.2.2.1, ((d.2.2.2.2.2.2.2.1.2.2.1, ()), d.2.2.2.2))))))))
  else (
  bif decide (d.2.2.2.2.2.2.2.2.1.1 = (3 : Int)) then (
  (T.2.2.1 (d.1, (d.2.1, ((), ((), (d.2.2.2.2.2.2.2.2.1, ((d.2.2.2.2.2.2.2.1.2.2.2.1, ()), d.2.2.2.2))))))))
  else (
  bif decide (d.2.2.2.2.2.2.2.2.1.1 = (4 : Int)) then (
  (T.2.2.1 (d.1, (d.2.1, ((), ((), (d.2.2.2.2.2.2.2.2.1, ((d.2.2.2.2.2.2.2.1.2.2.2.2.1, ()), d.2.2.2.2))))))))
  else (
  bif decide (d.2.2.2.2.2.2.2.2.1.1 = (5 : Int)) then (
  (T.2.2.1 (d.1, (d.2.1, ((), ((), (d.2.2.2.2.2.2.2.2.1, ((d.2.2.2.2.2.2.2.1.2.2.2.2.2.1, ()), d.2.2.2.2))))))))
  else (
  bif decide (d.2.2.2.2.2.2.2.2.1.1 = (6 : Int)) then (
  (T.2.2.1 (d.1, (d.2.1, ((), ((), (d.2.2.2.2.2.2.2.2.1, ((d.2.2.2.2.2.2.2.1.2.2.2.2.2.2.1, ()), d.2.2.2.2))))))))
  else (
  bif decide (d.2.2.2.2.2.2.2.2.1.1 = (7 : Int)) then (
  (T.2.2.1 (d.1, (d.2.1, ((), ((), (d.2.2.2.2.2.2.2.2.1, ((d.2.2.2.2.2.2.2.1.2.2.2.2.2.2.2.1, ()), d.2.2.2.2))))))))
  else (
  bif decide (d.2.2.2.2.2.2.2.2.1.1 = (8 : Int)) then (
  (T.2.2.1 (d.1, (d.2.1, ((), ((), (d.2.2.2.2.2.2.2.2.1, ((d.2.2.2.2.2.2.2.1.2.2.2.2.2.2.2.2.1, ()), d.2.2.2.2))))))))
  else (
  bif decide (d.2.2.2.2.2.2.2.2.1.1 = (9 : Int)) then (
  (T.2.2.1 (d.1, (d.2.1, ((), ((), (d.2.2.2.2.2.2.2.2.1, ((d.2.2.2.2.2.2.2.1.2.2.2.2.2.2.2.2.2.1, ()), d.2.2.2.2))))))))
  else (
  bif decide (d.2.2.2.2.2.2.2.2.1.1 = (10 : Int)) then (
  (T.2.2.1 (d.1, (d.2.1, ((), ((), (d.2.2.2.2.2.2.2.2.1, ((d.2.2.2.2.2.2.2.1.2.2.2.2.2.2.2.2.2.2.1, ()), d.2.2.2.2))))))))
  else (
  bif decide (d.2.2.2.2.2.2.2.2.1.1 = (11 : Int)) then (
  (T.2.2.1 (d.1, (d.2.1, ((), ((), (d.2.2.2.2.2.2.2.2.1, (d.2.2.2.2.2.2.2.1.2.2.2.2.2.2.2.2.2.2.2, d.2.2.2.2))))))))
  else (
  none)))))))))))))
  else none)
  else (
  let x25 : Int := (iadd .i64 d.2.2.2.2.2.2.1.1 (1 : Int))
  (T.1 ((d.1.1, ()), (d.2.1, ((), (d.2.2.2.2.1, (d.2.2.2.2.2.1, ((x25, ()), ()))))))))
def f_law32_TallyBack_p25 (T : TT_law32_TallyBack) (d : ((Int × (Int × (Int × (Int × (Int × (Int × (Int × (Int × (Int × (Int × (Int × (Int × Unit)))))))))))) × ((Int × (Int × (Int × (Int × (Int × (Int × (Int × (Int × (Int × (Int × (Int × (Int × Unit)))))))))))) × Unit)) × ((ByteArray × Unit) × (Unit × (Unit × ((Int × Unit) × ((Int × Unit) × (((List (Int × Int)) × Unit) × ((Int × Unit) × ((Int × Unit) × ((Int × (Int × (Int × (Int × (Int × (Int × (Int × (Int × (Int × (Int × (Int × (Int × Unit)))))))))))) × ((Int × Unit) × Unit))))))))))) : Option (Unit × ((Bool × Unit) × Unit)) :=
  bif decide ((0 : Int) ≤ d.2.2.2.2.1.1) && decide (d.2.2.2.2.1.1 < (12 : Int)) then (
  bif decide (d.2.2.2.2.1.1 = (0 : Int)) then (
  let x37 : Bool := (decide (d.2.2.2.2.2.1.1 < d.1.2.1.1))
  (T.2.2.2.1 (d.1, (d.2.1, ((), ((), (d.2.2.2.2.2.2.1, (d.2.2.2.2.2.2.2.1, (d.2.2.2.2.2.2.2.2.1, (d.2.2.2.2.2.2.2.2.2.1, (d.2.2.2.2.2.2.2.2.2.2.1, ((x37, ()), ()))))))))))))
  else (
  bif decide (d.2.2.2.2.1.1 = (1 : Int)) then (
  let x36 : Bool := (decide (d.2.2.2.2.2.1.1 < d.1.2.1.2.1))
  (T.2.2.2.1 (d.1, (d.2.1, ((), ((), (d.2.2.2.2.2.2.1, (d.2.2.2.2.2.2.2.1, (d.2.2.2.2.2.2.2.2.1, (d.2.2.2.2.2.2.2.2.2.1, (d.2.2.2.2.2.2.2.2.2.2.1, ((x36, ()), ()))))))))))))
  else (
  bif decide (d.2.2.2.2.1.1 = (2 : Int)) then (
  let x35 : Bool := (decide (d.2.2.2.2.2.1.1 < d.1.2.1.2.2.1))
  (T.2.2.2.1 (d.1, (d.2.1, ((), ((), (d.2.2.2.2.2.2.1, (d.2.2.2.2.2.2.2.1, (d.2.2.2.2.2.2.2.2.1, (d.2.2.2.2.2.2.2.2.2.1, (d.2.2.2.2.2.2.2.2.2.2.1, ((x35, ()), ()))))))))))))
  else (
  bif decide (d.2.2.2.2.1.1 = (3 : Int)) then (
  let x34 : Bool := (decide (d.2.2.2.2.2.1.1 < d.1.2.1.2.2.2.1))
  (T.2.2.2.1 (d.1, (d.2.1, ((), ((), (d.2.2.2.2.2.2.1, (d.2.2.2.2.2.2.2.1, (d.2.2.2.2.2.2.2.2.1, (d.2.2.2.2.2.2.2.2.2.1, (d.2.2.2.2.2.2.2.2.2.2.1, ((x34, ()), ()))))))))))))
  else (
  bif decide (d.2.2.2.2.1.1 = (4 : Int)) then (
  let x33 : Bool := (decide (d.2.2.2.2.2.1.1 < d.1.2.1.2.2.2.2.1))
  (T.2.2.2.1 (d.1, (d.2.1, ((), ((), (d.2.2.2.2.2.2.1, (d.2.2.2.2.2.2.2.1, (d.2.2.2.2.2.2.2.2.1, (d.2.2.2.2.2.2.2.2.2.1, (d.2.2.2.2.2.2.2.2.2.2.1, ((x33, ()), ()))))))))))))
  else (
  bif decide (d.2.2.2.2.1.1 = (5 : Int)) then (
  let x32 : Bool := (decide (d.2.2.2.2.2.1.1 < d.1.2.1.2.2.2.2.2.1))
  (T.2.2.2.1 (d.1, (d.2.1, ((), ((), (d.2.2.2.2.2.2.1, (d.2.2.2.2.2.2.2.1, (d.2.2.2.2.2.2.2.2.1, (d.2.2.2.2.2.2.2.2.2.1, (d.2.2.2.2.2.2.2.2.2.2.1, ((x32, ()), ()))))))))))))
  else (
  bif decide (d.2.2.2.2.1.1 = (6 : Int)) then (
  let x31 : Bool := (decide (d.2.2.2.2.2.1.1 < d.1.2.1.2.2.2.2.2.2.1))
  (T.2.2.2.1 (d.1, (d.2.1, ((), ((), (d.2.2.2.2.2.2.1, (d.2.2.2.2.2.2.2.1, (d.2.2.2.2.2.2.2.2.1, (d.2.2.2.2.2.2.2.2.2.1, (d.2.2.2.2.2.2.2.2.2.2.1, ((x31, ()), ()))))))))))))
  else (
  bif decide (d.2.2.2.2.1.1 = (7 : Int)) then (
  let x30 : Bool := (decide (d.2.2.2.2.2.1.1 < d.1.2.1.2.2.2.2.2.2.2.1))
  (T.2.2.2.1 (d.1, (d.2.1, ((), ((), (d.2.2.2.2.2.2.1, (d.2.2.2.2.2.2.2.1, (d.2.2.2.2.2.2.2.2.1, (d.2.2.2.2.2.2.2.2.2.1, (d.2.2.2.2.2.2.2.2.2.2.1, ((x30, ()), ()))))))))))))
  else (
  bif decide (d.2.2.2.2.1.1 = (8 : Int)) then (
  let x29 : Bool := (decide (d.2.2.2.2.2.1.1 < d.1.2.1.2.2.2.2.2.2.2.2.1))
  (T.2.2.2.1 (d.1, (d.2.1, ((), ((), (d.2.2.2.2.2.2.1, (d.2.2.2.2.2.2.2.1, (d.2.2.2.2.2.2.2.2.1, (d.2.2.2.2.2.2.2.2.2.1, (d.2.2.2.2.2.2.2.2.2.2.1, ((x29, ()), ()))))))))))))
  else (
  bif decide (d.2.2.2.2.1.1 = (9 : Int)) then (
  let x28 : Bool := (decide (d.2.2.2.2.2.1.1 < d.1.2.1.2.2.2.2.2.2.2.2.2.1))
  (T.2.2.2.1 (d.1, (d.2.1, ((), ((), (d.2.2.2.2.2.2.1, (d.2.2.2.2.2.2.2.1, (d.2.2.2.2.2.2.2.2.1, (d.2.2.2.2.2.2.2.2.2.1, (d.2.2.2.2.2.2.2.2.2.2.1, ((x28, ()), ()))))))))))))
  else (
  bif decide (d.2.2.2.2.1.1 = (10 : Int)) then (
  let x27 : Bool := (decide (d.2.2.2.2.2.1.1 < d.1.2.1.2.2.2.2.2.2.2.2.2.2.1))
  (T.2.2.2.1 (d.1, (d.2.1, ((), ((), (d.2.2.2.2.2.2.1, (d.2.2.2.2.2.2.2.1, (d.2.2.2.2.2.2.2.2.1, (d.2.2.2.2.2.2.2.2.2.1, (d.2.2.2.2.2.2.2.2.2.2.1, ((x27, ()), ()))))))))))))
  else (
  bif decide (d.2.2.2.2.1.1 = (11 : Int)) then (
  let x26 : Bool := (decide (d.2.2.2.2.2.1.1 < d.1.2.1.2.2.2.2.2.2.2.2.2.2.2.1))
  (T.2.2.2.1 (d.1, (d.2.1, ((), ((), (d.2.2.2.2.2.2.1, (d.2.2.2.2.2.2.2.1, (d.2.2.2.2.2.2.2.2.1, (d.2.2.2.2.2.2.2.2.2.1, (d.2.2.2.2.2.2.2.2.2.2.1, ((x26, ()), ()))))))))))))
  else (
  none)))))))))))))
  else none
def f_law32_TallyBack_p26 (T : TT_law32_TallyBack) (d : ((Int × (Int × (Int × (Int × (Int × (Int × (Int × (Int × (Int × (Int × (Int × (Int × Unit)))))))))))) × ((Int × (Int × (Int × (Int × (Int × (Int × (Int × (Int × (Int × (Int × (Int × (Int × Unit)))))))))))) × Unit)) × ((ByteArray × Unit) × (Unit × (Unit × (((List (Int × Int)) × Unit) × ((Int × Unit) × ((Int × Unit) × ((Int × (Int × (Int × (Int × (Int × (Int × (Int × (Int × (Int × (Int × (Int × (Int × Unit)))))))))))) × ((Int × Unit) × ((Bool × Unit) × Unit)))))))))) : Option (Unit × ((Bool × Unit) × Unit)) :=
  bif d.2.2.2.2.2.2.2.2.2.1.1 then (
  some ((), ((false, ()), ())))
  else (
  let x38 : Int := (iadd .i64 d.2.2.2.2.2.2.2.2.1.1 (1 : Int))
  (T.2.1 (d.1, (d.2.1, ((), ((), (d.2.2.2.2.1, (d.2.2.2.2.2.1, (d.2.2.2.2.2.2.1, (d.2.2.2.2.2.2.2.1, ((x38, ()), ())))))))))))
def f_law32_TallyBack_t : Nat → TT_law32_TallyBack
  | 0 => (fun _ => none, (fun _ => none, (fun _ => none, (fun _ => none, ()))))
  | k + 1 => (f_law32_TallyBack_p13 (f_law32_TallyBack_t k), (f_law32_TallyBack_p21 (f_law32_TallyBack_t k), (f_law32_TallyBack_p25 (f_law32_TallyBack_t k), (f_law32_TallyBack_p26 (f_law32_TallyBack_t k), ()))))
theorem t_law32_TallyBack (k : Nat) : f_law32_TallyBack_t (k + 1) = (f_law32_TallyBack_p13 (f_law32_TallyBack_t k), (f_law32_TallyBack_p21 (f_law32_TallyBack_t k), (f_law32_TallyBack_p25 (f_law32_TallyBack_t k), (f_law32_TallyBack_p26 (f_law32_TallyBack_t k), ())))) := rfl
def f_law32_TallyBack_m (T : TT_law32_TallyBack) (d : Unit × (((List (Int × Int)) × Unit) × ((ByteArray × Unit) × Unit))) : Option (Unit × ((Bool × Unit) × Unit)) :=
  (g_law32_alive ((), ())).bind fun x1 =>
  let x2 : Bool := (!x1.2.1.1)
  bif x2 then (
  some ((), ((false, ()), ())))
  else (
  let x3 : Int := (d.2.1.1.length : Int)
  let x4 : Bool := (decide (x3 > (60 : Int)))
  bif x4 then (
  some ((), ((true, ()), ())))
  else (
  let x5 : Int := (d.2.2.1.1.size : Int)
  let x6 : Bool := (decide (x5 > (1000 : Int)))
  bif x6 then (
  some ((), ((true, ()), ())))
  else (
  (g_tally_New ((), ())).bind fun x7 =>
  let x8 : Int := (d.2.1.1.length : Int)
  (T.1 (x7.1, (d.2.2.1, ((), (d.2.1, ((x8, ()), (((0 : Int), ()), ()))))))))))
def c_law32_TallyBack : List Nat := [25, 26]
def L_law32_TallyBack (k : Nat) : Pts po_law32_TallyBack.den := [(13, ⟨sh_law32_TallyBack_13, (f_law32_TallyBack_t k).1⟩), (21, ⟨sh_law32_TallyBack_21, (f_law32_TallyBack_t k).2.1⟩), (25, ⟨sh_law32_TallyBack_25, (f_law32_TallyBack_t k).2.2.1⟩), (26, ⟨sh_law32_TallyBack_26, (f_law32_TallyBack_t k).2.2.2.1⟩)]
def R_law32_TallyBack (_ : Nat) : PtsR po_law32_TallyBack.den := []
def E_law32_TallyBack : Env := (((((((E0.add 5 (typedSem pi_law32_alive po_law32_alive g_law32_alive)).add 6 (typedSem pi_tally_New po_tally_New g_tally_New)).add 10 (ioSem pi_tally_Tally_Add_io po_tally_Tally_Add_io 1 [(0, 0, none)] g_tally_Tally_Add_io)).add 11 (typedSem pi_tally_Tally_All po_tally_Tally_All g_tally_Tally_All)).add 12 (typedSem pi_tally_Same po_tally_Same g_tally_Same)).add 16 (typedSem pi_tally_Tally_Text po_tally_Tally_Text g_tally_Tally_Text)).add 18 (typedSem pi_tally_Parse po_tally_Parse g_tally_Parse))
theorem q_law32_TallyBack_13 (k : Nat) (d : sh_law32_TallyBack_13.den) : evAt E_law32_TallyBack (tb (L_law32_TallyBack k) (R_law32_TallyBack k)) c_law32_TallyBack 13 (bodyOf Tryd.f4) 0 (finK E_law32_TallyBack po_law32_TallyBack [.tmp 4]) (ptSt sh_law32_TallyBack_13 d) = f_law32_TallyBack_p13 (f_law32_TallyBack_t k) d := by kernel_rfl
theorem q_law32_TallyBack_21 (k : Nat) (d : sh_law32_TallyBack_21.den) : evAt E_law32_TallyBack (tb (L_law32_TallyBack k) (R_law32_TallyBack k)) c_law32_TallyBack 21 (bodyOf Tryd.f4) 0 (finK E_law32_TallyBack po_law32_TallyBack [.tmp 4]) (ptSt sh_law32_TallyBack_21 d) = f_law32_TallyBack_p21 (f_law32_TallyBack_t k) d := by kernel_rfl
theorem q_law32_TallyBack_25 (k : Nat) (d : sh_law32_TallyBack_25.den) : evAt E_law32_TallyBack (tb (L_law32_TallyBack k) (R_law32_TallyBack k)) c_law32_TallyBack 25 (bodyOf Tryd.f4) 0 (finK E_law32_TallyBack po_law32_TallyBack [.tmp 4]) (ptSt sh_law32_TallyBack_25 d) = f_law32_TallyBack_p25 (f_law32_TallyBack_t k) d := by kernel_rfl
theorem q_law32_TallyBack_26 (k : Nat) (d : sh_law32_TallyBack_26.den) : evAt E_law32_TallyBack (tb (L_law32_TallyBack k) (R_law32_TallyBack k)) c_law32_TallyBack 26 (bodyOf Tryd.f4) 0 (finK E_law32_TallyBack po_law32_TallyBack [.tmp 4]) (ptSt sh_law32_TallyBack_26 d) = f_law32_TallyBack_p26 (f_law32_TallyBack_t k) d := by kernel_rfl
theorem q_law32_TallyBack_m (k : Nat) (d : pi_law32_TallyBack.den) : evCode E_law32_TallyBack (tb (L_law32_TallyBack k) (R_law32_TallyBack k)) c_law32_TallyBack (bodyOf Tryd.f4) 0 (finK E_law32_TallyBack po_law32_TallyBack [.tmp 4]) (startSt pi_law32_TallyBack 89 d) = f_law32_TallyBack_m (f_law32_TallyBack_t k) d := by kernel_rfl
def g_law32_TallyBack (d : Unit × (((List (Int × Int)) × Unit) × ((ByteArray × Unit) × Unit))) : Option (Unit × ((Bool × Unit) × Unit)) := lim fun k => f_law32_TallyBack_m (f_law32_TallyBack_t k) d
theorem ok_law32_TallyBack : FnOk Tryd.prog ET0 4 pi_law32_TallyBack po_law32_TallyBack g_law32_TallyBack :=
  fn_of_body (E := E_law32_TallyBack) (envOk_add (envOk_add (envOk_add (envOk_add (envOk_add (envOk_add (envOk_add e0_ok (typed_ok ok_law32_alive)) (typed_ok ok_tally_New)) (io_ok ok_tally_Tally_Add_io)) (typed_ok ok_tally_Tally_All)) (typed_ok ok_tally_Same)) (typed_ok ok_tally_Tally_Text)) (typed_ok ok_tally_Parse)) (fn := Tryd.f4) Tryd.func4 (by kernel_rfl) (by kernel_rfl) [.tmp 4] (by kernel_rfl) (by kernel_rfl) (by decide) rfl c_law32_TallyBack L_law32_TallyBack R_law32_TallyBack
    (by intro x hx d; simp only [L_law32_TallyBack, List.mem_cons, List.not_mem_nil, or_false] at hx; rcases hx with rfl | rfl | rfl | rfl; rfl; rfl; rfl; rfl)
    (by intro k x hx d out h; simp only [L_law32_TallyBack, List.mem_cons, List.not_mem_nil, or_false] at hx; rcases hx with rfl | rfl | rfl | rfl; exact (q_law32_TallyBack_13 k d).trans h; exact (q_law32_TallyBack_21 k d).trans h; exact (q_law32_TallyBack_25 k d).trans h; exact (q_law32_TallyBack_26 k d).trans h)
    (by intro x hx; cases hx)
    (by intro k x hx; cases hx)
    (by intro d out h; obtain ⟨k, hk⟩ := lim_some h; exact ⟨k, (q_law32_TallyBack_m k d).trans hk⟩)
end
end Go.Proofs.YtfhaifiipjfffaaDoor.Ev
