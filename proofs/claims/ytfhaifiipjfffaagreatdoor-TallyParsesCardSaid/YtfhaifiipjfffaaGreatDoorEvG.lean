/- Printed by wip/tools/evgen.py. -/
import Derived.Test.YtfhaifiipjfffaaGreatDoorEv32
import Derived.Test.YtfhaifiipjfffaaGreatDoorShelf
import Derived.Test.YtfhaifiipjfffaaGreatDoorEv40
import Derived.Test.YtfhaifiipjfffaaGreatDoorEv41
import Derived.Test.YtfhaifiipjfffaaGreatDoorEvE
import Derived.Test.YtfhaifiipjfffaaGreatDoorProg
import Derived.KernelRfl
set_option maxRecDepth 100000
set_option maxHeartbeats 2000000
set_option linter.unusedVariables false
namespace Go.Proofs.YtfhaifiipjfffaaGreatDoor.Ev
open Go
noncomputable section
@[reducible] def vI : LSh := .v (.int .i64)
@[reducible] def vB : LSh := .v .bool
@[reducible] def vS : LSh := .v .str
@[reducible] def vE : LSh := .v .err
@[reducible] def v8 : LSh := .v (.int .u8)
def rows0 : List (TypeId × Row) := [
  (2, ⟨.int .i64, 1, 8, (.int .i64), [AV.val (.int .i64) (0 : Int)], none⟩),
  (3, ⟨.int .i64, 1, 8, (.int .i64), [AV.val (.int .i64) (0 : Int)], none⟩),
  (4, ⟨.bool, 1, 1, .bool, [AV.val .bool false], none⟩),
  (5, ⟨.int .u8, 1, 1, (.int .u8), [AV.val (.int .u8) (0 : Int)], none⟩),
  (9, ⟨.str, 1, 16, .str, [AV.val .str ByteArray.empty], none⟩),
  (23, ⟨.ptr, 1, 8, (.nptr (.pair (.int .i64) (.pair (.int .i64) (.pair (.int .i64) (.pair (.int .i64) (.pair (.int .i64) (.pair (.int .i64) (.pair (.int .i64) (.pair (.int .i64) (.pair (.int .i64) (.pair (.int .i64) (.pair (.int .i64) (.int .i64))))))))))))), [AV.nilP], none⟩),
  (25, ⟨.iface, 1, 16, .err, [AV.val .err (none : Option Int)], none⟩),
  (29, ⟨.int .i64, 1, 8, (.int .i64), [AV.val (.int .i64) (0 : Int)], none⟩),
  (34, ⟨.arr 12 2, 12, 96, (.pair (.int .i64) (.pair (.int .i64) (.pair (.int .i64) (.pair (.int .i64) (.pair (.int .i64) (.pair (.int .i64) (.pair (.int .i64) (.pair (.int .i64) (.pair (.int .i64) (.pair (.int .i64) (.pair (.int .i64) (.int .i64)))))))))))), [AV.val (.int .i64) (0 : Int), AV.val (.int .i64) (0 : Int), AV.val (.int .i64) (0 : Int), AV.val (.int .i64) (0 : Int), AV.val (.int .i64) (0 : Int), AV.val (.int .i64) (0 : Int), AV.val (.int .i64) (0 : Int), AV.val (.int .i64) (0 : Int), AV.val (.int .i64) (0 : Int), AV.val (.int .i64) (0 : Int), AV.val (.int .i64) (0 : Int), AV.val (.int .i64) (0 : Int)], some [.int .i64, .int .i64, .int .i64, .int .i64, .int .i64, .int .i64, .int .i64, .int .i64, .int .i64, .int .i64, .int .i64, .int .i64]⟩),
  (37, ⟨.slice 9, 1, 24, (.sl .str), [AV.nilS], none⟩),
  (70, ⟨.slice 3, 1, 24, (.sl (.int .i64)), [AV.nilS], none⟩),
  (71, ⟨.slice 2, 1, 24, (.sl (.int .i64)), [AV.nilS], none⟩),
  (76, ⟨.struct [(0, 12, true)], 12, 96, (.pair (.int .i64) (.pair (.int .i64) (.pair (.int .i64) (.pair (.int .i64) (.pair (.int .i64) (.pair (.int .i64) (.pair (.int .i64) (.pair (.int .i64) (.pair (.int .i64) (.pair (.int .i64) (.pair (.int .i64) (.int .i64)))))))))))), [AV.val (.int .i64) (0 : Int), AV.val (.int .i64) (0 : Int), AV.val (.int .i64) (0 : Int), AV.val (.int .i64) (0 : Int), AV.val (.int .i64) (0 : Int), AV.val (.int .i64) (0 : Int), AV.val (.int .i64) (0 : Int), AV.val (.int .i64) (0 : Int), AV.val (.int .i64) (0 : Int), AV.val (.int .i64) (0 : Int), AV.val (.int .i64) (0 : Int), AV.val (.int .i64) (0 : Int)], some [.int .i64, .int .i64, .int .i64, .int .i64, .int .i64, .int .i64, .int .i64, .int .i64, .int .i64, .int .i64, .int .i64, .int .i64]⟩),
  (81, ⟨.arr 12 9, 12, 192, (.pair .str (.pair .str (.pair .str (.pair .str (.pair .str (.pair .str (.pair .str (.pair .str (.pair .str (.pair .str (.pair .str .str))))))))))), [AV.val .str ByteArray.empty, AV.val .str ByteArray.empty, AV.val .str ByteArray.empty, AV.val .str ByteArray.empty, AV.val .str ByteArray.empty, AV.val .str ByteArray.empty, AV.val .str ByteArray.empty, AV.val .str ByteArray.empty, AV.val .str ByteArray.empty, AV.val .str ByteArray.empty, AV.val .str ByteArray.empty, AV.val .str ByteArray.empty], some [.str, .str, .str, .str, .str, .str, .str, .str, .str, .str, .str, .str]⟩),
  (87, ⟨.slice 122, 1, 24, (.sl (.int .u64)), [AV.nilS], none⟩),
  (89, ⟨.struct [(0, 1, false), (1, 1, false)], 2, 32, (.pair .bool (.sl (.int .u64))), [AV.val .bool false, AV.nilS], none⟩),
  (122, ⟨.int .u64, 1, 8, (.int .u64), [AV.val (.int .u64) (0 : Int)], none⟩)]
def ET0 : TypeId := 29
def E0 : Env := ⟨rows0, [], ET0, 0, [], [], []⟩
theorem e0_ok : EnvOk Tryz.prog E0 := envOk_rows (by kernel_rfl) (by kernel_rfl) 0
/- strings.Fields -/
@[reducible] def pi_strings_Fields : PSh := pi_lib_fields
@[reducible] def po_strings_Fields : PSh := po_lib_fields
def g_strings_Fields := lib_fields
theorem ok_strings_Fields : FnOk Tryz.prog ET0 39 pi_strings_Fields po_strings_Fields g_strings_Fields := lib_fields_ok ⟨Tryz.f39, Tryz.func39, by kernel_rfl, by kernel_rfl⟩ Tryz.strings_Fields tab_space
/- strconv.FormatInt -/
@[reducible] def pi_strconv_FormatInt : PSh := pi_lib_formatInt
@[reducible] def po_strconv_FormatInt : PSh := po_lib_formatInt
def g_strconv_FormatInt := lib_formatInt
theorem ok_strconv_FormatInt : FnOk Tryz.prog ET0 37 pi_strconv_FormatInt po_strconv_FormatInt g_strconv_FormatInt := lib_formatInt_ok ⟨Tryz.f37, Tryz.func37, by kernel_rfl, by kernel_rfl⟩ Tryz.strconv_FormatInt_10 tab_pow10
/- strings.Join -/
@[reducible] def pi_strings_Join : PSh := pi_lib_join
@[reducible] def po_strings_Join : PSh := po_lib_join
def g_strings_Join := lib_join
theorem ok_strings_Join : FnOk Tryz.prog ET0 38 pi_strings_Join po_strings_Join g_strings_Join := lib_join_ok ⟨Tryz.f38, Tryz.func38, by kernel_rfl, by kernel_rfl⟩ Tryz.strings_Join_none Tryz.strings_Join
/- strings.Split -/
@[reducible] def pi_strings_Split : PSh := pi_lib_split
@[reducible] def po_strings_Split : PSh := po_lib_split
def g_strings_Split := lib_split
theorem ok_strings_Split : FnOk Tryz.prog ET0 40 pi_strings_Split po_strings_Split g_strings_Split := lib_split_ok ⟨Tryz.f40, Tryz.func40, by kernel_rfl, by kernel_rfl⟩ Tryz.strings_Split tab_maxLen
/- strings.Trim -/
@[reducible] def pi_strings_Trim : PSh := pi_lib_trim
@[reducible] def po_strings_Trim : PSh := po_lib_trim
def g_strings_Trim := lib_trim
theorem ok_strings_Trim : FnOk Tryz.prog ET0 67 pi_strings_Trim po_strings_Trim g_strings_Trim := lib_trim_ok ⟨Tryz.f67, Tryz.func67, by kernel_rfl, by kernel_rfl⟩ Tryz.strings_Trim_laid

@[reducible] def pi_tally_known : PSh := ⟨[], [.mk false [vI]]⟩
@[reducible] def po_tally_known : PSh := ⟨[], [.mk false [vB]]⟩
def f_tally_known_m (T : Unit) (d : Unit × ((Int × Unit) × Unit)) : Option (Unit × ((Bool × Unit) × Unit)) :=
  let x1 : Bool := (decide (d.2.1.1 ≥ (1 : Int)))
  bif x1 then (
  let x2 : Bool := (decide (d.2.1.1 ≤ (12 : Int)))
  some ((), ((x2, ()), ())))
  else (
  some ((), ((false, ()), ())))
def g_tally_known (d : Unit × ((Int × Unit) × Unit)) : Option (Unit × ((Bool × Unit) × Unit)) := f_tally_known_m () d
theorem ok_tally_known : FnOk Tryz.prog ET0 34 pi_tally_known po_tally_known g_tally_known :=
  fn0 (E := E0) e0_ok (fn := Tryz.f34) Tryz.func34 (by kernel_rfl) (by kernel_rfl) [.tmp 2] (by kernel_rfl) rfl rfl rfl [] fun d => by kernel_rfl

@[reducible] def pi_num_Add : PSh := ⟨[], [.mk false [vI], .mk false [vI]]⟩
@[reducible] def po_num_Add : PSh := ⟨[], [.mk false [vI], .mk false [vE]]⟩
def f_num_Add_m (T : Unit) (d : Unit × ((Int × Unit) × ((Int × Unit) × Unit))) : Option (Unit × ((Int × Unit) × (((Option Int) × Unit) × Unit))) :=
  let x1 : Int := (iadd .i64 d.2.1.1 d.2.2.1.1)
  let x2 : Bool := (decide (d.2.2.1.1 > (0 : Int)))
  bif x2 then (
  let x3 : Bool := (decide (x1 < d.2.1.1))
  bif x3 then (
  let x4 : (Option Int) := (some (5 : Int))
  some ((), (((0 : Int), ()), ((x4, ()), ()))))
  else (
  let x5 : Bool := (decide (d.2.2.1.1 < (0 : Int)))
  bif x5 then (
  let x6 : Bool := (decide (x1 > d.2.1.1))
  bif x6 then (
  let x7 : (Option Int) := (some (5 : Int))
  some ((), (((0 : Int), ()), ((x7, ()), ()))))
  else (
  some ((), ((x1, ()), (((none : Option Int), ()), ())))))
  else (
  some ((), ((x1, ()), (((none : Option Int), ()), ()))))))
  else (
  let x8 : Bool := (decide (d.2.2.1.1 < (0 : Int)))
  bif x8 then (
  let x9 : Bool := (decide (x1 > d.2.1.1))
  bif x9 then (
  let x10 : (Option Int) := (some (5 : Int))
  some ((), (((0 : Int), ()), ((x10, ()), ()))))
  else (
  some ((), ((x1, ()), (((none : Option Int), ()), ())))))
  else (
  some ((), ((x1, ()), (((none : Option Int), ()), ())))))
def g_num_Add (d : Unit × ((Int × Unit) × ((Int × Unit) × Unit))) : Option (Unit × ((Int × Unit) × (((Option Int) × Unit) × Unit))) := f_num_Add_m () d
theorem ok_num_Add : FnOk Tryz.prog ET0 36 pi_num_Add po_num_Add g_num_Add :=
  fn0 (E := E0) e0_ok (fn := Tryz.f36) Tryz.func36 (by kernel_rfl) (by kernel_rfl) [.tmp 4, .tmp 5] (by kernel_rfl) rfl rfl rfl [] fun d => by kernel_rfl

@[reducible] def pi_tally_Tally_Add : PSh := ⟨[], [.mk false [.v (.nptr (.pair (.int .i64) (.pair (.int .i64) (.pair (.int .i64) (.pair (.int .i64) (.pair (.int .i64) (.pair (.int .i64) (.pair (.int .i64) (.pair (.int .i64) (.pair (.int .i64) (.pair (.int .i64) (.pair (.int .i64) (.int .i64)))))))))))))], .mk false [vI], .mk false [vI]]⟩
@[reducible] def po_tally_Tally_Add : PSh := ⟨[], [.mk false [vE]]⟩
@[reducible] def TT_tally_Tally_Add : Type := (((Unit × (((Option (Int × (Int × (Int × (Int × (Int × (Int × (Int × (Int × (Int × (Int × (Int × Int)))))))))))) × Unit) × ((Int × Unit) × ((Int × Unit) × (((Option Int) × Unit) × Unit))))) → Option (Unit × (((Option Int) × Unit) × Unit))) × Unit)
@[reducible] def sh_tally_Tally_Add_8 : PSh := ⟨[], [.mk false [.v (.nptr (.pair (.int .i64) (.pair (.int .i64) (.pair (.int .i64) (.pair (.int .i64) (.pair (.int .i64) (.pair (.int .i64) (.pair (.int .i64) (.pair (.int .i64) (.pair (.int .i64) (.pair (.int .i64) (.pair (.int .i64) (.int .i64)))))))))))))], .mk false [vI], .any, .any, .any, .any, .any, .mk false [vI], .mk false [vE], .any, .any, .any, .any, .any, .any, .any, .any, .any, .any, .any, .any, .any, .any, .any, .any, .any, .any, .any, .any, .any, .any, .any, .any, .any, .any, .any, .any, .any, .any, .any, .any, .any, .any, .any]⟩
def f_tally_Tally_Add_p8 (T : TT_tally_Tally_Add) (d : Unit × (((Option (Int × (Int × (Int × (Int × (Int × (Int × (Int × (Int × (Int × (Int × (Int × Int)))))))))))) × Unit) × ((Int × Unit) × ((Int × Unit) × (((Option Int) × Unit) × Unit))))) : Option (Unit × (((Option Int) × Unit) × Unit)) :=
  let x21 : Bool := (!d.2.2.2.2.1.1.isNone)
  bif x21 then (
  some ((), d.2.2.2.2))
  else (
  let x22 : Int := (isub .i64 d.2.2.1.1 (1 : Int))
  d.2.1.1.bind fun x23 =>
  bif decide ((0 : Int) ≤ x22) && decide (x22 < (12 : Int)) then (
  bif decide (x22 = (0 : Int)) then (
  none)
  else (
  bif decide (x22 = (1 : Int)) then (
  none)
  else (
  bif decide (x22 = (2 : Int)) then (
  none)
  else (
  bif decide (x22 = (3 : Int)) then (
  none)
  else (
  bif decide (x22 = (4 : Int)) then (
  none)
  else (
  bif decide (x22 = (5 : Int)) then (
  none)
  else (
  bif decide (x22 = (6 : Int)) then (
  none)
  else (
  bif decide (x22 = (7 : Int)) then (
  none)
  else (
  bif decide (x22 = (8 : Int)) then (
  none)
  else (
  bif decide (x22 = (9 : Int)) then (
  none)
  else (
  bif decide (x22 = (10 : Int)) then (
  none)
  else (
  bif decide (x22 = (11 : Int)) then (
  none)
  else (
  none)))))))))))))
  else none)
def f_tally_Tally_Add_t : Nat → TT_tally_Tally_Add
  | 0 => (fun _ => none, ())
  | k + 1 => (f_tally_Tally_Add_p8 (f_tally_Tally_Add_t k), ())
theorem t_tally_Tally_Add (k : Nat) : f_tally_Tally_Add_t (k + 1) = (f_tally_Tally_Add_p8 (f_tally_Tally_Add_t k), ()) := rfl
def f_tally_Tally_Add_m (T : TT_tally_Tally_Add) (d : Unit × (((Option (Int × (Int × (Int × (Int × (Int × (Int × (Int × (Int × (Int × (Int × (Int × Int)))))))))))) × Unit) × ((Int × Unit) × ((Int × Unit) × Unit)))) : Option (Unit × (((Option Int) × Unit) × Unit)) :=
  bif d.2.1.1.isNone then (
  let x1 : (Option Int) := (some (8 : Int))
  some ((), ((x1, ()), ())))
  else (
  (g_tally_known ((), (d.2.2.1, ()))).bind fun x2 =>
  let x3 : Bool := (!x2.2.1.1)
  bif x3 then (
  let x4 : (Option Int) := (some (11 : Int))
  some ((), ((x4, ()), ())))
  else (
  let x5 : Bool := (decide (d.2.2.2.1.1 < (0 : Int)))
  bif x5 then (
  let x6 : (Option Int) := (some (1 : Int))
  some ((), ((x6, ()), ())))
  else (
  let x7 : Int := (isub .i64 d.2.2.1.1 (1 : Int))
  d.2.1.1.bind fun x8 =>
  bif decide ((0 : Int) ≤ x7) && decide (x7 < (12 : Int)) then (
  bif decide (x7 = (0 : Int)) then (
  (g_num_Add ((), ((x8.1, ()), d.2.2.2))).bind fun x20 =>
  (T.1 ((), (d.2.1, (d.2.2.1, x20.2)))))
  else (
  bif decide (x7 = (1 : Int)) then (
  (g_num_Add ((), ((x8.2.1, ()), d.2.2.2))).bind fun x19 =>
  (T.1 ((), (d.2.1, (d.2.2.1, x19.2)))))
  else (
  bif decide (x7 = (2 : Int)) then (
  (g_num_Add ((), ((x8.2.2.1, ()), d.2.2.2))).bind fun x18 =>
  (T.1 ((), (d.2.1, (d.2.2.1, x18.2)))))
  else (
  bif decide (x7 = (3 : Int)) then (
  (g_num_Add ((), ((x8.2.2.2.1, ()), d.2.2.2))).bind fun x17 =>
  (T.1 ((), (d.2.1, (d.2.2.1, x17.2)))))
  else (
  bif decide (x7 = (4 : Int)) then (
  (g_num_Add ((), ((x8.2.2.2.2.1, ()), d.2.2.2))).bind fun x16 =>
  (T.1 ((), (d.2.1, (d.2.2.1, x16.2)))))
  else (
  bif decide (x7 = (5 : Int)) then (
  (g_num_Add ((), ((x8.2.2.2.2.2.1, ()), d.2.2.2))).bind fun x15 =>
  (T.1 ((), (d.2.1, (d.2.2.1, x15.2)))))
  else (
  bif decide (x7 = (6 : Int)) then (
  (g_num_Add ((), ((x8.2.2.2.2.2.2.1, ()), d.2.2.2))).bind fun x14 =>
  (T.1 ((), (d.2.1, (d.2.2.1, x14.2)))))
  else (
  bif decide (x7 = (7 : Int)) then (
  (g_num_Add ((), ((x8.2.2.2.2.2.2.2.1, ()), d.2.2.2))).bind fun x13 =>
  (T.1 ((), (d.2.1, (d.2.2.1, x13.2)))))
  else (
  bif decide (x7 = (8 : Int)) then (
  (g_num_Add ((), ((x8.2.2.2.2.2.2.2.2.1, ()), d.2.2.2))).bind fun x12 =>
  (T.1 ((), (d.2.1, (d.2.2.1, x12.2)))))
  else (
  bif decide (x7 = (9 : Int)) then (
  (g_num_Add ((), ((x8.2.2.2.2.2.2.2.2.2.1, ()), d.2.2.2))).bind fun x11 =>
  (T.1 ((), (d.2.1, (d.2.2.1, x11.2)))))
  else (
  bif decide (x7 = (10 : Int)) then (
  (g_num_Add ((), ((x8.2.2.2.2.2.2.2.2.2.2.1, ()), d.2.2.2))).bind fun x10 =>
  (T.1 ((), (d.2.1, (d.2.2.1, x10.2)))))
  else (
  bif decide (x7 = (11 : Int)) then (
  (g_num_Add ((), ((x8.2.2.2.2.2.2.2.2.2.2.2, ()), d.2.2.2))).bind fun x9 =>
  (T.1 ((), (d.2.1, (d.2.2.1, x9.2)))))
  else (
  none)))))))))))))
  else none)))
def c_tally_Tally_Add : List Nat := [8]
def L_tally_Tally_Add (k : Nat) : Pts po_tally_Tally_Add.den := [(8, ⟨sh_tally_Tally_Add_8, (f_tally_Tally_Add_t k).1⟩)]
def R_tally_Tally_Add (_ : Nat) : PtsR po_tally_Tally_Add.den := []
def E_tally_Tally_Add : Env := ((E0.add 34 (typedSem pi_tally_known po_tally_known g_tally_known)).add 36 (typedSem pi_num_Add po_num_Add g_num_Add))
theorem q_tally_Tally_Add_8 (k : Nat) (d : sh_tally_Tally_Add_8.den) : evAt E_tally_Tally_Add (tb (L_tally_Tally_Add k) (R_tally_Tally_Add k)) c_tally_Tally_Add 8 (bodyOf Tryz.f10) 0 (finK E_tally_Tally_Add po_tally_Tally_Add [.tmp 6]) (ptSt sh_tally_Tally_Add_8 d) = f_tally_Tally_Add_p8 (f_tally_Tally_Add_t k) d := by kernel_rfl
theorem q_tally_Tally_Add_m (k : Nat) (d : pi_tally_Tally_Add.den) : evCode E_tally_Tally_Add (tb (L_tally_Tally_Add k) (R_tally_Tally_Add k)) c_tally_Tally_Add (bodyOf Tryz.f10) 0 (finK E_tally_Tally_Add po_tally_Tally_Add [.tmp 6]) (startSt pi_tally_Tally_Add 44 d) = f_tally_Tally_Add_m (f_tally_Tally_Add_t k) d := by kernel_rfl
def g_tally_Tally_Add (d : Unit × (((Option (Int × (Int × (Int × (Int × (Int × (Int × (Int × (Int × (Int × (Int × (Int × Int)))))))))))) × Unit) × ((Int × Unit) × ((Int × Unit) × Unit)))) : Option (Unit × (((Option Int) × Unit) × Unit)) := lim fun k => f_tally_Tally_Add_m (f_tally_Tally_Add_t k) d
theorem ok_tally_Tally_Add : FnOk Tryz.prog ET0 10 pi_tally_Tally_Add po_tally_Tally_Add g_tally_Tally_Add :=
  fn_of_body (E := E_tally_Tally_Add) (envOk_add (envOk_add e0_ok (typed_ok ok_tally_known)) (typed_ok ok_num_Add)) (fn := Tryz.f10) Tryz.func10 (by kernel_rfl) (by kernel_rfl) [.tmp 6] (by kernel_rfl) (by kernel_rfl) (by decide) rfl c_tally_Tally_Add L_tally_Tally_Add R_tally_Tally_Add
    (by intro x hx d; simp only [L_tally_Tally_Add, List.mem_cons, List.not_mem_nil, or_false] at hx; subst hx; rfl)
    (by intro k x hx d out h; simp only [L_tally_Tally_Add, List.mem_cons, List.not_mem_nil, or_false] at hx; subst hx; exact (q_tally_Tally_Add_8 k d).trans h)
    (by intro x hx; cases hx)
    (by intro k x hx; cases hx)
    (by intro d out h; obtain ⟨k, hk⟩ := lim_some h; exact ⟨k, (q_tally_Tally_Add_m k d).trans hk⟩)

@[reducible] def pi_tally_Tally_All : PSh := ⟨[], [.mk false [.v (.nptr (.pair (.int .i64) (.pair (.int .i64) (.pair (.int .i64) (.pair (.int .i64) (.pair (.int .i64) (.pair (.int .i64) (.pair (.int .i64) (.pair (.int .i64) (.pair (.int .i64) (.pair (.int .i64) (.pair (.int .i64) (.int .i64)))))))))))))]]⟩
@[reducible] def po_tally_Tally_All : PSh := ⟨[], [.mk true [vI, vI, vI, vI, vI, vI, vI, vI, vI, vI, vI, vI]]⟩
def f_tally_Tally_All_m (T : Unit) (d : Unit × (((Option (Int × (Int × (Int × (Int × (Int × (Int × (Int × (Int × (Int × (Int × (Int × Int)))))))))))) × Unit) × Unit)) : Option (Unit × ((Int × (Int × (Int × (Int × (Int × (Int × (Int × (Int × (Int × (Int × (Int × (Int × Unit)))))))))))) × Unit)) :=
  bif d.2.1.1.isNone then (
  some ((), (((0 : Int), ((0 : Int), ((0 : Int), ((0 : Int), ((0 : Int), ((0 : Int), ((0 : Int), ((0 : Int), ((0 : Int), ((0 : Int), ((0 : Int), ((0 : Int), ())))))))))))), ())))
  else (
  d.2.1.1.bind fun x1 =>
  some ((), ((x1.1, (x1.2.1, (x1.2.2.1, (x1.2.2.2.1, (x1.2.2.2.2.1, (x1.2.2.2.2.2.1, (x1.2.2.2.2.2.2.1, (x1.2.2.2.2.2.2.2.1, (x1.2.2.2.2.2.2.2.2.1, (x1.2.2.2.2.2.2.2.2.2.1, (x1.2.2.2.2.2.2.2.2.2.2.1, (x1.2.2.2.2.2.2.2.2.2.2.2, ())))))))))))), ())))
def g_tally_Tally_All (d : Unit × (((Option (Int × (Int × (Int × (Int × (Int × (Int × (Int × (Int × (Int × (Int × (Int × Int)))))))))))) × Unit) × Unit)) : Option (Unit × ((Int × (Int × (Int × (Int × (Int × (Int × (Int × (Int × (Int × (Int × (Int × (Int × Unit)))))))))))) × Unit)) := f_tally_Tally_All_m () d
theorem ok_tally_Tally_All : FnOk Tryz.prog ET0 14 pi_tally_Tally_All po_tally_Tally_All g_tally_Tally_All :=
  fn0 (E := E0) e0_ok (fn := Tryz.f14) Tryz.func14 (by kernel_rfl) (by kernel_rfl) [.cell 2 34] (by kernel_rfl) rfl rfl rfl [] fun d => by kernel_rfl

@[reducible] def pi_tally_Tally_Count : PSh := ⟨[], [.mk false [.v (.nptr (.pair (.int .i64) (.pair (.int .i64) (.pair (.int .i64) (.pair (.int .i64) (.pair (.int .i64) (.pair (.int .i64) (.pair (.int .i64) (.pair (.int .i64) (.pair (.int .i64) (.pair (.int .i64) (.pair (.int .i64) (.int .i64)))))))))))))], .mk false [vI]]⟩
@[reducible] def po_tally_Tally_Count : PSh := ⟨[], [.mk false [vI]]⟩
def f_tally_Tally_Count_m (T : Unit) (d : Unit × (((Option (Int × (Int × (Int × (Int × (Int × (Int × (Int × (Int × (Int × (Int × (Int × Int)))))))))))) × Unit) × ((Int × Unit) × Unit))) : Option (Unit × ((Int × Unit) × Unit)) :=
  (g_tally_known ((), d.2.2)).bind fun x1 =>
  let x2 : Bool := (!x1.2.1.1)
  bif x2 then (
  some ((), (((0 : Int), ()), ())))
  else (
  (g_tally_Tally_All ((), (d.2.1, ()))).bind fun x3 =>
  let x4 : Int := (isub .i64 d.2.2.1.1 (1 : Int))
  bif decide ((0 : Int) ≤ x4) && decide (x4 < (12 : Int)) then (
  bif decide (x4 = (0 : Int)) then (
  some ((), ((x3.2.1.1, ()), ())))
  else (
  bif decide (x4 = (1 : Int)) then (
  some ((), ((x3.2.1.2.1, ()), ())))
  else (
  bif decide (x4 = (2 : Int)) then (
  some ((), ((x3.2.1.2.2.1, ()), ())))
  else (
  bif decide (x4 = (3 : Int)) then (
  some ((), ((x3.2.1.2.2.2.1, ()), ())))
  else (
  bif decide (x4 = (4 : Int)) then (
  some ((), ((x3.2.1.2.2.2.2.1, ()), ())))
  else (
  bif decide (x4 = (5 : Int)) then (
  some ((), ((x3.2.1.2.2.2.2.2.1, ()), ())))
  else (
  bif decide (x4 = (6 : Int)) then (
  some ((), ((x3.2.1.2.2.2.2.2.2.1, ()), ())))
  else (
  bif decide (x4 = (7 : Int)) then (
  some ((), ((x3.2.1.2.2.2.2.2.2.2.1, ()), ())))
  else (
  bif decide (x4 = (8 : Int)) then (
  some ((), ((x3.2.1.2.2.2.2.2.2.2.2.1, ()), ())))
  else (
  bif decide (x4 = (9 : Int)) then (
  some ((), ((x3.2.1.2.2.2.2.2.2.2.2.2.1, ()), ())))
  else (
  bif decide (x4 = (10 : Int)) then (
  some ((), ((x3.2.1.2.2.2.2.2.2.2.2.2.2.1, ()), ())))
  else (
  bif decide (x4 = (11 : Int)) then (
  some ((), (x3.2.1.2.2.2.2.2.2.2.2.2.2.2, ())))
  else (
  none)))))))))))))
  else none)
def g_tally_Tally_Count (d : Unit × (((Option (Int × (Int × (Int × (Int × (Int × (Int × (Int × (Int × (Int × (Int × (Int × Int)))))))))))) × Unit) × ((Int × Unit) × Unit))) : Option (Unit × ((Int × Unit) × Unit)) := f_tally_Tally_Count_m () d
theorem ok_tally_Tally_Count : FnOk Tryz.prog ET0 11 pi_tally_Tally_Count po_tally_Tally_Count g_tally_Tally_Count :=
  fn0 (E := ((E0.add 14 (typedSem pi_tally_Tally_All po_tally_Tally_All g_tally_Tally_All)).add 34 (typedSem pi_tally_known po_tally_known g_tally_known))) (envOk_add (envOk_add e0_ok (typed_ok ok_tally_Tally_All)) (typed_ok ok_tally_known)) (fn := Tryz.f11) Tryz.func11 (by kernel_rfl) (by kernel_rfl) [.tmp 4] (by kernel_rfl) rfl rfl rfl [] fun d => by kernel_rfl

@[reducible] def pi_tally_Name : PSh := ⟨[], [.mk false [vI]]⟩
@[reducible] def po_tally_Name : PSh := ⟨[], [.mk false [vS]]⟩
def f_tally_Name_m (T : Unit) (d : Unit × ((Int × Unit) × Unit)) : Option (Unit × ((ByteArray × Unit) × Unit)) :=
  (g_tally_known ((), d.2)).bind fun x1 =>
  let x2 : Bool := (!x1.2.1.1)
  bif x2 then (
  some ((), (((⟨#[]⟩ : ByteArray), ()), ())))
  else (
  (g_strings_Fields ((), (((⟨#[108, 111, 97, 100, 101, 100, 32, 114, 101, 102, 117, 115, 101, 100, 32, 114, 101, 97, 100, 32, 98, 97, 99, 107, 32, 119, 111, 114, 100, 32, 108, 105, 110, 101, 32, 114, 101, 112, 108, 121, 32, 107, 105, 115, 115, 32, 108, 105, 109, 105, 116, 101, 100, 32, 111, 100, 100, 32, 115, 116, 114, 97, 110, 103, 101, 32, 105, 100, 108, 101]⟩ : ByteArray), ()), ()))).bind fun x3 =>
  let x4 : Int := (isub .i64 d.2.1.1 (1 : Int))
  bif decide ((0 : Int) ≤ x4) && decide (x4 < (x3.2.1.1.length : Int)) then (
  some ((), (((gd .str x3.2.1.1 x4), ()), ())))
  else none)
def g_tally_Name (d : Unit × ((Int × Unit) × Unit)) : Option (Unit × ((ByteArray × Unit) × Unit)) := f_tally_Name_m () d
theorem ok_tally_Name : FnOk Tryz.prog ET0 18 pi_tally_Name po_tally_Name g_tally_Name :=
  fn0 (E := ((E0.add 34 (typedSem pi_tally_known po_tally_known g_tally_known)).add 39 (typedSem pi_strings_Fields po_strings_Fields g_strings_Fields))) (envOk_add (envOk_add e0_ok (typed_ok ok_tally_known)) (typed_ok ok_strings_Fields)) (fn := Tryz.f18) Tryz.func18 (by kernel_rfl) (by kernel_rfl) [.tmp 2] (by kernel_rfl) rfl rfl rfl [] fun d => by kernel_rfl

@[reducible] def pi_tally_New : PSh := ⟨[], []⟩
@[reducible] def po_tally_New : PSh := ⟨[.var 76 [vI, vI, vI, vI, vI, vI, vI, vI, vI, vI, vI, vI]], [.mk false [.ref 0 0]]⟩
def f_tally_New_m (T : Unit) (d : Unit × Unit) : Option (((Int × (Int × (Int × (Int × (Int × (Int × (Int × (Int × (Int × (Int × (Int × (Int × Unit)))))))))))) × Unit) × (Unit × Unit)) :=
  some ((((0 : Int), ((0 : Int), ((0 : Int), ((0 : Int), ((0 : Int), ((0 : Int), ((0 : Int), ((0 : Int), ((0 : Int), ((0 : Int), ((0 : Int), ((0 : Int), ())))))))))))), ()), ((), ()))
def g_tally_New (d : Unit × Unit) : Option (((Int × (Int × (Int × (Int × (Int × (Int × (Int × (Int × (Int × (Int × (Int × (Int × Unit)))))))))))) × Unit) × (Unit × Unit)) := f_tally_New_m () d
theorem ok_tally_New : FnOk Tryz.prog ET0 33 pi_tally_New po_tally_New g_tally_New :=
  fn0 (E := E0) e0_ok (fn := Tryz.f33) Tryz.func33 (by kernel_rfl) (by kernel_rfl) [.tmp 0] (by kernel_rfl) rfl rfl rfl [] fun d => by kernel_rfl

@[reducible] def pi_tally_Tally_Add_io : PSh := ⟨[.var 76 [vI, vI, vI, vI, vI, vI, vI, vI, vI, vI, vI, vI]], [.mk false [.ref 0 0], .mk false [vI], .mk false [vI]]⟩
@[reducible] def po_tally_Tally_Add_io : PSh := ⟨[.var 76 [vI, vI, vI, vI, vI, vI, vI, vI, vI, vI, vI, vI]], [.mk false [vE], .mk false [.ref 0 0]]⟩
@[reducible] def TT_tally_Tally_Add_io : Type := (((((Int × (Int × (Int × (Int × (Int × (Int × (Int × (Int × (Int × (Int × (Int × (Int × Unit)))))))))))) × Unit) × (Unit × ((Int × Unit) × ((Int × Unit) × (((Option Int) × Unit) × Unit))))) → Option (((Int × (Int × (Int × (Int × (Int × (Int × (Int × (Int × (Int × (Int × (Int × (Int × Unit)))))))))))) × Unit) × (((Option Int) × Unit) × (Unit × Unit)))) × (((((Int × (Int × (Int × (Int × (Int × (Int × (Int × (Int × (Int × (Int × (Int × (Int × Unit)))))))))))) × Unit) × (Unit × Unit)) → Option (((Int × (Int × (Int × (Int × (Int × (Int × (Int × (Int × (Int × (Int × (Int × (Int × Unit)))))))))))) × Unit) × (((Option Int) × Unit) × (Unit × Unit)))) × (((((Int × (Int × (Int × (Int × (Int × (Int × (Int × (Int × (Int × (Int × (Int × (Int × Unit)))))))))))) × Unit) × (Unit × (((Option Int) × Unit) × Unit))) → Option (((Int × (Int × (Int × (Int × (Int × (Int × (Int × (Int × (Int × (Int × (Int × (Int × Unit)))))))))))) × Unit) × (((Option Int) × Unit) × (Unit × Unit)))) × Unit)))
@[reducible] def sh_tally_Tally_Add_io_8 : PSh := ⟨[.var 76 [vI, vI, vI, vI, vI, vI, vI, vI, vI, vI, vI, vI]], [.mk false [.ref 0 0], .mk false [vI], .any, .any, .any, .any, .any, .mk false [vI], .mk false [vE], .any, .any, .any, .any, .any, .any, .any, .any, .any, .any, .any, .any, .any, .any, .any, .any, .any, .any, .any, .any, .any, .any, .any, .any, .any, .any, .any, .any, .any, .any, .any, .any, .any, .any, .any]⟩
@[reducible] def sh_tally_Tally_Add_io_12 : PSh := ⟨[.var 76 [vI, vI, vI, vI, vI, vI, vI, vI, vI, vI, vI, vI]], [.mk false [.ref 0 0], .any, .any, .any, .any, .any, .any, .any, .any, .any, .any, .any, .any, .any, .any, .any, .any, .any, .any, .any, .any, .any, .any, .any, .any, .any, .any, .any, .any, .any, .any, .any, .any, .any, .any, .any, .any, .any, .any, .any, .any, .any, .any, .any]⟩
@[reducible] def sh_tally_Tally_Add_io_13 : PSh := ⟨[.var 76 [vI, vI, vI, vI, vI, vI, vI, vI, vI, vI, vI, vI]], [.mk false [.ref 0 0], .any, .any, .any, .any, .any, .mk false [vE], .any, .any, .any, .any, .any, .any, .any, .any, .any, .any, .any, .any, .any, .any, .any, .any, .any, .any, .any, .any, .any, .any, .any, .any, .any, .any, .any, .any, .any, .any, .any, .any, .any, .any, .any, .any, .any]⟩
def f_tally_Tally_Add_io_p8 (T : TT_tally_Tally_Add_io) (d : ((Int × (Int × (Int × (Int × (Int × (Int × (Int × (Int × (Int × (Int × (Int × (Int × Unit)))))))))))) × Unit) × (Unit × ((Int × Unit) × ((Int × Unit) × (((Option Int) × Unit) × Unit))))) : Option (((Int × (Int × (Int × (Int × (Int × (Int × (Int × (Int × (Int × (Int × (Int × (Int × Unit)))))))))))) × Unit) × (((Option Int) × Unit) × (Unit × Unit))) :=
  let x19 : Bool := (!d.2.2.2.2.1.1.isNone)
  bif x19 then (
  some (d.1, (d.2.2.2.2.1, ((), ()))))
  else (
  let x20 : Int := (isub .i64 d.2.2.1.1 (1 : Int))
  bif decide ((0 : Int) ≤ x20) && decide (x20 < (12 : Int)) then (
  bif decide (x20 = (0 : Int)) then (
  (T.2.1 (((d.2.2.2.1.1, d.1.1.2), ()), ((), ()))))
  else (
  bif decide (x20 = (1 : Int)) then (
  (T.2.1 (((d.1.1.1, (d.2.2.2.1.1, d.1.1.2.2)), ()), ((), ()))))
  else (
  bif decide (x20 = (2 : Int)) then (
  (T.2.1 (((d.1.1.1, (d.1.1.2.1, (d.2.2.2.1.1, d.1.1.2.2.2))), ()), ((), ()))))
  else (
  bif decide (x20 = (3 : Int)) then (
  (T.2.1 (((d.1.1.1, (d.1.1.2.1, (d.1.1.2.2.1, (d.2.2.2.1.1, d.1.1.2.2.2.2)))), ()), ((), ()))))
  else (
  bif decide (x20 = (4 : Int)) then (
  (T.2.1 (((d.1.1.1, (d.1.1.2.1, (d.1.1.2.2.1, (d.1.1.2.2.2.1, (d.2.2.2.1.1, d.1.1.2.2.2.2.2))))), ()), ((), ()))))
  else (
  bif decide (x20 = (5 : Int)) then (
  (T.2.1 (((d.1.1.1, (d.1.1.2.1, (d.1.1.2.2.1, (d.1.1.2.2.2.1, (d.1.1.2.2.2.2.1, (d.2.2.2.1.1, d.1.1.2.2.2.2.2.2)))))), ()), ((), ()))))
  else (
  bif decide (x20 = (6 : Int)) then (
  (T.2.1 (((d.1.1.1, (d.1.1.2.1, (d.1.1.2.2.1, (d.1.1.2.2.2.1, (d.1.1.2.2.2.2.1, (d.1.1.2.2.2.2.2.1, (d.2.2.2.1.1, d.1.1.2.2.2.2.2.2.2))))))), ()), ((), ()))))
  else (
  bif decide (x20 = (7 : Int)) then (
  (T.2.1 (((d.1.1.1, (d.1.1.2.1, (d.1.1.2.2.1, (d.1.1.2.2.2.1, (d.1.1.2.2.2.2.1, (d.1.1.2.2.2.2.2.1, (d.1.1.2.2.2.2.2.2.1, (d.2.2.2.1.1, d.1.1.2.2.2.2.2.2.2.2)))))))), ()), ((), ()))))
  else (
  bif decide (x20 = (8 : Int)) then (
  (T.2.1 (((d.1.1.1, (d.1.1.2.1, (d.1.1.2.2.1, (d.1.1.2.2.2.1, (d.1.1.2.2.2.2.1, (d.1.1.2.2.2.2.2.1, (d.1.1.2.2.2.2.2.2.1, (d.1.1.2.2.2.2.2.2.2.1, (d.2.2.2.1.1, d.1.1.2.2.2.2.2.2.2.2.2))))))))), ()), ((), ()))))
  else (
  bif decide (x20 = (9 : Int)) then (
  (T.2.1 (((d.1.1.1, (d.1.1.2.1, (d.1.1.2.2.1, (d.1.1.2.2.2.1, (d.1.1.2.2.2.2.1, (d.1.1.2.2.2.2.2.1, (d.1.1.2.2.2.2.2.2.1, (d.1.1.2.2.2.2.2.2.2.1, (d.1.1.2.2.2.2.2.2.2.2.1, (d.2.2.2.1.1, d.1.1.2.2.2.2.2.2.2.2.2.2)))))))))), ()), ((), ()))))
  else (
  bif decide (x20 = (10 : Int)) then (
  (T.2.1 (((d.1.1.1, (d.1.1.2.1, (d.1.1.2.2.1, (d.1.1.2.2.2.1, (d.1.1.2.2.2.2.1, (d.1.1.2.2.2.2.2.1, (d.1.1.2.2.2.2.2.2.1, (d.1.1.2.2.2.2.2.2.2.1, (d.1.1.2.2.2.2.2.2.2.2.1, (d.1.1.2.2.2.2.2.2.2.2.2.1, (d.2.2.2.1.1, d.1.1.2.2.2.2.2.2.2.2.2.2.2))))))))))), ()), ((), ()))))
  else (
  bif decide (x20 = (11 : Int)) then (
  (T.2.1 (((d.1.1.1, (d.1.1.2.1, (d.1.1.2.2.1, (d.1.1.2.2.2.1, (d.1.1.2.2.2.2.1, (d.1.1.2.2.2.2.2.1, (d.1.1.2.2.2.2.2.2.1, (d.1.1.2.2.2.2.2.2.2.1, (d.1.1.2.2.2.2.2.2.2.2.1, (d.1.1.2.2.2.2.2.2.2.2.2.1, (d.1.1.2.2.2.2.2.2.2.2.2.2.1, d.2.2.2.1))))))))))), ()), ((), ()))))
  else (
  none)))))))))))))
  else none)
def f_tally_Tally_Add_io_p12 (T : TT_tally_Tally_Add_io) (d : ((Int × (Int × (Int × (Int × (Int × (Int × (Int × (Int × (Int × (Int × (Int × (Int × Unit)))))))))))) × Unit) × (Unit × Unit)) : Option (((Int × (Int × (Int × (Int × (Int × (Int × (Int × (Int × (Int × (Int × (Int × (Int × Unit)))))))))))) × Unit) × (((Option Int) × Unit) × (Unit × Unit))) :=
  (T.2.2.1 (d.1, ((), (((none : Option Int), ()), ()))))
def f_tally_Tally_Add_io_p13 (T : TT_tally_Tally_Add_io) (d : ((Int × (Int × (Int × (Int × (Int × (Int × (Int × (Int × (Int × (Int × (Int × (Int × Unit)))))))))))) × Unit) × (Unit × (((Option Int) × Unit) × Unit))) : Option (((Int × (Int × (Int × (Int × (Int × (Int × (Int × (Int × (Int × (Int × (Int × (Int × Unit)))))))))))) × Unit) × (((Option Int) × Unit) × (Unit × Unit))) :=
  some (d.1, (d.2.2.1, ((), ())))
def f_tally_Tally_Add_io_t : Nat → TT_tally_Tally_Add_io
  | 0 => (fun _ => none, (fun _ => none, (fun _ => none, ())))
  | k + 1 => (f_tally_Tally_Add_io_p8 (f_tally_Tally_Add_io_t k), (f_tally_Tally_Add_io_p12 (f_tally_Tally_Add_io_t k), (f_tally_Tally_Add_io_p13 (f_tally_Tally_Add_io_t k), ())))
theorem t_tally_Tally_Add_io (k : Nat) : f_tally_Tally_Add_io_t (k + 1) = (f_tally_Tally_Add_io_p8 (f_tally_Tally_Add_io_t k), (f_tally_Tally_Add_io_p12 (f_tally_Tally_Add_io_t k), (f_tally_Tally_Add_io_p13 (f_tally_Tally_Add_io_t k), ()))) := rfl
def f_tally_Tally_Add_io_m (T : TT_tally_Tally_Add_io) (d : ((Int × (Int × (Int × (Int × (Int × (Int × (Int × (Int × (Int × (Int × (Int × (Int × Unit)))))))))))) × Unit) × (Unit × ((Int × Unit) × ((Int × Unit) × Unit)))) : Option (((Int × (Int × (Int × (Int × (Int × (Int × (Int × (Int × (Int × (Int × (Int × (Int × Unit)))))))))))) × Unit) × (((Option Int) × Unit) × (Unit × Unit))) :=
  (g_tally_known ((), (d.2.2.1, ()))).bind fun x1 =>
  let x2 : Bool := (!x1.2.1.1)
  bif x2 then (
  let x3 : (Option Int) := (some (11 : Int))
  some (d.1, ((x3, ()), ((), ()))))
  else (
  let x4 : Bool := (decide (d.2.2.2.1.1 < (0 : Int)))
  bif x4 then (
  let x5 : (Option Int) := (some (1 : Int))
  some (d.1, ((x5, ()), ((), ()))))
  else (
  let x6 : Int := (isub .i64 d.2.2.1.1 (1 : Int))
  bif decide ((0 : Int) ≤ x6) && decide (x6 < (12 : Int)) then (
  bif decide (x6 = (0 : Int)) then (
  (g_num_Add ((), ((d.1.1.1, ()), d.2.2.2))).bind fun x18 =>
  (T.1 (d.1, ((), (d.2.2.1, x18.2)))))
  else (
  bif decide (x6 = (1 : Int)) then (
  (g_num_Add ((), ((d.1.1.2.1, ()), d.2.2.2))).bind fun x17 =>
  (T.1 (d.1, ((), (d.2.2.1, x17.2)))))
  else (
  bif decide (x6 = (2 : Int)) then (
  (g_num_Add ((), ((d.1.1.2.2.1, ()), d.2.2.2))).bind fun x16 =>
  (T.1 (d.1, ((), (d.2.2.1, x16.2)))))
  else (
  bif decide (x6 = (3 : Int)) then (
  (g_num_Add ((), ((d.1.1.2.2.2.1, ()), d.2.2.2))).bind fun x15 =>
  (T.1 (d.1, ((), (d.2.2.1, x15.2)))))
  else (
  bif decide (x6 = (4 : Int)) then (
  (g_num_Add ((), ((d.1.1.2.2.2.2.1, ()), d.2.2.2))).bind fun x14 =>
  (T.1 (d.1, ((), (d.2.2.1, x14.2)))))
  else (
  bif decide (x6 = (5 : Int)) then (
  (g_num_Add ((), ((d.1.1.2.2.2.2.2.1, ()), d.2.2.2))).bind fun x13 =>
  (T.1 (d.1, ((), (d.2.2.1, x13.2)))))
  else (
  bif decide (x6 = (6 : Int)) then (
  (g_num_Add ((), ((d.1.1.2.2.2.2.2.2.1, ()), d.2.2.2))).bind fun x12 =>
  (T.1 (d.1, ((), (d.2.2.1, x12.2)))))
  else (
  bif decide (x6 = (7 : Int)) then (
  (g_num_Add ((), ((d.1.1.2.2.2.2.2.2.2.1, ()), d.2.2.2))).bind fun x11 =>
  (T.1 (d.1, ((), (d.2.2.1, x11.2)))))
  else (
  bif decide (x6 = (8 : Int)) then (
  (g_num_Add ((), ((d.1.1.2.2.2.2.2.2.2.2.1, ()), d.2.2.2))).bind fun x10 =>
  (T.1 (d.1, ((), (d.2.2.1, x10.2)))))
  else (
  bif decide (x6 = (9 : Int)) then (
  (g_num_Add ((), ((d.1.1.2.2.2.2.2.2.2.2.2.1, ()), d.2.2.2))).bind fun x9 =>
  (T.1 (d.1, ((), (d.2.2.1, x9.2)))))
  else (
  bif decide (x6 = (10 : Int)) then (
  (g_num_Add ((), ((d.1.1.2.2.2.2.2.2.2.2.2.2.1, ()), d.2.2.2))).bind fun x8 =>
  (T.1 (d.1, ((), (d.2.2.1, x8.2)))))
  else (
  bif decide (x6 = (11 : Int)) then (
  (g_num_Add ((), (d.1.1.2.2.2.2.2.2.2.2.2.2.2, d.2.2.2))).bind fun x7 =>
  (T.1 (d.1, ((), (d.2.2.1, x7.2)))))
  else (
  none)))))))))))))
  else none))
def c_tally_Tally_Add_io : List Nat := [8, 12, 13]
def L_tally_Tally_Add_io (k : Nat) : Pts po_tally_Tally_Add_io.den := [(8, ⟨sh_tally_Tally_Add_io_8, (f_tally_Tally_Add_io_t k).1⟩), (12, ⟨sh_tally_Tally_Add_io_12, (f_tally_Tally_Add_io_t k).2.1⟩), (13, ⟨sh_tally_Tally_Add_io_13, (f_tally_Tally_Add_io_t k).2.2.1⟩)]
def R_tally_Tally_Add_io (_ : Nat) : PtsR po_tally_Tally_Add_io.den := []
def E_tally_Tally_Add_io : Env := (((E0.add 34 (typedSem pi_tally_known po_tally_known g_tally_known)).add 36 (typedSem pi_num_Add po_num_Add g_num_Add)).kp [0])
theorem q_tally_Tally_Add_io_8 (k : Nat) (d : sh_tally_Tally_Add_io_8.den) : evAt E_tally_Tally_Add_io (tb (L_tally_Tally_Add_io k) (R_tally_Tally_Add_io k)) c_tally_Tally_Add_io 8 (bodyOf Tryz.f10) 0 (finKio E_tally_Tally_Add_io po_tally_Tally_Add_io [.tmp 6] [(0, none)]) (ptSt sh_tally_Tally_Add_io_8 d) = f_tally_Tally_Add_io_p8 (f_tally_Tally_Add_io_t k) d := by kernel_rfl
theorem q_tally_Tally_Add_io_12 (k : Nat) (d : sh_tally_Tally_Add_io_12.den) : evAt E_tally_Tally_Add_io (tb (L_tally_Tally_Add_io k) (R_tally_Tally_Add_io k)) c_tally_Tally_Add_io 12 (bodyOf Tryz.f10) 0 (finKio E_tally_Tally_Add_io po_tally_Tally_Add_io [.tmp 6] [(0, none)]) (ptSt sh_tally_Tally_Add_io_12 d) = f_tally_Tally_Add_io_p12 (f_tally_Tally_Add_io_t k) d := by kernel_rfl
theorem q_tally_Tally_Add_io_13 (k : Nat) (d : sh_tally_Tally_Add_io_13.den) : evAt E_tally_Tally_Add_io (tb (L_tally_Tally_Add_io k) (R_tally_Tally_Add_io k)) c_tally_Tally_Add_io 13 (bodyOf Tryz.f10) 0 (finKio E_tally_Tally_Add_io po_tally_Tally_Add_io [.tmp 6] [(0, none)]) (ptSt sh_tally_Tally_Add_io_13 d) = f_tally_Tally_Add_io_p13 (f_tally_Tally_Add_io_t k) d := by kernel_rfl
theorem q_tally_Tally_Add_io_m (k : Nat) (d : pi_tally_Tally_Add_io.den) : evCode E_tally_Tally_Add_io (tb (L_tally_Tally_Add_io k) (R_tally_Tally_Add_io k)) c_tally_Tally_Add_io (bodyOf Tryz.f10) 0 (finKio E_tally_Tally_Add_io po_tally_Tally_Add_io [.tmp 6] [(0, none)]) (startSt pi_tally_Tally_Add_io 44 d) = f_tally_Tally_Add_io_m (f_tally_Tally_Add_io_t k) d := by kernel_rfl
def g_tally_Tally_Add_io (d : ((Int × (Int × (Int × (Int × (Int × (Int × (Int × (Int × (Int × (Int × (Int × (Int × Unit)))))))))))) × Unit) × (Unit × ((Int × Unit) × ((Int × Unit) × Unit)))) : Option (((Int × (Int × (Int × (Int × (Int × (Int × (Int × (Int × (Int × (Int × (Int × (Int × Unit)))))))))))) × Unit) × (((Option Int) × Unit) × (Unit × Unit))) := lim fun k => f_tally_Tally_Add_io_m (f_tally_Tally_Add_io_t k) d
theorem ok_tally_Tally_Add_io : FnIo Tryz.prog ET0 10 pi_tally_Tally_Add_io po_tally_Tally_Add_io 1 [(0, 0, none)] g_tally_Tally_Add_io :=
  fn_of_bodyIo (E := E_tally_Tally_Add_io) (envOk_kp (envOk_add (envOk_add e0_ok (typed_ok ok_tally_known)) (typed_ok ok_num_Add))) (fn := Tryz.f10) Tryz.func10 (by kernel_rfl) (by kernel_rfl) [.tmp 6] [(0, none)] [(0, 0, none)] (by kernel_rfl) (by kernel_rfl) (by kernel_rfl) (by kernel_rfl) (by decide) (by decide) c_tally_Tally_Add_io L_tally_Tally_Add_io R_tally_Tally_Add_io
    (by intro x hx d; simp only [L_tally_Tally_Add_io, List.mem_cons, List.not_mem_nil, or_false] at hx; rcases hx with rfl | rfl | rfl; rfl; rfl; rfl)
    (by intro k x hx d out h; simp only [L_tally_Tally_Add_io, List.mem_cons, List.not_mem_nil, or_false] at hx; rcases hx with rfl | rfl | rfl; exact (q_tally_Tally_Add_io_8 k d).trans h; exact (q_tally_Tally_Add_io_12 k d).trans h; exact (q_tally_Tally_Add_io_13 k d).trans h)
    (by intro x hx; cases hx)
    (by intro k x hx; cases hx)
    (by intro d out h; obtain ⟨k, hk⟩ := lim_some h; exact ⟨k, (q_tally_Tally_Add_io_m k d).trans hk⟩)

@[reducible] def pi_law32_alive : PSh := ⟨[], []⟩
@[reducible] def po_law32_alive : PSh := ⟨[], [.mk false [vB]]⟩
def f_law32_alive_m (T : Unit) (d : Unit × Unit) : Option (Unit × ((Bool × Unit) × Unit)) :=
  (g_tally_New ((), ())).bind fun x1 =>
  (g_tally_Tally_Add_io (x1.1, ((), (((7 : Int), ()), (((5 : Int), ()), ()))))).bind fun x2 =>
  let x3 : Bool := (!x2.2.1.1.isNone)
  bif x3 then (
  some ((), ((false, ()), ())))
  else (
  (g_tally_Tally_Count ((), (((some (x2.1.1.1, (x2.1.1.2.1, (x2.1.1.2.2.1, (x2.1.1.2.2.2.1, (x2.1.1.2.2.2.2.1, (x2.1.1.2.2.2.2.2.1, (x2.1.1.2.2.2.2.2.2.1, (x2.1.1.2.2.2.2.2.2.2.1, (x2.1.1.2.2.2.2.2.2.2.2.1, (x2.1.1.2.2.2.2.2.2.2.2.2.1, (x2.1.1.2.2.2.2.2.2.2.2.2.2.1, x2.1.1.2.2.2.2.2.2.2.2.2.2.2.1)))))))))))), ()), (((7 : Int), ()), ())))).bind fun x4 =>
  let x5 : Bool := (x4.2.1.1 == (5 : Int))
  bif x5 then (
  (g_tally_Tally_Count ((), (((some (x2.1.1.1, (x2.1.1.2.1, (x2.1.1.2.2.1, (x2.1.1.2.2.2.1, (x2.1.1.2.2.2.2.1, (x2.1.1.2.2.2.2.2.1, (x2.1.1.2.2.2.2.2.2.1, (x2.1.1.2.2.2.2.2.2.2.1, (x2.1.1.2.2.2.2.2.2.2.2.1, (x2.1.1.2.2.2.2.2.2.2.2.2.1, (x2.1.1.2.2.2.2.2.2.2.2.2.2.1, x2.1.1.2.2.2.2.2.2.2.2.2.2.2.1)))))))))))), ()), (((8 : Int), ()), ())))).bind fun x6 =>
  let x7 : Bool := (x6.2.1.1 == (0 : Int))
  bif x7 then (
  (g_tally_Name ((), (((12 : Int), ()), ()))).bind fun x8 =>
  let x9 : Bool := (x8.2.1.1.toList == (⟨#[105, 100, 108, 101]⟩ : ByteArray).toList)
  some ((), ((x9, ()), ())))
  else (
  some ((), ((false, ()), ()))))
  else (
  some ((), ((false, ()), ()))))
def g_law32_alive (d : Unit × Unit) : Option (Unit × ((Bool × Unit) × Unit)) := f_law32_alive_m () d
theorem ok_law32_alive : FnOk Tryz.prog ET0 7 pi_law32_alive po_law32_alive g_law32_alive :=
  fn0 (E := ((((E0.add 10 (ioSem pi_tally_Tally_Add_io po_tally_Tally_Add_io 1 [(0, 0, none)] g_tally_Tally_Add_io)).add 11 (typedSem pi_tally_Tally_Count po_tally_Tally_Count g_tally_Tally_Count)).add 18 (typedSem pi_tally_Name po_tally_Name g_tally_Name)).add 33 (typedSem pi_tally_New po_tally_New g_tally_New))) (envOk_add (envOk_add (envOk_add (envOk_add e0_ok (io_ok ok_tally_Tally_Add_io)) (typed_ok ok_tally_Tally_Count)) (typed_ok ok_tally_Name)) (typed_ok ok_tally_New)) (fn := Tryz.f7) Tryz.func7 (by kernel_rfl) (by kernel_rfl) [.tmp 0] (by kernel_rfl) rfl rfl rfl [] fun d => by kernel_rfl

@[reducible] def pi_num_Sum : PSh := ⟨[], [.mk false [.v (.sl (.int .i64))]]⟩
@[reducible] def po_num_Sum : PSh := ⟨[], [.mk false [vI], .mk false [vE]]⟩
@[reducible] def TT_num_Sum : Type := (((Unit × ((Int × Unit) × (((List Int) × Unit) × ((Int × Unit) × ((Int × Unit) × Unit))))) → Option (Unit × ((Int × Unit) × (((Option Int) × Unit) × Unit)))) × Unit)
@[reducible] def sh_num_Sum_4 : PSh := ⟨[], [.any, .any, .any, .any, .mk false [vI], .any, .any, .any, .any, .mk false [.v (.sl (.int .i64))], .mk false [vI], .mk false [vI], .any, .any, .any, .any, .any, .any, .any, .any, .any, .any, .any, .any, .any, .any, .any]⟩
def f_num_Sum_p4 (T : TT_num_Sum) (d : Unit × ((Int × Unit) × (((List Int) × Unit) × ((Int × Unit) × ((Int × Unit) × Unit))))) : Option (Unit × ((Int × Unit) × (((Option Int) × Unit) × Unit))) :=
  let x2 : Bool := (decide (d.2.2.2.2.1.1 < d.2.2.2.1.1))
  bif x2 then (
  bif decide ((0 : Int) ≤ d.2.2.2.2.1.1) && decide (d.2.2.2.2.1.1 < (d.2.2.1.1.length : Int)) then (
  (g_num_Add ((), (d.2.1, (((gd (.int .i64) d.2.2.1.1 d.2.2.2.2.1.1), ()), ())))).bind fun x3 =>
  let x4 : Bool := (!x3.2.2.1.1.isNone)
  bif x4 then (
  some ((), (((0 : Int), ()), x3.2.2)))
  else (
  let x5 : Int := (iadd .i64 d.2.2.2.2.1.1 (1 : Int))
  (T.1 ((), (x3.2.1, (d.2.2.1, (d.2.2.2.1, ((x5, ()), ()))))))))
  else none)
  else (
  some ((), (d.2.1, (((none : Option Int), ()), ()))))
def f_num_Sum_t : Nat → TT_num_Sum
  | 0 => (fun _ => none, ())
  | k + 1 => (f_num_Sum_p4 (f_num_Sum_t k), ())
theorem t_num_Sum (k : Nat) : f_num_Sum_t (k + 1) = (f_num_Sum_p4 (f_num_Sum_t k), ()) := rfl
def f_num_Sum_m (T : TT_num_Sum) (d : Unit × (((List Int) × Unit) × Unit)) : Option (Unit × ((Int × Unit) × (((Option Int) × Unit) × Unit))) :=
  let x1 : Int := (d.2.1.1.length : Int)
  (T.1 ((), (((0 : Int), ()), (d.2.1, ((x1, ()), (((0 : Int), ()), ()))))))
def c_num_Sum : List Nat := []
def L_num_Sum (k : Nat) : Pts po_num_Sum.den := [(4, ⟨sh_num_Sum_4, (f_num_Sum_t k).1⟩)]
def R_num_Sum (_ : Nat) : PtsR po_num_Sum.den := []
def E_num_Sum : Env := (E0.add 36 (typedSem pi_num_Add po_num_Add g_num_Add))
theorem q_num_Sum_4 (k : Nat) (d : sh_num_Sum_4.den) : evAt E_num_Sum (tb (L_num_Sum k) (R_num_Sum k)) c_num_Sum 4 (bodyOf Tryz.f35) 0 (finK E_num_Sum po_num_Sum [.tmp 2, .tmp 3]) (ptSt sh_num_Sum_4 d) = f_num_Sum_p4 (f_num_Sum_t k) d := by kernel_rfl
theorem q_num_Sum_m (k : Nat) (d : pi_num_Sum.den) : evCode E_num_Sum (tb (L_num_Sum k) (R_num_Sum k)) c_num_Sum (bodyOf Tryz.f35) 0 (finK E_num_Sum po_num_Sum [.tmp 2, .tmp 3]) (startSt pi_num_Sum 27 d) = f_num_Sum_m (f_num_Sum_t k) d := by kernel_rfl
def g_num_Sum (d : Unit × (((List Int) × Unit) × Unit)) : Option (Unit × ((Int × Unit) × (((Option Int) × Unit) × Unit))) := lim fun k => f_num_Sum_m (f_num_Sum_t k) d
theorem ok_num_Sum : FnOk Tryz.prog ET0 35 pi_num_Sum po_num_Sum g_num_Sum :=
  fn_of_body (E := E_num_Sum) (envOk_add e0_ok (typed_ok ok_num_Add)) (fn := Tryz.f35) Tryz.func35 (by kernel_rfl) (by kernel_rfl) [.tmp 2, .tmp 3] (by kernel_rfl) (by kernel_rfl) (by decide) rfl c_num_Sum L_num_Sum R_num_Sum
    (by intro x hx d; simp only [L_num_Sum, List.mem_cons, List.not_mem_nil, or_false] at hx; subst hx; rfl)
    (by intro k x hx d out h; simp only [L_num_Sum, List.mem_cons, List.not_mem_nil, or_false] at hx; subst hx; exact (q_num_Sum_4 k d).trans h)
    (by intro x hx; cases hx)
    (by intro k x hx; cases hx)
    (by intro d out h; obtain ⟨k, hk⟩ := lim_some h; exact ⟨k, (q_num_Sum_m k d).trans hk⟩)

@[reducible] def pi_tally_Tally_Sum : PSh := ⟨[], [.mk false [.v (.nptr (.pair (.int .i64) (.pair (.int .i64) (.pair (.int .i64) (.pair (.int .i64) (.pair (.int .i64) (.pair (.int .i64) (.pair (.int .i64) (.pair (.int .i64) (.pair (.int .i64) (.pair (.int .i64) (.pair (.int .i64) (.int .i64)))))))))))))], .mk false [.v (.sl (.int .i64))]]⟩
@[reducible] def po_tally_Tally_Sum : PSh := ⟨[], [.mk false [vI], .mk false [vE]]⟩
@[reducible] def TT_tally_Tally_Sum : Type := (((((List Int) × Unit) × (((Option (Int × (Int × (Int × (Int × (Int × (Int × (Int × (Int × (Int × (Int × (Int × Int)))))))))))) × Unit) × (Unit × (((List Int) × Unit) × ((Int × Unit) × ((Int × Unit) × Unit)))))) → Option (Unit × ((Int × Unit) × (((Option Int) × Unit) × Unit)))) × Unit)
@[reducible] def sh_tally_Tally_Sum_7 : PSh := ⟨[.row 2 (.int .i64)], [.mk false [.v (.nptr (.pair (.int .i64) (.pair (.int .i64) (.pair (.int .i64) (.pair (.int .i64) (.pair (.int .i64) (.pair (.int .i64) (.pair (.int .i64) (.pair (.int .i64) (.pair (.int .i64) (.pair (.int .i64) (.pair (.int .i64) (.int .i64)))))))))))))], .any, .any, .any, .any, .any, .mk false [.osl 0], .any, .any, .any, .any, .any, .mk false [.v (.sl (.int .i64))], .mk false [vI], .mk false [vI], .any, .any, .any, .any, .any, .any, .any, .any, .any, .any, .any, .any, .any, .any, .any, .any, .any, .any]⟩
def f_tally_Tally_Sum_p7 (T : TT_tally_Tally_Sum) (d : ((List Int) × Unit) × (((Option (Int × (Int × (Int × (Int × (Int × (Int × (Int × (Int × (Int × (Int × (Int × Int)))))))))))) × Unit) × (Unit × (((List Int) × Unit) × ((Int × Unit) × ((Int × Unit) × Unit)))))) : Option (Unit × ((Int × Unit) × (((Option Int) × Unit) × Unit))) :=
  let x3 : Bool := (decide (d.2.2.2.2.2.1.1 < d.2.2.2.2.1.1))
  bif x3 then (
  bif decide ((0 : Int) ≤ d.2.2.2.2.2.1.1) && decide (d.2.2.2.2.2.1.1 < (d.2.2.2.1.1.length : Int)) then (
  (g_tally_known ((), (((gd (.int .i64) d.2.2.2.1.1 d.2.2.2.2.2.1.1), ()), ()))).bind fun x4 =>
  let x5 : Bool := (!x4.2.1.1)
  bif x5 then (
  let x6 : (Option Int) := (some (11 : Int))
  some ((), (((0 : Int), ()), ((x6, ()), ()))))
  else (
  (g_tally_Tally_Count ((), (d.2.1, (((gd (.int .i64) d.2.2.2.1.1 d.2.2.2.2.2.1.1), ()), ())))).bind fun x7 =>
  let x8 : (List Int) := ([x7.2.1.1] : List Int)
  bif decide (((d.1.1.length + x8.length) * 8 : Nat) ≤ 140737488355328) && decide (d.1.1.length + x8.length ≤ 9223372036854775807) then (
  let x9 : (List Int) := (d.1.1 ++ x8)
  let x10 : Int := (iadd .i64 d.2.2.2.2.2.1.1 (1 : Int))
  (T.1 ((x9, ()), (d.2.1, ((), (d.2.2.2.1, (d.2.2.2.2.1, ((x10, ()), ()))))))))
  else none))
  else none)
  else (
  (g_num_Sum ((), (d.1, ()))).bind fun x11 =>
  some ((), x11.2))
def f_tally_Tally_Sum_t : Nat → TT_tally_Tally_Sum
  | 0 => (fun _ => none, ())
  | k + 1 => (f_tally_Tally_Sum_p7 (f_tally_Tally_Sum_t k), ())
theorem t_tally_Tally_Sum (k : Nat) : f_tally_Tally_Sum_t (k + 1) = (f_tally_Tally_Sum_p7 (f_tally_Tally_Sum_t k), ()) := rfl
def f_tally_Tally_Sum_m (T : TT_tally_Tally_Sum) (d : Unit × (((Option (Int × (Int × (Int × (Int × (Int × (Int × (Int × (Int × (Int × (Int × (Int × Int)))))))))))) × Unit) × (((List Int) × Unit) × Unit))) : Option (Unit × ((Int × Unit) × (((Option Int) × Unit) × Unit))) :=
  bif d.2.1.1.isNone then (
  let x1 : (Option Int) := (some (8 : Int))
  some ((), (((0 : Int), ()), ((x1, ()), ()))))
  else (
  let x2 : Int := (d.2.2.1.1.length : Int)
  (T.1 ((([] : List Int), ()), (d.2.1, ((), (d.2.2.1, ((x2, ()), (((0 : Int), ()), ()))))))))
def c_tally_Tally_Sum : List Nat := []
def L_tally_Tally_Sum (k : Nat) : Pts po_tally_Tally_Sum.den := [(7, ⟨sh_tally_Tally_Sum_7, (f_tally_Tally_Sum_t k).1⟩)]
def R_tally_Tally_Sum (_ : Nat) : PtsR po_tally_Tally_Sum.den := []
def E_tally_Tally_Sum : Env := (((E0.add 11 (typedSem pi_tally_Tally_Count po_tally_Tally_Count g_tally_Tally_Count)).add 34 (typedSem pi_tally_known po_tally_known g_tally_known)).add 35 (typedSem pi_num_Sum po_num_Sum g_num_Sum))
theorem q_tally_Tally_Sum_7 (k : Nat) (d : sh_tally_Tally_Sum_7.den) : evAt E_tally_Tally_Sum (tb (L_tally_Tally_Sum k) (R_tally_Tally_Sum k)) c_tally_Tally_Sum 7 (bodyOf Tryz.f8) 0 (finK E_tally_Tally_Sum po_tally_Tally_Sum [.tmp 4, .tmp 5]) (ptSt sh_tally_Tally_Sum_7 d) = f_tally_Tally_Sum_p7 (f_tally_Tally_Sum_t k) d := by kernel_rfl
theorem q_tally_Tally_Sum_m (k : Nat) (d : pi_tally_Tally_Sum.den) : evCode E_tally_Tally_Sum (tb (L_tally_Tally_Sum k) (R_tally_Tally_Sum k)) c_tally_Tally_Sum (bodyOf Tryz.f8) 0 (finK E_tally_Tally_Sum po_tally_Tally_Sum [.tmp 4, .tmp 5]) (startSt pi_tally_Tally_Sum 33 d) = f_tally_Tally_Sum_m (f_tally_Tally_Sum_t k) d := by kernel_rfl
def g_tally_Tally_Sum (d : Unit × (((Option (Int × (Int × (Int × (Int × (Int × (Int × (Int × (Int × (Int × (Int × (Int × Int)))))))))))) × Unit) × (((List Int) × Unit) × Unit))) : Option (Unit × ((Int × Unit) × (((Option Int) × Unit) × Unit))) := lim fun k => f_tally_Tally_Sum_m (f_tally_Tally_Sum_t k) d
theorem ok_tally_Tally_Sum : FnOk Tryz.prog ET0 8 pi_tally_Tally_Sum po_tally_Tally_Sum g_tally_Tally_Sum :=
  fn_of_body (E := E_tally_Tally_Sum) (envOk_add (envOk_add (envOk_add e0_ok (typed_ok ok_tally_Tally_Count)) (typed_ok ok_tally_known)) (typed_ok ok_num_Sum)) (fn := Tryz.f8) Tryz.func8 (by kernel_rfl) (by kernel_rfl) [.tmp 4, .tmp 5] (by kernel_rfl) (by kernel_rfl) (by decide) rfl c_tally_Tally_Sum L_tally_Tally_Sum R_tally_Tally_Sum
    (by intro x hx d; simp only [L_tally_Tally_Sum, List.mem_cons, List.not_mem_nil, or_false] at hx; subst hx; rfl)
    (by intro k x hx d out h; simp only [L_tally_Tally_Sum, List.mem_cons, List.not_mem_nil, or_false] at hx; subst hx; exact (q_tally_Tally_Sum_7 k d).trans h)
    (by intro x hx; cases hx)
    (by intro k x hx; cases hx)
    (by intro d out h; obtain ⟨k, hk⟩ := lim_some h; exact ⟨k, (q_tally_Tally_Sum_m k d).trans hk⟩)

@[reducible] def pi_hnum_Num : PSh := ⟨[], [.mk false [vE]]⟩
@[reducible] def po_hnum_Num : PSh := ⟨[], [.mk false [vI]]⟩
def f_hnum_Num_m (T : Unit) (d : Unit × (((Option Int) × Unit) × Unit)) : Option (Unit × ((Int × Unit) × Unit)) :=
  bif d.2.1.1.isNone then (
  some ((), (((0 : Int), ()), ())))
  else (
  bif d.2.1.1.isSome then (
  let x1 : Bool := ((d.2.1.1.getD 0) != (0 : Int))
  bif x1 then (
  some ((), (((d.2.1.1.getD 0), ()), ())))
  else (
  some ((), (((-1 : Int), ()), ()))))
  else (
  some ((), (((-1 : Int), ()), ()))))
def g_hnum_Num (d : Unit × (((Option Int) × Unit) × Unit)) : Option (Unit × ((Int × Unit) × Unit)) := f_hnum_Num_m () d
theorem ok_hnum_Num : FnOk Tryz.prog ET0 21 pi_hnum_Num po_hnum_Num g_hnum_Num :=
  fn0 (E := E0) e0_ok (fn := Tryz.f21) Tryz.func21 (by kernel_rfl) (by kernel_rfl) [.tmp 2] (by kernel_rfl) rfl rfl rfl [] fun d => by kernel_rfl

@[reducible] def pi_hnum_Is : PSh := ⟨[], [.mk false [vE], .mk false [vI]]⟩
@[reducible] def po_hnum_Is : PSh := ⟨[], [.mk false [vB]]⟩
def f_hnum_Is_m (T : Unit) (d : Unit × (((Option Int) × Unit) × ((Int × Unit) × Unit))) : Option (Unit × ((Bool × Unit) × Unit)) :=
  (g_hnum_Num ((), (d.2.1, ()))).bind fun x1 =>
  let x2 : Bool := (x1.2.1.1 == d.2.2.1.1)
  some ((), ((x2, ()), ()))
def g_hnum_Is (d : Unit × (((Option Int) × Unit) × ((Int × Unit) × Unit))) : Option (Unit × ((Bool × Unit) × Unit)) := f_hnum_Is_m () d
theorem ok_hnum_Is : FnOk Tryz.prog ET0 9 pi_hnum_Is po_hnum_Is g_hnum_Is :=
  fn0 (E := (E0.add 21 (typedSem pi_hnum_Num po_hnum_Num g_hnum_Num))) (envOk_add e0_ok (typed_ok ok_hnum_Num)) (fn := Tryz.f9) Tryz.func9 (by kernel_rfl) (by kernel_rfl) [.tmp 4] (by kernel_rfl) rfl rfl rfl [] fun d => by kernel_rfl

@[reducible] def pi_tally_Tally_Text : PSh := ⟨[], [.mk false [.v (.nptr (.pair (.int .i64) (.pair (.int .i64) (.pair (.int .i64) (.pair (.int .i64) (.pair (.int .i64) (.pair (.int .i64) (.pair (.int .i64) (.pair (.int .i64) (.pair (.int .i64) (.pair (.int .i64) (.pair (.int .i64) (.int .i64)))))))))))))]]⟩
@[reducible] def po_tally_Tally_Text : PSh := ⟨[], [.mk false [vS]]⟩
@[reducible] def TT_tally_Tally_Text : Type := (((((List ByteArray) × Unit) × (Unit × ((Int × (Int × (Int × (Int × (Int × (Int × (Int × (Int × (Int × (Int × (Int × (Int × Unit)))))))))))) × ((Int × Unit) × Unit)))) → Option (Unit × ((ByteArray × Unit) × Unit))) × (((((List ByteArray) × Unit) × (Unit × ((Int × Unit) × ((Int × Unit) × ((Int × (Int × (Int × (Int × (Int × (Int × (Int × (Int × (Int × (Int × (Int × (Int × Unit)))))))))))) × ((Int × Unit) × Unit)))))) → Option (Unit × ((ByteArray × Unit) × Unit))) × Unit))
@[reducible] def sh_tally_Tally_Text_7 : PSh := ⟨[.row 9 .str], [.any, .any, .any, .mk false [.osl 0], .any, .any, .any, .any, .any, .any, .any, .mk true [vI, vI, vI, vI, vI, vI, vI, vI, vI, vI, vI, vI], .mk false [vI], .any, .any, .any, .any, .any, .any, .any, .any, .any, .any, .any, .any, .any, .any]⟩
@[reducible] def sh_tally_Tally_Text_11 : PSh := ⟨[.row 9 .str], [.any, .any, .any, .mk false [.osl 0], .mk false [vI], .mk false [vI], .any, .any, .any, .any, .any, .mk true [vI, vI, vI, vI, vI, vI, vI, vI, vI, vI, vI, vI], .mk false [vI], .any, .any, .any, .any, .any, .any, .any, .any, .any, .any, .any, .any, .any, .any]⟩
def f_tally_Tally_Text_p7 (T : TT_tally_Tally_Text) (d : ((List ByteArray) × Unit) × (Unit × ((Int × (Int × (Int × (Int × (Int × (Int × (Int × (Int × (Int × (Int × (Int × (Int × Unit)))))))))))) × ((Int × Unit) × Unit)))) : Option (Unit × ((ByteArray × Unit) × Unit)) :=
  let x2 : Bool := (decide (d.2.2.2.1.1 < (12 : Int)))
  bif x2 then (
  bif decide ((0 : Int) ≤ d.2.2.2.1.1) && decide (d.2.2.2.1.1 < (12 : Int)) then (
  bif decide (d.2.2.2.1.1 = (0 : Int)) then (
  (T.2.1 (d.1, ((), (d.2.2.2.1, ((d.2.2.1.1, ()), d.2.2))))))
  else (
  bif decide (d.2.2.2.1.1 = (1 : Int)) then (
  (T.2.1 (d.1, ((), (d.2.2.2.1, ((d.2.2.1.2.1, ()), d.2.2))))))
  else (
  bif decide (d.2.2.2.1.1 = (2 : Int)) then (
  (T.2.1 (d.1, ((), (d.2.2.2.1, ((d.2.2.1.2.2.1, ()), d.2.2))))))
  else (
  bif decide (d.2.2.2.1.1 = (3 : Int)) then (
  (T.2.1 (d.1, ((), (d.2.2.2.1, ((d.2.2.1.2.2.2.1, ()), d.2.2))))))
  else (
  bif decide (d.2.2.2.1.1 = (4 : Int)) then (
  (T.2.1 (d.1, ((), (d.2.2.2.1, ((d.2.2.1.2.2.2.2.1, ()), d.2.2))))))
  else (
  bif decide (d.2.2.2.1.1 = (5 : Int)) then (
  (T.2.1 (d.1, ((), (d.2.2.2.1, ((d.2.2.1.2.2.2.2.2.1, ()), d.2.2))))))
  else (
  bif decide (d.2.2.2.1.1 = (6 : Int)) then (
  (T.2.1 (d.1, ((), (d.2.2.2.1, ((d.2.2.1.2.2.2.2.2.2.1, ()), d.2.2))))))
  else (
  bif decide (d.2.2.2.1.1 = (7 : Int)) then (
  (T.2.1 (d.1, ((), (d.2.2.2.1, ((d.2.2.1.2.2.2.2.2.2.2.1, ()), d.2.2))))))
  else (
  bif decide (d.2.2.2.1.1 = (8 : Int)) then (
  (T.2.1 (d.1, ((), (d.2.2.2.1, ((d.2.2.1.2.2.2.2.2.2.2.2.1, ()), d.2.2))))))
  else (
  bif decide (d.2.2.2.1.1 = (9 : Int)) then (
  (T.2.1 (d.1, ((), (d.2.2.2.1, ((d.2.2.1.2.2.2.2.2.2.2.2.2.1, ()), d.2.2))))))
  else (
  bif decide (d.2.2.2.1.1 = (10 : Int)) then (
  (T.2.1 (d.1, ((), (d.2.2.2.1, ((d.2.2.1.2.2.2.2.2.2.2.2.2.2.1, ()), d.2.2))))))
  else (
  bif decide (d.2.2.2.1.1 = (11 : Int)) then (
  (T.2.1 (d.1, ((), (d.2.2.2.1, (d.2.2.1.2.2.2.2.2.2.2.2.2.2.2, d.2.2))))))
  else (
  none)))))))))))))
  else none)
  else (
  (g_strings_Join ((), (d.1, (((⟨#[]⟩ : ByteArray), ()), ())))).bind fun x3 =>
  some ((), x3.2))
def f_tally_Tally_Text_p11 (T : TT_tally_Tally_Text) (d : ((List ByteArray) × Unit) × (Unit × ((Int × Unit) × ((Int × Unit) × ((Int × (Int × (Int × (Int × (Int × (Int × (Int × (Int × (Int × (Int × (Int × (Int × Unit)))))))))))) × ((Int × Unit) × Unit)))))) : Option (Unit × ((ByteArray × Unit) × Unit)) :=
  let x4 : Int := (iadd .i64 d.2.2.1.1 (1 : Int))
  (g_tally_Name ((), ((x4, ()), ()))).bind fun x5 =>
  (g_strconv_FormatInt ((), (d.2.2.2.1, (((10 : Int), ()), ())))).bind fun x6 =>
  let x7 : (List ByteArray) := ([x5.2.1.1, (⟨#[32]⟩ : ByteArray), x6.2.1.1, (⟨#[10]⟩ : ByteArray)] : List ByteArray)
  bif decide (((d.1.1.length + x7.length) * 16 : Nat) ≤ 140737488355328) && decide (d.1.1.length + x7.length ≤ 9223372036854775807) then (
  let x8 : (List ByteArray) := (d.1.1 ++ x7)
  let x9 : Int := (iadd .i64 d.2.2.2.2.2.1.1 (1 : Int))
  (T.1 ((x8, ()), ((), (d.2.2.2.2.1, ((x9, ()), ()))))))
  else none
def f_tally_Tally_Text_t : Nat → TT_tally_Tally_Text
  | 0 => (fun _ => none, (fun _ => none, ()))
  | k + 1 => (f_tally_Tally_Text_p7 (f_tally_Tally_Text_t k), (f_tally_Tally_Text_p11 (f_tally_Tally_Text_t k), ()))
theorem t_tally_Tally_Text (k : Nat) : f_tally_Tally_Text_t (k + 1) = (f_tally_Tally_Text_p7 (f_tally_Tally_Text_t k), (f_tally_Tally_Text_p11 (f_tally_Tally_Text_t k), ())) := rfl
def f_tally_Tally_Text_m (T : TT_tally_Tally_Text) (d : Unit × (((Option (Int × (Int × (Int × (Int × (Int × (Int × (Int × (Int × (Int × (Int × (Int × Int)))))))))))) × Unit) × Unit)) : Option (Unit × ((ByteArray × Unit) × Unit)) :=
  bif d.2.1.1.isNone then (
  some ((), (((⟨#[]⟩ : ByteArray), ()), ())))
  else (
  d.2.1.1.bind fun x1 =>
  (T.1 ((([] : List ByteArray), ()), ((), ((x1.1, (x1.2.1, (x1.2.2.1, (x1.2.2.2.1, (x1.2.2.2.2.1, (x1.2.2.2.2.2.1, (x1.2.2.2.2.2.2.1, (x1.2.2.2.2.2.2.2.1, (x1.2.2.2.2.2.2.2.2.1, (x1.2.2.2.2.2.2.2.2.2.1, (x1.2.2.2.2.2.2.2.2.2.2.1, (x1.2.2.2.2.2.2.2.2.2.2.2, ())))))))))))), (((0 : Int), ()), ()))))))
def c_tally_Tally_Text : List Nat := [11]
def L_tally_Tally_Text (k : Nat) : Pts po_tally_Tally_Text.den := [(7, ⟨sh_tally_Tally_Text_7, (f_tally_Tally_Text_t k).1⟩), (11, ⟨sh_tally_Tally_Text_11, (f_tally_Tally_Text_t k).2.1⟩)]
def R_tally_Tally_Text (_ : Nat) : PtsR po_tally_Tally_Text.den := []
def E_tally_Tally_Text : Env := (((E0.add 18 (typedSem pi_tally_Name po_tally_Name g_tally_Name)).add 37 (typedSem pi_strconv_FormatInt po_strconv_FormatInt g_strconv_FormatInt)).add 38 (typedSem pi_strings_Join po_strings_Join g_strings_Join))
theorem q_tally_Tally_Text_7 (k : Nat) (d : sh_tally_Tally_Text_7.den) : evAt E_tally_Tally_Text (tb (L_tally_Tally_Text k) (R_tally_Tally_Text k)) c_tally_Tally_Text 7 (bodyOf Tryz.f12) 0 (finK E_tally_Tally_Text po_tally_Tally_Text [.tmp 2]) (ptSt sh_tally_Tally_Text_7 d) = f_tally_Tally_Text_p7 (f_tally_Tally_Text_t k) d := by kernel_rfl
theorem q_tally_Tally_Text_11 (k : Nat) (d : sh_tally_Tally_Text_11.den) : evAt E_tally_Tally_Text (tb (L_tally_Tally_Text k) (R_tally_Tally_Text k)) c_tally_Tally_Text 11 (bodyOf Tryz.f12) 0 (finK E_tally_Tally_Text po_tally_Tally_Text [.tmp 2]) (ptSt sh_tally_Tally_Text_11 d) = f_tally_Tally_Text_p11 (f_tally_Tally_Text_t k) d := by kernel_rfl
theorem q_tally_Tally_Text_m (k : Nat) (d : pi_tally_Tally_Text.den) : evCode E_tally_Tally_Text (tb (L_tally_Tally_Text k) (R_tally_Tally_Text k)) c_tally_Tally_Text (bodyOf Tryz.f12) 0 (finK E_tally_Tally_Text po_tally_Tally_Text [.tmp 2]) (startSt pi_tally_Tally_Text 27 d) = f_tally_Tally_Text_m (f_tally_Tally_Text_t k) d := by kernel_rfl
def g_tally_Tally_Text (d : Unit × (((Option (Int × (Int × (Int × (Int × (Int × (Int × (Int × (Int × (Int × (Int × (Int × Int)))))))))))) × Unit) × Unit)) : Option (Unit × ((ByteArray × Unit) × Unit)) := lim fun k => f_tally_Tally_Text_m (f_tally_Tally_Text_t k) d
theorem ok_tally_Tally_Text : FnOk Tryz.prog ET0 12 pi_tally_Tally_Text po_tally_Tally_Text g_tally_Tally_Text :=
  fn_of_body (E := E_tally_Tally_Text) (envOk_add (envOk_add (envOk_add e0_ok (typed_ok ok_tally_Name)) (typed_ok ok_strconv_FormatInt)) (typed_ok ok_strings_Join)) (fn := Tryz.f12) Tryz.func12 (by kernel_rfl) (by kernel_rfl) [.tmp 2] (by kernel_rfl) (by kernel_rfl) (by decide) rfl c_tally_Tally_Text L_tally_Tally_Text R_tally_Tally_Text
    (by intro x hx d; simp only [L_tally_Tally_Text, List.mem_cons, List.not_mem_nil, or_false] at hx; rcases hx with rfl | rfl; rfl; rfl)
    (by intro k x hx d out h; simp only [L_tally_Tally_Text, List.mem_cons, List.not_mem_nil, or_false] at hx; rcases hx with rfl | rfl; exact (q_tally_Tally_Text_7 k d).trans h; exact (q_tally_Tally_Text_11 k d).trans h)
    (by intro x hx; cases hx)
    (by intro k x hx; cases hx)
    (by intro d out h; obtain ⟨k, hk⟩ := lim_some h; exact ⟨k, (q_tally_Tally_Text_m k d).trans hk⟩)

@[reducible] def pi_tally_Tally_Copy : PSh := ⟨[], [.mk false [.v (.nptr (.pair (.int .i64) (.pair (.int .i64) (.pair (.int .i64) (.pair (.int .i64) (.pair (.int .i64) (.pair (.int .i64) (.pair (.int .i64) (.pair (.int .i64) (.pair (.int .i64) (.pair (.int .i64) (.pair (.int .i64) (.int .i64)))))))))))))]]⟩
@[reducible] def po_tally_Tally_Copy : PSh := ⟨[], [.mk false [.v (.nptr (.pair (.int .i64) (.pair (.int .i64) (.pair (.int .i64) (.pair (.int .i64) (.pair (.int .i64) (.pair (.int .i64) (.pair (.int .i64) (.pair (.int .i64) (.pair (.int .i64) (.pair (.int .i64) (.pair (.int .i64) (.int .i64)))))))))))))]]⟩
def f_tally_Tally_Copy_m (T : Unit) (d : Unit × (((Option (Int × (Int × (Int × (Int × (Int × (Int × (Int × (Int × (Int × (Int × (Int × Int)))))))))))) × Unit) × Unit)) : Option (Unit × (((Option (Int × (Int × (Int × (Int × (Int × (Int × (Int × (Int × (Int × (Int × (Int × Int)))))))))))) × Unit) × Unit)) :=
  bif d.2.1.1.isNone then (
  some ((), (((none : Option (Int × (Int × (Int × (Int × (Int × (Int × (Int × (Int × (Int × (Int × (Int × Int)))))))))))), ()), ())))
  else (
  d.2.1.1.bind fun x1 =>
  some ((), (((some x1), ()), ())))
def g_tally_Tally_Copy (d : Unit × (((Option (Int × (Int × (Int × (Int × (Int × (Int × (Int × (Int × (Int × (Int × (Int × Int)))))))))))) × Unit) × Unit)) : Option (Unit × (((Option (Int × (Int × (Int × (Int × (Int × (Int × (Int × (Int × (Int × (Int × (Int × Int)))))))))))) × Unit) × Unit)) := f_tally_Tally_Copy_m () d
theorem ok_tally_Tally_Copy : FnOk Tryz.prog ET0 13 pi_tally_Tally_Copy po_tally_Tally_Copy g_tally_Tally_Copy :=
  fn0 (E := E0) e0_ok (fn := Tryz.f13) Tryz.func13 (by kernel_rfl) (by kernel_rfl) [.tmp 2] (by kernel_rfl) rfl rfl rfl [] fun d => by kernel_rfl

@[reducible] def pi_tally_Same : PSh := ⟨[], [.mk false [.v (.nptr (.pair (.int .i64) (.pair (.int .i64) (.pair (.int .i64) (.pair (.int .i64) (.pair (.int .i64) (.pair (.int .i64) (.pair (.int .i64) (.pair (.int .i64) (.pair (.int .i64) (.pair (.int .i64) (.pair (.int .i64) (.int .i64)))))))))))))], .mk false [.v (.nptr (.pair (.int .i64) (.pair (.int .i64) (.pair (.int .i64) (.pair (.int .i64) (.pair (.int .i64) (.pair (.int .i64) (.pair (.int .i64) (.pair (.int .i64) (.pair (.int .i64) (.pair (.int .i64) (.pair (.int .i64) (.int .i64)))))))))))))]]⟩
@[reducible] def po_tally_Same : PSh := ⟨[], [.mk false [vB]]⟩
def f_tally_Same_m (T : Unit) (d : Unit × (((Option (Int × (Int × (Int × (Int × (Int × (Int × (Int × (Int × (Int × (Int × (Int × Int)))))))))))) × Unit) × (((Option (Int × (Int × (Int × (Int × (Int × (Int × (Int × (Int × (Int × (Int × (Int × Int)))))))))))) × Unit) × Unit))) : Option (Unit × ((Bool × Unit) × Unit)) :=
  bif d.2.1.1.isNone then (
  bif d.2.1.1.isNone then (
  some ((), ((d.2.2.1.1.isNone, ()), ())))
  else (
  some ((), ((false, ()), ()))))
  else (
  bif d.2.2.1.1.isNone then (
  bif d.2.1.1.isNone then (
  some ((), ((d.2.2.1.1.isNone, ()), ())))
  else (
  some ((), ((false, ()), ()))))
  else (
  d.2.1.1.bind fun x1 =>
  d.2.2.1.1.bind fun x2 =>
  let x3 : Bool := ((x1.1 == x2.1) && ((x1.2.1 == x2.2.1) && ((x1.2.2.1 == x2.2.2.1) && ((x1.2.2.2.1 == x2.2.2.2.1) && ((x1.2.2.2.2.1 == x2.2.2.2.2.1) && ((x1.2.2.2.2.2.1 == x2.2.2.2.2.2.1) && ((x1.2.2.2.2.2.2.1 == x2.2.2.2.2.2.2.1) && ((x1.2.2.2.2.2.2.2.1 == x2.2.2.2.2.2.2.2.1) && ((x1.2.2.2.2.2.2.2.2.1 == x2.2.2.2.2.2.2.2.2.1) && ((x1.2.2.2.2.2.2.2.2.2.1 == x2.2.2.2.2.2.2.2.2.2.1) && ((x1.2.2.2.2.2.2.2.2.2.2.1 == x2.2.2.2.2.2.2.2.2.2.2.1) && ((x1.2.2.2.2.2.2.2.2.2.2.2 == x2.2.2.2.2.2.2.2.2.2.2.2) && true))))))))))))
  some ((), ((x3, ()), ()))))
def g_tally_Same (d : Unit × (((Option (Int × (Int × (Int × (Int × (Int × (Int × (Int × (Int × (Int × (Int × (Int × Int)))))))))))) × Unit) × (((Option (Int × (Int × (Int × (Int × (Int × (Int × (Int × (Int × (Int × (Int × (Int × Int)))))))))))) × Unit) × Unit))) : Option (Unit × ((Bool × Unit) × Unit)) := f_tally_Same_m () d
theorem ok_tally_Same : FnOk Tryz.prog ET0 15 pi_tally_Same po_tally_Same g_tally_Same :=
  fn0 (E := E0) e0_ok (fn := Tryz.f15) Tryz.func15 (by kernel_rfl) (by kernel_rfl) [.tmp 4] (by kernel_rfl) rfl rfl rfl [] fun d => by kernel_rfl

@[reducible] def pi_ref32_Names : PSh := ⟨[], []⟩
@[reducible] def po_ref32_Names : PSh := ⟨[.row 9 .str], [.mk false [.osl 0]]⟩
def f_ref32_Names_m (T : Unit) (d : Unit × Unit) : Option (((List ByteArray) × Unit) × (Unit × Unit)) :=
  let x1 : (List ByteArray) := ([(⟨#[108, 111, 97, 100, 101, 100]⟩ : ByteArray), (⟨#[114, 101, 102, 117, 115, 101, 100]⟩ : ByteArray), (⟨#[114, 101, 97, 100]⟩ : ByteArray), (⟨#[98, 97, 99, 107]⟩ : ByteArray), (⟨#[119, 111, 114, 100]⟩ : ByteArray), (⟨#[108, 105, 110, 101]⟩ : ByteArray), (⟨#[114, 101, 112, 108, 121]⟩ : ByteArray), (⟨#[107, 105, 115, 115]⟩ : ByteArray), (⟨#[108, 105, 109, 105, 116, 101, 100]⟩ : ByteArray), (⟨#[111, 100, 100]⟩ : ByteArray), (⟨#[115, 116, 114, 97, 110, 103, 101]⟩ : ByteArray), (⟨#[105, 100, 108, 101]⟩ : ByteArray)] : List ByteArray)
  some ((x1, ()), ((), ()))
def g_ref32_Names (d : Unit × Unit) : Option (((List ByteArray) × Unit) × (Unit × Unit)) := f_ref32_Names_m () d
theorem ok_ref32_Names : FnOk Tryz.prog ET0 16 pi_ref32_Names po_ref32_Names g_ref32_Names :=
  fn0 (E := E0) e0_ok (fn := Tryz.f16) Tryz.func16 (by kernel_rfl) (by kernel_rfl) [.tmp 0] (by kernel_rfl) rfl rfl rfl [] fun d => by kernel_rfl

@[reducible] def pi_tally_Kind : PSh := ⟨[], [.mk false [vS]]⟩
@[reducible] def po_tally_Kind : PSh := ⟨[], [.mk false [vI]]⟩
@[reducible] def TT_tally_Kind : Type := (((Unit × ((ByteArray × Unit) × ((Int × Unit) × Unit))) → Option (Unit × ((Int × Unit) × Unit))) × Unit)
@[reducible] def sh_tally_Kind_3 : PSh := ⟨[], [.mk false [vS], .any, .any, .mk false [vI], .any, .any, .any, .any, .any, .any, .any, .any, .any]⟩
def f_tally_Kind_p3 (T : TT_tally_Kind) (d : Unit × ((ByteArray × Unit) × ((Int × Unit) × Unit))) : Option (Unit × ((Int × Unit) × Unit)) :=
  let x1 : Bool := (decide (d.2.2.1.1 ≤ (12 : Int)))
  bif x1 then (
  (g_tally_Name ((), d.2.2)).bind fun x2 =>
  let x3 : Bool := (x2.2.1.1.toList == d.2.1.1.toList)
  bif x3 then (
  some ((), d.2.2))
  else (
  let x4 : Int := (iadd .i64 d.2.2.1.1 (1 : Int))
  (T.1 ((), (d.2.1, ((x4, ()), ()))))))
  else (
  some ((), (((0 : Int), ()), ())))
def f_tally_Kind_t : Nat → TT_tally_Kind
  | 0 => (fun _ => none, ())
  | k + 1 => (f_tally_Kind_p3 (f_tally_Kind_t k), ())
theorem t_tally_Kind (k : Nat) : f_tally_Kind_t (k + 1) = (f_tally_Kind_p3 (f_tally_Kind_t k), ()) := rfl
def f_tally_Kind_m (T : TT_tally_Kind) (d : Unit × ((ByteArray × Unit) × Unit)) : Option (Unit × ((Int × Unit) × Unit)) :=
  (T.1 ((), (d.2.1, (((1 : Int), ()), ()))))
def c_tally_Kind : List Nat := []
def L_tally_Kind (k : Nat) : Pts po_tally_Kind.den := [(3, ⟨sh_tally_Kind_3, (f_tally_Kind_t k).1⟩)]
def R_tally_Kind (_ : Nat) : PtsR po_tally_Kind.den := []
def E_tally_Kind : Env := (E0.add 18 (typedSem pi_tally_Name po_tally_Name g_tally_Name))
theorem q_tally_Kind_3 (k : Nat) (d : sh_tally_Kind_3.den) : evAt E_tally_Kind (tb (L_tally_Kind k) (R_tally_Kind k)) c_tally_Kind 3 (bodyOf Tryz.f17) 0 (finK E_tally_Kind po_tally_Kind [.tmp 2]) (ptSt sh_tally_Kind_3 d) = f_tally_Kind_p3 (f_tally_Kind_t k) d := by kernel_rfl
theorem q_tally_Kind_m (k : Nat) (d : pi_tally_Kind.den) : evCode E_tally_Kind (tb (L_tally_Kind k) (R_tally_Kind k)) c_tally_Kind (bodyOf Tryz.f17) 0 (finK E_tally_Kind po_tally_Kind [.tmp 2]) (startSt pi_tally_Kind 13 d) = f_tally_Kind_m (f_tally_Kind_t k) d := by kernel_rfl
def g_tally_Kind (d : Unit × ((ByteArray × Unit) × Unit)) : Option (Unit × ((Int × Unit) × Unit)) := lim fun k => f_tally_Kind_m (f_tally_Kind_t k) d
theorem ok_tally_Kind : FnOk Tryz.prog ET0 17 pi_tally_Kind po_tally_Kind g_tally_Kind :=
  fn_of_body (E := E_tally_Kind) (envOk_add e0_ok (typed_ok ok_tally_Name)) (fn := Tryz.f17) Tryz.func17 (by kernel_rfl) (by kernel_rfl) [.tmp 2] (by kernel_rfl) (by kernel_rfl) (by decide) rfl c_tally_Kind L_tally_Kind R_tally_Kind
    (by intro x hx d; simp only [L_tally_Kind, List.mem_cons, List.not_mem_nil, or_false] at hx; subst hx; rfl)
    (by intro k x hx d out h; simp only [L_tally_Kind, List.mem_cons, List.not_mem_nil, or_false] at hx; subst hx; exact (q_tally_Kind_3 k d).trans h)
    (by intro x hx; cases hx)
    (by intro k x hx; cases hx)
    (by intro d out h; obtain ⟨k, hk⟩ := lim_some h; exact ⟨k, (q_tally_Kind_m k d).trans hk⟩)

@[reducible] def pi_internal_stringslite_HasPrefix : PSh := ⟨[], [.mk false [vS], .mk false [vS]]⟩
@[reducible] def po_internal_stringslite_HasPrefix : PSh := ⟨[], [.mk false [vB]]⟩
def f_internal_stringslite_HasPrefix_m (T : Unit) (d : Unit × ((ByteArray × Unit) × ((ByteArray × Unit) × Unit))) : Option (Unit × ((Bool × Unit) × Unit)) :=
  let x1 : Int := (d.2.1.1.size : Int)
  let x2 : Int := (d.2.2.1.1.size : Int)
  let x3 : Bool := (decide (x1 ≥ x2))
  bif x3 then (
  let x4 : Int := (d.2.2.1.1.size : Int)
  bif decide ((0 : Int) ≤ (0 : Int)) && decide ((0 : Int) ≤ x4) && decide (x4 ≤ (d.2.1.1.size : Int)) then (
  let x5 : ByteArray := (d.2.1.1.extract (Int.toNat (0 : Int)) (Int.toNat x4))
  let x6 : Bool := (x5.toList == d.2.2.1.1.toList)
  some ((), ((x6, ()), ())))
  else none)
  else (
  some ((), ((false, ()), ())))
def g_internal_stringslite_HasPrefix (d : Unit × ((ByteArray × Unit) × ((ByteArray × Unit) × Unit))) : Option (Unit × ((Bool × Unit) × Unit)) := f_internal_stringslite_HasPrefix_m () d
theorem ok_internal_stringslite_HasPrefix : FnOk Tryz.prog ET0 115 pi_internal_stringslite_HasPrefix po_internal_stringslite_HasPrefix g_internal_stringslite_HasPrefix :=
  fn0 (E := E0) e0_ok (fn := Tryz.f115) Tryz.func115 (by kernel_rfl) (by kernel_rfl) [.tmp 4] (by kernel_rfl) rfl rfl rfl [] fun d => by kernel_rfl

@[reducible] def pi_internal_stringslite_CutPrefix : PSh := ⟨[], [.mk false [vS], .mk false [vS]]⟩
@[reducible] def po_internal_stringslite_CutPrefix : PSh := ⟨[], [.mk false [vS], .mk false [vB]]⟩
def f_internal_stringslite_CutPrefix_m (T : Unit) (d : Unit × ((ByteArray × Unit) × ((ByteArray × Unit) × Unit))) : Option (Unit × ((ByteArray × Unit) × ((Bool × Unit) × Unit))) :=
  (g_internal_stringslite_HasPrefix ((), d.2)).bind fun x1 =>
  let x2 : Bool := (!x1.2.1.1)
  bif x2 then (
  some ((), (d.2.1, ((false, ()), ()))))
  else (
  let x3 : Int := (d.2.2.1.1.size : Int)
  bif decide ((0 : Int) ≤ x3) && decide (x3 ≤ (d.2.1.1.size : Int)) && decide ((d.2.1.1.size : Int) ≤ (d.2.1.1.size : Int)) then (
  let x4 : ByteArray := (d.2.1.1.extract (Int.toNat x3) (Int.toNat (d.2.1.1.size : Int)))
  some ((), ((x4, ()), ((true, ()), ()))))
  else none)
def g_internal_stringslite_CutPrefix (d : Unit × ((ByteArray × Unit) × ((ByteArray × Unit) × Unit))) : Option (Unit × ((ByteArray × Unit) × ((Bool × Unit) × Unit))) := f_internal_stringslite_CutPrefix_m () d
theorem ok_internal_stringslite_CutPrefix : FnOk Tryz.prog ET0 100 pi_internal_stringslite_CutPrefix po_internal_stringslite_CutPrefix g_internal_stringslite_CutPrefix :=
  fn0 (E := (E0.add 115 (typedSem pi_internal_stringslite_HasPrefix po_internal_stringslite_HasPrefix g_internal_stringslite_HasPrefix))) (envOk_add e0_ok (typed_ok ok_internal_stringslite_HasPrefix)) (fn := Tryz.f100) Tryz.func100 (by kernel_rfl) (by kernel_rfl) [.tmp 4, .tmp 5] (by kernel_rfl) rfl rfl rfl [] fun d => by kernel_rfl

@[reducible] def pi_strings_CutPrefix : PSh := ⟨[], [.mk false [vS], .mk false [vS]]⟩
@[reducible] def po_strings_CutPrefix : PSh := ⟨[], [.mk false [vS], .mk false [vB]]⟩
def f_strings_CutPrefix_m (T : Unit) (d : Unit × ((ByteArray × Unit) × ((ByteArray × Unit) × Unit))) : Option (Unit × ((ByteArray × Unit) × ((Bool × Unit) × Unit))) :=
  (g_internal_stringslite_CutPrefix ((), d.2)).bind fun x1 =>
  some ((), x1.2)
def g_strings_CutPrefix (d : Unit × ((ByteArray × Unit) × ((ByteArray × Unit) × Unit))) : Option (Unit × ((ByteArray × Unit) × ((Bool × Unit) × Unit))) := f_strings_CutPrefix_m () d
theorem ok_strings_CutPrefix : FnOk Tryz.prog ET0 66 pi_strings_CutPrefix po_strings_CutPrefix g_strings_CutPrefix :=
  fn0 (E := (E0.add 100 (typedSem pi_internal_stringslite_CutPrefix po_internal_stringslite_CutPrefix g_internal_stringslite_CutPrefix))) (envOk_add e0_ok (typed_ok ok_internal_stringslite_CutPrefix)) (fn := Tryz.f66) Tryz.func66 (by kernel_rfl) (by kernel_rfl) [.tmp 4, .tmp 5] (by kernel_rfl) rfl rfl rfl [] fun d => by kernel_rfl

@[reducible] def pi_tally_count : PSh := ⟨[], [.mk false [vS], .mk false [vI]]⟩
@[reducible] def po_tally_count : PSh := ⟨[], [.mk false [vS], .mk false [vB]]⟩
def f_tally_count_m (T : Unit) (d : Unit × ((ByteArray × Unit) × ((Int × Unit) × Unit))) : Option (Unit × ((ByteArray × Unit) × ((Bool × Unit) × Unit))) :=
  (g_tally_Name ((), d.2.2)).bind fun x1 =>
  bif fitsS x1.2.1.1 (⟨#[32]⟩ : ByteArray) then (
  let x2 : ByteArray := (x1.2.1.1 ++ (⟨#[32]⟩ : ByteArray))
  (g_strings_CutPrefix ((), (d.2.1, ((x2, ()), ())))).bind fun x3 =>
  let x4 : Bool := (!x3.2.2.1.1)
  bif x4 then (
  some ((), (((⟨#[]⟩ : ByteArray), ()), ((false, ()), ()))))
  else (
  let x5 : Bool := (x3.2.1.1.toList == (⟨#[]⟩ : ByteArray).toList)
  bif x5 then (
  some ((), (((⟨#[]⟩ : ByteArray), ()), ((false, ()), ()))))
  else (
  let x6 : Int := (x3.2.1.1.size : Int)
  let x7 : Bool := (decide (x6 > (19 : Int)))
  bif x7 then (
  some ((), (((⟨#[]⟩ : ByteArray), ()), ((false, ()), ()))))
  else (
  (g_strings_Trim ((), (x3.2.1, (((⟨#[48, 49, 50, 51, 52, 53, 54, 55, 56, 57]⟩ : ByteArray), ()), ())))).bind fun x8 =>
  let x9 : Bool := (!(x8.2.1.1.toList == (⟨#[]⟩ : ByteArray).toList))
  bif x9 then (
  some ((), (((⟨#[]⟩ : ByteArray), ()), ((false, ()), ()))))
  else (
  let x10 : Int := (x3.2.1.1.size : Int)
  let x11 : Bool := (decide (x10 > (1 : Int)))
  bif x11 then (
  bif decide ((0 : Int) ≤ (0 : Int)) && decide ((0 : Int) < ((x3.2.1.1.size : Int) : Int)) then (
  let x12 : Int := (bt x3.2.1.1 (0 : Int))
  let x13 : Bool := (x12 == (48 : Int))
  bif x13 then (
  some ((), (((⟨#[]⟩ : ByteArray), ()), ((false, ()), ()))))
  else (
  some ((), (x3.2.1, ((true, ()), ())))))
  else none)
  else (
  some ((), (x3.2.1, ((true, ()), ())))))))))
  else none
def g_tally_count (d : Unit × ((ByteArray × Unit) × ((Int × Unit) × Unit))) : Option (Unit × ((ByteArray × Unit) × ((Bool × Unit) × Unit))) := f_tally_count_m () d
theorem ok_tally_count : FnOk Tryz.prog ET0 41 pi_tally_count po_tally_count g_tally_count :=
  fn0 (E := (((E0.add 18 (typedSem pi_tally_Name po_tally_Name g_tally_Name)).add 66 (typedSem pi_strings_CutPrefix po_strings_CutPrefix g_strings_CutPrefix)).add 67 (typedSem pi_strings_Trim po_strings_Trim g_strings_Trim))) (envOk_add (envOk_add (envOk_add e0_ok (typed_ok ok_tally_Name)) (typed_ok ok_strings_CutPrefix)) (typed_ok ok_strings_Trim)) (fn := Tryz.f41) Tryz.func41 (by kernel_rfl) (by kernel_rfl) [.tmp 4, .tmp 5] (by kernel_rfl) rfl rfl rfl [] fun d => by kernel_rfl

@[reducible] def pi_figures_Is : PSh := ⟨[], [.mk false [v8]]⟩
@[reducible] def po_figures_Is : PSh := ⟨[], [.mk false [vB]]⟩
def f_figures_Is_m (T : Unit) (d : Unit × ((Int × Unit) × Unit)) : Option (Unit × ((Bool × Unit) × Unit)) :=
  let x1 : Bool := (decide (d.2.1.1 ≥ (48 : Int)))
  bif x1 then (
  let x2 : Bool := (decide (d.2.1.1 ≤ (57 : Int)))
  some ((), ((x2, ()), ())))
  else (
  some ((), ((false, ()), ())))
def g_figures_Is (d : Unit × ((Int × Unit) × Unit)) : Option (Unit × ((Bool × Unit) × Unit)) := f_figures_Is_m () d
theorem ok_figures_Is : FnOk Tryz.prog ET0 161 pi_figures_Is po_figures_Is g_figures_Is :=
  fn0 (E := E0) e0_ok (fn := Tryz.f161) Tryz.func161 (by kernel_rfl) (by kernel_rfl) [.tmp 2] (by kernel_rfl) rfl rfl rfl [] fun d => by kernel_rfl

@[reducible] def pi_figures_run : PSh := ⟨[], [.mk false [vS], .mk false [vI]]⟩
@[reducible] def po_figures_run : PSh := ⟨[], [.mk false [vI]]⟩
@[reducible] def TT_figures_run : Type := (((Unit × ((ByteArray × Unit) × ((Int × Unit) × ((Int × Unit) × Unit)))) → Option (Unit × ((Int × Unit) × Unit))) × Unit)
@[reducible] def sh_figures_run_3 : PSh := ⟨[], [.mk false [vS], .mk false [vI], .any, .any, .any, .mk false [vI], .any, .any, .any, .any, .any, .any, .any, .any, .any, .any, .any, .any, .any, .any, .any]⟩
def f_figures_run_p3 (T : TT_figures_run) (d : Unit × ((ByteArray × Unit) × ((Int × Unit) × ((Int × Unit) × Unit)))) : Option (Unit × ((Int × Unit) × Unit)) :=
  let x1 : Int := (d.2.1.1.size : Int)
  let x2 : Int := (if d.2.2.1.1 < x1 then d.2.2.1.1 else x1)
  let x3 : Bool := (decide (d.2.2.2.1.1 < x2))
  bif x3 then (
  bif decide ((0 : Int) ≤ d.2.2.2.1.1) && decide (d.2.2.2.1.1 < ((d.2.1.1.size : Int) : Int)) then (
  let x4 : Int := (bt d.2.1.1 d.2.2.2.1.1)
  (g_figures_Is ((), ((x4, ()), ()))).bind fun x5 =>
  bif x5.2.1.1 then (
  let x6 : Int := (iadd .i64 d.2.2.2.1.1 (1 : Int))
  (T.1 ((), (d.2.1, (d.2.2.1, ((x6, ()), ()))))))
  else (
  some ((), d.2.2.2)))
  else none)
  else (
  some ((), d.2.2.2))
def f_figures_run_t : Nat → TT_figures_run
  | 0 => (fun _ => none, ())
  | k + 1 => (f_figures_run_p3 (f_figures_run_t k), ())
theorem t_figures_run (k : Nat) : f_figures_run_t (k + 1) = (f_figures_run_p3 (f_figures_run_t k), ()) := rfl
def f_figures_run_m (T : TT_figures_run) (d : Unit × ((ByteArray × Unit) × ((Int × Unit) × Unit))) : Option (Unit × ((Int × Unit) × Unit)) :=
  (T.1 ((), (d.2.1, (d.2.2.1, (((0 : Int), ()), ())))))
def c_figures_run : List Nat := []
def L_figures_run (k : Nat) : Pts po_figures_run.den := [(3, ⟨sh_figures_run_3, (f_figures_run_t k).1⟩)]
def R_figures_run (_ : Nat) : PtsR po_figures_run.den := []
def E_figures_run : Env := (E0.add 161 (typedSem pi_figures_Is po_figures_Is g_figures_Is))
theorem q_figures_run_3 (k : Nat) (d : sh_figures_run_3.den) : evAt E_figures_run (tb (L_figures_run k) (R_figures_run k)) c_figures_run 3 (bodyOf Tryz.f142) 0 (finK E_figures_run po_figures_run [.tmp 4]) (ptSt sh_figures_run_3 d) = f_figures_run_p3 (f_figures_run_t k) d := by kernel_rfl
theorem q_figures_run_m (k : Nat) (d : pi_figures_run.den) : evCode E_figures_run (tb (L_figures_run k) (R_figures_run k)) c_figures_run (bodyOf Tryz.f142) 0 (finK E_figures_run po_figures_run [.tmp 4]) (startSt pi_figures_run 21 d) = f_figures_run_m (f_figures_run_t k) d := by kernel_rfl
def g_figures_run (d : Unit × ((ByteArray × Unit) × ((Int × Unit) × Unit))) : Option (Unit × ((Int × Unit) × Unit)) := lim fun k => f_figures_run_m (f_figures_run_t k) d
theorem ok_figures_run : FnOk Tryz.prog ET0 142 pi_figures_run po_figures_run g_figures_run :=
  fn_of_body (E := E_figures_run) (envOk_add e0_ok (typed_ok ok_figures_Is)) (fn := Tryz.f142) Tryz.func142 (by kernel_rfl) (by kernel_rfl) [.tmp 4] (by kernel_rfl) (by kernel_rfl) (by decide) rfl c_figures_run L_figures_run R_figures_run
    (by intro x hx d; simp only [L_figures_run, List.mem_cons, List.not_mem_nil, or_false] at hx; subst hx; rfl)
    (by intro k x hx d out h; simp only [L_figures_run, List.mem_cons, List.not_mem_nil, or_false] at hx; subst hx; exact (q_figures_run_3 k d).trans h)
    (by intro x hx; cases hx)
    (by intro k x hx; cases hx)
    (by intro d out h; obtain ⟨k, hk⟩ := lim_some h; exact ⟨k, (q_figures_run_m k d).trans hk⟩)

@[reducible] def pi_figures_value : PSh := ⟨[], [.mk false [vS], .mk false [.v (.int .u64)]]⟩
@[reducible] def po_figures_value : PSh := ⟨[], [.mk false [.v (.int .u64)], .mk false [vE]]⟩
@[reducible] def TT_figures_value : Type := (((Unit × ((ByteArray × Unit) × ((Int × Unit) × ((Int × Unit) × ((Int × Unit) × ((Int × Unit) × Unit)))))) → Option (Unit × ((Int × Unit) × (((Option Int) × Unit) × Unit)))) × Unit)
@[reducible] def sh_figures_value_4 : PSh := ⟨[], [.mk false [vS], .mk false [.v (.int .u64)], .any, .any, .any, .any, .mk false [.v (.int .u64)], .any, .any, .any, .mk false [vI], .mk false [vI], .any, .any, .any, .any, .any, .any, .any, .any, .any, .any, .any, .any, .any, .any, .any, .any, .any, .any, .any, .any]⟩
def f_figures_value_p4 (T : TT_figures_value) (d : Unit × ((ByteArray × Unit) × ((Int × Unit) × ((Int × Unit) × ((Int × Unit) × ((Int × Unit) × Unit)))))) : Option (Unit × ((Int × Unit) × (((Option Int) × Unit) × Unit))) :=
  let x2 : Bool := (decide (d.2.2.2.2.2.1.1 < d.2.2.2.2.1.1))
  bif x2 then (
  bif decide ((0 : Int) ≤ d.2.2.2.2.2.1.1) && decide (d.2.2.2.2.2.1.1 < ((d.2.1.1.size : Int) : Int)) then (
  let x3 : Int := (bt d.2.1.1 d.2.2.2.2.2.1.1)
  let x4 : Int := (isub .u8 x3 (48 : Int))
  let x5 : Int := (iconv .u64 x4)
  let x6 : Int := (isub .u64 d.2.2.1.1 x5)
  let x7 : Int := (iquo .u64 x6 (10 : Int))
  let x8 : Bool := (decide (d.2.2.2.1.1 > x7))
  bif x8 then (
  let x9 : (Option Int) := (some (5 : Int))
  some ((), (((0 : Int), ()), ((x9, ()), ()))))
  else (
  let x10 : Int := (imul .u64 d.2.2.2.1.1 (10 : Int))
  let x11 : Int := (iadd .u64 x10 x5)
  let x12 : Int := (iadd .i64 d.2.2.2.2.2.1.1 (1 : Int))
  (T.1 ((), (d.2.1, (d.2.2.1, ((x11, ()), (d.2.2.2.2.1, ((x12, ()), ())))))))))
  else none)
  else (
  some ((), (d.2.2.2.1, (((none : Option Int), ()), ()))))
def f_figures_value_t : Nat → TT_figures_value
  | 0 => (fun _ => none, ())
  | k + 1 => (f_figures_value_p4 (f_figures_value_t k), ())
theorem t_figures_value (k : Nat) : f_figures_value_t (k + 1) = (f_figures_value_p4 (f_figures_value_t k), ()) := rfl
def f_figures_value_m (T : TT_figures_value) (d : Unit × ((ByteArray × Unit) × ((Int × Unit) × Unit))) : Option (Unit × ((Int × Unit) × (((Option Int) × Unit) × Unit))) :=
  let x1 : Int := (d.2.1.1.size : Int)
  (T.1 ((), (d.2.1, (d.2.2.1, (((0 : Int), ()), ((x1, ()), (((0 : Int), ()), ())))))))
def c_figures_value : List Nat := []
def L_figures_value (k : Nat) : Pts po_figures_value.den := [(4, ⟨sh_figures_value_4, (f_figures_value_t k).1⟩)]
def R_figures_value (_ : Nat) : PtsR po_figures_value.den := []
def E_figures_value : Env := E0
theorem q_figures_value_4 (k : Nat) (d : sh_figures_value_4.den) : evAt E_figures_value (tb (L_figures_value k) (R_figures_value k)) c_figures_value 4 (bodyOf Tryz.f143) 0 (finK E_figures_value po_figures_value [.tmp 4, .tmp 5]) (ptSt sh_figures_value_4 d) = f_figures_value_p4 (f_figures_value_t k) d := by kernel_rfl
theorem q_figures_value_m (k : Nat) (d : pi_figures_value.den) : evCode E_figures_value (tb (L_figures_value k) (R_figures_value k)) c_figures_value (bodyOf Tryz.f143) 0 (finK E_figures_value po_figures_value [.tmp 4, .tmp 5]) (startSt pi_figures_value 32 d) = f_figures_value_m (f_figures_value_t k) d := by kernel_rfl
def g_figures_value (d : Unit × ((ByteArray × Unit) × ((Int × Unit) × Unit))) : Option (Unit × ((Int × Unit) × (((Option Int) × Unit) × Unit))) := lim fun k => f_figures_value_m (f_figures_value_t k) d
theorem ok_figures_value : FnOk Tryz.prog ET0 143 pi_figures_value po_figures_value g_figures_value :=
  fn_of_body (E := E_figures_value) e0_ok (fn := Tryz.f143) Tryz.func143 (by kernel_rfl) (by kernel_rfl) [.tmp 4, .tmp 5] (by kernel_rfl) (by kernel_rfl) (by decide) rfl c_figures_value L_figures_value R_figures_value
    (by intro x hx d; simp only [L_figures_value, List.mem_cons, List.not_mem_nil, or_false] at hx; subst hx; rfl)
    (by intro k x hx d out h; simp only [L_figures_value, List.mem_cons, List.not_mem_nil, or_false] at hx; subst hx; exact (q_figures_value_4 k d).trans h)
    (by intro x hx; cases hx)
    (by intro k x hx; cases hx)
    (by intro d out h; obtain ⟨k, hk⟩ := lim_some h; exact ⟨k, (q_figures_value_m k d).trans hk⟩)

@[reducible] def pi_figures_take : PSh := ⟨[], [.mk false [vS], .mk false [vI], .mk false [vI], .mk false [.v (.int .u64)]]⟩
@[reducible] def po_figures_take : PSh := ⟨[], [.mk false [.v (.int .u64)], .mk false [vI], .mk false [vE]]⟩
def f_figures_take_m (T : Unit) (d : Unit × ((ByteArray × Unit) × ((Int × Unit) × ((Int × Unit) × ((Int × Unit) × Unit))))) : Option (Unit × ((Int × Unit) × ((Int × Unit) × (((Option Int) × Unit) × Unit)))) :=
  let x1 : Bool := (decide (d.2.2.1.1 < (1 : Int)))
  bif x1 then (
  let x2 : (Option Int) := (some (1 : Int))
  some ((), (((0 : Int), ()), (((0 : Int), ()), ((x2, ()), ())))))
  else (
  let x3 : Bool := (decide (d.2.2.1.1 > d.2.2.2.1.1))
  bif x3 then (
  let x4 : (Option Int) := (some (1 : Int))
  some ((), (((0 : Int), ()), (((0 : Int), ()), ((x4, ()), ())))))
  else (
  let x5 : Bool := (decide (d.2.2.2.1.1 > (20 : Int)))
  bif x5 then (
  let x6 : (Option Int) := (some (1 : Int))
  some ((), (((0 : Int), ()), (((0 : Int), ()), ((x6, ()), ())))))
  else (
  (g_figures_run ((), (d.2.1, (d.2.2.2.1, ())))).bind fun x7 =>
  let x8 : Bool := (decide (x7.2.1.1 < d.2.2.1.1))
  bif x8 then (
  let x9 : (Option Int) := (some (2 : Int))
  some ((), (((0 : Int), ()), (((0 : Int), ()), ((x9, ()), ())))))
  else (
  bif decide ((0 : Int) ≤ (0 : Int)) && decide ((0 : Int) ≤ x7.2.1.1) && decide (x7.2.1.1 ≤ (d.2.1.1.size : Int)) then (
  let x10 : ByteArray := (d.2.1.1.extract (Int.toNat (0 : Int)) (Int.toNat x7.2.1.1))
  (g_figures_value ((), ((x10, ()), d.2.2.2.2))).bind fun x11 =>
  let x12 : Bool := (!x11.2.2.1.1.isNone)
  bif x12 then (
  some ((), (((0 : Int), ()), (((0 : Int), ()), x11.2.2))))
  else (
  some ((), (x11.2.1, (x7.2.1, (((none : Option Int), ()), ()))))))
  else none))))
def g_figures_take (d : Unit × ((ByteArray × Unit) × ((Int × Unit) × ((Int × Unit) × ((Int × Unit) × Unit))))) : Option (Unit × ((Int × Unit) × ((Int × Unit) × (((Option Int) × Unit) × Unit)))) := f_figures_take_m () d
theorem ok_figures_take : FnOk Tryz.prog ET0 108 pi_figures_take po_figures_take g_figures_take :=
  fn0 (E := ((E0.add 142 (typedSem pi_figures_run po_figures_run g_figures_run)).add 143 (typedSem pi_figures_value po_figures_value g_figures_value))) (envOk_add (envOk_add e0_ok (typed_ok ok_figures_run)) (typed_ok ok_figures_value)) (fn := Tryz.f108) Tryz.func108 (by kernel_rfl) (by kernel_rfl) [.tmp 8, .tmp 9, .tmp 10] (by kernel_rfl) rfl rfl rfl [] fun d => by kernel_rfl

@[reducible] def pi_figures_whole : PSh := ⟨[], [.mk false [vS], .mk false [vI], .mk false [vI], .mk false [.v (.int .u64)]]⟩
@[reducible] def po_figures_whole : PSh := ⟨[], [.mk false [.v (.int .u64)], .mk false [vE]]⟩
def f_figures_whole_m (T : Unit) (d : Unit × ((ByteArray × Unit) × ((Int × Unit) × ((Int × Unit) × ((Int × Unit) × Unit))))) : Option (Unit × ((Int × Unit) × (((Option Int) × Unit) × Unit))) :=
  (g_figures_take ((), d.2)).bind fun x1 =>
  let x2 : Bool := (!x1.2.2.2.1.1.isNone)
  bif x2 then (
  some ((), (((0 : Int), ()), x1.2.2.2)))
  else (
  let x3 : Int := (d.2.1.1.size : Int)
  let x4 : Bool := (decide (x1.2.2.1.1 < x3))
  bif x4 then (
  let x5 : (Option Int) := (some (2 : Int))
  some ((), (((0 : Int), ()), ((x5, ()), ()))))
  else (
  some ((), (x1.2.1, (((none : Option Int), ()), ())))))
def g_figures_whole (d : Unit × ((ByteArray × Unit) × ((Int × Unit) × ((Int × Unit) × ((Int × Unit) × Unit))))) : Option (Unit × ((Int × Unit) × (((Option Int) × Unit) × Unit))) := f_figures_whole_m () d
theorem ok_figures_whole : FnOk Tryz.prog ET0 68 pi_figures_whole po_figures_whole g_figures_whole :=
  fn0 (E := (E0.add 108 (typedSem pi_figures_take po_figures_take g_figures_take))) (envOk_add e0_ok (typed_ok ok_figures_take)) (fn := Tryz.f68) Tryz.func68 (by kernel_rfl) (by kernel_rfl) [.tmp 8, .tmp 9] (by kernel_rfl) rfl rfl rfl [] fun d => by kernel_rfl

@[reducible] def pi_figures_Whole : PSh := ⟨[], [.mk false [vS], .mk false [vI], .mk false [vI]]⟩
@[reducible] def po_figures_Whole : PSh := ⟨[], [.mk false [vI], .mk false [vE]]⟩
def f_figures_Whole_m (T : Unit) (d : Unit × ((ByteArray × Unit) × ((Int × Unit) × ((Int × Unit) × Unit)))) : Option (Unit × ((Int × Unit) × (((Option Int) × Unit) × Unit))) :=
  (g_figures_whole ((), (d.2.1, (d.2.2.1, (d.2.2.2.1, (((9223372036854775807 : Int), ()), ())))))).bind fun x1 =>
  let x2 : Int := (iconv .i64 x1.2.1.1)
  some ((), ((x2, ()), x1.2.2))
def g_figures_Whole (d : Unit × ((ByteArray × Unit) × ((Int × Unit) × ((Int × Unit) × Unit)))) : Option (Unit × ((Int × Unit) × (((Option Int) × Unit) × Unit))) := f_figures_Whole_m () d
theorem ok_figures_Whole : FnOk Tryz.prog ET0 42 pi_figures_Whole po_figures_Whole g_figures_Whole :=
  fn0 (E := (E0.add 68 (typedSem pi_figures_whole po_figures_whole g_figures_whole))) (envOk_add e0_ok (typed_ok ok_figures_whole)) (fn := Tryz.f42) Tryz.func42 (by kernel_rfl) (by kernel_rfl) [.tmp 6, .tmp 7] (by kernel_rfl) rfl rfl rfl [] fun d => by kernel_rfl

@[reducible] def pi_tally_Parse : PSh := ⟨[], [.mk false [vS]]⟩
@[reducible] def po_tally_Parse : PSh := ⟨[], [.mk false [.v (.nptr (.pair (.int .i64) (.pair (.int .i64) (.pair (.int .i64) (.pair (.int .i64) (.pair (.int .i64) (.pair (.int .i64) (.pair (.int .i64) (.pair (.int .i64) (.pair (.int .i64) (.pair (.int .i64) (.pair (.int .i64) (.int .i64)))))))))))))], .mk false [vE]]⟩
@[reducible] def TT_tally_Parse : Type := (((((ByteArray × (ByteArray × (ByteArray × (ByteArray × (ByteArray × (ByteArray × (ByteArray × (ByteArray × (ByteArray × (ByteArray × (ByteArray × (ByteArray × Unit)))))))))))) × Unit) × (Unit × (((List ByteArray) × Unit) × ((Int × Unit) × ((Int × Unit) × Unit))))) → Option (Unit × (((Option (Int × (Int × (Int × (Int × (Int × (Int × (Int × (Int × (Int × (Int × (Int × Int)))))))))))) × Unit) × (((Option Int) × Unit) × Unit)))) × (((((ByteArray × (ByteArray × (ByteArray × (ByteArray × (ByteArray × (ByteArray × (ByteArray × (ByteArray × (ByteArray × (ByteArray × (ByteArray × (ByteArray × Unit)))))))))))) × Unit) × (Unit × (((List ByteArray) × Unit) × ((Int × Unit) × ((Int × Unit) × Unit))))) → Option (Unit × (((Option (Int × (Int × (Int × (Int × (Int × (Int × (Int × (Int × (Int × (Int × (Int × Int)))))))))))) × Unit) × (((Option Int) × Unit) × Unit)))) × (((((Int × (Int × (Int × (Int × (Int × (Int × (Int × (Int × (Int × (Int × (Int × (Int × Unit)))))))))))) × Unit) × (Unit × ((ByteArray × (ByteArray × (ByteArray × (ByteArray × (ByteArray × (ByteArray × (ByteArray × (ByteArray × (ByteArray × (ByteArray × (ByteArray × (ByteArray × Unit)))))))))))) × ((Int × Unit) × Unit)))) → Option (Unit × (((Option (Int × (Int × (Int × (Int × (Int × (Int × (Int × (Int × (Int × (Int × (Int × Int)))))))))))) × Unit) × (((Option Int) × Unit) × Unit)))) × (((((Int × (Int × (Int × (Int × (Int × (Int × (Int × (Int × (Int × (Int × (Int × (Int × Unit)))))))))))) × Unit) × (Unit × ((Int × Unit) × ((ByteArray × Unit) × ((ByteArray × (ByteArray × (ByteArray × (ByteArray × (ByteArray × (ByteArray × (ByteArray × (ByteArray × (ByteArray × (ByteArray × (ByteArray × (ByteArray × Unit)))))))))))) × ((Int × Unit) × Unit)))))) → Option (Unit × (((Option (Int × (Int × (Int × (Int × (Int × (Int × (Int × (Int × (Int × (Int × (Int × Int)))))))))))) × Unit) × (((Option Int) × Unit) × Unit)))) × Unit))))
@[reducible] def sh_tally_Parse_8 : PSh := ⟨[.var 81 [vS, vS, vS, vS, vS, vS, vS, vS, vS, vS, vS, vS]], [.any, .any, .any, .any, .any, .mk false [.ref 0 0], .any, .any, .any, .any, .any, .any, .any, .any, .any, .any, .any, .any, .any, .any, .any, .any, .any, .any, .any, .any, .any, .any, .mk false [.v (.sl .str)], .mk false [vI], .mk false [vI], .any, .any, .any, .any, .any, .any, .any, .any, .any, .any, .any, .any, .any, .any, .any, .any, .any, .any, .any, .any, .any, .any, .any, .any, .any, .any, .any, .any, .any, .any, .any, .any, .any, .any, .any, .any, .any, .any, .any, .any]⟩
@[reducible] def sh_tally_Parse_11 : PSh := ⟨[.var 81 [vS, vS, vS, vS, vS, vS, vS, vS, vS, vS, vS, vS]], [.any, .any, .any, .any, .any, .mk false [.ref 0 0], .any, .any, .any, .any, .any, .any, .any, .any, .any, .any, .any, .any, .any, .any, .any, .any, .any, .any, .any, .any, .any, .any, .mk false [.v (.sl .str)], .mk false [vI], .mk false [vI], .any, .any, .any, .any, .any, .any, .any, .any, .any, .any, .any, .any, .any, .any, .any, .any, .any, .any, .any, .any, .any, .any, .any, .any, .any, .any, .any, .any, .any, .any, .any, .any, .any, .any, .any, .any, .any, .any, .any, .any]⟩
@[reducible] def sh_tally_Parse_20 : PSh := ⟨[.var 76 [vI, vI, vI, vI, vI, vI, vI, vI, vI, vI, vI, vI]], [.any, .any, .any, .any, .any, .any, .any, .any, .any, .any, .mk false [.ref 0 0], .any, .any, .any, .any, .any, .any, .any, .any, .any, .any, .any, .any, .any, .any, .any, .any, .any, .any, .any, .any, .any, .any, .any, .any, .any, .any, .any, .any, .any, .any, .any, .any, .any, .any, .any, .any, .any, .any, .any, .mk true [vS, vS, vS, vS, vS, vS, vS, vS, vS, vS, vS, vS], .mk false [vI], .any, .any, .any, .any, .any, .any, .any, .any, .any, .any, .any, .any, .any, .any, .any, .any, .any, .any, .any]⟩
@[reducible] def sh_tally_Parse_24 : PSh := ⟨[.var 76 [vI, vI, vI, vI, vI, vI, vI, vI, vI, vI, vI, vI]], [.any, .any, .any, .any, .any, .any, .any, .any, .any, .any, .mk false [.ref 0 0], .mk false [vI], .mk false [vS], .any, .any, .any, .any, .any, .any, .any, .any, .any, .any, .any, .any, .any, .any, .any, .any, .any, .any, .any, .any, .any, .any, .any, .any, .any, .any, .any, .any, .any, .any, .any, .any, .any, .any, .any, .any, .any, .mk true [vS, vS, vS, vS, vS, vS, vS, vS, vS, vS, vS, vS], .mk false [vI], .any, .any, .any, .any, .any, .any, .any, .any, .any, .any, .any, .any, .any, .any, .any, .any, .any, .any, .any]⟩
def f_tally_Parse_p8 (T : TT_tally_Parse) (d : ((ByteArray × (ByteArray × (ByteArray × (ByteArray × (ByteArray × (ByteArray × (ByteArray × (ByteArray × (ByteArray × (ByteArray × (ByteArray × (ByteArray × Unit)))))))))))) × Unit) × (Unit × (((List ByteArray) × Unit) × ((Int × Unit) × ((Int × Unit) × Unit))))) : Option (Unit × (((Option (Int × (Int × (Int × (Int × (Int × (Int × (Int × (Int × (Int × (Int × (Int × Int)))))))))))) × Unit) × (((Option Int) × Unit) × Unit))) :=
  let x9 : Bool := (decide (d.2.2.2.2.1.1 < d.2.2.2.1.1))
  bif x9 then (
  bif decide ((0 : Int) ≤ d.2.2.2.2.1.1) && decide (d.2.2.2.2.1.1 < (d.2.2.1.1.length : Int)) then (
  let x10 : Int := (iadd .i64 d.2.2.2.2.1.1 (1 : Int))
  (g_tally_count ((), (((gd .str d.2.2.1.1 d.2.2.2.2.1.1), ()), ((x10, ()), ())))).bind fun x11 =>
  let x12 : Bool := (!x11.2.2.1.1)
  bif x12 then (
  let x13 : (Option Int) := (some (2 : Int))
  some ((), (((none : Option (Int × (Int × (Int × (Int × (Int × (Int × (Int × (Int × (Int × (Int × (Int × Int)))))))))))), ()), ((x13, ()), ()))))
  else (
  bif decide ((0 : Int) ≤ d.2.2.2.2.1.1) && decide (d.2.2.2.2.1.1 < (12 : Int)) then (
  bif decide (d.2.2.2.2.1.1 = (0 : Int)) then (
  (T.2.1 (((x11.2.1.1, d.1.1.2), ()), ((), d.2.2))))
  else (
  bif decide (d.2.2.2.2.1.1 = (1 : Int)) then (
  (T.2.1 (((d.1.1.1, (x11.2.1.1, d.1.1.2.2)), ()), ((), d.2.2))))
  else (
  bif decide (d.2.2.2.2.1.1 = (2 : Int)) then (
  (T.2.1 (((d.1.1.1, (d.1.1.2.1, (x11.2.1.1, d.1.1.2.2.2))), ()), ((), d.2.2))))
  else (
  bif decide (d.2.2.2.2.1.1 = (3 : Int)) then (
  (T.2.1 (((d.1.1.1, (d.1.1.2.1, (d.1.1.2.2.1, (x11.2.1.1, d.1.1.2.2.2.2)))), ()), ((), d.2.2))))
  else (
  bif decide (d.2.2.2.2.1.1 = (4 : Int)) then (
  (T.2.1 (((d.1.1.1, (d.1.1.2.1, (d.1.1.2.2.1, (d.1.1.2.2.2.1, (x11.2.1.1, d.1.1.2.2.2.2.2))))), ()), ((), d.2.2))))
  else (
  bif decide (d.2.2.2.2.1.1 = (5 : Int)) then (
  (T.2.1 (((d.1.1.1, (d.1.1.2.1, (d.1.1.2.2.1, (d.1.1.2.2.2.1, (d.1.1.2.2.2.2.1, (x11.2.1.1, d.1.1.2.2.2.2.2.2)))))), ()), ((), d.2.2))))
  else (
  bif decide (d.2.2.2.2.1.1 = (6 : Int)) then (
  (T.2.1 (((d.1.1.1, (d.1.1.2.1, (d.1.1.2.2.1, (d.1.1.2.2.2.1, (d.1.1.2.2.2.2.1, (d.1.1.2.2.2.2.2.1, (x11.2.1.1, d.1.1.2.2.2.2.2.2.2))))))), ()), ((), d.2.2))))
  else (
  bif decide (d.2.2.2.2.1.1 = (7 : Int)) then (
  (T.2.1 (((d.1.1.1, (d.1.1.2.1, (d.1.1.2.2.1, (d.1.1.2.2.2.1, (d.1.1.2.2.2.2.1, (d.1.1.2.2.2.2.2.1, (d.1.1.2.2.2.2.2.2.1, (x11.2.1.1, d.1.1.2.2.2.2.2.2.2.2)))))))), ()), ((), d.2.2))))
  else (
  bif decide (d.2.2.2.2.1.1 = (8 : Int)) then (
  (T.2.1 (((d.1.1.1, (d.1.1.2.1, (d.1.1.2.2.1, (d.1.1.2.2.2.1, (d.1.1.2.2.2.2.1, (d.1.1.2.2.2.2.2.1, (d.1.1.2.2.2.2.2.2.1, (d.1.1.2.2.2.2.2.2.2.1, (x11.2.1.1, d.1.1.2.2.2.2.2.2.2.2.2))))))))), ()), ((), d.2.2))))
  else (
  bif decide (d.2.2.2.2.1.1 = (9 : Int)) then (
  (T.2.1 (((d.1.1.1, (d.1.1.2.1, (d.1.1.2.2.1, (d.1.1.2.2.2.1, (d.1.1.2.2.2.2.1, (d.1.1.2.2.2.2.2.1, (d.1.1.2.2.2.2.2.2.1, (d.1.1.2.2.2.2.2.2.2.1, (d.1.1.2.2.2.2.2.2.2.2.1, (x11.2.1.1, d.1.1.2.2.2.2.2.2.2.2.2.2)))))))))), ()), ((), d.2.2))))
  else (
  bif decide (d.2.2.2.2.1.1 = (10 : Int)) then (
  (T.2.1 (((d.1.1.1, (d.1.1.2.1, (d.1.1.2.2.1, (d.1.1.2.2.2.1, (d.1.1.2.2.2.2.1, (d.1.1.2.2.2.2.2.1, (d.1.1.2.2.2.2.2.2.1, (d.1.1.2.2.2.2.2.2.2.1, (d.1.1.2.2.2.2.2.2.2.2.1, (d.1.1.2.2.2.2.2.2.2.2.2.1, (x11.2.1.1, d.1.1.2.2.2.2.2.2.2.2.2.2.2))))))))))), ()), ((), d.2.2))))
  else (
  bif decide (d.2.2.2.2.1.1 = (11 : Int)) then (
  (T.2.1 (((d.1.1.1, (d.1.1.2.1, (d.1.1.2.2.1, (d.1.1.2.2.2.1, (d.1.1.2.2.2.2.1, (d.1.1.2.2.2.2.2.1, (d.1.1.2.2.2.2.2.2.1, (d.1.1.2.2.2.2.2.2.2.1, (d.1.1.2.2.2.2.2.2.2.2.1, (d.1.1.2.2.2.2.2.2.2.2.2.1, (d.1.1.2.2.2.2.2.2.2.2.2.2.1, x11.2.1))))))))))), ()), ((), d.2.2))))
  else (
  none)))))))))))))
  else none))
  else none)
  else (
  (g_tally_New ((), ())).bind fun x14 =>
  (T.2.2.1 (x14.1, ((), (d.1.1, (((0 : Int), ()), ()))))))
def f_tally_Parse_p11 (T : TT_tally_Parse) (d : ((ByteArray × (ByteArray × (ByteArray × (ByteArray × (ByteArray × (ByteArray × (ByteArray × (ByteArray × (ByteArray × (ByteArray × (ByteArray × (ByteArray × Unit)))))))))))) × Unit) × (Unit × (((List ByteArray) × Unit) × ((Int × Unit) × ((Int × Unit) × Unit))))) : Option (Unit × (((Option (Int × (Int × (Int × (Int × (Int × (Int × (Int × (Int × (Int × (Int × (Int × Int)))))))))))) × Unit) × (((Option Int) × Unit) × Unit))) :=
  let x15 : Int := (iadd .i64 d.2.2.2.2.1.1 (1 : Int))
  (T.1 (d.1, ((), (d.2.2.1, (d.2.2.2.1, ((x15, ()), ()))))))
def f_tally_Parse_p20 (T : TT_tally_Parse) (d : ((Int × (Int × (Int × (Int × (Int × (Int × (Int × (Int × (Int × (Int × (Int × (Int × Unit)))))))))))) × Unit) × (Unit × ((ByteArray × (ByteArray × (ByteArray × (ByteArray × (ByteArray × (ByteArray × (ByteArray × (ByteArray × (ByteArray × (ByteArray × (ByteArray × (ByteArray × Unit)))))))))))) × ((Int × Unit) × Unit)))) : Option (Unit × (((Option (Int × (Int × (Int × (Int × (Int × (Int × (Int × (Int × (Int × (Int × (Int × Int)))))))))))) × Unit) × (((Option Int) × Unit) × Unit))) :=
  let x16 : Bool := (decide (d.2.2.2.1.1 < (12 : Int)))
  bif x16 then (
  bif decide ((0 : Int) ≤ d.2.2.2.1.1) && decide (d.2.2.2.1.1 < (12 : Int)) then (
  bif decide (d.2.2.2.1.1 = (0 : Int)) then (
  (T.2.2.2.1 (d.1, ((), (d.2.2.2.1, ((d.2.2.1.1, ()), d.2.2))))))
  else (
  bif decide (d.2.2.2.1.1 = (1 : Int)) then (
  (T.2.2.2.1 (d.1, ((), (d.2.2.2.1, ((d.2.2.1.2.1, ()), d.2.2))))))
  else (
  bif decide (d.2.2.2.1.1 = (2 : Int)) then (
  (T.2.2.2.1 (d.1, ((), (d.2.2.2.1, ((d.2.2.1.2.2.1, ()), d.2.2))))))
  else (
  bif decide (d.2.2.2.1.1 = (3 : Int)) then (
  (T.2.2.2.1 (d.1, ((), (d.2.2.2.1, ((d.2.2.1.2.2.2.1, ()), d.2.2))))))
  else (
  bif decide (d.2.2.2.1.1 = (4 : Int)) then (
  (T.2.2.2.1 (d.1, ((), (d.2.2.2.1, ((d.2.2.1.2.2.2.2.1, ()), d.2.2))))))
  else (
  bif decide (d.2.2.2.1.1 = (5 : Int)) then (
  (T.2.2.2.1 (d.1, ((), (d.2.2.2.1, ((d.2.2.1.2.2.2.2.2.1, ()), d.2.2))))))
  else (
  bif decide (d.2.2.2.1.1 = (6 : Int)) then (
  (T.2.2.2.1 (d.1, ((), (d.2.2.2.1, ((d.2.2.1.2.2.2.2.2.2.1, ()), d.2.2))))))
  else (
  bif decide (d.2.2.2.1.1 = (7 : Int)) then (
  (T.2.2.2.1 (d.1, ((), (d.2.2.2.1, ((d.2.2.1.2.2.2.2.2.2.2.1, ()), d.2.2))))))
  else (
  bif decide (d.2.2.2.1.1 = (8 : Int)) then (
  (T.2.2.2.1 (d.1, ((), (d.2.2.2.1, ((d.2.2.1.2.2.2.2.2.2.2.2.1, ()), d.2.2))))))
  else (
  bif decide (d.2.2.2.1.1 = (9 : Int)) then (
  (T.2.2.2.1 (d.1, ((), (d.2.2.2.1, ((d.2.2.1.2.2.2.2.2.2.2.2.2.1, ()), d.2.2))))))
  else (
  bif decide (d.2.2.2.1.1 = (10 : Int)) then (
  (T.2.2.2.1 (d.1, ((), (d.2.2.2.1, ((d.2.2.1.2.2.2.2.2.2.2.2.2.2.1, ()), d.2.2))))))
  else (
  bif decide (d.2.2.2.1.1 = (11 : Int)) then (
  (T.2.2.2.1 (d.1, ((), (d.2.2.2.1, (d.2.2.1.2.2.2.2.2.2.2.2.2.2.2, d.2.2))))))
  else (
  none)))))))))))))
  else none)
  else (
  some ((), (((some (d.1.1.1, (d.1.1.2.1, (d.1.1.2.2.1, (d.1.1.2.2.2.1, (d.1.1.2.2.2.2.1, (d.1.1.2.2.2.2.2.1, (d.1.1.2.2.2.2.2.2.1, (d.1.1.2.2.2.2.2.2.2.1, (d.1.1.2.2.2.2.2.2.2.2.1, (d.1.1.2.2.2.2.2.2.2.2.2.1, (d.1.1.2.2.2.2.2.2.2.2.2.2.1, d.1.1.2.2.2.2.2.2.2.2.2.2.2.1)))))))))))), ()), (((none : Option Int), ()), ()))))
def f_tally_Parse_p24 (T : TT_tally_Parse) (d : ((Int × (Int × (Int × (Int × (Int × (Int × (Int × (Int × (Int × (Int × (Int × (Int × Unit)))))))))))) × Unit) × (Unit × ((Int × Unit) × ((ByteArray × Unit) × ((ByteArray × (ByteArray × (ByteArray × (ByteArray × (ByteArray × (ByteArray × (ByteArray × (ByteArray × (ByteArray × (ByteArray × (ByteArray × (ByteArray × Unit)))))))))))) × ((Int × Unit) × Unit)))))) : Option (Unit × (((Option (Int × (Int × (Int × (Int × (Int × (Int × (Int × (Int × (Int × (Int × (Int × Int)))))))))))) × Unit) × (((Option Int) × Unit) × Unit))) :=
  (g_figures_Whole ((), (d.2.2.2.1, (((1 : Int), ()), (((19 : Int), ()), ()))))).bind fun x17 =>
  let x18 : Bool := (!x17.2.2.1.1.isNone)
  bif x18 then (
  some ((), (((none : Option (Int × (Int × (Int × (Int × (Int × (Int × (Int × (Int × (Int × (Int × (Int × Int)))))))))))), ()), x17.2.2)))
  else (
  bif decide ((0 : Int) ≤ d.2.2.1.1) && decide (d.2.2.1.1 < (12 : Int)) then (
  bif decide (d.2.2.1.1 = (0 : Int)) then (
  let x30 : Int := (iadd .i64 d.2.2.2.2.2.1.1 (1 : Int))
  (T.2.2.1 (((x17.2.1.1, d.1.1.2), ()), ((), (d.2.2.2.2.1, ((x30, ()), ()))))))
  else (
  bif decide (d.2.2.1.1 = (1 : Int)) then (
  let x29 : Int := (iadd .i64 d.2.2.2.2.2.1.1 (1 : Int))
  (T.2.2.1 (((d.1.1.1, (x17.2.1.1, d.1.1.2.2)), ()), ((), (d.2.2.2.2.1, ((x29, ()), ()))))))
  else (
  bif decide (d.2.2.1.1 = (2 : Int)) then (
  let x28 : Int := (iadd .i64 d.2.2.2.2.2.1.1 (1 : Int))
  (T.2.2.1 (((d.1.1.1, (d.1.1.2.1, (x17.2.1.1, d.1.1.2.2.2))), ()), ((), (d.2.2.2.2.1, ((x28, ()), ()))))))
  else (
  bif decide (d.2.2.1.1 = (3 : Int)) then (
  let x27 : Int := (iadd .i64 d.2.2.2.2.2.1.1 (1 : Int))
  (T.2.2.1 (((d.1.1.1, (d.1.1.2.1, (d.1.1.2.2.1, (x17.2.1.1, d.1.1.2.2.2.2)))), ()), ((), (d.2.2.2.2.1, ((x27, ()), ()))))))
  else (
  bif decide (d.2.2.1.1 = (4 : Int)) then (
  let x26 : Int := (iadd .i64 d.2.2.2.2.2.1.1 (1 : Int))
  (T.2.2.1 (((d.1.1.1, (d.1.1.2.1, (d.1.1.2.2.1, (d.1.1.2.2.2.1, (x17.2.1.1, d.1.1.2.2.2.2.2))))), ()), ((), (d.2.2.2.2.1, ((x26, ()), ()))))))
  else (
  bif decide (d.2.2.1.1 = (5 : Int)) then (
  let x25 : Int := (iadd .i64 d.2.2.2.2.2.1.1 (1 : Int))
  (T.2.2.1 (((d.1.1.1, (d.1.1.2.1, (d.1.1.2.2.1, (d.1.1.2.2.2.1, (d.1.1.2.2.2.2.1, (x17.2.1.1, d.1.1.2.2.2.2.2.2)))))), ()), ((), (d.2.2.2.2.1, ((x25, ()), ()))))))
  else (
  bif decide (d.2.2.1.1 = (6 : Int)) then (
  let x24 : Int := (iadd .i64 d.2.2.2.2.2.1.1 (1 : Int))
  (T.2.2.1 (((d.1.1.1, (d.1.1.2.1, (d.1.1.2.2.1, (d.1.1.2.2.2.1, (d.1.1.2.2.2.2.1, (d.1.1.2.2.2.2.2.1, (x17.2.1.1, d.1.1.2.2.2.2.2.2.2))))))), ()), ((), (d.2.2.2.2.1, ((x24, ()), ()))))))
  else (
  bif decide (d.2.2.1.1 = (7 : Int)) then (
  let x23 : Int := (iadd .i64 d.2.2.2.2.2.1.1 (1 : Int))
  (T.2.2.1 (((d.1.1.1, (d.1.1.2.1, (d.1.1.2.2.1, (d.1.1.2.2.2.1, (d.1.1.2.2.2.2.1, (d.1.1.2.2.2.2.2.1, (d.1.1.2.2.2.2.2.2.1, (x17.2.1.1, d.1.1.2.2.2.2.2.2.2.2)))))))), ()), ((), (d.2.2.2.2.1, ((x23, ()), ()))))))
  else (
  bif decide (d.2.2.1.1 = (8 : Int)) then (
  let x22 : Int := (iadd .i64 d.2.2.2.2.2.1.1 (1 : Int))
  (T.2.2.1 (((d.1.1.1, (d.1.1.2.1, (d.1.1.2.2.1, (d.1.1.2.2.2.1, (d.1.1.2.2.2.2.1, (d.1.1.2.2.2.2.2.1, (d.1.1.2.2.2.2.2.2.1, (d.1.1.2.2.2.2.2.2.2.1, (x17.2.1.1, d.1.1.2.2.2.2.2.2.2.2.2))))))))), ()), ((), (d.2.2.2.2.1, ((x22, ()), ()))))))
  else (
  bif decide (d.2.2.1.1 = (9 : Int)) then (
  let x21 : Int := (iadd .i64 d.2.2.2.2.2.1.1 (1 : Int))
  (T.2.2.1 (((d.1.1.1, (d.1.1.2.1, (d.1.1.2.2.1, (d.1.1.2.2.2.1, (d.1.1.2.2.2.2.1, (d.1.1.2.2.2.2.2.1, (d.1.1.2.2.2.2.2.2.1, (d.1.1.2.2.2.2.2.2.2.1, (d.1.1.2.2.2.2.2.2.2.2.1, (x17.2.1.1, d.1.1.2.2.2.2.2.2.2.2.2.2)))))))))), ()), ((), (d.2.2.2.2.1, ((x21, ()), ()))))))
  else (
  bif decide (d.2.2.1.1 = (10 : Int)) then (
  let x20 : Int := (iadd .i64 d.2.2.2.2.2.1.1 (1 : Int))
  (T.2.2.1 (((d.1.1.1, (d.1.1.2.1, (d.1.1.2.2.1, (d.1.1.2.2.2.1, (d.1.1.2.2.2.2.1, (d.1.1.2.2.2.2.2.1, (d.1.1.2.2.2.2.2.2.1, (d.1.1.2.2.2.2.2.2.2.1, (d.1.1.2.2.2.2.2.2.2.2.1, (d.1.1.2.2.2.2.2.2.2.2.2.1, (x17.2.1.1, d.1.1.2.2.2.2.2.2.2.2.2.2.2))))))))))), ()), ((), (d.2.2.2.2.1, ((x20, ()), ()))))))
  else (
  bif decide (d.2.2.1.1 = (11 : Int)) then (
  let x19 : Int := (iadd .i64 d.2.2.2.2.2.1.1 (1 : Int))
  (T.2.2.1 (((d.1.1.1, (d.1.1.2.1, (d.1.1.2.2.1, (d.1.1.2.2.2.1, (d.1.1.2.2.2.2.1, (d.1.1.2.2.2.2.2.1, (d.1.1.2.2.2.2.2.2.1, (d.1.1.2.2.2.2.2.2.2.1, (d.1.1.2.2.2.2.2.2.2.2.1, (d.1.1.2.2.2.2.2.2.2.2.2.1, (d.1.1.2.2.2.2.2.2.2.2.2.2.1, x17.2.1))))))))))), ()), ((), (d.2.2.2.2.1, ((x19, ()), ()))))))
  else (
  none)))))))))))))
  else none)
def f_tally_Parse_t : Nat → TT_tally_Parse
  | 0 => (fun _ => none, (fun _ => none, (fun _ => none, (fun _ => none, ()))))
  | k + 1 => (f_tally_Parse_p8 (f_tally_Parse_t k), (f_tally_Parse_p11 (f_tally_Parse_t k), (f_tally_Parse_p20 (f_tally_Parse_t k), (f_tally_Parse_p24 (f_tally_Parse_t k), ()))))
theorem t_tally_Parse (k : Nat) : f_tally_Parse_t (k + 1) = (f_tally_Parse_p8 (f_tally_Parse_t k), (f_tally_Parse_p11 (f_tally_Parse_t k), (f_tally_Parse_p20 (f_tally_Parse_t k), (f_tally_Parse_p24 (f_tally_Parse_t k), ())))) := rfl
def f_tally_Parse_m (T : TT_tally_Parse) (d : Unit × ((ByteArray × Unit) × Unit)) : Option (Unit × (((Option (Int × (Int × (Int × (Int × (Int × (Int × (Int × (Int × (Int × (Int × (Int × Int)))))))))))) × Unit) × (((Option Int) × Unit) × Unit))) :=
  (g_strings_Split ((), (d.2.1, (((⟨#[10]⟩ : ByteArray), ()), ())))).bind fun x1 =>
  let x2 : Int := (x1.2.1.1.length : Int)
  let x3 : Bool := (x2 != (13 : Int))
  bif x3 then (
  let x4 : (Option Int) := (some (2 : Int))
  some ((), (((none : Option (Int × (Int × (Int × (Int × (Int × (Int × (Int × (Int × (Int × (Int × (Int × Int)))))))))))), ()), ((x4, ()), ()))))
  else (
  bif decide ((0 : Int) ≤ (12 : Int)) && decide ((12 : Int) < (x1.2.1.1.length : Int)) then (
  let x5 : Bool := (!((gd .str x1.2.1.1 (12 : Int)).toList == (⟨#[]⟩ : ByteArray).toList))
  bif x5 then (
  let x6 : (Option Int) := (some (2 : Int))
  some ((), (((none : Option (Int × (Int × (Int × (Int × (Int × (Int × (Int × (Int × (Int × (Int × (Int × Int)))))))))))), ()), ((x6, ()), ()))))
  else (
  bif decide ((0 : Int) ≤ (0 : Int)) && decide ((12 : Int) ≤ (x1.2.1.1.length : Int)) then (
  let x7 : (List ByteArray) := (List.drop (Int.toNat (0 : Int)) (List.take (Int.toNat (12 : Int)) x1.2.1.1))
  let x8 : Int := (x7.length : Int)
  (T.1 (((ByteArray.empty, (ByteArray.empty, (ByteArray.empty, (ByteArray.empty, (ByteArray.empty, (ByteArray.empty, (ByteArray.empty, (ByteArray.empty, (ByteArray.empty, (ByteArray.empty, (ByteArray.empty, (ByteArray.empty, ())))))))))))), ()), ((), ((x7, ()), ((x8, ()), (((0 : Int), ()), ())))))))
  else none))
  else none)
def c_tally_Parse : List Nat := [11, 24]
def L_tally_Parse (k : Nat) : Pts po_tally_Parse.den := [(8, ⟨sh_tally_Parse_8, (f_tally_Parse_t k).1⟩), (11, ⟨sh_tally_Parse_11, (f_tally_Parse_t k).2.1⟩), (20, ⟨sh_tally_Parse_20, (f_tally_Parse_t k).2.2.1⟩), (24, ⟨sh_tally_Parse_24, (f_tally_Parse_t k).2.2.2.1⟩)]
def R_tally_Parse (_ : Nat) : PtsR po_tally_Parse.den := []
def E_tally_Parse : Env := ((((E0.add 33 (typedSem pi_tally_New po_tally_New g_tally_New)).add 40 (typedSem pi_strings_Split po_strings_Split g_strings_Split)).add 41 (typedSem pi_tally_count po_tally_count g_tally_count)).add 42 (typedSem pi_figures_Whole po_figures_Whole g_figures_Whole))
theorem q_tally_Parse_8 (k : Nat) (d : sh_tally_Parse_8.den) : evAt E_tally_Parse (tb (L_tally_Parse k) (R_tally_Parse k)) c_tally_Parse 8 (bodyOf Tryz.f19) 0 (finK E_tally_Parse po_tally_Parse [.tmp 2, .tmp 3]) (ptSt sh_tally_Parse_8 d) = f_tally_Parse_p8 (f_tally_Parse_t k) d := by kernel_rfl
theorem q_tally_Parse_11 (k : Nat) (d : sh_tally_Parse_11.den) : evAt E_tally_Parse (tb (L_tally_Parse k) (R_tally_Parse k)) c_tally_Parse 11 (bodyOf Tryz.f19) 0 (finK E_tally_Parse po_tally_Parse [.tmp 2, .tmp 3]) (ptSt sh_tally_Parse_11 d) = f_tally_Parse_p11 (f_tally_Parse_t k) d := by kernel_rfl
theorem q_tally_Parse_20 (k : Nat) (d : sh_tally_Parse_20.den) : evAt E_tally_Parse (tb (L_tally_Parse k) (R_tally_Parse k)) c_tally_Parse 20 (bodyOf Tryz.f19) 0 (finK E_tally_Parse po_tally_Parse [.tmp 2, .tmp 3]) (ptSt sh_tally_Parse_20 d) = f_tally_Parse_p20 (f_tally_Parse_t k) d := by kernel_rfl
theorem q_tally_Parse_24 (k : Nat) (d : sh_tally_Parse_24.den) : evAt E_tally_Parse (tb (L_tally_Parse k) (R_tally_Parse k)) c_tally_Parse 24 (bodyOf Tryz.f19) 0 (finK E_tally_Parse po_tally_Parse [.tmp 2, .tmp 3]) (ptSt sh_tally_Parse_24 d) = f_tally_Parse_p24 (f_tally_Parse_t k) d := by kernel_rfl
theorem q_tally_Parse_m (k : Nat) (d : pi_tally_Parse.den) : evCode E_tally_Parse (tb (L_tally_Parse k) (R_tally_Parse k)) c_tally_Parse (bodyOf Tryz.f19) 0 (finK E_tally_Parse po_tally_Parse [.tmp 2, .tmp 3]) (startSt pi_tally_Parse 71 d) = f_tally_Parse_m (f_tally_Parse_t k) d := by kernel_rfl
def g_tally_Parse (d : Unit × ((ByteArray × Unit) × Unit)) : Option (Unit × (((Option (Int × (Int × (Int × (Int × (Int × (Int × (Int × (Int × (Int × (Int × (Int × Int)))))))))))) × Unit) × (((Option Int) × Unit) × Unit))) := lim fun k => f_tally_Parse_m (f_tally_Parse_t k) d
theorem ok_tally_Parse : FnOk Tryz.prog ET0 19 pi_tally_Parse po_tally_Parse g_tally_Parse :=
  fn_of_body (E := E_tally_Parse) (envOk_add (envOk_add (envOk_add (envOk_add e0_ok (typed_ok ok_tally_New)) (typed_ok ok_strings_Split)) (typed_ok ok_tally_count)) (typed_ok ok_figures_Whole)) (fn := Tryz.f19) Tryz.func19 (by kernel_rfl) (by kernel_rfl) [.tmp 2, .tmp 3] (by kernel_rfl) (by kernel_rfl) (by decide) rfl c_tally_Parse L_tally_Parse R_tally_Parse
    (by intro x hx d; simp only [L_tally_Parse, List.mem_cons, List.not_mem_nil, or_false] at hx; rcases hx with rfl | rfl | rfl | rfl; rfl; rfl; rfl; rfl)
    (by intro k x hx d out h; simp only [L_tally_Parse, List.mem_cons, List.not_mem_nil, or_false] at hx; rcases hx with rfl | rfl | rfl | rfl; exact (q_tally_Parse_8 k d).trans h; exact (q_tally_Parse_11 k d).trans h; exact (q_tally_Parse_20 k d).trans h; exact (q_tally_Parse_24 k d).trans h)
    (by intro x hx; cases hx)
    (by intro k x hx; cases hx)
    (by intro d out h; obtain ⟨k, hk⟩ := lim_some h; exact ⟨k, (q_tally_Parse_m k d).trans hk⟩)

@[reducible] def pi_ref02_Is : PSh := ⟨[], [.mk false [v8]]⟩
@[reducible] def po_ref02_Is : PSh := ⟨[], [.mk false [vB]]⟩
@[reducible] def TT_ref02_Is : Type := (((Unit × ((Int × Unit) × ((Int × Unit) × Unit))) → Option (Unit × ((Bool × Unit) × Unit))) × Unit)
@[reducible] def sh_ref02_Is_3 : PSh := ⟨[], [.mk false [v8], .any, .any, .mk false [v8], .any, .any, .any, .any, .any, .any, .any]⟩
def f_ref02_Is_p3 (T : TT_ref02_Is) (d : Unit × ((Int × Unit) × ((Int × Unit) × Unit))) : Option (Unit × ((Bool × Unit) × Unit)) :=
  let x1 : Bool := (decide (d.2.2.1.1 ≤ (57 : Int)))
  bif x1 then (
  let x2 : Bool := (d.2.1.1 == d.2.2.1.1)
  bif x2 then (
  some ((), ((true, ()), ())))
  else (
  let x3 : Int := (iadd .u8 d.2.2.1.1 (1 : Int))
  (T.1 ((), (d.2.1, ((x3, ()), ()))))))
  else (
  some ((), ((false, ()), ())))
def f_ref02_Is_t : Nat → TT_ref02_Is
  | 0 => (fun _ => none, ())
  | k + 1 => (f_ref02_Is_p3 (f_ref02_Is_t k), ())
theorem t_ref02_Is (k : Nat) : f_ref02_Is_t (k + 1) = (f_ref02_Is_p3 (f_ref02_Is_t k), ()) := rfl
def f_ref02_Is_m (T : TT_ref02_Is) (d : Unit × ((Int × Unit) × Unit)) : Option (Unit × ((Bool × Unit) × Unit)) :=
  (T.1 ((), (d.2.1, (((48 : Int), ()), ()))))
def c_ref02_Is : List Nat := []
def L_ref02_Is (k : Nat) : Pts po_ref02_Is.den := [(3, ⟨sh_ref02_Is_3, (f_ref02_Is_t k).1⟩)]
def R_ref02_Is (_ : Nat) : PtsR po_ref02_Is.den := []
def E_ref02_Is : Env := E0
theorem q_ref02_Is_3 (k : Nat) (d : sh_ref02_Is_3.den) : evAt E_ref02_Is (tb (L_ref02_Is k) (R_ref02_Is k)) c_ref02_Is 3 (bodyOf Tryz.f69) 0 (finK E_ref02_Is po_ref02_Is [.tmp 2]) (ptSt sh_ref02_Is_3 d) = f_ref02_Is_p3 (f_ref02_Is_t k) d := by kernel_rfl
theorem q_ref02_Is_m (k : Nat) (d : pi_ref02_Is.den) : evCode E_ref02_Is (tb (L_ref02_Is k) (R_ref02_Is k)) c_ref02_Is (bodyOf Tryz.f69) 0 (finK E_ref02_Is po_ref02_Is [.tmp 2]) (startSt pi_ref02_Is 11 d) = f_ref02_Is_m (f_ref02_Is_t k) d := by kernel_rfl
def g_ref02_Is (d : Unit × ((Int × Unit) × Unit)) : Option (Unit × ((Bool × Unit) × Unit)) := lim fun k => f_ref02_Is_m (f_ref02_Is_t k) d
theorem ok_ref02_Is : FnOk Tryz.prog ET0 69 pi_ref02_Is po_ref02_Is g_ref02_Is :=
  fn_of_body (E := E_ref02_Is) e0_ok (fn := Tryz.f69) Tryz.func69 (by kernel_rfl) (by kernel_rfl) [.tmp 2] (by kernel_rfl) (by kernel_rfl) (by decide) rfl c_ref02_Is L_ref02_Is R_ref02_Is
    (by intro x hx d; simp only [L_ref02_Is, List.mem_cons, List.not_mem_nil, or_false] at hx; subst hx; rfl)
    (by intro k x hx d out h; simp only [L_ref02_Is, List.mem_cons, List.not_mem_nil, or_false] at hx; subst hx; exact (q_ref02_Is_3 k d).trans h)
    (by intro x hx; cases hx)
    (by intro k x hx; cases hx)
    (by intro d out h; obtain ⟨k, hk⟩ := lim_some h; exact ⟨k, (q_ref02_Is_m k d).trans hk⟩)

@[reducible] def pi_ref02_Many : PSh := ⟨[], [.mk false [vS]]⟩
@[reducible] def po_ref02_Many : PSh := ⟨[], [.mk false [vI]]⟩
@[reducible] def TT_ref02_Many : Type := (((Unit × ((ByteArray × Unit) × ((Int × Unit) × Unit))) → Option (Unit × ((Int × Unit) × Unit))) × Unit)
@[reducible] def sh_ref02_Many_3 : PSh := ⟨[], [.mk false [vS], .any, .any, .mk false [vI], .any, .any, .any, .any, .any, .any, .any, .any, .any, .any, .any, .any, .any, .any]⟩
def f_ref02_Many_p3 (T : TT_ref02_Many) (d : Unit × ((ByteArray × Unit) × ((Int × Unit) × Unit))) : Option (Unit × ((Int × Unit) × Unit)) :=
  let x1 : Int := (d.2.1.1.size : Int)
  let x2 : Bool := (decide (d.2.2.1.1 < x1))
  bif x2 then (
  bif decide ((0 : Int) ≤ d.2.2.1.1) && decide (d.2.2.1.1 < ((d.2.1.1.size : Int) : Int)) then (
  let x3 : Int := (bt d.2.1.1 d.2.2.1.1)
  (g_ref02_Is ((), ((x3, ()), ()))).bind fun x4 =>
  let x5 : Bool := (!x4.2.1.1)
  bif x5 then (
  some ((), d.2.2))
  else (
  let x6 : Int := (iadd .i64 d.2.2.1.1 (1 : Int))
  (T.1 ((), (d.2.1, ((x6, ()), ()))))))
  else none)
  else (
  let x7 : Int := (d.2.1.1.size : Int)
  some ((), ((x7, ()), ())))
def f_ref02_Many_t : Nat → TT_ref02_Many
  | 0 => (fun _ => none, ())
  | k + 1 => (f_ref02_Many_p3 (f_ref02_Many_t k), ())
theorem t_ref02_Many (k : Nat) : f_ref02_Many_t (k + 1) = (f_ref02_Many_p3 (f_ref02_Many_t k), ()) := rfl
def f_ref02_Many_m (T : TT_ref02_Many) (d : Unit × ((ByteArray × Unit) × Unit)) : Option (Unit × ((Int × Unit) × Unit)) :=
  (T.1 ((), (d.2.1, (((0 : Int), ()), ()))))
def c_ref02_Many : List Nat := []
def L_ref02_Many (k : Nat) : Pts po_ref02_Many.den := [(3, ⟨sh_ref02_Many_3, (f_ref02_Many_t k).1⟩)]
def R_ref02_Many (_ : Nat) : PtsR po_ref02_Many.den := []
def E_ref02_Many : Env := (E0.add 69 (typedSem pi_ref02_Is po_ref02_Is g_ref02_Is))
theorem q_ref02_Many_3 (k : Nat) (d : sh_ref02_Many_3.den) : evAt E_ref02_Many (tb (L_ref02_Many k) (R_ref02_Many k)) c_ref02_Many 3 (bodyOf Tryz.f43) 0 (finK E_ref02_Many po_ref02_Many [.tmp 2]) (ptSt sh_ref02_Many_3 d) = f_ref02_Many_p3 (f_ref02_Many_t k) d := by kernel_rfl
theorem q_ref02_Many_m (k : Nat) (d : pi_ref02_Many.den) : evCode E_ref02_Many (tb (L_ref02_Many k) (R_ref02_Many k)) c_ref02_Many (bodyOf Tryz.f43) 0 (finK E_ref02_Many po_ref02_Many [.tmp 2]) (startSt pi_ref02_Many 18 d) = f_ref02_Many_m (f_ref02_Many_t k) d := by kernel_rfl
def g_ref02_Many (d : Unit × ((ByteArray × Unit) × Unit)) : Option (Unit × ((Int × Unit) × Unit)) := lim fun k => f_ref02_Many_m (f_ref02_Many_t k) d
theorem ok_ref02_Many : FnOk Tryz.prog ET0 43 pi_ref02_Many po_ref02_Many g_ref02_Many :=
  fn_of_body (E := E_ref02_Many) (envOk_add e0_ok (typed_ok ok_ref02_Is)) (fn := Tryz.f43) Tryz.func43 (by kernel_rfl) (by kernel_rfl) [.tmp 2] (by kernel_rfl) (by kernel_rfl) (by decide) rfl c_ref02_Many L_ref02_Many R_ref02_Many
    (by intro x hx d; simp only [L_ref02_Many, List.mem_cons, List.not_mem_nil, or_false] at hx; subst hx; rfl)
    (by intro k x hx d out h; simp only [L_ref02_Many, List.mem_cons, List.not_mem_nil, or_false] at hx; subst hx; exact (q_ref02_Many_3 k d).trans h)
    (by intro x hx; cases hx)
    (by intro k x hx; cases hx)
    (by intro d out h; obtain ⟨k, hk⟩ := lim_some h; exact ⟨k, (q_ref02_Many_m k d).trans hk⟩)

@[reducible] def pi_ref01_Of : PSh := ⟨[], [.mk false [vI]]⟩
@[reducible] def po_ref01_Of : PSh := ⟨[.row 122 (.int .u64)], [.mk true [vB, .osl 0]]⟩
@[reducible] def TT_ref01_Of : Type := (((((Bool × Unit) × ((List Int) × ((List Int) × Unit))) × ((Int × Unit) × (Unit × (Unit × ((Bool × Unit) × Unit))))) → Option (((List Int) × Unit) × ((Bool × Unit) × Unit))) × Unit)
@[reducible] def sh_ref01_Of_4 : PSh := ⟨[.var 89 [vB, .osl 1], .row 122 (.int .u64), .row 122 (.int .u64)], [.mk false [vI], .any, .mk false [.ref 0 0], .mk false [.osl 2], .mk false [vB], .any, .any, .any, .any, .any, .any, .any, .any, .any, .any, .any, .any, .any, .any, .any, .any, .any, .any, .any, .any, .any]⟩
def f_ref01_Of_p4 (T : TT_ref01_Of) (d : ((Bool × Unit) × ((List Int) × ((List Int) × Unit))) × ((Int × Unit) × (Unit × (Unit × ((Bool × Unit) × Unit))))) : Option (((List Int) × Unit) × ((Bool × Unit) × Unit)) :=
  let x2 : Bool := (d.2.1.1 != (0 : Int))
  bif x2 then (
  let x3 : Int := (Int.tmod d.2.1.1 (65536 : Int))
  let x4 : Bool := (decide (x3 < (0 : Int)))
  bif x4 then (
  let x5 : Int := (isub .i64 (0 : Int) x3)
  let x6 : Int := (iconv .u64 x5)
  let x7 : (List Int) := ([x6] : List Int)
  bif decide (((d.1.2.2.1.length + x7.length) * 8 : Nat) ≤ 140737488355328) && decide (d.1.2.2.1.length + x7.length ≤ 9223372036854775807) then (
  let x8 : (List Int) := (d.1.2.2.1 ++ x7)
  let x9 : Int := (iquo .i64 d.2.1.1 (65536 : Int))
  (T.1 ((d.1.1, (d.1.2.1, (x8, ()))), ((x9, ()), ((), ((), d.2.2.2.2))))))
  else none)
  else (
  let x10 : Int := (iconv .u64 x3)
  let x11 : (List Int) := ([x10] : List Int)
  bif decide (((d.1.2.2.1.length + x11.length) * 8 : Nat) ≤ 140737488355328) && decide (d.1.2.2.1.length + x11.length ≤ 9223372036854775807) then (
  let x12 : (List Int) := (d.1.2.2.1 ++ x11)
  let x13 : Int := (iquo .i64 d.2.1.1 (65536 : Int))
  (T.1 ((d.1.1, (d.1.2.1, (x12, ()))), ((x13, ()), ((), ((), d.2.2.2.2))))))
  else none))
  else (
  some (d.1.2.2, d.2.2.2.2))
def f_ref01_Of_t : Nat → TT_ref01_Of
  | 0 => (fun _ => none, ())
  | k + 1 => (f_ref01_Of_p4 (f_ref01_Of_t k), ())
theorem t_ref01_Of (k : Nat) : f_ref01_Of_t (k + 1) = (f_ref01_Of_p4 (f_ref01_Of_t k), ()) := rfl
def f_ref01_Of_m (T : TT_ref01_Of) (d : Unit × ((Int × Unit) × Unit)) : Option (((List Int) × Unit) × ((Bool × Unit) × Unit)) :=
  let x1 : Bool := (decide (d.2.1.1 < (0 : Int)))
  (T.1 (((false, ()), (([] : List Int), (([] : List Int), ()))), (d.2.1, ((), ((), ((x1, ()), ()))))))
def c_ref01_Of : List Nat := []
def L_ref01_Of (k : Nat) : Pts po_ref01_Of.den := [(4, ⟨sh_ref01_Of_4, (f_ref01_Of_t k).1⟩)]
def R_ref01_Of (_ : Nat) : PtsR po_ref01_Of.den := []
def E_ref01_Of : Env := E0
theorem q_ref01_Of_4 (k : Nat) (d : sh_ref01_Of_4.den) : evAt E_ref01_Of (tb (L_ref01_Of k) (R_ref01_Of k)) c_ref01_Of 4 (bodyOf Tryz.f70) 0 (finK E_ref01_Of po_ref01_Of [.cell 2 89]) (ptSt sh_ref01_Of_4 d) = f_ref01_Of_p4 (f_ref01_Of_t k) d := by kernel_rfl
theorem q_ref01_Of_m (k : Nat) (d : pi_ref01_Of.den) : evCode E_ref01_Of (tb (L_ref01_Of k) (R_ref01_Of k)) c_ref01_Of (bodyOf Tryz.f70) 0 (finK E_ref01_Of po_ref01_Of [.cell 2 89]) (startSt pi_ref01_Of 26 d) = f_ref01_Of_m (f_ref01_Of_t k) d := by kernel_rfl
def g_ref01_Of (d : Unit × ((Int × Unit) × Unit)) : Option (((List Int) × Unit) × ((Bool × Unit) × Unit)) := lim fun k => f_ref01_Of_m (f_ref01_Of_t k) d
theorem ok_ref01_Of : FnOk Tryz.prog ET0 70 pi_ref01_Of po_ref01_Of g_ref01_Of :=
  fn_of_body (E := E_ref01_Of) e0_ok (fn := Tryz.f70) Tryz.func70 (by kernel_rfl) (by kernel_rfl) [.cell 2 89] (by kernel_rfl) (by kernel_rfl) (by decide) rfl c_ref01_Of L_ref01_Of R_ref01_Of
    (by intro x hx d; simp only [L_ref01_Of, List.mem_cons, List.not_mem_nil, or_false] at hx; subst hx; rfl)
    (by intro k x hx d out h; simp only [L_ref01_Of, List.mem_cons, List.not_mem_nil, or_false] at hx; subst hx; exact (q_ref01_Of_4 k d).trans h)
    (by intro x hx; cases hx)
    (by intro k x hx; cases hx)
    (by intro d out h; obtain ⟨k, hk⟩ := lim_some h; exact ⟨k, (q_ref01_Of_m k d).trans hk⟩)

@[reducible] def pi_ref01_digit : PSh := ⟨[], [.mk false [.v (.sl (.int .u64))], .mk false [vI]]⟩
@[reducible] def po_ref01_digit : PSh := ⟨[], [.mk false [.v (.int .u64)]]⟩
def f_ref01_digit_m (T : Unit) (d : Unit × (((List Int) × Unit) × ((Int × Unit) × Unit))) : Option (Unit × ((Int × Unit) × Unit)) :=
  let x1 : Int := (d.2.1.1.length : Int)
  let x2 : Bool := (decide (d.2.2.1.1 < x1))
  bif x2 then (
  bif decide ((0 : Int) ≤ d.2.2.1.1) && decide (d.2.2.1.1 < (d.2.1.1.length : Int)) then (
  some ((), (((gd (.int .u64) d.2.1.1 d.2.2.1.1), ()), ())))
  else none)
  else (
  some ((), (((0 : Int), ()), ())))
def g_ref01_digit (d : Unit × (((List Int) × Unit) × ((Int × Unit) × Unit))) : Option (Unit × ((Int × Unit) × Unit)) := f_ref01_digit_m () d
theorem ok_ref01_digit : FnOk Tryz.prog ET0 144 pi_ref01_digit po_ref01_digit g_ref01_digit :=
  fn0 (E := E0) e0_ok (fn := Tryz.f144) Tryz.func144 (by kernel_rfl) (by kernel_rfl) [.tmp 4] (by kernel_rfl) rfl rfl rfl [] fun d => by kernel_rfl

@[reducible] def pi_ref01_less : PSh := ⟨[], [.mk false [.v (.sl (.int .u64))], .mk false [.v (.sl (.int .u64))]]⟩
@[reducible] def po_ref01_less : PSh := ⟨[], [.mk false [vB]]⟩
@[reducible] def TT_ref01_less : Type := (((Unit × (((List Int) × Unit) × (((List Int) × Unit) × ((Int × Unit) × Unit)))) → Option (Unit × ((Bool × Unit) × Unit))) × Unit)
@[reducible] def sh_ref01_less_3 : PSh := ⟨[], [.mk false [.v (.sl (.int .u64))], .mk false [.v (.sl (.int .u64))], .any, .any, .any, .mk false [vI], .any, .any, .any, .any, .any, .any, .any, .any, .any, .any, .any, .any, .any, .any, .any, .any, .any, .any, .any, .any, .any, .any, .any, .any]⟩
def f_ref01_less_p3 (T : TT_ref01_less) (d : Unit × (((List Int) × Unit) × (((List Int) × Unit) × ((Int × Unit) × Unit)))) : Option (Unit × ((Bool × Unit) × Unit)) :=
  let x5 : Bool := (decide (d.2.2.2.1.1 ≥ (0 : Int)))
  bif x5 then (
  (g_ref01_digit ((), (d.2.1, d.2.2.2))).bind fun x6 =>
  (g_ref01_digit ((), d.2.2)).bind fun x7 =>
  let x8 : Bool := (x6.2.1.1 != x7.2.1.1)
  bif x8 then (
  (g_ref01_digit ((), (d.2.1, d.2.2.2))).bind fun x9 =>
  (g_ref01_digit ((), d.2.2)).bind fun x10 =>
  let x11 : Bool := (decide (x9.2.1.1 < x10.2.1.1))
  some ((), ((x11, ()), ())))
  else (
  let x12 : Int := (isub .i64 d.2.2.2.1.1 (1 : Int))
  (T.1 ((), (d.2.1, (d.2.2.1, ((x12, ()), ())))))))
  else (
  some ((), ((false, ()), ())))
def f_ref01_less_t : Nat → TT_ref01_less
  | 0 => (fun _ => none, ())
  | k + 1 => (f_ref01_less_p3 (f_ref01_less_t k), ())
theorem t_ref01_less (k : Nat) : f_ref01_less_t (k + 1) = (f_ref01_less_p3 (f_ref01_less_t k), ()) := rfl
def f_ref01_less_m (T : TT_ref01_less) (d : Unit × (((List Int) × Unit) × (((List Int) × Unit) × Unit))) : Option (Unit × ((Bool × Unit) × Unit)) :=
  let x1 : Int := (d.2.1.1.length : Int)
  let x2 : Int := (d.2.2.1.1.length : Int)
  let x3 : Int := (if x2 > x1 then x2 else x1)
  let x4 : Int := (isub .i64 x3 (1 : Int))
  (T.1 ((), (d.2.1, (d.2.2.1, ((x4, ()), ())))))
def c_ref01_less : List Nat := []
def L_ref01_less (k : Nat) : Pts po_ref01_less.den := [(3, ⟨sh_ref01_less_3, (f_ref01_less_t k).1⟩)]
def R_ref01_less (_ : Nat) : PtsR po_ref01_less.den := []
def E_ref01_less : Env := (E0.add 144 (typedSem pi_ref01_digit po_ref01_digit g_ref01_digit))
theorem q_ref01_less_3 (k : Nat) (d : sh_ref01_less_3.den) : evAt E_ref01_less (tb (L_ref01_less k) (R_ref01_less k)) c_ref01_less 3 (bodyOf Tryz.f109) 0 (finK E_ref01_less po_ref01_less [.tmp 4]) (ptSt sh_ref01_less_3 d) = f_ref01_less_p3 (f_ref01_less_t k) d := by kernel_rfl
theorem q_ref01_less_m (k : Nat) (d : pi_ref01_less.den) : evCode E_ref01_less (tb (L_ref01_less k) (R_ref01_less k)) c_ref01_less (bodyOf Tryz.f109) 0 (finK E_ref01_less po_ref01_less [.tmp 4]) (startSt pi_ref01_less 30 d) = f_ref01_less_m (f_ref01_less_t k) d := by kernel_rfl
def g_ref01_less (d : Unit × (((List Int) × Unit) × (((List Int) × Unit) × Unit))) : Option (Unit × ((Bool × Unit) × Unit)) := lim fun k => f_ref01_less_m (f_ref01_less_t k) d
theorem ok_ref01_less : FnOk Tryz.prog ET0 109 pi_ref01_less po_ref01_less g_ref01_less :=
  fn_of_body (E := E_ref01_less) (envOk_add e0_ok (typed_ok ok_ref01_digit)) (fn := Tryz.f109) Tryz.func109 (by kernel_rfl) (by kernel_rfl) [.tmp 4] (by kernel_rfl) (by kernel_rfl) (by decide) rfl c_ref01_less L_ref01_less R_ref01_less
    (by intro x hx d; simp only [L_ref01_less, List.mem_cons, List.not_mem_nil, or_false] at hx; subst hx; rfl)
    (by intro k x hx d out h; simp only [L_ref01_less, List.mem_cons, List.not_mem_nil, or_false] at hx; subst hx; exact (q_ref01_less_3 k d).trans h)
    (by intro x hx; cases hx)
    (by intro k x hx; cases hx)
    (by intro d out h; obtain ⟨k, hk⟩ := lim_some h; exact ⟨k, (q_ref01_less_m k d).trans hk⟩)

@[reducible] def pi_ref01_Less : PSh := ⟨[], [.mk true [vB, .v (.sl (.int .u64))], .mk true [vB, .v (.sl (.int .u64))]]⟩
@[reducible] def po_ref01_Less : PSh := ⟨[], [.mk false [vB]]⟩
def f_ref01_Less_m (T : Unit) (d : Unit × ((Bool × ((List Int) × Unit)) × ((Bool × ((List Int) × Unit)) × Unit))) : Option (Unit × ((Bool × Unit) × Unit)) :=
  let x1 : Bool := (!(d.2.1.1 == d.2.2.1.1))
  bif x1 then (
  some ((), ((d.2.1.1, ()), ())))
  else (
  bif d.2.1.1 then (
  (g_ref01_less ((), (d.2.2.1.2, (d.2.1.2, ())))).bind fun x2 =>
  some ((), x2.2))
  else (
  (g_ref01_less ((), (d.2.1.2, (d.2.2.1.2, ())))).bind fun x3 =>
  some ((), x3.2)))
def g_ref01_Less (d : Unit × ((Bool × ((List Int) × Unit)) × ((Bool × ((List Int) × Unit)) × Unit))) : Option (Unit × ((Bool × Unit) × Unit)) := f_ref01_Less_m () d
theorem ok_ref01_Less : FnOk Tryz.prog ET0 71 pi_ref01_Less po_ref01_Less g_ref01_Less :=
  fn0 (E := (E0.add 109 (typedSem pi_ref01_less po_ref01_less g_ref01_less))) (envOk_add e0_ok (typed_ok ok_ref01_less)) (fn := Tryz.f71) Tryz.func71 (by kernel_rfl) (by kernel_rfl) [.tmp 4] (by kernel_rfl) rfl rfl rfl [] fun d => by kernel_rfl

@[reducible] def pi_ref01_Small : PSh := ⟨[], [.mk true [vB, .v (.sl (.int .u64))]]⟩
@[reducible] def po_ref01_Small : PSh := ⟨[], [.mk false [vI], .mk false [vI]]⟩
@[reducible] def TT_ref01_Small : Type := (((((Bool × ((List Int) × Unit)) × Unit) × (Unit × ((Int × Unit) × ((Int × Unit) × Unit)))) → Option (Unit × ((Int × Unit) × ((Int × Unit) × Unit)))) × Unit)
@[reducible] def sh_ref01_Small_8 : PSh := ⟨[.var 89 [vB, .v (.sl (.int .u64))]], [.any, .mk false [.ref 0 0], .any, .any, .any, .any, .mk false [vI], .mk false [vI], .any, .any, .any, .any, .any, .any, .any, .any, .any, .any, .any, .any, .any, .any, .any, .any, .any, .any, .any, .any, .any, .any, .any, .any, .any, .any, .any, .any, .any, .any, .any, .any, .any, .any, .any, .any, .any, .any, .any]⟩
def f_ref01_Small_p8 (T : TT_ref01_Small) (d : ((Bool × ((List Int) × Unit)) × Unit) × (Unit × ((Int × Unit) × ((Int × Unit) × Unit)))) : Option (Unit × ((Int × Unit) × ((Int × Unit) × Unit))) :=
  let x7 : Bool := (decide (d.2.2.2.1.1 ≥ (0 : Int)))
  bif x7 then (
  let x8 : Int := (imul .i64 d.2.2.1.1 (65536 : Int))
  bif d.1.1.1 then (
  bif decide ((0 : Int) ≤ d.2.2.2.1.1) && decide (d.2.2.2.1.1 < (d.1.1.2.1.length : Int)) then (
  let x9 : Int := (iconv .i64 (gd (.int .u64) d.1.1.2.1 d.2.2.2.1.1))
  let x10 : Int := (isub .i64 x8 x9)
  let x11 : Int := (isub .i64 d.2.2.2.1.1 (1 : Int))
  (T.1 (d.1, ((), ((x10, ()), ((x11, ()), ()))))))
  else none)
  else (
  bif decide ((0 : Int) ≤ d.2.2.2.1.1) && decide (d.2.2.2.1.1 < (d.1.1.2.1.length : Int)) then (
  let x12 : Int := (iconv .i64 (gd (.int .u64) d.1.1.2.1 d.2.2.2.1.1))
  let x13 : Int := (iadd .i64 x8 x12)
  let x14 : Int := (isub .i64 d.2.2.2.1.1 (1 : Int))
  (T.1 (d.1, ((), ((x13, ()), ((x14, ()), ()))))))
  else none))
  else (
  some ((), (d.2.2.1, (((0 : Int), ()), ()))))
def f_ref01_Small_t : Nat → TT_ref01_Small
  | 0 => (fun _ => none, ())
  | k + 1 => (f_ref01_Small_p8 (f_ref01_Small_t k), ())
theorem t_ref01_Small (k : Nat) : f_ref01_Small_t (k + 1) = (f_ref01_Small_p8 (f_ref01_Small_t k), ()) := rfl
def f_ref01_Small_m (T : TT_ref01_Small) (d : Unit × ((Bool × ((List Int) × Unit)) × Unit)) : Option (Unit × ((Int × Unit) × ((Int × Unit) × Unit))) :=
  (g_ref01_Of ((), (((-9223372036854775808 : Int), ()), ()))).bind fun x1 =>
  (g_ref01_Of ((), (((9223372036854775807 : Int), ()), ()))).bind fun x2 =>
  (g_ref01_Less ((), (d.2.1, ((x1.2.1.1, x1.1), ())))).bind fun x3 =>
  bif x3.2.1.1 then (
  some ((), (((0 : Int), ()), (((5 : Int), ()), ()))))
  else (
  (g_ref01_Less ((), ((x2.2.1.1, x2.1), d.2))).bind fun x4 =>
  bif x4.2.1.1 then (
  some ((), (((0 : Int), ()), (((5 : Int), ()), ()))))
  else (
  let x5 : Int := (d.2.1.2.1.length : Int)
  let x6 : Int := (isub .i64 x5 (1 : Int))
  (T.1 (d.2, ((), (((0 : Int), ()), ((x6, ()), ())))))))
def c_ref01_Small : List Nat := []
def L_ref01_Small (k : Nat) : Pts po_ref01_Small.den := [(8, ⟨sh_ref01_Small_8, (f_ref01_Small_t k).1⟩)]
def R_ref01_Small (_ : Nat) : PtsR po_ref01_Small.den := []
def E_ref01_Small : Env := ((E0.add 70 (typedSem pi_ref01_Of po_ref01_Of g_ref01_Of)).add 71 (typedSem pi_ref01_Less po_ref01_Less g_ref01_Less))
theorem q_ref01_Small_8 (k : Nat) (d : sh_ref01_Small_8.den) : evAt E_ref01_Small (tb (L_ref01_Small k) (R_ref01_Small k)) c_ref01_Small 8 (bodyOf Tryz.f44) 0 (finK E_ref01_Small po_ref01_Small [.tmp 2, .tmp 3]) (ptSt sh_ref01_Small_8 d) = f_ref01_Small_p8 (f_ref01_Small_t k) d := by kernel_rfl
theorem q_ref01_Small_m (k : Nat) (d : pi_ref01_Small.den) : evCode E_ref01_Small (tb (L_ref01_Small k) (R_ref01_Small k)) c_ref01_Small (bodyOf Tryz.f44) 0 (finK E_ref01_Small po_ref01_Small [.tmp 2, .tmp 3]) (startSt pi_ref01_Small 47 d) = f_ref01_Small_m (f_ref01_Small_t k) d := by kernel_rfl
def g_ref01_Small (d : Unit × ((Bool × ((List Int) × Unit)) × Unit)) : Option (Unit × ((Int × Unit) × ((Int × Unit) × Unit))) := lim fun k => f_ref01_Small_m (f_ref01_Small_t k) d
theorem ok_ref01_Small : FnOk Tryz.prog ET0 44 pi_ref01_Small po_ref01_Small g_ref01_Small :=
  fn_of_body (E := E_ref01_Small) (envOk_add (envOk_add e0_ok (typed_ok ok_ref01_Of)) (typed_ok ok_ref01_Less)) (fn := Tryz.f44) Tryz.func44 (by kernel_rfl) (by kernel_rfl) [.tmp 2, .tmp 3] (by kernel_rfl) (by kernel_rfl) (by decide) rfl c_ref01_Small L_ref01_Small R_ref01_Small
    (by intro x hx d; simp only [L_ref01_Small, List.mem_cons, List.not_mem_nil, or_false] at hx; subst hx; rfl)
    (by intro k x hx d out h; simp only [L_ref01_Small, List.mem_cons, List.not_mem_nil, or_false] at hx; subst hx; exact (q_ref01_Small_8 k d).trans h)
    (by intro x hx; cases hx)
    (by intro k x hx; cases hx)
    (by intro d out h; obtain ⟨k, hk⟩ := lim_some h; exact ⟨k, (q_ref01_Small_m k d).trans hk⟩)

@[reducible] def pi_ref01_plus : PSh := ⟨[], [.mk false [.v (.sl (.int .u64))], .mk false [.v (.sl (.int .u64))]]⟩
@[reducible] def po_ref01_plus : PSh := ⟨[.row 122 (.int .u64)], [.mk false [.osl 0]]⟩
@[reducible] def TT_ref01_plus : Type := (((((List Int) × Unit) × (((List Int) × Unit) × (((List Int) × Unit) × (Unit × ((Int × Unit) × ((Int × Unit) × Unit)))))) → Option (((List Int) × Unit) × (Unit × Unit))) × Unit)
@[reducible] def sh_ref01_plus_5 : PSh := ⟨[.row 122 (.int .u64)], [.mk false [.v (.sl (.int .u64))], .mk false [.v (.sl (.int .u64))], .any, .any, .any, .mk false [.osl 0], .mk false [.v (.int .u64)], .mk false [vI], .any, .any, .any, .any, .any, .any, .any, .any, .any, .any, .any, .any, .any, .any, .any, .any, .any, .any, .any, .any, .any, .any, .any, .any, .any, .any, .any, .any, .any, .any, .any, .any, .any, .any]⟩
def f_ref01_plus_p5 (T : TT_ref01_plus) (d : ((List Int) × Unit) × (((List Int) × Unit) × (((List Int) × Unit) × (Unit × ((Int × Unit) × ((Int × Unit) × Unit)))))) : Option (((List Int) × Unit) × (Unit × Unit)) :=
  let x1 : Int := (d.2.1.1.length : Int)
  let x2 : Bool := (decide (d.2.2.2.2.2.1.1 < x1))
  bif x2 then (
  (g_ref01_digit ((), (d.2.1, d.2.2.2.2.2))).bind fun x3 =>
  (g_ref01_digit ((), (d.2.2.1, d.2.2.2.2.2))).bind fun x4 =>
  let x5 : Int := (iadd .u64 x3.2.1.1 x4.2.1.1)
  let x6 : Int := (iadd .u64 x5 d.2.2.2.2.1.1)
  let x7 : Int := (Int.tmod x6 (65536 : Int))
  let x8 : (List Int) := ([x7] : List Int)
  bif decide (((d.1.1.length + x8.length) * 8 : Nat) ≤ 140737488355328) && decide (d.1.1.length + x8.length ≤ 9223372036854775807) then (
  let x9 : (List Int) := (d.1.1 ++ x8)
  let x10 : Int := (iquo .u64 x6 (65536 : Int))
  let x11 : Int := (iadd .i64 d.2.2.2.2.2.1.1 (1 : Int))
  (T.1 ((x9, ()), (d.2.1, (d.2.2.1, ((), ((x10, ()), ((x11, ()), ()))))))))
  else none)
  else (
  let x12 : Int := (d.2.2.1.1.length : Int)
  let x13 : Bool := (decide (d.2.2.2.2.2.1.1 < x12))
  bif x13 then (
  (g_ref01_digit ((), (d.2.1, d.2.2.2.2.2))).bind fun x14 =>
  (g_ref01_digit ((), (d.2.2.1, d.2.2.2.2.2))).bind fun x15 =>
  let x16 : Int := (iadd .u64 x14.2.1.1 x15.2.1.1)
  let x17 : Int := (iadd .u64 x16 d.2.2.2.2.1.1)
  let x18 : Int := (Int.tmod x17 (65536 : Int))
  let x19 : (List Int) := ([x18] : List Int)
  bif decide (((d.1.1.length + x19.length) * 8 : Nat) ≤ 140737488355328) && decide (d.1.1.length + x19.length ≤ 9223372036854775807) then (
  let x20 : (List Int) := (d.1.1 ++ x19)
  let x21 : Int := (iquo .u64 x17 (65536 : Int))
  let x22 : Int := (iadd .i64 d.2.2.2.2.2.1.1 (1 : Int))
  (T.1 ((x20, ()), (d.2.1, (d.2.2.1, ((), ((x21, ()), ((x22, ()), ()))))))))
  else none)
  else (
  let x23 : Bool := (decide (d.2.2.2.2.1.1 > (0 : Int)))
  bif x23 then (
  (g_ref01_digit ((), (d.2.1, d.2.2.2.2.2))).bind fun x24 =>
  (g_ref01_digit ((), (d.2.2.1, d.2.2.2.2.2))).bind fun x25 =>
  let x26 : Int := (iadd .u64 x24.2.1.1 x25.2.1.1)
  let x27 : Int := (iadd .u64 x26 d.2.2.2.2.1.1)
  let x28 : Int := (Int.tmod x27 (65536 : Int))
  let x29 : (List Int) := ([x28] : List Int)
  bif decide (((d.1.1.length + x29.length) * 8 : Nat) ≤ 140737488355328) && decide (d.1.1.length + x29.length ≤ 9223372036854775807) then (
  let x30 : (List Int) := (d.1.1 ++ x29)
  let x31 : Int := (iquo .u64 x27 (65536 : Int))
  let x32 : Int := (iadd .i64 d.2.2.2.2.2.1.1 (1 : Int))
  (T.1 ((x30, ()), (d.2.1, (d.2.2.1, ((), ((x31, ()), ((x32, ()), ()))))))))
  else none)
  else (
  some (d.1, ((), ())))))
def f_ref01_plus_t : Nat → TT_ref01_plus
  | 0 => (fun _ => none, ())
  | k + 1 => (f_ref01_plus_p5 (f_ref01_plus_t k), ())
theorem t_ref01_plus (k : Nat) : f_ref01_plus_t (k + 1) = (f_ref01_plus_p5 (f_ref01_plus_t k), ()) := rfl
def f_ref01_plus_m (T : TT_ref01_plus) (d : Unit × (((List Int) × Unit) × (((List Int) × Unit) × Unit))) : Option (((List Int) × Unit) × (Unit × Unit)) :=
  (T.1 ((([] : List Int), ()), (d.2.1, (d.2.2.1, ((), (((0 : Int), ()), (((0 : Int), ()), ())))))))
def c_ref01_plus : List Nat := []
def L_ref01_plus (k : Nat) : Pts po_ref01_plus.den := [(5, ⟨sh_ref01_plus_5, (f_ref01_plus_t k).1⟩)]
def R_ref01_plus (_ : Nat) : PtsR po_ref01_plus.den := []
def E_ref01_plus : Env := (E0.add 144 (typedSem pi_ref01_digit po_ref01_digit g_ref01_digit))
theorem q_ref01_plus_5 (k : Nat) (d : sh_ref01_plus_5.den) : evAt E_ref01_plus (tb (L_ref01_plus k) (R_ref01_plus k)) c_ref01_plus 5 (bodyOf Tryz.f110) 0 (finK E_ref01_plus po_ref01_plus [.tmp 4]) (ptSt sh_ref01_plus_5 d) = f_ref01_plus_p5 (f_ref01_plus_t k) d := by kernel_rfl
theorem q_ref01_plus_m (k : Nat) (d : pi_ref01_plus.den) : evCode E_ref01_plus (tb (L_ref01_plus k) (R_ref01_plus k)) c_ref01_plus (bodyOf Tryz.f110) 0 (finK E_ref01_plus po_ref01_plus [.tmp 4]) (startSt pi_ref01_plus 42 d) = f_ref01_plus_m (f_ref01_plus_t k) d := by kernel_rfl
def g_ref01_plus (d : Unit × (((List Int) × Unit) × (((List Int) × Unit) × Unit))) : Option (((List Int) × Unit) × (Unit × Unit)) := lim fun k => f_ref01_plus_m (f_ref01_plus_t k) d
theorem ok_ref01_plus : FnOk Tryz.prog ET0 110 pi_ref01_plus po_ref01_plus g_ref01_plus :=
  fn_of_body (E := E_ref01_plus) (envOk_add e0_ok (typed_ok ok_ref01_digit)) (fn := Tryz.f110) Tryz.func110 (by kernel_rfl) (by kernel_rfl) [.tmp 4] (by kernel_rfl) (by kernel_rfl) (by decide) rfl c_ref01_plus L_ref01_plus R_ref01_plus
    (by intro x hx d; simp only [L_ref01_plus, List.mem_cons, List.not_mem_nil, or_false] at hx; subst hx; rfl)
    (by intro k x hx d out h; simp only [L_ref01_plus, List.mem_cons, List.not_mem_nil, or_false] at hx; subst hx; exact (q_ref01_plus_5 k d).trans h)
    (by intro x hx; cases hx)
    (by intro k x hx; cases hx)
    (by intro d out h; obtain ⟨k, hk⟩ := lim_some h; exact ⟨k, (q_ref01_plus_m k d).trans hk⟩)

@[reducible] def pi_ref01_cut : PSh := ⟨[], [.mk false [.v (.sl (.int .u64))]]⟩
@[reducible] def po_ref01_cut : PSh := ⟨[], [.mk false [.v (.sl (.int .u64))]]⟩
@[reducible] def TT_ref01_cut : Type := (((Unit × (((List Int) × Unit) × Unit)) → Option (Unit × (((List Int) × Unit) × Unit))) × Unit)
@[reducible] def sh_ref01_cut_2 : PSh := ⟨[], [.mk false [.v (.sl (.int .u64))], .any, .any, .any, .any, .any, .any, .any, .any, .any, .any, .any, .any, .any, .any, .any, .any, .any, .any, .any, .any]⟩
def f_ref01_cut_p2 (T : TT_ref01_cut) (d : Unit × (((List Int) × Unit) × Unit)) : Option (Unit × (((List Int) × Unit) × Unit)) :=
  let x1 : Int := (d.2.1.1.length : Int)
  let x2 : Bool := (decide (x1 > (0 : Int)))
  bif x2 then (
  let x3 : Int := (d.2.1.1.length : Int)
  let x4 : Int := (isub .i64 x3 (1 : Int))
  bif decide ((0 : Int) ≤ x4) && decide (x4 < (d.2.1.1.length : Int)) then (
  let x5 : Bool := ((gd (.int .u64) d.2.1.1 x4) == (0 : Int))
  bif x5 then (
  let x6 : Int := (d.2.1.1.length : Int)
  let x7 : Int := (isub .i64 x6 (1 : Int))
  bif decide ((0 : Int) ≤ (0 : Int)) && decide ((0 : Int) ≤ x7) && decide (x7 ≤ (d.2.1.1.length : Int)) then (
  let x8 : (List Int) := (List.drop (Int.toNat (0 : Int)) (List.take (Int.toNat x7) d.2.1.1))
  (T.1 ((), ((x8, ()), ()))))
  else none)
  else (
  some ((), d.2)))
  else none)
  else (
  some ((), d.2))
def f_ref01_cut_t : Nat → TT_ref01_cut
  | 0 => (fun _ => none, ())
  | k + 1 => (f_ref01_cut_p2 (f_ref01_cut_t k), ())
theorem t_ref01_cut (k : Nat) : f_ref01_cut_t (k + 1) = (f_ref01_cut_p2 (f_ref01_cut_t k), ()) := rfl
def f_ref01_cut_m (T : TT_ref01_cut) (d : Unit × (((List Int) × Unit) × Unit)) : Option (Unit × (((List Int) × Unit) × Unit)) :=
  (T.1 ((), d.2))
def c_ref01_cut : List Nat := []
def L_ref01_cut (k : Nat) : Pts po_ref01_cut.den := [(2, ⟨sh_ref01_cut_2, (f_ref01_cut_t k).1⟩)]
def R_ref01_cut (_ : Nat) : PtsR po_ref01_cut.den := []
def E_ref01_cut : Env := E0
theorem q_ref01_cut_2 (k : Nat) (d : sh_ref01_cut_2.den) : evAt E_ref01_cut (tb (L_ref01_cut k) (R_ref01_cut k)) c_ref01_cut 2 (bodyOf Tryz.f145) 0 (finK E_ref01_cut po_ref01_cut [.tmp 2]) (ptSt sh_ref01_cut_2 d) = f_ref01_cut_p2 (f_ref01_cut_t k) d := by kernel_rfl
theorem q_ref01_cut_m (k : Nat) (d : pi_ref01_cut.den) : evCode E_ref01_cut (tb (L_ref01_cut k) (R_ref01_cut k)) c_ref01_cut (bodyOf Tryz.f145) 0 (finK E_ref01_cut po_ref01_cut [.tmp 2]) (startSt pi_ref01_cut 21 d) = f_ref01_cut_m (f_ref01_cut_t k) d := by kernel_rfl
def g_ref01_cut (d : Unit × (((List Int) × Unit) × Unit)) : Option (Unit × (((List Int) × Unit) × Unit)) := lim fun k => f_ref01_cut_m (f_ref01_cut_t k) d
theorem ok_ref01_cut : FnOk Tryz.prog ET0 145 pi_ref01_cut po_ref01_cut g_ref01_cut :=
  fn_of_body (E := E_ref01_cut) e0_ok (fn := Tryz.f145) Tryz.func145 (by kernel_rfl) (by kernel_rfl) [.tmp 2] (by kernel_rfl) (by kernel_rfl) (by decide) rfl c_ref01_cut L_ref01_cut R_ref01_cut
    (by intro x hx d; simp only [L_ref01_cut, List.mem_cons, List.not_mem_nil, or_false] at hx; subst hx; rfl)
    (by intro k x hx d out h; simp only [L_ref01_cut, List.mem_cons, List.not_mem_nil, or_false] at hx; subst hx; exact (q_ref01_cut_2 k d).trans h)
    (by intro x hx; cases hx)
    (by intro k x hx; cases hx)
    (by intro d out h; obtain ⟨k, hk⟩ := lim_some h; exact ⟨k, (q_ref01_cut_m k d).trans hk⟩)

@[reducible] def pi_ref01_minus : PSh := ⟨[], [.mk false [.v (.sl (.int .u64))], .mk false [.v (.sl (.int .u64))]]⟩
@[reducible] def po_ref01_minus : PSh := ⟨[], [.mk false [.v (.sl (.int .u64))]]⟩
@[reducible] def TT_ref01_minus : Type := (((((List Int) × Unit) × (((List Int) × Unit) × (((List Int) × Unit) × (Unit × ((Int × Unit) × ((Int × Unit) × Unit)))))) → Option (Unit × (((List Int) × Unit) × Unit))) × Unit)
@[reducible] def sh_ref01_minus_5 : PSh := ⟨[.row 122 (.int .u64)], [.mk false [.v (.sl (.int .u64))], .mk false [.v (.sl (.int .u64))], .any, .any, .any, .mk false [.osl 0], .mk false [.v (.int .u64)], .mk false [vI], .any, .any, .any, .any, .any, .any, .any, .any, .any, .any, .any, .any, .any, .any, .any, .any, .any, .any, .any, .any, .any, .any, .any, .any, .any, .any, .any]⟩
def f_ref01_minus_p5 (T : TT_ref01_minus) (d : ((List Int) × Unit) × (((List Int) × Unit) × (((List Int) × Unit) × (Unit × ((Int × Unit) × ((Int × Unit) × Unit)))))) : Option (Unit × (((List Int) × Unit) × Unit)) :=
  let x1 : Int := (d.2.1.1.length : Int)
  let x2 : Bool := (decide (d.2.2.2.2.2.1.1 < x1))
  bif x2 then (
  (g_ref01_digit ((), (d.2.1, d.2.2.2.2.2))).bind fun x3 =>
  let x4 : Int := (iadd .u64 (65536 : Int) x3.2.1.1)
  (g_ref01_digit ((), (d.2.2.1, d.2.2.2.2.2))).bind fun x5 =>
  let x6 : Int := (isub .u64 x4 x5.2.1.1)
  let x7 : Int := (isub .u64 x6 d.2.2.2.2.1.1)
  let x8 : Int := (Int.tmod x7 (65536 : Int))
  let x9 : (List Int) := ([x8] : List Int)
  bif decide (((d.1.1.length + x9.length) * 8 : Nat) ≤ 140737488355328) && decide (d.1.1.length + x9.length ≤ 9223372036854775807) then (
  let x10 : (List Int) := (d.1.1 ++ x9)
  let x11 : Int := (iquo .u64 x7 (65536 : Int))
  let x12 : Int := (isub .u64 (1 : Int) x11)
  let x13 : Int := (iadd .i64 d.2.2.2.2.2.1.1 (1 : Int))
  (T.1 ((x10, ()), (d.2.1, (d.2.2.1, ((), ((x12, ()), ((x13, ()), ()))))))))
  else none)
  else (
  (g_ref01_cut ((), (d.1, ()))).bind fun x14 =>
  some ((), x14.2))
def f_ref01_minus_t : Nat → TT_ref01_minus
  | 0 => (fun _ => none, ())
  | k + 1 => (f_ref01_minus_p5 (f_ref01_minus_t k), ())
theorem t_ref01_minus (k : Nat) : f_ref01_minus_t (k + 1) = (f_ref01_minus_p5 (f_ref01_minus_t k), ()) := rfl
def f_ref01_minus_m (T : TT_ref01_minus) (d : Unit × (((List Int) × Unit) × (((List Int) × Unit) × Unit))) : Option (Unit × (((List Int) × Unit) × Unit)) :=
  (T.1 ((([] : List Int), ()), (d.2.1, (d.2.2.1, ((), (((0 : Int), ()), (((0 : Int), ()), ())))))))
def c_ref01_minus : List Nat := []
def L_ref01_minus (k : Nat) : Pts po_ref01_minus.den := [(5, ⟨sh_ref01_minus_5, (f_ref01_minus_t k).1⟩)]
def R_ref01_minus (_ : Nat) : PtsR po_ref01_minus.den := []
def E_ref01_minus : Env := (((E0.add 144 (typedSem pi_ref01_digit po_ref01_digit g_ref01_digit)).add 145 (typedSem pi_ref01_cut po_ref01_cut g_ref01_cut)).fr [(34, [33])])
theorem q_ref01_minus_5 (k : Nat) (d : sh_ref01_minus_5.den) : evAt E_ref01_minus (tb (L_ref01_minus k) (R_ref01_minus k)) c_ref01_minus 5 (bodyOf Tryz.f111) 0 (finK E_ref01_minus po_ref01_minus [.tmp 4]) (ptSt sh_ref01_minus_5 d) = f_ref01_minus_p5 (f_ref01_minus_t k) d := by kernel_rfl
theorem q_ref01_minus_m (k : Nat) (d : pi_ref01_minus.den) : evCode E_ref01_minus (tb (L_ref01_minus k) (R_ref01_minus k)) c_ref01_minus (bodyOf Tryz.f111) 0 (finK E_ref01_minus po_ref01_minus [.tmp 4]) (startSt pi_ref01_minus 35 d) = f_ref01_minus_m (f_ref01_minus_t k) d := by kernel_rfl
def g_ref01_minus (d : Unit × (((List Int) × Unit) × (((List Int) × Unit) × Unit))) : Option (Unit × (((List Int) × Unit) × Unit)) := lim fun k => f_ref01_minus_m (f_ref01_minus_t k) d
theorem ok_ref01_minus : FnOk Tryz.prog ET0 111 pi_ref01_minus po_ref01_minus g_ref01_minus :=
  fn_of_body (E := E_ref01_minus) (envOk_fr (envOk_add (envOk_add e0_ok (typed_ok ok_ref01_digit)) (typed_ok ok_ref01_cut))) (fn := Tryz.f111) Tryz.func111 (by kernel_rfl) (by kernel_rfl) [.tmp 4] (by kernel_rfl) (by kernel_rfl) (by decide) rfl c_ref01_minus L_ref01_minus R_ref01_minus
    (by intro x hx d; simp only [L_ref01_minus, List.mem_cons, List.not_mem_nil, or_false] at hx; subst hx; rfl)
    (by intro k x hx d out h; simp only [L_ref01_minus, List.mem_cons, List.not_mem_nil, or_false] at hx; subst hx; exact (q_ref01_minus_5 k d).trans h)
    (by intro x hx; cases hx)
    (by intro k x hx; cases hx)
    (by intro d out h; obtain ⟨k, hk⟩ := lim_some h; exact ⟨k, (q_ref01_minus_m k d).trans hk⟩)

@[reducible] def pi_ref01_Plus : PSh := ⟨[], [.mk true [vB, .v (.sl (.int .u64))], .mk true [vB, .v (.sl (.int .u64))]]⟩
@[reducible] def po_ref01_Plus : PSh := ⟨[], [.mk true [vB, .v (.sl (.int .u64))]]⟩
def f_ref01_Plus_m (T : Unit) (d : Unit × ((Bool × ((List Int) × Unit)) × ((Bool × ((List Int) × Unit)) × Unit))) : Option (Unit × ((Bool × ((List Int) × Unit)) × Unit)) :=
  let x1 : Bool := (d.2.1.1 == d.2.2.1.1)
  bif x1 then (
  (g_ref01_plus ((), (d.2.1.2, (d.2.2.1.2, ())))).bind fun x2 =>
  some ((), ((d.2.1.1, x2.1), ())))
  else (
  (g_ref01_less ((), (d.2.1.2, (d.2.2.1.2, ())))).bind fun x3 =>
  bif x3.2.1.1 then (
  (g_ref01_minus ((), (d.2.2.1.2, (d.2.1.2, ())))).bind fun x4 =>
  some ((), ((d.2.2.1.1, x4.2.1), ())))
  else (
  (g_ref01_minus ((), (d.2.1.2, (d.2.2.1.2, ())))).bind fun x5 =>
  bif d.2.1.1 then (
  let x6 : Int := (x5.2.1.1.length : Int)
  let x7 : Bool := (decide (x6 > (0 : Int)))
  some ((), ((x7, x5.2.1), ())))
  else (
  some ((), ((false, x5.2.1), ())))))
def g_ref01_Plus (d : Unit × ((Bool × ((List Int) × Unit)) × ((Bool × ((List Int) × Unit)) × Unit))) : Option (Unit × ((Bool × ((List Int) × Unit)) × Unit)) := f_ref01_Plus_m () d
theorem ok_ref01_Plus : FnOk Tryz.prog ET0 72 pi_ref01_Plus po_ref01_Plus g_ref01_Plus :=
  fn0 (E := (((E0.add 109 (typedSem pi_ref01_less po_ref01_less g_ref01_less)).add 110 (typedSem pi_ref01_plus po_ref01_plus g_ref01_plus)).add 111 (typedSem pi_ref01_minus po_ref01_minus g_ref01_minus))) (envOk_add (envOk_add (envOk_add e0_ok (typed_ok ok_ref01_less)) (typed_ok ok_ref01_plus)) (typed_ok ok_ref01_minus)) (fn := Tryz.f72) Tryz.func72 (by kernel_rfl) (by kernel_rfl) [.cell 4 89] (by kernel_rfl) rfl rfl rfl [] fun d => by kernel_rfl

@[reducible] def pi_ref01_times : PSh := ⟨[], [.mk false [.v (.sl (.int .u64))], .mk false [.v (.sl (.int .u64))]]⟩
@[reducible] def po_ref01_times : PSh := ⟨[], [.mk false [.v (.sl (.int .u64))]]⟩
@[reducible] def TT_ref01_times : Type := (((((List Int) × Unit) × (((List Int) × Unit) × (((List Int) × Unit) × (Unit × ((Int × Unit) × Unit))))) → Option (Unit × (((List Int) × Unit) × Unit))) × (((((List Int) × ((List Int) × Unit)) × (((List Int) × Unit) × (((List Int) × Unit) × (Unit × ((Int × Unit) × (Unit × ((Int × Unit) × ((Int × Unit) × Unit)))))))) → Option (Unit × (((List Int) × Unit) × Unit))) × Unit))
@[reducible] def sh_ref01_times_4 : PSh := ⟨[.row 122 (.int .u64)], [.mk false [.v (.sl (.int .u64))], .mk false [.v (.sl (.int .u64))], .any, .any, .any, .mk false [.osl 0], .mk false [vI], .any, .any, .any, .any, .any, .any, .any, .any, .any, .any, .any, .any, .any, .any, .any, .any, .any, .any, .any, .any, .any, .any, .any, .any, .any, .any, .any, .any, .any, .any, .any, .any, .any, .any, .any, .any, .any, .any, .any, .any, .any, .any, .any, .any]⟩
@[reducible] def sh_ref01_times_12 : PSh := ⟨[.row 122 (.int .u64), .row 122 (.int .u64)], [.mk false [.v (.sl (.int .u64))], .mk false [.v (.sl (.int .u64))], .any, .any, .any, .mk false [.osl 0], .mk false [vI], .mk false [.osl 1], .mk false [.v (.int .u64)], .mk false [vI], .any, .any, .any, .any, .any, .any, .any, .any, .any, .any, .any, .any, .any, .any, .any, .any, .any, .any, .any, .any, .any, .any, .any, .any, .any, .any, .any, .any, .any, .any, .any, .any, .any, .any, .any, .any, .any, .any, .any, .any, .any]⟩
def f_ref01_times_p4 (T : TT_ref01_times) (d : ((List Int) × Unit) × (((List Int) × Unit) × (((List Int) × Unit) × (Unit × ((Int × Unit) × Unit))))) : Option (Unit × (((List Int) × Unit) × Unit)) :=
  let x1 : Int := (d.2.2.1.1.length : Int)
  let x2 : Bool := (decide (d.2.2.2.2.1.1 < x1))
  bif x2 then (
  bif decide ((0 : Int) ≤ d.2.2.2.2.1.1) && decide (d.2.2.2.2.1.1 ≤ d.2.2.2.2.1.1) && decide (d.2.2.2.2.1.1 * (8 : Int) ≤ 140737488355328) && decide (d.2.2.2.2.1.1 ≤ 9223372036854775807) then (
  let x3 : (List Int) := (List.replicate (Int.toNat d.2.2.2.2.1.1) (0 : Int))
  (T.2.1 ((d.1.1, (x3, ())), (d.2.1, (d.2.2.1, ((), (d.2.2.2.2.1, ((), (((0 : Int), ()), (((0 : Int), ()), ()))))))))))
  else none)
  else (
  (g_ref01_cut ((), (d.1, ()))).bind fun x4 =>
  some ((), x4.2))
def f_ref01_times_p12 (T : TT_ref01_times) (d : ((List Int) × ((List Int) × Unit)) × (((List Int) × Unit) × (((List Int) × Unit) × (Unit × ((Int × Unit) × (Unit × ((Int × Unit) × ((Int × Unit) × Unit)))))))) : Option (Unit × (((List Int) × Unit) × Unit)) :=
  let x5 : Int := (d.2.1.1.length : Int)
  let x6 : Bool := (decide (d.2.2.2.2.2.2.2.1.1 < x5))
  bif x6 then (
  (g_ref01_digit ((), (d.2.1, d.2.2.2.2.2.2.2))).bind fun x7 =>
  bif decide ((0 : Int) ≤ d.2.2.2.2.1.1) && decide (d.2.2.2.2.1.1 < (d.2.2.1.1.length : Int)) then (
  let x8 : Int := (imul .u64 x7.2.1.1 (gd (.int .u64) d.2.2.1.1 d.2.2.2.2.1.1))
  let x9 : Int := (iadd .u64 x8 d.2.2.2.2.2.2.1.1)
  let x10 : Int := (Int.tmod x9 (65536 : Int))
  let x11 : (List Int) := ([x10] : List Int)
  bif decide (((d.1.2.1.length + x11.length) * 8 : Nat) ≤ 140737488355328) && decide (d.1.2.1.length + x11.length ≤ 9223372036854775807) then (
  let x12 : (List Int) := (d.1.2.1 ++ x11)
  let x13 : Int := (iquo .u64 x9 (65536 : Int))
  let x14 : Int := (iadd .i64 d.2.2.2.2.2.2.2.1.1 (1 : Int))
  (T.2.1 ((d.1.1, (x12, ())), (d.2.1, (d.2.2.1, ((), (d.2.2.2.2.1, ((), ((x13, ()), ((x14, ()), ()))))))))))
  else none)
  else none)
  else (
  let x15 : Bool := (decide (d.2.2.2.2.2.2.1.1 > (0 : Int)))
  bif x15 then (
  (g_ref01_digit ((), (d.2.1, d.2.2.2.2.2.2.2))).bind fun x16 =>
  bif decide ((0 : Int) ≤ d.2.2.2.2.1.1) && decide (d.2.2.2.2.1.1 < (d.2.2.1.1.length : Int)) then (
  let x17 : Int := (imul .u64 x16.2.1.1 (gd (.int .u64) d.2.2.1.1 d.2.2.2.2.1.1))
  let x18 : Int := (iadd .u64 x17 d.2.2.2.2.2.2.1.1)
  let x19 : Int := (Int.tmod x18 (65536 : Int))
  let x20 : (List Int) := ([x19] : List Int)
  bif decide (((d.1.2.1.length + x20.length) * 8 : Nat) ≤ 140737488355328) && decide (d.1.2.1.length + x20.length ≤ 9223372036854775807) then (
  let x21 : (List Int) := (d.1.2.1 ++ x20)
  let x22 : Int := (iquo .u64 x18 (65536 : Int))
  let x23 : Int := (iadd .i64 d.2.2.2.2.2.2.2.1.1 (1 : Int))
  (T.2.1 ((d.1.1, (x21, ())), (d.2.1, (d.2.2.1, ((), (d.2.2.2.2.1, ((), ((x22, ()), ((x23, ()), ()))))))))))
  else none)
  else none)
  else (
  (g_ref01_plus ((), ((d.1.1, ()), (d.1.2, ())))).bind fun x24 =>
  let x25 : Int := (iadd .i64 d.2.2.2.2.1.1 (1 : Int))
  (T.1 (x24.1, (d.2.1, (d.2.2.1, ((), ((x25, ()), ()))))))))
def f_ref01_times_t : Nat → TT_ref01_times
  | 0 => (fun _ => none, (fun _ => none, ()))
  | k + 1 => (f_ref01_times_p4 (f_ref01_times_t k), (f_ref01_times_p12 (f_ref01_times_t k), ()))
theorem t_ref01_times (k : Nat) : f_ref01_times_t (k + 1) = (f_ref01_times_p4 (f_ref01_times_t k), (f_ref01_times_p12 (f_ref01_times_t k), ())) := rfl
def f_ref01_times_m (T : TT_ref01_times) (d : Unit × (((List Int) × Unit) × (((List Int) × Unit) × Unit))) : Option (Unit × (((List Int) × Unit) × Unit)) :=
  (T.1 ((([] : List Int), ()), (d.2.1, (d.2.2.1, ((), (((0 : Int), ()), ()))))))
def c_ref01_times : List Nat := []
def L_ref01_times (k : Nat) : Pts po_ref01_times.den := [(4, ⟨sh_ref01_times_4, (f_ref01_times_t k).1⟩), (12, ⟨sh_ref01_times_12, (f_ref01_times_t k).2.1⟩)]
def R_ref01_times (_ : Nat) : PtsR po_ref01_times.den := []
def E_ref01_times : Env := ((((E0.add 110 (typedSem pi_ref01_plus po_ref01_plus g_ref01_plus)).add 144 (typedSem pi_ref01_digit po_ref01_digit g_ref01_digit)).add 145 (typedSem pi_ref01_cut po_ref01_cut g_ref01_cut)).fr [(50, [49])])
theorem q_ref01_times_4 (k : Nat) (d : sh_ref01_times_4.den) : evAt E_ref01_times (tb (L_ref01_times k) (R_ref01_times k)) c_ref01_times 4 (bodyOf Tryz.f112) 0 (finK E_ref01_times po_ref01_times [.tmp 4]) (ptSt sh_ref01_times_4 d) = f_ref01_times_p4 (f_ref01_times_t k) d := by kernel_rfl
theorem q_ref01_times_12 (k : Nat) (d : sh_ref01_times_12.den) : evAt E_ref01_times (tb (L_ref01_times k) (R_ref01_times k)) c_ref01_times 12 (bodyOf Tryz.f112) 0 (finK E_ref01_times po_ref01_times [.tmp 4]) (ptSt sh_ref01_times_12 d) = f_ref01_times_p12 (f_ref01_times_t k) d := by kernel_rfl
theorem q_ref01_times_m (k : Nat) (d : pi_ref01_times.den) : evCode E_ref01_times (tb (L_ref01_times k) (R_ref01_times k)) c_ref01_times (bodyOf Tryz.f112) 0 (finK E_ref01_times po_ref01_times [.tmp 4]) (startSt pi_ref01_times 51 d) = f_ref01_times_m (f_ref01_times_t k) d := by kernel_rfl
def g_ref01_times (d : Unit × (((List Int) × Unit) × (((List Int) × Unit) × Unit))) : Option (Unit × (((List Int) × Unit) × Unit)) := lim fun k => f_ref01_times_m (f_ref01_times_t k) d
theorem ok_ref01_times : FnOk Tryz.prog ET0 112 pi_ref01_times po_ref01_times g_ref01_times :=
  fn_of_body (E := E_ref01_times) (envOk_fr (envOk_add (envOk_add (envOk_add e0_ok (typed_ok ok_ref01_plus)) (typed_ok ok_ref01_digit)) (typed_ok ok_ref01_cut))) (fn := Tryz.f112) Tryz.func112 (by kernel_rfl) (by kernel_rfl) [.tmp 4] (by kernel_rfl) (by kernel_rfl) (by decide) rfl c_ref01_times L_ref01_times R_ref01_times
    (by intro x hx d; simp only [L_ref01_times, List.mem_cons, List.not_mem_nil, or_false] at hx; rcases hx with rfl | rfl; rfl; rfl)
    (by intro k x hx d out h; simp only [L_ref01_times, List.mem_cons, List.not_mem_nil, or_false] at hx; rcases hx with rfl | rfl; exact (q_ref01_times_4 k d).trans h; exact (q_ref01_times_12 k d).trans h)
    (by intro x hx; cases hx)
    (by intro k x hx; cases hx)
    (by intro d out h; obtain ⟨k, hk⟩ := lim_some h; exact ⟨k, (q_ref01_times_m k d).trans hk⟩)

@[reducible] def pi_ref01_Times : PSh := ⟨[], [.mk true [vB, .v (.sl (.int .u64))], .mk true [vB, .v (.sl (.int .u64))]]⟩
@[reducible] def po_ref01_Times : PSh := ⟨[], [.mk true [vB, .v (.sl (.int .u64))]]⟩
def f_ref01_Times_m (T : Unit) (d : Unit × ((Bool × ((List Int) × Unit)) × ((Bool × ((List Int) × Unit)) × Unit))) : Option (Unit × ((Bool × ((List Int) × Unit)) × Unit)) :=
  (g_ref01_times ((), (d.2.1.2, (d.2.2.1.2, ())))).bind fun x1 =>
  let x2 : Bool := (!(d.2.1.1 == d.2.2.1.1))
  bif x2 then (
  let x3 : Int := (x1.2.1.1.length : Int)
  let x4 : Bool := (decide (x3 > (0 : Int)))
  some ((), ((x4, x1.2.1), ())))
  else (
  some ((), ((false, x1.2.1), ())))
def g_ref01_Times (d : Unit × ((Bool × ((List Int) × Unit)) × ((Bool × ((List Int) × Unit)) × Unit))) : Option (Unit × ((Bool × ((List Int) × Unit)) × Unit)) := f_ref01_Times_m () d
theorem ok_ref01_Times : FnOk Tryz.prog ET0 73 pi_ref01_Times po_ref01_Times g_ref01_Times :=
  fn0 (E := (E0.add 112 (typedSem pi_ref01_times po_ref01_times g_ref01_times))) (envOk_add e0_ok (typed_ok ok_ref01_times)) (fn := Tryz.f73) Tryz.func73 (by kernel_rfl) (by kernel_rfl) [.cell 4 89] (by kernel_rfl) rfl rfl rfl [] fun d => by kernel_rfl

@[reducible] def pi_ref02_Big : PSh := ⟨[], [.mk false [vS]]⟩
@[reducible] def po_ref02_Big : PSh := ⟨[], [.mk true [vB, .v (.sl (.int .u64))]]⟩
@[reducible] def TT_ref02_Big : Type := (((((Bool × Unit) × ((List Int) × ((Bool × ((List Int) × Unit)) × Unit))) × ((ByteArray × Unit) × (Unit × (Unit × ((Int × Unit) × Unit))))) → Option (Unit × ((Bool × ((List Int) × Unit)) × Unit))) × Unit)
@[reducible] def sh_ref02_Big_4 : PSh := ⟨[.var 89 [vB, .osl 1], .row 122 (.int .u64), .var 89 [vB, .v (.sl (.int .u64))]], [.mk false [vS], .any, .mk false [.ref 0 0], .mk false [.ref 2 0], .mk false [vI], .any, .any, .any, .any, .any, .any, .any, .any, .any, .any, .any, .any, .any, .any, .any, .any, .any, .any]⟩
def f_ref02_Big_p4 (T : TT_ref02_Big) (d : ((Bool × Unit) × ((List Int) × ((Bool × ((List Int) × Unit)) × Unit))) × ((ByteArray × Unit) × (Unit × (Unit × ((Int × Unit) × Unit))))) : Option (Unit × ((Bool × ((List Int) × Unit)) × Unit)) :=
  let x2 : Int := (d.2.1.1.size : Int)
  let x3 : Bool := (decide (d.2.2.2.2.1.1 < x2))
  bif x3 then (
  (g_ref01_Of ((), (((10 : Int), ()), ()))).bind fun x4 =>
  (g_ref01_Times ((), (d.1.2.2.1, ((x4.2.1.1, x4.1), ())))).bind fun x5 =>
  bif decide ((0 : Int) ≤ d.2.2.2.2.1.1) && decide (d.2.2.2.2.1.1 < ((d.2.1.1.size : Int) : Int)) then (
  let x6 : Int := (bt d.2.1.1 d.2.2.2.2.1.1)
  let x7 : Int := (isub .u8 x6 (48 : Int))
  let x8 : Int := (iconv .i64 x7)
  (g_ref01_Of ((), ((x8, ()), ()))).bind fun x9 =>
  (g_ref01_Plus ((), (x5.2.1, ((x9.2.1.1, x9.1), ())))).bind fun x10 =>
  let x11 : Int := (iadd .i64 d.2.2.2.2.1.1 (1 : Int))
  (T.1 ((d.1.1, (d.1.2.1, x10.2)), (d.2.1, ((), ((), ((x11, ()), ())))))))
  else none)
  else (
  some ((), d.1.2.2))
def f_ref02_Big_t : Nat → TT_ref02_Big
  | 0 => (fun _ => none, ())
  | k + 1 => (f_ref02_Big_p4 (f_ref02_Big_t k), ())
theorem t_ref02_Big (k : Nat) : f_ref02_Big_t (k + 1) = (f_ref02_Big_p4 (f_ref02_Big_t k), ()) := rfl
def f_ref02_Big_m (T : TT_ref02_Big) (d : Unit × ((ByteArray × Unit) × Unit)) : Option (Unit × ((Bool × ((List Int) × Unit)) × Unit)) :=
  (g_ref01_Of ((), (((0 : Int), ()), ()))).bind fun x1 =>
  (T.1 (((false, ()), (([] : List Int), ((x1.2.1.1, x1.1), ()))), (d.2.1, ((), ((), (((0 : Int), ()), ()))))))
def c_ref02_Big : List Nat := []
def L_ref02_Big (k : Nat) : Pts po_ref02_Big.den := [(4, ⟨sh_ref02_Big_4, (f_ref02_Big_t k).1⟩)]
def R_ref02_Big (_ : Nat) : PtsR po_ref02_Big.den := []
def E_ref02_Big : Env := ((((E0.add 70 (typedSem pi_ref01_Of po_ref01_Of g_ref01_Of)).add 72 (typedSem pi_ref01_Plus po_ref01_Plus g_ref01_Plus)).add 73 (typedSem pi_ref01_Times po_ref01_Times g_ref01_Times)).fr [(1000005, [1000003])])
theorem q_ref02_Big_4 (k : Nat) (d : sh_ref02_Big_4.den) : evAt E_ref02_Big (tb (L_ref02_Big k) (R_ref02_Big k)) c_ref02_Big 4 (bodyOf Tryz.f45) 0 (finK E_ref02_Big po_ref02_Big [.cell 2 89]) (ptSt sh_ref02_Big_4 d) = f_ref02_Big_p4 (f_ref02_Big_t k) d := by kernel_rfl
theorem q_ref02_Big_m (k : Nat) (d : pi_ref02_Big.den) : evCode E_ref02_Big (tb (L_ref02_Big k) (R_ref02_Big k)) c_ref02_Big (bodyOf Tryz.f45) 0 (finK E_ref02_Big po_ref02_Big [.cell 2 89]) (startSt pi_ref02_Big 23 d) = f_ref02_Big_m (f_ref02_Big_t k) d := by kernel_rfl
def g_ref02_Big (d : Unit × ((ByteArray × Unit) × Unit)) : Option (Unit × ((Bool × ((List Int) × Unit)) × Unit)) := lim fun k => f_ref02_Big_m (f_ref02_Big_t k) d
theorem ok_ref02_Big : FnOk Tryz.prog ET0 45 pi_ref02_Big po_ref02_Big g_ref02_Big :=
  fn_of_body (E := E_ref02_Big) (envOk_fr (envOk_add (envOk_add (envOk_add e0_ok (typed_ok ok_ref01_Of)) (typed_ok ok_ref01_Plus)) (typed_ok ok_ref01_Times))) (fn := Tryz.f45) Tryz.func45 (by kernel_rfl) (by kernel_rfl) [.cell 2 89] (by kernel_rfl) (by kernel_rfl) (by decide) rfl c_ref02_Big L_ref02_Big R_ref02_Big
    (by intro x hx d; simp only [L_ref02_Big, List.mem_cons, List.not_mem_nil, or_false] at hx; subst hx; rfl)
    (by intro k x hx d out h; simp only [L_ref02_Big, List.mem_cons, List.not_mem_nil, or_false] at hx; subst hx; exact (q_ref02_Big_4 k d).trans h)
    (by intro x hx; cases hx)
    (by intro k x hx; cases hx)
    (by intro d out h; obtain ⟨k, hk⟩ := lim_some h; exact ⟨k, (q_ref02_Big_m k d).trans hk⟩)

@[reducible] def pi_ref32_Parse : PSh := ⟨[], [.mk false [vS]]⟩
@[reducible] def po_ref32_Parse : PSh := ⟨[], [.mk true [vI, vI, vI, vI, vI, vI, vI, vI, vI, vI, vI, vI], .mk false [vI]]⟩
@[reducible] def TT_ref32_Parse : Type := (((((Int × (Int × (Int × (Int × (Int × (Int × (Int × (Int × (Int × (Int × (Int × (Int × Unit)))))))))))) × ((Int × (Int × (Int × (Int × (Int × (Int × (Int × (Int × (Int × (Int × (Int × (Int × Unit)))))))))))) × ((List ByteArray) × Unit))) × ((ByteArray × Unit) × (Unit × (Unit × ((Bool × Unit) × ((Int × Unit) × (Unit × ((Int × Unit) × Unit)))))))) → Option (Unit × ((Int × (Int × (Int × (Int × (Int × (Int × (Int × (Int × (Int × (Int × (Int × (Int × Unit)))))))))))) × ((Int × Unit) × Unit)))) × (((((Int × (Int × (Int × (Int × (Int × (Int × (Int × (Int × (Int × (Int × (Int × (Int × Unit)))))))))))) × ((Int × (Int × (Int × (Int × (Int × (Int × (Int × (Int × (Int × (Int × (Int × (Int × Unit)))))))))))) × ((List ByteArray) × Unit))) × ((ByteArray × Unit) × (Unit × (Unit × ((Bool × Unit) × ((Int × Unit) × (Unit × ((Int × Unit) × ((Int × Unit) × ((Bool × Unit) × Unit)))))))))) → Option (Unit × ((Int × (Int × (Int × (Int × (Int × (Int × (Int × (Int × (Int × (Int × (Int × (Int × Unit)))))))))))) × ((Int × Unit) × Unit)))) × (((((Int × (Int × (Int × (Int × (Int × (Int × (Int × (Int × (Int × (Int × (Int × (Int × Unit)))))))))))) × ((Int × (Int × (Int × (Int × (Int × (Int × (Int × (Int × (Int × (Int × (Int × (Int × Unit)))))))))))) × ((List ByteArray) × Unit))) × ((ByteArray × Unit) × (Unit × (Unit × ((Bool × Unit) × ((Int × Unit) × (Unit × ((Int × Unit) × ((Int × Unit) × ((Int × Unit) × Unit)))))))))) → Option (Unit × ((Int × (Int × (Int × (Int × (Int × (Int × (Int × (Int × (Int × (Int × (Int × (Int × Unit)))))))))))) × ((Int × Unit) × Unit)))) × (((((Int × (Int × (Int × (Int × (Int × (Int × (Int × (Int × (Int × (Int × (Int × (Int × Unit)))))))))))) × ((Int × (Int × (Int × (Int × (Int × (Int × (Int × (Int × (Int × (Int × (Int × (Int × Unit)))))))))))) × ((List ByteArray) × Unit))) × ((ByteArray × Unit) × (Unit × (Unit × ((Bool × Unit) × ((Int × Unit) × (Unit × ((Int × Unit) × ((Int × Unit) × Unit))))))))) → Option (Unit × ((Int × (Int × (Int × (Int × (Int × (Int × (Int × (Int × (Int × (Int × (Int × (Int × Unit)))))))))))) × ((Int × Unit) × Unit)))) × Unit))))
@[reducible] def sh_ref32_Parse_7 : PSh := ⟨[.var 34 [vI, vI, vI, vI, vI, vI, vI, vI, vI, vI, vI, vI], .var 34 [vI, vI, vI, vI, vI, vI, vI, vI, vI, vI, vI, vI], .row 9 .str], [.mk false [vS], .any, .mk false [.ref 0 0], .any, .mk false [.ref 1 0], .mk false [vB], .mk false [vI], .mk false [.osl 2], .mk false [vI], .any, .any, .any, .any, .any, .any, .any, .any, .any, .any, .any, .any, .any, .any, .any, .any, .any, .any, .any, .any, .any, .any, .any, .any, .any, .any, .any, .any, .any, .any, .any, .any, .any, .any, .any, .any, .any, .any, .any, .any, .any, .any, .any, .any, .any, .any, .any, .any, .any, .any, .any, .any, .any, .any, .any, .any, .any, .any, .any, .any, .any, .any, .any, .any, .any, .any, .any, .any, .any, .any, .any, .any, .any, .any, .any, .any, .any, .any, .any, .any, .any, .any, .any, .any, .any, .any, .any, .any, .any, .any, .any, .any, .any, .any, .any, .any, .any, .any, .any, .any, .any, .any, .any, .any, .any, .any]⟩
@[reducible] def sh_ref32_Parse_18 : PSh := ⟨[.var 34 [vI, vI, vI, vI, vI, vI, vI, vI, vI, vI, vI, vI], .var 34 [vI, vI, vI, vI, vI, vI, vI, vI, vI, vI, vI, vI], .row 9 .str], [.mk false [vS], .any, .mk false [.ref 0 0], .any, .mk false [.ref 1 0], .mk false [vB], .mk false [vI], .mk false [.osl 2], .mk false [vI], .any, .mk false [vI], .any, .any, .any, .any, .any, .any, .any, .any, .any, .any, .any, .any, .any, .any, .any, .any, .any, .any, .any, .any, .any, .any, .any, .any, .any, .any, .any, .any, .any, .any, .any, .any, .any, .any, .any, .any, .any, .any, .any, .any, .any, .any, .any, .any, .any, .any, .any, .any, .any, .any, .any, .any, .any, .any, .any, .any, .any, .any, .any, .any, .any, .any, .any, .any, .any, .any, .any, .any, .any, .any, .any, .mk false [vB], .any, .any, .any, .any, .any, .any, .any, .any, .any, .any, .any, .any, .any, .any, .any, .any, .any, .any, .any, .any, .any, .any, .any, .any, .any, .any, .any, .any, .any, .any, .any, .any]⟩
@[reducible] def sh_ref32_Parse_21 : PSh := ⟨[.var 34 [vI, vI, vI, vI, vI, vI, vI, vI, vI, vI, vI, vI], .var 34 [vI, vI, vI, vI, vI, vI, vI, vI, vI, vI, vI, vI], .row 9 .str], [.mk false [vS], .any, .mk false [.ref 0 0], .any, .mk false [.ref 1 0], .mk false [vB], .mk false [vI], .mk false [.osl 2], .mk false [vI], .any, .mk false [vI], .mk false [vI], .any, .any, .any, .any, .any, .any, .any, .any, .any, .any, .any, .any, .any, .any, .any, .any, .any, .any, .any, .any, .any, .any, .any, .any, .any, .any, .any, .any, .any, .any, .any, .any, .any, .any, .any, .any, .any, .any, .any, .any, .any, .any, .any, .any, .any, .any, .any, .any, .any, .any, .any, .any, .any, .any, .any, .any, .any, .any, .any, .any, .any, .any, .any, .any, .any, .any, .any, .any, .any, .any, .any, .any, .any, .any, .any, .any, .any, .any, .any, .any, .any, .any, .any, .any, .any, .any, .any, .any, .any, .any, .any, .any, .any, .any, .any, .any, .any, .any, .any, .any, .any, .any, .any]⟩
@[reducible] def sh_ref32_Parse_22 : PSh := ⟨[.var 34 [vI, vI, vI, vI, vI, vI, vI, vI, vI, vI, vI, vI], .var 34 [vI, vI, vI, vI, vI, vI, vI, vI, vI, vI, vI, vI], .row 9 .str], [.mk false [vS], .any, .mk false [.ref 0 0], .any, .mk false [.ref 1 0], .mk false [vB], .mk false [vI], .mk false [.osl 2], .mk false [vI], .any, .mk false [vI], .any, .any, .any, .any, .any, .any, .any, .any, .any, .any, .any, .any, .any, .any, .any, .any, .any, .any, .any, .any, .any, .any, .any, .any, .any, .any, .any, .any, .any, .any, .any, .any, .any, .any, .any, .any, .any, .any, .any, .any, .any, .any, .any, .any, .any, .any, .any, .any, .any, .any, .any, .any, .any, .any, .any, .any, .any, .any, .any, .any, .any, .any, .any, .any, .any, .any, .any, .any, .any, .any, .any, .any, .any, .any, .any, .any, .any, .any, .any, .any, .any, .any, .any, .any, .any, .any, .any, .any, .any, .any, .any, .any, .any, .any, .any, .any, .any, .any, .any, .any, .any, .any, .any, .any]⟩
def f_ref32_Parse_p7 (T : TT_ref32_Parse) (d : ((Int × (Int × (Int × (Int × (Int × (Int × (Int × (Int × (Int × (Int × (Int × (Int × Unit)))))))))))) × ((Int × (Int × (Int × (Int × (Int × (Int × (Int × (Int × (Int × (Int × (Int × (Int × Unit)))))))))))) × ((List ByteArray) × Unit))) × ((ByteArray × Unit) × (Unit × (Unit × ((Bool × Unit) × ((Int × Unit) × (Unit × ((Int × Unit) × Unit)))))))) : Option (Unit × ((Int × (Int × (Int × (Int × (Int × (Int × (Int × (Int × (Int × (Int × (Int × (Int × Unit)))))))))))) × ((Int × Unit) × Unit))) :=
  let x2 : Bool := (decide (d.2.2.2.2.2.2.2.1.1 < (12 : Int)))
  bif x2 then (
  bif decide ((0 : Int) ≤ d.2.2.2.2.2.2.2.1.1) && decide (d.2.2.2.2.2.2.2.1.1 < (d.1.2.2.1.length : Int)) then (
  bif fitsS (gd .str d.1.2.2.1 d.2.2.2.2.2.2.2.1.1) (⟨#[32]⟩ : ByteArray) then (
  let x3 : ByteArray := ((gd .str d.1.2.2.1 d.2.2.2.2.2.2.2.1.1) ++ (⟨#[32]⟩ : ByteArray))
  let x4 : Int := (d.2.1.1.size : Int)
  let x5 : Int := (isub .i64 x4 d.2.2.2.2.2.1.1)
  let x6 : Int := (x3.size : Int)
  let x7 : Bool := (decide (x5 < x6))
  bif x7 then (
  some ((), (((0 : Int), ((0 : Int), ((0 : Int), ((0 : Int), ((0 : Int), ((0 : Int), ((0 : Int), ((0 : Int), ((0 : Int), ((0 : Int), ((0 : Int), ((0 : Int), ())))))))))))), (((2 : Int), ()), ()))))
  else (
  let x8 : Int := (x3.size : Int)
  let x9 : Int := (iadd .i64 d.2.2.2.2.2.1.1 x8)
  bif decide ((0 : Int) ≤ d.2.2.2.2.2.1.1) && decide (d.2.2.2.2.2.1.1 ≤ x9) && decide (x9 ≤ (d.2.1.1.size : Int)) then (
  let x10 : ByteArray := (d.2.1.1.extract (Int.toNat d.2.2.2.2.2.1.1) (Int.toNat x9))
  let x11 : Bool := (!(x10.toList == x3.toList))
  bif x11 then (
  some ((), (((0 : Int), ((0 : Int), ((0 : Int), ((0 : Int), ((0 : Int), ((0 : Int), ((0 : Int), ((0 : Int), ((0 : Int), ((0 : Int), ((0 : Int), ((0 : Int), ())))))))))))), (((2 : Int), ()), ()))))
  else (
  let x12 : Int := (x3.size : Int)
  let x13 : Int := (iadd .i64 d.2.2.2.2.2.1.1 x12)
  bif decide ((0 : Int) ≤ x13) && decide (x13 ≤ (d.2.1.1.size : Int)) && decide ((d.2.1.1.size : Int) ≤ (d.2.1.1.size : Int)) then (
  let x14 : ByteArray := (d.2.1.1.extract (Int.toNat x13) (Int.toNat (d.2.1.1.size : Int)))
  (g_ref02_Many ((), ((x14, ()), ()))).bind fun x15 =>
  let x16 : Bool := (decide (x15.2.1.1 < (1 : Int)))
  bif x16 then (
  (T.2.1 (d.1, (d.2.1, ((), ((), (d.2.2.2.2.1, ((x13, ()), ((), (d.2.2.2.2.2.2.2.1, (x15.2.1, ((true, ()), ()))))))))))))
  else (
  let x17 : Bool := (decide (x15.2.1.1 > (19 : Int)))
  bif x17 then (
  (T.2.1 (d.1, (d.2.1, ((), ((), (d.2.2.2.2.1, ((x13, ()), ((), (d.2.2.2.2.2.2.2.1, (x15.2.1, ((true, ()), ()))))))))))))
  else (
  let x18 : Bool := (decide (x15.2.1.1 > (1 : Int)))
  bif x18 then (
  bif decide ((0 : Int) ≤ x13) && decide (x13 < ((d.2.1.1.size : Int) : Int)) then (
  let x19 : Int := (bt d.2.1.1 x13)
  let x20 : Bool := (x19 == (48 : Int))
  bif x20 then (
  (T.2.1 (d.1, (d.2.1, ((), ((), (d.2.2.2.2.1, ((x13, ()), ((), (d.2.2.2.2.2.2.2.1, (x15.2.1, ((true, ()), ()))))))))))))
  else (
  let x21 : Int := (iadd .i64 x13 x15.2.1.1)
  let x22 : Int := (d.2.1.1.size : Int)
  let x23 : Bool := (decide (x21 ≥ x22))
  bif x23 then (
  (T.2.1 (d.1, (d.2.1, ((), ((), (d.2.2.2.2.1, ((x13, ()), ((), (d.2.2.2.2.2.2.2.1, (x15.2.1, ((true, ()), ()))))))))))))
  else (
  let x24 : Int := (iadd .i64 x13 x15.2.1.1)
  bif decide ((0 : Int) ≤ x24) && decide (x24 < ((d.2.1.1.size : Int) : Int)) then (
  let x25 : Int := (bt d.2.1.1 x24)
  let x26 : Bool := (x25 != (10 : Int))
  (T.2.1 (d.1, (d.2.1, ((), ((), (d.2.2.2.2.1, ((x13, ()), ((), (d.2.2.2.2.2.2.2.1, (x15.2.1, ((x26, ()), ()))))))))))))
  else none)))
  else none)
  else (
  let x27 : Int := (iadd .i64 x13 x15.2.1.1)
  let x28 : Int := (d.2.1.1.size : Int)
  let x29 : Bool := (decide (x27 ≥ x28))
  bif x29 then (
  (T.2.1 (d.1, (d.2.1, ((), ((), (d.2.2.2.2.1, ((x13, ()), ((), (d.2.2.2.2.2.2.2.1, (x15.2.1, ((true, ()), ()))))))))))))
  else (
  let x30 : Int := (iadd .i64 x13 x15.2.1.1)
  bif decide ((0 : Int) ≤ x30) && decide (x30 < ((d.2.1.1.size : Int) : Int)) then (
  let x31 : Int := (bt d.2.1.1 x30)
  let x32 : Bool := (x31 != (10 : Int))
  (T.2.1 (d.1, (d.2.1, ((), ((), (d.2.2.2.2.1, ((x13, ()), ((), (d.2.2.2.2.2.2.2.1, (x15.2.1, ((x32, ()), ()))))))))))))
  else none)))))
  else none))
  else none))
  else none)
  else none)
  else (
  let x33 : Int := (d.2.1.1.size : Int)
  let x34 : Bool := (decide (d.2.2.2.2.2.1.1 < x33))
  bif x34 then (
  some ((), (((0 : Int), ((0 : Int), ((0 : Int), ((0 : Int), ((0 : Int), ((0 : Int), ((0 : Int), ((0 : Int), ((0 : Int), ((0 : Int), ((0 : Int), ((0 : Int), ())))))))))))), (((2 : Int), ()), ()))))
  else (
  bif d.2.2.2.2.1.1 then (
  some ((), (((0 : Int), ((0 : Int), ((0 : Int), ((0 : Int), ((0 : Int), ((0 : Int), ((0 : Int), ((0 : Int), ((0 : Int), ((0 : Int), ((0 : Int), ((0 : Int), ())))))))))))), (((5 : Int), ()), ()))))
  else (
  some ((), (d.1.2.1, (((0 : Int), ()), ()))))))
def f_ref32_Parse_p18 (T : TT_ref32_Parse) (d : ((Int × (Int × (Int × (Int × (Int × (Int × (Int × (Int × (Int × (Int × (Int × (Int × Unit)))))))))))) × ((Int × (Int × (Int × (Int × (Int × (Int × (Int × (Int × (Int × (Int × (Int × (Int × Unit)))))))))))) × ((List ByteArray) × Unit))) × ((ByteArray × Unit) × (Unit × (Unit × ((Bool × Unit) × ((Int × Unit) × (Unit × ((Int × Unit) × ((Int × Unit) × ((Bool × Unit) × Unit)))))))))) : Option (Unit × ((Int × (Int × (Int × (Int × (Int × (Int × (Int × (Int × (Int × (Int × (Int × (Int × Unit)))))))))))) × ((Int × Unit) × Unit))) :=
  bif d.2.2.2.2.2.2.2.2.2.1.1 then (
  some ((), (((0 : Int), ((0 : Int), ((0 : Int), ((0 : Int), ((0 : Int), ((0 : Int), ((0 : Int), ((0 : Int), ((0 : Int), ((0 : Int), ((0 : Int), ((0 : Int), ())))))))))))), (((2 : Int), ()), ()))))
  else (
  let x35 : Int := (iadd .i64 d.2.2.2.2.2.1.1 d.2.2.2.2.2.2.2.2.1.1)
  bif decide ((0 : Int) ≤ d.2.2.2.2.2.1.1) && decide (d.2.2.2.2.2.1.1 ≤ x35) && decide (x35 ≤ (d.2.1.1.size : Int)) then (
  let x36 : ByteArray := (d.2.1.1.extract (Int.toNat d.2.2.2.2.2.1.1) (Int.toNat x35))
  (g_ref02_Big ((), ((x36, ()), ()))).bind fun x37 =>
  (g_ref01_Small ((), x37.2)).bind fun x38 =>
  bif d.2.2.2.2.1.1 then (
  (T.2.2.1 (d.1, (d.2.1, ((), ((), ((true, ()), (d.2.2.2.2.2.1, ((), (d.2.2.2.2.2.2.2.1, (d.2.2.2.2.2.2.2.2.1, (x38.2.1, ()))))))))))))
  else (
  let x39 : Bool := (x38.2.2.1.1 != (0 : Int))
  (T.2.2.1 (d.1, (d.2.1, ((), ((), ((x39, ()), (d.2.2.2.2.2.1, ((), (d.2.2.2.2.2.2.2.1, (d.2.2.2.2.2.2.2.2.1, (x38.2.1, ())))))))))))))
  else none)
def f_ref32_Parse_p21 (T : TT_ref32_Parse) (d : ((Int × (Int × (Int × (Int × (Int × (Int × (Int × (Int × (Int × (Int × (Int × (Int × Unit)))))))))))) × ((Int × (Int × (Int × (Int × (Int × (Int × (Int × (Int × (Int × (Int × (Int × (Int × Unit)))))))))))) × ((List ByteArray) × Unit))) × ((ByteArray × Unit) × (Unit × (Unit × ((Bool × Unit) × ((Int × Unit) × (Unit × ((Int × Unit) × ((Int × Unit) × ((Int × Unit) × Unit)))))))))) : Option (Unit × ((Int × (Int × (Int × (Int × (Int × (Int × (Int × (Int × (Int × (Int × (Int × (Int × Unit)))))))))))) × ((Int × Unit) × Unit))) :=
  bif decide ((0 : Int) ≤ d.2.2.2.2.2.2.2.1.1) && decide (d.2.2.2.2.2.2.2.1.1 < (12 : Int)) then (
  bif decide (d.2.2.2.2.2.2.2.1.1 = (0 : Int)) then (
  (T.2.2.2.1 ((d.1.1, ((d.2.2.2.2.2.2.2.2.2.1.1, d.1.2.1.2), d.1.2.2)), (d.2.1, ((), ((), (d.2.2.2.2.1, (d.2.2.2.2.2.1, ((), (d.2.2.2.2.2.2.2.1, (d.2.2.2.2.2.2.2.2.1, ())))))))))))
  else (
  bif decide (d.2.2.2.2.2.2.2.1.1 = (1 : Int)) then (
  (T.2.2.2.1 ((d.1.1, ((d.1.2.1.1, (d.2.2.2.2.2.2.2.2.2.1.1, d.1.2.1.2.2)), d.1.2.2)), (d.2.1, ((), ((), (d.2.2.2.2.1, (d.2.2.2.2.2.1, ((), (d.2.2.2.2.2.2.2.1, (d.2.2.2.2.2.2.2.2.1, ())))))))))))
  else (
  bif decide (d.2.2.2.2.2.2.2.1.1 = (2 : Int)) then (
  (T.2.2.2.1 ((d.1.1, ((d.1.2.1.1, (d.1.2.1.2.1, (d.2.2.2.2.2.2.2.2.2.1.1, d.1.2.1.2.2.2))), d.1.2.2)), (d.2.1, ((), ((), (d.2.2.2.2.1, (d.2.2.2.2.2.1, ((), (d.2.2.2.2.2.2.2.1, (d.2.2.2.2.2.2.2.2.1, ())))))))))))
  else (
  bif decide (d.2.2.2.2.2.2.2.1.1 = (3 : Int)) then (
  (T.2.2.2.1 ((d.1.1, ((d.1.2.1.1, (d.1.2.1.2.1, (d.1.2.1.2.2.1, (d.2.2.2.2.2.2.2.2.2.1.1, d.1.2.1.2.2.2.2)))), d.1.2.2)), (d.2.1, ((), ((), (d.2.2.2.2.1, (d.2.2.2.2.2.1, ((), (d.2.2.2.2.2.2.2.1, (d.2.2.2.2.2.2.2.2.1, ())))))))))))
  else (
  bif decide (d.2.2.2.2.2.2.2.1.1 = (4 : Int)) then (
  (T.2.2.2.1 ((d.1.1, ((d.1.2.1.1, (d.1.2.1.2.1, (d.1.2.1.2.2.1, (d.1.2.1.2.2.2.1, (d.2.2.2.2.2.2.2.2.2.1.1, d.1.2.1.2.2.2.2.2))))), d.1.2.2)), (d.2.1, ((), ((), (d.2.2.2.2.1, (d.2.2.2.2.2.1, ((), (d.2.2.2.2.2.2.2.1, (d.2.2.2.2.2.2.2.2.1, ())))))))))))
  else (
  bif decide (d.2.2.2.2.2.2.2.1.1 = (5 : Int)) then (
  (T.2.2.2.1 ((d.1.1, ((d.1.2.1.1, (d.1.2.1.2.1, (d.1.2.1.2.2.1, (d.1.2.1.2.2.2.1, (d.1.2.1.2.2.2.2.1, (d.2.2.2.2.2.2.2.2.2.1.1, d.1.2.1.2.2.2.2.2.2)))))), d.1.2.2)), (d.2.1, ((), ((), (d.2.2.2.2.1, (d.2.2.2.2.2.1, ((), (d.2.2.2.2.2.2.2.1, (d.2.2.2.2.2.2.2.2.1, ())))))))))))
  else (
  bif decide (d.2.2.2.2.2.2.2.1.1 = (6 : Int)) then (
  (T.2.2.2.1 ((d.1.1, ((d.1.2.1.1, (d.1.2.1.2.1, (d.1.2.1.2.2.1, (d.1.2.1.2.2.2.1, (d.1.2.1.2.2.2.2.1, (d.1.2.1.2.2.2.2.2.1, (d.2.2.2.2.2.2.2.2.2.1.1, d.1.2.1.2.2.2.2.2.2.2))))))), d.1.2.2)), (d.2.1, ((), ((), (d.2.2.2.2.1, (d.2.2.2.2.2.1, ((), (d.2.2.2.2.2.2.2.1, (d.2.2.2.2.2.2.2.2.1, ())))))))))))
  else (
  bif decide (d.2.2.2.2.2.2.2.1.1 = (7 : Int)) then (
  (T.2.2.2.1 ((d.1.1, ((d.1.2.1.1, (d.1.2.1.2.1, (d.1.2.1.2.2.1, (d.1.2.1.2.2.2.1, (d.1.2.1.2.2.2.2.1, (d.1.2.1.2.2.2.2.2.1, (d.1.2.1.2.2.2.2.2.2.1, (d.2.2.2.2.2.2.2.2.2.1.1, d.1.2.1.2.2.2.2.2.2.2.2)))))))), d.1.2.2)), (d.2.1, ((), ((), (d.2.2.2.2.1, (d.2.2.2.2.2.1, ((), (d.2.2.2.2.2.2.2.1, (d.2.2.2.2.2.2.2.2.1, ())))))))))))
  else (
  bif decide (d.2.2.2.2.2.2.2.1.1 = (8 : Int)) then (
  (T.2.2.2.1 ((d.1.1, ((d.1.2.1.1, (d.1.2.1.2.1, (d.1.2.1.2.2.1, (d.1.2.1.2.2.2.1, (d.1.2.1.2.2.2.2.1, (d.1.2.1.2.2.2.2.2.1, (d.1.2.1.2.2.2.2.2.2.1, (d.1.2.1.2.2.2.2.2.2.2.1, (d.2.2.2.2.2.2.2.2.2.1.1, d.1.2.1.2.2.2.2.2.2.2.2.2))))))))), d.1.2.2)), (d.2.1, ((), ((), (d.2.2.2.2.1, (d.2.2.2.2.2.1, ((), (d.2.2.2.2.2.2.2.1, (d.2.2.2.2.2.2.2.2.1, ())))))))))))
  else (
  bif decide (d.2.2.2.2.2.2.2.1.1 = (9 : Int)) then (
  (T.2.2.2.1 ((d.1.1, ((d.1.2.1.1, (d.1.2.1.2.1, (d.1.2.1.2.2.1, (d.1.2.1.2.2.2.1, (d.1.2.1.2.2.2.2.1, (d.1.2.1.2.2.2.2.2.1, (d.1.2.1.2.2.2.2.2.2.1, (d.1.2.1.2.2.2.2.2.2.2.1, (d.1.2.1.2.2.2.2.2.2.2.2.1, (d.2.2.2.2.2.2.2.2.2.1.1, d.1.2.1.2.2.2.2.2.2.2.2.2.2)))))))))), d.1.2.2)), (d.2.1, ((), ((), (d.2.2.2.2.1, (d.2.2.2.2.2.1, ((), (d.2.2.2.2.2.2.2.1, (d.2.2.2.2.2.2.2.2.1, ())))))))))))
  else (
  bif decide (d.2.2.2.2.2.2.2.1.1 = (10 : Int)) then (
  (T.2.2.2.1 ((d.1.1, ((d.1.2.1.1, (d.1.2.1.2.1, (d.1.2.1.2.2.1, (d.1.2.1.2.2.2.1, (d.1.2.1.2.2.2.2.1, (d.1.2.1.2.2.2.2.2.1, (d.1.2.1.2.2.2.2.2.2.1, (d.1.2.1.2.2.2.2.2.2.2.1, (d.1.2.1.2.2.2.2.2.2.2.2.1, (d.1.2.1.2.2.2.2.2.2.2.2.2.1, (d.2.2.2.2.2.2.2.2.2.1.1, d.1.2.1.2.2.2.2.2.2.2.2.2.2.2))))))))))), d.1.2.2)), (d.2.1, ((), ((), (d.2.2.2.2.1, (d.2.2.2.2.2.1, ((), (d.2.2.2.2.2.2.2.1, (d.2.2.2.2.2.2.2.2.1, ())))))))))))
  else (
  bif decide (d.2.2.2.2.2.2.2.1.1 = (11 : Int)) then (
  (T.2.2.2.1 ((d.1.1, ((d.1.2.1.1, (d.1.2.1.2.1, (d.1.2.1.2.2.1, (d.1.2.1.2.2.2.1, (d.1.2.1.2.2.2.2.1, (d.1.2.1.2.2.2.2.2.1, (d.1.2.1.2.2.2.2.2.2.1, (d.1.2.1.2.2.2.2.2.2.2.1, (d.1.2.1.2.2.2.2.2.2.2.2.1, (d.1.2.1.2.2.2.2.2.2.2.2.2.1, (d.1.2.1.2.2.2.2.2.2.2.2.2.2.1, d.2.2.2.2.2.2.2.2.2.1))))))))))), d.1.2.2)), (d.2.1, ((), ((), (d.2.2.2.2.1, (d.2.2.2.2.2.1, ((), (d.2.2.2.2.2.2.2.1, (d.2.2.2.2.2.2.2.2.1, ())))))))))))
  else (
  none)))))))))))))
  else none
def f_ref32_Parse_p22 (T : TT_ref32_Parse) (d : ((Int × (Int × (Int × (Int × (Int × (Int × (Int × (Int × (Int × (Int × (Int × (Int × Unit)))))))))))) × ((Int × (Int × (Int × (Int × (Int × (Int × (Int × (Int × (Int × (Int × (Int × (Int × Unit)))))))))))) × ((List ByteArray) × Unit))) × ((ByteArray × Unit) × (Unit × (Unit × ((Bool × Unit) × ((Int × Unit) × (Unit × ((Int × Unit) × ((Int × Unit) × Unit))))))))) : Option (Unit × ((Int × (Int × (Int × (Int × (Int × (Int × (Int × (Int × (Int × (Int × (Int × (Int × Unit)))))))))))) × ((Int × Unit) × Unit))) :=
  let x40 : Int := (iadd .i64 d.2.2.2.2.2.1.1 d.2.2.2.2.2.2.2.2.1.1)
  let x41 : Int := (iadd .i64 x40 (1 : Int))
  let x42 : Int := (iadd .i64 d.2.2.2.2.2.2.2.1.1 (1 : Int))
  (T.1 (d.1, (d.2.1, ((), ((), (d.2.2.2.2.1, ((x41, ()), ((), ((x42, ()), ())))))))))
def f_ref32_Parse_t : Nat → TT_ref32_Parse
  | 0 => (fun _ => none, (fun _ => none, (fun _ => none, (fun _ => none, ()))))
  | k + 1 => (f_ref32_Parse_p7 (f_ref32_Parse_t k), (f_ref32_Parse_p18 (f_ref32_Parse_t k), (f_ref32_Parse_p21 (f_ref32_Parse_t k), (f_ref32_Parse_p22 (f_ref32_Parse_t k), ()))))
theorem t_ref32_Parse (k : Nat) : f_ref32_Parse_t (k + 1) = (f_ref32_Parse_p7 (f_ref32_Parse_t k), (f_ref32_Parse_p18 (f_ref32_Parse_t k), (f_ref32_Parse_p21 (f_ref32_Parse_t k), (f_ref32_Parse_p22 (f_ref32_Parse_t k), ())))) := rfl
def f_ref32_Parse_m (T : TT_ref32_Parse) (d : Unit × ((ByteArray × Unit) × Unit)) : Option (Unit × ((Int × (Int × (Int × (Int × (Int × (Int × (Int × (Int × (Int × (Int × (Int × (Int × Unit)))))))))))) × ((Int × Unit) × Unit))) :=
  (g_ref32_Names ((), ())).bind fun x1 =>
  (T.1 ((((0 : Int), ((0 : Int), ((0 : Int), ((0 : Int), ((0 : Int), ((0 : Int), ((0 : Int), ((0 : Int), ((0 : Int), ((0 : Int), ((0 : Int), ((0 : Int), ())))))))))))), (((0 : Int), ((0 : Int), ((0 : Int), ((0 : Int), ((0 : Int), ((0 : Int), ((0 : Int), ((0 : Int), ((0 : Int), ((0 : Int), ((0 : Int), ((0 : Int), ())))))))))))), x1.1)), (d.2.1, ((), ((), ((false, ()), (((0 : Int), ()), ((), (((0 : Int), ()), ())))))))))
def c_ref32_Parse : List Nat := [18, 21, 22]
def L_ref32_Parse (k : Nat) : Pts po_ref32_Parse.den := [(7, ⟨sh_ref32_Parse_7, (f_ref32_Parse_t k).1⟩), (18, ⟨sh_ref32_Parse_18, (f_ref32_Parse_t k).2.1⟩), (21, ⟨sh_ref32_Parse_21, (f_ref32_Parse_t k).2.2.1⟩), (22, ⟨sh_ref32_Parse_22, (f_ref32_Parse_t k).2.2.2.1⟩)]
def R_ref32_Parse (_ : Nat) : PtsR po_ref32_Parse.den := []
def E_ref32_Parse : Env := ((((E0.add 16 (typedSem pi_ref32_Names po_ref32_Names g_ref32_Names)).add 43 (typedSem pi_ref02_Many po_ref02_Many g_ref02_Many)).add 44 (typedSem pi_ref01_Small po_ref01_Small g_ref01_Small)).add 45 (typedSem pi_ref02_Big po_ref02_Big g_ref02_Big))
theorem q_ref32_Parse_7 (k : Nat) (d : sh_ref32_Parse_7.den) : evAt E_ref32_Parse (tb (L_ref32_Parse k) (R_ref32_Parse k)) c_ref32_Parse 7 (bodyOf Tryz.f20) 0 (finK E_ref32_Parse po_ref32_Parse [.cell 2 34, .tmp 3]) (ptSt sh_ref32_Parse_7 d) = f_ref32_Parse_p7 (f_ref32_Parse_t k) d := by kernel_rfl
theorem q_ref32_Parse_18 (k : Nat) (d : sh_ref32_Parse_18.den) : evAt E_ref32_Parse (tb (L_ref32_Parse k) (R_ref32_Parse k)) c_ref32_Parse 18 (bodyOf Tryz.f20) 0 (finK E_ref32_Parse po_ref32_Parse [.cell 2 34, .tmp 3]) (ptSt sh_ref32_Parse_18 d) = f_ref32_Parse_p18 (f_ref32_Parse_t k) d := by kernel_rfl
theorem q_ref32_Parse_21 (k : Nat) (d : sh_ref32_Parse_21.den) : evAt E_ref32_Parse (tb (L_ref32_Parse k) (R_ref32_Parse k)) c_ref32_Parse 21 (bodyOf Tryz.f20) 0 (finK E_ref32_Parse po_ref32_Parse [.cell 2 34, .tmp 3]) (ptSt sh_ref32_Parse_21 d) = f_ref32_Parse_p21 (f_ref32_Parse_t k) d := by kernel_rfl
theorem q_ref32_Parse_22 (k : Nat) (d : sh_ref32_Parse_22.den) : evAt E_ref32_Parse (tb (L_ref32_Parse k) (R_ref32_Parse k)) c_ref32_Parse 22 (bodyOf Tryz.f20) 0 (finK E_ref32_Parse po_ref32_Parse [.cell 2 34, .tmp 3]) (ptSt sh_ref32_Parse_22 d) = f_ref32_Parse_p22 (f_ref32_Parse_t k) d := by kernel_rfl
theorem q_ref32_Parse_m (k : Nat) (d : pi_ref32_Parse.den) : evCode E_ref32_Parse (tb (L_ref32_Parse k) (R_ref32_Parse k)) c_ref32_Parse (bodyOf Tryz.f20) 0 (finK E_ref32_Parse po_ref32_Parse [.cell 2 34, .tmp 3]) (startSt pi_ref32_Parse 115 d) = f_ref32_Parse_m (f_ref32_Parse_t k) d := by kernel_rfl
def g_ref32_Parse (d : Unit × ((ByteArray × Unit) × Unit)) : Option (Unit × ((Int × (Int × (Int × (Int × (Int × (Int × (Int × (Int × (Int × (Int × (Int × (Int × Unit)))))))))))) × ((Int × Unit) × Unit))) := lim fun k => f_ref32_Parse_m (f_ref32_Parse_t k) d
theorem ok_ref32_Parse : FnOk Tryz.prog ET0 20 pi_ref32_Parse po_ref32_Parse g_ref32_Parse :=
  fn_of_body (E := E_ref32_Parse) (envOk_add (envOk_add (envOk_add (envOk_add e0_ok (typed_ok ok_ref32_Names)) (typed_ok ok_ref02_Many)) (typed_ok ok_ref01_Small)) (typed_ok ok_ref02_Big)) (fn := Tryz.f20) Tryz.func20 (by kernel_rfl) (by kernel_rfl) [.cell 2 34, .tmp 3] (by kernel_rfl) (by kernel_rfl) (by decide) rfl c_ref32_Parse L_ref32_Parse R_ref32_Parse
    (by intro x hx d; simp only [L_ref32_Parse, List.mem_cons, List.not_mem_nil, or_false] at hx; rcases hx with rfl | rfl | rfl | rfl; rfl; rfl; rfl; rfl)
    (by intro k x hx d out h; simp only [L_ref32_Parse, List.mem_cons, List.not_mem_nil, or_false] at hx; rcases hx with rfl | rfl | rfl | rfl; exact (q_ref32_Parse_7 k d).trans h; exact (q_ref32_Parse_18 k d).trans h; exact (q_ref32_Parse_21 k d).trans h; exact (q_ref32_Parse_22 k d).trans h)
    (by intro x hx; cases hx)
    (by intro k x hx; cases hx)
    (by intro d out h; obtain ⟨k, hk⟩ := lim_some h; exact ⟨k, (q_ref32_Parse_m k d).trans hk⟩)

@[reducible] def pi_law32_TallyParses : PSh := ⟨[], [.mk false [vS], .mk false [vI], .mk false [vS]]⟩
@[reducible] def po_law32_TallyParses : PSh := ⟨[], [.mk false [vB]]⟩
@[reducible] def TT_law32_TallyParses : Type := (((((List ByteArray) × Unit) × ((ByteArray × Unit) × ((Int × Unit) × ((ByteArray × Unit) × ((Int × Unit) × (Unit × ((Int × Unit) × ((Int × Unit) × Unit)))))))) → Option (Unit × ((Bool × Unit) × Unit))) × (((Unit × ((ByteArray × Unit) × ((Int × Unit) × ((ByteArray × Unit) × ((Int × Unit) × ((ByteArray × Unit) × Unit)))))) → Option (Unit × ((Bool × Unit) × Unit))) × Unit))
@[reducible] def sh_law32_TallyParses_15 : PSh := ⟨[.row 9 .str], [.mk false [vS], .mk false [vI], .mk false [vS], .any, .any, .any, .any, .any, .any, .any, .mk false [vI], .any, .any, .any, .any, .any, .any, .any, .any, .any, .any, .any, .any, .any, .any, .any, .any, .any, .any, .any, .any, .any, .any, .any, .any, .any, .any, .any, .any, .any, .any, .any, .any, .any, .any, .any, .any, .any, .any, .any, .any, .any, .any, .any, .any, .any, .any, .any, .any, .any, .any, .any, .any, .any, .any, .any, .any, .any, .any, .any, .any, .any, .mk false [.osl 0], .mk false [vI], .mk false [vI], .any, .any, .any, .any, .any, .any, .any, .any, .any, .any, .any, .any, .any, .any, .any, .any, .any, .any, .any, .any, .any, .any, .any, .any, .any, .any, .any, .any, .any, .any, .any, .any, .any, .any, .any, .any, .any, .any, .any, .any, .any, .any, .any, .any, .any, .any, .any, .any, .any, .any, .any, .any, .any, .any, .any, .any, .any, .any, .any, .any, .any, .any, .any, .any, .any, .any, .any, .any]⟩
@[reducible] def sh_law32_TallyParses_22 : PSh := ⟨[], [.mk false [vS], .mk false [vI], .mk false [vS], .any, .any, .any, .any, .any, .any, .any, .mk false [vI], .any, .any, .mk false [vS], .any, .any, .any, .any, .any, .any, .any, .any, .any, .any, .any, .any, .any, .any, .any, .any, .any, .any, .any, .any, .any, .any, .any, .any, .any, .any, .any, .any, .any, .any, .any, .any, .any, .any, .any, .any, .any, .any, .any, .any, .any, .any, .any, .any, .any, .any, .any, .any, .any, .any, .any, .any, .any, .any, .any, .any, .any, .any, .any, .any, .any, .any, .any, .any, .any, .any, .any, .any, .any, .any, .any, .any, .any, .any, .any, .any, .any, .any, .any, .any, .any, .any, .any, .any, .any, .any, .any, .any, .any, .any, .any, .any, .any, .any, .any, .any, .any, .any, .any, .any, .any, .any, .any, .any, .any, .any, .any, .any, .any, .any, .any, .any, .any, .any, .any, .any, .any, .any, .any, .any, .any, .any, .any, .any, .any, .any, .any, .any, .any]⟩
def f_law32_TallyParses_p15 (T : TT_law32_TallyParses) (d : ((List ByteArray) × Unit) × ((ByteArray × Unit) × ((Int × Unit) × ((ByteArray × Unit) × ((Int × Unit) × (Unit × ((Int × Unit) × ((Int × Unit) × Unit)))))))) : Option (Unit × ((Bool × Unit) × Unit)) :=
  let x26 : Bool := (decide (d.2.2.2.2.2.2.2.1.1 < d.2.2.2.2.2.2.1.1))
  bif x26 then (
  bif decide ((0 : Int) ≤ d.2.2.2.2.2.2.2.1.1) && decide (d.2.2.2.2.2.2.2.1.1 < (d.1.1.length : Int)) then (
  let x27 : Bool := ((gd .str d.1.1 d.2.2.2.2.2.2.2.1.1).toList == d.2.2.2.1.1.toList)
  bif x27 then (
  let x28 : Int := (iadd .i64 d.2.2.2.2.2.2.2.1.1 (1 : Int))
  let x29 : Int := (iadd .i64 d.2.2.2.2.2.2.2.1.1 (1 : Int))
  (T.1 (d.1, (d.2.1, (d.2.2.1, (d.2.2.2.1, ((x28, ()), ((), (d.2.2.2.2.2.2.1, ((x29, ()), ()))))))))))
  else (
  let x30 : Int := (iadd .i64 d.2.2.2.2.2.2.2.1.1 (1 : Int))
  (T.1 (d.1, (d.2.1, (d.2.2.1, (d.2.2.2.1, (d.2.2.2.2.1, ((), (d.2.2.2.2.2.2.1, ((x30, ()), ())))))))))))
  else none)
  else (
  let x31 : Bool := (decide (d.2.2.1.1 ≥ (1 : Int)))
  bif x31 then (
  let x32 : Bool := (decide (d.2.2.1.1 ≤ (12 : Int)))
  bif x32 then (
  (g_ref32_Names ((), ())).bind fun x33 =>
  let x34 : Int := (isub .i64 d.2.2.1.1 (1 : Int))
  bif decide ((0 : Int) ≤ x34) && decide (x34 < (x33.1.1.length : Int)) then (
  (T.2.1 ((), (d.2.1, (d.2.2.1, (d.2.2.2.1, (d.2.2.2.2.1, (((gd .str x33.1.1 x34), ()), ()))))))))
  else none)
  else (
  (T.2.1 ((), (d.2.1, (d.2.2.1, (d.2.2.2.1, (d.2.2.2.2.1, (((⟨#[]⟩ : ByteArray), ()), ())))))))))
  else (
  (T.2.1 ((), (d.2.1, (d.2.2.1, (d.2.2.2.1, (d.2.2.2.2.1, (((⟨#[]⟩ : ByteArray), ()), ())))))))))
def f_law32_TallyParses_p22 (T : TT_law32_TallyParses) (d : Unit × ((ByteArray × Unit) × ((Int × Unit) × ((ByteArray × Unit) × ((Int × Unit) × ((ByteArray × Unit) × Unit)))))) : Option (Unit × ((Bool × Unit) × Unit)) :=
  (g_tally_Kind ((), (d.2.2.2.1, ()))).bind fun x35 =>
  let x36 : Bool := (x35.2.1.1 != d.2.2.2.2.1.1)
  bif x36 then (
  some ((), ((false, ()), ())))
  else (
  (g_tally_Name ((), (d.2.2.1, ()))).bind fun x37 =>
  let x38 : Bool := (!(x37.2.1.1.toList == d.2.2.2.2.2.1.1.toList))
  bif x38 then (
  some ((), ((false, ()), ())))
  else (
  (g_tally_Parse ((), (d.2.1, ()))).bind fun x39 =>
  (g_ref32_Parse ((), (d.2.1, ()))).bind fun x40 =>
  let x41 : Bool := (x40.2.2.1.1 != (0 : Int))
  bif x41 then (
  bif x39.2.1.1.isNone then (
  (g_hnum_Num ((), x39.2.2)).bind fun x42 =>
  let x43 : Bool := (x42.2.1.1 == x40.2.2.1.1)
  some ((), ((x43, ()), ())))
  else (
  some ((), ((false, ()), ()))))
  else (
  bif x39.2.2.1.1.isNone then (
  let x44 : Bool := (!x39.2.1.1.isNone)
  bif x44 then (
  (g_tally_Tally_All ((), (x39.2.1, ()))).bind fun x45 =>
  let x46 : Bool := ((x45.2.1.1 == x40.2.1.1) && ((x45.2.1.2.1 == x40.2.1.2.1) && ((x45.2.1.2.2.1 == x40.2.1.2.2.1) && ((x45.2.1.2.2.2.1 == x40.2.1.2.2.2.1) && ((x45.2.1.2.2.2.2.1 == x40.2.1.2.2.2.2.1) && ((x45.2.1.2.2.2.2.2.1 == x40.2.1.2.2.2.2.2.1) && ((x45.2.1.2.2.2.2.2.2.1 == x40.2.1.2.2.2.2.2.2.1) && ((x45.2.1.2.2.2.2.2.2.2.1 == x40.2.1.2.2.2.2.2.2.2.1) && ((x45.2.1.2.2.2.2.2.2.2.2.1 == x40.2.1.2.2.2.2.2.2.2.2.1) && ((x45.2.1.2.2.2.2.2.2.2.2.2.1 == x40.2.1.2.2.2.2.2.2.2.2.2.1) && ((x45.2.1.2.2.2.2.2.2.2.2.2.2.1 == x40.2.1.2.2.2.2.2.2.2.2.2.2.1) && ((x45.2.1.2.2.2.2.2.2.2.2.2.2.2.1 == x40.2.1.2.2.2.2.2.2.2.2.2.2.2.1) && true))))))))))))
  bif x46 then (
  (g_tally_Same ((), (x39.2.1, (((none : Option (Int × (Int × (Int × (Int × (Int × (Int × (Int × (Int × (Int × (Int × (Int × Int)))))))))))), ()), ())))).bind fun x47 =>
  let x48 : Bool := (!x47.2.1.1)
  some ((), ((x48, ()), ())))
  else (
  some ((), ((false, ()), ()))))
  else (
  some ((), ((false, ()), ()))))
  else (
  some ((), ((false, ()), ()))))))
def f_law32_TallyParses_t : Nat → TT_law32_TallyParses
  | 0 => (fun _ => none, (fun _ => none, ()))
  | k + 1 => (f_law32_TallyParses_p15 (f_law32_TallyParses_t k), (f_law32_TallyParses_p22 (f_law32_TallyParses_t k), ()))
theorem t_law32_TallyParses (k : Nat) : f_law32_TallyParses_t (k + 1) = (f_law32_TallyParses_p15 (f_law32_TallyParses_t k), (f_law32_TallyParses_p22 (f_law32_TallyParses_t k), ())) := rfl
def f_law32_TallyParses_m (T : TT_law32_TallyParses) (d : Unit × ((ByteArray × Unit) × ((Int × Unit) × ((ByteArray × Unit) × Unit)))) : Option (Unit × ((Bool × Unit) × Unit)) :=
  (g_law32_alive ((), ())).bind fun x1 =>
  let x2 : Bool := (!x1.2.1.1)
  bif x2 then (
  some ((), ((false, ()), ())))
  else (
  let x3 : Int := (d.2.1.1.size : Int)
  let x4 : Bool := (decide (x3 > (1000 : Int)))
  bif x4 then (
  some ((), ((true, ()), ())))
  else (
  let x5 : Int := (d.2.2.2.1.1.size : Int)
  let x6 : Bool := (decide (x5 > (100 : Int)))
  bif x6 then (
  some ((), ((true, ()), ())))
  else (
  (g_tally_Tally_Sum ((), (((none : Option (Int × (Int × (Int × (Int × (Int × (Int × (Int × (Int × (Int × (Int × (Int × Int)))))))))))), ()), ((([] : List Int), ()), ())))).bind fun x7 =>
  let x8 : Bool := (x7.2.1.1 != (0 : Int))
  bif x8 then (
  some ((), ((false, ()), ())))
  else (
  (g_hnum_Is ((), (x7.2.2.1, (((8 : Int), ()), ())))).bind fun x9 =>
  let x10 : Bool := (!x9.2.1.1)
  bif x10 then (
  some ((), ((false, ()), ())))
  else (
  (g_tally_Tally_Add ((), (((none : Option (Int × (Int × (Int × (Int × (Int × (Int × (Int × (Int × (Int × (Int × (Int × Int)))))))))))), ()), (((1 : Int), ()), (((1 : Int), ()), ()))))).bind fun x11 =>
  (g_hnum_Is ((), (x11.2.1, (((8 : Int), ()), ())))).bind fun x12 =>
  let x13 : Bool := (!x12.2.1.1)
  bif x13 then (
  some ((), ((false, ()), ())))
  else (
  (g_tally_Tally_Count ((), (((none : Option (Int × (Int × (Int × (Int × (Int × (Int × (Int × (Int × (Int × (Int × (Int × Int)))))))))))), ()), (((1 : Int), ()), ())))).bind fun x14 =>
  let x15 : Bool := (x14.2.1.1 != (0 : Int))
  bif x15 then (
  some ((), ((false, ()), ())))
  else (
  (g_tally_Tally_Text ((), (((none : Option (Int × (Int × (Int × (Int × (Int × (Int × (Int × (Int × (Int × (Int × (Int × Int)))))))))))), ()), ()))).bind fun x16 =>
  let x17 : Bool := (!(x16.2.1.1.toList == (⟨#[]⟩ : ByteArray).toList))
  bif x17 then (
  some ((), ((false, ()), ())))
  else (
  (g_tally_Tally_Copy ((), (((none : Option (Int × (Int × (Int × (Int × (Int × (Int × (Int × (Int × (Int × (Int × (Int × Int)))))))))))), ()), ()))).bind fun x18 =>
  let x19 : Bool := (!x18.2.1.1.isNone)
  bif x19 then (
  some ((), ((false, ()), ())))
  else (
  (g_tally_Tally_All ((), (((none : Option (Int × (Int × (Int × (Int × (Int × (Int × (Int × (Int × (Int × (Int × (Int × Int)))))))))))), ()), ()))).bind fun x20 =>
  let x21 : Bool := (!((x20.2.1.1 == (0 : Int)) && ((x20.2.1.2.1 == (0 : Int)) && ((x20.2.1.2.2.1 == (0 : Int)) && ((x20.2.1.2.2.2.1 == (0 : Int)) && ((x20.2.1.2.2.2.2.1 == (0 : Int)) && ((x20.2.1.2.2.2.2.2.1 == (0 : Int)) && ((x20.2.1.2.2.2.2.2.2.1 == (0 : Int)) && ((x20.2.1.2.2.2.2.2.2.2.1 == (0 : Int)) && ((x20.2.1.2.2.2.2.2.2.2.2.1 == (0 : Int)) && ((x20.2.1.2.2.2.2.2.2.2.2.2.1 == (0 : Int)) && ((x20.2.1.2.2.2.2.2.2.2.2.2.2.1 == (0 : Int)) && ((x20.2.1.2.2.2.2.2.2.2.2.2.2.2.1 == (0 : Int)) && true)))))))))))))
  bif x21 then (
  some ((), ((false, ()), ())))
  else (
  (g_tally_Same ((), (((none : Option (Int × (Int × (Int × (Int × (Int × (Int × (Int × (Int × (Int × (Int × (Int × Int)))))))))))), ()), (((none : Option (Int × (Int × (Int × (Int × (Int × (Int × (Int × (Int × (Int × (Int × (Int × Int)))))))))))), ()), ())))).bind fun x22 =>
  let x23 : Bool := (!x22.2.1.1)
  bif x23 then (
  some ((), ((false, ()), ())))
  else (
  (g_ref32_Names ((), ())).bind fun x24 =>
  let x25 : Int := (x24.1.1.length : Int)
  (T.1 (x24.1, (d.2.1, (d.2.2.1, (d.2.2.2.1, (((0 : Int), ()), ((), ((x25, ()), (((0 : Int), ()), ()))))))))))))))))))))
def c_law32_TallyParses : List Nat := [22]
def L_law32_TallyParses (k : Nat) : Pts po_law32_TallyParses.den := [(15, ⟨sh_law32_TallyParses_15, (f_law32_TallyParses_t k).1⟩), (22, ⟨sh_law32_TallyParses_22, (f_law32_TallyParses_t k).2.1⟩)]
def R_law32_TallyParses (_ : Nat) : PtsR po_law32_TallyParses.den := []
def E_law32_TallyParses : Env := (((((((((((((((E0.add 7 (typedSem pi_law32_alive po_law32_alive g_law32_alive)).add 8 (typedSem pi_tally_Tally_Sum po_tally_Tally_Sum g_tally_Tally_Sum)).add 9 (typedSem pi_hnum_Is po_hnum_Is g_hnum_Is)).add 10 (typedSem pi_tally_Tally_Add po_tally_Tally_Add g_tally_Tally_Add)).add 11 (typedSem pi_tally_Tally_Count po_tally_Tally_Count g_tally_Tally_Count)).add 12 (typedSem pi_tally_Tally_Text po_tally_Tally_Text g_tally_Tally_Text)).add 13 (typedSem pi_tally_Tally_Copy po_tally_Tally_Copy g_tally_Tally_Copy)).add 14 (typedSem pi_tally_Tally_All po_tally_Tally_All g_tally_Tally_All)).add 15 (typedSem pi_tally_Same po_tally_Same g_tally_Same)).add 16 (typedSem pi_ref32_Names po_ref32_Names g_ref32_Names)).add 17 (typedSem pi_tally_Kind po_tally_Kind g_tally_Kind)).add 18 (typedSem pi_tally_Name po_tally_Name g_tally_Name)).add 19 (typedSem pi_tally_Parse po_tally_Parse g_tally_Parse)).add 20 (typedSem pi_ref32_Parse po_ref32_Parse g_ref32_Parse)).add 21 (typedSem pi_hnum_Num po_hnum_Num g_hnum_Num))
theorem q_law32_TallyParses_15 (k : Nat) (d : sh_law32_TallyParses_15.den) : evAt E_law32_TallyParses (tb (L_law32_TallyParses k) (R_law32_TallyParses k)) c_law32_TallyParses 15 (bodyOf Tryz.f3) 0 (finK E_law32_TallyParses po_law32_TallyParses [.tmp 6]) (ptSt sh_law32_TallyParses_15 d) = f_law32_TallyParses_p15 (f_law32_TallyParses_t k) d := by kernel_rfl
theorem q_law32_TallyParses_22 (k : Nat) (d : sh_law32_TallyParses_22.den) : evAt E_law32_TallyParses (tb (L_law32_TallyParses k) (R_law32_TallyParses k)) c_law32_TallyParses 22 (bodyOf Tryz.f3) 0 (finK E_law32_TallyParses po_law32_TallyParses [.tmp 6]) (ptSt sh_law32_TallyParses_22 d) = f_law32_TallyParses_p22 (f_law32_TallyParses_t k) d := by kernel_rfl
theorem q_law32_TallyParses_m (k : Nat) (d : pi_law32_TallyParses.den) : evCode E_law32_TallyParses (tb (L_law32_TallyParses k) (R_law32_TallyParses k)) c_law32_TallyParses (bodyOf Tryz.f3) 0 (finK E_law32_TallyParses po_law32_TallyParses [.tmp 6]) (startSt pi_law32_TallyParses 143 d) = f_law32_TallyParses_m (f_law32_TallyParses_t k) d := by kernel_rfl
def g_law32_TallyParses (d : Unit × ((ByteArray × Unit) × ((Int × Unit) × ((ByteArray × Unit) × Unit)))) : Option (Unit × ((Bool × Unit) × Unit)) := lim fun k => f_law32_TallyParses_m (f_law32_TallyParses_t k) d
theorem ok_law32_TallyParses : FnOk Tryz.prog ET0 3 pi_law32_TallyParses po_law32_TallyParses g_law32_TallyParses :=
  fn_of_body (E := E_law32_TallyParses) (envOk_add (envOk_add (envOk_add (envOk_add (envOk_add (envOk_add (envOk_add (envOk_add (envOk_add (envOk_add (envOk_add (envOk_add (envOk_add (envOk_add (envOk_add e0_ok (typed_ok ok_law32_alive)) (typed_ok ok_tally_Tally_Sum)) (typed_ok ok_hnum_Is)) (typed_ok ok_tally_Tally_Add)) (typed_ok ok_tally_Tally_Count)) (typed_ok ok_tally_Tally_Text)) (typed_ok ok_tally_Tally_Copy)) (typed_ok ok_tally_Tally_All)) (typed_ok ok_tally_Same)) (typed_ok ok_ref32_Names)) (typed_ok ok_tally_Kind)) (typed_ok ok_tally_Name)) (typed_ok ok_tally_Parse)) (typed_ok ok_ref32_Parse)) (typed_ok ok_hnum_Num)) (fn := Tryz.f3) Tryz.func3 (by kernel_rfl) (by kernel_rfl) [.tmp 6] (by kernel_rfl) (by kernel_rfl) (by decide) rfl c_law32_TallyParses L_law32_TallyParses R_law32_TallyParses
    (by intro x hx d; simp only [L_law32_TallyParses, List.mem_cons, List.not_mem_nil, or_false] at hx; rcases hx with rfl | rfl; rfl; rfl)
    (by intro k x hx d out h; simp only [L_law32_TallyParses, List.mem_cons, List.not_mem_nil, or_false] at hx; rcases hx with rfl | rfl; exact (q_law32_TallyParses_15 k d).trans h; exact (q_law32_TallyParses_22 k d).trans h)
    (by intro x hx; cases hx)
    (by intro k x hx; cases hx)
    (by intro d out h; obtain ⟨k, hk⟩ := lim_some h; exact ⟨k, (q_law32_TallyParses_m k d).trans hk⟩)
end
end Go.Proofs.YtfhaifiipjfffaaGreatDoor.Ev
