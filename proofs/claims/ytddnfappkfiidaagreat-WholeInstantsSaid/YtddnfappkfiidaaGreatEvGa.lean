/- Printed by wip/tools/evgen.py. -/
import Derived.Test.YtddnfappkfiidaaGreatEv32
import Derived.Test.YtddnfappkfiidaaGreatShelf
import Derived.Test.YtddnfappkfiidaaGreatEvE
import Derived.Test.YtddnfappkfiidaaGreatProg
import Derived.KernelRfl
set_option maxRecDepth 100000
set_option maxHeartbeats 2000000
set_option linter.unusedVariables false
namespace Go.Proofs.YtddnfappkfiidaaGreat.Ev
open Go
noncomputable section
@[reducible] def vI : LSh := .v (.int .i64)
@[reducible] def vB : LSh := .v .bool
@[reducible] def vS : LSh := .v .str
@[reducible] def vE : LSh := .v .err
@[reducible] def v8 : LSh := .v (.int .u8)
def rows0 : List (TypeId × Row) := [
  (2, ⟨.int .i64, 1, 8, (.int .i64), [AV.val (.int .i64) (0 : Int)], none⟩),
  (3, ⟨.int .i64, 1, 8, (.int .i64), [AV.val (.int .i64) (0 : Int)], none⟩),
  (4, ⟨.bool, 1, 1, .bool, [AV.val .bool false], none⟩),
  (5, ⟨.int .u8, 1, 1, (.int .u8), [AV.val (.int .u8) (0 : Int)], none⟩),
  (9, ⟨.str, 1, 16, .str, [AV.val .str ByteArray.empty], none⟩),
  (21, ⟨.int .i32, 1, 4, (.int .i32), [AV.val (.int .i32) (0 : Int)], none⟩),
  (22, ⟨.slice 130, 1, 24, (.sl (.pair (.int .i64) (.int .i64))), [AV.nilS], none⟩),
  (24, ⟨.struct [(0, 1, false), (1, 1, false), (2, 1, false)], 3, 40, (.pair (.sl (.pair (.int .i64) (.int .i64))) (.pair (.int .i64) (.int .i64))), [AV.nilS, AV.val (.int .i64) (0 : Int), AV.val (.int .i64) (0 : Int)], none⟩),
  (28, ⟨.struct [(0, 1, false), (1, 1, false), (2, 1, false), (3, 1, false), (4, 1, false), (5, 1, false), (6, 1, false), (7, 1, false)], 8, 64, (.pair (.int .i64) (.pair (.int .i64) (.pair (.int .i64) (.pair (.int .i64) (.pair (.int .i64) (.pair (.int .i64) (.pair (.int .i64) (.int .i64)))))))), [AV.val (.int .i64) (0 : Int), AV.val (.int .i64) (0 : Int), AV.val (.int .i64) (0 : Int), AV.val (.int .i64) (0 : Int), AV.val (.int .i64) (0 : Int), AV.val (.int .i64) (0 : Int), AV.val (.int .i64) (0 : Int), AV.val (.int .i64) (0 : Int)], some [.int .i64, .int .i64, .int .i64, .int .i64, .int .i64, .int .i64, .int .i64, .int .i64]⟩),
  (30, ⟨.iface, 1, 16, .err, [AV.val .err (none : Option Int)], none⟩),
  (38, ⟨.ptr, 1, 8, (.nptr (.pair (.sl (.pair (.int .i64) (.int .i64))) (.pair (.int .i64) (.int .i64)))), [AV.nilP], none⟩),
  (59, ⟨.struct [(0, 1, false), (1, 1, false), (2, 1, false), (3, 1, false), (4, 1, false), (5, 1, false), (6, 1, false)], 7, 56, (.pair (.int .i64) (.pair (.int .i64) (.pair (.int .i64) (.pair (.int .i64) (.pair (.int .i64) (.pair (.int .i64) .bool)))))), [AV.val (.int .i64) (0 : Int), AV.val (.int .i64) (0 : Int), AV.val (.int .i64) (0 : Int), AV.val (.int .i64) (0 : Int), AV.val (.int .i64) (0 : Int), AV.val (.int .i64) (0 : Int), AV.val .bool false], some [.int .i64, .int .i64, .int .i64, .int .i64, .int .i64, .int .i64, .bool]⟩),
  (68, ⟨.arr 2 21, 2, 8, (.pair (.int .i32) (.int .i32)), [AV.val (.int .i32) (0 : Int), AV.val (.int .i32) (0 : Int)], some [.int .i32, .int .i32]⟩),
  (69, ⟨.int .i8, 1, 1, (.int .i8), [AV.val (.int .i8) (0 : Int)], none⟩),
  (81, ⟨.int .u32, 1, 4, (.int .u32), [AV.val (.int .u32) (0 : Int)], none⟩),
  (83, ⟨.struct [(0, 1, false), (1, 1, false)], 2, 8, (.pair (.int .u32) (.int .u32)), [AV.val (.int .u32) (0 : Int), AV.val (.int .u32) (0 : Int)], some [.int .u32, .int .u32]⟩),
  (87, ⟨.slice 5, 1, 24, (.sl (.int .u8)), [AV.nilS], none⟩),
  (92, ⟨.ptr, 1, 8, (.nptr (.pair .str (.pair (.int .i64) .err))), [AV.nilP], none⟩),
  (95, ⟨.struct [(0, 1, false), (1, 1, false)], 2, 24, (.pair (.nptr (.pair .str (.pair (.int .i64) .err))) .str), [AV.nilP, AV.val .str ByteArray.empty], none⟩),
  (100, ⟨.int .i64, 1, 8, (.int .i64), [AV.val (.int .i64) (0 : Int)], none⟩),
  (130, ⟨.struct [(0, 1, false), (1, 1, false)], 2, 16, (.pair (.int .i64) (.int .i64)), [AV.val (.int .i64) (0 : Int), AV.val (.int .i64) (0 : Int)], some [.int .i64, .int .i64]⟩),
  (137, ⟨.struct [(0, 1, false), (1, 1, false), (2, 1, false)], 3, 40, (.pair (.sl (.pair (.int .i64) (.int .i64))) (.pair (.int .i64) (.int .i64))), [AV.nilS, AV.val (.int .i64) (0 : Int), AV.val (.int .i64) (0 : Int)], none⟩),
  (166, ⟨.int .u64, 1, 8, (.int .u64), [AV.val (.int .u64) (0 : Int)], none⟩),
  (176, ⟨.struct [(0, 1, false), (1, 1, false), (2, 1, false)], 3, 40, (.pair .str (.pair (.int .i64) .err)), [AV.val .str ByteArray.empty, AV.val (.int .i64) (0 : Int), AV.val .err (none : Option Int)], none⟩),
  (188, ⟨.struct [(0, 1, false)], 1, 8, (.nptr (.pair .str (.pair (.int .i64) .err))), [AV.nilP], none⟩),
  (192, ⟨.struct [(0, 1, false)], 1, 8, (.nptr (.pair .str (.pair (.int .i64) .err))), [AV.nilP], none⟩),
  (193, ⟨.arr 3 3, 3, 24, (.pair (.int .i64) (.pair (.int .i64) (.int .i64))), [AV.val (.int .i64) (0 : Int), AV.val (.int .i64) (0 : Int), AV.val (.int .i64) (0 : Int)], some [.int .i64, .int .i64, .int .i64]⟩),
  (215, ⟨.int .u64, 1, 8, (.int .u64), [AV.val (.int .u64) (0 : Int)], none⟩),
  (242, ⟨.slice 2, 1, 24, (.sl (.int .i64)), [AV.nilS], none⟩),
  (243, ⟨.slice 81, 1, 24, (.sl (.int .u32)), [AV.nilS], none⟩)]
def ET0 : TypeId := 100
def E0 : Env := ⟨rows0, [], ET0, 0, [], [], []⟩
theorem e0_ok : EnvOk Tryz.prog E0 := envOk_rows (by kernel_rfl) (by kernel_rfl) 0
def gd_i64_i64 (l : List (Int × Int)) (i : Int) : (Int × Int) := gd (.pair (.int .i64) (.int .i64)) l i
/- strings.IndexByte -/
@[reducible] def pi_strings_IndexByte : PSh := pi_lib_indexByte
@[reducible] def po_strings_IndexByte : PSh := po_lib_indexByte
def g_strings_IndexByte := lib_indexByte
theorem ok_strings_IndexByte : FnOk Tryz.prog ET0 182 pi_strings_IndexByte po_strings_IndexByte g_strings_IndexByte := lib_indexByte_ok ⟨Tryz.f182, Tryz.func182, by kernel_rfl, by kernel_rfl⟩ Tryz.strings_IndexByte
/- internal/stringslite.Clone -/
@[reducible] def pi_internal_stringslite_Clone : PSh := pi_lib_clone
@[reducible] def po_internal_stringslite_Clone : PSh := po_lib_clone
def g_internal_stringslite_Clone := lib_clone
theorem ok_internal_stringslite_Clone : FnOk Tryz.prog ET0 231 pi_internal_stringslite_Clone po_internal_stringslite_Clone g_internal_stringslite_Clone := lib_clone_ok ⟨Tryz.f231, Tryz.func231, by kernel_rfl, by kernel_rfl⟩ Tryz.stringslite_Clone
/- strings.Repeat -/
@[reducible] def pi_strings_Repeat : PSh := pi_lib_repeat
@[reducible] def po_strings_Repeat : PSh := po_lib_repeat
def g_strings_Repeat := lib_repeat
theorem ok_strings_Repeat : FnOk Tryz.prog ET0 165 pi_strings_Repeat po_strings_Repeat g_strings_Repeat := lib_repeat_ok ⟨Tryz.f165, Tryz.func165, by kernel_rfl, by kernel_rfl⟩ Tryz.strings_Repeat

@[reducible] def pi_law10_Long : PSh := ⟨[], [.mk true [.v (.sl (.pair (.int .i64) (.int .i64))), vI, vI]]⟩
@[reducible] def po_law10_Long : PSh := ⟨[], [.mk false [vB]]⟩
def f_law10_Long_m (T : Unit) (d : Unit × (((List (Int × Int)) × (Int × (Int × Unit))) × Unit)) : Option (Unit × ((Bool × Unit) × Unit)) :=
  let x1 : Int := (d.2.1.1.length : Int)
  let x2 : Bool := (decide (x1 > (296 : Int)))
  some ((), ((x2, ()), ()))
def g_law10_Long (d : Unit × (((List (Int × Int)) × (Int × (Int × Unit))) × Unit)) : Option (Unit × ((Bool × Unit) × Unit)) := f_law10_Long_m () d
theorem ok_law10_Long : FnOk Tryz.prog ET0 7 pi_law10_Long po_law10_Long g_law10_Long :=
  fn0 (E := E0) e0_ok (fn := Tryz.f7) Tryz.func7 (by kernel_rfl) (by kernel_rfl) [.tmp 2] (by kernel_rfl) rfl rfl rfl [] fun d => by kernel_rfl

@[reducible] def pi_scan_New_string : PSh := ⟨[], [.mk false [vS]]⟩
@[reducible] def po_scan_New_string : PSh := ⟨[.var 176 [vS, vI, vE]], [.mk false [.ref 0 0]]⟩
def f_scan_New_string_m (T : Unit) (d : Unit × ((ByteArray × Unit) × Unit)) : Option (((ByteArray × (Int × ((Option Int) × Unit))) × Unit) × (Unit × Unit)) :=
  some (((d.2.1.1, ((0 : Int), ((none : Option Int), ()))), ()), ((), ()))
def g_scan_New_string (d : Unit × ((ByteArray × Unit) × Unit)) : Option (((ByteArray × (Int × ((Option Int) × Unit))) × Unit) × (Unit × Unit)) := f_scan_New_string_m () d
theorem ok_scan_New_string : FnOk Tryz.prog ET0 43 pi_scan_New_string po_scan_New_string g_scan_New_string :=
  fn0 (E := E0) e0_ok (fn := Tryz.f43) Tryz.func43 (by kernel_rfl) (by kernel_rfl) [.tmp 2] (by kernel_rfl) rfl rfl rfl [] fun d => by kernel_rfl

@[reducible] def pi_scan_Scanner_string_going : PSh := ⟨[], [.mk false [.v (.nptr (.pair .str (.pair (.int .i64) .err)))]]⟩
@[reducible] def po_scan_Scanner_string_going : PSh := ⟨[], [.mk false [vB]]⟩
def f_scan_Scanner_string_going_m (T : Unit) (d : Unit × (((Option (ByteArray × (Int × (Option Int)))) × Unit) × Unit)) : Option (Unit × ((Bool × Unit) × Unit)) :=
  let x1 : Bool := (!d.2.1.1.isNone)
  bif x1 then (
  d.2.1.1.bind fun x2 =>
  some ((), ((x2.2.2.isNone, ()), ())))
  else (
  some ((), ((false, ()), ())))
def g_scan_Scanner_string_going (d : Unit × (((Option (ByteArray × (Int × (Option Int)))) × Unit) × Unit)) : Option (Unit × ((Bool × Unit) × Unit)) := f_scan_Scanner_string_going_m () d
theorem ok_scan_Scanner_string_going : FnOk Tryz.prog ET0 120 pi_scan_Scanner_string_going po_scan_Scanner_string_going g_scan_Scanner_string_going :=
  fn0 (E := E0) e0_ok (fn := Tryz.f120) Tryz.func120 (by kernel_rfl) (by kernel_rfl) [.tmp 2] (by kernel_rfl) rfl rfl rfl [] fun d => by kernel_rfl

@[reducible] def pi_scan_Scanner_string_Err : PSh := ⟨[], [.mk false [.v (.nptr (.pair .str (.pair (.int .i64) .err)))]]⟩
@[reducible] def po_scan_Scanner_string_Err : PSh := ⟨[], [.mk false [vE]]⟩
def f_scan_Scanner_string_Err_m (T : Unit) (d : Unit × (((Option (ByteArray × (Int × (Option Int)))) × Unit) × Unit)) : Option (Unit × (((Option Int) × Unit) × Unit)) :=
  bif d.2.1.1.isNone then (
  let x1 : (Option Int) := (some (8 : Int))
  some ((), ((x1, ()), ())))
  else (
  d.2.1.1.bind fun x2 =>
  some ((), ((x2.2.2, ()), ())))
def g_scan_Scanner_string_Err (d : Unit × (((Option (ByteArray × (Int × (Option Int)))) × Unit) × Unit)) : Option (Unit × (((Option Int) × Unit) × Unit)) := f_scan_Scanner_string_Err_m () d
theorem ok_scan_Scanner_string_Err : FnOk Tryz.prog ET0 112 pi_scan_Scanner_string_Err po_scan_Scanner_string_Err g_scan_Scanner_string_Err :=
  fn0 (E := E0) e0_ok (fn := Tryz.f112) Tryz.func112 (by kernel_rfl) (by kernel_rfl) [.tmp 2] (by kernel_rfl) rfl rfl rfl [] fun d => by kernel_rfl

@[reducible] def pi_mail_remark : PSh := ⟨[], [.mk false [vS], .mk false [vI]]⟩
@[reducible] def po_mail_remark : PSh := ⟨[], [.mk false [vI]]⟩
@[reducible] def TT_mail_remark : Type := (((Unit × ((ByteArray × Unit) × ((Int × Unit) × ((Int × Unit) × Unit)))) → Option (Unit × ((Int × Unit) × Unit))) × Unit)
@[reducible] def sh_mail_remark_3 : PSh := ⟨[], [.mk false [vS], .mk false [vI], .any, .any, .any, .mk false [vI], .any, .any, .any, .any, .any, .any, .any, .any, .any, .any, .any, .any, .any, .any, .any, .any, .any, .any, .any, .any, .any, .any, .any, .any, .any]⟩
def f_mail_remark_p3 (T : TT_mail_remark) (d : Unit × ((ByteArray × Unit) × ((Int × Unit) × ((Int × Unit) × Unit)))) : Option (Unit × ((Int × Unit) × Unit)) :=
  let x1 : Int := (d.2.1.1.size : Int)
  let x2 : Bool := (decide (d.2.2.1.1 < x1))
  bif x2 then (
  bif decide ((0 : Int) ≤ d.2.2.1.1) && decide (d.2.2.1.1 < ((d.2.1.1.size : Int) : Int)) then (
  let x3 : Int := (bt d.2.1.1 d.2.2.1.1)
  let x4 : Bool := (x3 == (92 : Int))
  bif x4 then (
  let x5 : Int := (iadd .i64 d.2.2.1.1 (1 : Int))
  let x6 : Bool := (d.2.2.2.1.1 == (0 : Int))
  bif x6 then (
  let x7 : Int := (iadd .i64 x5 (1 : Int))
  some ((), ((x7, ()), ())))
  else (
  let x8 : Int := (iadd .i64 x5 (1 : Int))
  (T.1 ((), (d.2.1, ((x8, ()), d.2.2.2))))))
  else (
  let x9 : Bool := (x3 == (40 : Int))
  bif x9 then (
  let x10 : Int := (iadd .i64 d.2.2.2.1.1 (1 : Int))
  let x11 : Bool := (x10 == (0 : Int))
  bif x11 then (
  let x12 : Int := (iadd .i64 d.2.2.1.1 (1 : Int))
  some ((), ((x12, ()), ())))
  else (
  let x13 : Int := (iadd .i64 d.2.2.1.1 (1 : Int))
  (T.1 ((), (d.2.1, ((x13, ()), ((x10, ()), ())))))))
  else (
  let x14 : Bool := (x3 == (41 : Int))
  bif x14 then (
  let x15 : Int := (isub .i64 d.2.2.2.1.1 (1 : Int))
  let x16 : Bool := (x15 == (0 : Int))
  bif x16 then (
  let x17 : Int := (iadd .i64 d.2.2.1.1 (1 : Int))
  some ((), ((x17, ()), ())))
  else (
  let x18 : Int := (iadd .i64 d.2.2.1.1 (1 : Int))
  (T.1 ((), (d.2.1, ((x18, ()), ((x15, ()), ())))))))
  else (
  let x19 : Bool := (d.2.2.2.1.1 == (0 : Int))
  bif x19 then (
  let x20 : Int := (iadd .i64 d.2.2.1.1 (1 : Int))
  some ((), ((x20, ()), ())))
  else (
  let x21 : Int := (iadd .i64 d.2.2.1.1 (1 : Int))
  (T.1 ((), (d.2.1, ((x21, ()), d.2.2.2)))))))))
  else none)
  else (
  some ((), (((-1 : Int), ()), ())))
def f_mail_remark_t : Nat → TT_mail_remark
  | 0 => (fun _ => none, ())
  | k + 1 => (f_mail_remark_p3 (f_mail_remark_t k), ())
theorem t_mail_remark (k : Nat) : f_mail_remark_t (k + 1) = (f_mail_remark_p3 (f_mail_remark_t k), ()) := rfl
def f_mail_remark_m (T : TT_mail_remark) (d : Unit × ((ByteArray × Unit) × ((Int × Unit) × Unit))) : Option (Unit × ((Int × Unit) × Unit)) :=
  (T.1 ((), (d.2.1, (d.2.2.1, (((0 : Int), ()), ())))))
def c_mail_remark : List Nat := []
def L_mail_remark (k : Nat) : Pts po_mail_remark.den := [(3, ⟨sh_mail_remark_3, (f_mail_remark_t k).1⟩)]
def R_mail_remark (_ : Nat) : PtsR po_mail_remark.den := []
def E_mail_remark : Env := E0
theorem q_mail_remark_3 (k : Nat) (d : sh_mail_remark_3.den) : evAt E_mail_remark (tb (L_mail_remark k) (R_mail_remark k)) c_mail_remark 3 (bodyOf Tryz.f183) 0 (finK E_mail_remark po_mail_remark [.tmp 4]) (ptSt sh_mail_remark_3 d) = f_mail_remark_p3 (f_mail_remark_t k) d := by kernel_rfl
theorem q_mail_remark_m (k : Nat) (d : pi_mail_remark.den) : evCode E_mail_remark (tb (L_mail_remark k) (R_mail_remark k)) c_mail_remark (bodyOf Tryz.f183) 0 (finK E_mail_remark po_mail_remark [.tmp 4]) (startSt pi_mail_remark 31 d) = f_mail_remark_m (f_mail_remark_t k) d := by kernel_rfl
def g_mail_remark (d : Unit × ((ByteArray × Unit) × ((Int × Unit) × Unit))) : Option (Unit × ((Int × Unit) × Unit)) := lim fun k => f_mail_remark_m (f_mail_remark_t k) d
theorem ok_mail_remark : FnOk Tryz.prog ET0 183 pi_mail_remark po_mail_remark g_mail_remark :=
  fn_of_body (E := E_mail_remark) e0_ok (fn := Tryz.f183) Tryz.func183 (by kernel_rfl) (by kernel_rfl) [.tmp 4] (by kernel_rfl) (by kernel_rfl) (by decide) rfl c_mail_remark L_mail_remark R_mail_remark
    (by intro x hx d; simp only [L_mail_remark, List.mem_cons, List.not_mem_nil, or_false] at hx; subst hx; rfl)
    (by intro k x hx d out h; simp only [L_mail_remark, List.mem_cons, List.not_mem_nil, or_false] at hx; subst hx; exact (q_mail_remark_3 k d).trans h)
    (by intro x hx; cases hx)
    (by intro k x hx; cases hx)
    (by intro d out h; obtain ⟨k, hk⟩ := lim_some h; exact ⟨k, (q_mail_remark_m k d).trans hk⟩)

@[reducible] def pi_mail_Gap : PSh := ⟨[], [.mk false [vS], .mk false [vI]]⟩
@[reducible] def po_mail_Gap : PSh := ⟨[], [.mk false [vI]]⟩
@[reducible] def TT_mail_Gap : Type := (((Unit × ((ByteArray × Unit) × ((Int × Unit) × Unit))) → Option (Unit × ((Int × Unit) × Unit))) × Unit)
@[reducible] def sh_mail_Gap_3 : PSh := ⟨[], [.mk false [vS], .mk false [vI], .any, .any, .any, .any, .any, .any, .any, .any, .any, .any, .any, .any, .any, .any, .any, .any, .any, .any, .any, .any, .any, .any, .any, .any, .any, .any, .any, .any, .any, .any]⟩
def f_mail_Gap_p3 (T : TT_mail_Gap) (d : Unit × ((ByteArray × Unit) × ((Int × Unit) × Unit))) : Option (Unit × ((Int × Unit) × Unit)) :=
  let x1 : Bool := (decide (d.2.2.1.1 ≥ (0 : Int)))
  bif x1 then (
  let x2 : Int := (d.2.1.1.size : Int)
  let x3 : Bool := (decide (d.2.2.1.1 < x2))
  bif x3 then (
  bif decide ((0 : Int) ≤ d.2.2.1.1) && decide (d.2.2.1.1 < ((d.2.1.1.size : Int) : Int)) then (
  let x4 : Int := (bt d.2.1.1 d.2.2.1.1)
  (g_strings_IndexByte ((), (((⟨#[32, 9, 13, 10]⟩ : ByteArray), ()), ((x4, ()), ())))).bind fun x5 =>
  let x6 : Bool := (decide (x5.2.1.1 ≥ (0 : Int)))
  bif x6 then (
  let x7 : Int := (iadd .i64 d.2.2.1.1 (1 : Int))
  (T.1 ((), (d.2.1, ((x7, ()), ())))))
  else (
  bif decide ((0 : Int) ≤ d.2.2.1.1) && decide (d.2.2.1.1 < ((d.2.1.1.size : Int) : Int)) then (
  let x8 : Int := (bt d.2.1.1 d.2.2.1.1)
  let x9 : Bool := (x8 == (40 : Int))
  bif x9 then (
  (g_mail_remark ((), d.2)).bind fun x10 =>
  let x11 : Bool := (decide (x10.2.1.1 < (0 : Int)))
  bif x11 then (
  some ((), (((-1 : Int), ()), ())))
  else (
  (T.1 ((), (d.2.1, x10.2)))))
  else (
  some ((), d.2.2)))
  else none))
  else none)
  else (
  some ((), d.2.2)))
  else (
  some ((), d.2.2))
def f_mail_Gap_t : Nat → TT_mail_Gap
  | 0 => (fun _ => none, ())
  | k + 1 => (f_mail_Gap_p3 (f_mail_Gap_t k), ())
theorem t_mail_Gap (k : Nat) : f_mail_Gap_t (k + 1) = (f_mail_Gap_p3 (f_mail_Gap_t k), ()) := rfl
def f_mail_Gap_m (T : TT_mail_Gap) (d : Unit × ((ByteArray × Unit) × ((Int × Unit) × Unit))) : Option (Unit × ((Int × Unit) × Unit)) :=
  (T.1 ((), d.2))
def c_mail_Gap : List Nat := []
def L_mail_Gap (k : Nat) : Pts po_mail_Gap.den := [(3, ⟨sh_mail_Gap_3, (f_mail_Gap_t k).1⟩)]
def R_mail_Gap (_ : Nat) : PtsR po_mail_Gap.den := []
def E_mail_Gap : Env := ((E0.add 182 (typedSem pi_strings_IndexByte po_strings_IndexByte g_strings_IndexByte)).add 183 (typedSem pi_mail_remark po_mail_remark g_mail_remark))
theorem q_mail_Gap_3 (k : Nat) (d : sh_mail_Gap_3.den) : evAt E_mail_Gap (tb (L_mail_Gap k) (R_mail_Gap k)) c_mail_Gap 3 (bodyOf Tryz.f113) 0 (finK E_mail_Gap po_mail_Gap [.tmp 4]) (ptSt sh_mail_Gap_3 d) = f_mail_Gap_p3 (f_mail_Gap_t k) d := by kernel_rfl
theorem q_mail_Gap_m (k : Nat) (d : pi_mail_Gap.den) : evCode E_mail_Gap (tb (L_mail_Gap k) (R_mail_Gap k)) c_mail_Gap (bodyOf Tryz.f113) 0 (finK E_mail_Gap po_mail_Gap [.tmp 4]) (startSt pi_mail_Gap 32 d) = f_mail_Gap_m (f_mail_Gap_t k) d := by kernel_rfl
def g_mail_Gap (d : Unit × ((ByteArray × Unit) × ((Int × Unit) × Unit))) : Option (Unit × ((Int × Unit) × Unit)) := lim fun k => f_mail_Gap_m (f_mail_Gap_t k) d
theorem ok_mail_Gap : FnOk Tryz.prog ET0 113 pi_mail_Gap po_mail_Gap g_mail_Gap :=
  fn_of_body (E := E_mail_Gap) (envOk_add (envOk_add e0_ok (typed_ok ok_strings_IndexByte)) (typed_ok ok_mail_remark)) (fn := Tryz.f113) Tryz.func113 (by kernel_rfl) (by kernel_rfl) [.tmp 4] (by kernel_rfl) (by kernel_rfl) (by decide) rfl c_mail_Gap L_mail_Gap R_mail_Gap
    (by intro x hx d; simp only [L_mail_Gap, List.mem_cons, List.not_mem_nil, or_false] at hx; subst hx; rfl)
    (by intro k x hx d out h; simp only [L_mail_Gap, List.mem_cons, List.not_mem_nil, or_false] at hx; subst hx; exact (q_mail_Gap_3 k d).trans h)
    (by intro x hx; cases hx)
    (by intro k x hx; cases hx)
    (by intro d out h; obtain ⟨k, hk⟩ := lim_some h; exact ⟨k, (q_mail_Gap_m k d).trans hk⟩)

@[reducible] def pi_scan_Scanner_string_At : PSh := ⟨[], [.mk false [.v (.nptr (.pair .str (.pair (.int .i64) .err)))]]⟩
@[reducible] def po_scan_Scanner_string_At : PSh := ⟨[], [.mk false [vI]]⟩
def f_scan_Scanner_string_At_m (T : Unit) (d : Unit × (((Option (ByteArray × (Int × (Option Int)))) × Unit) × Unit)) : Option (Unit × ((Int × Unit) × Unit)) :=
  bif d.2.1.1.isNone then (
  some ((), (((0 : Int), ()), ())))
  else (
  d.2.1.1.bind fun x1 =>
  some ((), ((x1.2.1, ()), ())))
def g_scan_Scanner_string_At (d : Unit × (((Option (ByteArray × (Int × (Option Int)))) × Unit) × Unit)) : Option (Unit × ((Int × Unit) × Unit)) := f_scan_Scanner_string_At_m () d
theorem ok_scan_Scanner_string_At : FnOk Tryz.prog ET0 114 pi_scan_Scanner_string_At po_scan_Scanner_string_At g_scan_Scanner_string_At :=
  fn0 (E := E0) e0_ok (fn := Tryz.f114) Tryz.func114 (by kernel_rfl) (by kernel_rfl) [.tmp 2] (by kernel_rfl) rfl rfl rfl [] fun d => by kernel_rfl

@[reducible] def pi_scan_Scanner_string_rest : PSh := ⟨[], [.mk false [.v (.nptr (.pair .str (.pair (.int .i64) .err)))]]⟩
@[reducible] def po_scan_Scanner_string_rest : PSh := ⟨[], [.mk false [vS]]⟩
def f_scan_Scanner_string_rest_m (T : Unit) (d : Unit × (((Option (ByteArray × (Int × (Option Int)))) × Unit) × Unit)) : Option (Unit × ((ByteArray × Unit) × Unit)) :=
  bif d.2.1.1.isNone then (
  some ((), (((⟨#[]⟩ : ByteArray), ()), ())))
  else (
  d.2.1.1.bind fun x1 =>
  let x2 : Bool := (!x1.2.2.isNone)
  bif x2 then (
  some ((), (((⟨#[]⟩ : ByteArray), ()), ())))
  else (
  d.2.1.1.bind fun x3 =>
  d.2.1.1.bind fun x4 =>
  bif decide ((0 : Int) ≤ x4.2.1) && decide (x4.2.1 ≤ (x3.1.size : Int)) && decide ((x3.1.size : Int) ≤ (x3.1.size : Int)) then (
  let x5 : ByteArray := (x3.1.extract (Int.toNat x4.2.1) (Int.toNat (x3.1.size : Int)))
  some ((), ((x5, ()), ())))
  else none))
def g_scan_Scanner_string_rest (d : Unit × (((Option (ByteArray × (Int × (Option Int)))) × Unit) × Unit)) : Option (Unit × ((ByteArray × Unit) × Unit)) := f_scan_Scanner_string_rest_m () d
theorem ok_scan_Scanner_string_rest : FnOk Tryz.prog ET0 187 pi_scan_Scanner_string_rest po_scan_Scanner_string_rest g_scan_Scanner_string_rest :=
  fn0 (E := E0) e0_ok (fn := Tryz.f187) Tryz.func187 (by kernel_rfl) (by kernel_rfl) [.tmp 2] (by kernel_rfl) rfl rfl rfl [] fun d => by kernel_rfl

@[reducible] def pi_scan_Scanner_string_Left : PSh := ⟨[], [.mk false [.v (.nptr (.pair .str (.pair (.int .i64) .err)))]]⟩
@[reducible] def po_scan_Scanner_string_Left : PSh := ⟨[], [.mk false [vI]]⟩
def f_scan_Scanner_string_Left_m (T : Unit) (d : Unit × (((Option (ByteArray × (Int × (Option Int)))) × Unit) × Unit)) : Option (Unit × ((Int × Unit) × Unit)) :=
  (g_scan_Scanner_string_rest ((), d.2)).bind fun x1 =>
  let x2 : Int := (x1.2.1.1.size : Int)
  some ((), ((x2, ()), ()))
def g_scan_Scanner_string_Left (d : Unit × (((Option (ByteArray × (Int × (Option Int)))) × Unit) × Unit)) : Option (Unit × ((Int × Unit) × Unit)) := f_scan_Scanner_string_Left_m () d
theorem ok_scan_Scanner_string_Left : FnOk Tryz.prog ET0 124 pi_scan_Scanner_string_Left po_scan_Scanner_string_Left g_scan_Scanner_string_Left :=
  fn0 (E := (E0.add 187 (typedSem pi_scan_Scanner_string_rest po_scan_Scanner_string_rest g_scan_Scanner_string_rest))) (envOk_add e0_ok (typed_ok ok_scan_Scanner_string_rest)) (fn := Tryz.f124) Tryz.func124 (by kernel_rfl) (by kernel_rfl) [.tmp 2] (by kernel_rfl) rfl rfl rfl [] fun d => by kernel_rfl

@[reducible] def pi_strings_Clone : PSh := ⟨[], [.mk false [vS]]⟩
@[reducible] def po_strings_Clone : PSh := ⟨[], [.mk false [vS]]⟩
def f_strings_Clone_m (T : Unit) (d : Unit × ((ByteArray × Unit) × Unit)) : Option (Unit × ((ByteArray × Unit) × Unit)) :=
  (g_internal_stringslite_Clone ((), d.2)).bind fun x1 =>
  some ((), x1.2)
def g_strings_Clone (d : Unit × ((ByteArray × Unit) × Unit)) : Option (Unit × ((ByteArray × Unit) × Unit)) := f_strings_Clone_m () d
theorem ok_strings_Clone : FnOk Tryz.prog ET0 220 pi_strings_Clone po_strings_Clone g_strings_Clone :=
  fn0 (E := (E0.add 231 (typedSem pi_internal_stringslite_Clone po_internal_stringslite_Clone g_internal_stringslite_Clone))) (envOk_add e0_ok (typed_ok ok_internal_stringslite_Clone)) (fn := Tryz.f220) Tryz.func220 (by kernel_rfl) (by kernel_rfl) [.tmp 2] (by kernel_rfl) rfl rfl rfl [] fun d => by kernel_rfl

@[reducible] def pi_mail_name : PSh := ⟨[], [.mk false [vS], .mk false [vI]]⟩
@[reducible] def po_mail_name : PSh := ⟨[], [.mk false [vS]]⟩
def f_mail_name_m (T : Unit) (d : Unit × ((ByteArray × Unit) × ((Int × Unit) × Unit))) : Option (Unit × ((ByteArray × Unit) × Unit)) :=
  let x1 : Bool := (decide (d.2.2.1.1 < (1 : Int)))
  bif x1 then (
  some ((), (((⟨#[]⟩ : ByteArray), ()), ())))
  else (
  let x2 : Int := (d.2.1.1.size : Int)
  let x3 : Int := (iquo .i64 x2 (3 : Int))
  let x4 : Bool := (decide (d.2.2.1.1 > x3))
  bif x4 then (
  some ((), (((⟨#[]⟩ : ByteArray), ()), ())))
  else (
  let x5 : Int := (isub .i64 d.2.2.1.1 (1 : Int))
  let x6 : Int := (imul .i64 (3 : Int) x5)
  let x7 : Int := (imul .i64 (3 : Int) d.2.2.1.1)
  bif decide ((0 : Int) ≤ x6) && decide (x6 ≤ x7) && decide (x7 ≤ (d.2.1.1.size : Int)) then (
  let x8 : ByteArray := (d.2.1.1.extract (Int.toNat x6) (Int.toNat x7))
  some ((), ((x8, ()), ())))
  else none))
def g_mail_name (d : Unit × ((ByteArray × Unit) × ((Int × Unit) × Unit))) : Option (Unit × ((ByteArray × Unit) × Unit)) := f_mail_name_m () d
theorem ok_mail_name : FnOk Tryz.prog ET0 157 pi_mail_name po_mail_name g_mail_name :=
  fn0 (E := E0) e0_ok (fn := Tryz.f157) Tryz.func157 (by kernel_rfl) (by kernel_rfl) [.tmp 4] (by kernel_rfl) rfl rfl rfl [] fun d => by kernel_rfl

@[reducible] def pi_scan_small : PSh := ⟨[], [.mk false [v8]]⟩
@[reducible] def po_scan_small : PSh := ⟨[], [.mk false [v8]]⟩
def f_scan_small_m (T : Unit) (d : Unit × ((Int × Unit) × Unit)) : Option (Unit × ((Int × Unit) × Unit)) :=
  let x1 : Bool := (decide (d.2.1.1 ≥ (65 : Int)))
  bif x1 then (
  let x2 : Bool := (decide (d.2.1.1 ≤ (90 : Int)))
  bif x2 then (
  let x3 : Int := (isub .u8 d.2.1.1 (65 : Int))
  let x4 : Int := (iadd .u8 x3 (97 : Int))
  some ((), ((x4, ()), ())))
  else (
  some ((), d.2)))
  else (
  some ((), d.2))
def g_scan_small (d : Unit × ((Int × Unit) × Unit)) : Option (Unit × ((Int × Unit) × Unit)) := f_scan_small_m () d
theorem ok_scan_small : FnOk Tryz.prog ET0 232 pi_scan_small po_scan_small g_scan_small :=
  fn0 (E := E0) e0_ok (fn := Tryz.f232) Tryz.func232 (by kernel_rfl) (by kernel_rfl) [.tmp 2] (by kernel_rfl) rfl rfl rfl [] fun d => by kernel_rfl

@[reducible] def pi_scan_alike : PSh := ⟨[], [.mk false [vS], .mk false [vS]]⟩
@[reducible] def po_scan_alike : PSh := ⟨[], [.mk false [vB]]⟩
@[reducible] def TT_scan_alike : Type := (((Unit × ((ByteArray × Unit) × ((ByteArray × Unit) × ((Int × Unit) × ((Int × Unit) × Unit))))) → Option (Unit × ((Bool × Unit) × Unit))) × Unit)
@[reducible] def sh_scan_alike_3 : PSh := ⟨[], [.mk false [vS], .mk false [vS], .any, .any, .any, .any, .any, .mk false [vI], .mk false [vI], .any, .any, .any, .any, .any, .any, .any, .any, .any, .any, .any, .any]⟩
def f_scan_alike_p3 (T : TT_scan_alike) (d : Unit × ((ByteArray × Unit) × ((ByteArray × Unit) × ((Int × Unit) × ((Int × Unit) × Unit))))) : Option (Unit × ((Bool × Unit) × Unit)) :=
  let x2 : Bool := (decide (d.2.2.2.2.1.1 < d.2.2.2.1.1))
  bif x2 then (
  bif decide ((0 : Int) ≤ d.2.2.2.2.1.1) && decide (d.2.2.2.2.1.1 < ((d.2.1.1.size : Int) : Int)) then (
  let x3 : Int := (bt d.2.1.1 d.2.2.2.2.1.1)
  (g_scan_small ((), ((x3, ()), ()))).bind fun x4 =>
  bif decide ((0 : Int) ≤ d.2.2.2.2.1.1) && decide (d.2.2.2.2.1.1 < ((d.2.2.1.1.size : Int) : Int)) then (
  let x5 : Int := (bt d.2.2.1.1 d.2.2.2.2.1.1)
  (g_scan_small ((), ((x5, ()), ()))).bind fun x6 =>
  let x7 : Bool := (x4.2.1.1 != x6.2.1.1)
  bif x7 then (
  some ((), ((false, ()), ())))
  else (
  let x8 : Int := (iadd .i64 d.2.2.2.2.1.1 (1 : Int))
  (T.1 ((), (d.2.1, (d.2.2.1, (d.2.2.2.1, ((x8, ()), ()))))))))
  else none)
  else none)
  else (
  some ((), ((true, ()), ())))
def f_scan_alike_t : Nat → TT_scan_alike
  | 0 => (fun _ => none, ())
  | k + 1 => (f_scan_alike_p3 (f_scan_alike_t k), ())
theorem t_scan_alike (k : Nat) : f_scan_alike_t (k + 1) = (f_scan_alike_p3 (f_scan_alike_t k), ()) := rfl
def f_scan_alike_m (T : TT_scan_alike) (d : Unit × ((ByteArray × Unit) × ((ByteArray × Unit) × Unit))) : Option (Unit × ((Bool × Unit) × Unit)) :=
  let x1 : Int := (d.2.1.1.size : Int)
  (T.1 ((), (d.2.1, (d.2.2.1, ((x1, ()), (((0 : Int), ()), ()))))))
def c_scan_alike : List Nat := []
def L_scan_alike (k : Nat) : Pts po_scan_alike.den := [(3, ⟨sh_scan_alike_3, (f_scan_alike_t k).1⟩)]
def R_scan_alike (_ : Nat) : PtsR po_scan_alike.den := []
def E_scan_alike : Env := (E0.add 232 (typedSem pi_scan_small po_scan_small g_scan_small))
theorem q_scan_alike_3 (k : Nat) (d : sh_scan_alike_3.den) : evAt E_scan_alike (tb (L_scan_alike k) (R_scan_alike k)) c_scan_alike 3 (bodyOf Tryz.f221) 0 (finK E_scan_alike po_scan_alike [.tmp 4]) (ptSt sh_scan_alike_3 d) = f_scan_alike_p3 (f_scan_alike_t k) d := by kernel_rfl
theorem q_scan_alike_m (k : Nat) (d : pi_scan_alike.den) : evCode E_scan_alike (tb (L_scan_alike k) (R_scan_alike k)) c_scan_alike (bodyOf Tryz.f221) 0 (finK E_scan_alike po_scan_alike [.tmp 4]) (startSt pi_scan_alike 21 d) = f_scan_alike_m (f_scan_alike_t k) d := by kernel_rfl
def g_scan_alike (d : Unit × ((ByteArray × Unit) × ((ByteArray × Unit) × Unit))) : Option (Unit × ((Bool × Unit) × Unit)) := lim fun k => f_scan_alike_m (f_scan_alike_t k) d
theorem ok_scan_alike : FnOk Tryz.prog ET0 221 pi_scan_alike po_scan_alike g_scan_alike :=
  fn_of_body (E := E_scan_alike) (envOk_add e0_ok (typed_ok ok_scan_small)) (fn := Tryz.f221) Tryz.func221 (by kernel_rfl) (by kernel_rfl) [.tmp 4] (by kernel_rfl) (by kernel_rfl) (by decide) rfl c_scan_alike L_scan_alike R_scan_alike
    (by intro x hx d; simp only [L_scan_alike, List.mem_cons, List.not_mem_nil, or_false] at hx; subst hx; rfl)
    (by intro k x hx d out h; simp only [L_scan_alike, List.mem_cons, List.not_mem_nil, or_false] at hx; subst hx; exact (q_scan_alike_3 k d).trans h)
    (by intro x hx; cases hx)
    (by intro k x hx; cases hx)
    (by intro d out h; obtain ⟨k, hk⟩ := lim_some h; exact ⟨k, (q_scan_alike_m k d).trans hk⟩)

@[reducible] def pi_figures_Is : PSh := ⟨[], [.mk false [v8]]⟩
@[reducible] def po_figures_Is : PSh := ⟨[], [.mk false [vB]]⟩
def f_figures_Is_m (T : Unit) (d : Unit × ((Int × Unit) × Unit)) : Option (Unit × ((Bool × Unit) × Unit)) :=
  let x1 : Bool := (decide (d.2.1.1 ≥ (48 : Int)))
  bif x1 then (
  let x2 : Bool := (decide (d.2.1.1 ≤ (57 : Int)))
  some ((), ((x2, ()), ())))
  else (
  some ((), ((false, ()), ())))
def g_figures_Is (d : Unit × ((Int × Unit) × Unit)) : Option (Unit × ((Bool × Unit) × Unit)) := f_figures_Is_m () d
theorem ok_figures_Is : FnOk Tryz.prog ET0 239 pi_figures_Is po_figures_Is g_figures_Is :=
  fn0 (E := E0) e0_ok (fn := Tryz.f239) Tryz.func239 (by kernel_rfl) (by kernel_rfl) [.tmp 2] (by kernel_rfl) rfl rfl rfl [] fun d => by kernel_rfl

@[reducible] def pi_figures_run : PSh := ⟨[], [.mk false [vS], .mk false [vI]]⟩
@[reducible] def po_figures_run : PSh := ⟨[], [.mk false [vI]]⟩
@[reducible] def TT_figures_run : Type := (((Unit × ((ByteArray × Unit) × ((Int × Unit) × ((Int × Unit) × Unit)))) → Option (Unit × ((Int × Unit) × Unit))) × Unit)
@[reducible] def sh_figures_run_3 : PSh := ⟨[], [.mk false [vS], .mk false [vI], .any, .any, .any, .mk false [vI], .any, .any, .any, .any, .any, .any, .any, .any, .any, .any, .any, .any, .any, .any, .any]⟩
def f_figures_run_p3 (T : TT_figures_run) (d : Unit × ((ByteArray × Unit) × ((Int × Unit) × ((Int × Unit) × Unit)))) : Option (Unit × ((Int × Unit) × Unit)) :=
  let x1 : Int := (d.2.1.1.size : Int)
  let x2 : Int := (if d.2.2.1.1 < x1 then d.2.2.1.1 else x1)
  let x3 : Bool := (decide (d.2.2.2.1.1 < x2))
  bif x3 then (
  bif decide ((0 : Int) ≤ d.2.2.2.1.1) && decide (d.2.2.2.1.1 < ((d.2.1.1.size : Int) : Int)) then (
  let x4 : Int := (bt d.2.1.1 d.2.2.2.1.1)
  (g_figures_Is ((), ((x4, ()), ()))).bind fun x5 =>
  bif x5.2.1.1 then (
  let x6 : Int := (iadd .i64 d.2.2.2.1.1 (1 : Int))
  (T.1 ((), (d.2.1, (d.2.2.1, ((x6, ()), ()))))))
  else (
  some ((), d.2.2.2)))
  else none)
  else (
  some ((), d.2.2.2))
def f_figures_run_t : Nat → TT_figures_run
  | 0 => (fun _ => none, ())
  | k + 1 => (f_figures_run_p3 (f_figures_run_t k), ())
theorem t_figures_run (k : Nat) : f_figures_run_t (k + 1) = (f_figures_run_p3 (f_figures_run_t k), ()) := rfl
def f_figures_run_m (T : TT_figures_run) (d : Unit × ((ByteArray × Unit) × ((Int × Unit) × Unit))) : Option (Unit × ((Int × Unit) × Unit)) :=
  (T.1 ((), (d.2.1, (d.2.2.1, (((0 : Int), ()), ())))))
def c_figures_run : List Nat := []
def L_figures_run (k : Nat) : Pts po_figures_run.den := [(3, ⟨sh_figures_run_3, (f_figures_run_t k).1⟩)]
def R_figures_run (_ : Nat) : PtsR po_figures_run.den := []
def E_figures_run : Env := (E0.add 239 (typedSem pi_figures_Is po_figures_Is g_figures_Is))
theorem q_figures_run_3 (k : Nat) (d : sh_figures_run_3.den) : evAt E_figures_run (tb (L_figures_run k) (R_figures_run k)) c_figures_run 3 (bodyOf Tryz.f233) 0 (finK E_figures_run po_figures_run [.tmp 4]) (ptSt sh_figures_run_3 d) = f_figures_run_p3 (f_figures_run_t k) d := by kernel_rfl
theorem q_figures_run_m (k : Nat) (d : pi_figures_run.den) : evCode E_figures_run (tb (L_figures_run k) (R_figures_run k)) c_figures_run (bodyOf Tryz.f233) 0 (finK E_figures_run po_figures_run [.tmp 4]) (startSt pi_figures_run 21 d) = f_figures_run_m (f_figures_run_t k) d := by kernel_rfl
def g_figures_run (d : Unit × ((ByteArray × Unit) × ((Int × Unit) × Unit))) : Option (Unit × ((Int × Unit) × Unit)) := lim fun k => f_figures_run_m (f_figures_run_t k) d
theorem ok_figures_run : FnOk Tryz.prog ET0 233 pi_figures_run po_figures_run g_figures_run :=
  fn_of_body (E := E_figures_run) (envOk_add e0_ok (typed_ok ok_figures_Is)) (fn := Tryz.f233) Tryz.func233 (by kernel_rfl) (by kernel_rfl) [.tmp 4] (by kernel_rfl) (by kernel_rfl) (by decide) rfl c_figures_run L_figures_run R_figures_run
    (by intro x hx d; simp only [L_figures_run, List.mem_cons, List.not_mem_nil, or_false] at hx; subst hx; rfl)
    (by intro k x hx d out h; simp only [L_figures_run, List.mem_cons, List.not_mem_nil, or_false] at hx; subst hx; exact (q_figures_run_3 k d).trans h)
    (by intro x hx; cases hx)
    (by intro k x hx; cases hx)
    (by intro d out h; obtain ⟨k, hk⟩ := lim_some h; exact ⟨k, (q_figures_run_m k d).trans hk⟩)

@[reducible] def pi_figures_value : PSh := ⟨[], [.mk false [vS], .mk false [.v (.int .u64)]]⟩
@[reducible] def po_figures_value : PSh := ⟨[], [.mk false [.v (.int .u64)], .mk false [vE]]⟩
@[reducible] def TT_figures_value : Type := (((Unit × ((ByteArray × Unit) × ((Int × Unit) × ((Int × Unit) × ((Int × Unit) × ((Int × Unit) × Unit)))))) → Option (Unit × ((Int × Unit) × (((Option Int) × Unit) × Unit)))) × Unit)
@[reducible] def sh_figures_value_4 : PSh := ⟨[], [.mk false [vS], .mk false [.v (.int .u64)], .any, .any, .any, .any, .mk false [.v (.int .u64)], .any, .any, .any, .mk false [vI], .mk false [vI], .any, .any, .any, .any, .any, .any, .any, .any, .any, .any, .any, .any, .any, .any, .any, .any, .any, .any, .any, .any]⟩
def f_figures_value_p4 (T : TT_figures_value) (d : Unit × ((ByteArray × Unit) × ((Int × Unit) × ((Int × Unit) × ((Int × Unit) × ((Int × Unit) × Unit)))))) : Option (Unit × ((Int × Unit) × (((Option Int) × Unit) × Unit))) :=
  let x2 : Bool := (decide (d.2.2.2.2.2.1.1 < d.2.2.2.2.1.1))
  bif x2 then (
  bif decide ((0 : Int) ≤ d.2.2.2.2.2.1.1) && decide (d.2.2.2.2.2.1.1 < ((d.2.1.1.size : Int) : Int)) then (
  let x3 : Int := (bt d.2.1.1 d.2.2.2.2.2.1.1)
  let x4 : Int := (isub .u8 x3 (48 : Int))
  let x5 : Int := (iconv .u64 x4)
  let x6 : Int := (isub .u64 d.2.2.1.1 x5)
  let x7 : Int := (iquo .u64 x6 (10 : Int))
  let x8 : Bool := (decide (d.2.2.2.1.1 > x7))
  bif x8 then (
  let x9 : (Option Int) := (some (5 : Int))
  some ((), (((0 : Int), ()), ((x9, ()), ()))))
  else (
  let x10 : Int := (imul .u64 d.2.2.2.1.1 (10 : Int))
  let x11 : Int := (iadd .u64 x10 x5)
  let x12 : Int := (iadd .i64 d.2.2.2.2.2.1.1 (1 : Int))
  (T.1 ((), (d.2.1, (d.2.2.1, ((x11, ()), (d.2.2.2.2.1, ((x12, ()), ())))))))))
  else none)
  else (
  some ((), (d.2.2.2.1, (((none : Option Int), ()), ()))))
def f_figures_value_t : Nat → TT_figures_value
  | 0 => (fun _ => none, ())
  | k + 1 => (f_figures_value_p4 (f_figures_value_t k), ())
theorem t_figures_value (k : Nat) : f_figures_value_t (k + 1) = (f_figures_value_p4 (f_figures_value_t k), ()) := rfl
def f_figures_value_m (T : TT_figures_value) (d : Unit × ((ByteArray × Unit) × ((Int × Unit) × Unit))) : Option (Unit × ((Int × Unit) × (((Option Int) × Unit) × Unit))) :=
  let x1 : Int := (d.2.1.1.size : Int)
  (T.1 ((), (d.2.1, (d.2.2.1, (((0 : Int), ()), ((x1, ()), (((0 : Int), ()), ())))))))
def c_figures_value : List Nat := []
def L_figures_value (k : Nat) : Pts po_figures_value.den := [(4, ⟨sh_figures_value_4, (f_figures_value_t k).1⟩)]
def R_figures_value (_ : Nat) : PtsR po_figures_value.den := []
def E_figures_value : Env := E0
theorem q_figures_value_4 (k : Nat) (d : sh_figures_value_4.den) : evAt E_figures_value (tb (L_figures_value k) (R_figures_value k)) c_figures_value 4 (bodyOf Tryz.f234) 0 (finK E_figures_value po_figures_value [.tmp 4, .tmp 5]) (ptSt sh_figures_value_4 d) = f_figures_value_p4 (f_figures_value_t k) d := by kernel_rfl
theorem q_figures_value_m (k : Nat) (d : pi_figures_value.den) : evCode E_figures_value (tb (L_figures_value k) (R_figures_value k)) c_figures_value (bodyOf Tryz.f234) 0 (finK E_figures_value po_figures_value [.tmp 4, .tmp 5]) (startSt pi_figures_value 32 d) = f_figures_value_m (f_figures_value_t k) d := by kernel_rfl
def g_figures_value (d : Unit × ((ByteArray × Unit) × ((Int × Unit) × Unit))) : Option (Unit × ((Int × Unit) × (((Option Int) × Unit) × Unit))) := lim fun k => f_figures_value_m (f_figures_value_t k) d
theorem ok_figures_value : FnOk Tryz.prog ET0 234 pi_figures_value po_figures_value g_figures_value :=
  fn_of_body (E := E_figures_value) e0_ok (fn := Tryz.f234) Tryz.func234 (by kernel_rfl) (by kernel_rfl) [.tmp 4, .tmp 5] (by kernel_rfl) (by kernel_rfl) (by decide) rfl c_figures_value L_figures_value R_figures_value
    (by intro x hx d; simp only [L_figures_value, List.mem_cons, List.not_mem_nil, or_false] at hx; subst hx; rfl)
    (by intro k x hx d out h; simp only [L_figures_value, List.mem_cons, List.not_mem_nil, or_false] at hx; subst hx; exact (q_figures_value_4 k d).trans h)
    (by intro x hx; cases hx)
    (by intro k x hx; cases hx)
    (by intro d out h; obtain ⟨k, hk⟩ := lim_some h; exact ⟨k, (q_figures_value_m k d).trans hk⟩)

@[reducible] def pi_figures_take : PSh := ⟨[], [.mk false [vS], .mk false [vI], .mk false [vI], .mk false [.v (.int .u64)]]⟩
@[reducible] def po_figures_take : PSh := ⟨[], [.mk false [.v (.int .u64)], .mk false [vI], .mk false [vE]]⟩
def f_figures_take_m (T : Unit) (d : Unit × ((ByteArray × Unit) × ((Int × Unit) × ((Int × Unit) × ((Int × Unit) × Unit))))) : Option (Unit × ((Int × Unit) × ((Int × Unit) × (((Option Int) × Unit) × Unit)))) :=
  let x1 : Bool := (decide (d.2.2.1.1 < (1 : Int)))
  bif x1 then (
  let x2 : (Option Int) := (some (1 : Int))
  some ((), (((0 : Int), ()), (((0 : Int), ()), ((x2, ()), ())))))
  else (
  let x3 : Bool := (decide (d.2.2.1.1 > d.2.2.2.1.1))
  bif x3 then (
  let x4 : (Option Int) := (some (1 : Int))
  some ((), (((0 : Int), ()), (((0 : Int), ()), ((x4, ()), ())))))
  else (
  let x5 : Bool := (decide (d.2.2.2.1.1 > (20 : Int)))
  bif x5 then (
  let x6 : (Option Int) := (some (1 : Int))
  some ((), (((0 : Int), ()), (((0 : Int), ()), ((x6, ()), ())))))
  else (
  (g_figures_run ((), (d.2.1, (d.2.2.2.1, ())))).bind fun x7 =>
  let x8 : Bool := (decide (x7.2.1.1 < d.2.2.1.1))
  bif x8 then (
  let x9 : (Option Int) := (some (2 : Int))
  some ((), (((0 : Int), ()), (((0 : Int), ()), ((x9, ()), ())))))
  else (
  bif decide ((0 : Int) ≤ (0 : Int)) && decide ((0 : Int) ≤ x7.2.1.1) && decide (x7.2.1.1 ≤ (d.2.1.1.size : Int)) then (
  let x10 : ByteArray := (d.2.1.1.extract (Int.toNat (0 : Int)) (Int.toNat x7.2.1.1))
  (g_figures_value ((), ((x10, ()), d.2.2.2.2))).bind fun x11 =>
  let x12 : Bool := (!x11.2.2.1.1.isNone)
  bif x12 then (
  some ((), (((0 : Int), ()), (((0 : Int), ()), x11.2.2))))
  else (
  some ((), (x11.2.1, (x7.2.1, (((none : Option Int), ()), ()))))))
  else none))))
def g_figures_take (d : Unit × ((ByteArray × Unit) × ((Int × Unit) × ((Int × Unit) × ((Int × Unit) × Unit))))) : Option (Unit × ((Int × Unit) × ((Int × Unit) × (((Option Int) × Unit) × Unit)))) := f_figures_take_m () d
theorem ok_figures_take : FnOk Tryz.prog ET0 222 pi_figures_take po_figures_take g_figures_take :=
  fn0 (E := ((E0.add 233 (typedSem pi_figures_run po_figures_run g_figures_run)).add 234 (typedSem pi_figures_value po_figures_value g_figures_value))) (envOk_add (envOk_add e0_ok (typed_ok ok_figures_run)) (typed_ok ok_figures_value)) (fn := Tryz.f222) Tryz.func222 (by kernel_rfl) (by kernel_rfl) [.tmp 8, .tmp 9, .tmp 10] (by kernel_rfl) rfl rfl rfl [] fun d => by kernel_rfl

@[reducible] def pi_figures_Take : PSh := ⟨[], [.mk false [vS], .mk false [vI], .mk false [vI]]⟩
@[reducible] def po_figures_Take : PSh := ⟨[], [.mk false [vI], .mk false [vI], .mk false [vE]]⟩
def f_figures_Take_m (T : Unit) (d : Unit × ((ByteArray × Unit) × ((Int × Unit) × ((Int × Unit) × Unit)))) : Option (Unit × ((Int × Unit) × ((Int × Unit) × (((Option Int) × Unit) × Unit)))) :=
  (g_figures_take ((), (d.2.1, (d.2.2.1, (d.2.2.2.1, (((9223372036854775807 : Int), ()), ())))))).bind fun x1 =>
  let x2 : Int := (iconv .i64 x1.2.1.1)
  some ((), ((x2, ()), x1.2.2))
def g_figures_Take (d : Unit × ((ByteArray × Unit) × ((Int × Unit) × ((Int × Unit) × Unit)))) : Option (Unit × ((Int × Unit) × ((Int × Unit) × (((Option Int) × Unit) × Unit)))) := f_figures_Take_m () d
theorem ok_figures_Take : FnOk Tryz.prog ET0 186 pi_figures_Take po_figures_Take g_figures_Take :=
  fn0 (E := (E0.add 222 (typedSem pi_figures_take po_figures_take g_figures_take))) (envOk_add e0_ok (typed_ok ok_figures_take)) (fn := Tryz.f186) Tryz.func186 (by kernel_rfl) (by kernel_rfl) [.tmp 6, .tmp 7, .tmp 8] (by kernel_rfl) rfl rfl rfl [] fun d => by kernel_rfl

@[reducible] def pi_figures_whole : PSh := ⟨[], [.mk false [vS], .mk false [vI], .mk false [vI], .mk false [.v (.int .u64)]]⟩
@[reducible] def po_figures_whole : PSh := ⟨[], [.mk false [.v (.int .u64)], .mk false [vE]]⟩
def f_figures_whole_m (T : Unit) (d : Unit × ((ByteArray × Unit) × ((Int × Unit) × ((Int × Unit) × ((Int × Unit) × Unit))))) : Option (Unit × ((Int × Unit) × (((Option Int) × Unit) × Unit))) :=
  (g_figures_take ((), d.2)).bind fun x1 =>
  let x2 : Bool := (!x1.2.2.2.1.1.isNone)
  bif x2 then (
  some ((), (((0 : Int), ()), x1.2.2.2)))
  else (
  let x3 : Int := (d.2.1.1.size : Int)
  let x4 : Bool := (decide (x1.2.2.1.1 < x3))
  bif x4 then (
  let x5 : (Option Int) := (some (2 : Int))
  some ((), (((0 : Int), ()), ((x5, ()), ()))))
  else (
  some ((), (x1.2.1, (((none : Option Int), ()), ())))))
def g_figures_whole (d : Unit × ((ByteArray × Unit) × ((Int × Unit) × ((Int × Unit) × ((Int × Unit) × Unit))))) : Option (Unit × ((Int × Unit) × (((Option Int) × Unit) × Unit))) := f_figures_whole_m () d
theorem ok_figures_whole : FnOk Tryz.prog ET0 223 pi_figures_whole po_figures_whole g_figures_whole :=
  fn0 (E := (E0.add 222 (typedSem pi_figures_take po_figures_take g_figures_take))) (envOk_add e0_ok (typed_ok ok_figures_take)) (fn := Tryz.f223) Tryz.func223 (by kernel_rfl) (by kernel_rfl) [.tmp 8, .tmp 9] (by kernel_rfl) rfl rfl rfl [] fun d => by kernel_rfl

@[reducible] def pi_figures_Whole : PSh := ⟨[], [.mk false [vS], .mk false [vI], .mk false [vI]]⟩
@[reducible] def po_figures_Whole : PSh := ⟨[], [.mk false [vI], .mk false [vE]]⟩
def f_figures_Whole_m (T : Unit) (d : Unit × ((ByteArray × Unit) × ((Int × Unit) × ((Int × Unit) × Unit)))) : Option (Unit × ((Int × Unit) × (((Option Int) × Unit) × Unit))) :=
  (g_figures_whole ((), (d.2.1, (d.2.2.1, (d.2.2.2.1, (((9223372036854775807 : Int), ()), ())))))).bind fun x1 =>
  let x2 : Int := (iconv .i64 x1.2.1.1)
  some ((), ((x2, ()), x1.2.2))
def g_figures_Whole (d : Unit × ((ByteArray × Unit) × ((Int × Unit) × ((Int × Unit) × Unit)))) : Option (Unit × ((Int × Unit) × (((Option Int) × Unit) × Unit))) := f_figures_Whole_m () d
theorem ok_figures_Whole : FnOk Tryz.prog ET0 188 pi_figures_Whole po_figures_Whole g_figures_Whole :=
  fn0 (E := (E0.add 223 (typedSem pi_figures_whole po_figures_whole g_figures_whole))) (envOk_add e0_ok (typed_ok ok_figures_whole)) (fn := Tryz.f188) Tryz.func188 (by kernel_rfl) (by kernel_rfl) [.tmp 6, .tmp 7] (by kernel_rfl) rfl rfl rfl [] fun d => by kernel_rfl

@[reducible] def pi_scan_Scanner_string_Peek : PSh := ⟨[], [.mk false [.v (.nptr (.pair .str (.pair (.int .i64) .err)))]]⟩
@[reducible] def po_scan_Scanner_string_Peek : PSh := ⟨[], [.mk false [v8], .mk false [vB]]⟩
def f_scan_Scanner_string_Peek_m (T : Unit) (d : Unit × (((Option (ByteArray × (Int × (Option Int)))) × Unit) × Unit)) : Option (Unit × ((Int × Unit) × ((Bool × Unit) × Unit))) :=
  (g_scan_Scanner_string_rest ((), d.2)).bind fun x1 =>
  let x2 : Bool := (x1.2.1.1.toList == (⟨#[]⟩ : ByteArray).toList)
  bif x2 then (
  some ((), (((0 : Int), ()), ((false, ()), ()))))
  else (
  bif decide ((0 : Int) ≤ (0 : Int)) && decide ((0 : Int) < ((x1.2.1.1.size : Int) : Int)) then (
  let x3 : Int := (bt x1.2.1.1 (0 : Int))
  some ((), ((x3, ()), ((true, ()), ()))))
  else none)
def g_scan_Scanner_string_Peek (d : Unit × (((Option (ByteArray × (Int × (Option Int)))) × Unit) × Unit)) : Option (Unit × ((Int × Unit) × ((Bool × Unit) × Unit))) := f_scan_Scanner_string_Peek_m () d
theorem ok_scan_Scanner_string_Peek : FnOk Tryz.prog ET0 189 pi_scan_Scanner_string_Peek po_scan_Scanner_string_Peek g_scan_Scanner_string_Peek :=
  fn0 (E := (E0.add 187 (typedSem pi_scan_Scanner_string_rest po_scan_Scanner_string_rest g_scan_Scanner_string_rest))) (envOk_add e0_ok (typed_ok ok_scan_Scanner_string_rest)) (fn := Tryz.f189) Tryz.func189 (by kernel_rfl) (by kernel_rfl) [.tmp 2, .tmp 3] (by kernel_rfl) rfl rfl rfl [] fun d => by kernel_rfl

@[reducible] def pi_mail_great : PSh := ⟨[], [.mk false [vS]]⟩
@[reducible] def po_mail_great : PSh := ⟨[], [.mk false [vS]]⟩
@[reducible] def TT_mail_great : Type := (((((List Int) × Unit) × (Unit × (Unit × ((Int × Unit) × ((Int × Unit) × Unit))))) → Option (Unit × ((ByteArray × Unit) × Unit))) × Unit)
@[reducible] def sh_mail_great_4 : PSh := ⟨[.row 5 (.int .u8)], [.any, .any, .any, .mk false [.osl 0], .any, .any, .any, .any, .mk false [.osl 0], .mk false [vI], .mk false [vI], .any, .any, .any, .any, .any, .any, .any, .any, .any, .any, .any, .any, .any, .any, .any, .any, .any, .any, .any]⟩
def f_mail_great_p4 (T : TT_mail_great) (d : ((List Int) × Unit) × (Unit × (Unit × ((Int × Unit) × ((Int × Unit) × Unit))))) : Option (Unit × ((ByteArray × Unit) × Unit)) :=
  let x3 : Bool := (decide (d.2.2.2.2.1.1 < d.2.2.2.1.1))
  bif x3 then (
  bif decide ((0 : Int) ≤ d.2.2.2.2.1.1) && decide (d.2.2.2.2.1.1 < (d.1.1.length : Int)) then (
  let x4 : Bool := (decide ((gd (.int .u8) d.1.1 d.2.2.2.2.1.1) ≥ (97 : Int)))
  bif x4 then (
  let x5 : Bool := (decide ((gd (.int .u8) d.1.1 d.2.2.2.2.1.1) ≤ (122 : Int)))
  bif x5 then (
  let x6 : Int := (isub .u8 (gd (.int .u8) d.1.1 d.2.2.2.2.1.1) (97 : Int))
  let x7 : Int := (iadd .u8 x6 (65 : Int))
  bif decide ((0 : Int) ≤ d.2.2.2.2.1.1) && decide (d.2.2.2.2.1.1 < (d.1.1.length : Int)) then (
  let x8 : (List Int) := (List.set d.1.1 (Int.toNat d.2.2.2.2.1.1) x7)
  let x9 : Int := (iadd .i64 d.2.2.2.2.1.1 (1 : Int))
  (T.1 ((x8, ()), ((), ((), (d.2.2.2.1, ((x9, ()), ())))))))
  else none)
  else (
  let x10 : Int := (iadd .i64 d.2.2.2.2.1.1 (1 : Int))
  (T.1 (d.1, ((), ((), (d.2.2.2.1, ((x10, ()), ()))))))))
  else (
  let x11 : Int := (iadd .i64 d.2.2.2.2.1.1 (1 : Int))
  (T.1 (d.1, ((), ((), (d.2.2.2.1, ((x11, ()), ()))))))))
  else none)
  else (
  let x12 : ByteArray := (strOf d.1.1)
  some ((), ((x12, ()), ())))
def f_mail_great_t : Nat → TT_mail_great
  | 0 => (fun _ => none, ())
  | k + 1 => (f_mail_great_p4 (f_mail_great_t k), ())
theorem t_mail_great (k : Nat) : f_mail_great_t (k + 1) = (f_mail_great_p4 (f_mail_great_t k), ()) := rfl
def f_mail_great_m (T : TT_mail_great) (d : Unit × ((ByteArray × Unit) × Unit)) : Option (Unit × ((ByteArray × Unit) × Unit)) :=
  bif decide ((d.2.1.1.size : Int) ≤ 9223372036854775807) then (
  let x1 : (List Int) := (bytesOf d.2.1.1)
  let x2 : Int := (x1.length : Int)
  (T.1 ((x1, ()), ((), ((), ((x2, ()), (((0 : Int), ()), ())))))))
  else none
def c_mail_great : List Nat := []
def L_mail_great (k : Nat) : Pts po_mail_great.den := [(4, ⟨sh_mail_great_4, (f_mail_great_t k).1⟩)]
def R_mail_great (_ : Nat) : PtsR po_mail_great.den := []
def E_mail_great : Env := E0
theorem q_mail_great_4 (k : Nat) (d : sh_mail_great_4.den) : evAt E_mail_great (tb (L_mail_great k) (R_mail_great k)) c_mail_great 4 (bodyOf Tryz.f190) 0 (finK E_mail_great po_mail_great [.tmp 2]) (ptSt sh_mail_great_4 d) = f_mail_great_p4 (f_mail_great_t k) d := by kernel_rfl
theorem q_mail_great_m (k : Nat) (d : pi_mail_great.den) : evCode E_mail_great (tb (L_mail_great k) (R_mail_great k)) c_mail_great (bodyOf Tryz.f190) 0 (finK E_mail_great po_mail_great [.tmp 2]) (startSt pi_mail_great 30 d) = f_mail_great_m (f_mail_great_t k) d := by kernel_rfl
def g_mail_great (d : Unit × ((ByteArray × Unit) × Unit)) : Option (Unit × ((ByteArray × Unit) × Unit)) := lim fun k => f_mail_great_m (f_mail_great_t k) d
theorem ok_mail_great : FnOk Tryz.prog ET0 190 pi_mail_great po_mail_great g_mail_great :=
  fn_of_body (E := E_mail_great) e0_ok (fn := Tryz.f190) Tryz.func190 (by kernel_rfl) (by kernel_rfl) [.tmp 2] (by kernel_rfl) (by kernel_rfl) (by decide) rfl c_mail_great L_mail_great R_mail_great
    (by intro x hx d; simp only [L_mail_great, List.mem_cons, List.not_mem_nil, or_false] at hx; subst hx; rfl)
    (by intro k x hx d out h; simp only [L_mail_great, List.mem_cons, List.not_mem_nil, or_false] at hx; subst hx; exact (q_mail_great_4 k d).trans h)
    (by intro x hx; cases hx)
    (by intro k x hx; cases hx)
    (by intro d out h; obtain ⟨k, hk⟩ := lim_some h; exact ⟨k, (q_mail_great_m k d).trans hk⟩)

@[reducible] def pi_mail_Zone : PSh := ⟨[], [.mk false [vS]]⟩
@[reducible] def po_mail_Zone : PSh := ⟨[], [.mk false [vI], .mk false [vB]]⟩
def f_mail_Zone_m (T : Unit) (d : Unit × ((ByteArray × Unit) × Unit)) : Option (Unit × ((Int × Unit) × ((Bool × Unit) × Unit))) :=
  (g_mail_great ((), d.2)).bind fun x1 =>
  let x2 : Bool := (x1.2.1.1.toList == (⟨#[85, 84]⟩ : ByteArray).toList)
  bif x2 then (
  some ((), (((0 : Int), ()), ((true, ()), ()))))
  else (
  let x3 : Bool := (x1.2.1.1.toList == (⟨#[71, 77, 84]⟩ : ByteArray).toList)
  bif x3 then (
  some ((), (((0 : Int), ()), ((true, ()), ()))))
  else (
  let x4 : Bool := (x1.2.1.1.toList == (⟨#[69, 83, 84]⟩ : ByteArray).toList)
  bif x4 then (
  some ((), (((-300 : Int), ()), ((true, ()), ()))))
  else (
  let x5 : Bool := (x1.2.1.1.toList == (⟨#[67, 68, 84]⟩ : ByteArray).toList)
  bif x5 then (
  some ((), (((-300 : Int), ()), ((true, ()), ()))))
  else (
  let x6 : Bool := (x1.2.1.1.toList == (⟨#[69, 68, 84]⟩ : ByteArray).toList)
  bif x6 then (
  some ((), (((-240 : Int), ()), ((true, ()), ()))))
  else (
  let x7 : Bool := (x1.2.1.1.toList == (⟨#[67, 83, 84]⟩ : ByteArray).toList)
  bif x7 then (
  some ((), (((-360 : Int), ()), ((true, ()), ()))))
  else (
  let x8 : Bool := (x1.2.1.1.toList == (⟨#[77, 68, 84]⟩ : ByteArray).toList)
  bif x8 then (
  some ((), (((-360 : Int), ()), ((true, ()), ()))))
  else (
  let x9 : Bool := (x1.2.1.1.toList == (⟨#[77, 83, 84]⟩ : ByteArray).toList)
  bif x9 then (
  some ((), (((-420 : Int), ()), ((true, ()), ()))))
  else (
  let x10 : Bool := (x1.2.1.1.toList == (⟨#[80, 68, 84]⟩ : ByteArray).toList)
  bif x10 then (
  some ((), (((-420 : Int), ()), ((true, ()), ()))))
  else (
  let x11 : Bool := (x1.2.1.1.toList == (⟨#[80, 83, 84]⟩ : ByteArray).toList)
  bif x11 then (
  some ((), (((-480 : Int), ()), ((true, ()), ()))))
  else (
  let x12 : Bool := (x1.2.1.1.toList == (⟨#[74]⟩ : ByteArray).toList)
  bif x12 then (
  some ((), (((0 : Int), ()), ((false, ()), ()))))
  else (
  let x13 : Int := (x1.2.1.1.size : Int)
  let x14 : Bool := (x13 == (1 : Int))
  bif x14 then (
  bif decide ((0 : Int) ≤ (0 : Int)) && decide ((0 : Int) < ((x1.2.1.1.size : Int) : Int)) then (
  let x15 : Int := (bt x1.2.1.1 (0 : Int))
  let x16 : Bool := (decide (x15 ≥ (65 : Int)))
  bif x16 then (
  bif decide ((0 : Int) ≤ (0 : Int)) && decide ((0 : Int) < ((x1.2.1.1.size : Int) : Int)) then (
  let x17 : Int := (bt x1.2.1.1 (0 : Int))
  let x18 : Bool := (decide (x17 ≤ (90 : Int)))
  some ((), (((0 : Int), ()), ((x18, ()), ()))))
  else none)
  else (
  some ((), (((0 : Int), ()), ((false, ()), ())))))
  else none)
  else (
  some ((), (((0 : Int), ()), ((false, ()), ())))))))))))))))
def g_mail_Zone (d : Unit × ((ByteArray × Unit) × Unit)) : Option (Unit × ((Int × Unit) × ((Bool × Unit) × Unit))) := f_mail_Zone_m () d
theorem ok_mail_Zone : FnOk Tryz.prog ET0 122 pi_mail_Zone po_mail_Zone g_mail_Zone :=
  fn0 (E := (E0.add 190 (typedSem pi_mail_great po_mail_great g_mail_great))) (envOk_add e0_ok (typed_ok ok_mail_great)) (fn := Tryz.f122) Tryz.func122 (by kernel_rfl) (by kernel_rfl) [.tmp 2, .tmp 3] (by kernel_rfl) rfl rfl rfl [] fun d => by kernel_rfl

@[reducible] def pi_scan_Scanner_string_End : PSh := ⟨[], [.mk false [.v (.nptr (.pair .str (.pair (.int .i64) .err)))]]⟩
@[reducible] def po_scan_Scanner_string_End : PSh := ⟨[], [.mk false [vE]]⟩
def f_scan_Scanner_string_End_m (T : Unit) (d : Unit × (((Option (ByteArray × (Int × (Option Int)))) × Unit) × Unit)) : Option (Unit × (((Option Int) × Unit) × Unit)) :=
  (g_scan_Scanner_string_Err ((), d.2)).bind fun x1 =>
  let x2 : Bool := (!x1.2.1.1.isNone)
  bif x2 then (
  some ((), x1.2))
  else (
  (g_scan_Scanner_string_Left ((), d.2)).bind fun x3 =>
  let x4 : Bool := (decide (x3.2.1.1 > (0 : Int)))
  bif x4 then (
  let x5 : (Option Int) := (some (2 : Int))
  some ((), ((x5, ()), ())))
  else (
  some ((), (((none : Option Int), ()), ()))))
def g_scan_Scanner_string_End (d : Unit × (((Option (ByteArray × (Int × (Option Int)))) × Unit) × Unit)) : Option (Unit × (((Option Int) × Unit) × Unit)) := f_scan_Scanner_string_End_m () d
theorem ok_scan_Scanner_string_End : FnOk Tryz.prog ET0 50 pi_scan_Scanner_string_End po_scan_Scanner_string_End g_scan_Scanner_string_End :=
  fn0 (E := ((E0.add 112 (typedSem pi_scan_Scanner_string_Err po_scan_Scanner_string_Err g_scan_Scanner_string_Err)).add 124 (typedSem pi_scan_Scanner_string_Left po_scan_Scanner_string_Left g_scan_Scanner_string_Left))) (envOk_add (envOk_add e0_ok (typed_ok ok_scan_Scanner_string_Err)) (typed_ok ok_scan_Scanner_string_Left)) (fn := Tryz.f50) Tryz.func50 (by kernel_rfl) (by kernel_rfl) [.tmp 2] (by kernel_rfl) rfl rfl rfl [] fun d => by kernel_rfl

@[reducible] def pi_num_Div : PSh := ⟨[], [.mk false [vI], .mk false [vI]]⟩
@[reducible] def po_num_Div : PSh := ⟨[], [.mk false [vI], .mk false [vE]]⟩
def f_num_Div_m (T : Unit) (d : Unit × ((Int × Unit) × ((Int × Unit) × Unit))) : Option (Unit × ((Int × Unit) × (((Option Int) × Unit) × Unit))) :=
  let x1 : Bool := (d.2.2.1.1 == (0 : Int))
  bif x1 then (
  let x2 : (Option Int) := (some (1 : Int))
  some ((), (((0 : Int), ()), ((x2, ()), ()))))
  else (
  let x3 : Bool := (d.2.1.1 == (-9223372036854775808 : Int))
  bif x3 then (
  let x4 : Bool := (d.2.2.1.1 == (-1 : Int))
  bif x4 then (
  let x5 : (Option Int) := (some (5 : Int))
  some ((), (((0 : Int), ()), ((x5, ()), ()))))
  else (
  bif (d.2.2.1.1 == 0) then (
  none)
  else (
  let x6 : Int := (iquo .i64 d.2.1.1 d.2.2.1.1)
  bif (d.2.2.1.1 == 0) then (
  none)
  else (
  let x7 : Int := (Int.tmod d.2.1.1 d.2.2.1.1)
  let x8 : Bool := (x7 != (0 : Int))
  bif x8 then (
  let x9 : Bool := (decide (d.2.1.1 < (0 : Int)))
  let x10 : Bool := (decide (d.2.2.1.1 < (0 : Int)))
  let x11 : Bool := (!(x9 == x10))
  bif x11 then (
  let x12 : Int := (isub .i64 x6 (1 : Int))
  some ((), ((x12, ()), (((none : Option Int), ()), ()))))
  else (
  some ((), ((x6, ()), (((none : Option Int), ()), ())))))
  else (
  some ((), ((x6, ()), (((none : Option Int), ()), ()))))))))
  else (
  bif (d.2.2.1.1 == 0) then (
  none)
  else (
  let x13 : Int := (iquo .i64 d.2.1.1 d.2.2.1.1)
  bif (d.2.2.1.1 == 0) then (
  none)
  else (
  let x14 : Int := (Int.tmod d.2.1.1 d.2.2.1.1)
  let x15 : Bool := (x14 != (0 : Int))
  bif x15 then (
  let x16 : Bool := (decide (d.2.1.1 < (0 : Int)))
  let x17 : Bool := (decide (d.2.2.1.1 < (0 : Int)))
  let x18 : Bool := (!(x16 == x17))
  bif x18 then (
  let x19 : Int := (isub .i64 x13 (1 : Int))
  some ((), ((x19, ()), (((none : Option Int), ()), ()))))
  else (
  some ((), ((x13, ()), (((none : Option Int), ()), ())))))
  else (
  some ((), ((x13, ()), (((none : Option Int), ()), ()))))))))
def g_num_Div (d : Unit × ((Int × Unit) × ((Int × Unit) × Unit))) : Option (Unit × ((Int × Unit) × (((Option Int) × Unit) × Unit))) := f_num_Div_m () d
theorem ok_num_Div : FnOk Tryz.prog ET0 173 pi_num_Div po_num_Div g_num_Div :=
  fn0 (E := E0) e0_ok (fn := Tryz.f173) Tryz.func173 (by kernel_rfl) (by kernel_rfl) [.tmp 4, .tmp 5] (by kernel_rfl) rfl rfl rfl [] fun d => by kernel_rfl

@[reducible] def pi_num_Mod : PSh := ⟨[], [.mk false [vI], .mk false [vI]]⟩
@[reducible] def po_num_Mod : PSh := ⟨[], [.mk false [vI], .mk false [vE]]⟩
def f_num_Mod_m (T : Unit) (d : Unit × ((Int × Unit) × ((Int × Unit) × Unit))) : Option (Unit × ((Int × Unit) × (((Option Int) × Unit) × Unit))) :=
  let x1 : Bool := (d.2.2.1.1 == (0 : Int))
  bif x1 then (
  let x2 : (Option Int) := (some (1 : Int))
  some ((), (((0 : Int), ()), ((x2, ()), ()))))
  else (
  let x3 : Bool := (d.2.2.1.1 == (-1 : Int))
  bif x3 then (
  some ((), (((0 : Int), ()), (((none : Option Int), ()), ()))))
  else (
  bif (d.2.2.1.1 == 0) then (
  none)
  else (
  let x4 : Int := (Int.tmod d.2.1.1 d.2.2.1.1)
  let x5 : Bool := (x4 != (0 : Int))
  bif x5 then (
  let x6 : Bool := (decide (x4 < (0 : Int)))
  let x7 : Bool := (decide (d.2.2.1.1 < (0 : Int)))
  let x8 : Bool := (!(x6 == x7))
  bif x8 then (
  let x9 : Int := (iadd .i64 x4 d.2.2.1.1)
  some ((), ((x9, ()), (((none : Option Int), ()), ()))))
  else (
  some ((), ((x4, ()), (((none : Option Int), ()), ())))))
  else (
  some ((), ((x4, ()), (((none : Option Int), ()), ())))))))
def g_num_Mod (d : Unit × ((Int × Unit) × ((Int × Unit) × Unit))) : Option (Unit × ((Int × Unit) × (((Option Int) × Unit) × Unit))) := f_num_Mod_m () d
theorem ok_num_Mod : FnOk Tryz.prog ET0 174 pi_num_Mod po_num_Mod g_num_Mod :=
  fn0 (E := E0) e0_ok (fn := Tryz.f174) Tryz.func174 (by kernel_rfl) (by kernel_rfl) [.tmp 4, .tmp 5] (by kernel_rfl) rfl rfl rfl [] fun d => by kernel_rfl

@[reducible] def pi_num_Split : PSh := ⟨[], [.mk false [vI], .mk false [vI]]⟩
@[reducible] def po_num_Split : PSh := ⟨[], [.mk false [vI], .mk false [vI], .mk false [vE]]⟩
def f_num_Split_m (T : Unit) (d : Unit × ((Int × Unit) × ((Int × Unit) × Unit))) : Option (Unit × ((Int × Unit) × ((Int × Unit) × (((Option Int) × Unit) × Unit)))) :=
  let x1 : Bool := (decide (d.2.2.1.1 < (1 : Int)))
  bif x1 then (
  let x2 : (Option Int) := (some (1 : Int))
  some ((), (((0 : Int), ()), (((0 : Int), ()), ((x2, ()), ())))))
  else (
  (g_num_Div ((), d.2)).bind fun x3 =>
  let x4 : Bool := (!x3.2.2.1.1.isNone)
  bif x4 then (
  some ((), (((0 : Int), ()), (((0 : Int), ()), x3.2.2))))
  else (
  (g_num_Mod ((), d.2)).bind fun x5 =>
  let x6 : Bool := (!x5.2.2.1.1.isNone)
  bif x6 then (
  some ((), (((0 : Int), ()), (((0 : Int), ()), x5.2.2))))
  else (
  some ((), (x3.2.1, (x5.2.1, (((none : Option Int), ()), ())))))))
def g_num_Split (d : Unit × ((Int × Unit) × ((Int × Unit) × Unit))) : Option (Unit × ((Int × Unit) × ((Int × Unit) × (((Option Int) × Unit) × Unit)))) := f_num_Split_m () d
theorem ok_num_Split : FnOk Tryz.prog ET0 100 pi_num_Split po_num_Split g_num_Split :=
  fn0 (E := ((E0.add 173 (typedSem pi_num_Div po_num_Div g_num_Div)).add 174 (typedSem pi_num_Mod po_num_Mod g_num_Mod))) (envOk_add (envOk_add e0_ok (typed_ok ok_num_Div)) (typed_ok ok_num_Mod)) (fn := Tryz.f100) Tryz.func100 (by kernel_rfl) (by kernel_rfl) [.tmp 4, .tmp 5, .tmp 6] (by kernel_rfl) rfl rfl rfl [] fun d => by kernel_rfl

@[reducible] def pi_day_right : PSh := ⟨[], [.mk false [vI]]⟩
@[reducible] def po_day_right : PSh := ⟨[], [.mk false [vB]]⟩
def f_day_right_m (T : Unit) (d : Unit × ((Int × Unit) × Unit)) : Option (Unit × ((Bool × Unit) × Unit)) :=
  let x1 : Bool := (decide (d.2.1.1 ≥ (-9999 : Int)))
  bif x1 then (
  let x2 : Bool := (decide (d.2.1.1 ≤ (9999 : Int)))
  some ((), ((x2, ()), ())))
  else (
  some ((), ((false, ()), ())))
def g_day_right (d : Unit × ((Int × Unit) × Unit)) : Option (Unit × ((Bool × Unit) × Unit)) := f_day_right_m () d
theorem ok_day_right : FnOk Tryz.prog ET0 235 pi_day_right po_day_right g_day_right :=
  fn0 (E := E0) e0_ok (fn := Tryz.f235) Tryz.func235 (by kernel_rfl) (by kernel_rfl) [.tmp 2] (by kernel_rfl) rfl rfl rfl [] fun d => by kernel_rfl

@[reducible] def pi_day_Leap : PSh := ⟨[], [.mk false [vI]]⟩
@[reducible] def po_day_Leap : PSh := ⟨[], [.mk false [vB]]⟩
def f_day_Leap_m (T : Unit) (d : Unit × ((Int × Unit) × Unit)) : Option (Unit × ((Bool × Unit) × Unit)) :=
  let x1 : Int := (Int.tmod d.2.1.1 (4 : Int))
  let x2 : Bool := (x1 == (0 : Int))
  bif x2 then (
  let x3 : Int := (Int.tmod d.2.1.1 (100 : Int))
  let x4 : Bool := (x3 != (0 : Int))
  bif x4 then (
  some ((), ((true, ()), ())))
  else (
  let x5 : Int := (Int.tmod d.2.1.1 (400 : Int))
  let x6 : Bool := (x5 == (0 : Int))
  some ((), ((x6, ()), ()))))
  else (
  some ((), ((false, ()), ())))
def g_day_Leap (d : Unit × ((Int × Unit) × Unit)) : Option (Unit × ((Bool × Unit) × Unit)) := f_day_Leap_m () d
theorem ok_day_Leap : FnOk Tryz.prog ET0 236 pi_day_Leap po_day_Leap g_day_Leap :=
  fn0 (E := E0) e0_ok (fn := Tryz.f236) Tryz.func236 (by kernel_rfl) (by kernel_rfl) [.tmp 2] (by kernel_rfl) rfl rfl rfl [] fun d => by kernel_rfl

@[reducible] def pi_day_Month : PSh := ⟨[], [.mk false [vI], .mk false [vI]]⟩
@[reducible] def po_day_Month : PSh := ⟨[], [.mk false [vI], .mk false [vE]]⟩
def f_day_Month_m (T : Unit) (d : Unit × ((Int × Unit) × ((Int × Unit) × Unit))) : Option (Unit × ((Int × Unit) × (((Option Int) × Unit) × Unit))) :=
  (g_day_right ((), (d.2.1, ()))).bind fun x1 =>
  let x2 : Bool := (!x1.2.1.1)
  bif x2 then (
  let x3 : (Option Int) := (some (13 : Int))
  some ((), (((0 : Int), ()), ((x3, ()), ()))))
  else (
  let x4 : Bool := (decide (d.2.2.1.1 < (1 : Int)))
  bif x4 then (
  let x5 : (Option Int) := (some (1 : Int))
  some ((), (((0 : Int), ()), ((x5, ()), ()))))
  else (
  let x6 : Bool := (decide (d.2.2.1.1 > (12 : Int)))
  bif x6 then (
  let x7 : (Option Int) := (some (1 : Int))
  some ((), (((0 : Int), ()), ((x7, ()), ()))))
  else (
  let x8 : Bool := (d.2.2.1.1 == (2 : Int))
  bif x8 then (
  (g_day_Leap ((), (d.2.1, ()))).bind fun x9 =>
  bif x9.2.1.1 then (
  some ((), (((29 : Int), ()), (((none : Option Int), ()), ()))))
  else (
  let x10 : Bool := (d.2.2.1.1 == (2 : Int))
  bif x10 then (
  some ((), (((28 : Int), ()), (((none : Option Int), ()), ()))))
  else (
  let x11 : Int := (iquo .i64 d.2.2.1.1 (8 : Int))
  let x12 : Int := (iadd .i64 d.2.2.1.1 x11)
  let x13 : Int := (Int.tmod x12 (2 : Int))
  let x14 : Int := (iadd .i64 (30 : Int) x13)
  some ((), ((x14, ()), (((none : Option Int), ()), ()))))))
  else (
  let x15 : Bool := (d.2.2.1.1 == (2 : Int))
  bif x15 then (
  some ((), (((28 : Int), ()), (((none : Option Int), ()), ()))))
  else (
  let x16 : Int := (iquo .i64 d.2.2.1.1 (8 : Int))
  let x17 : Int := (iadd .i64 d.2.2.1.1 x16)
  let x18 : Int := (Int.tmod x17 (2 : Int))
  let x19 : Int := (iadd .i64 (30 : Int) x18)
  some ((), ((x19, ()), (((none : Option Int), ()), ()))))))))
def g_day_Month (d : Unit × ((Int × Unit) × ((Int × Unit) × Unit))) : Option (Unit × ((Int × Unit) × (((Option Int) × Unit) × Unit))) := f_day_Month_m () d
theorem ok_day_Month : FnOk Tryz.prog ET0 224 pi_day_Month po_day_Month g_day_Month :=
  fn0 (E := ((E0.add 235 (typedSem pi_day_right po_day_right g_day_right)).add 236 (typedSem pi_day_Leap po_day_Leap g_day_Leap))) (envOk_add (envOk_add e0_ok (typed_ok ok_day_right)) (typed_ok ok_day_Leap)) (fn := Tryz.f224) Tryz.func224 (by kernel_rfl) (by kernel_rfl) [.tmp 4, .tmp 5] (by kernel_rfl) rfl rfl rfl [] fun d => by kernel_rfl

@[reducible] def pi_day_check : PSh := ⟨[], [.mk false [vI], .mk false [vI], .mk false [vI]]⟩
@[reducible] def po_day_check : PSh := ⟨[], [.mk false [vE]]⟩
def f_day_check_m (T : Unit) (d : Unit × ((Int × Unit) × ((Int × Unit) × ((Int × Unit) × Unit)))) : Option (Unit × (((Option Int) × Unit) × Unit)) :=
  (g_day_Month ((), (d.2.1, (d.2.2.1, ())))).bind fun x1 =>
  let x2 : Bool := (!x1.2.2.1.1.isNone)
  bif x2 then (
  some ((), x1.2.2))
  else (
  let x3 : Bool := (decide (d.2.2.2.1.1 < (1 : Int)))
  bif x3 then (
  let x4 : (Option Int) := (some (1 : Int))
  some ((), ((x4, ()), ())))
  else (
  let x5 : Bool := (decide (d.2.2.2.1.1 > x1.2.1.1))
  bif x5 then (
  let x6 : (Option Int) := (some (1 : Int))
  some ((), ((x6, ()), ())))
  else (
  some ((), (((none : Option Int), ()), ())))))
def g_day_check (d : Unit × ((Int × Unit) × ((Int × Unit) × ((Int × Unit) × Unit)))) : Option (Unit × (((Option Int) × Unit) × Unit)) := f_day_check_m () d
theorem ok_day_check : FnOk Tryz.prog ET0 191 pi_day_check po_day_check g_day_check :=
  fn0 (E := (E0.add 224 (typedSem pi_day_Month po_day_Month g_day_Month))) (envOk_add e0_ok (typed_ok ok_day_Month)) (fn := Tryz.f191) Tryz.func191 (by kernel_rfl) (by kernel_rfl) [.tmp 6] (by kernel_rfl) rfl rfl rfl [] fun d => by kernel_rfl

@[reducible] def pi_day_floor : PSh := ⟨[], [.mk false [vI], .mk false [vI]]⟩
@[reducible] def po_day_floor : PSh := ⟨[], [.mk false [vI]]⟩
def f_day_floor_m (T : Unit) (d : Unit × ((Int × Unit) × ((Int × Unit) × Unit))) : Option (Unit × ((Int × Unit) × Unit)) :=
  bif (d.2.2.1.1 == 0) then (
  none)
  else (
  let x1 : Int := (iquo .i64 d.2.1.1 d.2.2.1.1)
  bif (d.2.2.1.1 == 0) then (
  none)
  else (
  let x2 : Int := (Int.tmod d.2.1.1 d.2.2.1.1)
  let x3 : Bool := (decide (x2 < (0 : Int)))
  bif x3 then (
  let x4 : Int := (isub .i64 x1 (1 : Int))
  some ((), ((x4, ()), ())))
  else (
  some ((), ((x1, ()), ())))))
def g_day_floor (d : Unit × ((Int × Unit) × ((Int × Unit) × Unit))) : Option (Unit × ((Int × Unit) × Unit)) := f_day_floor_m () d
theorem ok_day_floor : FnOk Tryz.prog ET0 162 pi_day_floor po_day_floor g_day_floor :=
  fn0 (E := E0) e0_ok (fn := Tryz.f162) Tryz.func162 (by kernel_rfl) (by kernel_rfl) [.tmp 4] (by kernel_rfl) rfl rfl rfl [] fun d => by kernel_rfl

@[reducible] def pi_day_number : PSh := ⟨[], [.mk false [vI], .mk false [vI], .mk false [vI]]⟩
@[reducible] def po_day_number : PSh := ⟨[], [.mk false [vI]]⟩
def f_day_number_m (T : Unit) (d : Unit × ((Int × Unit) × ((Int × Unit) × ((Int × Unit) × Unit)))) : Option (Unit × ((Int × Unit) × Unit)) :=
  let x1 : Bool := (decide (d.2.2.1.1 ≤ (2 : Int)))
  bif x1 then (
  let x2 : Int := (isub .i64 d.2.1.1 (1 : Int))
  let x3 : Int := (iadd .i64 d.2.2.1.1 (12 : Int))
  (g_day_floor ((), ((x2, ()), (((400 : Int), ()), ())))).bind fun x4 =>
  let x5 : Int := (imul .i64 x4.2.1.1 (400 : Int))
  let x6 : Int := (isub .i64 x2 x5)
  let x7 : Int := (isub .i64 x3 (3 : Int))
  let x8 : Int := (imul .i64 (153 : Int) x7)
  let x9 : Int := (iadd .i64 x8 (2 : Int))
  let x10 : Int := (iquo .i64 x9 (5 : Int))
  let x11 : Int := (iadd .i64 x10 d.2.2.2.1.1)
  let x12 : Int := (isub .i64 x11 (1 : Int))
  let x13 : Int := (imul .i64 x4.2.1.1 (146097 : Int))
  let x14 : Int := (imul .i64 x6 (365 : Int))
  let x15 : Int := (iadd .i64 x13 x14)
  let x16 : Int := (iquo .i64 x6 (4 : Int))
  let x17 : Int := (iadd .i64 x15 x16)
  let x18 : Int := (iquo .i64 x6 (100 : Int))
  let x19 : Int := (isub .i64 x17 x18)
  let x20 : Int := (iadd .i64 x19 x12)
  let x21 : Int := (isub .i64 x20 (719468 : Int))
  some ((), ((x21, ()), ())))
  else (
  (g_day_floor ((), (d.2.1, (((400 : Int), ()), ())))).bind fun x22 =>
  let x23 : Int := (imul .i64 x22.2.1.1 (400 : Int))
  let x24 : Int := (isub .i64 d.2.1.1 x23)
  let x25 : Int := (isub .i64 d.2.2.1.1 (3 : Int))
  let x26 : Int := (imul .i64 (153 : Int) x25)
  let x27 : Int := (iadd .i64 x26 (2 : Int))
  let x28 : Int := (iquo .i64 x27 (5 : Int))
  let x29 : Int := (iadd .i64 x28 d.2.2.2.1.1)
  let x30 : Int := (isub .i64 x29 (1 : Int))
  let x31 : Int := (imul .i64 x22.2.1.1 (146097 : Int))
  let x32 : Int := (imul .i64 x24 (365 : Int))
  let x33 : Int := (iadd .i64 x31 x32)
  let x34 : Int := (iquo .i64 x24 (4 : Int))
  let x35 : Int := (iadd .i64 x33 x34)
  let x36 : Int := (iquo .i64 x24 (100 : Int))
  let x37 : Int := (isub .i64 x35 x36)
  let x38 : Int := (iadd .i64 x37 x30)
  let x39 : Int := (isub .i64 x38 (719468 : Int))
  some ((), ((x39, ()), ())))
def g_day_number (d : Unit × ((Int × Unit) × ((Int × Unit) × ((Int × Unit) × Unit)))) : Option (Unit × ((Int × Unit) × Unit)) := f_day_number_m () d
theorem ok_day_number : FnOk Tryz.prog ET0 192 pi_day_number po_day_number g_day_number :=
  fn0 (E := (E0.add 162 (typedSem pi_day_floor po_day_floor g_day_floor))) (envOk_add e0_ok (typed_ok ok_day_floor)) (fn := Tryz.f192) Tryz.func192 (by kernel_rfl) (by kernel_rfl) [.tmp 6] (by kernel_rfl) rfl rfl rfl [] fun d => by kernel_rfl

@[reducible] def pi_day_Of : PSh := ⟨[], [.mk false [vI], .mk false [vI], .mk false [vI]]⟩
@[reducible] def po_day_Of : PSh := ⟨[], [.mk false [vI], .mk false [vE]]⟩
def f_day_Of_m (T : Unit) (d : Unit × ((Int × Unit) × ((Int × Unit) × ((Int × Unit) × Unit)))) : Option (Unit × ((Int × Unit) × (((Option Int) × Unit) × Unit))) :=
  (g_day_check ((), d.2)).bind fun x1 =>
  let x2 : Bool := (!x1.2.1.1.isNone)
  bif x2 then (
  some ((), (((0 : Int), ()), x1.2)))
  else (
  (g_day_number ((), d.2)).bind fun x3 =>
  some ((), (x3.2.1, (((none : Option Int), ()), ()))))
def g_day_Of (d : Unit × ((Int × Unit) × ((Int × Unit) × ((Int × Unit) × Unit)))) : Option (Unit × ((Int × Unit) × (((Option Int) × Unit) × Unit))) := f_day_Of_m () d
theorem ok_day_Of : FnOk Tryz.prog ET0 127 pi_day_Of po_day_Of g_day_Of :=
  fn0 (E := ((E0.add 191 (typedSem pi_day_check po_day_check g_day_check)).add 192 (typedSem pi_day_number po_day_number g_day_number))) (envOk_add (envOk_add e0_ok (typed_ok ok_day_check)) (typed_ok ok_day_number)) (fn := Tryz.f127) Tryz.func127 (by kernel_rfl) (by kernel_rfl) [.tmp 6, .tmp 7] (by kernel_rfl) rfl rfl rfl [] fun d => by kernel_rfl

@[reducible] def pi_label_Label_place : PSh := ⟨[], [.mk true [vI, vI, vI, vI, vI, vI, vI, vI]]⟩
@[reducible] def po_label_Label_place : PSh := ⟨[], [.mk false [vI], .mk false [vI], .mk false [vE]]⟩
def f_label_Label_place_m (T : Unit) (d : Unit × ((Int × (Int × (Int × (Int × (Int × (Int × (Int × (Int × Unit)))))))) × Unit)) : Option (Unit × ((Int × Unit) × ((Int × Unit) × (((Option Int) × Unit) × Unit)))) :=
  (g_day_Of ((), ((d.2.1.1, ()), ((d.2.1.2.1, ()), ((d.2.1.2.2.1, ()), ()))))).bind fun x1 =>
  let x2 : Bool := (!x1.2.2.1.1.isNone)
  bif x2 then (
  some ((), (((0 : Int), ()), (((0 : Int), ()), x1.2.2))))
  else (
  let x3 : Int := (imul .i64 d.2.1.2.2.2.1 (60 : Int))
  let x4 : Int := (iadd .i64 x3 d.2.1.2.2.2.2.1)
  let x5 : Int := (isub .i64 x4 d.2.1.2.2.2.2.2.2.2.1)
  (g_num_Split ((), ((x5, ()), (((1440 : Int), ()), ())))).bind fun x6 =>
  let x7 : Bool := (!x6.2.2.2.1.1.isNone)
  bif x7 then (
  some ((), (((0 : Int), ()), (((0 : Int), ()), x6.2.2.2))))
  else (
  let x8 : Int := (iadd .i64 x1.2.1.1 x6.2.1.1)
  some ((), ((x8, ()), (x6.2.2.1, (((none : Option Int), ()), ()))))))
def g_label_Label_place (d : Unit × ((Int × (Int × (Int × (Int × (Int × (Int × (Int × (Int × Unit)))))))) × Unit)) : Option (Unit × ((Int × Unit) × ((Int × Unit) × (((Option Int) × Unit) × Unit)))) := f_label_Label_place_m () d
theorem ok_label_Label_place : FnOk Tryz.prog ET0 84 pi_label_Label_place po_label_Label_place g_label_Label_place :=
  fn0 (E := ((E0.add 100 (typedSem pi_num_Split po_num_Split g_num_Split)).add 127 (typedSem pi_day_Of po_day_Of g_day_Of))) (envOk_add (envOk_add e0_ok (typed_ok ok_num_Split)) (typed_ok ok_day_Of)) (fn := Tryz.f84) Tryz.func84 (by kernel_rfl) (by kernel_rfl) [.tmp 2, .tmp 3, .tmp 4] (by kernel_rfl) rfl rfl rfl [] fun d => by kernel_rfl

@[reducible] def pi_label_in : PSh := ⟨[], [.mk false [vI], .mk false [vI]]⟩
@[reducible] def po_label_in : PSh := ⟨[], [.mk false [vB]]⟩
def f_label_in_m (T : Unit) (d : Unit × ((Int × Unit) × ((Int × Unit) × Unit))) : Option (Unit × ((Bool × Unit) × Unit)) :=
  let x1 : Bool := (decide (d.2.1.1 ≥ (0 : Int)))
  bif x1 then (
  let x2 : Bool := (decide (d.2.1.1 < d.2.2.1.1))
  some ((), ((x2, ()), ())))
  else (
  some ((), ((false, ()), ())))
def g_label_in (d : Unit × ((Int × Unit) × ((Int × Unit) × Unit))) : Option (Unit × ((Bool × Unit) × Unit)) := f_label_in_m () d
theorem ok_label_in : FnOk Tryz.prog ET0 163 pi_label_in po_label_in g_label_in :=
  fn0 (E := E0) e0_ok (fn := Tryz.f163) Tryz.func163 (by kernel_rfl) (by kernel_rfl) [.tmp 4] (by kernel_rfl) rfl rfl rfl [] fun d => by kernel_rfl

@[reducible] def pi_label_shifts : PSh := ⟨[], [.mk false [vI]]⟩
@[reducible] def po_label_shifts : PSh := ⟨[], [.mk false [vB]]⟩
def f_label_shifts_m (T : Unit) (d : Unit × ((Int × Unit) × Unit)) : Option (Unit × ((Bool × Unit) × Unit)) :=
  let x1 : Bool := (decide (d.2.1.1 > (-1440 : Int)))
  bif x1 then (
  let x2 : Bool := (decide (d.2.1.1 < (1440 : Int)))
  some ((), ((x2, ()), ())))
  else (
  some ((), ((false, ()), ())))
def g_label_shifts (d : Unit × ((Int × Unit) × Unit)) : Option (Unit × ((Bool × Unit) × Unit)) := f_label_shifts_m () d
theorem ok_label_shifts : FnOk Tryz.prog ET0 166 pi_label_shifts po_label_shifts g_label_shifts :=
  fn0 (E := E0) e0_ok (fn := Tryz.f166) Tryz.func166 (by kernel_rfl) (by kernel_rfl) [.tmp 2] (by kernel_rfl) rfl rfl rfl [] fun d => by kernel_rfl

@[reducible] def pi_label_Label_fields : PSh := ⟨[], [.mk true [vI, vI, vI, vI, vI, vI, vI, vI]]⟩
@[reducible] def po_label_Label_fields : PSh := ⟨[], [.mk false [vE]]⟩
def f_label_Label_fields_m (T : Unit) (d : Unit × ((Int × (Int × (Int × (Int × (Int × (Int × (Int × (Int × Unit)))))))) × Unit)) : Option (Unit × (((Option Int) × Unit) × Unit)) :=
  (g_day_Of ((), ((d.2.1.1, ()), ((d.2.1.2.1, ()), ((d.2.1.2.2.1, ()), ()))))).bind fun x1 =>
  let x2 : Bool := (!x1.2.2.1.1.isNone)
  bif x2 then (
  some ((), x1.2.2))
  else (
  (g_label_in ((), ((d.2.1.2.2.2.1, ()), (((24 : Int), ()), ())))).bind fun x3 =>
  let x4 : Bool := (!x3.2.1.1)
  bif x4 then (
  let x5 : (Option Int) := (some (1 : Int))
  some ((), ((x5, ()), ())))
  else (
  (g_label_in ((), ((d.2.1.2.2.2.2.1, ()), (((60 : Int), ()), ())))).bind fun x6 =>
  let x7 : Bool := (!x6.2.1.1)
  bif x7 then (
  let x8 : (Option Int) := (some (1 : Int))
  some ((), ((x8, ()), ())))
  else (
  (g_label_in ((), ((d.2.1.2.2.2.2.2.1, ()), (((61 : Int), ()), ())))).bind fun x9 =>
  let x10 : Bool := (!x9.2.1.1)
  bif x10 then (
  let x11 : (Option Int) := (some (1 : Int))
  some ((), ((x11, ()), ())))
  else (
  (g_label_in ((), ((d.2.1.2.2.2.2.2.2.1, ()), (((1000000000 : Int), ()), ())))).bind fun x12 =>
  let x13 : Bool := (!x12.2.1.1)
  bif x13 then (
  let x14 : (Option Int) := (some (1 : Int))
  some ((), ((x14, ()), ())))
  else (
  (g_label_shifts ((), (d.2.1.2.2.2.2.2.2.2, ()))).bind fun x15 =>
  let x16 : Bool := (!x15.2.1.1)
  bif x16 then (
  let x17 : (Option Int) := (some (1 : Int))
  some ((), ((x17, ()), ())))
  else (
  some ((), (((none : Option Int), ()), ()))))))))
def g_label_Label_fields (d : Unit × ((Int × (Int × (Int × (Int × (Int × (Int × (Int × (Int × Unit)))))))) × Unit)) : Option (Unit × (((Option Int) × Unit) × Unit)) := f_label_Label_fields_m () d
theorem ok_label_Label_fields : FnOk Tryz.prog ET0 125 pi_label_Label_fields po_label_Label_fields g_label_Label_fields :=
  fn0 (E := (((E0.add 127 (typedSem pi_day_Of po_day_Of g_day_Of)).add 163 (typedSem pi_label_in po_label_in g_label_in)).add 166 (typedSem pi_label_shifts po_label_shifts g_label_shifts))) (envOk_add (envOk_add (envOk_add e0_ok (typed_ok ok_day_Of)) (typed_ok ok_label_in)) (typed_ok ok_label_shifts)) (fn := Tryz.f125) Tryz.func125 (by kernel_rfl) (by kernel_rfl) [.tmp 2] (by kernel_rfl) rfl rfl rfl [] fun d => by kernel_rfl

@[reducible] def pi_day_First : PSh := ⟨[], []⟩
@[reducible] def po_day_First : PSh := ⟨[], [.mk false [vI]]⟩
def f_day_First_m (T : Unit) (d : Unit × Unit) : Option (Unit × ((Int × Unit) × Unit)) :=
  (g_day_number ((), (((-9999 : Int), ()), (((1 : Int), ()), (((1 : Int), ()), ()))))).bind fun x1 =>
  some ((), x1.2)
def g_day_First (d : Unit × Unit) : Option (Unit × ((Int × Unit) × Unit)) := f_day_First_m () d
theorem ok_day_First : FnOk Tryz.prog ET0 160 pi_day_First po_day_First g_day_First :=
  fn0 (E := (E0.add 192 (typedSem pi_day_number po_day_number g_day_number))) (envOk_add e0_ok (typed_ok ok_day_number)) (fn := Tryz.f160) Tryz.func160 (by kernel_rfl) (by kernel_rfl) [.tmp 0] (by kernel_rfl) rfl rfl rfl [] fun d => by kernel_rfl

@[reducible] def pi_day_Last : PSh := ⟨[], []⟩
@[reducible] def po_day_Last : PSh := ⟨[], [.mk false [vI]]⟩
def f_day_Last_m (T : Unit) (d : Unit × Unit) : Option (Unit × ((Int × Unit) × Unit)) :=
  (g_day_number ((), (((9999 : Int), ()), (((12 : Int), ()), (((31 : Int), ()), ()))))).bind fun x1 =>
  some ((), x1.2)
def g_day_Last (d : Unit × Unit) : Option (Unit × ((Int × Unit) × Unit)) := f_day_Last_m () d
theorem ok_day_Last : FnOk Tryz.prog ET0 161 pi_day_Last po_day_Last g_day_Last :=
  fn0 (E := (E0.add 192 (typedSem pi_day_number po_day_number g_day_number))) (envOk_add e0_ok (typed_ok ok_day_number)) (fn := Tryz.f161) Tryz.func161 (by kernel_rfl) (by kernel_rfl) [.tmp 0] (by kernel_rfl) rfl rfl rfl [] fun d => by kernel_rfl

@[reducible] def pi_label_there : PSh := ⟨[], [.mk false [vI]]⟩
@[reducible] def po_label_there : PSh := ⟨[], [.mk false [vB]]⟩
def f_label_there_m (T : Unit) (d : Unit × ((Int × Unit) × Unit)) : Option (Unit × ((Bool × Unit) × Unit)) :=
  (g_day_First ((), ())).bind fun x1 =>
  let x2 : Bool := (decide (d.2.1.1 ≥ x1.2.1.1))
  bif x2 then (
  (g_day_Last ((), ())).bind fun x3 =>
  let x4 : Bool := (decide (d.2.1.1 ≤ x3.2.1.1))
  some ((), ((x4, ()), ())))
  else (
  some ((), ((false, ()), ())))
def g_label_there (d : Unit × ((Int × Unit) × Unit)) : Option (Unit × ((Bool × Unit) × Unit)) := f_label_there_m () d
theorem ok_label_there : FnOk Tryz.prog ET0 126 pi_label_there po_label_there g_label_there :=
  fn0 (E := ((E0.add 160 (typedSem pi_day_First po_day_First g_day_First)).add 161 (typedSem pi_day_Last po_day_Last g_day_Last))) (envOk_add (envOk_add e0_ok (typed_ok ok_day_First)) (typed_ok ok_day_Last)) (fn := Tryz.f126) Tryz.func126 (by kernel_rfl) (by kernel_rfl) [.tmp 2] (by kernel_rfl) rfl rfl rfl [] fun d => by kernel_rfl

@[reducible] def pi_label_Check : PSh := ⟨[], [.mk true [vI, vI, vI, vI, vI, vI, vI, vI]]⟩
@[reducible] def po_label_Check : PSh := ⟨[], [.mk false [vE]]⟩
def f_label_Check_m (T : Unit) (d : Unit × ((Int × (Int × (Int × (Int × (Int × (Int × (Int × (Int × Unit)))))))) × Unit)) : Option (Unit × (((Option Int) × Unit) × Unit)) :=
  (g_label_Label_fields ((), d.2)).bind fun x1 =>
  let x2 : Bool := (!x1.2.1.1.isNone)
  bif x2 then (
  some ((), x1.2))
  else (
  (g_label_Label_place ((), d.2)).bind fun x3 =>
  let x4 : Bool := (!x3.2.2.2.1.1.isNone)
  bif x4 then (
  some ((), x3.2.2.2))
  else (
  (g_label_there ((), (x3.2.1, ()))).bind fun x5 =>
  let x6 : Bool := (!x5.2.1.1)
  bif x6 then (
  let x7 : (Option Int) := (some (13 : Int))
  some ((), ((x7, ()), ())))
  else (
  let x8 : Bool := (d.2.1.2.2.2.2.2.1 == (60 : Int))
  bif x8 then (
  let x9 : Bool := (x3.2.2.1.1 != (1439 : Int))
  bif x9 then (
  let x10 : (Option Int) := (some (12 : Int))
  some ((), ((x10, ()), ())))
  else (
  some ((), (((none : Option Int), ()), ()))))
  else (
  some ((), (((none : Option Int), ()), ()))))))
def g_label_Check (d : Unit × ((Int × (Int × (Int × (Int × (Int × (Int × (Int × (Int × Unit)))))))) × Unit)) : Option (Unit × (((Option Int) × Unit) × Unit)) := f_label_Check_m () d
theorem ok_label_Check : FnOk Tryz.prog ET0 51 pi_label_Check po_label_Check g_label_Check :=
  fn0 (E := (((E0.add 84 (typedSem pi_label_Label_place po_label_Label_place g_label_Label_place)).add 125 (typedSem pi_label_Label_fields po_label_Label_fields g_label_Label_fields)).add 126 (typedSem pi_label_there po_label_there g_label_there))) (envOk_add (envOk_add (envOk_add e0_ok (typed_ok ok_label_Label_place)) (typed_ok ok_label_Label_fields)) (typed_ok ok_label_there)) (fn := Tryz.f51) Tryz.func51 (by kernel_rfl) (by kernel_rfl) [.tmp 2] (by kernel_rfl) rfl rfl rfl [] fun d => by kernel_rfl

@[reducible] def pi_day_Weekday : PSh := ⟨[], [.mk false [vI]]⟩
@[reducible] def po_day_Weekday : PSh := ⟨[], [.mk false [vI]]⟩
def f_day_Weekday_m (T : Unit) (d : Unit × ((Int × Unit) × Unit)) : Option (Unit × ((Int × Unit) × Unit)) :=
  let x1 : Int := (Int.tmod d.2.1.1 (7 : Int))
  let x2 : Int := (iadd .i64 x1 (3 : Int))
  let x3 : Int := (Int.tmod x2 (7 : Int))
  let x4 : Int := (iadd .i64 x3 (7 : Int))
  let x5 : Int := (Int.tmod x4 (7 : Int))
  let x6 : Int := (iadd .i64 x5 (1 : Int))
  some ((), ((x6, ()), ()))
def g_day_Weekday (d : Unit × ((Int × Unit) × Unit)) : Option (Unit × ((Int × Unit) × Unit)) := f_day_Weekday_m () d
theorem ok_day_Weekday : FnOk Tryz.prog ET0 128 pi_day_Weekday po_day_Weekday g_day_Weekday :=
  fn0 (E := E0) e0_ok (fn := Tryz.f128) Tryz.func128 (by kernel_rfl) (by kernel_rfl) [.tmp 2] (by kernel_rfl) rfl rfl rfl [] fun d => by kernel_rfl

@[reducible] def pi_mail_weekday : PSh := ⟨[], [.mk true [vI, vI, vI, vI, vI, vI, vI, vI]]⟩
@[reducible] def po_mail_weekday : PSh := ⟨[], [.mk false [vI], .mk false [vE]]⟩
def f_mail_weekday_m (T : Unit) (d : Unit × ((Int × (Int × (Int × (Int × (Int × (Int × (Int × (Int × Unit)))))))) × Unit)) : Option (Unit × ((Int × Unit) × (((Option Int) × Unit) × Unit))) :=
  (g_day_Of ((), ((d.2.1.1, ()), ((d.2.1.2.1, ()), ((d.2.1.2.2.1, ()), ()))))).bind fun x1 =>
  let x2 : Bool := (!x1.2.2.1.1.isNone)
  bif x2 then (
  some ((), (((0 : Int), ()), x1.2.2)))
  else (
  (g_day_Weekday ((), (x1.2.1, ()))).bind fun x3 =>
  some ((), (x3.2.1, (((none : Option Int), ()), ()))))
def g_mail_weekday (d : Unit × ((Int × (Int × (Int × (Int × (Int × (Int × (Int × (Int × Unit)))))))) × Unit)) : Option (Unit × ((Int × Unit) × (((Option Int) × Unit) × Unit))) := f_mail_weekday_m () d
theorem ok_mail_weekday : FnOk Tryz.prog ET0 52 pi_mail_weekday po_mail_weekday g_mail_weekday :=
  fn0 (E := ((E0.add 127 (typedSem pi_day_Of po_day_Of g_day_Of)).add 128 (typedSem pi_day_Weekday po_day_Weekday g_day_Weekday))) (envOk_add (envOk_add e0_ok (typed_ok ok_day_Of)) (typed_ok ok_day_Weekday)) (fn := Tryz.f52) Tryz.func52 (by kernel_rfl) (by kernel_rfl) [.tmp 2, .tmp 3] (by kernel_rfl) rfl rfl rfl [] fun d => by kernel_rfl

@[reducible] def pi_scan_Scanner_string_Fail_io : PSh := ⟨[.var 176 [vS, vI, vE]], [.mk false [.ref 0 0], .mk false [vE]]⟩
@[reducible] def po_scan_Scanner_string_Fail_io : PSh := ⟨[.var 176 [vS, vI, vE]], [.mk false [.ref 0 0]]⟩
def f_scan_Scanner_string_Fail_io_m (T : Unit) (d : ((ByteArray × (Int × ((Option Int) × Unit))) × Unit) × (Unit × (((Option Int) × Unit) × Unit))) : Option (((ByteArray × (Int × ((Option Int) × Unit))) × Unit) × (Unit × Unit)) :=
  (g_scan_Scanner_string_going ((), (((some (d.1.1.1, (d.1.1.2.1, d.1.1.2.2.1))), ()), ()))).bind fun x1 =>
  bif x1.2.1.1 then (
  some (((d.1.1.1, (d.1.1.2.1, d.2.2.1)), ()), ((), ())))
  else (
  some (d.1, ((), ())))
def c_scan_Scanner_string_Fail_io : List Nat := []
def L_scan_Scanner_string_Fail_io (_ : Nat) : Pts po_scan_Scanner_string_Fail_io.den := []
def R_scan_Scanner_string_Fail_io (_ : Nat) : PtsR po_scan_Scanner_string_Fail_io.den := []
def E_scan_Scanner_string_Fail_io : Env := ((E0.add 120 (typedSem pi_scan_Scanner_string_going po_scan_Scanner_string_going g_scan_Scanner_string_going)).kp [0])
theorem q_scan_Scanner_string_Fail_io_m (k : Nat) (d : pi_scan_Scanner_string_Fail_io.den) : evCode E_scan_Scanner_string_Fail_io (tb (L_scan_Scanner_string_Fail_io k) (R_scan_Scanner_string_Fail_io k)) c_scan_Scanner_string_Fail_io (bodyOf Tryz.f47) 0 (finKio E_scan_Scanner_string_Fail_io po_scan_Scanner_string_Fail_io [] [(0, none)]) (startSt pi_scan_Scanner_string_Fail_io 10 d) = f_scan_Scanner_string_Fail_io_m () d := by kernel_rfl
def g_scan_Scanner_string_Fail_io (d : ((ByteArray × (Int × ((Option Int) × Unit))) × Unit) × (Unit × (((Option Int) × Unit) × Unit))) : Option (((ByteArray × (Int × ((Option Int) × Unit))) × Unit) × (Unit × Unit)) := f_scan_Scanner_string_Fail_io_m () d
theorem ok_scan_Scanner_string_Fail_io : FnIo Tryz.prog ET0 47 pi_scan_Scanner_string_Fail_io po_scan_Scanner_string_Fail_io 0 [(0, 0, none)] g_scan_Scanner_string_Fail_io :=
  fn_of_bodyIo (E := E_scan_Scanner_string_Fail_io) (envOk_kp (envOk_add e0_ok (typed_ok ok_scan_Scanner_string_going))) (fn := Tryz.f47) Tryz.func47 (by kernel_rfl) (by kernel_rfl) [] [(0, none)] [(0, 0, none)] (by kernel_rfl) (by kernel_rfl) (by kernel_rfl) (by kernel_rfl) (by decide) (by decide) c_scan_Scanner_string_Fail_io L_scan_Scanner_string_Fail_io R_scan_Scanner_string_Fail_io
    (by intro x hx; cases hx) (by intro k x hx; cases hx) (by intro x hx; cases hx) (by intro k x hx; cases hx) (fun d out h => ⟨0, (q_scan_Scanner_string_Fail_io_m 0 d).trans h⟩)

@[reducible] def pi_scan_Scanner_string_take_io : PSh := ⟨[.var 176 [vS, vI, vE]], [.mk false [.ref 0 0], .mk false [vI]]⟩
@[reducible] def po_scan_Scanner_string_take_io : PSh := ⟨[.var 176 [vS, vI, vE]], [.mk false [vS], .mk false [.ref 0 0]]⟩
def f_scan_Scanner_string_take_io_m (T : Unit) (d : ((ByteArray × (Int × ((Option Int) × Unit))) × Unit) × (Unit × ((Int × Unit) × Unit))) : Option (((ByteArray × (Int × ((Option Int) × Unit))) × Unit) × ((ByteArray × Unit) × (Unit × Unit))) :=
  (g_scan_Scanner_string_rest ((), (((some (d.1.1.1, (d.1.1.2.1, d.1.1.2.2.1))), ()), ()))).bind fun x1 =>
  bif decide ((0 : Int) ≤ (0 : Int)) && decide ((0 : Int) ≤ d.2.2.1.1) && decide (d.2.2.1.1 ≤ (x1.2.1.1.size : Int)) then (
  let x2 : ByteArray := (x1.2.1.1.extract (Int.toNat (0 : Int)) (Int.toNat d.2.2.1.1))
  let x3 : Bool := (decide (d.2.2.1.1 > (0 : Int)))
  bif x3 then (
  let x4 : Int := (iadd .i64 d.1.1.2.1 d.2.2.1.1)
  (g_strings_Clone ((), ((x2, ()), ()))).bind fun x5 =>
  some (((d.1.1.1, (x4, d.1.1.2.2)), ()), (x5.2.1, ((), ()))))
  else (
  (g_strings_Clone ((), ((x2, ()), ()))).bind fun x6 =>
  some (d.1, (x6.2.1, ((), ())))))
  else none
def c_scan_Scanner_string_take_io : List Nat := []
def L_scan_Scanner_string_take_io (_ : Nat) : Pts po_scan_Scanner_string_take_io.den := []
def R_scan_Scanner_string_take_io (_ : Nat) : PtsR po_scan_Scanner_string_take_io.den := []
def E_scan_Scanner_string_take_io : Env := (((E0.add 187 (typedSem pi_scan_Scanner_string_rest po_scan_Scanner_string_rest g_scan_Scanner_string_rest)).add 220 (typedSem pi_strings_Clone po_strings_Clone g_strings_Clone)).kp [0])
theorem q_scan_Scanner_string_take_io_m (k : Nat) (d : pi_scan_Scanner_string_take_io.den) : evCode E_scan_Scanner_string_take_io (tb (L_scan_Scanner_string_take_io k) (R_scan_Scanner_string_take_io k)) c_scan_Scanner_string_take_io (bodyOf Tryz.f184) 0 (finKio E_scan_Scanner_string_take_io po_scan_Scanner_string_take_io [.tmp 4] [(0, none)]) (startSt pi_scan_Scanner_string_take_io 22 d) = f_scan_Scanner_string_take_io_m () d := by kernel_rfl
def g_scan_Scanner_string_take_io (d : ((ByteArray × (Int × ((Option Int) × Unit))) × Unit) × (Unit × ((Int × Unit) × Unit))) : Option (((ByteArray × (Int × ((Option Int) × Unit))) × Unit) × ((ByteArray × Unit) × (Unit × Unit))) := f_scan_Scanner_string_take_io_m () d
theorem ok_scan_Scanner_string_take_io : FnIo Tryz.prog ET0 184 pi_scan_Scanner_string_take_io po_scan_Scanner_string_take_io 1 [(0, 0, none)] g_scan_Scanner_string_take_io :=
  fn_of_bodyIo (E := E_scan_Scanner_string_take_io) (envOk_kp (envOk_add (envOk_add e0_ok (typed_ok ok_scan_Scanner_string_rest)) (typed_ok ok_strings_Clone))) (fn := Tryz.f184) Tryz.func184 (by kernel_rfl) (by kernel_rfl) [.tmp 4] [(0, none)] [(0, 0, none)] (by kernel_rfl) (by kernel_rfl) (by kernel_rfl) (by kernel_rfl) (by decide) (by decide) c_scan_Scanner_string_take_io L_scan_Scanner_string_take_io R_scan_Scanner_string_take_io
    (by intro x hx; cases hx) (by intro k x hx; cases hx) (by intro x hx; cases hx) (by intro k x hx; cases hx) (fun d out h => ⟨0, (q_scan_Scanner_string_take_io_m 0 d).trans h⟩)

@[reducible] def pi_scan_Scanner_string_Skip_io : PSh := ⟨[.var 176 [vS, vI, vE]], [.mk false [.ref 0 0], .mk false [vI]]⟩
@[reducible] def po_scan_Scanner_string_Skip_io : PSh := ⟨[.var 176 [vS, vI, vE]], [.mk false [.ref 0 0]]⟩
def f_scan_Scanner_string_Skip_io_m (T : Unit) (d : ((ByteArray × (Int × ((Option Int) × Unit))) × Unit) × (Unit × ((Int × Unit) × Unit))) : Option (((ByteArray × (Int × ((Option Int) × Unit))) × Unit) × (Unit × Unit)) :=
  (g_scan_Scanner_string_going ((), (((some (d.1.1.1, (d.1.1.2.1, d.1.1.2.2.1))), ()), ()))).bind fun x1 =>
  let x2 : Bool := (!x1.2.1.1)
  bif x2 then (
  some (d.1, ((), ())))
  else (
  let x3 : Bool := (decide (d.2.2.1.1 < (0 : Int)))
  bif x3 then (
  let x4 : (Option Int) := (some (1 : Int))
  some (((d.1.1.1, (d.1.1.2.1, (x4, ()))), ()), ((), ())))
  else (
  (g_scan_Scanner_string_Left ((), (((some (d.1.1.1, (d.1.1.2.1, d.1.1.2.2.1))), ()), ()))).bind fun x5 =>
  let x6 : Bool := (decide (d.2.2.1.1 > x5.2.1.1))
  bif x6 then (
  let x7 : (Option Int) := (some (4 : Int))
  some (((d.1.1.1, (d.1.1.2.1, (x7, ()))), ()), ((), ())))
  else (
  (g_scan_Scanner_string_take_io (d.1, ((), d.2.2))).bind fun x8 =>
  some (x8.1, ((), ())))))
def c_scan_Scanner_string_Skip_io : List Nat := []
def L_scan_Scanner_string_Skip_io (_ : Nat) : Pts po_scan_Scanner_string_Skip_io.den := []
def R_scan_Scanner_string_Skip_io (_ : Nat) : PtsR po_scan_Scanner_string_Skip_io.den := []
def E_scan_Scanner_string_Skip_io : Env := ((((E0.add 120 (typedSem pi_scan_Scanner_string_going po_scan_Scanner_string_going g_scan_Scanner_string_going)).add 124 (typedSem pi_scan_Scanner_string_Left po_scan_Scanner_string_Left g_scan_Scanner_string_Left)).add 184 (ioSem pi_scan_Scanner_string_take_io po_scan_Scanner_string_take_io 1 [(0, 0, none)] g_scan_Scanner_string_take_io)).kp [0])
theorem q_scan_Scanner_string_Skip_io_m (k : Nat) (d : pi_scan_Scanner_string_Skip_io.den) : evCode E_scan_Scanner_string_Skip_io (tb (L_scan_Scanner_string_Skip_io k) (R_scan_Scanner_string_Skip_io k)) c_scan_Scanner_string_Skip_io (bodyOf Tryz.f115) 0 (finKio E_scan_Scanner_string_Skip_io po_scan_Scanner_string_Skip_io [] [(0, none)]) (startSt pi_scan_Scanner_string_Skip_io 27 d) = f_scan_Scanner_string_Skip_io_m () d := by kernel_rfl
def g_scan_Scanner_string_Skip_io (d : ((ByteArray × (Int × ((Option Int) × Unit))) × Unit) × (Unit × ((Int × Unit) × Unit))) : Option (((ByteArray × (Int × ((Option Int) × Unit))) × Unit) × (Unit × Unit)) := f_scan_Scanner_string_Skip_io_m () d
theorem ok_scan_Scanner_string_Skip_io : FnIo Tryz.prog ET0 115 pi_scan_Scanner_string_Skip_io po_scan_Scanner_string_Skip_io 0 [(0, 0, none)] g_scan_Scanner_string_Skip_io :=
  fn_of_bodyIo (E := E_scan_Scanner_string_Skip_io) (envOk_kp (envOk_add (envOk_add (envOk_add e0_ok (typed_ok ok_scan_Scanner_string_going)) (typed_ok ok_scan_Scanner_string_Left)) (io_ok ok_scan_Scanner_string_take_io))) (fn := Tryz.f115) Tryz.func115 (by kernel_rfl) (by kernel_rfl) [] [(0, none)] [(0, 0, none)] (by kernel_rfl) (by kernel_rfl) (by kernel_rfl) (by kernel_rfl) (by decide) (by decide) c_scan_Scanner_string_Skip_io L_scan_Scanner_string_Skip_io R_scan_Scanner_string_Skip_io
    (by intro x hx; cases hx) (by intro k x hx; cases hx) (by intro x hx; cases hx) (by intro k x hx; cases hx) (fun d out h => ⟨0, (q_scan_Scanner_string_Skip_io_m 0 d).trans h⟩)

@[reducible] def pi_mail_reader_gap_io : PSh := ⟨[.var 176 [vS, vI, vE]], [.mk true [.ref 0 0, vS]]⟩
@[reducible] def po_mail_reader_gap_io : PSh := ⟨[.var 176 [vS, vI, vE]], [.mk false [vB], .mk false [.ref 0 0]]⟩
def f_mail_reader_gap_io_m (T : Unit) (d : ((ByteArray × (Int × ((Option Int) × Unit))) × Unit) × ((ByteArray × Unit) × Unit)) : Option (((ByteArray × (Int × ((Option Int) × Unit))) × Unit) × ((Bool × Unit) × (Unit × Unit))) :=
  (g_scan_Scanner_string_Err ((), (((some (d.1.1.1, (d.1.1.2.1, d.1.1.2.2.1))), ()), ()))).bind fun x1 =>
  let x2 : Bool := (!x1.2.1.1.isNone)
  bif x2 then (
  some (d.1, ((false, ()), ((), ()))))
  else (
  (g_scan_Scanner_string_At ((), (((some (d.1.1.1, (d.1.1.2.1, d.1.1.2.2.1))), ()), ()))).bind fun x3 =>
  (g_mail_Gap ((), (d.2.1, x3.2))).bind fun x4 =>
  let x5 : Bool := (decide (x4.2.1.1 < (0 : Int)))
  bif x5 then (
  let x6 : (Option Int) := (some (2 : Int))
  (g_scan_Scanner_string_Fail_io (d.1, ((), ((x6, ()), ())))).bind fun x7 =>
  some (x7.1, ((false, ()), ((), ()))))
  else (
  (g_scan_Scanner_string_At ((), (((some (d.1.1.1, (d.1.1.2.1, d.1.1.2.2.1))), ()), ()))).bind fun x8 =>
  let x9 : Int := (isub .i64 x4.2.1.1 x8.2.1.1)
  (g_scan_Scanner_string_Skip_io (d.1, ((), ((x9, ()), ())))).bind fun x10 =>
  let x11 : Bool := (decide (x9 > (0 : Int)))
  some (x10.1, ((x11, ()), ((), ())))))
def c_mail_reader_gap_io : List Nat := []
def L_mail_reader_gap_io (_ : Nat) : Pts po_mail_reader_gap_io.den := []
def R_mail_reader_gap_io (_ : Nat) : PtsR po_mail_reader_gap_io.den := []
def E_mail_reader_gap_io : Env := ((((((E0.add 47 (ioSem pi_scan_Scanner_string_Fail_io po_scan_Scanner_string_Fail_io 0 [(0, 0, none)] g_scan_Scanner_string_Fail_io)).add 112 (typedSem pi_scan_Scanner_string_Err po_scan_Scanner_string_Err g_scan_Scanner_string_Err)).add 113 (typedSem pi_mail_Gap po_mail_Gap g_mail_Gap)).add 114 (typedSem pi_scan_Scanner_string_At po_scan_Scanner_string_At g_scan_Scanner_string_At)).add 115 (ioSem pi_scan_Scanner_string_Skip_io po_scan_Scanner_string_Skip_io 0 [(0, 0, none)] g_scan_Scanner_string_Skip_io)).kp [0])
theorem q_mail_reader_gap_io_m (k : Nat) (d : pi_mail_reader_gap_io.den) : evCode E_mail_reader_gap_io (tb (L_mail_reader_gap_io k) (R_mail_reader_gap_io k)) c_mail_reader_gap_io (bodyOf Tryz.f44) 0 (finKio E_mail_reader_gap_io po_mail_reader_gap_io [.tmp 2] [(0, some 0)]) (startSt pi_mail_reader_gap_io 32 d) = f_mail_reader_gap_io_m () d := by kernel_rfl
def g_mail_reader_gap_io (d : ((ByteArray × (Int × ((Option Int) × Unit))) × Unit) × ((ByteArray × Unit) × Unit)) : Option (((ByteArray × (Int × ((Option Int) × Unit))) × Unit) × ((Bool × Unit) × (Unit × Unit))) := f_mail_reader_gap_io_m () d
theorem ok_mail_reader_gap_io : FnIo Tryz.prog ET0 44 pi_mail_reader_gap_io po_mail_reader_gap_io 1 [(0, 0, some 0)] g_mail_reader_gap_io :=
  fn_of_bodyIo (E := E_mail_reader_gap_io) (envOk_kp (envOk_add (envOk_add (envOk_add (envOk_add (envOk_add e0_ok (io_ok ok_scan_Scanner_string_Fail_io)) (typed_ok ok_scan_Scanner_string_Err)) (typed_ok ok_mail_Gap)) (typed_ok ok_scan_Scanner_string_At)) (io_ok ok_scan_Scanner_string_Skip_io))) (fn := Tryz.f44) Tryz.func44 (by kernel_rfl) (by kernel_rfl) [.tmp 2] [(0, some 0)] [(0, 0, some 0)] (by kernel_rfl) (by kernel_rfl) (by kernel_rfl) (by kernel_rfl) (by decide) (by decide) c_mail_reader_gap_io L_mail_reader_gap_io R_mail_reader_gap_io
    (by intro x hx; cases hx) (by intro k x hx; cases hx) (by intro x hx; cases hx) (by intro k x hx; cases hx) (fun d out h => ⟨0, (q_mail_reader_gap_io_m 0 d).trans h⟩)

@[reducible] def pi_scan_Scanner_string_Fold_io : PSh := ⟨[.var 176 [vS, vI, vE]], [.mk false [.ref 0 0], .mk false [vS]]⟩
@[reducible] def po_scan_Scanner_string_Fold_io : PSh := ⟨[.var 176 [vS, vI, vE]], [.mk false [vB], .mk false [.ref 0 0]]⟩
def f_scan_Scanner_string_Fold_io_m (T : Unit) (d : ((ByteArray × (Int × ((Option Int) × Unit))) × Unit) × (Unit × ((ByteArray × Unit) × Unit))) : Option (((ByteArray × (Int × ((Option Int) × Unit))) × Unit) × ((Bool × Unit) × (Unit × Unit))) :=
  (g_scan_Scanner_string_rest ((), (((some (d.1.1.1, (d.1.1.2.1, d.1.1.2.2.1))), ()), ()))).bind fun x1 =>
  (g_scan_Scanner_string_going ((), (((some (d.1.1.1, (d.1.1.2.1, d.1.1.2.2.1))), ()), ()))).bind fun x2 =>
  let x3 : Bool := (!x2.2.1.1)
  bif x3 then (
  some (d.1, ((false, ()), ((), ()))))
  else (
  let x4 : Int := (x1.2.1.1.size : Int)
  let x5 : Int := (d.2.2.1.1.size : Int)
  let x6 : Bool := (decide (x4 < x5))
  bif x6 then (
  some (d.1, ((false, ()), ((), ()))))
  else (
  let x7 : Int := (d.2.2.1.1.size : Int)
  bif decide ((0 : Int) ≤ (0 : Int)) && decide ((0 : Int) ≤ x7) && decide (x7 ≤ (x1.2.1.1.size : Int)) then (
  let x8 : ByteArray := (x1.2.1.1.extract (Int.toNat (0 : Int)) (Int.toNat x7))
  (g_scan_alike ((), ((x8, ()), d.2.2))).bind fun x9 =>
  let x10 : Bool := (!x9.2.1.1)
  bif x10 then (
  some (d.1, ((false, ()), ((), ()))))
  else (
  let x11 : Int := (d.2.2.1.1.size : Int)
  (g_scan_Scanner_string_take_io (d.1, ((), ((x11, ()), ())))).bind fun x12 =>
  some (x12.1, ((true, ()), ((), ())))))
  else none))
def c_scan_Scanner_string_Fold_io : List Nat := []
def L_scan_Scanner_string_Fold_io (_ : Nat) : Pts po_scan_Scanner_string_Fold_io.den := []
def R_scan_Scanner_string_Fold_io (_ : Nat) : PtsR po_scan_Scanner_string_Fold_io.den := []
def E_scan_Scanner_string_Fold_io : Env := (((((E0.add 120 (typedSem pi_scan_Scanner_string_going po_scan_Scanner_string_going g_scan_Scanner_string_going)).add 184 (ioSem pi_scan_Scanner_string_take_io po_scan_Scanner_string_take_io 1 [(0, 0, none)] g_scan_Scanner_string_take_io)).add 187 (typedSem pi_scan_Scanner_string_rest po_scan_Scanner_string_rest g_scan_Scanner_string_rest)).add 221 (typedSem pi_scan_alike po_scan_alike g_scan_alike)).kp [0])
theorem q_scan_Scanner_string_Fold_io_m (k : Nat) (d : pi_scan_Scanner_string_Fold_io.den) : evCode E_scan_Scanner_string_Fold_io (tb (L_scan_Scanner_string_Fold_io k) (R_scan_Scanner_string_Fold_io k)) c_scan_Scanner_string_Fold_io (bodyOf Tryz.f185) 0 (finKio E_scan_Scanner_string_Fold_io po_scan_Scanner_string_Fold_io [.tmp 4] [(0, none)]) (startSt pi_scan_Scanner_string_Fold_io 31 d) = f_scan_Scanner_string_Fold_io_m () d := by kernel_rfl
def g_scan_Scanner_string_Fold_io (d : ((ByteArray × (Int × ((Option Int) × Unit))) × Unit) × (Unit × ((ByteArray × Unit) × Unit))) : Option (((ByteArray × (Int × ((Option Int) × Unit))) × Unit) × ((Bool × Unit) × (Unit × Unit))) := f_scan_Scanner_string_Fold_io_m () d
theorem ok_scan_Scanner_string_Fold_io : FnIo Tryz.prog ET0 185 pi_scan_Scanner_string_Fold_io po_scan_Scanner_string_Fold_io 1 [(0, 0, none)] g_scan_Scanner_string_Fold_io :=
  fn_of_bodyIo (E := E_scan_Scanner_string_Fold_io) (envOk_kp (envOk_add (envOk_add (envOk_add (envOk_add e0_ok (typed_ok ok_scan_Scanner_string_going)) (io_ok ok_scan_Scanner_string_take_io)) (typed_ok ok_scan_Scanner_string_rest)) (typed_ok ok_scan_alike))) (fn := Tryz.f185) Tryz.func185 (by kernel_rfl) (by kernel_rfl) [.tmp 4] [(0, none)] [(0, 0, none)] (by kernel_rfl) (by kernel_rfl) (by kernel_rfl) (by kernel_rfl) (by decide) (by decide) c_scan_Scanner_string_Fold_io L_scan_Scanner_string_Fold_io R_scan_Scanner_string_Fold_io
    (by intro x hx; cases hx) (by intro k x hx; cases hx) (by intro x hx; cases hx) (by intro k x hx; cases hx) (fun d out h => ⟨0, (q_scan_Scanner_string_Fold_io_m 0 d).trans h⟩)

@[reducible] def pi_mail_reader_one_io : PSh := ⟨[.var 176 [vS, vI, vE]], [.mk true [.ref 0 0, vS], .mk false [vS]]⟩
@[reducible] def po_mail_reader_one_io : PSh := ⟨[.var 176 [vS, vI, vE]], [.mk false [vI], .mk false [.ref 0 0]]⟩
@[reducible] def TT_mail_reader_one_io : Type := (((((ByteArray × (Int × ((Option Int) × Unit))) × ((ByteArray × Unit) × Unit)) × ((ByteArray × Unit) × ((ByteArray × Unit) × (Unit × ((Int × Unit) × Unit))))) → Option (((ByteArray × (Int × ((Option Int) × Unit))) × Unit) × ((Int × Unit) × (Unit × Unit)))) × Unit)
@[reducible] def sh_mail_reader_one_io_3 : PSh := ⟨[.var 176 [vS, vI, vE], .var 95 [.ref 0 0, vS]], [.mk true [.ref 0 0, vS], .mk false [vS], .mk false [.ref 1 0], .any, .any, .mk false [vI], .any, .any, .any, .any, .any, .any, .any, .any, .any, .any, .any, .any, .any, .any]⟩
def f_mail_reader_one_io_p3 (T : TT_mail_reader_one_io) (d : ((ByteArray × (Int × ((Option Int) × Unit))) × ((ByteArray × Unit) × Unit)) × ((ByteArray × Unit) × ((ByteArray × Unit) × (Unit × ((Int × Unit) × Unit))))) : Option (((ByteArray × (Int × ((Option Int) × Unit))) × Unit) × ((Int × Unit) × (Unit × Unit))) :=
  let x1 : Int := (d.2.2.1.1.size : Int)
  let x2 : Int := (iquo .i64 x1 (3 : Int))
  let x3 : Bool := (decide (d.2.2.2.2.1.1 ≤ x2))
  bif x3 then (
  (g_mail_name ((), (d.2.2.1, d.2.2.2.2))).bind fun x4 =>
  (g_scan_Scanner_string_Fold_io ((d.1.1, ()), ((), x4.2))).bind fun x5 =>
  bif x5.2.1.1 then (
  some (x5.1, (d.2.2.2.2.1, ((), ()))))
  else (
  let x6 : Int := (iadd .i64 d.2.2.2.2.1.1 (1 : Int))
  (T.1 ((x5.1.1, d.1.2), (d.2.1, (d.2.2.1, ((), ((x6, ()), ()))))))))
  else (
  some ((d.1.1, ()), (((0 : Int), ()), ((), ()))))
def f_mail_reader_one_io_t : Nat → TT_mail_reader_one_io
  | 0 => (fun _ => none, ())
  | k + 1 => (f_mail_reader_one_io_p3 (f_mail_reader_one_io_t k), ())
theorem t_mail_reader_one_io (k : Nat) : f_mail_reader_one_io_t (k + 1) = (f_mail_reader_one_io_p3 (f_mail_reader_one_io_t k), ()) := rfl
def f_mail_reader_one_io_m (T : TT_mail_reader_one_io) (d : ((ByteArray × (Int × ((Option Int) × Unit))) × Unit) × ((ByteArray × Unit) × ((ByteArray × Unit) × Unit))) : Option (((ByteArray × (Int × ((Option Int) × Unit))) × Unit) × ((Int × Unit) × (Unit × Unit))) :=
  (T.1 ((d.1.1, (d.2.1, ())), (d.2.1, (d.2.2.1, ((), (((1 : Int), ()), ()))))))
def c_mail_reader_one_io : List Nat := []
def L_mail_reader_one_io (k : Nat) : Pts po_mail_reader_one_io.den := [(3, ⟨sh_mail_reader_one_io_3, (f_mail_reader_one_io_t k).1⟩)]
def R_mail_reader_one_io (_ : Nat) : PtsR po_mail_reader_one_io.den := []
def E_mail_reader_one_io : Env := (((E0.add 157 (typedSem pi_mail_name po_mail_name g_mail_name)).add 185 (ioSem pi_scan_Scanner_string_Fold_io po_scan_Scanner_string_Fold_io 1 [(0, 0, none)] g_scan_Scanner_string_Fold_io)).kp [0])
theorem q_mail_reader_one_io_3 (k : Nat) (d : sh_mail_reader_one_io_3.den) : evAt E_mail_reader_one_io (tb (L_mail_reader_one_io k) (R_mail_reader_one_io k)) c_mail_reader_one_io 3 (bodyOf Tryz.f116) 0 (finKio E_mail_reader_one_io po_mail_reader_one_io [.tmp 4] [(0, some 0)]) (ptSt sh_mail_reader_one_io_3 d) = f_mail_reader_one_io_p3 (f_mail_reader_one_io_t k) d := by kernel_rfl
theorem q_mail_reader_one_io_m (k : Nat) (d : pi_mail_reader_one_io.den) : evCode E_mail_reader_one_io (tb (L_mail_reader_one_io k) (R_mail_reader_one_io k)) c_mail_reader_one_io (bodyOf Tryz.f116) 0 (finKio E_mail_reader_one_io po_mail_reader_one_io [.tmp 4] [(0, some 0)]) (startSt pi_mail_reader_one_io 20 d) = f_mail_reader_one_io_m (f_mail_reader_one_io_t k) d := by kernel_rfl
def g_mail_reader_one_io (d : ((ByteArray × (Int × ((Option Int) × Unit))) × Unit) × ((ByteArray × Unit) × ((ByteArray × Unit) × Unit))) : Option (((ByteArray × (Int × ((Option Int) × Unit))) × Unit) × ((Int × Unit) × (Unit × Unit))) := lim fun k => f_mail_reader_one_io_m (f_mail_reader_one_io_t k) d
theorem ok_mail_reader_one_io : FnIo Tryz.prog ET0 116 pi_mail_reader_one_io po_mail_reader_one_io 1 [(0, 0, some 0)] g_mail_reader_one_io :=
  fn_of_bodyIo (E := E_mail_reader_one_io) (envOk_kp (envOk_add (envOk_add e0_ok (typed_ok ok_mail_name)) (io_ok ok_scan_Scanner_string_Fold_io))) (fn := Tryz.f116) Tryz.func116 (by kernel_rfl) (by kernel_rfl) [.tmp 4] [(0, some 0)] [(0, 0, some 0)] (by kernel_rfl) (by kernel_rfl) (by kernel_rfl) (by kernel_rfl) (by decide) (by decide) c_mail_reader_one_io L_mail_reader_one_io R_mail_reader_one_io
    (by intro x hx d; simp only [L_mail_reader_one_io, List.mem_cons, List.not_mem_nil, or_false] at hx; subst hx; rfl)
    (by intro k x hx d out h; simp only [L_mail_reader_one_io, List.mem_cons, List.not_mem_nil, or_false] at hx; subst hx; exact (q_mail_reader_one_io_3 k d).trans h)
    (by intro x hx; cases hx)
    (by intro k x hx; cases hx)
    (by intro d out h; obtain ⟨k, hk⟩ := lim_some h; exact ⟨k, (q_mail_reader_one_io_m k d).trans hk⟩)

@[reducible] def pi_scan_Scanner_string_Must_io : PSh := ⟨[.var 176 [vS, vI, vE]], [.mk false [.ref 0 0], .mk false [vS]]⟩
@[reducible] def po_scan_Scanner_string_Must_io : PSh := ⟨[.var 176 [vS, vI, vE]], [.mk false [.ref 0 0]]⟩
def f_scan_Scanner_string_Must_io_m (T : Unit) (d : ((ByteArray × (Int × ((Option Int) × Unit))) × Unit) × (Unit × ((ByteArray × Unit) × Unit))) : Option (((ByteArray × (Int × ((Option Int) × Unit))) × Unit) × (Unit × Unit)) :=
  (g_scan_Scanner_string_Fold_io (d.1, ((), d.2.2))).bind fun x1 =>
  let x2 : Bool := (!x1.2.1.1)
  bif x2 then (
  let x3 : (Option Int) := (some (2 : Int))
  (g_scan_Scanner_string_Fail_io (x1.1, ((), ((x3, ()), ())))).bind fun x4 =>
  some (x4.1, ((), ())))
  else (
  some (x1.1, ((), ())))
def c_scan_Scanner_string_Must_io : List Nat := []
def L_scan_Scanner_string_Must_io (_ : Nat) : Pts po_scan_Scanner_string_Must_io.den := []
def R_scan_Scanner_string_Must_io (_ : Nat) : PtsR po_scan_Scanner_string_Must_io.den := []
def E_scan_Scanner_string_Must_io : Env := (((E0.add 47 (ioSem pi_scan_Scanner_string_Fail_io po_scan_Scanner_string_Fail_io 0 [(0, 0, none)] g_scan_Scanner_string_Fail_io)).add 185 (ioSem pi_scan_Scanner_string_Fold_io po_scan_Scanner_string_Fold_io 1 [(0, 0, none)] g_scan_Scanner_string_Fold_io)).kp [0])
theorem q_scan_Scanner_string_Must_io_m (k : Nat) (d : pi_scan_Scanner_string_Must_io.den) : evCode E_scan_Scanner_string_Must_io (tb (L_scan_Scanner_string_Must_io k) (R_scan_Scanner_string_Must_io k)) c_scan_Scanner_string_Must_io (bodyOf Tryz.f117) 0 (finKio E_scan_Scanner_string_Must_io po_scan_Scanner_string_Must_io [] [(0, none)]) (startSt pi_scan_Scanner_string_Must_io 11 d) = f_scan_Scanner_string_Must_io_m () d := by kernel_rfl
def g_scan_Scanner_string_Must_io (d : ((ByteArray × (Int × ((Option Int) × Unit))) × Unit) × (Unit × ((ByteArray × Unit) × Unit))) : Option (((ByteArray × (Int × ((Option Int) × Unit))) × Unit) × (Unit × Unit)) := f_scan_Scanner_string_Must_io_m () d
theorem ok_scan_Scanner_string_Must_io : FnIo Tryz.prog ET0 117 pi_scan_Scanner_string_Must_io po_scan_Scanner_string_Must_io 0 [(0, 0, none)] g_scan_Scanner_string_Must_io :=
  fn_of_bodyIo (E := E_scan_Scanner_string_Must_io) (envOk_kp (envOk_add (envOk_add e0_ok (io_ok ok_scan_Scanner_string_Fail_io)) (io_ok ok_scan_Scanner_string_Fold_io))) (fn := Tryz.f117) Tryz.func117 (by kernel_rfl) (by kernel_rfl) [] [(0, none)] [(0, 0, none)] (by kernel_rfl) (by kernel_rfl) (by kernel_rfl) (by kernel_rfl) (by decide) (by decide) c_scan_Scanner_string_Must_io L_scan_Scanner_string_Must_io R_scan_Scanner_string_Must_io
    (by intro x hx; cases hx) (by intro k x hx; cases hx) (by intro x hx; cases hx) (by intro k x hx; cases hx) (fun d out h => ⟨0, (q_scan_Scanner_string_Must_io_m 0 d).trans h⟩)

@[reducible] def pi_mail_reader_weekday_io : PSh := ⟨[.var 176 [vS, vI, vE]], [.mk true [.ref 0 0, vS]]⟩
@[reducible] def po_mail_reader_weekday_io : PSh := ⟨[.var 176 [vS, vI, vE]], [.mk false [vI], .mk false [.ref 0 0]]⟩
def f_mail_reader_weekday_io_m (T : Unit) (d : ((ByteArray × (Int × ((Option Int) × Unit))) × Unit) × ((ByteArray × Unit) × Unit)) : Option (((ByteArray × (Int × ((Option Int) × Unit))) × Unit) × ((Int × Unit) × (Unit × Unit))) :=
  (g_mail_reader_one_io (d.1, (d.2.1, (((⟨#[77, 111, 110, 84, 117, 101, 87, 101, 100, 84, 104, 117, 70, 114, 105, 83, 97, 116, 83, 117, 110]⟩ : ByteArray), ()), ())))).bind fun x1 =>
  let x2 : Bool := (x1.2.1.1 == (0 : Int))
  bif x2 then (
  some (x1.1, (((0 : Int), ()), ((), ()))))
  else (
  (g_mail_reader_gap_io (x1.1, d.2)).bind fun x3 =>
  (g_scan_Scanner_string_Must_io (x3.1, ((), (((⟨#[44]⟩ : ByteArray), ()), ())))).bind fun x4 =>
  (g_mail_reader_gap_io (x4.1, d.2)).bind fun x5 =>
  some (x5.1, (x1.2.1, ((), ()))))
def c_mail_reader_weekday_io : List Nat := []
def L_mail_reader_weekday_io (_ : Nat) : Pts po_mail_reader_weekday_io.den := []
def R_mail_reader_weekday_io (_ : Nat) : PtsR po_mail_reader_weekday_io.den := []
def E_mail_reader_weekday_io : Env := ((((E0.add 44 (ioSem pi_mail_reader_gap_io po_mail_reader_gap_io 1 [(0, 0, some 0)] g_mail_reader_gap_io)).add 116 (ioSem pi_mail_reader_one_io po_mail_reader_one_io 1 [(0, 0, some 0)] g_mail_reader_one_io)).add 117 (ioSem pi_scan_Scanner_string_Must_io po_scan_Scanner_string_Must_io 0 [(0, 0, none)] g_scan_Scanner_string_Must_io)).kp [0])
theorem q_mail_reader_weekday_io_m (k : Nat) (d : pi_mail_reader_weekday_io.den) : evCode E_mail_reader_weekday_io (tb (L_mail_reader_weekday_io k) (R_mail_reader_weekday_io k)) c_mail_reader_weekday_io (bodyOf Tryz.f45) 0 (finKio E_mail_reader_weekday_io po_mail_reader_weekday_io [.tmp 2] [(0, some 0)]) (startSt pi_mail_reader_weekday_io 16 d) = f_mail_reader_weekday_io_m () d := by kernel_rfl
def g_mail_reader_weekday_io (d : ((ByteArray × (Int × ((Option Int) × Unit))) × Unit) × ((ByteArray × Unit) × Unit)) : Option (((ByteArray × (Int × ((Option Int) × Unit))) × Unit) × ((Int × Unit) × (Unit × Unit))) := f_mail_reader_weekday_io_m () d
theorem ok_mail_reader_weekday_io : FnIo Tryz.prog ET0 45 pi_mail_reader_weekday_io po_mail_reader_weekday_io 1 [(0, 0, some 0)] g_mail_reader_weekday_io :=
  fn_of_bodyIo (E := E_mail_reader_weekday_io) (envOk_kp (envOk_add (envOk_add (envOk_add e0_ok (io_ok ok_mail_reader_gap_io)) (io_ok ok_mail_reader_one_io)) (io_ok ok_scan_Scanner_string_Must_io))) (fn := Tryz.f45) Tryz.func45 (by kernel_rfl) (by kernel_rfl) [.tmp 2] [(0, some 0)] [(0, 0, some 0)] (by kernel_rfl) (by kernel_rfl) (by kernel_rfl) (by kernel_rfl) (by decide) (by decide) c_mail_reader_weekday_io L_mail_reader_weekday_io R_mail_reader_weekday_io
    (by intro x hx; cases hx) (by intro k x hx; cases hx) (by intro x hx; cases hx) (by intro k x hx; cases hx) (fun d out h => ⟨0, (q_mail_reader_weekday_io_m 0 d).trans h⟩)

@[reducible] def pi_scan_Scanner_string_Figures_io : PSh := ⟨[.var 176 [vS, vI, vE]], [.mk false [.ref 0 0], .mk false [vI], .mk false [vI]]⟩
@[reducible] def po_scan_Scanner_string_Figures_io : PSh := ⟨[.var 176 [vS, vI, vE]], [.mk false [vI], .mk false [.ref 0 0]]⟩
def f_scan_Scanner_string_Figures_io_m (T : Unit) (d : ((ByteArray × (Int × ((Option Int) × Unit))) × Unit) × (Unit × ((Int × Unit) × ((Int × Unit) × Unit)))) : Option (((ByteArray × (Int × ((Option Int) × Unit))) × Unit) × ((Int × Unit) × (Unit × Unit))) :=
  (g_scan_Scanner_string_going ((), (((some (d.1.1.1, (d.1.1.2.1, d.1.1.2.2.1))), ()), ()))).bind fun x1 =>
  let x2 : Bool := (!x1.2.1.1)
  bif x2 then (
  some (d.1, (((0 : Int), ()), ((), ()))))
  else (
  (g_scan_Scanner_string_rest ((), (((some (d.1.1.1, (d.1.1.2.1, d.1.1.2.2.1))), ()), ()))).bind fun x3 =>
  (g_figures_Take ((), (x3.2.1, d.2.2))).bind fun x4 =>
  let x5 : Bool := (!x4.2.2.2.1.1.isNone)
  bif x5 then (
  some (((d.1.1.1, (d.1.1.2.1, x4.2.2.2.1)), ()), (((0 : Int), ()), ((), ()))))
  else (
  (g_scan_Scanner_string_take_io (d.1, ((), (x4.2.2.1, ())))).bind fun x6 =>
  some (x6.1, (x4.2.1, ((), ())))))
def c_scan_Scanner_string_Figures_io : List Nat := []
def L_scan_Scanner_string_Figures_io (_ : Nat) : Pts po_scan_Scanner_string_Figures_io.den := []
def R_scan_Scanner_string_Figures_io (_ : Nat) : PtsR po_scan_Scanner_string_Figures_io.den := []
def E_scan_Scanner_string_Figures_io : Env := (((((E0.add 120 (typedSem pi_scan_Scanner_string_going po_scan_Scanner_string_going g_scan_Scanner_string_going)).add 184 (ioSem pi_scan_Scanner_string_take_io po_scan_Scanner_string_take_io 1 [(0, 0, none)] g_scan_Scanner_string_take_io)).add 186 (typedSem pi_figures_Take po_figures_Take g_figures_Take)).add 187 (typedSem pi_scan_Scanner_string_rest po_scan_Scanner_string_rest g_scan_Scanner_string_rest)).kp [0])
theorem q_scan_Scanner_string_Figures_io_m (k : Nat) (d : pi_scan_Scanner_string_Figures_io.den) : evCode E_scan_Scanner_string_Figures_io (tb (L_scan_Scanner_string_Figures_io k) (R_scan_Scanner_string_Figures_io k)) c_scan_Scanner_string_Figures_io (bodyOf Tryz.f118) 0 (finKio E_scan_Scanner_string_Figures_io po_scan_Scanner_string_Figures_io [.tmp 6] [(0, none)]) (startSt pi_scan_Scanner_string_Figures_io 32 d) = f_scan_Scanner_string_Figures_io_m () d := by kernel_rfl
def g_scan_Scanner_string_Figures_io (d : ((ByteArray × (Int × ((Option Int) × Unit))) × Unit) × (Unit × ((Int × Unit) × ((Int × Unit) × Unit)))) : Option (((ByteArray × (Int × ((Option Int) × Unit))) × Unit) × ((Int × Unit) × (Unit × Unit))) := f_scan_Scanner_string_Figures_io_m () d
theorem ok_scan_Scanner_string_Figures_io : FnIo Tryz.prog ET0 118 pi_scan_Scanner_string_Figures_io po_scan_Scanner_string_Figures_io 1 [(0, 0, none)] g_scan_Scanner_string_Figures_io :=
  fn_of_bodyIo (E := E_scan_Scanner_string_Figures_io) (envOk_kp (envOk_add (envOk_add (envOk_add (envOk_add e0_ok (typed_ok ok_scan_Scanner_string_going)) (io_ok ok_scan_Scanner_string_take_io)) (typed_ok ok_figures_Take)) (typed_ok ok_scan_Scanner_string_rest))) (fn := Tryz.f118) Tryz.func118 (by kernel_rfl) (by kernel_rfl) [.tmp 6] [(0, none)] [(0, 0, none)] (by kernel_rfl) (by kernel_rfl) (by kernel_rfl) (by kernel_rfl) (by decide) (by decide) c_scan_Scanner_string_Figures_io L_scan_Scanner_string_Figures_io R_scan_Scanner_string_Figures_io
    (by intro x hx; cases hx) (by intro k x hx; cases hx) (by intro x hx; cases hx) (by intro k x hx; cases hx) (fun d out h => ⟨0, (q_scan_Scanner_string_Figures_io_m 0 d).trans h⟩)

@[reducible] def pi_scan_Scanner_string_Run_io : PSh := ⟨[.var 176 [vS, vI, vE]], [.mk false [.ref 0 0], .mk false [vS]]⟩
@[reducible] def po_scan_Scanner_string_Run_io : PSh := ⟨[.var 176 [vS, vI, vE]], [.mk false [vS], .mk false [.ref 0 0]]⟩
@[reducible] def TT_scan_Scanner_string_Run_io : Type := (((((ByteArray × (Int × ((Option Int) × Unit))) × Unit) × (Unit × ((ByteArray × Unit) × ((ByteArray × Unit) × ((Int × Unit) × Unit))))) → Option (((ByteArray × (Int × ((Option Int) × Unit))) × Unit) × ((ByteArray × Unit) × (Unit × Unit)))) × Unit)
@[reducible] def sh_scan_Scanner_string_Run_io_4 : PSh := ⟨[.var 176 [vS, vI, vE]], [.mk false [.ref 0 0], .mk false [vS], .any, .any, .any, .mk false [vS], .mk false [vI], .any, .any, .any, .any, .any, .any, .any, .any, .any, .any, .any, .any, .any, .any, .any, .any, .any, .any, .any]⟩
def f_scan_Scanner_string_Run_io_p4 (T : TT_scan_Scanner_string_Run_io) (d : ((ByteArray × (Int × ((Option Int) × Unit))) × Unit) × (Unit × ((ByteArray × Unit) × ((ByteArray × Unit) × ((Int × Unit) × Unit))))) : Option (((ByteArray × (Int × ((Option Int) × Unit))) × Unit) × ((ByteArray × Unit) × (Unit × Unit))) :=
  let x2 : Int := (d.2.2.2.1.1.size : Int)
  let x3 : Bool := (decide (d.2.2.2.2.1.1 < x2))
  bif x3 then (
  bif decide ((0 : Int) ≤ d.2.2.2.2.1.1) && decide (d.2.2.2.2.1.1 < ((d.2.2.2.1.1.size : Int) : Int)) then (
  let x4 : Int := (bt d.2.2.2.1.1 d.2.2.2.2.1.1)
  (g_strings_IndexByte ((), (d.2.2.1, ((x4, ()), ())))).bind fun x5 =>
  let x6 : Bool := (decide (x5.2.1.1 ≥ (0 : Int)))
  bif x6 then (
  let x7 : Int := (iadd .i64 d.2.2.2.2.1.1 (1 : Int))
  (T.1 (d.1, ((), (d.2.2.1, (d.2.2.2.1, ((x7, ()), ())))))))
  else (
  (g_scan_Scanner_string_take_io (d.1, ((), d.2.2.2.2))).bind fun x8 =>
  some (x8.1, (x8.2.1, ((), ())))))
  else none)
  else (
  (g_scan_Scanner_string_take_io (d.1, ((), d.2.2.2.2))).bind fun x9 =>
  some (x9.1, (x9.2.1, ((), ()))))
def f_scan_Scanner_string_Run_io_t : Nat → TT_scan_Scanner_string_Run_io
  | 0 => (fun _ => none, ())
  | k + 1 => (f_scan_Scanner_string_Run_io_p4 (f_scan_Scanner_string_Run_io_t k), ())
theorem t_scan_Scanner_string_Run_io (k : Nat) : f_scan_Scanner_string_Run_io_t (k + 1) = (f_scan_Scanner_string_Run_io_p4 (f_scan_Scanner_string_Run_io_t k), ()) := rfl
def f_scan_Scanner_string_Run_io_m (T : TT_scan_Scanner_string_Run_io) (d : ((ByteArray × (Int × ((Option Int) × Unit))) × Unit) × (Unit × ((ByteArray × Unit) × Unit))) : Option (((ByteArray × (Int × ((Option Int) × Unit))) × Unit) × ((ByteArray × Unit) × (Unit × Unit))) :=
  (g_scan_Scanner_string_rest ((), (((some (d.1.1.1, (d.1.1.2.1, d.1.1.2.2.1))), ()), ()))).bind fun x1 =>
  (T.1 (d.1, ((), (d.2.2.1, (x1.2.1, (((0 : Int), ()), ()))))))
def c_scan_Scanner_string_Run_io : List Nat := []
def L_scan_Scanner_string_Run_io (k : Nat) : Pts po_scan_Scanner_string_Run_io.den := [(4, ⟨sh_scan_Scanner_string_Run_io_4, (f_scan_Scanner_string_Run_io_t k).1⟩)]
def R_scan_Scanner_string_Run_io (_ : Nat) : PtsR po_scan_Scanner_string_Run_io.den := []
def E_scan_Scanner_string_Run_io : Env := ((((E0.add 182 (typedSem pi_strings_IndexByte po_strings_IndexByte g_strings_IndexByte)).add 184 (ioSem pi_scan_Scanner_string_take_io po_scan_Scanner_string_take_io 1 [(0, 0, none)] g_scan_Scanner_string_take_io)).add 187 (typedSem pi_scan_Scanner_string_rest po_scan_Scanner_string_rest g_scan_Scanner_string_rest)).kp [0])
theorem q_scan_Scanner_string_Run_io_4 (k : Nat) (d : sh_scan_Scanner_string_Run_io_4.den) : evAt E_scan_Scanner_string_Run_io (tb (L_scan_Scanner_string_Run_io k) (R_scan_Scanner_string_Run_io k)) c_scan_Scanner_string_Run_io 4 (bodyOf Tryz.f123) 0 (finKio E_scan_Scanner_string_Run_io po_scan_Scanner_string_Run_io [.tmp 4] [(0, none)]) (ptSt sh_scan_Scanner_string_Run_io_4 d) = f_scan_Scanner_string_Run_io_p4 (f_scan_Scanner_string_Run_io_t k) d := by kernel_rfl
theorem q_scan_Scanner_string_Run_io_m (k : Nat) (d : pi_scan_Scanner_string_Run_io.den) : evCode E_scan_Scanner_string_Run_io (tb (L_scan_Scanner_string_Run_io k) (R_scan_Scanner_string_Run_io k)) c_scan_Scanner_string_Run_io (bodyOf Tryz.f123) 0 (finKio E_scan_Scanner_string_Run_io po_scan_Scanner_string_Run_io [.tmp 4] [(0, none)]) (startSt pi_scan_Scanner_string_Run_io 26 d) = f_scan_Scanner_string_Run_io_m (f_scan_Scanner_string_Run_io_t k) d := by kernel_rfl
def g_scan_Scanner_string_Run_io (d : ((ByteArray × (Int × ((Option Int) × Unit))) × Unit) × (Unit × ((ByteArray × Unit) × Unit))) : Option (((ByteArray × (Int × ((Option Int) × Unit))) × Unit) × ((ByteArray × Unit) × (Unit × Unit))) := lim fun k => f_scan_Scanner_string_Run_io_m (f_scan_Scanner_string_Run_io_t k) d
theorem ok_scan_Scanner_string_Run_io : FnIo Tryz.prog ET0 123 pi_scan_Scanner_string_Run_io po_scan_Scanner_string_Run_io 1 [(0, 0, none)] g_scan_Scanner_string_Run_io :=
  fn_of_bodyIo (E := E_scan_Scanner_string_Run_io) (envOk_kp (envOk_add (envOk_add (envOk_add e0_ok (typed_ok ok_strings_IndexByte)) (io_ok ok_scan_Scanner_string_take_io)) (typed_ok ok_scan_Scanner_string_rest))) (fn := Tryz.f123) Tryz.func123 (by kernel_rfl) (by kernel_rfl) [.tmp 4] [(0, none)] [(0, 0, none)] (by kernel_rfl) (by kernel_rfl) (by kernel_rfl) (by kernel_rfl) (by decide) (by decide) c_scan_Scanner_string_Run_io L_scan_Scanner_string_Run_io R_scan_Scanner_string_Run_io
    (by intro x hx d; simp only [L_scan_Scanner_string_Run_io, List.mem_cons, List.not_mem_nil, or_false] at hx; subst hx; rfl)
    (by intro k x hx d out h; simp only [L_scan_Scanner_string_Run_io, List.mem_cons, List.not_mem_nil, or_false] at hx; subst hx; exact (q_scan_Scanner_string_Run_io_4 k d).trans h)
    (by intro x hx; cases hx)
    (by intro k x hx; cases hx)
    (by intro d out h; obtain ⟨k, hk⟩ := lim_some h; exact ⟨k, (q_scan_Scanner_string_Run_io_m k d).trans hk⟩)

@[reducible] def pi_mail_reader_year_io : PSh := ⟨[.var 176 [vS, vI, vE]], [.mk true [.ref 0 0, vS]]⟩
@[reducible] def po_mail_reader_year_io : PSh := ⟨[.var 176 [vS, vI, vE]], [.mk false [vI], .mk false [.ref 0 0]]⟩
def f_mail_reader_year_io_m (T : Unit) (d : ((ByteArray × (Int × ((Option Int) × Unit))) × Unit) × ((ByteArray × Unit) × Unit)) : Option (((ByteArray × (Int × ((Option Int) × Unit))) × Unit) × ((Int × Unit) × (Unit × Unit))) :=
  (g_scan_Scanner_string_Run_io (d.1, ((), (((⟨#[48, 49, 50, 51, 52, 53, 54, 55, 56, 57]⟩ : ByteArray), ()), ())))).bind fun x1 =>
  (g_figures_Whole ((), (x1.2.1, (((2 : Int), ()), (((4 : Int), ()), ()))))).bind fun x2 =>
  let x3 : Bool := (!x2.2.2.1.1.isNone)
  bif x3 then (
  let x4 : (Option Int) := (some (2 : Int))
  (g_scan_Scanner_string_Fail_io (x1.1, ((), ((x4, ()), ())))).bind fun x5 =>
  let x6 : Int := (x1.2.1.1.size : Int)
  let x7 : Bool := (x6 == (3 : Int))
  bif x7 then (
  let x8 : Int := (iadd .i64 (1900 : Int) x2.2.1.1)
  some (x5.1, ((x8, ()), ((), ()))))
  else (
  let x9 : Int := (x1.2.1.1.size : Int)
  let x10 : Bool := (x9 == (2 : Int))
  bif x10 then (
  let x11 : Bool := (decide (x2.2.1.1 < (50 : Int)))
  bif x11 then (
  let x12 : Int := (iadd .i64 (2000 : Int) x2.2.1.1)
  some (x5.1, ((x12, ()), ((), ()))))
  else (
  let x13 : Int := (x1.2.1.1.size : Int)
  let x14 : Bool := (x13 == (2 : Int))
  bif x14 then (
  let x15 : Int := (iadd .i64 (1900 : Int) x2.2.1.1)
  some (x5.1, ((x15, ()), ((), ()))))
  else (
  some (x5.1, (x2.2.1, ((), ()))))))
  else (
  let x16 : Int := (x1.2.1.1.size : Int)
  let x17 : Bool := (x16 == (2 : Int))
  bif x17 then (
  let x18 : Int := (iadd .i64 (1900 : Int) x2.2.1.1)
  some (x5.1, ((x18, ()), ((), ()))))
  else (
  some (x5.1, (x2.2.1, ((), ())))))))
  else (
  let x19 : Int := (x1.2.1.1.size : Int)
  let x20 : Bool := (x19 == (3 : Int))
  bif x20 then (
  let x21 : Int := (iadd .i64 (1900 : Int) x2.2.1.1)
  some (x1.1, ((x21, ()), ((), ()))))
  else (
  let x22 : Int := (x1.2.1.1.size : Int)
  let x23 : Bool := (x22 == (2 : Int))
  bif x23 then (
  let x24 : Bool := (decide (x2.2.1.1 < (50 : Int)))
  bif x24 then (
  let x25 : Int := (iadd .i64 (2000 : Int) x2.2.1.1)
  some (x1.1, ((x25, ()), ((), ()))))
  else (
  let x26 : Int := (x1.2.1.1.size : Int)
  let x27 : Bool := (x26 == (2 : Int))
  bif x27 then (
  let x28 : Int := (iadd .i64 (1900 : Int) x2.2.1.1)
  some (x1.1, ((x28, ()), ((), ()))))
  else (
  some (x1.1, (x2.2.1, ((), ()))))))
  else (
  let x29 : Int := (x1.2.1.1.size : Int)
  let x30 : Bool := (x29 == (2 : Int))
  bif x30 then (
  let x31 : Int := (iadd .i64 (1900 : Int) x2.2.1.1)
  some (x1.1, ((x31, ()), ((), ()))))
  else (
  some (x1.1, (x2.2.1, ((), ())))))))
def c_mail_reader_year_io : List Nat := []
def L_mail_reader_year_io (_ : Nat) : Pts po_mail_reader_year_io.den := []
def R_mail_reader_year_io (_ : Nat) : PtsR po_mail_reader_year_io.den := []
def E_mail_reader_year_io : Env := ((((E0.add 47 (ioSem pi_scan_Scanner_string_Fail_io po_scan_Scanner_string_Fail_io 0 [(0, 0, none)] g_scan_Scanner_string_Fail_io)).add 123 (ioSem pi_scan_Scanner_string_Run_io po_scan_Scanner_string_Run_io 1 [(0, 0, none)] g_scan_Scanner_string_Run_io)).add 188 (typedSem pi_figures_Whole po_figures_Whole g_figures_Whole)).kp [0])
theorem q_mail_reader_year_io_m (k : Nat) (d : pi_mail_reader_year_io.den) : evCode E_mail_reader_year_io (tb (L_mail_reader_year_io k) (R_mail_reader_year_io k)) c_mail_reader_year_io (bodyOf Tryz.f119) 0 (finKio E_mail_reader_year_io po_mail_reader_year_io [.tmp 2] [(0, some 0)]) (startSt pi_mail_reader_year_io 43 d) = f_mail_reader_year_io_m () d := by kernel_rfl
def g_mail_reader_year_io (d : ((ByteArray × (Int × ((Option Int) × Unit))) × Unit) × ((ByteArray × Unit) × Unit)) : Option (((ByteArray × (Int × ((Option Int) × Unit))) × Unit) × ((Int × Unit) × (Unit × Unit))) := f_mail_reader_year_io_m () d
theorem ok_mail_reader_year_io : FnIo Tryz.prog ET0 119 pi_mail_reader_year_io po_mail_reader_year_io 1 [(0, 0, some 0)] g_mail_reader_year_io :=
  fn_of_bodyIo (E := E_mail_reader_year_io) (envOk_kp (envOk_add (envOk_add (envOk_add e0_ok (io_ok ok_scan_Scanner_string_Fail_io)) (io_ok ok_scan_Scanner_string_Run_io)) (typed_ok ok_figures_Whole))) (fn := Tryz.f119) Tryz.func119 (by kernel_rfl) (by kernel_rfl) [.tmp 2] [(0, some 0)] [(0, 0, some 0)] (by kernel_rfl) (by kernel_rfl) (by kernel_rfl) (by kernel_rfl) (by decide) (by decide) c_mail_reader_year_io L_mail_reader_year_io R_mail_reader_year_io
    (by intro x hx; cases hx) (by intro k x hx; cases hx) (by intro x hx; cases hx) (by intro k x hx; cases hx) (fun d out h => ⟨0, (q_mail_reader_year_io_m 0 d).trans h⟩)

@[reducible] def pi_mail_reader_date_io : PSh := ⟨[.var 176 [vS, vI, vE], .var 28 [vI, vI, vI, vI, vI, vI, vI, vI]], [.mk true [.ref 0 0, vS], .mk false [.ref 1 0]]⟩
@[reducible] def po_mail_reader_date_io : PSh := ⟨[.var 176 [vS, vI, vE], .var 28 [vI, vI, vI, vI, vI, vI, vI, vI]], [.mk false [.ref 0 0], .mk false [.ref 1 0]]⟩
def f_mail_reader_date_io_m (T : Unit) (d : ((ByteArray × (Int × ((Option Int) × Unit))) × ((Int × (Int × (Int × (Int × (Int × (Int × (Int × (Int × Unit)))))))) × Unit)) × ((ByteArray × Unit) × (Unit × Unit))) : Option (((ByteArray × (Int × ((Option Int) × Unit))) × ((Int × (Int × (Int × (Int × (Int × (Int × (Int × (Int × Unit)))))))) × Unit)) × (Unit × (Unit × Unit))) :=
  (g_scan_Scanner_string_Figures_io ((d.1.1, ()), ((), (((1 : Int), ()), (((2 : Int), ()), ()))))).bind fun x1 =>
  (g_mail_reader_gap_io (x1.1, (d.2.1, ()))).bind fun x2 =>
  (g_mail_reader_one_io (x2.1, (d.2.1, (((⟨#[74, 97, 110, 70, 101, 98, 77, 97, 114, 65, 112, 114, 77, 97, 121, 74, 117, 110, 74, 117, 108, 65, 117, 103, 83, 101, 112, 79, 99, 116, 78, 111, 118, 68, 101, 99]⟩ : ByteArray), ()), ())))).bind fun x3 =>
  let x4 : Bool := (x3.2.1.1 == (0 : Int))
  bif x4 then (
  let x5 : (Option Int) := (some (2 : Int))
  (g_scan_Scanner_string_Fail_io (x3.1, ((), ((x5, ()), ())))).bind fun x6 =>
  (g_mail_reader_gap_io (x6.1, (d.2.1, ()))).bind fun x7 =>
  (g_mail_reader_year_io (x7.1, (d.2.1, ()))).bind fun x8 =>
  some ((x8.1.1, ((x8.2.1.1, (x3.2.1.1, (x1.2.1.1, d.1.2.1.2.2.2))), ())), ((), ((), ()))))
  else (
  (g_mail_reader_gap_io (x3.1, (d.2.1, ()))).bind fun x9 =>
  (g_mail_reader_year_io (x9.1, (d.2.1, ()))).bind fun x10 =>
  some ((x10.1.1, ((x10.2.1.1, (x3.2.1.1, (x1.2.1.1, d.1.2.1.2.2.2))), ())), ((), ((), ()))))
def c_mail_reader_date_io : List Nat := []
def L_mail_reader_date_io (_ : Nat) : Pts po_mail_reader_date_io.den := []
def R_mail_reader_date_io (_ : Nat) : PtsR po_mail_reader_date_io.den := []
def E_mail_reader_date_io : Env := ((((((E0.add 44 (ioSem pi_mail_reader_gap_io po_mail_reader_gap_io 1 [(0, 0, some 0)] g_mail_reader_gap_io)).add 47 (ioSem pi_scan_Scanner_string_Fail_io po_scan_Scanner_string_Fail_io 0 [(0, 0, none)] g_scan_Scanner_string_Fail_io)).add 116 (ioSem pi_mail_reader_one_io po_mail_reader_one_io 1 [(0, 0, some 0)] g_mail_reader_one_io)).add 118 (ioSem pi_scan_Scanner_string_Figures_io po_scan_Scanner_string_Figures_io 1 [(0, 0, none)] g_scan_Scanner_string_Figures_io)).add 119 (ioSem pi_mail_reader_year_io po_mail_reader_year_io 1 [(0, 0, some 0)] g_mail_reader_year_io)).kp [0, 1])
theorem q_mail_reader_date_io_m (k : Nat) (d : pi_mail_reader_date_io.den) : evCode E_mail_reader_date_io (tb (L_mail_reader_date_io k) (R_mail_reader_date_io k)) c_mail_reader_date_io (bodyOf Tryz.f46) 0 (finKio E_mail_reader_date_io po_mail_reader_date_io [] [(0, some 0), (1, none)]) (startSt pi_mail_reader_date_io 33 d) = f_mail_reader_date_io_m () d := by kernel_rfl
def g_mail_reader_date_io (d : ((ByteArray × (Int × ((Option Int) × Unit))) × ((Int × (Int × (Int × (Int × (Int × (Int × (Int × (Int × Unit)))))))) × Unit)) × ((ByteArray × Unit) × (Unit × Unit))) : Option (((ByteArray × (Int × ((Option Int) × Unit))) × ((Int × (Int × (Int × (Int × (Int × (Int × (Int × (Int × Unit)))))))) × Unit)) × (Unit × (Unit × Unit))) := f_mail_reader_date_io_m () d
theorem ok_mail_reader_date_io : FnIo Tryz.prog ET0 46 pi_mail_reader_date_io po_mail_reader_date_io 0 [(0, 0, some 0), (1, 1, none)] g_mail_reader_date_io :=
  fn_of_bodyIo (E := E_mail_reader_date_io) (envOk_kp (envOk_add (envOk_add (envOk_add (envOk_add (envOk_add e0_ok (io_ok ok_mail_reader_gap_io)) (io_ok ok_scan_Scanner_string_Fail_io)) (io_ok ok_mail_reader_one_io)) (io_ok ok_scan_Scanner_string_Figures_io)) (io_ok ok_mail_reader_year_io))) (fn := Tryz.f46) Tryz.func46 (by kernel_rfl) (by kernel_rfl) [] [(0, some 0), (1, none)] [(0, 0, some 0), (1, 1, none)] (by kernel_rfl) (by kernel_rfl) (by kernel_rfl) (by kernel_rfl) (by decide) (by decide) c_mail_reader_date_io L_mail_reader_date_io R_mail_reader_date_io
    (by intro x hx; cases hx) (by intro k x hx; cases hx) (by intro x hx; cases hx) (by intro k x hx; cases hx) (fun d out h => ⟨0, (q_mail_reader_date_io_m 0 d).trans h⟩)

@[reducible] def pi_scan_Scanner_string_Take_io : PSh := ⟨[.var 176 [vS, vI, vE]], [.mk false [.ref 0 0], .mk false [v8]]⟩
@[reducible] def po_scan_Scanner_string_Take_io : PSh := ⟨[.var 176 [vS, vI, vE]], [.mk false [vB], .mk false [.ref 0 0]]⟩
def f_scan_Scanner_string_Take_io_m (T : Unit) (d : ((ByteArray × (Int × ((Option Int) × Unit))) × Unit) × (Unit × ((Int × Unit) × Unit))) : Option (((ByteArray × (Int × ((Option Int) × Unit))) × Unit) × ((Bool × Unit) × (Unit × Unit))) :=
  (g_scan_Scanner_string_Peek ((), (((some (d.1.1.1, (d.1.1.2.1, d.1.1.2.2.1))), ()), ()))).bind fun x1 =>
  let x2 : Bool := (!x1.2.2.1.1)
  bif x2 then (
  some (d.1, ((false, ()), ((), ()))))
  else (
  let x3 : Bool := (x1.2.1.1 != d.2.2.1.1)
  bif x3 then (
  some (d.1, ((false, ()), ((), ()))))
  else (
  (g_scan_Scanner_string_take_io (d.1, ((), (((1 : Int), ()), ())))).bind fun x4 =>
  some (x4.1, ((true, ()), ((), ())))))
def c_scan_Scanner_string_Take_io : List Nat := []
def L_scan_Scanner_string_Take_io (_ : Nat) : Pts po_scan_Scanner_string_Take_io.den := []
def R_scan_Scanner_string_Take_io (_ : Nat) : PtsR po_scan_Scanner_string_Take_io.den := []
def E_scan_Scanner_string_Take_io : Env := (((E0.add 184 (ioSem pi_scan_Scanner_string_take_io po_scan_Scanner_string_take_io 1 [(0, 0, none)] g_scan_Scanner_string_take_io)).add 189 (typedSem pi_scan_Scanner_string_Peek po_scan_Scanner_string_Peek g_scan_Scanner_string_Peek)).kp [0])
theorem q_scan_Scanner_string_Take_io_m (k : Nat) (d : pi_scan_Scanner_string_Take_io.den) : evCode E_scan_Scanner_string_Take_io (tb (L_scan_Scanner_string_Take_io k) (R_scan_Scanner_string_Take_io k)) c_scan_Scanner_string_Take_io (bodyOf Tryz.f121) 0 (finKio E_scan_Scanner_string_Take_io po_scan_Scanner_string_Take_io [.tmp 4] [(0, none)]) (startSt pi_scan_Scanner_string_Take_io 21 d) = f_scan_Scanner_string_Take_io_m () d := by kernel_rfl
def g_scan_Scanner_string_Take_io (d : ((ByteArray × (Int × ((Option Int) × Unit))) × Unit) × (Unit × ((Int × Unit) × Unit))) : Option (((ByteArray × (Int × ((Option Int) × Unit))) × Unit) × ((Bool × Unit) × (Unit × Unit))) := f_scan_Scanner_string_Take_io_m () d
theorem ok_scan_Scanner_string_Take_io : FnIo Tryz.prog ET0 121 pi_scan_Scanner_string_Take_io po_scan_Scanner_string_Take_io 1 [(0, 0, none)] g_scan_Scanner_string_Take_io :=
  fn_of_bodyIo (E := E_scan_Scanner_string_Take_io) (envOk_kp (envOk_add (envOk_add e0_ok (io_ok ok_scan_Scanner_string_take_io)) (typed_ok ok_scan_Scanner_string_Peek))) (fn := Tryz.f121) Tryz.func121 (by kernel_rfl) (by kernel_rfl) [.tmp 4] [(0, none)] [(0, 0, none)] (by kernel_rfl) (by kernel_rfl) (by kernel_rfl) (by kernel_rfl) (by decide) (by decide) c_scan_Scanner_string_Take_io L_scan_Scanner_string_Take_io R_scan_Scanner_string_Take_io
    (by intro x hx; cases hx) (by intro k x hx; cases hx) (by intro x hx; cases hx) (by intro k x hx; cases hx) (fun d out h => ⟨0, (q_scan_Scanner_string_Take_io_m 0 d).trans h⟩)

@[reducible] def pi_mail_reader_clock_io : PSh := ⟨[.var 176 [vS, vI, vE], .var 28 [vI, vI, vI, vI, vI, vI, vI, vI]], [.mk true [.ref 0 0, vS], .mk false [.ref 1 0]]⟩
@[reducible] def po_mail_reader_clock_io : PSh := ⟨[.var 176 [vS, vI, vE], .var 28 [vI, vI, vI, vI, vI, vI, vI, vI]], [.mk false [.ref 0 0], .mk false [.ref 1 0]]⟩
def f_mail_reader_clock_io_m (T : Unit) (d : ((ByteArray × (Int × ((Option Int) × Unit))) × ((Int × (Int × (Int × (Int × (Int × (Int × (Int × (Int × Unit)))))))) × Unit)) × ((ByteArray × Unit) × (Unit × Unit))) : Option (((ByteArray × (Int × ((Option Int) × Unit))) × ((Int × (Int × (Int × (Int × (Int × (Int × (Int × (Int × Unit)))))))) × Unit)) × (Unit × (Unit × Unit))) :=
  (g_scan_Scanner_string_Figures_io ((d.1.1, ()), ((), (((2 : Int), ()), (((2 : Int), ()), ()))))).bind fun x1 =>
  (g_mail_reader_gap_io (x1.1, (d.2.1, ()))).bind fun x2 =>
  (g_scan_Scanner_string_Must_io (x2.1, ((), (((⟨#[58]⟩ : ByteArray), ()), ())))).bind fun x3 =>
  (g_mail_reader_gap_io (x3.1, (d.2.1, ()))).bind fun x4 =>
  (g_scan_Scanner_string_Figures_io (x4.1, ((), (((2 : Int), ()), (((2 : Int), ()), ()))))).bind fun x5 =>
  (g_mail_reader_gap_io (x5.1, (d.2.1, ()))).bind fun x6 =>
  (g_scan_Scanner_string_Take_io (x6.1, ((), (((58 : Int), ()), ())))).bind fun x7 =>
  bif x7.2.1.1 then (
  (g_mail_reader_gap_io (x7.1, (d.2.1, ()))).bind fun x8 =>
  (g_scan_Scanner_string_Figures_io (x8.1, ((), (((2 : Int), ()), (((2 : Int), ()), ()))))).bind fun x9 =>
  (g_mail_reader_gap_io (x9.1, (d.2.1, ()))).bind fun x10 =>
  some ((x10.1.1, ((d.1.2.1.1, (d.1.2.1.2.1, (d.1.2.1.2.2.1, (x1.2.1.1, (x5.2.1.1, (x9.2.1.1, d.1.2.1.2.2.2.2.2.2)))))), ())), ((), ((), ()))))
  else (
  some ((x7.1.1, ((d.1.2.1.1, (d.1.2.1.2.1, (d.1.2.1.2.2.1, (x1.2.1.1, (x5.2.1.1, d.1.2.1.2.2.2.2.2))))), ())), ((), ((), ()))))
def c_mail_reader_clock_io : List Nat := []
def L_mail_reader_clock_io (_ : Nat) : Pts po_mail_reader_clock_io.den := []
def R_mail_reader_clock_io (_ : Nat) : PtsR po_mail_reader_clock_io.den := []
def E_mail_reader_clock_io : Env := (((((E0.add 44 (ioSem pi_mail_reader_gap_io po_mail_reader_gap_io 1 [(0, 0, some 0)] g_mail_reader_gap_io)).add 117 (ioSem pi_scan_Scanner_string_Must_io po_scan_Scanner_string_Must_io 0 [(0, 0, none)] g_scan_Scanner_string_Must_io)).add 118 (ioSem pi_scan_Scanner_string_Figures_io po_scan_Scanner_string_Figures_io 1 [(0, 0, none)] g_scan_Scanner_string_Figures_io)).add 121 (ioSem pi_scan_Scanner_string_Take_io po_scan_Scanner_string_Take_io 1 [(0, 0, none)] g_scan_Scanner_string_Take_io)).kp [0, 1])
theorem q_mail_reader_clock_io_m (k : Nat) (d : pi_mail_reader_clock_io.den) : evCode E_mail_reader_clock_io (tb (L_mail_reader_clock_io k) (R_mail_reader_clock_io k)) c_mail_reader_clock_io (bodyOf Tryz.f48) 0 (finKio E_mail_reader_clock_io po_mail_reader_clock_io [] [(0, some 0), (1, none)]) (startSt pi_mail_reader_clock_io 38 d) = f_mail_reader_clock_io_m () d := by kernel_rfl
def g_mail_reader_clock_io (d : ((ByteArray × (Int × ((Option Int) × Unit))) × ((Int × (Int × (Int × (Int × (Int × (Int × (Int × (Int × Unit)))))))) × Unit)) × ((ByteArray × Unit) × (Unit × Unit))) : Option (((ByteArray × (Int × ((Option Int) × Unit))) × ((Int × (Int × (Int × (Int × (Int × (Int × (Int × (Int × Unit)))))))) × Unit)) × (Unit × (Unit × Unit))) := f_mail_reader_clock_io_m () d
theorem ok_mail_reader_clock_io : FnIo Tryz.prog ET0 48 pi_mail_reader_clock_io po_mail_reader_clock_io 0 [(0, 0, some 0), (1, 1, none)] g_mail_reader_clock_io :=
  fn_of_bodyIo (E := E_mail_reader_clock_io) (envOk_kp (envOk_add (envOk_add (envOk_add (envOk_add e0_ok (io_ok ok_mail_reader_gap_io)) (io_ok ok_scan_Scanner_string_Must_io)) (io_ok ok_scan_Scanner_string_Figures_io)) (io_ok ok_scan_Scanner_string_Take_io))) (fn := Tryz.f48) Tryz.func48 (by kernel_rfl) (by kernel_rfl) [] [(0, some 0), (1, none)] [(0, 0, some 0), (1, 1, none)] (by kernel_rfl) (by kernel_rfl) (by kernel_rfl) (by kernel_rfl) (by decide) (by decide) c_mail_reader_clock_io L_mail_reader_clock_io R_mail_reader_clock_io
    (by intro x hx; cases hx) (by intro k x hx; cases hx) (by intro x hx; cases hx) (by intro k x hx; cases hx) (fun d out h => ⟨0, (q_mail_reader_clock_io_m 0 d).trans h⟩)

@[reducible] def pi_mail_reader_zone_io : PSh := ⟨[.var 176 [vS, vI, vE]], [.mk true [.ref 0 0, vS]]⟩
@[reducible] def po_mail_reader_zone_io : PSh := ⟨[.var 176 [vS, vI, vE]], [.mk false [vI], .mk false [vB], .mk false [.ref 0 0]]⟩
def f_mail_reader_zone_io_m (T : Unit) (d : ((ByteArray × (Int × ((Option Int) × Unit))) × Unit) × ((ByteArray × Unit) × Unit)) : Option (((ByteArray × (Int × ((Option Int) × Unit))) × Unit) × ((Int × Unit) × ((Bool × Unit) × (Unit × Unit)))) :=
  (g_scan_Scanner_string_Take_io (d.1, ((), (((45 : Int), ()), ())))).bind fun x1 =>
  let x2 : Bool := (!x1.2.1.1)
  bif x2 then (
  (g_scan_Scanner_string_Take_io (x1.1, ((), (((43 : Int), ()), ())))).bind fun x3 =>
  let x4 : Bool := (!x3.2.1.1)
  bif x4 then (
  (g_scan_Scanner_string_Run_io (x3.1, ((), (((⟨#[65, 66, 67, 68, 69, 70, 71, 72, 73, 74, 75, 76, 77, 78, 79, 80, 81, 82, 83, 84, 85, 86, 87, 88, 89, 90, 97, 98, 99, 100, 101, 102, 103, 104, 105, 106, 107, 108, 109, 110, 111, 112, 113, 114, 115, 116, 117, 118, 119, 120, 121, 122]⟩ : ByteArray), ()), ())))).bind fun x5 =>
  (g_mail_Zone ((), (x5.2.1, ()))).bind fun x6 =>
  let x7 : Bool := (!x6.2.2.1.1)
  bif x7 then (
  let x8 : (Option Int) := (some (2 : Int))
  (g_scan_Scanner_string_Fail_io (x5.1, ((), ((x8, ()), ())))).bind fun x9 =>
  some (x9.1, (x6.2.1, ((true, ()), ((), ())))))
  else (
  some (x5.1, (x6.2.1, ((true, ()), ((), ()))))))
  else (
  (g_scan_Scanner_string_Figures_io (x3.1, ((), (((2 : Int), ()), (((2 : Int), ()), ()))))).bind fun x10 =>
  (g_scan_Scanner_string_Figures_io (x10.1, ((), (((2 : Int), ()), (((2 : Int), ()), ()))))).bind fun x11 =>
  let x12 : Int := (imul .i64 x10.2.1.1 (60 : Int))
  let x13 : Int := (iadd .i64 x12 x11.2.1.1)
  bif x1.2.1.1 then (
  let x14 : Int := (ineg .i64 x13)
  let x15 : Bool := (decide (x10.2.1.1 < (24 : Int)))
  bif x15 then (
  let x16 : Bool := (decide (x11.2.1.1 < (60 : Int)))
  some (x11.1, ((x14, ()), ((x16, ()), ((), ())))))
  else (
  some (x11.1, ((x14, ()), ((false, ()), ((), ()))))))
  else (
  let x17 : Bool := (decide (x10.2.1.1 < (24 : Int)))
  bif x17 then (
  let x18 : Bool := (decide (x11.2.1.1 < (60 : Int)))
  some (x11.1, ((x13, ()), ((x18, ()), ((), ())))))
  else (
  some (x11.1, ((x13, ()), ((false, ()), ((), ()))))))))
  else (
  (g_scan_Scanner_string_Figures_io (x1.1, ((), (((2 : Int), ()), (((2 : Int), ()), ()))))).bind fun x19 =>
  (g_scan_Scanner_string_Figures_io (x19.1, ((), (((2 : Int), ()), (((2 : Int), ()), ()))))).bind fun x20 =>
  let x21 : Int := (imul .i64 x19.2.1.1 (60 : Int))
  let x22 : Int := (iadd .i64 x21 x20.2.1.1)
  bif x1.2.1.1 then (
  let x23 : Int := (ineg .i64 x22)
  let x24 : Bool := (decide (x19.2.1.1 < (24 : Int)))
  bif x24 then (
  let x25 : Bool := (decide (x20.2.1.1 < (60 : Int)))
  some (x20.1, ((x23, ()), ((x25, ()), ((), ())))))
  else (
  some (x20.1, ((x23, ()), ((false, ()), ((), ()))))))
  else (
  let x26 : Bool := (decide (x19.2.1.1 < (24 : Int)))
  bif x26 then (
  let x27 : Bool := (decide (x20.2.1.1 < (60 : Int)))
  some (x20.1, ((x22, ()), ((x27, ()), ((), ())))))
  else (
  some (x20.1, ((x22, ()), ((false, ()), ((), ())))))))
def c_mail_reader_zone_io : List Nat := []
def L_mail_reader_zone_io (_ : Nat) : Pts po_mail_reader_zone_io.den := []
def R_mail_reader_zone_io (_ : Nat) : PtsR po_mail_reader_zone_io.den := []
def E_mail_reader_zone_io : Env := ((((((E0.add 47 (ioSem pi_scan_Scanner_string_Fail_io po_scan_Scanner_string_Fail_io 0 [(0, 0, none)] g_scan_Scanner_string_Fail_io)).add 118 (ioSem pi_scan_Scanner_string_Figures_io po_scan_Scanner_string_Figures_io 1 [(0, 0, none)] g_scan_Scanner_string_Figures_io)).add 121 (ioSem pi_scan_Scanner_string_Take_io po_scan_Scanner_string_Take_io 1 [(0, 0, none)] g_scan_Scanner_string_Take_io)).add 122 (typedSem pi_mail_Zone po_mail_Zone g_mail_Zone)).add 123 (ioSem pi_scan_Scanner_string_Run_io po_scan_Scanner_string_Run_io 1 [(0, 0, none)] g_scan_Scanner_string_Run_io)).kp [0])
theorem q_mail_reader_zone_io_m (k : Nat) (d : pi_mail_reader_zone_io.den) : evCode E_mail_reader_zone_io (tb (L_mail_reader_zone_io k) (R_mail_reader_zone_io k)) c_mail_reader_zone_io (bodyOf Tryz.f49) 0 (finKio E_mail_reader_zone_io po_mail_reader_zone_io [.tmp 2, .tmp 3] [(0, some 0)]) (startSt pi_mail_reader_zone_io 55 d) = f_mail_reader_zone_io_m () d := by kernel_rfl
def g_mail_reader_zone_io (d : ((ByteArray × (Int × ((Option Int) × Unit))) × Unit) × ((ByteArray × Unit) × Unit)) : Option (((ByteArray × (Int × ((Option Int) × Unit))) × Unit) × ((Int × Unit) × ((Bool × Unit) × (Unit × Unit)))) := f_mail_reader_zone_io_m () d
theorem ok_mail_reader_zone_io : FnIo Tryz.prog ET0 49 pi_mail_reader_zone_io po_mail_reader_zone_io 2 [(0, 0, some 0)] g_mail_reader_zone_io :=
  fn_of_bodyIo (E := E_mail_reader_zone_io) (envOk_kp (envOk_add (envOk_add (envOk_add (envOk_add (envOk_add e0_ok (io_ok ok_scan_Scanner_string_Fail_io)) (io_ok ok_scan_Scanner_string_Figures_io)) (io_ok ok_scan_Scanner_string_Take_io)) (typed_ok ok_mail_Zone)) (io_ok ok_scan_Scanner_string_Run_io))) (fn := Tryz.f49) Tryz.func49 (by kernel_rfl) (by kernel_rfl) [.tmp 2, .tmp 3] [(0, some 0)] [(0, 0, some 0)] (by kernel_rfl) (by kernel_rfl) (by kernel_rfl) (by kernel_rfl) (by decide) (by decide) c_mail_reader_zone_io L_mail_reader_zone_io R_mail_reader_zone_io
    (by intro x hx; cases hx) (by intro k x hx; cases hx) (by intro x hx; cases hx) (by intro k x hx; cases hx) (fun d out h => ⟨0, (q_mail_reader_zone_io_m 0 d).trans h⟩)

@[reducible] def pi_mail_Parse : PSh := ⟨[], [.mk false [vS]]⟩
@[reducible] def po_mail_Parse : PSh := ⟨[], [.mk true [vI, vI, vI, vI, vI, vI, vI, vI], .mk false [vE]]⟩
@[reducible] def TT_mail_Parse : Type := (((((Int × (Int × (Int × (Int × (Int × (Int × (Int × (Int × Unit)))))))) × ((ByteArray × Unit) × ((ByteArray × (Int × ((Option Int) × Unit))) × ((Int × (Int × (Int × (Int × (Int × (Int × (Int × (Int × Unit)))))))) × Unit)))) × (Unit × (Unit × (Unit × ((Int × Unit) × Unit))))) → Option (Unit × ((Int × (Int × (Int × (Int × (Int × (Int × (Int × (Int × Unit)))))))) × (((Option Int) × Unit) × Unit)))) × Unit)
@[reducible] def sh_mail_Parse_6 : PSh := ⟨[.var 28 [vI, vI, vI, vI, vI, vI, vI, vI], .var 95 [.ref 2 0, vS], .var 176 [vS, vI, vE], .var 28 [vI, vI, vI, vI, vI, vI, vI, vI]], [.any, .any, .mk false [.ref 0 0], .any, .mk false [.ref 1 0], .mk false [.ref 3 0], .mk false [vI], .any, .any, .any, .any, .any, .any, .any, .any, .any, .any, .any, .any, .any, .any, .any, .any, .any, .any, .any, .any, .any, .any, .any, .any, .any, .any, .any, .any, .any, .any, .any, .any, .any, .any, .any, .any, .any, .any, .any, .any, .any, .any, .any, .any, .any, .any, .any, .any, .any, .any, .any, .any, .any, .any, .any, .any, .any, .any, .any, .any, .any, .any, .any, .any, .any, .any, .any, .any, .any, .any, .any, .any, .any, .any, .any, .any, .any, .any]⟩
def f_mail_Parse_p6 (T : TT_mail_Parse) (d : ((Int × (Int × (Int × (Int × (Int × (Int × (Int × (Int × Unit)))))))) × ((ByteArray × Unit) × ((ByteArray × (Int × ((Option Int) × Unit))) × ((Int × (Int × (Int × (Int × (Int × (Int × (Int × (Int × Unit)))))))) × Unit)))) × (Unit × (Unit × (Unit × ((Int × Unit) × Unit))))) : Option (Unit × ((Int × (Int × (Int × (Int × (Int × (Int × (Int × (Int × Unit)))))))) × (((Option Int) × Unit) × Unit))) :=
  (g_mail_reader_clock_io (d.1.2.2, (d.1.2.1, ((), ())))).bind fun x9 =>
  (g_mail_reader_zone_io ((x9.1.1, ()), (d.1.2.1, ()))).bind fun x10 =>
  (g_mail_reader_gap_io (x10.1, (d.1.2.1, ()))).bind fun x11 =>
  (g_scan_Scanner_string_End ((), (((some (x11.1.1.1, (x11.1.1.2.1, x11.1.1.2.2.1))), ()), ()))).bind fun x12 =>
  let x13 : Bool := (!x12.2.1.1.isNone)
  bif x13 then (
  let x14 : (Option Int) := (some (2 : Int))
  some ((), (((0 : Int), ((0 : Int), ((0 : Int), ((0 : Int), ((0 : Int), ((0 : Int), ((0 : Int), ((0 : Int), ())))))))), ((x14, ()), ()))))
  else (
  let x15 : Bool := (!x10.2.2.1.1)
  bif x15 then (
  let x16 : (Option Int) := (some (1 : Int))
  some ((), (((0 : Int), ((0 : Int), ((0 : Int), ((0 : Int), ((0 : Int), ((0 : Int), ((0 : Int), ((0 : Int), ())))))))), ((x16, ()), ()))))
  else (
  let x17 : Bool := (decide (x9.1.2.1.1 < (1900 : Int)))
  bif x17 then (
  let x18 : (Option Int) := (some (13 : Int))
  some ((), (((0 : Int), ((0 : Int), ((0 : Int), ((0 : Int), ((0 : Int), ((0 : Int), ((0 : Int), ((0 : Int), ())))))))), ((x18, ()), ()))))
  else (
  (g_label_Check ((), ((x9.1.2.1.1, (x9.1.2.1.2.1, (x9.1.2.1.2.2.1, (x9.1.2.1.2.2.2.1, (x9.1.2.1.2.2.2.2.1, (x9.1.2.1.2.2.2.2.2.1, (x9.1.2.1.2.2.2.2.2.2.1, x10.2.1))))))), ()))).bind fun x19 =>
  let x20 : Bool := (!x19.2.1.1.isNone)
  bif x20 then (
  some ((), (((0 : Int), ((0 : Int), ((0 : Int), ((0 : Int), ((0 : Int), ((0 : Int), ((0 : Int), ((0 : Int), ())))))))), x19.2)))
  else (
  (g_mail_weekday ((), ((x9.1.2.1.1, (x9.1.2.1.2.1, (x9.1.2.1.2.2.1, (x9.1.2.1.2.2.2.1, (x9.1.2.1.2.2.2.2.1, (x9.1.2.1.2.2.2.2.2.1, (x9.1.2.1.2.2.2.2.2.2.1, x10.2.1))))))), ()))).bind fun x21 =>
  let x22 : Bool := (!x21.2.2.1.1.isNone)
  bif x22 then (
  some ((), (((0 : Int), ((0 : Int), ((0 : Int), ((0 : Int), ((0 : Int), ((0 : Int), ((0 : Int), ((0 : Int), ())))))))), x21.2.2)))
  else (
  let x23 : Bool := (d.2.2.2.2.1.1 != (0 : Int))
  bif x23 then (
  let x24 : Bool := (d.2.2.2.2.1.1 != x21.2.1.1)
  bif x24 then (
  let x25 : (Option Int) := (some (1 : Int))
  some ((), (((0 : Int), ((0 : Int), ((0 : Int), ((0 : Int), ((0 : Int), ((0 : Int), ((0 : Int), ((0 : Int), ())))))))), ((x25, ()), ()))))
  else (
  some ((), ((x9.1.2.1.1, (x9.1.2.1.2.1, (x9.1.2.1.2.2.1, (x9.1.2.1.2.2.2.1, (x9.1.2.1.2.2.2.2.1, (x9.1.2.1.2.2.2.2.2.1, (x9.1.2.1.2.2.2.2.2.2.1, x10.2.1))))))), (((none : Option Int), ()), ())))))
  else (
  some ((), ((x9.1.2.1.1, (x9.1.2.1.2.1, (x9.1.2.1.2.2.1, (x9.1.2.1.2.2.2.1, (x9.1.2.1.2.2.2.2.1, (x9.1.2.1.2.2.2.2.2.1, (x9.1.2.1.2.2.2.2.2.2.1, x10.2.1))))))), (((none : Option Int), ()), ())))))))))
def f_mail_Parse_t : Nat → TT_mail_Parse
  | 0 => (fun _ => none, ())
  | k + 1 => (f_mail_Parse_p6 (f_mail_Parse_t k), ())
theorem t_mail_Parse (k : Nat) : f_mail_Parse_t (k + 1) = (f_mail_Parse_p6 (f_mail_Parse_t k), ()) := rfl
def f_mail_Parse_m (T : TT_mail_Parse) (d : Unit × ((ByteArray × Unit) × Unit)) : Option (Unit × ((Int × (Int × (Int × (Int × (Int × (Int × (Int × (Int × Unit)))))))) × (((Option Int) × Unit) × Unit))) :=
  (g_scan_New_string ((), d.2)).bind fun x1 =>
  (g_mail_reader_gap_io (x1.1, d.2)).bind fun x2 =>
  (g_mail_reader_weekday_io (x2.1, d.2)).bind fun x3 =>
  (g_mail_reader_date_io ((x3.1.1, (((0 : Int), ((0 : Int), ((0 : Int), ((0 : Int), ((0 : Int), ((0 : Int), ((0 : Int), ((0 : Int), ())))))))), ())), (d.2.1, ((), ())))).bind fun x4 =>
  (g_mail_reader_gap_io ((x4.1.1, ()), d.2)).bind fun x5 =>
  let x6 : Bool := (!x5.2.1.1)
  bif x6 then (
  let x7 : (Option Int) := (some (2 : Int))
  (g_scan_Scanner_string_Fail_io (x5.1, ((), ((x7, ()), ())))).bind fun x8 =>
  (T.1 ((((0 : Int), ((0 : Int), ((0 : Int), ((0 : Int), ((0 : Int), ((0 : Int), ((0 : Int), ((0 : Int), ())))))))), (d.2.1, (x8.1.1, x4.1.2))), ((), ((), ((), (x3.2.1, ())))))))
  else (
  (T.1 ((((0 : Int), ((0 : Int), ((0 : Int), ((0 : Int), ((0 : Int), ((0 : Int), ((0 : Int), ((0 : Int), ())))))))), (d.2.1, (x5.1.1, x4.1.2))), ((), ((), ((), (x3.2.1, ())))))))
def c_mail_Parse : List Nat := [6]
def L_mail_Parse (k : Nat) : Pts po_mail_Parse.den := [(6, ⟨sh_mail_Parse_6, (f_mail_Parse_t k).1⟩)]
def R_mail_Parse (_ : Nat) : PtsR po_mail_Parse.den := []
def E_mail_Parse : Env := ((((((((((E0.add 43 (typedSem pi_scan_New_string po_scan_New_string g_scan_New_string)).add 44 (ioSem pi_mail_reader_gap_io po_mail_reader_gap_io 1 [(0, 0, some 0)] g_mail_reader_gap_io)).add 45 (ioSem pi_mail_reader_weekday_io po_mail_reader_weekday_io 1 [(0, 0, some 0)] g_mail_reader_weekday_io)).add 46 (ioSem pi_mail_reader_date_io po_mail_reader_date_io 0 [(0, 0, some 0), (1, 1, none)] g_mail_reader_date_io)).add 47 (ioSem pi_scan_Scanner_string_Fail_io po_scan_Scanner_string_Fail_io 0 [(0, 0, none)] g_scan_Scanner_string_Fail_io)).add 48 (ioSem pi_mail_reader_clock_io po_mail_reader_clock_io 0 [(0, 0, some 0), (1, 1, none)] g_mail_reader_clock_io)).add 49 (ioSem pi_mail_reader_zone_io po_mail_reader_zone_io 2 [(0, 0, some 0)] g_mail_reader_zone_io)).add 50 (typedSem pi_scan_Scanner_string_End po_scan_Scanner_string_End g_scan_Scanner_string_End)).add 51 (typedSem pi_label_Check po_label_Check g_label_Check)).add 52 (typedSem pi_mail_weekday po_mail_weekday g_mail_weekday))
theorem q_mail_Parse_6 (k : Nat) (d : sh_mail_Parse_6.den) : evAt E_mail_Parse (tb (L_mail_Parse k) (R_mail_Parse k)) c_mail_Parse 6 (bodyOf Tryz.f8) 0 (finK E_mail_Parse po_mail_Parse [.cell 2 28, .tmp 3]) (ptSt sh_mail_Parse_6 d) = f_mail_Parse_p6 (f_mail_Parse_t k) d := by kernel_rfl
theorem q_mail_Parse_m (k : Nat) (d : pi_mail_Parse.den) : evCode E_mail_Parse (tb (L_mail_Parse k) (R_mail_Parse k)) c_mail_Parse (bodyOf Tryz.f8) 0 (finK E_mail_Parse po_mail_Parse [.cell 2 28, .tmp 3]) (startSt pi_mail_Parse 85 d) = f_mail_Parse_m (f_mail_Parse_t k) d := by kernel_rfl
def g_mail_Parse (d : Unit × ((ByteArray × Unit) × Unit)) : Option (Unit × ((Int × (Int × (Int × (Int × (Int × (Int × (Int × (Int × Unit)))))))) × (((Option Int) × Unit) × Unit))) := lim fun k => f_mail_Parse_m (f_mail_Parse_t k) d
theorem ok_mail_Parse : FnOk Tryz.prog ET0 8 pi_mail_Parse po_mail_Parse g_mail_Parse :=
  fn_of_body (E := E_mail_Parse) (envOk_add (envOk_add (envOk_add (envOk_add (envOk_add (envOk_add (envOk_add (envOk_add (envOk_add (envOk_add e0_ok (typed_ok ok_scan_New_string)) (io_ok ok_mail_reader_gap_io)) (io_ok ok_mail_reader_weekday_io)) (io_ok ok_mail_reader_date_io)) (io_ok ok_scan_Scanner_string_Fail_io)) (io_ok ok_mail_reader_clock_io)) (io_ok ok_mail_reader_zone_io)) (typed_ok ok_scan_Scanner_string_End)) (typed_ok ok_label_Check)) (typed_ok ok_mail_weekday)) (fn := Tryz.f8) Tryz.func8 (by kernel_rfl) (by kernel_rfl) [.cell 2 28, .tmp 3] (by kernel_rfl) (by kernel_rfl) (by decide) rfl c_mail_Parse L_mail_Parse R_mail_Parse
    (by intro x hx d; simp only [L_mail_Parse, List.mem_cons, List.not_mem_nil, or_false] at hx; subst hx; rfl)
    (by intro k x hx d out h; simp only [L_mail_Parse, List.mem_cons, List.not_mem_nil, or_false] at hx; subst hx; exact (q_mail_Parse_6 k d).trans h)
    (by intro x hx; cases hx)
    (by intro k x hx; cases hx)
    (by intro d out h; obtain ⟨k, hk⟩ := lim_some h; exact ⟨k, (q_mail_Parse_m k d).trans hk⟩)

@[reducible] def pi_mjd_zero : PSh := ⟨[], [.mk false [vI]]⟩
@[reducible] def po_mjd_zero : PSh := ⟨[], [.mk false [vI], .mk false [vE]]⟩
def f_mjd_zero_m (T : Unit) (d : Unit × ((Int × Unit) × Unit)) : Option (Unit × ((Int × Unit) × (((Option Int) × Unit) × Unit))) :=
  let x1 : Bool := (d.2.1.1 == (1 : Int))
  bif x1 then (
  some ((), (((40587 : Int), ()), (((none : Option Int), ()), ()))))
  else (
  let x2 : Bool := (d.2.1.1 == (2 : Int))
  bif x2 then (
  some ((), (((2440588 : Int), ()), (((none : Option Int), ()), ()))))
  else (
  let x3 : Bool := (d.2.1.1 == (3 : Int))
  bif x3 then (
  some ((), (((25567 : Int), ()), (((none : Option Int), ()), ()))))
  else (
  let x4 : Bool := (d.2.1.1 == (4 : Int))
  bif x4 then (
  some ((), (((-3657 : Int), ()), (((none : Option Int), ()), ()))))
  else (
  let x5 : (Option Int) := (some (11 : Int))
  some ((), (((0 : Int), ()), ((x5, ()), ())))))))
def g_mjd_zero (d : Unit × ((Int × Unit) × Unit)) : Option (Unit × ((Int × Unit) × (((Option Int) × Unit) × Unit))) := f_mjd_zero_m () d
theorem ok_mjd_zero : FnOk Tryz.prog ET0 158 pi_mjd_zero po_mjd_zero g_mjd_zero :=
  fn0 (E := E0) e0_ok (fn := Tryz.f158) Tryz.func158 (by kernel_rfl) (by kernel_rfl) [.tmp 2, .tmp 3] (by kernel_rfl) rfl rfl rfl [] fun d => by kernel_rfl

@[reducible] def pi_mjd_there : PSh := ⟨[], [.mk false [vI]]⟩
@[reducible] def po_mjd_there : PSh := ⟨[], [.mk false [vB]]⟩
def f_mjd_there_m (T : Unit) (d : Unit × ((Int × Unit) × Unit)) : Option (Unit × ((Bool × Unit) × Unit)) :=
  (g_day_First ((), ())).bind fun x1 =>
  let x2 : Bool := (decide (d.2.1.1 ≥ x1.2.1.1))
  bif x2 then (
  (g_day_Last ((), ())).bind fun x3 =>
  let x4 : Bool := (decide (d.2.1.1 ≤ x3.2.1.1))
  some ((), ((x4, ()), ())))
  else (
  some ((), ((false, ()), ())))
def g_mjd_there (d : Unit × ((Int × Unit) × Unit)) : Option (Unit × ((Bool × Unit) × Unit)) := f_mjd_there_m () d
theorem ok_mjd_there : FnOk Tryz.prog ET0 159 pi_mjd_there po_mjd_there g_mjd_there :=
  fn0 (E := ((E0.add 160 (typedSem pi_day_First po_day_First g_day_First)).add 161 (typedSem pi_day_Last po_day_Last g_day_Last))) (envOk_add (envOk_add e0_ok (typed_ok ok_day_First)) (typed_ok ok_day_Last)) (fn := Tryz.f159) Tryz.func159 (by kernel_rfl) (by kernel_rfl) [.tmp 2] (by kernel_rfl) rfl rfl rfl [] fun d => by kernel_rfl

@[reducible] def pi_mjd_Count : PSh := ⟨[], [.mk false [vI], .mk false [vI]]⟩
@[reducible] def po_mjd_Count : PSh := ⟨[], [.mk false [vI], .mk false [vE]]⟩
def f_mjd_Count_m (T : Unit) (d : Unit × ((Int × Unit) × ((Int × Unit) × Unit))) : Option (Unit × ((Int × Unit) × (((Option Int) × Unit) × Unit))) :=
  (g_mjd_zero ((), (d.2.1, ()))).bind fun x1 =>
  let x2 : Bool := (!x1.2.2.1.1.isNone)
  bif x2 then (
  some ((), (((0 : Int), ()), x1.2.2)))
  else (
  (g_mjd_there ((), d.2.2)).bind fun x3 =>
  let x4 : Bool := (!x3.2.1.1)
  bif x4 then (
  let x5 : (Option Int) := (some (13 : Int))
  some ((), (((0 : Int), ()), ((x5, ()), ()))))
  else (
  let x6 : Int := (iadd .i64 d.2.2.1.1 x1.2.1.1)
  some ((), ((x6, ()), (((none : Option Int), ()), ())))))
def g_mjd_Count (d : Unit × ((Int × Unit) × ((Int × Unit) × Unit))) : Option (Unit × ((Int × Unit) × (((Option Int) × Unit) × Unit))) := f_mjd_Count_m () d
theorem ok_mjd_Count : FnOk Tryz.prog ET0 85 pi_mjd_Count po_mjd_Count g_mjd_Count :=
  fn0 (E := ((E0.add 158 (typedSem pi_mjd_zero po_mjd_zero g_mjd_zero)).add 159 (typedSem pi_mjd_there po_mjd_there g_mjd_there))) (envOk_add (envOk_add e0_ok (typed_ok ok_mjd_zero)) (typed_ok ok_mjd_there)) (fn := Tryz.f85) Tryz.func85 (by kernel_rfl) (by kernel_rfl) [.tmp 4, .tmp 5] (by kernel_rfl) rfl rfl rfl [] fun d => by kernel_rfl

@[reducible] def pi_slices_Reverse_byte_byte_io : PSh := ⟨[.row 5 (.int .u8)], [.mk false [.osl 0]]⟩
@[reducible] def po_slices_Reverse_byte_byte_io : PSh := ⟨[.row 5 (.int .u8)], [.mk false [.osl 0]]⟩
@[reducible] def TT_slices_Reverse_byte_byte_io : Type := (((((List Int) × Unit) × (Unit × ((Int × Unit) × ((Int × Unit) × Unit)))) → Option (((List Int) × Unit) × (Unit × Unit))) × Unit)
@[reducible] def sh_slices_Reverse_byte_byte_io_1 : PSh := ⟨[.row 5 (.int .u8)], [.mk false [.osl 0], .any, .mk false [vI], .mk false [vI], .any, .any, .any, .any, .any, .any, .any, .any, .any, .any, .any, .any, .any, .any, .any, .any, .any, .any, .any, .any, .any, .any, .any, .any]⟩
def f_slices_Reverse_byte_byte_io_p1 (T : TT_slices_Reverse_byte_byte_io) (d : ((List Int) × Unit) × (Unit × ((Int × Unit) × ((Int × Unit) × Unit)))) : Option (((List Int) × Unit) × (Unit × Unit)) :=
  let x3 : Bool := (decide (d.2.2.1.1 < d.2.2.2.1.1))
  bif x3 then (
  bif decide ((0 : Int) ≤ d.2.2.2.1.1) && decide (d.2.2.2.1.1 < (d.1.1.length : Int)) then (
  bif decide ((0 : Int) ≤ d.2.2.1.1) && decide (d.2.2.1.1 < (d.1.1.length : Int)) then (
  bif decide ((0 : Int) ≤ d.2.2.1.1) && decide (d.2.2.1.1 < (d.1.1.length : Int)) then (
  let x4 : (List Int) := (List.set d.1.1 (Int.toNat d.2.2.1.1) (gd (.int .u8) d.1.1 d.2.2.2.1.1))
  bif decide ((0 : Int) ≤ d.2.2.2.1.1) && decide (d.2.2.2.1.1 < (x4.length : Int)) then (
  let x5 : (List Int) := (List.set x4 (Int.toNat d.2.2.2.1.1) (gd (.int .u8) d.1.1 d.2.2.1.1))
  let x6 : Int := (iadd .i64 d.2.2.1.1 (1 : Int))
  let x7 : Int := (isub .i64 d.2.2.2.1.1 (1 : Int))
  (T.1 ((x5, ()), ((), ((x6, ()), ((x7, ()), ()))))))
  else none)
  else none)
  else none)
  else none)
  else (
  some (d.1, ((), ())))
def f_slices_Reverse_byte_byte_io_t : Nat → TT_slices_Reverse_byte_byte_io
  | 0 => (fun _ => none, ())
  | k + 1 => (f_slices_Reverse_byte_byte_io_p1 (f_slices_Reverse_byte_byte_io_t k), ())
theorem t_slices_Reverse_byte_byte_io (k : Nat) : f_slices_Reverse_byte_byte_io_t (k + 1) = (f_slices_Reverse_byte_byte_io_p1 (f_slices_Reverse_byte_byte_io_t k), ()) := rfl
def f_slices_Reverse_byte_byte_io_m (T : TT_slices_Reverse_byte_byte_io) (d : ((List Int) × Unit) × (Unit × Unit)) : Option (((List Int) × Unit) × (Unit × Unit)) :=
  let x1 : Int := (d.1.1.length : Int)
  let x2 : Int := (isub .i64 x1 (1 : Int))
  (T.1 (d.1, ((), (((0 : Int), ()), ((x2, ()), ())))))
def c_slices_Reverse_byte_byte_io : List Nat := []
def L_slices_Reverse_byte_byte_io (k : Nat) : Pts po_slices_Reverse_byte_byte_io.den := [(1, ⟨sh_slices_Reverse_byte_byte_io_1, (f_slices_Reverse_byte_byte_io_t k).1⟩)]
def R_slices_Reverse_byte_byte_io (_ : Nat) : PtsR po_slices_Reverse_byte_byte_io.den := []
def E_slices_Reverse_byte_byte_io : Env := (E0.kp [0])
theorem q_slices_Reverse_byte_byte_io_1 (k : Nat) (d : sh_slices_Reverse_byte_byte_io_1.den) : evAt E_slices_Reverse_byte_byte_io (tb (L_slices_Reverse_byte_byte_io k) (R_slices_Reverse_byte_byte_io k)) c_slices_Reverse_byte_byte_io 1 (bodyOf Tryz.f200) 0 (finKio E_slices_Reverse_byte_byte_io po_slices_Reverse_byte_byte_io [] [(0, none)]) (ptSt sh_slices_Reverse_byte_byte_io_1 d) = f_slices_Reverse_byte_byte_io_p1 (f_slices_Reverse_byte_byte_io_t k) d := by kernel_rfl
theorem q_slices_Reverse_byte_byte_io_m (k : Nat) (d : pi_slices_Reverse_byte_byte_io.den) : evCode E_slices_Reverse_byte_byte_io (tb (L_slices_Reverse_byte_byte_io k) (R_slices_Reverse_byte_byte_io k)) c_slices_Reverse_byte_byte_io (bodyOf Tryz.f200) 0 (finKio E_slices_Reverse_byte_byte_io po_slices_Reverse_byte_byte_io [] [(0, none)]) (startSt pi_slices_Reverse_byte_byte_io 28 d) = f_slices_Reverse_byte_byte_io_m (f_slices_Reverse_byte_byte_io_t k) d := by kernel_rfl
def g_slices_Reverse_byte_byte_io (d : ((List Int) × Unit) × (Unit × Unit)) : Option (((List Int) × Unit) × (Unit × Unit)) := lim fun k => f_slices_Reverse_byte_byte_io_m (f_slices_Reverse_byte_byte_io_t k) d
theorem ok_slices_Reverse_byte_byte_io : FnIo Tryz.prog ET0 200 pi_slices_Reverse_byte_byte_io po_slices_Reverse_byte_byte_io 0 [(0, 0, none)] g_slices_Reverse_byte_byte_io :=
  fn_of_bodyIo (E := E_slices_Reverse_byte_byte_io) (envOk_kp e0_ok) (fn := Tryz.f200) Tryz.func200 (by kernel_rfl) (by kernel_rfl) [] [(0, none)] [(0, 0, none)] (by kernel_rfl) (by kernel_rfl) (by kernel_rfl) (by kernel_rfl) (by decide) (by decide) c_slices_Reverse_byte_byte_io L_slices_Reverse_byte_byte_io R_slices_Reverse_byte_byte_io
    (by intro x hx d; simp only [L_slices_Reverse_byte_byte_io, List.mem_cons, List.not_mem_nil, or_false] at hx; subst hx; rfl)
    (by intro k x hx d out h; simp only [L_slices_Reverse_byte_byte_io, List.mem_cons, List.not_mem_nil, or_false] at hx; subst hx; exact (q_slices_Reverse_byte_byte_io_1 k d).trans h)
    (by intro x hx; cases hx)
    (by intro k x hx; cases hx)
    (by intro d out h; obtain ⟨k, hk⟩ := lim_some h; exact ⟨k, (q_slices_Reverse_byte_byte_io_m k d).trans hk⟩)

@[reducible] def pi_figures_raw : PSh := ⟨[], [.mk false [.v (.int .u64)], .mk false [vI]]⟩
@[reducible] def po_figures_raw : PSh := ⟨[], [.mk false [vS]]⟩
@[reducible] def TT_figures_raw : Type := (((((List Int) × Unit) × ((Int × Unit) × ((Int × Unit) × (Unit × Unit)))) → Option (Unit × ((ByteArray × Unit) × Unit))) × Unit)
@[reducible] def sh_figures_raw_3 : PSh := ⟨[.row 5 (.int .u8)], [.mk false [.v (.int .u64)], .mk false [vI], .any, .any, .any, .mk false [.osl 0], .any, .any, .any, .any, .any, .any, .any, .any, .any, .any, .any, .any, .any, .any, .any, .any, .any, .any, .any, .any, .any, .any]⟩
def f_figures_raw_p3 (T : TT_figures_raw) (d : ((List Int) × Unit) × ((Int × Unit) × ((Int × Unit) × (Unit × Unit)))) : Option (Unit × ((ByteArray × Unit) × Unit)) :=
  let x1 : Bool := (decide (d.2.1.1 > (0 : Int)))
  bif x1 then (
  let x2 : Int := (Int.tmod d.2.1.1 (10 : Int))
  let x3 : Int := (iconv .u8 x2)
  let x4 : Int := (iadd .u8 (48 : Int) x3)
  let x5 : (List Int) := ([x4] : List Int)
  bif decide (((d.1.1.length + x5.length) * 1 : Nat) ≤ 140737488355328) && decide (d.1.1.length + x5.length ≤ 9223372036854775807) then (
  let x6 : (List Int) := (d.1.1 ++ x5)
  let x7 : Int := (iquo .u64 d.2.1.1 (10 : Int))
  (T.1 ((x6, ()), ((x7, ()), (d.2.2.1, ((), ()))))))
  else none)
  else (
  let x8 : Int := (d.1.1.length : Int)
  let x9 : Int := (if (1 : Int) > d.2.2.1.1 then (1 : Int) else d.2.2.1.1)
  let x10 : Bool := (decide (x8 < x9))
  bif x10 then (
  let x11 : Int := (Int.tmod d.2.1.1 (10 : Int))
  let x12 : Int := (iconv .u8 x11)
  let x13 : Int := (iadd .u8 (48 : Int) x12)
  let x14 : (List Int) := ([x13] : List Int)
  bif decide (((d.1.1.length + x14.length) * 1 : Nat) ≤ 140737488355328) && decide (d.1.1.length + x14.length ≤ 9223372036854775807) then (
  let x15 : (List Int) := (d.1.1 ++ x14)
  let x16 : Int := (iquo .u64 d.2.1.1 (10 : Int))
  (T.1 ((x15, ()), ((x16, ()), (d.2.2.1, ((), ()))))))
  else none)
  else (
  (g_slices_Reverse_byte_byte_io (d.1, ((), ()))).bind fun x17 =>
  let x18 : ByteArray := (strOf x17.1.1)
  some ((), ((x18, ()), ()))))
def f_figures_raw_t : Nat → TT_figures_raw
  | 0 => (fun _ => none, ())
  | k + 1 => (f_figures_raw_p3 (f_figures_raw_t k), ())
theorem t_figures_raw (k : Nat) : f_figures_raw_t (k + 1) = (f_figures_raw_p3 (f_figures_raw_t k), ()) := rfl
def f_figures_raw_m (T : TT_figures_raw) (d : Unit × ((Int × Unit) × ((Int × Unit) × Unit))) : Option (Unit × ((ByteArray × Unit) × Unit)) :=
  (T.1 ((([] : List Int), ()), (d.2.1, (d.2.2.1, ((), ())))))
def c_figures_raw : List Nat := []
def L_figures_raw (k : Nat) : Pts po_figures_raw.den := [(3, ⟨sh_figures_raw_3, (f_figures_raw_t k).1⟩)]
def R_figures_raw (_ : Nat) : PtsR po_figures_raw.den := []
def E_figures_raw : Env := (E0.add 200 (ioSem pi_slices_Reverse_byte_byte_io po_slices_Reverse_byte_byte_io 0 [(0, 0, none)] g_slices_Reverse_byte_byte_io))
theorem q_figures_raw_3 (k : Nat) (d : sh_figures_raw_3.den) : evAt E_figures_raw (tb (L_figures_raw k) (R_figures_raw k)) c_figures_raw 3 (bodyOf Tryz.f154) 0 (finK E_figures_raw po_figures_raw [.tmp 4]) (ptSt sh_figures_raw_3 d) = f_figures_raw_p3 (f_figures_raw_t k) d := by kernel_rfl
theorem q_figures_raw_m (k : Nat) (d : pi_figures_raw.den) : evCode E_figures_raw (tb (L_figures_raw k) (R_figures_raw k)) c_figures_raw (bodyOf Tryz.f154) 0 (finK E_figures_raw po_figures_raw [.tmp 4]) (startSt pi_figures_raw 28 d) = f_figures_raw_m (f_figures_raw_t k) d := by kernel_rfl
def g_figures_raw (d : Unit × ((Int × Unit) × ((Int × Unit) × Unit))) : Option (Unit × ((ByteArray × Unit) × Unit)) := lim fun k => f_figures_raw_m (f_figures_raw_t k) d
theorem ok_figures_raw : FnOk Tryz.prog ET0 154 pi_figures_raw po_figures_raw g_figures_raw :=
  fn_of_body (E := E_figures_raw) (envOk_add e0_ok (io_ok ok_slices_Reverse_byte_byte_io)) (fn := Tryz.f154) Tryz.func154 (by kernel_rfl) (by kernel_rfl) [.tmp 4] (by kernel_rfl) (by kernel_rfl) (by decide) rfl c_figures_raw L_figures_raw R_figures_raw
    (by intro x hx d; simp only [L_figures_raw, List.mem_cons, List.not_mem_nil, or_false] at hx; subst hx; rfl)
    (by intro k x hx d out h; simp only [L_figures_raw, List.mem_cons, List.not_mem_nil, or_false] at hx; subst hx; exact (q_figures_raw_3 k d).trans h)
    (by intro x hx; cases hx)
    (by intro k x hx; cases hx)
    (by intro d out h; obtain ⟨k, hk⟩ := lim_some h; exact ⟨k, (q_figures_raw_m k d).trans hk⟩)

@[reducible] def pi_figures_Put : PSh := ⟨[], [.mk false [vI], .mk false [vI]]⟩
@[reducible] def po_figures_Put : PSh := ⟨[], [.mk false [vS], .mk false [vE]]⟩
def f_figures_Put_m (T : Unit) (d : Unit × ((Int × Unit) × ((Int × Unit) × Unit))) : Option (Unit × ((ByteArray × Unit) × (((Option Int) × Unit) × Unit))) :=
  let x1 : Bool := (decide (d.2.2.1.1 < (0 : Int)))
  bif x1 then (
  let x2 : (Option Int) := (some (1 : Int))
  some ((), (((⟨#[]⟩ : ByteArray), ()), ((x2, ()), ()))))
  else (
  let x3 : Bool := (decide (d.2.2.1.1 > (20 : Int)))
  bif x3 then (
  let x4 : (Option Int) := (some (1 : Int))
  some ((), (((⟨#[]⟩ : ByteArray), ()), ((x4, ()), ()))))
  else (
  let x5 : Bool := (decide (d.2.1.1 < (0 : Int)))
  bif x5 then (
  let x6 : Int := (iconv .u64 d.2.1.1)
  let x7 : Int := (ineg .u64 x6)
  (g_figures_raw ((), ((x7, ()), d.2.2))).bind fun x8 =>
  bif fitsS (⟨#[45]⟩ : ByteArray) x8.2.1.1 then (
  let x9 : ByteArray := ((⟨#[45]⟩ : ByteArray) ++ x8.2.1.1)
  some ((), ((x9, ()), (((none : Option Int), ()), ()))))
  else none)
  else (
  let x10 : Int := (iconv .u64 d.2.1.1)
  (g_figures_raw ((), ((x10, ()), d.2.2))).bind fun x11 =>
  some ((), (x11.2.1, (((none : Option Int), ()), ()))))))
def g_figures_Put (d : Unit × ((Int × Unit) × ((Int × Unit) × Unit))) : Option (Unit × ((ByteArray × Unit) × (((Option Int) × Unit) × Unit))) := f_figures_Put_m () d
theorem ok_figures_Put : FnOk Tryz.prog ET0 86 pi_figures_Put po_figures_Put g_figures_Put :=
  fn0 (E := (E0.add 154 (typedSem pi_figures_raw po_figures_raw g_figures_raw))) (envOk_add e0_ok (typed_ok ok_figures_raw)) (fn := Tryz.f86) Tryz.func86 (by kernel_rfl) (by kernel_rfl) [.tmp 4, .tmp 5] (by kernel_rfl) rfl rfl rfl [] fun d => by kernel_rfl

@[reducible] def pi_mjd_Five : PSh := ⟨[], [.mk false [vI]]⟩
@[reducible] def po_mjd_Five : PSh := ⟨[], [.mk false [vS], .mk false [vE]]⟩
def f_mjd_Five_m (T : Unit) (d : Unit × ((Int × Unit) × Unit)) : Option (Unit × ((ByteArray × Unit) × (((Option Int) × Unit) × Unit))) :=
  (g_mjd_Count ((), (((1 : Int), ()), d.2))).bind fun x1 =>
  let x2 : Bool := (!x1.2.2.1.1.isNone)
  bif x2 then (
  some ((), (((⟨#[]⟩ : ByteArray), ()), x1.2.2)))
  else (
  let x3 : Bool := (decide (x1.2.1.1 < (0 : Int)))
  bif x3 then (
  let x4 : (Option Int) := (some (1 : Int))
  some ((), (((⟨#[]⟩ : ByteArray), ()), ((x4, ()), ()))))
  else (
  let x5 : Bool := (decide (x1.2.1.1 > (99999 : Int)))
  bif x5 then (
  let x6 : (Option Int) := (some (1 : Int))
  some ((), (((⟨#[]⟩ : ByteArray), ()), ((x6, ()), ()))))
  else (
  (g_figures_Put ((), (x1.2.1, (((5 : Int), ()), ())))).bind fun x7 =>
  some ((), x7.2))))
def g_mjd_Five (d : Unit × ((Int × Unit) × Unit)) : Option (Unit × ((ByteArray × Unit) × (((Option Int) × Unit) × Unit))) := f_mjd_Five_m () d
theorem ok_mjd_Five : FnOk Tryz.prog ET0 24 pi_mjd_Five po_mjd_Five g_mjd_Five :=
  fn0 (E := ((E0.add 85 (typedSem pi_mjd_Count po_mjd_Count g_mjd_Count)).add 86 (typedSem pi_figures_Put po_figures_Put g_figures_Put))) (envOk_add (envOk_add e0_ok (typed_ok ok_mjd_Count)) (typed_ok ok_figures_Put)) (fn := Tryz.f24) Tryz.func24 (by kernel_rfl) (by kernel_rfl) [.tmp 2, .tmp 3] (by kernel_rfl) rfl rfl rfl [] fun d => by kernel_rfl

@[reducible] def pi_nist_in : PSh := ⟨[], [.mk false [vI], .mk false [vI]]⟩
@[reducible] def po_nist_in : PSh := ⟨[], [.mk false [vB]]⟩
def f_nist_in_m (T : Unit) (d : Unit × ((Int × Unit) × ((Int × Unit) × Unit))) : Option (Unit × ((Bool × Unit) × Unit)) :=
  let x1 : Bool := (decide (d.2.1.1 ≥ (0 : Int)))
  bif x1 then (
  let x2 : Bool := (decide (d.2.1.1 ≤ d.2.2.1.1))
  some ((), ((x2, ()), ())))
  else (
  some ((), ((false, ()), ())))
def g_nist_in (d : Unit × ((Int × Unit) × ((Int × Unit) × Unit))) : Option (Unit × ((Bool × Unit) × Unit)) := f_nist_in_m () d
theorem ok_nist_in : FnOk Tryz.prog ET0 87 pi_nist_in po_nist_in g_nist_in :=
  fn0 (E := E0) e0_ok (fn := Tryz.f87) Tryz.func87 (by kernel_rfl) (by kernel_rfl) [.tmp 4] (by kernel_rfl) rfl rfl rfl [] fun d => by kernel_rfl

@[reducible] def pi_nist_Check : PSh := ⟨[], [.mk true [vI, vI, vI, vI, vI, vI, vB]]⟩
@[reducible] def po_nist_Check : PSh := ⟨[], [.mk false [vE]]⟩
def f_nist_Check_m (T : Unit) (d : Unit × ((Int × (Int × (Int × (Int × (Int × (Int × (Bool × Unit))))))) × Unit)) : Option (Unit × (((Option Int) × Unit) × Unit)) :=
  (g_mjd_Five ((), ((d.2.1.1, ()), ()))).bind fun x1 =>
  let x2 : Bool := (!x1.2.2.1.1.isNone)
  bif x2 then (
  some ((), x1.2.2))
  else (
  (g_nist_in ((), ((d.2.1.2.1, ()), (((86400 : Int), ()), ())))).bind fun x3 =>
  let x4 : Bool := (!x3.2.1.1)
  bif x4 then (
  let x5 : (Option Int) := (some (1 : Int))
  some ((), ((x5, ()), ())))
  else (
  (g_nist_in ((), ((d.2.1.2.2.1, ()), (((99 : Int), ()), ())))).bind fun x6 =>
  let x7 : Bool := (!x6.2.1.1)
  bif x7 then (
  let x8 : (Option Int) := (some (1 : Int))
  some ((), ((x8, ()), ())))
  else (
  (g_nist_in ((), ((d.2.1.2.2.2.1, ()), (((2 : Int), ()), ())))).bind fun x9 =>
  let x10 : Bool := (!x9.2.1.1)
  bif x10 then (
  let x11 : (Option Int) := (some (1 : Int))
  some ((), ((x11, ()), ())))
  else (
  (g_nist_in ((), ((d.2.1.2.2.2.2.1, ()), (((9 : Int), ()), ())))).bind fun x12 =>
  let x13 : Bool := (!x12.2.1.1)
  bif x13 then (
  let x14 : (Option Int) := (some (1 : Int))
  some ((), ((x14, ()), ())))
  else (
  (g_nist_in ((), ((d.2.1.2.2.2.2.2.1, ()), (((9999 : Int), ()), ())))).bind fun x15 =>
  let x16 : Bool := (!x15.2.1.1)
  bif x16 then (
  let x17 : (Option Int) := (some (1 : Int))
  some ((), ((x17, ()), ())))
  else (
  some ((), (((none : Option Int), ()), ()))))))))
def g_nist_Check (d : Unit × ((Int × (Int × (Int × (Int × (Int × (Int × (Bool × Unit))))))) × Unit)) : Option (Unit × (((Option Int) × Unit) × Unit)) := f_nist_Check_m () d
theorem ok_nist_Check : FnOk Tryz.prog ET0 25 pi_nist_Check po_nist_Check g_nist_Check :=
  fn0 (E := ((E0.add 24 (typedSem pi_mjd_Five po_mjd_Five g_mjd_Five)).add 87 (typedSem pi_nist_in po_nist_in g_nist_in))) (envOk_add (envOk_add e0_ok (typed_ok ok_mjd_Five)) (typed_ok ok_nist_in)) (fn := Tryz.f25) Tryz.func25 (by kernel_rfl) (by kernel_rfl) [.tmp 2] (by kernel_rfl) rfl rfl rfl [] fun d => by kernel_rfl

@[reducible] def pi_day_Date : PSh := ⟨[], [.mk false [vI]]⟩
@[reducible] def po_day_Date : PSh := ⟨[], [.mk false [vI], .mk false [vI], .mk false [vI], .mk false [vE]]⟩
def f_day_Date_m (T : Unit) (d : Unit × ((Int × Unit) × Unit)) : Option (Unit × ((Int × Unit) × ((Int × Unit) × ((Int × Unit) × (((Option Int) × Unit) × Unit))))) :=
  (g_day_First ((), ())).bind fun x1 =>
  let x2 : Bool := (decide (d.2.1.1 < x1.2.1.1))
  bif x2 then (
  let x3 : (Option Int) := (some (13 : Int))
  some ((), (((0 : Int), ()), (((0 : Int), ()), (((0 : Int), ()), ((x3, ()), ()))))))
  else (
  (g_day_Last ((), ())).bind fun x4 =>
  let x5 : Bool := (decide (d.2.1.1 > x4.2.1.1))
  bif x5 then (
  let x6 : (Option Int) := (some (13 : Int))
  some ((), (((0 : Int), ()), (((0 : Int), ()), (((0 : Int), ()), ((x6, ()), ()))))))
  else (
  let x7 : Int := (iadd .i64 d.2.1.1 (719468 : Int))
  (g_day_floor ((), ((x7, ()), (((146097 : Int), ()), ())))).bind fun x8 =>
  let x9 : Int := (iadd .i64 d.2.1.1 (719468 : Int))
  let x10 : Int := (imul .i64 x8.2.1.1 (146097 : Int))
  let x11 : Int := (isub .i64 x9 x10)
  let x12 : Int := (iquo .i64 x11 (1460 : Int))
  let x13 : Int := (isub .i64 x11 x12)
  let x14 : Int := (iquo .i64 x11 (36524 : Int))
  let x15 : Int := (iadd .i64 x13 x14)
  let x16 : Int := (iquo .i64 x11 (146096 : Int))
  let x17 : Int := (isub .i64 x15 x16)
  let x18 : Int := (iquo .i64 x17 (365 : Int))
  let x19 : Int := (imul .i64 (365 : Int) x18)
  let x20 : Int := (iquo .i64 x18 (4 : Int))
  let x21 : Int := (iadd .i64 x19 x20)
  let x22 : Int := (iquo .i64 x18 (100 : Int))
  let x23 : Int := (isub .i64 x21 x22)
  let x24 : Int := (isub .i64 x11 x23)
  let x25 : Int := (imul .i64 (5 : Int) x24)
  let x26 : Int := (iadd .i64 x25 (2 : Int))
  let x27 : Int := (iquo .i64 x26 (153 : Int))
  let x28 : Int := (imul .i64 (153 : Int) x27)
  let x29 : Int := (iadd .i64 x28 (2 : Int))
  let x30 : Int := (iquo .i64 x29 (5 : Int))
  let x31 : Int := (isub .i64 x24 x30)
  let x32 : Int := (iadd .i64 x31 (1 : Int))
  let x33 : Int := (imul .i64 x8.2.1.1 (400 : Int))
  let x34 : Int := (iadd .i64 x18 x33)
  let x35 : Int := (iadd .i64 x27 (3 : Int))
  let x36 : Bool := (decide (x35 > (12 : Int)))
  bif x36 then (
  let x37 : Int := (isub .i64 x35 (12 : Int))
  let x38 : Int := (iadd .i64 x34 (1 : Int))
  some ((), ((x38, ()), ((x37, ()), ((x32, ()), (((none : Option Int), ()), ()))))))
  else (
  some ((), ((x34, ()), ((x35, ()), ((x32, ()), (((none : Option Int), ()), ()))))))))
def g_day_Date (d : Unit × ((Int × Unit) × Unit)) : Option (Unit × ((Int × Unit) × ((Int × Unit) × ((Int × Unit) × (((Option Int) × Unit) × Unit))))) := f_day_Date_m () d
theorem ok_day_Date : FnOk Tryz.prog ET0 88 pi_day_Date po_day_Date g_day_Date :=
  fn0 (E := (((E0.add 160 (typedSem pi_day_First po_day_First g_day_First)).add 161 (typedSem pi_day_Last po_day_Last g_day_Last)).add 162 (typedSem pi_day_floor po_day_floor g_day_floor))) (envOk_add (envOk_add (envOk_add e0_ok (typed_ok ok_day_First)) (typed_ok ok_day_Last)) (typed_ok ok_day_floor)) (fn := Tryz.f88) Tryz.func88 (by kernel_rfl) (by kernel_rfl) [.tmp 2, .tmp 3, .tmp 4, .tmp 5] (by kernel_rfl) rfl rfl rfl [] fun d => by kernel_rfl

@[reducible] def pi_label_clock : PSh := ⟨[], [.mk false [vI]]⟩
@[reducible] def po_label_clock : PSh := ⟨[], [.mk false [vI], .mk false [vI]]⟩
def f_label_clock_m (T : Unit) (d : Unit × ((Int × Unit) × Unit)) : Option (Unit × ((Int × Unit) × ((Int × Unit) × Unit))) :=
  let x1 : Bool := (d.2.1.1 == (86400 : Int))
  bif x1 then (
  some ((), (((1439 : Int), ()), (((60 : Int), ()), ()))))
  else (
  let x2 : Int := (iquo .i64 d.2.1.1 (60 : Int))
  let x3 : Int := (Int.tmod d.2.1.1 (60 : Int))
  some ((), ((x2, ()), ((x3, ()), ()))))
def g_label_clock (d : Unit × ((Int × Unit) × Unit)) : Option (Unit × ((Int × Unit) × ((Int × Unit) × Unit))) := f_label_clock_m () d
theorem ok_label_clock : FnOk Tryz.prog ET0 164 pi_label_clock po_label_clock g_label_clock :=
  fn0 (E := E0) e0_ok (fn := Tryz.f164) Tryz.func164 (by kernel_rfl) (by kernel_rfl) [.tmp 2, .tmp 3] (by kernel_rfl) rfl rfl rfl [] fun d => by kernel_rfl

@[reducible] def pi_label_Of : PSh := ⟨[], [.mk false [vI], .mk false [vI], .mk false [vI], .mk false [vI]]⟩
@[reducible] def po_label_Of : PSh := ⟨[], [.mk true [vI, vI, vI, vI, vI, vI, vI, vI], .mk false [vE]]⟩
def f_label_Of_m (T : Unit) (d : Unit × ((Int × Unit) × ((Int × Unit) × ((Int × Unit) × ((Int × Unit) × Unit))))) : Option (Unit × ((Int × (Int × (Int × (Int × (Int × (Int × (Int × (Int × Unit)))))))) × (((Option Int) × Unit) × Unit))) :=
  (g_label_there ((), (d.2.1, ()))).bind fun x1 =>
  let x2 : Bool := (!x1.2.1.1)
  bif x2 then (
  let x3 : (Option Int) := (some (13 : Int))
  some ((), (((0 : Int), ((0 : Int), ((0 : Int), ((0 : Int), ((0 : Int), ((0 : Int), ((0 : Int), ((0 : Int), ())))))))), ((x3, ()), ()))))
  else (
  (g_label_in ((), (d.2.2.1, (((86401 : Int), ()), ())))).bind fun x4 =>
  let x5 : Bool := (!x4.2.1.1)
  bif x5 then (
  let x6 : (Option Int) := (some (1 : Int))
  some ((), (((0 : Int), ((0 : Int), ((0 : Int), ((0 : Int), ((0 : Int), ((0 : Int), ((0 : Int), ((0 : Int), ())))))))), ((x6, ()), ()))))
  else (
  (g_label_in ((), (d.2.2.2.1, (((1000000000 : Int), ()), ())))).bind fun x7 =>
  let x8 : Bool := (!x7.2.1.1)
  bif x8 then (
  let x9 : (Option Int) := (some (1 : Int))
  some ((), (((0 : Int), ((0 : Int), ((0 : Int), ((0 : Int), ((0 : Int), ((0 : Int), ((0 : Int), ((0 : Int), ())))))))), ((x9, ()), ()))))
  else (
  (g_label_shifts ((), d.2.2.2.2)).bind fun x10 =>
  let x11 : Bool := (!x10.2.1.1)
  bif x11 then (
  let x12 : (Option Int) := (some (1 : Int))
  some ((), (((0 : Int), ((0 : Int), ((0 : Int), ((0 : Int), ((0 : Int), ((0 : Int), ((0 : Int), ((0 : Int), ())))))))), ((x12, ()), ()))))
  else (
  (g_label_clock ((), (d.2.2.1, ()))).bind fun x13 =>
  let x14 : Int := (iadd .i64 x13.2.1.1 d.2.2.2.2.1.1)
  (g_num_Split ((), ((x14, ()), (((1440 : Int), ()), ())))).bind fun x15 =>
  let x16 : Bool := (!x15.2.2.2.1.1.isNone)
  bif x16 then (
  some ((), (((0 : Int), ((0 : Int), ((0 : Int), ((0 : Int), ((0 : Int), ((0 : Int), ((0 : Int), ((0 : Int), ())))))))), x15.2.2.2)))
  else (
  let x17 : Int := (iquo .i64 x15.2.2.1.1 (60 : Int))
  let x18 : Int := (Int.tmod x15.2.2.1.1 (60 : Int))
  let x19 : Int := (iadd .i64 d.2.1.1 x15.2.1.1)
  (g_day_Date ((), ((x19, ()), ()))).bind fun x20 =>
  let x21 : Bool := (!x20.2.2.2.2.1.1.isNone)
  bif x21 then (
  some ((), (((0 : Int), ((0 : Int), ((0 : Int), ((0 : Int), ((0 : Int), ((0 : Int), ((0 : Int), ((0 : Int), ())))))))), x20.2.2.2.2)))
  else (
  some ((), ((x20.2.1.1, (x20.2.2.1.1, (x20.2.2.2.1.1, (x17, (x18, (x13.2.2.1.1, (d.2.2.2.1.1, d.2.2.2.2.1))))))), (((none : Option Int), ()), ())))))))))
def g_label_Of (d : Unit × ((Int × Unit) × ((Int × Unit) × ((Int × Unit) × ((Int × Unit) × Unit))))) : Option (Unit × ((Int × (Int × (Int × (Int × (Int × (Int × (Int × (Int × Unit)))))))) × (((Option Int) × Unit) × Unit))) := f_label_Of_m () d
theorem ok_label_Of : FnOk Tryz.prog ET0 95 pi_label_Of po_label_Of g_label_Of :=
  fn0 (E := ((((((E0.add 88 (typedSem pi_day_Date po_day_Date g_day_Date)).add 100 (typedSem pi_num_Split po_num_Split g_num_Split)).add 126 (typedSem pi_label_there po_label_there g_label_there)).add 163 (typedSem pi_label_in po_label_in g_label_in)).add 164 (typedSem pi_label_clock po_label_clock g_label_clock)).add 166 (typedSem pi_label_shifts po_label_shifts g_label_shifts))) (envOk_add (envOk_add (envOk_add (envOk_add (envOk_add (envOk_add e0_ok (typed_ok ok_day_Date)) (typed_ok ok_num_Split)) (typed_ok ok_label_there)) (typed_ok ok_label_in)) (typed_ok ok_label_clock)) (typed_ok ok_label_shifts)) (fn := Tryz.f95) Tryz.func95 (by kernel_rfl) (by kernel_rfl) [.cell 8 28, .tmp 9] (by kernel_rfl) rfl rfl rfl [] fun d => by kernel_rfl

@[reducible] def pi_nist_Label : PSh := ⟨[], [.mk true [vI, vI, vI, vI, vI, vI, vB]]⟩
@[reducible] def po_nist_Label : PSh := ⟨[], [.mk true [vI, vI, vI, vI, vI, vI, vI, vI], .mk false [vE]]⟩
def f_nist_Label_m (T : Unit) (d : Unit × ((Int × (Int × (Int × (Int × (Int × (Int × (Bool × Unit))))))) × Unit)) : Option (Unit × ((Int × (Int × (Int × (Int × (Int × (Int × (Int × (Int × Unit)))))))) × (((Option Int) × Unit) × Unit))) :=
  (g_nist_Check ((), d.2)).bind fun x1 =>
  let x2 : Bool := (!x1.2.1.1.isNone)
  bif x2 then (
  some ((), (((0 : Int), ((0 : Int), ((0 : Int), ((0 : Int), ((0 : Int), ((0 : Int), ((0 : Int), ((0 : Int), ())))))))), x1.2)))
  else (
  (g_label_Of ((), ((d.2.1.1, ()), ((d.2.1.2.1, ()), (((0 : Int), ()), (((0 : Int), ()), ())))))).bind fun x3 =>
  some ((), x3.2))
def g_nist_Label (d : Unit × ((Int × (Int × (Int × (Int × (Int × (Int × (Bool × Unit))))))) × Unit)) : Option (Unit × ((Int × (Int × (Int × (Int × (Int × (Int × (Int × (Int × Unit)))))))) × (((Option Int) × Unit) × Unit))) := f_nist_Label_m () d
theorem ok_nist_Label : FnOk Tryz.prog ET0 28 pi_nist_Label po_nist_Label g_nist_Label :=
  fn0 (E := ((E0.add 25 (typedSem pi_nist_Check po_nist_Check g_nist_Check)).add 95 (typedSem pi_label_Of po_label_Of g_label_Of))) (envOk_add (envOk_add e0_ok (typed_ok ok_nist_Check)) (typed_ok ok_label_Of)) (fn := Tryz.f28) Tryz.func28 (by kernel_rfl) (by kernel_rfl) [.cell 2 28, .tmp 3] (by kernel_rfl) rfl rfl rfl [] fun d => by kernel_rfl

@[reducible] def pi_figures_Fraction : PSh := ⟨[], [.mk false [vS]]⟩
@[reducible] def po_figures_Fraction : PSh := ⟨[], [.mk false [vI], .mk false [vE]]⟩
def f_figures_Fraction_m (T : Unit) (d : Unit × ((ByteArray × Unit) × Unit)) : Option (Unit × ((Int × Unit) × (((Option Int) × Unit) × Unit))) :=
  let x1 : Int := (d.2.1.1.size : Int)
  let x2 : Bool := (decide (x1 > (9 : Int)))
  bif x2 then (
  let x3 : (Option Int) := (some (3 : Int))
  some ((), (((0 : Int), ()), ((x3, ()), ()))))
  else (
  (g_figures_Whole ((), (d.2.1, (((1 : Int), ()), (((9 : Int), ()), ()))))).bind fun x4 =>
  let x5 : Bool := (!x4.2.2.1.1.isNone)
  bif x5 then (
  some ((), (((0 : Int), ()), x4.2.2)))
  else (
  let x6 : Int := (d.2.1.1.size : Int)
  let x7 : Int := (isub .i64 (9 : Int) x6)
  (g_strings_Repeat ((), (((⟨#[48]⟩ : ByteArray), ()), ((x7, ()), ())))).bind fun x8 =>
  bif fitsS d.2.1.1 x8.2.1.1 then (
  let x9 : ByteArray := (d.2.1.1 ++ x8.2.1.1)
  (g_figures_Whole ((), ((x9, ()), (((9 : Int), ()), (((9 : Int), ()), ()))))).bind fun x10 =>
  some ((), x10.2))
  else none))
def g_figures_Fraction (d : Unit × ((ByteArray × Unit) × Unit)) : Option (Unit × ((Int × Unit) × (((Option Int) × Unit) × Unit))) := f_figures_Fraction_m () d
theorem ok_figures_Fraction : FnOk Tryz.prog ET0 145 pi_figures_Fraction po_figures_Fraction g_figures_Fraction :=
  fn0 (E := ((E0.add 165 (typedSem pi_strings_Repeat po_strings_Repeat g_strings_Repeat)).add 188 (typedSem pi_figures_Whole po_figures_Whole g_figures_Whole))) (envOk_add (envOk_add e0_ok (typed_ok ok_strings_Repeat)) (typed_ok ok_figures_Whole)) (fn := Tryz.f145) Tryz.func145 (by kernel_rfl) (by kernel_rfl) [.tmp 2, .tmp 3] (by kernel_rfl) rfl rfl rfl [] fun d => by kernel_rfl

@[reducible] def pi_iso_reader_exact_io : PSh := ⟨[.var 176 [vS, vI, vE]], [.mk true [.ref 0 0], .mk false [v8]]⟩
@[reducible] def po_iso_reader_exact_io : PSh := ⟨[.var 176 [vS, vI, vE]], [.mk false [.ref 0 0]]⟩
def f_iso_reader_exact_io_m (T : Unit) (d : ((ByteArray × (Int × ((Option Int) × Unit))) × Unit) × (Unit × ((Int × Unit) × Unit))) : Option (((ByteArray × (Int × ((Option Int) × Unit))) × Unit) × (Unit × Unit)) :=
  (g_scan_Scanner_string_Take_io (d.1, ((), d.2.2))).bind fun x1 =>
  let x2 : Bool := (!x1.2.1.1)
  bif x2 then (
  let x3 : (Option Int) := (some (2 : Int))
  (g_scan_Scanner_string_Fail_io (x1.1, ((), ((x3, ()), ())))).bind fun x4 =>
  some (x4.1, ((), ())))
  else (
  some (x1.1, ((), ())))
def c_iso_reader_exact_io : List Nat := []
def L_iso_reader_exact_io (_ : Nat) : Pts po_iso_reader_exact_io.den := []
def R_iso_reader_exact_io (_ : Nat) : PtsR po_iso_reader_exact_io.den := []
def E_iso_reader_exact_io : Env := (((E0.add 47 (ioSem pi_scan_Scanner_string_Fail_io po_scan_Scanner_string_Fail_io 0 [(0, 0, none)] g_scan_Scanner_string_Fail_io)).add 121 (ioSem pi_scan_Scanner_string_Take_io po_scan_Scanner_string_Take_io 1 [(0, 0, none)] g_scan_Scanner_string_Take_io)).kp [0])
theorem q_iso_reader_exact_io_m (k : Nat) (d : pi_iso_reader_exact_io.den) : evCode E_iso_reader_exact_io (tb (L_iso_reader_exact_io k) (R_iso_reader_exact_io k)) c_iso_reader_exact_io (bodyOf Tryz.f197) 0 (finKio E_iso_reader_exact_io po_iso_reader_exact_io [] [(0, some 0)]) (startSt pi_iso_reader_exact_io 13 d) = f_iso_reader_exact_io_m () d := by kernel_rfl
def g_iso_reader_exact_io (d : ((ByteArray × (Int × ((Option Int) × Unit))) × Unit) × (Unit × ((Int × Unit) × Unit))) : Option (((ByteArray × (Int × ((Option Int) × Unit))) × Unit) × (Unit × Unit)) := f_iso_reader_exact_io_m () d
theorem ok_iso_reader_exact_io : FnIo Tryz.prog ET0 197 pi_iso_reader_exact_io po_iso_reader_exact_io 0 [(0, 0, some 0)] g_iso_reader_exact_io :=
  fn_of_bodyIo (E := E_iso_reader_exact_io) (envOk_kp (envOk_add (envOk_add e0_ok (io_ok ok_scan_Scanner_string_Fail_io)) (io_ok ok_scan_Scanner_string_Take_io))) (fn := Tryz.f197) Tryz.func197 (by kernel_rfl) (by kernel_rfl) [] [(0, some 0)] [(0, 0, some 0)] (by kernel_rfl) (by kernel_rfl) (by kernel_rfl) (by kernel_rfl) (by decide) (by decide) c_iso_reader_exact_io L_iso_reader_exact_io R_iso_reader_exact_io
    (by intro x hx; cases hx) (by intro k x hx; cases hx) (by intro x hx; cases hx) (by intro k x hx; cases hx) (fun d out h => ⟨0, (q_iso_reader_exact_io_m 0 d).trans h⟩)

@[reducible] def pi_iso_reader_date_io : PSh := ⟨[.var 176 [vS, vI, vE]], [.mk true [.ref 0 0]]⟩
@[reducible] def po_iso_reader_date_io : PSh := ⟨[.var 176 [vS, vI, vE]], [.mk false [vI], .mk false [vI], .mk false [vI], .mk false [.ref 0 0]]⟩
def f_iso_reader_date_io_m (T : Unit) (d : ((ByteArray × (Int × ((Option Int) × Unit))) × Unit) × (Unit × Unit)) : Option (((ByteArray × (Int × ((Option Int) × Unit))) × Unit) × ((Int × Unit) × ((Int × Unit) × ((Int × Unit) × (Unit × Unit))))) :=
  (g_scan_Scanner_string_Figures_io (d.1, ((), (((4 : Int), ()), (((4 : Int), ()), ()))))).bind fun x1 =>
  (g_iso_reader_exact_io (x1.1, ((), (((45 : Int), ()), ())))).bind fun x2 =>
  (g_scan_Scanner_string_Figures_io (x2.1, ((), (((2 : Int), ()), (((2 : Int), ()), ()))))).bind fun x3 =>
  (g_iso_reader_exact_io (x3.1, ((), (((45 : Int), ()), ())))).bind fun x4 =>
  (g_scan_Scanner_string_Figures_io (x4.1, ((), (((2 : Int), ()), (((2 : Int), ()), ()))))).bind fun x5 =>
  some (x5.1, (x1.2.1, (x3.2.1, (x5.2.1, ((), ())))))
def c_iso_reader_date_io : List Nat := []
def L_iso_reader_date_io (_ : Nat) : Pts po_iso_reader_date_io.den := []
def R_iso_reader_date_io (_ : Nat) : PtsR po_iso_reader_date_io.den := []
def E_iso_reader_date_io : Env := (((E0.add 118 (ioSem pi_scan_Scanner_string_Figures_io po_scan_Scanner_string_Figures_io 1 [(0, 0, none)] g_scan_Scanner_string_Figures_io)).add 197 (ioSem pi_iso_reader_exact_io po_iso_reader_exact_io 0 [(0, 0, some 0)] g_iso_reader_exact_io)).kp [0])
theorem q_iso_reader_date_io_m (k : Nat) (d : pi_iso_reader_date_io.den) : evCode E_iso_reader_date_io (tb (L_iso_reader_date_io k) (R_iso_reader_date_io k)) c_iso_reader_date_io (bodyOf Tryz.f141) 0 (finKio E_iso_reader_date_io po_iso_reader_date_io [.tmp 2, .tmp 3, .tmp 4] [(0, some 0)]) (startSt pi_iso_reader_date_io 20 d) = f_iso_reader_date_io_m () d := by kernel_rfl
def g_iso_reader_date_io (d : ((ByteArray × (Int × ((Option Int) × Unit))) × Unit) × (Unit × Unit)) : Option (((ByteArray × (Int × ((Option Int) × Unit))) × Unit) × ((Int × Unit) × ((Int × Unit) × ((Int × Unit) × (Unit × Unit))))) := f_iso_reader_date_io_m () d
theorem ok_iso_reader_date_io : FnIo Tryz.prog ET0 141 pi_iso_reader_date_io po_iso_reader_date_io 3 [(0, 0, some 0)] g_iso_reader_date_io :=
  fn_of_bodyIo (E := E_iso_reader_date_io) (envOk_kp (envOk_add (envOk_add e0_ok (io_ok ok_scan_Scanner_string_Figures_io)) (io_ok ok_iso_reader_exact_io))) (fn := Tryz.f141) Tryz.func141 (by kernel_rfl) (by kernel_rfl) [.tmp 2, .tmp 3, .tmp 4] [(0, some 0)] [(0, 0, some 0)] (by kernel_rfl) (by kernel_rfl) (by kernel_rfl) (by kernel_rfl) (by decide) (by decide) c_iso_reader_date_io L_iso_reader_date_io R_iso_reader_date_io
    (by intro x hx; cases hx) (by intro k x hx; cases hx) (by intro x hx; cases hx) (by intro k x hx; cases hx) (fun d out h => ⟨0, (q_iso_reader_date_io_m 0 d).trans h⟩)

@[reducible] def pi_iso_reader_number_io : PSh := ⟨[.var 176 [vS, vI, vE]], [.mk true [.ref 0 0], .mk false [vS], .mk false [vI]]⟩
@[reducible] def po_iso_reader_number_io : PSh := ⟨[.var 176 [vS, vI, vE]], [.mk false [vI], .mk false [.ref 0 0]]⟩
def f_iso_reader_number_io_m (T : Unit) (d : ((ByteArray × (Int × ((Option Int) × Unit))) × Unit) × (Unit × ((ByteArray × Unit) × ((Int × Unit) × Unit)))) : Option (((ByteArray × (Int × ((Option Int) × Unit))) × Unit) × ((Int × Unit) × (Unit × Unit))) :=
  (g_scan_Scanner_string_Must_io (d.1, ((), (d.2.2.1, ())))).bind fun x1 =>
  (g_scan_Scanner_string_Figures_io (x1.1, ((), (d.2.2.2.1, d.2.2.2)))).bind fun x2 =>
  some (x2.1, (x2.2.1, ((), ())))
def c_iso_reader_number_io : List Nat := []
def L_iso_reader_number_io (_ : Nat) : Pts po_iso_reader_number_io.den := []
def R_iso_reader_number_io (_ : Nat) : PtsR po_iso_reader_number_io.den := []
def E_iso_reader_number_io : Env := (((E0.add 117 (ioSem pi_scan_Scanner_string_Must_io po_scan_Scanner_string_Must_io 0 [(0, 0, none)] g_scan_Scanner_string_Must_io)).add 118 (ioSem pi_scan_Scanner_string_Figures_io po_scan_Scanner_string_Figures_io 1 [(0, 0, none)] g_scan_Scanner_string_Figures_io)).kp [0])
theorem q_iso_reader_number_io_m (k : Nat) (d : pi_iso_reader_number_io.den) : evCode E_iso_reader_number_io (tb (L_iso_reader_number_io k) (R_iso_reader_number_io k)) c_iso_reader_number_io (bodyOf Tryz.f142) 0 (finKio E_iso_reader_number_io po_iso_reader_number_io [.tmp 6] [(0, some 0)]) (startSt pi_iso_reader_number_io 16 d) = f_iso_reader_number_io_m () d := by kernel_rfl
def g_iso_reader_number_io (d : ((ByteArray × (Int × ((Option Int) × Unit))) × Unit) × (Unit × ((ByteArray × Unit) × ((Int × Unit) × Unit)))) : Option (((ByteArray × (Int × ((Option Int) × Unit))) × Unit) × ((Int × Unit) × (Unit × Unit))) := f_iso_reader_number_io_m () d
theorem ok_iso_reader_number_io : FnIo Tryz.prog ET0 142 pi_iso_reader_number_io po_iso_reader_number_io 1 [(0, 0, some 0)] g_iso_reader_number_io :=
  fn_of_bodyIo (E := E_iso_reader_number_io) (envOk_kp (envOk_add (envOk_add e0_ok (io_ok ok_scan_Scanner_string_Must_io)) (io_ok ok_scan_Scanner_string_Figures_io))) (fn := Tryz.f142) Tryz.func142 (by kernel_rfl) (by kernel_rfl) [.tmp 6] [(0, some 0)] [(0, 0, some 0)] (by kernel_rfl) (by kernel_rfl) (by kernel_rfl) (by kernel_rfl) (by decide) (by decide) c_iso_reader_number_io L_iso_reader_number_io R_iso_reader_number_io
    (by intro x hx; cases hx) (by intro k x hx; cases hx) (by intro x hx; cases hx) (by intro k x hx; cases hx) (fun d out h => ⟨0, (q_iso_reader_number_io_m 0 d).trans h⟩)

@[reducible] def pi_iso_reader_fraction_io : PSh := ⟨[.var 176 [vS, vI, vE]], [.mk true [.ref 0 0]]⟩
@[reducible] def po_iso_reader_fraction_io : PSh := ⟨[.var 176 [vS, vI, vE]], [.mk false [vS], .mk false [.ref 0 0]]⟩
def f_iso_reader_fraction_io_m (T : Unit) (d : ((ByteArray × (Int × ((Option Int) × Unit))) × Unit) × (Unit × Unit)) : Option (((ByteArray × (Int × ((Option Int) × Unit))) × Unit) × ((ByteArray × Unit) × (Unit × Unit))) :=
  (g_scan_Scanner_string_Take_io (d.1, ((), (((46 : Int), ()), ())))).bind fun x1 =>
  let x2 : Bool := (!x1.2.1.1)
  bif x2 then (
  some (x1.1, (((⟨#[]⟩ : ByteArray), ()), ((), ()))))
  else (
  (g_scan_Scanner_string_Run_io (x1.1, ((), (((⟨#[48, 49, 50, 51, 52, 53, 54, 55, 56, 57]⟩ : ByteArray), ()), ())))).bind fun x3 =>
  let x4 : Bool := (x3.2.1.1.toList == (⟨#[]⟩ : ByteArray).toList)
  bif x4 then (
  let x5 : (Option Int) := (some (2 : Int))
  (g_scan_Scanner_string_Fail_io (x3.1, ((), ((x5, ()), ())))).bind fun x6 =>
  some (x6.1, (x3.2.1, ((), ()))))
  else (
  some (x3.1, (x3.2.1, ((), ())))))
def c_iso_reader_fraction_io : List Nat := []
def L_iso_reader_fraction_io (_ : Nat) : Pts po_iso_reader_fraction_io.den := []
def R_iso_reader_fraction_io (_ : Nat) : PtsR po_iso_reader_fraction_io.den := []
def E_iso_reader_fraction_io : Env := ((((E0.add 47 (ioSem pi_scan_Scanner_string_Fail_io po_scan_Scanner_string_Fail_io 0 [(0, 0, none)] g_scan_Scanner_string_Fail_io)).add 121 (ioSem pi_scan_Scanner_string_Take_io po_scan_Scanner_string_Take_io 1 [(0, 0, none)] g_scan_Scanner_string_Take_io)).add 123 (ioSem pi_scan_Scanner_string_Run_io po_scan_Scanner_string_Run_io 1 [(0, 0, none)] g_scan_Scanner_string_Run_io)).kp [0])
theorem q_iso_reader_fraction_io_m (k : Nat) (d : pi_iso_reader_fraction_io.den) : evCode E_iso_reader_fraction_io (tb (L_iso_reader_fraction_io k) (R_iso_reader_fraction_io k)) c_iso_reader_fraction_io (bodyOf Tryz.f143) 0 (finKio E_iso_reader_fraction_io po_iso_reader_fraction_io [.tmp 2] [(0, some 0)]) (startSt pi_iso_reader_fraction_io 18 d) = f_iso_reader_fraction_io_m () d := by kernel_rfl
def g_iso_reader_fraction_io (d : ((ByteArray × (Int × ((Option Int) × Unit))) × Unit) × (Unit × Unit)) : Option (((ByteArray × (Int × ((Option Int) × Unit))) × Unit) × ((ByteArray × Unit) × (Unit × Unit))) := f_iso_reader_fraction_io_m () d
theorem ok_iso_reader_fraction_io : FnIo Tryz.prog ET0 143 pi_iso_reader_fraction_io po_iso_reader_fraction_io 1 [(0, 0, some 0)] g_iso_reader_fraction_io :=
  fn_of_bodyIo (E := E_iso_reader_fraction_io) (envOk_kp (envOk_add (envOk_add (envOk_add e0_ok (io_ok ok_scan_Scanner_string_Fail_io)) (io_ok ok_scan_Scanner_string_Take_io)) (io_ok ok_scan_Scanner_string_Run_io))) (fn := Tryz.f143) Tryz.func143 (by kernel_rfl) (by kernel_rfl) [.tmp 2] [(0, some 0)] [(0, 0, some 0)] (by kernel_rfl) (by kernel_rfl) (by kernel_rfl) (by kernel_rfl) (by decide) (by decide) c_iso_reader_fraction_io L_iso_reader_fraction_io R_iso_reader_fraction_io
    (by intro x hx; cases hx) (by intro k x hx; cases hx) (by intro x hx; cases hx) (by intro k x hx; cases hx) (fun d out h => ⟨0, (q_iso_reader_fraction_io_m 0 d).trans h⟩)

@[reducible] def pi_iso_reader_offset_io : PSh := ⟨[.var 176 [vS, vI, vE]], [.mk true [.ref 0 0]]⟩
@[reducible] def po_iso_reader_offset_io : PSh := ⟨[.var 176 [vS, vI, vE]], [.mk false [vI], .mk false [vB], .mk false [.ref 0 0]]⟩
def f_iso_reader_offset_io_m (T : Unit) (d : ((ByteArray × (Int × ((Option Int) × Unit))) × Unit) × (Unit × Unit)) : Option (((ByteArray × (Int × ((Option Int) × Unit))) × Unit) × ((Int × Unit) × ((Bool × Unit) × (Unit × Unit)))) :=
  (g_scan_Scanner_string_Fold_io (d.1, ((), (((⟨#[90]⟩ : ByteArray), ()), ())))).bind fun x1 =>
  bif x1.2.1.1 then (
  some (x1.1, (((0 : Int), ()), ((true, ()), ((), ())))))
  else (
  (g_scan_Scanner_string_Take_io (x1.1, ((), (((45 : Int), ()), ())))).bind fun x2 =>
  let x3 : Bool := (!x2.2.1.1)
  bif x3 then (
  (g_iso_reader_exact_io (x2.1, ((), (((43 : Int), ()), ())))).bind fun x4 =>
  (g_scan_Scanner_string_Figures_io (x4.1, ((), (((2 : Int), ()), (((2 : Int), ()), ()))))).bind fun x5 =>
  (g_iso_reader_number_io (x5.1, ((), (((⟨#[58]⟩ : ByteArray), ()), (((2 : Int), ()), ()))))).bind fun x6 =>
  let x7 : Int := (imul .i64 x5.2.1.1 (60 : Int))
  let x8 : Int := (iadd .i64 x7 x6.2.1.1)
  bif x2.2.1.1 then (
  let x9 : Int := (ineg .i64 x8)
  let x10 : Bool := (decide (x5.2.1.1 < (24 : Int)))
  bif x10 then (
  let x11 : Bool := (decide (x6.2.1.1 < (60 : Int)))
  some (x6.1, ((x9, ()), ((x11, ()), ((), ())))))
  else (
  some (x6.1, ((x9, ()), ((false, ()), ((), ()))))))
  else (
  let x12 : Bool := (decide (x5.2.1.1 < (24 : Int)))
  bif x12 then (
  let x13 : Bool := (decide (x6.2.1.1 < (60 : Int)))
  some (x6.1, ((x8, ()), ((x13, ()), ((), ())))))
  else (
  some (x6.1, ((x8, ()), ((false, ()), ((), ())))))))
  else (
  (g_scan_Scanner_string_Figures_io (x2.1, ((), (((2 : Int), ()), (((2 : Int), ()), ()))))).bind fun x14 =>
  (g_iso_reader_number_io (x14.1, ((), (((⟨#[58]⟩ : ByteArray), ()), (((2 : Int), ()), ()))))).bind fun x15 =>
  let x16 : Int := (imul .i64 x14.2.1.1 (60 : Int))
  let x17 : Int := (iadd .i64 x16 x15.2.1.1)
  bif x2.2.1.1 then (
  let x18 : Int := (ineg .i64 x17)
  let x19 : Bool := (decide (x14.2.1.1 < (24 : Int)))
  bif x19 then (
  let x20 : Bool := (decide (x15.2.1.1 < (60 : Int)))
  some (x15.1, ((x18, ()), ((x20, ()), ((), ())))))
  else (
  some (x15.1, ((x18, ()), ((false, ()), ((), ()))))))
  else (
  let x21 : Bool := (decide (x14.2.1.1 < (24 : Int)))
  bif x21 then (
  let x22 : Bool := (decide (x15.2.1.1 < (60 : Int)))
  some (x15.1, ((x17, ()), ((x22, ()), ((), ())))))
  else (
  some (x15.1, ((x17, ()), ((false, ()), ((), ()))))))))
def c_iso_reader_offset_io : List Nat := []
def L_iso_reader_offset_io (_ : Nat) : Pts po_iso_reader_offset_io.den := []
def R_iso_reader_offset_io (_ : Nat) : PtsR po_iso_reader_offset_io.den := []
def E_iso_reader_offset_io : Env := ((((((E0.add 118 (ioSem pi_scan_Scanner_string_Figures_io po_scan_Scanner_string_Figures_io 1 [(0, 0, none)] g_scan_Scanner_string_Figures_io)).add 121 (ioSem pi_scan_Scanner_string_Take_io po_scan_Scanner_string_Take_io 1 [(0, 0, none)] g_scan_Scanner_string_Take_io)).add 142 (ioSem pi_iso_reader_number_io po_iso_reader_number_io 1 [(0, 0, some 0)] g_iso_reader_number_io)).add 185 (ioSem pi_scan_Scanner_string_Fold_io po_scan_Scanner_string_Fold_io 1 [(0, 0, none)] g_scan_Scanner_string_Fold_io)).add 197 (ioSem pi_iso_reader_exact_io po_iso_reader_exact_io 0 [(0, 0, some 0)] g_iso_reader_exact_io)).kp [0])
theorem q_iso_reader_offset_io_m (k : Nat) (d : pi_iso_reader_offset_io.den) : evCode E_iso_reader_offset_io (tb (L_iso_reader_offset_io k) (R_iso_reader_offset_io k)) c_iso_reader_offset_io (bodyOf Tryz.f144) 0 (finKio E_iso_reader_offset_io po_iso_reader_offset_io [.tmp 2, .tmp 3] [(0, some 0)]) (startSt pi_iso_reader_offset_io 37 d) = f_iso_reader_offset_io_m () d := by kernel_rfl
def g_iso_reader_offset_io (d : ((ByteArray × (Int × ((Option Int) × Unit))) × Unit) × (Unit × Unit)) : Option (((ByteArray × (Int × ((Option Int) × Unit))) × Unit) × ((Int × Unit) × ((Bool × Unit) × (Unit × Unit)))) := f_iso_reader_offset_io_m () d
theorem ok_iso_reader_offset_io : FnIo Tryz.prog ET0 144 pi_iso_reader_offset_io po_iso_reader_offset_io 2 [(0, 0, some 0)] g_iso_reader_offset_io :=
  fn_of_bodyIo (E := E_iso_reader_offset_io) (envOk_kp (envOk_add (envOk_add (envOk_add (envOk_add (envOk_add e0_ok (io_ok ok_scan_Scanner_string_Figures_io)) (io_ok ok_scan_Scanner_string_Take_io)) (io_ok ok_iso_reader_number_io)) (io_ok ok_scan_Scanner_string_Fold_io)) (io_ok ok_iso_reader_exact_io))) (fn := Tryz.f144) Tryz.func144 (by kernel_rfl) (by kernel_rfl) [.tmp 2, .tmp 3] [(0, some 0)] [(0, 0, some 0)] (by kernel_rfl) (by kernel_rfl) (by kernel_rfl) (by kernel_rfl) (by decide) (by decide) c_iso_reader_offset_io L_iso_reader_offset_io R_iso_reader_offset_io
    (by intro x hx; cases hx) (by intro k x hx; cases hx) (by intro x hx; cases hx) (by intro k x hx; cases hx) (fun d out h => ⟨0, (q_iso_reader_offset_io_m 0 d).trans h⟩)

@[reducible] def pi_iso_Parse : PSh := ⟨[], [.mk false [vS]]⟩
@[reducible] def po_iso_Parse : PSh := ⟨[], [.mk true [vI, vI, vI, vI, vI, vI, vI, vI], .mk false [vE]]⟩
def f_iso_Parse_m (T : Unit) (d : Unit × ((ByteArray × Unit) × Unit)) : Option (Unit × ((Int × (Int × (Int × (Int × (Int × (Int × (Int × (Int × Unit)))))))) × (((Option Int) × Unit) × Unit))) :=
  (g_scan_New_string ((), d.2)).bind fun x1 =>
  (g_iso_reader_date_io (x1.1, ((), ()))).bind fun x2 =>
  (g_iso_reader_number_io (x2.1, ((), (((⟨#[84]⟩ : ByteArray), ()), (((2 : Int), ()), ()))))).bind fun x3 =>
  (g_iso_reader_number_io (x3.1, ((), (((⟨#[58]⟩ : ByteArray), ()), (((2 : Int), ()), ()))))).bind fun x4 =>
  (g_iso_reader_number_io (x4.1, ((), (((⟨#[58]⟩ : ByteArray), ()), (((2 : Int), ()), ()))))).bind fun x5 =>
  (g_iso_reader_fraction_io (x5.1, ((), ()))).bind fun x6 =>
  (g_iso_reader_offset_io (x6.1, ((), ()))).bind fun x7 =>
  (g_scan_Scanner_string_End ((), (((some (x7.1.1.1, (x7.1.1.2.1, x7.1.1.2.2.1))), ()), ()))).bind fun x8 =>
  let x9 : Bool := (!x8.2.1.1.isNone)
  bif x9 then (
  let x10 : (Option Int) := (some (2 : Int))
  some ((), (((0 : Int), ((0 : Int), ((0 : Int), ((0 : Int), ((0 : Int), ((0 : Int), ((0 : Int), ((0 : Int), ())))))))), ((x10, ()), ()))))
  else (
  let x11 : Int := (x6.2.1.1.size : Int)
  let x12 : Bool := (decide (x11 > (9 : Int)))
  bif x12 then (
  let x13 : (Option Int) := (some (3 : Int))
  some ((), (((0 : Int), ((0 : Int), ((0 : Int), ((0 : Int), ((0 : Int), ((0 : Int), ((0 : Int), ((0 : Int), ())))))))), ((x13, ()), ()))))
  else (
  let x14 : Bool := (!x7.2.2.1.1)
  bif x14 then (
  let x15 : (Option Int) := (some (1 : Int))
  some ((), (((0 : Int), ((0 : Int), ((0 : Int), ((0 : Int), ((0 : Int), ((0 : Int), ((0 : Int), ((0 : Int), ())))))))), ((x15, ()), ()))))
  else (
  let x16 : Bool := (!(x6.2.1.1.toList == (⟨#[]⟩ : ByteArray).toList))
  bif x16 then (
  (g_figures_Fraction ((), (x6.2.1, ()))).bind fun x17 =>
  let x18 : Bool := (!x17.2.2.1.1.isNone)
  bif x18 then (
  some ((), (((0 : Int), ((0 : Int), ((0 : Int), ((0 : Int), ((0 : Int), ((0 : Int), ((0 : Int), ((0 : Int), ())))))))), x17.2.2)))
  else (
  (g_label_Check ((), ((x2.2.1.1, (x2.2.2.1.1, (x2.2.2.2.1.1, (x3.2.1.1, (x4.2.1.1, (x5.2.1.1, (x17.2.1.1, x7.2.1))))))), ()))).bind fun x19 =>
  let x20 : Bool := (!x19.2.1.1.isNone)
  bif x20 then (
  some ((), (((0 : Int), ((0 : Int), ((0 : Int), ((0 : Int), ((0 : Int), ((0 : Int), ((0 : Int), ((0 : Int), ())))))))), x19.2)))
  else (
  some ((), ((x2.2.1.1, (x2.2.2.1.1, (x2.2.2.2.1.1, (x3.2.1.1, (x4.2.1.1, (x5.2.1.1, (x17.2.1.1, x7.2.1))))))), (((none : Option Int), ()), ()))))))
  else (
  (g_label_Check ((), ((x2.2.1.1, (x2.2.2.1.1, (x2.2.2.2.1.1, (x3.2.1.1, (x4.2.1.1, (x5.2.1.1, ((0 : Int), x7.2.1))))))), ()))).bind fun x21 =>
  let x22 : Bool := (!x21.2.1.1.isNone)
  bif x22 then (
  some ((), (((0 : Int), ((0 : Int), ((0 : Int), ((0 : Int), ((0 : Int), ((0 : Int), ((0 : Int), ((0 : Int), ())))))))), x21.2)))
  else (
  some ((), ((x2.2.1.1, (x2.2.2.1.1, (x2.2.2.2.1.1, (x3.2.1.1, (x4.2.1.1, (x5.2.1.1, ((0 : Int), x7.2.1))))))), (((none : Option Int), ()), ()))))))))
def g_iso_Parse (d : Unit × ((ByteArray × Unit) × Unit)) : Option (Unit × ((Int × (Int × (Int × (Int × (Int × (Int × (Int × (Int × Unit)))))))) × (((Option Int) × Unit) × Unit))) := f_iso_Parse_m () d
theorem ok_iso_Parse : FnOk Tryz.prog ET0 67 pi_iso_Parse po_iso_Parse g_iso_Parse :=
  fn0 (E := ((((((((E0.add 43 (typedSem pi_scan_New_string po_scan_New_string g_scan_New_string)).add 50 (typedSem pi_scan_Scanner_string_End po_scan_Scanner_string_End g_scan_Scanner_string_End)).add 51 (typedSem pi_label_Check po_label_Check g_label_Check)).add 141 (ioSem pi_iso_reader_date_io po_iso_reader_date_io 3 [(0, 0, some 0)] g_iso_reader_date_io)).add 142 (ioSem pi_iso_reader_number_io po_iso_reader_number_io 1 [(0, 0, some 0)] g_iso_reader_number_io)).add 143 (ioSem pi_iso_reader_fraction_io po_iso_reader_fraction_io 1 [(0, 0, some 0)] g_iso_reader_fraction_io)).add 144 (ioSem pi_iso_reader_offset_io po_iso_reader_offset_io 2 [(0, 0, some 0)] g_iso_reader_offset_io)).add 145 (typedSem pi_figures_Fraction po_figures_Fraction g_figures_Fraction))) (envOk_add (envOk_add (envOk_add (envOk_add (envOk_add (envOk_add (envOk_add (envOk_add e0_ok (typed_ok ok_scan_New_string)) (typed_ok ok_scan_Scanner_string_End)) (typed_ok ok_label_Check)) (io_ok ok_iso_reader_date_io)) (io_ok ok_iso_reader_number_io)) (io_ok ok_iso_reader_fraction_io)) (io_ok ok_iso_reader_offset_io)) (typed_ok ok_figures_Fraction)) (fn := Tryz.f67) Tryz.func67 (by kernel_rfl) (by kernel_rfl) [.cell 2 28, .tmp 3] (by kernel_rfl) rfl rfl rfl [] fun d => by kernel_rfl

@[reducible] def pi_nist_modulo : PSh := ⟨[], [.mk false [vI], .mk false [vI]]⟩
@[reducible] def po_nist_modulo : PSh := ⟨[], [.mk false [vI]]⟩
def f_nist_modulo_m (T : Unit) (d : Unit × ((Int × Unit) × ((Int × Unit) × Unit))) : Option (Unit × ((Int × Unit) × Unit)) :=
  bif (d.2.2.1.1 == 0) then (
  none)
  else (
  let x1 : Int := (Int.tmod d.2.1.1 d.2.2.1.1)
  let x2 : Int := (iadd .i64 x1 d.2.2.1.1)
  bif (d.2.2.1.1 == 0) then (
  none)
  else (
  let x3 : Int := (Int.tmod x2 d.2.2.1.1)
  some ((), ((x3, ()), ()))))
def g_nist_modulo (d : Unit × ((Int × Unit) × ((Int × Unit) × Unit))) : Option (Unit × ((Int × Unit) × Unit)) := f_nist_modulo_m () d
theorem ok_nist_modulo : FnOk Tryz.prog ET0 92 pi_nist_modulo po_nist_modulo g_nist_modulo :=
  fn0 (E := E0) e0_ok (fn := Tryz.f92) Tryz.func92 (by kernel_rfl) (by kernel_rfl) [.tmp 4] (by kernel_rfl) rfl rfl rfl [] fun d => by kernel_rfl

@[reducible] def pi_mjd_Day : PSh := ⟨[], [.mk false [vI], .mk false [vI]]⟩
@[reducible] def po_mjd_Day : PSh := ⟨[], [.mk false [vI], .mk false [vE]]⟩
def f_mjd_Day_m (T : Unit) (d : Unit × ((Int × Unit) × ((Int × Unit) × Unit))) : Option (Unit × ((Int × Unit) × (((Option Int) × Unit) × Unit))) :=
  (g_mjd_zero ((), (d.2.1, ()))).bind fun x1 =>
  let x2 : Bool := (!x1.2.2.1.1.isNone)
  bif x2 then (
  some ((), (((0 : Int), ()), x1.2.2)))
  else (
  (g_day_First ((), ())).bind fun x3 =>
  let x4 : Int := (iadd .i64 x3.2.1.1 x1.2.1.1)
  let x5 : Bool := (decide (d.2.2.1.1 < x4))
  bif x5 then (
  let x6 : (Option Int) := (some (13 : Int))
  some ((), (((0 : Int), ()), ((x6, ()), ()))))
  else (
  (g_day_Last ((), ())).bind fun x7 =>
  let x8 : Int := (iadd .i64 x7.2.1.1 x1.2.1.1)
  let x9 : Bool := (decide (d.2.2.1.1 > x8))
  bif x9 then (
  let x10 : (Option Int) := (some (13 : Int))
  some ((), (((0 : Int), ()), ((x10, ()), ()))))
  else (
  let x11 : Int := (isub .i64 d.2.2.1.1 x1.2.1.1)
  some ((), ((x11, ()), (((none : Option Int), ()), ()))))))
def g_mjd_Day (d : Unit × ((Int × Unit) × ((Int × Unit) × Unit))) : Option (Unit × ((Int × Unit) × (((Option Int) × Unit) × Unit))) := f_mjd_Day_m () d
theorem ok_mjd_Day : FnOk Tryz.prog ET0 198 pi_mjd_Day po_mjd_Day g_mjd_Day :=
  fn0 (E := (((E0.add 158 (typedSem pi_mjd_zero po_mjd_zero g_mjd_zero)).add 160 (typedSem pi_day_First po_day_First g_day_First)).add 161 (typedSem pi_day_Last po_day_Last g_day_Last))) (envOk_add (envOk_add (envOk_add e0_ok (typed_ok ok_mjd_zero)) (typed_ok ok_day_First)) (typed_ok ok_day_Last)) (fn := Tryz.f198) Tryz.func198 (by kernel_rfl) (by kernel_rfl) [.tmp 4, .tmp 5] (by kernel_rfl) rfl rfl rfl [] fun d => by kernel_rfl

@[reducible] def pi_nist_Line_told : PSh := ⟨[], [.mk true [vI, vI, vI, vI, vI, vI, vB], .mk false [vI], .mk true [vI, vI, vI], .mk true [vI, vI, vI]]⟩
@[reducible] def po_nist_Line_told : PSh := ⟨[], [.mk true [vI, vI, vI, vI, vI, vI, vB], .mk false [vE]]⟩
def f_nist_Line_told_m (T : Unit) (d : Unit × ((Int × (Int × (Int × (Int × (Int × (Int × (Bool × Unit))))))) × ((Int × Unit) × ((Int × (Int × (Int × Unit))) × ((Int × (Int × (Int × Unit))) × Unit))))) : Option (Unit × ((Int × (Int × (Int × (Int × (Int × (Int × (Bool × Unit))))))) × (((Option Int) × Unit) × Unit))) :=
  (g_mjd_Day ((), (((1 : Int), ()), (d.2.2.1, ())))).bind fun x1 =>
  let x2 : Bool := (!x1.2.2.1.1.isNone)
  bif x2 then (
  some ((), (((0 : Int), ((0 : Int), ((0 : Int), ((0 : Int), ((0 : Int), ((0 : Int), (false, ()))))))), x1.2.2)))
  else (
  (g_day_Date ((), (x1.2.1, ()))).bind fun x3 =>
  let x4 : Bool := (!x3.2.2.2.2.1.1.isNone)
  bif x4 then (
  some ((), (((0 : Int), ((0 : Int), ((0 : Int), ((0 : Int), ((0 : Int), ((0 : Int), (false, ()))))))), x3.2.2.2.2)))
  else (
  (g_nist_modulo ((), (x3.2.1, (((100 : Int), ()), ())))).bind fun x5 =>
  let x6 : Bool := (!((d.2.2.2.1.1 == x5.2.1.1) && ((d.2.2.2.1.2.1 == x3.2.2.1.1) && ((d.2.2.2.1.2.2.1 == x3.2.2.2.1.1) && true))))
  bif x6 then (
  let x7 : (Option Int) := (some (10 : Int))
  some ((), (((0 : Int), ((0 : Int), ((0 : Int), ((0 : Int), ((0 : Int), ((0 : Int), (false, ()))))))), ((x7, ()), ()))))
  else (
  let x8 : Bool := (decide (d.2.2.2.2.1.1 > (23 : Int)))
  bif x8 then (
  let x9 : (Option Int) := (some (1 : Int))
  some ((), (((0 : Int), ((0 : Int), ((0 : Int), ((0 : Int), ((0 : Int), ((0 : Int), (false, ()))))))), ((x9, ()), ()))))
  else (
  let x10 : Bool := (decide (d.2.2.2.2.1.2.1 > (59 : Int)))
  bif x10 then (
  let x11 : (Option Int) := (some (1 : Int))
  some ((), (((0 : Int), ((0 : Int), ((0 : Int), ((0 : Int), ((0 : Int), ((0 : Int), (false, ()))))))), ((x11, ()), ()))))
  else (
  let x12 : Bool := (decide (d.2.2.2.2.1.2.2.1 > (60 : Int)))
  bif x12 then (
  let x13 : (Option Int) := (some (1 : Int))
  some ((), (((0 : Int), ((0 : Int), ((0 : Int), ((0 : Int), ((0 : Int), ((0 : Int), (false, ()))))))), ((x13, ()), ()))))
  else (
  let x14 : Bool := (decide (d.2.1.2.2.2.1 > (2 : Int)))
  bif x14 then (
  let x15 : (Option Int) := (some (1 : Int))
  some ((), (((0 : Int), ((0 : Int), ((0 : Int), ((0 : Int), ((0 : Int), ((0 : Int), (false, ()))))))), ((x15, ()), ()))))
  else (
  let x16 : Bool := (d.2.2.2.2.1.2.2.1 == (60 : Int))
  bif x16 then (
  let x17 : Bool := (d.2.2.2.2.1.1 != (23 : Int))
  bif x17 then (
  let x18 : (Option Int) := (some (12 : Int))
  some ((), (((0 : Int), ((0 : Int), ((0 : Int), ((0 : Int), ((0 : Int), ((0 : Int), (false, ()))))))), ((x18, ()), ()))))
  else (
  let x19 : Bool := (d.2.2.2.2.1.2.1 != (59 : Int))
  bif x19 then (
  let x20 : (Option Int) := (some (12 : Int))
  some ((), (((0 : Int), ((0 : Int), ((0 : Int), ((0 : Int), ((0 : Int), ((0 : Int), (false, ()))))))), ((x20, ()), ()))))
  else (
  let x21 : Int := (imul .i64 d.2.2.2.2.1.1 (60 : Int))
  let x22 : Int := (iadd .i64 x21 d.2.2.2.2.1.2.1)
  let x23 : Int := (imul .i64 x22 (60 : Int))
  let x24 : Int := (iadd .i64 x23 d.2.2.2.2.1.2.2.1)
  some ((), ((x1.2.1.1, (x24, d.2.1.2.2)), (((none : Option Int), ()), ()))))))
  else (
  let x25 : Int := (imul .i64 d.2.2.2.2.1.1 (60 : Int))
  let x26 : Int := (iadd .i64 x25 d.2.2.2.2.1.2.1)
  let x27 : Int := (imul .i64 x26 (60 : Int))
  let x28 : Int := (iadd .i64 x27 d.2.2.2.2.1.2.2.1)
  some ((), ((x1.2.1.1, (x28, d.2.1.2.2)), (((none : Option Int), ()), ())))))))))))
def g_nist_Line_told (d : Unit × ((Int × (Int × (Int × (Int × (Int × (Int × (Bool × Unit))))))) × ((Int × Unit) × ((Int × (Int × (Int × Unit))) × ((Int × (Int × (Int × Unit))) × Unit))))) : Option (Unit × ((Int × (Int × (Int × (Int × (Int × (Int × (Bool × Unit))))))) × (((Option Int) × Unit) × Unit))) := f_nist_Line_told_m () d
theorem ok_nist_Line_told : FnOk Tryz.prog ET0 149 pi_nist_Line_told po_nist_Line_told g_nist_Line_told :=
  fn0 (E := (((E0.add 88 (typedSem pi_day_Date po_day_Date g_day_Date)).add 92 (typedSem pi_nist_modulo po_nist_modulo g_nist_modulo)).add 198 (typedSem pi_mjd_Day po_mjd_Day g_mjd_Day))) (envOk_add (envOk_add (envOk_add e0_ok (typed_ok ok_day_Date)) (typed_ok ok_nist_modulo)) (typed_ok ok_mjd_Day)) (fn := Tryz.f149) Tryz.func149 (by kernel_rfl) (by kernel_rfl) [.cell 8 59, .tmp 9] (by kernel_rfl) rfl rfl rfl [] fun d => by kernel_rfl

@[reducible] def pi_nist_reader_exact_io : PSh := ⟨[.var 176 [vS, vI, vE]], [.mk true [.ref 0 0], .mk false [vS]]⟩
@[reducible] def po_nist_reader_exact_io : PSh := ⟨[.var 176 [vS, vI, vE]], [.mk false [.ref 0 0]]⟩
@[reducible] def TT_nist_reader_exact_io : Type := (((((ByteArray × (Int × ((Option Int) × Unit))) × (Unit × Unit)) × (Unit × ((ByteArray × Unit) × (Unit × ((Int × Unit) × ((Int × Unit) × Unit)))))) → Option (((ByteArray × (Int × ((Option Int) × Unit))) × Unit) × (Unit × Unit))) × Unit)
@[reducible] def sh_nist_reader_exact_io_2 : PSh := ⟨[.var 176 [vS, vI, vE], .var 192 [.ref 0 0]], [.mk true [.ref 0 0], .mk false [vS], .mk false [.ref 1 0], .any, .any, .any, .mk false [vI], .mk false [vI], .any, .any, .any, .any, .any, .any, .any, .any, .any, .any, .any, .any, .any, .any]⟩
def f_nist_reader_exact_io_p2 (T : TT_nist_reader_exact_io) (d : ((ByteArray × (Int × ((Option Int) × Unit))) × (Unit × Unit)) × (Unit × ((ByteArray × Unit) × (Unit × ((Int × Unit) × ((Int × Unit) × Unit)))))) : Option (((ByteArray × (Int × ((Option Int) × Unit))) × Unit) × (Unit × Unit)) :=
  let x2 : Bool := (decide (d.2.2.2.2.2.1.1 < d.2.2.2.2.1.1))
  bif x2 then (
  bif decide ((0 : Int) ≤ d.2.2.2.2.2.1.1) && decide (d.2.2.2.2.2.1.1 < ((d.2.2.1.1.size : Int) : Int)) then (
  let x3 : Int := (bt d.2.2.1.1 d.2.2.2.2.2.1.1)
  (g_scan_Scanner_string_Take_io ((d.1.1, ()), ((), ((x3, ()), ())))).bind fun x4 =>
  let x5 : Bool := (!x4.2.1.1)
  bif x5 then (
  let x6 : (Option Int) := (some (2 : Int))
  (g_scan_Scanner_string_Fail_io (x4.1, ((), ((x6, ()), ())))).bind fun x7 =>
  let x8 : Int := (iadd .i64 d.2.2.2.2.2.1.1 (1 : Int))
  (T.1 ((x7.1.1, ((), ())), ((), (d.2.2.1, ((), (d.2.2.2.2.1, ((x8, ()), ()))))))))
  else (
  let x9 : Int := (iadd .i64 d.2.2.2.2.2.1.1 (1 : Int))
  (T.1 ((x4.1.1, ((), ())), ((), (d.2.2.1, ((), (d.2.2.2.2.1, ((x9, ()), ())))))))))
  else none)
  else (
  some ((d.1.1, ()), ((), ())))
def f_nist_reader_exact_io_t : Nat → TT_nist_reader_exact_io
  | 0 => (fun _ => none, ())
  | k + 1 => (f_nist_reader_exact_io_p2 (f_nist_reader_exact_io_t k), ())
theorem t_nist_reader_exact_io (k : Nat) : f_nist_reader_exact_io_t (k + 1) = (f_nist_reader_exact_io_p2 (f_nist_reader_exact_io_t k), ()) := rfl
def f_nist_reader_exact_io_m (T : TT_nist_reader_exact_io) (d : ((ByteArray × (Int × ((Option Int) × Unit))) × Unit) × (Unit × ((ByteArray × Unit) × Unit))) : Option (((ByteArray × (Int × ((Option Int) × Unit))) × Unit) × (Unit × Unit)) :=
  let x1 : Int := (d.2.2.1.1.size : Int)
  (T.1 ((d.1.1, ((), ())), ((), (d.2.2.1, ((), ((x1, ()), (((0 : Int), ()), ())))))))
def c_nist_reader_exact_io : List Nat := []
def L_nist_reader_exact_io (k : Nat) : Pts po_nist_reader_exact_io.den := [(2, ⟨sh_nist_reader_exact_io_2, (f_nist_reader_exact_io_t k).1⟩)]
def R_nist_reader_exact_io (_ : Nat) : PtsR po_nist_reader_exact_io.den := []
def E_nist_reader_exact_io : Env := (((E0.add 47 (ioSem pi_scan_Scanner_string_Fail_io po_scan_Scanner_string_Fail_io 0 [(0, 0, none)] g_scan_Scanner_string_Fail_io)).add 121 (ioSem pi_scan_Scanner_string_Take_io po_scan_Scanner_string_Take_io 1 [(0, 0, none)] g_scan_Scanner_string_Take_io)).kp [0])
theorem q_nist_reader_exact_io_2 (k : Nat) (d : sh_nist_reader_exact_io_2.den) : evAt E_nist_reader_exact_io (tb (L_nist_reader_exact_io k) (R_nist_reader_exact_io k)) c_nist_reader_exact_io 2 (bodyOf Tryz.f146) 0 (finKio E_nist_reader_exact_io po_nist_reader_exact_io [] [(0, some 0)]) (ptSt sh_nist_reader_exact_io_2 d) = f_nist_reader_exact_io_p2 (f_nist_reader_exact_io_t k) d := by kernel_rfl
theorem q_nist_reader_exact_io_m (k : Nat) (d : pi_nist_reader_exact_io.den) : evCode E_nist_reader_exact_io (tb (L_nist_reader_exact_io k) (R_nist_reader_exact_io k)) c_nist_reader_exact_io (bodyOf Tryz.f146) 0 (finKio E_nist_reader_exact_io po_nist_reader_exact_io [] [(0, some 0)]) (startSt pi_nist_reader_exact_io 22 d) = f_nist_reader_exact_io_m (f_nist_reader_exact_io_t k) d := by kernel_rfl
def g_nist_reader_exact_io (d : ((ByteArray × (Int × ((Option Int) × Unit))) × Unit) × (Unit × ((ByteArray × Unit) × Unit))) : Option (((ByteArray × (Int × ((Option Int) × Unit))) × Unit) × (Unit × Unit)) := lim fun k => f_nist_reader_exact_io_m (f_nist_reader_exact_io_t k) d
theorem ok_nist_reader_exact_io : FnIo Tryz.prog ET0 146 pi_nist_reader_exact_io po_nist_reader_exact_io 0 [(0, 0, some 0)] g_nist_reader_exact_io :=
  fn_of_bodyIo (E := E_nist_reader_exact_io) (envOk_kp (envOk_add (envOk_add e0_ok (io_ok ok_scan_Scanner_string_Fail_io)) (io_ok ok_scan_Scanner_string_Take_io))) (fn := Tryz.f146) Tryz.func146 (by kernel_rfl) (by kernel_rfl) [] [(0, some 0)] [(0, 0, some 0)] (by kernel_rfl) (by kernel_rfl) (by kernel_rfl) (by kernel_rfl) (by decide) (by decide) c_nist_reader_exact_io L_nist_reader_exact_io R_nist_reader_exact_io
    (by intro x hx d; simp only [L_nist_reader_exact_io, List.mem_cons, List.not_mem_nil, or_false] at hx; subst hx; rfl)
    (by intro k x hx d out h; simp only [L_nist_reader_exact_io, List.mem_cons, List.not_mem_nil, or_false] at hx; subst hx; exact (q_nist_reader_exact_io_2 k d).trans h)
    (by intro x hx; cases hx)
    (by intro k x hx; cases hx)
    (by intro d out h; obtain ⟨k, hk⟩ := lim_some h; exact ⟨k, (q_nist_reader_exact_io_m k d).trans hk⟩)

@[reducible] def pi_nist_reader_number_io : PSh := ⟨[.var 176 [vS, vI, vE]], [.mk true [.ref 0 0], .mk false [vS], .mk false [vI]]⟩
@[reducible] def po_nist_reader_number_io : PSh := ⟨[.var 176 [vS, vI, vE]], [.mk false [vI], .mk false [.ref 0 0]]⟩
def f_nist_reader_number_io_m (T : Unit) (d : ((ByteArray × (Int × ((Option Int) × Unit))) × Unit) × (Unit × ((ByteArray × Unit) × ((Int × Unit) × Unit)))) : Option (((ByteArray × (Int × ((Option Int) × Unit))) × Unit) × ((Int × Unit) × (Unit × Unit))) :=
  (g_nist_reader_exact_io (d.1, ((), (d.2.2.1, ())))).bind fun x1 =>
  (g_scan_Scanner_string_Figures_io (x1.1, ((), (d.2.2.2.1, d.2.2.2)))).bind fun x2 =>
  some (x2.1, (x2.2.1, ((), ())))
def c_nist_reader_number_io : List Nat := []
def L_nist_reader_number_io (_ : Nat) : Pts po_nist_reader_number_io.den := []
def R_nist_reader_number_io (_ : Nat) : PtsR po_nist_reader_number_io.den := []
def E_nist_reader_number_io : Env := (((E0.add 118 (ioSem pi_scan_Scanner_string_Figures_io po_scan_Scanner_string_Figures_io 1 [(0, 0, none)] g_scan_Scanner_string_Figures_io)).add 146 (ioSem pi_nist_reader_exact_io po_nist_reader_exact_io 0 [(0, 0, some 0)] g_nist_reader_exact_io)).kp [0])
theorem q_nist_reader_number_io_m (k : Nat) (d : pi_nist_reader_number_io.den) : evCode E_nist_reader_number_io (tb (L_nist_reader_number_io k) (R_nist_reader_number_io k)) c_nist_reader_number_io (bodyOf Tryz.f147) 0 (finKio E_nist_reader_number_io po_nist_reader_number_io [.tmp 6] [(0, some 0)]) (startSt pi_nist_reader_number_io 15 d) = f_nist_reader_number_io_m () d := by kernel_rfl
def g_nist_reader_number_io (d : ((ByteArray × (Int × ((Option Int) × Unit))) × Unit) × (Unit × ((ByteArray × Unit) × ((Int × Unit) × Unit)))) : Option (((ByteArray × (Int × ((Option Int) × Unit))) × Unit) × ((Int × Unit) × (Unit × Unit))) := f_nist_reader_number_io_m () d
theorem ok_nist_reader_number_io : FnIo Tryz.prog ET0 147 pi_nist_reader_number_io po_nist_reader_number_io 1 [(0, 0, some 0)] g_nist_reader_number_io :=
  fn_of_bodyIo (E := E_nist_reader_number_io) (envOk_kp (envOk_add (envOk_add e0_ok (io_ok ok_scan_Scanner_string_Figures_io)) (io_ok ok_nist_reader_exact_io))) (fn := Tryz.f147) Tryz.func147 (by kernel_rfl) (by kernel_rfl) [.tmp 6] [(0, some 0)] [(0, 0, some 0)] (by kernel_rfl) (by kernel_rfl) (by kernel_rfl) (by kernel_rfl) (by decide) (by decide) c_nist_reader_number_io L_nist_reader_number_io R_nist_reader_number_io
    (by intro x hx; cases hx) (by intro k x hx; cases hx) (by intro x hx; cases hx) (by intro k x hx; cases hx) (fun d out h => ⟨0, (q_nist_reader_number_io_m 0 d).trans h⟩)

@[reducible] def pi_nist_reader_advance_io : PSh := ⟨[.var 176 [vS, vI, vE]], [.mk true [.ref 0 0]]⟩
@[reducible] def po_nist_reader_advance_io : PSh := ⟨[.var 176 [vS, vI, vE]], [.mk false [vI], .mk false [.ref 0 0]]⟩
def f_nist_reader_advance_io_m (T : Unit) (d : ((ByteArray × (Int × ((Option Int) × Unit))) × Unit) × (Unit × Unit)) : Option (((ByteArray × (Int × ((Option Int) × Unit))) × Unit) × ((Int × Unit) × (Unit × Unit))) :=
  (g_nist_reader_exact_io (d.1, ((), (((⟨#[32]⟩ : ByteArray), ()), ())))).bind fun x1 =>
  (g_scan_Scanner_string_At ((), (((some (x1.1.1.1, (x1.1.1.2.1, x1.1.1.2.2.1))), ()), ()))).bind fun x2 =>
  (g_scan_Scanner_string_Run_io (x1.1, ((), (((⟨#[32]⟩ : ByteArray), ()), ())))).bind fun x3 =>
  (g_scan_Scanner_string_Figures_io (x3.1, ((), (((1 : Int), ()), (((3 : Int), ()), ()))))).bind fun x4 =>
  (g_figures_Put ((), (x4.2.1, (((1 : Int), ()), ())))).bind fun x5 =>
  let x6 : Bool := (!x5.2.2.1.1.isNone)
  bif x6 then (
  let x7 : (Option Int) := (some (2 : Int))
  (g_scan_Scanner_string_Fail_io (x4.1, ((), ((x7, ()), ())))).bind fun x8 =>
  let x9 : Int := (imul .i64 x4.2.1.1 (10 : Int))
  (g_nist_reader_number_io (x8.1, ((), (((⟨#[46]⟩ : ByteArray), ()), (((1 : Int), ()), ()))))).bind fun x10 =>
  let x11 : Int := (iadd .i64 x9 x10.2.1.1)
  some (x10.1, ((x11, ()), ((), ()))))
  else (
  (g_scan_Scanner_string_At ((), (((some (x4.1.1.1, (x4.1.1.2.1, x4.1.1.2.2.1))), ()), ()))).bind fun x12 =>
  let x13 : Int := (isub .i64 x12.2.1.1 x2.2.1.1)
  let x14 : Bool := (x13 != (3 : Int))
  bif x14 then (
  let x15 : (Option Int) := (some (2 : Int))
  (g_scan_Scanner_string_Fail_io (x4.1, ((), ((x15, ()), ())))).bind fun x16 =>
  let x17 : Int := (imul .i64 x4.2.1.1 (10 : Int))
  (g_nist_reader_number_io (x16.1, ((), (((⟨#[46]⟩ : ByteArray), ()), (((1 : Int), ()), ()))))).bind fun x18 =>
  let x19 : Int := (iadd .i64 x17 x18.2.1.1)
  some (x18.1, ((x19, ()), ((), ()))))
  else (
  let x20 : Int := (x3.2.1.1.size : Int)
  let x21 : Int := (x5.2.1.1.size : Int)
  let x22 : Int := (iadd .i64 x20 x21)
  let x23 : Bool := (x22 != (3 : Int))
  bif x23 then (
  let x24 : (Option Int) := (some (2 : Int))
  (g_scan_Scanner_string_Fail_io (x4.1, ((), ((x24, ()), ())))).bind fun x25 =>
  let x26 : Int := (imul .i64 x4.2.1.1 (10 : Int))
  (g_nist_reader_number_io (x25.1, ((), (((⟨#[46]⟩ : ByteArray), ()), (((1 : Int), ()), ()))))).bind fun x27 =>
  let x28 : Int := (iadd .i64 x26 x27.2.1.1)
  some (x27.1, ((x28, ()), ((), ()))))
  else (
  let x29 : Int := (imul .i64 x4.2.1.1 (10 : Int))
  (g_nist_reader_number_io (x4.1, ((), (((⟨#[46]⟩ : ByteArray), ()), (((1 : Int), ()), ()))))).bind fun x30 =>
  let x31 : Int := (iadd .i64 x29 x30.2.1.1)
  some (x30.1, ((x31, ()), ((), ()))))))
def c_nist_reader_advance_io : List Nat := []
def L_nist_reader_advance_io (_ : Nat) : Pts po_nist_reader_advance_io.den := []
def R_nist_reader_advance_io (_ : Nat) : PtsR po_nist_reader_advance_io.den := []
def E_nist_reader_advance_io : Env := ((((((((E0.add 47 (ioSem pi_scan_Scanner_string_Fail_io po_scan_Scanner_string_Fail_io 0 [(0, 0, none)] g_scan_Scanner_string_Fail_io)).add 86 (typedSem pi_figures_Put po_figures_Put g_figures_Put)).add 114 (typedSem pi_scan_Scanner_string_At po_scan_Scanner_string_At g_scan_Scanner_string_At)).add 118 (ioSem pi_scan_Scanner_string_Figures_io po_scan_Scanner_string_Figures_io 1 [(0, 0, none)] g_scan_Scanner_string_Figures_io)).add 123 (ioSem pi_scan_Scanner_string_Run_io po_scan_Scanner_string_Run_io 1 [(0, 0, none)] g_scan_Scanner_string_Run_io)).add 146 (ioSem pi_nist_reader_exact_io po_nist_reader_exact_io 0 [(0, 0, some 0)] g_nist_reader_exact_io)).add 147 (ioSem pi_nist_reader_number_io po_nist_reader_number_io 1 [(0, 0, some 0)] g_nist_reader_number_io)).kp [0])
theorem q_nist_reader_advance_io_m (k : Nat) (d : pi_nist_reader_advance_io.den) : evCode E_nist_reader_advance_io (tb (L_nist_reader_advance_io k) (R_nist_reader_advance_io k)) c_nist_reader_advance_io (bodyOf Tryz.f148) 0 (finKio E_nist_reader_advance_io po_nist_reader_advance_io [.tmp 2] [(0, some 0)]) (startSt pi_nist_reader_advance_io 51 d) = f_nist_reader_advance_io_m () d := by kernel_rfl
def g_nist_reader_advance_io (d : ((ByteArray × (Int × ((Option Int) × Unit))) × Unit) × (Unit × Unit)) : Option (((ByteArray × (Int × ((Option Int) × Unit))) × Unit) × ((Int × Unit) × (Unit × Unit))) := f_nist_reader_advance_io_m () d
theorem ok_nist_reader_advance_io : FnIo Tryz.prog ET0 148 pi_nist_reader_advance_io po_nist_reader_advance_io 1 [(0, 0, some 0)] g_nist_reader_advance_io :=
  fn_of_bodyIo (E := E_nist_reader_advance_io) (envOk_kp (envOk_add (envOk_add (envOk_add (envOk_add (envOk_add (envOk_add (envOk_add e0_ok (io_ok ok_scan_Scanner_string_Fail_io)) (typed_ok ok_figures_Put)) (typed_ok ok_scan_Scanner_string_At)) (io_ok ok_scan_Scanner_string_Figures_io)) (io_ok ok_scan_Scanner_string_Run_io)) (io_ok ok_nist_reader_exact_io)) (io_ok ok_nist_reader_number_io))) (fn := Tryz.f148) Tryz.func148 (by kernel_rfl) (by kernel_rfl) [.tmp 2] [(0, some 0)] [(0, 0, some 0)] (by kernel_rfl) (by kernel_rfl) (by kernel_rfl) (by kernel_rfl) (by decide) (by decide) c_nist_reader_advance_io L_nist_reader_advance_io R_nist_reader_advance_io
    (by intro x hx; cases hx) (by intro k x hx; cases hx) (by intro x hx; cases hx) (by intro k x hx; cases hx) (fun d out h => ⟨0, (q_nist_reader_advance_io_m 0 d).trans h⟩)

@[reducible] def pi_nist_Parse : PSh := ⟨[], [.mk false [vS]]⟩
@[reducible] def po_nist_Parse : PSh := ⟨[], [.mk true [vI, vI, vI, vI, vI, vI, vB], .mk false [vE]]⟩
def f_nist_Parse_m (T : Unit) (d : Unit × ((ByteArray × Unit) × Unit)) : Option (Unit × ((Int × (Int × (Int × (Int × (Int × (Int × (Bool × Unit))))))) × (((Option Int) × Unit) × Unit))) :=
  (g_scan_New_string ((), d.2)).bind fun x1 =>
  (g_nist_reader_exact_io (x1.1, ((), (((⟨#[10]⟩ : ByteArray), ()), ())))).bind fun x2 =>
  (g_nist_reader_number_io (x2.1, ((), (((⟨#[]⟩ : ByteArray), ()), (((5 : Int), ()), ()))))).bind fun x3 =>
  (g_nist_reader_number_io (x3.1, ((), (((⟨#[32]⟩ : ByteArray), ()), (((2 : Int), ()), ()))))).bind fun x4 =>
  (g_nist_reader_number_io (x4.1, ((), (((⟨#[45]⟩ : ByteArray), ()), (((2 : Int), ()), ()))))).bind fun x5 =>
  (g_nist_reader_number_io (x5.1, ((), (((⟨#[45]⟩ : ByteArray), ()), (((2 : Int), ()), ()))))).bind fun x6 =>
  (g_nist_reader_number_io (x6.1, ((), (((⟨#[32]⟩ : ByteArray), ()), (((2 : Int), ()), ()))))).bind fun x7 =>
  (g_nist_reader_number_io (x7.1, ((), (((⟨#[58]⟩ : ByteArray), ()), (((2 : Int), ()), ()))))).bind fun x8 =>
  (g_nist_reader_number_io (x8.1, ((), (((⟨#[58]⟩ : ByteArray), ()), (((2 : Int), ()), ()))))).bind fun x9 =>
  (g_nist_reader_number_io (x9.1, ((), (((⟨#[32]⟩ : ByteArray), ()), (((2 : Int), ()), ()))))).bind fun x10 =>
  (g_nist_reader_number_io (x10.1, ((), (((⟨#[32]⟩ : ByteArray), ()), (((1 : Int), ()), ()))))).bind fun x11 =>
  (g_nist_reader_number_io (x11.1, ((), (((⟨#[32]⟩ : ByteArray), ()), (((1 : Int), ()), ()))))).bind fun x12 =>
  (g_nist_reader_advance_io (x12.1, ((), ()))).bind fun x13 =>
  (g_nist_reader_exact_io (x13.1, ((), (((⟨#[32, 85, 84, 67, 40, 78, 73, 83, 84, 41, 32]⟩ : ByteArray), ()), ())))).bind fun x14 =>
  (g_scan_Scanner_string_Take_io (x14.1, ((), (((35 : Int), ()), ())))).bind fun x15 =>
  let x16 : Bool := (!x15.2.1.1)
  bif x16 then (
  (g_nist_reader_exact_io (x15.1, ((), (((⟨#[42]⟩ : ByteArray), ()), ())))).bind fun x17 =>
  (g_nist_reader_exact_io (x17.1, ((), (((⟨#[10]⟩ : ByteArray), ()), ())))).bind fun x18 =>
  (g_scan_Scanner_string_End ((), (((some (x18.1.1.1, (x18.1.1.2.1, x18.1.1.2.2.1))), ()), ()))).bind fun x19 =>
  let x20 : Bool := (!x19.2.1.1.isNone)
  bif x20 then (
  let x21 : (Option Int) := (some (2 : Int))
  some ((), (((0 : Int), ((0 : Int), ((0 : Int), ((0 : Int), ((0 : Int), ((0 : Int), (false, ()))))))), ((x21, ()), ()))))
  else (
  (g_nist_Line_told ((), (((0 : Int), ((0 : Int), (x10.2.1.1, (x11.2.1.1, (x12.2.1.1, (x13.2.1.1, x15.2.1)))))), (x3.2.1, ((x4.2.1.1, (x5.2.1.1, x6.2.1)), ((x7.2.1.1, (x8.2.1.1, x9.2.1)), ())))))).bind fun x22 =>
  some ((), x22.2)))
  else (
  (g_nist_reader_exact_io (x15.1, ((), (((⟨#[10]⟩ : ByteArray), ()), ())))).bind fun x23 =>
  (g_scan_Scanner_string_End ((), (((some (x23.1.1.1, (x23.1.1.2.1, x23.1.1.2.2.1))), ()), ()))).bind fun x24 =>
  let x25 : Bool := (!x24.2.1.1.isNone)
  bif x25 then (
  let x26 : (Option Int) := (some (2 : Int))
  some ((), (((0 : Int), ((0 : Int), ((0 : Int), ((0 : Int), ((0 : Int), ((0 : Int), (false, ()))))))), ((x26, ()), ()))))
  else (
  (g_nist_Line_told ((), (((0 : Int), ((0 : Int), (x10.2.1.1, (x11.2.1.1, (x12.2.1.1, (x13.2.1.1, x15.2.1)))))), (x3.2.1, ((x4.2.1.1, (x5.2.1.1, x6.2.1)), ((x7.2.1.1, (x8.2.1.1, x9.2.1)), ())))))).bind fun x27 =>
  some ((), x27.2)))
def g_nist_Parse (d : Unit × ((ByteArray × Unit) × Unit)) : Option (Unit × ((Int × (Int × (Int × (Int × (Int × (Int × (Bool × Unit))))))) × (((Option Int) × Unit) × Unit))) := f_nist_Parse_m () d
theorem ok_nist_Parse : FnOk Tryz.prog ET0 68 pi_nist_Parse po_nist_Parse g_nist_Parse :=
  fn0 (E := (((((((E0.add 43 (typedSem pi_scan_New_string po_scan_New_string g_scan_New_string)).add 50 (typedSem pi_scan_Scanner_string_End po_scan_Scanner_string_End g_scan_Scanner_string_End)).add 121 (ioSem pi_scan_Scanner_string_Take_io po_scan_Scanner_string_Take_io 1 [(0, 0, none)] g_scan_Scanner_string_Take_io)).add 146 (ioSem pi_nist_reader_exact_io po_nist_reader_exact_io 0 [(0, 0, some 0)] g_nist_reader_exact_io)).add 147 (ioSem pi_nist_reader_number_io po_nist_reader_number_io 1 [(0, 0, some 0)] g_nist_reader_number_io)).add 148 (ioSem pi_nist_reader_advance_io po_nist_reader_advance_io 1 [(0, 0, some 0)] g_nist_reader_advance_io)).add 149 (typedSem pi_nist_Line_told po_nist_Line_told g_nist_Line_told))) (envOk_add (envOk_add (envOk_add (envOk_add (envOk_add (envOk_add (envOk_add e0_ok (typed_ok ok_scan_New_string)) (typed_ok ok_scan_Scanner_string_End)) (io_ok ok_scan_Scanner_string_Take_io)) (io_ok ok_nist_reader_exact_io)) (io_ok ok_nist_reader_number_io)) (io_ok ok_nist_reader_advance_io)) (typed_ok ok_nist_Line_told)) (fn := Tryz.f68) Tryz.func68 (by kernel_rfl) (by kernel_rfl) [.cell 2 59, .tmp 3] (by kernel_rfl) rfl rfl rfl [] fun d => by kernel_rfl

@[reducible] def pi_top_labelsStand : PSh := ⟨[], []⟩
@[reducible] def po_top_labelsStand : PSh := ⟨[], [.mk false [vB]]⟩
def f_top_labelsStand_m (T : Unit) (d : Unit × Unit) : Option (Unit × ((Bool × Unit) × Unit)) :=
  (g_iso_Parse ((), (((⟨#[50, 48, 50, 52, 45, 49, 48, 45, 48, 57, 84, 49, 49, 58, 49, 50, 58, 49, 51, 90]⟩ : ByteArray), ()), ()))).bind fun x1 =>
  (g_mail_Parse ((), (((⟨#[87, 101, 100, 44, 32, 57, 32, 79, 99, 116, 32, 50, 48, 50, 52, 32, 49, 49, 58, 49, 50, 58, 49, 51, 32, 71, 77, 84]⟩ : ByteArray), ()), ()))).bind fun x2 =>
  (g_nist_Parse ((), (((⟨#[10, 54, 48, 53, 57, 50, 32, 50, 52, 45, 49, 48, 45, 48, 57, 32, 49, 49, 58, 49, 50, 58, 49, 51, 32, 53, 48, 32, 48, 32, 48, 32, 32, 53, 48, 46, 48, 32, 85, 84, 67, 40, 78, 73, 83, 84, 41, 32, 42, 10]⟩ : ByteArray), ()), ()))).bind fun x3 =>
  (g_nist_Label ((), (x3.2.1, ()))).bind fun x4 =>
  bif x1.2.2.1.1.isNone then (
  bif x2.2.2.1.1.isNone then (
  bif x3.2.2.1.1.isNone then (
  bif x4.2.2.1.1.isNone then (
  let x5 : Bool := ((x1.2.1.1 == x2.2.1.1) && ((x1.2.1.2.1 == x2.2.1.2.1) && ((x1.2.1.2.2.1 == x2.2.1.2.2.1) && ((x1.2.1.2.2.2.1 == x2.2.1.2.2.2.1) && ((x1.2.1.2.2.2.2.1 == x2.2.1.2.2.2.2.1) && ((x1.2.1.2.2.2.2.2.1 == x2.2.1.2.2.2.2.2.1) && ((x1.2.1.2.2.2.2.2.2.1 == x2.2.1.2.2.2.2.2.2.1) && ((x1.2.1.2.2.2.2.2.2.2.1 == x2.2.1.2.2.2.2.2.2.2.1) && true))))))))
  bif x5 then (
  let x6 : Bool := ((x1.2.1.1 == x4.2.1.1) && ((x1.2.1.2.1 == x4.2.1.2.1) && ((x1.2.1.2.2.1 == x4.2.1.2.2.1) && ((x1.2.1.2.2.2.1 == x4.2.1.2.2.2.1) && ((x1.2.1.2.2.2.2.1 == x4.2.1.2.2.2.2.1) && ((x1.2.1.2.2.2.2.2.1 == x4.2.1.2.2.2.2.2.1) && ((x1.2.1.2.2.2.2.2.2.1 == x4.2.1.2.2.2.2.2.2.1) && ((x1.2.1.2.2.2.2.2.2.2.1 == x4.2.1.2.2.2.2.2.2.2.1) && true))))))))
  bif x6 then (
  let x7 : Bool := (x1.2.1.2.2.2.2.2.1 == (13 : Int))
  some ((), ((x7, ()), ())))
  else (
  some ((), ((false, ()), ()))))
  else (
  some ((), ((false, ()), ()))))
  else (
  some ((), ((false, ()), ()))))
  else (
  some ((), ((false, ()), ()))))
  else (
  some ((), ((false, ()), ()))))
  else (
  some ((), ((false, ()), ())))
def g_top_labelsStand (d : Unit × Unit) : Option (Unit × ((Bool × Unit) × Unit)) := f_top_labelsStand_m () d
theorem ok_top_labelsStand : FnOk Tryz.prog ET0 17 pi_top_labelsStand po_top_labelsStand g_top_labelsStand :=
  fn0 (E := ((((E0.add 8 (typedSem pi_mail_Parse po_mail_Parse g_mail_Parse)).add 28 (typedSem pi_nist_Label po_nist_Label g_nist_Label)).add 67 (typedSem pi_iso_Parse po_iso_Parse g_iso_Parse)).add 68 (typedSem pi_nist_Parse po_nist_Parse g_nist_Parse))) (envOk_add (envOk_add (envOk_add (envOk_add e0_ok (typed_ok ok_mail_Parse)) (typed_ok ok_nist_Label)) (typed_ok ok_iso_Parse)) (typed_ok ok_nist_Parse)) (fn := Tryz.f17) Tryz.func17 (by kernel_rfl) (by kernel_rfl) [.tmp 0] (by kernel_rfl) rfl rfl rfl [] fun d => by kernel_rfl

@[reducible] def pi_leap_Row_dated : PSh := ⟨[], [.mk true [vI, vI]]⟩
@[reducible] def po_leap_Row_dated : PSh := ⟨[], [.mk false [vB]]⟩
def f_leap_Row_dated_m (T : Unit) (d : Unit × ((Int × (Int × Unit)) × Unit)) : Option (Unit × ((Bool × Unit) × Unit)) :=
  (g_day_Date ((), ((d.2.1.1, ()), ()))).bind fun x1 =>
  bif x1.2.2.2.2.1.1.isNone then (
  let x2 : Bool := (decide (x1.2.1.1 ≥ (1900 : Int)))
  some ((), ((x2, ()), ())))
  else (
  some ((), ((false, ()), ())))
def g_leap_Row_dated (d : Unit × ((Int × (Int × Unit)) × Unit)) : Option (Unit × ((Bool × Unit) × Unit)) := f_leap_Row_dated_m () d
theorem ok_leap_Row_dated : FnOk Tryz.prog ET0 70 pi_leap_Row_dated po_leap_Row_dated g_leap_Row_dated :=
  fn0 (E := (E0.add 88 (typedSem pi_day_Date po_day_Date g_day_Date))) (envOk_add e0_ok (typed_ok ok_day_Date)) (fn := Tryz.f70) Tryz.func70 (by kernel_rfl) (by kernel_rfl) [.tmp 2] (by kernel_rfl) rfl rfl rfl [] fun d => by kernel_rfl

@[reducible] def pi_leap_New_1 : PSh := ⟨[], [.mk true [vI, vI]]⟩
@[reducible] def po_leap_New_1 : PSh := ⟨[], [.mk false [vB]]⟩
def f_leap_New_1_m (T : Unit) (d : Unit × ((Int × (Int × Unit)) × Unit)) : Option (Unit × ((Bool × Unit) × Unit)) :=
  (g_leap_Row_dated ((), d.2)).bind fun x1 =>
  let x2 : Bool := (!x1.2.1.1)
  some ((), ((x2, ()), ()))
def g_leap_New_1 (d : Unit × ((Int × (Int × Unit)) × Unit)) : Option (Unit × ((Bool × Unit) × Unit)) := f_leap_New_1_m () d
theorem ok_leap_New_1 : FnOk Tryz.prog ET0 69 pi_leap_New_1 po_leap_New_1 g_leap_New_1 :=
  fn0 (E := (E0.add 70 (typedSem pi_leap_Row_dated po_leap_Row_dated g_leap_Row_dated))) (envOk_add e0_ok (typed_ok ok_leap_Row_dated)) (fn := Tryz.f69) Tryz.func69 (by kernel_rfl) (by kernel_rfl) [.tmp 2] (by kernel_rfl) rfl rfl rfl [] fun d => by kernel_rfl

@[reducible] def pi_leap_Row_may : PSh := ⟨[], [.mk true [vI, vI]]⟩
@[reducible] def po_leap_Row_may : PSh := ⟨[], [.mk false [vB]]⟩
def f_leap_Row_may_m (T : Unit) (d : Unit × ((Int × (Int × Unit)) × Unit)) : Option (Unit × ((Bool × Unit) × Unit)) :=
  (g_day_Date ((), ((d.2.1.1, ()), ()))).bind fun x1 =>
  bif x1.2.2.2.2.1.1.isNone then (
  let x2 : Bool := (x1.2.2.2.1.1 == (1 : Int))
  bif x2 then (
  let x3 : Bool := (decide (d.2.1.2.1 ≥ (0 : Int)))
  bif x3 then (
  let x4 : Bool := (decide (d.2.1.2.1 ≤ (1000 : Int)))
  some ((), ((x4, ()), ())))
  else (
  some ((), ((false, ()), ()))))
  else (
  some ((), ((false, ()), ()))))
  else (
  some ((), ((false, ()), ())))
def g_leap_Row_may (d : Unit × ((Int × (Int × Unit)) × Unit)) : Option (Unit × ((Bool × Unit) × Unit)) := f_leap_Row_may_m () d
theorem ok_leap_Row_may : FnOk Tryz.prog ET0 72 pi_leap_Row_may po_leap_Row_may g_leap_Row_may :=
  fn0 (E := (E0.add 88 (typedSem pi_day_Date po_day_Date g_day_Date))) (envOk_add e0_ok (typed_ok ok_day_Date)) (fn := Tryz.f72) Tryz.func72 (by kernel_rfl) (by kernel_rfl) [.tmp 2] (by kernel_rfl) rfl rfl rfl [] fun d => by kernel_rfl

@[reducible] def pi_leap_New_2 : PSh := ⟨[], [.mk true [vI, vI]]⟩
@[reducible] def po_leap_New_2 : PSh := ⟨[], [.mk false [vB]]⟩
def f_leap_New_2_m (T : Unit) (d : Unit × ((Int × (Int × Unit)) × Unit)) : Option (Unit × ((Bool × Unit) × Unit)) :=
  (g_leap_Row_may ((), d.2)).bind fun x1 =>
  let x2 : Bool := (!x1.2.1.1)
  some ((), ((x2, ()), ()))
def g_leap_New_2 (d : Unit × ((Int × (Int × Unit)) × Unit)) : Option (Unit × ((Bool × Unit) × Unit)) := f_leap_New_2_m () d
theorem ok_leap_New_2 : FnOk Tryz.prog ET0 71 pi_leap_New_2 po_leap_New_2 g_leap_New_2 :=
  fn0 (E := (E0.add 72 (typedSem pi_leap_Row_may po_leap_Row_may g_leap_Row_may))) (envOk_add e0_ok (typed_ok ok_leap_Row_may)) (fn := Tryz.f71) Tryz.func71 (by kernel_rfl) (by kernel_rfl) [.tmp 2] (by kernel_rfl) rfl rfl rfl [] fun d => by kernel_rfl

@[reducible] def pi_leap_time : PSh := ⟨[], [.mk false [vI]]⟩
@[reducible] def po_leap_time : PSh := ⟨[], [.mk false [vB]]⟩
def f_leap_time_m (T : Unit) (d : Unit × ((Int × Unit) × Unit)) : Option (Unit × ((Bool × Unit) × Unit)) :=
  let x1 : Bool := (decide (d.2.1.1 ≥ (0 : Int)))
  bif x1 then (
  let x2 : Bool := (decide (d.2.1.1 ≤ (1099511627776 : Int)))
  some ((), ((x2, ()), ())))
  else (
  some ((), ((false, ()), ())))
def g_leap_time (d : Unit × ((Int × Unit) × Unit)) : Option (Unit × ((Bool × Unit) × Unit)) := f_leap_time_m () d
theorem ok_leap_time : FnOk Tryz.prog ET0 74 pi_leap_time po_leap_time g_leap_time :=
  fn0 (E := E0) e0_ok (fn := Tryz.f74) Tryz.func74 (by kernel_rfl) (by kernel_rfl) [.tmp 2] (by kernel_rfl) rfl rfl rfl [] fun d => by kernel_rfl

@[reducible] def pi_leap_Row_follows : PSh := ⟨[], [.mk true [vI, vI], .mk true [vI, vI]]⟩
@[reducible] def po_leap_Row_follows : PSh := ⟨[], [.mk false [vB]]⟩
def f_leap_Row_follows_m (T : Unit) (d : Unit × ((Int × (Int × Unit)) × ((Int × (Int × Unit)) × Unit))) : Option (Unit × ((Bool × Unit) × Unit)) :=
  let x1 : Int := (isub .i64 d.2.1.2.1 d.2.2.1.2.1)
  let x2 : Bool := (decide (d.2.1.1 > d.2.2.1.1))
  bif x2 then (
  let x3 : Bool := (x1 == (1 : Int))
  bif x3 then (
  some ((), ((true, ()), ())))
  else (
  let x4 : Bool := (x1 == (-1 : Int))
  some ((), ((x4, ()), ()))))
  else (
  some ((), ((false, ()), ())))
def g_leap_Row_follows (d : Unit × ((Int × (Int × Unit)) × ((Int × (Int × Unit)) × Unit))) : Option (Unit × ((Bool × Unit) × Unit)) := f_leap_Row_follows_m () d
theorem ok_leap_Row_follows : FnOk Tryz.prog ET0 151 pi_leap_Row_follows po_leap_Row_follows g_leap_Row_follows :=
  fn0 (E := E0) e0_ok (fn := Tryz.f151) Tryz.func151 (by kernel_rfl) (by kernel_rfl) [.tmp 4] (by kernel_rfl) rfl rfl rfl [] fun d => by kernel_rfl

@[reducible] def pi_leap_rise : PSh := ⟨[], [.mk false [.v (.sl (.pair (.int .i64) (.int .i64)))]]⟩
@[reducible] def po_leap_rise : PSh := ⟨[], [.mk false [vB]]⟩
@[reducible] def TT_leap_rise : Type := (((Unit × (((List (Int × Int)) × Unit) × ((Int × Unit) × Unit))) → Option (Unit × ((Bool × Unit) × Unit))) × Unit)
@[reducible] def sh_leap_rise_3 : PSh := ⟨[], [.mk false [.v (.sl (.pair (.int .i64) (.int .i64)))], .any, .any, .mk false [vI], .any, .any, .any, .any, .any, .any, .any, .any, .any, .any, .any, .any, .any, .any, .any, .any, .any]⟩
def f_leap_rise_p3 (T : TT_leap_rise) (d : Unit × (((List (Int × Int)) × Unit) × ((Int × Unit) × Unit))) : Option (Unit × ((Bool × Unit) × Unit)) :=
  let x1 : Int := (d.2.1.1.length : Int)
  let x2 : Bool := (decide (d.2.2.1.1 < x1))
  bif x2 then (
  bif decide ((0 : Int) ≤ d.2.2.1.1) && decide (d.2.2.1.1 < (d.2.1.1.length : Int)) then (
  let x3 : Int := (isub .i64 d.2.2.1.1 (1 : Int))
  bif decide ((0 : Int) ≤ x3) && decide (x3 < (d.2.1.1.length : Int)) then (
  (g_leap_Row_follows ((), (((gd_i64_i64 d.2.1.1 d.2.2.1.1).1, ((gd_i64_i64 d.2.1.1 d.2.2.1.1).2, ())), (((gd_i64_i64 d.2.1.1 x3).1, ((gd_i64_i64 d.2.1.1 x3).2, ())), ())))).bind fun x4 =>
  let x5 : Bool := (!x4.2.1.1)
  bif x5 then (
  some ((), ((false, ()), ())))
  else (
  let x6 : Int := (iadd .i64 d.2.2.1.1 (1 : Int))
  (T.1 ((), (d.2.1, ((x6, ()), ()))))))
  else none)
  else none)
  else (
  some ((), ((true, ()), ())))
def f_leap_rise_t : Nat → TT_leap_rise
  | 0 => (fun _ => none, ())
  | k + 1 => (f_leap_rise_p3 (f_leap_rise_t k), ())
theorem t_leap_rise (k : Nat) : f_leap_rise_t (k + 1) = (f_leap_rise_p3 (f_leap_rise_t k), ()) := rfl
def f_leap_rise_m (T : TT_leap_rise) (d : Unit × (((List (Int × Int)) × Unit) × Unit)) : Option (Unit × ((Bool × Unit) × Unit)) :=
  (T.1 ((), (d.2.1, (((1 : Int), ()), ()))))
def c_leap_rise : List Nat := []
def L_leap_rise (k : Nat) : Pts po_leap_rise.den := [(3, ⟨sh_leap_rise_3, (f_leap_rise_t k).1⟩)]
def R_leap_rise (_ : Nat) : PtsR po_leap_rise.den := []
def E_leap_rise : Env := (E0.add 151 (typedSem pi_leap_Row_follows po_leap_Row_follows g_leap_Row_follows))
theorem q_leap_rise_3 (k : Nat) (d : sh_leap_rise_3.den) : evAt E_leap_rise (tb (L_leap_rise k) (R_leap_rise k)) c_leap_rise 3 (bodyOf Tryz.f75) 0 (finK E_leap_rise po_leap_rise [.tmp 2]) (ptSt sh_leap_rise_3 d) = f_leap_rise_p3 (f_leap_rise_t k) d := by kernel_rfl
theorem q_leap_rise_m (k : Nat) (d : pi_leap_rise.den) : evCode E_leap_rise (tb (L_leap_rise k) (R_leap_rise k)) c_leap_rise (bodyOf Tryz.f75) 0 (finK E_leap_rise po_leap_rise [.tmp 2]) (startSt pi_leap_rise 21 d) = f_leap_rise_m (f_leap_rise_t k) d := by kernel_rfl
def g_leap_rise (d : Unit × (((List (Int × Int)) × Unit) × Unit)) : Option (Unit × ((Bool × Unit) × Unit)) := lim fun k => f_leap_rise_m (f_leap_rise_t k) d
theorem ok_leap_rise : FnOk Tryz.prog ET0 75 pi_leap_rise po_leap_rise g_leap_rise :=
  fn_of_body (E := E_leap_rise) (envOk_add e0_ok (typed_ok ok_leap_Row_follows)) (fn := Tryz.f75) Tryz.func75 (by kernel_rfl) (by kernel_rfl) [.tmp 2] (by kernel_rfl) (by kernel_rfl) (by decide) rfl c_leap_rise L_leap_rise R_leap_rise
    (by intro x hx d; simp only [L_leap_rise, List.mem_cons, List.not_mem_nil, or_false] at hx; subst hx; rfl)
    (by intro k x hx d out h; simp only [L_leap_rise, List.mem_cons, List.not_mem_nil, or_false] at hx; subst hx; exact (q_leap_rise_3 k d).trans h)
    (by intro x hx; cases hx)
    (by intro k x hx; cases hx)
    (by intro d out h; obtain ⟨k, hk⟩ := lim_some h; exact ⟨k, (q_leap_rise_m k d).trans hk⟩)

@[reducible] def pi_slices_Clone_leap_Row_leap_Row : PSh := ⟨[], [.mk false [.v (.sl (.pair (.int .i64) (.int .i64)))]]⟩
@[reducible] def po_slices_Clone_leap_Row_leap_Row : PSh := ⟨[.row 130 (.pair (.int .i64) (.int .i64))], [.mk false [.osl 0]]⟩
def f_slices_Clone_leap_Row_leap_Row_m (T : Unit) (d : Unit × (((List (Int × Int)) × Unit) × Unit)) : Option (((List (Int × Int)) × Unit) × (Unit × Unit)) :=
  bif d.2.1.1.isEmpty then (
  agree (
  some ((([] : List (Int × Int)), ()), ((), ()))) (
  let x1 : (List (Int × Int)) := ([] : List (Int × Int))
  bif decide (((x1.length + d.2.1.1.length) * 16 : Nat) ≤ 140737488355328) && decide (x1.length + d.2.1.1.length ≤ 9223372036854775807) then (
  let x2 : (List (Int × Int)) := (x1 ++ d.2.1.1)
  some ((x2, ()), ((), ())))
  else none))
  else (
  let x3 : (List (Int × Int)) := ([] : List (Int × Int))
  bif decide (((x3.length + d.2.1.1.length) * 16 : Nat) ≤ 140737488355328) && decide (x3.length + d.2.1.1.length ≤ 9223372036854775807) then (
  let x4 : (List (Int × Int)) := (x3 ++ d.2.1.1)
  some ((x4, ()), ((), ())))
  else none)
def g_slices_Clone_leap_Row_leap_Row (d : Unit × (((List (Int × Int)) × Unit) × Unit)) : Option (((List (Int × Int)) × Unit) × (Unit × Unit)) := f_slices_Clone_leap_Row_leap_Row_m () d
theorem ok_slices_Clone_leap_Row_leap_Row : FnOk Tryz.prog ET0 76 pi_slices_Clone_leap_Row_leap_Row po_slices_Clone_leap_Row_leap_Row g_slices_Clone_leap_Row_leap_Row :=
  fn0 (E := E0) e0_ok (fn := Tryz.f76) Tryz.func76 (by kernel_rfl) (by kernel_rfl) [.tmp 2] (by kernel_rfl) rfl rfl rfl [] fun d => by kernel_rfl

@[reducible] def pi_slices_IndexFunc_leap_Row_leap_Row_leap_New_1 : PSh := ⟨[], [.mk false [.v (.sl (.pair (.int .i64) (.int .i64)))], .mk false [.fn 69 []]]⟩
@[reducible] def po_slices_IndexFunc_leap_Row_leap_Row_leap_New_1 : PSh := ⟨[], [.mk false [vI]]⟩
@[reducible] def TT_slices_IndexFunc_leap_Row_leap_Row_leap_New_1 : Type := (((Unit × (((List (Int × Int)) × Unit) × (Unit × ((Int × Unit) × ((Int × Unit) × Unit))))) → Option (Unit × ((Int × Unit) × Unit))) × Unit)
@[reducible] def sh_slices_IndexFunc_leap_Row_leap_Row_leap_New_1_3 : PSh := ⟨[], [.mk false [.v (.sl (.pair (.int .i64) (.int .i64)))], .mk false [.fn 69 []], .any, .any, .any, .any, .any, .mk false [vI], .mk false [vI], .any, .any, .any, .any, .any, .any, .any, .any, .any, .any]⟩
def f_slices_IndexFunc_leap_Row_leap_Row_leap_New_1_p3 (T : TT_slices_IndexFunc_leap_Row_leap_Row_leap_New_1) (d : Unit × (((List (Int × Int)) × Unit) × (Unit × ((Int × Unit) × ((Int × Unit) × Unit))))) : Option (Unit × ((Int × Unit) × Unit)) :=
  let x2 : Bool := (decide (d.2.2.2.2.1.1 < d.2.2.2.1.1))
  bif x2 then (
  bif decide ((0 : Int) ≤ d.2.2.2.2.1.1) && decide (d.2.2.2.2.1.1 < (d.2.1.1.length : Int)) then (
  (g_leap_New_1 ((), (((gd_i64_i64 d.2.1.1 d.2.2.2.2.1.1).1, ((gd_i64_i64 d.2.1.1 d.2.2.2.2.1.1).2, ())), ()))).bind fun x3 =>
  bif x3.2.1.1 then (
  some ((), d.2.2.2.2))
  else (
  let x4 : Int := (iadd .i64 d.2.2.2.2.1.1 (1 : Int))
  (T.1 ((), (d.2.1, ((), (d.2.2.2.1, ((x4, ()), ()))))))))
  else none)
  else (
  some ((), (((-1 : Int), ()), ())))
def f_slices_IndexFunc_leap_Row_leap_Row_leap_New_1_t : Nat → TT_slices_IndexFunc_leap_Row_leap_Row_leap_New_1
  | 0 => (fun _ => none, ())
  | k + 1 => (f_slices_IndexFunc_leap_Row_leap_Row_leap_New_1_p3 (f_slices_IndexFunc_leap_Row_leap_Row_leap_New_1_t k), ())
theorem t_slices_IndexFunc_leap_Row_leap_Row_leap_New_1 (k : Nat) : f_slices_IndexFunc_leap_Row_leap_Row_leap_New_1_t (k + 1) = (f_slices_IndexFunc_leap_Row_leap_Row_leap_New_1_p3 (f_slices_IndexFunc_leap_Row_leap_Row_leap_New_1_t k), ()) := rfl
def f_slices_IndexFunc_leap_Row_leap_Row_leap_New_1_m (T : TT_slices_IndexFunc_leap_Row_leap_Row_leap_New_1) (d : Unit × (((List (Int × Int)) × Unit) × (Unit × Unit))) : Option (Unit × ((Int × Unit) × Unit)) :=
  let x1 : Int := (d.2.1.1.length : Int)
  (T.1 ((), (d.2.1, ((), ((x1, ()), (((0 : Int), ()), ()))))))
def c_slices_IndexFunc_leap_Row_leap_Row_leap_New_1 : List Nat := []
def L_slices_IndexFunc_leap_Row_leap_Row_leap_New_1 (k : Nat) : Pts po_slices_IndexFunc_leap_Row_leap_Row_leap_New_1.den := [(3, ⟨sh_slices_IndexFunc_leap_Row_leap_Row_leap_New_1_3, (f_slices_IndexFunc_leap_Row_leap_Row_leap_New_1_t k).1⟩)]
def R_slices_IndexFunc_leap_Row_leap_Row_leap_New_1 (_ : Nat) : PtsR po_slices_IndexFunc_leap_Row_leap_Row_leap_New_1.den := []
def E_slices_IndexFunc_leap_Row_leap_Row_leap_New_1 : Env := (E0.add 69 (typedSem pi_leap_New_1 po_leap_New_1 g_leap_New_1))
theorem q_slices_IndexFunc_leap_Row_leap_Row_leap_New_1_3 (k : Nat) (d : sh_slices_IndexFunc_leap_Row_leap_Row_leap_New_1_3.den) : evAt E_slices_IndexFunc_leap_Row_leap_Row_leap_New_1 (tb (L_slices_IndexFunc_leap_Row_leap_Row_leap_New_1 k) (R_slices_IndexFunc_leap_Row_leap_Row_leap_New_1 k)) c_slices_IndexFunc_leap_Row_leap_Row_leap_New_1 3 (bodyOf Tryz.f150) 0 (finK E_slices_IndexFunc_leap_Row_leap_Row_leap_New_1 po_slices_IndexFunc_leap_Row_leap_Row_leap_New_1 [.tmp 4]) (ptSt sh_slices_IndexFunc_leap_Row_leap_Row_leap_New_1_3 d) = f_slices_IndexFunc_leap_Row_leap_Row_leap_New_1_p3 (f_slices_IndexFunc_leap_Row_leap_Row_leap_New_1_t k) d := by kernel_rfl
theorem q_slices_IndexFunc_leap_Row_leap_Row_leap_New_1_m (k : Nat) (d : pi_slices_IndexFunc_leap_Row_leap_Row_leap_New_1.den) : evCode E_slices_IndexFunc_leap_Row_leap_Row_leap_New_1 (tb (L_slices_IndexFunc_leap_Row_leap_Row_leap_New_1 k) (R_slices_IndexFunc_leap_Row_leap_Row_leap_New_1 k)) c_slices_IndexFunc_leap_Row_leap_Row_leap_New_1 (bodyOf Tryz.f150) 0 (finK E_slices_IndexFunc_leap_Row_leap_Row_leap_New_1 po_slices_IndexFunc_leap_Row_leap_Row_leap_New_1 [.tmp 4]) (startSt pi_slices_IndexFunc_leap_Row_leap_Row_leap_New_1 19 d) = f_slices_IndexFunc_leap_Row_leap_Row_leap_New_1_m (f_slices_IndexFunc_leap_Row_leap_Row_leap_New_1_t k) d := by kernel_rfl
def g_slices_IndexFunc_leap_Row_leap_Row_leap_New_1 (d : Unit × (((List (Int × Int)) × Unit) × (Unit × Unit))) : Option (Unit × ((Int × Unit) × Unit)) := lim fun k => f_slices_IndexFunc_leap_Row_leap_Row_leap_New_1_m (f_slices_IndexFunc_leap_Row_leap_Row_leap_New_1_t k) d
theorem ok_slices_IndexFunc_leap_Row_leap_Row_leap_New_1 : FnOk Tryz.prog ET0 150 pi_slices_IndexFunc_leap_Row_leap_Row_leap_New_1 po_slices_IndexFunc_leap_Row_leap_Row_leap_New_1 g_slices_IndexFunc_leap_Row_leap_Row_leap_New_1 :=
  fn_of_body (E := E_slices_IndexFunc_leap_Row_leap_Row_leap_New_1) (envOk_add e0_ok (typed_ok ok_leap_New_1)) (fn := Tryz.f150) Tryz.func150 (by kernel_rfl) (by kernel_rfl) [.tmp 4] (by kernel_rfl) (by kernel_rfl) (by decide) rfl c_slices_IndexFunc_leap_Row_leap_Row_leap_New_1 L_slices_IndexFunc_leap_Row_leap_Row_leap_New_1 R_slices_IndexFunc_leap_Row_leap_Row_leap_New_1
    (by intro x hx d; simp only [L_slices_IndexFunc_leap_Row_leap_Row_leap_New_1, List.mem_cons, List.not_mem_nil, or_false] at hx; subst hx; rfl)
    (by intro k x hx d out h; simp only [L_slices_IndexFunc_leap_Row_leap_Row_leap_New_1, List.mem_cons, List.not_mem_nil, or_false] at hx; subst hx; exact (q_slices_IndexFunc_leap_Row_leap_Row_leap_New_1_3 k d).trans h)
    (by intro x hx; cases hx)
    (by intro k x hx; cases hx)
    (by intro d out h; obtain ⟨k, hk⟩ := lim_some h; exact ⟨k, (q_slices_IndexFunc_leap_Row_leap_Row_leap_New_1_m k d).trans hk⟩)

@[reducible] def pi_slices_ContainsFunc_leap_Row_leap_Row_leap_New_1 : PSh := ⟨[], [.mk false [.v (.sl (.pair (.int .i64) (.int .i64)))], .mk false [.fn 69 []]]⟩
@[reducible] def po_slices_ContainsFunc_leap_Row_leap_Row_leap_New_1 : PSh := ⟨[], [.mk false [vB]]⟩
def f_slices_ContainsFunc_leap_Row_leap_Row_leap_New_1_m (T : Unit) (d : Unit × (((List (Int × Int)) × Unit) × (Unit × Unit))) : Option (Unit × ((Bool × Unit) × Unit)) :=
  (g_slices_IndexFunc_leap_Row_leap_Row_leap_New_1 ((), (d.2.1, ((), ())))).bind fun x1 =>
  let x2 : Bool := (decide (x1.2.1.1 ≥ (0 : Int)))
  some ((), ((x2, ()), ()))
def g_slices_ContainsFunc_leap_Row_leap_Row_leap_New_1 (d : Unit × (((List (Int × Int)) × Unit) × (Unit × Unit))) : Option (Unit × ((Bool × Unit) × Unit)) := f_slices_ContainsFunc_leap_Row_leap_Row_leap_New_1_m () d
theorem ok_slices_ContainsFunc_leap_Row_leap_Row_leap_New_1 : FnOk Tryz.prog ET0 73 pi_slices_ContainsFunc_leap_Row_leap_Row_leap_New_1 po_slices_ContainsFunc_leap_Row_leap_Row_leap_New_1 g_slices_ContainsFunc_leap_Row_leap_Row_leap_New_1 :=
  fn0 (E := (E0.add 150 (typedSem pi_slices_IndexFunc_leap_Row_leap_Row_leap_New_1 po_slices_IndexFunc_leap_Row_leap_Row_leap_New_1 g_slices_IndexFunc_leap_Row_leap_Row_leap_New_1))) (envOk_add e0_ok (typed_ok ok_slices_IndexFunc_leap_Row_leap_Row_leap_New_1)) (fn := Tryz.f73) Tryz.func73 (by kernel_rfl) (by kernel_rfl) [.tmp 4] (by kernel_rfl) rfl rfl rfl [] fun d => by kernel_rfl

@[reducible] def pi_slices_IndexFunc_leap_Row_leap_Row_leap_New_2 : PSh := ⟨[], [.mk false [.v (.sl (.pair (.int .i64) (.int .i64)))], .mk false [.fn 71 []]]⟩
@[reducible] def po_slices_IndexFunc_leap_Row_leap_Row_leap_New_2 : PSh := ⟨[], [.mk false [vI]]⟩
@[reducible] def TT_slices_IndexFunc_leap_Row_leap_Row_leap_New_2 : Type := (((Unit × (((List (Int × Int)) × Unit) × (Unit × ((Int × Unit) × ((Int × Unit) × Unit))))) → Option (Unit × ((Int × Unit) × Unit))) × Unit)
@[reducible] def sh_slices_IndexFunc_leap_Row_leap_Row_leap_New_2_3 : PSh := ⟨[], [.mk false [.v (.sl (.pair (.int .i64) (.int .i64)))], .mk false [.fn 71 []], .any, .any, .any, .any, .any, .mk false [vI], .mk false [vI], .any, .any, .any, .any, .any, .any, .any, .any, .any, .any]⟩
def f_slices_IndexFunc_leap_Row_leap_Row_leap_New_2_p3 (T : TT_slices_IndexFunc_leap_Row_leap_Row_leap_New_2) (d : Unit × (((List (Int × Int)) × Unit) × (Unit × ((Int × Unit) × ((Int × Unit) × Unit))))) : Option (Unit × ((Int × Unit) × Unit)) :=
  let x2 : Bool := (decide (d.2.2.2.2.1.1 < d.2.2.2.1.1))
  bif x2 then (
  bif decide ((0 : Int) ≤ d.2.2.2.2.1.1) && decide (d.2.2.2.2.1.1 < (d.2.1.1.length : Int)) then (
  (g_leap_New_2 ((), (((gd_i64_i64 d.2.1.1 d.2.2.2.2.1.1).1, ((gd_i64_i64 d.2.1.1 d.2.2.2.2.1.1).2, ())), ()))).bind fun x3 =>
  bif x3.2.1.1 then (
  some ((), d.2.2.2.2))
  else (
  let x4 : Int := (iadd .i64 d.2.2.2.2.1.1 (1 : Int))
  (T.1 ((), (d.2.1, ((), (d.2.2.2.1, ((x4, ()), ()))))))))
  else none)
  else (
  some ((), (((-1 : Int), ()), ())))
def f_slices_IndexFunc_leap_Row_leap_Row_leap_New_2_t : Nat → TT_slices_IndexFunc_leap_Row_leap_Row_leap_New_2
  | 0 => (fun _ => none, ())
  | k + 1 => (f_slices_IndexFunc_leap_Row_leap_Row_leap_New_2_p3 (f_slices_IndexFunc_leap_Row_leap_Row_leap_New_2_t k), ())
theorem t_slices_IndexFunc_leap_Row_leap_Row_leap_New_2 (k : Nat) : f_slices_IndexFunc_leap_Row_leap_Row_leap_New_2_t (k + 1) = (f_slices_IndexFunc_leap_Row_leap_Row_leap_New_2_p3 (f_slices_IndexFunc_leap_Row_leap_Row_leap_New_2_t k), ()) := rfl
def f_slices_IndexFunc_leap_Row_leap_Row_leap_New_2_m (T : TT_slices_IndexFunc_leap_Row_leap_Row_leap_New_2) (d : Unit × (((List (Int × Int)) × Unit) × (Unit × Unit))) : Option (Unit × ((Int × Unit) × Unit)) :=
  let x1 : Int := (d.2.1.1.length : Int)
  (T.1 ((), (d.2.1, ((), ((x1, ()), (((0 : Int), ()), ()))))))
def c_slices_IndexFunc_leap_Row_leap_Row_leap_New_2 : List Nat := []
def L_slices_IndexFunc_leap_Row_leap_Row_leap_New_2 (k : Nat) : Pts po_slices_IndexFunc_leap_Row_leap_Row_leap_New_2.den := [(3, ⟨sh_slices_IndexFunc_leap_Row_leap_Row_leap_New_2_3, (f_slices_IndexFunc_leap_Row_leap_Row_leap_New_2_t k).1⟩)]
def R_slices_IndexFunc_leap_Row_leap_Row_leap_New_2 (_ : Nat) : PtsR po_slices_IndexFunc_leap_Row_leap_Row_leap_New_2.den := []
def E_slices_IndexFunc_leap_Row_leap_Row_leap_New_2 : Env := (E0.add 71 (typedSem pi_leap_New_2 po_leap_New_2 g_leap_New_2))
theorem q_slices_IndexFunc_leap_Row_leap_Row_leap_New_2_3 (k : Nat) (d : sh_slices_IndexFunc_leap_Row_leap_Row_leap_New_2_3.den) : evAt E_slices_IndexFunc_leap_Row_leap_Row_leap_New_2 (tb (L_slices_IndexFunc_leap_Row_leap_Row_leap_New_2 k) (R_slices_IndexFunc_leap_Row_leap_Row_leap_New_2 k)) c_slices_IndexFunc_leap_Row_leap_Row_leap_New_2 3 (bodyOf Tryz.f150) 0 (finK E_slices_IndexFunc_leap_Row_leap_Row_leap_New_2 po_slices_IndexFunc_leap_Row_leap_Row_leap_New_2 [.tmp 4]) (ptSt sh_slices_IndexFunc_leap_Row_leap_Row_leap_New_2_3 d) = f_slices_IndexFunc_leap_Row_leap_Row_leap_New_2_p3 (f_slices_IndexFunc_leap_Row_leap_Row_leap_New_2_t k) d := by kernel_rfl
theorem q_slices_IndexFunc_leap_Row_leap_Row_leap_New_2_m (k : Nat) (d : pi_slices_IndexFunc_leap_Row_leap_Row_leap_New_2.den) : evCode E_slices_IndexFunc_leap_Row_leap_Row_leap_New_2 (tb (L_slices_IndexFunc_leap_Row_leap_Row_leap_New_2 k) (R_slices_IndexFunc_leap_Row_leap_Row_leap_New_2 k)) c_slices_IndexFunc_leap_Row_leap_Row_leap_New_2 (bodyOf Tryz.f150) 0 (finK E_slices_IndexFunc_leap_Row_leap_Row_leap_New_2 po_slices_IndexFunc_leap_Row_leap_Row_leap_New_2 [.tmp 4]) (startSt pi_slices_IndexFunc_leap_Row_leap_Row_leap_New_2 19 d) = f_slices_IndexFunc_leap_Row_leap_Row_leap_New_2_m (f_slices_IndexFunc_leap_Row_leap_Row_leap_New_2_t k) d := by kernel_rfl
def g_slices_IndexFunc_leap_Row_leap_Row_leap_New_2 (d : Unit × (((List (Int × Int)) × Unit) × (Unit × Unit))) : Option (Unit × ((Int × Unit) × Unit)) := lim fun k => f_slices_IndexFunc_leap_Row_leap_Row_leap_New_2_m (f_slices_IndexFunc_leap_Row_leap_Row_leap_New_2_t k) d
theorem ok_slices_IndexFunc_leap_Row_leap_Row_leap_New_2 : FnOk Tryz.prog ET0 150 pi_slices_IndexFunc_leap_Row_leap_Row_leap_New_2 po_slices_IndexFunc_leap_Row_leap_Row_leap_New_2 g_slices_IndexFunc_leap_Row_leap_Row_leap_New_2 :=
  fn_of_body (E := E_slices_IndexFunc_leap_Row_leap_Row_leap_New_2) (envOk_add e0_ok (typed_ok ok_leap_New_2)) (fn := Tryz.f150) Tryz.func150 (by kernel_rfl) (by kernel_rfl) [.tmp 4] (by kernel_rfl) (by kernel_rfl) (by decide) rfl c_slices_IndexFunc_leap_Row_leap_Row_leap_New_2 L_slices_IndexFunc_leap_Row_leap_Row_leap_New_2 R_slices_IndexFunc_leap_Row_leap_Row_leap_New_2
    (by intro x hx d; simp only [L_slices_IndexFunc_leap_Row_leap_Row_leap_New_2, List.mem_cons, List.not_mem_nil, or_false] at hx; subst hx; rfl)
    (by intro k x hx d out h; simp only [L_slices_IndexFunc_leap_Row_leap_Row_leap_New_2, List.mem_cons, List.not_mem_nil, or_false] at hx; subst hx; exact (q_slices_IndexFunc_leap_Row_leap_Row_leap_New_2_3 k d).trans h)
    (by intro x hx; cases hx)
    (by intro k x hx; cases hx)
    (by intro d out h; obtain ⟨k, hk⟩ := lim_some h; exact ⟨k, (q_slices_IndexFunc_leap_Row_leap_Row_leap_New_2_m k d).trans hk⟩)

@[reducible] def pi_slices_ContainsFunc_leap_Row_leap_Row_leap_New_2 : PSh := ⟨[], [.mk false [.v (.sl (.pair (.int .i64) (.int .i64)))], .mk false [.fn 71 []]]⟩
@[reducible] def po_slices_ContainsFunc_leap_Row_leap_Row_leap_New_2 : PSh := ⟨[], [.mk false [vB]]⟩
def f_slices_ContainsFunc_leap_Row_leap_Row_leap_New_2_m (T : Unit) (d : Unit × (((List (Int × Int)) × Unit) × (Unit × Unit))) : Option (Unit × ((Bool × Unit) × Unit)) :=
  (g_slices_IndexFunc_leap_Row_leap_Row_leap_New_2 ((), (d.2.1, ((), ())))).bind fun x1 =>
  let x2 : Bool := (decide (x1.2.1.1 ≥ (0 : Int)))
  some ((), ((x2, ()), ()))
def g_slices_ContainsFunc_leap_Row_leap_Row_leap_New_2 (d : Unit × (((List (Int × Int)) × Unit) × (Unit × Unit))) : Option (Unit × ((Bool × Unit) × Unit)) := f_slices_ContainsFunc_leap_Row_leap_Row_leap_New_2_m () d
theorem ok_slices_ContainsFunc_leap_Row_leap_Row_leap_New_2 : FnOk Tryz.prog ET0 73 pi_slices_ContainsFunc_leap_Row_leap_Row_leap_New_2 po_slices_ContainsFunc_leap_Row_leap_Row_leap_New_2 g_slices_ContainsFunc_leap_Row_leap_Row_leap_New_2 :=
  fn0 (E := (E0.add 150 (typedSem pi_slices_IndexFunc_leap_Row_leap_Row_leap_New_2 po_slices_IndexFunc_leap_Row_leap_Row_leap_New_2 g_slices_IndexFunc_leap_Row_leap_Row_leap_New_2))) (envOk_add e0_ok (typed_ok ok_slices_IndexFunc_leap_Row_leap_Row_leap_New_2)) (fn := Tryz.f73) Tryz.func73 (by kernel_rfl) (by kernel_rfl) [.tmp 4] (by kernel_rfl) rfl rfl rfl [] fun d => by kernel_rfl

@[reducible] def pi_leap_New : PSh := ⟨[], [.mk false [.v (.sl (.pair (.int .i64) (.int .i64)))], .mk false [vI], .mk false [vI]]⟩
@[reducible] def po_leap_New : PSh := ⟨[], [.mk false [.v (.nptr (.pair (.sl (.pair (.int .i64) (.int .i64))) (.pair (.int .i64) (.int .i64))))], .mk false [vE]]⟩
def f_leap_New_m (T : Unit) (d : Unit × (((List (Int × Int)) × Unit) × ((Int × Unit) × ((Int × Unit) × Unit)))) : Option (Unit × (((Option ((List (Int × Int)) × (Int × Int))) × Unit) × (((Option Int) × Unit) × Unit))) :=
  let x1 : Int := (d.2.1.1.length : Int)
  let x2 : Bool := (x1 == (0 : Int))
  bif x2 then (
  let x3 : (Option Int) := (some (8 : Int))
  some ((), (((none : Option ((List (Int × Int)) × (Int × Int))), ()), ((x3, ()), ()))))
  else (
  let x4 : Int := (d.2.1.1.length : Int)
  let x5 : Bool := (decide (x4 > (256 : Int)))
  bif x5 then (
  let x6 : (Option Int) := (some (3 : Int))
  some ((), (((none : Option ((List (Int × Int)) × (Int × Int))), ()), ((x6, ()), ()))))
  else (
  (g_slices_ContainsFunc_leap_Row_leap_Row_leap_New_1 ((), (d.2.1, ((), ())))).bind fun x7 =>
  bif x7.2.1.1 then (
  let x8 : (Option Int) := (some (13 : Int))
  some ((), (((none : Option ((List (Int × Int)) × (Int × Int))), ()), ((x8, ()), ()))))
  else (
  (g_slices_ContainsFunc_leap_Row_leap_Row_leap_New_2 ((), (d.2.1, ((), ())))).bind fun x9 =>
  bif x9.2.1.1 then (
  let x10 : (Option Int) := (some (1 : Int))
  some ((), (((none : Option ((List (Int × Int)) × (Int × Int))), ()), ((x10, ()), ()))))
  else (
  (g_leap_time ((), (d.2.2.1, ()))).bind fun x11 =>
  let x12 : Bool := (!x11.2.1.1)
  bif x12 then (
  let x13 : (Option Int) := (some (1 : Int))
  some ((), (((none : Option ((List (Int × Int)) × (Int × Int))), ()), ((x13, ()), ()))))
  else (
  (g_leap_time ((), d.2.2.2)).bind fun x14 =>
  let x15 : Bool := (!x14.2.1.1)
  bif x15 then (
  let x16 : (Option Int) := (some (1 : Int))
  some ((), (((none : Option ((List (Int × Int)) × (Int × Int))), ()), ((x16, ()), ()))))
  else (
  (g_leap_rise ((), (d.2.1, ()))).bind fun x17 =>
  let x18 : Bool := (!x17.2.1.1)
  bif x18 then (
  let x19 : (Option Int) := (some (6 : Int))
  some ((), (((none : Option ((List (Int × Int)) × (Int × Int))), ()), ((x19, ()), ()))))
  else (
  (g_slices_Clone_leap_Row_leap_Row ((), (d.2.1, ()))).bind fun x20 =>
  some ((), (((some (x20.1.1, (d.2.2.1.1, d.2.2.2.1.1))), ()), (((none : Option Int), ()), ()))))))))))
def g_leap_New (d : Unit × (((List (Int × Int)) × Unit) × ((Int × Unit) × ((Int × Unit) × Unit)))) : Option (Unit × (((Option ((List (Int × Int)) × (Int × Int))) × Unit) × (((Option Int) × Unit) × Unit))) := f_leap_New_m () d
theorem ok_leap_New : FnOk Tryz.prog ET0 18 pi_leap_New po_leap_New g_leap_New :=
  fn0 (E := ((((E0.add 73 (altSem pi_slices_ContainsFunc_leap_Row_leap_Row_leap_New_1 (typedSem pi_slices_ContainsFunc_leap_Row_leap_Row_leap_New_1 po_slices_ContainsFunc_leap_Row_leap_Row_leap_New_1 g_slices_ContainsFunc_leap_Row_leap_Row_leap_New_1) (typedSem pi_slices_ContainsFunc_leap_Row_leap_Row_leap_New_2 po_slices_ContainsFunc_leap_Row_leap_Row_leap_New_2 g_slices_ContainsFunc_leap_Row_leap_Row_leap_New_2))).add 74 (typedSem pi_leap_time po_leap_time g_leap_time)).add 75 (typedSem pi_leap_rise po_leap_rise g_leap_rise)).add 76 (typedSem pi_slices_Clone_leap_Row_leap_Row po_slices_Clone_leap_Row_leap_Row g_slices_Clone_leap_Row_leap_Row))) (envOk_add (envOk_add (envOk_add (envOk_add e0_ok (alt_ok (typed_ok ok_slices_ContainsFunc_leap_Row_leap_Row_leap_New_1) (typed_ok ok_slices_ContainsFunc_leap_Row_leap_Row_leap_New_2))) (typed_ok ok_leap_time)) (typed_ok ok_leap_rise)) (typed_ok ok_slices_Clone_leap_Row_leap_Row)) (fn := Tryz.f18) Tryz.func18 (by kernel_rfl) (by kernel_rfl) [.tmp 6, .tmp 7] (by kernel_rfl) rfl rfl rfl [] fun d => by kernel_rfl

@[reducible] def pi_label_Split : PSh := ⟨[], [.mk true [vI, vI, vI, vI, vI, vI, vI, vI]]⟩
@[reducible] def po_label_Split : PSh := ⟨[], [.mk false [vI], .mk false [vI], .mk false [vE]]⟩
def f_label_Split_m (T : Unit) (d : Unit × ((Int × (Int × (Int × (Int × (Int × (Int × (Int × (Int × Unit)))))))) × Unit)) : Option (Unit × ((Int × Unit) × ((Int × Unit) × (((Option Int) × Unit) × Unit)))) :=
  (g_label_Check ((), d.2)).bind fun x1 =>
  let x2 : Bool := (!x1.2.1.1.isNone)
  bif x2 then (
  some ((), (((0 : Int), ()), (((0 : Int), ()), x1.2))))
  else (
  (g_label_Label_place ((), d.2)).bind fun x3 =>
  let x4 : Bool := (!x3.2.2.2.1.1.isNone)
  bif x4 then (
  some ((), (((0 : Int), ()), (((0 : Int), ()), x3.2.2.2))))
  else (
  let x5 : Int := (imul .i64 x3.2.2.1.1 (60 : Int))
  let x6 : Int := (iadd .i64 x5 d.2.1.2.2.2.2.2.1)
  some ((), (x3.2.1, ((x6, ()), (((none : Option Int), ()), ()))))))
def g_label_Split (d : Unit × ((Int × (Int × (Int × (Int × (Int × (Int × (Int × (Int × Unit)))))))) × Unit)) : Option (Unit × ((Int × Unit) × ((Int × Unit) × (((Option Int) × Unit) × Unit)))) := f_label_Split_m () d
theorem ok_label_Split : FnOk Tryz.prog ET0 23 pi_label_Split po_label_Split g_label_Split :=
  fn0 (E := ((E0.add 51 (typedSem pi_label_Check po_label_Check g_label_Check)).add 84 (typedSem pi_label_Label_place po_label_Label_place g_label_Label_place))) (envOk_add (envOk_add e0_ok (typed_ok ok_label_Check)) (typed_ok ok_label_Label_place)) (fn := Tryz.f23) Tryz.func23 (by kernel_rfl) (by kernel_rfl) [.tmp 2, .tmp 3, .tmp 4] (by kernel_rfl) rfl rfl rfl [] fun d => by kernel_rfl

@[reducible] def pi_leap_Table_list : PSh := ⟨[], [.mk false [.v (.nptr (.pair (.sl (.pair (.int .i64) (.int .i64))) (.pair (.int .i64) (.int .i64))))]]⟩
@[reducible] def po_leap_Table_list : PSh := ⟨[], [.mk false [.v (.sl (.pair (.int .i64) (.int .i64)))]]⟩
def f_leap_Table_list_m (T : Unit) (d : Unit × (((Option ((List (Int × Int)) × (Int × Int))) × Unit) × Unit)) : Option (Unit × (((List (Int × Int)) × Unit) × Unit)) :=
  bif d.2.1.1.isNone then (
  some ((), ((([] : List (Int × Int)), ()), ())))
  else (
  d.2.1.1.bind fun x1 =>
  some ((), ((x1.1, ()), ())))
def g_leap_Table_list (d : Unit × (((Option ((List (Int × Int)) × (Int × Int))) × Unit) × Unit)) : Option (Unit × (((List (Int × Int)) × Unit) × Unit)) := f_leap_Table_list_m () d
theorem ok_leap_Table_list : FnOk Tryz.prog ET0 209 pi_leap_Table_list po_leap_Table_list g_leap_Table_list :=
  fn0 (E := E0) e0_ok (fn := Tryz.f209) Tryz.func209 (by kernel_rfl) (by kernel_rfl) [.tmp 2] (by kernel_rfl) rfl rfl rfl [] fun d => by kernel_rfl

@[reducible] def pi_leap_Table_Len : PSh := ⟨[], [.mk false [.v (.nptr (.pair (.sl (.pair (.int .i64) (.int .i64))) (.pair (.int .i64) (.int .i64))))]]⟩
@[reducible] def po_leap_Table_Len : PSh := ⟨[], [.mk false [vI]]⟩
def f_leap_Table_Len_m (T : Unit) (d : Unit × (((Option ((List (Int × Int)) × (Int × Int))) × Unit) × Unit)) : Option (Unit × ((Int × Unit) × Unit)) :=
  (g_leap_Table_list ((), d.2)).bind fun x1 =>
  let x2 : Int := (x1.2.1.1.length : Int)
  some ((), ((x2, ()), ()))
def g_leap_Table_Len (d : Unit × (((Option ((List (Int × Int)) × (Int × Int))) × Unit) × Unit)) : Option (Unit × ((Int × Unit) × Unit)) := f_leap_Table_Len_m () d
theorem ok_leap_Table_Len : FnOk Tryz.prog ET0 207 pi_leap_Table_Len po_leap_Table_Len g_leap_Table_Len :=
  fn0 (E := (E0.add 209 (typedSem pi_leap_Table_list po_leap_Table_list g_leap_Table_list))) (envOk_add e0_ok (typed_ok ok_leap_Table_list)) (fn := Tryz.f207) Tryz.func207 (by kernel_rfl) (by kernel_rfl) [.tmp 2] (by kernel_rfl) rfl rfl rfl [] fun d => by kernel_rfl

@[reducible] def pi_leap_Table_Row : PSh := ⟨[], [.mk false [.v (.nptr (.pair (.sl (.pair (.int .i64) (.int .i64))) (.pair (.int .i64) (.int .i64))))], .mk false [vI]]⟩
@[reducible] def po_leap_Table_Row : PSh := ⟨[], [.mk true [vI, vI], .mk false [vB]]⟩
def f_leap_Table_Row_m (T : Unit) (d : Unit × (((Option ((List (Int × Int)) × (Int × Int))) × Unit) × ((Int × Unit) × Unit))) : Option (Unit × ((Int × (Int × Unit)) × ((Bool × Unit) × Unit))) :=
  let x1 : Bool := (decide (d.2.2.1.1 < (0 : Int)))
  bif x1 then (
  some ((), (((0 : Int), ((0 : Int), ())), ((false, ()), ()))))
  else (
  (g_leap_Table_Len ((), (d.2.1, ()))).bind fun x2 =>
  let x3 : Bool := (decide (d.2.2.1.1 ≥ x2.2.1.1))
  bif x3 then (
  some ((), (((0 : Int), ((0 : Int), ())), ((false, ()), ()))))
  else (
  d.2.1.1.bind fun x4 =>
  bif decide ((0 : Int) ≤ d.2.2.1.1) && decide (d.2.2.1.1 < (x4.1.length : Int)) then (
  some ((), (((gd_i64_i64 x4.1 d.2.2.1.1).1, ((gd_i64_i64 x4.1 d.2.2.1.1).2, ())), ((true, ()), ()))))
  else none))
def g_leap_Table_Row (d : Unit × (((Option ((List (Int × Int)) × (Int × Int))) × Unit) × ((Int × Unit) × Unit))) : Option (Unit × ((Int × (Int × Unit)) × ((Bool × Unit) × Unit))) := f_leap_Table_Row_m () d
theorem ok_leap_Table_Row : FnOk Tryz.prog ET0 167 pi_leap_Table_Row po_leap_Table_Row g_leap_Table_Row :=
  fn0 (E := (E0.add 207 (typedSem pi_leap_Table_Len po_leap_Table_Len g_leap_Table_Len))) (envOk_add e0_ok (typed_ok ok_leap_Table_Len)) (fn := Tryz.f167) Tryz.func167 (by kernel_rfl) (by kernel_rfl) [.cell 4 130, .tmp 5] (by kernel_rfl) rfl rfl rfl [] fun d => by kernel_rfl

@[reducible] def pi_leap_Table_behind_1 : PSh := ⟨[], [.mk true [vI, vI], .mk false [vI]]⟩
@[reducible] def po_leap_Table_behind_1 : PSh := ⟨[], [.mk false [vI]]⟩
def f_leap_Table_behind_1_m (T : Unit) (d : Unit × ((Int × (Int × Unit)) × ((Int × Unit) × Unit))) : Option (Unit × ((Int × Unit) × Unit)) :=
  let x1 : Bool := (decide (d.2.1.1 < d.2.2.1.1))
  bif x1 then (
  some ((), (((-1 : Int), ()), ())))
  else (
  let x2 : Bool := (decide (d.2.1.1 > d.2.2.1.1))
  bif x2 then (
  some ((), (((1 : Int), ()), ())))
  else (
  some ((), (((0 : Int), ()), ()))))
def g_leap_Table_behind_1 (d : Unit × ((Int × (Int × Unit)) × ((Int × Unit) × Unit))) : Option (Unit × ((Int × Unit) × Unit)) := f_leap_Table_behind_1_m () d
theorem ok_leap_Table_behind_1 : FnOk Tryz.prog ET0 210 pi_leap_Table_behind_1 po_leap_Table_behind_1 g_leap_Table_behind_1 :=
  fn0 (E := E0) e0_ok (fn := Tryz.f210) Tryz.func210 (by kernel_rfl) (by kernel_rfl) [.tmp 4] (by kernel_rfl) rfl rfl rfl [] fun d => by kernel_rfl

@[reducible] def pi_slices_BinarySearchFunc_leap_Row_leap_Row_i64_leap_Table_behind_1 : PSh := ⟨[], [.mk false [.v (.sl (.pair (.int .i64) (.int .i64)))], .mk false [vI], .mk false [.fn 210 []]]⟩
@[reducible] def po_slices_BinarySearchFunc_leap_Row_leap_Row_i64_leap_Table_behind_1 : PSh := ⟨[], [.mk false [vI], .mk false [vB]]⟩
@[reducible] def TT_slices_BinarySearchFunc_leap_Row_leap_Row_i64_leap_Table_behind_1 : Type := (((Unit × (((List (Int × Int)) × Unit) × ((Int × Unit) × (Unit × ((Int × Unit) × ((Int × Unit) × ((Int × Unit) × Unit))))))) → Option (Unit × ((Int × Unit) × ((Bool × Unit) × Unit)))) × Unit)
@[reducible] def sh_slices_BinarySearchFunc_leap_Row_leap_Row_i64_leap_Table_behind_1_4 : PSh := ⟨[], [.mk false [.v (.sl (.pair (.int .i64) (.int .i64)))], .mk false [vI], .mk false [.fn 210 []], .any, .any, .any, .any, .any, .mk false [vI], .mk false [vI], .mk false [vI], .any, .any, .any, .any, .any, .any, .any, .any, .any, .any, .any, .any, .any, .any, .any, .any, .any, .any, .any, .any, .any, .any, .any, .any, .any, .any, .any, .any, .any, .any, .any, .any, .any, .any, .any, .any, .any, .any]⟩
def f_slices_BinarySearchFunc_leap_Row_leap_Row_i64_leap_Table_behind_1_p4 (T : TT_slices_BinarySearchFunc_leap_Row_leap_Row_i64_leap_Table_behind_1) (d : Unit × (((List (Int × Int)) × Unit) × ((Int × Unit) × (Unit × ((Int × Unit) × ((Int × Unit) × ((Int × Unit) × Unit))))))) : Option (Unit × ((Int × Unit) × ((Bool × Unit) × Unit))) :=
  let x2 : Bool := (decide (d.2.2.2.2.2.1.1 < d.2.2.2.2.2.2.1.1))
  bif x2 then (
  let x3 : Int := (iadd .i64 d.2.2.2.2.2.1.1 d.2.2.2.2.2.2.1.1)
  let x4 : Int := (iconv .u64 x3)
  let x5 : Int := (ishr .u64 x4 (1 : Int))
  let x6 : Int := (iconv .i64 x5)
  bif decide ((0 : Int) ≤ x6) && decide (x6 < (d.2.1.1.length : Int)) then (
  (g_leap_Table_behind_1 ((), (((gd_i64_i64 d.2.1.1 x6).1, ((gd_i64_i64 d.2.1.1 x6).2, ())), (d.2.2.1, ())))).bind fun x7 =>
  let x8 : Bool := (decide (x7.2.1.1 < (0 : Int)))
  bif x8 then (
  let x9 : Int := (iadd .i64 x6 (1 : Int))
  (T.1 ((), (d.2.1, (d.2.2.1, ((), (d.2.2.2.2.1, ((x9, ()), d.2.2.2.2.2.2))))))))
  else (
  (T.1 ((), (d.2.1, (d.2.2.1, ((), (d.2.2.2.2.1, (d.2.2.2.2.2.1, ((x6, ()), ()))))))))))
  else none)
  else (
  let x10 : Bool := (decide (d.2.2.2.2.2.1.1 < d.2.2.2.2.1.1))
  bif x10 then (
  bif decide ((0 : Int) ≤ d.2.2.2.2.2.1.1) && decide (d.2.2.2.2.2.1.1 < (d.2.1.1.length : Int)) then (
  (g_leap_Table_behind_1 ((), (((gd_i64_i64 d.2.1.1 d.2.2.2.2.2.1.1).1, ((gd_i64_i64 d.2.1.1 d.2.2.2.2.2.1.1).2, ())), (d.2.2.1, ())))).bind fun x11 =>
  let x12 : Bool := (x11.2.1.1 == (0 : Int))
  some ((), (d.2.2.2.2.2.1, ((x12, ()), ()))))
  else none)
  else (
  some ((), (d.2.2.2.2.2.1, ((false, ()), ())))))
def f_slices_BinarySearchFunc_leap_Row_leap_Row_i64_leap_Table_behind_1_t : Nat → TT_slices_BinarySearchFunc_leap_Row_leap_Row_i64_leap_Table_behind_1
  | 0 => (fun _ => none, ())
  | k + 1 => (f_slices_BinarySearchFunc_leap_Row_leap_Row_i64_leap_Table_behind_1_p4 (f_slices_BinarySearchFunc_leap_Row_leap_Row_i64_leap_Table_behind_1_t k), ())
theorem t_slices_BinarySearchFunc_leap_Row_leap_Row_i64_leap_Table_behind_1 (k : Nat) : f_slices_BinarySearchFunc_leap_Row_leap_Row_i64_leap_Table_behind_1_t (k + 1) = (f_slices_BinarySearchFunc_leap_Row_leap_Row_i64_leap_Table_behind_1_p4 (f_slices_BinarySearchFunc_leap_Row_leap_Row_i64_leap_Table_behind_1_t k), ()) := rfl
def f_slices_BinarySearchFunc_leap_Row_leap_Row_i64_leap_Table_behind_1_m (T : TT_slices_BinarySearchFunc_leap_Row_leap_Row_i64_leap_Table_behind_1) (d : Unit × (((List (Int × Int)) × Unit) × ((Int × Unit) × (Unit × Unit)))) : Option (Unit × ((Int × Unit) × ((Bool × Unit) × Unit))) :=
  let x1 : Int := (d.2.1.1.length : Int)
  (T.1 ((), (d.2.1, (d.2.2.1, ((), ((x1, ()), (((0 : Int), ()), ((x1, ()), ()))))))))
def c_slices_BinarySearchFunc_leap_Row_leap_Row_i64_leap_Table_behind_1 : List Nat := []
def L_slices_BinarySearchFunc_leap_Row_leap_Row_i64_leap_Table_behind_1 (k : Nat) : Pts po_slices_BinarySearchFunc_leap_Row_leap_Row_i64_leap_Table_behind_1.den := [(4, ⟨sh_slices_BinarySearchFunc_leap_Row_leap_Row_i64_leap_Table_behind_1_4, (f_slices_BinarySearchFunc_leap_Row_leap_Row_i64_leap_Table_behind_1_t k).1⟩)]
def R_slices_BinarySearchFunc_leap_Row_leap_Row_i64_leap_Table_behind_1 (_ : Nat) : PtsR po_slices_BinarySearchFunc_leap_Row_leap_Row_i64_leap_Table_behind_1.den := []
def E_slices_BinarySearchFunc_leap_Row_leap_Row_i64_leap_Table_behind_1 : Env := (E0.add 210 (typedSem pi_leap_Table_behind_1 po_leap_Table_behind_1 g_leap_Table_behind_1))
theorem q_slices_BinarySearchFunc_leap_Row_leap_Row_i64_leap_Table_behind_1_4 (k : Nat) (d : sh_slices_BinarySearchFunc_leap_Row_leap_Row_i64_leap_Table_behind_1_4.den) : evAt E_slices_BinarySearchFunc_leap_Row_leap_Row_i64_leap_Table_behind_1 (tb (L_slices_BinarySearchFunc_leap_Row_leap_Row_i64_leap_Table_behind_1 k) (R_slices_BinarySearchFunc_leap_Row_leap_Row_i64_leap_Table_behind_1 k)) c_slices_BinarySearchFunc_leap_Row_leap_Row_i64_leap_Table_behind_1 4 (bodyOf Tryz.f208) 0 (finK E_slices_BinarySearchFunc_leap_Row_leap_Row_i64_leap_Table_behind_1 po_slices_BinarySearchFunc_leap_Row_leap_Row_i64_leap_Table_behind_1 [.tmp 6, .tmp 7]) (ptSt sh_slices_BinarySearchFunc_leap_Row_leap_Row_i64_leap_Table_behind_1_4 d) = f_slices_BinarySearchFunc_leap_Row_leap_Row_i64_leap_Table_behind_1_p4 (f_slices_BinarySearchFunc_leap_Row_leap_Row_i64_leap_Table_behind_1_t k) d := by kernel_rfl
theorem q_slices_BinarySearchFunc_leap_Row_leap_Row_i64_leap_Table_behind_1_m (k : Nat) (d : pi_slices_BinarySearchFunc_leap_Row_leap_Row_i64_leap_Table_behind_1.den) : evCode E_slices_BinarySearchFunc_leap_Row_leap_Row_i64_leap_Table_behind_1 (tb (L_slices_BinarySearchFunc_leap_Row_leap_Row_i64_leap_Table_behind_1 k) (R_slices_BinarySearchFunc_leap_Row_leap_Row_i64_leap_Table_behind_1 k)) c_slices_BinarySearchFunc_leap_Row_leap_Row_i64_leap_Table_behind_1 (bodyOf Tryz.f208) 0 (finK E_slices_BinarySearchFunc_leap_Row_leap_Row_i64_leap_Table_behind_1 po_slices_BinarySearchFunc_leap_Row_leap_Row_i64_leap_Table_behind_1 [.tmp 6, .tmp 7]) (startSt pi_slices_BinarySearchFunc_leap_Row_leap_Row_i64_leap_Table_behind_1 49 d) = f_slices_BinarySearchFunc_leap_Row_leap_Row_i64_leap_Table_behind_1_m (f_slices_BinarySearchFunc_leap_Row_leap_Row_i64_leap_Table_behind_1_t k) d := by kernel_rfl
def g_slices_BinarySearchFunc_leap_Row_leap_Row_i64_leap_Table_behind_1 (d : Unit × (((List (Int × Int)) × Unit) × ((Int × Unit) × (Unit × Unit)))) : Option (Unit × ((Int × Unit) × ((Bool × Unit) × Unit))) := lim fun k => f_slices_BinarySearchFunc_leap_Row_leap_Row_i64_leap_Table_behind_1_m (f_slices_BinarySearchFunc_leap_Row_leap_Row_i64_leap_Table_behind_1_t k) d
theorem ok_slices_BinarySearchFunc_leap_Row_leap_Row_i64_leap_Table_behind_1 : FnOk Tryz.prog ET0 208 pi_slices_BinarySearchFunc_leap_Row_leap_Row_i64_leap_Table_behind_1 po_slices_BinarySearchFunc_leap_Row_leap_Row_i64_leap_Table_behind_1 g_slices_BinarySearchFunc_leap_Row_leap_Row_i64_leap_Table_behind_1 :=
  fn_of_body (E := E_slices_BinarySearchFunc_leap_Row_leap_Row_i64_leap_Table_behind_1) (envOk_add e0_ok (typed_ok ok_leap_Table_behind_1)) (fn := Tryz.f208) Tryz.func208 (by kernel_rfl) (by kernel_rfl) [.tmp 6, .tmp 7] (by kernel_rfl) (by kernel_rfl) (by decide) rfl c_slices_BinarySearchFunc_leap_Row_leap_Row_i64_leap_Table_behind_1 L_slices_BinarySearchFunc_leap_Row_leap_Row_i64_leap_Table_behind_1 R_slices_BinarySearchFunc_leap_Row_leap_Row_i64_leap_Table_behind_1
    (by intro x hx d; simp only [L_slices_BinarySearchFunc_leap_Row_leap_Row_i64_leap_Table_behind_1, List.mem_cons, List.not_mem_nil, or_false] at hx; subst hx; rfl)
    (by intro k x hx d out h; simp only [L_slices_BinarySearchFunc_leap_Row_leap_Row_i64_leap_Table_behind_1, List.mem_cons, List.not_mem_nil, or_false] at hx; subst hx; exact (q_slices_BinarySearchFunc_leap_Row_leap_Row_i64_leap_Table_behind_1_4 k d).trans h)
    (by intro x hx; cases hx)
    (by intro k x hx; cases hx)
    (by intro d out h; obtain ⟨k, hk⟩ := lim_some h; exact ⟨k, (q_slices_BinarySearchFunc_leap_Row_leap_Row_i64_leap_Table_behind_1_m k d).trans hk⟩)

@[reducible] def pi_leap_Table_behind : PSh := ⟨[], [.mk false [.v (.nptr (.pair (.sl (.pair (.int .i64) (.int .i64))) (.pair (.int .i64) (.int .i64))))], .mk false [vI]]⟩
@[reducible] def po_leap_Table_behind : PSh := ⟨[], [.mk false [vI]]⟩
def f_leap_Table_behind_m (T : Unit) (d : Unit × (((Option ((List (Int × Int)) × (Int × Int))) × Unit) × ((Int × Unit) × Unit))) : Option (Unit × ((Int × Unit) × Unit)) :=
  (g_leap_Table_list ((), (d.2.1, ()))).bind fun x1 =>
  (g_slices_BinarySearchFunc_leap_Row_leap_Row_i64_leap_Table_behind_1 ((), (x1.2.1, (d.2.2.1, ((), ()))))).bind fun x2 =>
  bif x2.2.2.1.1 then (
  let x3 : Int := (iadd .i64 x2.2.1.1 (1 : Int))
  some ((), ((x3, ()), ())))
  else (
  some ((), (x2.2.1, ())))
def g_leap_Table_behind (d : Unit × (((Option ((List (Int × Int)) × (Int × Int))) × Unit) × ((Int × Unit) × Unit))) : Option (Unit × ((Int × Unit) × Unit)) := f_leap_Table_behind_m () d
theorem ok_leap_Table_behind : FnOk Tryz.prog ET0 168 pi_leap_Table_behind po_leap_Table_behind g_leap_Table_behind :=
  fn0 (E := ((E0.add 208 (typedSem pi_slices_BinarySearchFunc_leap_Row_leap_Row_i64_leap_Table_behind_1 po_slices_BinarySearchFunc_leap_Row_leap_Row_i64_leap_Table_behind_1 g_slices_BinarySearchFunc_leap_Row_leap_Row_i64_leap_Table_behind_1)).add 209 (typedSem pi_leap_Table_list po_leap_Table_list g_leap_Table_list))) (envOk_add (envOk_add e0_ok (typed_ok ok_slices_BinarySearchFunc_leap_Row_leap_Row_i64_leap_Table_behind_1)) (typed_ok ok_leap_Table_list)) (fn := Tryz.f168) Tryz.func168 (by kernel_rfl) (by kernel_rfl) [.tmp 4] (by kernel_rfl) rfl rfl rfl [] fun d => by kernel_rfl

@[reducible] def pi_leap_Table_change : PSh := ⟨[], [.mk false [.v (.nptr (.pair (.sl (.pair (.int .i64) (.int .i64))) (.pair (.int .i64) (.int .i64))))], .mk false [vI]]⟩
@[reducible] def po_leap_Table_change : PSh := ⟨[], [.mk false [vI]]⟩
def f_leap_Table_change_m (T : Unit) (d : Unit × (((Option ((List (Int × Int)) × (Int × Int))) × Unit) × ((Int × Unit) × Unit))) : Option (Unit × ((Int × Unit) × Unit)) :=
  let x1 : Int := (isub .i64 d.2.2.1.1 (1 : Int))
  (g_leap_Table_Row ((), (d.2.1, ((x1, ()), ())))).bind fun x2 =>
  let x3 : Bool := (!x2.2.2.1.1)
  bif x3 then (
  some ((), (((0 : Int), ()), ())))
  else (
  d.2.1.1.bind fun x4 =>
  bif decide ((0 : Int) ≤ d.2.2.1.1) && decide (d.2.2.1.1 < (x4.1.length : Int)) then (
  let x5 : Int := (isub .i64 (gd_i64_i64 x4.1 d.2.2.1.1).2 x2.2.1.2.1)
  some ((), ((x5, ()), ())))
  else none)
def g_leap_Table_change (d : Unit × (((Option ((List (Int × Int)) × (Int × Int))) × Unit) × ((Int × Unit) × Unit))) : Option (Unit × ((Int × Unit) × Unit)) := f_leap_Table_change_m () d
theorem ok_leap_Table_change : FnOk Tryz.prog ET0 225 pi_leap_Table_change po_leap_Table_change g_leap_Table_change :=
  fn0 (E := (E0.add 167 (typedSem pi_leap_Table_Row po_leap_Table_Row g_leap_Table_Row))) (envOk_add e0_ok (typed_ok ok_leap_Table_Row)) (fn := Tryz.f225) Tryz.func225 (by kernel_rfl) (by kernel_rfl) [.tmp 4] (by kernel_rfl) rfl rfl rfl [] fun d => by kernel_rfl
end
end Go.Proofs.YtddnfappkfiidaaGreat.Ev
